/- Parts of the proofs of laws. Texts: BoolL, NetVars, SetOf, R03, R03W, R03A, Node1, Node2, VarsOf, Decomp, VarsM, BldL, NetL, RedL, RedT. -/
import Derived.Test.YtlleofjjdhfgcaaGreatDoorYA3
set_option maxHeartbeats 8000000
set_option maxRecDepth 100000
set_option linter.all false
namespace Go.Proofs.YtlleofjjdhfgcaaGreatDoor
open Go.RowKit Cen
def bc (b : Bool) : List Value := [.bool b]
end Go.Proofs.YtlleofjjdhfgcaaGreatDoor
namespace Cen
def ofL (xs : List Int) : St := xs.foldl St.add St.zero
theorem zvm (xs : List Int) : (ofL xs).ok := by
 have : ∀ s : St, s.ok -> (xs.foldl St.add s).ok := by
  induction xs with
  | nil => intro s h; exact h
  | cons x xs ih => intro s h; exact ih _ (St.add_ok h x)
 exact this _ St.zero_ok
def insU (vs : List St) (s : St) (ins : List Int) : St := ins.foldl (fun s k => s.union (vs.getD k.toNat St.zero)) s
def zcn : List Nd -> List St -> List St
 | [], vs => vs
 | x :: l, vs => zcn l (vs ++ [insU vs (ofL [zac x.lit]) x.ins])
def zau (l : List Nd) : List St := zcn l []
theorem zdu (l r : List Nd) (vs : List St) : zcn (l ++ r) vs = zcn r (zcn l vs) := by
 induction l generalizing vs with
 | nil => rfl
 | cons y l ih => simp only [List.cons_append, zcn]; exact ih _
theorem zhh (l : List Nd) (x : Nd) : zau (l ++ [x]) = zau l ++ [insU (zau l) (ofL [zac x.lit]) x.ins] := zdu l [x] []
theorem zkp (l : List Nd) (vs : List St) : (zcn l vs).length = vs.length + l.length := by
 induction l generalizing vs with
 | nil => rfl
 | cons y l ih => simp only [zcn, ih]; simp; omega
theorem zba (l : List Nd) : (zau l).length = l.length := by simp [zau, zkp]
theorem zu2 {vs : List St} (hv : ∀ s ∈ vs, s.ok) (ins : List Int) : ∀ {s : St}, s.ok -> (insU vs s ins).ok := by
 induction ins with
 | nil => intro s h; exact h
 | cons k ins ih =>
   intro s h;refine ih (s := s.union (vs.getD k.toNat St.zero)) (St.union_ok h ?_)
   by_cases hk : k.toNat < vs.length
   ·simp only [List.getD_eq_getElem?_getD, List.getElem?_eq_getElem hk]; exact hv _ (List.getElem_mem hk)
   simp only [List.getD_eq_getElem?_getD, List.getElem?_eq_none (Nat.le_of_not_lt hk)]; exact St.zero_ok
theorem ztd (l : List Nd) : ∀ {vs : List St}, (∀ s ∈ vs, s.ok) -> ∀ s ∈ zcn l vs, s.ok := by
 induction l with
 | nil => intro vs h; exact h
 | cons y l ih =>
   intro vs h
   refine ih fun s hs => ?_
   rcases List.mem_append.1 hs with h1 | h1
   ·exact h s h1
   simp at h1; subst h1; exact zu2 h _ (zvm _)
theorem zfe (l : List Nd) : ∀ s ∈ zau l, s.ok := ztd l (by simp)
theorem zu3 (vs : List St) (s : St) (ins : List Int) (k : Int) : insU vs s (ins ++ [k]) = (insU vs s ins).union (vs.getD k.toNat St.zero) := by simp [insU]
def sepF (vs : List St) : St -> List Int -> Bool
 | _, [] => true
 | s, k :: r => if s.cut (vs.getD k.toNat St.zero) = St.zero then sepF vs (s.union (vs.getD k.toNat St.zero)) r else false
def zst (vs : List St) (x : Nd) : Bool := decide (x.kind ≠ 3) || sepF vs St.zero x.ins
def decL (l : List Nd) : Bool := l.all (zst (zau l))
theorem zud {l : List Nd} (h : ∀ j, j < l.length -> zst (zau l) (l.getD j default) = true) : decL l = true := by
 rw [decL, List.all_eq_true];intro x hx;obtain ⟨j, hj, rfl⟩ := List.getElem_of_mem hx;have := h j hj
 simpa [List.getD_eq_getElem?_getD, hj] using this
end Cen
namespace Go.Proofs.YtlleofjjdhfgcaaGreatDoor
open Go.RowKit Cen
abbrev sts (s : St) : Array Value := #[.int .u64 (s.a : Int), .int .u64 (s.b : Int)]
theorem Blk.putSet {w : World} {b : Nat} {s : St} (h : Blk w b (sts s) 40) (t : St) :
 Blk ((w.setCell ⟨b, 0, none⟩ (.int .u64 (t.a : Int))).setCell ⟨b, 1, none⟩ (.int .u64 (t.b : Int))) b (sts t) 40 := (h.set 0 _).set 1 _
theorem Blk.sc {w : World} {b : Nat} {s : St} {t : TypeId} (h : Blk w b (sts s) t) :
 w.cell? ⟨b, 0, none⟩ = some (.int .u64 (s.a : Int)) /\ w.cell? ⟨b, 1, none⟩ = some (.int .u64 (s.b : Int)) /\ w.frozen? ⟨b, 0, none⟩ = false /\ w.frozen? ⟨b, 1, none⟩ = false :=
 ⟨h.cell 0, h.cell 1, h.fr 0, h.fr 1⟩
theorem zci {w w' : World} (h : Below w.drew.heap.size w.drew w') : Below w.heap.size w w' := (Below.refl w.heap.size w).drew.trans (h.mono (Nat.le_refl w.heap.size))
theorem Blk.drewCall {w w' : World} {b : Nat} {s : St} {t : TypeId} (h : Blk w b (sts s) t) (hb : Below w.drew.heap.size w.drew w') :
 w'.cell? ⟨b, 0, none⟩ = some (.int .u64 (s.a : Int)) /\ w'.cell? ⟨b, 1, none⟩ = some (.int .u64 (s.b : Int)) /\ w'.frozen? ⟨b, 0, none⟩ = false /\ w'.frozen? ⟨b, 1, none⟩ = false :=
 (h.later (zci hb)).sc
theorem zoo (a : Option Addr) (cap : Nat) (xs : List Int) (w : World) (hl : xs.length <= 1073741824) (hx : IntCells w a xs) :
 Calls Tryz.prog 79 #[.slice a xs.length cap] w fun e w' => e = .returned (stv (ofL xs)) /\ Below w.heap.size w w' := by
 have HX := lh hx;clear hx;go_enter Tryz.func79, Tryz.ntmps79;go_wp2
 go_loopw [8] (fun i wr => ∃ k : Nat, k <= xs.length /\ i = .int .i64 k /\ Blk wr (w.heap.size + 1) (sts (ofL (xs.take k))) 40 /\ Blk wr w.heap.size (sts St.zero) 40 /\ Below w.heap.size w wr) (fun i _ => xs.length - (intOf i).toNat)
 case atStart => exact ⟨0, Nat.zero_le _, rfl, Blk.new' (w.alloc _) (by simp) (sts St.zero) 40, (Blk.new w _ _).alloc _, (ba _ _).alloc (by simp) _⟩
 obtain ⟨k, hk, rfl, hs, hz, hbel⟩ := hrel;obtain ⟨c0, c1, f0, f1⟩ := hs.sc;obtain ⟨d0, d1, e0, e1⟩ := hz.sc;have HS := lh hs;have HZ := lh hz;have HB := lh hbel;have HOK := lh (zvm (xs.take k));clear hs hz hbel
 by_cases hlt : k < xs.length
 ·obtain ⟨b, off, rfl, hc0⟩ := HX.o k hlt;have hc := zab HB.o hc0;clear hc0;generalize hxe : xs.getD k 0 = x at hc
  have HXE : Hid (ofL (xs.take (k + 1)) = (ofL (xs.take k)).add x) := by
   show _ = _; rw [List.take_succ_eq_append_getElem hlt]; unfold ofL; rw [List.foldl_append]; rw [<- hxe]; simp [List.getD_eq_getElem?_getD, hlt]
  clear hxe;generalize ofL (xs.take k) = s at *;go_wp2_with fail;refine (zgs s x _ HOK.o).mono ?_;rintro e w1 ⟨rfl, hb1⟩;have hs1 := HS.o.later hb1;have hz1 := HZ.o.later hb1;obtain ⟨g0, g1, k0, k1⟩ := hs1.sc;have HS1 := lh hs1;have HZ1 := lh hz1;have HB1 := lh hb1;clear hs1 hz1 hb1;go_wp2;go_roundw
  case rel => 
   refine ⟨k + 1, by omega, by go_num, ?_, ?_, ?_⟩
   ·rw [HXE.o]; exact HS1.o.putSet _
   ·exact (HZ1.o.other _ _ (by simp)).other _ _ (by simp)
   exact ((HB.o.trans (HB1.o.mono HB.o.size)).setCell (by simp) _).setCell (by simp) _
  case measure => simp [intOf]; omega
 have : k = xs.length := by omega
 subst this;rw [List.take_length] at *;go_wp2;exact bodyPost_ret (v := stv (ofL xs)) (by simp [results, Tryz.results79, go_sem, d0, d1]) rfl ⟨rfl, (HB.o.setCell (Nat.le_refl _) _).setCell (Nat.le_refl _) _⟩
def setB (f : Nat -> Bool) : Nat -> St
 | 0 => St.zero
 | k + 1 => if f (k + 1) then (setB f k).add ((k : Int) + 1) else setB f k
theorem zfw (f : Nat -> Bool) : ∀ k, (setB f k).ok
 | 0 => St.zero_ok
 | k + 1 => by unfold setB; split; exact St.add_ok (zfw f k) _; exact zfw f k
theorem zig (f : Nat -> Bool) : ∀ (k : Nat) (v : Int), k <= 128 -> (setB f k).mem v = (decide (1 <= v) && (decide (v <= k) && f v.toNat))
 | 0, v, _ => by
   rw [setB, St.mem_zero]
   by_cases h : 1 <= v
   ·rw [decide_eq_false (show ¬ v <= ((0 : Nat) : Int) by omega)]; simp
   rw [decide_eq_false h]; simp
 | k + 1, v, hk => by
   have ih := zig f k v (by omega)
   by_cases e : v = (k : Int) + 1
   ·have e2 : v.toNat = k + 1 := by omega
    rw [decide_eq_true (show 1 <= v by omega), decide_eq_true (show v <= ((k + 1 : Nat) : Int) by omega), e2];rw [decide_eq_false (show ¬ v <= (k : Int) by omega)] at ih
    show (if f (k + 1) then (setB f k).add ((k : Int) + 1) else setB f k).mem v = _
    cases hf : f (k + 1) with
    | false => simp only [Bool.false_eq_true, if_false]; rw [ih]; simp
    | true => simp only [if_true]; rw [St.mem_add, e, decide_eq_true (show (1 : Int) <= (k : Int) + 1 by omega), decide_eq_true (show (k : Int) + 1 <= 128 by omega)]; simp
   have e3 : decide (v <= ((k + 1 : Nat) : Int)) = decide (v <= (k : Int)) := by rw [Bool.eq_iff_iff, decide_eq_true_iff, decide_eq_true_iff]; omega
   rw [e3, <- ih]
   show (if f (k + 1) then (setB f k).add ((k : Int) + 1) else setB f k).mem v = _
   split
   ·rw [St.mem_add, decide_eq_false e]; simp
   rfl
theorem zon (f : Nat -> Bool) {v : Int} (h1 : 1 <= v) : setB f v.toNat = if f v.toNat then (setB f (v.toNat - 1)).add v else setB f (v.toNat - 1) := by
 obtain ⟨k, rfl⟩ : ∃ k : Nat, v = (k : Int) + 1 := ⟨(v - 1).toNat, by omega⟩
 rw [show ((k : Int) + 1).toNat = k + 1 by omega]; rfl
def bl (ys : List Int) : List Bool := (List.range 129).map fun j : Nat => decide (1 <= j) && ys.contains (j : Int)
def zbq (n : Int) : St := setB (fun j : Nat => decide ((j : Int) <= n)) 128
theorem zdo (n : Int) : (zbq n).ok := zfw _ _
theorem zdc (n v : Int) : (zbq n).mem v = (decide (1 <= v) && (decide (v <= 128) && decide (v <= n))) := by
 unfold zbq;rw [zig _ _ _ (Nat.le_refl _)]
 by_cases h : 1 <= v
 ·rw [show ((v.toNat : Nat) : Int) = v by omega]; rfl
 rw [decide_eq_false h]; rfl
theorem zu1 (ins : List Int) (b : Int) : zeg ins b = !(ins.any fun i => decide (i < 0) || decide (b <= i)) := by
 rw [zeg, List.not_any_eq_all_not]
 congr 1; funext i
 rw [Bool.eq_iff_iff]; simp
theorem zsk (kind lit n before : Int) (a : Option Addr) (cap : Nat) (ins : List Int) (w : World) (hl : ins.length <= 1073741824) (hx : IntCells w a ins) :
 Calls Tryz.prog 115 #[.agg #[.int .i64 kind, .int .i64 lit, .slice a ins.length cap], .int .i64 n, .int .i64 before] w
  fun e w' => e = .returned (.bool (ndOk ⟨kind, lit, ins⟩ n before)) /\ Below w.heap.size w w' := by
 have HI := lh (zu1 ins before);have HX := lh hx
 have HE : Hid (((ins.length : Int) == 0) = decide (ins = [])) := by show _ = _; rw [Bool.eq_iff_iff]; simp
 have HF := fun (e : Bool) (h : (ins.any fun i => decide (i < 0) || decide (before <= i)) = e) =>
  fun (W : World) (hb : Below w.heap.size w W) (q : Addr) (hq : W.cell? q = some (.int .i64 before)) =>
   (zcz a cap ins 152 #[.pointer (some q)] (fun i => decide (i < 0) || decide (before <= i)) W hl (hx.keep hb)
     (fun x _ => zpm x before q W hq) zh1).mono (R' := fun E w' => E = .returned (.bool e) /\ W = w') (fun E w' ⟨h1, h2⟩ => ⟨by rw [h1, h], h2⟩)
 clear hx
 have hB : Below w.heap.size w ((w.alloc (.cells #[.int .i64 kind, .int .i64 lit, .slice a ins.length cap] 147)).alloc (.cells #[.int .i64 before] 3)) :=
  (ba _ _).alloc (by simp) _
 have HB := lh hB;clear hB
 have HQ : Hid (((w.alloc (.cells #[.int .i64 kind, .int .i64 lit, .slice a ins.length cap] 147)).alloc (.cells #[.int .i64 before] 3)).cell? ⟨w.heap.size + 1, 0, none⟩ = some (.int .i64 before)) := by
  show _ = _
  rw [World.cell?_alloc_at _ _ _ _ (by simp)]; rfl
 cases hany : (ins.any fun i => decide (i < 0) || decide (before <= i))
 ·have H2 := lh (HF false hany)
  have hr : ndOk ⟨kind, lit, ins⟩ n before = zch ⟨kind, lit, ins⟩ n := by simp [ndOk, HI.o, hany]
  rw [hr]; clear hr hany HF
  by_cases k2 : kind = 2
  ·subst k2
   cases hv : zbn lit n
   all_goals
    have H3 := lh (fun W => (zcs lit n W).mono (R' := fun E w' => E = .returned (.bool _) /\ W = w') (fun E w' ⟨h1, h2⟩ => ⟨by rw [h1, hv], h2⟩));have HV := lh hv;clear hv;go_enter Tryz.func115, Tryz.ntmps115;go_wp2_with (first | (go_at_call 100; refine (H2.o _ HB.o _ HQ.o).mono ?_; rintro e w' ⟨rfl, rfl⟩) | (go_at_call 64; refine (H3.o _).mono ?_; rintro e w' ⟨rfl, rfl⟩));go_ret;exact ⟨zbg (by simp [zch, HV.o]; try exact HE.o), HB.o⟩
  have hk2 : (kind == 2) = false := by simpa using k2
  by_cases k0 : kind = 0 \/ kind = 1 \/ kind = 3 \/ kind = 4
  ·by_cases l0 : lit = 0
   ·subst l0
    rcases k0 with rfl | rfl | rfl | rfl
    all_goals
     clear k2 hk2;go_enter Tryz.func115, Tryz.ntmps115;go_wp2_with (go_at_call 100; refine (H2.o _ HB.o _ HQ.o).mono ?_; rintro e w' ⟨rfl, rfl⟩);go_ret;exact ⟨zbg (by simp [zch]; try exact HE.o), HB.o⟩
   have hl0 : (lit == 0) = false := by simpa using l0
   rcases k0 with rfl | rfl | rfl | rfl
   all_goals
    clear k2 hk2 l0;go_enter Tryz.func115, Tryz.ntmps115;go_wp2_with (go_at_call 100; refine (H2.o _ HB.o _ HQ.o).mono ?_; rintro e w' ⟨rfl, rfl⟩);go_ret;exact ⟨zbg (by simp [zch]; intro h; simp [h] at hl0), HB.o⟩
  have h0 : (kind == 0) = false := by simp; omega
  have h1 : (kind == 1) = false := by simp; omega
  have h3 : (kind == 3) = false := by simp; omega
  have h4 : (kind == 4) = false := by simp; omega
  have hr : zch ⟨kind, lit, ins⟩ n = false := by
   unfold zch; simp only; rw [if_neg (by omega), if_neg (by omega), if_neg (by omega)]
  rw [hr];clear k2 k0 hr;go_enter Tryz.func115, Tryz.ntmps115;go_wp2_with (go_at_call 100; refine (H2.o _ HB.o _ HQ.o).mono ?_; rintro e w' ⟨rfl, rfl⟩);go_ret;exact ⟨rfl, HB.o⟩
 have H2 := lh (HF true hany)
 have hr : ndOk ⟨kind, lit, ins⟩ n before = false := by simp [ndOk, HI.o, hany]
 rw [hr]; clear hr hany HF;go_enter Tryz.func115, Tryz.ntmps115;go_wp2_with (go_at_call 100; refine (H2.o _ HB.o _ HQ.o).mono ?_; rintro e w' ⟨rfl, rfl⟩);go_ret;exact ⟨rfl, HB.o⟩
def chk (t : Nt) : Int := if zcv t then 0 else 1
theorem yah {t : Nt} (h : zf7 t = false) : chk t = 1 := by simp [chk, zcv, h]
theorem zwz {t : Nt} {k : Nat} (hk : k < t.l.length) (h : ndOk (t.l.getD k default) t.n k = false) : chk t = 1 := by
 have : zcv t = false := by
  rw [Bool.eq_false_iff]; intro h'
  simp [zcv] at h'
  have := h'.2 k hk;rw [h] at this; exact absurd this (by simp)
 simp [chk, this]
theorem zwy {t : Nt} (h : zf7 t = true) (h' : zds t.l t.n t.l.length) : chk t = 0 := by simp [chk, zcv, h, h']
theorem zt1 (n : Int) (a : Option Addr) (cap : Nat) (l : List Nd) (w : World) (hl : l.length <= 1073741824) (hx : NdCells w a l) :
 Calls Tryz.prog 78 #[.agg #[.int .i64 n, .slice a l.length cap]] w fun e w' => e = .returned (.int .i64 (chk ⟨n, l⟩)) /\ Below w.heap.size w w' := by
 have HB := lh ((Below.refl w.heap.size w).alloc (Nat.le_refl _) (.cells #[.int .i64 n, .slice a l.length cap] 82))
 by_cases hh : zf7 ⟨n, l⟩ = true
 ·have HH := lh hh
  simp [zf7] at hh
  obtain ⟨⟨⟨h1, h2⟩, h3⟩, h4⟩ := hh
  have h1' : decide (n < 0) = false := by simp; omega
  have h2' : decide (128 < n) = false := by simp; omega
  have h3' : decide ((l.length : Int) < 1) = false := by simp; omega
  have h4' : decide ((65536 : Int) < (l.length : Int)) = false := by simp; omega
  have HX := lh hx;clear hx;go_enter Tryz.func78, Tryz.ntmps78;go_wp2
  go_loopw [28] (fun i wr => ∃ k : Nat, k <= l.length /\ i = .int .i64 k /\ zds l n k /\ Below (w.heap.size + 1) (w.alloc (.cells #[.int .i64 n, .slice a l.length cap] 82)) wr) (fun i _ => l.length - (intOf i).toNat)
  case atStart => exact ⟨0, Nat.zero_le _, rfl, fun j h => absurd h (Nat.not_lt_zero _), Below.refl _ _⟩
  obtain ⟨k, hk, rfl, hno, hb⟩ := hrel;have HN := lh hno;have HBr := lh hb;clear hno hb
  by_cases hlt : k < l.length
  ·obtain ⟨b, off, rfl, hc⟩ := (HX.o.keep HB.o) k hlt;generalize hxe : l.getD k default = x at hc;have HXE := lh hxe;clear hxe
   have hbk : Below (w.alloc (.cells #[.int .i64 n, .slice (some ⟨b, off, none⟩) l.length cap] 82)).heap.size (w.alloc (.cells #[.int .i64 n, .slice (some ⟨b, off, none⟩) l.length cap] 82)) wr := by simpa using HBr.o
   have g0 : wr.cell? ⟨w.heap.size, 0, none⟩ = some (.int .i64 n) := zab hbk (by rw [World.cell?_alloc_at _ _ _ _ rfl]; rfl);obtain ⟨c1, c2, a', cap', c3, ci, cl⟩ := hc.keep hbk;have hsz : w.heap.size < wr.heap.size := zai g0;have hbz : b < wr.heap.size := zai c1;have HCI := lh ci;clear ci hbk hc
   cases hnd : ndOk x n k
   all_goals
    have HND := lh hnd;clear hnd;go_wp2_with fail;refine (zsk _ _ _ _ _ _ _ _ cl (HCI.o.keep (ba _ _))).mono ?_;rw [show (⟨x.kind, x.lit, x.ins⟩ : Nd) = x from rfl, HND.o];rintro e w1 ⟨rfl, hb1⟩
   ·go_wp2;go_ret;refine ⟨zbu (zwz (k := k) hlt (by show ndOk (l.getD k default) n k = false; rw [HXE.o]; exact HND.o)).symm, ?_⟩;exact (HB.o.trans (HBr.o.mono (by omega))).trans (((ba _ _).trans (hb1.mono (by simp))).mono (by omega))
   go_wp2;go_roundw
   case rel =>
    refine ⟨k + 1, by omega, by go_num, fun j hj => ?_, ?_⟩
    ·by_cases e : j = k
     ·subst e; rw [HXE.o]; exact HND.o
     exact HN.o j (by omega)
    exact HBr.o.trans (((ba _ _).trans (hb1.mono (by simp))).mono (by omega))
   case measure => simp [intOf]; omega
  have : k = l.length := by omega
  subst this;go_wp2;go_ret;exact ⟨zbu (zwy HH.o HN.o).symm, HB.o.trans (HBr.o.mono (by omega))⟩
 have hr : chk ⟨n, l⟩ = 1 := yah (by simpa using hh);rw [hr]
 have hd : ¬ (0 <= n /\ n <= 128 /\ 1 <= l.length /\ l.length <= 65536) := by intro h; apply hh; simp [zf7]; omega
 clear hh hr hx
 by_cases h1 : n < 0
 ·have h1' : decide (n < 0) = true := by simpa using h1
  go_enter Tryz.func78, Tryz.ntmps78;go_wp2;go_ret;exact ⟨rfl, HB.o⟩
 have h1' : decide (n < 0) = false := by simpa using h1
 by_cases h2 : 128 < n
 ·have h2' : decide (128 < n) = true := by simpa using h2
  go_enter Tryz.func78, Tryz.ntmps78;go_wp2;go_ret;exact ⟨rfl, HB.o⟩
 have h2' : decide (128 < n) = false := by simpa using h2
 by_cases h3 : (l.length : Int) < 1
 ·have h3' : decide ((l.length : Int) < 1) = true := by simpa using h3
  go_enter Tryz.func78, Tryz.ntmps78;go_wp2;go_ret;exact ⟨rfl, HB.o⟩
 have h3' : decide ((l.length : Int) < 1) = false := by simpa using h3
 have h4' : decide ((65536 : Int) < (l.length : Int)) = true := by simp; omega
 go_enter Tryz.func78, Tryz.ntmps78;go_wp2;go_ret;exact ⟨rfl, HB.o⟩
def stc (s : St) : List Value := [.int .u64 (s.a : Int), .int .u64 (s.b : Int)]
theorem zbi (s : St) : (stc s).length = 2 := rfl
theorem zue : Elem 91 40 2 16 (stv St.zero) := .mk Tryz.underlying91 (by kernel_rfl) rfl (by decide)
abbrev zil := OwnL stc 40 2
theorem zob (n : Int) (a : Option Addr) (cap : Nat) (l : List Nd) (w : World) (hok : zcv ⟨n, l⟩ = true) (hl : l.length <= 65536) (hx : NdCells w a l) :
 Calls Tryz.prog 39 #[.agg #[.int .i64 n, .slice a l.length cap]] w fun e w' => ∃ g, e = .returned (.slice (some ⟨g, 0, none⟩) l.length l.length) /\ zil w' w.heap.size (.slice (some ⟨g, 0, none⟩) l.length l.length) (zau l) /\ Below w.heap.size w w' := by
 have HB0 := lh ((Below.refl w.heap.size w).alloc (Nat.le_refl _) (.cells #[.int .i64 n, .slice a l.length cap] 82));have HX0 := lh (hx.keep HB0.o);have HK := lh hok
 have hl1 : Hid (l.length <= 1073741824) := by show l.length <= 1073741824; omega
 have HCH := lh (fun W (h : NdCells W a l) => (zt1 n a cap l W hl1.out h).mono (R' := fun e w' => e = .returned (.int .i64 0) /\ Below W.heap.size W w') (fun e w' ⟨h1, h2⟩ => ⟨by rw [h1]; simp [chk, HK.o], h2⟩));clear hx hok;go_enter Tryz.func39, Tryz.ntmps39;go_wp2_with fail;refine (HCH.o _ HX0.o).mono ?_;rintro e w1 ⟨rfl, hb1⟩;have hbx := Blk.later (Blk.new w #[.int .i64 n, .slice a l.length cap] 82) hb1;have c0 : w1.cell? ⟨w.heap.size, 0, none⟩ = some (.int .i64 n) := hbx.cell 0;have c1 : w1.cell? ⟨w.heap.size, 1, none⟩ = some (.slice a l.length cap) := hbx.cell 1;have HBX := lh hbx;have hz1 := hb1.size
 have HB1 := lh hb1
 have hs1 : w.heap.size + 1 <= w1.heap.size := by simpa using hz1
 clear hbx hb1 hz1
 have hm1 : l.length <= maxLen := by unfold maxLen; omega
 have HM1 := lh hm1;clear hm1;go_wp2_with (at_make; refine mk zue rfl _ _ rfl w1.heap.size .i64 .i64 _ _ l.length rfl rfl rfl rfl (by omega) HM1.o (Nat.le_refl _) stc St.zero rfl ?_);intro w2 hown2 hgrow2;have HO2 := lh hown2;have HB2 := lh ((Below.refl w1.heap.size w1).grown hgrow2 (Nat.le_refl _) (by simp));have c0' := zab HB2.o c0;have c1' := zab HB2.o c1;have HX2 := lh ((HX0.o.keep HB1.o).keep HB2.o);clear hown2 hgrow2 c0 c1;go_wp2
 go_loopw [18] (fun i wr => ∃ k : Nat, k <= l.length /\ i = .int .i64 k /\ zil wr w1.heap.size (.slice (some ⟨w1.heap.size, 0, none⟩) l.length l.length) (zau (l.take k) ++ List.replicate (l.length - k) St.zero) /\ Below w1.heap.size w1 wr) (fun i _ => l.length - (intOf i).toNat)
 case atStart => exact ⟨0, Nat.zero_le _, rfl, by simpa [zau, zcn] using HO2.o, HB2.o⟩
 obtain ⟨k, hk, rfl, hown, hbel⟩ := hrel;have HO := lh hown;have HB := lh hbel;clear hown hbel
 by_cases hlt : k < l.length
 ·obtain ⟨b, off, rfl, hc0⟩ := (HX0.o.keep HB1.o) k hlt;generalize hxe : l.getD k default = x at hc0
  have HXE : Hid (l[k] = x) := by show _ = _; rw [<- hxe]; simp [List.getD_eq_getElem?_getD, hlt]
  clear hxe;obtain ⟨r1, r2, a', cap', r3, pi, pl⟩ := hc0;have p1 := zab HB.o r1;have p2 := zab HB.o r2;have p3 := zab HB.o r3;clear r1 r2 r3;have hin := zvi HK.o hlt;rw [HXE.o] at hin;have HIN := lh hin;clear hin;have HPI := lh pi;clear pi;have hbz : b < wr.heap.size := zai p1;have HSZ := lh HB.o.size;go_wp2_with fail;refine (zbe _ _).mono ?_;rintro e w' ⟨rfl, rfl⟩;go_wp2_with fail;refine (zoo (some ⟨wr.heap.size + 1, 0, none⟩) 1 [zac x.lit] _ (by simp) ?_).mono ?_
  ·intro i hi
   have : i = 0 := by simpa using hi
   subst this;exact ⟨_, _, rfl, by rw [World.cell?_alloc_at _ _ _ _ (by simp)]; rfl⟩
  rintro e w3 ⟨rfl, hb3⟩;have hb : Below wr.heap.size wr w3 := ((ba _ _).alloc (by simp) _).trans (hb3.mono (by simp; omega));have hbx3 : Blk w3 wr.heap.size #[.int .i64 x.kind, .int .i64 x.lit, .slice a' x.ins.length cap'] 147 := ((Blk.new wr _ _).alloc _).later hb3;have HLT := lh hlt
  have HVL : Hid (k = (zau (l.take k)).length) := by show _ = _; rw [zba, List.length_take]; omega
  have HVO := lh (zfe (l.take k))
  have hrep : List.replicate (l.length - k) St.zero = St.zero :: List.replicate (l.length - k - 1) St.zero := by
   rw [<- List.replicate_succ]; congr 1; omega
  have HVS : Hid (zau (l.take (k + 1)) = zau (l.take k) ++ [insU (zau (l.take k)) (ofL [zac x.lit]) x.ins]) := by
   show _ = _; rw [List.take_succ_eq_append_getElem hlt, zhh, HXE.o]
  have HN : Hid (∀ c : St, l.length = (zau (l.take k) ++ c :: List.replicate (l.length - k - 1) St.zero).length) := fun c => by
   simp [zba]; omega
  have ho3 := HO.o;have hgz : w1.heap.size < wr.heap.size := ho3.lt.1;rw [hrep] at ho3;clear hrep;generalize zau (l.take k) = vs at *;generalize hzs : List.replicate (l.length - k - 1) St.zero = zs at *;have HREP := lh hzs;clear hzs;have ho3' := ho3.later hb;have m0 : w3.cell? ⟨w1.heap.size, k * 2, none⟩ = some (.int .u64 ((St.zero).a : Int)) := ho3'.mid HVL.o (HN.o _) zbi 0 (by omega);have m1 : w3.cell? ⟨w1.heap.size, k * 2 + 1, none⟩ = some (.int .u64 ((St.zero).b : Int)) := ho3'.mid HVL.o (HN.o _) zbi 1 (by omega);have f0 := ho3'.fr (HN.o _) (k * 2);have f1 := ho3'.fr (HN.o _) (k * 2 + 1);have HO3 := lh ho3'
  have HB3 := lh hb;have n2 : w3.cell? ⟨wr.heap.size, 2, none⟩ = some (.slice a' x.ins.length cap') := hbx3.cell 2;have hwz : wr.heap.size < w3.heap.size := zai n2;clear ho3 ho3' hb hbx3 hb3 p1 p2 p3;go_wp2;generalize hcu : ofL [zac x.lit] = cu at *;have HCU := lh hcu
  have HCO : Hid cu.ok := by show cu.ok; rw [<- hcu]; exact zvm _
  clear hcu
  obtain ⟨wo, rfl⟩ : ∃ wo : World, wo = wr := ⟨_, rfl⟩
  go_loopw [34] (fun i wi => ∃ m : Nat, m <= x.ins.length /\ i = .int .i64 m /\ zil wi w1.heap.size (.slice (some ⟨w1.heap.size, 0, none⟩) l.length l.length) (vs ++ insU vs cu (x.ins.take m) :: zs) /\ Below w1.heap.size w1 wi) (fun i _ => x.ins.length - (intOf i).toNat)
  case atStart =>
   refine ⟨0, Nat.zero_le _, rfl, ?_, ?_⟩
   ·exact HO3.o.midput2 HVL.o (HN.o _) zbi cu _ _ rfl
   exact ((HB.o.trans (HB3.o.mono HSZ.o)).setCell (Nat.le_refl _) _).setCell (Nat.le_refl _) _
  obtain ⟨wi, rfl⟩ : ∃ wi : World, wi = wr := ⟨_, rfl⟩
  obtain ⟨m, hm, rfl, hown, hbel⟩ := hrel;have HBi := lh hbel
  by_cases hlm : m < x.ins.length
  ·obtain ⟨b2, off2, rfl, hi0⟩ := HPI.o m hlm;have hi1 := zab HBi.o hi0;have hq := HIN.o (x.ins.getD m 0) (by simp [List.getD_eq_getElem?_getD, hlm]);generalize hye : x.ins.getD m 0 = y at hi1 hq
   have HYE : Hid (x.ins[m] = y) := by show _ = _; rw [<- hye]; simp [List.getD_eq_getElem?_getD, hlm]
   clear hi0 hye;obtain ⟨hq0, hq1⟩ := hq;obtain ⟨q, rfl⟩ := Int.eq_ofNat_of_zero_le hq0
   have hqk : q < vs.length := by have := HVL.o; omega
   have m0 : wi.cell? ⟨w1.heap.size, k * 2, none⟩ = some (.int .u64 ((insU vs cu (x.ins.take m)).a : Int)) := hown.mid HVL.o (HN.o _) zbi 0 (by omega);have m1 : wi.cell? ⟨w1.heap.size, k * 2 + 1, none⟩ = some (.int .u64 ((insU vs cu (x.ins.take m)).b : Int)) := hown.mid HVL.o (HN.o _) zbi 1 (by omega);have q0 : wi.cell? ⟨w1.heap.size, q * 2, none⟩ = some (.int .u64 (vs[q].a : Int)) := hown.left hqk (HN.o _) zbi 0 (by omega);have q1 : wi.cell? ⟨w1.heap.size, q * 2 + 1, none⟩ = some (.int .u64 (vs[q].b : Int)) := hown.left hqk (HN.o _) zbi 1 (by omega);have f0 := hown.fr (HN.o _) (k * 2);have f1 := hown.fr (HN.o _) (k * 2 + 1)
   have HO4 := lh hown;have HTO : Hid (vs[q].ok) := HVO.o _ (List.getElem_mem hqk);have HCO2 : Hid ((insU vs cu (x.ins.take m)).ok) := zu2 HVO.o _ HCO.o
   have HST : Hid (insU vs cu (x.ins.take (m + 1)) = (insU vs cu (x.ins.take m)).union vs[q]) := by
    show _ = _; rw [List.take_succ_eq_append_getElem hlm, zu3, HYE.o]; simp [List.getD_eq_getElem?_getD, hqk]
   generalize insU vs cu (x.ins.take m) = cur at *;generalize vs[q] = tq at *;clear hown hbel;go_wp2_with fail
   have HF : Hid (∀ W w5 : World, W.heap = wi.heap -> Below W.heap.size W w5 -> w5.cell? ⟨w1.heap.size, k * 2, none⟩ = some (.int .u64 (cur.a : Int)) /\ w5.cell? ⟨w1.heap.size, k * 2 + 1, none⟩ = some (.int .u64 (cur.b : Int)) /\
    w5.frozen? ⟨w1.heap.size, k * 2, none⟩ = false /\ w5.frozen? ⟨w1.heap.size, k * 2 + 1, none⟩ = false) := fun W w5 hw hb5 => by
    have e1 : ∀ p v, wi.cell? p = some v -> W.cell? p = some v := fun p v h => by simp only [World.cell?, hw]; exact h
    have e2 : ∀ p, W.frozen? p = wi.frozen? p := fun p => by simp only [World.frozen?, hw]
    refine ⟨zab hb5 (e1 _ _ m0), zab hb5 (e1 _ _ m1), ?_, ?_⟩
    ·rw [hb5.frozen (p := ⟨w1.heap.size, k * 2, none⟩) (zai (e1 _ _ m0)), e2]; exact f0
    rw [hb5.frozen (p := ⟨w1.heap.size, k * 2 + 1, none⟩) (zai (e1 _ _ m1)), e2]; exact f1
   go_region_with (go_at_call 81; refine (zou cur tq _ HCO2.o HTO.o).mono ?_; rintro e w5 ⟨rfl, hb5⟩; go_loud (obtain ⟨z0, z1, z2, z3⟩ := HF.o wi.drew w5 rfl hb5))
   all_goals
    have HB5 : Hid (Below wi.heap.size wi w5) := (Below.refl wi.heap.size wi).drew.trans (hb5.mono (Nat.le_refl wi.heap.size));have HSI := lh HBi.o.size;clear z0 z1 z2 z3 hb5;go_wp2;go_roundw
    case rel =>
     refine ⟨m + 1, by omega, by go_num, ?_, ((HBi.o.trans (HB5.o.mono HSI.o)).setCell (Nat.le_refl _) _).setCell (Nat.le_refl _) _⟩;rw [HST.o];exact (HO4.o.later HB5.o).midput2 HVL.o (HN.o _) zbi _ _ _ rfl
    case measure => simp [intOf]; omega
  have : m = x.ins.length := by omega
  subst this;go_wp2;go_roundw
  case rel =>
   refine ⟨k + 1, by omega, by go_num, ?_, HBi.o⟩;rw [HVS.o, List.append_assoc, show l.length - (k + 1) = l.length - k - 1 by omega, HREP.o];rw [List.take_length] at hown;exact hown
  case measure => simp [intOf]; omega
 have : k = l.length := by omega
 subst this;go_wp2;go_ret;refine ⟨_, rfl, ?_, HB0.o.trans ((HB1.o.mono (by simp)).trans (HB.o.mono (by omega)))⟩;have := HO.o;simp only [Nat.sub_self, List.replicate_zero, List.append_nil, List.take_length] at this;exact this.lower (by omega)
theorem zcf (d : Nat) (a b c e : Int) (w : World) :
 (Op.equalIn (d + 2) 40 (.agg #[.int .u64 a, .int .u64 b]) (.agg #[.int .u64 c, .int .u64 e])).run Tryz.prog w = .ok (a == c && b == e) w := by
 have hsz : ∀ w, (sizeOf 30).run Tryz.prog w = .ok 1 w := fun w => by kernel_rfl
 have hp0 : ∀ (x y : Value) w, (part 30 #[x, y] 0).run Tryz.prog w = .ok x w := fun x y w => by kernel_rfl
 have hp1 : ∀ (x y : Value) w, (part 30 #[x, y] 1).run Tryz.prog w = .ok y w := fun x y w => by kernel_rfl
 rw [Op.equalIn.eq_def];simp only [Sem.run_bind, run_underlying Tryz.underlying40, Result.andThen_ok, hsz]
 simp [List.range']
 simp [hp0, hp1, run_equalIn_int _ _ _ _ _ _ _ Tryz.underlying30]
 by_cases h1 : a = c <;> by_cases h2 : b = e <;> simp [h1, h2]
def eqSt (s t : St) : Bool := decide (s = t)
theorem zq4 (s t : St) : ((s.a : Int) == (t.a : Int) && (s.b : Int) == (t.b : Int)) = eqSt s t := by
 unfold eqSt;rw [Bool.eq_iff_iff]
 cases s; cases t; simp; omega
theorem zjw (s t : St) (w : World) : (binOp .neq 40 (stv s) (stv t)).run Tryz.prog w = .ok (.bool !(eqSt s t)) w := by
 rw [run_neq_struct, zcf 9998]
 simp [Result.andThen_ok, <- zq4]
theorem zqb (s t : St) (w : World) : (binOp .eql 40 (stv s) (stv t)).run Tryz.prog w = .ok (.bool (eqSt s t)) w := by
 rw [run_eql_struct, zcf 9998]
 simp [Result.andThen_ok, <- zq4]
theorem zfp : Tryz.prog.eqGuardType Tryz.prog.depth 40 = false := by kernel_rfl
theorem ycr (s : St) (v : Int) (w : World) (h : ¬ (1 <= v /\ v <= 128)) : Calls Tryz.prog 75 #[stv s, .int .i64 v] w fun e w' => e = .returned (.bool (s.mem v)) /\ Below w.heap.size w w' := by
 have HB : Hid (Below w.heap.size w (w.alloc (.cells #[.int .u64 (s.a : Int), .int .u64 (s.b : Int)] 40))) := ba _ _
 have HR : Hid (s.mem v = false) := by show _ = _; unfold St.mem; rw [if_neg (by omega), if_neg (by omega)]
 have HP := lh (fun V => zrp v V h);clear h;go_enter Tryz.func75, Tryz.ntmps75;go_wp2_with fail;refine (HP.o _).mono ?_;rintro e w' ⟨rfl, rfl⟩;go_wp2;go_ret;exact ⟨zbg HR.o.symm, HB.o⟩
theorem ztu {a k : Nat} (ha : a < U64) (hk : k < 64) : (bits .and .u64 (a : Int) ((2 ^ k : Nat) : Int) != 0) = a.testBit k := by
 rw [ztt ha (zd0 hk)]
 have h : a &&& 2 ^ k = (a.testBit k).toNat * 2 ^ k := by
  apply Nat.eq_of_testBit_eq
  intro i;rw [Nat.testBit_and, Nat.testBit_two_pow]
  cases hb : a.testBit k with
  | true =>
    simp only [Bool.toNat_true, Nat.one_mul, Nat.testBit_two_pow]
    by_cases e : k = i
    ·subst e; simp [hb]
    simp [e]
  | false =>
    simp only [Bool.toNat_false, Nat.zero_mul, Nat.zero_testBit]
    by_cases e : k = i
    ·subst e; simp [hb]
    simp [e]
 rw [h]
 cases a.testBit k with
 | false => simp
 | true =>
   have : 0 < 2 ^ k := Nat.pow_pos (by omega);simp only [Bool.toNat_true, Nat.one_mul];rw [bne_iff_ne]; intro h0;have := Int.ofNat_eq_zero.1 h0;omega
theorem zpq (s : St) (v : Int) (w : World) (hs : s.ok) : Calls Tryz.prog 75 #[stv s, .int .i64 v] w fun e w' => e = .returned (.bool (s.mem v)) /\ Below w.heap.size w w' := by
 by_cases h : 1 <= v /\ v <= 64
 ·have HB : Hid (Below w.heap.size w (w.alloc (.cells #[.int .u64 (s.a : Int), .int .u64 (s.b : Int)] 40))) := ba _ _
  have hr : (bits .and .u64 (s.a : Int) (zgw v : Int) != 0) = s.mem v := by
   unfold zgw;rw [ztu hs.1 (by omega)]; unfold St.mem; rw [if_pos h]; congr 1; omega
  have HP := lh (fun V => zro v V h);clear h;go_enter Tryz.func75, Tryz.ntmps75;go_wp2_with fail;refine (HP.o _).mono ?_;rintro e w' ⟨rfl, rfl⟩;go_wp2;go_ret;exact ⟨rfl, HB.o⟩
 by_cases h2 : 65 <= v /\ v <= 128
 ·have HB : Hid (Below w.heap.size w (w.alloc (.cells #[.int .u64 (s.a : Int), .int .u64 (s.b : Int)] 40))) := ba _ _
  have hr : (bits .and .u64 (s.b : Int) (zgw v : Int) != 0) = s.mem v := by
   unfold zgw;rw [ztu hs.2 (by omega)]; unfold St.mem; rw [if_neg h, if_pos h2]; congr 1; omega
  have HP := lh (fun V => zrn v V h2);clear h h2;go_enter Tryz.func75, Tryz.ntmps75;go_wp2_with fail;refine (HP.o _).mono ?_;rintro e w' ⟨rfl, rfl⟩;go_wp2;go_ret;exact ⟨rfl, HB.o⟩
 exact ycr s v w (by omega)
def St.minus (s t : St) : St := ⟨s.a &&& (18446744073709551615 - t.a), s.b &&& (18446744073709551615 - t.b)⟩
theorem St.minus_ok {s t : St} (h : s.ok) : (St.minus s t).ok := ⟨zc7 h.1, zc7 h.2⟩
theorem zj5 {b i : Nat} (hb : b < U64) (hi : i < 64) : (18446744073709551615 - b).testBit i = !b.testBit i := by
 have h := Nat.testBit_two_pow_sub_succ (n := 64) (x := b) (by rw [<- zek]; exact hb) i;rw [show 2 ^ 64 - (b + 1) = 18446744073709551615 - b by unfold U64 at hb; omega, decide_eq_true hi] at h
 simpa using h
theorem St.mem_minus {s t : St} (ht : t.ok) (v : Int) : (St.minus s t).mem v = (s.mem v && !t.mem v) := by
 unfold St.mem St.minus
 by_cases h : 1 <= v /\ v <= 64
 ·rw [if_pos h, if_pos h, if_pos h, Nat.testBit_and, zj5 ht.1 (by omega)]
 rw [if_neg h, if_neg h, if_neg h]
 by_cases h2 : 65 <= v /\ v <= 128
 ·rw [if_pos h2, if_pos h2, if_pos h2, Nat.testBit_and, zj5 ht.2 (by omega)]
 rw [if_neg h2, if_neg h2, if_neg h2]; rfl
theorem zjl (s t : St) (w : World) (hs : s.ok) (ht : t.ok) :
 Calls Tryz.prog 66 #[stv s, stv t] w fun e w' => e = .returned (stv (St.minus s t)) /\ Below w.heap.size w w' := by
 have e1 : bits .andNot .u64 (s.a : Int) (t.a : Int) = (((St.minus s t).a : Nat) : Int) := u64_andNot_nat s.a t.a hs.1 ht.1;have e2 : bits .andNot .u64 (s.b : Int) (t.b : Int) = (((St.minus s t).b : Nat) : Int) := u64_andNot_nat s.b t.b hs.2 ht.2;generalize St.minus s t = d at *;have HB : Hid (Below w.heap.size w (((w.alloc (.cells #[.int .u64 (s.a : Int), .int .u64 (s.b : Int)] 40)).alloc (.cells #[.int .u64 (t.a : Int), .int .u64 (t.b : Int)] 40)).alloc (.cells #[.int .u64 (d.a : Int), .int .u64 (d.b : Int)] 40))) := ((ba _ _).alloc (by simp) _).alloc (by simp; omega) _;go_enter Tryz.func66, Tryz.ntmps66
 go_wp2;exact bodyPost_ret (v := stv d) (by simp [results, Tryz.results66, go_sem]) rfl ⟨rfl, HB.o⟩
theorem zpj (d : St) (w : World) : (Op.equalIn 10000 40 (.agg #[.int .u64 (d.a : Int), .int .u64 (d.b : Int)]) (.agg #[.int .u64 0, .int .u64 0])).run Tryz.prog w = .ok (decide (d = St.zero)) w := by
 rw [zcf 9998]
 congr 1
 rw [Bool.eq_iff_iff]
 cases d
 simp only [Bool.and_eq_true, beq_iff_eq, decide_eq_true_eq, St.zero, St.mk.injEq];omega
theorem zv6 (s t : St) (w : World) (hs : s.ok) (ht : t.ok) :
 Calls Tryz.prog 35 #[stv s, stv t] w fun e w' => e = .returned (.bool (decide (St.minus s t = St.zero))) /\ Below w.heap.size w w' := by
 have HB0 : Hid (Below w.heap.size w ((w.alloc (.cells #[.int .u64 (s.a : Int), .int .u64 (s.b : Int)] 40)).alloc (.cells #[.int .u64 (t.a : Int), .int .u64 (t.b : Int)] 40))) := (ba _ _).alloc (by simp) _;have HM := lh (fun V => zjl s t V hs ht);generalize St.minus s t = d at *;have heq := zpj d;go_enter Tryz.func35, Tryz.ntmps35;go_wp2_with fail;refine (HM.o _).mono ?_;rintro e w1 ⟨rfl, hb1⟩;have HB1 := bt HB0 hb1;clear hb1;go_wp2;go_ret;exact ⟨rfl, HB1.o⟩
theorem zjz {f : Nat -> Bool} {k : Nat} : ∀ m, k <= m -> (∀ j, k < j -> j <= m -> f j = false) -> setB f m = setB f k
 | 0, h, _ => by rw [show k = 0 by omega]
 | m + 1, h, hf => by
   by_cases e : k = m + 1
   ·rw [e]
   have ih := zjz m (by omega) (fun j h1 h2 => hf j h1 (by omega))
   show (if f (m + 1) then (setB f m).add ((m : Int) + 1) else setB f m) = _
   rw [hf (m + 1) (by omega) (Nat.le_refl _), ih]; rfl
theorem zlw (n : Int) (w : World) : Calls Tryz.prog 36 #[.int .i64 n] w fun e w' => e = .returned (stv (zbq n)) /\ Below w.heap.size w w' := by
 have HB0 : Hid (Below w.heap.size w ((w.alloc (.cells #[.int .u64 0, .int .u64 0] 40)).alloc (.cells #[.int .u64 0, .int .u64 0] 40))) := (ba _ _).alloc (by simp) _;go_enter Tryz.func36, Tryz.ntmps36;go_wp2
 go_loopw [4] (fun i wr => ∃ v : Int, 1 <= v /\ v <= 129 /\ (1 < v -> v <= n + 1) /\ i = .int .i64 v /\ Blk wr (w.heap.size + 1) (sts (setB (fun j : Nat => decide ((j : Int) <= n)) (v.toNat - 1))) 40 /\ Blk wr w.heap.size (sts St.zero) 40 /\ Below w.heap.size w wr) (fun i _ => 129 - (intOf i).toNat)
 case atStart => exact ⟨1, by omega, by omega, fun h => by omega, rfl, Blk.new' (w.alloc _) (by simp) (sts St.zero) 40, (Blk.new w _ _).alloc _, HB0.o⟩
 obtain ⟨v, hv1, hv2, hvn, rfl, hs, hz, hbel⟩ := hrel;obtain ⟨c0, c1, f0, f1⟩ := hs.sc;obtain ⟨d0, d1, g0, g1⟩ := hz.sc;have HS := lh hs;have HZ := lh hz;have HB := lh hbel;have HVN := lh hvn;have HOK := lh (zfw (fun j : Nat => decide ((j : Int) <= n)) (v.toNat - 1));have hzz : w.heap.size + 1 < wr.heap.size := hs.lt;clear hs hz hbel hvn
 by_cases hn : 128 < n
 ·by_cases hgo : v <= 128 /\ v <= n
  ·obtain ⟨h1, h2⟩ := hgo
   have HSB : Hid (setB (fun j : Nat => decide ((j : Int) <= n)) v.toNat = (setB (fun j : Nat => decide ((j : Int) <= n)) (v.toNat - 1)).add v) := by
    have h := zon (fun j : Nat => decide ((j : Int) <= n)) hv1;rw [decide_eq_true (show ((v.toNat : Nat) : Int) <= n by omega), if_pos rfl] at h; exact h
   generalize setB (fun j : Nat => decide ((j : Int) <= n)) (v.toNat - 1) = s at *;have HWI := lh (fun V => zgs s v V HOK.o);obtain ⟨d, hd⟩ := nm (s.add v);rw [<- hd] at HWI HSB;clear hd;go_wp2_with fail;refine (HWI.o _).mono ?_;rintro e w1 ⟨rfl, hb1⟩;have hs1 := HS.o.later hb1;obtain ⟨c0', c1', f0', f1'⟩ := hs1.sc;have HZ1 := lh (HZ.o.later hb1);have HB1 := bt HB hb1;have HS1 := lh hs1;have hz1 : w.heap.size + 1 < w1.heap.size := hs1.lt;clear hb1 c0 c1 f0 f1 d0 d1 g0 g1 hs1;go_wp2;go_roundw
   case rel => exact ⟨v + 1, by omega, by omega, fun _ => by omega, rfl, by rw [show (v + 1).toNat - 1 = v.toNat by omega, HSB.o]; exact HS1.o.putSet d, (HZ1.o.other _ _ (by simp)).other _ _ (by simp), (HB1.o.setCell (by simp) _).setCell (by simp) _⟩
   case measure => simp [intOf]; omega
  have hgo2 : ¬ v <= 128 \/ ¬ v <= n := by omega
  have HE : Hid (setB (fun j : Nat => decide ((j : Int) <= n)) (v.toNat - 1) = zbq n) := by
   show _ = _
   unfold zbq;refine (zjz 128 (by omega) fun j h1 h2 => ?_).symm;rw [decide_eq_false_iff_not];have := HVN.o;omega
  generalize setB (fun j : Nat => decide ((j : Int) <= n)) (v.toNat - 1) = s at *;go_wp2;exact bodyPost_ret (v := stv s) (by simp [results, Tryz.results36, go_sem, d0, d1]) rfl ⟨by rw [HE.o], (HB.o.setCell (Nat.le_refl _) _).setCell (Nat.le_refl _) _⟩
 have hn2 : n <= 128 := by omega
 by_cases hgo : v <= 128 /\ v <= n
 ·obtain ⟨h1, h2⟩ := hgo
  have HSB : Hid (setB (fun j : Nat => decide ((j : Int) <= n)) v.toNat = (setB (fun j : Nat => decide ((j : Int) <= n)) (v.toNat - 1)).add v) := by
   have h := zon (fun j : Nat => decide ((j : Int) <= n)) hv1;rw [decide_eq_true (show ((v.toNat : Nat) : Int) <= n by omega), if_pos rfl] at h; exact h
  generalize setB (fun j : Nat => decide ((j : Int) <= n)) (v.toNat - 1) = s at *;have HWI := lh (fun V => zgs s v V HOK.o);obtain ⟨d, hd⟩ := nm (s.add v);rw [<- hd] at HWI HSB;clear hd;go_wp2_with fail;refine (HWI.o _).mono ?_;rintro e w1 ⟨rfl, hb1⟩;have hs1 := HS.o.later hb1;obtain ⟨c0', c1', f0', f1'⟩ := hs1.sc;have HZ1 := lh (HZ.o.later hb1);have HB1 := bt HB hb1;have HS1 := lh hs1;have hz1 : w.heap.size + 1 < w1.heap.size := hs1.lt;clear hb1 c0 c1 f0 f1 d0 d1 g0 g1 hs1;go_wp2;go_roundw
  case rel => exact ⟨v + 1, by omega, by omega, fun _ => by omega, rfl, by rw [show (v + 1).toNat - 1 = v.toNat by omega, HSB.o]; exact HS1.o.putSet d, (HZ1.o.other _ _ (by simp)).other _ _ (by simp), (HB1.o.setCell (by simp) _).setCell (by simp) _⟩
  case measure => simp [intOf]; omega
 have hgo2 : ¬ v <= 128 \/ ¬ v <= n := by omega
 have HE : Hid (setB (fun j : Nat => decide ((j : Int) <= n)) (v.toNat - 1) = zbq n) := by
  show _ = _
  unfold zbq;refine (zjz 128 (by omega) fun j h1 h2 => ?_).symm;rw [decide_eq_false_iff_not];have := HVN.o;omega
 generalize setB (fun j : Nat => decide ((j : Int) <= n)) (v.toNat - 1) = s at *;go_wp2;exact bodyPost_ret (v := stv s) (by simp [results, Tryz.results36, go_sem, d0, d1]) rfl ⟨by rw [HE.o], (HB.o.setCell (Nat.le_refl _) _).setCell (Nat.le_refl _) _⟩
end Go.Proofs.YtlleofjjdhfgcaaGreatDoor
namespace Cen
end Cen
namespace Cen
def nd (L : List Nd) (i : Int) : Nd := L.getD i.toNat default
def zc4 (l : List Int) : List Int := l.mergeSort fun x y => decide (x <= y)
end Cen
namespace Cen
theorem zop {l : List Int} {y : Int} : y ∈ zc4 l ↔ y ∈ l := by unfold zc4; exact List.mem_mergeSort
theorem zvf {x : Nd} {n b : Int} (h : ndOk x n b = true) (h3 : ¬ (x.kind = 3 \/ x.kind = 4)) : ndOk ⟨x.kind, x.lit, []⟩ n b = true /\ x.ins = [] := by
 simp only [ndOk, Bool.and_eq_true] at *;obtain ⟨h1, h2⟩ := h;unfold zch at *
 by_cases c1 : x.kind = 0 \/ x.kind = 1
 ·rw [if_pos c1] at h2; simp at h2; simp [zeg, h2, c1]
 rw [if_neg c1] at h2
 by_cases c2 : x.kind = 2
 ·rw [if_pos c2] at h2; simp at h2; simp [zeg, h2, c2]
 rw [if_neg c2, if_neg h3] at h2; simp at h2
end Cen
namespace Cen
def b2i (b : Bool) : Int := if b then 1 else 0
structure RedOk (n : Int) (st : List Nd × List Int) (k : Nat) : Prop where
 nds : zds st.1 n st.1.length
 le : st.1.length <= k
 len : st.2.length = k
 at_ : ∀ i ∈ st.2, 0 <= i /\ i < (st.1.length : Int)
theorem RedOk.getD {n : Int} {st : List Nd × List Int} {k : Nat} (h : RedOk n st k) (i : Nat) (hi : i < k) : 0 <= st.2.getD i 0 /\ st.2.getD i 0 < (st.1.length : Int) := by
 have hi' : i < st.2.length := by rw [h.len]; exact hi
 have := h.at_ (st.2[i]) (List.getElem_mem hi')
 simpa [List.getD_eq_getElem?_getD, hi'] using this
theorem zvg {L : List Nd} {i : Int} (h0 : 0 <= i) (h1 : i < L.length) : nd L i = L[i.toNat]'(by omega) := by
 unfold nd; simp [List.getD_eq_getElem?_getD, show i.toNat < L.length by omega]
theorem zn9 {L r : List Nd} {i : Int} (h0 : 0 <= i) (h1 : i < L.length) : nd (L ++ r) i = nd L i := by
 unfold nd; simp only [List.getD_eq_getElem?_getD]; rw [List.getElem?_append_left (by omega)]
theorem zoa {L : List Nd} {n : Int} (hL : zds L n L.length) {i : Int} (h0 : 0 <= i) (h1 : i < L.length) : ndOk (nd L i) n i = true := by
 have := hL i.toNat (by omega);rw [show ((i.toNat : Nat) : Int) = i by omega] at this; exact this
theorem zd9 {x : Nd} {n b : Int} (h : ndOk x n b = true) : ∀ i ∈ x.ins, 0 <= i /\ i < b := by
 simp only [ndOk, Bool.and_eq_true] at h; exact zer.1 h.1
theorem zmp {x : Nd} {n b : Int} (h : ndOk x n b = true) (h2 : x.kind = 2) : zac x.lit ≠ 0 /\ zac x.lit <= n := by
 simp only [ndOk, Bool.and_eq_true] at h;have h3 := h.2;unfold zch at h3;rw [if_neg (by omega), if_pos h2] at h3;simp only [zbn, Bool.and_eq_true, decide_eq_true_eq] at h3;exact h3.1
theorem T_nd (s : Int -> Bool) {L : List Nd} {n : Int} (hL : zds L n L.length) {i : Int} (h0 : 0 <= i) (h1 : i < L.length) : T s L i = evNd s (T s L) (nd L i) := by
 have e : ((i.toNat : Nat) : Int) = i := by omega
 have h := hL i.toNat (by omega);simp only [ndOk, Bool.and_eq_true] at h;have := T_eq s L i.toNat (by omega) h.1;rw [e] at this; exact this
theorem zz7 {s : Int -> Bool} {L : List Nd} {n : Int} (hL : zds L n L.length) {i : Int} (h0 : 0 <= i) (h1 : i < L.length) (h : (nd L i).kind = 2) : T s L i = zcj s (nd L i).lit := by
 rw [T_nd s hL h0 h1]; unfold evNd; rw [if_neg (by omega), if_pos h]
end Cen
