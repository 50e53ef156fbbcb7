/- Part of the proofs that laws of censuslaw24 return true for every input, where the tables that the rows list are laid. Texts: Node1, Node2, VarsOf, Cp2, CpY. -/
import Derived.Test.YtfmmhjphopikgaaGreatDoorYC1
import Derived.Test.YtfmmhjphopikgaaGreatDoorYC2
import Derived.BigRegion
set_option maxHeartbeats 8000000
set_option maxRecDepth 100000
set_option linter.unusedSimpArgs false
set_option linter.unusedVariables false
namespace Go.Proofs.YtfmmhjphopikgaaGreatDoor
open Go.RowKit Cen
theorem insOk_any (ins : List Int) (b : Int) : zhb ins b = !(ins.any fun i => decide (i < 0) || decide (b <= i)) := by
 rw [zhb, List.not_any_eq_all_not]
 congr 1; funext i
 rw [Bool.eq_iff_iff]; simp
theorem formed_any (kind lit n before : Int) (a : Option Addr) (cap : Nat) (ins : List Int) (w : World) (hl : ins.length <= 1073741824) (hx : IntCells w a ins) :
 Calls Tryz.prog 93 #[.agg #[.int .i64 kind, .int .i64 lit, .slice a ins.length cap], .int .i64 n, .int .i64 before] w
  fun e w' => e = .returned (.bool (ndOk ⟨kind, lit, ins⟩ n before)) /\ Below w.heap.size w w' := by
 have HI := lh (insOk_any ins before);have HX := lh hx
 have HE : Hid (((ins.length : Int) == 0) = decide (ins = [])) := by show _ = _; rw [Bool.eq_iff_iff]; simp
 have HF := fun (e : Bool) (h : (ins.any fun i => decide (i < 0) || decide (before <= i)) = e) =>
  fun (W : World) (hb : Below w.heap.size w W) (q : Addr) (hq : W.cell? q = some (.int .i64 before)) =>
   (zd4 a cap ins 127 #[.pointer (some q)] (fun i => decide (i < 0) || decide (before <= i)) W hl (hx.keep hb)
     (fun x _ => formed1_any x before q W hq) callable_formed1).mono (R' := fun E w' => E = .returned (.bool e) /\ W = w') (fun E w' ⟨h1, h2⟩ => ⟨by rw [h1, h], h2⟩)
 clear hx
 have hB : Below w.heap.size w ((w.alloc (.cells #[.int .i64 kind, .int .i64 lit, .slice a ins.length cap] 48)).alloc (.cells #[.int .i64 before] 3)) :=
  ((Below.refl _ _).alloc (Nat.le_refl _) _).alloc (by simp) _
 have HB := lh hB;clear hB
 have HQ : Hid (((w.alloc (.cells #[.int .i64 kind, .int .i64 lit, .slice a ins.length cap] 48)).alloc (.cells #[.int .i64 before] 3)).cell? ⟨w.heap.size + 1, 0, none⟩ = some (.int .i64 before)) := by
  show _ = _
  rw [World.cell?_alloc_at _ _ _ _ (by simp)]; rfl
 cases hany : (ins.any fun i => decide (i < 0) || decide (before <= i))
 ·have H2 := lh (HF false hany)
  have hr : ndOk ⟨kind, lit, ins⟩ n before = zcr ⟨kind, lit, ins⟩ n := by simp [ndOk, HI.o, hany]
  rw [hr]; clear hr hany HF
  by_cases k2 : kind = 2
  ·subst k2
   cases hv : zas lit n
   all_goals
    have H3 := lh (fun W => (zde lit n W).mono (R' := fun E w' => E = .returned (.bool _) /\ W = w') (fun E w' ⟨h1, h2⟩ => ⟨by rw [h1, hv], h2⟩));have HV := lh hv;clear hv;go_enter Tryz.func93, Tryz.ntmps93;go_wp2_with (first | (go_at_call 57; refine (H2.o _ HB.o _ HQ.o).mono ?_; rintro e w' ⟨rfl, rfl⟩) | (go_at_call 96; refine (H3.o _).mono ?_; rintro e w' ⟨rfl, rfl⟩));go_ret;exact ⟨zah (by simp [zcr, HV.o]; try exact HE.o), HB.o⟩
  have hk2 : (kind == 2) = false := by simpa using k2
  by_cases k0 : kind = 0 \/ kind = 1 \/ kind = 3 \/ kind = 4
  ·by_cases l0 : lit = 0
   ·subst l0
    rcases k0 with rfl | rfl | rfl | rfl
    all_goals
     clear k2 hk2;go_enter Tryz.func93, Tryz.ntmps93;go_wp2_with (go_at_call 57; refine (H2.o _ HB.o _ HQ.o).mono ?_; rintro e w' ⟨rfl, rfl⟩);go_ret;exact ⟨zah (by simp [zcr]; try exact HE.o), HB.o⟩
   have hl0 : (lit == 0) = false := by simpa using l0
   rcases k0 with rfl | rfl | rfl | rfl
   all_goals
    clear k2 hk2 l0;go_enter Tryz.func93, Tryz.ntmps93;go_wp2_with (go_at_call 57; refine (H2.o _ HB.o _ HQ.o).mono ?_; rintro e w' ⟨rfl, rfl⟩);go_ret;exact ⟨zah (by simp [zcr]; intro h; simp [h] at hl0), HB.o⟩
  have h0 : (kind == 0) = false := by simp; omega
  have h1 : (kind == 1) = false := by simp; omega
  have h3 : (kind == 3) = false := by simp; omega
  have h4 : (kind == 4) = false := by simp; omega
  have hr : zcr ⟨kind, lit, ins⟩ n = false := by
   unfold zcr; simp only; rw [if_neg (by omega), if_neg (by omega), if_neg (by omega)]
  rw [hr];clear k2 k0 hr;go_enter Tryz.func93, Tryz.ntmps93;go_wp2_with (go_at_call 57; refine (H2.o _ HB.o _ HQ.o).mono ?_; rintro e w' ⟨rfl, rfl⟩);go_ret;exact ⟨rfl, HB.o⟩
 have H2 := lh (HF true hany)
 have hr : ndOk ⟨kind, lit, ins⟩ n before = false := by simp [ndOk, HI.o, hany]
 rw [hr]; clear hr hany HF;go_enter Tryz.func93, Tryz.ntmps93;go_wp2_with (go_at_call 57; refine (H2.o _ HB.o _ HQ.o).mono ?_; rintro e w' ⟨rfl, rfl⟩);go_ret;exact ⟨rfl, HB.o⟩
def chk (t : Nt) : Int := if zdi t then 0 else 1
theorem chk_bad {t : Nt} (h : zop t = false) : chk t = 1 := by simp [chk, zdi, h]
theorem chk_node {t : Nt} {k : Nat} (hk : k < t.l.length) (h : ndOk (t.l.getD k default) t.n k = false) : chk t = 1 := by
 have : zdi t = false := by
  rw [Bool.eq_false_iff]; intro h'
  simp [zdi] at h'
  have := h'.2 k hk;rw [h] at this; exact absurd this (by simp)
 simp [chk, this]
theorem chk_good {t : Nt} (h : zop t = true) (h' : zno t.l t.n t.l.length) : chk t = 0 := by simp [chk, zdi, h, h']
theorem check_any (n : Int) (a : Option Addr) (cap : Nat) (l : List Nd) (w : World) (hl : l.length <= 1073741824) (hx : NdCells w a l) :
 Calls Tryz.prog 47 #[.agg #[.int .i64 n, .slice a l.length cap]] w fun e w' => e = .returned (.int .i64 (chk ⟨n, l⟩)) /\ Below w.heap.size w w' := by
 have HB := lh ((Below.refl w.heap.size w).alloc (Nat.le_refl _) (.cells #[.int .i64 n, .slice a l.length cap] 33))
 by_cases hh : zop ⟨n, l⟩ = true
 ·have HH := lh hh
  simp [zop] at hh
  obtain ⟨⟨⟨h1, h2⟩, h3⟩, h4⟩ := hh
  have h1' : decide (n < 0) = false := by simp; omega
  have h2' : decide (128 < n) = false := by simp; omega
  have h3' : decide ((l.length : Int) < 1) = false := by simp; omega
  have h4' : decide ((65536 : Int) < (l.length : Int)) = false := by simp; omega
  have HX := lh hx;clear hx;go_enter Tryz.func47, Tryz.ntmps47;go_wp2
  go_loopw [28] (fun i wr => ∃ k : Nat, k <= l.length /\ i = .int .i64 k /\ zno l n k /\ Below (w.heap.size + 1) (w.alloc (.cells #[.int .i64 n, .slice a l.length cap] 33)) wr) (fun i _ => l.length - (intOf i).toNat)
  case atStart => exact ⟨0, Nat.zero_le _, rfl, fun j h => absurd h (Nat.not_lt_zero _), Below.refl _ _⟩
  obtain ⟨k, hk, rfl, hno, hb⟩ := hrel;have HN := lh hno;have HBr := lh hb;clear hno hb
  by_cases hlt : k < l.length
  ·obtain ⟨b, off, rfl, hc⟩ := (HX.o.keep HB.o) k hlt;generalize hxe : l.getD k default = x at hc;have HXE := lh hxe;clear hxe
   have hbk : Below (w.alloc (.cells #[.int .i64 n, .slice (some ⟨b, off, none⟩) l.length cap] 33)).heap.size (w.alloc (.cells #[.int .i64 n, .slice (some ⟨b, off, none⟩) l.length cap] 33)) wr := by simpa using HBr.o
   have g0 : wr.cell? ⟨w.heap.size, 0, none⟩ = some (.int .i64 n) := zaa hbk (by rw [World.cell?_alloc_at _ _ _ _ rfl]; rfl);obtain ⟨c1, c2, a', cap', c3, ci, cl⟩ := hc.keep hbk;have hsz : w.heap.size < wr.heap.size := zak g0;have hbz : b < wr.heap.size := zak c1;have HCI := lh ci;clear ci hbk hc
   cases hnd : ndOk x n k
   all_goals
    have HND := lh hnd;clear hnd;go_wp2_with fail;refine (formed_any _ _ _ _ _ _ _ _ cl (HCI.o.keep ((Below.refl _ _).alloc (Nat.le_refl _) _))).mono ?_;rw [show (⟨x.kind, x.lit, x.ins⟩ : Nd) = x from rfl, HND.o];rintro e w1 ⟨rfl, hb1⟩
   ·go_wp2;go_ret;refine ⟨zbb (chk_node (k := k) hlt (by show ndOk (l.getD k default) n k = false; rw [HXE.o]; exact HND.o)).symm, ?_⟩;exact (HB.o.trans (HBr.o.mono (by omega))).trans ((((Below.refl _ _).alloc (Nat.le_refl _) _).trans (hb1.mono (by simp))).mono (by omega))
   go_wp2;go_roundw
   case rel =>
    refine ⟨k + 1, by omega, by go_num, fun j hj => ?_, ?_⟩
    ·by_cases e : j = k
     ·subst e; rw [HXE.o]; exact HND.o
     exact HN.o j (by omega)
    exact HBr.o.trans ((((Below.refl _ _).alloc (Nat.le_refl _) _).trans (hb1.mono (by simp))).mono (by omega))
   case measure => simp [intOf]; omega
  have : k = l.length := by omega
  subst this;go_wp2;go_ret;exact ⟨zbb (chk_good HH.o HN.o).symm, HB.o.trans (HBr.o.mono (by omega))⟩
 have hr : chk ⟨n, l⟩ = 1 := chk_bad (by simpa using hh);rw [hr]
 have hd : ¬ (0 <= n /\ n <= 128 /\ 1 <= l.length /\ l.length <= 65536) := by intro h; apply hh; simp [zop]; omega
 clear hh hr hx
 by_cases h1 : n < 0
 ·have h1' : decide (n < 0) = true := by simpa using h1
  go_enter Tryz.func47, Tryz.ntmps47;go_wp2;go_ret;exact ⟨rfl, HB.o⟩
 have h1' : decide (n < 0) = false := by simpa using h1
 by_cases h2 : 128 < n
 ·have h2' : decide (128 < n) = true := by simpa using h2
  go_enter Tryz.func47, Tryz.ntmps47;go_wp2;go_ret;exact ⟨rfl, HB.o⟩
 have h2' : decide (128 < n) = false := by simpa using h2
 by_cases h3 : (l.length : Int) < 1
 ·have h3' : decide ((l.length : Int) < 1) = true := by simpa using h3
  go_enter Tryz.func47, Tryz.ntmps47;go_wp2;go_ret;exact ⟨rfl, HB.o⟩
 have h3' : decide ((l.length : Int) < 1) = false := by simpa using h3
 have h4' : decide ((65536 : Int) < (l.length : Int)) = true := by simp; omega
 go_enter Tryz.func47, Tryz.ntmps47;go_wp2;go_ret;exact ⟨rfl, HB.o⟩
def stc (s : St) : List Value := [.int .u64 (s.a : Int), .int .u64 (s.b : Int)]
theorem zc6 (s : St) : (stc s).length = 2 := rfl
theorem znf : Elem 51 56 2 16 (stv St.zero) := .mk Tryz.underlying51 (by kernel_rfl) rfl (by decide)
abbrev zga := OwnL stc 56 2
theorem nodeVars_any (n : Int) (a : Option Addr) (cap : Nat) (l : List Nd) (w : World) (hok : zdi ⟨n, l⟩ = true) (hl : l.length <= 65536) (hx : NdCells w a l) :
 Calls Tryz.prog 18 #[.agg #[.int .i64 n, .slice a l.length cap]] w fun e w' => ∃ g, e = .returned (.slice (some ⟨g, 0, none⟩) l.length l.length) /\ zga w' w.heap.size (.slice (some ⟨g, 0, none⟩) l.length l.length) (varsL l) /\ Below w.heap.size w w' := by
 have HB0 := lh ((Below.refl w.heap.size w).alloc (Nat.le_refl _) (.cells #[.int .i64 n, .slice a l.length cap] 33));have HX0 := lh (hx.keep HB0.o);have HK := lh hok
 have hl1 : Hid (l.length <= 1073741824) := by show l.length <= 1073741824; omega
 have HCH := lh (fun W (h : NdCells W a l) => (check_any n a cap l W hl1.out h).mono (R' := fun e w' => e = .returned (.int .i64 0) /\ Below W.heap.size W w') (fun e w' ⟨h1, h2⟩ => ⟨by rw [h1]; simp [chk, HK.o], h2⟩));clear hx hok;go_enter Tryz.func18, Tryz.ntmps18;go_wp2_with fail;refine (HCH.o _ HX0.o).mono ?_;rintro e w1 ⟨rfl, hb1⟩;have hbx := Blk.later (Blk.new w #[.int .i64 n, .slice a l.length cap] 33) hb1;have c0 : w1.cell? ⟨w.heap.size, 0, none⟩ = some (.int .i64 n) := hbx.cell 0;have c1 : w1.cell? ⟨w.heap.size, 1, none⟩ = some (.slice a l.length cap) := hbx.cell 1;have HBX := lh hbx;have hz1 := hb1.size
 have HB1 := lh hb1
 have hs1 : w.heap.size + 1 <= w1.heap.size := by simpa using hz1
 clear hbx hb1 hz1
 have hm1 : l.length <= maxLen := by unfold maxLen; omega
 have HM1 := lh hm1;clear hm1;go_wp2_with (at_make; refine mk znf rfl _ _ rfl w1.heap.size .i64 .i64 _ _ l.length rfl rfl rfl rfl (by omega) HM1.o (Nat.le_refl _) stc St.zero rfl ?_);intro w2 hown2 hgrow2;have HO2 := lh hown2;have HB2 := lh ((Below.refl w1.heap.size w1).grown hgrow2 (Nat.le_refl _) (by simp));have c0' := zaa HB2.o c0;have c1' := zaa HB2.o c1;have HX2 := lh ((HX0.o.keep HB1.o).keep HB2.o);clear hown2 hgrow2 c0 c1;go_wp2
 go_loopw [18] (fun i wr => ∃ k : Nat, k <= l.length /\ i = .int .i64 k /\ zga wr w1.heap.size (.slice (some ⟨w1.heap.size, 0, none⟩) l.length l.length) (varsL (l.take k) ++ List.replicate (l.length - k) St.zero) /\ Below w1.heap.size w1 wr) (fun i _ => l.length - (intOf i).toNat)
 case atStart => exact ⟨0, Nat.zero_le _, rfl, by simpa [varsL, varsAcc] using HO2.o, HB2.o⟩
 obtain ⟨k, hk, rfl, hown, hbel⟩ := hrel;have HO := lh hown;have HB := lh hbel;clear hown hbel
 by_cases hlt : k < l.length
 ·obtain ⟨b, off, rfl, hc0⟩ := (HX0.o.keep HB1.o) k hlt;generalize hxe : l.getD k default = x at hc0
  have HXE : Hid (l[k] = x) := by show _ = _; rw [<- hxe]; simp [List.getD_eq_getElem?_getD, hlt]
  clear hxe;obtain ⟨r1, r2, a', cap', r3, pi, pl⟩ := hc0;have p1 := zaa HB.o r1;have p2 := zaa HB.o r2;have p3 := zaa HB.o r3;clear r1 r2 r3;have hin := netOk_ins HK.o hlt;rw [HXE.o] at hin;have HIN := lh hin;clear hin;have HPI := lh pi;clear pi;have hbz : b < wr.heap.size := zak p1;have HSZ := lh HB.o.size;go_wp2_with fail;refine (zbz _ _).mono ?_;rintro e w' ⟨rfl, rfl⟩;go_wp2_with fail;refine (zr7 (some ⟨wr.heap.size + 1, 0, none⟩) 1 [zac x.lit] _ (by simp) ?_).mono ?_
  ·intro i hi
   have : i = 0 := by simpa using hi
   subst this;exact ⟨_, _, rfl, by rw [World.cell?_alloc_at _ _ _ _ (by simp)]; rfl⟩
  rintro e w3 ⟨rfl, hb3⟩;have hb : Below wr.heap.size wr w3 := (((Below.refl _ _).alloc (Nat.le_refl _) _).alloc (by simp) _).trans (hb3.mono (by simp; omega));have hbx3 : Blk w3 wr.heap.size #[.int .i64 x.kind, .int .i64 x.lit, .slice a' x.ins.length cap'] 48 := ((Blk.new wr _ _).alloc _).later hb3;have HLT := lh hlt
  have HVL : Hid (k = (varsL (l.take k)).length) := by show _ = _; rw [varsL_length, List.length_take]; omega
  have HVO := lh (varsL_ok (l.take k))
  have hrep : List.replicate (l.length - k) St.zero = St.zero :: List.replicate (l.length - k - 1) St.zero := by
   rw [<- List.replicate_succ]; congr 1; omega
  have HVS : Hid (varsL (l.take (k + 1)) = varsL (l.take k) ++ [insU (varsL (l.take k)) (ofL [zac x.lit]) x.ins]) := by
   show _ = _; rw [List.take_succ_eq_append_getElem hlt, varsL_snoc, HXE.o]
  have HN : Hid (∀ c : St, l.length = (varsL (l.take k) ++ c :: List.replicate (l.length - k - 1) St.zero).length) := fun c => by
   simp [varsL_length]; omega
  have ho3 := HO.o;have hgz : w1.heap.size < wr.heap.size := ho3.lt.1;rw [hrep] at ho3;clear hrep;generalize varsL (l.take k) = vs at *;generalize hzs : List.replicate (l.length - k - 1) St.zero = zs at *;have HREP := lh hzs;clear hzs;have ho3' := ho3.later hb;have m0 : w3.cell? ⟨w1.heap.size, k * 2, none⟩ = some (.int .u64 ((St.zero).a : Int)) := ho3'.mid HVL.o (HN.o _) zc6 0 (by omega);have m1 : w3.cell? ⟨w1.heap.size, k * 2 + 1, none⟩ = some (.int .u64 ((St.zero).b : Int)) := ho3'.mid HVL.o (HN.o _) zc6 1 (by omega);have f0 := ho3'.fr (HN.o _) (k * 2);have f1 := ho3'.fr (HN.o _) (k * 2 + 1)
  have HO3 := lh ho3';have HB3 := lh hb;have n2 : w3.cell? ⟨wr.heap.size, 2, none⟩ = some (.slice a' x.ins.length cap') := hbx3.cell 2;have hwz : wr.heap.size < w3.heap.size := zak n2;clear ho3 ho3' hb hbx3 hb3 p1 p2 p3;go_wp2;generalize hcu : ofL [zac x.lit] = cu at *;have HCU := lh hcu
  have HCO : Hid cu.ok := by show cu.ok; rw [<- hcu]; exact zvg _
  clear hcu
  obtain ⟨wo, rfl⟩ : ∃ wo : World, wo = wr := ⟨_, rfl⟩
  go_loopw [34] (fun i wi => ∃ m : Nat, m <= x.ins.length /\ i = .int .i64 m /\ zga wi w1.heap.size (.slice (some ⟨w1.heap.size, 0, none⟩) l.length l.length) (vs ++ insU vs cu (x.ins.take m) :: zs) /\ Below w1.heap.size w1 wi) (fun i _ => x.ins.length - (intOf i).toNat)
  case atStart =>
   refine ⟨0, Nat.zero_le _, rfl, ?_, ?_⟩
   ·exact HO3.o.midput2 HVL.o (HN.o _) zc6 cu _ _ rfl
   exact ((HB.o.trans (HB3.o.mono HSZ.o)).setCell (Nat.le_refl _) _).setCell (Nat.le_refl _) _
  obtain ⟨wi, rfl⟩ : ∃ wi : World, wi = wr := ⟨_, rfl⟩
  obtain ⟨m, hm, rfl, hown, hbel⟩ := hrel;have HBi := lh hbel
  by_cases hlm : m < x.ins.length
  ·obtain ⟨b2, off2, rfl, hi0⟩ := HPI.o m hlm;have hi1 := zaa HBi.o hi0;have hq := HIN.o (x.ins.getD m 0) (by simp [List.getD_eq_getElem?_getD, hlm]);generalize hye : x.ins.getD m 0 = y at hi1 hq
   have HYE : Hid (x.ins[m] = y) := by show _ = _; rw [<- hye]; simp [List.getD_eq_getElem?_getD, hlm]
   clear hi0 hye;obtain ⟨hq0, hq1⟩ := hq;obtain ⟨q, rfl⟩ := Int.eq_ofNat_of_zero_le hq0
   have hqk : q < vs.length := by have := HVL.o; omega
   have m0 : wi.cell? ⟨w1.heap.size, k * 2, none⟩ = some (.int .u64 ((insU vs cu (x.ins.take m)).a : Int)) := hown.mid HVL.o (HN.o _) zc6 0 (by omega);have m1 : wi.cell? ⟨w1.heap.size, k * 2 + 1, none⟩ = some (.int .u64 ((insU vs cu (x.ins.take m)).b : Int)) := hown.mid HVL.o (HN.o _) zc6 1 (by omega);have q0 : wi.cell? ⟨w1.heap.size, q * 2, none⟩ = some (.int .u64 (vs[q].a : Int)) := hown.left hqk (HN.o _) zc6 0 (by omega);have q1 : wi.cell? ⟨w1.heap.size, q * 2 + 1, none⟩ = some (.int .u64 (vs[q].b : Int)) := hown.left hqk (HN.o _) zc6 1 (by omega);have f0 := hown.fr (HN.o _) (k * 2);have f1 := hown.fr (HN.o _) (k * 2 + 1)
   have HO4 := lh hown;have HTO : Hid (vs[q].ok) := HVO.o _ (List.getElem_mem hqk);have HCO2 : Hid ((insU vs cu (x.ins.take m)).ok) := insU_ok HVO.o _ HCO.o
   have HST : Hid (insU vs cu (x.ins.take (m + 1)) = (insU vs cu (x.ins.take m)).union vs[q]) := by
    show _ = _; rw [List.take_succ_eq_append_getElem hlm, insU_snoc, HYE.o]; simp [List.getD_eq_getElem?_getD, hqk]
   generalize insU vs cu (x.ins.take m) = cur at *;generalize vs[q] = tq at *;clear hown hbel;go_wp2_with fail
   have HF : Hid (∀ W w5 : World, W.heap = wi.heap -> Below W.heap.size W w5 -> w5.cell? ⟨w1.heap.size, k * 2, none⟩ = some (.int .u64 (cur.a : Int)) /\ w5.cell? ⟨w1.heap.size, k * 2 + 1, none⟩ = some (.int .u64 (cur.b : Int)) /\
    w5.frozen? ⟨w1.heap.size, k * 2, none⟩ = false /\ w5.frozen? ⟨w1.heap.size, k * 2 + 1, none⟩ = false) := fun W w5 hw hb5 => by
    have e1 : ∀ p v, wi.cell? p = some v -> W.cell? p = some v := fun p v h => by simp only [World.cell?, hw]; exact h
    have e2 : ∀ p, W.frozen? p = wi.frozen? p := fun p => by simp only [World.frozen?, hw]
    refine ⟨zaa hb5 (e1 _ _ m0), zaa hb5 (e1 _ _ m1), ?_, ?_⟩
    ·rw [hb5.frozen (p := ⟨w1.heap.size, k * 2, none⟩) (zak (e1 _ _ m0)), e2]; exact f0
    rw [hb5.frozen (p := ⟨w1.heap.size, k * 2 + 1, none⟩) (zak (e1 _ _ m1)), e2]; exact f1
   go_region_with (go_at_call 50; refine (zsh cur tq _ HCO2.o HTO.o).mono ?_; rintro e w5 ⟨rfl, hb5⟩; go_loud (obtain ⟨z0, z1, z2, z3⟩ := HF.o wi.drew w5 rfl hb5))
   all_goals
    have HB5 : Hid (Below wi.heap.size wi w5) := (Below.refl wi.heap.size wi).drew.trans (hb5.mono (Nat.le_refl wi.heap.size));have HSI := lh HBi.o.size;clear z0 z1 z2 z3 hb5;go_wp2;go_roundw
    case rel =>
     refine ⟨m + 1, by omega, by go_num, ?_, ((HBi.o.trans (HB5.o.mono HSI.o)).setCell (Nat.le_refl _) _).setCell (Nat.le_refl _) _⟩;rw [HST.o];exact (HO4.o.later HB5.o).midput2 HVL.o (HN.o _) zc6 _ _ _ rfl
    case measure => simp [intOf]; omega
  have : m = x.ins.length := by omega
  subst this;go_wp2;go_roundw
  case rel =>
   refine ⟨k + 1, by omega, by go_num, ?_, HBi.o⟩;rw [HVS.o, List.append_assoc, show l.length - (k + 1) = l.length - k - 1 by omega, HREP.o];rw [List.take_length] at hown;exact hown
  case measure => simp [intOf]; omega
 have : k = l.length := by omega
 subst this;go_wp2;go_ret;refine ⟨_, rfl, ?_, HB0.o.trans ((HB1.o.mono (by simp)).trans (HB.o.mono (by omega)))⟩;have := HO.o;simp only [Nat.sub_self, List.replicate_zero, List.append_nil, List.take_length] at this;exact this.lower (by omega)
structure Ce where
 a : Option Addr
 c : Nat
 xs : Cl
 i : Int
instance : Inhabited Ce := ⟨⟨none, 0, [], 0⟩⟩
def ce (e : Ce) : List Value := [.slice e.a e.xs.length e.c, .int .i64 e.i]
theorem zhy (e : Ce) : (ce e).length = 2 := rfl
abbrev OwnC (w : World) (base : Nat) (v : Value) (l : List Ce) : Prop := OwnL ce 110 2 w base v l
theorem OwnC.c0 {w : World} {base g cap n : Nat} {l : List Ce} (h : OwnC w base (.slice (some ⟨g, 0, none⟩) n cap) l) (hn : n = l.length) {i : Nat} (hi : i < l.length) : w.cell? ⟨g, i * 2, none⟩ = some (.slice (gd l i).a (gd l i).xs.length (gd l i).c) := by
 have := h.cell hn zhy i 0 hi (by omega);rw [zat hi]; simpa [ce] using this
theorem OwnC.c1 {w : World} {base g cap n : Nat} {l : List Ce} (h : OwnC w base (.slice (some ⟨g, 0, none⟩) n cap) l) (hn : n = l.length) {i : Nat} (hi : i < l.length) : w.cell? ⟨g, i * 2 + 1, none⟩ = some (.int .i64 (gd l i).i) := by
 have := h.cell hn zhy i 1 hi (by omega);rw [zat hi]; simpa [ce] using this
theorem OwnC.swp {w : World} {base g cap n : Nat} {l : List Ce} (h : OwnC w base (.slice (some ⟨g, 0, none⟩) n cap) l) (hn : n = l.length) {i j : Nat} (hi : i < l.length) (hj : j < l.length) :
 OwnC ((((w.setCell ⟨g, i * 2, none⟩ (.slice (gd l j).a (gd l j).xs.length (gd l j).c)).setCell ⟨g, i * 2 + 1, none⟩ (.int .i64 (gd l j).i)).setCell ⟨g, j * 2, none⟩ (.slice (gd l i).a (gd l i).xs.length (gd l i).c)).setCell ⟨g, j * 2 + 1, none⟩ (.int .i64 (gd l i).i)) base (.slice (some ⟨g, 0, none⟩) n cap) (swp l i j) := by
 have h1 := h.put2 hn zhy i hi (gd l j) _ _ rfl;exact h1.put2 (by simpa using hn) zhy j (by simpa using hj) (gd l i) _ _ rfl
theorem zd3 (g cap base a b n : Nat) (l : List Ce) (fv : Value) (w : World) (ho : OwnC w base (.slice (some ⟨g, 0, none⟩) l.length cap) l) (h1 : a + n <= b) (h2 : b + n <= l.length) (hm : l.length <= 1073741824) :
 Calls Tryz.prog 175 #[.slice (some ⟨g, 0, none⟩) l.length cap, .int .i64 (a : Int), .int .i64 (b : Int), .int .i64 (n : Int), fv] w fun e w' => e = .returned (.tuple #[]) /\ OwnC w' base (.slice (some ⟨g, 0, none⟩) l.length cap) (zdb l a b n) /\ Kp (fun y => y = g) w w' := by
 have HO := lh ho;clear ho;go_enter Tryz.func175, Tryz.ntmps175;go_wp2
 go_loopw [10] (fun i wr => ∃ k : Nat, k <= n /\ i = .int .i64 k /\ OwnC wr base (.slice (some ⟨g, 0, none⟩) l.length cap) (zdb l a b k) /\ Kp (fun y => y = g) w wr) (fun i _ => n - (intOf i).toNat)
 case atStart => exact ⟨0, Nat.zero_le _, rfl, HO.o, Kp.refl _ _⟩
 obtain ⟨k, hk, rfl, hown, hkp⟩ := hrel
 by_cases hlt : k < n
 ·have hl := zbo l a b k
  have hia : a + k < (zdb l a b k).length := by omega
  have hib : b + k < (zdb l a b k).length := by omega
  have HS : Hid (zdb l a b (k + 1) = swp (zdb l a b k) (a + k) (b + k)) := rfl;have HN : Hid (l.length = (zdb l a b k).length) := hl.symm;generalize zdb l a b k = m at *;have HOW := lh (hown.swp HN.o hia hib);have HKP := lh hkp;have a0 := hown.c0 HN.o hia;have a1 := hown.c1 HN.o hia;have b0 := hown.c0 HN.o hib;have b1 := hown.c1 HN.o hib;have f1 := hown.fr HN.o ((a + k) * 2);have f2 := hown.fr HN.o ((a + k) * 2 + 1);have f3 := hown.fr HN.o ((b + k) * 2);have f4 := hown.fr HN.o ((b + k) * 2 + 1);have gl := hown.lt.1
  have HKS : Hid (∀ c d e f, Kp (fun y => y = g) w ((((wr.setCell ⟨g, (a + k) * 2, none⟩ c).setCell ⟨g, (a + k) * 2 + 1, none⟩ d).setCell ⟨g, (b + k) * 2, none⟩ e).setCell ⟨g, (b + k) * 2 + 1, none⟩ f)) := fun c d e f => by
   have M := Kp.setCell (M := fun y => y = g);exact Kp.trans (M := fun y => y = g) (Kp.trans (M := fun y => y = g) (Kp.trans (M := fun y => y = g) (Kp.trans (M := fun y => y = g) HKP.o (M _ _ _ rfl)) (M _ _ _ rfl)) (M _ _ _ rfl)) (M _ _ _ rfl)
  have e1 : IntKind.i64.wrap ((a : Int) + (k : Int)) = ((a + k : Nat) : Int) := by rw [IntWalk.i64_in _ (by omega)]; omega
  have e2 : IntKind.i64.wrap ((b : Int) + (k : Int)) = ((b + k : Nat) : Int) := by rw [IntWalk.i64_in _ (by omega)]; omega
  have hka : ((a + k : Nat) : Int) < (l.length : Int) := by omega
  have hkb : ((b + k : Nat) : Int) < (l.length : Int) := by omega
  have hka' : a + k < l.length := by omega
  have hkb' : b + k < l.length := by omega
  have E1 := lh e1;have E2 := lh e2
  have hkn : k + 1 <= n := by omega
  generalize (gd m (a + k)).a = xa at *;generalize (gd m (a + k)).xs.length = xl at *;generalize (gd m (a + k)).c = xc at *;generalize (gd m (a + k)).i = xi at *;generalize (gd m (b + k)).a = ya at *;generalize (gd m (b + k)).xs.length = yl at *;generalize (gd m (b + k)).c = yc at *;generalize (gd m (b + k)).i = yi at *;clear hl hia hib hown hkp e1 e2;go_wp2_with fail;have e1 := E1.o;have e2 := E2.o;go_region
  all_goals
   clear e1 e2;go_wp2;go_roundw
   case rel => exact ⟨k + 1, hkn, by go_num, by rw [HS.o]; exact HOW.o.later (Below.refl _ _).drew, Kp.trans (M := fun y => y = g) (HKS.o _ _ _ _) (Kp.below (Below.refl _ _).drew)⟩
   case measure => simp [intOf]; omega
 have : k = n := by omega
 subst this;have HOE := lh hown;have HKE := lh hkp;clear hown hkp;go_wp2
 go_end0
 exact ⟨rfl, HOE.o, HKE.o⟩
theorem ival {k : IntKind} {a b : Int} (h : a = b) : Value.int k a = .int k b := by rw [h]
def zqh (g cap base : Nat) (l : List Ce) (a i j : Nat) (w : World) (e : Ending) (w' : World) : Prop :=
 ∃ l', IsRot l' l a i j /\ l'.Perm l /\ e = .returned (.tuple #[]) /\ OwnC w' base (.slice (some ⟨g, 0, none⟩) l.length cap) l' /\ Kp (fun y => y = g) w w'
def zw1 (g cap base : Nat) (l : List Ce) (a m b p q : Nat) (w wr : World) : Prop :=
 ∃ cur, OwnC wr base (.slice (some ⟨g, 0, none⟩) l.length cap) cur /\ cur.Perm l /\ (∀ t, gd l (rot a (m - a) (b - m) t) = gd cur (rot (m - p) p q t)) /\ Kp (fun y => y = g) w wr
theorem zp1 (g cap base a m b : Nat) (l : List Ce) (fv : Value) (w : World) (ho : OwnC w base (.slice (some ⟨g, 0, none⟩) l.length cap) l) (h1 : a < m) (h2 : m < b) (h3 : b <= l.length) (hm : l.length <= 1073741824) :
 Calls Tryz.prog 167 #[.slice (some ⟨g, 0, none⟩) l.length cap, .int .i64 (a : Int), .int .i64 (m : Int), .int .i64 (b : Int), fv] w (zqh g cap base l a (m - a) (b - m) w) := by
 have HR : Hid (zw1 g cap base l a m b (m - a) (b - m) w w) := ⟨l, ho, List.Perm.refl _, fun t => by rw [show m - (m - a) = a by omega], Kp.refl _ _⟩
 clear ho;go_enter Tryz.func167, Tryz.ntmps167;go_wp2
 go_loopw [10, 11] (fun i j wr => ∃ p q : Nat, 1 <= p /\ 1 <= q /\ p <= m - a /\ q <= b - m /\ i = .int .i64 p /\ j = .int .i64 q /\ zw1 g cap base l a m b p q w wr) (fun i j _ => (intOf i).toNat + (intOf j).toNat)
 case atStart => exact ⟨m - a, b - m, by omega, by omega, Nat.le_refl _, Nat.le_refl _, ival (by omega), ival (by omega), HR.o⟩
 obtain ⟨p, q, hp1, hq1, hp, hq, rfl, rfl, cur, hown, hperm, hpt, hkp⟩ := hrel;have hln := hperm.length_eq;have HP := lh hperm;have HT := lh hpt;have HK := lh hkp;have HO := lh hown;clear hperm hpt hkp hown
 rcases Nat.lt_trichotomy p q with hlt | heq | hgt
 ·have hne : ((p : Int) != (q : Int)) = true := by simp; omega
  have hne2 : decide ((q : Int) < (p : Int)) = false := by simp; omega
  have hne3 : decide (q < p) = false := by simp; omega
  have HC : Hid (∀ V, OwnC V base (.slice (some ⟨g, 0, none⟩) cur.length cap) cur -> Calls Tryz.prog 175 #[.slice (some ⟨g, 0, none⟩) l.length cap, .int .i64 ((m : Int) - (p : Int)), .int .i64 ((m : Int) + (q : Int) - (p : Int)), .int .i64 (p : Int), fv] V fun e w' => e = .returned (.tuple #[]) /\ OwnC w' base (.slice (some ⟨g, 0, none⟩) cur.length cap) (zdb cur (m - p) (m + q - p) p) /\ Kp (fun y => y = g) V w') := lh fun V h => by
   have h9 := zd3 g cap base (m - p) (m + q - p) p cur fv V h (by omega) (by omega) (by omega);rw [show ((m - p : Nat) : Int) = (m : Int) - (p : Int) by omega, show ((m + q - p : Nat) : Int) = (m : Int) + (q : Int) - (p : Int) by omega, hln] at h9;rw [hln]; exact h9
  rw [<- hln] at HO;go_wp2_with fail;refine Calls.mono (HC.o _ HO.o) ?_;rintro e w' ⟨rfl, hown, hkp⟩;have HO2 := lh hown;have HK2 := lh hkp;clear hown hkp;go_wp2;go_roundw
  case rel =>
   refine ⟨p, q - p, hp1, by omega, hp, by omega, rfl, ival (by omega), zdb cur (m - p) (m + q - p) p, by rw [<- hln]; exact HO2.o, (zet p (by omega) (by omega)).trans HP.o, fun t => ?_, Kp.trans (M := fun y => y = g) HK.o HK2.o⟩;rw [HT.o t, zhe p (by omega) (by omega)]
   congr 1
   unfold rot
   (repeat' split) <;> omega
  case measure => simp [intOf]; omega
 ·subst heq
  have hne : ((p : Int) != (p : Int)) = false := by simp
  have HC : Hid (∀ V, OwnC V base (.slice (some ⟨g, 0, none⟩) cur.length cap) cur -> Calls Tryz.prog 175 #[.slice (some ⟨g, 0, none⟩) l.length cap, .int .i64 ((m : Int) - (p : Int)), .int .i64 (m : Int), .int .i64 (p : Int), fv] V fun e w' => e = .returned (.tuple #[]) /\ OwnC w' base (.slice (some ⟨g, 0, none⟩) cur.length cap) (zdb cur (m - p) m p) /\ Kp (fun y => y = g) V w') := lh fun V h => by
   have h9 := zd3 g cap base (m - p) m p cur fv V h (by omega) (by omega) (by omega);rw [show ((m - p : Nat) : Int) = (m : Int) - (p : Int) by omega, hln] at h9;rw [hln]; exact h9
  rw [<- hln] at HO;go_wp2_with fail;refine Calls.mono (HC.o _ HO.o) ?_;rintro e w' ⟨rfl, hown, hkp⟩;have HO2 := lh hown;have HK2 := lh hkp;clear hown hkp;go_wp2
  go_end0
  refine ⟨zdb cur (m - p) m p, ⟨by rw [zbo, hln], fun t => ?_⟩, (zet p (by omega) (by omega)).trans HP.o, rfl, by rw [<- hln]; exact HO2.o, Kp.trans (M := fun y => y = g) HK.o HK2.o⟩;rw [HT.o t, zhe p (by omega) (by omega)]
  congr 1
  unfold rot
  (repeat' split) <;> omega
 have hne : ((p : Int) != (q : Int)) = true := by simp; omega
 have hne2 : decide ((q : Int) < (p : Int)) = true := by simp; omega
 have hne3 : decide (q < p) = true := by simp; omega
 have HC : Hid (∀ V, OwnC V base (.slice (some ⟨g, 0, none⟩) cur.length cap) cur -> Calls Tryz.prog 175 #[.slice (some ⟨g, 0, none⟩) l.length cap, .int .i64 ((m : Int) - (p : Int)), .int .i64 (m : Int), .int .i64 (q : Int), fv] V fun e w' => e = .returned (.tuple #[]) /\ OwnC w' base (.slice (some ⟨g, 0, none⟩) cur.length cap) (zdb cur (m - p) m q) /\ Kp (fun y => y = g) V w') := lh fun V h => by
  have h9 := zd3 g cap base (m - p) m q cur fv V h (by omega) (by omega) (by omega);rw [show ((m - p : Nat) : Int) = (m : Int) - (p : Int) by omega, hln] at h9;rw [hln]; exact h9
 rw [<- hln] at HO;go_wp2_with fail;refine Calls.mono (HC.o _ HO.o) ?_;rintro e w' ⟨rfl, hown, hkp⟩;have HO2 := lh hown;have HK2 := lh hkp;clear hown hkp;go_wp2;go_roundw
 case rel =>
  refine ⟨p - q, q, by omega, hq1, by omega, hq, ival (by omega), rfl, zdb cur (m - p) m q, by rw [<- hln]; exact HO2.o, (zet q (by omega) (by omega)).trans HP.o, fun t => ?_, Kp.trans (M := fun y => y = g) HK.o HK2.o⟩;rw [HT.o t, zhe q (by omega) (by omega)]
  congr 1
  unfold rot
  (repeat' split) <;> omega
 case measure => simp [intOf]; omega
end Go.Proofs.YtfmmhjphopikgaaGreatDoor
namespace Cen
section
variable {α : Type} [Inhabited α]
def Sd (le : α -> α -> Prop) (l : List α) (a b : Nat) : Prop := ∀ i j, a <= i -> i < j -> j < b -> le (gd l i) (gd l j)
structure Ord (le : α -> α -> Prop) : Prop where
 tot : ∀ x y, le x y \/ le y x
 tr : ∀ x y z, le x y -> le y z -> le x z
theorem Ord.rf {β : Type} {le : β -> β -> Prop} (h : Ord le) (x : β) : le x x := (h.tot x x).elim id id
def insI (k j t : Nat) : Nat := if t < j then t else if t = j then k else if t <= k then t - 1 else t
def Ins (l m : List α) (k j : Nat) : Prop := m.length = l.length /\ ∀ t, gd m t = gd l (insI k j t)
theorem Ins.start (l : List α) (k : Nat) : Ins l l k k := ⟨rfl, fun t => by
 congr 1; unfold insI; (repeat' split) <;> omega⟩
theorem Ins.step {l m : List α} {k j : Nat} (h : Ins l m k j) (hj : 0 < j) (hk : j <= k) (hl : k < l.length) : Ins l (swp m j (j - 1)) k (j - 1) := by
 obtain ⟨h1, h2⟩ := h;refine ⟨by rw [zeu, h1], fun t => ?_⟩;rw [zom (by omega) (by omega)]
 by_cases e1 : t = j - 1
 ·rw [if_pos e1, h2]; congr 1; unfold insI; (repeat' split) <;> omega
 rw [if_neg e1]
 by_cases e2 : t = j
 ·rw [if_pos e2, h2]; congr 1; unfold insI; (repeat' split) <;> omega
 rw [if_neg e2, h2]; congr 1; unfold insI; (repeat' split) <;> omega
theorem Ins.sorted {le : α -> α -> Prop} (O : Ord le) {l m : List α} {a k j : Nat} (h : Ins l m k j) (hs : Sd le l a k) (haj : a <= j) (hjk : j <= k) (h1 : j = a \/ le (gd l (j - 1)) (gd l k)) (h2 : ∀ t, j <= t -> t < k -> le (gd l k) (gd l t)) : Sd le m a (k + 1) := by
 intro x y hx hxy hy;rw [h.2 x, h.2 y]
 by_cases x1 : x < j
 ·rw [show insI k j x = x by unfold insI; rw [if_pos x1]]
  have hxk : le (gd l x) (gd l k) := by
   rcases h1 with h1 | h1
   ·omega
   by_cases e : x = j - 1
   ·rw [e]; exact h1
   exact O.tr _ _ _ (hs x (j - 1) hx (by omega) (by omega)) h1
  by_cases y1 : y < j
  ·rw [show insI k j y = y by unfold insI; rw [if_pos y1]]; exact hs x y hx hxy (by omega)
  by_cases y2 : y = j
  ·rw [show insI k j y = k by unfold insI; (repeat' split) <;> omega]; exact hxk
  rw [show insI k j y = y - 1 by unfold insI; (repeat' split) <;> omega];exact hs x (y - 1) hx (by omega) (by omega)
 rw [show insI k j y = y - 1 by unfold insI; (repeat' split) <;> omega]
 by_cases x2 : x = j
 ·rw [show insI k j x = k by unfold insI; (repeat' split) <;> omega];exact h2 (y - 1) (by omega) (by omega)
 rw [show insI k j x = x - 1 by unfold insI; (repeat' split) <;> omega];exact hs (x - 1) (y - 1) (by omega) (by omega) (by omega)
def movI (k j t : Nat) : Nat := if t < k then t else if t < j then t + 1 else if t = j then k else t
def Mov (l m : List α) (k j : Nat) : Prop := m.length = l.length /\ ∀ t, gd m t = gd l (movI k j t)
theorem Mov.start (l : List α) (k : Nat) : Mov l l k k := ⟨rfl, fun t => by
 congr 1; unfold movI; (repeat' split) <;> omega⟩
theorem Mov.step {l m : List α} {k j : Nat} (h : Mov l m k j) (hk : k <= j) (hl : j + 1 < l.length) : Mov l (swp m j (j + 1)) k (j + 1) := by
 obtain ⟨h1, h2⟩ := h;refine ⟨by rw [zeu, h1], fun t => ?_⟩;rw [zom (by omega) (by omega)]
 by_cases e1 : t = j + 1
 ·rw [if_pos e1, h2]; congr 1; unfold movI; (repeat' split) <;> omega
 rw [if_neg e1]
 by_cases e2 : t = j
 ·rw [if_pos e2, h2]; congr 1; unfold movI; (repeat' split) <;> omega
 rw [if_neg e2, h2]; congr 1; unfold movI; (repeat' split) <;> omega
structure Mg (le : α -> α -> Prop) (l l' : List α) (a b : Nat) : Prop where
 perm : l'.Perm l
 out : ∀ t, t < a \/ b <= t -> gd l' t = gd l t
 inn : ∀ t, a <= t -> t < b -> ∃ s, a <= s /\ s < b /\ gd l' t = gd l s
 so : Sd le l' a b
theorem Mov.merge {le : α -> α -> Prop} {l m : List α} {a b i : Nat} (h : Mov l m a (i - 1)) (hp : m.Perm l) (hi : a + 1 <= i) (hib : i <= b) (hs : Sd le l (a + 1) b) (h1 : ∀ t, a + 1 <= t -> t < i -> le (gd l t) (gd l a)) (h2 : ∀ t, i <= t -> t < b -> le (gd l a) (gd l t)) : Mg le l m a b := by
 refine ⟨hp, fun t ht => ?_, fun t h3 h4 => ⟨_, ?_, ?_, h.2 t⟩, fun x y hx hxy hy => ?_⟩
 ·rw [h.2 t]; congr 1; unfold movI; (repeat' split) <;> omega
 ·unfold movI; (repeat' split) <;> omega
 ·unfold movI; (repeat' split) <;> omega
 rw [h.2 x, h.2 y]
 by_cases x1 : x < i - 1
 ·rw [show movI a (i - 1) x = x + 1 by unfold movI; (repeat' split) <;> omega]
  by_cases y1 : y < i - 1
  ·rw [show movI a (i - 1) y = y + 1 by unfold movI; (repeat' split) <;> omega]; exact hs _ _ (by omega) (by omega) (by omega)
  by_cases y2 : y = i - 1
  ·rw [show movI a (i - 1) y = a by unfold movI; (repeat' split) <;> omega]; exact h1 _ (by omega) (by omega)
  rw [show movI a (i - 1) y = y by unfold movI; (repeat' split) <;> omega]; exact hs _ _ (by omega) (by omega) (by omega)
 rw [show movI a (i - 1) y = y by unfold movI; (repeat' split) <;> omega]
 by_cases x2 : x = i - 1
 ·rw [show movI a (i - 1) x = a by unfold movI; (repeat' split) <;> omega]; exact h2 _ (by omega) (by omega)
 rw [show movI a (i - 1) x = x by unfold movI; (repeat' split) <;> omega]; exact hs _ _ (by omega) (by omega) (by omega)
theorem Ins.merge {le : α -> α -> Prop} (O : Ord le) {l m : List α} {a k i : Nat} (h : Ins l m k i) (hp : m.Perm l) (hi : a <= i) (hik : i <= k) (hs : Sd le l a k) (h1 : ∀ t, a <= t -> t < i -> le (gd l t) (gd l k)) (h2 : ∀ t, i <= t -> t < k -> le (gd l k) (gd l t)) : Mg le l m a (k + 1) := by
 refine ⟨hp, fun t ht => ?_, fun t h3 h4 => ⟨_, ?_, ?_, h.2 t⟩, h.sorted O hs hi hik ?_ h2⟩
 ·rw [h.2 t]; congr 1; unfold insI; (repeat' split) <;> omega
 ·unfold insI; (repeat' split) <;> omega
 ·unfold insI; (repeat' split) <;> omega
 by_cases e : i = a
 ·exact .inl e
 exact .inr (h1 (i - 1) (by omega) (by omega))
theorem Sd.join {le : α -> α -> Prop} {l : List α} {a m b : Nat} (h1 : Sd le l a m) (h2 : Sd le l m b) (h : ∀ i j, a <= i -> i < m -> m <= j -> j < b -> le (gd l i) (gd l j)) : Sd le l a b := by
 intro x y hx hxy hy
 by_cases c : y < m
 ·exact h1 x y hx hxy c
 by_cases d : x < m
 ·exact h x y hx d (by omega) hy
 exact h2 x y (by omega) hxy hy
theorem Mg.nil {le : α -> α -> Prop} {l : List α} {a b : Nat} (h : Sd le l a b) : Mg le l l a b := ⟨List.Perm.refl _, fun _ _ => rfl, fun t h1 h2 => ⟨t, h1, h2, rfl⟩, h⟩
theorem Mg.sym {le : α -> α -> Prop} {l r p q : List α} {a m b mid start n en : Nat} (hn : n = mid + m) (hen : en + start = n) (ham : a <= start) (hsm : start <= m) (hme : m <= en) (heb : en <= b) (hmid1 : a <= mid) (hmid2 : mid <= b)
 (hs1 : Sd le l a m) (hs2 : Sd le l m b)
 (hrp : r.Perm l) (hr : ∀ t, gd r t = gd l (rot start (m - start) (en - m) t))
 (hlo : ∀ t, a <= t -> t < start -> ∀ u, en <= u -> u < b -> le (gd l t) (gd l u)) (hhi : ∀ t, start <= t -> t < m -> ∀ u, m <= u -> u < en -> le (gd l u) (gd l t))
 (hp : Mg le r p a mid) (hq : Mg le p q mid b) : Mg le l q a b := by
 have cross : ∀ i j, a <= i -> i < mid -> mid <= j -> j < b -> le (gd r i) (gd r j) := fun i j h1 h2 h3 h4 => by
  rw [hr i, hr j]
  have ei : rot start (m - start) (en - m) i = if i < start then i else i + (m - start) := by unfold rot; (repeat' split) <;> omega
  have ej : rot start (m - start) (en - m) j = if j < en then j - (en - m) else j := by unfold rot; (repeat' split) <;> omega
  rw [ei, ej]
  by_cases c1 : i < start
  ·rw [if_pos c1]
   by_cases c2 : j < en
   ·rw [if_pos c2]; exact hs1 _ _ (by omega) (by omega) (by omega)
   rw [if_neg c2]; exact hlo i (by omega) c1 j (by omega) h4
  rw [if_neg c1]
  by_cases c2 : j < en
  ·rw [if_pos c2]; exact hhi (j - (en - m)) (by omega) (by omega) (i + (m - start)) (by omega) (by omega)
  rw [if_neg c2]; exact hs2 _ _ (by omega) (by omega) (by omega)
 have hout : ∀ t, t < a \/ b <= t -> gd r t = gd l t := fun t ht => by
  rw [hr t]
  congr 1
  unfold rot; (repeat' split) <;> omega
 have hinn : ∀ t, a <= t -> t < b -> ∃ s, a <= s /\ s < b /\ gd r t = gd l s := fun t h1 h2 => ⟨_, by unfold rot; (repeat' split) <;> omega, by unfold rot; (repeat' split) <;> omega, hr t⟩
 refine ⟨hq.perm.trans (hp.perm.trans hrp), fun t ht => ?_, fun t h1 h2 => ?_, ?_⟩
 ·rw [hq.out t (by omega), hp.out t (by omega), hout t ht]
 ·have step2 : ∀ t, a <= t -> t < b -> ∃ s, a <= s /\ s < b /\ gd p t = gd r s := fun t h1 h2 => by
   by_cases c : t < mid
   ·obtain ⟨s, s1, s2, e⟩ := hp.inn t h1 c;exact ⟨s, s1, by omega, e⟩
   exact ⟨t, h1, h2, hp.out t (by omega)⟩
  have step3 : ∃ s, a <= s /\ s < b /\ gd q t = gd p s := by
   by_cases c : t < mid
   ·exact ⟨t, h1, h2, hq.out t (by omega)⟩
   obtain ⟨s, s1, s2, e⟩ := hq.inn t (by omega) h2;exact ⟨s, by omega, s2, e⟩
  obtain ⟨s, s1, s2, e⟩ := step3;obtain ⟨u, u1, u2, e'⟩ := step2 s s1 s2;obtain ⟨v, v1, v2, e''⟩ := hinn u u1 u2;exact ⟨v, v1, v2, by rw [e, e', e'']⟩
 refine Sd.join (m := mid) (fun x y hx hxy hy => ?_) hq.so fun i j h1 h2 h3 h4 => ?_
 ·rw [hq.out x (by omega), hq.out y (by omega)]; exact hp.so x y hx hxy hy
 rw [hq.out i (by omega)];obtain ⟨s, s1, s2, e⟩ := hq.inn j h3 h4;obtain ⟨u, u1, u2, e'⟩ := hp.inn i h1 h2;rw [e, e', hp.out s (by omega)];exact cross u s u1 u2 s1 s2
end
end Cen
