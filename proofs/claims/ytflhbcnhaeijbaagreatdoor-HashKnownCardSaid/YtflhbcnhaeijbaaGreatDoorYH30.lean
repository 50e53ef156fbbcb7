/- Part of the proofs that laws return true for every input, where the tables that the rows list are laid. Texts: Memb, First, Ha, Hb, Oc, Hh, Hc. -/
import Derived.Test.YtflhbcnhaeijbaaGreatDoorYH29
import Derived.RangeFuncFrom
import Derived.Test.YtflhbcnhaeijbaaGreatDoorYH2
import Derived.Test.YtflhbcnhaeijbaaGreatDoorYH3
import Derived.Test.YtflhbcnhaeijbaaGreatDoorYH4
import Derived.Test.YtflhbcnhaeijbaaGreatDoorYH1
import Derived.BigRegion
import Derived.Deep.RegionHeld3
import Derived.BigQuiet
import Derived.Lib.BitFns
import Derived.Deep.DeepCutAuto
set_option maxHeartbeats 8000000
set_option maxRecDepth 100000
set_option linter.unusedSimpArgs false
set_option linter.unusedVariables false
namespace Go.Proofs.YtflhbcnhaeijbaaGreatDoor
open Go.RowKit Go.Shelf Cen
attribute [local go_sem] Oper.semAt_some
theorem members_any (s : St) (w : World) : Calls Tryz.prog 75 #[stv s] w fun e w' => e = .returned (.func (.func 108) #[] #[.pointer (some ⟨w.heap.size, 0, none⟩)]) /\ w' = w.alloc (.cells #[.int .u64 (s.a : Int), .int .u64 (s.b : Int)] 34) := by
 go_enter Tryz.func75, Tryz.ntmps75;go_wp2;go_ret;exact ⟨rfl, rfl⟩
theorem Dtab.on {w0 W V : World} (h : Dtab w0) (hW : Below w0.heap.size w0 W) (hV : Below w0.heap.size W V) : Dtab V := h.keep (hW.trans hV)
theorem members_stops (n : Nat) (hn : 1 <= n) (Bs : Nat) (s : St) (hs : s.ok) (w0 w : World) (hw0 : Below w0.heap.size w0 w) (hT : Dtab w0) (hBs : Bs < w.heap.size)
 (hB0 : w.cell? ⟨Bs, 0, none⟩ = some (.int .u64 (s.a : Int))) (hB1 : w.cell? ⟨Bs, 1, none⟩ = some (.int .u64 (s.b : Int))) :
 SeqStopsK Fence.wide n Tryz.prog 108 #[.pointer (some ⟨Bs, 0, none⟩)] (fun x : Int => #[Value.int .i64 x]) (Below w0.heap.size) (fun ys => ys = memS s) (fun pre => pre <+: memS s) 128 w := fun l J Jx W hW _ _ hY h0 =>
 members1_in n hn l Bs w0.heap.size s hs J Jx hY W ((hW.cell (p := ⟨Bs, 0, none⟩) hBs).trans hB0) ((hW.cell (p := ⟨Bs, 1, none⟩) hBs).trans hB1) (fun _ hV => hT.on (hw0.trans (hW.mono hw0.size)) hV) h0
attribute [local go_sem] Oper.semAt_some
def firstS (s : St) : Int := (memS s).headD 0
theorem first_any (s : St) (w : World) (hs : s.ok) (hT : Dtab w) : Calls Tryz.prog 47 #[stv s] w fun e w' => e = .returned (.int .i64 (firstS s)) /\ Below w.heap.size w w' := by
 have HT := lh hT;clear hT;refine (callsIn_wide (n := 3)).1 ?_;refine callsIn_of_wp_marks Tryz.func47 rfl trivial ?_ rfl;simp only [Tryz.ntmps47, List.size_toArray, List.length_cons, List.length_nil, Nat.reduceAdd, Nat.reduceSub, Array.replicate_succ, Array.replicate_zero, List.push_toArray, List.append_toArray, List.nil_append, List.cons_append]
 gi_wp2_with (refine ⟨trivial, ?_⟩; gi_at_call 75; refine (callsIn_wide.2 (members_any s _)).mono ?_; rintro e w' ⟨rfl, rfl⟩)
 have q1 := (Blk.new' (w.alloc (.cells #[.int .u64 (s.a : Int), .int .u64 (s.b : Int)] 34)) (b := w.heap.size + 1) (by simp only [World.size_alloc]) #[.int .i64 0] 3).alloc (.cells #[.int .u64 (s.a : Int), .int .u64 (s.b : Int)] 34);have hB0 : Below w.heap.size w (((w.alloc (.cells #[.int .u64 (s.a : Int), .int .u64 (s.b : Int)] 34)).alloc (.cells #[.int .i64 0] 3)).alloc (.cells #[.int .u64 (s.a : Int), .int .u64 (s.b : Int)] 34)) := (((Below.refl _ w).alloc (Nat.le_refl _) _).alloc (by simp) _).alloc (by simp; omega) _;have q2 := Blk.new' ((w.alloc (.cells #[.int .u64 (s.a : Int), .int .u64 (s.b : Int)] 34)).alloc (.cells #[.int .i64 0] 3)) (b := w.heap.size + 1 + 1) (by simp only [World.size_alloc]) #[.int .u64 (s.a : Int), .int .u64 (s.b : Int)] 34
 refine wpIn_rangeFunc_ownF rfl (by omega) (gf := 108) (lb := #[.pointer (some ⟨w.heap.size + 1 + 1, 0, none⟩)]) rfl trivial (enters_of Tryz.func108 (by kernel_rfl) rfl)
  (members_stops (3 - 1) (by omega) (w.heap.size + 1 + 1) s hs w _ hB0 HT.o q2.lt (q2.cell 0) (q2.cell 1)) belowK_t (belowK_b (by simp; omega)) (Below.refl _ _) (fun _ => rfl)
  (fun pre W => (pre = [] /\ W.cell? ⟨w.heap.size + 1, 0, none⟩ = some (.int .i64 0) /\ W.frozen? ⟨w.heap.size + 1, 0, none⟩ = false) /\ Below w.heap.size w W)
  (fun c pre W => (c = .ret /\ ∃ x, pre = [x] /\ W.cell? ⟨w.heap.size + 1, 0, none⟩ = some (.int .i64 x)) /\ Below w.heap.size w W)
  (OwnFrom.and (Own.from (fun s A B row hs hg hr => ⟨hs.1, cell_kept hs.2.1 hg hr, (frozen_kept hs.2.1 hg hr).trans hs.2.2⟩) _) (ownFrom_below (Nat.le_refl _) (by simp; omega)))
  (fun c => OwnFrom.and (Own.from (fun s A B row hs hg hr => ⟨hs.1, by obtain ⟨_, x, h1, h2⟩ := hs; exact ⟨x, h1, cell_kept h2 hg hr⟩⟩) _) (ownFrom_below (Nat.le_refl _) (by simp; omega)))
  ⟨⟨rfl, q1.cell 0, q1.fr 0⟩, hB0⟩
  (fun x => { tmps := #[stv s, .pointer (some ⟨w.heap.size, 0, none⟩), .pointer (some ⟨w.heap.size + 1, 0, none⟩), .int .i64 x, stv s, .func (.func 108) #[] #[.pointer (some ⟨w.heap.size + 1 + 1, 0, none⟩)], .int .i64 x, undef], defers := [] }) ?assign ?body ?done ?stop
 case assign =>
  intro l x W K hK
  gi_wp2
  exact hK
 case body =>
  rintro l pre x W ⟨⟨rfl, hcr, hfr⟩, hB⟩ _
  gi_wp2
  exact ⟨KeepsOthers.setCell _ _ _, ⟨rfl, x, rfl, World.cell?_setCell_same' _ _ _ (by rw [hcr]; rfl)⟩, hB.setCell (p := ⟨w.heap.size + 1, 0, none⟩) (by simp) _⟩
 case done =>
  rintro D ys W hD rfl ⟨⟨hne, hcr, hfr⟩, hB⟩ hK
  gi_wp2
  have hK' := (KeepsOthers.setCell W ⟨w.heap.size + 1, 0, none⟩ (.int .i64 0)).same D _ hK rfl;refine ⟨by simp, .inl ⟨_, _, rfl, run_takeDeferred hK', ?_⟩⟩;have hc5 := cell_kept (World.cell?_setCell_same' W ⟨w.heap.size + 1, 0, none⟩ (.int .i64 0) (by rw [hcr]; rfl)) (grownBy_putObj' _ D (.deferred none)) (fun r e => by cases e; exact ⟨_, hK', rfl⟩);refine ⟨.int .i64 0, ?_, by unfold firstS; rw [hne]; rfl, (hB.setCell (p := ⟨w.heap.size + 1, 0, none⟩) (by simp) _).trans (belowK_b (w := w) (Nat.le_refl _) _ D _ _ (by simp at hD; omega) hK' rfl rfl)⟩
  simp [results, Tryz.f47, go_sem, hc5]
 case stop =>
  rintro D c pre W hD hpre ⟨⟨rfl, x, rfl, hcr⟩, hB⟩ hK
  gi_wp2
  refine ⟨by simp, .inl ⟨_, _, rfl, run_takeDeferred hK, ?_⟩⟩;have hc5 := cell_kept hcr (grownBy_putObj' _ D (.deferred none)) (fun r e => by cases e; exact ⟨_, hK, rfl⟩);refine ⟨.int .i64 x, ?_, by obtain ⟨t, ht⟩ := hpre; unfold firstS; rw [<- ht]; rfl, hB.trans (belowK_b (w := w) (Nat.le_refl _) W D _ _ (by simp at hD; omega) hK rfl rfl)⟩
  simp [results, Tryz.f47, go_sem, hc5]
end Go.Proofs.YtflhbcnhaeijbaaGreatDoor
namespace Go.Proofs.YtflhbcnhaeijbaaGreatDoor
open Go.RowKit Cen
def xorS (s t : St) : St := ⟨s.a ^^^ t.a, s.b ^^^ t.b⟩
theorem xor_lt_U64 {x y : Nat} (hx : x < U64) (hy : y < U64) : x ^^^ y < U64 := by rw [zm6] at *; exact Nat.xor_lt_two_pow hx hy
theorem xorS_ok {s t : St} (h : s.ok) (k : t.ok) : (xorS s t).ok := ⟨xor_lt_U64 h.1 k.1, xor_lt_U64 h.2 k.2⟩
structure Pr where
 v : St
 odd : Bool
instance : Inhabited Pr := ⟨⟨St.zero, false⟩⟩
instance : DecidableEq Pr := fun x y => decidable_of_iff (x.v = y.v /\ x.odd = y.odd) (by cases x; cases y; simp)
def Pr.zero : Pr := ⟨St.zero, false⟩
def Pr.ok (p : Pr) : Prop := p.v.ok
def sumP (p q : Pr) : Pr := ⟨xorS p.v q.v, p.odd != q.odd⟩
theorem sumP_ok {p q : Pr} (h : p.ok) (k : q.ok) : (sumP p q).ok := xorS_ok h k
theorem Pr.zero_ok : Pr.zero.ok := St.zero_ok
def rdMap (p : Pr) (rest : List Pr) : List Pr := rest.map fun q => if q.v.mem (firstS p.v) then sumP p q else q
def rdStep (p : Pr) (rest : List Pr) : List Pr := (rdMap p rest).filter fun q => !decide (q = Pr.zero)
def rdF : Nat -> List Pr -> List Pr -> List Pr × Bool
 | 0, _, out => (out, true)
 | _ + 1, [], out => (out, true)
 | f + 1, p :: rest, out => if firstS p.v = 0 /\ p.odd = true then ([], false) else rdF f (rdStep p rest) (if 0 < firstS p.v then out ++ [p] else out)
def reducedF (l : List Pr) : List Pr × Bool := rdF (l.length + 1) l []
structure Ct where
 e : Nat
 o : Nat
instance : Inhabited Ct := ⟨⟨0, 0⟩⟩
instance : DecidableEq Ct := fun x y => decidable_of_iff (x.e = y.e /\ x.o = y.o) (by cases x; cases y; simp)
def Ct.s (c : Ct) : Nat := c.e + c.o
def bothN (a b : Ct) : Ct := ⟨a.e * b.e + a.o * b.o, a.e * b.o + a.o * b.e⟩
def bothO (a b : Ct) : Option Ct := if a.s < 65536 /\ b.s < 65536 /\ a.s * b.s < 65536 then some (bothN a b) else none
def addO (a b : Ct) : Option Ct := if a.s + b.s < 65536 then some ⟨a.e + b.e, a.o + b.o⟩ else none
def freeN (k : Nat) (meets : Bool) : Ct := if meets then ⟨2 ^ (k - 1), 2 ^ (k - 1)⟩ else ⟨2 ^ k, 0⟩
theorem bothN_s (a b : Ct) : (bothN a b).s = a.s * b.s := by
 unfold bothN Ct.s;simp only [Nat.add_mul, Nat.mul_add]; omega
theorem bothO_some {a b c : Ct} (h : bothO a b = some c) : c = bothN a b /\ a.s < 65536 /\ b.s < 65536 /\ a.s * b.s < 65536 := by
 unfold bothO at h
 split at h
 ·rename_i h1; simp at h; exact ⟨h.symm, h1⟩
 simp at h
theorem addO_some {a b c : Ct} (h : addO a b = some c) : c = ⟨a.e + b.e, a.o + b.o⟩ /\ a.s + b.s < 65536 := by
 unfold addO at h
 split at h
 ·rename_i h1; simp at h; exact ⟨h.symm, h1⟩
 simp at h
theorem xor64 {x y : Nat} (hx : x < U64) (hy : y < U64) : bits .xor .u64 (x : Int) (y : Int) = ((x ^^^ y : Nat) : Int) := u64_xor_nat x y hx hy
def prv (p : Pr) : Value := .agg #[.int .u64 (p.v.a : Int), .int .u64 (p.v.b : Int), .bool p.odd]
def prc (p : Pr) : List Value := [.int .u64 (p.v.a : Int), .int .u64 (p.v.b : Int), .bool p.odd]
theorem prc_len (p : Pr) : (prc p).length = 3 := rfl
theorem prc_one (p : Pr) : ∀ u ∈ prc p, u.oneCell' = true := by intro u hu; simp [prc] at hu; rcases hu with rfl | rfl | rfl <;> rfl
theorem elemPr : Elem 24 36 3 24 (prv Pr.zero) := .mk Tryz.underlying24 (by kernel_rfl) rfl (by decide)
abbrev OwnP := OwnL prc 36 3
def PrCells (w : World) (a : Option Addr) (l : List Pr) : Prop := ∀ i, i < l.length -> ∃ b off, a = some ⟨b, off, none⟩ /\ w.cell? ⟨b, off + i * 3, none⟩ = some (.int .u64 ((l.getD i default).v.a : Int)) /\ w.cell? ⟨b, off + i * 3 + 1, none⟩ = some (.int .u64 ((l.getD i default).v.b : Int)) /\ w.cell? ⟨b, off + i * 3 + 2, none⟩ = some (.bool (l.getD i default).odd)
theorem PrCells.keep {w w' : World} {a : Option Addr} {l : List Pr} (h : PrCells w a l) (hb : Below w.heap.size w w') : PrCells w' a l := fun i hi =>
 let ⟨b, off, e, h0, h1, h2⟩ := h i hi; ⟨b, off, e, zaa hb h0, zaa hb h1, zaa hb h2⟩
theorem PrCells.nil (w : World) (a : Option Addr) : PrCells w a [] := fun _ h => absurd h (Nat.not_lt_zero _)
theorem OwnP.pc {w : World} {base : Nat} {v : Value} {l : List Pr} (h : OwnP w base v l) : ∃ a cap, v = .slice a l.length cap /\ PrCells w a l := by
 rcases h.shape with ⟨h1, h2⟩ | ⟨g, cap, h1, _⟩
 ·subst h2; exact ⟨none, 0, h1, PrCells.nil _ _⟩
 subst h1;refine ⟨some ⟨g, 0, none⟩, cap, rfl, fun i hi => ?_⟩
 have e : l.getD i default = l[i] := by simp [List.getD_eq_getElem?_getD, hi]
 have c0 := h.cell rfl prc_len i 0 hi (by omega);have c1 := h.cell rfl prc_len i 1 hi (by omega);have c2 := h.cell rfl prc_len i 2 hi (by omega);rw [e];refine ⟨g, 0, rfl, ?_, ?_, ?_⟩
 ·rw [Nat.zero_add]; exact c0
 ·rw [Nat.zero_add]; exact c1
 rw [Nat.zero_add]; exact c2
theorem sumP_any (p q : Pr) (w : World) (hp : p.ok) (hq : q.ok) :
 Calls Tryz.prog 26 #[prv p, prv q] w fun e w' => e = .returned (prv (sumP p q)) /\ Below w.heap.size w w' := by
 have e1 := xor64 hp.1 hq.1;have e2 := xor64 hp.2 hq.2;obtain ⟨⟨pa, pb⟩, po⟩ := p;obtain ⟨⟨qa, qb⟩, qo⟩ := q;simp only at e1 e2;clear hp hq;unfold prv;go_enter Tryz.func26, Tryz.ntmps26;go_wp2
 exact bodyPost_ret (v := prv (sumP ⟨⟨pa, pb⟩, po⟩ ⟨⟨qa, qb⟩, qo⟩)) (by simp [results, Tryz.results26, go_sem, sumP, xorS, prv]; cases po <;> cases qo <;> rfl) rfl ⟨rfl, by
  exact ((((((Below.refl _ _).alloc (Nat.le_refl _) _).alloc (by simp) _).alloc (by simp; omega) _))) ⟩
theorem run_equalIn_pr (d : Nat) (a b : Int) (x : Bool) (c e : Int) (y : Bool) (w : World) :
 (Op.equalIn (d + 3) 36 (.agg #[.int .u64 a, .int .u64 b, .bool x]) (.agg #[.int .u64 c, .int .u64 e, .bool y])).run Tryz.prog w = .ok ((a == c && b == e) && x == y) w := by
 have hp0 : ∀ (x y z : Value) w, (part 34 #[x, y, z] 0).run Tryz.prog w = .ok (.agg #[x, y]) w := fun x y z w => by kernel_rfl
 have hp2 : ∀ (x y z : Value) w, (part 4 #[x, y, z] 2).run Tryz.prog w = .ok z w := fun x y z w => by kernel_rfl
 rw [run_equalIn_struct w (d + 2) _ _ _ (by kernel_rfl) (by kernel_rfl)];rw [show (Tryz.prog.fieldsOf 36).toList = [{ name := "Vars", type := 34, offset := 0, embedded := false, tag := "", pkgPath := "", byteOffset := 0 }, { name := "Odd", type := 4, offset := 2, embedded := false, tag := "", pkgPath := "", byteOffset := 16 }] by kernel_rfl];simp only [Op.eqFields, Sem.run_bind, Sem.run_ite, hp0, hp2, Result.andThen_ok, zel, run_equalIn_bool' w (d + 1) 4 x y Tryz.underlying4]
 by_cases h : (a == c && b == e) = true
 ·rw [h]; cases hxy : (x == y) <;> simp
 rw [Bool.not_eq_true] at h; rw [h]; simp
def eqPr (p q : Pr) : Bool := decide (p = q)
theorem eqPr_int (p q : Pr) : (((p.v.a : Int) == (q.v.a : Int) && (p.v.b : Int) == (q.v.b : Int)) && p.odd == q.odd) = eqPr p q := by
 unfold eqPr;rw [Bool.eq_iff_iff];obtain ⟨⟨a, b⟩, x⟩ := p;obtain ⟨⟨c, e⟩, y⟩ := q
 simp; omega
theorem run_neq_pr (p q : Pr) (w : World) : (binOp .neq 36 (prv p) (prv q)).run Tryz.prog w = .ok (.bool !(eqPr p q)) w := by
 unfold prv;rw [run_neq_struct, run_equalIn_pr 9997];simp only [Result.andThen_ok, eqPr_int]
theorem run_eql_pr (p q : Pr) (w : World) : (binOp .eql 36 (prv p) (prv q)).run Tryz.prog w = .ok (.bool (eqPr p q)) w := by
 unfold prv;rw [run_eql_struct, run_equalIn_pr 9997];simp only [Result.andThen_ok, eqPr_int]
theorem eqGuard_pr : Tryz.prog.eqGuardType Tryz.prog.depth 36 = false := by kernel_rfl
theorem reduced1_any (p : Pr) (w : World) : Calls Tryz.prog 50 #[prv p] w fun e w' => e = .returned (.bool (!eqPr p Pr.zero)) /\ Below w.heap.size w w' := by
 have hq : ∀ w : World, (binOp .neq 36 (.agg #[.int .u64 (p.v.a : Int), .int .u64 (p.v.b : Int), .bool p.odd]) (.agg #[.int .u64 0, .int .u64 0, .bool false])).run Tryz.prog w = .ok (.bool !(eqPr p Pr.zero)) w := fun w => run_neq_pr p Pr.zero w
 have hgd := eqGuard_pr;unfold prv;generalize eqPr p Pr.zero = r at *;go_enter Tryz.func50, Tryz.ntmps50;go_wp2;go_ret;exact ⟨rfl, (Below.refl _ _).alloc (Nat.le_refl _) _⟩
def oc64F (x : Int) : Int :=
 let a := IntKind.u64.wrap (bits .and .u64 (x / 2) 6148914691236517205 + bits .and .u64 x 6148914691236517205)
 let b := IntKind.u64.wrap (bits .and .u64 (a / 4) 3689348814741910323 + bits .and .u64 a 3689348814741910323)
 let c := bits .and .u64 (IntKind.u64.wrap (b / 16 + b)) 1085102592571150095
 let d := IntKind.u64.wrap (c + c / 256)
 let e := IntKind.u64.wrap (d + d / 65536)
 let f := IntKind.u64.wrap (e + e / 4294967296)
 bits .and .i64 (wrap64 f) 127
theorem oc64_all : ∀ x : Nat, x < 256 -> oc64F (x : Int) = ((Lib.onesCount x : Nat) : Int) := by decide +kernel
theorem oc64_any (x : Nat) (hx : x < 256) (w : World) : Calls Tryz.prog 112 #[.int .u64 (x : Int)] w fun e w' => e = .returned (.int .i64 ((Lib.onesCount x : Nat) : Int)) /\ w = w' := by
 have HE := lh (oc64_all x hx);clear hx;go_enter Tryz.func112, Tryz.ntmps112;go_wp2;exact bodyPost_ret (v := .int .i64 (oc64F (x : Int))) (by simp [results, Tryz.results112, go_sem]; rfl) rfl ⟨by rw [HE.o], rfl⟩
theorem drewN_b {B : Nat} (w : World) (n : Nat) : Below B w (w.drewN n) := let h := Below.refl B w; ⟨h.os, h.tape, h.output, h.size, h.block⟩
def lenA (s : St) : Nat := Lib.onesCount s.a
theorem vlen_any (s : St) (w : World) (ha : s.a < 256) (hb : s.b = 0) : Calls Tryz.prog 77 #[stv s] w fun e w' => e = .returned (.int .i64 (lenA s : Int)) /\ Below w.heap.size w w' := by
 obtain ⟨a, b⟩ := s;simp only at ha hb;subst hb;have HO := lh (fun V => oc64_any a ha V)
 have HZ : Hid (∀ V : World, Calls Tryz.prog 112 #[.int .u64 0] V fun e w' => e = .returned (.int .i64 0) /\ V = w') := fun V => by
  have h := oc64_any 0 (by decide) V;rw [show ((Lib.onesCount 0 : Nat) : Int) = 0 by decide] at h;exact h
 have hle : Lib.onesCount a <= 8 := Lib.onesCount_le8 ⟨a, ha⟩;have HR : Hid (lenA ⟨a, 0⟩ = Lib.onesCount a) := rfl;generalize lenA ⟨a, 0⟩ = r at *;generalize Lib.onesCount a = k at *;unfold stv;simp only;rw [show ((0 : Nat) : Int) = 0 from rfl];clear ha;go_enter Tryz.func77, Tryz.ntmps77;go_wp2_with fail
 go_quiet (first | (with_reducible exact Calls.quiet_of_same ((HO.o _).mono fun _ _ hh => ⟨hh.1, hh.2.symm⟩)) | (with_reducible exact Calls.quiet_of_same ((HZ.o _).mono fun _ _ hh => ⟨hh.1, hh.2.symm⟩)))
 go_wp2;go_ret;exact ⟨by rw [HR.o]; rfl, ((Below.refl _ _).alloc (Nat.le_refl _) _).trans (drewN_b _ _)⟩
def U8Cells (w : World) (a : Option Addr) (bs : List Nat) : Prop := ∀ i, i < bs.length -> ∃ b off, a = some ⟨b, off, none⟩ /\ w.cell? ⟨b, off + i, none⟩ = some (.int .u8 ((bs.getD i 0 : Nat) : Int)) /\ bs.getD i 0 < 256
theorem U8Cells.keep {w w' : World} {a : Option Addr} {bs : List Nat} (h : U8Cells w a bs) (hb : Below w.heap.size w w') : U8Cells w' a bs := fun i hi =>
 let ⟨b, off, e, h0, h1⟩ := h i hi; ⟨b, off, e, zaa hb h0, h1⟩
def bitN (bs : List Nat) (i : Nat) : Bool := bs.getD (i / 8) 0 / 2 ^ (7 - i % 8) % 2 == 1
def seedsF (n m : Int) : Int := if n < 0 \/ 128 < n \/ m < 0 \/ 16 < m then 0 else m * (n + 1)
theorem bit_and : ∀ b, b < 256 -> ∀ k, k < 8 -> (bits .and .u8 ((b / 2 ^ k : Nat) : Int) 1 == 1) = (b / 2 ^ k % 2 == 1) := by decide +kernel
theorem sh_cast (x k : Nat) : ((x : Int) / 2 ^ k) = ((x / 2 ^ k : Nat) : Int) := by rw [Int.natCast_ediv, Int.natCast_pow]; rfl
theorem sh_tmod (x k : Nat) : (((x : Int) / 2 ^ k).tmod 2 == 1) = (x / 2 ^ k % 2 == 1) := by
 rw [sh_cast, Int.tmod_eq_emod_of_nonneg (Int.natCast_nonneg _), Bool.eq_iff_iff];simp only [beq_iff_eq];omega
theorem bit_any (a : Option Addr) (cap : Nat) (bs : List Nat) (i : Nat) (w : World) (hl : bs.length <= 1073741824) (hx : U8Cells w a bs) (hi : i / 8 < bs.length) :
 Calls Tryz.prog 17 #[.slice a bs.length cap, .int .i64 (i : Int)] w fun e w' => e = .returned (.bool (bitN bs i)) /\ w = w' := by
 obtain ⟨b, off, rfl, c0, hb⟩ := hx _ hi;have HB : Hid (bitN bs i = (bs.getD (i / 8) 0 / 2 ^ (7 - i % 8) % 2 == 1)) := rfl;clear hx;generalize bs.getD (i / 8) 0 = x at *
 obtain ⟨q, hq⟩ : ∃ q, q = i / 8 := ⟨_, rfl⟩
 obtain ⟨r, hr⟩ : ∃ r, r = i % 8 := ⟨_, rfl⟩
 have h8 : r < 8 := by omega
 have e1 : (i : Int) / 8 = (q : Int) := by omega
 have e2 : (i : Int) % 8 = (r : Int) := by omega
 rw [<- hq] at c0 hi;rw [<- hr] at HB
 have hqi : (q : Int) < (bs.length : Int) := by omega
 have hi0 : 0 <= (i : Int) := by omega
 clear hq hr;go_enter Tryz.func17, Tryz.ntmps17;go_wp2;exact bodyPost_ret (v := .bool (((x : Int) / 2 ^ (7 - r)).tmod 2 == 1)) (by simp [results, Tryz.results17, go_sem]) rfl ⟨by rw [HB.o, sh_tmod], rfl⟩
theorem seeds_any (n m : Int) (w : World) : Calls Tryz.prog 8 #[.int .i64 n, .int .i64 m] w fun e w' => e = .returned (.int .i64 (seedsF n m)) /\ w = w' := by
 have HS : Hid (seedsF n m = if n < 0 \/ 128 < n \/ m < 0 \/ 16 < m then 0 else m * (n + 1)) := rfl
 by_cases h : n < 0 \/ 128 < n \/ m < 0 \/ 16 < m
 ·have HE : Hid (seedsF n m = 0) := by show _ = _; rw [HS.o, if_pos h]
  clear HS
  have h1 : n < 0 \/ ¬ n < 0 := by omega
  rcases h1 with h1 | h1
  ·go_enter Tryz.func8, Tryz.ntmps8;go_wp2;go_ret;exact ⟨by rw [HE.o]; rfl, rfl⟩
  have h2 : 128 < n \/ ¬ 128 < n := by omega
  rcases h2 with h2 | h2
  ·go_enter Tryz.func8, Tryz.ntmps8;go_wp2;go_ret;exact ⟨by rw [HE.o]; rfl, rfl⟩
  have h3 : m < 0 \/ ¬ m < 0 := by omega
  rcases h3 with h3 | h3
  ·go_enter Tryz.func8, Tryz.ntmps8;go_wp2;go_ret;exact ⟨by rw [HE.o]; rfl, rfl⟩
  have h4 : 16 < m := by omega
  go_enter Tryz.func8, Tryz.ntmps8;go_wp2;go_ret;exact ⟨by rw [HE.o]; rfl, rfl⟩
 have HE : Hid (seedsF n m = m * (n + 1)) := by show _ = _; rw [HS.o, if_neg h]
 have h1 : ¬ n < 0 := by omega
 have h2 : ¬ 128 < n := by omega
 have h3 : ¬ m < 0 := by omega
 have h4 : ¬ 16 < m := by omega
 have h5 : m * (n + 1) <= 2064 := by
  have a1 : m * (n + 1) <= 16 * (n + 1) := Int.mul_le_mul_of_nonneg_right (by omega) (by omega);omega
 have h6 : 0 <= m * (n + 1) := Int.mul_nonneg (by omega) (by omega);clear h HS;go_enter Tryz.func8, Tryz.ntmps8;go_wp2;go_ret;exact ⟨by rw [HE.o]; rfl, rfl⟩
theorem next_any (A S : Nat) (a : Option Addr) (cap : Nat) (bs : List Nat) (i : Nat) (w : World) (hl : bs.length <= 1073741824) (hx : U8Cells w a bs) (hi : i / 8 < bs.length) (hA : Blk w A #[.int .i64 ((i : Int) - 1)] 3) (hS : Blk w S #[.slice a bs.length cap] 22) (hAS : A ≠ S) (hab : ∀ q, a = some q -> q.block ≠ A) :
 Calls Tryz.prog 15 #[.pointer (some ⟨A, 0, none⟩), .pointer (some ⟨S, 0, none⟩)] w fun e w' => e = .returned (.bool (bitN bs i)) /\ Blk w' A #[.int .i64 (i : Int)] 3 /\ Kp (fun y => y = A) w w' := by
 obtain ⟨b, off, rfl, c0, hb⟩ := hx _ hi;have HB : Hid (bitN bs i = (bs.getD (i / 8) 0 / 2 ^ (7 - i % 8) % 2 == 1)) := rfl;have hbA : b ≠ A := hab _ rfl;clear hx hab;generalize bs.getD (i / 8) 0 = x at *
 obtain ⟨q, hq⟩ : ∃ q, q = i / 8 := ⟨_, rfl⟩
 obtain ⟨r, hr⟩ : ∃ r, r = i % 8 := ⟨_, rfl⟩
 have h8 : r < 8 := by omega
 have e1 : (i : Int) / 8 = (q : Int) := by omega
 have e2 : (i : Int) % 8 = (r : Int) := by omega
 have HE := lh (bit_and x hb (7 - r) (by omega));rw [<- hq] at c0 hi;rw [<- hr] at HB
 have hqi : (q : Int) < (bs.length : Int) := by omega
 have hi0 : 0 <= (i : Int) := by omega
 have hii : (i : Int) < 8 * 1073741824 := by omega
 clear hq hr;have HA := lh hA;have a0 := hA.cell 0;have af := hA.fr 0;have al := hA.lt;have s0 := hS.cell 0;have sl := hS.lt;clear hA hS;go_enter Tryz.func15, Tryz.ntmps15;go_wp2_with fail;have hw1 : Blk (w.setCell ⟨A, 0, none⟩ (.int .i64 (i : Int))) A #[.int .i64 (i : Int)] 3 := HA.o.set 0 _;have hk1 : Kp (fun y => y = A) w (w.setCell ⟨A, 0, none⟩ (.int .i64 (i : Int))) := Kp.setCell _ _ _ rfl;have HK1 := lh hk1;have HW1 := lh hw1;have d0 := hk1.cell c0 hbA;have d1 := hk1.cell s0 (by dsimp only; omega);have d2 := hw1.cell 0;have z0 := hw1.lt
 have z1 : S < (w.setCell ⟨A, 0, none⟩ (.int .i64 (i : Int))).heap.size := by rw [World.size_setCell']; exact sl
 clear a0 af al s0 sl c0 hk1 hw1 HA;generalize w.setCell ⟨A, 0, none⟩ (.int .i64 (i : Int)) = w1 at *
 go_quiet (fail)
 go_wp2;go_ret;exact ⟨by rw [HB.o, <- HE.o, <- sh_cast]; rfl, HW1.o.later (drewN_b _ _), HK1.o.trans (Kp.below (drewN_b _ _))⟩
theorem PrCells.at {w : World} {a : Option Addr} {l : List Pr} (h : PrCells w a l) {k : Nat} (hk : k < l.length) : ∃ b off, a = some ⟨b, off, none⟩ /\ w.cell? ⟨b, off + k * 3, none⟩ = some (.int .u64 ((l[k]).v.a : Int)) /\ w.cell? ⟨b, off + k * 3 + 1, none⟩ = some (.int .u64 ((l[k]).v.b : Int)) /\ w.cell? ⟨b, off + k * 3 + 2, none⟩ = some (.bool (l[k]).odd) := by
 have := h k hk
 rwa [show l.getD k default = l[k] by simp [List.getD_eq_getElem?_getD, hk]] at this
def PrPost (L : List Pr) (w : World) (e : Ending) (w' : World) : Prop := ∃ v, e = .returned v /\ OwnP w' w.heap.size v L /\ Below w.heap.size w w'
def keepP (q : Pr) : Bool := !eqPr q Pr.zero
theorem filter_any (a : Option Addr) (cap : Nat) (l : List Pr) (w : World) (hl : l.length <= 1073741824) (hx : PrCells w a l) :
 Calls Tryz.prog 49 #[.slice a l.length cap, .func (.func 50) #[] #[]] w (PrPost (l.filter keepP) w) := by
 have HX := lh hx;clear hx
 have HLF : Hid (∀ k, (l.take k).filter keepP = (l.take k).filter keepP) := fun _ => rfl
 go_enter Tryz.func49, Tryz.ntmps49;go_wp2_with fail
 go_loopw [5, 10] (fun v i wr => ∃ (k : Nat) (va : Option Addr) (vc : Nat), k <= l.length /\ i = .int .i64 k /\ v = .slice va ((l.take k).filter keepP).length vc /\ OwnP wr w.heap.size (.slice va ((l.take k).filter keepP).length vc) ((l.take k).filter keepP) /\ Below w.heap.size w wr) (fun _ i _ => l.length - (intOf i).toNat)
 case atStart => exact ⟨0, none, 0, Nat.zero_le _, rfl, rfl, OwnL.nil _ _, Below.refl _ _⟩
 obtain ⟨k, va, vc, hk, rfl, rfl, hown, hb⟩ := hrel;have HO := lh hown;have HB := lh hb;have HZ := lh hb.size;have HXR := lh (HX.o.keep hb);clear hown hb
 by_cases hlt : k < l.length
 ·obtain ⟨b2, off2, hae, c0, c1, c2⟩ := HXR.o.at hlt
  have hki : (k : Int) < (l.length : Int) := by omega
  have zb := zak c0
  have HNX : Hid ((l.take (k + 1)).filter keepP = if keepP l[k] then (l.take k).filter keepP ++ [l[k]] else (l.take k).filter keepP) := by
   show _ = _; rw [List.take_succ_eq_append_getElem hlt, List.filter_append]; cases h : keepP l[k] <;> simp [h]
  have HLN : Hid (((l.take k).filter keepP).length <= 1073741824) := by
   have := List.length_filter_le keepP (l.take k);rw [List.length_take] at this
   show _ <= _; omega
  generalize l[k] = p at *;generalize (l.take k).filter keepP = L at *;have HRD := lh (fun W => reduced1_any p W);have HKP : Hid (keepP p = !eqPr p Pr.zero) := rfl;unfold prv at HRD;subst hae
  obtain ⟨V, hV⟩ : ∃ V, V = wr.alloc (.cells #[.int .u64 (p.v.a : Int), .int .u64 (p.v.b : Int), .bool p.odd] 36) := ⟨_, rfl⟩
  have hbv : Below wr.heap.size wr V := by rw [hV]; exact (Below.refl _ _).alloc (Nat.le_refl _) _
  have qv : Blk V wr.heap.size #[.int .u64 (p.v.a : Int), .int .u64 (p.v.b : Int), .bool p.odd] 36 := by rw [hV]; exact Blk.new _ _ _
  have QV := lh qv;have HBV := lh hbv;clear qv hbv
  cases hq : eqPr p Pr.zero with
  | true =>
    rw [hq] at HRD HKP
    have HN2 : Hid ((l.take (k + 1)).filter keepP = L) := by show _ = _; rw [HNX.o, HKP.o]; rfl
    clear hq;go_wp2_with fail;rw [<- hV];refine (HRD.o _).mono ?_;rintro e w2 ⟨rfl, hb2⟩;have HB2 := lh (HBV.o.trans (hb2.mono HBV.o.size));clear hb2 hV;go_wp2;go_roundw
    case rel => exact ⟨k + 1, va, vc, by omega, by go_num, by rw [HN2.o], by rw [HN2.o]; exact HO.o.later HB2.o, HB.o.trans (HB2.o.mono HB.o.size)⟩
    case measure => simp [intOf]; omega
  | false =>
    rw [hq] at HRD HKP
    have HN2 : Hid ((l.take (k + 1)).filter keepP = L ++ [p]) := by show _ = _; rw [HNX.o, HKP.o]; rfl
    clear hq;go_wp2_with fail;rw [<- hV];refine (HRD.o _).mono ?_;rintro e w2 ⟨rfl, hb2⟩;have HB2 := lh (HBV.o.trans (hb2.mono HBV.o.size));have q2 := QV.o.later hb2;have d0 := q2.cell 0;have d1 := q2.cell 1;have d2 := q2.cell 2;have dz := q2.lt;have HO2 := lh (HO.o.later HB2.o);have HZ2 : Hid (w.heap.size <= w2.heap.size) := Nat.le_trans HZ.o HB2.o.size;have HBX := lh (HB.o.trans (HB2.o.mono HB.o.size));clear hb2 hV q2 c0 c1 c2 zb;go_wp2_with (at_builtin; go_loud (refine zjf (C := #[.int .u64 (p.v.a : Int), .int .u64 (p.v.b : Int), .bool p.odd]) elemPr rfl _ _ rfl w.heap.size (.slice va L.length vc) L p rfl HO2.o rfl rfl rfl (prc_one p) HLN.o (by decide) HZ2.o ?_))
    intro g5 cap5 w5 ho5 hg5 hgn5;have HO5 := lh ho5;have HB5 : Hid (Below w.heap.size w w5) := HBX.o.grown hg5 HZ2.o (fun q hq => (World.ownsRow.lt HO2.o q hq).1);clear ho5 hg5 hgn5;go_wp2;go_roundw
    case rel => exact ⟨k + 1, some ⟨g5, 0, none⟩, cap5, by omega, by go_num, by rw [HN2.o]; simp, by rw [HN2.o]; simpa using HO5.o, HB5.o⟩
    case measure => simp [intOf]; omega
 have hke : k = l.length := by omega
 subst hke;rw [List.take_length] at HO ⊢;go_wp2;go_ret;exact ⟨_, rfl, HO.o, HB.o⟩
theorem prc_cells {w : World} {ad : Addr} {l : List Pr} (h : PrCells w (some ad) l) : ∀ j u, (l.flatMap prc)[j]? = some u -> w.cell? (ad.add j) = some u := by
 intro j u hj
 have hlen : j < l.length * 3 := by
  have := (List.getElem?_eq_some_iff.1 hj).1
  rwa [zib prc_len] at this
 have hq : j / 3 < l.length := by omega
 obtain ⟨b, off, hae, c0, c1, c2⟩ := h.at hq;simp only [Option.some.injEq] at hae;subst hae;have hg := zoj prc_len l (j / 3) (j % 3) hq (by omega);rw [show j / 3 * 3 + j % 3 = j by omega, hj] at hg;unfold prc at hg
 have hr : j % 3 = 0 \/ j % 3 = 1 \/ j % 3 = 2 := by omega
 rw [show (⟨b, off, none⟩ : Addr).add j = ⟨b, off + j, none⟩ by simp [Addr.add]]
 rcases hr with hr | hr | hr <;> rw [hr] at hg <;> simp at hg <;> subst hg
 ·rw [<- c0]; congr 2; omega
 ·rw [<- c1]; congr 2; omega
 rw [<- c2]; congr 2; omega
theorem prc_ones (l : List Pr) : ∀ u ∈ l.flatMap prc, u.oneCell' = true := by
 intro u hu;obtain ⟨p, _, h⟩ := List.mem_flatMap.1 hu;exact prc_one p u h
theorem clonePr_any (a : Option Addr) (cap : Nat) (l : List Pr) (w : World) (hl : l.length <= 65536) (hx : PrCells w a l) :
 Calls Tryz.prog 46 #[.slice a l.length cap] w (PrPost l w) := by
 have hsl := fun (w : World) (a : Option Addr) (l c n1 c1 : Nat) => Lib.run_eql_slice_nil w 24 36 a l c n1 c1 Tryz.underlying24
 cases a with
 | none =>
   have hn : l = [] := by
    cases l with
    | nil => rfl
    | cons x xs => obtain ⟨_, _, e, _⟩ := hx 0 (by simp); simp at e
   subst hn;clear hx;go_enter Tryz.func46, Tryz.ntmps46;go_wp2;go_ret;exact ⟨_, rfl, OwnL.nil _ _, Below.refl _ _⟩
 | some ad =>
   have H0 : Hid ((w.alloc (.cells #[] 36)).ownsRow w.heap.size 36 3 (.slice (some ⟨w.heap.size, 0, none⟩) 0 0) 0 []) := World.ownsRow_lit w #[] 0 (Nat.le_refl _) (by unfold maxLen; omega) rfl
   have HC : Hid (∀ j u, (l.flatMap prc)[j]? = some u -> (w.alloc (.cells #[] 36)).cell? (ad.add j) = some u) := fun j u h => zaa ((Below.refl _ _).alloc (Nat.le_refl _) _) (prc_cells hx j u h)
   have HFL : Hid ((l.flatMap prc).length = l.length * 3) := by show _ = _; rw [zib prc_len]
   have H1 : Hid (0 + l.length <= maxLen) := by show _ <= _; unfold maxLen; omega
   have H2 : Hid ((0 + l.length) * 24 <= 140737488355328) := by show _ <= _; omega
   have HON := lh (prc_ones l);clear hx;go_enter Tryz.func46, Tryz.ntmps46;go_wp2_with (at_builtin; go_loud (refine app elemPr rfl _ _ rfl w.heap.size _ _ _ rfl H0.o ad l.length cap (l.flatMap prc) rfl HFL.o HC.o HON.o H1.o H2.o (by simp) ?_));intro v' w1 hown hgrow _
   have HO : Hid (OwnP w1 w.heap.size v' l) := by show OwnP _ _ _ _; unfold OwnP OwnL; simpa using hown
   have HG := lh hgrow;clear hown hgrow;go_wp2;go_ret;exact ⟨_, rfl, HO.o, ((Below.refl _ _).alloc (Nat.le_refl _) _).grown HG.o (by simp) (by simp [Value.ownBlock])⟩
end Go.Proofs.YtflhbcnhaeijbaaGreatDoor
