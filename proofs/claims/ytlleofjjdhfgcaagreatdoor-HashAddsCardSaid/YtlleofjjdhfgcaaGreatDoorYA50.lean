/- Parts of the proofs of laws. Texts: ArgB, Arg2, Arg4, ArgV, ArgP. -/
import Derived.Test.YtlleofjjdhfgcaaGreatDoorRows
import Derived.LaidMore
import Derived.LaidSub
import Derived.Stop.Joined
import Derived.Lib.SmallJoins
import Derived.Lay
import Derived.Test.YtlleofjjdhfgcaaGreatDoorYA35
import Derived.Test.YtlleofjjdhfgcaaGreatDoorYA16
set_option maxHeartbeats 8000000
set_option maxRecDepth 100000
set_option linter.all false
namespace Go.Proofs.YtlleofjjdhfgcaaGreatDoor
open Go.Joins Go.ChangeShapes Go.WideShapes Go.ChangeAt Go.Deep Go.RowKit Cen
theorem ycy : ownKnob Tryz.prog.godebug = none := by kernel_rfl
theorem zdy : laidOutB Tryz.prog = true := by kernel_rfl
def laidOf : List (String × DataW Unit) := [("math/bits.deBruijn32tab", Rows.laid_math_bits_deBruijn32tab), ("math/bits.deBruijn64tab", Rows.laid_math_bits_deBruijn64tab), ("internal/strconv.uint64pow10", Rows.laid_internal_strconv_uint64pow10)]
theorem laid_plain : (laidOf.all fun x => x.2.handleName?.isNone) = true := by kernel_rfl
theorem zj3 {W : World} (h : laidMetH Tryz.prog laidOf W) : Tab W := by
 have h2 := h.filter (fun x => x.1 == "internal/strconv.uint64pow10")
 have e : (laidOf.filter fun x => x.1 == "internal/strconv.uint64pow10") = ("internal/strconv.uint64pow10", Lib.tabData .u64 Lib.pow10Tab) :: [] := by kernel_rfl
 rw [e, MakeChecks.laidMetH_plain _ _ _ (by kernel_rfl)] at h2;exact Lib.tabIs_of_head (g := 2) (by kernel_rfl) (by kernel_rfl) Tryz.underlying270 Tryz.underlying30 (by kernel_rfl) (by kernel_rfl) h2
section
variable {H : Type} {enc : TypeId × Value -> H} {P : Program} {w : World} {base : Nat} {spare : Nat -> Bool} {held : Bool}
theorem zgi {f : Func} {s : ChangeSpec} {apart fresh handsOn again : Bool} {W W' : World} {args : Array Value} {v : Value} {ds gs : List (DataW H)} {before pa pv : List MemPlace}
 (hW : DataW.Whole enc P f.params.toList s.vars apart W args.toList ds gs before)
 (hres : ∀ (b : Nat) (sp : Nat -> Bool) (hd : Bool), DataW.TrodAll enc P W' b sp hd f.resultTypes.toList (v.resultList f.resultTypes.size) (s.fn H (ds ++ gs)).results [])
 (hargs : ∀ sp : Nat -> Bool, (∀ p ∈ before, sp p.block = true) -> DataW.TrodAll enc P W' 0 sp true f.params.toList args.toList (s.fn H (ds ++ gs)).args pa)
 (hvars : ∀ sp : Nat -> Bool, (∀ p ∈ before, sp p.block = true) -> DataW.TrodVars enc P W' sp s.vars (s.fn H (ds ++ gs)).vars pv)
 (hps : before = pa ++ pv) (hb : Below W.heap.size W W')
 (hok : ∀ (j : Nat) (t : TypeId) (r : Value), f.resultTypes[j]? = some t -> (v.resultList f.resultTypes.size)[j]? = some r -> Value.okWide P W' .any 0 t r) :
 s.post enc P f apart fresh handsOn again W args v W' := by
 have hlt : ∀ p ∈ before, p.block < W.heap.size := fun p hp => hW.lt p hp
 have hold : ∀ p ∈ before, (fun b => decide (b < W.heap.size)) p.block = true := fun p hp => by simpa using hlt p hp
 refine ⟨ds, gs, before, [], pa, pv, hW, hres _ _ _, hargs _ hold, hvars _ hold, World.keptBut_mono (fun p hp => ⟨hp, ?_⟩) (hb.frame (· ∈ before)), fun _ => ?_⟩
 ·rw [hps, List.mem_append] at hp;exact Or.inr hp
 obtain ⟨_, _, _, _, _, hz, hn⟩ := hW;refine ⟨hok, _, _, ([] ++ pa) ++ pv, ⟨[] ++ pa, pv, trodAll_append (hargs _ (fun _ _ => rfl)) (hres _ _ _), hvars _ (fun _ _ => rfl), rfl, ?_, ?_⟩, ?_⟩
 ·intro b off hp
  have hin : MemPlace.cell b off ∈ before := by rw [hps]; simpa using hp
  rw [hb.frozen (hlt _ hin)];exact hz b off hin
 ·intro ha;have := hn ha;rw [hps] at this
  simpa using this
 intro p hp _;rw [hps]
 simpa using hp
end
theorem zvb {α : Type} [Inhabited α] {Q : Nat -> α -> Prop} : ∀ (n : Nat), (∀ i, i < n -> ∃ x, Q i x) -> ∃ l : List α, l.length = n /\ ∀ i, i < n -> Q i (l.getD i default)
 | 0, _ => ⟨[], rfl, fun i h => absurd h (Nat.not_lt_zero _)⟩
 | n + 1, h => by
   obtain ⟨l, hl, hq⟩ := zvb n fun i hi => h i (by omega)
   obtain ⟨x, hx⟩ := h n (by omega);refine ⟨l ++ [x], by simp [hl], fun i hi => ?_⟩
   by_cases e : i < n
   ·have : (l ++ [x]).getD i default = l.getD i default := by simp [List.getD_eq_getElem?_getD, List.getElem?_append_left (show i < l.length by omega)]
    rw [this]; exact hq i e
   have e2 : i = n := by omega
   subst e2
   have : (l ++ [x]).getD i default = x := by simp [List.getD_eq_getElem?_getD, <- hl]
   rw [this]; exact hx
theorem zts {w : World} {a : Addr} {n : Nat} {v : Value} (h : w.cell? (a.add n) = some v) : w.cell? ⟨a.block, a.off + n, none⟩ = some v := by
 by_cases e : n = 0
 ·subst e;have h2 : w.cell? a = some v := h;obtain ⟨b, o, s⟩ := a
  cases s with
  | none => exact h2
  | some k =>
    exfalso
    unfold World.cell? at h2
    split at h2 <;> simp at h2
 simpa [Addr.add, e] using h
theorem zv5 {w : World} {a : Addr} {v : Value} (h : w.cell? (a.add 0) = some v) : a = ⟨a.block, a.off, none⟩ := by
 obtain ⟨b, o, s⟩ := a
 cases s with
 | none => rfl
 | some k =>
   exfalso
   unfold World.cell? Addr.add at h
   split at h <;> simp at h
section
variable {H : Type} {enc : TypeId × Value -> H} {W : World} {base : Nat} {spare : Nat -> Bool} {held : Bool}
theorem ybf {fuel : Nat} {v : Value} {x : DataW H × List MemPlace} (h : DataW.trod enc Tryz.prog W base spare held fuel 67 [v] = some x) :
 ∃ (a : Option Addr) (l : List Int) (cap : Nat), v = .slice a l.length cap /\ l.length <= 9223372036854775807 /\ IntCells W a l /\ ∀ z ∈ l, (Lit.int .i64 z).wf = true := by
 rcases open_ints Tryz.underlying67 Tryz.underlying3 (by kernel_rfl) h with ⟨hcs, _⟩ | ⟨a, len, cap, zs, hcs, _, hl, hm, hz, _, hc, hw⟩
 ·simp only [List.cons.injEq, and_true] at hcs;subst hcs;exact ⟨none, [], 0, rfl, by simp, IntCells.nil _ _, by simp⟩
 simp only [List.cons.injEq, and_true] at hcs;subst hcs
 have hlz : len <= zs.length := by rw [hz]; split <;> omega
 have hlt : (zs.take len).length = len := by simp; omega
 refine ⟨some a, zs.take len, cap, by rw [hlt], ?_, fun i hi => ?_, fun z hzz => hw z (List.mem_of_mem_take hzz)⟩
 ·rw [hlt];have : maxLen = 9223372036854775807 := rfl;omega
 rw [hlt] at hi
 have e : (zs.take len).getD i 0 = zs.getD i 0 := by simp [List.getD_eq_getElem?_getD, hi]
 have ea := zv5 (hc 0 (by omega));exact ⟨a.block, a.off, by rw [<- ea], by rw [e]; exact zts (hc i (by omega))⟩
end
theorem zyz {z : Int} (h : (Lit.int .u8 z).wf = true) : 0 <= z /\ z <= 255 := by
 simp only [Lit.wf, Bool.and_eq_true, decide_eq_true_eq] at h
 have h1 : IntKind.u8.min = 0 := by decide
 have h2 : IntKind.u8.max = 255 := by decide
 omega
section
variable {H : Type} {enc : TypeId × Value -> H} {W : World} {base : Nat} {spare : Nat -> Bool} {held : Bool}
end
theorem zho {W : World} (h : laidMetH Tryz.prog laidOf W) : Dtab W := by
 have h2 := h.filter (fun x => x.1 == "math/bits.deBruijn64tab")
 have e : (laidOf.filter fun x => x.1 == "math/bits.deBruijn64tab") = ("math/bits.deBruijn64tab", Lib.tabData .u8 (Lib.deBruijn64tab.map Int.ofNat)) :: [] := by kernel_rfl
 rw [e, MakeChecks.laidMetH_plain _ _ _ (by kernel_rfl)] at h2;have h3 := Lib.tabIs_of_head (g := 1) (by kernel_rfl) (by kernel_rfl) Tryz.underlying233 Tryz.underlying5 (by kernel_rfl) (by kernel_rfl) h2;intro j hj
 have hl : (Lib.deBruijn64tab.map Int.ofNat).length = 64 := by decide +kernel
 have h4 := h3.cell (g := 1) (by kernel_rfl) j (by rw [hl]; exact hj);rw [h4]
 congr 2
 have hl2 : Lib.deBruijn64tab.length = 64 := by decide +kernel
 simp [List.getD_eq_getElem?_getD, hl2, hj]
section
variable {H : Type} {enc : TypeId × Value -> H} {W : World} {base : Nat} {spare : Nat -> Bool} {held : Bool}
theorem zrl {r : Reach} {b0 : Nat} {v : Value} {d : DataW H} {p : List MemPlace} (hv : Value.okWide Tryz.prog W r b0 40 v) (h : DataW.Trod enc Tryz.prog W base spare held 40 v d p) :
 ∃ s : St, v = stv s /\ s.ok := by
 simp only [Value.okWide, Tryz.underlying40] at hv;obtain ⟨cs, rfl, _, _⟩ := hv;obtain ⟨fuel, hf⟩ := h;obtain ⟨ys, k, rfl, _, hl, hyl, hat⟩ := DataW.trod_array Tryz.underlying40 hf
 have hc2 : Tryz.prog.cellsOf 40 = 2 := by kernel_rfl
 have hc1 : Tryz.prog.cellsOf 30 = 1 := by kernel_rfl
 rw [hc2] at hl
 have hcs : (Value.agg cs).cells.toList = cs.toList := by simp [Value.cells]
 rw [hcs] at hl hat
 obtain ⟨a0, a1, he⟩ : ∃ a0 a1, cs.toList = [a0, a1] := by
  match h : cs.toList, hl with
  | [a0, a1], _ => exact ⟨a0, a1, rfl⟩
 have hcs2 : cs = #[a0, a1] := by
  apply Array.toList_inj.1; rw [he]
 subst hcs2;have g0 := hat 0 (by omega);have g1 := hat 1 (by omega);rw [hc1] at g0 g1;have e0 : ys[0]? = some (ys[0]'(by omega)) := List.getElem?_eq_getElem (by omega);have e1 : ys[1]? = some (ys[1]'(by omega)) := List.getElem?_eq_getElem (by omega);rw [e0] at g0;rw [e1] at g1;simp only [Nat.zero_mul, List.drop_zero, List.take_succ_cons, List.take_zero, Nat.one_mul, List.drop_succ_cons] at g0 g1;obtain ⟨z0, f0, _, w0⟩ := DataW.trod_int Tryz.underlying30 g0;obtain ⟨z1, f1, _, w1⟩ := DataW.trod_int Tryz.underlying30 g1;simp only [List.cons.injEq, and_true] at f0 f1;subst f0; subst f1
 simp [Lit.wf, IntKind.min, IntKind.max, IntKind.signed, IntKind.bits] at w0 w1
 obtain ⟨n0, rfl⟩ := Int.eq_ofNat_of_zero_le w0.1;obtain ⟨n1, rfl⟩ := Int.eq_ofNat_of_zero_le w1.1;exact ⟨⟨n0, n1⟩, rfl, by show n0 < U64; unfold U64; omega, by show n1 < U64; unfold U64; omega⟩
end
section
variable {H : Type} {enc : TypeId × Value -> H} {W : World} {base : Nat} {spare : Nat -> Bool} {held : Bool}
theorem zvp {fuel : Nat} {v : Value} {x : DataW H × List MemPlace} (h : DataW.trod enc Tryz.prog W base spare held fuel 22 [v] = some x) :
 ∃ (a : Option Addr) (l : List Cl) (cap : Nat), v = .slice a l.length cap /\ l.length <= 9223372036854775807 /\ LsCells W a l /\ ∀ c ∈ l, ∀ z ∈ c, (Lit.int .i64 z).wf = true := by
 rcases open_slice Tryz.underlying22 h with ⟨hcs, _⟩ | ⟨a, len, cap, m, n, D, Pl, hcs, _, hl, hm, hmm, _, hi⟩
 ·simp only [List.cons.injEq, and_true] at hcs;subst hcs;exact ⟨none, [], 0, rfl, by simp, fun i h => absurd h (Nat.not_lt_zero _), fun c h => by simp at h⟩
 simp only [List.cons.injEq, and_true] at hcs;subst hcs
 have hlm : len <= m := by rw [hmm]; split <;> omega
 clear hmm
 have hC : Tryz.prog.cellsOf 67 = 1 := by kernel_rfl
 have each : ∀ i, i < len -> ∃ x : Cl, ∃ ai ci, W.cell? (a.add i) = some (.slice ai x.length ci) /\ IntCells W ai x /\ ∀ z ∈ x, (Lit.int .i64 z).wf = true := by
  intro i hil;obtain ⟨cs', hc, ht'⟩ := hi i (by omega);rw [hC, Nat.mul_one] at hc;obtain ⟨_, hcl, hat⟩ := World.cells?_some hc
  obtain ⟨v0, rfl⟩ : ∃ v0, cs' = [v0] := by
   match cs', hcl with
   | [v0], _ => exact ⟨v0, rfl⟩
  have hcell := hat 0 (by omega);rw [Go.Deep.add_add, Nat.add_zero] at hcell;obtain ⟨ai, li, ci, e2, _, h3, h4⟩ := ybf ht';subst e2;exact ⟨li, ai, ci, hcell, h3, h4⟩
 obtain ⟨l, hll, hq⟩ := zvb len each;refine ⟨some a, l, cap, by rw [hll], ?_, fun i hil => ?_, fun c hc => ?_⟩
 ·have : maxLen = 9223372036854775807 := rfl;omega
 ·rw [hll] at hil;obtain ⟨ai, ci, h1, h2, _⟩ := hq i hil;have ea := zv5 (hq 0 (by omega)).choose_spec.choose_spec.1;exact ⟨a.block, a.off, ai, ci, by rw [<- ea], zts h1, h2⟩
 obtain ⟨i, hi2, rfl⟩ := List.getElem_of_mem hc;obtain ⟨_, _, _, _, h5⟩ := hq i (by omega)
 have e : l.getD i default = l[i] := by simp [List.getD_eq_getElem?_getD, hi2]
 rw [e] at h5;exact h5
theorem zhq {r : Reach} {b0 : Nat} {v : Value} {d : DataW H} {p : List MemPlace} (hv : Value.okWide Tryz.prog W r b0 24 v) (h : DataW.Trod enc Tryz.prog W base spare held 24 v d p) :
 ∃ (n : Int) (a : Option Addr) (l : List Cl) (cap : Nat), v = .agg #[.int .i64 n, .slice a l.length cap] /\ l.length <= 9223372036854775807 /\ LsCells W a l /\ (∀ c ∈ l, ∀ z ∈ c, -9223372036854775808 <= z /\ z <= 9223372036854775807) := by
 obtain ⟨v0, v1, y0, y1, n, rfl, _, _, t0, t1⟩ := open_agg2 Tryz.underlying24 (by kernel_rfl) (by kernel_rfl) hv h;obtain ⟨z0, e0, _, w0⟩ := DataW.trod_int Tryz.underlying3 t0;obtain ⟨a, l, cap, e1, h1, h2, h3⟩ := zvp t1;simp only [List.cons.injEq, and_true] at e0;subst e0; subst e1
 exact ⟨z0, a, l, cap, rfl, h1, h2, fun c hc z hz => by
  have := h3 c hc z hz;simp only [Lit.wf, Bool.and_eq_true, decide_eq_true_eq] at this
  have e1 : IntKind.i64.min = -9223372036854775808 := by decide
  have e2 : IntKind.i64.max = 9223372036854775807 := by decide
  omega⟩
end
section
variable {H : Type} {enc : TypeId × Value -> H} {W : World} {base : Nat} {spare : Nat -> Bool} {held : Bool}
theorem open_set_cells {fuel : Nat} {cs : List Value} {x : DataW H × List MemPlace} (h : DataW.trod enc Tryz.prog W base spare held fuel 40 cs = some x) :
 ∃ s : St, cs = [.int .u64 (s.a : Int), .int .u64 (s.b : Int)] /\ s.ok := by
 obtain ⟨ys, k, rfl, _, hl, hyl, hat⟩ := DataW.trod_array Tryz.underlying40 h
 have hc2 : Tryz.prog.cellsOf 40 = 2 := by kernel_rfl
 have hc1 : Tryz.prog.cellsOf 30 = 1 := by kernel_rfl
 rw [hc2] at hl
 obtain ⟨a0, a1, rfl⟩ : ∃ a0 a1, cs = [a0, a1] := by
  match cs, hl with
  | [a0, a1], _ => exact ⟨a0, a1, rfl⟩
 have g0 := hat 0 (by omega);have g1 := hat 1 (by omega);rw [hc1] at g0 g1;have e0 : ys[0]? = some (ys[0]'(by omega)) := List.getElem?_eq_getElem (by omega);have e1 : ys[1]? = some (ys[1]'(by omega)) := List.getElem?_eq_getElem (by omega);rw [e0] at g0;rw [e1] at g1;simp only [Nat.zero_mul, List.drop_zero, List.take_succ_cons, List.take_zero, Nat.one_mul, List.drop_succ_cons] at g0 g1;obtain ⟨z0, f0, _, w0⟩ := DataW.trod_int Tryz.underlying30 g0;obtain ⟨z1, f1, _, w1⟩ := DataW.trod_int Tryz.underlying30 g1;simp only [List.cons.injEq, and_true] at f0 f1;subst f0; subst f1
 simp [Lit.wf, IntKind.min, IntKind.max, IntKind.signed, IntKind.bits] at w0 w1
 obtain ⟨n0, rfl⟩ := Int.eq_ofNat_of_zero_le w0.1;obtain ⟨n1, rfl⟩ := Int.eq_ofNat_of_zero_le w1.1;exact ⟨⟨n0, n1⟩, rfl, by show n0 < U64; unfold U64; omega, by show n1 < U64; unfold U64; omega⟩
theorem open_pr {fuel : Nat} {cs : List Value} {x : DataW H × List MemPlace} (h : DataW.trod enc Tryz.prog W base spare held fuel 42 cs = some x) :
 ∃ p : Pr, cs = [.int .u64 (p.v.a : Int), .int .u64 (p.v.b : Int), .bool p.odd] /\ p.ok := by
 obtain ⟨ys, n', _, _, hlen, hyl, hf⟩ := DataW.trod_struct Tryz.underlying42 h
 have hc3 : Tryz.prog.cellsOf 42 = 3 := by kernel_rfl
 have hc2 : Tryz.prog.cellsOf 40 = 2 := by kernel_rfl
 have hc1 : Tryz.prog.cellsOf 4 = 1 := by kernel_rfl
 rw [hc3] at hlen
 obtain ⟨a0, a1, a2, rfl⟩ : ∃ a0 a1 a2, cs = [a0, a1, a2] := by
  match cs, hlen with
  | [a0, a1, a2], _ => exact ⟨a0, a1, a2, rfl⟩
 have g0 : DataW.trod enc Tryz.prog W base spare held n' 40 (List.take (Tryz.prog.cellsOf 40) (List.drop 0 [a0, a1, a2])) = ys[0]? := hf 0 _ rfl;have g1 : DataW.trod enc Tryz.prog W base spare held n' 4 (List.take (Tryz.prog.cellsOf 4) (List.drop 2 [a0, a1, a2])) = ys[1]? := hf 1 _ rfl;have hy2 : ys.length = 2 := hyl;rw [hc2] at g0;rw [hc1] at g1;simp only [List.drop_zero, List.take_succ_cons, List.take_zero, List.drop_succ_cons] at g0 g1;rw [List.getElem?_eq_getElem (by omega)] at g0 g1;obtain ⟨s, e0, hs⟩ := open_set_cells g0;obtain ⟨o, e1, _⟩ := DataW.trod_bool Tryz.underlying4 g1;simp only [List.cons.injEq, and_true] at e0 e1
 obtain ⟨rfl, rfl⟩ := e0;subst e1;exact ⟨⟨s, o⟩, rfl, hs⟩
theorem open_prs {fuel : Nat} {v : Value} {x : DataW H × List MemPlace} (h : DataW.trod enc Tryz.prog W base spare held fuel 38 [v] = some x) :
 ∃ (a : Option Addr) (l : List Pr) (cap : Nat), v = .slice a l.length cap /\ l.length <= 9223372036854775807 /\ PrCells W a l /\ ∀ p ∈ l, p.ok := by
 rcases open_slice Tryz.underlying38 h with ⟨hcs, _⟩ | ⟨a, len, cap, m, n, D, Pl, hcs, _, hl, hm, hmm, _, hi⟩
 ·simp only [List.cons.injEq, and_true] at hcs;subst hcs;exact ⟨none, [], 0, rfl, by simp, fun i h => absurd h (Nat.not_lt_zero _), fun p h => by simp at h⟩
 simp only [List.cons.injEq, and_true] at hcs;subst hcs
 have hlm : len <= m := by rw [hmm]; split <;> omega
 clear hmm
 have hC : Tryz.prog.cellsOf 42 = 3 := by kernel_rfl
 have each : ∀ i, i < len -> ∃ p : Pr, W.cell? (a.add (i * 3)) = some (.int .u64 (p.v.a : Int)) /\ W.cell? (a.add (i * 3 + 1)) = some (.int .u64 (p.v.b : Int)) /\ W.cell? (a.add (i * 3 + 2)) = some (.bool p.odd) /\ p.ok := by
  intro i hil;obtain ⟨cs', hc, ht'⟩ := hi i (by omega);rw [hC] at hc;obtain ⟨_, hcl, hat⟩ := World.cells?_some hc;obtain ⟨p, rfl, hp⟩ := open_pr ht';have c0 := hat 0 (by omega);have c1 := hat 1 (by omega);have c2 := hat 2 (by omega);rw [Go.Deep.add_add] at c0 c1 c2;exact ⟨p, c0, c1, c2, hp⟩
 obtain ⟨l, hll, hq⟩ := zvb len each;refine ⟨some a, l, cap, by rw [hll], ?_, fun i hil => ?_, fun p hp => ?_⟩
 ·have : maxLen = 9223372036854775807 := rfl;omega
 ·rw [hll] at hil;obtain ⟨c0, c1, c2, _⟩ := hq i hil;have ea := zv5 (by have := (hq 0 (by omega)).1; simpa using this);exact ⟨a.block, a.off, by rw [<- ea], zts c0, zts c1, zts c2⟩
 obtain ⟨i, hi2, rfl⟩ := List.getElem_of_mem hp;obtain ⟨_, _, _, h5⟩ := hq i (by omega)
 have e : l.getD i default = l[i] := by simp [List.getD_eq_getElem?_getD, hi2]
 rw [e] at h5;exact h5
theorem open_pars {r : Reach} {b0 : Nat} {v : Value} {d : DataW H} {p : List MemPlace} (hv : Value.okWide Tryz.prog W r b0 38 v) (h : DataW.Trod enc Tryz.prog W base spare held 38 v d p) :
 ∃ (a : Option Addr) (l : List Pr) (cap : Nat), v = .slice a l.length cap /\ l.length <= 9223372036854775807 /\ PrCells W a l /\ ∀ p ∈ l, p.ok := by
 obtain ⟨a0, la, ca, rfl⟩ := okWide_slice Tryz.underlying38 hv;obtain ⟨fuel, hf⟩ := h;exact open_prs (v := .slice a0 la ca) hf
end
end Go.Proofs.YtlleofjjdhfgcaaGreatDoor
