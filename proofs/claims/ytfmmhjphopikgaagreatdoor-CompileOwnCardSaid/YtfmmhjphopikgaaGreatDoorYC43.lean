/- Part of the proofs that laws of censuslaw24 return true for every input, where the tables that the rows list are laid. Texts: ArgB, ArgT. -/
import Derived.Test.YtfmmhjphopikgaaGreatDoorRows
import Derived.Test.YtfmmhjphopikgaaGreatDoorYC4
import Derived.ProofKit
import Derived.LaidMore
import Derived.LaidSub
import Derived.OpenShut
import Derived.Stop.Joined
import Derived.Deep.Slices
import Derived.Deep.Fields
import Derived.Lib.SmallJoins
import Derived.Lib.LaidTab
import Derived.Lay
import Derived.Test.YtfmmhjphopikgaaGreatDoorYC1
set_option maxHeartbeats 8000000
set_option maxRecDepth 100000
set_option linter.unusedSimpArgs false
set_option linter.unusedVariables false
namespace Go.Proofs.YtfmmhjphopikgaaGreatDoor
open Go.Joins Go.ChangeShapes Go.WideShapes Go.ChangeAt Go.Deep Go.RowKit Cen
theorem zwi : ownKnob Tryz.prog.godebug = none := by kernel_rfl
theorem zdp : laidOutB Tryz.prog = true := by kernel_rfl
def laidOf : List (String × DataW Unit) := [("math/bits.deBruijn32tab", Rows.laid_math_bits_deBruijn32tab), ("math/bits.deBruijn64tab", Rows.laid_math_bits_deBruijn64tab), ("internal/strconv.uint64pow10", Rows.laid_internal_strconv_uint64pow10)]
theorem zgk : (laidOf.all fun x => x.2.handleName?.isNone) = true := by kernel_rfl
theorem zfh {W : World} (h : laidMetH Tryz.prog laidOf W) : Tab W := by
 have h2 := h.filter (fun x => x.1 == "internal/strconv.uint64pow10")
 have e : (laidOf.filter fun x => x.1 == "internal/strconv.uint64pow10") = ("internal/strconv.uint64pow10", Lib.tabData .u64 Lib.pow10Tab) :: [] := by kernel_rfl
 rw [e, MakeChecks.laidMetH_plain _ _ _ (by kernel_rfl)] at h2;exact Lib.tabIs_of_head (g := 0) (by kernel_rfl) (by kernel_rfl) Tryz.underlying199 Tryz.underlying54 (by kernel_rfl) (by kernel_rfl) h2
section
variable {H : Type} {enc : TypeId × Value -> H} {P : Program} {w : World} {base : Nat} {spare : Nat -> Bool} {held : Bool}
theorem zd2 {f : Func} {s : ChangeSpec} {apart fresh handsOn again : Bool} {W W' : World} {args : Array Value} {v : Value} {ds gs : List (DataW H)} {before pa pv : List MemPlace}
 (hW : DataW.Whole enc P f.params.toList s.vars apart W args.toList ds gs before)
 (hres : ∀ (b : Nat) (sp : Nat -> Bool) (hd : Bool), DataW.TrodAll enc P W' b sp hd f.resultTypes.toList (v.resultList f.resultTypes.size) (s.fn H (ds ++ gs)).results [])
 (hargs : ∀ sp : Nat -> Bool, (∀ p ∈ before, sp p.block = true) -> DataW.TrodAll enc P W' 0 sp true f.params.toList args.toList (s.fn H (ds ++ gs)).args pa)
 (hvars : ∀ sp : Nat -> Bool, (∀ p ∈ before, sp p.block = true) -> DataW.TrodVars enc P W' sp s.vars (s.fn H (ds ++ gs)).vars pv)
 (hps : before = pa ++ pv) (hb : Below W.heap.size W W')
 (hok : ∀ (j : Nat) (t : TypeId) (r : Value), f.resultTypes[j]? = some t -> (v.resultList f.resultTypes.size)[j]? = some r -> Value.okWide P W' .any 0 t r) :
 s.post enc P f apart fresh handsOn again W args v W' := by
 have hlt : ∀ p ∈ before, p.block < W.heap.size := fun p hp => hW.lt p hp
 have hold : ∀ p ∈ before, (fun b => decide (b < W.heap.size)) p.block = true := fun p hp => by simpa using hlt p hp
 refine ⟨ds, gs, before, [], pa, pv, hW, hres _ _ _, hargs _ hold, hvars _ hold, World.keptBut_mono (fun p hp => ⟨hp, ?_⟩) (hb.frame (· ∈ before)), fun _ => ?_⟩
 ·rw [hps, List.mem_append] at hp;exact Or.inr hp
 obtain ⟨_, _, _, _, _, hz, hn⟩ := hW;refine ⟨hok, _, _, ([] ++ pa) ++ pv, ⟨[] ++ pa, pv, trodAll_append (hargs _ (fun _ _ => rfl)) (hres _ _ _), hvars _ (fun _ _ => rfl), rfl, ?_, ?_⟩, ?_⟩
 ·intro b off hp
  have hin : MemPlace.cell b off ∈ before := by rw [hps]; simpa using hp
  rw [hb.frozen (hlt _ hin)];exact hz b off hin
 ·intro ha;have := hn ha;rw [hps] at this
  simpa using this
 intro p hp _;rw [hps]
 simpa using hp
end
theorem zri {α : Type} [Inhabited α] {Q : Nat -> α -> Prop} : ∀ (n : Nat), (∀ i, i < n -> ∃ x, Q i x) -> ∃ l : List α, l.length = n /\ ∀ i, i < n -> Q i (l.getD i default)
 | 0, _ => ⟨[], rfl, fun i h => absurd h (Nat.not_lt_zero _)⟩
 | n + 1, h => by
   obtain ⟨l, hl, hq⟩ := zri n fun i hi => h i (by omega)
   obtain ⟨x, hx⟩ := h n (by omega);refine ⟨l ++ [x], by simp [hl], fun i hi => ?_⟩
   by_cases e : i < n
   ·have : (l ++ [x]).getD i default = l.getD i default := by simp [List.getD_eq_getElem?_getD, List.getElem?_append_left (show i < l.length by omega)]
    rw [this]; exact hq i e
   have e2 : i = n := by omega
   subst e2
   have : (l ++ [x]).getD i default = x := by simp [List.getD_eq_getElem?_getD, <- hl]
   rw [this]; exact hx
theorem zqm {w : World} {a : Addr} {n : Nat} {v : Value} (h : w.cell? (a.add n) = some v) : w.cell? ⟨a.block, a.off + n, none⟩ = some v := by
 by_cases e : n = 0
 ·subst e;have h2 : w.cell? a = some v := h;obtain ⟨b, o, s⟩ := a
  cases s with
  | none => exact h2
  | some k =>
    exfalso
    unfold World.cell? at h2
    split at h2 <;> simp at h2
 simpa [Addr.add, e] using h
theorem zsa {w : World} {a : Addr} {v : Value} (h : w.cell? (a.add 0) = some v) : a = ⟨a.block, a.off, none⟩ := by
 obtain ⟨b, o, s⟩ := a
 cases s with
 | none => rfl
 | some k =>
   exfalso
   unfold World.cell? Addr.add at h
   split at h <;> simp at h
section
variable {H : Type} {enc : TypeId × Value -> H} {W : World} {base : Nat} {spare : Nat -> Bool} {held : Bool}
theorem zrw {fuel : Nat} {v : Value} {x : DataW H × List MemPlace} (h : DataW.trod enc Tryz.prog W base spare held fuel 25 [v] = some x) :
 ∃ (a : Option Addr) (l : List Int) (cap : Nat), v = .slice a l.length cap /\ l.length <= 9223372036854775807 /\ IntCells W a l /\ ∀ z ∈ l, (Lit.int .i64 z).wf = true := by
 rcases open_ints Tryz.underlying25 Tryz.underlying3 (by kernel_rfl) h with ⟨hcs, _⟩ | ⟨a, len, cap, zs, hcs, _, hl, hm, hz, _, hc, hw⟩
 ·simp only [List.cons.injEq, and_true] at hcs;subst hcs;exact ⟨none, [], 0, rfl, by simp, IntCells.nil _ _, by simp⟩
 simp only [List.cons.injEq, and_true] at hcs;subst hcs
 have hlz : len <= zs.length := by rw [hz]; split <;> omega
 have hlt : (zs.take len).length = len := by simp; omega
 refine ⟨some a, zs.take len, cap, by rw [hlt], ?_, fun i hi => ?_, fun z hzz => hw z (List.mem_of_mem_take hzz)⟩
 ·rw [hlt];have : maxLen = 9223372036854775807 := rfl;omega
 rw [hlt] at hi
 have e : (zs.take len).getD i 0 = zs.getD i 0 := by simp [List.getD_eq_getElem?_getD, hi]
 have ea := zsa (hc 0 (by omega));exact ⟨a.block, a.off, by rw [<- ea], by rw [e]; exact zqm (hc i (by omega))⟩
end
section
variable {H : Type} {enc : TypeId × Value -> H} {W : World} {base : Nat} {spare : Nat -> Bool} {held : Bool}
theorem zt6 {fuel : Nat} {v : Value} {x : DataW H × List MemPlace} (h : DataW.trod enc Tryz.prog W base spare held fuel 22 [v] = some x) :
 ∃ (a : Option Addr) (l : List Cl) (cap : Nat), v = .slice a l.length cap /\ l.length <= 9223372036854775807 /\ LsCells W a l := by
 rcases open_slice Tryz.underlying22 h with ⟨hcs, _⟩ | ⟨a, len, cap, m, n, D, Pl, hcs, _, hl, hm, hmm, _, hi⟩
 ·simp only [List.cons.injEq, and_true] at hcs;subst hcs;exact ⟨none, [], 0, rfl, by simp, fun i h => absurd h (Nat.not_lt_zero _)⟩
 simp only [List.cons.injEq, and_true] at hcs;subst hcs
 have hlm : len <= m := by rw [hmm]; split <;> omega
 clear hmm
 have hC : Tryz.prog.cellsOf 25 = 1 := by kernel_rfl
 have each : ∀ i, i < len -> ∃ x : Cl, ∃ ai ci, W.cell? (a.add i) = some (.slice ai x.length ci) /\ IntCells W ai x := by
  intro i hil;obtain ⟨cs', hc, ht'⟩ := hi i (by omega);rw [hC, Nat.mul_one] at hc;obtain ⟨_, hcl, hat⟩ := World.cells?_some hc
  obtain ⟨v0, rfl⟩ : ∃ v0, cs' = [v0] := by
   match cs', hcl with
   | [v0], _ => exact ⟨v0, rfl⟩
  have hcell := hat 0 (by omega);rw [Go.Deep.add_add, Nat.add_zero] at hcell;obtain ⟨ai, li, ci, e2, _, h3, _⟩ := zrw ht';subst e2;exact ⟨li, ai, ci, hcell, h3⟩
 obtain ⟨l, hll, hq⟩ := zri len each;refine ⟨some a, l, cap, by rw [hll], ?_, fun i hil => ?_⟩
 ·have : maxLen = 9223372036854775807 := rfl;omega
 rw [hll] at hil;obtain ⟨ai, ci, h1, h2⟩ := hq i hil;have ea := zsa (hq 0 (by omega)).choose_spec.choose_spec.1;exact ⟨a.block, a.off, ai, ci, by rw [<- ea], zqm h1, h2⟩
theorem zfg {r : Reach} {b0 : Nat} {v : Value} {d : DataW H} {p : List MemPlace} (hv : Value.okWide Tryz.prog W r b0 24 v) (h : DataW.Trod enc Tryz.prog W base spare held 24 v d p) :
 ∃ (n : Int) (a : Option Addr) (l : List Cl) (cap : Nat), v = .agg #[.int .i64 n, .slice a l.length cap] /\ l.length <= 9223372036854775807 /\ LsCells W a l /\ (Lit.int .i64 n).wf = true := by
 obtain ⟨v0, v1, y0, y1, n, rfl, _, _, t0, t1⟩ := open_agg2 Tryz.underlying24 (by kernel_rfl) (by kernel_rfl) hv h;obtain ⟨z0, e0, _, w0⟩ := DataW.trod_int Tryz.underlying3 t0;obtain ⟨a, l, cap, e1, h1, h2⟩ := zt6 t1;simp only [List.cons.injEq, and_true] at e0;subst e0; subst e1;exact ⟨z0, a, l, cap, rfl, h1, h2, w0⟩
theorem ziz {r : Reach} {b0 : Nat} {v : Value} {d : DataW H} {p : List MemPlace} (hv : Value.okWide Tryz.prog W r b0 27 v) (h : DataW.Trod enc Tryz.prog W base spare held 27 v d p) :
 ∃ (a : Option Addr) (l : List Int) (cap : Nat) (o1 o2 : Bool), v = .agg #[.slice a l.length cap, .bool o1, .bool o2] /\ l.length <= 9223372036854775807 /\ IntCells W a l := by
 obtain ⟨v0, v1, v2, y0, y1, y2, n, rfl, _, _, t0, t1, t2⟩ := open_agg3 Tryz.underlying27 (by kernel_rfl) (by kernel_rfl) hv h;obtain ⟨a, l, cap, e0, h1, h2, _⟩ := zrw t0;obtain ⟨b1, e1, _⟩ := DataW.trod_bool Tryz.underlying4 t1;obtain ⟨b2, e2, _⟩ := DataW.trod_bool Tryz.underlying4 t2;simp only [List.cons.injEq, and_true] at e1 e2;subst e0; subst e1; subst e2;exact ⟨a, l, cap, b1, b2, rfl, h1, h2⟩
end
end Go.Proofs.YtfmmhjphopikgaaGreatDoor
