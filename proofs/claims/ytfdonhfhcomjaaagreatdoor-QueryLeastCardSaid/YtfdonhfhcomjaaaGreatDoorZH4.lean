/- Part of the proofs that laws of censuslaw38 return true for every input, where the tables that the rows list are laid. Texts: Arg4. -/
import Derived.Test.YtfdonhfhcomjaaaGreatDoorZC3
import Derived.Test.YtfdonhfhcomjaaaGreatDoorZH1

/- Sets as arguments; the table of math/bits. -/
namespace Go.Proofs.YtfdonhfhcomjaaaGreatDoor
open Go.Joins Go.ChangeShapes Go.WideShapes Go.ChangeAt Go.Deep Go.RowKit Cen
set_option maxRecDepth 100000
theorem dtab_of_laid {W : World} (h : laidMetH Tryz.prog laidOf W) : Dtab W := by
  have h2 := h.filter (fun x => x.1 == "math/bits.deBruijn64tab")
  have e : (laidOf.filter fun x => x.1 == "math/bits.deBruijn64tab") = ("math/bits.deBruijn64tab", Lib.tabData .u8 (Lib.deBruijn64tab.map Int.ofNat)) :: [] := by kernel_rfl
  rw [e, MakeChecks.laidMetH_plain _ _ _ (by kernel_rfl)] at h2
  have h3 := Lib.tabIs_of_head (g := 0) (by kernel_rfl) (by kernel_rfl) Tryz.underlying215 Tryz.underlying5 (by kernel_rfl) (by kernel_rfl) h2
  intro j hj
  have hl : (Lib.deBruijn64tab.map Int.ofNat).length = 64 := by decide +kernel
  have h4 := h3.cell (g := 0) (by kernel_rfl) j (by rw [hl]; exact hj)
  rw [h4]
  congr 2
  have hl2 : Lib.deBruijn64tab.length = 64 := by decide +kernel
  simp [List.getD_eq_getElem?_getD, hl2, hj]
section
variable {H : Type} {enc : TypeId × Value → H} {W : World} {base : Nat} {spare : Nat → Bool} {held : Bool}
theorem open_set {r : Reach} {b0 : Nat} {v : Value} {d : DataW H} {p : List MemPlace} (hv : Value.okWide Tryz.prog W r b0 38 v) (h : DataW.Trod enc Tryz.prog W base spare held 38 v d p) :
    ∃ s : St, v = stv s ∧ s.ok := by
  simp only [Value.okWide, Tryz.underlying38] at hv
  obtain ⟨cs, rfl, _, _⟩ := hv
  obtain ⟨fuel, hf⟩ := h
  obtain ⟨ys, k, rfl, _, hl, hyl, hat⟩ := DataW.trod_array Tryz.underlying38 hf
  have hc2 : Tryz.prog.cellsOf 38 = 2 := by kernel_rfl
  have hc1 : Tryz.prog.cellsOf 36 = 1 := by kernel_rfl
  rw [hc2] at hl
  have hcs : (Value.agg cs).cells.toList = cs.toList := by simp [Value.cells]
  rw [hcs] at hl hat
  obtain ⟨a0, a1, he⟩ : ∃ a0 a1, cs.toList = [a0, a1] := by
    match h : cs.toList, hl with
    | [a0, a1], _ => exact ⟨a0, a1, rfl⟩
  have hcs2 : cs = #[a0, a1] := by
    apply Array.toList_inj.1; rw [he]
  subst hcs2
  have g0 := hat 0 (by omega)
  have g1 := hat 1 (by omega)
  rw [hc1] at g0 g1
  have e0 : ys[0]? = some (ys[0]'(by omega)) := List.getElem?_eq_getElem (by omega)
  have e1 : ys[1]? = some (ys[1]'(by omega)) := List.getElem?_eq_getElem (by omega)
  rw [e0] at g0
  rw [e1] at g1
  simp only [Nat.zero_mul, List.drop_zero, List.take_succ_cons, List.take_zero, Nat.one_mul, List.drop_succ_cons] at g0 g1
  obtain ⟨z0, f0, _, w0⟩ := DataW.trod_int Tryz.underlying36 g0
  obtain ⟨z1, f1, _, w1⟩ := DataW.trod_int Tryz.underlying36 g1
  simp only [List.cons.injEq, and_true] at f0 f1
  subst f0; subst f1
  simp [Lit.wf, IntKind.min, IntKind.max, IntKind.signed, IntKind.bits] at w0 w1
  obtain ⟨n0, rfl⟩ := Int.eq_ofNat_of_zero_le w0.1
  obtain ⟨n1, rfl⟩ := Int.eq_ofNat_of_zero_le w1.1
  exact ⟨⟨n0, n1⟩, rfl, by show n0 < U64; unfold U64; omega, by show n1 < U64; unfold U64; omega⟩
end
end Go.Proofs.YtfdonhfhcomjaaaGreatDoor
