/- Part of the proofs that laws of censuslaw38 return true for every input, where the tables that the rows list are laid. Texts: Arg3. -/
import Derived.Test.YtfdonhfhcomjaaaGreatDoorZC3
import Derived.SizedLaws

/- Slices of integers as arguments, with the bound that the form's own reach sets. -/
namespace Go.Proofs.YtfdonhfhcomjaaaGreatDoor
open Go.Joins Go.ChangeShapes Go.WideShapes Go.ChangeAt Go.Deep Go.RowKit Cen
set_option maxRecDepth 100000
section
variable {H : Type} {enc : TypeId × Value → H} {W : World} {base : Nat} {held : Bool}
theorem open_isW {r : Reach} {b0 : Nat} {v : Value} {d : DataW H} {p : List MemPlace} (hv : Value.okWide Tryz.prog W r b0 31 v) (h : DataW.Trod enc Tryz.prog W base (fun _ => true) held 31 v d p) :
    ∃ (a : Option Addr) (l : List Int) (cap : Nat), v = .slice a l.length cap ∧ IntCells W a l ∧ (l = [] ∨ ∃ sp, d = .slice (lits .i64 l) sp) := by
  obtain ⟨a0, la, ca, rfl⟩ := okWide_slice Tryz.underlying31 hv
  obtain ⟨fuel, hf⟩ := h
  have hf' : DataW.trod enc Tryz.prog W base (fun _ => true) held fuel 31 [Value.slice a0 la ca] = some (d, p) := hf
  rcases open_ints Tryz.underlying31 Tryz.underlying3 (by kernel_rfl) hf' with ⟨hcs, _⟩ | ⟨a, len, cap, zs, hcs, _, hl, hm, hz, hx, hc, hw⟩
  · simp only [List.cons.injEq, and_true] at hcs
    rw [hcs]
    exact ⟨none, [], 0, rfl, IntCells.nil _ _, .inl rfl⟩
  · simp only [List.cons.injEq, and_true] at hcs
    rw [hcs]
    have hlz : len ≤ zs.length := by rw [hz]; split <;> omega
    have hlt : (zs.take len).length = len := by simp; omega
    refine ⟨some a, zs.take len, cap, by rw [hlt], fun i hi => ?_, .inr ?_⟩
    · rw [hlt] at hi
      have e : (zs.take len).getD i 0 = zs.getD i 0 := by simp [List.getD_eq_getElem?_getD, hi]
      have ea := spot_of (hc 0 (by omega))
      exact ⟨a.block, a.off, by rw [← ea], by rw [e]; exact addr_of (hc i (by omega))⟩
    · simp only [Prod.mk.injEq] at hx
      exact ⟨_, hx.1⟩
theorem ints_fit {ts : List TypeId} {ds : List (DataW H)} (h : (DataW.weightsEach Tryz.prog ts ds).all (· ≤ reachBytes) = true) {j : Nat} {d : DataW H} {l : List Int} (ht : ts[j]? = some 31) (hd : ds[j]? = some d) (hk : l = [] ∨ ∃ sp, d = .slice (lits .i64 l) sp) : l.length * 8 ≤ 140737488351232 := by
  have hb : Tryz.prog.bytesOf 3 = 8 := by kernel_rfl
  rcases hk with rfl | ⟨sp, rfl⟩
  · decide
  · have := sized_slice h ht hd Tryz.underlying31
    rw [hb] at this
    simp only [lits, List.length_map, reachBytes] at this
    omega
end
end Go.Proofs.YtfdonhfhcomjaaaGreatDoor
