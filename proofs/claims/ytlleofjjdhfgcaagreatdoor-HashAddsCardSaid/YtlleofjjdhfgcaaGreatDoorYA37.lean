/- Parts of the proofs of laws. Texts: Hi. -/
import Derived.Test.YtlleofjjdhfgcaaGreatDoorYA36
set_option maxHeartbeats 8000000
set_option maxRecDepth 100000
set_option linter.all false
namespace Go.Proofs.YtlleofjjdhfgcaaGreatDoor
open Go.RowKit Cen
def prAt (bs : List Nat) (n i : Nat) : Pr := ⟨setB (fun v => bitN bs (i * (n + 1) + (v - 1))) n, bitN bs (i * (n + 1) + n)⟩
def zbr (bs : List Nat) (n m : Nat) : List Pr := (List.range m).map (prAt bs n)
theorem zxj (vs zs : List Pr) (c : Pr) (a b : Nat) : (((vs ++ c :: zs).flatMap prc).set (vs.length * 3) (.int .u64 (a : Int))).set (vs.length * 3 + 1) (.int .u64 (b : Int)) = (vs ++ ⟨⟨a, b⟩, c.odd⟩ :: zs).flatMap prc := by
 have hl := zbl zax vs;rw [List.flatMap_append, List.flatMap_append, List.set_append_right _ _ (by omega), hl, Nat.sub_self, List.set_append_right _ _ (by omega), hl, show vs.length * 3 + 1 - vs.length * 3 = 1 by omega]
 rfl
theorem zxi (vs zs : List Pr) (c : Pr) (x : Bool) : ((vs ++ c :: zs).flatMap prc).set (vs.length * 3 + 2) (.bool x) = (vs ++ ⟨c.v, x⟩ :: zs).flatMap prc := by
 have hl := zbl zax vs;rw [List.flatMap_append, List.flatMap_append, List.set_append_right _ _ (by omega), hl, show vs.length * 3 + 2 - vs.length * 3 = 2 by omega]
 rfl
theorem ybj {w : World} {base g cap n i : Nat} {vs zs : List Pr} {c : Pr} (h : OwnP w base (.slice (some ⟨g, 0, none⟩) n cap) (vs ++ c :: zs)) (hi : i = vs.length) (hn : n = (vs ++ c :: zs).length) (a b : Nat) :
 OwnP ((w.setCell ⟨g, i * 3, none⟩ (.int .u64 (a : Int))).setCell ⟨g, i * 3 + 1, none⟩ (.int .u64 (b : Int))) base (.slice (some ⟨g, 0, none⟩) n cap) (vs ++ ⟨⟨a, b⟩, c.odd⟩ :: zs) := by
 subst hi;subst hn;have := (World.ownsRow.stored (World.ownsRow.stored h (vs.length * 3) (.int .u64 (a : Int))).1 (vs.length * 3 + 1) (.int .u64 (b : Int))).1;rw [zxj] at this
 show World.ownsRow _ _ _ _ _ _ _
 simpa using this
theorem ybi {w : World} {base g cap n i : Nat} {vs zs : List Pr} {c : Pr} (h : OwnP w base (.slice (some ⟨g, 0, none⟩) n cap) (vs ++ c :: zs)) (hi : i = vs.length) (hn : n = (vs ++ c :: zs).length) (x : Bool) :
 OwnP (w.setCell ⟨g, i * 3 + 2, none⟩ (.bool x)) base (.slice (some ⟨g, 0, none⟩) n cap) (vs ++ ⟨c.v, x⟩ :: zs) := by
 subst hi;subst hn;have := (World.ownsRow.stored h (vs.length * 3 + 2) (.bool x)).1;rw [zxi] at this
 show World.ownsRow _ _ _ _ _ _ _
 simpa using this
theorem zl4 : za8 61 := fun _ _ => by kernel_rfl
theorem ybh (bs : List Nat) (n i : Nat) : prAt bs n i = ⟨setB (fun v => bitN bs (i * (n + 1) + (v - 1))) n, bitN bs (i * (n + 1) + n)⟩ := rfl
theorem zb8 (bs : List Nat) (n m : Nat) : (zbr bs n m).length = m := by simp [zbr]
theorem zs0 (bs : List Nat) (n m k : Nat) (h : k < m) : (zbr bs n m).take (k + 1) = (zbr bs n m).take k ++ [prAt bs n k] := by
 rw [List.take_succ_eq_append_getElem (by rw [zb8]; exact h)]
 simp [zbr]
end Go.Proofs.YtlleofjjdhfgcaaGreatDoor
