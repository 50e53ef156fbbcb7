/- Part of the proofs that laws of censuslaw38 return true for every input, where the tables that the rows list are laid. Texts: More. -/
import Derived.Test.YtfdonhfhcomjaaaGreatDoorZA25
import Derived.Test.YtfdonhfhcomjaaaGreatDoorZC1
import Derived.Test.YtfdonhfhcomjaaaGreatDoorZA24
import Derived.Test.YtfdonhfhcomjaaaGreatDoorZE1

/- The walk of QueryMore. -/
namespace Go.Proofs.YtfdonhfhcomjaaaGreatDoor
open Go.RowKit Cen
set_option maxHeartbeats 1000000
set_option maxRecDepth 100000
theorem last3q {p q r : Prop} (h : p ∧ q ∧ r) : r := h.2.2
theorem entR_bad {n : Int} {l : List Nd} {xs : List Int} (h : chkR xs ⟨n, l⟩ ≠ 0) : entR ⟨n, l⟩ xs = false := by unfold entR; rw [decide_eq_false h]; rfl

theorem more_dark (n : Int) (a : Option Addr) (cap : Nat) (l : List Nd) (b : Option Addr) (cap2 : Nat) (xs : List Int) (b' : Option Addr) (cap3 : Nat) (ys : List Int) (w : World) (hl : l.length ≤ 9223372036854775807) (hx : NdCells0 w a l) (hxs : IntCells w b xs) (hxl : xs.length * 8 ≤ 140737488351232) (hys : IntCells w b' ys) (hyl : ys.length * 8 ≤ 140737488351232) (ht : Tab w) (hli : lightB ⟨n, l⟩ = false) :
    Calls Tryz.prog 5 #[.agg #[.int .i64 n, .slice a l.length cap], .slice b xs.length cap2, .slice b' ys.length cap3] w fun e w' => e = .returned (.bool true) ∧ Below w.heap.size w w' := by
  have hb0 := (Below.refl w.heap.size w).alloc (Nat.le_refl _) (.cells #[.int .i64 n, .slice a l.length cap] 24)
  have HB0 := Lib.hid hb0
  have HX := Lib.hid (hx.keep hb0)
  have HXS := Lib.hid (hxs.keep hb0)
  have HYS := Lib.hid (hys.keep hb0)
  have q0 := Lib.hid (Blk.new w #[.int .i64 n, .slice a l.length cap] 24)
  have HT := Lib.hid ht
  have HW := Lib.hid (fun V (hb : Below w.heap.size w V) => works_any V (ht.keep hb))
  have HLI := Lib.hid (fun V h => light_any n a cap l V hl h)
  obtain ⟨W0, hW0⟩ : ∃ W0, W0 = w.alloc (.cells #[.int .i64 n, .slice a l.length cap] 24) := ⟨_, rfl⟩
  rw [← hW0] at HB0 HX HXS HYS q0
  have HW0 := Lib.hid hW0
  have HSUM : Hid (IntKind.i64.wrap ((xs.length : Int) + (ys.length : Int)) = (xs.length : Int) + (ys.length : Int)) := IntWalk.i64_in _ (by omega)
  have k0 : W0.cell? ⟨w.heap.size, 0, none⟩ = some (.int .i64 n) := q0.out.cell 0
  have k1 : W0.cell? ⟨w.heap.size, 1, none⟩ = some (.slice a l.length cap) := q0.out.cell 1
  have HKS : Hid (∀ w' : World, Below W0.heap.size W0 w' → w'.cell? ⟨w.heap.size, 0, none⟩ = some (.int .i64 n) ∧ w'.cell? ⟨w.heap.size, 1, none⟩ = some (.slice a l.length cap) ∧ Below W0.heap.size W0 w') := Lib.hid fun w' hb => ⟨cell_keep hb k0, cell_keep hb k1, hb⟩
  clear hb0 hx ht hxs hys hW0
  have HLB := Lib.hid hli
  clear hli
  go_enter Tryz.func5, Tryz.ntmps5
  go_wp2_with fail
  try (rw [← HW0.out])
  refine wp_region_held_drew (S := (fun w' => w'.cell? ⟨w.heap.size, 0, none⟩ = some (.int .i64 n) ∧ w'.cell? ⟨w.heap.size, 1, none⟩ = some (.slice a l.length cap) ∧ Below W0.heap.size W0 w')) (by kernel_rfl) ?_ (fun hHeld => ?_)
  · try dsimp only
    exact HKS.out _ (Below.refl _ _).drew
  refine wpAnyH_take (i := 0) (v := ?_) rfl (by kernel_rfl) (by kernel_rfl) (by kernel_rfl) (fun _ _ _ h => h) (Or.inl ⟨by rfl, ?_⟩) (by assumption) ?_
  rotate_left
  · intro w hSw
    try dsimp only at hSw
    first | (go_simp; done) | (go_simp; with_reducible rfl)
  change wpAnyH _ _ _ _ _ _ _ (Act.put _ (some 24) _) _
  try simp only [Act.put, List.setIfInBounds_toArray, List.set_cons_zero, List.set_cons_succ]
  refine wpAnyH_ready (rs := [1]) (by kernel_rfl) (by simp) ?_
  refine AllReadyH.cons rfl (fun K hK => ?_) AllReadyH.nil
  go_simp
  go_at_call 11
  refine (HLI.out _ (HX.out.keep (last3q (by assumption)))).mono ?_
  rw [HLB.out]
  rintro e w1 ⟨rfl, hb1⟩
  have hw1 : Below W0.heap.size W0 w1 := Below.trans (last3q (by assumption)) (hb1.mono (Below.size (B := W0.heap.size) (w := W0) (last3q (by assumption))))
  clear hb1
  go_wp2_with fail
  refine hK.out _ _ ?_ (fun hHeld => ?_)
  · try dsimp only
    exact HKS.out _ hw1
  clear hK K
  try simp only [Act.put, List.setIfInBounds_toArray, List.set_cons_zero, List.set_cons_succ]
  refine wpAnyH_take (i := 2) (v := ?_) rfl (by kernel_rfl) (by kernel_rfl) (by kernel_rfl) (fun _ _ _ h => h) (Or.inl ⟨by rfl, ?_⟩) (by assumption) ?_
  rotate_left
  · intro w hSw
    try dsimp only at hSw
    first | (go_simp; done) | (go_simp; with_reducible rfl)
  change wpAnyH _ _ _ _ _ _ _ (Act.put _ (some 26) _) _
  try simp only [Act.put, List.setIfInBounds_toArray, List.set_cons_zero, List.set_cons_succ]
  refine wpAnyH_take (i := 3) (v := ?_) rfl (by kernel_rfl) (by kernel_rfl) (by kernel_rfl) (fun _ _ _ h => h) (Or.inl ⟨by rfl, ?_⟩) (by assumption) ?_
  rotate_left
  · intro w hSw
    try dsimp only at hSw
    first | (go_simp; done) | (go_simp; with_reducible rfl)
  change wpAnyH _ _ _ _ _ _ _ (Act.put _ (some 27) _) _
  try simp only [Act.put, List.setIfInBounds_toArray, List.set_cons_zero, List.set_cons_succ]
  refine wpAnyH_take (i := 4) rfl (by kernel_rfl) (by kernel_rfl) (by kernel_rfl) (fun _ _ _ h => h) (Or.inr ⟨by kernel_rfl, rfl⟩) (by assumption) ?_
  change wpAnyH _ _ _ _ _ _ _ (Act.put _ (some 28) _) _
  try simp only [Act.put, List.setIfInBounds_toArray, List.set_cons_zero, List.set_cons_succ]
  refine wpAnyH_take (i := 5) rfl (by kernel_rfl) (by kernel_rfl) (by kernel_rfl) (fun _ _ _ h => h) (Or.inr ⟨by kernel_rfl, rfl⟩) (by assumption) ?_
  change wpAnyH _ _ _ _ _ _ _ (Act.put _ (some 29) _) _
  try simp only [Act.put, List.setIfInBounds_toArray, List.set_cons_zero, List.set_cons_succ]
  refine wpAnyH_take (i := 6) rfl (by kernel_rfl) (by kernel_rfl) (by kernel_rfl) (fun _ _ _ h => h) (Or.inr ⟨by kernel_rfl, rfl⟩) (by assumption) ?_
  change wpAnyH _ _ _ _ _ _ _ (Act.put _ (some 30) _) _
  try simp only [Act.put, List.setIfInBounds_toArray, List.set_cons_zero, List.set_cons_succ]
  refine wpAnyH_take (i := 7) rfl (by kernel_rfl) (by kernel_rfl) (by kernel_rfl) (fun _ _ _ h => h) (Or.inr ⟨by kernel_rfl, rfl⟩) (by assumption) ?_
  change wpAnyH _ _ _ _ _ _ _ (Act.put _ (some 31) _) _
  try simp only [Act.put, List.setIfInBounds_toArray, List.set_cons_zero, List.set_cons_succ]
  refine wpAnyH_take (i := 8) rfl (by kernel_rfl) (by kernel_rfl) (by kernel_rfl) (fun _ _ _ h => h) (Or.inr ⟨by kernel_rfl, rfl⟩) (by assumption) ?_
  change wpAnyH _ _ _ _ _ _ _ (Act.put _ (some 32) _) _
  try simp only [Act.put, List.setIfInBounds_toArray, List.set_cons_zero, List.set_cons_succ]
  refine wpAnyH_take (i := 9) rfl (by kernel_rfl) (by kernel_rfl) (by kernel_rfl) (fun _ _ _ h => h) (Or.inr ⟨by kernel_rfl, rfl⟩) (by assumption) ?_
  change wpAnyH _ _ _ _ _ _ _ (Act.put _ (some 33) _) _
  try simp only [Act.put, List.setIfInBounds_toArray, List.set_cons_zero, List.set_cons_succ]
  refine wpAnyH_take (i := 10) (v := ?_) rfl (by kernel_rfl) (by kernel_rfl) (by kernel_rfl) (fun _ _ _ h => h) (Or.inl ⟨by rfl, ?_⟩) (by assumption) ?_
  rotate_left
  · intro w hSw
    try dsimp only at hSw
    first | (go_simp; done) | (go_simp; with_reducible rfl)
  change wpAnyH _ _ _ _ _ _ _ (Act.put _ (some 34) _) _
  try simp only [Act.put, List.setIfInBounds_toArray, List.set_cons_zero, List.set_cons_succ]
  refine wpAnyH_take (i := 11) (v := ?_) rfl (by kernel_rfl) (by kernel_rfl) (by kernel_rfl) (fun _ _ _ h => h) (Or.inl ⟨by rfl, ?_⟩) (by assumption) ?_
  rotate_left
  · intro w hSw
    try dsimp only at hSw
    first | (go_simp; done) | (go_simp; with_reducible rfl)
  change wpAnyH _ _ _ _ _ _ _ (Act.put _ (some 35) _) _
  try simp only [Act.put, List.setIfInBounds_toArray, List.set_cons_zero, List.set_cons_succ]
  refine wpAnyH_take (i := 12) rfl (by kernel_rfl) (by kernel_rfl) (by kernel_rfl) (fun _ _ _ h => h) (Or.inr ⟨by kernel_rfl, rfl⟩) (by assumption) ?_
  change wpAnyH _ _ _ _ _ _ _ (Act.put _ (some 36) _) _
  try simp only [Act.put, List.setIfInBounds_toArray, List.set_cons_zero, List.set_cons_succ]
  refine wpAnyH_take (i := 13) rfl (by kernel_rfl) (by kernel_rfl) (by kernel_rfl) (fun _ _ _ h => h) (Or.inr ⟨by kernel_rfl, rfl⟩) (by assumption) ?_
  change wpAnyH _ _ _ _ _ _ _ (Act.put _ (some 37) _) _
  try simp only [Act.put, List.setIfInBounds_toArray, List.set_cons_zero, List.set_cons_succ]
  refine wpAnyH_take (i := 14) rfl (by kernel_rfl) (by kernel_rfl) (by kernel_rfl) (fun _ _ _ h => h) (Or.inr ⟨by kernel_rfl, rfl⟩) (by assumption) ?_
  change wpAnyH _ _ _ _ _ _ _ (Act.put _ (some 38) _) _
  try simp only [Act.put, List.setIfInBounds_toArray, List.set_cons_zero, List.set_cons_succ]
  refine wpAnyH_take (i := 15) rfl (by kernel_rfl) (by kernel_rfl) (by kernel_rfl) (fun _ _ _ h => h) (Or.inr ⟨by kernel_rfl, rfl⟩) (by assumption) ?_
  change wpAnyH _ _ _ _ _ _ _ (Act.put _ (some 39) _) _
  try simp only [Act.put, List.setIfInBounds_toArray, List.set_cons_zero, List.set_cons_succ]
  refine wpAnyH_take (i := 16) rfl (by kernel_rfl) (by kernel_rfl) (by kernel_rfl) (fun _ _ _ h => h) (Or.inr ⟨by kernel_rfl, rfl⟩) (by assumption) ?_
  change wpAnyH _ _ _ _ _ _ _ (Act.put _ (some 40) _) _
  try simp only [Act.put, List.setIfInBounds_toArray, List.set_cons_zero, List.set_cons_succ]
  refine wpAnyH_take (i := 17) rfl (by kernel_rfl) (by kernel_rfl) (by kernel_rfl) (fun _ _ _ h => h) (Or.inr ⟨by kernel_rfl, rfl⟩) (by assumption) ?_
  change wpAnyH _ _ _ _ _ _ _ (Act.put _ (some 41) _) _
  try simp only [Act.put, List.setIfInBounds_toArray, List.set_cons_zero, List.set_cons_succ]
  refine wpAnyH_take (i := 18) rfl (by kernel_rfl) (by kernel_rfl) (by kernel_rfl) (fun _ _ _ h => h) (Or.inr ⟨by kernel_rfl, rfl⟩) (by assumption) ?_
  change wpAnyH _ _ _ _ _ _ _ (Act.put _ (some 42) _) _
  try simp only [Act.put, List.setIfInBounds_toArray, List.set_cons_zero, List.set_cons_succ]
  refine wpAnyH_take (i := 19) rfl (by kernel_rfl) (by kernel_rfl) (by kernel_rfl) (fun _ _ _ h => h) (Or.inr ⟨by kernel_rfl, rfl⟩) (by assumption) ?_
  change wpAnyH _ _ _ _ _ _ _ (Act.put _ (some 43) _) _
  try simp only [Act.put, List.setIfInBounds_toArray, List.set_cons_zero, List.set_cons_succ]
  refine wpAnyH_take (i := 20) (v := ?_) rfl (by kernel_rfl) (by kernel_rfl) (by kernel_rfl) (fun _ _ _ h => h) (Or.inl ⟨by rfl, ?_⟩) (by assumption) ?_
  rotate_left
  · intro w hSw
    try dsimp only at hSw
    first | (go_simp; done) | (go_simp; with_reducible rfl)
  change wpAnyH _ _ _ _ _ _ _ (Act.put _ (some 44) _) _
  try simp only [Act.put, List.setIfInBounds_toArray, List.set_cons_zero, List.set_cons_succ]
  refine wpAnyH_done (by kernel_rfl) ?_ _
  all_goals
    have B1 := Lib.hid (HB0.out.trans (Below.mono (B := W0.heap.size) hw1 HB0.out.size))
    go_wp2_with fail
    refine (HW.out _ B1.out).mono ?_
    rintro e wz ⟨rfl, hbz⟩
    have B2 := Lib.hid (B1.out.trans (hbz.mono B1.out.size))
    clear hbz
    go_wp2
    go_ret
    exact ⟨rfl, B2.out⟩
theorem more_long (n : Int) (a : Option Addr) (cap : Nat) (l : List Nd) (b : Option Addr) (cap2 : Nat) (xs : List Int) (b' : Option Addr) (cap3 : Nat) (ys : List Int) (w : World) (hl : l.length ≤ 9223372036854775807) (hx : NdCells0 w a l) (hxs : IntCells w b xs) (hxl : xs.length * 8 ≤ 140737488351232) (hys : IntCells w b' ys) (hyl : ys.length * 8 ≤ 140737488351232) (ht : Tab w) (hli : lightB ⟨n, l⟩ = true) (h40 : 40 < xs.length + ys.length) :
    Calls Tryz.prog 5 #[.agg #[.int .i64 n, .slice a l.length cap], .slice b xs.length cap2, .slice b' ys.length cap3] w fun e w' => e = .returned (.bool true) ∧ Below w.heap.size w w' := by
  have hb0 := (Below.refl w.heap.size w).alloc (Nat.le_refl _) (.cells #[.int .i64 n, .slice a l.length cap] 24)
  have HB0 := Lib.hid hb0
  have HX := Lib.hid (hx.keep hb0)
  have HXS := Lib.hid (hxs.keep hb0)
  have HYS := Lib.hid (hys.keep hb0)
  have q0 := Lib.hid (Blk.new w #[.int .i64 n, .slice a l.length cap] 24)
  have HT := Lib.hid ht
  have HW := Lib.hid (fun V (hb : Below w.heap.size w V) => works_any V (ht.keep hb))
  have HLI := Lib.hid (fun V h => light_any n a cap l V hl h)
  obtain ⟨W0, hW0⟩ : ∃ W0, W0 = w.alloc (.cells #[.int .i64 n, .slice a l.length cap] 24) := ⟨_, rfl⟩
  rw [← hW0] at HB0 HX HXS HYS q0
  have HW0 := Lib.hid hW0
  have HSUM : Hid (IntKind.i64.wrap ((xs.length : Int) + (ys.length : Int)) = (xs.length : Int) + (ys.length : Int)) := IntWalk.i64_in _ (by omega)
  have k0 : W0.cell? ⟨w.heap.size, 0, none⟩ = some (.int .i64 n) := q0.out.cell 0
  have k1 : W0.cell? ⟨w.heap.size, 1, none⟩ = some (.slice a l.length cap) := q0.out.cell 1
  have HKS : Hid (∀ w' : World, Below W0.heap.size W0 w' → w'.cell? ⟨w.heap.size, 0, none⟩ = some (.int .i64 n) ∧ w'.cell? ⟨w.heap.size, 1, none⟩ = some (.slice a l.length cap) ∧ Below W0.heap.size W0 w') := Lib.hid fun w' hb => ⟨cell_keep hb k0, cell_keep hb k1, hb⟩
  clear hb0 hx ht hxs hys hW0
  have HLB := Lib.hid hli
  have d40 : decide ((40 : Int) < (xs.length : Int) + (ys.length : Int)) = true := by simp; omega
  clear hli h40
  go_enter Tryz.func5, Tryz.ntmps5
  go_wp2_with fail
  try (rw [← HW0.out])
  refine wp_region_held_drew (S := (fun w' => w'.cell? ⟨w.heap.size, 0, none⟩ = some (.int .i64 n) ∧ w'.cell? ⟨w.heap.size, 1, none⟩ = some (.slice a l.length cap) ∧ Below W0.heap.size W0 w')) (by kernel_rfl) ?_ (fun hHeld => ?_)
  · try dsimp only
    exact HKS.out _ (Below.refl _ _).drew
  refine wpAnyH_take (i := 0) (v := ?_) rfl (by kernel_rfl) (by kernel_rfl) (by kernel_rfl) (fun _ _ _ h => h) (Or.inl ⟨by rfl, ?_⟩) (by assumption) ?_
  rotate_left
  · intro w hSw
    try dsimp only at hSw
    first | (go_simp; done) | (go_simp; with_reducible rfl)
  change wpAnyH _ _ _ _ _ _ _ (Act.put _ (some 24) _) _
  try simp only [Act.put, List.setIfInBounds_toArray, List.set_cons_zero, List.set_cons_succ]
  refine wpAnyH_ready (rs := [1]) (by kernel_rfl) (by simp) ?_
  refine AllReadyH.cons rfl (fun K hK => ?_) AllReadyH.nil
  go_simp
  go_at_call 11
  refine (HLI.out _ (HX.out.keep (last3q (by assumption)))).mono ?_
  rw [HLB.out]
  rintro e w1 ⟨rfl, hb1⟩
  have hw1 : Below W0.heap.size W0 w1 := Below.trans (last3q (by assumption)) (hb1.mono (Below.size (B := W0.heap.size) (w := W0) (last3q (by assumption))))
  clear hb1
  go_wp2_with fail
  refine hK.out _ _ ?_ (fun hHeld => ?_)
  · try dsimp only
    exact HKS.out _ hw1
  clear hK K
  try simp only [Act.put, List.setIfInBounds_toArray, List.set_cons_zero, List.set_cons_succ]
  refine wpAnyH_take (i := 2) (v := ?_) rfl (by kernel_rfl) (by kernel_rfl) (by kernel_rfl) (fun _ _ _ h => h) (Or.inl ⟨by rfl, ?_⟩) (by assumption) ?_
  rotate_left
  · intro w hSw
    try dsimp only at hSw
    first | (go_simp; done) | (go_simp; with_reducible rfl)
  change wpAnyH _ _ _ _ _ _ _ (Act.put _ (some 26) _) _
  try simp only [Act.put, List.setIfInBounds_toArray, List.set_cons_zero, List.set_cons_succ]
  refine wpAnyH_take (i := 3) (v := ?_) rfl (by kernel_rfl) (by kernel_rfl) (by kernel_rfl) (fun _ _ _ h => h) (Or.inl ⟨by rfl, ?_⟩) (by assumption) ?_
  rotate_left
  · intro w hSw
    try dsimp only at hSw
    first | (go_simp; done) | (go_simp; with_reducible rfl)
  change wpAnyH _ _ _ _ _ _ _ (Act.put _ (some 27) _) _
  try simp only [Act.put, List.setIfInBounds_toArray, List.set_cons_zero, List.set_cons_succ]
  refine wpAnyH_take (i := 4) (v := ?_) rfl (by kernel_rfl) (by kernel_rfl) (by kernel_rfl) (fun _ _ _ h => h) (Or.inl ⟨by rfl, ?_⟩) (by assumption) ?_
  rotate_left
  · intro w hSw
    try dsimp only at hSw
    first | (go_simp; done) | (go_simp; with_reducible rfl)
  change wpAnyH _ _ _ _ _ _ _ (Act.put _ (some 28) _) _
  try simp only [Act.put, List.setIfInBounds_toArray, List.set_cons_zero, List.set_cons_succ]
  refine wpAnyH_take (i := 5) (v := ?_) rfl (by kernel_rfl) (by kernel_rfl) (by kernel_rfl) (fun _ _ _ h => h) (Or.inl ⟨by rfl, ?_⟩) (by assumption) ?_
  rotate_left
  · intro w hSw
    try dsimp only at hSw
    first | (go_simp; done) | (go_simp; with_reducible rfl)
  change wpAnyH _ _ _ _ _ _ _ (Act.put _ (some 29) _) _
  try simp only [Act.put, List.setIfInBounds_toArray, List.set_cons_zero, List.set_cons_succ]
  refine wpAnyH_take (i := 6) (v := ?_) rfl (by kernel_rfl) (by kernel_rfl) (by kernel_rfl) (fun _ _ _ h => h) (Or.inl ⟨by rfl, ?_⟩) (by assumption) ?_
  rotate_left
  · intro w hSw
    try dsimp only at hSw
    first | (go_simp; done) | (go_simp; with_reducible rfl)
  change wpAnyH _ _ _ _ _ _ _ (Act.put _ (some 30) _) _
  try simp only [Act.put, List.setIfInBounds_toArray, List.set_cons_zero, List.set_cons_succ]
  refine wpAnyH_take (i := 7) (v := ?_) rfl (by kernel_rfl) (by kernel_rfl) (by kernel_rfl) (fun _ _ _ h => h) (Or.inl ⟨by rfl, ?_⟩) (by assumption) ?_
  rotate_left
  · intro w hSw
    try dsimp only at hSw
    first | (go_simp; done) | (go_simp; with_reducible rfl)
  change wpAnyH _ _ _ _ _ _ _ (Act.put _ (some 31) _) _
  try simp only [Act.put, List.setIfInBounds_toArray, List.set_cons_zero, List.set_cons_succ]
  have hsum := HSUM.out
  refine wpAnyH_take (i := 8) (v := ?_) rfl (by kernel_rfl) (by kernel_rfl) (by kernel_rfl) (fun _ _ _ h => h) (Or.inl ⟨by rfl, ?_⟩) (by assumption) ?_
  rotate_left
  · intro w hSw
    try dsimp only at hSw
    first | (go_simp; done) | (go_simp; with_reducible rfl)
  change wpAnyH _ _ _ _ _ _ _ (Act.put _ (some 32) _) _
  try simp only [Act.put, List.setIfInBounds_toArray, List.set_cons_zero, List.set_cons_succ]
  clear hsum
  refine wpAnyH_take (i := 9) (v := ?_) rfl (by kernel_rfl) (by kernel_rfl) (by kernel_rfl) (fun _ _ _ h => h) (Or.inl ⟨by rfl, ?_⟩) (by assumption) ?_
  rotate_left
  · intro w hSw
    try dsimp only at hSw
    first | (go_simp; done) | (go_simp; with_reducible rfl)
  change wpAnyH _ _ _ _ _ _ _ (Act.put _ (some 33) _) _
  try simp only [Act.put, List.setIfInBounds_toArray, List.set_cons_zero, List.set_cons_succ]
  refine wpAnyH_take (i := 10) (v := ?_) rfl (by kernel_rfl) (by kernel_rfl) (by kernel_rfl) (fun _ _ _ h => h) (Or.inl ⟨by rfl, ?_⟩) (by assumption) ?_
  rotate_left
  · intro w hSw
    try dsimp only at hSw
    first | (go_simp; done) | (go_simp; with_reducible rfl)
  change wpAnyH _ _ _ _ _ _ _ (Act.put _ (some 34) _) _
  try simp only [Act.put, List.setIfInBounds_toArray, List.set_cons_zero, List.set_cons_succ]
  refine wpAnyH_take (i := 11) (v := ?_) rfl (by kernel_rfl) (by kernel_rfl) (by kernel_rfl) (fun _ _ _ h => h) (Or.inl ⟨by rfl, ?_⟩) (by assumption) ?_
  rotate_left
  · intro w hSw
    try dsimp only at hSw
    first | (go_simp; done) | (go_simp; with_reducible rfl)
  change wpAnyH _ _ _ _ _ _ _ (Act.put _ (some 35) _) _
  try simp only [Act.put, List.setIfInBounds_toArray, List.set_cons_zero, List.set_cons_succ]
  refine wpAnyH_take (i := 12) rfl (by kernel_rfl) (by kernel_rfl) (by kernel_rfl) (fun _ _ _ h => h) (Or.inr ⟨by kernel_rfl, rfl⟩) (by assumption) ?_
  change wpAnyH _ _ _ _ _ _ _ (Act.put _ (some 36) _) _
  try simp only [Act.put, List.setIfInBounds_toArray, List.set_cons_zero, List.set_cons_succ]
  refine wpAnyH_take (i := 13) rfl (by kernel_rfl) (by kernel_rfl) (by kernel_rfl) (fun _ _ _ h => h) (Or.inr ⟨by kernel_rfl, rfl⟩) (by assumption) ?_
  change wpAnyH _ _ _ _ _ _ _ (Act.put _ (some 37) _) _
  try simp only [Act.put, List.setIfInBounds_toArray, List.set_cons_zero, List.set_cons_succ]
  refine wpAnyH_take (i := 14) rfl (by kernel_rfl) (by kernel_rfl) (by kernel_rfl) (fun _ _ _ h => h) (Or.inr ⟨by kernel_rfl, rfl⟩) (by assumption) ?_
  change wpAnyH _ _ _ _ _ _ _ (Act.put _ (some 38) _) _
  try simp only [Act.put, List.setIfInBounds_toArray, List.set_cons_zero, List.set_cons_succ]
  refine wpAnyH_take (i := 15) rfl (by kernel_rfl) (by kernel_rfl) (by kernel_rfl) (fun _ _ _ h => h) (Or.inr ⟨by kernel_rfl, rfl⟩) (by assumption) ?_
  change wpAnyH _ _ _ _ _ _ _ (Act.put _ (some 39) _) _
  try simp only [Act.put, List.setIfInBounds_toArray, List.set_cons_zero, List.set_cons_succ]
  refine wpAnyH_take (i := 16) rfl (by kernel_rfl) (by kernel_rfl) (by kernel_rfl) (fun _ _ _ h => h) (Or.inr ⟨by kernel_rfl, rfl⟩) (by assumption) ?_
  change wpAnyH _ _ _ _ _ _ _ (Act.put _ (some 40) _) _
  try simp only [Act.put, List.setIfInBounds_toArray, List.set_cons_zero, List.set_cons_succ]
  refine wpAnyH_take (i := 17) rfl (by kernel_rfl) (by kernel_rfl) (by kernel_rfl) (fun _ _ _ h => h) (Or.inr ⟨by kernel_rfl, rfl⟩) (by assumption) ?_
  change wpAnyH _ _ _ _ _ _ _ (Act.put _ (some 41) _) _
  try simp only [Act.put, List.setIfInBounds_toArray, List.set_cons_zero, List.set_cons_succ]
  refine wpAnyH_take (i := 18) rfl (by kernel_rfl) (by kernel_rfl) (by kernel_rfl) (fun _ _ _ h => h) (Or.inr ⟨by kernel_rfl, rfl⟩) (by assumption) ?_
  change wpAnyH _ _ _ _ _ _ _ (Act.put _ (some 42) _) _
  try simp only [Act.put, List.setIfInBounds_toArray, List.set_cons_zero, List.set_cons_succ]
  refine wpAnyH_take (i := 19) rfl (by kernel_rfl) (by kernel_rfl) (by kernel_rfl) (fun _ _ _ h => h) (Or.inr ⟨by kernel_rfl, rfl⟩) (by assumption) ?_
  change wpAnyH _ _ _ _ _ _ _ (Act.put _ (some 43) _) _
  try simp only [Act.put, List.setIfInBounds_toArray, List.set_cons_zero, List.set_cons_succ]
  refine wpAnyH_take (i := 20) (v := ?_) rfl (by kernel_rfl) (by kernel_rfl) (by kernel_rfl) (fun _ _ _ h => h) (Or.inl ⟨by rfl, ?_⟩) (by assumption) ?_
  rotate_left
  · intro w hSw
    try dsimp only at hSw
    first | (go_simp; done) | (go_simp; with_reducible rfl)
  change wpAnyH _ _ _ _ _ _ _ (Act.put _ (some 44) _) _
  try simp only [Act.put, List.setIfInBounds_toArray, List.set_cons_zero, List.set_cons_succ]
  refine wpAnyH_done (by kernel_rfl) ?_ _
  all_goals
    have B1 := Lib.hid (HB0.out.trans (Below.mono (B := W0.heap.size) hw1 HB0.out.size))
    go_wp2_with fail
    refine (HW.out _ B1.out).mono ?_
    rintro e wz ⟨rfl, hbz⟩
    have B2 := Lib.hid (B1.out.trans (hbz.mono B1.out.size))
    clear hbz
    go_wp2
    go_ret
    exact ⟨rfl, B2.out⟩
theorem more_err (n : Int) (a : Option Addr) (cap : Nat) (l : List Nd) (b : Option Addr) (cap2 : Nat) (xs : List Int) (b' : Option Addr) (cap3 : Nat) (ys : List Int) (w : World) (hl : l.length ≤ 9223372036854775807) (hx : NdCells0 w a l) (hxs : IntCells w b xs) (hxl : xs.length * 8 ≤ 140737488351232) (hys : IntCells w b' ys) (hyl : ys.length * 8 ≤ 140737488351232) (ht : Tab w) (hli : lightB ⟨n, l⟩ = true) (h40 : xs.length + ys.length ≤ 40) (hc : chkR (xs ++ ys) ⟨n, l⟩ ≠ 0) :
    Calls Tryz.prog 5 #[.agg #[.int .i64 n, .slice a l.length cap], .slice b xs.length cap2, .slice b' ys.length cap3] w fun e w' => e = .returned (.bool true) ∧ Below w.heap.size w w' := by
  have hb0 := (Below.refl w.heap.size w).alloc (Nat.le_refl _) (.cells #[.int .i64 n, .slice a l.length cap] 24)
  have HB0 := Lib.hid hb0
  have HX := Lib.hid (hx.keep hb0)
  have HXS := Lib.hid (hxs.keep hb0)
  have HYS := Lib.hid (hys.keep hb0)
  have q0 := Lib.hid (Blk.new w #[.int .i64 n, .slice a l.length cap] 24)
  have HT := Lib.hid ht
  have HW := Lib.hid (fun V (hb : Below w.heap.size w V) => works_any V (ht.keep hb))
  have HLI := Lib.hid (fun V h => light_any n a cap l V hl h)
  obtain ⟨W0, hW0⟩ : ∃ W0, W0 = w.alloc (.cells #[.int .i64 n, .slice a l.length cap] 24) := ⟨_, rfl⟩
  rw [← hW0] at HB0 HX HXS HYS q0
  have HW0 := Lib.hid hW0
  have HSUM : Hid (IntKind.i64.wrap ((xs.length : Int) + (ys.length : Int)) = (xs.length : Int) + (ys.length : Int)) := IntWalk.i64_in _ (by omega)
  have k0 : W0.cell? ⟨w.heap.size, 0, none⟩ = some (.int .i64 n) := q0.out.cell 0
  have k1 : W0.cell? ⟨w.heap.size, 1, none⟩ = some (.slice a l.length cap) := q0.out.cell 1
  have HKS : Hid (∀ w' : World, Below W0.heap.size W0 w' → w'.cell? ⟨w.heap.size, 0, none⟩ = some (.int .i64 n) ∧ w'.cell? ⟨w.heap.size, 1, none⟩ = some (.slice a l.length cap) ∧ Below W0.heap.size W0 w') := Lib.hid fun w' hb => ⟨cell_keep hb k0, cell_keep hb k1, hb⟩
  clear hb0 hx ht hxs hys hW0
  have HLB := Lib.hid hli
  obtain ⟨hl50, hi50, h8⟩ := lightB_ok hli
  simp only at hl50 hi50 h8
  have d40 : decide ((40 : Int) < (xs.length : Int) + (ys.length : Int)) = false := by simp; omega
  have XN := Lib.hid (HX.out.up fun x hx => by have := hi50 x hx; omega)
  have hl30 : l.length ≤ 1073741824 := by omega
  have SM := Lib.hid (small50 hl50 hi50)
  have H8 := Lib.hid h8
  obtain ⟨zs, hzs⟩ : ∃ zs, zs = xs ++ ys := ⟨_, rfl⟩
  have hz30 : zs.length ≤ 1073741824 := by rw [hzs, List.length_append]; omega
  have hx30 : xs.length ≤ 1073741824 := by omega
  have hy30 : ys.length ≤ 1073741824 := by omega
  have HZS := Lib.hid hzs
  rw [← hzs] at hc
  clear hli hl50 hi50 h8
  have hcb : (chkR zs ⟨n, l⟩ != 0) = true := by simpa using hc
  clear hc h40 hzs
  go_enter Tryz.func5, Tryz.ntmps5
  go_wp2_with fail
  try (rw [← HW0.out])
  refine wp_region_held_drew (S := (fun w' => w'.cell? ⟨w.heap.size, 0, none⟩ = some (.int .i64 n) ∧ w'.cell? ⟨w.heap.size, 1, none⟩ = some (.slice a l.length cap) ∧ Below W0.heap.size W0 w')) (by kernel_rfl) ?_ (fun hHeld => ?_)
  · try dsimp only
    exact HKS.out _ (Below.refl _ _).drew
  refine wpAnyH_take (i := 0) (v := ?_) rfl (by kernel_rfl) (by kernel_rfl) (by kernel_rfl) (fun _ _ _ h => h) (Or.inl ⟨by rfl, ?_⟩) (by assumption) ?_
  rotate_left
  · intro w hSw
    try dsimp only at hSw
    first | (go_simp; done) | (go_simp; with_reducible rfl)
  change wpAnyH _ _ _ _ _ _ _ (Act.put _ (some 24) _) _
  try simp only [Act.put, List.setIfInBounds_toArray, List.set_cons_zero, List.set_cons_succ]
  refine wpAnyH_ready (rs := [1]) (by kernel_rfl) (by simp) ?_
  refine AllReadyH.cons rfl (fun K hK => ?_) AllReadyH.nil
  go_simp
  go_at_call 11
  refine (HLI.out _ (HX.out.keep (last3q (by assumption)))).mono ?_
  rw [HLB.out]
  rintro e w1 ⟨rfl, hb1⟩
  have hw1 : Below W0.heap.size W0 w1 := Below.trans (last3q (by assumption)) (hb1.mono (Below.size (B := W0.heap.size) (w := W0) (last3q (by assumption))))
  clear hb1
  go_wp2_with fail
  refine hK.out _ _ ?_ (fun hHeld => ?_)
  · try dsimp only
    exact HKS.out _ hw1
  clear hK K
  try simp only [Act.put, List.setIfInBounds_toArray, List.set_cons_zero, List.set_cons_succ]
  refine wpAnyH_take (i := 2) (v := ?_) rfl (by kernel_rfl) (by kernel_rfl) (by kernel_rfl) (fun _ _ _ h => h) (Or.inl ⟨by rfl, ?_⟩) (by assumption) ?_
  rotate_left
  · intro w hSw
    try dsimp only at hSw
    first | (go_simp; done) | (go_simp; with_reducible rfl)
  change wpAnyH _ _ _ _ _ _ _ (Act.put _ (some 26) _) _
  try simp only [Act.put, List.setIfInBounds_toArray, List.set_cons_zero, List.set_cons_succ]
  refine wpAnyH_take (i := 3) (v := ?_) rfl (by kernel_rfl) (by kernel_rfl) (by kernel_rfl) (fun _ _ _ h => h) (Or.inl ⟨by rfl, ?_⟩) (by assumption) ?_
  rotate_left
  · intro w hSw
    try dsimp only at hSw
    first | (go_simp; done) | (go_simp; with_reducible rfl)
  change wpAnyH _ _ _ _ _ _ _ (Act.put _ (some 27) _) _
  try simp only [Act.put, List.setIfInBounds_toArray, List.set_cons_zero, List.set_cons_succ]
  refine wpAnyH_take (i := 4) (v := ?_) rfl (by kernel_rfl) (by kernel_rfl) (by kernel_rfl) (fun _ _ _ h => h) (Or.inl ⟨by rfl, ?_⟩) (by assumption) ?_
  rotate_left
  · intro w hSw
    try dsimp only at hSw
    first | (go_simp; done) | (go_simp; with_reducible rfl)
  change wpAnyH _ _ _ _ _ _ _ (Act.put _ (some 28) _) _
  try simp only [Act.put, List.setIfInBounds_toArray, List.set_cons_zero, List.set_cons_succ]
  refine wpAnyH_take (i := 5) (v := ?_) rfl (by kernel_rfl) (by kernel_rfl) (by kernel_rfl) (fun _ _ _ h => h) (Or.inl ⟨by rfl, ?_⟩) (by assumption) ?_
  rotate_left
  · intro w hSw
    try dsimp only at hSw
    first | (go_simp; done) | (go_simp; with_reducible rfl)
  change wpAnyH _ _ _ _ _ _ _ (Act.put _ (some 29) _) _
  try simp only [Act.put, List.setIfInBounds_toArray, List.set_cons_zero, List.set_cons_succ]
  refine wpAnyH_take (i := 6) (v := ?_) rfl (by kernel_rfl) (by kernel_rfl) (by kernel_rfl) (fun _ _ _ h => h) (Or.inl ⟨by rfl, ?_⟩) (by assumption) ?_
  rotate_left
  · intro w hSw
    try dsimp only at hSw
    first | (go_simp; done) | (go_simp; with_reducible rfl)
  change wpAnyH _ _ _ _ _ _ _ (Act.put _ (some 30) _) _
  try simp only [Act.put, List.setIfInBounds_toArray, List.set_cons_zero, List.set_cons_succ]
  refine wpAnyH_take (i := 7) (v := ?_) rfl (by kernel_rfl) (by kernel_rfl) (by kernel_rfl) (fun _ _ _ h => h) (Or.inl ⟨by rfl, ?_⟩) (by assumption) ?_
  rotate_left
  · intro w hSw
    try dsimp only at hSw
    first | (go_simp; done) | (go_simp; with_reducible rfl)
  change wpAnyH _ _ _ _ _ _ _ (Act.put _ (some 31) _) _
  try simp only [Act.put, List.setIfInBounds_toArray, List.set_cons_zero, List.set_cons_succ]
  have hsum := HSUM.out
  refine wpAnyH_take (i := 8) (v := ?_) rfl (by kernel_rfl) (by kernel_rfl) (by kernel_rfl) (fun _ _ _ h => h) (Or.inl ⟨by rfl, ?_⟩) (by assumption) ?_
  rotate_left
  · intro w hSw
    try dsimp only at hSw
    first | (go_simp; done) | (go_simp; with_reducible rfl)
  change wpAnyH _ _ _ _ _ _ _ (Act.put _ (some 32) _) _
  try simp only [Act.put, List.setIfInBounds_toArray, List.set_cons_zero, List.set_cons_succ]
  clear hsum
  refine wpAnyH_take (i := 9) (v := ?_) rfl (by kernel_rfl) (by kernel_rfl) (by kernel_rfl) (fun _ _ _ h => h) (Or.inl ⟨by rfl, ?_⟩) (by assumption) ?_
  rotate_left
  · intro w hSw
    try dsimp only at hSw
    first | (go_simp; done) | (go_simp; with_reducible rfl)
  change wpAnyH _ _ _ _ _ _ _ (Act.put _ (some 33) _) _
  try simp only [Act.put, List.setIfInBounds_toArray, List.set_cons_zero, List.set_cons_succ]
  refine wpAnyH_take (i := 10) (v := ?_) rfl (by kernel_rfl) (by kernel_rfl) (by kernel_rfl) (fun _ _ _ h => h) (Or.inl ⟨by rfl, ?_⟩) (by assumption) ?_
  rotate_left
  · intro w hSw
    try dsimp only at hSw
    first | (go_simp; done) | (go_simp; with_reducible rfl)
  change wpAnyH _ _ _ _ _ _ _ (Act.put _ (some 34) _) _
  try simp only [Act.put, List.setIfInBounds_toArray, List.set_cons_zero, List.set_cons_succ]
  refine wpAnyH_take (i := 11) (v := ?_) rfl (by kernel_rfl) (by kernel_rfl) (by kernel_rfl) (fun _ _ _ h => h) (Or.inl ⟨by rfl, ?_⟩) (by assumption) ?_
  rotate_left
  · intro w hSw
    try dsimp only at hSw
    first | (go_simp; done) | (go_simp; with_reducible rfl)
  change wpAnyH _ _ _ _ _ _ _ (Act.put _ (some 35) _) _
  try simp only [Act.put, List.setIfInBounds_toArray, List.set_cons_zero, List.set_cons_succ]
  refine wpAnyH_take (i := 12) (v := ?_) rfl (by kernel_rfl) (by kernel_rfl) (by kernel_rfl) (fun _ _ _ h => h) (Or.inl ⟨by rfl, ?_⟩) (by assumption) ?_
  rotate_left
  · intro w hSw
    try dsimp only at hSw
    first | (go_simp; done) | (go_simp; with_reducible rfl)
  change wpAnyH _ _ _ _ _ _ _ (Act.put _ (some 36) _) _
  try simp only [Act.put, List.setIfInBounds_toArray, List.set_cons_zero, List.set_cons_succ]
  refine wpAnyH_take (i := 14) (v := ?_) rfl (by kernel_rfl) (by kernel_rfl) (by kernel_rfl) (fun _ _ _ h => h) (Or.inl ⟨by rfl, ?_⟩) (by assumption) ?_
  rotate_left
  · intro w hSw
    try dsimp only at hSw
    first | (go_simp; done) | (go_simp; with_reducible rfl)
  change wpAnyH _ _ _ _ _ _ _ (Act.put _ (some 38) _) _
  try simp only [Act.put, List.setIfInBounds_toArray, List.set_cons_zero, List.set_cons_succ]
  refine wpAnyH_take (i := 16) (v := ?_) rfl (by kernel_rfl) (by kernel_rfl) (by kernel_rfl) (fun _ _ _ h => h) (Or.inl ⟨by rfl, ?_⟩) (by assumption) ?_
  rotate_left
  · intro w hSw
    try dsimp only at hSw
    first | (go_simp; done) | (go_simp; with_reducible rfl)
  change wpAnyH _ _ _ _ _ _ _ (Act.put _ (some 40) _) _
  try simp only [Act.put, List.setIfInBounds_toArray, List.set_cons_zero, List.set_cons_succ]
  refine wpAnyH_ready (rs := [13]) (by kernel_rfl) (by simp) ?_
  refine AllReadyH.cons rfl (fun K hK => ?_) AllReadyH.nil
  go_simp
  refine hK.out _ _ ?_ (fun hHeld => ?_)
  · try dsimp only
    exact HKS.out _ (Below.alloc hw1 hw1.size _)
  clear hK K
  try simp only [Act.put, List.setIfInBounds_toArray, List.set_cons_zero, List.set_cons_succ]
  have O0 : Hid (OwnInts (w1.alloc (.cells #[] 3)) w1.heap.size (.slice (some ⟨w1.heap.size, 0, none⟩) 0 0) []) := World.ownsRow_lit w1 #[] 0 (Nat.le_refl _) (by unfold maxLen; omega) rfl
  have hwa : Hid (Below W0.heap.size W0 (w1.alloc (.cells #[] 3))) := Below.alloc hw1 hw1.size _
  refine wpAnyH_ready (rs := [15]) (by kernel_rfl) (by simp) ?_
  refine AllReadyH.cons rfl (fun K hK => ?_) AllReadyH.nil
  refine step_append_ints (by kernel_rfl) _ _ rfl w1.heap.size _ [] rfl O0.out b cap2 xs rfl (HXS.out.keep hwa.out) (by simp) (by omega) (by simp) ?_
  intro v2 w2 hown2 hgrow2
  rw [List.nil_append] at hown2
  have O2 := Lib.hid hown2
  have hw2 : Hid (Below W0.heap.size W0 w2) := hwa.out.grown hgrow2 hwa.out.size (fun q hq => by have := (O0.out.lt q hq).1; have := hw1.size; omega)
  have hz2 : Hid (w1.heap.size ≤ w2.heap.size) := by show _ ≤ _; have := hgrow2.size; simp at this; omega
  clear hown2 hgrow2
  refine hK.out _ _ ?_ (fun hHeld => ?_)
  · try dsimp only
    exact HKS.out _ hw2.out
  clear hK K
  try simp only [Act.put, List.setIfInBounds_toArray]
  refine wpAnyH_ready (rs := [17]) (by kernel_rfl) (by simp) ?_
  refine AllReadyH.cons rfl (fun K hK => ?_) AllReadyH.nil
  refine step_append_ints (by kernel_rfl) _ _ rfl w1.heap.size _ xs rfl O2.out b' cap3 ys rfl (HYS.out.keep hw2.out) (by omega) (by omega) hz2.out ?_
  intro v3 w3 hown3 hgrow3
  have hw3 : Hid (Below W0.heap.size W0 w3) := hw2.out.grown hgrow3 hw2.out.size (fun q hq => by have := (O2.out.lt q hq).1; have := hw1.size; omega)
  have HZE := HZS.out
  rw [← HZE] at hown3
  obtain ⟨a3, c3, rfl, hi3, _⟩ := hown3.cells
  have I3 := Lib.hid hi3
  clear hown3 hgrow3 HZE hi3
  refine hK.out _ _ ?_ (fun hHeld => ?_)
  · try dsimp only
    exact HKS.out _ hw3.out
  clear hK K
  try simp only [Act.put]
  refine wpAnyH_ready (rs := [18]) (by kernel_rfl) (by simp) ?_
  refine AllReadyH.cons rfl (fun K hK => ?_) AllReadyH.nil
  go_simp
  go_at_call 15
  refine (rCheck_any n a cap l a3 c3 zs _ (XN.out.keep hw3.out) hl30 I3.out hz30).mono ?_
  rintro e w4 ⟨rfl, hb4⟩
  have hw4 : Below W0.heap.size W0 w4 := hw3.out.trans (hb4.mono hw3.out.size)
  clear hb4
  go_wp2_with fail
  refine hK.out _ _ ?_ (fun hHeld => ?_)
  · try dsimp only
    exact HKS.out _ hw4
  clear hK K
  try simp only [Act.put, List.setIfInBounds_toArray, List.set_cons_zero, List.set_cons_succ]
  refine wpAnyH_take (i := 19) (v := ?_) rfl (by kernel_rfl) (by kernel_rfl) (by kernel_rfl) (fun _ _ _ h => h) (Or.inl ⟨by rfl, ?_⟩) (by assumption) ?_
  rotate_left
  · intro w hSw
    try dsimp only at hSw
    first | (go_simp; done) | (go_simp; with_reducible rfl)
  change wpAnyH _ _ _ _ _ _ _ (Act.put _ (some 43) _) _
  try simp only [Act.put, List.setIfInBounds_toArray, List.set_cons_zero, List.set_cons_succ]
  refine wpAnyH_take (i := 20) (v := ?_) rfl (by kernel_rfl) (by kernel_rfl) (by kernel_rfl) (fun _ _ _ h => h) (Or.inl ⟨by rfl, ?_⟩) (by assumption) ?_
  rotate_left
  · intro w hSw
    try dsimp only at hSw
    first | (go_simp; done) | (go_simp; with_reducible rfl)
  change wpAnyH _ _ _ _ _ _ _ (Act.put _ (some 44) _) _
  try simp only [Act.put, List.setIfInBounds_toArray, List.set_cons_zero, List.set_cons_succ]
  refine wpAnyH_done (by kernel_rfl) ?_ _
  all_goals
    have B1 := Lib.hid (HB0.out.trans (Below.mono (B := W0.heap.size) hw4 HB0.out.size))
    go_wp2_with fail
    refine (HW.out _ B1.out).mono ?_
    rintro e wz ⟨rfl, hbz⟩
    have B2 := Lib.hid (B1.out.trans (hbz.mono B1.out.size))
    clear hbz
    go_wp2
    go_ret
    exact ⟨rfl, B2.out⟩
theorem more_ok (n : Int) (a : Option Addr) (cap : Nat) (l : List Nd) (b : Option Addr) (cap2 : Nat) (xs : List Int) (b' : Option Addr) (cap3 : Nat) (ys : List Int) (w : World) (hl : l.length ≤ 9223372036854775807) (hx : NdCells0 w a l) (hxs : IntCells w b xs) (hxl : xs.length * 8 ≤ 140737488351232) (hys : IntCells w b' ys) (hyl : ys.length * 8 ≤ 140737488351232) (ht : Tab w) (hli : lightB ⟨n, l⟩ = true) (h40 : xs.length + ys.length ≤ 40) (hc : chkR (xs ++ ys) ⟨n, l⟩ = 0) :
    Calls Tryz.prog 5 #[.agg #[.int .i64 n, .slice a l.length cap], .slice b xs.length cap2, .slice b' ys.length cap3] w fun e w' => e = .returned (.bool true) ∧ Below w.heap.size w w' := by
  have hb0 := (Below.refl w.heap.size w).alloc (Nat.le_refl _) (.cells #[.int .i64 n, .slice a l.length cap] 24)
  have HB0 := Lib.hid hb0
  have HX := Lib.hid (hx.keep hb0)
  have HXS := Lib.hid (hxs.keep hb0)
  have HYS := Lib.hid (hys.keep hb0)
  have q0 := Lib.hid (Blk.new w #[.int .i64 n, .slice a l.length cap] 24)
  have HT := Lib.hid ht
  have HW := Lib.hid (fun V (hb : Below w.heap.size w V) => works_any V (ht.keep hb))
  have HLI := Lib.hid (fun V h => light_any n a cap l V hl h)
  obtain ⟨W0, hW0⟩ : ∃ W0, W0 = w.alloc (.cells #[.int .i64 n, .slice a l.length cap] 24) := ⟨_, rfl⟩
  rw [← hW0] at HB0 HX HXS HYS q0
  have HW0 := Lib.hid hW0
  have HSUM : Hid (IntKind.i64.wrap ((xs.length : Int) + (ys.length : Int)) = (xs.length : Int) + (ys.length : Int)) := IntWalk.i64_in _ (by omega)
  have k0 : W0.cell? ⟨w.heap.size, 0, none⟩ = some (.int .i64 n) := q0.out.cell 0
  have k1 : W0.cell? ⟨w.heap.size, 1, none⟩ = some (.slice a l.length cap) := q0.out.cell 1
  have HKS : Hid (∀ w' : World, Below W0.heap.size W0 w' → w'.cell? ⟨w.heap.size, 0, none⟩ = some (.int .i64 n) ∧ w'.cell? ⟨w.heap.size, 1, none⟩ = some (.slice a l.length cap) ∧ Below W0.heap.size W0 w') := Lib.hid fun w' hb => ⟨cell_keep hb k0, cell_keep hb k1, hb⟩
  clear hb0 hx ht hxs hys hW0
  have HLB := Lib.hid hli
  obtain ⟨hl50, hi50, h8⟩ := lightB_ok hli
  simp only at hl50 hi50 h8
  have d40 : decide ((40 : Int) < (xs.length : Int) + (ys.length : Int)) = false := by simp; omega
  have XN := Lib.hid (HX.out.up fun x hx => by have := hi50 x hx; omega)
  have hl30 : l.length ≤ 1073741824 := by omega
  have SM := Lib.hid (small50 hl50 hi50)
  have H8 := Lib.hid h8
  obtain ⟨zs, hzs⟩ : ∃ zs, zs = xs ++ ys := ⟨_, rfl⟩
  have hz30 : zs.length ≤ 1073741824 := by rw [hzs, List.length_append]; omega
  have hx30 : xs.length ≤ 1073741824 := by omega
  have hy30 : ys.length ≤ 1073741824 := by omega
  have HZS := Lib.hid hzs
  rw [← hzs] at hc
  clear hli hl50 hi50 h8
  have HCK := Lib.hid hc
  have hc2 := hc
  rw [hzs] at hc2
  have hcx := chkR_left hc2
  have hc0 := chkR_nil hc2
  have CST : Hid (∀ (x y : List Nd), costP n n.toNat x y ≤ 1000000000) := fun x y => cheap_cost (show n ≤ 20 by have := H8.out (chkR_ok hc).1; omega) x y
  have hem : entR ⟨n, l⟩ xs = true → entR ⟨n, l⟩ zs = true := fun h => by rw [hzs]; exact ent_more hc2 h
  have him : impR ⟨n, l⟩ xs = true → impR ⟨n, l⟩ zs = true := fun h => by rw [hzs]; exact imp_more SM.out hc2 h
  have hen := ent_none hc0
  have HEM := Lib.hid hem
  have HIM := Lib.hid him
  have HE1 : Hid (∀ V, Below W0.heap.size W0 V → Calls Tryz.prog 18 #[.agg #[.int .i64 n, .slice a l.length cap], .slice b xs.length cap2] V fun e w' => e = .returned (.tuple #[.bool (entR ⟨n, l⟩ xs), .int .i64 0]) ∧ Below V.heap.size V w') := Lib.hid fun V hV => by
    have h := entails_any n a cap l b cap2 xs V (XN.out.keep hV) hl30 (HXS.out.keep hV) hx30 (fun _ => SM.out) (HT.out.keep (HB0.out.trans (hV.mono HB0.out.size)))
    rw [hcx] at h; exact h
  have HE2 : Hid (∀ V a3 c3, Below W0.heap.size W0 V → IntCells V a3 zs → Calls Tryz.prog 18 #[.agg #[.int .i64 n, .slice a l.length cap], .slice a3 zs.length c3] V fun e w' => e = .returned (.tuple #[.bool (entR ⟨n, l⟩ zs), .int .i64 0]) ∧ Below V.heap.size V w') := Lib.hid fun V a3 c3 hV h3 => by
    have h := entails_any n a cap l a3 c3 zs V (XN.out.keep hV) hl30 h3 hz30 (fun _ => SM.out) (HT.out.keep (HB0.out.trans (hV.mono HB0.out.size)))
    rw [hc] at h; exact h
  have HE0 : Hid (∀ V, Below W0.heap.size W0 V → Calls Tryz.prog 18 #[.agg #[.int .i64 n, .slice a l.length cap], .slice none 0 0] V fun e w' => e = .returned (.tuple #[.bool (!consR ⟨n, l⟩), .int .i64 0]) ∧ Below V.heap.size V w') := Lib.hid fun V hV => by
    have h := entails_any n a cap l none 0 [] V (XN.out.keep hV) hl30 (IntCells.nil _ _) (by simp) (fun _ => SM.out) (HT.out.keep (HB0.out.trans (hV.mono HB0.out.size)))
    rw [hc0, hen] at h; exact h
  have HI1 : Hid (∀ V, Below W0.heap.size W0 V → Calls Tryz.prog 19 #[.agg #[.int .i64 n, .slice a l.length cap], .slice b xs.length cap2] V fun e w' => e = .returned (.tuple #[.bool (impR ⟨n, l⟩ xs), .int .i64 0]) ∧ Below V.heap.size V w') := Lib.hid fun V hV => by
    have h := implies_any n a cap l b cap2 xs V (XN.out.keep hV) hl30 (HXS.out.keep hV) hx30 (fun _ => SM.out) (fun _ _ => CST.out _ _) (HT.out.keep (HB0.out.trans (hV.mono HB0.out.size)))
    rw [hcx] at h; exact h
  have HI2 : Hid (∀ V a3 c3, Below W0.heap.size W0 V → IntCells V a3 zs → Calls Tryz.prog 19 #[.agg #[.int .i64 n, .slice a l.length cap], .slice a3 zs.length c3] V fun e w' => e = .returned (.tuple #[.bool (impR ⟨n, l⟩ zs), .int .i64 0]) ∧ Below V.heap.size V w') := Lib.hid fun V a3 c3 hV h3 => by
    have h := implies_any n a cap l a3 c3 zs V (XN.out.keep hV) hl30 h3 hz30 (fun _ => SM.out) (fun _ _ => CST.out _ _) (HT.out.keep (HB0.out.trans (hV.mono HB0.out.size)))
    rw [hc] at h; exact h
  have HI0 : Hid (∀ V, Below W0.heap.size W0 V → Calls Tryz.prog 19 #[.agg #[.int .i64 n, .slice a l.length cap], .slice none 0 0] V fun e w' => e = .returned (.tuple #[.bool (impR ⟨n, l⟩ []), .int .i64 0]) ∧ Below V.heap.size V w') := Lib.hid fun V hV => by
    have h := implies_any n a cap l none 0 [] V (XN.out.keep hV) hl30 (IntCells.nil _ _) (by simp) (fun _ => SM.out) (fun _ _ => CST.out _ _) (HT.out.keep (HB0.out.trans (hV.mono HB0.out.size)))
    rw [hc0] at h; exact h
  have HCO : Hid (∀ V, Below W0.heap.size W0 V → Calls Tryz.prog 13 #[.agg #[.int .i64 n, .slice a l.length cap]] V fun e w' => e = .returned (.tuple #[.bool (consR ⟨n, l⟩), .int .i64 0]) ∧ Below V.heap.size V w') := Lib.hid fun V hV => by
    have h := consistent_any n a cap l V (XN.out.keep hV) hl30 (fun _ => SM.out) (HT.out.keep (HB0.out.trans (hV.mono HB0.out.size)))
    rw [hc0] at h; exact h
  have HVA : Hid (∀ V, Below W0.heap.size W0 V → Calls Tryz.prog 14 #[.agg #[.int .i64 n, .slice a l.length cap]] V fun e w' => e = .returned (.tuple #[.bool (impR ⟨n, l⟩ []), .int .i64 0]) ∧ Below V.heap.size V w') := Lib.hid fun V hV => by
    have h := valid_any n a cap l V (XN.out.keep hV) hl30 (fun _ => SM.out) (fun _ _ => CST.out _ _) (HT.out.keep (HB0.out.trans (hV.mono HB0.out.size)))
    rw [hc0] at h; exact h
  clear hc hc2 hcx hc0 hem him hen hzs
  generalize entR ⟨n, l⟩ xs = e1 at *
  generalize entR ⟨n, l⟩ zs = e2 at *
  generalize impR ⟨n, l⟩ xs = i1 at *
  generalize impR ⟨n, l⟩ zs = i2 at *
  generalize consR ⟨n, l⟩ = c at *
  generalize impR ⟨n, l⟩ [] = d at *
  have hcc : ((!c) == (!c)) = true := by simp
  have hdd : (d == d) = true := by simp
  clear h40
  go_enter Tryz.func5, Tryz.ntmps5
  go_wp2_with fail
  try (rw [← HW0.out])
  refine wp_region_held_drew (S := (fun w' => w'.cell? ⟨w.heap.size, 0, none⟩ = some (.int .i64 n) ∧ w'.cell? ⟨w.heap.size, 1, none⟩ = some (.slice a l.length cap) ∧ Below W0.heap.size W0 w')) (by kernel_rfl) ?_ (fun hHeld => ?_)
  · try dsimp only
    exact HKS.out _ (Below.refl _ _).drew
  refine wpAnyH_take (i := 0) (v := ?_) rfl (by kernel_rfl) (by kernel_rfl) (by kernel_rfl) (fun _ _ _ h => h) (Or.inl ⟨by rfl, ?_⟩) (by assumption) ?_
  rotate_left
  · intro w hSw
    try dsimp only at hSw
    first | (go_simp; done) | (go_simp; with_reducible rfl)
  change wpAnyH _ _ _ _ _ _ _ (Act.put _ (some 24) _) _
  try simp only [Act.put, List.setIfInBounds_toArray, List.set_cons_zero, List.set_cons_succ]
  refine wpAnyH_ready (rs := [1]) (by kernel_rfl) (by simp) ?_
  refine AllReadyH.cons rfl (fun K hK => ?_) AllReadyH.nil
  go_simp
  go_at_call 11
  refine (HLI.out _ (HX.out.keep (last3q (by assumption)))).mono ?_
  rw [HLB.out]
  rintro e w1 ⟨rfl, hb1⟩
  have hw1 : Below W0.heap.size W0 w1 := Below.trans (last3q (by assumption)) (hb1.mono (Below.size (B := W0.heap.size) (w := W0) (last3q (by assumption))))
  clear hb1
  go_wp2_with fail
  refine hK.out _ _ ?_ (fun hHeld => ?_)
  · try dsimp only
    exact HKS.out _ hw1
  clear hK K
  try simp only [Act.put, List.setIfInBounds_toArray, List.set_cons_zero, List.set_cons_succ]
  refine wpAnyH_take (i := 2) (v := ?_) rfl (by kernel_rfl) (by kernel_rfl) (by kernel_rfl) (fun _ _ _ h => h) (Or.inl ⟨by rfl, ?_⟩) (by assumption) ?_
  rotate_left
  · intro w hSw
    try dsimp only at hSw
    first | (go_simp; done) | (go_simp; with_reducible rfl)
  change wpAnyH _ _ _ _ _ _ _ (Act.put _ (some 26) _) _
  try simp only [Act.put, List.setIfInBounds_toArray, List.set_cons_zero, List.set_cons_succ]
  refine wpAnyH_take (i := 3) (v := ?_) rfl (by kernel_rfl) (by kernel_rfl) (by kernel_rfl) (fun _ _ _ h => h) (Or.inl ⟨by rfl, ?_⟩) (by assumption) ?_
  rotate_left
  · intro w hSw
    try dsimp only at hSw
    first | (go_simp; done) | (go_simp; with_reducible rfl)
  change wpAnyH _ _ _ _ _ _ _ (Act.put _ (some 27) _) _
  try simp only [Act.put, List.setIfInBounds_toArray, List.set_cons_zero, List.set_cons_succ]
  refine wpAnyH_take (i := 4) (v := ?_) rfl (by kernel_rfl) (by kernel_rfl) (by kernel_rfl) (fun _ _ _ h => h) (Or.inl ⟨by rfl, ?_⟩) (by assumption) ?_
  rotate_left
  · intro w hSw
    try dsimp only at hSw
    first | (go_simp; done) | (go_simp; with_reducible rfl)
  change wpAnyH _ _ _ _ _ _ _ (Act.put _ (some 28) _) _
  try simp only [Act.put, List.setIfInBounds_toArray, List.set_cons_zero, List.set_cons_succ]
  refine wpAnyH_take (i := 5) (v := ?_) rfl (by kernel_rfl) (by kernel_rfl) (by kernel_rfl) (fun _ _ _ h => h) (Or.inl ⟨by rfl, ?_⟩) (by assumption) ?_
  rotate_left
  · intro w hSw
    try dsimp only at hSw
    first | (go_simp; done) | (go_simp; with_reducible rfl)
  change wpAnyH _ _ _ _ _ _ _ (Act.put _ (some 29) _) _
  try simp only [Act.put, List.setIfInBounds_toArray, List.set_cons_zero, List.set_cons_succ]
  refine wpAnyH_take (i := 6) (v := ?_) rfl (by kernel_rfl) (by kernel_rfl) (by kernel_rfl) (fun _ _ _ h => h) (Or.inl ⟨by rfl, ?_⟩) (by assumption) ?_
  rotate_left
  · intro w hSw
    try dsimp only at hSw
    first | (go_simp; done) | (go_simp; with_reducible rfl)
  change wpAnyH _ _ _ _ _ _ _ (Act.put _ (some 30) _) _
  try simp only [Act.put, List.setIfInBounds_toArray, List.set_cons_zero, List.set_cons_succ]
  refine wpAnyH_take (i := 7) (v := ?_) rfl (by kernel_rfl) (by kernel_rfl) (by kernel_rfl) (fun _ _ _ h => h) (Or.inl ⟨by rfl, ?_⟩) (by assumption) ?_
  rotate_left
  · intro w hSw
    try dsimp only at hSw
    first | (go_simp; done) | (go_simp; with_reducible rfl)
  change wpAnyH _ _ _ _ _ _ _ (Act.put _ (some 31) _) _
  try simp only [Act.put, List.setIfInBounds_toArray, List.set_cons_zero, List.set_cons_succ]
  have hsum := HSUM.out
  refine wpAnyH_take (i := 8) (v := ?_) rfl (by kernel_rfl) (by kernel_rfl) (by kernel_rfl) (fun _ _ _ h => h) (Or.inl ⟨by rfl, ?_⟩) (by assumption) ?_
  rotate_left
  · intro w hSw
    try dsimp only at hSw
    first | (go_simp; done) | (go_simp; with_reducible rfl)
  change wpAnyH _ _ _ _ _ _ _ (Act.put _ (some 32) _) _
  try simp only [Act.put, List.setIfInBounds_toArray, List.set_cons_zero, List.set_cons_succ]
  clear hsum
  refine wpAnyH_take (i := 9) (v := ?_) rfl (by kernel_rfl) (by kernel_rfl) (by kernel_rfl) (fun _ _ _ h => h) (Or.inl ⟨by rfl, ?_⟩) (by assumption) ?_
  rotate_left
  · intro w hSw
    try dsimp only at hSw
    first | (go_simp; done) | (go_simp; with_reducible rfl)
  change wpAnyH _ _ _ _ _ _ _ (Act.put _ (some 33) _) _
  try simp only [Act.put, List.setIfInBounds_toArray, List.set_cons_zero, List.set_cons_succ]
  refine wpAnyH_take (i := 10) (v := ?_) rfl (by kernel_rfl) (by kernel_rfl) (by kernel_rfl) (fun _ _ _ h => h) (Or.inl ⟨by rfl, ?_⟩) (by assumption) ?_
  rotate_left
  · intro w hSw
    try dsimp only at hSw
    first | (go_simp; done) | (go_simp; with_reducible rfl)
  change wpAnyH _ _ _ _ _ _ _ (Act.put _ (some 34) _) _
  try simp only [Act.put, List.setIfInBounds_toArray, List.set_cons_zero, List.set_cons_succ]
  refine wpAnyH_take (i := 11) (v := ?_) rfl (by kernel_rfl) (by kernel_rfl) (by kernel_rfl) (fun _ _ _ h => h) (Or.inl ⟨by rfl, ?_⟩) (by assumption) ?_
  rotate_left
  · intro w hSw
    try dsimp only at hSw
    first | (go_simp; done) | (go_simp; with_reducible rfl)
  change wpAnyH _ _ _ _ _ _ _ (Act.put _ (some 35) _) _
  try simp only [Act.put, List.setIfInBounds_toArray, List.set_cons_zero, List.set_cons_succ]
  refine wpAnyH_take (i := 12) (v := ?_) rfl (by kernel_rfl) (by kernel_rfl) (by kernel_rfl) (fun _ _ _ h => h) (Or.inl ⟨by rfl, ?_⟩) (by assumption) ?_
  rotate_left
  · intro w hSw
    try dsimp only at hSw
    first | (go_simp; done) | (go_simp; with_reducible rfl)
  change wpAnyH _ _ _ _ _ _ _ (Act.put _ (some 36) _) _
  try simp only [Act.put, List.setIfInBounds_toArray, List.set_cons_zero, List.set_cons_succ]
  refine wpAnyH_take (i := 14) (v := ?_) rfl (by kernel_rfl) (by kernel_rfl) (by kernel_rfl) (fun _ _ _ h => h) (Or.inl ⟨by rfl, ?_⟩) (by assumption) ?_
  rotate_left
  · intro w hSw
    try dsimp only at hSw
    first | (go_simp; done) | (go_simp; with_reducible rfl)
  change wpAnyH _ _ _ _ _ _ _ (Act.put _ (some 38) _) _
  try simp only [Act.put, List.setIfInBounds_toArray, List.set_cons_zero, List.set_cons_succ]
  refine wpAnyH_take (i := 16) (v := ?_) rfl (by kernel_rfl) (by kernel_rfl) (by kernel_rfl) (fun _ _ _ h => h) (Or.inl ⟨by rfl, ?_⟩) (by assumption) ?_
  rotate_left
  · intro w hSw
    try dsimp only at hSw
    first | (go_simp; done) | (go_simp; with_reducible rfl)
  change wpAnyH _ _ _ _ _ _ _ (Act.put _ (some 40) _) _
  try simp only [Act.put, List.setIfInBounds_toArray, List.set_cons_zero, List.set_cons_succ]
  refine wpAnyH_ready (rs := [13]) (by kernel_rfl) (by simp) ?_
  refine AllReadyH.cons rfl (fun K hK => ?_) AllReadyH.nil
  go_simp
  refine hK.out _ _ ?_ (fun hHeld => ?_)
  · try dsimp only
    exact HKS.out _ (Below.alloc hw1 hw1.size _)
  clear hK K
  try simp only [Act.put, List.setIfInBounds_toArray, List.set_cons_zero, List.set_cons_succ]
  have O0 : Hid (OwnInts (w1.alloc (.cells #[] 3)) w1.heap.size (.slice (some ⟨w1.heap.size, 0, none⟩) 0 0) []) := World.ownsRow_lit w1 #[] 0 (Nat.le_refl _) (by unfold maxLen; omega) rfl
  have hwa : Hid (Below W0.heap.size W0 (w1.alloc (.cells #[] 3))) := Below.alloc hw1 hw1.size _
  refine wpAnyH_ready (rs := [15]) (by kernel_rfl) (by simp) ?_
  refine AllReadyH.cons rfl (fun K hK => ?_) AllReadyH.nil
  refine step_append_ints (by kernel_rfl) _ _ rfl w1.heap.size _ [] rfl O0.out b cap2 xs rfl (HXS.out.keep hwa.out) (by simp) (by omega) (by simp) ?_
  intro v2 w2 hown2 hgrow2
  rw [List.nil_append] at hown2
  have O2 := Lib.hid hown2
  have hw2 : Hid (Below W0.heap.size W0 w2) := hwa.out.grown hgrow2 hwa.out.size (fun q hq => by have := (O0.out.lt q hq).1; have := hw1.size; omega)
  have hz2 : Hid (w1.heap.size ≤ w2.heap.size) := by show _ ≤ _; have := hgrow2.size; simp at this; omega
  clear hown2 hgrow2
  refine hK.out _ _ ?_ (fun hHeld => ?_)
  · try dsimp only
    exact HKS.out _ hw2.out
  clear hK K
  try simp only [Act.put, List.setIfInBounds_toArray]
  refine wpAnyH_ready (rs := [17]) (by kernel_rfl) (by simp) ?_
  refine AllReadyH.cons rfl (fun K hK => ?_) AllReadyH.nil
  refine step_append_ints (by kernel_rfl) _ _ rfl w1.heap.size _ xs rfl O2.out b' cap3 ys rfl (HYS.out.keep hw2.out) (by omega) (by omega) hz2.out ?_
  intro v3 w3 hown3 hgrow3
  have hw3 : Hid (Below W0.heap.size W0 w3) := hw2.out.grown hgrow3 hw2.out.size (fun q hq => by have := (O2.out.lt q hq).1; have := hw1.size; omega)
  have HZE := HZS.out
  rw [← HZE] at hown3
  obtain ⟨a3, c3, rfl, hi3, _⟩ := hown3.cells
  have I3 := Lib.hid hi3
  clear hown3 hgrow3 HZE hi3
  refine hK.out _ _ ?_ (fun hHeld => ?_)
  · try dsimp only
    exact HKS.out _ hw3.out
  clear hK K
  try simp only [Act.put]
  refine wpAnyH_ready (rs := [18]) (by kernel_rfl) (by simp) ?_
  refine AllReadyH.cons rfl (fun K hK => ?_) AllReadyH.nil
  go_simp
  go_at_call 15
  refine (rCheck_any n a cap l a3 c3 zs _ (XN.out.keep hw3.out) hl30 I3.out hz30).mono ?_
  rw [HCK.out]
  rintro e w4 ⟨rfl, hb4⟩
  have hw4 : Below W0.heap.size W0 w4 := hw3.out.trans (hb4.mono hw3.out.size)
  clear hb4
  go_wp2_with fail
  refine hK.out _ _ ?_ (fun hHeld => ?_)
  · try dsimp only
    exact HKS.out _ hw4
  clear hK K
  try simp only [Act.put, List.setIfInBounds_toArray, List.set_cons_zero, List.set_cons_succ]
  refine wpAnyH_take (i := 19) (v := ?_) rfl (by kernel_rfl) (by kernel_rfl) (by kernel_rfl) (fun _ _ _ h => h) (Or.inl ⟨by rfl, ?_⟩) (by assumption) ?_
  rotate_left
  · intro w hSw
    try dsimp only at hSw
    first | (go_simp; done) | (go_simp; with_reducible rfl)
  change wpAnyH _ _ _ _ _ _ _ (Act.put _ (some 43) _) _
  try simp only [Act.put, List.setIfInBounds_toArray, List.set_cons_zero, List.set_cons_succ]
  refine wpAnyH_take (i := 20) (v := ?_) rfl (by kernel_rfl) (by kernel_rfl) (by kernel_rfl) (fun _ _ _ h => h) (Or.inl ⟨by rfl, ?_⟩) (by assumption) ?_
  rotate_left
  · intro w hSw
    try dsimp only at hSw
    first | (go_simp; done) | (go_simp; with_reducible rfl)
  change wpAnyH _ _ _ _ _ _ _ (Act.put _ (some 44) _) _
  try simp only [Act.put, List.setIfInBounds_toArray, List.set_cons_zero, List.set_cons_succ]
  refine wpAnyH_done (by kernel_rfl) ?_ _
  all_goals
    have Lw4 := Lib.hid hw4
    have L4 := Lw4
    have B4 := Lib.hid (HB0.out.trans (L4.out.mono HB0.out.size))
    clear hHeld
    have O5 : Hid (OwnInts (w4.alloc (.cells #[] 3)) w4.heap.size (.slice (some ⟨w4.heap.size, 0, none⟩) 0 0) []) := World.ownsRow_lit w4 #[] 0 (Nat.le_refl _) (by unfold maxLen; omega) rfl
    have L5 : Hid (Below W0.heap.size W0 (w4.alloc (.cells #[] 3))) := L4.out.alloc L4.out.size _
    go_wp2_with (at_builtin; refine wpList_append_ints rfl (.tmp 46) (.tmp 47) rfl w4.heap.size _ [] rfl O5.out b cap2 xs rfl (HXS.out.keep L5.out) (by simp) hx30 (by simp) ?_)
    intro v6 w6 hown6 hgrow6
    try rw [List.nil_append] at hown6
    have O6 := Lib.hid hown6
    have L6 : Hid (Below W0.heap.size W0 w6) := L5.out.grown hgrow6 L5.out.size (fun q hq => by have := (O5.out.lt q hq).1; have := L4.out.size; omega)
    have Z6 : Hid (w4.heap.size ≤ w6.heap.size) := by show _ ≤ _; have := hgrow6.size; simp at this; omega
    clear hown6 hgrow6
    go_wp2_with (at_builtin; refine wpList_append_ints rfl (.tmp 48) (.tmp 49) rfl w4.heap.size _ xs rfl O6.out b' cap3 ys rfl (HYS.out.keep L6.out) hx30 hy30 Z6.out ?_)
    intro v7 w7 hown7 hgrow7
    have L7 : Hid (Below W0.heap.size W0 w7) := L6.out.grown hgrow7 L6.out.size (fun q hq => by have := (O6.out.lt q hq).1; have := L4.out.size; omega)
    have HZE := HZS.out
    rw [← HZE] at hown7
    obtain ⟨a7, c7, rfl, hi7, _⟩ := hown7.cells
    have I7 := Lib.hid hi7
    have B7 := Lib.hid (HB0.out.trans (L7.out.mono HB0.out.size))
    clear hown7 hgrow7 HZE hi7 O0 O2 O5 O6
    have Q := q0.out.later L7.out
    have k0_0 : w7.cell? ⟨w.heap.size, 0, none⟩ = some (.int .i64 n) := Q.cell 0
    have k0_1 : w7.cell? ⟨w.heap.size, 1, none⟩ = some (.slice a l.length cap) := Q.cell 1
    have z0 : w.heap.size < w7.heap.size := Q.lt
    clear Q k0 k1
    go_wp2_with fail
    refine (HE1.out _ L7.out).mono ?_
    rintro e w8 ⟨rfl, hb8⟩
    have Lw8 := Lib.hid (L7.out.trans (hb8.mono L7.out.size))
    clear k0_0 k0_1 z0
    have L8 := Lw8
    have B8 := Lib.hid (HB0.out.trans (L8.out.mono HB0.out.size))
    have I8 := Lib.hid (I7.out.keep hb8)
    clear hb8
    have Q := q0.out.later Lw8.out
    have k0_0 : w8.cell? ⟨w.heap.size, 0, none⟩ = some (.int .i64 n) := Q.cell 0
    have k0_1 : w8.cell? ⟨w.heap.size, 1, none⟩ = some (.slice a l.length cap) := Q.cell 1
    have z0 : w.heap.size < w8.heap.size := Q.lt
    clear Q
    go_wp2_with fail
    refine (HE2.out _ a7 c7 L8.out I8.out).mono ?_
    rintro e w9 ⟨rfl, hb9⟩
    have Lw9 := Lib.hid (L8.out.trans (hb9.mono L8.out.size))
    clear k0_0 k0_1 z0
    have L9 := Lw9
    have B9 := Lib.hid (HB0.out.trans (L9.out.mono HB0.out.size))
    have I9 := Lib.hid (I8.out.keep hb9)
    clear hb9
    have Q := q0.out.later Lw9.out
    have k0_0 : w9.cell? ⟨w.heap.size, 0, none⟩ = some (.int .i64 n) := Q.cell 0
    have k0_1 : w9.cell? ⟨w.heap.size, 1, none⟩ = some (.slice a l.length cap) := Q.cell 1
    have z0 : w.heap.size < w9.heap.size := Q.lt
    clear Q
    go_wp2_with fail
    refine (HI1.out _ L9.out).mono ?_
    rintro e w10 ⟨rfl, hb10⟩
    have Lw10 := Lib.hid (L9.out.trans (hb10.mono L9.out.size))
    clear k0_0 k0_1 z0
    have L10 := Lw10
    have B10 := Lib.hid (HB0.out.trans (L10.out.mono HB0.out.size))
    have I10 := Lib.hid (I9.out.keep hb10)
    clear hb10
    have Q := q0.out.later Lw10.out
    have k0_0 : w10.cell? ⟨w.heap.size, 0, none⟩ = some (.int .i64 n) := Q.cell 0
    have k0_1 : w10.cell? ⟨w.heap.size, 1, none⟩ = some (.slice a l.length cap) := Q.cell 1
    have z0 : w.heap.size < w10.heap.size := Q.lt
    clear Q
    go_wp2_with fail
    refine (HI2.out _ a7 c7 L10.out I10.out).mono ?_
    rintro e w11 ⟨rfl, hb11⟩
    have Lw11 := Lib.hid (L10.out.trans (hb11.mono L10.out.size))
    clear k0_0 k0_1 z0
    have L11 := Lw11
    have B11 := Lib.hid (HB0.out.trans (L11.out.mono HB0.out.size))
    clear hb11
    have Q := q0.out.later Lw11.out
    have k0_0 : w11.cell? ⟨w.heap.size, 0, none⟩ = some (.int .i64 n) := Q.cell 0
    have k0_1 : w11.cell? ⟨w.heap.size, 1, none⟩ = some (.slice a l.length cap) := Q.cell 1
    have z0 : w.heap.size < w11.heap.size := Q.lt
    clear Q
    go_wp2_with fail
    refine (HE0.out _ L11.out).mono ?_
    rintro e w12 ⟨rfl, hb12⟩
    have Lw12 := Lib.hid (L11.out.trans (hb12.mono L11.out.size))
    clear k0_0 k0_1 z0
    have L12 := Lw12
    have B12 := Lib.hid (HB0.out.trans (L12.out.mono HB0.out.size))
    clear hb12
    have Q := q0.out.later Lw12.out
    have k0_0 : w12.cell? ⟨w.heap.size, 0, none⟩ = some (.int .i64 n) := Q.cell 0
    have k0_1 : w12.cell? ⟨w.heap.size, 1, none⟩ = some (.slice a l.length cap) := Q.cell 1
    have z0 : w.heap.size < w12.heap.size := Q.lt
    clear Q
    go_wp2_with fail
    refine (HCO.out _ L12.out).mono ?_
    rintro e w13 ⟨rfl, hb13⟩
    have Lw13 := Lib.hid (L12.out.trans (hb13.mono L12.out.size))
    clear k0_0 k0_1 z0
    have L13 := Lw13
    have B13 := Lib.hid (HB0.out.trans (L13.out.mono HB0.out.size))
    clear hb13
    have Q := q0.out.later Lw13.out
    have k0_0 : w13.cell? ⟨w.heap.size, 0, none⟩ = some (.int .i64 n) := Q.cell 0
    have k0_1 : w13.cell? ⟨w.heap.size, 1, none⟩ = some (.slice a l.length cap) := Q.cell 1
    have z0 : w.heap.size < w13.heap.size := Q.lt
    clear Q
    go_wp2_with fail
    refine (HI0.out _ L13.out).mono ?_
    rintro e w14 ⟨rfl, hb14⟩
    have Lw14 := Lib.hid (L13.out.trans (hb14.mono L13.out.size))
    clear k0_0 k0_1 z0
    have L14 := Lw14
    have B14 := Lib.hid (HB0.out.trans (L14.out.mono HB0.out.size))
    clear hb14
    have Q := q0.out.later Lw14.out
    have k0_0 : w14.cell? ⟨w.heap.size, 0, none⟩ = some (.int .i64 n) := Q.cell 0
    have k0_1 : w14.cell? ⟨w.heap.size, 1, none⟩ = some (.slice a l.length cap) := Q.cell 1
    have z0 : w.heap.size < w14.heap.size := Q.lt
    clear Q
    go_wp2_with fail
    refine (HVA.out _ L14.out).mono ?_
    rintro e w15 ⟨rfl, hb15⟩
    have Lw15 := Lib.hid (L14.out.trans (hb15.mono L14.out.size))
    clear k0_0 k0_1 z0
    have L15 := Lw15
    have B15 := Lib.hid (HB0.out.trans (L15.out.mono HB0.out.size))
    clear hb15
    have Q := q0.out.later Lw15.out
    have k0_0 : w15.cell? ⟨w.heap.size, 0, none⟩ = some (.int .i64 n) := Q.cell 0
    have k0_1 : w15.cell? ⟨w.heap.size, 1, none⟩ = some (.slice a l.length cap) := Q.cell 1
    have z0 : w.heap.size < w15.heap.size := Q.lt
    clear Q
    cases e1 with
    | true =>
      have he2 := HEM.out rfl
      subst he2
      cases i1 with
      | true =>
        have hi2 := HIM.out rfl
        subst hi2
        go_wp2_with fail
        refine (HW.out _ B15.out).mono ?_
        rintro e w16 ⟨rfl, hb16⟩
        have Lw16 := Lib.hid (L15.out.trans (hb16.mono L15.out.size))
        clear k0_0 k0_1 z0
        have L16 := Lw16
        have B16 := Lib.hid (HB0.out.trans (L16.out.mono HB0.out.size))
        clear hb16
        go_wp2
        go_ret
        exact ⟨rfl, B16.out⟩
      | false =>
        go_wp2_with fail
        refine (HW.out _ B15.out).mono ?_
        rintro e w16 ⟨rfl, hb16⟩
        have Lw16 := Lib.hid (L15.out.trans (hb16.mono L15.out.size))
        clear k0_0 k0_1 z0
        have L16 := Lw16
        have B16 := Lib.hid (HB0.out.trans (L16.out.mono HB0.out.size))
        clear hb16
        go_wp2
        go_ret
        exact ⟨rfl, B16.out⟩
    | false =>
      cases i1 with
      | true =>
        have hi2 := HIM.out rfl
        subst hi2
        go_wp2_with fail
        refine (HW.out _ B15.out).mono ?_
        rintro e w16 ⟨rfl, hb16⟩
        have Lw16 := Lib.hid (L15.out.trans (hb16.mono L15.out.size))
        clear k0_0 k0_1 z0
        have L16 := Lw16
        have B16 := Lib.hid (HB0.out.trans (L16.out.mono HB0.out.size))
        clear hb16
        go_wp2
        go_ret
        exact ⟨rfl, B16.out⟩
      | false =>
        go_wp2_with fail
        refine (HW.out _ B15.out).mono ?_
        rintro e w16 ⟨rfl, hb16⟩
        have Lw16 := Lib.hid (L15.out.trans (hb16.mono L15.out.size))
        clear k0_0 k0_1 z0
        have L16 := Lw16
        have B16 := Lib.hid (HB0.out.trans (L16.out.mono HB0.out.size))
        clear hb16
        go_wp2
        go_ret
        exact ⟨rfl, B16.out⟩
theorem more_any (n : Int) (a : Option Addr) (cap : Nat) (l : List Nd) (b : Option Addr) (cap2 : Nat) (xs : List Int) (b' : Option Addr) (cap3 : Nat) (ys : List Int) (w : World) (hl : l.length ≤ 9223372036854775807) (hx : NdCells0 w a l) (hxs : IntCells w b xs) (hxl : xs.length * 8 ≤ 140737488351232) (hys : IntCells w b' ys) (hyl : ys.length * 8 ≤ 140737488351232) (ht : Tab w) :
    Calls Tryz.prog 5 #[.agg #[.int .i64 n, .slice a l.length cap], .slice b xs.length cap2, .slice b' ys.length cap3] w fun e w' => e = .returned (.bool true) ∧ Below w.heap.size w w' := by
  cases hli : lightB ⟨n, l⟩ with
  | false => exact more_dark n a cap l b cap2 xs b' cap3 ys w hl hx hxs hxl hys hyl ht hli
  | true =>
    by_cases h40 : xs.length + ys.length ≤ 40
    · by_cases hc : chkR (xs ++ ys) ⟨n, l⟩ = 0
      · exact more_ok n a cap l b cap2 xs b' cap3 ys w hl hx hxs hxl hys hyl ht hli h40 hc
      · exact more_err n a cap l b cap2 xs b' cap3 ys w hl hx hxs hxl hys hyl ht hli h40 hc
    · exact more_long n a cap l b cap2 xs b' cap3 ys w hl hx hxs hxl hys hyl ht hli (by omega)
end Go.Proofs.YtfdonhfhcomjaaaGreatDoor
