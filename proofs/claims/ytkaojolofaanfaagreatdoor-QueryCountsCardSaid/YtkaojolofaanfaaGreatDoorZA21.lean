/- Part of the proofs that laws of censuslaw38 return true for every input, where the tables that the rows list are laid. Texts: R20E, R20M, LawP. -/
import Derived.Test.YtkaojolofaanfaaGreatDoorZA20
import Derived.Deep.RegionHeld3
import Derived.Test.YtkaojolofaanfaaGreatDoorZA18

/- The walks of censusref20's Eval, Nth, Models. -/
namespace Go.Proofs.YtkaojolofaanfaaGreatDoor
open Go.RowKit Cen
set_option maxHeartbeats 2000000
set_option maxRecDepth 100000
theorem last5 {p q r s t : Prop} (h : p ∧ q ∧ r ∧ s ∧ t) : t := h.2.2.2.2
theorem rEval_any (n : Int) (a : Option Addr) (cap : Nat) (l : List Nd) (s : St) (w : World) (hl : l.length ≤ 1073741824) (hx : NdCells w a l) (hs : s.ok) :
    Calls Tryz.prog 31 #[.agg #[.int .i64 n, .slice a l.length cap], stv s] w fun e w' => e = .returned (.bool (netOk ⟨n, l⟩ && ev s.mem ⟨n, l⟩)) ∧ Below w.heap.size w w' := by
  have hb0 : Below w.heap.size w ((w.alloc (.cells #[.int .i64 n, .slice a l.length cap] 24)).alloc (.cells #[.int .u64 (s.a : Int), .int .u64 (s.b : Int)] 54)) := ((Below.refl _ _).alloc (Nat.le_refl _) _).alloc (by simp) _
  have HB0 := Lib.hid hb0
  have HX := Lib.hid (hx.keep hb0)
  have q0 := Lib.hid ((Blk.new w #[.int .i64 n, .slice a l.length cap] 24).alloc (.cells #[.int .u64 (s.a : Int), .int .u64 (s.b : Int)] 54))
  have q1 := Lib.hid (Blk.new' (w.alloc (.cells #[.int .i64 n, .slice a l.length cap] 24)) (World.size_alloc _ _) #[.int .u64 (s.a : Int), .int .u64 (s.b : Int)] 54)
  have HS := Lib.hid hs
  clear hb0 hx hs
  go_enter Tryz.func31, Tryz.ntmps31
  go_wp2_with fail
  generalize (w.alloc (.cells #[.int .i64 n, .slice a l.length cap] 24)).alloc (.cells #[.int .u64 (s.a : Int), .int .u64 (s.b : Int)] 54) = W at *
  have HZ := Lib.hid HB0.out.size
  have k0 : W.cell? ⟨w.heap.size, 0, none⟩ = some (.int .i64 n) := q0.out.cell 0
  have k1 : W.cell? ⟨w.heap.size, 1, none⟩ = some (.slice a l.length cap) := q0.out.cell 1
  have k2 : W.cell? ⟨w.heap.size + 1, 0, none⟩ = some (.int .u64 (s.a : Int)) := q1.out.cell 0
  have k3 : W.cell? ⟨w.heap.size + 1, 1, none⟩ = some (.int .u64 (s.b : Int)) := q1.out.cell 1
  have HKS : Hid (∀ w' : World, Below W.heap.size W w' → w'.cell? ⟨w.heap.size, 0, none⟩ = some (.int .i64 n) ∧ w'.cell? ⟨w.heap.size, 1, none⟩ = some (.slice a l.length cap) ∧ w'.cell? ⟨w.heap.size + 1, 0, none⟩ = some (.int .u64 (s.a : Int)) ∧ w'.cell? ⟨w.heap.size + 1, 1, none⟩ = some (.int .u64 (s.b : Int)) ∧ Below W.heap.size W w') := Lib.hid fun w' hb => ⟨cell_keep hb k0, cell_keep hb k1, cell_keep hb k2, cell_keep hb k3, hb⟩
  have HV : Hid (∀ V, Below W.heap.size W V → Calls Tryz.prog 28 #[.agg #[.int .i64 n, .slice a l.length cap]] V fun e w' => e = .returned (.bool (netOk ⟨n, l⟩)) ∧ Below V.heap.size V w') := Lib.hid fun V hb => rValid_any n a cap l V hl (HX.out.keep hb)
  cases hok : netOk ⟨n, l⟩ with
  | false =>
    rw [hok] at HV
    have HOKF := Lib.hid hok
    clear hok
    refine wp_region_held_drew (S := (fun w' => w'.cell? ⟨w.heap.size, 0, none⟩ = some (.int .i64 n) ∧ w'.cell? ⟨w.heap.size, 1, none⟩ = some (.slice a l.length cap) ∧ w'.cell? ⟨w.heap.size + 1, 0, none⟩ = some (.int .u64 (s.a : Int)) ∧ w'.cell? ⟨w.heap.size + 1, 1, none⟩ = some (.int .u64 (s.b : Int)) ∧ Below W.heap.size W w')) (by kernel_rfl) ?_ (fun hHeld => ?_)
    · try dsimp only
      exact HKS.out _ (Below.refl _ _).drew
    refine wpAnyH_take (i := 0) (v := ?_) rfl (by kernel_rfl) (by kernel_rfl) (by kernel_rfl) (fun _ _ _ h => h) (Or.inl ⟨by rfl, ?_⟩) (by assumption) ?_
    rotate_left
    · intro w hSw
      try dsimp only at hSw
      first | (go_simp; done) | (go_simp; with_reducible rfl)
    change wpAnyH _ _ _ _ _ _ _ (Act.put _ (some 5) _) _
    try simp only [Act.put, List.setIfInBounds_toArray, List.set_cons_zero, List.set_cons_succ]
    refine wpAnyH_ready (rs := [1]) (by kernel_rfl) (by simp) ?_
    refine AllReadyH.cons rfl (fun K hK => ?_) AllReadyH.nil
    go_simp
    go_at_call 28
    refine (HV.out _ (last5 (by assumption))).mono ?_
    rintro e w1 ⟨rfl, hb1⟩
    have hw1 : Below W.heap.size W w1 := Below.trans (last5 (by assumption)) (hb1.mono (Below.size (B := W.heap.size) (w := W) (last5 (by assumption))))
    go_wp2_with fail
    refine hK.out _ _ ?_ (fun hHeld => ?_)
    · try dsimp only
      exact HKS.out _ hw1
    clear hK K
    try simp only [Act.put, List.setIfInBounds_toArray, List.set_cons_zero, List.set_cons_succ]
    refine wpAnyH_take (i := 2) (v := ?_) rfl (by kernel_rfl) (by kernel_rfl) (by kernel_rfl) (fun _ _ _ h => h) (Or.inl ⟨by rfl, ?_⟩) (by assumption) ?_
    rotate_left
    · intro w hSw
      try dsimp only at hSw
      first | (go_simp; done) | (go_simp; with_reducible rfl)
    change wpAnyH _ _ _ _ _ _ _ (Act.put _ (some 7) _) _
    try simp only [Act.put, List.setIfInBounds_toArray, List.set_cons_zero, List.set_cons_succ]
    refine wpAnyH_take (i := 3) rfl (by kernel_rfl) (by kernel_rfl) (by kernel_rfl) (fun _ _ _ h => h) (Or.inr ⟨by kernel_rfl, rfl⟩) (by assumption) ?_
    change wpAnyH _ _ _ _ _ _ _ (Act.put _ (some 8) _) _
    try simp only [Act.put, List.setIfInBounds_toArray, List.set_cons_zero, List.set_cons_succ]
    refine wpAnyH_take (i := 4) rfl (by kernel_rfl) (by kernel_rfl) (by kernel_rfl) (fun _ _ _ h => h) (Or.inr ⟨by kernel_rfl, rfl⟩) (by assumption) ?_
    change wpAnyH _ _ _ _ _ _ _ (Act.put _ (some 9) _) _
    try simp only [Act.put, List.setIfInBounds_toArray, List.set_cons_zero, List.set_cons_succ]
    refine wpAnyH_take (i := 5) rfl (by kernel_rfl) (by kernel_rfl) (by kernel_rfl) (fun _ _ _ h => h) (Or.inr ⟨by kernel_rfl, rfl⟩) (by assumption) ?_
    change wpAnyH _ _ _ _ _ _ _ (Act.put _ (some 10) _) _
    try simp only [Act.put, List.setIfInBounds_toArray, List.set_cons_zero, List.set_cons_succ]
    refine wpAnyH_take (i := 6) rfl (by kernel_rfl) (by kernel_rfl) (by kernel_rfl) (fun _ _ _ h => h) (Or.inr ⟨by kernel_rfl, rfl⟩) (by assumption) ?_
    change wpAnyH _ _ _ _ _ _ _ (Act.put _ (some 11) _) _
    try simp only [Act.put, List.setIfInBounds_toArray, List.set_cons_zero, List.set_cons_succ]
    refine wpAnyH_take (i := 7) rfl (by kernel_rfl) (by kernel_rfl) (by kernel_rfl) (fun _ _ _ h => h) (Or.inr ⟨by kernel_rfl, rfl⟩) (by assumption) ?_
    change wpAnyH _ _ _ _ _ _ _ (Act.put _ (some 12) _) _
    try simp only [Act.put, List.setIfInBounds_toArray, List.set_cons_zero, List.set_cons_succ]
    refine wpAnyH_take (i := 8) rfl (by kernel_rfl) (by kernel_rfl) (by kernel_rfl) (fun _ _ _ h => h) (Or.inr ⟨by kernel_rfl, rfl⟩) (by assumption) ?_
    change wpAnyH _ _ _ _ _ _ _ (Act.put _ (some 13) _) _
    try simp only [Act.put, List.setIfInBounds_toArray, List.set_cons_zero, List.set_cons_succ]
    refine wpAnyH_take (i := 9) rfl (by kernel_rfl) (by kernel_rfl) (by kernel_rfl) (fun _ _ _ h => h) (Or.inr ⟨by kernel_rfl, rfl⟩) (by assumption) ?_
    change wpAnyH _ _ _ _ _ _ _ (Act.put _ (some 14) _) _
    try simp only [Act.put, List.setIfInBounds_toArray, List.set_cons_zero, List.set_cons_succ]
    refine wpAnyH_take (i := 10) rfl (by kernel_rfl) (by kernel_rfl) (by kernel_rfl) (fun _ _ _ h => h) (Or.inr ⟨by kernel_rfl, rfl⟩) (by assumption) ?_
    change wpAnyH _ _ _ _ _ _ _ (Act.put _ (some 15) _) _
    try simp only [Act.put, List.setIfInBounds_toArray, List.set_cons_zero, List.set_cons_succ]
    refine wpAnyH_take (i := 11) rfl (by kernel_rfl) (by kernel_rfl) (by kernel_rfl) (fun _ _ _ h => h) (Or.inr ⟨by kernel_rfl, rfl⟩) (by assumption) ?_
    change wpAnyH _ _ _ _ _ _ _ (Act.put _ (some 16) _) _
    try simp only [Act.put, List.setIfInBounds_toArray, List.set_cons_zero, List.set_cons_succ]
    refine wpAnyH_take (i := 12) (v := ?_) rfl (by kernel_rfl) (by kernel_rfl) (by kernel_rfl) (fun _ _ _ h => h) (Or.inl ⟨by rfl, ?_⟩) (by assumption) ?_
    rotate_left
    · intro w hSw
      try dsimp only at hSw
      first | (go_simp; done) | (go_simp; with_reducible rfl)
    change wpAnyH _ _ _ _ _ _ _ (Act.put _ (some 17) _) _
    try simp only [Act.put, List.setIfInBounds_toArray, List.set_cons_zero, List.set_cons_succ]
    refine wpAnyH_take (i := 13) (v := ?_) rfl (by kernel_rfl) (by kernel_rfl) (by kernel_rfl) (fun _ _ _ h => h) (Or.inl ⟨by rfl, ?_⟩) (by assumption) ?_
    rotate_left
    · intro w hSw
      try dsimp only at hSw
      first | (go_simp; done) | (go_simp; with_reducible rfl)
    change wpAnyH _ _ _ _ _ _ _ (Act.put _ (some 4) _) _
    try simp only [Act.put, List.setIfInBounds_toArray, List.set_cons_zero, List.set_cons_succ]
    refine wpAnyH_done (by kernel_rfl) ?_ _
    all_goals
      have HFB := Lib.hid (HB0.out.trans (Below.mono (B := W.heap.size) (last5 (by assumption)) HZ.out))
      go_wp2
      go_ret
      exact ⟨ret_bool (by rw [HOKF.out]; rfl), HFB.out⟩
  | true =>
    rw [hok] at HV
    have HOKT := Lib.hid hok
    obtain ⟨m, hm⟩ : ∃ m, l.length - 1 = m := ⟨_, rfl⟩
    have hl1 := (netOk_head hok).2.2.1
    simp only at hl1
    have e1 : ((l.length : Int) - 1) = (m : Int) := by omega
    have hwr : IntKind.i64.wrap ((l.length : Int) - 1) = (m : Int) := by rw [e1]; exact IntWalk.i64_in _ (by omega)
    have hml : (m : Int) < (l.length : Int) := by omega
    have hm0 : (0 : Int) ≤ (m : Int) := by omega
    have h1l : (1 : Int) ≤ (l.length : Int) := by omega
    have hA : (0 : Int) ≤ (l.length : Int) - 1 := by omega
    have hB : (l.length : Int) - 1 < (l.length : Int) := by omega
    have hC : ((l.length : Int) - 1).toNat = m := by omega
    have hD : (l.length : Int).toNat - 1 = m := by omega
    clear e1
    have hwr2 : IntKind.i64.wrap ((l.length : Int) - 1) = (l.length : Int) - 1 := IntWalk.i64_in _ (by omega)
    clear hwr
    have HML : Hid (m < l.length) := by show _ < _; omega
    have HTR : Hid (∀ V, Below W.heap.size W V → Calls Tryz.prog 81 #[.agg #[.int .i64 n, .slice a l.length cap], stv s] V fun e w' => ∃ g cap', e = .returned (.slice (some ⟨g, 0, none⟩) l.length cap') ∧ OwnL bc 4 1 w' V.heap.size (.slice (some ⟨g, 0, none⟩) l.length cap') (truth s.mem l) ∧ Below V.heap.size V w') := Lib.hid fun V hb => rTruth_any n a cap l s V hok (HX.out.keep hb) HS.out
    have HEV : Hid (ev s.mem ⟨n, l⟩ = (truth s.mem l).getD m false) := by show _ = _; unfold ev; simp only [hm]
    have HTL := Lib.hid (truth_length s.mem l)
    generalize truth s.mem l = vs at *
    have HVM : Hid (vs.getD m false = vs[m]'(by rw [HTL.out]; exact HML.out)) := by show _ = _; simp [List.getD_eq_getElem?_getD, HTL.out, HML.out]
    clear hok hm hl1
    refine wp_region_held_drew (S := (fun w' => w'.cell? ⟨w.heap.size, 0, none⟩ = some (.int .i64 n) ∧ w'.cell? ⟨w.heap.size, 1, none⟩ = some (.slice a l.length cap) ∧ w'.cell? ⟨w.heap.size + 1, 0, none⟩ = some (.int .u64 (s.a : Int)) ∧ w'.cell? ⟨w.heap.size + 1, 1, none⟩ = some (.int .u64 (s.b : Int)) ∧ Below W.heap.size W w')) (by kernel_rfl) ?_ (fun hHeld => ?_)
    · try dsimp only
      exact HKS.out _ (Below.refl _ _).drew
    refine wpAnyH_take (i := 0) (v := ?_) rfl (by kernel_rfl) (by kernel_rfl) (by kernel_rfl) (fun _ _ _ h => h) (Or.inl ⟨by rfl, ?_⟩) (by assumption) ?_
    rotate_left
    · intro w hSw
      try dsimp only at hSw
      first | (go_simp; done) | (go_simp; with_reducible rfl)
    change wpAnyH _ _ _ _ _ _ _ (Act.put _ (some 5) _) _
    try simp only [Act.put, List.setIfInBounds_toArray, List.set_cons_zero, List.set_cons_succ]
    refine wpAnyH_ready (rs := [1]) (by kernel_rfl) (by simp) ?_
    refine AllReadyH.cons rfl (fun K hK => ?_) AllReadyH.nil
    go_simp
    go_at_call 28
    refine (HV.out _ (last5 (by assumption))).mono ?_
    rintro e w1 ⟨rfl, hb1⟩
    have hw1 : Below W.heap.size W w1 := Below.trans (last5 (by assumption)) (hb1.mono (Below.size (B := W.heap.size) (w := W) (last5 (by assumption))))
    go_wp2_with fail
    refine hK.out _ _ ?_ (fun hHeld => ?_)
    · try dsimp only
      exact HKS.out _ hw1
    clear hK K
    try simp only [Act.put, List.setIfInBounds_toArray, List.set_cons_zero, List.set_cons_succ]
    refine wpAnyH_take (i := 2) (v := ?_) rfl (by kernel_rfl) (by kernel_rfl) (by kernel_rfl) (fun _ _ _ h => h) (Or.inl ⟨by rfl, ?_⟩) (by assumption) ?_
    rotate_left
    · intro w hSw
      try dsimp only at hSw
      first | (go_simp; done) | (go_simp; with_reducible rfl)
    change wpAnyH _ _ _ _ _ _ _ (Act.put _ (some 7) _) _
    try simp only [Act.put, List.setIfInBounds_toArray, List.set_cons_zero, List.set_cons_succ]
    refine wpAnyH_take (i := 3) (v := ?_) rfl (by kernel_rfl) (by kernel_rfl) (by kernel_rfl) (fun _ _ _ h => h) (Or.inl ⟨by rfl, ?_⟩) (by assumption) ?_
    rotate_left
    · intro w hSw
      try dsimp only at hSw
      first | (go_simp; done) | (go_simp; with_reducible rfl)
    change wpAnyH _ _ _ _ _ _ _ (Act.put _ (some 8) _) _
    try simp only [Act.put, List.setIfInBounds_toArray, List.set_cons_zero, List.set_cons_succ]
    refine wpAnyH_take (i := 4) (v := ?_) rfl (by kernel_rfl) (by kernel_rfl) (by kernel_rfl) (fun _ _ _ h => h) (Or.inl ⟨by rfl, ?_⟩) (by assumption) ?_
    rotate_left
    · intro w hSw
      try dsimp only at hSw
      first | (go_simp; done) | (go_simp; with_reducible rfl)
    change wpAnyH _ _ _ _ _ _ _ (Act.put _ (some 9) _) _
    try simp only [Act.put, List.setIfInBounds_toArray, List.set_cons_zero, List.set_cons_succ]
    refine wpAnyH_take (i := 6) (v := ?_) rfl (by kernel_rfl) (by kernel_rfl) (by kernel_rfl) (fun _ _ _ h => h) (Or.inl ⟨by rfl, ?_⟩) (by assumption) ?_
    rotate_left
    · intro w hSw
      try dsimp only at hSw
      first | (go_simp; done) | (go_simp; with_reducible rfl)
    change wpAnyH _ _ _ _ _ _ _ (Act.put _ (some 11) _) _
    try simp only [Act.put, List.setIfInBounds_toArray, List.set_cons_zero, List.set_cons_succ]
    refine wpAnyH_take (i := 7) (v := ?_) rfl (by kernel_rfl) (by kernel_rfl) (by kernel_rfl) (fun _ _ _ h => h) (Or.inl ⟨by rfl, ?_⟩) (by assumption) ?_
    rotate_left
    · intro w hSw
      try dsimp only at hSw
      first | (go_simp; done) | (go_simp; with_reducible rfl)
    change wpAnyH _ _ _ _ _ _ _ (Act.put _ (some 12) _) _
    try simp only [Act.put, List.setIfInBounds_toArray, List.set_cons_zero, List.set_cons_succ]
    refine wpAnyH_take (i := 8) (v := ?_) rfl (by kernel_rfl) (by kernel_rfl) (by kernel_rfl) (fun _ _ _ h => h) (Or.inl ⟨by rfl, ?_⟩) (by assumption) ?_
    rotate_left
    · intro w hSw
      try dsimp only at hSw
      first | (go_simp; done) | (go_simp; with_reducible rfl)
    change wpAnyH _ _ _ _ _ _ _ (Act.put _ (some 13) _) _
    try simp only [Act.put, List.setIfInBounds_toArray, List.set_cons_zero, List.set_cons_succ]
    refine wpAnyH_take (i := 9) (v := ?_) rfl (by kernel_rfl) (by kernel_rfl) (by kernel_rfl) (fun _ _ _ h => h) (Or.inl ⟨by rfl, ?_⟩) (by assumption) ?_
    rotate_left
    · intro w hSw
      try dsimp only at hSw
      first | (go_simp; done) | (go_simp; with_reducible rfl)
    change wpAnyH _ _ _ _ _ _ _ (Act.put _ (some 14) _) _
    try simp only [Act.put, List.setIfInBounds_toArray, List.set_cons_zero, List.set_cons_succ]
    refine wpAnyH_ready (rs := [5]) (by kernel_rfl) (by simp) ?_
    refine AllReadyH.cons rfl (fun K hK => ?_) AllReadyH.nil
    go_simp
    go_at_call 81
    refine (HTR.out _ (last5 (by assumption))).mono ?_
    rintro e w2 ⟨g, cap2, rfl, ho2, hb2⟩
    have hw2 : Below W.heap.size W w2 := Below.trans hw1 (hb2.mono (Below.size (B := W.heap.size) (w := W) hw1))
    have f0 : w2.cell? ⟨g, m, none⟩ = some (.bool (vs.getD m false)) := by have := ho2.cell HTL.out.symm bc_len m 0 (by rw [HTL.out]; exact HML.out) (by omega); rw [HVM.out]; simpa [bc] using this
    clear ho2
    go_wp2_with fail
    refine hK.out _ _ ?_ (fun hHeld => ?_)
    · try dsimp only
      exact HKS.out _ hw2
    clear hK K
    try simp only [Act.put, List.setIfInBounds_toArray, List.set_cons_zero, List.set_cons_succ]
    refine wpAnyH_take (i := 10) (v := ?_) rfl (by kernel_rfl) (by kernel_rfl) (by kernel_rfl) (fun _ _ _ h => h) (Or.inl ⟨by rfl, ?_⟩) (by assumption) ?_
    rotate_left
    · intro w hSw
      try dsimp only at hSw
      first | (go_simp; done) | (go_simp; with_reducible rfl)
    change wpAnyH _ _ _ _ _ _ _ (Act.put _ (some 15) _) _
    try simp only [Act.put, List.setIfInBounds_toArray, List.set_cons_zero, List.set_cons_succ]
    refine wpAnyH_ready (rs := [11]) (by kernel_rfl) (by simp) ?_
    refine AllReadyH.cons rfl (fun K hK => ?_) AllReadyH.nil
    go_simp
    refine hK.out _ _ ?_ (fun hHeld => ?_)
    · try dsimp only
      exact HKS.out _ hw2
    clear hK K
    try simp only [Act.put, List.setIfInBounds_toArray, List.set_cons_zero, List.set_cons_succ]
    refine wpAnyH_take (i := 12) (v := ?_) rfl (by kernel_rfl) (by kernel_rfl) (by kernel_rfl) (fun _ _ _ h => h) (Or.inl ⟨by rfl, ?_⟩) (by assumption) ?_
    rotate_left
    · intro w hSw
      try dsimp only at hSw
      first | (go_simp; done) | (go_simp; with_reducible rfl)
    change wpAnyH _ _ _ _ _ _ _ (Act.put _ (some 17) _) _
    try simp only [Act.put, List.setIfInBounds_toArray, List.set_cons_zero, List.set_cons_succ]
    refine wpAnyH_take (i := 13) (v := ?_) rfl (by kernel_rfl) (by kernel_rfl) (by kernel_rfl) (fun _ _ _ h => h) (Or.inl ⟨by rfl, ?_⟩) (by assumption) ?_
    rotate_left
    · intro w hSw
      try dsimp only at hSw
      first | (go_simp; done) | (go_simp; with_reducible rfl)
    change wpAnyH _ _ _ _ _ _ _ (Act.put _ (some 4) _) _
    try simp only [Act.put, List.setIfInBounds_toArray, List.set_cons_zero, List.set_cons_succ]
    refine wpAnyH_done (by kernel_rfl) ?_ _
    all_goals
      have HFB := Lib.hid (HB0.out.trans (Below.mono (B := W.heap.size) (last5 (by assumption)) HZ.out))
      go_wp2
      go_ret
      exact ⟨ret_bool (by rw [HOKT.out, HEV.out]; rfl), HFB.out⟩
end Go.Proofs.YtkaojolofaanfaaGreatDoor

/- The walk of censusref20's Models. -/
namespace Go.Proofs.YtkaojolofaanfaaGreatDoor
open Go.RowKit Cen
set_option maxHeartbeats 2000000
set_option maxRecDepth 100000
def modK (N : Nat) (l : List Nd) (k : Nat) : Bool := ev (nthL N k).mem ⟨N, l⟩
def modUp (N : Nat) (l : List Nd) (k : Nat) : List St := ((List.range k).filter (modK N l)).map (nthL N)
theorem modUp_succ (N : Nat) (l : List Nd) (k : Nat) : modUp N l (k + 1) = if modK N l k then modUp N l k ++ [nthL N k] else modUp N l k := by
  unfold modUp
  rw [List.range_succ, List.filter_append, List.map_append]
  cases h : modK N l k <;> simp [h]
theorem modUp_len (N : Nat) (l : List Nd) (k : Nat) : (modUp N l k).length ≤ k := by
  unfold modUp
  rw [List.length_map]
  have := List.length_filter_le (modK N l) (List.range k)
  simpa using this
theorem nthL_ok {N : Nat} (h : N ≤ 16) (k : Nat) : (nthL N k).ok := ⟨nthA_lt N k N (by omega), by show 0 < U64; unfold U64; omega⟩
theorem models_any (N : Nat) (a : Option Addr) (cap : Nat) (l : List Nd) (w : World) (hok : netOk ⟨N, l⟩ = true) (hN : N ≤ 16) (hx : NdCells w a l) :
    Calls Tryz.prog 38 #[.agg #[.int .i64 N, .slice a l.length cap]] w fun e w' => ∃ v, e = .returned v ∧ OwnSets w' w.heap.size v (modUp N l (2 ^ N)) ∧ Below w.heap.size w w' := by
  have hb0 : Below w.heap.size w (w.alloc (.cells #[.int .i64 N, .slice a l.length cap] 24)) := (Below.refl _ _).alloc (Nat.le_refl _) _
  have HB0 := Lib.hid hb0
  have HX := Lib.hid (hx.keep hb0)
  have q0 := Lib.hid (Blk.new w #[.int .i64 N, .slice a l.length cap] 24)
  have HOK := Lib.hid hok
  have hl1 : l.length ≤ 1073741824 := by have := (netOk_head hok).2.2.2; simp only at this; omega
  have HZ0 : Hid ((w.alloc (.cells #[.int .i64 N, .slice a l.length cap] 24)).heap.size = w.heap.size + 1) := by show _ = _; simp
  have hM : 2 ^ N ≤ 65536 := Nat.pow_le_pow_right (n := 2) (by omega) hN
  have hsh : wrap64 ((2 : Int) ^ N) = ((2 ^ N : Nat) : Int) := by
    rw [show ((2 : Int) ^ N) = ((2 ^ N : Nat) : Int) from by norm_cast]
    generalize 2 ^ N = M at *
    exact IntWalk.wrap64_in ((M : Nat) : Int) (by omega)
  have HSH := Lib.hid hsh
  have HM := Lib.hid hM
  clear hb0 hx hok hM hsh
  go_enter Tryz.func38, Tryz.ntmps38
  go_wp2_with fail
  generalize w.alloc (.cells #[.int .i64 N, .slice a l.length cap] 24) = W at *
  go_loopw [3, 4] (fun v i wr => ∃ k : Nat, k ≤ 2 ^ N ∧ i = .int .i64 k ∧ OwnSets wr (w.heap.size + 1) v (modUp N l k) ∧ Below (w.heap.size + 1) W wr) (fun _ i _ => 2 ^ N - (intOf i).toNat)
  case atStart => exact ⟨0, Nat.zero_le _, rfl, OwnL.nil _ _, Below.refl _ _⟩
  case round =>
    obtain ⟨k, hk, rfl, hown, hb⟩ := hrel
    have HO := Lib.hid hown
    have HKM := Lib.hid hk
    have HBW := Lib.hid hb
    have hbs : Below W.heap.size W wr := by rw [HZ0.out]; exact hb
    have HXR := Lib.hid (HX.out.keep hbs)
    have Q0 := Lib.hid (q0.out.later hbs)
    have k0 : wr.cell? ⟨w.heap.size, 0, none⟩ = some (.int .i64 N) := Q0.out.cell 0
    have k1 : wr.cell? ⟨w.heap.size, 1, none⟩ = some (.slice a l.length cap) := Q0.out.cell 1
    have HV : Hid (Calls Tryz.prog 28 #[.agg #[.int .i64 N, .slice a l.length cap]] wr fun e w' => e = .returned (.bool true) ∧ Below wr.heap.size wr w') := by
      have h := rValid_any N a cap l wr hl1 HXR.out
      rw [HOK.out] at h; exact h
    clear hown hb hbs hk
    go_wp2_with fail
    refine HV.out.mono ?_
    rintro e w1 ⟨rfl, hb1⟩
    have Q1 := Lib.hid (Q0.out.later hb1)
    have HB1 := Lib.hid hb1
    clear k0 k1
    have k0 : w1.cell? ⟨w.heap.size, 0, none⟩ = some (.int .i64 N) := Q1.out.cell 0
    have k1 : w1.cell? ⟨w.heap.size, 1, none⟩ = some (.slice a l.length cap) := Q1.out.cell 1
    clear hb1
    have hNi : ((N : Int) ≤ 16) := by omega
    have hk2 : k ≤ 65536 := Nat.le_trans HKM.out HM.out
    by_cases hlt : k < 2 ^ N
    · have hd : decide ((k : Int) < wrap64 ((2 : Int) ^ N)) = true := by rw [HSH.out, decide_eq_true_iff]; exact Int.ofNat_lt.2 hlt
      have HNT := Lib.hid (nth_any N k w1 hN (by have := HM.out; omega))
      have HLT := Lib.hid hlt
      clear hlt
      go_wp2_with fail
      refine HNT.out.mono ?_
      rintro e w2 ⟨rfl, hb2⟩
      have HSO : Hid (nthL N k).ok := nthL_ok hN k
      have HUP := Lib.hid (modUp_succ N l k)
      have HLE := Lib.hid (modUp_len N l k)
      have HMK : Hid (modK N l k = ev (nthL N k).mem ⟨N, l⟩) := rfl
      generalize nthL N k = s at *
      have Q2 := Lib.hid (Q1.out.later hb2)
      have HB2 := Lib.hid (HB1.out.trans (hb2.mono HB1.out.size))
      have hz2 : w.heap.size < w2.heap.size := Q2.out.lt
      have m0 : w2.cell? ⟨w.heap.size, 0, none⟩ = some (.int .i64 N) := Q2.out.cell 0
      have m1 : w2.cell? ⟨w.heap.size, 1, none⟩ = some (.slice a l.length cap) := Q2.out.cell 1
      have HB3 : Hid (Below wr.heap.size wr (w2.alloc (.cells #[.int .u64 (s.a : Int), .int .u64 (s.b : Int)] 54))) := HB2.out.alloc HB2.out.size _
      have HEV := Lib.hid (rEval_any N a cap l s (w2.alloc (.cells #[.int .u64 (s.a : Int), .int .u64 (s.b : Int)] 54)) hl1 (HXR.out.keep HB3.out) HSO.out)
      rw [HOK.out, ← HMK.out] at HEV
      have S3 := Lib.hid (Blk.new w2 #[.int .u64 (s.a : Int), .int .u64 (s.b : Int)] 54)
      clear hb2 k0 k1
      cases hm : modK N l k with
      | false =>
        rw [hm] at HEV HUP
        clear hm
        go_wp2_with fail
        refine HEV.out.mono ?_
        rintro e w4 ⟨rfl, hb4⟩
        have HB4 := Lib.hid (HB3.out.trans (hb4.mono HB3.out.size))
        clear hb4
        go_wp2
        go_roundw
        case rel => exact ⟨k + 1, HLT.out, by go_num, by rw [HUP.out]; exact HO.out.later HB4.out, HBW.out.trans (HB4.out.mono (by have := HBW.out.size; have := HZ0.out; omega))⟩
        case measure =>
          have h1 := HLT.out
          generalize 2 ^ N = M at *
          simp [intOf]; omega
      | true =>
        rw [hm] at HEV HUP
        clear hm
        go_wp2_with fail
        refine HEV.out.mono ?_
        rintro e w4 ⟨rfl, hb4⟩
        have HB4 := Lib.hid (HB3.out.trans (hb4.mono HB3.out.size))
        have S4 := S3.out.later hb4
        have s0 : w4.cell? ⟨w2.heap.size, 0, none⟩ = some (.int .u64 (s.a : Int)) := S4.cell 0
        have s1 : w4.cell? ⟨w2.heap.size, 1, none⟩ = some (.int .u64 (s.b : Int)) := S4.cell 1
        have HO4 := Lib.hid (HO.out.later HB4.out)
        have HZ4 : Hid (w.heap.size + 1 ≤ w4.heap.size) := by show _ ≤ _; have h1 := HBW.out.size; have h2 := HZ0.out; have h3 := HB4.out.size; omega
        clear hb4 S4 m0 m1
        go_wp2_with (at_builtin; refine app1 (C := #[.int .u64 (s.a : Int), .int .u64 (s.b : Int)]) elemSet rfl _ _ rfl (w.heap.size + 1) _ _ _ rfl HO4.out rfl rfl (by simp [Value.oneCell']) (by unfold maxLen; have := HLE.out; have := HLT.out; have := HM.out; omega) (by have := HLE.out; have := HLT.out; have := HM.out; omega) HZ4.out ?_)
        intro v' w8 hown8 hgrow8 _
        have ho8 : OwnSets w8 (w.heap.size + 1) v' (modUp N l k ++ [s]) := by unfold OwnSets OwnL; rw [List.length_append, List.flatMap_append]; simpa [stc] using hown8
        have HO8 := Lib.hid ho8
        have HB8 : Hid (Below (w.heap.size + 1) W w8) := (HBW.out.trans (HB4.out.mono (by have := HBW.out.size; have := HZ0.out; omega))).grown hgrow8 HZ4.out (fun g hg => by
          rcases HO4.out.shape with ⟨h, _⟩ | ⟨g', cap'', h, h2, _⟩
          · rw [h] at hg; simp [Value.ownBlock] at hg
          · rw [h] at hg; simp [Value.ownBlock] at hg; omega)
        clear hown8 hgrow8 ho8
        go_wp2
        go_roundw
        case rel => exact ⟨k + 1, HLT.out, by go_num, by rw [HUP.out]; exact HO8.out, HB8.out⟩
        case measure =>
          have h1 := HLT.out
          generalize 2 ^ N = M at *
          simp [intOf]; omega
    · have hd : decide ((k : Int) < wrap64 ((2 : Int) ^ N)) = false := by rw [HSH.out, decide_eq_false_iff_not]; exact fun h => hlt (Int.ofNat_lt.1 h)
      have he : k = 2 ^ N := by have := HKM.out; omega
      have HO9 : Hid (OwnSets w1 w.heap.size u3 (modUp N l (2 ^ N))) := by
        have h := HO.out
        rw [he] at h
        exact (h.later HB1.out).lower (by omega)
      have HB9 : Hid (Below w.heap.size w w1) := (HB0.out.trans (HBW.out.mono (by omega))).trans (HB1.out.mono (by have := HBW.out.size; have := HZ0.out; omega))
      clear hlt he
      go_wp2
      go_ret
      exact ⟨_, rfl, HO9.out, HB9.out⟩
end Go.Proofs.YtkaojolofaanfaaGreatDoor

/- Plain: what the law's examples answer; that what the functions answer is what the references answer. -/
namespace Go.Proofs.YtkaojolofaanfaaGreatDoor
open Cen
/-- Any assignment is the k-th one, for some k. -/
theorem bits_all (f : Nat → Bool) : ∀ N, ∃ k, k < 2 ^ N ∧ ∀ i, i < N → k.testBit i = f i := by
  intro N
  induction N with
  | zero => exact ⟨0, by simp, fun i h => absurd h (Nat.not_lt_zero _)⟩
  | succ N ih =>
    obtain ⟨k, h1, h2⟩ := ih
    refine ⟨if f N then k ||| 2 ^ N else k, ?_, fun i hi => ?_⟩
    · have : 2 ^ (N + 1) = 2 ^ N + 2 ^ N := by rw [Nat.pow_succ]; omega
      split
      · exact Nat.or_lt_two_pow (by omega) (Nat.pow_lt_pow_right (by omega) (by omega))
      · omega
    · by_cases e : i = N
      · subst e
        have hk : k.testBit i = false := Nat.testBit_lt_two_pow h1
        cases hf : f i with
        | true => simp
        | false => simpa using hk
      · have := h2 i (by omega)
        split
        · rw [Nat.testBit_or, this, Nat.testBit_two_pow]; simp [show ¬ N = i from fun h => e h.symm]
        · exact this
theorem nth_mem {N k : Nat} (hN : N ≤ 16) {v : Int} (h1 : 1 ≤ v) (h2 : v ≤ N) : (nthL N k).mem v = k.testBit (N - v.toNat) := by
  unfold St.mem nthL
  rw [if_pos (by omega), nthA_bit, decide_eq_true (by omega)]
  simp only [Bool.true_and]; congr 1; omega
theorem nth_all {N : Nat} (hN : N ≤ 16) (s : Int → Bool) : ∃ k, k < 2 ^ N ∧ ∀ v : Int, 1 ≤ v → v ≤ N → (nthL N k).mem v = s v := by
  obtain ⟨k, h1, h2⟩ := bits_all (fun i => s ((N - i : Nat) : Int)) N
  refine ⟨k, h1, fun v hv1 hv2 => ?_⟩
  rw [nth_mem hN hv1 hv2, h2 _ (by omega)]
  congr 1; omega
theorem ev_nth {N : Nat} {l : List Nd} (hN : N ≤ 16) (hok : netOk ⟨N, l⟩ = true) (s : Int → Bool) : ∃ k, k < 2 ^ N ∧ modK N l k = ev s ⟨N, l⟩ := by
  obtain ⟨k, h1, h2⟩ := nth_all hN s
  refine ⟨k, h1, ?_⟩
  unfold modK
  refine ev_congr fun y hy hk => ?_
  obtain ⟨a, b⟩ := netOk_lits hok y hy hk
  exact h2 _ (litVar_pos a).2.1 b
theorem cons_ref {N : Nat} {l : List Nd} (hN : N ≤ 16) (h : chkR [] ⟨N, l⟩ = 0) : decide (0 < (modUp N l (2 ^ N)).length) = consR ⟨N, l⟩ := by
  obtain ⟨hok, _, hd⟩ := chkR_ok h
  unfold consR
  rw [decide_eq_true h, Bool.eq_iff_iff]
  simp only [Bool.true_and, decide_eq_true_eq]
  have hr := gvL_root hok hd (xs := []) (fun x hx => by simp at hx)
  have ho : ∀ s, ovr [] s = s := fun s => by funext v; simp [ovr]
  constructor
  · intro hlen h0
    obtain ⟨st, hst⟩ := List.exists_mem_of_length_pos hlen
    unfold modUp at hst
    simp only [List.mem_map, List.mem_filter, List.mem_range] at hst
    obtain ⟨k, ⟨_, hm⟩, _⟩ := hst
    have := hr.1 h0 (nthL N k).mem
    rw [ho] at this
    unfold modK at hm
    rw [hm] at this; simp at this
  · intro hne
    apply Classical.byContradiction
    intro hlen
    refine hne (hr.2 fun s => ?_)
    rw [ho]
    obtain ⟨k, hk, he⟩ := ev_nth hN hok s
    cases hv : ev s ⟨N, l⟩ with
    | false => rfl
    | true =>
      rw [hv] at he
      have : nthL N k ∈ modUp N l (2 ^ N) := by
        unfold modUp; simp only [List.mem_map, List.mem_filter, List.mem_range]
        exact ⟨k, ⟨hk, he⟩, rfl⟩
      exact absurd (List.length_pos_of_mem this) hlen
theorem valid_ref {N : Nat} {l : List Nd} (hN : N ≤ 16) (hs : Small l) (h : chkR [] ⟨N, l⟩ = 0) : decide ((modUp N l (2 ^ N)).length = 2 ^ N) = impR ⟨N, l⟩ [] := by
  obtain ⟨hok, _, hd⟩ := chkR_ok h
  rw [Bool.eq_iff_iff, imp_iff hs h, decide_eq_true_iff]
  unfold modUp
  rw [List.length_map]
  have hl : (List.range (2 ^ N)).length = 2 ^ N := List.length_range
  constructor
  · intro he s
    obtain ⟨k, hk, hev⟩ := ev_nth hN hok s
    rw [← hev]
    have := List.length_filter_eq_length_iff.1 (he.trans hl.symm) k (List.mem_range.2 hk)
    exact this
  · intro hall
    rw [List.length_filter_eq_length_iff.2 (fun k _ => (show modK N l k = true from hall _)), hl]
end Go.Proofs.YtkaojolofaanfaaGreatDoor
