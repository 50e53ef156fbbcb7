/- Part of the proofs that laws of censuslaw38 return true for every input, where the tables that the rows list are laid. Texts: R38L. -/
import Derived.Test.YtfdonhfhcomjaaaGreatDoorZA24
import Derived.Test.YtfdonhfhcomjaaaGreatDoorZC1
import Derived.Deep.RegionHeld3

/- The walks of censusref38's Entails, Implies, Check2, Counter. -/
namespace Go.Proofs.YtfdonhfhcomjaaaGreatDoor
open Go.RowKit Cen
set_option maxHeartbeats 4000000
set_option maxRecDepth 100000
theorem rEntails_any (N : Nat) (a : Option Addr) (cap : Nat) (l : List Nd) (b : Option Addr) (cap2 : Nat) (xs : List Int) (w : World) (hok : netOk ⟨N, l⟩ = true) (hN : N ≤ 16) (hx : NdCells w a l) (hxs : IntCells w b xs) (hxl : xs.length ≤ 1073741824) :
    Calls Tryz.prog 20 #[.agg #[.int .i64 N, .slice a l.length cap], .slice b xs.length cap2] w fun e w' => e = .returned (.bool (entRef N l xs)) ∧ Below w.heap.size w w' := by
  have hb0 := (Below.refl w.heap.size w).alloc (Nat.le_refl _) (.cells #[.int .i64 N, .slice a l.length cap] 24)
  have HB0 := Lib.hid hb0
  have HM := Lib.hid (models_any N a cap l _ hok hN (hx.keep hb0))
  have HXS := Lib.hid hxs
  have HOKM : Hid (∀ s ∈ modUp N l (2 ^ N), s.ok) := fun s hs => by
    unfold modUp at hs; simp only [List.mem_map] at hs
    obtain ⟨k, _, rfl⟩ := hs
    exact nthSt_ok hN k
  have HLM : Hid ((modUp N l (2 ^ N)).length ≤ 65536) := Nat.le_trans (modUp_len _ _ _) (Nat.le_trans (Nat.pow_le_pow_right (n := 2) (by omega) hN) (by decide))
  have HE : Hid (entRef N l xs = (modUp N l (2 ^ N)).all fun s => anyL s.mem xs) := rfl
  generalize modUp N l (2 ^ N) = M at *
  clear hb0 hok hx hxs
  go_enter Tryz.func20, Tryz.ntmps20
  go_wp2_with fail
  refine HM.out.mono ?_
  rintro e w1 ⟨v, rfl, hown1, hb1⟩
  have HB1 := Lib.hid (HB0.out.trans (hb1.mono HB0.out.size))
  have HO1 := Lib.hid hown1
  clear hb1
  obtain ⟨ao, capv, rfl⟩ := hown1.sliced
  clear hown1
  go_wp2
  go_loopw [6] (fun i wr => ∃ k : Nat, k ≤ M.length ∧ i = .int .i64 k ∧ (∀ j, j < k → anyL (M.getD j default).mem xs = true) ∧ Below w1.heap.size w1 wr) (fun i _ => M.length - (intOf i).toNat)
  case atStart => exact ⟨0, Nat.zero_le _, rfl, fun j h => absurd h (Nat.not_lt_zero _), Below.refl _ _⟩
  case round =>
    obtain ⟨k, hk, rfl, hno, hb⟩ := hrel
    have HNO := Lib.hid hno
    have HB := Lib.hid hb
    have HBA := Lib.hid (HB1.out.trans (hb.mono HB1.out.size))
    have HO := Lib.hid (HO1.out.later hb)
    clear hno hb
    by_cases hlt : k < M.length
    · rcases HO.out.shape with ⟨_, hz⟩ | ⟨g, capl, hsl, _, _⟩
      · rw [hz] at hlt; exact absurd hlt (by simp)
      simp only [Value.slice.injEq] at hsl
      obtain ⟨rfl, _, rfl⟩ := hsl
      have c0 := HO.out.cell rfl stc_len k 0 hlt (by omega)
      have c1 := HO.out.cell rfl stc_len k 1 hlt (by omega)
      rw [Nat.add_zero] at c0
      have hgd : M.getD k default = M[k] := by simp [List.getD_eq_getElem?_getD, hlt]
      have HGD := Lib.hid hgd
      have hs := HOKM.out M[k] (List.getElem_mem hlt)
      generalize M[k] = s at *
      have d0 : wr.cell? ⟨g, k * 2, none⟩ = some (.int .u64 (s.a : Int)) := c0
      have d1 : wr.cell? ⟨g, k * 2 + 1, none⟩ = some (.int .u64 (s.b : Int)) := c1
      have HA := Lib.hid (rAny_any s b cap2 xs wr hs (HXS.out.keep HBA.out) hxl)
      have hki : (k : Int) < (M.length : Int) := by omega
      have hk0 : (0 : Int) ≤ (k : Int) := by omega
      have hkb : (k : Int) ≤ 65536 := by have := HLM.out; omega
      clear c0 c1 hgd hs
      cases ha : anyL s.mem xs with
      | true =>
        rw [ha] at HA
        have HAT := Lib.hid ha
        clear ha
        go_wp2_with fail
        refine HA.out.mono ?_
        rintro e w2 ⟨rfl, hb2⟩
        have HB2 := Lib.hid (HB.out.trans (hb2.mono HB.out.size))
        clear hb2
        go_wp2
        go_roundw
        case rel => exact ⟨k + 1, by omega, by go_num, fun j hj => by
          by_cases e : j = k
          · subst e; rw [HGD.out]; exact HAT.out
          · exact HNO.out j (by omega), HB2.out⟩
        case measure => simp [intOf]; omega
      | false =>
        rw [ha] at HA
        have HR : Hid (entRef N l xs = false) := by
          show _ = _; rw [HE.out]
          exact all_false (p := fun s : St => anyL s.mem xs) hlt (by rw [HGD.out]; exact ha)
        clear ha
        go_wp2_with fail
        refine HA.out.mono ?_
        rintro e w2 ⟨rfl, hb2⟩
        have HB2 := Lib.hid (HBA.out.trans (hb2.mono HBA.out.size))
        clear hb2
        go_wp2
        go_ret
        exact ⟨ret_bool HR.out.symm, HB2.out⟩
    · have : k = M.length := by omega
      subst this
      have HR : Hid (entRef N l xs = true) := by
        show _ = _; rw [HE.out]
        exact all_true (p := fun s : St => anyL s.mem xs) HNO.out
      go_wp2
      go_ret
      exact ⟨ret_bool HR.out.symm, HBA.out⟩
theorem last5' {p q r s t : Prop} (h : p ∧ q ∧ r ∧ s ∧ t) : t := h.2.2.2.2
theorem last7 {p q r s t u v : Prop} (h : p ∧ q ∧ r ∧ s ∧ t ∧ u ∧ v) : v := h.2.2.2.2.2.2
theorem impRef_p (N : Nat) (l : List Nd) (xs : List Int) : impRef N l xs = (subL N).all fun s => !(allL s.mem xs && !ev s.mem ⟨N, l⟩) := rfl
theorem subL_ok {N : Nat} (hN : N ≤ 16) : ∀ s ∈ subL N, s.ok := fun s hs => by
  unfold subL at hs; simp only [List.mem_map] at hs
  obtain ⟨k, _, rfl⟩ := hs
  exact nthSt_ok hN k
theorem subL_len {N : Nat} (hN : N ≤ 16) : (subL N).length ≤ 65536 := by
  unfold subL; rw [List.length_map, List.length_range]
  exact Nat.le_trans (Nat.pow_le_pow_right (n := 2) (by omega) hN) (by decide)

theorem rImplies_any (N : Nat) (a : Option Addr) (cap : Nat) (l : List Nd) (b : Option Addr) (cap2 : Nat) (xs : List Int) (w : World) (hok : netOk ⟨N, l⟩ = true) (hN : N ≤ 16) (hx : NdCells w a l) (hxs : IntCells w b xs) (hxl : xs.length ≤ 1073741824) :
    Calls Tryz.prog 21 #[.agg #[.int .i64 N, .slice a l.length cap], .slice b xs.length cap2] w fun e w' => e = .returned (.bool (impRef N l xs)) ∧ Below w.heap.size w w' := by
  have hb0 := (Below.refl w.heap.size w).alloc (Nat.le_refl _) (.cells #[.int .i64 N, .slice a l.length cap] 24)
  have HB0 := Lib.hid hb0
  have q0 := Lib.hid (Blk.new w #[.int .i64 N, .slice a l.length cap] 24)
  have HM := Lib.hid (fun V => subsets_any N V hN)
  have HX := Lib.hid (hx.keep hb0)
  have HXS := Lib.hid (hxs.keep hb0)
  have HOKM := Lib.hid (subL_ok hN)
  have HLM := Lib.hid (subL_len hN)
  have HE := Lib.hid (impRef_p N l xs)
  have HOK := Lib.hid hok
  have hl1 : l.length ≤ 1073741824 := by have := (netOk_head hok).2.2.2; simp only at this; omega
  generalize subL N = M at *
  clear hb0 hok hx hxs
  go_enter Tryz.func21, Tryz.ntmps21
  go_wp2_with fail
  generalize w.alloc (.cells #[.int .i64 N, .slice a l.length cap] 24) = W at *
  have k0 : W.cell? ⟨w.heap.size, 0, none⟩ = some (.int .i64 N) := q0.out.cell 0
  have k1 : W.cell? ⟨w.heap.size, 1, none⟩ = some (.slice a l.length cap) := q0.out.cell 1
  try go_wp2_with fail
  refine (HM.out _).mono ?_
  rintro e w1 ⟨v, rfl, hown1, hb1⟩
  have HW1 := Lib.hid hb1
  have HB1 := Lib.hid (HB0.out.trans (hb1.mono HB0.out.size))
  have HO1 := Lib.hid hown1
  have q1 := Lib.hid (q0.out.later hb1)
  clear hb1 k0 k1
  obtain ⟨ao, capv, rfl⟩ := hown1.sliced
  clear hown1
  go_wp2
  go_loopw [6] (fun i wr => ∃ k : Nat, k ≤ M.length ∧ i = .int .i64 k ∧ (∀ j, j < k → (!(allL (M.getD j default).mem xs && !ev (M.getD j default).mem ⟨N, l⟩)) = true) ∧ Below w1.heap.size w1 wr) (fun i _ => M.length - (intOf i).toNat)
  case atStart => exact ⟨0, Nat.zero_le _, rfl, fun j h => absurd h (Nat.not_lt_zero _), Below.refl _ _⟩
  case round =>
    obtain ⟨k, hk, rfl, hno, hb⟩ := hrel
    have HNO := Lib.hid hno
    have HB := Lib.hid hb
    have HBA := Lib.hid (HB1.out.trans (hb.mono HB1.out.size))
    have HBW := Lib.hid (HW1.out.trans (hb.mono HW1.out.size))
    have HO := Lib.hid (HO1.out.later hb)
    have Q := Lib.hid (q1.out.later hb)
    have k0 : wr.cell? ⟨w.heap.size, 0, none⟩ = some (.int .i64 N) := Q.out.cell 0
    have k1 : wr.cell? ⟨w.heap.size, 1, none⟩ = some (.slice a l.length cap) := Q.out.cell 1
    clear hno hb
    by_cases hlt : k < M.length
    · rcases HO.out.shape with ⟨_, hz⟩ | ⟨g, capl, hsl, _, _⟩
      · rw [hz] at hlt; exact absurd hlt (by simp)
      simp only [Value.slice.injEq] at hsl
      obtain ⟨rfl, _, rfl⟩ := hsl
      have c0 := HO.out.cell rfl stc_len k 0 hlt (by omega)
      have c1 := HO.out.cell rfl stc_len k 1 hlt (by omega)
      rw [Nat.add_zero] at c0
      have hgd : M.getD k default = M[k] := by simp [List.getD_eq_getElem?_getD, hlt]
      have HGD := Lib.hid hgd
      have hs := HOKM.out M[k] (List.getElem_mem hlt)
      generalize M[k] = s at *
      have d0 : wr.cell? ⟨g, k * 2, none⟩ = some (.int .u64 (s.a : Int)) := c0
      have d1 : wr.cell? ⟨g, k * 2 + 1, none⟩ = some (.int .u64 (s.b : Int)) := c1
      have HA : Hid (∀ V, Below wr.heap.size wr V → Calls Tryz.prog 57 #[stv s, .slice b xs.length cap2] V fun e w' => e = .returned (.bool (allL s.mem xs)) ∧ Below V.heap.size V w') := Lib.hid fun V hV => rAll_any s b cap2 xs V hs ((HXS.out.keep HBW.out).keep hV) hxl
      have HEV : Hid (∀ V, Below wr.heap.size wr V → Calls Tryz.prog 58 #[.agg #[.int .i64 N, .slice a l.length cap], stv s] V fun e w' => e = .returned (.bool (ev s.mem ⟨N, l⟩)) ∧ Below V.heap.size V w') := Lib.hid fun V hV => by
        have h := rEval_any N a cap l s V hl1 ((HX.out.keep HBW.out).keep hV) hs
        rw [HOK.out] at h; exact h
      have HKS : Hid (∀ w' : World, Below wr.heap.size wr w' → w'.cell? ⟨w.heap.size, 0, none⟩ = some (.int .i64 N) ∧ w'.cell? ⟨w.heap.size, 1, none⟩ = some (.slice a l.length cap) ∧ w'.cell? ⟨g, k * 2, none⟩ = some (.int .u64 (s.a : Int)) ∧ w'.cell? ⟨g, k * 2 + 1, none⟩ = some (.int .u64 (s.b : Int)) ∧ Below wr.heap.size wr w') := Lib.hid fun w' hb => ⟨cell_keep hb k0, cell_keep hb k1, cell_keep hb d0, cell_keep hb d1, hb⟩
      have hki : (k : Int) < (M.length : Int) := by omega
      have hk0 : (0 : Int) ≤ (k : Int) := by omega
      have hkb : (k : Int) ≤ 65536 := by have := HLM.out; omega
      clear c0 c1 hgd hs
      cases ha : allL s.mem xs with
      | false =>
        rw [ha] at HA
        have HAT : Hid ((!(allL s.mem xs && !ev s.mem ⟨N, l⟩)) = true) := by show _ = _; rw [ha]; rfl
        clear ha
        go_wp2_with fail
        refine wp_region_held_drew (S := (fun w' => w'.cell? ⟨w.heap.size, 0, none⟩ = some (.int .i64 N) ∧ w'.cell? ⟨w.heap.size, 1, none⟩ = some (.slice a l.length cap) ∧ w'.cell? ⟨g, k * 2, none⟩ = some (.int .u64 (s.a : Int)) ∧ w'.cell? ⟨g, k * 2 + 1, none⟩ = some (.int .u64 (s.b : Int)) ∧ Below wr.heap.size wr w')) (by kernel_rfl) ?_ (fun hHeld => ?_)
        · try dsimp only
          exact HKS.out _ (Below.refl _ _).drew
        refine wpAnyH_take (i := 0) (v := ?_) rfl (by kernel_rfl) (by kernel_rfl) (by kernel_rfl) (fun _ _ _ h => h) (Or.inl ⟨by rfl, ?_⟩) (by assumption) ?_
        rotate_left
        · intro w hSw
          try dsimp only at hSw
          first | (go_simp; done) | (go_simp; with_reducible rfl)
        change wpAnyH _ _ _ _ _ _ _ (Act.put _ (some 16) _) _
        try simp only [Act.put, List.setIfInBounds_toArray, List.set_cons_zero, List.set_cons_succ]
        refine wpAnyH_take (i := 1) (v := ?_) rfl (by kernel_rfl) (by kernel_rfl) (by kernel_rfl) (fun _ _ _ h => h) (Or.inl ⟨by rfl, ?_⟩) (by assumption) ?_
        rotate_left
        · intro w hSw
          try dsimp only at hSw
          first | (go_simp; done) | (go_simp; with_reducible rfl)
        change wpAnyH _ _ _ _ _ _ _ (Act.put _ (some 17) _) _
        try simp only [Act.put, List.setIfInBounds_toArray, List.set_cons_zero, List.set_cons_succ]
        refine wpAnyH_take (i := 2) (v := ?_) rfl (by kernel_rfl) (by kernel_rfl) (by kernel_rfl) (fun _ _ _ h => h) (Or.inl ⟨by rfl, ?_⟩) (by assumption) ?_
        rotate_left
        · intro w hSw
          try dsimp only at hSw
          first | (go_simp; done) | (go_simp; with_reducible rfl)
        change wpAnyH _ _ _ _ _ _ _ (Act.put _ (some 18) _) _
        try simp only [Act.put, List.setIfInBounds_toArray, List.set_cons_zero, List.set_cons_succ]
        refine wpAnyH_take (i := 3) (v := ?_) rfl (by kernel_rfl) (by kernel_rfl) (by kernel_rfl) (fun _ _ _ h => h) (Or.inl ⟨by rfl, ?_⟩) (by assumption) ?_
        rotate_left
        · intro w hSw
          try dsimp only at hSw
          first | (go_simp; done) | (go_simp; with_reducible rfl)
        change wpAnyH _ _ _ _ _ _ _ (Act.put _ (some 19) _) _
        try simp only [Act.put, List.setIfInBounds_toArray, List.set_cons_zero, List.set_cons_succ]
        refine wpAnyH_take (i := 4) (v := ?_) rfl (by kernel_rfl) (by kernel_rfl) (by kernel_rfl) (fun _ _ _ h => h) (Or.inl ⟨by rfl, ?_⟩) (by assumption) ?_
        rotate_left
        · intro w hSw
          try dsimp only at hSw
          first | (go_simp; done) | (go_simp; with_reducible rfl)
        change wpAnyH _ _ _ _ _ _ _ (Act.put _ (some 20) _) _
        try simp only [Act.put, List.setIfInBounds_toArray, List.set_cons_zero, List.set_cons_succ]
        refine wpAnyH_ready (rs := [5]) (by kernel_rfl) (by simp) ?_
        refine AllReadyH.cons rfl (fun K hK => ?_) AllReadyH.nil
        go_simp
        go_at_call 57
        refine (HA.out _ (last5' (by assumption))).mono ?_
        rintro e w2 ⟨rfl, hb2⟩
        have hw2 : Below wr.heap.size wr w2 := Below.trans (last5' (by assumption)) (hb2.mono (Below.size (B := wr.heap.size) (w := wr) (last5' (by assumption))))
        go_wp2_with fail
        refine hK.out _ _ ?_ (fun hHeld => ?_)
        · try dsimp only
          exact HKS.out _ hw2
        clear hK K
        try simp only [Act.put, List.setIfInBounds_toArray, List.set_cons_zero, List.set_cons_succ]
        refine wpAnyH_take (i := 6) (v := ?_) rfl (by kernel_rfl) (by kernel_rfl) (by kernel_rfl) (fun _ _ _ h => h) (Or.inl ⟨by rfl, ?_⟩) (by assumption) ?_
        rotate_left
        · intro w hSw
          try dsimp only at hSw
          first | (go_simp; done) | (go_simp; with_reducible rfl)
        change wpAnyH _ _ _ _ _ _ _ (Act.put _ (some 22) _) _
        try simp only [Act.put, List.setIfInBounds_toArray, List.set_cons_zero, List.set_cons_succ]
        refine wpAnyH_take (i := 7) rfl (by kernel_rfl) (by kernel_rfl) (by kernel_rfl) (fun _ _ _ h => h) (Or.inr ⟨by kernel_rfl, rfl⟩) (by assumption) ?_
        change wpAnyH _ _ _ _ _ _ _ (Act.put _ (some 23) _) _
        try simp only [Act.put, List.setIfInBounds_toArray, List.set_cons_zero, List.set_cons_succ]
        refine wpAnyH_take (i := 8) rfl (by kernel_rfl) (by kernel_rfl) (by kernel_rfl) (fun _ _ _ h => h) (Or.inr ⟨by kernel_rfl, rfl⟩) (by assumption) ?_
        change wpAnyH _ _ _ _ _ _ _ (Act.put _ (some 24) _) _
        try simp only [Act.put, List.setIfInBounds_toArray, List.set_cons_zero, List.set_cons_succ]
        refine wpAnyH_take (i := 9) rfl (by kernel_rfl) (by kernel_rfl) (by kernel_rfl) (fun _ _ _ h => h) (Or.inr ⟨by kernel_rfl, rfl⟩) (by assumption) ?_
        change wpAnyH _ _ _ _ _ _ _ (Act.put _ (some 25) _) _
        try simp only [Act.put, List.setIfInBounds_toArray, List.set_cons_zero, List.set_cons_succ]
        refine wpAnyH_take (i := 10) rfl (by kernel_rfl) (by kernel_rfl) (by kernel_rfl) (fun _ _ _ h => h) (Or.inr ⟨by kernel_rfl, rfl⟩) (by assumption) ?_
        change wpAnyH _ _ _ _ _ _ _ (Act.put _ (some 26) _) _
        try simp only [Act.put, List.setIfInBounds_toArray, List.set_cons_zero, List.set_cons_succ]
        refine wpAnyH_take (i := 11) rfl (by kernel_rfl) (by kernel_rfl) (by kernel_rfl) (fun _ _ _ h => h) (Or.inr ⟨by kernel_rfl, rfl⟩) (by assumption) ?_
        change wpAnyH _ _ _ _ _ _ _ (Act.put _ (some 27) _) _
        try simp only [Act.put, List.setIfInBounds_toArray, List.set_cons_zero, List.set_cons_succ]
        refine wpAnyH_take (i := 12) rfl (by kernel_rfl) (by kernel_rfl) (by kernel_rfl) (fun _ _ _ h => h) (Or.inr ⟨by kernel_rfl, rfl⟩) (by assumption) ?_
        change wpAnyH _ _ _ _ _ _ _ (Act.put _ (some 28) _) _
        try simp only [Act.put, List.setIfInBounds_toArray, List.set_cons_zero, List.set_cons_succ]
        refine wpAnyH_take (i := 13) rfl (by kernel_rfl) (by kernel_rfl) (by kernel_rfl) (fun _ _ _ h => h) (Or.inr ⟨by kernel_rfl, rfl⟩) (by assumption) ?_
        change wpAnyH _ _ _ _ _ _ _ (Act.put _ (some 29) _) _
        try simp only [Act.put, List.setIfInBounds_toArray, List.set_cons_zero, List.set_cons_succ]
        refine wpAnyH_take (i := 14) (v := ?_) rfl (by kernel_rfl) (by kernel_rfl) (by kernel_rfl) (fun _ _ _ h => h) (Or.inl ⟨by rfl, ?_⟩) (by assumption) ?_
        rotate_left
        · intro w hSw
          try dsimp only at hSw
          first | (go_simp; done) | (go_simp; with_reducible rfl)
        change wpAnyH _ _ _ _ _ _ _ (Act.put _ (some 30) _) _
        try simp only [Act.put, List.setIfInBounds_toArray, List.set_cons_zero, List.set_cons_succ]
        refine wpAnyH_done (by kernel_rfl) ?_ _
        all_goals
          have HB2 := Lib.hid (HB.out.trans (hw2.mono HB.out.size))
          go_wp2
          go_roundw
          case rel => exact ⟨k + 1, by omega, by go_num, fun j hj => by
            by_cases e : j = k
            · subst e; rw [HGD.out]; exact HAT.out
            · exact HNO.out j (by omega), HB2.out⟩
          case measure => simp [intOf]; omega
      | true =>
        rw [ha] at HA
        cases hv : ev s.mem ⟨N, l⟩ with
        | true =>
          rw [hv] at HEV
          have HAT : Hid ((!(allL s.mem xs && !ev s.mem ⟨N, l⟩)) = true) := by show _ = _; rw [hv]; simp
          clear ha hv
          go_wp2_with fail
          refine wp_region_held_drew (S := (fun w' => w'.cell? ⟨w.heap.size, 0, none⟩ = some (.int .i64 N) ∧ w'.cell? ⟨w.heap.size, 1, none⟩ = some (.slice a l.length cap) ∧ w'.cell? ⟨g, k * 2, none⟩ = some (.int .u64 (s.a : Int)) ∧ w'.cell? ⟨g, k * 2 + 1, none⟩ = some (.int .u64 (s.b : Int)) ∧ Below wr.heap.size wr w')) (by kernel_rfl) ?_ (fun hHeld => ?_)
          · try dsimp only
            exact HKS.out _ (Below.refl _ _).drew
          refine wpAnyH_take (i := 0) (v := ?_) rfl (by kernel_rfl) (by kernel_rfl) (by kernel_rfl) (fun _ _ _ h => h) (Or.inl ⟨by rfl, ?_⟩) (by assumption) ?_
          rotate_left
          · intro w hSw
            try dsimp only at hSw
            first | (go_simp; done) | (go_simp; with_reducible rfl)
          change wpAnyH _ _ _ _ _ _ _ (Act.put _ (some 16) _) _
          try simp only [Act.put, List.setIfInBounds_toArray, List.set_cons_zero, List.set_cons_succ]
          refine wpAnyH_take (i := 1) (v := ?_) rfl (by kernel_rfl) (by kernel_rfl) (by kernel_rfl) (fun _ _ _ h => h) (Or.inl ⟨by rfl, ?_⟩) (by assumption) ?_
          rotate_left
          · intro w hSw
            try dsimp only at hSw
            first | (go_simp; done) | (go_simp; with_reducible rfl)
          change wpAnyH _ _ _ _ _ _ _ (Act.put _ (some 17) _) _
          try simp only [Act.put, List.setIfInBounds_toArray, List.set_cons_zero, List.set_cons_succ]
          refine wpAnyH_take (i := 2) (v := ?_) rfl (by kernel_rfl) (by kernel_rfl) (by kernel_rfl) (fun _ _ _ h => h) (Or.inl ⟨by rfl, ?_⟩) (by assumption) ?_
          rotate_left
          · intro w hSw
            try dsimp only at hSw
            first | (go_simp; done) | (go_simp; with_reducible rfl)
          change wpAnyH _ _ _ _ _ _ _ (Act.put _ (some 18) _) _
          try simp only [Act.put, List.setIfInBounds_toArray, List.set_cons_zero, List.set_cons_succ]
          refine wpAnyH_take (i := 3) (v := ?_) rfl (by kernel_rfl) (by kernel_rfl) (by kernel_rfl) (fun _ _ _ h => h) (Or.inl ⟨by rfl, ?_⟩) (by assumption) ?_
          rotate_left
          · intro w hSw
            try dsimp only at hSw
            first | (go_simp; done) | (go_simp; with_reducible rfl)
          change wpAnyH _ _ _ _ _ _ _ (Act.put _ (some 19) _) _
          try simp only [Act.put, List.setIfInBounds_toArray, List.set_cons_zero, List.set_cons_succ]
          refine wpAnyH_take (i := 4) (v := ?_) rfl (by kernel_rfl) (by kernel_rfl) (by kernel_rfl) (fun _ _ _ h => h) (Or.inl ⟨by rfl, ?_⟩) (by assumption) ?_
          rotate_left
          · intro w hSw
            try dsimp only at hSw
            first | (go_simp; done) | (go_simp; with_reducible rfl)
          change wpAnyH _ _ _ _ _ _ _ (Act.put _ (some 20) _) _
          try simp only [Act.put, List.setIfInBounds_toArray, List.set_cons_zero, List.set_cons_succ]
          refine wpAnyH_ready (rs := [5]) (by kernel_rfl) (by simp) ?_
          refine AllReadyH.cons rfl (fun K hK => ?_) AllReadyH.nil
          go_simp
          go_at_call 57
          refine (HA.out _ (last5' (by assumption))).mono ?_
          rintro e w2 ⟨rfl, hb2⟩
          have hw2 : Below wr.heap.size wr w2 := Below.trans (last5' (by assumption)) (hb2.mono (Below.size (B := wr.heap.size) (w := wr) (last5' (by assumption))))
          go_wp2_with fail
          refine hK.out _ _ ?_ (fun hHeld => ?_)
          · try dsimp only
            exact HKS.out _ hw2
          clear hK K
          try simp only [Act.put, List.setIfInBounds_toArray, List.set_cons_zero, List.set_cons_succ]
          refine wpAnyH_take (i := 6) (v := ?_) rfl (by kernel_rfl) (by kernel_rfl) (by kernel_rfl) (fun _ _ _ h => h) (Or.inl ⟨by rfl, ?_⟩) (by assumption) ?_
          rotate_left
          · intro w hSw
            try dsimp only at hSw
            first | (go_simp; done) | (go_simp; with_reducible rfl)
          change wpAnyH _ _ _ _ _ _ _ (Act.put _ (some 22) _) _
          try simp only [Act.put, List.setIfInBounds_toArray, List.set_cons_zero, List.set_cons_succ]
          refine wpAnyH_take (i := 7) (v := ?_) rfl (by kernel_rfl) (by kernel_rfl) (by kernel_rfl) (fun _ _ _ h => h) (Or.inl ⟨by rfl, ?_⟩) (by assumption) ?_
          rotate_left
          · intro w hSw
            try dsimp only at hSw
            first | (go_simp; done) | (go_simp; with_reducible rfl)
          change wpAnyH _ _ _ _ _ _ _ (Act.put _ (some 23) _) _
          try simp only [Act.put, List.setIfInBounds_toArray, List.set_cons_zero, List.set_cons_succ]
          refine wpAnyH_take (i := 8) (v := ?_) rfl (by kernel_rfl) (by kernel_rfl) (by kernel_rfl) (fun _ _ _ h => h) (Or.inl ⟨by rfl, ?_⟩) (by assumption) ?_
          rotate_left
          · intro w hSw
            try dsimp only at hSw
            first | (go_simp; done) | (go_simp; with_reducible rfl)
          change wpAnyH _ _ _ _ _ _ _ (Act.put _ (some 24) _) _
          try simp only [Act.put, List.setIfInBounds_toArray, List.set_cons_zero, List.set_cons_succ]
          refine wpAnyH_take (i := 9) (v := ?_) rfl (by kernel_rfl) (by kernel_rfl) (by kernel_rfl) (fun _ _ _ h => h) (Or.inl ⟨by rfl, ?_⟩) (by assumption) ?_
          rotate_left
          · intro w hSw
            try dsimp only at hSw
            first | (go_simp; done) | (go_simp; with_reducible rfl)
          change wpAnyH _ _ _ _ _ _ _ (Act.put _ (some 25) _) _
          try simp only [Act.put, List.setIfInBounds_toArray, List.set_cons_zero, List.set_cons_succ]
          refine wpAnyH_take (i := 10) (v := ?_) rfl (by kernel_rfl) (by kernel_rfl) (by kernel_rfl) (fun _ _ _ h => h) (Or.inl ⟨by rfl, ?_⟩) (by assumption) ?_
          rotate_left
          · intro w hSw
            try dsimp only at hSw
            first | (go_simp; done) | (go_simp; with_reducible rfl)
          change wpAnyH _ _ _ _ _ _ _ (Act.put _ (some 26) _) _
          try simp only [Act.put, List.setIfInBounds_toArray, List.set_cons_zero, List.set_cons_succ]
          refine wpAnyH_take (i := 11) (v := ?_) rfl (by kernel_rfl) (by kernel_rfl) (by kernel_rfl) (fun _ _ _ h => h) (Or.inl ⟨by rfl, ?_⟩) (by assumption) ?_
          rotate_left
          · intro w hSw
            try dsimp only at hSw
            first | (go_simp; done) | (go_simp; with_reducible rfl)
          change wpAnyH _ _ _ _ _ _ _ (Act.put _ (some 27) _) _
          try simp only [Act.put, List.setIfInBounds_toArray, List.set_cons_zero, List.set_cons_succ]
          refine wpAnyH_ready (rs := [12]) (by kernel_rfl) (by simp) ?_
          refine AllReadyH.cons rfl (fun K hK => ?_) AllReadyH.nil
          go_simp
          go_at_call 58
          refine (HEV.out _ (last5' (by assumption))).mono ?_
          rintro e w3 ⟨rfl, hb3⟩
          have hw3 : Below wr.heap.size wr w3 := Below.trans (last5' (by assumption)) (hb3.mono (Below.size (B := wr.heap.size) (w := wr) (last5' (by assumption))))
          go_wp2_with fail
          refine hK.out _ _ ?_ (fun hHeld => ?_)
          · try dsimp only
            exact HKS.out _ hw3
          clear hK K
          try simp only [Act.put, List.setIfInBounds_toArray, List.set_cons_zero, List.set_cons_succ]
          refine wpAnyH_take (i := 13) (v := ?_) rfl (by kernel_rfl) (by kernel_rfl) (by kernel_rfl) (fun _ _ _ h => h) (Or.inl ⟨by rfl, ?_⟩) (by assumption) ?_
          rotate_left
          · intro w hSw
            try dsimp only at hSw
            first | (go_simp; done) | (go_simp; with_reducible rfl)
          change wpAnyH _ _ _ _ _ _ _ (Act.put _ (some 29) _) _
          try simp only [Act.put, List.setIfInBounds_toArray, List.set_cons_zero, List.set_cons_succ]
          refine wpAnyH_take (i := 14) (v := ?_) rfl (by kernel_rfl) (by kernel_rfl) (by kernel_rfl) (fun _ _ _ h => h) (Or.inl ⟨by rfl, ?_⟩) (by assumption) ?_
          rotate_left
          · intro w hSw
            try dsimp only at hSw
            first | (go_simp; done) | (go_simp; with_reducible rfl)
          change wpAnyH _ _ _ _ _ _ _ (Act.put _ (some 30) _) _
          try simp only [Act.put, List.setIfInBounds_toArray, List.set_cons_zero, List.set_cons_succ]
          refine wpAnyH_done (by kernel_rfl) ?_ _
          all_goals
            have HB2 := Lib.hid (HB.out.trans (hw3.mono HB.out.size))
            go_wp2
            go_roundw
            case rel => exact ⟨k + 1, by omega, by go_num, fun j hj => by
              by_cases e : j = k
              · subst e; rw [HGD.out]; exact HAT.out
              · exact HNO.out j (by omega), HB2.out⟩
            case measure => simp [intOf]; omega
        | false =>
          rw [hv] at HEV
          have HR : Hid (impRef N l xs = false) := by
            show _ = _; rw [HE.out]
            exact all_false (p := fun s : St => !(allL s.mem xs && !ev s.mem ⟨N, l⟩)) hlt (by rw [HGD.out, ha, hv]; rfl)
          clear ha hv
          go_wp2_with fail
          refine wp_region_held_drew (S := (fun w' => w'.cell? ⟨w.heap.size, 0, none⟩ = some (.int .i64 N) ∧ w'.cell? ⟨w.heap.size, 1, none⟩ = some (.slice a l.length cap) ∧ w'.cell? ⟨g, k * 2, none⟩ = some (.int .u64 (s.a : Int)) ∧ w'.cell? ⟨g, k * 2 + 1, none⟩ = some (.int .u64 (s.b : Int)) ∧ Below wr.heap.size wr w')) (by kernel_rfl) ?_ (fun hHeld => ?_)
          · try dsimp only
            exact HKS.out _ (Below.refl _ _).drew
          refine wpAnyH_take (i := 0) (v := ?_) rfl (by kernel_rfl) (by kernel_rfl) (by kernel_rfl) (fun _ _ _ h => h) (Or.inl ⟨by rfl, ?_⟩) (by assumption) ?_
          rotate_left
          · intro w hSw
            try dsimp only at hSw
            first | (go_simp; done) | (go_simp; with_reducible rfl)
          change wpAnyH _ _ _ _ _ _ _ (Act.put _ (some 16) _) _
          try simp only [Act.put, List.setIfInBounds_toArray, List.set_cons_zero, List.set_cons_succ]
          refine wpAnyH_take (i := 1) (v := ?_) rfl (by kernel_rfl) (by kernel_rfl) (by kernel_rfl) (fun _ _ _ h => h) (Or.inl ⟨by rfl, ?_⟩) (by assumption) ?_
          rotate_left
          · intro w hSw
            try dsimp only at hSw
            first | (go_simp; done) | (go_simp; with_reducible rfl)
          change wpAnyH _ _ _ _ _ _ _ (Act.put _ (some 17) _) _
          try simp only [Act.put, List.setIfInBounds_toArray, List.set_cons_zero, List.set_cons_succ]
          refine wpAnyH_take (i := 2) (v := ?_) rfl (by kernel_rfl) (by kernel_rfl) (by kernel_rfl) (fun _ _ _ h => h) (Or.inl ⟨by rfl, ?_⟩) (by assumption) ?_
          rotate_left
          · intro w hSw
            try dsimp only at hSw
            first | (go_simp; done) | (go_simp; with_reducible rfl)
          change wpAnyH _ _ _ _ _ _ _ (Act.put _ (some 18) _) _
          try simp only [Act.put, List.setIfInBounds_toArray, List.set_cons_zero, List.set_cons_succ]
          refine wpAnyH_take (i := 3) (v := ?_) rfl (by kernel_rfl) (by kernel_rfl) (by kernel_rfl) (fun _ _ _ h => h) (Or.inl ⟨by rfl, ?_⟩) (by assumption) ?_
          rotate_left
          · intro w hSw
            try dsimp only at hSw
            first | (go_simp; done) | (go_simp; with_reducible rfl)
          change wpAnyH _ _ _ _ _ _ _ (Act.put _ (some 19) _) _
          try simp only [Act.put, List.setIfInBounds_toArray, List.set_cons_zero, List.set_cons_succ]
          refine wpAnyH_take (i := 4) (v := ?_) rfl (by kernel_rfl) (by kernel_rfl) (by kernel_rfl) (fun _ _ _ h => h) (Or.inl ⟨by rfl, ?_⟩) (by assumption) ?_
          rotate_left
          · intro w hSw
            try dsimp only at hSw
            first | (go_simp; done) | (go_simp; with_reducible rfl)
          change wpAnyH _ _ _ _ _ _ _ (Act.put _ (some 20) _) _
          try simp only [Act.put, List.setIfInBounds_toArray, List.set_cons_zero, List.set_cons_succ]
          refine wpAnyH_ready (rs := [5]) (by kernel_rfl) (by simp) ?_
          refine AllReadyH.cons rfl (fun K hK => ?_) AllReadyH.nil
          go_simp
          go_at_call 57
          refine (HA.out _ (last5' (by assumption))).mono ?_
          rintro e w2 ⟨rfl, hb2⟩
          have hw2 : Below wr.heap.size wr w2 := Below.trans (last5' (by assumption)) (hb2.mono (Below.size (B := wr.heap.size) (w := wr) (last5' (by assumption))))
          go_wp2_with fail
          refine hK.out _ _ ?_ (fun hHeld => ?_)
          · try dsimp only
            exact HKS.out _ hw2
          clear hK K
          try simp only [Act.put, List.setIfInBounds_toArray, List.set_cons_zero, List.set_cons_succ]
          refine wpAnyH_take (i := 6) (v := ?_) rfl (by kernel_rfl) (by kernel_rfl) (by kernel_rfl) (fun _ _ _ h => h) (Or.inl ⟨by rfl, ?_⟩) (by assumption) ?_
          rotate_left
          · intro w hSw
            try dsimp only at hSw
            first | (go_simp; done) | (go_simp; with_reducible rfl)
          change wpAnyH _ _ _ _ _ _ _ (Act.put _ (some 22) _) _
          try simp only [Act.put, List.setIfInBounds_toArray, List.set_cons_zero, List.set_cons_succ]
          refine wpAnyH_take (i := 7) (v := ?_) rfl (by kernel_rfl) (by kernel_rfl) (by kernel_rfl) (fun _ _ _ h => h) (Or.inl ⟨by rfl, ?_⟩) (by assumption) ?_
          rotate_left
          · intro w hSw
            try dsimp only at hSw
            first | (go_simp; done) | (go_simp; with_reducible rfl)
          change wpAnyH _ _ _ _ _ _ _ (Act.put _ (some 23) _) _
          try simp only [Act.put, List.setIfInBounds_toArray, List.set_cons_zero, List.set_cons_succ]
          refine wpAnyH_take (i := 8) (v := ?_) rfl (by kernel_rfl) (by kernel_rfl) (by kernel_rfl) (fun _ _ _ h => h) (Or.inl ⟨by rfl, ?_⟩) (by assumption) ?_
          rotate_left
          · intro w hSw
            try dsimp only at hSw
            first | (go_simp; done) | (go_simp; with_reducible rfl)
          change wpAnyH _ _ _ _ _ _ _ (Act.put _ (some 24) _) _
          try simp only [Act.put, List.setIfInBounds_toArray, List.set_cons_zero, List.set_cons_succ]
          refine wpAnyH_take (i := 9) (v := ?_) rfl (by kernel_rfl) (by kernel_rfl) (by kernel_rfl) (fun _ _ _ h => h) (Or.inl ⟨by rfl, ?_⟩) (by assumption) ?_
          rotate_left
          · intro w hSw
            try dsimp only at hSw
            first | (go_simp; done) | (go_simp; with_reducible rfl)
          change wpAnyH _ _ _ _ _ _ _ (Act.put _ (some 25) _) _
          try simp only [Act.put, List.setIfInBounds_toArray, List.set_cons_zero, List.set_cons_succ]
          refine wpAnyH_take (i := 10) (v := ?_) rfl (by kernel_rfl) (by kernel_rfl) (by kernel_rfl) (fun _ _ _ h => h) (Or.inl ⟨by rfl, ?_⟩) (by assumption) ?_
          rotate_left
          · intro w hSw
            try dsimp only at hSw
            first | (go_simp; done) | (go_simp; with_reducible rfl)
          change wpAnyH _ _ _ _ _ _ _ (Act.put _ (some 26) _) _
          try simp only [Act.put, List.setIfInBounds_toArray, List.set_cons_zero, List.set_cons_succ]
          refine wpAnyH_take (i := 11) (v := ?_) rfl (by kernel_rfl) (by kernel_rfl) (by kernel_rfl) (fun _ _ _ h => h) (Or.inl ⟨by rfl, ?_⟩) (by assumption) ?_
          rotate_left
          · intro w hSw
            try dsimp only at hSw
            first | (go_simp; done) | (go_simp; with_reducible rfl)
          change wpAnyH _ _ _ _ _ _ _ (Act.put _ (some 27) _) _
          try simp only [Act.put, List.setIfInBounds_toArray, List.set_cons_zero, List.set_cons_succ]
          refine wpAnyH_ready (rs := [12]) (by kernel_rfl) (by simp) ?_
          refine AllReadyH.cons rfl (fun K hK => ?_) AllReadyH.nil
          go_simp
          go_at_call 58
          refine (HEV.out _ (last5' (by assumption))).mono ?_
          rintro e w3 ⟨rfl, hb3⟩
          have hw3 : Below wr.heap.size wr w3 := Below.trans (last5' (by assumption)) (hb3.mono (Below.size (B := wr.heap.size) (w := wr) (last5' (by assumption))))
          go_wp2_with fail
          refine hK.out _ _ ?_ (fun hHeld => ?_)
          · try dsimp only
            exact HKS.out _ hw3
          clear hK K
          try simp only [Act.put, List.setIfInBounds_toArray, List.set_cons_zero, List.set_cons_succ]
          refine wpAnyH_take (i := 13) (v := ?_) rfl (by kernel_rfl) (by kernel_rfl) (by kernel_rfl) (fun _ _ _ h => h) (Or.inl ⟨by rfl, ?_⟩) (by assumption) ?_
          rotate_left
          · intro w hSw
            try dsimp only at hSw
            first | (go_simp; done) | (go_simp; with_reducible rfl)
          change wpAnyH _ _ _ _ _ _ _ (Act.put _ (some 29) _) _
          try simp only [Act.put, List.setIfInBounds_toArray, List.set_cons_zero, List.set_cons_succ]
          refine wpAnyH_take (i := 14) (v := ?_) rfl (by kernel_rfl) (by kernel_rfl) (by kernel_rfl) (fun _ _ _ h => h) (Or.inl ⟨by rfl, ?_⟩) (by assumption) ?_
          rotate_left
          · intro w hSw
            try dsimp only at hSw
            first | (go_simp; done) | (go_simp; with_reducible rfl)
          change wpAnyH _ _ _ _ _ _ _ (Act.put _ (some 30) _) _
          try simp only [Act.put, List.setIfInBounds_toArray, List.set_cons_zero, List.set_cons_succ]
          refine wpAnyH_done (by kernel_rfl) ?_ _
          all_goals
            have HB2 := Lib.hid (HBA.out.trans (hw3.mono HBA.out.size))
            go_wp2
            go_ret
            exact ⟨ret_bool HR.out.symm, HB2.out⟩
    · have : k = M.length := by omega
      subst this
      have HR : Hid (impRef N l xs = true) := by
        show _ = _; rw [HE.out]
        exact all_true (p := fun s : St => !(allL s.mem xs && !ev s.mem ⟨N, l⟩)) HNO.out
      go_wp2
      go_ret
      exact ⟨ret_bool HR.out.symm, HBA.out⟩
end Go.Proofs.YtfdonhfhcomjaaaGreatDoor
