/- Part of the proofs that laws of censuslaw38 return true for every input, where the tables that the rows list are laid. Texts: R21V. -/
import Derived.Test.YtkaojolofaanfaaGreatDoorZA22
import Derived.Deep.RegionHeld3

/- The walk of censusref21's Vars. -/
namespace Go.Proofs.YtkaojolofaanfaaGreatDoor
open Go.RowKit Cen
set_option maxHeartbeats 4000000
set_option maxRecDepth 100000
theorem litVar_zero : litVar 0 = 0 := rfl
theorem ofL_zero : ofL [0] = St.zero := rfl
theorem max_lit {l : Int} (h : litVar l ≠ 0) : max l (-l) = litVar l := by rcases litVar_ne h with h | h <;> omega
theorem vars21_any (n : Int) (a : Option Addr) (cap : Nat) (l : List Nd) (w : World) (hok : netOk ⟨n, l⟩ = true) (hx : NdCells w a l) :
    Calls Tryz.prog 117 #[.agg #[.int .i64 n, .slice a l.length cap]] w fun e w' => ∃ g, e = .returned (.slice (some ⟨g, 0, none⟩) l.length l.length) ∧ OwnSets w' w.heap.size (.slice (some ⟨g, 0, none⟩) l.length l.length) (varsL l) ∧ Below w.heap.size w w' := by
  have HB0 := Lib.hid ((Below.refl w.heap.size w).alloc (Nat.le_refl _) (.cells #[.int .i64 n, .slice a l.length cap] 24))
  have q0 := Lib.hid (Blk.new w #[.int .i64 n, .slice a l.length cap] 24)
  have HX := Lib.hid hx
  have HK := Lib.hid hok
  have hl2 : l.length ≤ 65536 := (netOk_head hok).2.2.2
  have HM1 : Hid (l.length ≤ maxLen) := by show _ ≤ _; unfold maxLen; omega
  clear hx hok
  go_enter Tryz.func117, Tryz.ntmps117
  go_wp2_with (at_make; refine mk elemSet rfl _ _ rfl (w.heap.size + 1) .i64 .i64 _ _ l.length rfl rfl rfl rfl (by omega) HM1.out (by simp) stc St.zero rfl ?_)
  intro w2 hown2 hgrow2
  have HZ1 : Hid ((w.alloc (.cells #[.int .i64 n, .slice a l.length cap] 24)).heap.size = w.heap.size + 1) := by show _ = _; simp
  have HO2 := Lib.hid hown2
  have HB2 : Hid (Below (w.heap.size + 1) (w.alloc (.cells #[.int .i64 n, .slice a l.length cap] 24)) w2) := (Below.refl _ _).grown hgrow2 (by rw [HZ1.out]; exact Nat.le_refl _) (by simp)
  clear hown2 hgrow2
  have HBA2 : Hid (Below w.heap.size w w2) := HB0.out.trans (HB2.out.mono (by omega))
  have R2 := Lib.hid (q0.out.laterB HB2.out (by omega))
  have k0 : w2.cell? ⟨w.heap.size, 0, none⟩ = some (.int .i64 n) := R2.out.cell 0
  have k1 : w2.cell? ⟨w.heap.size, 1, none⟩ = some (.slice a l.length cap) := R2.out.cell 1
  go_wp2
  clear k0 k1
  go_loopw [4] (fun i wr => ∃ k : Nat, k ≤ l.length ∧ i = .int .i64 k ∧ OwnSets wr (w.heap.size + 1) (.slice (some ⟨w.heap.size + 1, 0, none⟩) l.length l.length) (varsL (l.take k) ++ List.replicate (l.length - k) St.zero) ∧ Below (w.heap.size + 1) w2 wr) (fun i _ => l.length - (intOf i).toNat)
  case atStart => exact ⟨0, Nat.zero_le _, rfl, by simpa [varsL, varsAcc] using HO2.out, Below.refl _ _⟩
  case round =>
    obtain ⟨k, hk, rfl, hown, hb⟩ := hrel
    have HO := Lib.hid hown
    have HB := Lib.hid hb
    have R := Lib.hid (R2.out.laterB hb (by omega))
    have HBA := Lib.hid (HBA2.out.trans (hb.mono (by omega)))
    have k1 : wr.cell? ⟨w.heap.size, 1, none⟩ = some (.slice a l.length cap) := R.out.cell 1
    have hzw : w.heap.size < wr.heap.size := R.out.lt
    have hgz : w.heap.size + 1 < wr.heap.size := hown.lt.1
    clear hown hb
    by_cases hlt : k < l.length
    · obtain ⟨b, off, rfl, c0', c1', av, cv, c2', hin, hil⟩ := HX.out k hlt
      have hgd : l.getD k default = l[k] := by simp [List.getD_eq_getElem?_getD, hlt]
      have hnk := netOk_nd HK.out hlt
      rw [hgd] at c0' c1' c2' hin hil
      simp only at hnk
      have HVL : Hid (k = (varsL (l.take k)).length) := by show _ = _; rw [varsL_length, List.length_take]; omega
      have HVO := Lib.hid (varsL_ok (l.take k))
      have hrep : List.replicate (l.length - k) St.zero = St.zero :: List.replicate (l.length - k - 1) St.zero := by rw [← List.replicate_succ]; congr 1; omega
      have HVS : Hid (varsL (l.take (k + 1)) = varsL (l.take k) ++ [insU (varsL (l.take k)) (ofL [litVar l[k].lit]) l[k].ins]) := by
        show _ = _; rw [List.take_succ_eq_append_getElem hlt, varsL_snoc]
      have HN : Hid (∀ c : St, l.length = (varsL (l.take k) ++ c :: List.replicate (l.length - k - 1) St.zero).length) := fun c => by simp [varsL_length]; omega
      have ho3 := HO.out
      rw [hrep] at ho3
      clear hrep
      generalize varsL (l.take k) = vs at *
      generalize hzs : List.replicate (l.length - k - 1) St.zero = zs at *
      have HREP := Lib.hid hzs
      clear hzs
      generalize l[k] = x at *
      have HO3 := Lib.hid ho3
      have hbw : b < w.heap.size := cell_block c0'
      have c0 := HBA.out.cell (p := ⟨b, off + k * 3, none⟩) hbw
      have c1 := HBA.out.cell (p := ⟨b, off + k * 3 + 1, none⟩) hbw
      have c2 := HBA.out.cell (p := ⟨b, off + k * 3 + 2, none⟩) hbw
      rw [c0'] at c0
      rw [c1'] at c1
      rw [c2'] at c2
      have HIN := Lib.hid hin
      have HINS := Lib.hid (ndOk_ins hnk)
      have hbz : b < wr.heap.size := cell_block c0
      have hkl : (k : Int) < (l.length : Int) := by omega
      have hk0 : (0 : Int) ≤ (k : Int) := by omega
      by_cases h2 : x.kind = 2
      · have hb2 : (x.kind == 2) = true := by simpa using h2
        have hl := ndOk_lit hnk h2
        have hv := litVar_bd x.lit
        have hi0 : x.ins = [] := Classical.byContradiction fun hne => by have := ins_kind hnk hne; omega
        have m0 : wr.cell? ⟨w.heap.size + 1, k * 2, none⟩ = some (.int .u64 ((St.zero).a : Int)) := ho3.mid HVL.out (HN.out _) stc_len 0 (by omega)
        have m1 : wr.cell? ⟨w.heap.size + 1, k * 2 + 1, none⟩ = some (.int .u64 ((St.zero).b : Int)) := ho3.mid HVL.out (HN.out _) stc_len 1 (by omega)
        have hlr := litVar_ne hl.1
        have hmax := max_lit hl.1
        have hlo : -128 ≤ x.lit := by omega
        have hhi : x.lit ≤ 128 := by omega
        have hwn : IntKind.i64.wrap (-x.lit) = -x.lit := IntWalk.i64_in _ (by omega)
        have HWI := Lib.hid (fun V => with21_any St.zero (litVar x.lit) V St.zero_ok (by omega) (by omega))
        have HKS : Hid (∀ w' : World, Kp (fun y => y = w.heap.size + 1) wr w' → w'.cell? ⟨w.heap.size, 1, none⟩ = some (.slice (some ⟨b, off, none⟩) l.length cap) ∧ w'.cell? ⟨b, off + k * 3 + 1, none⟩ = some (.int .i64 x.lit)) := Lib.hid fun w' hk => ⟨hk.cell k1 (by dsimp only; omega), hk.cell c1 (by dsimp only; omega)⟩
        have HMX := Lib.hid hmax
        have HI0 := Lib.hid hi0
        clear h2 hl hv hlr hin hnk ho3 c0' c1' c2' hgd hi0
        go_wp2_with fail
        refine wp_region_held_drew (S := (fun w' => w'.cell? ⟨w.heap.size, 1, none⟩ = some (.slice (some ⟨b, off, none⟩) l.length cap) ∧ w'.cell? ⟨b, off + k * 3 + 1, none⟩ = some (.int .i64 x.lit))) (by kernel_rfl) ?_ (fun hHeld => ?_)
        · try dsimp only
          exact HKS.out _ (Kp.below (Below.refl _ _).drew)
        refine wpAnyH_take (i := 0) (v := ?_) rfl (by kernel_rfl) (by kernel_rfl) (by kernel_rfl) (fun _ _ _ h => h) (Or.inl ⟨by rfl, ?_⟩) (by assumption) ?_
        rotate_left
        · intro w hSw
          try dsimp only at hSw
          first | (go_simp; done) | (go_simp; with_reducible rfl)
        change wpAnyH _ _ _ _ _ _ _ (Act.put _ (some 24) _) _
        try simp only [Act.put, List.setIfInBounds_toArray, List.set_cons_zero, List.set_cons_succ]
        refine wpAnyH_take (i := 1) (v := ?_) rfl (by kernel_rfl) (by kernel_rfl) (by kernel_rfl) (fun _ _ _ h => h) (Or.inl ⟨by rfl, ?_⟩) (by assumption) ?_
        rotate_left
        · intro w hSw
          try dsimp only at hSw
          first | (go_simp; done) | (go_simp; with_reducible rfl)
        change wpAnyH _ _ _ _ _ _ _ (Act.put _ (some 25) _) _
        try simp only [Act.put, List.setIfInBounds_toArray, List.set_cons_zero, List.set_cons_succ]
        refine wpAnyH_take (i := 2) (v := ?_) rfl (by kernel_rfl) (by kernel_rfl) (by kernel_rfl) (fun _ _ _ h => h) (Or.inl ⟨by rfl, ?_⟩) (by assumption) ?_
        rotate_left
        · intro w hSw
          try dsimp only at hSw
          first | (go_simp; done) | (go_simp; with_reducible rfl)
        change wpAnyH _ _ _ _ _ _ _ (Act.put _ (some 26) _) _
        try simp only [Act.put, List.setIfInBounds_toArray, List.set_cons_zero, List.set_cons_succ]
        refine wpAnyH_take (i := 3) (v := ?_) rfl (by kernel_rfl) (by kernel_rfl) (by kernel_rfl) (fun _ _ _ h => h) (Or.inl ⟨by rfl, ?_⟩) (by assumption) ?_
        rotate_left
        · intro w hSw
          try dsimp only at hSw
          first | (go_simp; done) | (go_simp; with_reducible rfl)
        change wpAnyH _ _ _ _ _ _ _ (Act.put _ (some 27) _) _
        try simp only [Act.put, List.setIfInBounds_toArray, List.set_cons_zero, List.set_cons_succ]
        refine wpAnyH_take (i := 4) (v := ?_) rfl (by kernel_rfl) (by kernel_rfl) (by kernel_rfl) (fun _ _ _ h => h) (Or.inl ⟨by rfl, ?_⟩) (by assumption) ?_
        rotate_left
        · intro w hSw
          try dsimp only at hSw
          first | (go_simp; done) | (go_simp; with_reducible rfl)
        change wpAnyH _ _ _ _ _ _ _ (Act.put _ (some 28) _) _
        try simp only [Act.put, List.setIfInBounds_toArray, List.set_cons_zero, List.set_cons_succ]
        refine wpAnyH_take (i := 6) (v := ?_) rfl (by kernel_rfl) (by kernel_rfl) (by kernel_rfl) (fun _ _ _ h => h) (Or.inl ⟨by rfl, ?_⟩) (by assumption) ?_
        rotate_left
        · intro w hSw
          try dsimp only at hSw
          first | (go_simp; done) | (go_simp; with_reducible rfl)
        change wpAnyH _ _ _ _ _ _ _ (Act.put _ (some 30) _) _
        try simp only [Act.put, List.setIfInBounds_toArray, List.set_cons_zero, List.set_cons_succ]
        refine wpAnyH_take (i := 7) (v := ?_) rfl (by kernel_rfl) (by kernel_rfl) (by kernel_rfl) (fun _ _ _ h => h) (Or.inl ⟨by rfl, ?_⟩) (by assumption) ?_
        rotate_left
        · intro w hSw
          try dsimp only at hSw
          first | (go_simp; done) | (go_simp; with_reducible rfl)
        change wpAnyH _ _ _ _ _ _ _ (Act.put _ (some 31) _) _
        try simp only [Act.put, List.setIfInBounds_toArray, List.set_cons_zero, List.set_cons_succ]
        refine wpAnyH_take (i := 8) (v := ?_) rfl (by kernel_rfl) (by kernel_rfl) (by kernel_rfl) (fun _ _ _ h => h) (Or.inl ⟨by rfl, ?_⟩) (by assumption) ?_
        rotate_left
        · intro w hSw
          try dsimp only at hSw
          first | (go_simp; done) | (go_simp; with_reducible rfl)
        change wpAnyH _ _ _ _ _ _ _ (Act.put _ (some 32) _) _
        try simp only [Act.put, List.setIfInBounds_toArray, List.set_cons_zero, List.set_cons_succ]
        refine wpAnyH_take (i := 9) (v := ?_) rfl (by kernel_rfl) (by kernel_rfl) (by kernel_rfl) (fun _ _ _ h => h) (Or.inl ⟨by rfl, ?_⟩) (by assumption) ?_
        rotate_left
        · intro w hSw
          try dsimp only at hSw
          first | (go_simp; done) | (go_simp; with_reducible rfl)
        change wpAnyH _ _ _ _ _ _ _ (Act.put _ (some 33) _) _
        try simp only [Act.put, List.setIfInBounds_toArray, List.set_cons_zero, List.set_cons_succ]
        refine wpAnyH_take (i := 10) (v := ?_) rfl (by kernel_rfl) (by kernel_rfl) (by kernel_rfl) (fun _ _ _ h => h) (Or.inl ⟨by rfl, ?_⟩) (by assumption) ?_
        rotate_left
        · intro w hSw
          try dsimp only at hSw
          first | (go_simp; done) | (go_simp; with_reducible rfl)
        change wpAnyH _ _ _ _ _ _ _ (Act.put _ (some 34) _) _
        try simp only [Act.put, List.setIfInBounds_toArray, List.set_cons_zero, List.set_cons_succ]
        refine wpAnyH_take (i := 11) (v := ?_) rfl (by kernel_rfl) (by kernel_rfl) (by kernel_rfl) (fun _ _ _ h => h) (Or.inl ⟨by rfl, ?_⟩) (by assumption) ?_
        rotate_left
        · intro w hSw
          try dsimp only at hSw
          first | (go_simp; done) | (go_simp; with_reducible rfl)
        change wpAnyH _ _ _ _ _ _ _ (Act.put _ (some 35) _) _
        try simp only [Act.put, List.setIfInBounds_toArray, List.set_cons_zero, List.set_cons_succ]
        refine wpAnyH_take (i := 12) (v := ?_) rfl (by kernel_rfl) (by kernel_rfl) (by kernel_rfl) (fun _ _ _ h => h) (Or.inl ⟨by rfl, ?_⟩) (by assumption) ?_
        rotate_left
        · intro w hSw
          try dsimp only at hSw
          first | (go_simp; done) | (go_simp; with_reducible rfl)
        change wpAnyH _ _ _ _ _ _ _ (Act.put _ (some 36) _) _
        try simp only [Act.put, List.setIfInBounds_toArray, List.set_cons_zero, List.set_cons_succ]
        refine wpAnyH_take (i := 13) (v := ?_) rfl (by kernel_rfl) (by kernel_rfl) (by kernel_rfl) (fun _ _ _ h => h) (Or.inl ⟨by rfl, ?_⟩) (by assumption) ?_
        rotate_left
        · intro w hSw
          try dsimp only at hSw
          first | (go_simp; done) | (go_simp; with_reducible rfl)
        change wpAnyH _ _ _ _ _ _ _ (Act.put _ (some 37) _) _
        try simp only [Act.put, List.setIfInBounds_toArray, List.set_cons_zero, List.set_cons_succ]
        refine wpAnyH_take (i := 14) (v := ?_) rfl (by kernel_rfl) (by kernel_rfl) (by kernel_rfl) (fun _ _ _ h => h) (Or.inl ⟨by rfl, ?_⟩) (by assumption) ?_
        rotate_left
        · intro w hSw
          try dsimp only at hSw
          first | (go_simp; done) | (go_simp; with_reducible rfl)
        change wpAnyH _ _ _ _ _ _ _ (Act.put _ (some 38) _) _
        try simp only [Act.put, List.setIfInBounds_toArray, List.set_cons_zero, List.set_cons_succ]
        refine wpAnyH_take (i := 15) (v := ?_) rfl (by kernel_rfl) (by kernel_rfl) (by kernel_rfl) (fun _ _ _ h => h) (Or.inl ⟨by rfl, ?_⟩) (by assumption) ?_
        rotate_left
        · intro w hSw
          try dsimp only at hSw
          first | (go_simp; done) | (go_simp; with_reducible rfl)
        change wpAnyH _ _ _ _ _ _ _ (Act.put _ (some 39) _) _
        try simp only [Act.put, List.setIfInBounds_toArray, List.set_cons_zero, List.set_cons_succ]
        refine wpAnyH_take (i := 16) (v := ?_) rfl (by kernel_rfl) (by kernel_rfl) (by kernel_rfl) (fun _ _ _ h => h) (Or.inl ⟨by rfl, ?_⟩) (by assumption) ?_
        rotate_left
        · intro w hSw
          try dsimp only at hSw
          first | (go_simp; done) | (go_simp; with_reducible rfl)
        change wpAnyH _ _ _ _ _ _ _ (Act.put _ (some 40) _) _
        try simp only [Act.put, List.setIfInBounds_toArray, List.set_cons_zero, List.set_cons_succ]
        refine wpAnyH_take (i := 17) (v := ?_) rfl (by kernel_rfl) (by kernel_rfl) (by kernel_rfl) (fun _ _ _ h => h) (Or.inl ⟨by rfl, ?_⟩) (by assumption) ?_
        rotate_left
        · intro w hSw
          try dsimp only at hSw
          first | (go_simp; done) | (go_simp; with_reducible rfl)
        change wpAnyH _ _ _ _ _ _ _ (Act.put _ (some 41) _) _
        try simp only [Act.put, List.setIfInBounds_toArray, List.set_cons_zero, List.set_cons_succ]
        refine wpAnyH_take (i := 18) (v := ?_) rfl (by kernel_rfl) (by kernel_rfl) (by kernel_rfl) (fun _ _ _ h => h) (Or.inl ⟨by rfl, ?_⟩) (by assumption) ?_
        rotate_left
        · intro w hSw
          try dsimp only at hSw
          first | (go_simp; done) | (go_simp; with_reducible rfl)
        change wpAnyH _ _ _ _ _ _ _ (Act.put _ (some 42) _) _
        try simp only [Act.put, List.setIfInBounds_toArray, List.set_cons_zero, List.set_cons_succ]
        refine wpAnyH_take (i := 19) (v := ?_) rfl (by kernel_rfl) (by kernel_rfl) (by kernel_rfl) (fun _ _ _ h => h) (Or.inl ⟨by rfl, ?_⟩) (by assumption) ?_
        rotate_left
        · intro w hSw
          try dsimp only at hSw
          first | (go_simp; done) | (go_simp; with_reducible rfl)
        change wpAnyH _ _ _ _ _ _ _ (Act.put _ (some 43) _) _
        try simp only [Act.put, List.setIfInBounds_toArray, List.set_cons_zero, List.set_cons_succ]
        refine wpAnyH_ready (rs := [5]) (by kernel_rfl) (by simp) ?_
        refine AllReadyH.cons rfl (fun K hK => ?_) AllReadyH.nil
        go_simp
        refine hK.out _ _ ?_ (fun hHeld => ?_)
        · try dsimp only
          exact HKS.out _ (Kp.below (Below.refl _ _).drew)
        clear hK K
        try simp only [Act.put, List.setIfInBounds_toArray, List.set_cons_zero, List.set_cons_succ]
        refine wpAnyH_ready (rs := [20]) (by kernel_rfl) (by simp) ?_
        refine AllReadyH.cons rfl (fun K hK => ?_) AllReadyH.nil
        go_simp
        go_at_call 62
        refine (HWI.out _).mono ?_
        rintro e w5 ⟨rfl, hb5⟩
        have hw5 : Below wr.heap.size wr w5 := Below.trans (Below.refl _ _).drew hb5
        have ho5 := HO3.out.later hw5
        have z0 : w5.cell? ⟨w.heap.size + 1, k * 2, none⟩ = some (.int .u64 ((St.zero).a : Int)) := ho5.mid HVL.out (HN.out _) stc_len 0 (by omega)
        have z1 : w5.cell? ⟨w.heap.size + 1, k * 2 + 1, none⟩ = some (.int .u64 ((St.zero).b : Int)) := ho5.mid HVL.out (HN.out _) stc_len 1 (by omega)
        have z2 := ho5.fr (HN.out _) (k * 2)
        have z3 := ho5.fr (HN.out _) (k * 2 + 1)
        clear ho5
        go_wp2_with fail
        refine hK.out _ _ ?_ (fun hHeld => ?_)
        · try dsimp only
          exact HKS.out _ (Kp.below hw5)
        clear hK K
        try simp only [Act.put, List.setIfInBounds_toArray, List.set_cons_zero, List.set_cons_succ]
        refine wpAnyH_take (i := 21) (v := ?_) rfl (by kernel_rfl) (by kernel_rfl) (by kernel_rfl) (fun _ _ _ h => h) (Or.inl ⟨by rfl, ?_⟩) (by assumption) ?_
        rotate_left
        · intro w hSw
          try dsimp only at hSw
          first | (go_simp; done) | (go_simp; with_reducible rfl)
        change wpAnyH _ _ _ _ _ _ _ (Act.put _ (some 45) _) _
        try simp only [Act.put, List.setIfInBounds_toArray, List.set_cons_zero, List.set_cons_succ]
        refine wpAnyH_ready (rs := [22]) (by kernel_rfl) (by simp) ?_
        refine AllReadyH.cons rfl (fun K hK => ?_) AllReadyH.nil
        go_simp
        refine hK.out _ _ ?_ (fun hHeld => ?_)
        · try dsimp only
          exact HKS.out _ (Kp.trans (M := fun y => y = w.heap.size + 1) (Kp.trans (M := fun y => y = w.heap.size + 1) (Kp.below hw5) (Kp.setCell (M := fun y => y = w.heap.size + 1) _ _ _ rfl)) (Kp.setCell (M := fun y => y = w.heap.size + 1) _ _ _ rfl))
        clear hK K
        try simp only [Act.put, List.setIfInBounds_toArray, List.set_cons_zero, List.set_cons_succ]
        refine wpAnyH_done (by kernel_rfl) ?_ _
        all_goals
          have HO5 : Hid (OwnSets ((w5.setCell ⟨w.heap.size + 1, k * 2, none⟩ (.int .u64 ((St.zero.add (litVar x.lit)).a : Int))).setCell ⟨w.heap.size + 1, k * 2 + 1, none⟩ (.int .u64 ((St.zero.add (litVar x.lit)).b : Int))) (w.heap.size + 1) (.slice (some ⟨w.heap.size + 1, 0, none⟩) l.length l.length) (vs ++ St.zero.add (litVar x.lit) :: zs)) :=
            (HO3.out.later hw5).midput2 HVL.out (HN.out _) stc_len (St.zero.add (litVar x.lit)) _ _ rfl
          have HKP : Hid (Kp (fun y => y = w.heap.size + 1) wr ((w5.setCell ⟨w.heap.size + 1, k * 2, none⟩ (.int .u64 ((St.zero.add (litVar x.lit)).a : Int))).setCell ⟨w.heap.size + 1, k * 2 + 1, none⟩ (.int .u64 ((St.zero.add (litVar x.lit)).b : Int)))) :=
            (Kp.trans (M := fun y => y = w.heap.size + 1) (Kp.trans (M := fun y => y = w.heap.size + 1) (Kp.below hw5) (Kp.setCell (M := fun y => y = w.heap.size + 1) _ _ _ rfl)) (Kp.setCell (M := fun y => y = w.heap.size + 1) _ _ _ rfl))
          have HV2 : Hid (varsL (l.take (k + 1)) = vs ++ [St.zero.add (litVar x.lit)]) := by show _ = _; rw [HVS.out, HI0.out]; rfl
          generalize St.zero.add (litVar x.lit) = d at *
          have n1 : ((w5.setCell ⟨w.heap.size + 1, k * 2, none⟩ (.int .u64 (d.a : Int))).setCell ⟨w.heap.size + 1, k * 2 + 1, none⟩ (.int .u64 (d.b : Int))).cell? ⟨w.heap.size, 1, none⟩ = some (.slice (some ⟨b, off, none⟩) l.length cap) := HKP.out.cell k1 (by dsimp only; omega)
          have n2 : ((w5.setCell ⟨w.heap.size + 1, k * 2, none⟩ (.int .u64 (d.a : Int))).setCell ⟨w.heap.size + 1, k * 2 + 1, none⟩ (.int .u64 (d.b : Int))).cell? ⟨b, off + k * 3 + 2, none⟩ = some (.slice av x.ins.length cv) := HKP.out.cell c2 (by dsimp only; omega)
          have hil0 : x.ins.length = 0 := by rw [HI0.out]; rfl
          go_wp2_with fail
          generalize (w5.setCell ⟨w.heap.size + 1, k * 2, none⟩ (.int .u64 (d.a : Int))).setCell ⟨w.heap.size + 1, k * 2 + 1, none⟩ (.int .u64 (d.b : Int)) = V at *
          clear m0 m1 z0 z1 z2 z3
          go_loop [5] (fun i => i = .int .i64 0) (fun _ => 0)
          case atStart => rfl
          case round =>
            subst hrel
            go_wp2
            go_roundw
            case rel => exact ⟨k + 1, by omega, by go_num, by rw [show l.length - (k + 1) = l.length - k - 1 by omega, HREP.out, HV2.out, List.append_assoc]; exact HO5.out, HB.out.trans (HKP.out.toBelow (by omega) (by intro y hy h; omega))⟩
            case measure => simp [intOf]; omega
      · have hb2 : (x.kind == 2) = false := by simpa using h2
        have hlz : x.lit = 0 := by
          have h3 := hnk
          simp only [ndOk, Bool.and_eq_true] at h3
          have h4 := h3.2
          unfold formOk at h4
          have hk5 := formOk_kind hnk
          by_cases e0 : x.kind = 0 ∨ x.kind = 1
          · rw [if_pos e0] at h4; simp at h4; exact h4.1
          · rw [if_neg e0, if_neg h2, if_pos (by omega)] at h4; simpa using h4
        have HV2 : Hid (varsL (l.take (k + 1)) = vs ++ [insU vs St.zero x.ins]) := by show _ = _; rw [HVS.out, hlz]; rfl
        have hLL : k < vs.length + 1 := by have := HVL.out; omega
        clear h2 hin hnk ho3 c0' c1' c2' hgd hlz
        go_wp2_with fail
        obtain ⟨wo, rfl⟩ : ∃ wo : World, wo = wr := ⟨_, rfl⟩
        go_loopw [5] (fun i wi => ∃ m : Nat, m ≤ x.ins.length ∧ i = .int .i64 m ∧ OwnSets wi (w.heap.size + 1) (.slice (some ⟨w.heap.size + 1, 0, none⟩) l.length l.length) (vs ++ insU vs St.zero (x.ins.take m) :: zs) ∧ Kp (fun y => y = w.heap.size + 1) wo wi) (fun i _ => x.ins.length - (intOf i).toNat)
        case atStart => exact ⟨0, Nat.zero_le _, rfl, HO3.out, Kp.refl _ _⟩
        case round =>
          obtain ⟨wi, rfl⟩ : ∃ wi : World, wi = wr := ⟨_, rfl⟩
          obtain ⟨m, hm, rfl, hown, hkp⟩ := hrel
          have HKP := Lib.hid hkp
          have HOI := Lib.hid hown
          have p1 : wi.cell? ⟨w.heap.size, 1, none⟩ = some (.slice (some ⟨b, off, none⟩) l.length cap) := hkp.cell k1 (by dsimp only; omega)
          have p2 : wi.cell? ⟨b, off + k * 3 + 2, none⟩ = some (.slice av x.ins.length cv) := hkp.cell c2 (by dsimp only; omega)
          by_cases hlm : m < x.ins.length
          · obtain ⟨b2, off2, rfl, e0'⟩ := HIN.out m hlm
            have hgd2 : x.ins.getD m 0 = x.ins[m] := by simp [List.getD_eq_getElem?_getD, hlm]
            have hq := HINS.out x.ins[m] (List.getElem_mem hlm)
            have hins := insU_snoc vs St.zero (x.ins.take m) x.ins[m]
            rw [← List.take_succ_eq_append_getElem hlm] at hins
            rw [hgd2] at e0'
            generalize x.ins[m] = y at *
            obtain ⟨hq0, hq1⟩ := hq
            obtain ⟨q, rfl⟩ := Int.eq_ofNat_of_zero_le hq0
            have hqk : q < vs.length := by have := HVL.out; omega
            have hqd : vs.getD ((q : Int)).toNat St.zero = vs[q] := by simp [List.getD_eq_getElem?_getD, hqk]
            rw [hqd] at hins
            have hb2w : b2 < w.heap.size := cell_block e0'
            have e0 := cell_keep (w := w) (HBA.out) e0'
            have p3 : wi.cell? ⟨b2, off2 + m, none⟩ = some (.int .i64 (q : Int)) := hkp.cell e0 (by dsimp only; omega)
            have m0 : wi.cell? ⟨w.heap.size + 1, k * 2, none⟩ = some (.int .u64 ((insU vs St.zero (x.ins.take m)).a : Int)) := hown.mid HVL.out (HN.out _) stc_len 0 (by omega)
            have m1 : wi.cell? ⟨w.heap.size + 1, k * 2 + 1, none⟩ = some (.int .u64 ((insU vs St.zero (x.ins.take m)).b : Int)) := hown.mid HVL.out (HN.out _) stc_len 1 (by omega)
            have r0 : wi.cell? ⟨w.heap.size + 1, q * 2, none⟩ = some (.int .u64 (vs[q].a : Int)) := hown.left hqk (HN.out _) stc_len 0 (by omega)
            have r1 : wi.cell? ⟨w.heap.size + 1, q * 2 + 1, none⟩ = some (.int .u64 (vs[q].b : Int)) := hown.left hqk (HN.out _) stc_len 1 (by omega)
            have HTO : Hid (vs[q].ok) := HVO.out _ (List.getElem_mem hqk)
            have HCO2 : Hid ((insU vs St.zero (x.ins.take m)).ok) := insU_ok HVO.out _ St.zero_ok
            have HST := Lib.hid hins
            have hml : (m : Int) < (x.ins.length : Int) := by omega
            have hql : (q : Int) < (l.length : Int) := by omega
            have hm0 : (0 : Int) ≤ (m : Int) := by omega
            have hq00 : (0 : Int) ≤ (q : Int) := by omega
            have hbz2 : b2 < wi.heap.size := cell_block p3
            have hgz2 : w.heap.size + 1 < wi.heap.size := hown.lt.1
            generalize insU vs St.zero (x.ins.take m) = cur at *
            generalize vs[q] = tq at *
            have HUN := Lib.hid (fun V => union21_any cur tq V HCO2.out HTO.out)
            have HKS : Hid (∀ w' : World, Kp (fun y => y = w.heap.size + 1) wi w' → w'.cell? ⟨w.heap.size, 1, none⟩ = some (.slice (some ⟨b, off, none⟩) l.length cap) ∧ w'.cell? ⟨b, off + k * 3 + 2, none⟩ = some (.slice (some ⟨b2, off2, none⟩) x.ins.length cv) ∧ w'.cell? ⟨b2, off2 + m, none⟩ = some (.int .i64 (q : Int))) := Lib.hid fun w' hk => ⟨hk.cell p1 (by dsimp only; omega), hk.cell p2 (by dsimp only; omega), hk.cell p3 (by dsimp only; omega)⟩
            clear hown hkp hins hqd hgd2 e0' e0
            go_wp2_with fail
            refine wp_region_held_drew (S := (fun w' => w'.cell? ⟨w.heap.size, 1, none⟩ = some (.slice (some ⟨b, off, none⟩) l.length cap) ∧ w'.cell? ⟨b, off + k * 3 + 2, none⟩ = some (.slice (some ⟨b2, off2, none⟩) x.ins.length cv) ∧ w'.cell? ⟨b2, off2 + m, none⟩ = some (.int .i64 (q : Int)))) (by kernel_rfl) ?_ (fun hHeld => ?_)
            · try dsimp only
              exact HKS.out _ (Kp.below (Below.refl _ _).drew)
            refine wpAnyH_take (i := 0) (v := ?_) rfl (by kernel_rfl) (by kernel_rfl) (by kernel_rfl) (fun _ _ _ h => h) (Or.inl ⟨by rfl, ?_⟩) (by assumption) ?_
            rotate_left
            · intro w hSw
              try dsimp only at hSw
              first | (go_simp; done) | (go_simp; with_reducible rfl)
            change wpAnyH _ _ _ _ _ _ _ (Act.put _ (some 57) _) _
            try simp only [Act.put, List.setIfInBounds_toArray, List.set_cons_zero, List.set_cons_succ]
            refine wpAnyH_take (i := 1) (v := ?_) rfl (by kernel_rfl) (by kernel_rfl) (by kernel_rfl) (fun _ _ _ h => h) (Or.inl ⟨by rfl, ?_⟩) (by assumption) ?_
            rotate_left
            · intro w hSw
              try dsimp only at hSw
              first | (go_simp; done) | (go_simp; with_reducible rfl)
            change wpAnyH _ _ _ _ _ _ _ (Act.put _ (some 58) _) _
            try simp only [Act.put, List.setIfInBounds_toArray, List.set_cons_zero, List.set_cons_succ]
            refine wpAnyH_take (i := 2) (v := ?_) rfl (by kernel_rfl) (by kernel_rfl) (by kernel_rfl) (fun _ _ _ h => h) (Or.inl ⟨by rfl, ?_⟩) (by assumption) ?_
            rotate_left
            · intro w hSw
              try dsimp only at hSw
              first | (go_simp; done) | (go_simp; with_reducible rfl)
            change wpAnyH _ _ _ _ _ _ _ (Act.put _ (some 59) _) _
            try simp only [Act.put, List.setIfInBounds_toArray, List.set_cons_zero, List.set_cons_succ]
            refine wpAnyH_take (i := 3) (v := ?_) rfl (by kernel_rfl) (by kernel_rfl) (by kernel_rfl) (fun _ _ _ h => h) (Or.inl ⟨by rfl, ?_⟩) (by assumption) ?_
            rotate_left
            · intro w hSw
              try dsimp only at hSw
              first | (go_simp; done) | (go_simp; with_reducible rfl)
            change wpAnyH _ _ _ _ _ _ _ (Act.put _ (some 60) _) _
            try simp only [Act.put, List.setIfInBounds_toArray, List.set_cons_zero, List.set_cons_succ]
            refine wpAnyH_take (i := 4) (v := ?_) rfl (by kernel_rfl) (by kernel_rfl) (by kernel_rfl) (fun _ _ _ h => h) (Or.inl ⟨by rfl, ?_⟩) (by assumption) ?_
            rotate_left
            · intro w hSw
              try dsimp only at hSw
              first | (go_simp; done) | (go_simp; with_reducible rfl)
            change wpAnyH _ _ _ _ _ _ _ (Act.put _ (some 61) _) _
            try simp only [Act.put, List.setIfInBounds_toArray, List.set_cons_zero, List.set_cons_succ]
            refine wpAnyH_take (i := 6) (v := ?_) rfl (by kernel_rfl) (by kernel_rfl) (by kernel_rfl) (fun _ _ _ h => h) (Or.inl ⟨by rfl, ?_⟩) (by assumption) ?_
            rotate_left
            · intro w hSw
              try dsimp only at hSw
              first | (go_simp; done) | (go_simp; with_reducible rfl)
            change wpAnyH _ _ _ _ _ _ _ (Act.put _ (some 63) _) _
            try simp only [Act.put, List.setIfInBounds_toArray, List.set_cons_zero, List.set_cons_succ]
            refine wpAnyH_take (i := 7) (v := ?_) rfl (by kernel_rfl) (by kernel_rfl) (by kernel_rfl) (fun _ _ _ h => h) (Or.inl ⟨by rfl, ?_⟩) (by assumption) ?_
            rotate_left
            · intro w hSw
              try dsimp only at hSw
              first | (go_simp; done) | (go_simp; with_reducible rfl)
            change wpAnyH _ _ _ _ _ _ _ (Act.put _ (some 64) _) _
            try simp only [Act.put, List.setIfInBounds_toArray, List.set_cons_zero, List.set_cons_succ]
            refine wpAnyH_take (i := 8) (v := ?_) rfl (by kernel_rfl) (by kernel_rfl) (by kernel_rfl) (fun _ _ _ h => h) (Or.inl ⟨by rfl, ?_⟩) (by assumption) ?_
            rotate_left
            · intro w hSw
              try dsimp only at hSw
              first | (go_simp; done) | (go_simp; with_reducible rfl)
            change wpAnyH _ _ _ _ _ _ _ (Act.put _ (some 65) _) _
            try simp only [Act.put, List.setIfInBounds_toArray, List.set_cons_zero, List.set_cons_succ]
            refine wpAnyH_take (i := 9) (v := ?_) rfl (by kernel_rfl) (by kernel_rfl) (by kernel_rfl) (fun _ _ _ h => h) (Or.inl ⟨by rfl, ?_⟩) (by assumption) ?_
            rotate_left
            · intro w hSw
              try dsimp only at hSw
              first | (go_simp; done) | (go_simp; with_reducible rfl)
            change wpAnyH _ _ _ _ _ _ _ (Act.put _ (some 66) _) _
            try simp only [Act.put, List.setIfInBounds_toArray, List.set_cons_zero, List.set_cons_succ]
            refine wpAnyH_take (i := 10) (v := ?_) rfl (by kernel_rfl) (by kernel_rfl) (by kernel_rfl) (fun _ _ _ h => h) (Or.inl ⟨by rfl, ?_⟩) (by assumption) ?_
            rotate_left
            · intro w hSw
              try dsimp only at hSw
              first | (go_simp; done) | (go_simp; with_reducible rfl)
            change wpAnyH _ _ _ _ _ _ _ (Act.put _ (some 67) _) _
            try simp only [Act.put, List.setIfInBounds_toArray, List.set_cons_zero, List.set_cons_succ]
            refine wpAnyH_take (i := 11) (v := ?_) rfl (by kernel_rfl) (by kernel_rfl) (by kernel_rfl) (fun _ _ _ h => h) (Or.inl ⟨by rfl, ?_⟩) (by assumption) ?_
            rotate_left
            · intro w hSw
              try dsimp only at hSw
              first | (go_simp; done) | (go_simp; with_reducible rfl)
            change wpAnyH _ _ _ _ _ _ _ (Act.put _ (some 68) _) _
            try simp only [Act.put, List.setIfInBounds_toArray, List.set_cons_zero, List.set_cons_succ]
            refine wpAnyH_take (i := 12) (v := ?_) rfl (by kernel_rfl) (by kernel_rfl) (by kernel_rfl) (fun _ _ _ h => h) (Or.inl ⟨by rfl, ?_⟩) (by assumption) ?_
            rotate_left
            · intro w hSw
              try dsimp only at hSw
              first | (go_simp; done) | (go_simp; with_reducible rfl)
            change wpAnyH _ _ _ _ _ _ _ (Act.put _ (some 69) _) _
            try simp only [Act.put, List.setIfInBounds_toArray, List.set_cons_zero, List.set_cons_succ]
            refine wpAnyH_take (i := 13) (v := ?_) rfl (by kernel_rfl) (by kernel_rfl) (by kernel_rfl) (fun _ _ _ h => h) (Or.inl ⟨by rfl, ?_⟩) (by assumption) ?_
            rotate_left
            · intro w hSw
              try dsimp only at hSw
              first | (go_simp; done) | (go_simp; with_reducible rfl)
            change wpAnyH _ _ _ _ _ _ _ (Act.put _ (some 70) _) _
            try simp only [Act.put, List.setIfInBounds_toArray, List.set_cons_zero, List.set_cons_succ]
            refine wpAnyH_take (i := 14) (v := ?_) rfl (by kernel_rfl) (by kernel_rfl) (by kernel_rfl) (fun _ _ _ h => h) (Or.inl ⟨by rfl, ?_⟩) (by assumption) ?_
            rotate_left
            · intro w hSw
              try dsimp only at hSw
              first | (go_simp; done) | (go_simp; with_reducible rfl)
            change wpAnyH _ _ _ _ _ _ _ (Act.put _ (some 71) _) _
            try simp only [Act.put, List.setIfInBounds_toArray, List.set_cons_zero, List.set_cons_succ]
            refine wpAnyH_take (i := 15) (v := ?_) rfl (by kernel_rfl) (by kernel_rfl) (by kernel_rfl) (fun _ _ _ h => h) (Or.inl ⟨by rfl, ?_⟩) (by assumption) ?_
            rotate_left
            · intro w hSw
              try dsimp only at hSw
              first | (go_simp; done) | (go_simp; with_reducible rfl)
            change wpAnyH _ _ _ _ _ _ _ (Act.put _ (some 72) _) _
            try simp only [Act.put, List.setIfInBounds_toArray, List.set_cons_zero, List.set_cons_succ]
            refine wpAnyH_take (i := 16) (v := ?_) rfl (by kernel_rfl) (by kernel_rfl) (by kernel_rfl) (fun _ _ _ h => h) (Or.inl ⟨by rfl, ?_⟩) (by assumption) ?_
            rotate_left
            · intro w hSw
              try dsimp only at hSw
              first | (go_simp; done) | (go_simp; with_reducible rfl)
            change wpAnyH _ _ _ _ _ _ _ (Act.put _ (some 73) _) _
            try simp only [Act.put, List.setIfInBounds_toArray, List.set_cons_zero, List.set_cons_succ]
            refine wpAnyH_ready (rs := [5, 17]) (by kernel_rfl) (by simp) ?_
            refine AllReadyH.cons rfl (fun K hK => ?_) (AllReadyH.cons rfl (fun K hK => ?_) AllReadyH.nil)
            go_simp
            refine hK.out _ _ ?_ (fun hHeld => ?_)
            · try dsimp only
              exact HKS.out _ (Kp.below (Below.refl _ _).drew)
            clear hK K
            try simp only [Act.put, List.setIfInBounds_toArray, List.set_cons_zero, List.set_cons_succ]
            refine wpAnyH_ready (rs := [17]) (by kernel_rfl) (by simp) ?_
            refine AllReadyH.cons rfl (fun K hK => ?_) AllReadyH.nil
            go_simp
            refine hK.out _ _ ?_ (fun hHeld => ?_)
            · try dsimp only
              exact HKS.out _ (Kp.below (Below.refl _ _).drew)
            clear hK K
            try simp only [Act.put, List.setIfInBounds_toArray, List.set_cons_zero, List.set_cons_succ]
            rotate_left
            go_simp
            refine hK.out _ _ ?_ (fun hHeld => ?_)
            · try dsimp only
              exact HKS.out _ (Kp.below (Below.refl _ _).drew)
            clear hK K
            try simp only [Act.put, List.setIfInBounds_toArray, List.set_cons_zero, List.set_cons_succ]
            refine wpAnyH_ready (rs := [5]) (by kernel_rfl) (by simp) ?_
            refine AllReadyH.cons rfl (fun K hK => ?_) AllReadyH.nil
            go_simp
            refine hK.out _ _ ?_ (fun hHeld => ?_)
            · try dsimp only
              exact HKS.out _ (Kp.below (Below.refl _ _).drew)
            clear hK K
            try simp only [Act.put, List.setIfInBounds_toArray, List.set_cons_zero, List.set_cons_succ]
            all_goals
              refine wpAnyH_ready (rs := [18]) (by kernel_rfl) (by simp) ?_
              refine AllReadyH.cons rfl (fun K hK => ?_) AllReadyH.nil
              go_simp
              go_at_call 123
              refine (HUN.out _).mono ?_
              rintro e w5 ⟨rfl, hb5⟩
              have hw5 : Below wi.heap.size wi w5 := Below.trans (Below.refl _ _).drew hb5
              have ho5 := HOI.out.later hw5
              have z0 : w5.cell? ⟨w.heap.size + 1, k * 2, none⟩ = some (.int .u64 (cur.a : Int)) := ho5.mid HVL.out (HN.out _) stc_len 0 (by omega)
              have z1 : w5.cell? ⟨w.heap.size + 1, k * 2 + 1, none⟩ = some (.int .u64 (cur.b : Int)) := ho5.mid HVL.out (HN.out _) stc_len 1 (by omega)
              have z2 := ho5.fr (HN.out _) (k * 2)
              have z3 := ho5.fr (HN.out _) (k * 2 + 1)
              clear ho5
              go_wp2_with fail
              refine hK.out _ _ ?_ (fun hHeld => ?_)
              · try dsimp only
                exact HKS.out _ (Kp.below hw5)
              clear hK K
              try simp only [Act.put, List.setIfInBounds_toArray, List.set_cons_zero, List.set_cons_succ]
              refine wpAnyH_take (i := 19) (v := ?_) rfl (by kernel_rfl) (by kernel_rfl) (by kernel_rfl) (fun _ _ _ h => h) (Or.inl ⟨by rfl, ?_⟩) (by assumption) ?_
              rotate_left
              · intro w hSw
                try dsimp only at hSw
                first | (go_simp; done) | (go_simp; with_reducible rfl)
              change wpAnyH _ _ _ _ _ _ _ (Act.put _ (some 76) _) _
              try simp only [Act.put, List.setIfInBounds_toArray, List.set_cons_zero, List.set_cons_succ]
              refine wpAnyH_ready (rs := [20]) (by kernel_rfl) (by simp) ?_
              refine AllReadyH.cons rfl (fun K hK => ?_) AllReadyH.nil
              go_simp
              refine hK.out _ _ ?_ (fun hHeld => ?_)
              · try dsimp only
                exact HKS.out _ (Kp.trans (M := fun y => y = w.heap.size + 1) (Kp.trans (M := fun y => y = w.heap.size + 1) (Kp.below hw5) (Kp.setCell (M := fun y => y = w.heap.size + 1) _ _ _ rfl)) (Kp.setCell (M := fun y => y = w.heap.size + 1) _ _ _ rfl))
              clear hK K
              try simp only [Act.put, List.setIfInBounds_toArray, List.set_cons_zero, List.set_cons_succ]
              refine wpAnyH_done (by kernel_rfl) ?_ _
            all_goals
              have HO5 := Lib.hid ((HOI.out.later hw5).midput2 HVL.out (HN.out _) stc_len (cur.union tq) _ _ rfl)
              have HK5 := Lib.hid (((Kp.below (M := fun y => y = w.heap.size + 1) hw5).trans (Kp.setCell _ ⟨w.heap.size + 1, k * 2, none⟩ (.int .u64 ((cur.union tq).a : Int)) rfl)).trans (Kp.setCell _ ⟨w.heap.size + 1, k * 2 + 1, none⟩ (.int .u64 ((cur.union tq).b : Int)) rfl))
              clear z0 z1 z2 z3 m0 m1 r0 r1
              go_wp2
              go_roundw
              case rel => exact ⟨m + 1, by omega, by go_num, by rw [HST.out]; exact HO5.out, HKP.out.trans HK5.out⟩
              case measure => simp [intOf]; omega
          · have : m = x.ins.length := by omega
            subst this
            rw [List.take_length] at hown
            have HO5 := Lib.hid hown
            clear hown hkp
            go_wp2
            go_roundw
            case rel => exact ⟨k + 1, by omega, by go_num, by rw [show l.length - (k + 1) = l.length - k - 1 by omega, HREP.out, HV2.out, List.append_assoc]; exact HO5.out, HB.out.trans (HKP.out.toBelow (by omega) (by intro y hy h; omega))⟩
            case measure => simp [intOf]; omega
    · have : k = l.length := by omega
      subst this
      go_wp2
      go_ret
      refine ⟨_, rfl, ?_, HBA.out⟩
      have := HO.out
      simp only [Nat.sub_self, List.replicate_zero, List.append_nil, List.take_length] at this
      exact this.lower (by omega)
end Go.Proofs.YtkaojolofaanfaaGreatDoor
