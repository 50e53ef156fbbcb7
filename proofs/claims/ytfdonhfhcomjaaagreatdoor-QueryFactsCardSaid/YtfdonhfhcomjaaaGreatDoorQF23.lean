/- Part 23 of 25 of the proof that censuslaw38.QueryFacts returns true for every input, where the tables that the row lists are laid. Texts: R38, Law, Facts. -/
import Derived.Test.YtfdonhfhcomjaaaGreatDoorQF22
import Derived.Test.YtfdonhfhcomjaaaGreatDoorQF19
import Derived.Test.YtfdonhfhcomjaaaGreatDoorQF17
import Derived.Test.YtfdonhfhcomjaaaGreatDoorQF20

/- The walks of censusref38's Check, Consistent, Valid. -/
namespace Go.Proofs.YtfdonhfhcomjaaaGreatDoor
open Go.RowKit Cen
set_option maxHeartbeats 4000000
set_option maxRecDepth 100000
theorem rCheck_any (n : Int) (a : Option Addr) (cap : Nat) (l : List Nd) (b : Option Addr) (cap2 : Nat) (xs : List Int) (w : World) (hx : NdCells w a l) (hl : l.length ≤ 1073741824) (hxs : IntCells w b xs) (hxl : xs.length ≤ 1073741824) :
    Calls Tryz.prog 15 #[.agg #[.int .i64 n, .slice a l.length cap], .slice b xs.length cap2] w fun e w' => e = .returned (.int .i64 (chkR xs ⟨n, l⟩)) ∧ Below w.heap.size w w' := by
  have hb0 := (Below.refl w.heap.size w).alloc (Nat.le_refl _) (.cells #[.int .i64 n, .slice a l.length cap] 24)
  have HB0 := Lib.hid hb0
  have q0 := Lib.hid (Blk.new w #[.int .i64 n, .slice a l.length cap] 24)
  have HX := Lib.hid hx
  have HXS := Lib.hid hxs
  have HV := Lib.hid (rValid_any n a cap l _ hl (hx.keep hb0))
  clear hb0 hx hxs
  cases hok : netOk ⟨n, l⟩ with
  | false =>
    rw [hok] at HV
    have HR : Hid (chkR xs ⟨n, l⟩ = 1) := by show _ = _; unfold chkR; rw [if_pos hok]
    clear hok
    go_enter Tryz.func15, Tryz.ntmps15
    go_wp2_with fail
    refine HV.out.mono ?_
    rintro e w1 ⟨rfl, hb1⟩
    have HB1 := Lib.hid (HB0.out.trans (hb1.mono HB0.out.size))
    clear hb1
    go_wp2
    go_ret
    exact ⟨ret_int HR.out.symm, HB1.out⟩
  | true =>
    rw [hok] at HV
    have HOK := Lib.hid hok
    clear hok
    go_enter Tryz.func15, Tryz.ntmps15
    go_wp2_with fail
    refine HV.out.mono ?_
    rintro e w1 ⟨rfl, hb1⟩
    have HB1 := Lib.hid (HB0.out.trans (hb1.mono HB0.out.size))
    have R1 := Lib.hid (q0.out.later hb1)
    clear hb1
    go_wp2
    go_loopw [5] (fun i wr => ∃ k : Nat, k ≤ xs.length ∧ i = .int .i64 k ∧ (∀ j, j < k → litOk (xs.getD j 0) n = true) ∧ Below w1.heap.size w1 wr) (fun i _ => xs.length - (intOf i).toNat)
    case atStart => exact ⟨0, Nat.zero_le _, rfl, fun j h => absurd h (Nat.not_lt_zero _), Below.refl _ _⟩
    case round =>
      obtain ⟨k, hk, rfl, hno, hb⟩ := hrel
      have HN := Lib.hid hno
      have HB := Lib.hid hb
      have HBA := Lib.hid (HB1.out.trans (hb.mono HB1.out.size))
      have R := Lib.hid (R1.out.later hb)
      have k0 : wr.cell? ⟨w.heap.size, 0, none⟩ = some (.int .i64 n) := R.out.cell 0
      have k1 : wr.cell? ⟨w.heap.size, 1, none⟩ = some (.slice a l.length cap) := R.out.cell 1
      clear hno hb
      by_cases hlt : k < xs.length
      · obtain ⟨b2, off2, rfl, c0⟩ := (HXS.out.keep HBA.out) k hlt
        generalize hxd : xs.getD k 0 = x at *
        have HXD := Lib.hid hxd
        clear hxd
        have hki : (k : Int) < (xs.length : Int) := by omega
        have hk0 : (0 : Int) ≤ (k : Int) := by omega
        have HL := Lib.hid (fun V => rLitValid_any x n V)
        cases hlo : litOk x n with
        | true =>
          rw [hlo] at HL
          have HLO := Lib.hid hlo
          clear hlo
          go_wp2_with fail
          refine wp_region_still_tail 6 (by kernel_rfl) (by kernel_rfl) ?_
          simp only [List.take_succ_cons, List.take_zero, List.drop_succ_cons, List.drop_zero]
          change wpStill _ _ (World.drew _) _ _ _
          repeat still_step
          refine wpStill_nil ?_
          go_wp2_with fail
          refine (HL.out _).mono ?_
          rintro e w' ⟨rfl, rfl⟩
          go_wp2
          go_roundw
          case rel => exact ⟨k + 1, by omega, by go_num, fun j hj => by
            by_cases e : j = k
            · subst e; rw [HXD.out]; exact HLO.out
            · exact HN.out j (by omega), HB.out.drew⟩
          case measure => simp [intOf]; omega
        | false =>
          rw [hlo] at HL
          have HR : Hid (chkR xs ⟨n, l⟩ = 1) := by
            show _ = _; unfold chkR
            rw [if_neg (by rw [HOK.out]; simp), if_pos (all_false (p := fun x => litOk x n) hlt (by show litOk (xs.getD k 0) n = _; rw [HXD.out]; exact hlo))]
          clear hlo
          go_wp2_with fail
          refine wp_region_still_tail 6 (by kernel_rfl) (by kernel_rfl) ?_
          simp only [List.take_succ_cons, List.take_zero, List.drop_succ_cons, List.drop_zero]
          change wpStill _ _ (World.drew _) _ _ _
          repeat still_step
          refine wpStill_nil ?_
          go_wp2_with fail
          refine (HL.out _).mono ?_
          rintro e w' ⟨rfl, rfl⟩
          go_wp2
          go_ret
          exact ⟨ret_int HR.out.symm, HBA.out.drew⟩
      · have : k = xs.length := by omega
        subst this
        have HALL : Hid ((xs.all fun x => litOk x n) = true) := all_true HN.out
        have HD := Lib.hid (decomposable21_any n a cap l wr HOK.out (HX.out.keep HBA.out))
        cases hd : decL l with
        | false =>
          rw [hd] at HD
          have HR : Hid (chkR xs ⟨n, l⟩ = 210) := by
            show _ = _; unfold chkR; rw [if_neg (by rw [HOK.out]; simp), if_neg (by rw [HALL.out]; simp), if_pos hd]
          clear hd
          go_wp2_with fail
          refine HD.out.mono ?_
          rintro e w5 ⟨rfl, hb5⟩
          have HB5 := Lib.hid (HBA.out.trans (hb5.mono HBA.out.size))
          clear hb5
          go_wp2
          go_ret
          exact ⟨ret_int HR.out.symm, HB5.out⟩
        | true =>
          rw [hd] at HD
          have HR : Hid (chkR xs ⟨n, l⟩ = 0) := by
            show _ = _; unfold chkR; rw [if_neg (by rw [HOK.out]; simp), if_neg (by rw [HALL.out]; simp), if_neg (by rw [hd]; simp)]
          clear hd
          go_wp2_with fail
          refine HD.out.mono ?_
          rintro e w5 ⟨rfl, hb5⟩
          have HB5 := Lib.hid (HBA.out.trans (hb5.mono HBA.out.size))
          clear hb5
          go_wp2
          go_ret
          exact ⟨ret_int HR.out.symm, HB5.out⟩
theorem rConsistent_any (N : Nat) (a : Option Addr) (cap : Nat) (l : List Nd) (w : World) (hok : netOk ⟨N, l⟩ = true) (hN : N ≤ 16) (hx : NdCells w a l) :
    Calls Tryz.prog 16 #[.agg #[.int .i64 N, .slice a l.length cap]] w fun e w' => e = .returned (.bool (decide (0 < (modUp N l (2 ^ N)).length))) ∧ Below w.heap.size w w' := by
  have hb0 := (Below.refl w.heap.size w).alloc (Nat.le_refl _) (.cells #[.int .i64 N, .slice a l.length cap] 24)
  have HB0 := Lib.hid hb0
  have HM := Lib.hid (models_any N a cap l _ hok hN (hx.keep hb0))
  generalize modUp N l (2 ^ N) = ms at *
  clear hb0 hok hx
  go_enter Tryz.func16, Tryz.ntmps16
  go_wp2_with fail
  refine HM.out.mono ?_
  rintro e w1 ⟨v, rfl, ho, hb1⟩
  have HB1 := Lib.hid (HB0.out.trans (hb1.mono HB0.out.size))
  obtain ⟨ao, capv, rfl⟩ := ho.sliced
  clear hb1 ho
  go_wp2
  go_ret
  exact ⟨ret_bool (by simp), HB1.out⟩
theorem rValid38_any (N : Nat) (a : Option Addr) (cap : Nat) (l : List Nd) (w : World) (hok : netOk ⟨N, l⟩ = true) (hN : N ≤ 16) (hx : NdCells w a l) :
    Calls Tryz.prog 17 #[.agg #[.int .i64 N, .slice a l.length cap]] w fun e w' => e = .returned (.bool (decide ((modUp N l (2 ^ N)).length = 2 ^ N))) ∧ Below w.heap.size w w' := by
  have hb0 := (Below.refl w.heap.size w).alloc (Nat.le_refl _) (.cells #[.int .i64 N, .slice a l.length cap] 24)
  have HB0 := Lib.hid hb0
  have HM := Lib.hid (fun V h => models_any N a cap l V hok hN h)
  have HX := Lib.hid (hx.keep hb0)
  have q0 := Lib.hid (Blk.new w #[.int .i64 N, .slice a l.length cap] 24)
  have hsh : IntKind.i64.wrap ((2 : Int) ^ N) = ((2 ^ N : Nat) : Int) := by
    have hM : 2 ^ N ≤ 65536 := Nat.pow_le_pow_right (n := 2) (by omega) hN
    rw [show ((2 : Int) ^ N) = ((2 ^ N : Nat) : Int) from by norm_cast]
    generalize 2 ^ N = M at *
    exact IntWalk.i64_in ((M : Nat) : Int) (by omega)
  have HSH := Lib.hid hsh
  generalize modUp N l (2 ^ N) = ms at *
  clear hb0 hok hx hsh
  go_enter Tryz.func17, Tryz.ntmps17
  go_wp2_with fail
  generalize w.alloc (.cells #[.int .i64 N, .slice a l.length cap] 24) = W at *
  have k0 : W.cell? ⟨w.heap.size, 0, none⟩ = some (.int .i64 N) := q0.out.cell 0
  have k1 : W.cell? ⟨w.heap.size, 1, none⟩ = some (.slice a l.length cap) := q0.out.cell 1
  have HZ := Lib.hid HB0.out.size
  have HKS : Hid (∀ w' : World, Below W.heap.size W w' → w'.cell? ⟨w.heap.size, 0, none⟩ = some (.int .i64 N) ∧ w'.cell? ⟨w.heap.size, 1, none⟩ = some (.slice a l.length cap) ∧ Below W.heap.size W w') := Lib.hid fun w' hb => ⟨cell_keep hb k0, cell_keep hb k1, hb⟩
  have hNi : (N : Int) ≤ 16 := by omega
  have hN0 : (0 : Int) ≤ (N : Int) := by omega
  go_region_held3 (fun w' => w'.cell? ⟨w.heap.size, 0, none⟩ = some (.int .i64 N) ∧ w'.cell? ⟨w.heap.size, 1, none⟩ = some (.slice a l.length cap) ∧ Below W.heap.size W w')
    (first | exact HKS.out _ (by with_reducible exact hw1) | exact HKS.out _ (Below.refl _ _).drew | exact HKS.out _ ((fun {p q r : Prop} (h : p ∧ q ∧ r) => h.2.2) (by assumption)))
    (first
      | (go_at_call 51
         refine (HM.out _ (HX.out.keep (Below.refl _ _).drew)).mono ?_
         rintro e w1 ⟨v, rfl, ho, hb1⟩
         obtain ⟨ao, capv, rfl⟩ := ho.sliced
         have hw1 : Below W.heap.size W w1 := Below.trans (Below.refl _ _).drew hb1))
  all_goals
    have HFB := Lib.hid (HB0.out.trans (Below.mono (B := W.heap.size) hw1 HZ.out))
    go_wp2
    go_ret
    exact ⟨ret_bool (by rw [HSH.out, Bool.eq_iff_iff, beq_iff_eq, decide_eq_true_iff]; exact Int.ofNat_inj), HFB.out⟩
end Go.Proofs.YtfdonhfhcomjaaaGreatDoor

/- The walks of the law's own functions: or, one, works, light. -/
namespace Go.Proofs.YtfdonhfhcomjaaaGreatDoor
open Go.RowKit Cen
set_option maxHeartbeats 4000000
set_option maxRecDepth 100000
theorem or_any (w : World) : Calls Tryz.prog 44 #[] w fun e w' => ∃ g, e = .returned (.agg #[.int .i64 2, .slice (some ⟨g, 0, none⟩) 3 3]) ∧ NdCells w' (some ⟨g, 0, none⟩) orN ∧ Below w.heap.size w w' := by
  go_enter Tryz.func44, Tryz.ntmps44
  go_wp2
  have hb : Blk (((w.alloc (.cells #[.int .i64 2, .slice (some ⟨w.heap.size + 1 + 1, 0, none⟩) 3 3] 24)).alloc (.cells #[.int .i64 0, .int .i64 1] 3)).alloc (.cells #[.int .i64 2, .int .i64 1, .slice none 0 0, .int .i64 2, .int .i64 2, .slice none 0 0, .int .i64 4, .int .i64 0, .slice (some ⟨w.heap.size + 1, 0, none⟩) 2 2] 73)) (w.heap.size + 1 + 1) #[.int .i64 2, .int .i64 1, .slice none 0 0, .int .i64 2, .int .i64 2, .slice none 0 0, .int .i64 4, .int .i64 0, .slice (some ⟨w.heap.size + 1, 0, none⟩) 2 2] 73 := Blk.new' _ (by simp only [World.size_alloc]) _ _
  have hi : Blk (((w.alloc (.cells #[.int .i64 2, .slice (some ⟨w.heap.size + 1 + 1, 0, none⟩) 3 3] 24)).alloc (.cells #[.int .i64 0, .int .i64 1] 3)).alloc (.cells #[.int .i64 2, .int .i64 1, .slice none 0 0, .int .i64 2, .int .i64 2, .slice none 0 0, .int .i64 4, .int .i64 0, .slice (some ⟨w.heap.size + 1, 0, none⟩) 2 2] 73)) (w.heap.size + 1) #[.int .i64 0, .int .i64 1] 3 := (Blk.new' _ (by simp only [World.size_alloc]) _ _).alloc _
  refine bodyPost_ret (v := .agg #[.int .i64 2, .slice (some ⟨w.heap.size + 1 + 1, 0, none⟩) 3 3]) (by simp [results, Tryz.results44, go_sem]) rfl ⟨w.heap.size + 1 + 1, rfl, ?_, ((((Below.refl _ _).alloc (Nat.le_refl _) _).alloc (by simp only [World.size_alloc]; omega) _).alloc (by simp only [World.size_alloc]; omega) _)⟩
  intro i hlt
  have h3 : i = 0 ∨ i = 1 ∨ i = 2 := by simp [orN] at hlt; omega
  rcases h3 with rfl | rfl | rfl
  · exact ⟨_, _, rfl, hb.cell 0, hb.cell 1, none, 0, hb.cell 2, IntCells.nil _ _, by simp [orN]⟩
  · exact ⟨_, _, rfl, hb.cell 3, hb.cell 4, none, 0, hb.cell 5, IntCells.nil _ _, by simp [orN]⟩
  · refine ⟨_, _, rfl, hb.cell 6, hb.cell 7, some ⟨w.heap.size + 1, 0, none⟩, 2, hb.cell 8, ?_, by simp [orN]⟩
    intro j hj
    have h2 : j = 0 ∨ j = 1 := by simp [orN] at hj; omega
    rcases h2 with rfl | rfl
    · exact ⟨_, _, rfl, hi.cell 0⟩
    · exact ⟨_, _, rfl, hi.cell 1⟩
theorem one_any (w : World) : Calls Tryz.prog 45 #[] w fun e w' => ∃ g, e = .returned (.agg #[.int .i64 2, .slice (some ⟨g, 0, none⟩) 1 1]) ∧ NdCells w' (some ⟨g, 0, none⟩) oneN ∧ Below w.heap.size w w' := by
  go_enter Tryz.func45, Tryz.ntmps45
  go_wp2
  have hb : Blk ((w.alloc (.cells #[.int .i64 2, .slice (some ⟨w.heap.size + 1, 0, none⟩) 1 1] 24)).alloc (.cells #[.int .i64 2, .int .i64 1, .slice none 0 0] 73)) (w.heap.size + 1) #[.int .i64 2, .int .i64 1, .slice none 0 0] 73 := Blk.new' _ (by simp only [World.size_alloc]) _ _
  refine bodyPost_ret (v := .agg #[.int .i64 2, .slice (some ⟨w.heap.size + 1, 0, none⟩) 1 1]) (by simp [results, Tryz.results45, go_sem]) rfl ⟨w.heap.size + 1, rfl, ?_, (((Below.refl _ _).alloc (Nat.le_refl _) _).alloc (by simp only [World.size_alloc]; omega) _)⟩
  intro i hlt
  have h3 : i = 0 := by simpa [oneN] using hlt
  subst h3
  exact ⟨_, _, rfl, hb.cell 0, hb.cell 1, none, 0, hb.cell 2, IntCells.nil _ _, by simp [oneN]⟩
theorem cheap_cost {n : Int} (hn : n ≤ 20) (a b : List Nd) : costP n n.toNat a b ≤ 1000000000 := by
  have h := costP_le n n.toNat a b
  have h2 : 2 ^ n.toNat ≤ 2 ^ 20 := Nat.pow_le_pow_right (by omega) (by omega)
  omega
theorem eq_two (w : World) : (Op.equalIn 10000 38 (.agg #[.int .u64 2, .int .u64 0]) (.agg #[.int .u64 2, .int .u64 0])).run Tryz.prog w = .ok true w := by kernel_rfl
theorem works_any (w : World) (ht : Tab w) : Calls Tryz.prog 12 #[] w fun e w' => e = .returned (.bool true) ∧ Below w.heap.size w w' := by
  have HT := Lib.hid ht
  clear ht
  have hol : orN.length = 3 := rfl
  have hnl : oneN.length = 1 := rfl
  have HC : Hid (∀ (g : Nat) (V : World), Below w.heap.size w V → NdCells V (some ⟨g, 0, none⟩) orN → Calls Tryz.prog 13 #[.agg #[.int .i64 2, .slice (some ⟨g, 0, none⟩) 3 3]] V fun e w' => e = .returned (.tuple #[.bool true, .int .i64 0]) ∧ Below V.heap.size V w') := Lib.hid fun g V hb hx => by
    have h := consistent_any 2 (some ⟨g, 0, none⟩) 3 orN V hx (by decide) (fun _ => or_small) (HT.out.keep hb)
    rw [cons_or, chk_or] at h; exact h
  have HV : Hid (∀ (g : Nat) (V : World), Below w.heap.size w V → NdCells V (some ⟨g, 0, none⟩) orN → Calls Tryz.prog 14 #[.agg #[.int .i64 2, .slice (some ⟨g, 0, none⟩) 3 3]] V fun e w' => e = .returned (.tuple #[.bool false, .int .i64 0]) ∧ Below V.heap.size V w') := Lib.hid fun g V hb hx => by
    have h := valid_any 2 (some ⟨g, 0, none⟩) 3 orN V hx (by decide) (fun _ => or_small) (fun _ _ => cheap_cost (by decide) _ _) (HT.out.keep hb)
    rw [imp_or, chk_or] at h; exact h
  have HE : Hid (∀ (g c : Nat) (V : World), Below w.heap.size w V → NdCells V (some ⟨g, 0, none⟩) orN → IntCells V (some ⟨c, 0, none⟩) [1, 2] → Calls Tryz.prog 18 #[.agg #[.int .i64 2, .slice (some ⟨g, 0, none⟩) 3 3], .slice (some ⟨c, 0, none⟩) 2 2] V fun e w' => e = .returned (.tuple #[.bool true, .int .i64 0]) ∧ Below V.heap.size V w') := Lib.hid fun g c V hb hx hi => by
    have h := entails_any 2 (some ⟨g, 0, none⟩) 3 orN (some ⟨c, 0, none⟩) 2 [1, 2] V hx (by decide) hi (by decide) (fun _ => or_small) (HT.out.keep hb)
    rw [ent_or, chk_or12] at h; exact h
  have HI : Hid (∀ (g c : Nat) (V : World), Below w.heap.size w V → NdCells V (some ⟨g, 0, none⟩) orN → IntCells V (some ⟨c, 0, none⟩) [2] → Calls Tryz.prog 19 #[.agg #[.int .i64 2, .slice (some ⟨g, 0, none⟩) 3 3], .slice (some ⟨c, 0, none⟩) 1 1] V fun e w' => e = .returned (.tuple #[.bool true, .int .i64 0]) ∧ Below V.heap.size V w') := Lib.hid fun g c V hb hx hi => by
    have h := implies_any 2 (some ⟨g, 0, none⟩) 3 orN (some ⟨c, 0, none⟩) 1 [2] V hx (by decide) hi (by decide) (fun _ => or_small) (fun _ _ => cheap_cost (by decide) _ _) (HT.out.keep hb)
    rw [imp_or2, chk_or2] at h; exact h
  have HCN : Hid (∀ (g c : Nat) (V : World), Below w.heap.size w V → NdCells V (some ⟨g, 0, none⟩) orN → NdCells V (some ⟨c, 0, none⟩) oneN → Calls Tryz.prog 23 #[.agg #[.int .i64 2, .slice (some ⟨g, 0, none⟩) 3 3], .agg #[.int .i64 2, .slice (some ⟨c, 0, none⟩) 1 1]] V fun e w' => e = .returned (.tuple #[.agg #[.int .u64 2, .int .u64 0], .bool true, .int .i64 0]) ∧ Below V.heap.size V w') := Lib.hid fun g c V hb hx hy => by
    have h := counter2_any 2 2 (some ⟨g, 0, none⟩) (some ⟨c, 0, none⟩) 3 1 orN oneN V hx hy (by decide) (by decide) (fun _ => or_small) (fun _ => one_small) (fun _ => cheap_cost (by decide) _ _) (HT.out.keep hb)
    obtain ⟨m, h1, h2⟩ := cnt_or
    rw [h1, h2, chk_oo] at h; exact h
  have HCM : Hid (∀ (g c : Nat) (V : World), Below w.heap.size w V → NdCells V (some ⟨g, 0, none⟩) orN → NdCells V (some ⟨c, 0, none⟩) oneN → Calls Tryz.prog 23 #[.agg #[.int .i64 2, .slice (some ⟨c, 0, none⟩) 1 1], .agg #[.int .i64 2, .slice (some ⟨g, 0, none⟩) 3 3]] V fun e w' => e = .returned (.tuple #[.agg #[.int .u64 0, .int .u64 0], .bool false, .int .i64 0]) ∧ Below V.heap.size V w') := Lib.hid fun g c V hb hx hy => by
    have h := counter2_any 2 2 (some ⟨c, 0, none⟩) (some ⟨g, 0, none⟩) 1 3 oneN orN V hy hx (by decide) (by decide) (fun _ => one_small) (fun _ => or_small) (fun _ => cheap_cost (by decide) _ _) (HT.out.keep hb)
    rw [cnt_one, chk_oo'] at h; exact h
  clear hol hnl
  go_enter Tryz.func12, Tryz.ntmps12
  go_wp2_with fail
  refine (or_any _).mono ?_
  rintro e w1 ⟨g1, rfl, hx1, hb1⟩
  have B1 := Lib.hid hb1
  have X1 := Lib.hid hx1
  clear hb1 hx1
  go_wp2_with fail
  refine (HC.out g1 w1 B1.out X1.out).mono ?_
  rintro e w2 ⟨rfl, hb2⟩
  have B2 := Lib.hid (B1.out.trans (hb2.mono B1.out.size))
  clear hb2
  go_wp2_with fail
  refine (or_any _).mono ?_
  rintro e w3 ⟨g3, rfl, hx3, hb3⟩
  have B3 := Lib.hid (B2.out.trans (hb3.mono B2.out.size))
  have X3 := Lib.hid hx3
  clear hb3 hx3
  go_wp2_with fail
  refine (HV.out g3 w3 B3.out X3.out).mono ?_
  rintro e w4 ⟨rfl, hb4⟩
  have B4 := Lib.hid (B3.out.trans (hb4.mono B3.out.size))
  clear hb4
  go_wp2_with fail
  refine (or_any _).mono ?_
  rintro e w5 ⟨g5, rfl, hx5, hb5⟩
  have B5 := Lib.hid ((B4.out.trans (hb5.mono B4.out.size)).alloc (Nat.le_trans B4.out.size hb5.size) (.cells #[.int .i64 1, .int .i64 2] 3))
  have X5 := Lib.hid (hx5.keep ((Below.refl w5.heap.size w5).alloc (Nat.le_refl _) (.cells #[.int .i64 1, .int .i64 2] 3)))
  have I5 : Hid (IntCells (w5.alloc (.cells #[.int .i64 1, .int .i64 2] 3)) (some ⟨w5.heap.size, 0, none⟩) [1, 2]) := by
    have hk := Blk.new w5 #[.int .i64 1, .int .i64 2] 3
    intro j hj
    have h2 : j = 0 ∨ j = 1 := by simp at hj; omega
    rcases h2 with rfl | rfl
    · exact ⟨_, _, rfl, hk.cell 0⟩
    · exact ⟨_, _, rfl, hk.cell 1⟩
  clear hb5 hx5
  go_wp2_with fail
  refine (HE.out g5 w5.heap.size _ B5.out X5.out I5.out).mono ?_
  rintro e w6 ⟨rfl, hb6⟩
  have B6 := Lib.hid (B5.out.trans (hb6.mono B5.out.size))
  clear hb6
  go_wp2_with fail
  refine (or_any _).mono ?_
  rintro e w7 ⟨g7, rfl, hx7, hb7⟩
  have B7 := Lib.hid ((B6.out.trans (hb7.mono B6.out.size)).alloc (Nat.le_trans B6.out.size hb7.size) (.cells #[.int .i64 2] 3))
  have X7 := Lib.hid (hx7.keep ((Below.refl w7.heap.size w7).alloc (Nat.le_refl _) (.cells #[.int .i64 2] 3)))
  have I7 : Hid (IntCells (w7.alloc (.cells #[.int .i64 2] 3)) (some ⟨w7.heap.size, 0, none⟩) [2]) := by
    have hk := Blk.new w7 #[.int .i64 2] 3
    intro j hj
    have h2 : j = 0 := by simpa using hj
    subst h2
    exact ⟨_, _, rfl, hk.cell 0⟩
  clear hb7 hx7
  go_wp2_with fail
  refine (HI.out g7 w7.heap.size _ B7.out X7.out I7.out).mono ?_
  rintro e w8 ⟨rfl, hb8⟩
  have B8 := Lib.hid (B7.out.trans (hb8.mono B7.out.size))
  clear hb8
  go_wp2_with fail
  refine (or_any _).mono ?_
  rintro e w9 ⟨g9, rfl, hx9, hb9⟩
  have B9 := Lib.hid (B8.out.trans (hb9.mono B8.out.size))
  have X9 := Lib.hid hx9
  clear hb9 hx9
  go_wp2_with fail
  refine (one_any _).mono ?_
  rintro e w10 ⟨g10, rfl, hx10, hb10⟩
  have B10 := Lib.hid (B9.out.trans (hb10.mono B9.out.size))
  have X10 := Lib.hid hx10
  have X9' := Lib.hid (X9.out.keep hb10)
  clear hb10 hx10
  go_wp2_with fail
  refine (HCN.out g9 g10 w10 B10.out X9'.out X10.out).mono ?_
  rintro e w11 ⟨rfl, hb11⟩
  have B11 := Lib.hid ((B10.out.trans (hb11.mono B10.out.size)).alloc (Nat.le_trans B10.out.size hb11.size) (.cells #[.int .u64 2, .int .u64 0] 38))
  have K11 := Lib.hid (Blk.new w11 #[.int .u64 2, .int .u64 0] 38)
  clear hb11
  go_wp2_with fail
  refine (one_any _).mono ?_
  rintro e w12 ⟨g12, rfl, hx12, hb12⟩
  have B12 := Lib.hid (B11.out.trans (hb12.mono B11.out.size))
  have K12 := Lib.hid (K11.out.later hb12)
  have X12 := Lib.hid hx12
  clear hb12 hx12
  go_wp2_with fail
  refine (or_any _).mono ?_
  rintro e w13 ⟨g13, rfl, hx13, hb13⟩
  have B13 := Lib.hid (B12.out.trans (hb13.mono B12.out.size))
  have K13 := Lib.hid (K12.out.later hb13)
  have X13 := Lib.hid hx13
  have X12' := Lib.hid (X12.out.keep hb13)
  clear hb13 hx13
  go_wp2_with fail
  refine (HCM.out g13 g12 w13 B13.out X13.out X12'.out).mono ?_
  rintro e w14 ⟨rfl, hb14⟩
  have B14 := Lib.hid ((B13.out.trans (hb14.mono B13.out.size)).alloc (Nat.le_trans B13.out.size hb14.size) (.cells #[.int .u64 0, .int .u64 0] 38))
  have K14 := K13.out.later hb14
  have hz : w11.heap.size < w14.heap.size := K14.lt
  have j0 : w14.cell? ⟨w11.heap.size, 0, none⟩ = some (.int .u64 2) := K14.cell 0
  have j1 : w14.cell? ⟨w11.heap.size, 1, none⟩ = some (.int .u64 0) := K14.cell 1
  have heq := eq_two
  clear hb14 K14
  go_wp2
  go_ret
  exact ⟨rfl, B14.out⟩
end Go.Proofs.YtfdonhfhcomjaaaGreatDoor

/- The walks of light and of QueryFacts. -/
namespace Go.Proofs.YtfdonhfhcomjaaaGreatDoor
open Go.RowKit Cen
set_option maxHeartbeats 4000000
set_option maxRecDepth 100000
/-- Nodes that can be read, of whatever size. -/
def NdCells0 (w : World) (a : Option Addr) (l : List Nd) : Prop :=
  ∀ i, i < l.length → ∃ b off, a = some ⟨b, off, none⟩ ∧ w.cell? ⟨b, off + i * 3, none⟩ = some (.int .i64 (l.getD i default).kind) ∧ w.cell? ⟨b, off + i * 3 + 1, none⟩ = some (.int .i64 (l.getD i default).lit) ∧
    ∃ av cv, w.cell? ⟨b, off + i * 3 + 2, none⟩ = some (.slice av (l.getD i default).ins.length cv) ∧ IntCells w av (l.getD i default).ins ∧ (l.getD i default).ins.length ≤ 9223372036854775807
theorem NdCells0.up {w : World} {a : Option Addr} {l : List Nd} (h : NdCells0 w a l) (hs : ∀ x ∈ l, x.ins.length ≤ 1073741824) : NdCells w a l := by
  intro i hi
  obtain ⟨b, off, e, c0, c1, av, cv, c2, c3, _⟩ := h i hi
  have e2 : l.getD i default = l[i] := by simp [List.getD_eq_getElem?_getD, hi]
  exact ⟨b, off, e, c0, c1, av, cv, c2, c3, by rw [e2]; exact hs _ (List.getElem_mem hi)⟩
theorem NdCells0.keep {w w' : World} {a : Option Addr} {l : List Nd} (h : NdCells0 w a l) (hb : Below w.heap.size w w') : NdCells0 w' a l := by
  intro i hi
  obtain ⟨b, off, e, c0, c1, av, cv, c2, c3, c4⟩ := h i hi
  exact ⟨b, off, e, cell_keep hb c0, cell_keep hb c1, av, cv, cell_keep hb c2, c3.keep hb, c4⟩
def lightB (t : Nt) : Bool := decide (t.l.length ≤ 50) && ((t.l.all fun x => decide (x.ins.length ≤ 50)) && (decide (t.n ≤ 8) || !netOk t))
theorem lightB_ok {t : Nt} (h : lightB t = true) : t.l.length ≤ 50 ∧ (∀ x ∈ t.l, x.ins.length ≤ 50) ∧ (netOk t = true → t.n ≤ 8) := by
  unfold lightB at h
  simp only [Bool.and_eq_true, Bool.or_eq_true, decide_eq_true_eq, List.all_eq_true, Bool.not_eq_true'] at h
  refine ⟨h.1, h.2.1, fun ho => ?_⟩
  rcases h.2.2 with h3 | h3
  · exact h3
  · rw [ho] at h3; simp at h3
theorem light_any (n : Int) (a : Option Addr) (cap : Nat) (l : List Nd) (w : World) (hl : l.length ≤ 9223372036854775807) (hx : NdCells0 w a l) :
    Calls Tryz.prog 11 #[.agg #[.int .i64 n, .slice a l.length cap]] w fun e w' => e = .returned (.bool (lightB ⟨n, l⟩)) ∧ Below w.heap.size w w' := by
  have hb0 := (Below.refl w.heap.size w).alloc (Nat.le_refl _) (.cells #[.int .i64 n, .slice a l.length cap] 24)
  have HB0 := Lib.hid hb0
  have HX := Lib.hid (hx.keep hb0)
  have q0 := Lib.hid (Blk.new w #[.int .i64 n, .slice a l.length cap] 24)
  clear hb0 hx
  by_cases h1 : l.length ≤ 50
  · have d1 : decide ((50 : Int) < (l.length : Int)) = false := by simp; omega
    go_enter Tryz.func11, Tryz.ntmps11
    go_wp2
    generalize w.alloc (.cells #[.int .i64 n, .slice a l.length cap] 24) = W at *
    have k0 : W.cell? ⟨w.heap.size, 0, none⟩ = some (.int .i64 n) := q0.out.cell 0
    have k1 : W.cell? ⟨w.heap.size, 1, none⟩ = some (.slice a l.length cap) := q0.out.cell 1
    clear d1
    go_loop [3] (fun i => ∃ k : Nat, k ≤ l.length ∧ i = .int .i64 k ∧ ∀ j, j < k → decide ((l.getD j default).ins.length ≤ 50) = true) (fun i => l.length - (intOf i).toNat)
    case atStart => exact ⟨0, Nat.zero_le _, rfl, fun j h => absurd h (Nat.not_lt_zero _)⟩
    case round =>
      obtain ⟨k, hk, rfl, hno⟩ := hrel
      have HN := Lib.hid hno
      clear hno
      by_cases hlt : k < l.length
      · obtain ⟨b, off, rfl, _, _, av, cv, c2, _, hil⟩ := HX.out k hlt
        generalize hxd : l.getD k default = x at *
        have HXD := Lib.hid hxd
        clear hxd
        by_cases h50 : x.ins.length ≤ 50
        · have d2 : decide ((50 : Int) < (x.ins.length : Int)) = false := by simp; omega
          have H50 := Lib.hid h50
          clear h50
          go_wp2
          go_round
          case rel => exact ⟨k + 1, by omega, by go_num, fun j hj => by
            by_cases e : j = k
            · subst e; rw [HXD.out]; simpa using H50.out
            · exact HN.out j (by omega)⟩
          case measure => simp [intOf]; omega
        · have d2 : decide ((50 : Int) < (x.ins.length : Int)) = true := by simp; omega
          have HR : Hid (lightB ⟨n, l⟩ = false) := by
            show _ = _; unfold lightB
            rw [all_false (p := fun x : Nd => decide (x.ins.length ≤ 50)) hlt (by rw [HXD.out]; simpa using h50)]; simp
          clear h50
          go_wp2
          go_ret
          exact ⟨ret_bool HR.out.symm, HB0.out⟩
      · have : k = l.length := by omega
        subst this
        have HALL : Hid ((l.all fun x => decide (x.ins.length ≤ 50)) = true) := all_true HN.out
        have HXU := Lib.hid (HX.out.up fun x hx => by have := List.all_eq_true.1 HALL.out x hx; simp at this; omega)
        by_cases h8 : n ≤ 8
        · have d3 : decide (n ≤ 8) = true := by simpa using h8
          have HR : Hid (lightB ⟨n, l⟩ = true) := by
            show _ = _; unfold lightB; rw [decide_eq_true h1, HALL.out, d3]; rfl
          clear h8
          go_wp2
          go_ret
          exact ⟨ret_bool HR.out.symm, HB0.out⟩
        · have d3 : decide (n ≤ 8) = false := by simpa using h8
          have HR : Hid (lightB ⟨n, l⟩ = !netOk ⟨n, l⟩) := by
            show _ = _; unfold lightB; rw [decide_eq_true h1, HALL.out, d3]; rfl
          have HV := Lib.hid (rValid_any n a cap l W (by omega) HXU.out)
          clear h8
          go_wp2_with fail
          refine HV.out.mono ?_
          rintro e w1 ⟨rfl, hb1⟩
          have HB1 := Lib.hid (HB0.out.trans (hb1.mono HB0.out.size))
          clear hb1
          go_wp2
          go_ret
          exact ⟨ret_bool (by rw [HR.out]), HB1.out⟩
  · have d1 : decide ((50 : Int) < (l.length : Int)) = true := by simp; omega
    have HR : Hid (lightB ⟨n, l⟩ = false) := by show _ = _; unfold lightB; rw [decide_eq_false h1]; rfl
    clear h1
    go_enter Tryz.func11, Tryz.ntmps11
    go_wp2
    go_ret
    exact ⟨ret_bool HR.out.symm, HB0.out⟩
theorem small50 {l : List Nd} (h1 : l.length ≤ 50) (h2 : ∀ x ∈ l, x.ins.length ≤ 50) : Small l := ⟨by omega, fun x hx => by have := h2 x hx; omega⟩
theorem facts_any (n : Int) (a : Option Addr) (cap : Nat) (l : List Nd) (w : World) (hl : l.length ≤ 9223372036854775807) (hx : NdCells0 w a l) (ht : Tab w) :
    Calls Tryz.prog 3 #[.agg #[.int .i64 n, .slice a l.length cap]] w fun e w' => e = .returned (.bool true) ∧ Below w.heap.size w w' := by
  have hb0 := (Below.refl w.heap.size w).alloc (Nat.le_refl _) (.cells #[.int .i64 n, .slice a l.length cap] 24)
  have HB0 := Lib.hid hb0
  have HX := Lib.hid (hx.keep hb0)
  have q0 := Lib.hid (Blk.new w #[.int .i64 n, .slice a l.length cap] 24)
  have HLI := Lib.hid (light_any n a cap l _ hl (hx.keep hb0))
  have HT := Lib.hid ht
  have HW := Lib.hid (fun V (hb : Below w.heap.size w V) => works_any V (ht.keep hb))
  clear hb0 hx ht
  cases hli : lightB ⟨n, l⟩ with
  | false =>
    rw [hli] at HLI
    clear hli
    go_enter Tryz.func3, Tryz.ntmps3
    go_wp2_with fail
    refine HLI.out.mono ?_
    rintro e w1 ⟨rfl, hb1⟩
    have B1 := Lib.hid (HB0.out.trans (hb1.mono HB0.out.size))
    clear hb1
    go_wp2_with fail
    refine (HW.out w1 B1.out).mono ?_
    rintro e w2 ⟨rfl, hb2⟩
    have B2 := Lib.hid (B1.out.trans (hb2.mono B1.out.size))
    clear hb2
    go_wp2
    go_ret
    exact ⟨rfl, B2.out⟩
  | true =>
    rw [hli] at HLI
    obtain ⟨hl50, hi50, h8⟩ := lightB_ok hli
    simp only at hl50 hi50 h8
    have HXN := Lib.hid (HX.out.up fun x hx => by have := hi50 x hx; omega)
    have hl30 : l.length ≤ 1073741824 := by omega
    have HSM := Lib.hid (small50 hl50 hi50)
    have H8 := Lib.hid h8
    clear hli hl50 hi50 h8
    go_enter Tryz.func3, Tryz.ntmps3
    go_wp2_with fail
    refine HLI.out.mono ?_
    rintro e w1 ⟨rfl, hb1⟩
    have L1 := Lib.hid hb1
    have B1 := Lib.hid (HB0.out.trans (hb1.mono HB0.out.size))
    have Q1 := Lib.hid (q0.out.later hb1)
    have k0 : w1.cell? ⟨w.heap.size, 0, none⟩ = some (.int .i64 n) := Q1.out.cell 0
    have k1 : w1.cell? ⟨w.heap.size, 1, none⟩ = some (.slice a l.length cap) := Q1.out.cell 1
    have HCO := Lib.hid (consistent_any n a cap l w1 (HXN.out.keep hb1) hl30 (fun _ => HSM.out) (HT.out.keep B1.out))
    clear hb1
    go_wp2_with fail
    refine HCO.out.mono ?_
    rintro e w2 ⟨rfl, hb2⟩
    have L2 := Lib.hid (L1.out.trans (hb2.mono L1.out.size))
    have B2 := Lib.hid (B1.out.trans (hb2.mono B1.out.size))
    have Q2 := Lib.hid (Q1.out.later hb2)
    clear k0 k1
    have k0 : w2.cell? ⟨w.heap.size, 0, none⟩ = some (.int .i64 n) := Q2.out.cell 0
    have k1 : w2.cell? ⟨w.heap.size, 1, none⟩ = some (.slice a l.length cap) := Q2.out.cell 1
    have HVA := Lib.hid (valid_any n a cap l w2 (HXN.out.keep L2.out) hl30 (fun _ => HSM.out) (fun hc _ => cheap_cost (show n ≤ 20 by have := H8.out (chkR_ok hc).1; omega) _ _) (HT.out.keep B2.out))
    clear hb2
    go_wp2_with fail
    refine HVA.out.mono ?_
    rintro e w3 ⟨rfl, hb3⟩
    have L3 := Lib.hid (L2.out.trans (hb3.mono L2.out.size))
    have B3 := Lib.hid (B2.out.trans (hb3.mono B2.out.size))
    have Q3 := Lib.hid (Q2.out.later hb3)
    clear k0 k1
    have k0 : w3.cell? ⟨w.heap.size, 0, none⟩ = some (.int .i64 n) := Q3.out.cell 0
    have k1 : w3.cell? ⟨w.heap.size, 1, none⟩ = some (.slice a l.length cap) := Q3.out.cell 1
    have HCK := Lib.hid (rCheck_any n a cap l none 0 [] w3 (HXN.out.keep L3.out) hl30 (IntCells.nil _ _) (by simp))
    clear hb3
    by_cases hc : chkR [] ⟨n, l⟩ = 0
    · obtain ⟨hok, _, _⟩ := chkR_ok hc
      obtain ⟨hn0, hn1, _, _⟩ := netOk_head hok
      simp only at hn0 hn1
      obtain ⟨N, rfl⟩ := Int.eq_ofNat_of_zero_le hn0
      have hN8 : N ≤ 16 := by have := H8.out hok; omega
      have HOK := Lib.hid hok
      have HEC := Lib.hid (cons_ref hN8 hc)
      have HEV := Lib.hid (valid_ref hN8 HSM.out hc)
      have HRC := Lib.hid (fun V h => rConsistent_any N a cap l V HOK.out hN8 h)
      have HRV := Lib.hid (fun V h => rValid38_any N a cap l V HOK.out hN8 h)
      rw [HEC.out] at HRC
      rw [HEV.out] at HRV
      rw [hc] at HCK ⊢
      have HC := Lib.hid hc
      clear hc hok hn0 hn1
      go_wp2_with fail
      refine HCK.out.mono ?_
      rintro e w4 ⟨rfl, hb4⟩
      have L4 := Lib.hid (L3.out.trans (hb4.mono L3.out.size))
      have B4 := Lib.hid (B3.out.trans (hb4.mono B3.out.size))
      have Q4 := Lib.hid (Q3.out.later hb4)
      clear k0 k1 hb4
      have k0 : w4.cell? ⟨w.heap.size, 0, none⟩ = some (.int .i64 N) := Q4.out.cell 0
      have k1 : w4.cell? ⟨w.heap.size, 1, none⟩ = some (.slice a l.length cap) := Q4.out.cell 1
      generalize consR ⟨(N : Int), l⟩ = c1 at *
      generalize impR ⟨(N : Int), l⟩ [] = c2 at *
      go_wp2_with fail
      refine (HRC.out w4 (HXN.out.keep L4.out)).mono ?_
      rintro e w5 ⟨rfl, hb5⟩
      have L5 := Lib.hid (L4.out.trans (hb5.mono L4.out.size))
      have B5 := Lib.hid (B4.out.trans (hb5.mono B4.out.size))
      have Q5 := Lib.hid (Q4.out.later hb5)
      clear k0 k1 hb5
      have k0 : w5.cell? ⟨w.heap.size, 0, none⟩ = some (.int .i64 N) := Q5.out.cell 0
      have k1 : w5.cell? ⟨w.heap.size, 1, none⟩ = some (.slice a l.length cap) := Q5.out.cell 1
      have hcc : (c1 == c1) = true := by simp
      have hcc2 : (c2 == c2) = true := by simp
      go_wp2_with fail
      refine (HRV.out w5 (HXN.out.keep L5.out)).mono ?_
      rintro e w6 ⟨rfl, hb6⟩
      have B6 := Lib.hid (B5.out.trans (hb6.mono B5.out.size))
      clear hb6 k0 k1
      go_wp2_with fail
      refine (HW.out w6 B6.out).mono ?_
      rintro e w7 ⟨rfl, hb7⟩
      have B7 := Lib.hid (B6.out.trans (hb7.mono B6.out.size))
      clear hb7
      go_wp2
      go_ret
      exact ⟨rfl, B7.out⟩
    · have HA : Hid (consR ⟨n, l⟩ = false) := by show _ = _; unfold consR; rw [decide_eq_false hc]; rfl
      have HV2 : Hid (impR ⟨n, l⟩ [] = false) := by show _ = _; unfold impR; rw [decide_eq_false hc]; rfl
      have hcb : (chkR [] ⟨n, l⟩ != 0) = true := by simpa using hc
      rw [HA.out, HV2.out]
      generalize chkR [] ⟨n, l⟩ = c at *
      clear hc
      have hcc : (c == c) = true := by simp
      go_wp2_with fail
      refine HCK.out.mono ?_
      rintro e w4 ⟨rfl, hb4⟩
      have B4 := Lib.hid (B3.out.trans (hb4.mono B3.out.size))
      clear k0 k1 hb4
      go_wp2_with fail
      refine (HW.out w4 B4.out).mono ?_
      rintro e w5 ⟨rfl, hb5⟩
      have B5 := Lib.hid (B4.out.trans (hb5.mono B4.out.size))
      clear hb5
      go_wp2
      go_ret
      exact ⟨rfl, B5.out⟩
end Go.Proofs.YtfdonhfhcomjaaaGreatDoor
