/- Part of the proofs that laws of censuslaw38 return true for every input, where the tables that the rows list are laid. Texts: Sum1. -/
import Derived.Test.YtkaojolofaanfaaGreatDoorZA30

/- The walk of count.sum's closure wide. -/
namespace Go.Proofs.YtkaojolofaanfaaGreatDoor
open Go.RowKit Cen
set_option maxHeartbeats 4000000
set_option maxRecDepth 100000
/-- The ring of numbers(0) boxed at R, its weight's variable at B, the weight's at C. -/
structure RingAt (w : World) (R B C : Nat) : Prop where
  r : Blk w R #[.func (.func 131) #[] #[], .func (.func 132) #[] #[], .func (.func 133) #[] #[], .func (.func 134) #[] #[], wF B, bF C] 95
  b : Blk w B #[.int .i64 0] 3
  c : Blk w C #[wF B] 36
theorem RingAt.later {w w' : World} {R B C : Nat} (h : RingAt w R B C) (hb : Below w.heap.size w w') : RingAt w' R B C := ⟨h.r.later hb, h.b.later hb, h.c.later hb⟩
structure LC (w6 : World) (l : List Int) (n : Nat) (s21 s22 s23 : Value) (wx : World) : Prop where
  ex : ∃ aa cc, s21 = .slice aa n cc ∧ IntCells wx aa l ∧ ∀ p, aa = some p → w6.heap.size ≤ p.block
  n22 : s22 = .int .i64 (n : Int)
  n23 : s23 = .int .i64 0
  bl : Below w6.heap.size w6 wx
theorem RingAt.kept {M : Nat → Prop} {w w' : World} {R B C : Nat} (h : RingAt w R B C) (hk : Kp M w w') (h1 : ¬ M R) (h2 : ¬ M B) (h3 : ¬ M C) : RingAt w' R B C := ⟨h.r.kept hk h1, h.b.kept hk h2, h.c.kept hk h3⟩
theorem wide_any (k : Nat) (all : St) (o : St) (V : Nat) (po pw R B C go gw n capo capw : Nat) (w : World) (hT : Dtab w) (hall : all.ok) (ho : o.ok) (hkn : k < n) (hb : V * 2 ^ minus all o ≤ 256) (_hV : V ≤ 256)
    (hr : RingAt w R B C) (hpo : Blk w po #[.slice (some ⟨go, 0, none⟩) n capo] 146) (hpw : Blk w pw #[.slice (some ⟨gw, 0, none⟩) n capw] 49)
    (hv : w.cell? ⟨go, k, none⟩ = some (.string (natB V))) (h0 : w.cell? ⟨gw, k * 2, none⟩ = some (.int .u64 (o.a : Int))) (h1 : w.cell? ⟨gw, k * 2 + 1, none⟩ = some (.int .u64 (o.b : Int))) :
    Calls Tryz.prog 126 #[.int .i64 (k : Int), stv all, .pointer (some ⟨po, 0, none⟩), .pointer (some ⟨pw, 0, none⟩), .pointer (some ⟨R, 0, none⟩)] w fun e w' => e = .returned (natv (V * 2 ^ minus all o)) ∧ Below w.heap.size w w' := by
  have p0 := hpo.cell 0
  have p1 := hpw.cell 0
  have l0 := hpo.lt
  have l1 := hpw.lt
  have lv := cell_block hv
  have lg := cell_block h0
  have HR := Lib.hid hr
  have HRL : Hid (R < w.heap.size ∧ B < w.heap.size ∧ C < w.heap.size) := ⟨hr.r.lt, hr.b.lt, hr.c.lt⟩
  have HT := Lib.hid hT
  clear hr hT hpo hpw
  have hkl : (k : Int) < (n : Int) := by omega
  have HMIN := Lib.hid (fun V => minus_any all o V hall ho)
  have HLST := Lib.hid (fun V (h : Below w.heap.size w V) => list_any (St.minus all o) V (St.minus_ok hall) (HT.out.keep h))
  have HML : Hid ((memS (St.minus all o)).length = minus all o) := by show _ = _; rw [memS_card, card_min _ ho]
  have HMB : Hid (∀ v ∈ memS (St.minus all o), 1 ≤ v ∧ v ≤ 128) := fun v hv => mem_range_of ((memS_mem _ _).1 hv)
  have kb := Blk.new w #[.int .u64 (all.a : Int), .int .u64 (all.b : Int)] 54
  unfold stv
  go_enter Tryz.func126, Tryz.ntmps126
  go_wp2_with fail
  have kr := Blk.new' (w.alloc (.cells #[.int .u64 (all.a : Int), .int .u64 (all.b : Int)] 54)) (b := w.heap.size + 1) (by simp) #[.string ⟨#[]⟩] 32
  have kx := Blk.new' ((w.alloc (.cells #[.int .u64 (all.a : Int), .int .u64 (all.b : Int)] 54)).alloc (.cells #[.string ⟨#[]⟩] 32)) (b := w.heap.size + 1 + 1) (by simp) #[.string (natB V)] 32
  have hb6 : Below w.heap.size w (((w.alloc (.cells #[.int .u64 (all.a : Int), .int .u64 (all.b : Int)] 54)).alloc (.cells #[.string ⟨#[]⟩] 32)).alloc (.cells #[.string (natB V)] 32)) := (((Below.refl _ w).alloc (Nat.le_refl _) _).alloc (by simp) _).alloc (by simp; omega) _
  have kb2 := (kb.alloc (.cells #[.string ⟨#[]⟩] 32)).alloc (.cells #[.string (natB V)] 32)
  have kr2 := kr.alloc (.cells #[.string (natB V)] 32)
  generalize ((w.alloc (.cells #[.int .u64 (all.a : Int), .int .u64 (all.b : Int)] 54)).alloc (.cells #[.string ⟨#[]⟩] 32)).alloc (.cells #[.string (natB V)] 32) = w6 at *
  have HB6 := Lib.hid hb6
  have HKR := Lib.hid kr2
  have HKX := Lib.hid kx
  have a0 : w6.cell? ⟨w.heap.size, 0, none⟩ = some (.int .u64 (all.a : Int)) := kb2.cell 0
  have a1 : w6.cell? ⟨w.heap.size, 1, none⟩ = some (.int .u64 (all.b : Int)) := kb2.cell 1
  have a2 := kb2.lt
  have p1' : w6.cell? ⟨pw, 0, none⟩ = some (.slice (some ⟨gw, 0, none⟩) n capw) := by rw [hb6.cell (p := ⟨pw, 0, none⟩) l1]; exact p1
  have q0 : w6.cell? ⟨gw, k * 2, none⟩ = some (.int .u64 (o.a : Int)) := by rw [hb6.cell (p := ⟨gw, k * 2, none⟩) lg]; exact h0
  have q1 : w6.cell? ⟨gw, k * 2 + 1, none⟩ = some (.int .u64 (o.b : Int)) := by rw [hb6.cell (p := ⟨gw, k * 2 + 1, none⟩) lg]; exact h1
  have hs6 := hb6.size
  clear kb kr kx kb2 kr2 hb6 p0 p1 hv h0 h1
  go_upto_region 3 with fail
  go_cut [21, 22, 23] (fun s21 s22 s23 wx => LC w6 (memS (St.minus all o)) (minus all o) s21 s22 s23 wx)
  case first =>
    go_region_with (first
      | (go_at_call 128
         refine Calls.mono (HMIN.out _) ?_
         rintro e v5 ⟨rfl, hb5⟩
         have hv5 : Below w6.heap.size w6 v5 := (Below.refl w6.heap.size w6).drew.trans (hb5.mono (Nat.le_refl _)))
      | (go_at_call 127
         refine Calls.mono (HLST.out _ (HB6.out.trans (hv5.mono HB6.out.size))) ?_
         rintro e v6 ⟨vv, rfl, hoo, hb6⟩
         have hv6 : Below w6.heap.size w6 v6 := hv5.trans (hb6.mono hv5.size)
         obtain ⟨aa, cc, rfl, hic, hbs⟩ := OwnInts.cells hoo
         rw [HML.out]))
    all_goals
      go_wp2_with fail
      go_meet
      exact ⟨⟨aa, cc, rfl, hic, fun p h => Nat.le_trans hv5.size (hbs p h).1⟩, rfl, rfl, hv6⟩
  case rest =>
    obtain ⟨⟨aa, cc, rfl, hic, hbs⟩, rfl, rfl, hbc⟩ := hcut
    obtain ⟨wx, rfl⟩ : ∃ wx : World, wx = wc := ⟨_, rfl⟩
    have HIC := Lib.hid hic
    have HBS := Lib.hid hbs
    have HBC := Lib.hid hbc
    have HRX := Lib.hid (HR.out.later (HB6.out.trans (hbc.mono hs6)))
    have HKX2 := Lib.hid (HKX.out.later hbc)
    have HKR2 := Lib.hid (HKR.out.later hbc)
    have HBX : Hid (Below w.heap.size w wx) := HB6.out.trans (hbc.mono hs6)
    have HZ6 : Hid (w.heap.size + 1 + 1 < w6.heap.size) := HKX.out.lt
    have hcb : ∀ (args : Array Value) (w : World), (callFunc 135 args).run Tryz.prog w = .ok (.enter 135 args) w := callable_b
    have hcm : ∀ (args : Array Value) (w : World), (callFunc 134 args).run Tryz.prog w = .ok (.enter 134 args) w := callable_mul
    clear hic hbs hbc a0 a1 a2 p1' q0 q1
    go_wp2
    go_loopw [23] (fun i wi => ∃ j : Nat, j ≤ minus all o ∧ i = .int .i64 j ∧ Blk wi (w.heap.size + 1 + 1) #[.string (natB (V * 2 ^ j))] 32 ∧ Kp (fun y => y = w.heap.size + 1 + 1) wx wi) (fun i _ => minus all o - (intOf i).toNat)
    case atStart => exact ⟨0, Nat.zero_le _, rfl, by simpa using HKX2.out, Kp.refl _ _⟩
    case round =>
      obtain ⟨wi, rfl⟩ : ∃ wi : World, wi = wr := ⟨_, rfl⟩
      obtain ⟨j, hj, rfl, hsb, hkp⟩ := hrel
      have hri := HRX.out.kept hkp (by have := HRL.out.1; omega) (by have := HRL.out.2.1; omega) (by have := HRL.out.2.2; omega)
      have r3 : wi.cell? ⟨R, 3, none⟩ = some (.func (.func 134) #[] #[]) := hri.r.cell 3
      have r5 : wi.cell? ⟨R, 5, none⟩ = some (.func (.func 135) #[] #[.pointer (some ⟨C, 0, none⟩)]) := hri.r.cell 5
      have rl := hri.r.lt
      have HSB := Lib.hid hsb
      have HKP := Lib.hid hkp
      have x0 : wi.cell? ⟨w.heap.size + 1 + 1, 0, none⟩ = some (.string (natB (V * 2 ^ j))) := hsb.cell 0
      have xl := hsb.lt
      by_cases hlj : j < minus all o
      · have hjm : j < (memS (St.minus all o)).length := by rw [HML.out]; exact hlj
        obtain ⟨b2, off2, rfl, e0'⟩ := HIC.out j hjm
        have hgd : (memS (St.minus all o)).getD j 0 = (memS (St.minus all o))[j] := by simp [List.getD_eq_getElem?_getD, hjm]
        have hvb := HMB.out _ (List.getElem_mem hjm)
        rw [hgd] at e0'
        generalize (memS (St.minus all o))[j] = v at *
        have hbb := HBS.out _ rfl
        simp only at hbb
        have e0 : wi.cell? ⟨b2, off2 + j, none⟩ = some (.int .i64 v) := hkp.cell e0' (by have := HZ6.out; dsimp only; omega)
        have hpw1 : V * 2 ^ (j + 1) ≤ V * 2 ^ minus all o := Nat.mul_le_mul_left _ (Nat.pow_le_pow_right (by omega) hlj)
        have hpw2 : V * 2 ^ j * 2 = V * 2 ^ (j + 1) := by rw [Nat.pow_succ, Nat.mul_assoc]
        have hmul := mul_any (V * 2 ^ j) 2 (by omega) (by omega) (by omega)
        unfold natv at hmul
        have HMUL := Lib.hid hmul
        have HBO := Lib.hid (fun W (h : Below wi.heap.size wi W) => both_any v hvb.1 hvb.2 B C W (hri.later h).b (hri.later h).c)
        have HPW := Lib.hid hpw2
        have HLJ := Lib.hid hlj
        have hmn : minus all o ≤ 128 := by rw [← HML.out]; exact memS_len _
        have hjl : (j : Int) < (minus all o : Int) := by omega
        clear hmul hpw1 hpw2 hgd e0' hvb hri hkp hsb
        have HRN : Hid (R ≠ w.heap.size + 1 + 1) := by show _ ≠ _; have := HRL.out.1; omega
        have HKS : Hid (∀ w' : World, Kp (fun y => y = w.heap.size + 1 + 1) wi w' → w'.cell? ⟨R, 3, none⟩ = some (.func (.func 134) #[] #[]) ∧ w'.cell? ⟨R, 5, none⟩ = some (.func (.func 135) #[] #[.pointer (some ⟨C, 0, none⟩)])) := Lib.hid fun w' hk => ⟨hk.cell r3 HRN.out, hk.cell r5 HRN.out⟩
        go_wp2_with fail
        refine wp_region_held_drew (S := (fun w' => w'.cell? ⟨R, 3, none⟩ = some (.func (.func 134) #[] #[]) ∧ w'.cell? ⟨R, 5, none⟩ = some (.func (.func 135) #[] #[.pointer (some ⟨C, 0, none⟩)]))) (by kernel_rfl) ?_ (fun hHeld => ?_)
        · try dsimp only
          exact HKS.out _ (Kp.below (Below.refl _ _).drew)
        refine wpAnyH_take (i := 0) (v := ?_) rfl (by kernel_rfl) (by kernel_rfl) (by kernel_rfl) (fun _ _ _ h => h) (Or.inl ⟨by rfl, ?_⟩) (by assumption) ?_
        rotate_left
        · intro w hSw
          try dsimp only at hSw
          first | (go_simp; done) | (go_simp; with_reducible rfl)
        change wpAnyH _ _ _ _ _ _ _ (Act.put _ (some 27) _) _
        try simp only [Act.put, List.setIfInBounds_toArray, List.set_cons_zero, List.set_cons_succ]
        refine wpAnyH_take (i := 1) (v := ?_) rfl (by kernel_rfl) (by kernel_rfl) (by kernel_rfl) (fun _ _ _ h => h) (Or.inl ⟨by rfl, ?_⟩) (by assumption) ?_
        rotate_left
        · intro w hSw
          try dsimp only at hSw
          first | (go_simp; done) | (go_simp; with_reducible rfl)
        change wpAnyH _ _ _ _ _ _ _ (Act.put _ (some 28) _) _
        try simp only [Act.put, List.setIfInBounds_toArray, List.set_cons_zero, List.set_cons_succ]
        refine wpAnyH_take (i := 3) (v := ?_) rfl (by kernel_rfl) (by kernel_rfl) (by kernel_rfl) (fun _ _ _ h => h) (Or.inl ⟨by rfl, ?_⟩) (by assumption) ?_
        rotate_left
        · intro w hSw
          try dsimp only at hSw
          first | (go_simp; done) | (go_simp; with_reducible rfl)
        change wpAnyH _ _ _ _ _ _ _ (Act.put _ (some 30) _) _
        try simp only [Act.put, List.setIfInBounds_toArray, List.set_cons_zero, List.set_cons_succ]
        refine wpAnyH_take (i := 4) (v := ?_) rfl (by kernel_rfl) (by kernel_rfl) (by kernel_rfl) (fun _ _ _ h => h) (Or.inl ⟨by rfl, ?_⟩) (by assumption) ?_
        rotate_left
        · intro w hSw
          try dsimp only at hSw
          first | (go_simp; done) | (go_simp; with_reducible rfl)
        change wpAnyH _ _ _ _ _ _ _ (Act.put _ (some 31) _) _
        try simp only [Act.put, List.setIfInBounds_toArray, List.set_cons_zero, List.set_cons_succ]
        refine wpAnyH_take (i := 5) (v := ?_) rfl (by kernel_rfl) (by kernel_rfl) (by kernel_rfl) (fun _ _ _ h => h) (Or.inl ⟨by rfl, ?_⟩) (by assumption) ?_
        rotate_left
        · intro w hSw
          try dsimp only at hSw
          first | (go_simp; done) | (go_simp; with_reducible rfl)
        change wpAnyH _ _ _ _ _ _ _ (Act.put _ (some 32) _) _
        try simp only [Act.put, List.setIfInBounds_toArray, List.set_cons_zero, List.set_cons_succ]
        refine wpAnyH_ready (rs := [2, 6]) (by kernel_rfl) (by simp) ?_
        refine AllReadyH.cons rfl (fun K hK => ?_) (AllReadyH.cons rfl (fun K hK => ?_) AllReadyH.nil)
        · go_simp
          refine hK.out _ _ ?_ (fun hHeld => ?_)
          · try dsimp only
            exact HKS.out _ (Kp.below (Below.refl _ _).drew)
          clear hK K
          try simp only [Act.put, List.setIfInBounds_toArray, List.set_cons_zero, List.set_cons_succ]
          refine wpAnyH_ready (rs := [6]) (by kernel_rfl) (by simp) ?_
          refine AllReadyH.cons rfl (fun K hK => ?_) AllReadyH.nil
          go_simp
          go_at_call 135
          refine Calls.mono (HBO.out _ ((Below.refl _ _).drew)) ?_
          rintro e v5 ⟨rfl, hb5⟩
          have hv5 : Below wi.heap.size wi v5 := (Below.refl wi.heap.size wi).drew.trans (hb5.mono (Nat.le_refl _))
          have y5 := (HSB.out.later hv5).cell 0
          have y5l := (HSB.out.later hv5).lt
          unfold natv
          go_wp2_with fail
          refine hK.out _ _ ?_ (fun hHeld => ?_)
          · try dsimp only
            exact HKS.out _ (Kp.below hv5)
          clear hK K
          try simp only [Act.put, List.setIfInBounds_toArray, List.set_cons_zero, List.set_cons_succ]
          refine wpAnyH_ready (rs := [7]) (by kernel_rfl) (by simp) ?_
          refine AllReadyH.cons rfl (fun K hK => ?_) AllReadyH.nil
          go_simp
          go_at_call 134
          with_reducible refine Calls.mono (HMUL.out _) ?_
          rintro e v6 ⟨rfl, hb6⟩
          have hv6 : Below wi.heap.size wi v6 := hv5.trans (hb6.mono hv5.size)
          have y6 := (HSB.out.later hv6).cell 0
          have y6f := (HSB.out.later hv6).fr 0
          have y6l := (HSB.out.later hv6).lt
          go_wp2_with fail
          refine hK.out _ _ ?_ (fun hHeld => ?_)
          · try dsimp only
            exact HKS.out _ (Kp.below hv6)
          clear hK K
          try simp only [Act.put, List.setIfInBounds_toArray, List.set_cons_zero, List.set_cons_succ]
          refine wpAnyH_ready (rs := [8]) (by kernel_rfl) (by simp) ?_
          refine AllReadyH.cons rfl (fun K hK => ?_) AllReadyH.nil
          go_simp
          refine hK.out _ _ ?_ (fun hHeld => ?_)
          · try dsimp only
            exact HKS.out _ (Kp.trans (M := fun y => y = w.heap.size + 1 + 1) (Kp.below hv6) (Kp.setCell (M := fun y => y = w.heap.size + 1 + 1) _ _ _ rfl))
          clear hK K
          try simp only [Act.put, List.setIfInBounds_toArray, List.set_cons_zero, List.set_cons_succ]
          refine wpAnyH_done (by kernel_rfl) ?_ _
          have HSB5 : Hid (Blk (v6.setCell ⟨w.heap.size + 1 + 1, 0, none⟩ (.string (natB (V * 2 ^ j * 2)))) (w.heap.size + 1 + 1) #[.string (natB (V * 2 ^ j * 2))] 32) := (HSB.out.later hv6).set 0 _
          have HKP5 : Hid (Kp (fun y => y = w.heap.size + 1 + 1) wx (v6.setCell ⟨w.heap.size + 1 + 1, 0, none⟩ (.string (natB (V * 2 ^ j * 2))))) := Kp.trans (M := fun y => y = w.heap.size + 1 + 1) HKP.out (Kp.trans (M := fun y => y = w.heap.size + 1 + 1) (Kp.below hv6) (Kp.setCell (M := fun y => y = w.heap.size + 1 + 1) _ _ _ rfl))
          generalize v6.setCell ⟨w.heap.size + 1 + 1, 0, none⟩ (.string (natB (V * 2 ^ j * 2))) = VV at *
          clear y5 y6 y6f
          go_wp2
          go_roundw
          case rel => exact ⟨j + 1, HLJ.out, by go_num, by rw [← HPW.out]; exact HSB5.out, HKP5.out⟩
          case measure => have := HLJ.out; simp [intOf]; omega
        · go_simp
          go_at_call 135
          refine Calls.mono (HBO.out _ ((Below.refl _ _).drew)) ?_
          rintro e v5 ⟨rfl, hb5⟩
          have hv5 : Below wi.heap.size wi v5 := (Below.refl wi.heap.size wi).drew.trans (hb5.mono (Nat.le_refl _))
          have y5 := (HSB.out.later hv5).cell 0
          have y5l := (HSB.out.later hv5).lt
          unfold natv
          go_wp2_with fail
          refine hK.out _ _ ?_ (fun hHeld => ?_)
          · try dsimp only
            exact HKS.out _ (Kp.below hv5)
          clear hK K
          try simp only [Act.put, List.setIfInBounds_toArray, List.set_cons_zero, List.set_cons_succ]
          refine wpAnyH_ready (rs := [2]) (by kernel_rfl) (by simp) ?_
          refine AllReadyH.cons rfl (fun K hK => ?_) AllReadyH.nil
          go_simp
          refine hK.out _ _ ?_ (fun hHeld => ?_)
          · try dsimp only
            exact HKS.out _ (Kp.below hv5)
          clear hK K
          try simp only [Act.put, List.setIfInBounds_toArray, List.set_cons_zero, List.set_cons_succ]
          refine wpAnyH_ready (rs := [7]) (by kernel_rfl) (by simp) ?_
          refine AllReadyH.cons rfl (fun K hK => ?_) AllReadyH.nil
          go_simp
          go_at_call 134
          with_reducible refine Calls.mono (HMUL.out _) ?_
          rintro e v6 ⟨rfl, hb6⟩
          have hv6 : Below wi.heap.size wi v6 := hv5.trans (hb6.mono hv5.size)
          have y6 := (HSB.out.later hv6).cell 0
          have y6f := (HSB.out.later hv6).fr 0
          have y6l := (HSB.out.later hv6).lt
          go_wp2_with fail
          refine hK.out _ _ ?_ (fun hHeld => ?_)
          · try dsimp only
            exact HKS.out _ (Kp.below hv6)
          clear hK K
          try simp only [Act.put, List.setIfInBounds_toArray, List.set_cons_zero, List.set_cons_succ]
          refine wpAnyH_ready (rs := [8]) (by kernel_rfl) (by simp) ?_
          refine AllReadyH.cons rfl (fun K hK => ?_) AllReadyH.nil
          go_simp
          refine hK.out _ _ ?_ (fun hHeld => ?_)
          · try dsimp only
            exact HKS.out _ (Kp.trans (M := fun y => y = w.heap.size + 1 + 1) (Kp.below hv6) (Kp.setCell (M := fun y => y = w.heap.size + 1 + 1) _ _ _ rfl))
          clear hK K
          try simp only [Act.put, List.setIfInBounds_toArray, List.set_cons_zero, List.set_cons_succ]
          refine wpAnyH_done (by kernel_rfl) ?_ _
          have HSB5 : Hid (Blk (v6.setCell ⟨w.heap.size + 1 + 1, 0, none⟩ (.string (natB (V * 2 ^ j * 2)))) (w.heap.size + 1 + 1) #[.string (natB (V * 2 ^ j * 2))] 32) := (HSB.out.later hv6).set 0 _
          have HKP5 : Hid (Kp (fun y => y = w.heap.size + 1 + 1) wx (v6.setCell ⟨w.heap.size + 1 + 1, 0, none⟩ (.string (natB (V * 2 ^ j * 2))))) := Kp.trans (M := fun y => y = w.heap.size + 1 + 1) HKP.out (Kp.trans (M := fun y => y = w.heap.size + 1 + 1) (Kp.below hv6) (Kp.setCell (M := fun y => y = w.heap.size + 1 + 1) _ _ _ rfl))
          generalize v6.setCell ⟨w.heap.size + 1 + 1, 0, none⟩ (.string (natB (V * 2 ^ j * 2))) = VV at *
          clear y5 y6 y6f
          go_wp2
          go_roundw
          case rel => exact ⟨j + 1, HLJ.out, by go_num, by rw [← HPW.out]; exact HSB5.out, HKP5.out⟩
          case measure => have := HLJ.out; simp [intOf]; omega
      · have hje : j = minus all o := by omega
        rw [hje] at x0
        have kr9 := HKR2.out.kept hkp (by omega)
        have HKR9 := Lib.hid kr9
        have t0 := kr9.cell 0
        have t1 := kr9.fr 0
        have t2 := kr9.lt
        have HBE : Hid (Below w.heap.size w wi) := HBX.out.trans (hkp.toBelow HBX.out.size (by intro y hy h; omega))
        clear kr9
        subst hje
        go_wp2
        have e0 : (wi.setCell ⟨w.heap.size + 1, 0, none⟩ (.string (natB (V * 2 ^ minus all o)))).cell? ⟨w.heap.size + 1, 0, none⟩ = some (.string (natB (V * 2 ^ minus all o))) := (HKR9.out.set 0 _).cell 0
        exact bodyPost_ret (v := .agg #[.string (natB (V * 2 ^ minus all o))]) (by simp [results, Tryz.results126, go_sem, e0]) rfl ⟨rfl, HBE.out.setCell (show w.heap.size ≤ (⟨w.heap.size + 1, 0, none⟩ : Addr).block by simp) _⟩
end Go.Proofs.YtkaojolofaanfaaGreatDoor
