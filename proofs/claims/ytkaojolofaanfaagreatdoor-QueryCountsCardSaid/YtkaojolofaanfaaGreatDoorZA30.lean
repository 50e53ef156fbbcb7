/- Part of the proofs that laws of censuslaw38 return true for every input, where the tables that the rows list are laid. Texts: Short. -/
import Derived.Test.YtkaojolofaanfaaGreatDoorZA26
import Derived.Test.YtkaojolofaanfaaGreatDoorZA29
import Derived.Test.YtkaojolofaanfaaGreatDoorZA6
import Derived.Test.YtkaojolofaanfaaGreatDoorZA20

/- The walk of count.short at small deterministic nets. -/
namespace Go.Proofs.YtkaojolofaanfaaGreatDoor
open Go.RowKit Cen
set_option maxHeartbeats 4000000
set_option maxRecDepth 100000
def natc (x : Nat) : List Value := [.string (natB x)]
theorem natc_len (x : Nat) : (natc x).length = 1 := rfl
theorem elemNat : Elem 146 32 1 16 (natv 0) := .mk Tryz.underlying146 (by kernel_rfl) rfl (by decide)
abbrev OwnNats (w : World) (base : Nat) (v : Value) (l : List Nat) : Prop := OwnL natc 32 1 w base v l
theorem ownInts_sl {w : World} {base : Nat} {v : Value} {xs : List Int} (h : OwnInts w base v xs) : ∃ a cap, v = .slice a xs.length cap := by
  rcases h.2 with ⟨h1, h2⟩ | ⟨g, cap, cur, hv, _⟩
  · exact ⟨none, 0, by rw [h1, h2]⟩
  · exact ⟨_, cap, hv⟩
theorem listLen_any (s : St) (n : Nat) (w : World) (hs : s.ok) (hT : Dtab w) (hn : (memS s).length = n) : Calls Tryz.prog 127 #[stv s] w fun e w' => ∃ a cap, e = .returned (.slice a n cap) ∧ Below w.heap.size w w' :=
  (list_any s w hs hT).mono fun e w' ⟨v, he, ho, hb⟩ => by
    obtain ⟨a, cap, hv⟩ := ownInts_sl ho
    exact ⟨a, cap, by rw [he, hv, hn], hb⟩
theorem short_any (N : Nat) (hN : N ≤ 8) (a : Option Addr) (cap : Nat) (l : List Nd) (w : World) (hok : netOk ⟨(N : Int), l⟩ = true) (hd : decL l = true) (hdet : detL l) (hT : Dtab w) (hx : NdCells w a l) :
    Calls Tryz.prog 125 #[.agg #[.int .i64 (N : Int), .slice a l.length cap]] w fun e w' => e = .returned (.bool true) ∧ Below w.heap.size w w' := by
  have HB0 := Lib.hid ((Below.refl w.heap.size w).alloc (Nat.le_refl _) (.cells #[.int .i64 (N : Int), .slice a l.length cap] 24))
  have q0 := Lib.hid (Blk.new w #[.int .i64 (N : Int), .slice a l.length cap] 24)
  have HX := Lib.hid hx
  have HT := Lib.hid hT
  have HK := Lib.hid hok
  have HD := Lib.hid hd
  have HDET := Lib.hid hdet
  have hl2 : l.length ≤ 65536 := (netOk_head hok).2.2.2
  have HM1 : Hid (l.length ≤ maxLen) := by show _ ≤ _; unfold maxLen; omega
  have HV := Lib.hid (nodeVars_any (N : Int) a cap l (w.alloc (.cells #[.int .i64 (N : Int), .slice a l.length cap] 24)) hok hl2 (hx.keep HB0.out))
  have HZ1 : Hid ((w.alloc (.cells #[.int .i64 (N : Int), .slice a l.length cap] 24)).heap.size = w.heap.size + 1) := by show _ = _; simp
  clear hx hok hd hdet hT
  go_enter Tryz.func125, Tryz.ntmps125
  go_wp2_with fail
  generalize w.alloc (.cells #[.int .i64 (N : Int), .slice a l.length cap] 24) = w0 at *
  refine Calls.mono HV.out ?_
  rintro e w1 ⟨g, rfl, hov, hb1⟩
  have HOV := Lib.hid hov
  have HB1 := Lib.hid hb1
  have HBA1 : Hid (Below w.heap.size w w1) := HB0.out.trans (hb1.mono (by rw [HZ1.out]; omega))
  have R1 := Lib.hid (q0.out.later hb1)
  have k0 : w1.cell? ⟨w.heap.size, 0, none⟩ = some (.int .i64 (N : Int)) := R1.out.cell 0
  have k1 : w1.cell? ⟨w.heap.size, 1, none⟩ = some (.slice a l.length cap) := R1.out.cell 1
  have hz1 : w.heap.size < w1.heap.size := R1.out.lt
  clear hov hb1
  go_wp2_with (at_make; refine mk elemNat rfl _ _ rfl w1.heap.size .i64 .i64 _ _ l.length rfl rfl rfl rfl (by omega) HM1.out (by simp) natc 0 rfl ?_)
  intro w2 hown2 hgrow2
  have HO2 := Lib.hid hown2
  have HB2 : Hid (Below w1.heap.size w1 w2) := (Below.refl _ _).grown hgrow2 (Nat.le_refl _) (by simp)
  clear hown2 hgrow2 k0 k1
  have R2 := Lib.hid (R1.out.later HB2.out)
  have k1 : w2.cell? ⟨w.heap.size, 1, none⟩ = some (.slice a l.length cap) := R2.out.cell 1
  have hz2 : w1.heap.size < w2.heap.size := HO2.out.lt.1
  go_wp2
  go_loopw [19] (fun i wr => ∃ k : Nat, k ≤ l.length ∧ i = .int .i64 k ∧ OwnNats wr w1.heap.size (.slice (some ⟨w1.heap.size, 0, none⟩) l.length l.length) ((sumsL l).take k ++ List.replicate (l.length - k) 0) ∧ Below w1.heap.size w2 wr) (fun i _ => l.length - (intOf i).toNat)
  case atStart => exact ⟨0, Nat.zero_le _, rfl, by simpa using HO2.out, Below.refl _ _⟩
  case round =>
    obtain ⟨k, hk, rfl, hown, hb⟩ := hrel
    have HO := Lib.hid hown
    have HB := Lib.hid hb
    have R := Lib.hid (R2.out.laterB hb hz1)
    have HBR := Lib.hid (HB2.out.trans hb)
    have HBA := Lib.hid (HBA1.out.trans (HBR.out.mono (by omega)))
    have kr1 : wr.cell? ⟨w.heap.size, 1, none⟩ = some (.slice a l.length cap) := R.out.cell 1
    have hzr : w1.heap.size < wr.heap.size := hown.lt.1
    clear hown hb
    by_cases hlt : k < l.length
    · obtain ⟨b, off, rfl, c0', c1', av, cv, c2', hin, hil⟩ := HX.out k hlt
      have hgd : l.getD k default = l[k] := by simp [List.getD_eq_getElem?_getD, hlt]
      have hnk := netOk_nd HK.out hlt
      rw [hgd] at c0' c1' c2' hin hil
      simp only at hnk
      have hbw : b < w.heap.size := cell_block c0'
      have c0 := HBA.out.cell (p := ⟨b, off + k * 3, none⟩) hbw
      have c1 := HBA.out.cell (p := ⟨b, off + k * 3 + 1, none⟩) hbw
      have c2 := HBA.out.cell (p := ⟨b, off + k * 3 + 2, none⟩) hbw
      rw [c0'] at c0
      rw [c1'] at c1
      rw [c2'] at c2
      have hbz : b < wr.heap.size := cell_block c0
      have HNK := Lib.hid hnk
      have HND : Hid (nd l (k : Int) = l[k]) := by show _ = _; rw [nd_get (by omega) (by omega)]; simp
      generalize l[k] = x at *
      have HIN := Lib.hid hin
      have hk5 := formOk_kind hnk
      obtain ⟨S, hS⟩ : ∃ S, S = sAt (sumsL l) := ⟨_, rfl⟩
      obtain ⟨D, hD⟩ : ∃ D : Int → Nat, D = fun j => minus (vm l k) (vm l j) := ⟨_, rfl⟩
      have HA0 := Lib.hid (accS_zero S D x)
      rcases x with ⟨kd, lt, ins⟩
      simp only at *
      clear c0' c1' c2' hgd hin hnk
      have HOF := Lib.hid (fun V => of_any 1 (by omega) V)
      have HXB := Lib.hid (Blk.new wr #[.int .i64 kd, .int .i64 lt, .slice av ins.length cv] 67)
      have HXW := Lib.hid ((Below.refl wr.heap.size wr).alloc (Nat.le_refl _) (.cells #[.int .i64 kd, .int .i64 lt, .slice av ins.length cv] 67))
      go_wp2_with fail
      refine Calls.mono (HOF.out _) ?_
      rintro e w5 ⟨rfl, hb5⟩
      have hk6 := HXB.out.later hb5
      have x0 : w5.cell? ⟨wr.heap.size, 0, none⟩ = some (.int .i64 kd) := hk6.cell 0
      have xl := hk6.lt
      have HK6 := Lib.hid hk6
      have HB6 : Hid (Below wr.heap.size wr w5) := HXW.out.trans (hb5.mono (by simp))
      clear hk6 hb5 HXB HXW HOF
      unfold natv
      go_upto_region 7 with fail
      go_cut [32] (fun s32 wx => s32 = .bool (kd == 0 || kd == 4) ∧ wx = w5.alloc (.cells #[.string (natB 1)] 32))
      case first =>
        rcases hk5 with rfl | rfl | rfl | rfl | rfl
        all_goals
          go_wp2_with fail
          go_meet
          exact ⟨rfl, rfl⟩
      case rest =>
        obtain ⟨rfl, rfl⟩ := hcut
        go_upto_if 32 with fail
        go_cut [33] (fun _ wx => wx = w5.alloc (.cells #[.string (natB (accS S D ⟨kd, lt, ins⟩ 0))] 32))
        case first =>
          rcases hk5 with rfl | rfl | rfl | rfl | rfl
          all_goals
            go_wp2_with fail
            go_meet
            rw [HA0.out]
            rfl
        case rest =>
          obtain rfl := hcut
          have HS6 := Lib.hid (Blk.new w5 #[.string (natB (accS S D ⟨kd, lt, ins⟩ 0))] 32)
          have HB7 : Hid (Below wr.heap.size wr (w5.alloc (.cells #[.string (natB (accS S D ⟨kd, lt, ins⟩ 0))] 32))) := HB6.out.alloc HB6.out.size _
          have HX6 := Lib.hid (HK6.out.alloc (.cells #[.string (natB (accS S D ⟨kd, lt, ins⟩ 0))] 32))
          have HSL : Hid (w5.heap.size < (w5.alloc (.cells #[.string (natB (accS S D ⟨kd, lt, ins⟩ 0))] 32)).heap.size) := HS6.out.lt
          generalize hw6 : w5.alloc (.cells #[.string (natB (accS S D ⟨kd, lt, ins⟩ 0))] 32) = w6 at *
          clear hw6
          have HW5 : Hid (wr.heap.size < w5.heap.size) := xl
          have d0 : w6.cell? ⟨wr.heap.size, 0, none⟩ = some (.int .i64 kd) := HX6.out.cell 0
          have d2 : w6.cell? ⟨wr.heap.size, 2, none⟩ = some (.slice av ins.length cv) := HX6.out.cell 2
          have hz6 : wr.heap.size < w6.heap.size := HX6.out.lt
          clear x0 xl c0 c1 c2 kr1
          go_wp2_with fail
          have HPB : Hid (∀ j, accS S D ⟨kd, lt, ins⟩ j ≤ 256) := fun j => by
            have h := sum_part (N := N) (by omega) HK.out HD.out HDET.out hlt j
            rw [HND.out] at h
            have h8 : 2 ^ N ≤ 256 := Nat.pow_le_pow_right (by omega) hN
            unfold accS
            rw [hS, hD]
            split
            · omega
            · exact Nat.le_trans h h8
          have HS2 : Hid (∀ q : Nat, q < k → S (q : Int) ≤ 256) := fun q hq => by
            have h := sum_le (N := N) (by omega) HK.out HD.out HDET.out (i := q) (by omega)
            have h8 : 2 ^ N ≤ 256 := Nat.pow_le_pow_right (by omega) hN
            rw [hS]
            omega
          have HEND : Hid (accS S D ⟨kd, lt, ins⟩ ins.length = S (k : Int)) := by
            have hL : ndsOk l N l.length := by have h := HK.out; simp [netOk] at h; exact h.2
            have h := sumsL_eq hL hlt
            rw [HND.out] at h
            exact (accS_end S D ⟨kd, lt, ins⟩).trans (by rw [hS, hD]; exact h.symm)
          have HTK : Hid ((sumsL l).take (k + 1) = (sumsL l).take k ++ [S (k : Int)]) := by
            show _ = _
            have hk2 : k < (sumsL l).length := by rw [sumsL_length]; exact hlt
            rw [List.take_succ_eq_append_getElem hk2, hS]
            simp [sAt, List.getD_eq_getElem?_getD, hk2]
          have HRP : Hid (List.replicate (l.length - k) 0 = 0 :: List.replicate (l.length - (k + 1)) 0) := by show _ = _; rw [← List.replicate_succ]; congr 1; omega
          have HTL : Hid (k = ((sumsL l).take k).length) := by show _ = _; rw [List.length_take, sumsL_length]; omega
          have HNL : Hid (l.length = ((sumsL l).take k ++ 0 :: List.replicate (l.length - (k + 1)) 0).length) := by show _ = _; simp [sumsL_length]; omega
          have HD8 : Hid (∀ q : Nat, q < k → D (q : Int) ≤ 8) := fun q hq => by
            have hL : ndsOk l N l.length := by have h := HK.out; simp [netOk] at h; exact h.2
            have h1 : card (vm l (k : Int)) ≤ N := card_le (by omega) fun v _ hv => (vm_bd hL k k (by simp) (by omega) (by omega) v hv).2
            have h2 : minus (vm l (k : Int)) (vm l (q : Int)) ≤ card (vm l (k : Int)) := List.countP_mono_left fun x _ h => by simp at h; exact h.1
            rw [hD]
            exact Nat.le_trans h2 (by omega)
          have HOV6 := Lib.hid ((HOV.out.later HBR.out).later HB7.out)
          have HOVB : Hid (g < w5.heap.size) := by show _ < _; have := HOV.out.lt.1; have := HW5.out; omega
          have HVC0 : Hid (∀ wi : World, OwnSets wi w0.heap.size (.slice (some ⟨g, 0, none⟩) l.length l.length) (varsL l) → ∀ q : Nat, q < l.length → wi.cell? ⟨g, q * 2, none⟩ = some (.int .u64 ((vm l (q : Int)).a : Int))) := fun wi h q hq => by
            have hq2 : q < (varsL l).length := by rw [varsL_length]; exact hq
            have hc := h.cell (varsL_length l).symm stc_len q 0 hq2 (by omega)
            have e : vm l (q : Int) = (varsL l)[q] := by unfold vm; simp [List.getD_eq_getElem?_getD, hq2]
            rw [e]
            exact hc
          have HVC1 : Hid (∀ wi : World, OwnSets wi w0.heap.size (.slice (some ⟨g, 0, none⟩) l.length l.length) (varsL l) → ∀ q : Nat, q < l.length → wi.cell? ⟨g, q * 2 + 1, none⟩ = some (.int .u64 ((vm l (q : Int)).b : Int))) := fun wi h q hq => by
            have hq2 : q < (varsL l).length := by rw [varsL_length]; exact hq
            have hc := h.cell (varsL_length l).symm stc_len q 1 hq2 (by omega)
            have e : vm l (q : Int) = (varsL l)[q] := by unfold vm; simp [List.getD_eq_getElem?_getD, hq2]
            rw [e]
            exact hc
          have HVOK : Hid (∀ q : Nat, q < l.length → (vm l (q : Int)).ok) := fun q hq => by
            have hq2 : q < (varsL l).length := by rw [varsL_length]; exact hq
            have e : vm l (q : Int) = (varsL l)[q] := by unfold vm; simp [List.getD_eq_getElem?_getD, hq2]
            rw [e]
            exact varsL_ok l _ (List.getElem_mem hq2)
          have HBW6 : Hid (Below w.heap.size w w6) := HBA.out.trans (HB7.out.mono HBA.out.size)
          have HWW : Hid (w.heap.size < w5.heap.size) := by show _ < _; have := HW5.out; omega
          have HTW : Hid (∀ wi : World, Kp (fun y => y = w5.heap.size) w6 wi → Dtab wi) := fun wi hk => HT.out.keep (HBW6.out.trans (hk.toBelow HBW6.out.size (by intro y hy h; have := HWW.out; omega)))
          have HOG : Hid (w1.heap.size < w5.heap.size) := by show _ < _; have := HW5.out; omega
          have HO6 := Lib.hid (HO.out.later HB7.out)
          have HSQ : Hid (∀ wi : World, OwnNats wi w1.heap.size (.slice (some ⟨w1.heap.size, 0, none⟩) l.length l.length) ((sumsL l).take k ++ List.replicate (l.length - k) 0) → ∀ q : Nat, q < k → wi.cell? ⟨w1.heap.size, q, none⟩ = some (.string (natB (S (q : Int))))) := fun wi h q hq => by
            have hlen : ((sumsL l).take k).length = k := by rw [List.length_take, sumsL_length]; omega
            have hc := h.cell (by simp [sumsL_length]; omega) natc_len q 0 (by simp [sumsL_length]; omega) (by omega)
            rw [List.getElem_append_left (by omega)] at hc
            simp only [Nat.mul_one, Nat.add_zero, natc] at hc
            rw [hc, hS]
            have hq2 : q < (sumsL l).length := by rw [sumsL_length]; omega
            simp [sAt, List.getD_eq_getElem?_getD, hq2]
          obtain ⟨wo, rfl⟩ : ∃ wo : World, wo = wr := ⟨_, rfl⟩
          go_loopw [37] (fun i wi => ∃ m : Nat, m ≤ ins.length ∧ i = .int .i64 m ∧ Blk wi w5.heap.size #[.string (natB (accS S D ⟨kd, lt, ins⟩ m))] 32 ∧ Kp (fun y => y = w5.heap.size) w6 wi) (fun i _ => ins.length - (intOf i).toNat)
          case atStart => exact ⟨0, Nat.zero_le _, rfl, HS6.out, Kp.refl _ _⟩
          case round =>
            obtain ⟨wi, rfl⟩ : ∃ wi : World, wi = wr := ⟨_, rfl⟩
            obtain ⟨m, hm, rfl, hsb, hkp⟩ := hrel
            have HSB := Lib.hid hsb
            have HKP := Lib.hid hkp
            have p0 : wi.cell? ⟨wo.heap.size, 0, none⟩ = some (.int .i64 kd) := hkp.cell d0 (by have := HW5.out; dsimp only; omega)
            have s0 : wi.cell? ⟨w5.heap.size, 0, none⟩ = some (.string (natB (accS S D ⟨kd, lt, ins⟩ m))) := hsb.cell 0
            have sf := hsb.fr 0
            have sl := hsb.lt
            by_cases hlm : m < ins.length
            · obtain ⟨b2, off2, rfl, e0'⟩ := HIN.out m hlm
              have hgd2 : ins.getD m 0 = ins[m] := by simp [List.getD_eq_getElem?_getD, hlm]
              have hq := ndOk_ins HNK.out ins[m] (List.getElem_mem hlm)
              have hkk := ins_kind HNK.out (show ins ≠ [] from fun e => by rw [e] at hlm; simp at hlm)
              have hand := fun h => accS_and (S := S) (d := D) (x := ⟨kd, lt, ins⟩) (m := m) hlm h
              have hor := fun h => accS_or (S := S) (d := D) (x := ⟨kd, lt, ins⟩) (m := m) hlm h
              have hbd : ∀ j, accS S D ⟨kd, lt, ins⟩ j ≤ 256 := HPB.out
              simp only at hkk hand hor
              rw [hgd2] at e0'
              generalize ins[m] = y at *
              have hb2w : b2 < w.heap.size := cell_block e0'
              have e1 : w6.cell? ⟨b2, off2 + m, none⟩ = some (.int .i64 y) := by rw [HBW6.out.cell (p := ⟨b2, off2 + m, none⟩) hb2w]; exact e0'
              have e0 : wi.cell? ⟨b2, off2 + m, none⟩ = some (.int .i64 y) := hkp.cell e1 (by have := HWW.out; dsimp only; omega)
              obtain ⟨q, rfl⟩ := Int.eq_ofNat_of_zero_le hq.1
              have hqk : q < k := by have := hq.2; omega
              have HOI := Lib.hid (HO6.out.kept hkp (by intro g hg h; have := HOG.out; simp [Value.ownBlock] at hg; omega))
              have v0 : wi.cell? ⟨w1.heap.size, q, none⟩ = some (.string (natB (S (q : Int)))) := HSQ.out wi HOI.out q hqk
              have hpm := hbd m
              have hpm1 := hbd (m + 1)
              generalize hcm : accS S D ⟨kd, lt, ins⟩ m = P at *
              clear e1 e0' hgd2
              rcases hkk with rfl | rfl
              · have hS2 := HS2.out q hqk
                have hand := hand rfl
                have hmul := mul_any P (S (q : Int)) (by omega) (by omega) (by omega)
                unfold natv at hmul
                have HMUL := Lib.hid hmul
                have HAND := Lib.hid hand
                have hlen := len_any (P * S (q : Int)) (by omega)
                unfold natv at hlen
                have HLEN := Lib.hid hlen
                clear hlen
                have hkq : (q : Int) < (l.length : Int) := by omega
                generalize S (q : Int) = U at *
                clear hmul hand hor hbd hpm hpm1 hS2
                go_wp2_with fail
                go_region_with (go_at_call 134
                                with_reducible refine Calls.mono (HMUL.out _) ?_
                                rintro e v5 ⟨rfl, hb5⟩
                                have hv5 : Below wi.heap.size wi v5 := (Below.refl wi.heap.size wi).drew.trans (hb5.mono (Nat.le_refl _))
                                have hz := HSB.out.later hv5
                                have z0 := hz.cell 0
                                have z1 := hz.fr 0
                                have z2 := hz.lt)
                all_goals
                  have HSB5 : Hid (Blk (v5.setCell ⟨w5.heap.size, 0, none⟩ (.string (natB (P * U)))) w5.heap.size #[.string (natB (P * U))] 32) := hz.set 0 _
                  have HKP5 : Hid (Kp (fun y => y = w5.heap.size) w6 (v5.setCell ⟨w5.heap.size, 0, none⟩ (.string (natB (P * U))))) := Kp.trans (M := fun y => y = w5.heap.size) HKP.out (Kp.trans (M := fun y => y = w5.heap.size) (Kp.below hv5) (Kp.setCell (M := fun y => y = w5.heap.size) _ _ _ rfl))
                  generalize v5.setCell ⟨w5.heap.size, 0, none⟩ (.string (natB (P * U))) = V at *
                  clear z0 z1 z2 hz hv5 hb5
                  have z0 : V.cell? ⟨w5.heap.size, 0, none⟩ = some (.string (natB (P * U))) := HSB5.out.cell 0
                  have zl : w5.heap.size < V.heap.size := HSB5.out.lt
                  go_wp2_with fail
                  refine Calls.mono (HLEN.out _) ?_
                  rintro e v6 ⟨c, rfl, hc, hb6⟩
                  have hcc : decide ((4096 : Int) < (c : Int)) = false := by simp; omega
                  have HB6' := Lib.hid hb6
                  clear hb6
                  go_wp2
                  go_roundw
                  case rel => exact ⟨m + 1, by omega, by go_num, by rw [HAND.out]; exact HSB5.out.later HB6'.out, Kp.trans (M := fun y => y = w5.heap.size) HKP5.out (Kp.below HB6'.out)⟩
                  case measure => simp [intOf]; omega
              · have hS2 := HS2.out q hqk
                have hor := hor rfl
                have hD8 : D (q : Int) ≤ 8 := HD8.out q hqk
                have hp8 : 2 ^ D (q : Int) ≤ 256 := Nat.pow_le_pow_right (by omega) hD8
                have hle : S (q : Int) * 2 ^ D (q : Int) ≤ 256 := by omega
                have hmul := mul_any (S (q : Int)) (2 ^ D (q : Int)) (by omega) (by omega) (by omega)
                have hadd := add_any P (S (q : Int) * 2 ^ D (q : Int)) (by omega) (by omega) (by omega)
                have hpow := pow2_any (D (q : Int)) hD8
                have hlen := len_any (P + S (q : Int) * 2 ^ D (q : Int)) (by omega)
                unfold natv at hlen hmul hadd hpow
                have hvi := HOV6.out.kept hkp (by intro g' hg h; have := HOVB.out; simp [Value.ownBlock] at hg; omega)
                have g0 : wi.cell? ⟨g, k * 2, none⟩ = some (.int .u64 ((vm l (k : Int)).a : Int)) := HVC0.out wi hvi k hlt
                have g1 : wi.cell? ⟨g, k * 2 + 1, none⟩ = some (.int .u64 ((vm l (k : Int)).b : Int)) := HVC1.out wi hvi k hlt
                have g2 : wi.cell? ⟨g, q * 2, none⟩ = some (.int .u64 ((vm l (q : Int)).a : Int)) := HVC0.out wi hvi q (by omega)
                have g3 : wi.cell? ⟨g, q * 2 + 1, none⟩ = some (.int .u64 ((vm l (q : Int)).b : Int)) := HVC1.out wi hvi q (by omega)
                have hok1 := HVOK.out k hlt
                have hok2 := HVOK.out q (by omega)
                have HMIN := Lib.hid (fun V => minus_any (vm l (k : Int)) (vm l (q : Int)) V hok1 hok2)
                have HTI := Lib.hid (HTW.out wi hkp)
                have HMC : Hid ((memS (St.minus (vm l (k : Int)) (vm l (q : Int)))).length = D (q : Int)) := by show _ = _; rw [memS_card, card_min _ hok2, hD]
                have HLST := Lib.hid (fun V (h : Below wi.heap.size wi V) => listLen_any (St.minus (vm l (k : Int)) (vm l (q : Int))) _ V (St.minus_ok hok1) (HTI.out.keep h) HMC.out)
                have hkq : (q : Int) < (l.length : Int) := by omega
                have hkl : (k : Int) < (l.length : Int) := by omega
                have hgi : g < wi.heap.size := hvi.lt.1
                have hoi : w1.heap.size < wi.heap.size := HOI.out.lt.1
                have HMUL := Lib.hid hmul
                have HADD := Lib.hid hadd
                have HPOW := Lib.hid hpow
                have HLEN := Lib.hid hlen
                have HOR := Lib.hid hor
                generalize S (q : Int) = U at *
                generalize D (q : Int) = E at *
                have HD' := Lib.hid hD
                have HS' := Lib.hid hS
                clear hmul hadd hpow hlen hor hand hbd hpm hpm1 hS2 hD8 hp8 hle hok1 hok2 hvi hD hS hcm
                generalize vm l (k : Int) = AA at *
                generalize vm l (q : Int) = BB at *
                have HKS : Hid (∀ w' : World, Kp (fun y => y = w5.heap.size) wi w' → w'.cell? ⟨w1.heap.size, q, none⟩ = some (.string (natB U)) ∧ w'.cell? ⟨g, k * 2, none⟩ = some (.int .u64 (AA.a : Int)) ∧ w'.cell? ⟨g, k * 2 + 1, none⟩ = some (.int .u64 (AA.b : Int)) ∧ w'.cell? ⟨g, q * 2, none⟩ = some (.int .u64 (BB.a : Int)) ∧ w'.cell? ⟨g, q * 2 + 1, none⟩ = some (.int .u64 (BB.b : Int))) := Lib.hid fun w' hk => ⟨hk.cell v0 (by have := HOG.out; dsimp only; omega), hk.cell g0 (by have := HOVB.out; dsimp only; omega), hk.cell g1 (by have := HOVB.out; dsimp only; omega), hk.cell g2 (by have := HOVB.out; dsimp only; omega), hk.cell g3 (by have := HOVB.out; dsimp only; omega)⟩
                go_wp2_with fail
                refine wp_region_held_drew (S := (fun w' => w'.cell? ⟨w1.heap.size, q, none⟩ = some (.string (natB U)) ∧ w'.cell? ⟨g, k * 2, none⟩ = some (.int .u64 (AA.a : Int)) ∧ w'.cell? ⟨g, k * 2 + 1, none⟩ = some (.int .u64 (AA.b : Int)) ∧ w'.cell? ⟨g, q * 2, none⟩ = some (.int .u64 (BB.a : Int)) ∧ w'.cell? ⟨g, q * 2 + 1, none⟩ = some (.int .u64 (BB.b : Int)))) (by kernel_rfl) ?_ (fun hHeld => ?_)
                · try dsimp only
                  exact HKS.out _ (Kp.below (Below.refl _ _).drew)
                refine wpAnyH_take (i := 1) (v := ?_) rfl (by kernel_rfl) (by kernel_rfl) (by kernel_rfl) (fun _ _ _ h => h) (Or.inl ⟨by rfl, ?_⟩) (by assumption) ?_
                rotate_left
                · intro w hSw
                  try dsimp only at hSw
                  first | (go_simp; done) | (go_simp; with_reducible rfl)
                change wpAnyH _ _ _ _ _ _ _ (Act.put _ (some 51) _) _
                try simp only [Act.put, List.setIfInBounds_toArray, List.set_cons_zero, List.set_cons_succ]
                refine wpAnyH_take (i := 2) (v := ?_) rfl (by kernel_rfl) (by kernel_rfl) (by kernel_rfl) (fun _ _ _ h => h) (Or.inl ⟨by rfl, ?_⟩) (by assumption) ?_
                rotate_left
                · intro w hSw
                  try dsimp only at hSw
                  first | (go_simp; done) | (go_simp; with_reducible rfl)
                change wpAnyH _ _ _ _ _ _ _ (Act.put _ (some 52) _) _
                try simp only [Act.put, List.setIfInBounds_toArray, List.set_cons_zero, List.set_cons_succ]
                refine wpAnyH_take (i := 3) (v := ?_) rfl (by kernel_rfl) (by kernel_rfl) (by kernel_rfl) (fun _ _ _ h => h) (Or.inl ⟨by rfl, ?_⟩) (by assumption) ?_
                rotate_left
                · intro w hSw
                  try dsimp only at hSw
                  first | (go_simp; done) | (go_simp; with_reducible rfl)
                change wpAnyH _ _ _ _ _ _ _ (Act.put _ (some 53) _) _
                try simp only [Act.put, List.setIfInBounds_toArray, List.set_cons_zero, List.set_cons_succ]
                refine wpAnyH_take (i := 4) (v := ?_) rfl (by kernel_rfl) (by kernel_rfl) (by kernel_rfl) (fun _ _ _ h => h) (Or.inl ⟨by rfl, ?_⟩) (by assumption) ?_
                rotate_left
                · intro w hSw
                  try dsimp only at hSw
                  first | (go_simp; done) | (go_simp; with_reducible rfl)
                change wpAnyH _ _ _ _ _ _ _ (Act.put _ (some 54) _) _
                try simp only [Act.put, List.setIfInBounds_toArray, List.set_cons_zero, List.set_cons_succ]
                refine wpAnyH_take (i := 5) (v := ?_) rfl (by kernel_rfl) (by kernel_rfl) (by kernel_rfl) (fun _ _ _ h => h) (Or.inl ⟨by rfl, ?_⟩) (by assumption) ?_
                rotate_left
                · intro w hSw
                  try dsimp only at hSw
                  first | (go_simp; done) | (go_simp; with_reducible rfl)
                change wpAnyH _ _ _ _ _ _ _ (Act.put _ (some 55) _) _
                try simp only [Act.put, List.setIfInBounds_toArray, List.set_cons_zero, List.set_cons_succ]
                refine wpAnyH_take (i := 6) (v := ?_) rfl (by kernel_rfl) (by kernel_rfl) (by kernel_rfl) (fun _ _ _ h => h) (Or.inl ⟨by rfl, ?_⟩) (by assumption) ?_
                rotate_left
                · intro w hSw
                  try dsimp only at hSw
                  first | (go_simp; done) | (go_simp; with_reducible rfl)
                change wpAnyH _ _ _ _ _ _ _ (Act.put _ (some 56) _) _
                try simp only [Act.put, List.setIfInBounds_toArray, List.set_cons_zero, List.set_cons_succ]
                refine wpAnyH_take (i := 7) (v := ?_) rfl (by kernel_rfl) (by kernel_rfl) (by kernel_rfl) (fun _ _ _ h => h) (Or.inl ⟨by rfl, ?_⟩) (by assumption) ?_
                rotate_left
                · intro w hSw
                  try dsimp only at hSw
                  first | (go_simp; done) | (go_simp; with_reducible rfl)
                change wpAnyH _ _ _ _ _ _ _ (Act.put _ (some 57) _) _
                try simp only [Act.put, List.setIfInBounds_toArray, List.set_cons_zero, List.set_cons_succ]
                refine wpAnyH_take (i := 8) (v := ?_) rfl (by kernel_rfl) (by kernel_rfl) (by kernel_rfl) (fun _ _ _ h => h) (Or.inl ⟨by rfl, ?_⟩) (by assumption) ?_
                rotate_left
                · intro w hSw
                  try dsimp only at hSw
                  first | (go_simp; done) | (go_simp; with_reducible rfl)
                change wpAnyH _ _ _ _ _ _ _ (Act.put _ (some 58) _) _
                try simp only [Act.put, List.setIfInBounds_toArray, List.set_cons_zero, List.set_cons_succ]
                refine wpAnyH_take (i := 9) (v := ?_) rfl (by kernel_rfl) (by kernel_rfl) (by kernel_rfl) (fun _ _ _ h => h) (Or.inl ⟨by rfl, ?_⟩) (by assumption) ?_
                rotate_left
                · intro w hSw
                  try dsimp only at hSw
                  first | (go_simp; done) | (go_simp; with_reducible rfl)
                change wpAnyH _ _ _ _ _ _ _ (Act.put _ (some 59) _) _
                try simp only [Act.put, List.setIfInBounds_toArray, List.set_cons_zero, List.set_cons_succ]
                refine wpAnyH_take (i := 10) (v := ?_) rfl (by kernel_rfl) (by kernel_rfl) (by kernel_rfl) (fun _ _ _ h => h) (Or.inl ⟨by rfl, ?_⟩) (by assumption) ?_
                rotate_left
                · intro w hSw
                  try dsimp only at hSw
                  first | (go_simp; done) | (go_simp; with_reducible rfl)
                change wpAnyH _ _ _ _ _ _ _ (Act.put _ (some 60) _) _
                try simp only [Act.put, List.setIfInBounds_toArray, List.set_cons_zero, List.set_cons_succ]
                refine wpAnyH_take (i := 11) (v := ?_) rfl (by kernel_rfl) (by kernel_rfl) (by kernel_rfl) (fun _ _ _ h => h) (Or.inl ⟨by rfl, ?_⟩) (by assumption) ?_
                rotate_left
                · intro w hSw
                  try dsimp only at hSw
                  first | (go_simp; done) | (go_simp; with_reducible rfl)
                change wpAnyH _ _ _ _ _ _ _ (Act.put _ (some 61) _) _
                try simp only [Act.put, List.setIfInBounds_toArray, List.set_cons_zero, List.set_cons_succ]
                refine wpAnyH_take (i := 12) (v := ?_) rfl (by kernel_rfl) (by kernel_rfl) (by kernel_rfl) (fun _ _ _ h => h) (Or.inl ⟨by rfl, ?_⟩) (by assumption) ?_
                rotate_left
                · intro w hSw
                  try dsimp only at hSw
                  first | (go_simp; done) | (go_simp; with_reducible rfl)
                change wpAnyH _ _ _ _ _ _ _ (Act.put _ (some 62) _) _
                try simp only [Act.put, List.setIfInBounds_toArray, List.set_cons_zero, List.set_cons_succ]
                refine wpAnyH_ready (rs := [0, 13]) (by kernel_rfl) (by simp) ?_
                refine AllReadyH.cons rfl (fun K hK => ?_) (AllReadyH.cons rfl (fun K hK => ?_) AllReadyH.nil)
                · go_simp
                  refine hK.out _ _ ?_ (fun hHeld => ?_)
                  · try dsimp only
                    exact HKS.out _ (Kp.below (Below.refl _ _).drew)
                  clear hK K
                  try simp only [Act.put, List.setIfInBounds_toArray, List.set_cons_zero, List.set_cons_succ]
                  refine wpAnyH_ready (rs := [13]) (by kernel_rfl) (by simp) ?_
                  refine AllReadyH.cons rfl (fun K hK => ?_) AllReadyH.nil
                  go_simp
                  go_at_call 128
                  refine Calls.mono (HMIN.out _) ?_
                  rintro e v5 ⟨rfl, hb5⟩
                  have hv5 : Below wi.heap.size wi v5 := (Below.refl wi.heap.size wi).drew.trans (hb5.mono (Nat.le_refl _))
                  have y5 := (HSB.out.later hv5).cell 0
                  have y5l := (HSB.out.later hv5).lt
                  go_wp2_with fail
                  refine hK.out _ _ ?_ (fun hHeld => ?_)
                  · try dsimp only
                    exact HKS.out _ (Kp.below hv5)
                  clear hK K
                  try simp only [Act.put, List.setIfInBounds_toArray, List.set_cons_zero, List.set_cons_succ]
                  refine wpAnyH_ready (rs := [14]) (by kernel_rfl) (by simp) ?_
                  refine AllReadyH.cons rfl (fun K hK => ?_) AllReadyH.nil
                  go_simp
                  go_at_call 127
                  refine Calls.mono (HLST.out _ hv5) ?_
                  rintro e v6 ⟨ao, capv, rfl, hb6⟩
                  have hv6 : Below wi.heap.size wi v6 := hv5.trans (hb6.mono hv5.size)
                  have y6 := (HSB.out.later hv6).cell 0
                  have y6l := (HSB.out.later hv6).lt
                  go_wp2_with fail
                  refine hK.out _ _ ?_ (fun hHeld => ?_)
                  · try dsimp only
                    exact HKS.out _ (Kp.below hv6)
                  clear hK K
                  try simp only [Act.put, List.setIfInBounds_toArray, List.set_cons_zero, List.set_cons_succ]
                  refine wpAnyH_take (i := 15) (v := ?_) rfl (by kernel_rfl) (by kernel_rfl) (by kernel_rfl) (fun _ _ _ h => h) (Or.inl ⟨by rfl, ?_⟩) (by assumption) ?_
                  rotate_left
                  · intro w hSw
                    try dsimp only at hSw
                    first | (go_simp; done) | (go_simp; with_reducible rfl)
                  change wpAnyH _ _ _ _ _ _ _ (Act.put _ (some 65) _) _
                  try simp only [Act.put, List.setIfInBounds_toArray, List.set_cons_zero, List.set_cons_succ]
                  refine wpAnyH_ready (rs := [16]) (by kernel_rfl) (by simp) ?_
                  refine AllReadyH.cons rfl (fun K hK => ?_) AllReadyH.nil
                  go_simp
                  go_at_call 23
                  refine Calls.mono (HPOW.out _) ?_
                  rintro e v7 ⟨rfl, hb7⟩
                  have hv7 : Below wi.heap.size wi v7 := hv6.trans (hb7.mono hv6.size)
                  have y7 := (HSB.out.later hv7).cell 0
                  have y7l := (HSB.out.later hv7).lt
                  go_wp2_with fail
                  refine hK.out _ _ ?_ (fun hHeld => ?_)
                  · try dsimp only
                    exact HKS.out _ (Kp.below hv7)
                  clear hK K
                  try simp only [Act.put, List.setIfInBounds_toArray, List.set_cons_zero, List.set_cons_succ]
                  refine wpAnyH_ready (rs := [17]) (by kernel_rfl) (by simp) ?_
                  refine AllReadyH.cons rfl (fun K hK => ?_) AllReadyH.nil
                  go_simp
                  go_at_call 134
                  with_reducible refine Calls.mono (HMUL.out _) ?_
                  rintro e v8 ⟨rfl, hb8⟩
                  have hv8 : Below wi.heap.size wi v8 := hv7.trans (hb8.mono hv7.size)
                  have y8 := (HSB.out.later hv8).cell 0
                  have y8l := (HSB.out.later hv8).lt
                  go_wp2_with fail
                  refine hK.out _ _ ?_ (fun hHeld => ?_)
                  · try dsimp only
                    exact HKS.out _ (Kp.below hv8)
                  clear hK K
                  try simp only [Act.put, List.setIfInBounds_toArray, List.set_cons_zero, List.set_cons_succ]
                  refine wpAnyH_ready (rs := [18]) (by kernel_rfl) (by simp) ?_
                  refine AllReadyH.cons rfl (fun K hK => ?_) AllReadyH.nil
                  go_simp
                  go_at_call 133
                  with_reducible refine Calls.mono (HADD.out _) ?_
                  rintro e v9 ⟨rfl, hb9⟩
                  have hv9 : Below wi.heap.size wi v9 := hv8.trans (hb9.mono hv8.size)
                  have y9 := (HSB.out.later hv9).cell 0
                  have y9f := (HSB.out.later hv9).fr 0
                  have y9l := (HSB.out.later hv9).lt
                  go_wp2_with fail
                  refine hK.out _ _ ?_ (fun hHeld => ?_)
                  · try dsimp only
                    exact HKS.out _ (Kp.below hv9)
                  clear hK K
                  try simp only [Act.put, List.setIfInBounds_toArray, List.set_cons_zero, List.set_cons_succ]
                  refine wpAnyH_ready (rs := [19]) (by kernel_rfl) (by simp) ?_
                  refine AllReadyH.cons rfl (fun K hK => ?_) AllReadyH.nil
                  go_simp
                  refine hK.out _ _ ?_ (fun hHeld => ?_)
                  · try dsimp only
                    exact HKS.out _ (Kp.trans (M := fun y => y = w5.heap.size) (Kp.below hv9) (Kp.setCell (M := fun y => y = w5.heap.size) _ _ _ rfl))
                  clear hK K
                  try simp only [Act.put, List.setIfInBounds_toArray, List.set_cons_zero, List.set_cons_succ]
                  refine wpAnyH_done (by kernel_rfl) ?_ _
                  have HSB5 : Hid (Blk (v9.setCell ⟨w5.heap.size, 0, none⟩ (.string (natB (P + U * 2 ^ E)))) w5.heap.size #[.string (natB (P + U * 2 ^ E))] 32) := (HSB.out.later hv9).set 0 _
                  have HKP5 : Hid (Kp (fun y => y = w5.heap.size) w6 (v9.setCell ⟨w5.heap.size, 0, none⟩ (.string (natB (P + U * 2 ^ E))))) := Kp.trans (M := fun y => y = w5.heap.size) HKP.out (Kp.trans (M := fun y => y = w5.heap.size) (Kp.below hv9) (Kp.setCell (M := fun y => y = w5.heap.size) _ _ _ rfl))
                  generalize v9.setCell ⟨w5.heap.size, 0, none⟩ (.string (natB (P + U * 2 ^ E))) = V at *
                  clear y5 y6 y7 y8 y9 y9f
                  have z0 : V.cell? ⟨w5.heap.size, 0, none⟩ = some (.string (natB (P + U * 2 ^ E))) := HSB5.out.cell 0
                  have zl : w5.heap.size < V.heap.size := HSB5.out.lt
                  go_wp2_with fail
                  refine Calls.mono (HLEN.out _) ?_
                  rintro e v10 ⟨c, rfl, hc, hb10⟩
                  have hcc : decide ((4096 : Int) < (c : Int)) = false := by simp; omega
                  have HB6' := Lib.hid hb10
                  clear hb10
                  go_wp2
                  go_roundw
                  case rel => exact ⟨m + 1, by omega, by go_num, by rw [HOR.out]; exact HSB5.out.later HB6'.out, Kp.trans (M := fun y => y = w5.heap.size) HKP5.out (Kp.below HB6'.out)⟩
                  case measure => simp [intOf]; omega
                · go_simp
                  go_at_call 128
                  refine Calls.mono (HMIN.out _) ?_
                  rintro e v5 ⟨rfl, hb5⟩
                  have hv5 : Below wi.heap.size wi v5 := (Below.refl wi.heap.size wi).drew.trans (hb5.mono (Nat.le_refl _))
                  have y5 := (HSB.out.later hv5).cell 0
                  have y5l := (HSB.out.later hv5).lt
                  go_wp2_with fail
                  refine hK.out _ _ ?_ (fun hHeld => ?_)
                  · try dsimp only
                    exact HKS.out _ (Kp.below hv5)
                  clear hK K
                  try simp only [Act.put, List.setIfInBounds_toArray, List.set_cons_zero, List.set_cons_succ]
                  refine wpAnyH_ready (rs := [0, 14]) (by kernel_rfl) (by simp) ?_
                  refine AllReadyH.cons rfl (fun K hK => ?_) (AllReadyH.cons rfl (fun K hK => ?_) AllReadyH.nil)
                  · go_simp
                    refine hK.out _ _ ?_ (fun hHeld => ?_)
                    · try dsimp only
                      exact HKS.out _ (Kp.below hv5)
                    clear hK K
                    try simp only [Act.put, List.setIfInBounds_toArray, List.set_cons_zero, List.set_cons_succ]
                    refine wpAnyH_ready (rs := [14]) (by kernel_rfl) (by simp) ?_
                    refine AllReadyH.cons rfl (fun K hK => ?_) AllReadyH.nil
                    go_simp
                    go_at_call 127
                    refine Calls.mono (HLST.out _ hv5) ?_
                    rintro e v6 ⟨ao, capv, rfl, hb6⟩
                    have hv6 : Below wi.heap.size wi v6 := hv5.trans (hb6.mono hv5.size)
                    have y6 := (HSB.out.later hv6).cell 0
                    have y6l := (HSB.out.later hv6).lt
                    go_wp2_with fail
                    refine hK.out _ _ ?_ (fun hHeld => ?_)
                    · try dsimp only
                      exact HKS.out _ (Kp.below hv6)
                    clear hK K
                    try simp only [Act.put, List.setIfInBounds_toArray, List.set_cons_zero, List.set_cons_succ]
                    refine wpAnyH_take (i := 15) (v := ?_) rfl (by kernel_rfl) (by kernel_rfl) (by kernel_rfl) (fun _ _ _ h => h) (Or.inl ⟨by rfl, ?_⟩) (by assumption) ?_
                    rotate_left
                    · intro w hSw
                      try dsimp only at hSw
                      first | (go_simp; done) | (go_simp; with_reducible rfl)
                    change wpAnyH _ _ _ _ _ _ _ (Act.put _ (some 65) _) _
                    try simp only [Act.put, List.setIfInBounds_toArray, List.set_cons_zero, List.set_cons_succ]
                    refine wpAnyH_ready (rs := [16]) (by kernel_rfl) (by simp) ?_
                    refine AllReadyH.cons rfl (fun K hK => ?_) AllReadyH.nil
                    go_simp
                    go_at_call 23
                    refine Calls.mono (HPOW.out _) ?_
                    rintro e v7 ⟨rfl, hb7⟩
                    have hv7 : Below wi.heap.size wi v7 := hv6.trans (hb7.mono hv6.size)
                    have y7 := (HSB.out.later hv7).cell 0
                    have y7l := (HSB.out.later hv7).lt
                    go_wp2_with fail
                    refine hK.out _ _ ?_ (fun hHeld => ?_)
                    · try dsimp only
                      exact HKS.out _ (Kp.below hv7)
                    clear hK K
                    try simp only [Act.put, List.setIfInBounds_toArray, List.set_cons_zero, List.set_cons_succ]
                    refine wpAnyH_ready (rs := [17]) (by kernel_rfl) (by simp) ?_
                    refine AllReadyH.cons rfl (fun K hK => ?_) AllReadyH.nil
                    go_simp
                    go_at_call 134
                    with_reducible refine Calls.mono (HMUL.out _) ?_
                    rintro e v8 ⟨rfl, hb8⟩
                    have hv8 : Below wi.heap.size wi v8 := hv7.trans (hb8.mono hv7.size)
                    have y8 := (HSB.out.later hv8).cell 0
                    have y8l := (HSB.out.later hv8).lt
                    go_wp2_with fail
                    refine hK.out _ _ ?_ (fun hHeld => ?_)
                    · try dsimp only
                      exact HKS.out _ (Kp.below hv8)
                    clear hK K
                    try simp only [Act.put, List.setIfInBounds_toArray, List.set_cons_zero, List.set_cons_succ]
                    refine wpAnyH_ready (rs := [18]) (by kernel_rfl) (by simp) ?_
                    refine AllReadyH.cons rfl (fun K hK => ?_) AllReadyH.nil
                    go_simp
                    go_at_call 133
                    with_reducible refine Calls.mono (HADD.out _) ?_
                    rintro e v9 ⟨rfl, hb9⟩
                    have hv9 : Below wi.heap.size wi v9 := hv8.trans (hb9.mono hv8.size)
                    have y9 := (HSB.out.later hv9).cell 0
                    have y9f := (HSB.out.later hv9).fr 0
                    have y9l := (HSB.out.later hv9).lt
                    go_wp2_with fail
                    refine hK.out _ _ ?_ (fun hHeld => ?_)
                    · try dsimp only
                      exact HKS.out _ (Kp.below hv9)
                    clear hK K
                    try simp only [Act.put, List.setIfInBounds_toArray, List.set_cons_zero, List.set_cons_succ]
                    refine wpAnyH_ready (rs := [19]) (by kernel_rfl) (by simp) ?_
                    refine AllReadyH.cons rfl (fun K hK => ?_) AllReadyH.nil
                    go_simp
                    refine hK.out _ _ ?_ (fun hHeld => ?_)
                    · try dsimp only
                      exact HKS.out _ (Kp.trans (M := fun y => y = w5.heap.size) (Kp.below hv9) (Kp.setCell (M := fun y => y = w5.heap.size) _ _ _ rfl))
                    clear hK K
                    try simp only [Act.put, List.setIfInBounds_toArray, List.set_cons_zero, List.set_cons_succ]
                    refine wpAnyH_done (by kernel_rfl) ?_ _
                    have HSB5 : Hid (Blk (v9.setCell ⟨w5.heap.size, 0, none⟩ (.string (natB (P + U * 2 ^ E)))) w5.heap.size #[.string (natB (P + U * 2 ^ E))] 32) := (HSB.out.later hv9).set 0 _
                    have HKP5 : Hid (Kp (fun y => y = w5.heap.size) w6 (v9.setCell ⟨w5.heap.size, 0, none⟩ (.string (natB (P + U * 2 ^ E))))) := Kp.trans (M := fun y => y = w5.heap.size) HKP.out (Kp.trans (M := fun y => y = w5.heap.size) (Kp.below hv9) (Kp.setCell (M := fun y => y = w5.heap.size) _ _ _ rfl))
                    generalize v9.setCell ⟨w5.heap.size, 0, none⟩ (.string (natB (P + U * 2 ^ E))) = V at *
                    clear y5 y6 y7 y8 y9 y9f
                    have z0 : V.cell? ⟨w5.heap.size, 0, none⟩ = some (.string (natB (P + U * 2 ^ E))) := HSB5.out.cell 0
                    have zl : w5.heap.size < V.heap.size := HSB5.out.lt
                    go_wp2_with fail
                    refine Calls.mono (HLEN.out _) ?_
                    rintro e v10 ⟨c, rfl, hc, hb10⟩
                    have hcc : decide ((4096 : Int) < (c : Int)) = false := by simp; omega
                    have HB6' := Lib.hid hb10
                    clear hb10
                    go_wp2
                    go_roundw
                    case rel => exact ⟨m + 1, by omega, by go_num, by rw [HOR.out]; exact HSB5.out.later HB6'.out, Kp.trans (M := fun y => y = w5.heap.size) HKP5.out (Kp.below HB6'.out)⟩
                    case measure => simp [intOf]; omega
                  · go_simp
                    go_at_call 127
                    refine Calls.mono (HLST.out _ hv5) ?_
                    rintro e v6 ⟨ao, capv, rfl, hb6⟩
                    have hv6 : Below wi.heap.size wi v6 := hv5.trans (hb6.mono hv5.size)
                    have y6 := (HSB.out.later hv6).cell 0
                    have y6l := (HSB.out.later hv6).lt
                    go_wp2_with fail
                    refine hK.out _ _ ?_ (fun hHeld => ?_)
                    · try dsimp only
                      exact HKS.out _ (Kp.below hv6)
                    clear hK K
                    try simp only [Act.put, List.setIfInBounds_toArray, List.set_cons_zero, List.set_cons_succ]
                    refine wpAnyH_take (i := 15) (v := ?_) rfl (by kernel_rfl) (by kernel_rfl) (by kernel_rfl) (fun _ _ _ h => h) (Or.inl ⟨by rfl, ?_⟩) (by assumption) ?_
                    rotate_left
                    · intro w hSw
                      try dsimp only at hSw
                      first | (go_simp; done) | (go_simp; with_reducible rfl)
                    change wpAnyH _ _ _ _ _ _ _ (Act.put _ (some 65) _) _
                    try simp only [Act.put, List.setIfInBounds_toArray, List.set_cons_zero, List.set_cons_succ]
                    refine wpAnyH_ready (rs := [0, 16]) (by kernel_rfl) (by simp) ?_
                    refine AllReadyH.cons rfl (fun K hK => ?_) (AllReadyH.cons rfl (fun K hK => ?_) AllReadyH.nil)
                    · go_simp
                      refine hK.out _ _ ?_ (fun hHeld => ?_)
                      · try dsimp only
                        exact HKS.out _ (Kp.below hv6)
                      clear hK K
                      try simp only [Act.put, List.setIfInBounds_toArray, List.set_cons_zero, List.set_cons_succ]
                      refine wpAnyH_ready (rs := [16]) (by kernel_rfl) (by simp) ?_
                      refine AllReadyH.cons rfl (fun K hK => ?_) AllReadyH.nil
                      go_simp
                      go_at_call 23
                      refine Calls.mono (HPOW.out _) ?_
                      rintro e v7 ⟨rfl, hb7⟩
                      have hv7 : Below wi.heap.size wi v7 := hv6.trans (hb7.mono hv6.size)
                      have y7 := (HSB.out.later hv7).cell 0
                      have y7l := (HSB.out.later hv7).lt
                      go_wp2_with fail
                      refine hK.out _ _ ?_ (fun hHeld => ?_)
                      · try dsimp only
                        exact HKS.out _ (Kp.below hv7)
                      clear hK K
                      try simp only [Act.put, List.setIfInBounds_toArray, List.set_cons_zero, List.set_cons_succ]
                      refine wpAnyH_ready (rs := [17]) (by kernel_rfl) (by simp) ?_
                      refine AllReadyH.cons rfl (fun K hK => ?_) AllReadyH.nil
                      go_simp
                      go_at_call 134
                      with_reducible refine Calls.mono (HMUL.out _) ?_
                      rintro e v8 ⟨rfl, hb8⟩
                      have hv8 : Below wi.heap.size wi v8 := hv7.trans (hb8.mono hv7.size)
                      have y8 := (HSB.out.later hv8).cell 0
                      have y8l := (HSB.out.later hv8).lt
                      go_wp2_with fail
                      refine hK.out _ _ ?_ (fun hHeld => ?_)
                      · try dsimp only
                        exact HKS.out _ (Kp.below hv8)
                      clear hK K
                      try simp only [Act.put, List.setIfInBounds_toArray, List.set_cons_zero, List.set_cons_succ]
                      refine wpAnyH_ready (rs := [18]) (by kernel_rfl) (by simp) ?_
                      refine AllReadyH.cons rfl (fun K hK => ?_) AllReadyH.nil
                      go_simp
                      go_at_call 133
                      with_reducible refine Calls.mono (HADD.out _) ?_
                      rintro e v9 ⟨rfl, hb9⟩
                      have hv9 : Below wi.heap.size wi v9 := hv8.trans (hb9.mono hv8.size)
                      have y9 := (HSB.out.later hv9).cell 0
                      have y9f := (HSB.out.later hv9).fr 0
                      have y9l := (HSB.out.later hv9).lt
                      go_wp2_with fail
                      refine hK.out _ _ ?_ (fun hHeld => ?_)
                      · try dsimp only
                        exact HKS.out _ (Kp.below hv9)
                      clear hK K
                      try simp only [Act.put, List.setIfInBounds_toArray, List.set_cons_zero, List.set_cons_succ]
                      refine wpAnyH_ready (rs := [19]) (by kernel_rfl) (by simp) ?_
                      refine AllReadyH.cons rfl (fun K hK => ?_) AllReadyH.nil
                      go_simp
                      refine hK.out _ _ ?_ (fun hHeld => ?_)
                      · try dsimp only
                        exact HKS.out _ (Kp.trans (M := fun y => y = w5.heap.size) (Kp.below hv9) (Kp.setCell (M := fun y => y = w5.heap.size) _ _ _ rfl))
                      clear hK K
                      try simp only [Act.put, List.setIfInBounds_toArray, List.set_cons_zero, List.set_cons_succ]
                      refine wpAnyH_done (by kernel_rfl) ?_ _
                      have HSB5 : Hid (Blk (v9.setCell ⟨w5.heap.size, 0, none⟩ (.string (natB (P + U * 2 ^ E)))) w5.heap.size #[.string (natB (P + U * 2 ^ E))] 32) := (HSB.out.later hv9).set 0 _
                      have HKP5 : Hid (Kp (fun y => y = w5.heap.size) w6 (v9.setCell ⟨w5.heap.size, 0, none⟩ (.string (natB (P + U * 2 ^ E))))) := Kp.trans (M := fun y => y = w5.heap.size) HKP.out (Kp.trans (M := fun y => y = w5.heap.size) (Kp.below hv9) (Kp.setCell (M := fun y => y = w5.heap.size) _ _ _ rfl))
                      generalize v9.setCell ⟨w5.heap.size, 0, none⟩ (.string (natB (P + U * 2 ^ E))) = V at *
                      clear y5 y6 y7 y8 y9 y9f
                      have z0 : V.cell? ⟨w5.heap.size, 0, none⟩ = some (.string (natB (P + U * 2 ^ E))) := HSB5.out.cell 0
                      have zl : w5.heap.size < V.heap.size := HSB5.out.lt
                      go_wp2_with fail
                      refine Calls.mono (HLEN.out _) ?_
                      rintro e v10 ⟨c, rfl, hc, hb10⟩
                      have hcc : decide ((4096 : Int) < (c : Int)) = false := by simp; omega
                      have HB6' := Lib.hid hb10
                      clear hb10
                      go_wp2
                      go_roundw
                      case rel => exact ⟨m + 1, by omega, by go_num, by rw [HOR.out]; exact HSB5.out.later HB6'.out, Kp.trans (M := fun y => y = w5.heap.size) HKP5.out (Kp.below HB6'.out)⟩
                      case measure => simp [intOf]; omega
                    · go_simp
                      go_at_call 23
                      refine Calls.mono (HPOW.out _) ?_
                      rintro e v7 ⟨rfl, hb7⟩
                      have hv7 : Below wi.heap.size wi v7 := hv6.trans (hb7.mono hv6.size)
                      have y7 := (HSB.out.later hv7).cell 0
                      have y7l := (HSB.out.later hv7).lt
                      go_wp2_with fail
                      refine hK.out _ _ ?_ (fun hHeld => ?_)
                      · try dsimp only
                        exact HKS.out _ (Kp.below hv7)
                      clear hK K
                      try simp only [Act.put, List.setIfInBounds_toArray, List.set_cons_zero, List.set_cons_succ]
                      refine wpAnyH_ready (rs := [0, 17]) (by kernel_rfl) (by simp) ?_
                      refine AllReadyH.cons rfl (fun K hK => ?_) (AllReadyH.cons rfl (fun K hK => ?_) AllReadyH.nil)
                      · go_simp
                        refine hK.out _ _ ?_ (fun hHeld => ?_)
                        · try dsimp only
                          exact HKS.out _ (Kp.below hv7)
                        clear hK K
                        try simp only [Act.put, List.setIfInBounds_toArray, List.set_cons_zero, List.set_cons_succ]
                        refine wpAnyH_ready (rs := [17]) (by kernel_rfl) (by simp) ?_
                        refine AllReadyH.cons rfl (fun K hK => ?_) AllReadyH.nil
                        go_simp
                        go_at_call 134
                        with_reducible refine Calls.mono (HMUL.out _) ?_
                        rintro e v8 ⟨rfl, hb8⟩
                        have hv8 : Below wi.heap.size wi v8 := hv7.trans (hb8.mono hv7.size)
                        have y8 := (HSB.out.later hv8).cell 0
                        have y8l := (HSB.out.later hv8).lt
                        go_wp2_with fail
                        refine hK.out _ _ ?_ (fun hHeld => ?_)
                        · try dsimp only
                          exact HKS.out _ (Kp.below hv8)
                        clear hK K
                        try simp only [Act.put, List.setIfInBounds_toArray, List.set_cons_zero, List.set_cons_succ]
                        refine wpAnyH_ready (rs := [18]) (by kernel_rfl) (by simp) ?_
                        refine AllReadyH.cons rfl (fun K hK => ?_) AllReadyH.nil
                        go_simp
                        go_at_call 133
                        with_reducible refine Calls.mono (HADD.out _) ?_
                        rintro e v9 ⟨rfl, hb9⟩
                        have hv9 : Below wi.heap.size wi v9 := hv8.trans (hb9.mono hv8.size)
                        have y9 := (HSB.out.later hv9).cell 0
                        have y9f := (HSB.out.later hv9).fr 0
                        have y9l := (HSB.out.later hv9).lt
                        go_wp2_with fail
                        refine hK.out _ _ ?_ (fun hHeld => ?_)
                        · try dsimp only
                          exact HKS.out _ (Kp.below hv9)
                        clear hK K
                        try simp only [Act.put, List.setIfInBounds_toArray, List.set_cons_zero, List.set_cons_succ]
                        refine wpAnyH_ready (rs := [19]) (by kernel_rfl) (by simp) ?_
                        refine AllReadyH.cons rfl (fun K hK => ?_) AllReadyH.nil
                        go_simp
                        refine hK.out _ _ ?_ (fun hHeld => ?_)
                        · try dsimp only
                          exact HKS.out _ (Kp.trans (M := fun y => y = w5.heap.size) (Kp.below hv9) (Kp.setCell (M := fun y => y = w5.heap.size) _ _ _ rfl))
                        clear hK K
                        try simp only [Act.put, List.setIfInBounds_toArray, List.set_cons_zero, List.set_cons_succ]
                        refine wpAnyH_done (by kernel_rfl) ?_ _
                        have HSB5 : Hid (Blk (v9.setCell ⟨w5.heap.size, 0, none⟩ (.string (natB (P + U * 2 ^ E)))) w5.heap.size #[.string (natB (P + U * 2 ^ E))] 32) := (HSB.out.later hv9).set 0 _
                        have HKP5 : Hid (Kp (fun y => y = w5.heap.size) w6 (v9.setCell ⟨w5.heap.size, 0, none⟩ (.string (natB (P + U * 2 ^ E))))) := Kp.trans (M := fun y => y = w5.heap.size) HKP.out (Kp.trans (M := fun y => y = w5.heap.size) (Kp.below hv9) (Kp.setCell (M := fun y => y = w5.heap.size) _ _ _ rfl))
                        generalize v9.setCell ⟨w5.heap.size, 0, none⟩ (.string (natB (P + U * 2 ^ E))) = V at *
                        clear y5 y6 y7 y8 y9 y9f
                        have z0 : V.cell? ⟨w5.heap.size, 0, none⟩ = some (.string (natB (P + U * 2 ^ E))) := HSB5.out.cell 0
                        have zl : w5.heap.size < V.heap.size := HSB5.out.lt
                        go_wp2_with fail
                        refine Calls.mono (HLEN.out _) ?_
                        rintro e v10 ⟨c, rfl, hc, hb10⟩
                        have hcc : decide ((4096 : Int) < (c : Int)) = false := by simp; omega
                        have HB6' := Lib.hid hb10
                        clear hb10
                        go_wp2
                        go_roundw
                        case rel => exact ⟨m + 1, by omega, by go_num, by rw [HOR.out]; exact HSB5.out.later HB6'.out, Kp.trans (M := fun y => y = w5.heap.size) HKP5.out (Kp.below HB6'.out)⟩
                        case measure => simp [intOf]; omega
                      · go_simp
                        go_at_call 134
                        with_reducible refine Calls.mono (HMUL.out _) ?_
                        rintro e v8 ⟨rfl, hb8⟩
                        have hv8 : Below wi.heap.size wi v8 := hv7.trans (hb8.mono hv7.size)
                        have y8 := (HSB.out.later hv8).cell 0
                        have y8l := (HSB.out.later hv8).lt
                        go_wp2_with fail
                        refine hK.out _ _ ?_ (fun hHeld => ?_)
                        · try dsimp only
                          exact HKS.out _ (Kp.below hv8)
                        clear hK K
                        try simp only [Act.put, List.setIfInBounds_toArray, List.set_cons_zero, List.set_cons_succ]
                        refine wpAnyH_ready (rs := [0]) (by kernel_rfl) (by simp) ?_
                        refine AllReadyH.cons rfl (fun K hK => ?_) AllReadyH.nil
                        go_simp
                        refine hK.out _ _ ?_ (fun hHeld => ?_)
                        · try dsimp only
                          exact HKS.out _ (Kp.below hv8)
                        clear hK K
                        try simp only [Act.put, List.setIfInBounds_toArray, List.set_cons_zero, List.set_cons_succ]
                        refine wpAnyH_ready (rs := [18]) (by kernel_rfl) (by simp) ?_
                        refine AllReadyH.cons rfl (fun K hK => ?_) AllReadyH.nil
                        go_simp
                        go_at_call 133
                        with_reducible refine Calls.mono (HADD.out _) ?_
                        rintro e v9 ⟨rfl, hb9⟩
                        have hv9 : Below wi.heap.size wi v9 := hv8.trans (hb9.mono hv8.size)
                        have y9 := (HSB.out.later hv9).cell 0
                        have y9f := (HSB.out.later hv9).fr 0
                        have y9l := (HSB.out.later hv9).lt
                        go_wp2_with fail
                        refine hK.out _ _ ?_ (fun hHeld => ?_)
                        · try dsimp only
                          exact HKS.out _ (Kp.below hv9)
                        clear hK K
                        try simp only [Act.put, List.setIfInBounds_toArray, List.set_cons_zero, List.set_cons_succ]
                        refine wpAnyH_ready (rs := [19]) (by kernel_rfl) (by simp) ?_
                        refine AllReadyH.cons rfl (fun K hK => ?_) AllReadyH.nil
                        go_simp
                        refine hK.out _ _ ?_ (fun hHeld => ?_)
                        · try dsimp only
                          exact HKS.out _ (Kp.trans (M := fun y => y = w5.heap.size) (Kp.below hv9) (Kp.setCell (M := fun y => y = w5.heap.size) _ _ _ rfl))
                        clear hK K
                        try simp only [Act.put, List.setIfInBounds_toArray, List.set_cons_zero, List.set_cons_succ]
                        refine wpAnyH_done (by kernel_rfl) ?_ _
                        have HSB5 : Hid (Blk (v9.setCell ⟨w5.heap.size, 0, none⟩ (.string (natB (P + U * 2 ^ E)))) w5.heap.size #[.string (natB (P + U * 2 ^ E))] 32) := (HSB.out.later hv9).set 0 _
                        have HKP5 : Hid (Kp (fun y => y = w5.heap.size) w6 (v9.setCell ⟨w5.heap.size, 0, none⟩ (.string (natB (P + U * 2 ^ E))))) := Kp.trans (M := fun y => y = w5.heap.size) HKP.out (Kp.trans (M := fun y => y = w5.heap.size) (Kp.below hv9) (Kp.setCell (M := fun y => y = w5.heap.size) _ _ _ rfl))
                        generalize v9.setCell ⟨w5.heap.size, 0, none⟩ (.string (natB (P + U * 2 ^ E))) = V at *
                        clear y5 y6 y7 y8 y9 y9f
                        have z0 : V.cell? ⟨w5.heap.size, 0, none⟩ = some (.string (natB (P + U * 2 ^ E))) := HSB5.out.cell 0
                        have zl : w5.heap.size < V.heap.size := HSB5.out.lt
                        go_wp2_with fail
                        refine Calls.mono (HLEN.out _) ?_
                        rintro e v10 ⟨c, rfl, hc, hb10⟩
                        have hcc : decide ((4096 : Int) < (c : Int)) = false := by simp; omega
                        have HB6' := Lib.hid hb10
                        clear hb10
                        go_wp2
                        go_roundw
                        case rel => exact ⟨m + 1, by omega, by go_num, by rw [HOR.out]; exact HSB5.out.later HB6'.out, Kp.trans (M := fun y => y = w5.heap.size) HKP5.out (Kp.below HB6'.out)⟩
                        case measure => simp [intOf]; omega
            · have : m = ins.length := by omega
              subst this
              have hoi := HO6.out.kept hkp (by intro g hg h; have := HOG.out; simp [Value.ownBlock] at hg; omega)
              rw [HRP.out] at hoi
              rw [HEND.out] at s0
              have o0 : wi.cell? ⟨w1.heap.size, k, none⟩ = some (.string (natB 0)) := by
                have := hoi.mid HTL.out HNL.out natc_len 0 (by omega)
                simpa [natc] using this
              have o1 := hoi.fr HNL.out k
              have ol := hoi.lt.1
              have HOI2 := Lib.hid (hoi.midput1 HTL.out HNL.out natc_len (S (k : Int)) (.string (natB (S (k : Int)))) rfl)
              have HB8 : Hid (Below w1.heap.size w2 wi) := HB.out.trans ((HB7.out.mono (by omega)).trans (hkp.toBelow (by omega) (by intro y hy h; have := HOG.out; omega)))
              have hkl : (k : Int) < (l.length : Int) := by omega
              clear hoi
              go_wp2
              go_roundw
              case rel =>
                refine ⟨k + 1, by omega, by go_num, ?_, HB8.out.setCell (Nat.le_refl _) _⟩
                rw [HTK.out, List.append_assoc]
                have h9 := HOI2.out
                rw [hS] at h9 ⊢
                exact h9
              case measure => simp [intOf]; omega
    · have : k = l.length := by omega
      subst this
      go_wp2
      go_ret
      exact ⟨rfl, HBA.out⟩
end Go.Proofs.YtkaojolofaanfaaGreatDoor
