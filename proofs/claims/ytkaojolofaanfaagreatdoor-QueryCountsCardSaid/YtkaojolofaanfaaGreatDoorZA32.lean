/- Part of the proofs that laws of censuslaw38 return true for every input, where the tables that the rows list are laid. Texts: Sum. -/
import Derived.Test.YtkaojolofaanfaaGreatDoorZA31

/- The walk of count.sum at numbers(0), at small deterministic nets. -/
namespace Go.Proofs.YtkaojolofaanfaaGreatDoor
open Go.RowKit Cen
set_option maxHeartbeats 40000000
set_option maxRecDepth 100000
theorem countP_lt (N : Nat) : ∀ m, (List.range m).countP (fun j => decide (j < N)) = min N m
  | 0 => by simp
  | m + 1 => by
    rw [List.range_succ, List.countP_append, countP_lt N m]
    by_cases h : m < N
    · simp [h]; omega
    · simp [h]; omega
theorem card_allSt {N : Nat} (h : N ≤ 128) : card (allSt (N : Int)) = N := by
  have e : card (allSt (N : Int)) = (List.range 128).countP (fun j => decide (j < N)) := by
    unfold card
    apply List.countP_congr
    intro j hj
    rw [List.mem_range] at hj
    rw [allSt_mem]; simp; omega
  rw [e, countP_lt]; omega
structure SEnv (w V : World) (P G Q B N : Nat) (a : Option Addr) (cap g b0 : Nat) (l : List Nd) : Prop where
  r0 : Blk V w.heap.size #[.int .i64 (N : Int), .slice a l.length cap] 24
  ring : RingAt V (w.heap.size + 1) B (B + 1 + 1)
  r2 : Blk V (w.heap.size + 1 + 1) #[.string ⟨#[]⟩] 32
  p5 : Blk V P #[.slice (some ⟨g, 0, none⟩) l.length l.length] 49
  p6 : Blk V Q #[.slice (some ⟨G, 0, none⟩) l.length l.length] 146
  ov : OwnSets V b0 (.slice (some ⟨g, 0, none⟩) l.length l.length) (varsL l)
  bw : Below w.heap.size w V
  i1 : B + 1 + 1 < w.heap.size
  i2 : w.heap.size + 1 + 1 < P
  i3 : P < G
  i4 : G < Q
  i5 : g < P
theorem SEnv.kept {w V V' : World} {P G Q B N : Nat} {a : Option Addr} {cap g b0 : Nat} {l : List Nd} (h : SEnv w V P G Q B N a cap g b0 l) (hk : Kp (fun y => y = G) V V') : SEnv w V' P G Q B N a cap g b0 l := by
  have i1 := h.i1
  have i2 := h.i2
  have i3 := h.i3
  have i4 := h.i4
  have i5 := h.i5
  exact ⟨h.r0.kept hk (by omega), h.ring.kept hk (by omega) (by omega) (by omega), h.r2.kept hk (by omega), h.p5.kept hk (by omega), h.p6.kept hk (by omega), h.ov.kept hk (by intro y hy e; simp [Value.ownBlock] at hy; omega), h.bw.trans (hk.toBelow h.bw.size (by intro y hy e; omega)), i1, i2, i3, i4, i5⟩
theorem SEnv.later {w V V' : World} {P G Q B N : Nat} {a : Option Addr} {cap g b0 : Nat} {l : List Nd} (h : SEnv w V P G Q B N a cap g b0 l) (hb : Below V.heap.size V V') : SEnv w V' P G Q B N a cap g b0 l := h.kept (Kp.below hb)
theorem sum_any (N : Nat) (hN : N ≤ 8) (B : Nat) (a : Option Addr) (cap : Nat) (l : List Nd) (w : World) (hok : netOk ⟨(N : Int), l⟩ = true) (hd : decL l = true) (hdet : detL l) (hT : Dtab w) (hx : NdCells w a l)
    (hB : Blk w B #[.int .i64 0] 3) (hC : Blk w (B + 1 + 1) #[wF B] 36) :
    Calls Tryz.prog 65 #[.agg #[.int .i64 (N : Int), .slice a l.length cap], ringV B] w fun e w' => e = .returned (natv (sumT N l)) ∧ Below w.heap.size w w' := by
  have HX := Lib.hid hx
  have HT := Lib.hid hT
  have HK := Lib.hid hok
  have HD := Lib.hid hd
  have HDET := Lib.hid hdet
  have hl2 : l.length ≤ 65536 := (netOk_head hok).2.2.2
  have HM1 : Hid (l.length ≤ maxLen) := by show _ ≤ _; unfold maxLen; omega
  have HV := Lib.hid (fun V (h : Below w.heap.size w V) => nodeVars_any (N : Int) a cap l V hok hl2 (HX.out.keep h))
  have HBB := Lib.hid hB
  have HCC := Lib.hid hC
  clear hx hok hd hdet hT hB hC
  unfold ringV wF bF
  go_enter Tryz.func65, Tryz.ntmps65
  go_wp2_with fail
  have q0 := ((Blk.new w #[.int .i64 (N : Int), .slice a l.length cap] 24).alloc (.cells #[.func (.func 131) #[] #[], .func (.func 132) #[] #[], .func (.func 133) #[] #[], .func (.func 134) #[] #[], wF B, bF (B + 1 + 1)] 95)).alloc (.cells #[.string ⟨#[]⟩] 32)
  have q1 := (Blk.new' (w.alloc (.cells #[.int .i64 (N : Int), .slice a l.length cap] 24)) (b := w.heap.size + 1) (by simp) #[.func (.func 131) #[] #[], .func (.func 132) #[] #[], .func (.func 133) #[] #[], .func (.func 134) #[] #[], wF B, bF (B + 1 + 1)] 95).alloc (.cells #[.string ⟨#[]⟩] 32)
  have q2 := Blk.new' ((w.alloc (.cells #[.int .i64 (N : Int), .slice a l.length cap] 24)).alloc (.cells #[.func (.func 131) #[] #[], .func (.func 132) #[] #[], .func (.func 133) #[] #[], .func (.func 134) #[] #[], wF B, bF (B + 1 + 1)] 95)) (b := w.heap.size + 1 + 1) (by simp) #[.string ⟨#[]⟩] 32
  have hb0 : Below w.heap.size w (((w.alloc (.cells #[.int .i64 (N : Int), .slice a l.length cap] 24)).alloc (.cells #[.func (.func 131) #[] #[], .func (.func 132) #[] #[], .func (.func 133) #[] #[], .func (.func 134) #[] #[], wF B, bF (B + 1 + 1)] 95)).alloc (.cells #[.string ⟨#[]⟩] 32)) := (((Below.refl _ w).alloc (Nat.le_refl _) _).alloc (by simp) _).alloc (by simp; omega) _
  unfold wF bF at q0 q1 q2 hb0
  generalize ((w.alloc (.cells #[.int .i64 (N : Int), .slice a l.length cap] 24)).alloc (.cells #[.func (.func 131) #[] #[], .func (.func 132) #[] #[], .func (.func 133) #[] #[], .func (.func 134) #[] #[], .func (.func 129) #[] #[.pointer (some ⟨B, 0, none⟩)], .func (.func 135) #[] #[.pointer (some ⟨B + 1 + 1, 0, none⟩)]] 95)).alloc (.cells #[.string ⟨#[]⟩] 32) = w0 at *
  refine Calls.mono (HV.out _ hb0) ?_
  rintro e w1 ⟨g, rfl, hov, hb1⟩
  have HOV := Lib.hid hov
  have HBA1 : Hid (Below w.heap.size w w1) := hb0.trans (hb1.mono hb0.size)
  have R0 := Lib.hid (q0.later hb1)
  have R1 := Lib.hid (q1.later hb1)
  have R2 := Lib.hid (q2.later hb1)
  have k1 : w1.cell? ⟨w.heap.size, 1, none⟩ = some (.slice a l.length cap) := R0.out.cell 1
  have hz1 : w.heap.size < w1.heap.size := R0.out.lt
  clear hov hb1 q0 q1 q2 hb0 HV
  have P5 := Blk.new w1 #[.slice (some ⟨g, 0, none⟩) l.length l.length] 49
  have hb2 : Below w1.heap.size w1 (w1.alloc (.cells #[.slice (some ⟨g, 0, none⟩) l.length l.length] 49)) := (Below.refl _ w1).alloc (Nat.le_refl _) _
  have k1' := (R0.out.later hb2).cell 1
  have HZ2 : Hid ((w1.alloc (.cells #[.slice (some ⟨g, 0, none⟩) l.length l.length] 49)).heap.size = w1.heap.size + 1) := by show _ = _; simp
  go_wp2_with (at_make; refine mk elemNat rfl _ _ rfl (w1.heap.size + 1) .i64 .i64 _ _ l.length rfl rfl rfl rfl (by omega) HM1.out (by simp) natc 0 rfl ?_)
  intro w3 hown3 hgrow3
  have H5 := Lib.hid P5
  have HB2 := Lib.hid hb2
  clear P5 hb2 k1 k1'
  have HO3 := Lib.hid hown3
  have HB3 : Hid (Below (w1.heap.size + 1) (w1.alloc (.cells #[.slice (some ⟨g, 0, none⟩) l.length l.length] 49)) w3) := (Below.refl _ _).grown hgrow3 (by rw [HZ2.out]; exact Nat.le_refl _) (by simp)
  have HZ3 : Hid (w1.heap.size + 1 < w3.heap.size) := hown3.lt.1
  clear hown3 hgrow3
  have HBX3 : Hid (Below w1.heap.size w1 w3) := HB2.out.trans (HB3.out.mono (by omega))
  have k1 : w3.cell? ⟨w.heap.size, 1, none⟩ = some (.slice a l.length cap) := (R0.out.later HBX3.out).cell 1
  have hz3 := (R0.out.later HBX3.out).lt
  have HZ3' := HZ3.out
  have HG : Hid (g < w1.heap.size) := HOV.out.lt.1
  have hbl := HBB.out.lt
  have hcl := HCC.out.lt
  have E0 : Hid (SEnv w (w3.alloc (.cells #[.slice (some ⟨w1.heap.size + 1, 0, none⟩) l.length l.length] 146)) w1.heap.size (w1.heap.size + 1) w3.heap.size B N a cap g w0.heap.size l) := by
    have hA := (Below.refl w3.heap.size w3).alloc (Nat.le_refl _) (.cells #[.slice (some ⟨w1.heap.size + 1, 0, none⟩) l.length l.length] 146)
    have hB := HBX3.out.trans (hA.mono HBX3.out.size)
    have hW := HBA1.out.trans (hB.mono HBA1.out.size)
    refine ⟨R0.out.later hB, ⟨R1.out.later hB, HBB.out.later hW, HCC.out.later hW⟩, R2.out.later hB, (H5.out.laterB HB3.out (by omega)).later hA, Blk.new w3 _ _, HOV.out.later hB, hW, hcl, R2.out.lt, by omega, HZ3', HG.out⟩
  have HO4 : Hid (OwnNats (w3.alloc (.cells #[.slice (some ⟨w1.heap.size + 1, 0, none⟩) l.length l.length] 146)) (w1.heap.size + 1) (.slice (some ⟨w1.heap.size + 1, 0, none⟩) l.length l.length) (List.replicate l.length 0)) := HO3.out.alloc _
  have HSZ4 : Hid ((w3.alloc (.cells #[.slice (some ⟨w1.heap.size + 1, 0, none⟩) l.length l.length] 146)).heap.size = w3.heap.size + 1) := by show _ = _; simp
  clear hbl hcl HZ3' R0 R1 R2 HBB HCC H5 HOV HBX3 HB3 HO3 HB2
  go_wp2_with fail
  generalize w3.alloc (.cells #[.slice (some ⟨w1.heap.size + 1, 0, none⟩) l.length l.length] 146) = w4 at *
  clear k1 hz3
  have hcw : ∀ (args : Array Value) (w : World), (callFunc 129 args).run Tryz.prog w = .ok (.enter 129 args) w := callable_w
  have hc0 : ∀ (args : Array Value) (w : World), (callFunc 131 args).run Tryz.prog w = .ok (.enter 131 args) w := callable_0
  have hc1 : ∀ (args : Array Value) (w : World), (callFunc 132 args).run Tryz.prog w = .ok (.enter 132 args) w := callable_1
  have hcm : ∀ (args : Array Value) (w : World), (callFunc 134 args).run Tryz.prog w = .ok (.enter 134 args) w := callable_mul
  have hca : ∀ (args : Array Value) (w : World), (callFunc 133 args).run Tryz.prog w = .ok (.enter 133 args) w := callable_add
  have hcW : ∀ (args : Array Value) (w : World), (callFunc 126 args).run Tryz.prog w = .ok (.enter 126 args) w := fun _ _ => by kernel_rfl
  go_loopw [24] (fun i wr => ∃ k : Nat, k ≤ l.length ∧ i = .int .i64 k ∧ OwnNats wr (w1.heap.size + 1) (.slice (some ⟨w1.heap.size + 1, 0, none⟩) l.length l.length) ((sumsL l).take k ++ List.replicate (l.length - k) 0) ∧ Kp (fun y => y = w1.heap.size + 1) w4 wr) (fun i _ => l.length - (intOf i).toNat)
  case atStart => exact ⟨0, Nat.zero_le _, rfl, by simpa using HO4.out, Kp.refl _ _⟩
  case round =>
    obtain ⟨wo, rfl⟩ : ∃ wo : World, wo = wr := ⟨_, rfl⟩
    obtain ⟨k, hk, rfl, hown, hkp⟩ := hrel
    have E := Lib.hid (E0.out.kept hkp)
    have HO := Lib.hid hown
    have HKP := Lib.hid hkp
    have HW4 : Hid (w4.heap.size ≤ wo.heap.size) := E.out.p6.lt |> fun h => by show _ ≤ _; have := HSZ4.out; omega
    clear hown hkp
    by_cases hlt : k < l.length
    · obtain ⟨b, off, rfl, c0', c1', av, cv, c2', hin, hil⟩ := HX.out k hlt
      have hgd : l.getD k default = l[k] := by simp [List.getD_eq_getElem?_getD, hlt]
      have hnk := netOk_nd HK.out hlt
      rw [hgd] at c0' c1' c2' hin hil
      simp only at hnk
      have hbw : b < w.heap.size := cell_block c0'
      have c0 := E.out.bw.cell (p := ⟨b, off + k * 3, none⟩) hbw
      have c1 := E.out.bw.cell (p := ⟨b, off + k * 3 + 1, none⟩) hbw
      have c2 := E.out.bw.cell (p := ⟨b, off + k * 3 + 2, none⟩) hbw
      rw [c0'] at c0
      rw [c1'] at c1
      rw [c2'] at c2
      have hbz : b < wo.heap.size := cell_block c0
      have HNK := Lib.hid hnk
      have HND : Hid (nd l (k : Int) = l[k]) := by show _ = _; rw [nd_get (by omega) (by omega)]; simp
      generalize l[k] = x at *
      have HIN := Lib.hid hin
      have hk5 := formOk_kind hnk
      obtain ⟨S, hS⟩ : ∃ S, S = sAt (sumsL l) := ⟨_, rfl⟩
      obtain ⟨D, hD⟩ : ∃ D : Int → Nat, D = fun j => minus (vm l k) (vm l j) := ⟨_, rfl⟩
      have HA0 := Lib.hid (accS_zero S D x)
      rcases x with ⟨kd, lt, ins⟩
      simp only at *
      have HKD := Lib.hid hk5
      have HXB := Lib.hid (Blk.new wo #[.int .i64 kd, .int .i64 lt, .slice av ins.length cv] 67)
      have EA := Lib.hid (E.out.later ((Below.refl wo.heap.size wo).alloc (Nat.le_refl _) (.cells #[.int .i64 kd, .int .i64 lt, .slice av ins.length cv] 67)))
      have HOA := Lib.hid (HO.out.alloc (.cells #[.int .i64 kd, .int .i64 lt, .slice av ins.length cv] 67))
      have HKA : Hid (Kp (fun y => y = w1.heap.size + 1) w4 (wo.alloc (.cells #[.int .i64 kd, .int .i64 lt, .slice av ins.length cv] 67))) := Kp.trans (M := fun y => y = w1.heap.size + 1) HKP.out (Kp.below ((Below.refl wo.heap.size wo).alloc (Nat.le_refl _) (.cells #[.int .i64 kd, .int .i64 lt, .slice av ins.length cv] 67)))
      have HPB : Hid (∀ j, accS S D ⟨kd, lt, ins⟩ j ≤ 256) := fun j => by
        have h := sum_part (N := N) (by omega) HK.out HD.out HDET.out hlt j
        rw [HND.out] at h
        have h8 : 2 ^ N ≤ 256 := Nat.pow_le_pow_right (by omega) hN
        unfold accS
        rw [hS, hD]
        split
        · omega
        · exact Nat.le_trans h h8
      have HS2 : Hid (∀ q : Nat, q < l.length → S (q : Int) ≤ 256) := fun q hq => by
        have h := sum_le (N := N) (by omega) HK.out HD.out HDET.out (i := q) hq
        have h8 : 2 ^ N ≤ 256 := Nat.pow_le_pow_right (by omega) hN
        rw [hS]
        omega
      have HEND : Hid (accS S D ⟨kd, lt, ins⟩ ins.length = S (k : Int)) := by
        have hL : ndsOk l N l.length := by have h := HK.out; simp [netOk] at h; exact h.2
        have h := sumsL_eq hL hlt
        rw [HND.out] at h
        exact (accS_end S D ⟨kd, lt, ins⟩).trans (by rw [hS, hD]; exact h.symm)
      have HTK : Hid ((sumsL l).take (k + 1) = (sumsL l).take k ++ [S (k : Int)]) := by
        show _ = _
        have hk2 : k < (sumsL l).length := by rw [sumsL_length]; exact hlt
        rw [List.take_succ_eq_append_getElem hk2, hS]
        simp [sAt, List.getD_eq_getElem?_getD, hk2]
      have HRP : Hid (List.replicate (l.length - k) 0 = 0 :: List.replicate (l.length - (k + 1)) 0) := by show _ = _; rw [← List.replicate_succ]; congr 1; omega
      have HTL : Hid (k = ((sumsL l).take k).length) := by show _ = _; rw [List.length_take, sumsL_length]; omega
      have HNL : Hid (∀ c : Nat, l.length = ((sumsL l).take k ++ c :: List.replicate (l.length - (k + 1)) 0).length) := fun c => by simp [sumsL_length]; omega
      have HSQ : Hid (∀ (V : World) (c : Nat), OwnNats V (w1.heap.size + 1) (.slice (some ⟨w1.heap.size + 1, 0, none⟩) l.length l.length) ((sumsL l).take k ++ c :: List.replicate (l.length - (k + 1)) 0) → ∀ q : Nat, q < k → V.cell? ⟨w1.heap.size + 1, q, none⟩ = some (.string (natB (S (q : Int))))) := fun V c h q hq => by
        have hlen : ((sumsL l).take k).length = k := by rw [List.length_take, sumsL_length]; omega
        have hc := h.left (i := q) (by rw [hlen]; exact hq) (HNL.out c) natc_len 0 (by omega)
        simp only [Nat.mul_one, Nat.add_zero, natc] at hc
        rw [hc, hS]
        have hq2 : q < (sumsL l).length := by rw [sumsL_length]; omega
        simp [sAt, List.getD_eq_getElem?_getD, hq2]
      have hoa := HOA.out
      rw [HRP.out] at hoa
      have HOB := Lib.hid hoa
      have HZA : Hid (wo.heap.size < (wo.alloc (.cells #[.int .i64 kd, .int .i64 lt, .slice av ins.length cv] 67)).heap.size) := HXB.out.lt
      have hkl : (k : Int) < (l.length : Int) := by omega
      clear hgd hin hnk c0' c1' c2' hoa hk5
      go_upto_region 7 with fail
      generalize wo.alloc (.cells #[.int .i64 kd, .int .i64 lt, .slice av ins.length cv] 67) = wa at *
      rcases HKD.out with rfl | rfl | rfl | rfl | rfl
      · have p6 : wa.cell? ⟨w3.heap.size, 0, none⟩ = some (.slice (some ⟨w1.heap.size + 1, 0, none⟩) l.length l.length) := EA.out.p6.cell 0
        have p6l := EA.out.p6.lt
        have rl := EA.out.ring.r.lt
        have x0 : wa.cell? ⟨wo.heap.size, 0, none⟩ = some (.int .i64 0) := HXB.out.cell 0
        have x1 : wa.cell? ⟨wo.heap.size, 1, none⟩ = some (.int .i64 lt) := HXB.out.cell 1
        have xl := HXB.out.lt
        have r1 : wa.cell? ⟨w.heap.size + 1, 0, none⟩ = some (.func (.func 131) #[] #[]) := EA.out.ring.r.cell 0
        go_upto_region 8 with fail
        go_cut [35] (fun _ wx => OwnNats wx (w1.heap.size + 1) (.slice (some ⟨w1.heap.size + 1, 0, none⟩) l.length l.length) ((sumsL l).take k ++ accS S D ⟨0, lt, ins⟩ 0 :: List.replicate (l.length - (k + 1)) 0) ∧ Kp (fun y => y = w1.heap.size + 1) wa wx)
        case first =>
          go_region_with (go_at_call 131
                          with_reducible refine Calls.mono (zero_any _) ?_
                          rintro e v5 ⟨rfl, hb5⟩
                          have hv5 : Below wa.heap.size wa v5 := (Below.refl wa.heap.size wa).drew.trans (hb5.mono (Nat.le_refl _))
                          have hoo := HOB.out.later hv5
                          have z0 : v5.cell? ⟨w1.heap.size + 1, k, none⟩ = some (.string (natB 0)) := by
                            have := hoo.mid HTL.out (HNL.out _) natc_len 0 (by omega)
                            simpa [natc] using this
                          have z1 := hoo.fr (HNL.out _) k
                          have z2 := hoo.lt.1
                          have z3 := cell_keep hv5 p6
                          have z4 := cell_block z3
                          unfold natv)
          all_goals
            go_wp2_with fail
            go_meet
            refine ⟨?_, Kp.trans (M := fun y => y = w1.heap.size + 1) (Kp.below hv5) (Kp.setCell (M := fun y => y = w1.heap.size + 1) _ _ _ rfl)⟩
            rw [HA0.out]
            exact hoo.midput1 HTL.out (HNL.out _) natc_len 0 (.string (natB 0)) rfl
        case rest =>
          obtain ⟨hoc, hkc⟩ := hcut
          obtain ⟨wx, rfl⟩ : ∃ wx : World, wx = wc := ⟨_, rfl⟩
          have HOC := Lib.hid hoc
          have HKC := Lib.hid hkc
          have h4 := EA.out.i4
          have hQ := E.out.p6.lt
          have x2 : wx.cell? ⟨wo.heap.size, 2, none⟩ = some (.slice av ins.length cv) := (HXB.out.kept hkc (by omega)).cell 2
          have x2l := (HXB.out.kept hkc (by omega)).lt
          clear hoc hkc p6 p6l rl x0 x1 xl r1 c0 c1 c2
          go_wp2_with fail
          go_loopw [40] (fun i wi => ∃ m : Nat, m ≤ ins.length ∧ i = .int .i64 m ∧ OwnNats wi (w1.heap.size + 1) (.slice (some ⟨w1.heap.size + 1, 0, none⟩) l.length l.length) ((sumsL l).take k ++ accS S D ⟨0, lt, ins⟩ m :: List.replicate (l.length - (k + 1)) 0) ∧ Kp (fun y => y = w1.heap.size + 1) wx wi) (fun i _ => ins.length - (intOf i).toNat)
          case atStart => exact ⟨0, Nat.zero_le _, rfl, HOC.out, Kp.refl _ _⟩
          case round =>
            obtain ⟨wi, rfl⟩ : ∃ wi : World, wi = wr := ⟨_, rfl⟩
            obtain ⟨m, hm, rfl, hown, hkp⟩ := hrel
            have HOI := Lib.hid hown
            have HKI : Hid (Kp (fun y => y = w1.heap.size + 1) wa wi) := Kp.trans (M := fun y => y = w1.heap.size + 1) HKC.out hkp
            have HKX := Lib.hid hkp
            have EI := Lib.hid (EA.out.kept HKI.out)
            by_cases hlm : m < ins.length
            · have hkk := ins_kind HNK.out (show ins ≠ [] from fun e => by rw [e] at hlm; simp at hlm)
              simp at hkk
            · have : m = ins.length := by omega
              subst this
              have HKE : Hid (Kp (fun y => y = w1.heap.size + 1) w4 wi) := Kp.trans (M := fun y => y = w1.heap.size + 1) HKA.out HKI.out
              clear hown hkp
              go_wp2
              go_roundw
              case rel =>
                refine ⟨k + 1, by omega, by go_num, ?_, HKE.out⟩
                have h9 := HOI.out
                rw [HEND.out] at h9
                rw [HTK.out, List.append_assoc]; exact h9
              case measure => simp [intOf]; omega
      · have p6 : wa.cell? ⟨w3.heap.size, 0, none⟩ = some (.slice (some ⟨w1.heap.size + 1, 0, none⟩) l.length l.length) := EA.out.p6.cell 0
        have p6l := EA.out.p6.lt
        have rl := EA.out.ring.r.lt
        have x0 : wa.cell? ⟨wo.heap.size, 0, none⟩ = some (.int .i64 1) := HXB.out.cell 0
        have x1 : wa.cell? ⟨wo.heap.size, 1, none⟩ = some (.int .i64 lt) := HXB.out.cell 1
        have xl := HXB.out.lt
        have r1 : wa.cell? ⟨w.heap.size + 1, 1, none⟩ = some (.func (.func 132) #[] #[]) := EA.out.ring.r.cell 1
        go_upto_region 18 with fail
        go_cut [79] (fun _ wx => OwnNats wx (w1.heap.size + 1) (.slice (some ⟨w1.heap.size + 1, 0, none⟩) l.length l.length) ((sumsL l).take k ++ accS S D ⟨1, lt, ins⟩ 0 :: List.replicate (l.length - (k + 1)) 0) ∧ Kp (fun y => y = w1.heap.size + 1) wa wx)
        case first =>
          go_region_with (go_at_call 132
                          with_reducible refine Calls.mono (one_any _) ?_
                          rintro e v5 ⟨rfl, hb5⟩
                          have hv5 : Below wa.heap.size wa v5 := (Below.refl wa.heap.size wa).drew.trans (hb5.mono (Nat.le_refl _))
                          have hoo := HOB.out.later hv5
                          have z0 : v5.cell? ⟨w1.heap.size + 1, k, none⟩ = some (.string (natB 0)) := by
                            have := hoo.mid HTL.out (HNL.out _) natc_len 0 (by omega)
                            simpa [natc] using this
                          have z1 := hoo.fr (HNL.out _) k
                          have z2 := hoo.lt.1
                          have z3 := cell_keep hv5 p6
                          have z4 := cell_block z3
                          unfold natv)
          all_goals
            go_wp2_with fail
            go_meet
            refine ⟨?_, Kp.trans (M := fun y => y = w1.heap.size + 1) (Kp.below hv5) (Kp.setCell (M := fun y => y = w1.heap.size + 1) _ _ _ rfl)⟩
            rw [HA0.out]
            exact hoo.midput1 HTL.out (HNL.out _) natc_len 1 (.string (natB 1)) rfl
        case rest =>
          obtain ⟨hoc, hkc⟩ := hcut
          obtain ⟨wx, rfl⟩ : ∃ wx : World, wx = wc := ⟨_, rfl⟩
          have HOC := Lib.hid hoc
          have HKC := Lib.hid hkc
          have h4 := EA.out.i4
          have hQ := E.out.p6.lt
          have x2 : wx.cell? ⟨wo.heap.size, 2, none⟩ = some (.slice av ins.length cv) := (HXB.out.kept hkc (by omega)).cell 2
          have x2l := (HXB.out.kept hkc (by omega)).lt
          clear hoc hkc p6 p6l rl x0 x1 xl r1 c0 c1 c2
          go_wp2_with fail
          go_loopw [84] (fun i wi => ∃ m : Nat, m ≤ ins.length ∧ i = .int .i64 m ∧ OwnNats wi (w1.heap.size + 1) (.slice (some ⟨w1.heap.size + 1, 0, none⟩) l.length l.length) ((sumsL l).take k ++ accS S D ⟨1, lt, ins⟩ m :: List.replicate (l.length - (k + 1)) 0) ∧ Kp (fun y => y = w1.heap.size + 1) wx wi) (fun i _ => ins.length - (intOf i).toNat)
          case atStart => exact ⟨0, Nat.zero_le _, rfl, HOC.out, Kp.refl _ _⟩
          case round =>
            obtain ⟨wi, rfl⟩ : ∃ wi : World, wi = wr := ⟨_, rfl⟩
            obtain ⟨m, hm, rfl, hown, hkp⟩ := hrel
            have HOI := Lib.hid hown
            have HKI : Hid (Kp (fun y => y = w1.heap.size + 1) wa wi) := Kp.trans (M := fun y => y = w1.heap.size + 1) HKC.out hkp
            have HKX := Lib.hid hkp
            have EI := Lib.hid (EA.out.kept HKI.out)
            by_cases hlm : m < ins.length
            · have hkk := ins_kind HNK.out (show ins ≠ [] from fun e => by rw [e] at hlm; simp at hlm)
              simp at hkk
            · have : m = ins.length := by omega
              subst this
              have HKE : Hid (Kp (fun y => y = w1.heap.size + 1) w4 wi) := Kp.trans (M := fun y => y = w1.heap.size + 1) HKA.out HKI.out
              clear hown hkp
              go_wp2
              go_roundw
              case rel =>
                refine ⟨k + 1, by omega, by go_num, ?_, HKE.out⟩
                have h9 := HOI.out
                rw [HEND.out] at h9
                rw [HTK.out, List.append_assoc]; exact h9
              case measure => simp [intOf]; omega
      · have p6 : wa.cell? ⟨w3.heap.size, 0, none⟩ = some (.slice (some ⟨w1.heap.size + 1, 0, none⟩) l.length l.length) := EA.out.p6.cell 0
        have p6l := EA.out.p6.lt
        have rl := EA.out.ring.r.lt
        have x0 : wa.cell? ⟨wo.heap.size, 0, none⟩ = some (.int .i64 2) := HXB.out.cell 0
        have x1 : wa.cell? ⟨wo.heap.size, 1, none⟩ = some (.int .i64 lt) := HXB.out.cell 1
        have xl := HXB.out.lt
        have hl := ndOk_lit HNK.out rfl
        have hl0 : lt ≠ 0 := by rintro rfl; exact hl.1 rfl
        have HWT := Lib.hid (fun V (h : Below wa.heap.size wa V) => weight_any lt hl0 B V ((EA.out.later h).ring.b))
        have HV1 : Hid (S (k : Int) = 1) := by have h := HEND.out; unfold accS at h; rw [if_pos rfl] at h; exact h.symm
        have r4 : wa.cell? ⟨w.heap.size + 1, 4, none⟩ = some (.func (.func 129) #[] #[.pointer (some ⟨B, 0, none⟩)]) := EA.out.ring.r.cell 4
        clear hl hl0
        go_wp2_with fail
        go_region_with (go_at_call 129
                        with_reducible refine Calls.mono (HWT.out _ ((Below.refl _ _).drew)) ?_
                        rintro e v5 ⟨rfl, hb5⟩
                        have hv5 : Below wa.heap.size wa v5 := (Below.refl wa.heap.size wa).drew.trans (hb5.mono (Nat.le_refl _))
                        have hoo := HOB.out.later hv5
                        have z0 : v5.cell? ⟨w1.heap.size + 1, k, none⟩ = some (.string (natB 0)) := by
                          have := hoo.mid HTL.out (HNL.out _) natc_len 0 (by omega)
                          simpa [natc] using this
                        have z1 := hoo.fr (HNL.out _) k
                        have z2 := hoo.lt.1
                        have z3 := cell_keep hv5 p6
                        have z4 := cell_block z3
                        unfold natv)
        all_goals
          go_wp2
          go_roundw
          case rel =>
            refine ⟨k + 1, by omega, by go_num, ?_, Kp.trans (M := fun y => y = w1.heap.size + 1) HKA.out (Kp.trans (M := fun y => y = w1.heap.size + 1) (Kp.below hv5) (Kp.setCell (M := fun y => y = w1.heap.size + 1) _ _ _ rfl))⟩
            rw [HTK.out, List.append_assoc, HV1.out]
            exact hoo.midput1 HTL.out (HNL.out _) natc_len 1 (.string (natB 1)) rfl
          case measure => simp [intOf]; omega
      · have p6 : wa.cell? ⟨w3.heap.size, 0, none⟩ = some (.slice (some ⟨w1.heap.size + 1, 0, none⟩) l.length l.length) := EA.out.p6.cell 0
        have p6l := EA.out.p6.lt
        have rl := EA.out.ring.r.lt
        have x0 : wa.cell? ⟨wo.heap.size, 0, none⟩ = some (.int .i64 3) := HXB.out.cell 0
        have x1 : wa.cell? ⟨wo.heap.size, 1, none⟩ = some (.int .i64 lt) := HXB.out.cell 1
        have xl := HXB.out.lt
        have r1 : wa.cell? ⟨w.heap.size + 1, 1, none⟩ = some (.func (.func 132) #[] #[]) := EA.out.ring.r.cell 1
        go_upto_region 18 with fail
        go_cut [79] (fun _ wx => OwnNats wx (w1.heap.size + 1) (.slice (some ⟨w1.heap.size + 1, 0, none⟩) l.length l.length) ((sumsL l).take k ++ accS S D ⟨3, lt, ins⟩ 0 :: List.replicate (l.length - (k + 1)) 0) ∧ Kp (fun y => y = w1.heap.size + 1) wa wx)
        case first =>
          go_region_with (go_at_call 132
                          with_reducible refine Calls.mono (one_any _) ?_
                          rintro e v5 ⟨rfl, hb5⟩
                          have hv5 : Below wa.heap.size wa v5 := (Below.refl wa.heap.size wa).drew.trans (hb5.mono (Nat.le_refl _))
                          have hoo := HOB.out.later hv5
                          have z0 : v5.cell? ⟨w1.heap.size + 1, k, none⟩ = some (.string (natB 0)) := by
                            have := hoo.mid HTL.out (HNL.out _) natc_len 0 (by omega)
                            simpa [natc] using this
                          have z1 := hoo.fr (HNL.out _) k
                          have z2 := hoo.lt.1
                          have z3 := cell_keep hv5 p6
                          have z4 := cell_block z3
                          unfold natv)
          all_goals
            go_wp2_with fail
            go_meet
            refine ⟨?_, Kp.trans (M := fun y => y = w1.heap.size + 1) (Kp.below hv5) (Kp.setCell (M := fun y => y = w1.heap.size + 1) _ _ _ rfl)⟩
            rw [HA0.out]
            exact hoo.midput1 HTL.out (HNL.out _) natc_len 1 (.string (natB 1)) rfl
        case rest =>
          obtain ⟨hoc, hkc⟩ := hcut
          obtain ⟨wx, rfl⟩ : ∃ wx : World, wx = wc := ⟨_, rfl⟩
          have HOC := Lib.hid hoc
          have HKC := Lib.hid hkc
          have h4 := EA.out.i4
          have hQ := E.out.p6.lt
          have x2 : wx.cell? ⟨wo.heap.size, 2, none⟩ = some (.slice av ins.length cv) := (HXB.out.kept hkc (by omega)).cell 2
          have x2l := (HXB.out.kept hkc (by omega)).lt
          clear hoc hkc p6 p6l rl x0 x1 xl r1 c0 c1 c2
          go_wp2_with fail
          go_loopw [84] (fun i wi => ∃ m : Nat, m ≤ ins.length ∧ i = .int .i64 m ∧ OwnNats wi (w1.heap.size + 1) (.slice (some ⟨w1.heap.size + 1, 0, none⟩) l.length l.length) ((sumsL l).take k ++ accS S D ⟨3, lt, ins⟩ m :: List.replicate (l.length - (k + 1)) 0) ∧ Kp (fun y => y = w1.heap.size + 1) wx wi) (fun i _ => ins.length - (intOf i).toNat)
          case atStart => exact ⟨0, Nat.zero_le _, rfl, HOC.out, Kp.refl _ _⟩
          case round =>
            obtain ⟨wi, rfl⟩ : ∃ wi : World, wi = wr := ⟨_, rfl⟩
            obtain ⟨m, hm, rfl, hown, hkp⟩ := hrel
            have HOI := Lib.hid hown
            have HKI : Hid (Kp (fun y => y = w1.heap.size + 1) wa wi) := Kp.trans (M := fun y => y = w1.heap.size + 1) HKC.out hkp
            have HKX := Lib.hid hkp
            have EI := Lib.hid (EA.out.kept HKI.out)
            by_cases hlm : m < ins.length
            · obtain ⟨b2, off2, rfl, e0'⟩ := HIN.out m hlm
              have hgd2 : ins.getD m 0 = ins[m] := by simp [List.getD_eq_getElem?_getD, hlm]
              have hq := ndOk_ins HNK.out ins[m] (List.getElem_mem hlm)
              have hacc := accS_and (S := S) (d := D) (x := ⟨3, lt, ins⟩) (m := m) hlm rfl
              have hbd : ∀ j, accS S D ⟨3, lt, ins⟩ j ≤ 256 := HPB.out
              simp only at hacc
              rw [hgd2] at e0'
              generalize ins[m] = y at *
              have hb2w : b2 < w.heap.size := cell_block e0'
              have e0 : wi.cell? ⟨b2, off2 + m, none⟩ = some (.int .i64 y) := by rw [EI.out.bw.cell (p := ⟨b2, off2 + m, none⟩) hb2w]; exact e0'
              obtain ⟨q, rfl⟩ := Int.eq_ofNat_of_zero_le hq.1
              have hqk : q < k := by have := hq.2; omega
              have v0 : wi.cell? ⟨w1.heap.size + 1, q, none⟩ = some (.string (natB (S (q : Int)))) := HSQ.out wi _ hown q hqk
              have hpm := hbd m
              have hpm1 := hbd (m + 1)
              have s0 : wi.cell? ⟨w1.heap.size + 1, k, none⟩ = some (.string (natB (accS S D ⟨3, lt, ins⟩ m))) := by
                have := hown.mid HTL.out (HNL.out _) natc_len 0 (by omega)
                simpa [natc] using this
              have hS2 := HS2.out q (by omega)
              have p6 : wi.cell? ⟨w3.heap.size, 0, none⟩ = some (.slice (some ⟨w1.heap.size + 1, 0, none⟩) l.length l.length) := EI.out.p6.cell 0
              have p6l := EI.out.p6.lt
              have rl := EI.out.ring.r.lt
              have gl := hown.lt.1
              have hkq : (q : Int) < (l.length : Int) := by omega
              have HAC := Lib.hid hacc
              have r3 : wi.cell? ⟨w.heap.size + 1, 3, none⟩ = some (.func (.func 134) #[] #[]) := EI.out.ring.r.cell 3
              generalize hcm : accS S D ⟨3, lt, ins⟩ m = P at *
              generalize hcm1 : accS S D ⟨3, lt, ins⟩ (m + 1) = P1 at *
              have HP1 := Lib.hid hcm1
              have hmul := mul_any P (S (q : Int)) (by omega) (by omega) (by omega)
              unfold natv at hmul
              have HMUL := Lib.hid hmul
              clear hmul hacc hbd hpm hpm1 hS2 e0' hgd2 hown hkp hcm hcm1
              have hlt5 : w1.heap.size + 1 < w3.heap.size := EI.out.i4
              have hlt6 : w.heap.size + 1 < w1.heap.size := by have := EI.out.i2; omega
              have HSC : Hid (∀ (w' : World) (c : Nat), Kp (fun y => y = w1.heap.size + 1) wi w' → OwnNats w' (w1.heap.size + 1) (.slice (some ⟨w1.heap.size + 1, 0, none⟩) l.length l.length) ((sumsL l).take k ++ c :: List.replicate (l.length - (k + 1)) 0) → (fun w' => w'.cell? ⟨w3.heap.size, 0, none⟩ = some (.slice (some ⟨w1.heap.size + 1, 0, none⟩) l.length l.length) ∧ w'.cell? ⟨w.heap.size + 1, 3, none⟩ = some (.func (.func 134) #[] #[]) ∧ w'.cell? ⟨w1.heap.size + 1, q, none⟩ = some (.string (natB (S (q : Int))))) w') := Lib.hid fun w' c hk ho => ⟨hk.cell p6 (by dsimp only; omega), hk.cell r3 (by dsimp only; omega), HSQ.out w' c ho q hqk⟩
              have HS' := Lib.hid hS
              have HD' := Lib.hid hD
              clear hS hD hlt5 hlt6
              go_wp2_with fail
              refine wp_region_held_drew (S := (fun w' => w'.cell? ⟨w3.heap.size, 0, none⟩ = some (.slice (some ⟨w1.heap.size + 1, 0, none⟩) l.length l.length) ∧ w'.cell? ⟨w.heap.size + 1, 3, none⟩ = some (.func (.func 134) #[] #[]) ∧ w'.cell? ⟨w1.heap.size + 1, q, none⟩ = some (.string (natB (S (q : Int)))))) (by kernel_rfl) ?_ (fun hHeld => ?_)
              · try dsimp only
                exact HSC.out _ _ (Kp.below (Below.refl _ _).drew) (HOI.out.later (Below.refl _ _).drew)
              refine wpAnyH_take (i := 0) (v := ?_) rfl (by kernel_rfl) (by kernel_rfl) (by kernel_rfl) (fun _ _ _ h => h) (Or.inl ⟨by rfl, ?_⟩) (by assumption) ?_
              rotate_left
              · intro w hSw
                try dsimp only at hSw
                first | (go_simp; done) | (go_simp; with_reducible rfl)
              change wpAnyH _ _ _ _ _ _ _ (Act.put _ (some 88) _) _
              try simp only [Act.put, List.setIfInBounds_toArray, List.set_cons_zero, List.set_cons_succ]
              refine wpAnyH_take (i := 1) (v := ?_) rfl (by kernel_rfl) (by kernel_rfl) (by kernel_rfl) (fun _ _ _ h => h) (Or.inl ⟨by rfl, ?_⟩) (by assumption) ?_
              rotate_left
              · intro w hSw
                try dsimp only at hSw
                first | (go_simp; done) | (go_simp; with_reducible rfl)
              change wpAnyH _ _ _ _ _ _ _ (Act.put _ (some 89) _) _
              try simp only [Act.put, List.setIfInBounds_toArray, List.set_cons_zero, List.set_cons_succ]
              refine wpAnyH_take (i := 2) (v := ?_) rfl (by kernel_rfl) (by kernel_rfl) (by kernel_rfl) (fun _ _ _ h => h) (Or.inl ⟨by rfl, ?_⟩) (by assumption) ?_
              rotate_left
              · intro w hSw
                try dsimp only at hSw
                first | (go_simp; done) | (go_simp; with_reducible rfl)
              change wpAnyH _ _ _ _ _ _ _ (Act.put _ (some 90) _) _
              try simp only [Act.put, List.setIfInBounds_toArray, List.set_cons_zero, List.set_cons_succ]
              refine wpAnyH_take (i := 3) (v := ?_) rfl (by kernel_rfl) (by kernel_rfl) (by kernel_rfl) (fun _ _ _ h => h) (Or.inl ⟨by rfl, ?_⟩) (by assumption) ?_
              rotate_left
              · intro w hSw
                try dsimp only at hSw
                first | (go_simp; done) | (go_simp; with_reducible rfl)
              change wpAnyH _ _ _ _ _ _ _ (Act.put _ (some 91) _) _
              try simp only [Act.put, List.setIfInBounds_toArray, List.set_cons_zero, List.set_cons_succ]
              refine wpAnyH_take (i := 4) (v := ?_) rfl (by kernel_rfl) (by kernel_rfl) (by kernel_rfl) (fun _ _ _ h => h) (Or.inl ⟨by rfl, ?_⟩) (by assumption) ?_
              rotate_left
              · intro w hSw
                try dsimp only at hSw
                first | (go_simp; done) | (go_simp; with_reducible rfl)
              change wpAnyH _ _ _ _ _ _ _ (Act.put _ (some 92) _) _
              try simp only [Act.put, List.setIfInBounds_toArray, List.set_cons_zero, List.set_cons_succ]
              refine wpAnyH_take (i := 5) (v := ?_) rfl (by kernel_rfl) (by kernel_rfl) (by kernel_rfl) (fun _ _ _ h => h) (Or.inl ⟨by rfl, ?_⟩) (by assumption) ?_
              rotate_left
              · intro w hSw
                try dsimp only at hSw
                first | (go_simp; done) | (go_simp; with_reducible rfl)
              change wpAnyH _ _ _ _ _ _ _ (Act.put _ (some 93) _) _
              try simp only [Act.put, List.setIfInBounds_toArray, List.set_cons_zero, List.set_cons_succ]
              refine wpAnyH_take (i := 6) (v := ?_) rfl (by kernel_rfl) (by kernel_rfl) (by kernel_rfl) (fun _ _ _ h => h) (Or.inl ⟨by rfl, ?_⟩) (by assumption) ?_
              rotate_left
              · intro w hSw
                try dsimp only at hSw
                first | (go_simp; done) | (go_simp; with_reducible rfl)
              change wpAnyH _ _ _ _ _ _ _ (Act.put _ (some 94) _) _
              try simp only [Act.put, List.setIfInBounds_toArray, List.set_cons_zero, List.set_cons_succ]
              refine wpAnyH_take (i := 8) (v := ?_) rfl (by kernel_rfl) (by kernel_rfl) (by kernel_rfl) (fun _ _ _ h => h) (Or.inl ⟨by rfl, ?_⟩) (by assumption) ?_
              rotate_left
              · intro w hSw
                try dsimp only at hSw
                first | (go_simp; done) | (go_simp; with_reducible rfl)
              change wpAnyH _ _ _ _ _ _ _ (Act.put _ (some 96) _) _
              try simp only [Act.put, List.setIfInBounds_toArray, List.set_cons_zero, List.set_cons_succ]
              refine wpAnyH_take (i := 9) (v := ?_) rfl (by kernel_rfl) (by kernel_rfl) (by kernel_rfl) (fun _ _ _ h => h) (Or.inl ⟨by rfl, ?_⟩) (by assumption) ?_
              rotate_left
              · intro w hSw
                try dsimp only at hSw
                first | (go_simp; done) | (go_simp; with_reducible rfl)
              change wpAnyH _ _ _ _ _ _ _ (Act.put _ (some 97) _) _
              try simp only [Act.put, List.setIfInBounds_toArray, List.set_cons_zero, List.set_cons_succ]
              refine wpAnyH_take (i := 10) (v := ?_) rfl (by kernel_rfl) (by kernel_rfl) (by kernel_rfl) (fun _ _ _ h => h) (Or.inl ⟨by rfl, ?_⟩) (by assumption) ?_
              rotate_left
              · intro w hSw
                try dsimp only at hSw
                first | (go_simp; done) | (go_simp; with_reducible rfl)
              change wpAnyH _ _ _ _ _ _ _ (Act.put _ (some 98) _) _
              try simp only [Act.put, List.setIfInBounds_toArray, List.set_cons_zero, List.set_cons_succ]
              refine wpAnyH_take (i := 11) (v := ?_) rfl (by kernel_rfl) (by kernel_rfl) (by kernel_rfl) (fun _ _ _ h => h) (Or.inl ⟨by rfl, ?_⟩) (by assumption) ?_
              rotate_left
              · intro w hSw
                try dsimp only at hSw
                first | (go_simp; done) | (go_simp; with_reducible rfl)
              change wpAnyH _ _ _ _ _ _ _ (Act.put _ (some 99) _) _
              try simp only [Act.put, List.setIfInBounds_toArray, List.set_cons_zero, List.set_cons_succ]
              refine wpAnyH_ready (rs := [7]) (by kernel_rfl) (by simp) ?_
              refine AllReadyH.cons rfl (fun K hK => ?_) AllReadyH.nil
              go_simp
              refine hK.out _ _ ?_ (fun hHeld => ?_)
              · try dsimp only
                exact HSC.out _ _ (Kp.below (Below.refl _ _).drew) (HOI.out.later (Below.refl _ _).drew)
              clear hK K
              try simp only [Act.put, List.setIfInBounds_toArray, List.set_cons_zero, List.set_cons_succ]
              refine wpAnyH_ready (rs := [12]) (by kernel_rfl) (by simp) ?_
              refine AllReadyH.cons rfl (fun K hK => ?_) AllReadyH.nil
              go_simp
              go_at_call 134
              with_reducible refine Calls.mono (HMUL.out _) ?_
              rintro e v5 ⟨rfl, hb5⟩
              have hv5 : Below wi.heap.size wi v5 := (Below.refl wi.heap.size wi).drew.trans (hb5.mono (Nat.le_refl _))
              have hoo := HOI.out.later hv5
              have z0 : v5.cell? ⟨w1.heap.size + 1, k, none⟩ = some (.string (natB P)) := by
                have := hoo.mid HTL.out (HNL.out _) natc_len 0 (by omega)
                simpa [natc] using this
              have z1 := hoo.fr (HNL.out _) k
              have z2 := hoo.lt.1
              go_wp2_with fail
              refine hK.out _ _ ?_ (fun hHeld => ?_)
              · try dsimp only
                exact HSC.out _ _ (Kp.below hv5) hoo
              clear hK K
              try simp only [Act.put, List.setIfInBounds_toArray, List.set_cons_zero, List.set_cons_succ]
              refine wpAnyH_take (i := 13) (v := ?_) rfl (by kernel_rfl) (by kernel_rfl) (by kernel_rfl) (fun _ _ _ h => h) (Or.inl ⟨by rfl, ?_⟩) (by assumption) ?_
              rotate_left
              · intro w hSw
                try dsimp only at hSw
                first | (go_simp; done) | (go_simp; with_reducible rfl)
              change wpAnyH _ _ _ _ _ _ _ (Act.put _ (some 101) _) _
              try simp only [Act.put, List.setIfInBounds_toArray, List.set_cons_zero, List.set_cons_succ]
              refine wpAnyH_ready (rs := [14]) (by kernel_rfl) (by simp) ?_
              refine AllReadyH.cons rfl (fun K hK => ?_) AllReadyH.nil
              go_simp
              refine hK.out _ _ ?_ (fun hHeld => ?_)
              · try dsimp only
                exact HSC.out _ _ (Kp.trans (M := fun y => y = w1.heap.size + 1) (Kp.below hv5) (Kp.setCell (M := fun y => y = w1.heap.size + 1) _ _ _ rfl)) (hoo.midput1 HTL.out (HNL.out _) natc_len (P * S (q : Int)) (.string (natB (P * S (q : Int)))) rfl)
              clear hK K
              try simp only [Act.put, List.setIfInBounds_toArray, List.set_cons_zero, List.set_cons_succ]
              refine wpAnyH_done (by kernel_rfl) ?_ _
              go_wp2
              go_roundw
              case rel =>
                refine ⟨m + 1, by omega, by go_num, ?_, Kp.trans (M := fun y => y = w1.heap.size + 1) HKX.out (Kp.trans (M := fun y => y = w1.heap.size + 1) (Kp.below hv5) (Kp.setCell (M := fun y => y = w1.heap.size + 1) _ _ _ rfl))⟩
                rw [HP1.out, HAC.out]
                exact hoo.midput1 HTL.out (HNL.out _) natc_len (P * S (q : Int)) (.string (natB (P * S (q : Int)))) rfl
              case measure => simp [intOf]; omega
            · have : m = ins.length := by omega
              subst this
              have HKE : Hid (Kp (fun y => y = w1.heap.size + 1) w4 wi) := Kp.trans (M := fun y => y = w1.heap.size + 1) HKA.out HKI.out
              clear hown hkp
              go_wp2
              go_roundw
              case rel =>
                refine ⟨k + 1, by omega, by go_num, ?_, HKE.out⟩
                have h9 := HOI.out
                rw [HEND.out] at h9
                rw [HTK.out, List.append_assoc]; exact h9
              case measure => simp [intOf]; omega
      · have p6 : wa.cell? ⟨w3.heap.size, 0, none⟩ = some (.slice (some ⟨w1.heap.size + 1, 0, none⟩) l.length l.length) := EA.out.p6.cell 0
        have p6l := EA.out.p6.lt
        have rl := EA.out.ring.r.lt
        have x0 : wa.cell? ⟨wo.heap.size, 0, none⟩ = some (.int .i64 4) := HXB.out.cell 0
        have x1 : wa.cell? ⟨wo.heap.size, 1, none⟩ = some (.int .i64 lt) := HXB.out.cell 1
        have xl := HXB.out.lt
        have r1 : wa.cell? ⟨w.heap.size + 1, 0, none⟩ = some (.func (.func 131) #[] #[]) := EA.out.ring.r.cell 0
        go_upto_region 8 with fail
        go_cut [35] (fun _ wx => OwnNats wx (w1.heap.size + 1) (.slice (some ⟨w1.heap.size + 1, 0, none⟩) l.length l.length) ((sumsL l).take k ++ accS S D ⟨4, lt, ins⟩ 0 :: List.replicate (l.length - (k + 1)) 0) ∧ Kp (fun y => y = w1.heap.size + 1) wa wx)
        case first =>
          go_region_with (go_at_call 131
                          with_reducible refine Calls.mono (zero_any _) ?_
                          rintro e v5 ⟨rfl, hb5⟩
                          have hv5 : Below wa.heap.size wa v5 := (Below.refl wa.heap.size wa).drew.trans (hb5.mono (Nat.le_refl _))
                          have hoo := HOB.out.later hv5
                          have z0 : v5.cell? ⟨w1.heap.size + 1, k, none⟩ = some (.string (natB 0)) := by
                            have := hoo.mid HTL.out (HNL.out _) natc_len 0 (by omega)
                            simpa [natc] using this
                          have z1 := hoo.fr (HNL.out _) k
                          have z2 := hoo.lt.1
                          have z3 := cell_keep hv5 p6
                          have z4 := cell_block z3
                          unfold natv)
          all_goals
            go_wp2_with fail
            go_meet
            refine ⟨?_, Kp.trans (M := fun y => y = w1.heap.size + 1) (Kp.below hv5) (Kp.setCell (M := fun y => y = w1.heap.size + 1) _ _ _ rfl)⟩
            rw [HA0.out]
            exact hoo.midput1 HTL.out (HNL.out _) natc_len 0 (.string (natB 0)) rfl
        case rest =>
          obtain ⟨hoc, hkc⟩ := hcut
          obtain ⟨wx, rfl⟩ : ∃ wx : World, wx = wc := ⟨_, rfl⟩
          have HOC := Lib.hid hoc
          have HKC := Lib.hid hkc
          have h4 := EA.out.i4
          have hQ := E.out.p6.lt
          have x2 : wx.cell? ⟨wo.heap.size, 2, none⟩ = some (.slice av ins.length cv) := (HXB.out.kept hkc (by omega)).cell 2
          have x2l := (HXB.out.kept hkc (by omega)).lt
          clear hoc hkc p6 p6l rl x0 x1 xl r1 c0 c1 c2
          go_wp2_with fail
          go_loopw [40] (fun i wi => ∃ m : Nat, m ≤ ins.length ∧ i = .int .i64 m ∧ OwnNats wi (w1.heap.size + 1) (.slice (some ⟨w1.heap.size + 1, 0, none⟩) l.length l.length) ((sumsL l).take k ++ accS S D ⟨4, lt, ins⟩ m :: List.replicate (l.length - (k + 1)) 0) ∧ Kp (fun y => y = w1.heap.size + 1) wx wi) (fun i _ => ins.length - (intOf i).toNat)
          case atStart => exact ⟨0, Nat.zero_le _, rfl, HOC.out, Kp.refl _ _⟩
          case round =>
            obtain ⟨wi, rfl⟩ : ∃ wi : World, wi = wr := ⟨_, rfl⟩
            obtain ⟨m, hm, rfl, hown, hkp⟩ := hrel
            have HOI := Lib.hid hown
            have HKI : Hid (Kp (fun y => y = w1.heap.size + 1) wa wi) := Kp.trans (M := fun y => y = w1.heap.size + 1) HKC.out hkp
            have HKX := Lib.hid hkp
            have EI := Lib.hid (EA.out.kept HKI.out)
            by_cases hlm : m < ins.length
            · obtain ⟨b2, off2, rfl, e0'⟩ := HIN.out m hlm
              have hgd2 : ins.getD m 0 = ins[m] := by simp [List.getD_eq_getElem?_getD, hlm]
              have hq := ndOk_ins HNK.out ins[m] (List.getElem_mem hlm)
              have hacc := accS_or (S := S) (d := D) (x := ⟨4, lt, ins⟩) (m := m) hlm rfl
              have hbd : ∀ j, accS S D ⟨4, lt, ins⟩ j ≤ 256 := HPB.out
              simp only at hacc
              rw [hgd2] at e0'
              generalize ins[m] = y at *
              have hb2w : b2 < w.heap.size := cell_block e0'
              have e0 : wi.cell? ⟨b2, off2 + m, none⟩ = some (.int .i64 y) := by rw [EI.out.bw.cell (p := ⟨b2, off2 + m, none⟩) hb2w]; exact e0'
              obtain ⟨q, rfl⟩ := Int.eq_ofNat_of_zero_le hq.1
              have hqk : q < k := by have := hq.2; omega
              have v0 : wi.cell? ⟨w1.heap.size + 1, q, none⟩ = some (.string (natB (S (q : Int)))) := HSQ.out wi _ hown q hqk
              have hpm := hbd m
              have hpm1 := hbd (m + 1)
              have s0 : wi.cell? ⟨w1.heap.size + 1, k, none⟩ = some (.string (natB (accS S D ⟨4, lt, ins⟩ m))) := by
                have := hown.mid HTL.out (HNL.out _) natc_len 0 (by omega)
                simpa [natc] using this
              have hS2 := HS2.out q (by omega)
              have p6 : wi.cell? ⟨w3.heap.size, 0, none⟩ = some (.slice (some ⟨w1.heap.size + 1, 0, none⟩) l.length l.length) := EI.out.p6.cell 0
              have p6l := EI.out.p6.lt
              have rl := EI.out.ring.r.lt
              have gl := hown.lt.1
              have hkq : (q : Int) < (l.length : Int) := by omega
              have HAC := Lib.hid hacc
              have r2 : wi.cell? ⟨w.heap.size + 1, 2, none⟩ = some (.func (.func 133) #[] #[]) := EI.out.ring.r.cell 2
              have p5 : wi.cell? ⟨w1.heap.size, 0, none⟩ = some (.slice (some ⟨g, 0, none⟩) l.length l.length) := EI.out.p5.cell 0
              have p5l := EI.out.p5.lt
              have hvc : ∀ (V : World), OwnSets V w0.heap.size (.slice (some ⟨g, 0, none⟩) l.length l.length) (varsL l) → ∀ q : Nat, q < l.length → V.cell? ⟨g, q * 2, none⟩ = some (.int .u64 ((vm l (q : Int)).a : Int)) ∧ V.cell? ⟨g, q * 2 + 1, none⟩ = some (.int .u64 ((vm l (q : Int)).b : Int)) ∧ (vm l (q : Int)).ok := fun V h q hq => by
                have hq2 : q < (varsL l).length := by rw [varsL_length]; exact hq
                have e : vm l (q : Int) = (varsL l)[q] := by unfold vm; simp [List.getD_eq_getElem?_getD, hq2]
                rw [e]
                exact ⟨h.cell (varsL_length l).symm stc_len q 0 hq2 (by omega), h.cell (varsL_length l).symm stc_len q 1 hq2 (by omega), varsL_ok l _ (List.getElem_mem hq2)⟩
              obtain ⟨g0, g1, hok1⟩ := hvc wi EI.out.ov k hlt
              have hok2 := (hvc wi EI.out.ov q (by omega)).2.2
              have hDq : minus (vm l (k : Int)) (vm l (q : Int)) = D (q : Int) := by rw [hD]
              have HWI := Lib.hid (fun V (h : Below wi.heap.size wi V) (hv : V.cell? ⟨w1.heap.size + 1, q, none⟩ = some (.string (natB (S (q : Int))))) => wide_any q (vm l (k : Int)) (vm l (q : Int)) (S (q : Int)) w3.heap.size w1.heap.size (w.heap.size + 1) B (B + 1 + 1) (w1.heap.size + 1) g l.length l.length l.length V (HT.out.keep (EI.out.later h).bw) hok1 hok2 (by omega) (by rw [hDq]; omega) hS2 (EI.out.later h).ring (EI.out.later h).p6 (EI.out.later h).p5 hv (hvc V (EI.out.later h).ov q (by omega)).1 (hvc V (EI.out.later h).ov q (by omega)).2.1)
              rw [hDq] at HWI
              have HVQ := Lib.hid (fun V (h : Below wi.heap.size wi V) => cell_keep h v0)
              have hgg := cell_block g0
              generalize hcm : accS S D ⟨4, lt, ins⟩ m = P at *
              generalize hcm1 : accS S D ⟨4, lt, ins⟩ (m + 1) = P1 at *
              have HP1 := Lib.hid hcm1
              have hadd := add_any P (S (q : Int) * 2 ^ D (q : Int)) (by omega) (by omega) (by omega)
              unfold natv at hadd
              have HADD := Lib.hid hadd
              have HI := Lib.hid (EI.out)
              generalize S (q : Int) * 2 ^ D (q : Int) = U at *
              have HD' := Lib.hid hD
              have HS' := Lib.hid hS
              clear hadd hacc hbd hpm hpm1 hS2 e0' hgd2 hown hkp hcm hcm1 hok1 hok2 hDq hvc hD hS v0
              generalize vm l (k : Int) = AA at *
              have hi3 : g < w1.heap.size := HI.out.i5
              have hi4 : w.heap.size + 1 + 1 < w1.heap.size := HI.out.i2
              have hi5 : w1.heap.size + 1 < w3.heap.size := HI.out.i4
              have HKS : Hid (∀ w' : World, Kp (fun y => y = w1.heap.size + 1) wi w' → (fun w' => w'.cell? ⟨w3.heap.size, 0, none⟩ = some (.slice (some ⟨w1.heap.size + 1, 0, none⟩) l.length l.length) ∧ w'.cell? ⟨w.heap.size + 1, 2, none⟩ = some (.func (.func 133) #[] #[]) ∧ w'.cell? ⟨w1.heap.size, 0, none⟩ = some (.slice (some ⟨g, 0, none⟩) l.length l.length) ∧ w'.cell? ⟨g, k * 2, none⟩ = some (.int .u64 (AA.a : Int)) ∧ w'.cell? ⟨g, k * 2 + 1, none⟩ = some (.int .u64 (AA.b : Int))) w') := Lib.hid fun w' hk => ⟨hk.cell p6 (by dsimp only; omega), hk.cell r2 (by dsimp only; omega), hk.cell p5 (by dsimp only; omega), hk.cell g0 (by dsimp only; omega), hk.cell g1 (by dsimp only; omega)⟩
              clear hi3 hi4 hi5
              go_wp2_with fail
              refine wp_region_held_drew (S := (fun w' => w'.cell? ⟨w3.heap.size, 0, none⟩ = some (.slice (some ⟨w1.heap.size + 1, 0, none⟩) l.length l.length) ∧ w'.cell? ⟨w.heap.size + 1, 2, none⟩ = some (.func (.func 133) #[] #[]) ∧ w'.cell? ⟨w1.heap.size, 0, none⟩ = some (.slice (some ⟨g, 0, none⟩) l.length l.length) ∧ w'.cell? ⟨g, k * 2, none⟩ = some (.int .u64 (AA.a : Int)) ∧ w'.cell? ⟨g, k * 2 + 1, none⟩ = some (.int .u64 (AA.b : Int)))) (by kernel_rfl) ?_ (fun hHeld => ?_)
              · try dsimp only
                exact HKS.out _ (Kp.below (Below.refl _ _).drew)
              refine wpAnyH_take (i := 0) (v := ?_) rfl (by kernel_rfl) (by kernel_rfl) (by kernel_rfl) (fun _ _ _ h => h) (Or.inl ⟨by rfl, ?_⟩) (by assumption) ?_
              rotate_left
              · intro w hSw
                try dsimp only at hSw
                first | (go_simp; done) | (go_simp; with_reducible rfl)
              change wpAnyH _ _ _ _ _ _ _ (Act.put _ (some 44) _) _
              try simp only [Act.put, List.setIfInBounds_toArray, List.set_cons_zero, List.set_cons_succ]
              refine wpAnyH_take (i := 1) (v := ?_) rfl (by kernel_rfl) (by kernel_rfl) (by kernel_rfl) (fun _ _ _ h => h) (Or.inl ⟨by rfl, ?_⟩) (by assumption) ?_
              rotate_left
              · intro w hSw
                try dsimp only at hSw
                first | (go_simp; done) | (go_simp; with_reducible rfl)
              change wpAnyH _ _ _ _ _ _ _ (Act.put _ (some 45) _) _
              try simp only [Act.put, List.setIfInBounds_toArray, List.set_cons_zero, List.set_cons_succ]
              refine wpAnyH_take (i := 2) (v := ?_) rfl (by kernel_rfl) (by kernel_rfl) (by kernel_rfl) (fun _ _ _ h => h) (Or.inl ⟨by rfl, ?_⟩) (by assumption) ?_
              rotate_left
              · intro w hSw
                try dsimp only at hSw
                first | (go_simp; done) | (go_simp; with_reducible rfl)
              change wpAnyH _ _ _ _ _ _ _ (Act.put _ (some 46) _) _
              try simp only [Act.put, List.setIfInBounds_toArray, List.set_cons_zero, List.set_cons_succ]
              refine wpAnyH_take (i := 3) (v := ?_) rfl (by kernel_rfl) (by kernel_rfl) (by kernel_rfl) (fun _ _ _ h => h) (Or.inl ⟨by rfl, ?_⟩) (by assumption) ?_
              rotate_left
              · intro w hSw
                try dsimp only at hSw
                first | (go_simp; done) | (go_simp; with_reducible rfl)
              change wpAnyH _ _ _ _ _ _ _ (Act.put _ (some 47) _) _
              try simp only [Act.put, List.setIfInBounds_toArray, List.set_cons_zero, List.set_cons_succ]
              refine wpAnyH_take (i := 4) (v := ?_) rfl (by kernel_rfl) (by kernel_rfl) (by kernel_rfl) (fun _ _ _ h => h) (Or.inl ⟨by rfl, ?_⟩) (by assumption) ?_
              rotate_left
              · intro w hSw
                try dsimp only at hSw
                first | (go_simp; done) | (go_simp; with_reducible rfl)
              change wpAnyH _ _ _ _ _ _ _ (Act.put _ (some 48) _) _
              try simp only [Act.put, List.setIfInBounds_toArray, List.set_cons_zero, List.set_cons_succ]
              refine wpAnyH_take (i := 5) (v := ?_) rfl (by kernel_rfl) (by kernel_rfl) (by kernel_rfl) (fun _ _ _ h => h) (Or.inl ⟨by rfl, ?_⟩) (by assumption) ?_
              rotate_left
              · intro w hSw
                try dsimp only at hSw
                first | (go_simp; done) | (go_simp; with_reducible rfl)
              change wpAnyH _ _ _ _ _ _ _ (Act.put _ (some 49) _) _
              try simp only [Act.put, List.setIfInBounds_toArray, List.set_cons_zero, List.set_cons_succ]
              refine wpAnyH_take (i := 6) (v := ?_) rfl (by kernel_rfl) (by kernel_rfl) (by kernel_rfl) (fun _ _ _ h => h) (Or.inl ⟨by rfl, ?_⟩) (by assumption) ?_
              rotate_left
              · intro w hSw
                try dsimp only at hSw
                first | (go_simp; done) | (go_simp; with_reducible rfl)
              change wpAnyH _ _ _ _ _ _ _ (Act.put _ (some 50) _) _
              try simp only [Act.put, List.setIfInBounds_toArray, List.set_cons_zero, List.set_cons_succ]
              refine wpAnyH_take (i := 8) (v := ?_) rfl (by kernel_rfl) (by kernel_rfl) (by kernel_rfl) (fun _ _ _ h => h) (Or.inl ⟨by rfl, ?_⟩) (by assumption) ?_
              rotate_left
              · intro w hSw
                try dsimp only at hSw
                first | (go_simp; done) | (go_simp; with_reducible rfl)
              change wpAnyH _ _ _ _ _ _ _ (Act.put _ (some 52) _) _
              try simp only [Act.put, List.setIfInBounds_toArray, List.set_cons_zero, List.set_cons_succ]
              refine wpAnyH_take (i := 9) (v := ?_) rfl (by kernel_rfl) (by kernel_rfl) (by kernel_rfl) (fun _ _ _ h => h) (Or.inl ⟨by rfl, ?_⟩) (by assumption) ?_
              rotate_left
              · intro w hSw
                try dsimp only at hSw
                first | (go_simp; done) | (go_simp; with_reducible rfl)
              change wpAnyH _ _ _ _ _ _ _ (Act.put _ (some 53) _) _
              try simp only [Act.put, List.setIfInBounds_toArray, List.set_cons_zero, List.set_cons_succ]
              refine wpAnyH_take (i := 10) (v := ?_) rfl (by kernel_rfl) (by kernel_rfl) (by kernel_rfl) (fun _ _ _ h => h) (Or.inl ⟨by rfl, ?_⟩) (by assumption) ?_
              rotate_left
              · intro w hSw
                try dsimp only at hSw
                first | (go_simp; done) | (go_simp; with_reducible rfl)
              change wpAnyH _ _ _ _ _ _ _ (Act.put _ (some 54) _) _
              try simp only [Act.put, List.setIfInBounds_toArray, List.set_cons_zero, List.set_cons_succ]
              refine wpAnyH_take (i := 11) (v := ?_) rfl (by kernel_rfl) (by kernel_rfl) (by kernel_rfl) (fun _ _ _ h => h) (Or.inl ⟨by rfl, ?_⟩) (by assumption) ?_
              rotate_left
              · intro w hSw
                try dsimp only at hSw
                first | (go_simp; done) | (go_simp; with_reducible rfl)
              change wpAnyH _ _ _ _ _ _ _ (Act.put _ (some 55) _) _
              try simp only [Act.put, List.setIfInBounds_toArray, List.set_cons_zero, List.set_cons_succ]
              refine wpAnyH_take (i := 12) (v := ?_) rfl (by kernel_rfl) (by kernel_rfl) (by kernel_rfl) (fun _ _ _ h => h) (Or.inl ⟨by rfl, ?_⟩) (by assumption) ?_
              rotate_left
              · intro w hSw
                try dsimp only at hSw
                first | (go_simp; done) | (go_simp; with_reducible rfl)
              change wpAnyH _ _ _ _ _ _ _ (Act.put _ (some 56) _) _
              try simp only [Act.put, List.setIfInBounds_toArray, List.set_cons_zero, List.set_cons_succ]
              refine wpAnyH_take (i := 13) (v := ?_) rfl (by kernel_rfl) (by kernel_rfl) (by kernel_rfl) (fun _ _ _ h => h) (Or.inl ⟨by rfl, ?_⟩) (by assumption) ?_
              rotate_left
              · intro w hSw
                try dsimp only at hSw
                first | (go_simp; done) | (go_simp; with_reducible rfl)
              change wpAnyH _ _ _ _ _ _ _ (Act.put _ (some 57) _) _
              try simp only [Act.put, List.setIfInBounds_toArray, List.set_cons_zero, List.set_cons_succ]
              refine wpAnyH_ready (rs := [7, 14]) (by kernel_rfl) (by simp) ?_
              refine AllReadyH.cons rfl (fun K hK => ?_) (AllReadyH.cons rfl (fun K hK => ?_) AllReadyH.nil)
              · go_simp
                refine hK.out _ _ ?_ (fun hHeld => ?_)
                · try dsimp only
                  exact HKS.out _ (Kp.below (Below.refl _ _).drew)
                clear hK K
                try simp only [Act.put, List.setIfInBounds_toArray, List.set_cons_zero, List.set_cons_succ]
                refine wpAnyH_ready (rs := [14]) (by kernel_rfl) (by simp) ?_
                refine AllReadyH.cons rfl (fun K hK => ?_) AllReadyH.nil
                go_simp
                go_at_call 126
                refine Calls.mono (HWI.out _ ((Below.refl _ _).drew) (HVQ.out _ ((Below.refl _ _).drew))) ?_
                rintro e v5 ⟨rfl, hb5⟩
                have hv5 : Below wi.heap.size wi v5 := (Below.refl wi.heap.size wi).drew.trans (hb5.mono (Nat.le_refl _))
                have yo5 := HOI.out.later hv5
                have y5 : v5.cell? ⟨w1.heap.size + 1, k, none⟩ = some (.string (natB P)) := by
                  have := yo5.mid HTL.out (HNL.out _) natc_len 0 (by omega)
                  simpa [natc] using this
                have yf5 := yo5.fr (HNL.out _) k
                have yl5 := yo5.lt.1
                unfold natv
                go_wp2_with fail
                refine hK.out _ _ ?_ (fun hHeld => ?_)
                · try dsimp only
                  exact HKS.out _ (Kp.below hv5)
                clear hK K
                try simp only [Act.put, List.setIfInBounds_toArray, List.set_cons_zero, List.set_cons_succ]
                refine wpAnyH_ready (rs := [15]) (by kernel_rfl) (by simp) ?_
                refine AllReadyH.cons rfl (fun K hK => ?_) AllReadyH.nil
                go_simp
                go_at_call 133
                with_reducible refine Calls.mono (HADD.out _) ?_
                rintro e v6 ⟨rfl, hb6⟩
                have hv6 : Below wi.heap.size wi v6 := hv5.trans (hb6.mono hv5.size)
                have yo6 := HOI.out.later hv6
                have y6 : v6.cell? ⟨w1.heap.size + 1, k, none⟩ = some (.string (natB P)) := by
                  have := yo6.mid HTL.out (HNL.out _) natc_len 0 (by omega)
                  simpa [natc] using this
                have yf6 := yo6.fr (HNL.out _) k
                have yl6 := yo6.lt.1
                go_wp2_with fail
                refine hK.out _ _ ?_ (fun hHeld => ?_)
                · try dsimp only
                  exact HKS.out _ (Kp.below hv6)
                clear hK K
                try simp only [Act.put, List.setIfInBounds_toArray, List.set_cons_zero, List.set_cons_succ]
                refine wpAnyH_take (i := 16) (v := ?_) rfl (by kernel_rfl) (by kernel_rfl) (by kernel_rfl) (fun _ _ _ h => h) (Or.inl ⟨by rfl, ?_⟩) (by assumption) ?_
                rotate_left
                · intro w hSw
                  try dsimp only at hSw
                  first | (go_simp; done) | (go_simp; with_reducible rfl)
                change wpAnyH _ _ _ _ _ _ _ (Act.put _ (some 60) _) _
                try simp only [Act.put, List.setIfInBounds_toArray, List.set_cons_zero, List.set_cons_succ]
                refine wpAnyH_ready (rs := [17]) (by kernel_rfl) (by simp) ?_
                refine AllReadyH.cons rfl (fun K hK => ?_) AllReadyH.nil
                go_simp
                refine hK.out _ _ ?_ (fun hHeld => ?_)
                · try dsimp only
                  exact HKS.out _ (Kp.trans (M := fun y => y = w1.heap.size + 1) (Kp.below hv6) (Kp.setCell (M := fun y => y = w1.heap.size + 1) _ _ _ rfl))
                clear hK K
                try simp only [Act.put, List.setIfInBounds_toArray, List.set_cons_zero, List.set_cons_succ]
                refine wpAnyH_done (by kernel_rfl) ?_ _
                go_wp2
                go_roundw
                case rel =>
                  refine ⟨m + 1, by omega, by go_num, ?_, Kp.trans (M := fun y => y = w1.heap.size + 1) HKX.out (Kp.trans (M := fun y => y = w1.heap.size + 1) (Kp.below hv6) (Kp.setCell (M := fun y => y = w1.heap.size + 1) _ _ _ rfl))⟩
                  rw [HP1.out, HAC.out]
                  exact yo6.midput1 HTL.out (HNL.out _) natc_len (P + U) (.string (natB (P + U))) rfl
                case measure => simp [intOf]; omega
              · go_simp
                go_at_call 126
                refine Calls.mono (HWI.out _ ((Below.refl _ _).drew) (HVQ.out _ ((Below.refl _ _).drew))) ?_
                rintro e v5 ⟨rfl, hb5⟩
                have hv5 : Below wi.heap.size wi v5 := (Below.refl wi.heap.size wi).drew.trans (hb5.mono (Nat.le_refl _))
                have yo5 := HOI.out.later hv5
                have y5 : v5.cell? ⟨w1.heap.size + 1, k, none⟩ = some (.string (natB P)) := by
                  have := yo5.mid HTL.out (HNL.out _) natc_len 0 (by omega)
                  simpa [natc] using this
                have yf5 := yo5.fr (HNL.out _) k
                have yl5 := yo5.lt.1
                unfold natv
                go_wp2_with fail
                refine hK.out _ _ ?_ (fun hHeld => ?_)
                · try dsimp only
                  exact HKS.out _ (Kp.below hv5)
                clear hK K
                try simp only [Act.put, List.setIfInBounds_toArray, List.set_cons_zero, List.set_cons_succ]
                refine wpAnyH_ready (rs := [7]) (by kernel_rfl) (by simp) ?_
                refine AllReadyH.cons rfl (fun K hK => ?_) AllReadyH.nil
                go_simp
                refine hK.out _ _ ?_ (fun hHeld => ?_)
                · try dsimp only
                  exact HKS.out _ (Kp.below hv5)
                clear hK K
                try simp only [Act.put, List.setIfInBounds_toArray, List.set_cons_zero, List.set_cons_succ]
                refine wpAnyH_ready (rs := [15]) (by kernel_rfl) (by simp) ?_
                refine AllReadyH.cons rfl (fun K hK => ?_) AllReadyH.nil
                go_simp
                go_at_call 133
                with_reducible refine Calls.mono (HADD.out _) ?_
                rintro e v6 ⟨rfl, hb6⟩
                have hv6 : Below wi.heap.size wi v6 := hv5.trans (hb6.mono hv5.size)
                have yo6 := HOI.out.later hv6
                have y6 : v6.cell? ⟨w1.heap.size + 1, k, none⟩ = some (.string (natB P)) := by
                  have := yo6.mid HTL.out (HNL.out _) natc_len 0 (by omega)
                  simpa [natc] using this
                have yf6 := yo6.fr (HNL.out _) k
                have yl6 := yo6.lt.1
                go_wp2_with fail
                refine hK.out _ _ ?_ (fun hHeld => ?_)
                · try dsimp only
                  exact HKS.out _ (Kp.below hv6)
                clear hK K
                try simp only [Act.put, List.setIfInBounds_toArray, List.set_cons_zero, List.set_cons_succ]
                refine wpAnyH_take (i := 16) (v := ?_) rfl (by kernel_rfl) (by kernel_rfl) (by kernel_rfl) (fun _ _ _ h => h) (Or.inl ⟨by rfl, ?_⟩) (by assumption) ?_
                rotate_left
                · intro w hSw
                  try dsimp only at hSw
                  first | (go_simp; done) | (go_simp; with_reducible rfl)
                change wpAnyH _ _ _ _ _ _ _ (Act.put _ (some 60) _) _
                try simp only [Act.put, List.setIfInBounds_toArray, List.set_cons_zero, List.set_cons_succ]
                refine wpAnyH_ready (rs := [17]) (by kernel_rfl) (by simp) ?_
                refine AllReadyH.cons rfl (fun K hK => ?_) AllReadyH.nil
                go_simp
                refine hK.out _ _ ?_ (fun hHeld => ?_)
                · try dsimp only
                  exact HKS.out _ (Kp.trans (M := fun y => y = w1.heap.size + 1) (Kp.below hv6) (Kp.setCell (M := fun y => y = w1.heap.size + 1) _ _ _ rfl))
                clear hK K
                try simp only [Act.put, List.setIfInBounds_toArray, List.set_cons_zero, List.set_cons_succ]
                refine wpAnyH_done (by kernel_rfl) ?_ _
                go_wp2
                go_roundw
                case rel =>
                  refine ⟨m + 1, by omega, by go_num, ?_, Kp.trans (M := fun y => y = w1.heap.size + 1) HKX.out (Kp.trans (M := fun y => y = w1.heap.size + 1) (Kp.below hv6) (Kp.setCell (M := fun y => y = w1.heap.size + 1) _ _ _ rfl))⟩
                  rw [HP1.out, HAC.out]
                  exact yo6.midput1 HTL.out (HNL.out _) natc_len (P + U) (.string (natB (P + U))) rfl
                case measure => simp [intOf]; omega
            · have : m = ins.length := by omega
              subst this
              have HKE : Hid (Kp (fun y => y = w1.heap.size + 1) w4 wi) := Kp.trans (M := fun y => y = w1.heap.size + 1) HKA.out HKI.out
              clear hown hkp
              go_wp2
              go_roundw
              case rel =>
                refine ⟨k + 1, by omega, by go_num, ?_, HKE.out⟩
                have h9 := HOI.out
                rw [HEND.out] at h9
                rw [HTK.out, List.append_assoc]; exact h9
              case measure => simp [intOf]; omega
    · have : k = l.length := by omega
      have HKE : Hid (k = l.length) := this
      have ho := HO.out
      rw [this, Nat.sub_self, List.replicate_zero, List.append_nil, List.take_of_length_le (by rw [sumsL_length]; exact Nat.le_refl _)] at ho
      clear this
      have hN1 : 1 ≤ l.length := (netOk_head HK.out).2.2.1
      have hL : ndsOk l N l.length := by have h := HK.out; simp [netOk] at h; exact h.2
      have hlast : l.length - 1 < l.length := by omega
      have hwr : IntKind.i64.wrap ((l.length : Int) - 1) = ((l.length - 1 : Nat) : Int) := by rw [IntWalk.i64_in _ (by omega)]; omega
      have hq2 : l.length - 1 < (varsL l).length := by rw [varsL_length]; omega
      have ev : vm l ((l.length - 1 : Nat) : Int) = (varsL l)[l.length - 1] := by unfold vm; simp [List.getD_eq_getElem?_getD, hq2]
      have v0 : wo.cell? ⟨w1.heap.size + 1, l.length - 1, none⟩ = some (.string (natB (sAt (sumsL l) ((l.length - 1 : Nat) : Int)))) := by
        have hc := ho.cell (sumsL_length l).symm natc_len (l.length - 1) 0 (by rw [sumsL_length]; omega) (by omega)
        simp only [Nat.mul_one, Nat.add_zero, natc] at hc
        rw [hc]
        have hq3 : l.length - 1 < (sumsL l).length := by rw [sumsL_length]; omega
        simp [sAt, List.getD_eq_getElem?_getD, hq3]
      have g0 : wo.cell? ⟨g, (l.length - 1) * 2, none⟩ = some (.int .u64 ((vm l ((l.length - 1 : Nat) : Int)).a : Int)) := by rw [ev]; exact E.out.ov.cell (varsL_length l).symm stc_len (l.length - 1) 0 hq2 (by omega)
      have g1 : wo.cell? ⟨g, (l.length - 1) * 2 + 1, none⟩ = some (.int .u64 ((vm l ((l.length - 1 : Nat) : Int)).b : Int)) := by rw [ev]; exact E.out.ov.cell (varsL_length l).symm stc_len (l.length - 1) 1 hq2 (by omega)
      have hvo : (vm l ((l.length - 1 : Nat) : Int)).ok := by rw [ev]; exact varsL_ok l _ (List.getElem_mem hq2)
      have hcd : card (allSt (N : Int)) = N := card_allSt (by omega)
      have hmin : minus (allSt (N : Int)) (vm l ((l.length - 1 : Nat) : Int)) = N - card (vm l ((l.length - 1 : Nat) : Int)) := by
        have h := card_minus (s := allSt (N : Int)) (t := vm l ((l.length - 1 : Nat) : Int)) (fun v hv => by
          have := vm_bd hL (l.length - 1) ((l.length - 1 : Nat) : Int) (by simp) (by omega) (by omega) v hv
          rw [allSt_mem]; simp; omega)
        omega
      have hsum : sAt (sumsL l) ((l.length - 1 : Nat) : Int) * 2 ^ minus (allSt (N : Int)) (vm l ((l.length - 1 : Nat) : Int)) = sumT N l := by rw [hmin]; rfl
      have hle : sumT N l ≤ 256 := by
        rw [sumT_cnt (by omega) HK.out HD.out HDET.out]
        exact Nat.le_trans (cnt_le _ _ _) (Nat.pow_le_pow_right (n := 2) (by omega) hN)
      have hle2 : sAt (sumsL l) ((l.length - 1 : Nat) : Int) ≤ 256 := Nat.le_trans (sum_le (N := N) (by omega) HK.out HD.out HDET.out hlast) (Nat.pow_le_pow_right (n := 2) (by omega) hN)
      have HWI := Lib.hid (fun V (h : Below wo.heap.size wo V) => wide_any (l.length - 1) (allSt (N : Int)) (vm l ((l.length - 1 : Nat) : Int)) (sAt (sumsL l) ((l.length - 1 : Nat) : Int)) w3.heap.size w1.heap.size (w.heap.size + 1) B (B + 1 + 1) (w1.heap.size + 1) g l.length l.length l.length V (HT.out.keep (E.out.later h).bw) (allSt_ok _) hvo hlast (by rw [hsum]; exact hle) hle2 (E.out.later h).ring (E.out.later h).p6 (E.out.later h).p5 (cell_keep h v0) (cell_keep h g0) (cell_keep h g1))
      rw [hsum] at HWI
      have HRE := Lib.hid E.out.r2
      have HBW := Lib.hid E.out.bw
      have p6 : wo.cell? ⟨w3.heap.size, 0, none⟩ = some (.slice (some ⟨w1.heap.size + 1, 0, none⟩) l.length l.length) := E.out.p6.cell 0
      have p6l := E.out.p6.lt
      have n0 : wo.cell? ⟨w.heap.size, 0, none⟩ = some (.int .i64 (N : Int)) := E.out.r0.cell 0
      have n0l := E.out.r0.lt
      generalize hX : sumT N l = X at *
      have HXE := Lib.hid hX
      have hkk : ¬ ((k : Int) < (l.length : Int)) := by omega
      clear hX hsum hle hle2 hmin hcd hvo g0 g1 v0 ev hq2 ho hL hlast
      have HWR := Lib.hid hwr
      clear hwr
      go_upto_region 25 with fail
      have hwr := HWR.out
      go_region_with (first
        | (go_at_call 107
           refine Calls.mono (all_any (N : Int) _) ?_
           rintro e v5 ⟨rfl, hb5⟩
           have hv5 : Below wo.heap.size wo v5 := (Below.refl wo.heap.size wo).drew.trans (hb5.mono (Nat.le_refl _))
           have z3 := cell_keep hv5 p6
           have z4 := cell_block z3)
        | (go_at_call 126
           refine Calls.mono (HWI.out _ hv5) ?_
           rintro e v6 ⟨rfl, hb6⟩
           have hv6 : Below wo.heap.size wo v6 := hv5.trans (hb6.mono hv5.size)
           have hre := HRE.out.later hv6
           have y0 := hre.cell 0
           have y1 := hre.fr 0
           have y2 := hre.lt
           unfold natv))
      all_goals
        clear hwr
        go_wp2
        have e0 : (v6.setCell ⟨w.heap.size + 1 + 1, 0, none⟩ (.string (natB X))).cell? ⟨w.heap.size + 1 + 1, 0, none⟩ = some (.string (natB X)) := (hre.set 0 _).cell 0
        exact bodyPost_ret (v := .agg #[.string (natB X)]) (by simp [results, Tryz.results65, go_sem, e0]) rfl ⟨by rw [HXE.out]; rfl, (HBW.out.trans (hv6.mono HBW.out.size)).setCell (show w.heap.size ≤ (⟨w.heap.size + 1 + 1, 0, none⟩ : Addr).block by dsimp only; omega) _⟩
end Go.Proofs.YtkaojolofaanfaaGreatDoor
