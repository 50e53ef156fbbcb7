/- Part of the proofs that laws of censuslaw38 return true for every input, where the tables that the rows list are laid. Texts: Pairs. -/
import Derived.Test.YtfdonhfhcomjaaaGreatDoorZA25
import Derived.Test.YtfdonhfhcomjaaaGreatDoorZC1
import Derived.Test.YtfdonhfhcomjaaaGreatDoorZC4

/- The walk of QueryPairs. -/
namespace Go.Proofs.YtfdonhfhcomjaaaGreatDoor
open Go.RowKit Cen
set_option maxHeartbeats 4000000
set_option maxRecDepth 100000
theorem eq_sets (s : St) (w : World) : (Op.equalIn 10000 38 (.agg #[.int .u64 (s.a : Int), .int .u64 (s.b : Int)]) (.agg #[.int .u64 (s.a : Int), .int .u64 (s.b : Int)])).run Tryz.prog w = .ok true w := by
  rw [run_equalIn_set 9998]; simp
theorem eq_zero (w : World) : (Op.equalIn 10000 38 (.agg #[.int .u64 0, .int .u64 0]) (.agg #[.int .u64 0, .int .u64 0])).run Tryz.prog w = .ok true w := by
  rw [run_equalIn_set 9998]; rfl
theorem cntRef_getD {N : Nat} {a b : List Nd} (h : cntRef N a b = (cntR ⟨N, a⟩ ⟨N, b⟩).map fun m => foundOf St.zero (some m)) : (cntRef N a b).getD St.zero = foundOf St.zero (cntR ⟨N, a⟩ ⟨N, b⟩) ∧ (cntRef N a b).isSome = (cntR ⟨N, a⟩ ⟨N, b⟩).isSome := by
  rw [h]
  cases cntR ⟨N, a⟩ ⟨N, b⟩ <;> exact ⟨rfl, rfl⟩
theorem pairs_any (n : Int) (aa : Option Addr) (ca : Nat) (a : List Nd) (m : Int) (ab : Option Addr) (cb : Nat) (b : List Nd) (w : World) (hla : a.length ≤ 9223372036854775807) (xa : NdCells0 w aa a) (hlb : b.length ≤ 9223372036854775807) (xb : NdCells0 w ab b) (ht : Tab w) :
    Calls Tryz.prog 6 #[.agg #[.int .i64 n, .slice aa a.length ca], .agg #[.int .i64 m, .slice ab b.length cb]] w fun e w' => e = .returned (.bool true) ∧ Below w.heap.size w w' := by
  have hb0 := ((Below.refl w.heap.size w).alloc (Nat.le_refl _) (.cells #[.int .i64 n, .slice aa a.length ca] 24)).alloc (by simp) (.cells #[.int .i64 m, .slice ab b.length cb] 24)
  have HB0 := Lib.hid hb0
  have q0 := Lib.hid ((Blk.new w #[.int .i64 n, .slice aa a.length ca] 24).alloc (.cells #[.int .i64 m, .slice ab b.length cb] 24))
  have q1 := Lib.hid (Blk.new' (w.alloc (.cells #[.int .i64 n, .slice aa a.length ca] 24)) (World.size_alloc _ _) #[.int .i64 m, .slice ab b.length cb] 24)
  have XA := Lib.hid (xa.keep hb0)
  have XB := Lib.hid (xb.keep hb0)
  have HLA := Lib.hid (fun V h => light_any n aa ca a V hla h)
  have HLB := Lib.hid (fun V h => light_any m ab cb b V hlb h)
  have HT := Lib.hid ht
  have HW := Lib.hid (fun V (hb : Below w.heap.size w V) => works_any V (ht.keep hb))
  obtain ⟨W0, hW0⟩ : ∃ W0, W0 = (w.alloc (.cells #[.int .i64 n, .slice aa a.length ca] 24)).alloc (.cells #[.int .i64 m, .slice ab b.length cb] 24) := ⟨_, rfl⟩
  have HW0 := Lib.hid hW0
  clear hb0 xa xb ht hW0
  cases hlia : lightB ⟨n, a⟩ with
  | false =>
    rw [hlia] at HLA
    clear hlia
    go_enter Tryz.func6, Tryz.ntmps6
    go_wp2_with fail
    refine (HLA.out _ XA.out).mono ?_
    rintro e w1 ⟨rfl, hb1⟩
    have Lw1 := Lib.hid (hb1)
    have L1 := Lw1
    have B1 := Lib.hid (HB0.out.trans (L1.out.mono HB0.out.size))
    clear hb1
    have Q := q0.out.later Lw1.out
    have k0_0 : w1.cell? ⟨w.heap.size, 0, none⟩ = some (.int .i64 n) := Q.cell 0
    have k0_1 : w1.cell? ⟨w.heap.size, 1, none⟩ = some (.slice aa a.length ca) := Q.cell 1
    have z0 : w.heap.size < w1.heap.size := Q.lt
    clear Q
    have Q := q1.out.later Lw1.out
    have k1_0 : w1.cell? ⟨w.heap.size + 1, 0, none⟩ = some (.int .i64 m) := Q.cell 0
    have k1_1 : w1.cell? ⟨w.heap.size + 1, 1, none⟩ = some (.slice ab b.length cb) := Q.cell 1
    have z1 : w.heap.size + 1 < w1.heap.size := Q.lt
    clear Q
    go_wp2_with fail
    refine (HW.out _ B1.out).mono ?_
    rintro e w2 ⟨rfl, hb2⟩
    have Lw2 := Lib.hid (L1.out.trans (hb2.mono L1.out.size))
    clear k0_0 k0_1 z0 k1_0 k1_1 z1
    have L2 := Lw2
    have B2 := Lib.hid (HB0.out.trans (L2.out.mono HB0.out.size))
    clear hb2
    go_wp2
    go_ret
    exact ⟨rfl, B2.out⟩
  | true =>
    rw [hlia] at HLA
    cases hlib : lightB ⟨m, b⟩ with
    | false =>
      rw [hlib] at HLB
      clear hlia hlib
      go_enter Tryz.func6, Tryz.ntmps6
      go_wp2_with fail
      refine (HLA.out _ XA.out).mono ?_
      rintro e w1 ⟨rfl, hb1⟩
      have Lw1 := Lib.hid (hb1)
      have L1 := Lw1
      have B1 := Lib.hid (HB0.out.trans (L1.out.mono HB0.out.size))
      clear hb1
      have Q := q0.out.later Lw1.out
      have k0_0 : w1.cell? ⟨w.heap.size, 0, none⟩ = some (.int .i64 n) := Q.cell 0
      have k0_1 : w1.cell? ⟨w.heap.size, 1, none⟩ = some (.slice aa a.length ca) := Q.cell 1
      have z0 : w.heap.size < w1.heap.size := Q.lt
      clear Q
      have Q := q1.out.later Lw1.out
      have k1_0 : w1.cell? ⟨w.heap.size + 1, 0, none⟩ = some (.int .i64 m) := Q.cell 0
      have k1_1 : w1.cell? ⟨w.heap.size + 1, 1, none⟩ = some (.slice ab b.length cb) := Q.cell 1
      have z1 : w.heap.size + 1 < w1.heap.size := Q.lt
      clear Q
      go_wp2_with fail
      refine (HLB.out _ (XB.out.keep L1.out)).mono ?_
      rintro e w2 ⟨rfl, hb2⟩
      have Lw2 := Lib.hid (L1.out.trans (hb2.mono L1.out.size))
      clear k0_0 k0_1 z0 k1_0 k1_1 z1
      have L2 := Lw2
      have B2 := Lib.hid (HB0.out.trans (L2.out.mono HB0.out.size))
      clear hb2
      have Q := q0.out.later Lw2.out
      have k0_0 : w2.cell? ⟨w.heap.size, 0, none⟩ = some (.int .i64 n) := Q.cell 0
      have k0_1 : w2.cell? ⟨w.heap.size, 1, none⟩ = some (.slice aa a.length ca) := Q.cell 1
      have z0 : w.heap.size < w2.heap.size := Q.lt
      clear Q
      have Q := q1.out.later Lw2.out
      have k1_0 : w2.cell? ⟨w.heap.size + 1, 0, none⟩ = some (.int .i64 m) := Q.cell 0
      have k1_1 : w2.cell? ⟨w.heap.size + 1, 1, none⟩ = some (.slice ab b.length cb) := Q.cell 1
      have z1 : w.heap.size + 1 < w2.heap.size := Q.lt
      clear Q
      go_wp2_with fail
      refine (HW.out _ B2.out).mono ?_
      rintro e w3 ⟨rfl, hb3⟩
      have Lw3 := Lib.hid (L2.out.trans (hb3.mono L2.out.size))
      clear k0_0 k0_1 z0 k1_0 k1_1 z1
      have L3 := Lw3
      have B3 := Lib.hid (HB0.out.trans (L3.out.mono HB0.out.size))
      clear hb3
      go_wp2
      go_ret
      exact ⟨rfl, B3.out⟩
    | true =>
      rw [hlib] at HLB
      obtain ⟨hl50a, hi50a, h8a⟩ := lightB_ok hlia
      obtain ⟨hl50b, hi50b, h8b⟩ := lightB_ok hlib
      simp only at hl50a hi50a h8a hl50b hi50b h8b
      have XNA := Lib.hid (XA.out.up fun x hx => by have := hi50a x hx; omega)
      have XNB := Lib.hid (XB.out.up fun x hx => by have := hi50b x hx; omega)
      have hl30a : a.length ≤ 1073741824 := by omega
      have hl30b : b.length ≤ 1073741824 := by omega
      have SA := Lib.hid (small50 hl50a hi50a)
      have SB := Lib.hid (small50 hl50b hi50b)
      have H8A := Lib.hid h8a
      have H8B := Lib.hid h8b
      clear hlia hlib hl50a hi50a h8a hl50b hi50b h8b
      by_cases hc : chk2 ⟨n, a⟩ ⟨m, b⟩ = 0
      · obtain ⟨hoa, hob, hnm, _, _⟩ := chk2_ok hc
        simp only at hnm
        subst hnm
        obtain ⟨hn0, hn1, _, _⟩ := netOk_head hoa
        simp only at hn0 hn1
        obtain ⟨N, rfl⟩ := Int.eq_ofNat_of_zero_le hn0
        have hN8 : N ≤ 16 := by have := H8A.out hoa; omega
        have hcs := chk2_symm hc
        have HCST : Hid (∀ (x y : List Nd), costP (N : Int) (N : Int).toNat x y ≤ 1000000000) := fun x y => cheap_cost (show (N : Int) ≤ 20 by omega) x y
        have HSM : Hid (∀ V, Below W0.heap.size W0 V → Calls Tryz.prog 22 #[.agg #[.int .i64 N, .slice aa a.length ca], .agg #[.int .i64 N, .slice ab b.length cb]] V fun e w' => e = .returned (.tuple #[.bool (sameR ⟨N, a⟩ ⟨N, b⟩), .int .i64 0]) ∧ Below V.heap.size V w') := Lib.hid fun V hV => by
          have h := same2_any N N aa ab ca cb a b V (XNA.out.keep (by rw [← HW0.out]; exact hV)) (XNB.out.keep (by rw [← HW0.out]; exact hV)) hl30a hl30b (fun _ => SA.out) (fun _ => SB.out) ⟨fun _ => HCST.out _ _, fun _ => HCST.out _ _⟩ (HT.out.keep (HB0.out.trans ((by rw [← HW0.out]; exact hV : Below _ _ V).mono HB0.out.size)))
          rw [hc] at h; exact h
        have HCT : Hid (∀ V, Below W0.heap.size W0 V → Calls Tryz.prog 23 #[.agg #[.int .i64 N, .slice aa a.length ca], .agg #[.int .i64 N, .slice ab b.length cb]] V fun e w' => e = .returned (.tuple #[stv (foundOf St.zero (cntR ⟨N, a⟩ ⟨N, b⟩)), .bool (cntR ⟨N, a⟩ ⟨N, b⟩).isSome, .int .i64 0]) ∧ Below V.heap.size V w') := Lib.hid fun V hV => by
          have h := counter2_any N N aa ab ca cb a b V (XNA.out.keep (by rw [← HW0.out]; exact hV)) (XNB.out.keep (by rw [← HW0.out]; exact hV)) hl30a hl30b (fun _ => SA.out) (fun _ => SB.out) (fun _ => HCST.out _ _) (HT.out.keep (HB0.out.trans ((by rw [← HW0.out]; exact hV : Below _ _ V).mono HB0.out.size)))
          rw [hc] at h; exact h
        have HCK : Hid (∀ V, Below W0.heap.size W0 V → Calls Tryz.prog 24 #[.agg #[.int .i64 N, .slice aa a.length ca], .agg #[.int .i64 N, .slice ab b.length cb]] V fun e w' => e = .returned (.int .i64 0) ∧ Below V.heap.size V w') := Lib.hid fun V hV => by
          have h := rCheck2_any N N aa ab ca cb a b V (XNA.out.keep (by rw [← HW0.out]; exact hV)) (XNB.out.keep (by rw [← HW0.out]; exact hV)) hl30a hl30b
          rw [hc] at h; exact h
        have R1 := cnt_ref hN8 SA.out SB.out hc
        have R2 := cnt_ref hN8 SB.out SA.out hcs
        have HRC : Hid (∀ V, Below W0.heap.size W0 V → Calls Tryz.prog 25 #[.agg #[.int .i64 N, .slice aa a.length ca], .agg #[.int .i64 N, .slice ab b.length cb]] V fun e w' => e = .returned (.tuple #[stv (foundOf St.zero (cntR ⟨N, a⟩ ⟨N, b⟩)), .bool (cntR ⟨N, a⟩ ⟨N, b⟩).isSome]) ∧ Below V.heap.size V w') := Lib.hid fun V hV => by
          have h := rCounter_any N aa ab ca cb a b V hoa hob hN8 (XNA.out.keep (by rw [← HW0.out]; exact hV)) (XNB.out.keep (by rw [← HW0.out]; exact hV))
          rw [(cntRef_getD R1).1, (cntRef_getD R1).2] at h; exact h
        have HRD : Hid (∀ V, Below W0.heap.size W0 V → Calls Tryz.prog 25 #[.agg #[.int .i64 N, .slice ab b.length cb], .agg #[.int .i64 N, .slice aa a.length ca]] V fun e w' => e = .returned (.tuple #[stv (foundOf St.zero (cntR ⟨N, b⟩ ⟨N, a⟩)), .bool (cntR ⟨N, b⟩ ⟨N, a⟩).isSome]) ∧ Below V.heap.size V w') := Lib.hid fun V hV => by
          have h := rCounter_any N ab aa cb ca b a V hob hoa hN8 (XNB.out.keep (by rw [← HW0.out]; exact hV)) (XNA.out.keep (by rw [← HW0.out]; exact hV))
          rw [(cntRef_getD R2).1, (cntRef_getD R2).2] at h; exact h
        have HSS := Lib.hid (same_sides hc hcs)
        rw [HSS.out] at HSM
        clear hc hcs hoa hob hn0 hn1 R1 R2 HSS
        generalize foundOf St.zero (cntR ⟨N, a⟩ ⟨N, b⟩) = F at *
        generalize foundOf St.zero (cntR ⟨N, b⟩ ⟨N, a⟩) = G at *
        generalize (cntR ⟨N, a⟩ ⟨N, b⟩).isSome = o1 at *
        generalize (cntR ⟨N, b⟩ ⟨N, a⟩).isSome = o2 at *
        have heq := eq_sets F
        obtain rfl := HW0.out
        cases o1 <;> cases o2
        all_goals
          go_enter Tryz.func6, Tryz.ntmps6
          go_wp2_with fail
          refine (HLA.out _ XA.out).mono ?_
          rintro e w1 ⟨rfl, hb1⟩
          have Lw1 := Lib.hid (hb1)
          have L1 := Lw1
          have B1 := Lib.hid (HB0.out.trans (L1.out.mono HB0.out.size))
          clear hb1
          have Q := q0.out.later Lw1.out
          have k0_0 : w1.cell? ⟨w.heap.size, 0, none⟩ = some (.int .i64 N) := Q.cell 0
          have k0_1 : w1.cell? ⟨w.heap.size, 1, none⟩ = some (.slice aa a.length ca) := Q.cell 1
          have z0 : w.heap.size < w1.heap.size := Q.lt
          clear Q
          have Q := q1.out.later Lw1.out
          have k1_0 : w1.cell? ⟨w.heap.size + 1, 0, none⟩ = some (.int .i64 N) := Q.cell 0
          have k1_1 : w1.cell? ⟨w.heap.size + 1, 1, none⟩ = some (.slice ab b.length cb) := Q.cell 1
          have z1 : w.heap.size + 1 < w1.heap.size := Q.lt
          clear Q
          go_wp2_with fail
          refine (HLB.out _ (XB.out.keep L1.out)).mono ?_
          rintro e w2 ⟨rfl, hb2⟩
          have Lw2 := Lib.hid (L1.out.trans (hb2.mono L1.out.size))
          clear k0_0 k0_1 z0 k1_0 k1_1 z1
          have L2 := Lw2
          have B2 := Lib.hid (HB0.out.trans (L2.out.mono HB0.out.size))
          clear hb2
          have Q := q0.out.later Lw2.out
          have k0_0 : w2.cell? ⟨w.heap.size, 0, none⟩ = some (.int .i64 N) := Q.cell 0
          have k0_1 : w2.cell? ⟨w.heap.size, 1, none⟩ = some (.slice aa a.length ca) := Q.cell 1
          have z0 : w.heap.size < w2.heap.size := Q.lt
          clear Q
          have Q := q1.out.later Lw2.out
          have k1_0 : w2.cell? ⟨w.heap.size + 1, 0, none⟩ = some (.int .i64 N) := Q.cell 0
          have k1_1 : w2.cell? ⟨w.heap.size + 1, 1, none⟩ = some (.slice ab b.length cb) := Q.cell 1
          have z1 : w.heap.size + 1 < w2.heap.size := Q.lt
          clear Q
          go_wp2_with fail
          refine (HSM.out _ L2.out).mono ?_
          rintro e w3 ⟨rfl, hb3⟩
          have Lw3 := Lib.hid (L2.out.trans (hb3.mono L2.out.size))
          clear k0_0 k0_1 z0 k1_0 k1_1 z1
          have L3 := Lw3
          have B3 := Lib.hid (HB0.out.trans (L3.out.mono HB0.out.size))
          clear hb3
          have Q := q0.out.later Lw3.out
          have k0_0 : w3.cell? ⟨w.heap.size, 0, none⟩ = some (.int .i64 N) := Q.cell 0
          have k0_1 : w3.cell? ⟨w.heap.size, 1, none⟩ = some (.slice aa a.length ca) := Q.cell 1
          have z0 : w.heap.size < w3.heap.size := Q.lt
          clear Q
          have Q := q1.out.later Lw3.out
          have k1_0 : w3.cell? ⟨w.heap.size + 1, 0, none⟩ = some (.int .i64 N) := Q.cell 0
          have k1_1 : w3.cell? ⟨w.heap.size + 1, 1, none⟩ = some (.slice ab b.length cb) := Q.cell 1
          have z1 : w.heap.size + 1 < w3.heap.size := Q.lt
          clear Q
          go_wp2_with fail
          refine (HCT.out _ L3.out).mono ?_
          rintro e w4 ⟨rfl, hb4⟩
          have Lw4 := Lib.hid (L3.out.trans (hb4.mono L3.out.size))
          clear k0_0 k0_1 z0 k1_0 k1_1 z1
          have L4 := Lib.hid (Lw4.out.alloc Lw4.out.size (.cells #[.int .u64 (F.a : Int), .int .u64 (F.b : Int)] 38))
          have S4 := Lib.hid (Blk.new w4 #[.int .u64 (F.a : Int), .int .u64 (F.b : Int)] 38)
          have B4 := Lib.hid (HB0.out.trans (L4.out.mono HB0.out.size))
          clear hb4
          have Q := q0.out.later Lw4.out
          have k0_0 : w4.cell? ⟨w.heap.size, 0, none⟩ = some (.int .i64 N) := Q.cell 0
          have k0_1 : w4.cell? ⟨w.heap.size, 1, none⟩ = some (.slice aa a.length ca) := Q.cell 1
          have z0 : w.heap.size < w4.heap.size := Q.lt
          clear Q
          have Q := q1.out.later Lw4.out
          have k1_0 : w4.cell? ⟨w.heap.size + 1, 0, none⟩ = some (.int .i64 N) := Q.cell 0
          have k1_1 : w4.cell? ⟨w.heap.size + 1, 1, none⟩ = some (.slice ab b.length cb) := Q.cell 1
          have z1 : w.heap.size + 1 < w4.heap.size := Q.lt
          clear Q
          go_wp2_with fail
          refine (HCK.out _ L4.out).mono ?_
          rintro e w5 ⟨rfl, hb5⟩
          have Lw5 := Lib.hid (L4.out.trans (hb5.mono L4.out.size))
          clear k0_0 k0_1 z0 k1_0 k1_1 z1
          have S4_5 := Lib.hid (S4.out.later hb5)
          have L5 := Lw5
          have B5 := Lib.hid (HB0.out.trans (L5.out.mono HB0.out.size))
          clear hb5
          have Q := q0.out.later Lw5.out
          have k0_0 : w5.cell? ⟨w.heap.size, 0, none⟩ = some (.int .i64 N) := Q.cell 0
          have k0_1 : w5.cell? ⟨w.heap.size, 1, none⟩ = some (.slice aa a.length ca) := Q.cell 1
          have z0 : w.heap.size < w5.heap.size := Q.lt
          clear Q
          have Q := q1.out.later Lw5.out
          have k1_0 : w5.cell? ⟨w.heap.size + 1, 0, none⟩ = some (.int .i64 N) := Q.cell 0
          have k1_1 : w5.cell? ⟨w.heap.size + 1, 1, none⟩ = some (.slice ab b.length cb) := Q.cell 1
          have z1 : w.heap.size + 1 < w5.heap.size := Q.lt
          clear Q
          have jS4_0 : w5.cell? ⟨w4.heap.size, 0, none⟩ = some (.int .u64 (F.a : Int)) := S4_5.out.cell 0
          have jS4_1 : w5.cell? ⟨w4.heap.size, 1, none⟩ = some (.int .u64 (F.b : Int)) := S4_5.out.cell 1
          have yS4 : w4.heap.size < w5.heap.size := S4_5.out.lt
          go_wp2_with fail
          refine (HRC.out _ L5.out).mono ?_
          rintro e w6 ⟨rfl, hb6⟩
          have Lw6 := Lib.hid (L5.out.trans (hb6.mono L5.out.size))
          clear k0_0 k0_1 z0 k1_0 k1_1 z1 jS4_0 jS4_1 yS4
          have S4_6 := Lib.hid (S4_5.out.later hb6)
          have L6 := Lib.hid (Lw6.out.alloc Lw6.out.size (.cells #[.int .u64 (F.a : Int), .int .u64 (F.b : Int)] 38))
          have S4_6a := Lib.hid (S4_6.out.alloc (.cells #[.int .u64 (F.a : Int), .int .u64 (F.b : Int)] 38))
          have S6 := Lib.hid (Blk.new w6 #[.int .u64 (F.a : Int), .int .u64 (F.b : Int)] 38)
          have B6 := Lib.hid (HB0.out.trans (L6.out.mono HB0.out.size))
          clear hb6
          have Q := q0.out.later Lw6.out
          have k0_0 : w6.cell? ⟨w.heap.size, 0, none⟩ = some (.int .i64 N) := Q.cell 0
          have k0_1 : w6.cell? ⟨w.heap.size, 1, none⟩ = some (.slice aa a.length ca) := Q.cell 1
          have z0 : w.heap.size < w6.heap.size := Q.lt
          clear Q
          have Q := q1.out.later Lw6.out
          have k1_0 : w6.cell? ⟨w.heap.size + 1, 0, none⟩ = some (.int .i64 N) := Q.cell 0
          have k1_1 : w6.cell? ⟨w.heap.size + 1, 1, none⟩ = some (.slice ab b.length cb) := Q.cell 1
          have z1 : w.heap.size + 1 < w6.heap.size := Q.lt
          clear Q
          have jS4_0 : w6.cell? ⟨w4.heap.size, 0, none⟩ = some (.int .u64 (F.a : Int)) := S4_6.out.cell 0
          have jS4_1 : w6.cell? ⟨w4.heap.size, 1, none⟩ = some (.int .u64 (F.b : Int)) := S4_6.out.cell 1
          have yS4 : w4.heap.size < w6.heap.size := S4_6.out.lt
          go_wp2_with fail
          refine (HRD.out _ L6.out).mono ?_
          rintro e w7 ⟨rfl, hb7⟩
          have Lw7 := Lib.hid (L6.out.trans (hb7.mono L6.out.size))
          clear k0_0 k0_1 z0 k1_0 k1_1 z1 jS4_0 jS4_1 yS4
          have S4_7 := Lib.hid (S4_6a.out.later hb7)
          have S6_7 := Lib.hid (S6.out.later hb7)
          have L7 := Lib.hid (Lw7.out.alloc Lw7.out.size (.cells #[.int .u64 (G.a : Int), .int .u64 (G.b : Int)] 38))
          have S4_7a := Lib.hid (S4_7.out.alloc (.cells #[.int .u64 (G.a : Int), .int .u64 (G.b : Int)] 38))
          have S6_7a := Lib.hid (S6_7.out.alloc (.cells #[.int .u64 (G.a : Int), .int .u64 (G.b : Int)] 38))
          have S7 := Lib.hid (Blk.new w7 #[.int .u64 (G.a : Int), .int .u64 (G.b : Int)] 38)
          have B7 := Lib.hid (HB0.out.trans (L7.out.mono HB0.out.size))
          clear hb7
          have Q := q0.out.later Lw7.out
          have k0_0 : w7.cell? ⟨w.heap.size, 0, none⟩ = some (.int .i64 N) := Q.cell 0
          have k0_1 : w7.cell? ⟨w.heap.size, 1, none⟩ = some (.slice aa a.length ca) := Q.cell 1
          have z0 : w.heap.size < w7.heap.size := Q.lt
          clear Q
          have Q := q1.out.later Lw7.out
          have k1_0 : w7.cell? ⟨w.heap.size + 1, 0, none⟩ = some (.int .i64 N) := Q.cell 0
          have k1_1 : w7.cell? ⟨w.heap.size + 1, 1, none⟩ = some (.slice ab b.length cb) := Q.cell 1
          have z1 : w.heap.size + 1 < w7.heap.size := Q.lt
          clear Q
          have jS4_0 : w7.cell? ⟨w4.heap.size, 0, none⟩ = some (.int .u64 (F.a : Int)) := S4_7.out.cell 0
          have jS4_1 : w7.cell? ⟨w4.heap.size, 1, none⟩ = some (.int .u64 (F.b : Int)) := S4_7.out.cell 1
          have yS4 : w4.heap.size < w7.heap.size := S4_7.out.lt
          have jS6_0 : w7.cell? ⟨w6.heap.size, 0, none⟩ = some (.int .u64 (F.a : Int)) := S6_7.out.cell 0
          have jS6_1 : w7.cell? ⟨w6.heap.size, 1, none⟩ = some (.int .u64 (F.b : Int)) := S6_7.out.cell 1
          have yS6 : w6.heap.size < w7.heap.size := S6_7.out.lt
          go_wp2_with fail
          refine (HW.out _ B7.out).mono ?_
          rintro e w8 ⟨rfl, hb8⟩
          have Lw8 := Lib.hid (L7.out.trans (hb8.mono L7.out.size))
          clear k0_0 k0_1 z0 k1_0 k1_1 z1 jS4_0 jS4_1 yS4 jS6_0 jS6_1 yS6
          have S4_8 := Lib.hid (S4_7a.out.later hb8)
          have S6_8 := Lib.hid (S6_7a.out.later hb8)
          have S7_8 := Lib.hid (S7.out.later hb8)
          have L8 := Lw8
          have B8 := Lib.hid (HB0.out.trans (L8.out.mono HB0.out.size))
          clear hb8
          go_wp2
          go_ret
          exact ⟨rfl, B8.out⟩
      · have HSM : Hid (∀ V, Below W0.heap.size W0 V → Calls Tryz.prog 22 #[.agg #[.int .i64 n, .slice aa a.length ca], .agg #[.int .i64 m, .slice ab b.length cb]] V fun e w' => e = .returned (.tuple #[.bool false, .int .i64 (chk2 ⟨n, a⟩ ⟨m, b⟩)]) ∧ Below V.heap.size V w') := Lib.hid fun V hV => by
          have h := same2_any n m aa ab ca cb a b V (XNA.out.keep (by rw [← HW0.out]; exact hV)) (XNB.out.keep (by rw [← HW0.out]; exact hV)) hl30a hl30b (fun _ => SA.out) (fun _ => SB.out) ⟨fun h => absurd h hc, fun h => absurd h hc⟩ (HT.out.keep (HB0.out.trans ((by rw [← HW0.out]; exact hV : Below _ _ V).mono HB0.out.size)))
          have e : sameR ⟨n, a⟩ ⟨m, b⟩ = false := by unfold sameR; rw [decide_eq_false hc]; rfl
          rw [e] at h; exact h
        have HCT : Hid (∀ V, Below W0.heap.size W0 V → Calls Tryz.prog 23 #[.agg #[.int .i64 n, .slice aa a.length ca], .agg #[.int .i64 m, .slice ab b.length cb]] V fun e w' => e = .returned (.tuple #[.agg #[.int .u64 0, .int .u64 0], .bool false, .int .i64 (chk2 ⟨n, a⟩ ⟨m, b⟩)]) ∧ Below V.heap.size V w') := Lib.hid fun V hV => by
          have h := counter2_any n m aa ab ca cb a b V (XNA.out.keep (by rw [← HW0.out]; exact hV)) (XNB.out.keep (by rw [← HW0.out]; exact hV)) hl30a hl30b (fun _ => SA.out) (fun _ => SB.out) (fun h => absurd h hc) (HT.out.keep (HB0.out.trans ((by rw [← HW0.out]; exact hV : Below _ _ V).mono HB0.out.size)))
          have e : cntR ⟨n, a⟩ ⟨m, b⟩ = none := by unfold cntR; rw [if_neg hc]
          rw [e] at h; exact h
        have HCK : Hid (∀ V, Below W0.heap.size W0 V → Calls Tryz.prog 24 #[.agg #[.int .i64 n, .slice aa a.length ca], .agg #[.int .i64 m, .slice ab b.length cb]] V fun e w' => e = .returned (.int .i64 (chk2 ⟨n, a⟩ ⟨m, b⟩)) ∧ Below V.heap.size V w') := Lib.hid fun V hV =>
          rCheck2_any n m aa ab ca cb a b V (XNA.out.keep (by rw [← HW0.out]; exact hV)) (XNB.out.keep (by rw [← HW0.out]; exact hV)) hl30a hl30b
        have hcb : (chk2 ⟨n, a⟩ ⟨m, b⟩ != 0) = true := by simpa using hc
        clear hc
        generalize chk2 ⟨n, a⟩ ⟨m, b⟩ = c at *
        have hcc : (c == c) = true := by simp
        have heq := eq_zero
        obtain rfl := HW0.out
        go_enter Tryz.func6, Tryz.ntmps6
        go_wp2_with fail
        refine (HLA.out _ XA.out).mono ?_
        rintro e w1 ⟨rfl, hb1⟩
        have Lw1 := Lib.hid (hb1)
        have L1 := Lw1
        have B1 := Lib.hid (HB0.out.trans (L1.out.mono HB0.out.size))
        clear hb1
        have Q := q0.out.later Lw1.out
        have k0_0 : w1.cell? ⟨w.heap.size, 0, none⟩ = some (.int .i64 n) := Q.cell 0
        have k0_1 : w1.cell? ⟨w.heap.size, 1, none⟩ = some (.slice aa a.length ca) := Q.cell 1
        have z0 : w.heap.size < w1.heap.size := Q.lt
        clear Q
        have Q := q1.out.later Lw1.out
        have k1_0 : w1.cell? ⟨w.heap.size + 1, 0, none⟩ = some (.int .i64 m) := Q.cell 0
        have k1_1 : w1.cell? ⟨w.heap.size + 1, 1, none⟩ = some (.slice ab b.length cb) := Q.cell 1
        have z1 : w.heap.size + 1 < w1.heap.size := Q.lt
        clear Q
        go_wp2_with fail
        refine (HLB.out _ (XB.out.keep L1.out)).mono ?_
        rintro e w2 ⟨rfl, hb2⟩
        have Lw2 := Lib.hid (L1.out.trans (hb2.mono L1.out.size))
        clear k0_0 k0_1 z0 k1_0 k1_1 z1
        have L2 := Lw2
        have B2 := Lib.hid (HB0.out.trans (L2.out.mono HB0.out.size))
        clear hb2
        have Q := q0.out.later Lw2.out
        have k0_0 : w2.cell? ⟨w.heap.size, 0, none⟩ = some (.int .i64 n) := Q.cell 0
        have k0_1 : w2.cell? ⟨w.heap.size, 1, none⟩ = some (.slice aa a.length ca) := Q.cell 1
        have z0 : w.heap.size < w2.heap.size := Q.lt
        clear Q
        have Q := q1.out.later Lw2.out
        have k1_0 : w2.cell? ⟨w.heap.size + 1, 0, none⟩ = some (.int .i64 m) := Q.cell 0
        have k1_1 : w2.cell? ⟨w.heap.size + 1, 1, none⟩ = some (.slice ab b.length cb) := Q.cell 1
        have z1 : w.heap.size + 1 < w2.heap.size := Q.lt
        clear Q
        go_wp2_with fail
        refine (HSM.out _ L2.out).mono ?_
        rintro e w3 ⟨rfl, hb3⟩
        have Lw3 := Lib.hid (L2.out.trans (hb3.mono L2.out.size))
        clear k0_0 k0_1 z0 k1_0 k1_1 z1
        have L3 := Lw3
        have B3 := Lib.hid (HB0.out.trans (L3.out.mono HB0.out.size))
        clear hb3
        have Q := q0.out.later Lw3.out
        have k0_0 : w3.cell? ⟨w.heap.size, 0, none⟩ = some (.int .i64 n) := Q.cell 0
        have k0_1 : w3.cell? ⟨w.heap.size, 1, none⟩ = some (.slice aa a.length ca) := Q.cell 1
        have z0 : w.heap.size < w3.heap.size := Q.lt
        clear Q
        have Q := q1.out.later Lw3.out
        have k1_0 : w3.cell? ⟨w.heap.size + 1, 0, none⟩ = some (.int .i64 m) := Q.cell 0
        have k1_1 : w3.cell? ⟨w.heap.size + 1, 1, none⟩ = some (.slice ab b.length cb) := Q.cell 1
        have z1 : w.heap.size + 1 < w3.heap.size := Q.lt
        clear Q
        go_wp2_with fail
        refine (HCT.out _ L3.out).mono ?_
        rintro e w4 ⟨rfl, hb4⟩
        have Lw4 := Lib.hid (L3.out.trans (hb4.mono L3.out.size))
        clear k0_0 k0_1 z0 k1_0 k1_1 z1
        have L4 := Lib.hid (Lw4.out.alloc Lw4.out.size (.cells #[.int .u64 0, .int .u64 0] 38))
        have S4 := Lib.hid (Blk.new w4 #[.int .u64 0, .int .u64 0] 38)
        have B4 := Lib.hid (HB0.out.trans (L4.out.mono HB0.out.size))
        clear hb4
        have Q := q0.out.later Lw4.out
        have k0_0 : w4.cell? ⟨w.heap.size, 0, none⟩ = some (.int .i64 n) := Q.cell 0
        have k0_1 : w4.cell? ⟨w.heap.size, 1, none⟩ = some (.slice aa a.length ca) := Q.cell 1
        have z0 : w.heap.size < w4.heap.size := Q.lt
        clear Q
        have Q := q1.out.later Lw4.out
        have k1_0 : w4.cell? ⟨w.heap.size + 1, 0, none⟩ = some (.int .i64 m) := Q.cell 0
        have k1_1 : w4.cell? ⟨w.heap.size + 1, 1, none⟩ = some (.slice ab b.length cb) := Q.cell 1
        have z1 : w.heap.size + 1 < w4.heap.size := Q.lt
        clear Q
        go_wp2_with fail
        refine (HCK.out _ L4.out).mono ?_
        rintro e w5 ⟨rfl, hb5⟩
        have Lw5 := Lib.hid (L4.out.trans (hb5.mono L4.out.size))
        clear k0_0 k0_1 z0 k1_0 k1_1 z1
        have S4_5 := Lib.hid (S4.out.later hb5)
        have L5 := Lw5
        have B5 := Lib.hid (HB0.out.trans (L5.out.mono HB0.out.size))
        clear hb5
        have Q := q0.out.later Lw5.out
        have k0_0 : w5.cell? ⟨w.heap.size, 0, none⟩ = some (.int .i64 n) := Q.cell 0
        have k0_1 : w5.cell? ⟨w.heap.size, 1, none⟩ = some (.slice aa a.length ca) := Q.cell 1
        have z0 : w.heap.size < w5.heap.size := Q.lt
        clear Q
        have Q := q1.out.later Lw5.out
        have k1_0 : w5.cell? ⟨w.heap.size + 1, 0, none⟩ = some (.int .i64 m) := Q.cell 0
        have k1_1 : w5.cell? ⟨w.heap.size + 1, 1, none⟩ = some (.slice ab b.length cb) := Q.cell 1
        have z1 : w.heap.size + 1 < w5.heap.size := Q.lt
        clear Q
        have jS4_0 : w5.cell? ⟨w4.heap.size, 0, none⟩ = some (.int .u64 0) := S4_5.out.cell 0
        have jS4_1 : w5.cell? ⟨w4.heap.size, 1, none⟩ = some (.int .u64 0) := S4_5.out.cell 1
        have yS4 : w4.heap.size < w5.heap.size := S4_5.out.lt
        go_wp2_with fail
        refine (HW.out _ B5.out).mono ?_
        rintro e w6 ⟨rfl, hb6⟩
        have Lw6 := Lib.hid (L5.out.trans (hb6.mono L5.out.size))
        clear k0_0 k0_1 z0 k1_0 k1_1 z1 jS4_0 jS4_1 yS4
        have S4_6 := Lib.hid (S4_5.out.later hb6)
        have L6 := Lw6
        have B6 := Lib.hid (HB0.out.trans (L6.out.mono HB0.out.size))
        clear hb6
        go_wp2
        go_ret
        exact ⟨rfl, B6.out⟩
end Go.Proofs.YtfdonhfhcomjaaaGreatDoor
