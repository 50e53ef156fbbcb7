/- Part of the proofs that laws of censuslaw38 return true for every input, where the tables that the rows list are laid. Texts: Sides. -/
import Derived.Test.YtfdonhfhcomjaaaGreatDoorZC5
import Derived.Deep.DeepCutAuto
import Derived.Deep.CutRange

/- The walk of QuerySides. -/
namespace Go.Proofs.YtfdonhfhcomjaaaGreatDoor
open Go.RowKit Cen
set_option maxHeartbeats 8000000
set_option maxRecDepth 100000
theorem lflat_any (n kind : Int) (w : World) :
    Calls Tryz.prog 26 #[.int .i64 n, .int .i64 kind] w fun e w' => ∃ b, e = .returned (.agg #[.int .i64 n, .slice (some ⟨b, 0, none⟩) 1 1]) ∧ NdCells w' (some ⟨b, 0, none⟩) [⟨kind, 0, []⟩] ∧ Below w.heap.size w w' := by
  go_enter Tryz.func26, Tryz.ntmps26
  go_wp2
  refine bodyPost_ret (v := .agg #[.int .i64 n, .slice (some ⟨w.heap.size + 1, 0, none⟩) 1 1]) (by simp [results, Tryz.results26, go_sem]) rfl ⟨w.heap.size + 1, rfl, ?_, ((Below.refl _ _).alloc (Nat.le_refl _) _).alloc (by simp) _⟩
  intro i hi
  have : i = 0 := by simpa using hi
  subst this
  refine ⟨_, _, rfl, ?_⟩
  have hc : ∀ j, ((w.alloc (.cells #[.int .i64 n, .slice (some ⟨w.heap.size + 1, 0, none⟩) 1 1] 24)).alloc (.cells #[.int .i64 kind, .int .i64 0, .slice none 0 0] 73)).cell? ⟨w.heap.size + 1, j, none⟩ = (#[.int .i64 kind, .int .i64 0, .slice none 0 0] : Array Value)[j]? := by
    intro j; rw [World.cell?_alloc_at _ _ _ _ (by simp)]
  refine ⟨hc 0, hc 1, none, 0, hc 2, IntCells.nil _ _, by simp⟩
theorem sides_any (n : Int) (aa : Option Addr) (ca : Nat) (a : List Nd) (m : Int) (ab : Option Addr) (cb : Nat) (b : List Nd) (w : World) (hla : a.length ≤ 9223372036854775807) (xa : NdCells0 w aa a) (hlb : b.length ≤ 9223372036854775807) (xb : NdCells0 w ab b) (ht : Tab w) :
    Calls Tryz.prog 7 #[.agg #[.int .i64 n, .slice aa a.length ca], .agg #[.int .i64 m, .slice ab b.length cb]] w fun e w' => e = .returned (.bool true) ∧ Below w.heap.size w w' := by
  have hb0 := ((Below.refl w.heap.size w).alloc (Nat.le_refl _) (.cells #[.int .i64 n, .slice aa a.length ca] 24)).alloc (by simp) (.cells #[.int .i64 m, .slice ab b.length cb] 24)
  have HB0 := Lib.hid hb0
  have q0 := Lib.hid ((Blk.new w #[.int .i64 n, .slice aa a.length ca] 24).alloc (.cells #[.int .i64 m, .slice ab b.length cb] 24))
  have q1 := Lib.hid (Blk.new' (w.alloc (.cells #[.int .i64 n, .slice aa a.length ca] 24)) (World.size_alloc _ _) #[.int .i64 m, .slice ab b.length cb] 24)
  have XA := Lib.hid (xa.keep hb0)
  have XB := Lib.hid (xb.keep hb0)
  have HLA := Lib.hid (fun V h => light_any n aa ca a V hla h)
  have HLB := Lib.hid (fun V h => light_any m ab cb b V hlb h)
  have HT := Lib.hid ht
  have HW := Lib.hid (fun V (hb : Below w.heap.size w V) => works_any V (ht.keep hb))
  obtain ⟨W0, hW0⟩ : ∃ W0, W0 = (w.alloc (.cells #[.int .i64 n, .slice aa a.length ca] 24)).alloc (.cells #[.int .i64 m, .slice ab b.length cb] 24) := ⟨_, rfl⟩
  have HW0 := Lib.hid hW0
  clear hb0 xa xb ht hW0
  cases hlia : lightB ⟨n, a⟩ with
  | false =>
    rw [hlia] at HLA
    clear hlia
    go_enter Tryz.func7, Tryz.ntmps7
    go_wp2_with fail
    refine (HLA.out _ XA.out).mono ?_
    rintro e w1 ⟨rfl, hb1⟩
    have Lw1 := Lib.hid (hb1)
    have L1 := Lw1
    have B1 := Lib.hid (HB0.out.trans (L1.out.mono HB0.out.size))
    clear hb1
    have Q := q0.out.later Lw1.out
    have k0_0 : w1.cell? ⟨w.heap.size, 0, none⟩ = some (.int .i64 n) := Q.cell 0
    have k0_1 : w1.cell? ⟨w.heap.size, 1, none⟩ = some (.slice aa a.length ca) := Q.cell 1
    have z0 : w.heap.size < w1.heap.size := Q.lt
    clear Q
    have Q := q1.out.later Lw1.out
    have k1_0 : w1.cell? ⟨w.heap.size + 1, 0, none⟩ = some (.int .i64 m) := Q.cell 0
    have k1_1 : w1.cell? ⟨w.heap.size + 1, 1, none⟩ = some (.slice ab b.length cb) := Q.cell 1
    have z1 : w.heap.size + 1 < w1.heap.size := Q.lt
    clear Q
    go_wp2_with fail
    refine (HW.out _ B1.out).mono ?_
    rintro e w2 ⟨rfl, hb2⟩
    have Lw2 := Lib.hid (L1.out.trans (hb2.mono L1.out.size))
    clear k0_0 k0_1 z0 k1_0 k1_1 z1
    have L2 := Lw2
    have B2 := Lib.hid (HB0.out.trans (L2.out.mono HB0.out.size))
    clear hb2
    go_wp2
    go_ret
    exact ⟨rfl, B2.out⟩
  | true =>
    rw [hlia] at HLA
    cases hlib : lightB ⟨m, b⟩ with
    | false =>
      rw [hlib] at HLB
      clear hlia hlib
      go_enter Tryz.func7, Tryz.ntmps7
      go_wp2_with fail
      refine (HLA.out _ XA.out).mono ?_
      rintro e w1 ⟨rfl, hb1⟩
      have Lw1 := Lib.hid (hb1)
      have L1 := Lw1
      have B1 := Lib.hid (HB0.out.trans (L1.out.mono HB0.out.size))
      clear hb1
      have Q := q0.out.later Lw1.out
      have k0_0 : w1.cell? ⟨w.heap.size, 0, none⟩ = some (.int .i64 n) := Q.cell 0
      have k0_1 : w1.cell? ⟨w.heap.size, 1, none⟩ = some (.slice aa a.length ca) := Q.cell 1
      have z0 : w.heap.size < w1.heap.size := Q.lt
      clear Q
      have Q := q1.out.later Lw1.out
      have k1_0 : w1.cell? ⟨w.heap.size + 1, 0, none⟩ = some (.int .i64 m) := Q.cell 0
      have k1_1 : w1.cell? ⟨w.heap.size + 1, 1, none⟩ = some (.slice ab b.length cb) := Q.cell 1
      have z1 : w.heap.size + 1 < w1.heap.size := Q.lt
      clear Q
      go_wp2_with fail
      refine (HLB.out _ (XB.out.keep L1.out)).mono ?_
      rintro e w2 ⟨rfl, hb2⟩
      have Lw2 := Lib.hid (L1.out.trans (hb2.mono L1.out.size))
      clear k0_0 k0_1 z0 k1_0 k1_1 z1
      have L2 := Lw2
      have B2 := Lib.hid (HB0.out.trans (L2.out.mono HB0.out.size))
      clear hb2
      have Q := q0.out.later Lw2.out
      have k0_0 : w2.cell? ⟨w.heap.size, 0, none⟩ = some (.int .i64 n) := Q.cell 0
      have k0_1 : w2.cell? ⟨w.heap.size, 1, none⟩ = some (.slice aa a.length ca) := Q.cell 1
      have z0 : w.heap.size < w2.heap.size := Q.lt
      clear Q
      have Q := q1.out.later Lw2.out
      have k1_0 : w2.cell? ⟨w.heap.size + 1, 0, none⟩ = some (.int .i64 m) := Q.cell 0
      have k1_1 : w2.cell? ⟨w.heap.size + 1, 1, none⟩ = some (.slice ab b.length cb) := Q.cell 1
      have z1 : w.heap.size + 1 < w2.heap.size := Q.lt
      clear Q
      go_wp2_with fail
      refine (HW.out _ B2.out).mono ?_
      rintro e w3 ⟨rfl, hb3⟩
      have Lw3 := Lib.hid (L2.out.trans (hb3.mono L2.out.size))
      clear k0_0 k0_1 z0 k1_0 k1_1 z1
      have L3 := Lw3
      have B3 := Lib.hid (HB0.out.trans (L3.out.mono HB0.out.size))
      clear hb3
      go_wp2
      go_ret
      exact ⟨rfl, B3.out⟩
    | true =>
      rw [hlib] at HLB
      obtain ⟨hl50a, hi50a, h8a⟩ := lightB_ok hlia
      obtain ⟨hl50b, hi50b, h8b⟩ := lightB_ok hlib
      simp only at hl50a hi50a h8a hl50b hi50b h8b
      have XNA := Lib.hid (XA.out.up fun x hx => by have := hi50a x hx; omega)
      have XNB := Lib.hid (XB.out.up fun x hx => by have := hi50b x hx; omega)
      have hl30a : a.length ≤ 1073741824 := by omega
      have hl30b : b.length ≤ 1073741824 := by omega
      have SA := Lib.hid (small50 hl50a hi50a)
      have SB := Lib.hid (small50 hl50b hi50b)
      have H8A := Lib.hid h8a
      have H8B := Lib.hid h8b
      clear hlia hlib hl50a hi50a h8a hl50b hi50b h8b
      by_cases hc : chk2 ⟨n, a⟩ ⟨m, b⟩ = 0
      · obtain ⟨hoa, hob, hnm, _, _⟩ := chk2_ok hc
        simp only at hnm
        subst hnm
        obtain ⟨hn0, hn1, _, _⟩ := netOk_head hoa
        simp only at hn0 hn1
        obtain ⟨N, rfl⟩ := Int.eq_ofNat_of_zero_le hn0
        have hN8 : N ≤ 16 := by have := H8A.out hoa; omega
        have hcs := chk2_symm hc
        have hce := chk2_self hc
        have hc1 := chk2_one hc
        have HCST : Hid (∀ (x y : List Nd), costP (N : Int) (N : Int).toNat x y ≤ 1000000000) := fun x y => cheap_cost (show (N : Int) ≤ 20 by omega) x y
        have HSM : Hid (∀ V, Below W0.heap.size W0 V → Calls Tryz.prog 22 #[.agg #[.int .i64 N, .slice aa a.length ca], .agg #[.int .i64 N, .slice ab b.length cb]] V fun e w' => e = .returned (.tuple #[.bool (sameR ⟨N, a⟩ ⟨N, b⟩), .int .i64 0]) ∧ Below V.heap.size V w') := Lib.hid fun V hV => by
          have h := same2_any N N aa ab ca cb a b V (XNA.out.keep (by rw [← HW0.out]; exact hV)) (XNB.out.keep (by rw [← HW0.out]; exact hV)) hl30a hl30b (fun _ => SA.out) (fun _ => SB.out) ⟨fun _ => HCST.out _ _, fun _ => HCST.out _ _⟩ (HT.out.keep (HB0.out.trans ((by rw [← HW0.out]; exact hV : Below _ _ V).mono HB0.out.size)))
          rw [hc] at h; exact h
        have HSB : Hid (∀ V, Below W0.heap.size W0 V → Calls Tryz.prog 22 #[.agg #[.int .i64 N, .slice ab b.length cb], .agg #[.int .i64 N, .slice aa a.length ca]] V fun e w' => e = .returned (.tuple #[.bool (sameR ⟨N, a⟩ ⟨N, b⟩), .int .i64 0]) ∧ Below V.heap.size V w') := Lib.hid fun V hV => by
          have h := same2_any N N ab aa cb ca b a V (XNB.out.keep (by rw [← HW0.out]; exact hV)) (XNA.out.keep (by rw [← HW0.out]; exact hV)) hl30b hl30a (fun _ => SB.out) (fun _ => SA.out) ⟨fun _ => HCST.out _ _, fun _ => HCST.out _ _⟩ (HT.out.keep (HB0.out.trans ((by rw [← HW0.out]; exact hV : Below _ _ V).mono HB0.out.size)))
          rw [hcs, same_back hc] at h; exact h
        have HSE : Hid (∀ V, Below W0.heap.size W0 V → Calls Tryz.prog 22 #[.agg #[.int .i64 N, .slice aa a.length ca], .agg #[.int .i64 N, .slice aa a.length ca]] V fun e w' => e = .returned (.tuple #[.bool (sameR ⟨N, a⟩ ⟨N, a⟩), .int .i64 0]) ∧ Below V.heap.size V w') := Lib.hid fun V hV => by
          have h := same2_any N N aa aa ca ca a a V (XNA.out.keep (by rw [← HW0.out]; exact hV)) (XNA.out.keep (by rw [← HW0.out]; exact hV)) hl30a hl30a (fun _ => SA.out) (fun _ => SA.out) ⟨fun _ => HCST.out _ _, fun _ => HCST.out _ _⟩ (HT.out.keep (HB0.out.trans ((by rw [← HW0.out]; exact hV : Below _ _ V).mono HB0.out.size)))
          rw [hce] at h; exact h
        have HCT : Hid (∀ V, Below W0.heap.size W0 V → Calls Tryz.prog 23 #[.agg #[.int .i64 N, .slice aa a.length ca], .agg #[.int .i64 N, .slice ab b.length cb]] V fun e w' => e = .returned (.tuple #[stv (foundOf St.zero (cntR ⟨N, a⟩ ⟨N, b⟩)), .bool (cntR ⟨N, a⟩ ⟨N, b⟩).isSome, .int .i64 0]) ∧ Below V.heap.size V w') := Lib.hid fun V hV => by
          have h := counter2_any N N aa ab ca cb a b V (XNA.out.keep (by rw [← HW0.out]; exact hV)) (XNB.out.keep (by rw [← HW0.out]; exact hV)) hl30a hl30b (fun _ => SA.out) (fun _ => SB.out) (fun _ => HCST.out _ _) (HT.out.keep (HB0.out.trans ((by rw [← HW0.out]; exact hV : Below _ _ V).mono HB0.out.size)))
          rw [hc] at h; exact h
        have HCU : Hid (∀ V, Below W0.heap.size W0 V → Calls Tryz.prog 23 #[.agg #[.int .i64 N, .slice ab b.length cb], .agg #[.int .i64 N, .slice aa a.length ca]] V fun e w' => e = .returned (.tuple #[stv (foundOf St.zero (cntR ⟨N, b⟩ ⟨N, a⟩)), .bool (cntR ⟨N, b⟩ ⟨N, a⟩).isSome, .int .i64 0]) ∧ Below V.heap.size V w') := Lib.hid fun V hV => by
          have h := counter2_any N N ab aa cb ca b a V (XNB.out.keep (by rw [← HW0.out]; exact hV)) (XNA.out.keep (by rw [← HW0.out]; exact hV)) hl30b hl30a (fun _ => SB.out) (fun _ => SA.out) (fun _ => HCST.out _ _) (HT.out.keep (HB0.out.trans ((by rw [← HW0.out]; exact hV : Below _ _ V).mono HB0.out.size)))
          rw [hcs] at h; exact h
        have HCK : Hid (∀ V, Below W0.heap.size W0 V → Calls Tryz.prog 24 #[.agg #[.int .i64 N, .slice aa a.length ca], .agg #[.int .i64 N, .slice ab b.length cb]] V fun e w' => e = .returned (.int .i64 0) ∧ Below V.heap.size V w') := Lib.hid fun V hV => by
          have h := rCheck2_any N N aa ab ca cb a b V (XNA.out.keep (by rw [← HW0.out]; exact hV)) (XNB.out.keep (by rw [← HW0.out]; exact hV)) hl30a hl30b
          rw [hc] at h; exact h
        have HCO : Hid (∀ V, Below W0.heap.size W0 V → Calls Tryz.prog 13 #[.agg #[.int .i64 N, .slice aa a.length ca]] V fun e w' => e = .returned (.tuple #[.bool (consR ⟨N, a⟩), .int .i64 0]) ∧ Below V.heap.size V w') := Lib.hid fun V hV => by
          have h := consistent_any N aa ca a V (XNA.out.keep (by rw [← HW0.out]; exact hV)) hl30a (fun _ => SA.out) (HT.out.keep (HB0.out.trans ((by rw [← HW0.out]; exact hV : Below _ _ V).mono HB0.out.size)))
          rw [hc1] at h; exact h
        have HVA : Hid (∀ V, Below W0.heap.size W0 V → Calls Tryz.prog 14 #[.agg #[.int .i64 N, .slice aa a.length ca]] V fun e w' => e = .returned (.tuple #[.bool (!(cntR ⟨N, [⟨1, 0, []⟩]⟩ ⟨N, a⟩).isSome), .int .i64 0]) ∧ Below V.heap.size V w') := Lib.hid fun V hV => by
          have h := valid_any N aa ca a V (XNA.out.keep (by rw [← HW0.out]; exact hV)) hl30a (fun _ => SA.out) (fun _ _ => HCST.out _ _) (HT.out.keep (HB0.out.trans ((by rw [← HW0.out]; exact hV : Below _ _ V).mono HB0.out.size)))
          rw [hc1, imp_side SA.out hc] at h; exact h
        have HCF : Hid (∀ V, Below W0.heap.size W0 V → ∀ b1, NdCells V (some ⟨b1, 0, none⟩) [⟨0, 0, []⟩] → Calls Tryz.prog 23 #[.agg #[.int .i64 N, .slice aa a.length ca], .agg #[.int .i64 N, .slice (some ⟨b1, 0, none⟩) 1 1]] V fun e w' => e = .returned (.tuple #[stv (foundOf St.zero (cntR ⟨N, a⟩ ⟨N, [⟨0, 0, []⟩]⟩)), .bool (consR ⟨N, a⟩), .int .i64 0]) ∧ Below V.heap.size V w') := Lib.hid fun V hV b1 hf => by
          have h := counter2_any N N aa (some ⟨b1, 0, none⟩) ca 1 a [⟨0, 0, []⟩] V (XNA.out.keep (by rw [← HW0.out]; exact hV)) hf hl30a (by simp) (fun _ => SA.out) (fun _ => true_small 0) (fun _ => HCST.out _ _) (HT.out.keep (HB0.out.trans ((by rw [← HW0.out]; exact hV : Below _ _ V).mono HB0.out.size)))
          rw [(chk2_flat hc 0 (.inl rfl)).1, ← cons_side SA.out hc] at h; exact h
        have HCG : Hid (∀ V, Below W0.heap.size W0 V → ∀ b1, NdCells V (some ⟨b1, 0, none⟩) [⟨1, 0, []⟩] → Calls Tryz.prog 23 #[.agg #[.int .i64 N, .slice (some ⟨b1, 0, none⟩) 1 1], .agg #[.int .i64 N, .slice aa a.length ca]] V fun e w' => e = .returned (.tuple #[stv (foundOf St.zero (cntR ⟨N, [⟨1, 0, []⟩]⟩ ⟨N, a⟩)), .bool (cntR ⟨N, [⟨1, 0, []⟩]⟩ ⟨N, a⟩).isSome, .int .i64 0]) ∧ Below V.heap.size V w') := Lib.hid fun V hV b1 hf => by
          have h := counter2_any N N (some ⟨b1, 0, none⟩) aa 1 ca [⟨1, 0, []⟩] a V hf (XNA.out.keep (by rw [← HW0.out]; exact hV)) (by simp) hl30a (fun _ => true_small 1) (fun _ => SA.out) (fun _ => HCST.out _ _) (HT.out.keep (HB0.out.trans ((by rw [← HW0.out]; exact hV : Below _ _ V).mono HB0.out.size)))
          rw [(chk2_flat hc 1 (.inr rfl)).2] at h; exact h
        have hself := same_self SA.out hce
        rw [hself] at HSE
        have HSS := same_sides hc hcs
        rw [HSS] at HSM HSB
        clear hc hcs hce hc1 hoa hob hn0 hn1 hself HSS
        generalize foundOf St.zero (cntR ⟨N, a⟩ ⟨N, b⟩) = F at *
        generalize foundOf St.zero (cntR ⟨N, b⟩ ⟨N, a⟩) = G at *
        generalize (cntR ⟨N, a⟩ ⟨N, b⟩).isSome = o1 at *
        generalize (cntR ⟨N, b⟩ ⟨N, a⟩).isSome = o2 at *
        generalize consR ⟨N, a⟩ = c at *
        generalize foundOf St.zero (cntR ⟨N, a⟩ ⟨N, [⟨0, 0, []⟩]⟩) = F0 at *
        generalize foundOf St.zero (cntR ⟨N, [⟨1, 0, []⟩]⟩ ⟨N, a⟩) = F1 at *
        generalize (cntR ⟨N, [⟨1, 0, []⟩]⟩ ⟨N, a⟩).isSome = d at *
        have hcc : (c == c) = true := by simp
        have hdd : ((!d) == (!d)) = true := by simp
        have hoo : ((!o2) == (!o2)) = true := by simp
        obtain rfl := HW0.out
        cases o1
        all_goals
          simp only [Bool.not_false, Bool.not_true, Bool.true_and, Bool.false_and] at HSM HSB
          go_enter Tryz.func7, Tryz.ntmps7
          go_wp2_with fail
          refine (HLA.out _ XA.out).mono ?_
          rintro e w1 ⟨rfl, hb1⟩
          have Lw1 := Lib.hid (hb1)
          have L1 := Lw1
          have B1 := Lib.hid (HB0.out.trans (L1.out.mono HB0.out.size))
          clear hb1
          have Q := q0.out.later Lw1.out
          have k0_0 : w1.cell? ⟨w.heap.size, 0, none⟩ = some (.int .i64 N) := Q.cell 0
          have k0_1 : w1.cell? ⟨w.heap.size, 1, none⟩ = some (.slice aa a.length ca) := Q.cell 1
          have z0 : w.heap.size < w1.heap.size := Q.lt
          clear Q
          have Q := q1.out.later Lw1.out
          have k1_0 : w1.cell? ⟨w.heap.size + 1, 0, none⟩ = some (.int .i64 N) := Q.cell 0
          have k1_1 : w1.cell? ⟨w.heap.size + 1, 1, none⟩ = some (.slice ab b.length cb) := Q.cell 1
          have z1 : w.heap.size + 1 < w1.heap.size := Q.lt
          clear Q
          go_wp2_with fail
          refine (HLB.out _ (XB.out.keep L1.out)).mono ?_
          rintro e w2 ⟨rfl, hb2⟩
          have Lw2 := Lib.hid (L1.out.trans (hb2.mono L1.out.size))
          clear k0_0 k0_1 z0 k1_0 k1_1 z1
          have L2 := Lw2
          have B2 := Lib.hid (HB0.out.trans (L2.out.mono HB0.out.size))
          clear hb2
          have Q := q0.out.later Lw2.out
          have k0_0 : w2.cell? ⟨w.heap.size, 0, none⟩ = some (.int .i64 N) := Q.cell 0
          have k0_1 : w2.cell? ⟨w.heap.size, 1, none⟩ = some (.slice aa a.length ca) := Q.cell 1
          have z0 : w.heap.size < w2.heap.size := Q.lt
          clear Q
          have Q := q1.out.later Lw2.out
          have k1_0 : w2.cell? ⟨w.heap.size + 1, 0, none⟩ = some (.int .i64 N) := Q.cell 0
          have k1_1 : w2.cell? ⟨w.heap.size + 1, 1, none⟩ = some (.slice ab b.length cb) := Q.cell 1
          have z1 : w.heap.size + 1 < w2.heap.size := Q.lt
          clear Q
          go_wp2_with fail
          refine (HCK.out _ L2.out).mono ?_
          rintro e w3 ⟨rfl, hb3⟩
          have Lw3 := Lib.hid (L2.out.trans (hb3.mono L2.out.size))
          clear k0_0 k0_1 z0 k1_0 k1_1 z1
          have L3 := Lw3
          have B3 := Lib.hid (HB0.out.trans (L3.out.mono HB0.out.size))
          clear hb3
          have Q := q0.out.later Lw3.out
          have k0_0 : w3.cell? ⟨w.heap.size, 0, none⟩ = some (.int .i64 N) := Q.cell 0
          have k0_1 : w3.cell? ⟨w.heap.size, 1, none⟩ = some (.slice aa a.length ca) := Q.cell 1
          have z0 : w.heap.size < w3.heap.size := Q.lt
          clear Q
          have Q := q1.out.later Lw3.out
          have k1_0 : w3.cell? ⟨w.heap.size + 1, 0, none⟩ = some (.int .i64 N) := Q.cell 0
          have k1_1 : w3.cell? ⟨w.heap.size + 1, 1, none⟩ = some (.slice ab b.length cb) := Q.cell 1
          have z1 : w.heap.size + 1 < w3.heap.size := Q.lt
          clear Q
          go_wp2_with fail
          refine (HSM.out _ L3.out).mono ?_
          rintro e w4 ⟨rfl, hb4⟩
          have Lw4 := Lib.hid (L3.out.trans (hb4.mono L3.out.size))
          clear k0_0 k0_1 z0 k1_0 k1_1 z1
          have L4 := Lw4
          have B4 := Lib.hid (HB0.out.trans (L4.out.mono HB0.out.size))
          clear hb4
          have Q := q0.out.later Lw4.out
          have k0_0 : w4.cell? ⟨w.heap.size, 0, none⟩ = some (.int .i64 N) := Q.cell 0
          have k0_1 : w4.cell? ⟨w.heap.size, 1, none⟩ = some (.slice aa a.length ca) := Q.cell 1
          have z0 : w.heap.size < w4.heap.size := Q.lt
          clear Q
          have Q := q1.out.later Lw4.out
          have k1_0 : w4.cell? ⟨w.heap.size + 1, 0, none⟩ = some (.int .i64 N) := Q.cell 0
          have k1_1 : w4.cell? ⟨w.heap.size + 1, 1, none⟩ = some (.slice ab b.length cb) := Q.cell 1
          have z1 : w.heap.size + 1 < w4.heap.size := Q.lt
          clear Q
          go_wp2_with fail
          refine (HCT.out _ L4.out).mono ?_
          rintro e w5 ⟨rfl, hb5⟩
          have Lw5 := Lib.hid (L4.out.trans (hb5.mono L4.out.size))
          clear k0_0 k0_1 z0 k1_0 k1_1 z1
          have L5 := Lib.hid (Lw5.out.alloc Lw5.out.size (.cells #[.int .u64 (F.a : Int), .int .u64 (F.b : Int)] 38))
          have S5 := Lib.hid (Blk.new w5 #[.int .u64 (F.a : Int), .int .u64 (F.b : Int)] 38)
          have B5 := Lib.hid (HB0.out.trans (L5.out.mono HB0.out.size))
          clear hb5
          have Q := q0.out.later Lw5.out
          have k0_0 : w5.cell? ⟨w.heap.size, 0, none⟩ = some (.int .i64 N) := Q.cell 0
          have k0_1 : w5.cell? ⟨w.heap.size, 1, none⟩ = some (.slice aa a.length ca) := Q.cell 1
          have z0 : w.heap.size < w5.heap.size := Q.lt
          clear Q
          have Q := q1.out.later Lw5.out
          have k1_0 : w5.cell? ⟨w.heap.size + 1, 0, none⟩ = some (.int .i64 N) := Q.cell 0
          have k1_1 : w5.cell? ⟨w.heap.size + 1, 1, none⟩ = some (.slice ab b.length cb) := Q.cell 1
          have z1 : w.heap.size + 1 < w5.heap.size := Q.lt
          clear Q
          go_wp2_with fail
          refine (HCU.out _ L5.out).mono ?_
          rintro e w6 ⟨rfl, hb6⟩
          have Lw6 := Lib.hid (L5.out.trans (hb6.mono L5.out.size))
          clear k0_0 k0_1 z0 k1_0 k1_1 z1
          have S5_6 := Lib.hid (S5.out.later hb6)
          have L6 := Lib.hid (Lw6.out.alloc Lw6.out.size (.cells #[.int .u64 (G.a : Int), .int .u64 (G.b : Int)] 38))
          have S5_6a := Lib.hid (S5_6.out.alloc (.cells #[.int .u64 (G.a : Int), .int .u64 (G.b : Int)] 38))
          have S6 := Lib.hid (Blk.new w6 #[.int .u64 (G.a : Int), .int .u64 (G.b : Int)] 38)
          have B6 := Lib.hid (HB0.out.trans (L6.out.mono HB0.out.size))
          clear hb6
          have Q := q0.out.later Lw6.out
          have k0_0 : w6.cell? ⟨w.heap.size, 0, none⟩ = some (.int .i64 N) := Q.cell 0
          have k0_1 : w6.cell? ⟨w.heap.size, 1, none⟩ = some (.slice aa a.length ca) := Q.cell 1
          have z0 : w.heap.size < w6.heap.size := Q.lt
          clear Q
          have Q := q1.out.later Lw6.out
          have k1_0 : w6.cell? ⟨w.heap.size + 1, 0, none⟩ = some (.int .i64 N) := Q.cell 0
          have k1_1 : w6.cell? ⟨w.heap.size + 1, 1, none⟩ = some (.slice ab b.length cb) := Q.cell 1
          have z1 : w.heap.size + 1 < w6.heap.size := Q.lt
          clear Q
          have jS5_0 : w6.cell? ⟨w5.heap.size, 0, none⟩ = some (.int .u64 (F.a : Int)) := S5_6.out.cell 0
          have jS5_1 : w6.cell? ⟨w5.heap.size, 1, none⟩ = some (.int .u64 (F.b : Int)) := S5_6.out.cell 1
          have yS5 : w5.heap.size < w6.heap.size := S5_6.out.lt
          go_wp2_with fail
          refine (HCO.out _ L6.out).mono ?_
          rintro e w7 ⟨rfl, hb7⟩
          have Lw7 := Lib.hid (L6.out.trans (hb7.mono L6.out.size))
          clear k0_0 k0_1 z0 k1_0 k1_1 z1 jS5_0 jS5_1 yS5
          have S5_7 := Lib.hid (S5_6a.out.later hb7)
          have S6_7 := Lib.hid (S6.out.later hb7)
          have L7 := Lw7
          have B7 := Lib.hid (HB0.out.trans (L7.out.mono HB0.out.size))
          clear hb7
          have Q := q0.out.later Lw7.out
          have k0_0 : w7.cell? ⟨w.heap.size, 0, none⟩ = some (.int .i64 N) := Q.cell 0
          have k0_1 : w7.cell? ⟨w.heap.size, 1, none⟩ = some (.slice aa a.length ca) := Q.cell 1
          have z0 : w.heap.size < w7.heap.size := Q.lt
          clear Q
          have Q := q1.out.later Lw7.out
          have k1_0 : w7.cell? ⟨w.heap.size + 1, 0, none⟩ = some (.int .i64 N) := Q.cell 0
          have k1_1 : w7.cell? ⟨w.heap.size + 1, 1, none⟩ = some (.slice ab b.length cb) := Q.cell 1
          have z1 : w.heap.size + 1 < w7.heap.size := Q.lt
          clear Q
          have jS5_0 : w7.cell? ⟨w5.heap.size, 0, none⟩ = some (.int .u64 (F.a : Int)) := S5_7.out.cell 0
          have jS5_1 : w7.cell? ⟨w5.heap.size, 1, none⟩ = some (.int .u64 (F.b : Int)) := S5_7.out.cell 1
          have yS5 : w5.heap.size < w7.heap.size := S5_7.out.lt
          have jS6_0 : w7.cell? ⟨w6.heap.size, 0, none⟩ = some (.int .u64 (G.a : Int)) := S6_7.out.cell 0
          have jS6_1 : w7.cell? ⟨w6.heap.size, 1, none⟩ = some (.int .u64 (G.b : Int)) := S6_7.out.cell 1
          have yS6 : w6.heap.size < w7.heap.size := S6_7.out.lt
          go_upto_region 7 with fail
          have HKS : Hid (∀ w' : World, Below w7.heap.size w7 w' → w'.cell? ⟨w.heap.size, 0, none⟩ = some (.int .i64 N) ∧ w'.cell? ⟨w.heap.size, 1, none⟩ = some (.slice aa a.length ca) ∧ Below w7.heap.size w7 w') := Lib.hid fun w' hb => ⟨cell_keep hb k0_0, cell_keep hb k0_1, hb⟩
          go_cut [16] (fun sx wx => sx = .bool c ∧ Below w7.heap.size w7 wx)
          case first =>
            go_region_held3 (fun w' => w'.cell? ⟨w.heap.size, 0, none⟩ = some (.int .i64 N) ∧ w'.cell? ⟨w.heap.size, 1, none⟩ = some (.slice aa a.length ca) ∧ Below w7.heap.size w7 w')
              (first
                | exact HKS.out _ (by first | (with_reducible exact (Below.refl _ _).drew) | (with_reducible exact (last3 (by assumption))))
                | exact HKS.out _ (Below.alloc (last3 (by assumption)) (Below.size (last3 (by assumption))) _)
                | exact HKS.out _ (Below.drew (Below.alloc (Below.refl _ _) (Nat.le_refl _) _))
                | exact HKS.out _ hv7
                | exact HKS.out _ (Below.alloc hv7 hv7.size _)
                | exact HKS.out _ hv5
                | exact HKS.out _ (Below.setCell (Below.setCell (last3 (by assumption)) (by first | exact Nat.le_refl _ | exact hv5.size | exact hv7.size) _) (by first | exact Nat.le_refl _ | exact hv5.size | exact hv7.size) _))
              (first
                | (go_at_call 26
                   refine (lflat_any N 0 _).mono ?_
                   rintro e v5 ⟨b5, rfl, hf5, hb5⟩
                   have hv5 : Below w7.heap.size w7 v5 := Below.trans (by first | (with_reducible exact (Below.refl _ _).drew) | (with_reducible exact (last3 (by assumption)))) (hb5.mono (Below.size (B := w7.heap.size) (w := w7) (by first | (with_reducible exact (Below.refl _ _).drew) | (with_reducible exact (last3 (by assumption))))))
                   try (have z5 : Blk v5 w7.heap.size #[.int .u64 0, .int .u64 0] 38 := (Blk.drew (Blk.new _ _ _)).later hb5)
                   try (have z5a := z5.cell 0; have z5b := z5.cell 1; have z5c := z5.fr 0; have z5d := z5.fr 1))
                | (go_at_call 23
                   refine (HCF.out _ (L7.out.trans (Below.mono (by first | (with_reducible exact (Below.refl _ _).drew) | (with_reducible exact (last3 (by assumption)))) L7.out.size)) b5 ?_).mono ?_
                   · first | exact hf5 | exact hf5.keep ((Below.refl _ _).alloc (Nat.le_refl _) _)
                   rintro e v7 ⟨rfl, hb7⟩
                   have hv7 : Below w7.heap.size w7 v7 := Below.trans (by first | (with_reducible exact (Below.refl _ _).drew) | (with_reducible exact (last3 (by assumption)))) (hb7.mono (Below.size (B := w7.heap.size) (w := w7) (by first | (with_reducible exact (Below.refl _ _).drew) | (with_reducible exact (last3 (by assumption))))))
                   try (have z7 : Blk v7 w7.heap.size #[.int .u64 0, .int .u64 0] 38 := z5.later hb7)
                   try (have z7 : Blk v7 v5.heap.size #[.int .u64 0, .int .u64 0] 38 := (Blk.new _ _ _).later hb7)
                   try (have z7a := z7.cell 0; have z7b := z7.cell 1; have z7c := z7.fr 0; have z7d := z7.fr 1)))
            all_goals (go_wp2_with fail; go_meet; exact ⟨rfl, last3 (by assumption)⟩)
          case rest =>
            clear k0_0 k0_1 z0 k1_0 k1_1 z1 jS5_0 jS5_1 yS5 jS6_0 jS6_1 yS6 HKS
            obtain ⟨rfl, hb8⟩ := hcut
            obtain ⟨w8, rfl⟩ : ∃ w8 : World, w8 = wc := ⟨_, rfl⟩
            have Lw8 := Lib.hid (L7.out.trans (hb8.mono L7.out.size))
            have S5_8 := Lib.hid (S5_7.out.later hb8)
            have S6_8 := Lib.hid (S6_7.out.later hb8)
            have L8 := Lw8
            have B8 := Lib.hid (HB0.out.trans (L8.out.mono HB0.out.size))
            clear hb8
            have Q := q0.out.later Lw8.out
            have k0_0 : w8.cell? ⟨w.heap.size, 0, none⟩ = some (.int .i64 N) := Q.cell 0
            have k0_1 : w8.cell? ⟨w.heap.size, 1, none⟩ = some (.slice aa a.length ca) := Q.cell 1
            have z0 : w.heap.size < w8.heap.size := Q.lt
            clear Q
            have Q := q1.out.later Lw8.out
            have k1_0 : w8.cell? ⟨w.heap.size + 1, 0, none⟩ = some (.int .i64 N) := Q.cell 0
            have k1_1 : w8.cell? ⟨w.heap.size + 1, 1, none⟩ = some (.slice ab b.length cb) := Q.cell 1
            have z1 : w.heap.size + 1 < w8.heap.size := Q.lt
            clear Q
            have jS5_0 : w8.cell? ⟨w5.heap.size, 0, none⟩ = some (.int .u64 (F.a : Int)) := S5_8.out.cell 0
            have jS5_1 : w8.cell? ⟨w5.heap.size, 1, none⟩ = some (.int .u64 (F.b : Int)) := S5_8.out.cell 1
            have yS5 : w5.heap.size < w8.heap.size := S5_8.out.lt
            have jS6_0 : w8.cell? ⟨w6.heap.size, 0, none⟩ = some (.int .u64 (G.a : Int)) := S6_8.out.cell 0
            have jS6_1 : w8.cell? ⟨w6.heap.size, 1, none⟩ = some (.int .u64 (G.b : Int)) := S6_8.out.cell 1
            have yS6 : w6.heap.size < w8.heap.size := S6_8.out.lt
            go_wp2_with fail
            refine (HVA.out _ L8.out).mono ?_
            rintro e w9 ⟨rfl, hb9⟩
            have Lw9 := Lib.hid (L8.out.trans (hb9.mono L8.out.size))
            clear k0_0 k0_1 z0 k1_0 k1_1 z1 jS5_0 jS5_1 yS5 jS6_0 jS6_1 yS6
            have S5_9 := Lib.hid (S5_8.out.later hb9)
            have S6_9 := Lib.hid (S6_8.out.later hb9)
            have L9 := Lw9
            have B9 := Lib.hid (HB0.out.trans (L9.out.mono HB0.out.size))
            clear hb9
            have Q := q0.out.later Lw9.out
            have k0_0 : w9.cell? ⟨w.heap.size, 0, none⟩ = some (.int .i64 N) := Q.cell 0
            have k0_1 : w9.cell? ⟨w.heap.size, 1, none⟩ = some (.slice aa a.length ca) := Q.cell 1
            have z0 : w.heap.size < w9.heap.size := Q.lt
            clear Q
            have Q := q1.out.later Lw9.out
            have k1_0 : w9.cell? ⟨w.heap.size + 1, 0, none⟩ = some (.int .i64 N) := Q.cell 0
            have k1_1 : w9.cell? ⟨w.heap.size + 1, 1, none⟩ = some (.slice ab b.length cb) := Q.cell 1
            have z1 : w.heap.size + 1 < w9.heap.size := Q.lt
            clear Q
            have jS5_0 : w9.cell? ⟨w5.heap.size, 0, none⟩ = some (.int .u64 (F.a : Int)) := S5_9.out.cell 0
            have jS5_1 : w9.cell? ⟨w5.heap.size, 1, none⟩ = some (.int .u64 (F.b : Int)) := S5_9.out.cell 1
            have yS5 : w5.heap.size < w9.heap.size := S5_9.out.lt
            have jS6_0 : w9.cell? ⟨w6.heap.size, 0, none⟩ = some (.int .u64 (G.a : Int)) := S6_9.out.cell 0
            have jS6_1 : w9.cell? ⟨w6.heap.size, 1, none⟩ = some (.int .u64 (G.b : Int)) := S6_9.out.cell 1
            have yS6 : w6.heap.size < w9.heap.size := S6_9.out.lt
            go_upto_region 9 with fail
            have HKS : Hid (∀ w' : World, Below w9.heap.size w9 w' → w'.cell? ⟨w.heap.size, 0, none⟩ = some (.int .i64 N) ∧ w'.cell? ⟨w.heap.size, 1, none⟩ = some (.slice aa a.length ca) ∧ Below w9.heap.size w9 w') := Lib.hid fun w' hb => ⟨cell_keep hb k0_0, cell_keep hb k0_1, hb⟩
            go_cut [21] (fun sx wx => sx = .bool d ∧ Below w9.heap.size w9 wx)
            case first =>
              go_region_held3 (fun w' => w'.cell? ⟨w.heap.size, 0, none⟩ = some (.int .i64 N) ∧ w'.cell? ⟨w.heap.size, 1, none⟩ = some (.slice aa a.length ca) ∧ Below w9.heap.size w9 w')
                (first
                  | exact HKS.out _ (by first | (with_reducible exact (Below.refl _ _).drew) | (with_reducible exact (last3 (by assumption))))
                  | exact HKS.out _ (Below.alloc (last3 (by assumption)) (Below.size (last3 (by assumption))) _)
                  | exact HKS.out _ (Below.drew (Below.alloc (Below.refl _ _) (Nat.le_refl _) _))
                  | exact HKS.out _ hv7
                  | exact HKS.out _ (Below.alloc hv7 hv7.size _)
                  | exact HKS.out _ hv5
                  | exact HKS.out _ (Below.setCell (Below.setCell (last3 (by assumption)) (by first | exact Nat.le_refl _ | exact hv5.size | exact hv7.size) _) (by first | exact Nat.le_refl _ | exact hv5.size | exact hv7.size) _))
                (first
                  | (go_at_call 26
                     refine (lflat_any N 1 _).mono ?_
                     rintro e v5 ⟨b5, rfl, hf5, hb5⟩
                     have hv5 : Below w9.heap.size w9 v5 := Below.trans (by first | (with_reducible exact (Below.refl _ _).drew) | (with_reducible exact (last3 (by assumption)))) (hb5.mono (Below.size (B := w9.heap.size) (w := w9) (by first | (with_reducible exact (Below.refl _ _).drew) | (with_reducible exact (last3 (by assumption))))))
                     try (have z5 : Blk v5 w9.heap.size #[.int .u64 0, .int .u64 0] 38 := (Blk.drew (Blk.new _ _ _)).later hb5)
                     try (have z5a := z5.cell 0; have z5b := z5.cell 1; have z5c := z5.fr 0; have z5d := z5.fr 1))
                  | (go_at_call 23
                     refine (HCG.out _ (L9.out.trans (Below.mono (by first | (with_reducible exact (Below.refl _ _).drew) | (with_reducible exact (last3 (by assumption)))) L9.out.size)) b5 ?_).mono ?_
                     · first | exact hf5 | exact hf5.keep ((Below.refl _ _).alloc (Nat.le_refl _) _)
                     rintro e v7 ⟨rfl, hb7⟩
                     have hv7 : Below w9.heap.size w9 v7 := Below.trans (by first | (with_reducible exact (Below.refl _ _).drew) | (with_reducible exact (last3 (by assumption)))) (hb7.mono (Below.size (B := w9.heap.size) (w := w9) (by first | (with_reducible exact (Below.refl _ _).drew) | (with_reducible exact (last3 (by assumption))))))
                     try (have z7 : Blk v7 w9.heap.size #[.int .u64 0, .int .u64 0] 38 := z5.later hb7)
                     try (have z7 : Blk v7 v5.heap.size #[.int .u64 0, .int .u64 0] 38 := (Blk.new _ _ _).later hb7)
                     try (have z7a := z7.cell 0; have z7b := z7.cell 1; have z7c := z7.fr 0; have z7d := z7.fr 1)))
              all_goals (go_wp2_with fail; go_meet; exact ⟨rfl, last3 (by assumption)⟩)
            case rest =>
              clear k0_0 k0_1 z0 k1_0 k1_1 z1 jS5_0 jS5_1 yS5 jS6_0 jS6_1 yS6 HKS
              obtain ⟨rfl, hb10⟩ := hcut
              obtain ⟨w10, rfl⟩ : ∃ w10 : World, w10 = wc := ⟨_, rfl⟩
              have Lw10 := Lib.hid (L9.out.trans (hb10.mono L9.out.size))
              have S5_10 := Lib.hid (S5_9.out.later hb10)
              have S6_10 := Lib.hid (S6_9.out.later hb10)
              have L10 := Lw10
              have B10 := Lib.hid (HB0.out.trans (L10.out.mono HB0.out.size))
              clear hb10
              have Q := q0.out.later Lw10.out
              have k0_0 : w10.cell? ⟨w.heap.size, 0, none⟩ = some (.int .i64 N) := Q.cell 0
              have k0_1 : w10.cell? ⟨w.heap.size, 1, none⟩ = some (.slice aa a.length ca) := Q.cell 1
              have z0 : w.heap.size < w10.heap.size := Q.lt
              clear Q
              have Q := q1.out.later Lw10.out
              have k1_0 : w10.cell? ⟨w.heap.size + 1, 0, none⟩ = some (.int .i64 N) := Q.cell 0
              have k1_1 : w10.cell? ⟨w.heap.size + 1, 1, none⟩ = some (.slice ab b.length cb) := Q.cell 1
              have z1 : w.heap.size + 1 < w10.heap.size := Q.lt
              clear Q
              have jS5_0 : w10.cell? ⟨w5.heap.size, 0, none⟩ = some (.int .u64 (F.a : Int)) := S5_10.out.cell 0
              have jS5_1 : w10.cell? ⟨w5.heap.size, 1, none⟩ = some (.int .u64 (F.b : Int)) := S5_10.out.cell 1
              have yS5 : w5.heap.size < w10.heap.size := S5_10.out.lt
              have jS6_0 : w10.cell? ⟨w6.heap.size, 0, none⟩ = some (.int .u64 (G.a : Int)) := S6_10.out.cell 0
              have jS6_1 : w10.cell? ⟨w6.heap.size, 1, none⟩ = some (.int .u64 (G.b : Int)) := S6_10.out.cell 1
              have yS6 : w6.heap.size < w10.heap.size := S6_10.out.lt
              go_wp2_with fail
              refine (HSE.out _ L10.out).mono ?_
              rintro e w11 ⟨rfl, hb11⟩
              have Lw11 := Lib.hid (L10.out.trans (hb11.mono L10.out.size))
              clear k0_0 k0_1 z0 k1_0 k1_1 z1 jS5_0 jS5_1 yS5 jS6_0 jS6_1 yS6
              have S5_11 := Lib.hid (S5_10.out.later hb11)
              have S6_11 := Lib.hid (S6_10.out.later hb11)
              have L11 := Lw11
              have B11 := Lib.hid (HB0.out.trans (L11.out.mono HB0.out.size))
              clear hb11
              have Q := q0.out.later Lw11.out
              have k0_0 : w11.cell? ⟨w.heap.size, 0, none⟩ = some (.int .i64 N) := Q.cell 0
              have k0_1 : w11.cell? ⟨w.heap.size, 1, none⟩ = some (.slice aa a.length ca) := Q.cell 1
              have z0 : w.heap.size < w11.heap.size := Q.lt
              clear Q
              have Q := q1.out.later Lw11.out
              have k1_0 : w11.cell? ⟨w.heap.size + 1, 0, none⟩ = some (.int .i64 N) := Q.cell 0
              have k1_1 : w11.cell? ⟨w.heap.size + 1, 1, none⟩ = some (.slice ab b.length cb) := Q.cell 1
              have z1 : w.heap.size + 1 < w11.heap.size := Q.lt
              clear Q
              have jS5_0 : w11.cell? ⟨w5.heap.size, 0, none⟩ = some (.int .u64 (F.a : Int)) := S5_11.out.cell 0
              have jS5_1 : w11.cell? ⟨w5.heap.size, 1, none⟩ = some (.int .u64 (F.b : Int)) := S5_11.out.cell 1
              have yS5 : w5.heap.size < w11.heap.size := S5_11.out.lt
              have jS6_0 : w11.cell? ⟨w6.heap.size, 0, none⟩ = some (.int .u64 (G.a : Int)) := S6_11.out.cell 0
              have jS6_1 : w11.cell? ⟨w6.heap.size, 1, none⟩ = some (.int .u64 (G.b : Int)) := S6_11.out.cell 1
              have yS6 : w6.heap.size < w11.heap.size := S6_11.out.lt
              go_wp2_with fail
              refine (HSB.out _ L11.out).mono ?_
              rintro e w12 ⟨rfl, hb12⟩
              have Lw12 := Lib.hid (L11.out.trans (hb12.mono L11.out.size))
              clear k0_0 k0_1 z0 k1_0 k1_1 z1 jS5_0 jS5_1 yS5 jS6_0 jS6_1 yS6
              have S5_12 := Lib.hid (S5_11.out.later hb12)
              have S6_12 := Lib.hid (S6_11.out.later hb12)
              have L12 := Lw12
              have B12 := Lib.hid (HB0.out.trans (L12.out.mono HB0.out.size))
              clear hb12
              have Q := q0.out.later Lw12.out
              have k0_0 : w12.cell? ⟨w.heap.size, 0, none⟩ = some (.int .i64 N) := Q.cell 0
              have k0_1 : w12.cell? ⟨w.heap.size, 1, none⟩ = some (.slice aa a.length ca) := Q.cell 1
              have z0 : w.heap.size < w12.heap.size := Q.lt
              clear Q
              have Q := q1.out.later Lw12.out
              have k1_0 : w12.cell? ⟨w.heap.size + 1, 0, none⟩ = some (.int .i64 N) := Q.cell 0
              have k1_1 : w12.cell? ⟨w.heap.size + 1, 1, none⟩ = some (.slice ab b.length cb) := Q.cell 1
              have z1 : w.heap.size + 1 < w12.heap.size := Q.lt
              clear Q
              have jS5_0 : w12.cell? ⟨w5.heap.size, 0, none⟩ = some (.int .u64 (F.a : Int)) := S5_12.out.cell 0
              have jS5_1 : w12.cell? ⟨w5.heap.size, 1, none⟩ = some (.int .u64 (F.b : Int)) := S5_12.out.cell 1
              have yS5 : w5.heap.size < w12.heap.size := S5_12.out.lt
              have jS6_0 : w12.cell? ⟨w6.heap.size, 0, none⟩ = some (.int .u64 (G.a : Int)) := S6_12.out.cell 0
              have jS6_1 : w12.cell? ⟨w6.heap.size, 1, none⟩ = some (.int .u64 (G.b : Int)) := S6_12.out.cell 1
              have yS6 : w6.heap.size < w12.heap.size := S6_12.out.lt
              go_wp2_with fail
              refine (HW.out _ B12.out).mono ?_
              rintro e w13 ⟨rfl, hb13⟩
              have Lw13 := Lib.hid (L12.out.trans (hb13.mono L12.out.size))
              clear k0_0 k0_1 z0 k1_0 k1_1 z1 jS5_0 jS5_1 yS5 jS6_0 jS6_1 yS6
              have S5_13 := Lib.hid (S5_12.out.later hb13)
              have S6_13 := Lib.hid (S6_12.out.later hb13)
              have L13 := Lw13
              have B13 := Lib.hid (HB0.out.trans (L13.out.mono HB0.out.size))
              clear hb13
              go_wp2
              go_ret
              exact ⟨rfl, B13.out⟩
      · have HCK : Hid (∀ V, Below W0.heap.size W0 V → Calls Tryz.prog 24 #[.agg #[.int .i64 n, .slice aa a.length ca], .agg #[.int .i64 m, .slice ab b.length cb]] V fun e w' => e = .returned (.int .i64 (chk2 ⟨n, a⟩ ⟨m, b⟩)) ∧ Below V.heap.size V w') := Lib.hid fun V hV =>
          rCheck2_any n m aa ab ca cb a b V (XNA.out.keep (by rw [← HW0.out]; exact hV)) (XNB.out.keep (by rw [← HW0.out]; exact hV)) hl30a hl30b
        have hcb : (chk2 ⟨n, a⟩ ⟨m, b⟩ != 0) = true := by simpa using hc
        clear hc
        generalize chk2 ⟨n, a⟩ ⟨m, b⟩ = c at *
        obtain rfl := HW0.out
        go_enter Tryz.func7, Tryz.ntmps7
        go_wp2_with fail
        refine (HLA.out _ XA.out).mono ?_
        rintro e w1 ⟨rfl, hb1⟩
        have Lw1 := Lib.hid (hb1)
        have L1 := Lw1
        have B1 := Lib.hid (HB0.out.trans (L1.out.mono HB0.out.size))
        clear hb1
        have Q := q0.out.later Lw1.out
        have k0_0 : w1.cell? ⟨w.heap.size, 0, none⟩ = some (.int .i64 n) := Q.cell 0
        have k0_1 : w1.cell? ⟨w.heap.size, 1, none⟩ = some (.slice aa a.length ca) := Q.cell 1
        have z0 : w.heap.size < w1.heap.size := Q.lt
        clear Q
        have Q := q1.out.later Lw1.out
        have k1_0 : w1.cell? ⟨w.heap.size + 1, 0, none⟩ = some (.int .i64 m) := Q.cell 0
        have k1_1 : w1.cell? ⟨w.heap.size + 1, 1, none⟩ = some (.slice ab b.length cb) := Q.cell 1
        have z1 : w.heap.size + 1 < w1.heap.size := Q.lt
        clear Q
        go_wp2_with fail
        refine (HLB.out _ (XB.out.keep L1.out)).mono ?_
        rintro e w2 ⟨rfl, hb2⟩
        have Lw2 := Lib.hid (L1.out.trans (hb2.mono L1.out.size))
        clear k0_0 k0_1 z0 k1_0 k1_1 z1
        have L2 := Lw2
        have B2 := Lib.hid (HB0.out.trans (L2.out.mono HB0.out.size))
        clear hb2
        have Q := q0.out.later Lw2.out
        have k0_0 : w2.cell? ⟨w.heap.size, 0, none⟩ = some (.int .i64 n) := Q.cell 0
        have k0_1 : w2.cell? ⟨w.heap.size, 1, none⟩ = some (.slice aa a.length ca) := Q.cell 1
        have z0 : w.heap.size < w2.heap.size := Q.lt
        clear Q
        have Q := q1.out.later Lw2.out
        have k1_0 : w2.cell? ⟨w.heap.size + 1, 0, none⟩ = some (.int .i64 m) := Q.cell 0
        have k1_1 : w2.cell? ⟨w.heap.size + 1, 1, none⟩ = some (.slice ab b.length cb) := Q.cell 1
        have z1 : w.heap.size + 1 < w2.heap.size := Q.lt
        clear Q
        go_wp2_with fail
        refine (HCK.out _ L2.out).mono ?_
        rintro e w3 ⟨rfl, hb3⟩
        have Lw3 := Lib.hid (L2.out.trans (hb3.mono L2.out.size))
        clear k0_0 k0_1 z0 k1_0 k1_1 z1
        have L3 := Lw3
        have B3 := Lib.hid (HB0.out.trans (L3.out.mono HB0.out.size))
        clear hb3
        have Q := q0.out.later Lw3.out
        have k0_0 : w3.cell? ⟨w.heap.size, 0, none⟩ = some (.int .i64 n) := Q.cell 0
        have k0_1 : w3.cell? ⟨w.heap.size, 1, none⟩ = some (.slice aa a.length ca) := Q.cell 1
        have z0 : w.heap.size < w3.heap.size := Q.lt
        clear Q
        have Q := q1.out.later Lw3.out
        have k1_0 : w3.cell? ⟨w.heap.size + 1, 0, none⟩ = some (.int .i64 m) := Q.cell 0
        have k1_1 : w3.cell? ⟨w.heap.size + 1, 1, none⟩ = some (.slice ab b.length cb) := Q.cell 1
        have z1 : w.heap.size + 1 < w3.heap.size := Q.lt
        clear Q
        go_wp2_with fail
        refine (HW.out _ B3.out).mono ?_
        rintro e w4 ⟨rfl, hb4⟩
        have Lw4 := Lib.hid (L3.out.trans (hb4.mono L3.out.size))
        clear k0_0 k0_1 z0 k1_0 k1_1 z1
        have L4 := Lw4
        have B4 := Lib.hid (HB0.out.trans (L4.out.mono HB0.out.size))
        clear hb4
        go_wp2
        go_ret
        exact ⟨rfl, B4.out⟩
end Go.Proofs.YtfdonhfhcomjaaaGreatDoor
