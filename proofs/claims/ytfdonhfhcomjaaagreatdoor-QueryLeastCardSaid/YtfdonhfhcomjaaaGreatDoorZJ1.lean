/- Part of the proofs that laws of censuslaw38 return true for every input, where the tables that the rows list are laid. Texts: Least. -/
import Derived.Test.YtfdonhfhcomjaaaGreatDoorZC5
import Derived.Test.YtfdonhfhcomjaaaGreatDoorZH2
import Derived.Test.YtfdonhfhcomjaaaGreatDoorZG3
import Derived.Deep.DeepCutAuto
import Derived.Deep.CutRange

/- The walk of QueryLeast. -/
namespace Go.Proofs.YtfdonhfhcomjaaaGreatDoor
open Go.RowKit Cen
set_option maxHeartbeats 8000000
set_option maxRecDepth 100000
theorem last3L {p q r : Prop} (h : p ∧ q ∧ r) : r := h.2.2
theorem last9L {p1 p2 p3 p4 p5 p6 p7 p8 q : Prop} (h : p1 ∧ p2 ∧ p3 ∧ p4 ∧ p5 ∧ p6 ∧ p7 ∧ p8 ∧ q) : q := h.2.2.2.2.2.2.2.2
theorem least_any (n : Int) (aa : Option Addr) (ca : Nat) (a : List Nd) (m : Int) (ab : Option Addr) (cb : Nat) (b : List Nd) (o : St) (w : World) (hla : a.length ≤ 9223372036854775807) (xa : NdCells0 w aa a) (hlb : b.length ≤ 9223372036854775807) (xb : NdCells0 w ab b) (ho : o.ok) (ht : Tab w) (hdt : Dtab w) :
    Calls Tryz.prog 8 #[.agg #[.int .i64 n, .slice aa a.length ca], .agg #[.int .i64 m, .slice ab b.length cb], stv o] w fun e w' => e = .returned (.bool true) ∧ Below w.heap.size w w' := by
  have hb0 := (((Below.refl w.heap.size w).alloc (Nat.le_refl _) (.cells #[.int .i64 n, .slice aa a.length ca] 24)).alloc (by simp) (.cells #[.int .i64 m, .slice ab b.length cb] 24)).alloc (by simp; omega) (.cells #[.int .u64 (o.a : Int), .int .u64 (o.b : Int)] 38)
  have HB0 := Lib.hid hb0
  have q0 := Lib.hid (((Blk.new w #[.int .i64 n, .slice aa a.length ca] 24).alloc (.cells #[.int .i64 m, .slice ab b.length cb] 24)).alloc (.cells #[.int .u64 (o.a : Int), .int .u64 (o.b : Int)] 38))
  have q1 := Lib.hid ((Blk.new' (w.alloc (.cells #[.int .i64 n, .slice aa a.length ca] 24)) (World.size_alloc _ _) #[.int .i64 m, .slice ab b.length cb] 24).alloc (.cells #[.int .u64 (o.a : Int), .int .u64 (o.b : Int)] 38))
  have q2 := Lib.hid (Blk.new' ((w.alloc (.cells #[.int .i64 n, .slice aa a.length ca] 24)).alloc (.cells #[.int .i64 m, .slice ab b.length cb] 24)) (b := w.heap.size + 1 + 1) (by simp only [World.size_alloc]) #[.int .u64 (o.a : Int), .int .u64 (o.b : Int)] 38)
  have XA := Lib.hid (xa.keep hb0)
  have XB := Lib.hid (xb.keep hb0)
  have YA := Lib.hid xa
  have YB := Lib.hid xb
  have HLA := Lib.hid (fun V h => light_any n aa ca a V hla h)
  have HLB := Lib.hid (fun V h => light_any m ab cb b V hlb h)
  have HT := Lib.hid ht
  have HDT := Lib.hid hdt
  have HOO := Lib.hid ho
  have HW := Lib.hid (fun V (hb : Below w.heap.size w V) => works_any V (ht.keep hb))
  clear hb0 xa xb ht hdt ho
  cases hlia : lightB ⟨n, a⟩ with
  | false =>
    rw [hlia] at HLA
    clear hlia
    go_enter Tryz.func8, Tryz.ntmps8
    go_wp2_with fail
    refine (HLA.out _ XA.out).mono ?_
    rintro e w1 ⟨rfl, hb1⟩
    have Lw1 := Lib.hid (hb1)
    have L1 := Lw1
    have B1 := Lib.hid (HB0.out.trans (L1.out.mono HB0.out.size))
    clear hb1
    have Q := q0.out.later Lw1.out
    have k0_0 : w1.cell? ⟨w.heap.size, 0, none⟩ = some (.int .i64 n) := Q.cell 0
    have k0_1 : w1.cell? ⟨w.heap.size, 1, none⟩ = some (.slice aa a.length ca) := Q.cell 1
    have z0 : w.heap.size < w1.heap.size := Q.lt
    clear Q
    have Q := q1.out.later Lw1.out
    have k1_0 : w1.cell? ⟨w.heap.size + 1, 0, none⟩ = some (.int .i64 m) := Q.cell 0
    have k1_1 : w1.cell? ⟨w.heap.size + 1, 1, none⟩ = some (.slice ab b.length cb) := Q.cell 1
    have z1 : w.heap.size + 1 < w1.heap.size := Q.lt
    clear Q
    have Q := q2.out.later Lw1.out
    have k2_0 : w1.cell? ⟨w.heap.size + 1 + 1, 0, none⟩ = some (.int .u64 (o.a : Int)) := Q.cell 0
    have k2_1 : w1.cell? ⟨w.heap.size + 1 + 1, 1, none⟩ = some (.int .u64 (o.b : Int)) := Q.cell 1
    have z2 : w.heap.size + 1 + 1 < w1.heap.size := Q.lt
    clear Q
    go_wp2_with fail
    refine (HW.out _ B1.out).mono ?_
    rintro e w2 ⟨rfl, hb2⟩
    have Lw2 := Lib.hid (L1.out.trans (hb2.mono L1.out.size))
    clear k0_0 k0_1 z0 k1_0 k1_1 z1 k2_0 k2_1 z2
    have L2 := Lw2
    have B2 := Lib.hid (HB0.out.trans (L2.out.mono HB0.out.size))
    clear hb2
    go_wp2
    go_ret
    exact ⟨rfl, B2.out⟩
  | true =>
    rw [hlia] at HLA
    cases hlib : lightB ⟨m, b⟩ with
    | false =>
      rw [hlib] at HLB
      clear hlia hlib
      go_enter Tryz.func8, Tryz.ntmps8
      go_wp2_with fail
      refine (HLA.out _ XA.out).mono ?_
      rintro e w1 ⟨rfl, hb1⟩
      have Lw1 := Lib.hid (hb1)
      have L1 := Lw1
      have B1 := Lib.hid (HB0.out.trans (L1.out.mono HB0.out.size))
      clear hb1
      have Q := q0.out.later Lw1.out
      have k0_0 : w1.cell? ⟨w.heap.size, 0, none⟩ = some (.int .i64 n) := Q.cell 0
      have k0_1 : w1.cell? ⟨w.heap.size, 1, none⟩ = some (.slice aa a.length ca) := Q.cell 1
      have z0 : w.heap.size < w1.heap.size := Q.lt
      clear Q
      have Q := q1.out.later Lw1.out
      have k1_0 : w1.cell? ⟨w.heap.size + 1, 0, none⟩ = some (.int .i64 m) := Q.cell 0
      have k1_1 : w1.cell? ⟨w.heap.size + 1, 1, none⟩ = some (.slice ab b.length cb) := Q.cell 1
      have z1 : w.heap.size + 1 < w1.heap.size := Q.lt
      clear Q
      have Q := q2.out.later Lw1.out
      have k2_0 : w1.cell? ⟨w.heap.size + 1 + 1, 0, none⟩ = some (.int .u64 (o.a : Int)) := Q.cell 0
      have k2_1 : w1.cell? ⟨w.heap.size + 1 + 1, 1, none⟩ = some (.int .u64 (o.b : Int)) := Q.cell 1
      have z2 : w.heap.size + 1 + 1 < w1.heap.size := Q.lt
      clear Q
      go_wp2_with fail
      refine (HLB.out _ (XB.out.keep L1.out)).mono ?_
      rintro e w2 ⟨rfl, hb2⟩
      have Lw2 := Lib.hid (L1.out.trans (hb2.mono L1.out.size))
      clear k0_0 k0_1 z0 k1_0 k1_1 z1 k2_0 k2_1 z2
      have L2 := Lw2
      have B2 := Lib.hid (HB0.out.trans (L2.out.mono HB0.out.size))
      clear hb2
      have Q := q0.out.later Lw2.out
      have k0_0 : w2.cell? ⟨w.heap.size, 0, none⟩ = some (.int .i64 n) := Q.cell 0
      have k0_1 : w2.cell? ⟨w.heap.size, 1, none⟩ = some (.slice aa a.length ca) := Q.cell 1
      have z0 : w.heap.size < w2.heap.size := Q.lt
      clear Q
      have Q := q1.out.later Lw2.out
      have k1_0 : w2.cell? ⟨w.heap.size + 1, 0, none⟩ = some (.int .i64 m) := Q.cell 0
      have k1_1 : w2.cell? ⟨w.heap.size + 1, 1, none⟩ = some (.slice ab b.length cb) := Q.cell 1
      have z1 : w.heap.size + 1 < w2.heap.size := Q.lt
      clear Q
      have Q := q2.out.later Lw2.out
      have k2_0 : w2.cell? ⟨w.heap.size + 1 + 1, 0, none⟩ = some (.int .u64 (o.a : Int)) := Q.cell 0
      have k2_1 : w2.cell? ⟨w.heap.size + 1 + 1, 1, none⟩ = some (.int .u64 (o.b : Int)) := Q.cell 1
      have z2 : w.heap.size + 1 + 1 < w2.heap.size := Q.lt
      clear Q
      go_wp2_with fail
      refine (HW.out _ B2.out).mono ?_
      rintro e w3 ⟨rfl, hb3⟩
      have Lw3 := Lib.hid (L2.out.trans (hb3.mono L2.out.size))
      clear k0_0 k0_1 z0 k1_0 k1_1 z1 k2_0 k2_1 z2
      have L3 := Lw3
      have B3 := Lib.hid (HB0.out.trans (L3.out.mono HB0.out.size))
      clear hb3
      go_wp2
      go_ret
      exact ⟨rfl, B3.out⟩
    | true =>
      rw [hlib] at HLB
      obtain ⟨hl50a, hi50a, h8a⟩ := lightB_ok hlia
      obtain ⟨hl50b, hi50b, h8b⟩ := lightB_ok hlib
      simp only at hl50a hi50a h8a hl50b hi50b h8b
      have XNA := Lib.hid (XA.out.up fun x hx => by have := hi50a x hx; omega)
      have XNB := Lib.hid (XB.out.up fun x hx => by have := hi50b x hx; omega)
      have hl30a : a.length ≤ 1073741824 := by omega
      have hl30b : b.length ≤ 1073741824 := by omega
      have SA := Lib.hid (small50 hl50a hi50a)
      have SB := Lib.hid (small50 hl50b hi50b)
      have H8A := Lib.hid h8a
      have H8B := Lib.hid h8b
      clear hlia hlib hl50a hi50a h8a hl50b hi50b h8b
      by_cases hc : chk2 ⟨n, a⟩ ⟨m, b⟩ = 0
      · obtain ⟨hoa, hob, hnm, _, _⟩ := chk2_ok hc
        simp only at hnm
        subst hnm
        obtain ⟨hn0, hn1, _, _⟩ := netOk_head hoa
        simp only at hn0 hn1
        have WA := Lib.hid (YA.out.up fun x hx => by have := SA.out.2 x hx; omega)
        have WB := Lib.hid (YB.out.up fun x hx => by have := SB.out.2 x hx; omega)
        have HCST : Hid (∀ (x y : List Nd), costP n n.toNat x y ≤ 1000000000) := fun x y => cheap_cost (show n ≤ 20 by have := H8A.out hoa; omega) x y
        have HCT : Hid (∀ V, Below w.heap.size w V → Calls Tryz.prog 23 #[.agg #[.int .i64 n, .slice aa a.length ca], .agg #[.int .i64 n, .slice ab b.length cb]] V fun e w' => e = .returned (.tuple #[stv (foundOf St.zero (cntR ⟨n, a⟩ ⟨n, b⟩)), .bool (cntR ⟨n, a⟩ ⟨n, b⟩).isSome, .int .i64 0]) ∧ Below V.heap.size V w') := Lib.hid fun V hV => by
          have h := counter2_any n n aa ab ca cb a b V (WA.out.keep hV) (WB.out.keep hV) hl30a hl30b (fun _ => SA.out) (fun _ => SB.out) (fun _ => HCST.out _ _) (HT.out.keep hV)
          rw [hc] at h; exact h
        have HCK : Hid (∀ V, Below w.heap.size w V → Calls Tryz.prog 24 #[.agg #[.int .i64 n, .slice aa a.length ca], .agg #[.int .i64 n, .slice ab b.length cb]] V fun e w' => e = .returned (.int .i64 0) ∧ Below V.heap.size V w') := Lib.hid fun V hV => by
          have h := rCheck2_any n n aa ab ca cb a b V (WA.out.keep hV) (WB.out.keep hV) hl30a hl30b
          rw [hc] at h; exact h
        obtain ⟨hlf1, hlf2⟩ := least_found hn0 SA.out SB.out hc o HOO.out
        have hco : (o.cut (allSt n)).ok := St.cut_ok HOO.out
        have hfo := foundOf_ok St.zero_ok (cntR ⟨n, a⟩ ⟨n, b⟩)
        have HCUT := Lib.hid (fun V => cut3_any o (allSt n) V HOO.out (allSt_ok n))
        have HALL3 := Lib.hid (fun V => all3_any n V)
        have HALL := Lib.hid (fun V => all_any n V)
        generalize o.cut (allSt n) = C at *
        generalize foundOf St.zero (cntR ⟨n, a⟩ ⟨n, b⟩) = F at *
        generalize (cntR ⟨n, a⟩ ⟨n, b⟩).isSome = ok at *
        have HEA : Hid (∀ (s : St) (V : World), s.ok → Below w.heap.size w V → Calls Tryz.prog 29 #[.agg #[.int .i64 n, .slice aa a.length ca], stv s] V fun e w' => e = .returned (.bool (ev s.mem ⟨n, a⟩)) ∧ Below V.heap.size V w') := Lib.hid fun s V hs hV => by
          have h := nEval_any n aa ca a s V hl30a (WA.out.keep hV) hs
          rw [hoa] at h; exact h
        have HEB : Hid (∀ (s : St) (V : World), s.ok → Below w.heap.size w V → Calls Tryz.prog 29 #[.agg #[.int .i64 n, .slice ab b.length cb], stv s] V fun e w' => e = .returned (.bool (ev s.mem ⟨n, b⟩)) ∧ Below V.heap.size V w') := Lib.hid fun s V hs hV => by
          have h := nEval_any n ab cb b s V hl30b (WB.out.keep hV) hs
          rw [hob] at h; exact h
        have EAC := Lib.hid (fun V hV => HEA.out C V hco hV)
        have EBC := Lib.hid (fun V hV => HEB.out C V hco hV)
        have EAF := Lib.hid (fun V hV => HEA.out F V hfo hV)
        have EBF := Lib.hid (fun V hV => HEB.out F V hfo hV)
        have HSUB := Lib.hid (fun V => sub_any F (allSt n) V hfo (allSt_ok n))
        have HLESS := Lib.hid (fun V h => vless_any C F V hco hfo h)
        generalize ev C.mem ⟨n, a⟩ = ia at *
        generalize ev C.mem ⟨n, b⟩ = ib at *
        obtain ⟨is, his⟩ : ∃ is, is = (ia && !ib) := ⟨_, rfl⟩
        rw [← his] at hlf1 hlf2
        have HIS := Lib.hid his
        have HL1 := Lib.hid hlf1
        have HL2 := Lib.hid hlf2
        generalize allSt n = al at *
        clear hc hoa hob hn0 hn1 hlf1 hlf2 hco hfo his
        go_enter Tryz.func8, Tryz.ntmps8
        go_wp2_with fail
        refine (HLA.out _ XA.out).mono ?_
        rintro e w1 ⟨rfl, hb1⟩
        have Lw1 := Lib.hid (hb1)
        have L1 := Lw1
        have B1 := Lib.hid (HB0.out.trans (L1.out.mono HB0.out.size))
        clear hb1
        have Q := q0.out.later Lw1.out
        have k0_0 : w1.cell? ⟨w.heap.size, 0, none⟩ = some (.int .i64 n) := Q.cell 0
        have k0_1 : w1.cell? ⟨w.heap.size, 1, none⟩ = some (.slice aa a.length ca) := Q.cell 1
        have z0 : w.heap.size < w1.heap.size := Q.lt
        clear Q
        have Q := q1.out.later Lw1.out
        have k1_0 : w1.cell? ⟨w.heap.size + 1, 0, none⟩ = some (.int .i64 n) := Q.cell 0
        have k1_1 : w1.cell? ⟨w.heap.size + 1, 1, none⟩ = some (.slice ab b.length cb) := Q.cell 1
        have z1 : w.heap.size + 1 < w1.heap.size := Q.lt
        clear Q
        have Q := q2.out.later Lw1.out
        have k2_0 : w1.cell? ⟨w.heap.size + 1 + 1, 0, none⟩ = some (.int .u64 (o.a : Int)) := Q.cell 0
        have k2_1 : w1.cell? ⟨w.heap.size + 1 + 1, 1, none⟩ = some (.int .u64 (o.b : Int)) := Q.cell 1
        have z2 : w.heap.size + 1 + 1 < w1.heap.size := Q.lt
        clear Q
        go_wp2_with fail
        refine (HLB.out _ (XB.out.keep L1.out)).mono ?_
        rintro e w2 ⟨rfl, hb2⟩
        have Lw2 := Lib.hid (L1.out.trans (hb2.mono L1.out.size))
        clear k0_0 k0_1 z0 k1_0 k1_1 z1 k2_0 k2_1 z2
        have L2 := Lw2
        have B2 := Lib.hid (HB0.out.trans (L2.out.mono HB0.out.size))
        clear hb2
        have Q := q0.out.later Lw2.out
        have k0_0 : w2.cell? ⟨w.heap.size, 0, none⟩ = some (.int .i64 n) := Q.cell 0
        have k0_1 : w2.cell? ⟨w.heap.size, 1, none⟩ = some (.slice aa a.length ca) := Q.cell 1
        have z0 : w.heap.size < w2.heap.size := Q.lt
        clear Q
        have Q := q1.out.later Lw2.out
        have k1_0 : w2.cell? ⟨w.heap.size + 1, 0, none⟩ = some (.int .i64 n) := Q.cell 0
        have k1_1 : w2.cell? ⟨w.heap.size + 1, 1, none⟩ = some (.slice ab b.length cb) := Q.cell 1
        have z1 : w.heap.size + 1 < w2.heap.size := Q.lt
        clear Q
        have Q := q2.out.later Lw2.out
        have k2_0 : w2.cell? ⟨w.heap.size + 1 + 1, 0, none⟩ = some (.int .u64 (o.a : Int)) := Q.cell 0
        have k2_1 : w2.cell? ⟨w.heap.size + 1 + 1, 1, none⟩ = some (.int .u64 (o.b : Int)) := Q.cell 1
        have z2 : w.heap.size + 1 + 1 < w2.heap.size := Q.lt
        clear Q
        go_wp2_with fail
        refine (HCK.out _ B2.out).mono ?_
        rintro e w3 ⟨rfl, hb3⟩
        have Lw3 := Lib.hid (L2.out.trans (hb3.mono L2.out.size))
        clear k0_0 k0_1 z0 k1_0 k1_1 z1 k2_0 k2_1 z2
        have L3 := Lw3
        have B3 := Lib.hid (HB0.out.trans (L3.out.mono HB0.out.size))
        clear hb3
        have Q := q0.out.later Lw3.out
        have k0_0 : w3.cell? ⟨w.heap.size, 0, none⟩ = some (.int .i64 n) := Q.cell 0
        have k0_1 : w3.cell? ⟨w.heap.size, 1, none⟩ = some (.slice aa a.length ca) := Q.cell 1
        have z0 : w.heap.size < w3.heap.size := Q.lt
        clear Q
        have Q := q1.out.later Lw3.out
        have k1_0 : w3.cell? ⟨w.heap.size + 1, 0, none⟩ = some (.int .i64 n) := Q.cell 0
        have k1_1 : w3.cell? ⟨w.heap.size + 1, 1, none⟩ = some (.slice ab b.length cb) := Q.cell 1
        have z1 : w.heap.size + 1 < w3.heap.size := Q.lt
        clear Q
        have Q := q2.out.later Lw3.out
        have k2_0 : w3.cell? ⟨w.heap.size + 1 + 1, 0, none⟩ = some (.int .u64 (o.a : Int)) := Q.cell 0
        have k2_1 : w3.cell? ⟨w.heap.size + 1 + 1, 1, none⟩ = some (.int .u64 (o.b : Int)) := Q.cell 1
        have z2 : w.heap.size + 1 + 1 < w3.heap.size := Q.lt
        clear Q
        go_wp2_with fail
        refine (HCT.out _ B3.out).mono ?_
        rintro e w4 ⟨rfl, hb4⟩
        have Lw4 := Lib.hid (L3.out.trans (hb4.mono L3.out.size))
        clear k0_0 k0_1 z0 k1_0 k1_1 z1 k2_0 k2_1 z2
        have L4 := Lib.hid (Lw4.out.alloc Lw4.out.size (.cells #[.int .u64 (F.a : Int), .int .u64 (F.b : Int)] 38))
        have S4 := Lib.hid (Blk.new w4 #[.int .u64 (F.a : Int), .int .u64 (F.b : Int)] 38)
        have B4 := Lib.hid (HB0.out.trans (L4.out.mono HB0.out.size))
        clear hb4
        have Q := q0.out.later Lw4.out
        have k0_0 : w4.cell? ⟨w.heap.size, 0, none⟩ = some (.int .i64 n) := Q.cell 0
        have k0_1 : w4.cell? ⟨w.heap.size, 1, none⟩ = some (.slice aa a.length ca) := Q.cell 1
        have z0 : w.heap.size < w4.heap.size := Q.lt
        clear Q
        have Q := q1.out.later Lw4.out
        have k1_0 : w4.cell? ⟨w.heap.size + 1, 0, none⟩ = some (.int .i64 n) := Q.cell 0
        have k1_1 : w4.cell? ⟨w.heap.size + 1, 1, none⟩ = some (.slice ab b.length cb) := Q.cell 1
        have z1 : w.heap.size + 1 < w4.heap.size := Q.lt
        clear Q
        have Q := q2.out.later Lw4.out
        have k2_0 : w4.cell? ⟨w.heap.size + 1 + 1, 0, none⟩ = some (.int .u64 (o.a : Int)) := Q.cell 0
        have k2_1 : w4.cell? ⟨w.heap.size + 1 + 1, 1, none⟩ = some (.int .u64 (o.b : Int)) := Q.cell 1
        have z2 : w.heap.size + 1 + 1 < w4.heap.size := Q.lt
        clear Q
        go_upto_region 4 with fail
        have D0 := Lib.hid (q0.out.later L4.out)
        have D1 := Lib.hid (q1.out.later L4.out)
        have D2 := Lib.hid (q2.out.later L4.out)
        obtain ⟨xb, hxb⟩ : ∃ xb, xb = w4.heap.size := ⟨_, rfl⟩
        obtain ⟨Wc, hWc⟩ : ∃ Wc, Wc = w4.alloc (.cells #[.int .u64 (F.a : Int), .int .u64 (F.b : Int)] 38) := ⟨_, rfl⟩
        rw [← hWc] at D0 D1 D2 S4 B4
        rw [← hxb] at S4
        try rw [← hWc]
        try rw [← hxb]
        have XBN : Hid (xb ≠ w.heap.size + 1 + 1 ∧ w.heap.size + 1 + 1 < xb) := by show _ ∧ _; rw [hxb]; have := z2; omega
        clear k0_0 k0_1 z0 k1_0 k1_1 z1 k2_0 k2_1 z2 hxb hWc
        have c0 : Wc.cell? ⟨w.heap.size, 0, none⟩ = some (.int .i64 n) := D0.out.cell 0
        have c1 : Wc.cell? ⟨w.heap.size, 1, none⟩ = some (.slice aa a.length ca) := D0.out.cell 1
        have HKS : Hid (∀ w' : World, Kp (fun y => y = w.heap.size + 1 + 1) Wc w' → w'.cell? ⟨w.heap.size, 0, none⟩ = some (.int .i64 n) ∧ w'.cell? ⟨w.heap.size, 1, none⟩ = some (.slice aa a.length ca) ∧ Kp (fun y => y = w.heap.size + 1 + 1) Wc w') := Lib.hid fun w' hk => ⟨hk.cell c0 (by dsimp only; omega), hk.cell c1 (by dsimp only; omega), hk⟩
        go_cut [37] (fun s37 wx => s37 = stv C ∧ Blk wx (w.heap.size + 1 + 1) #[.int .u64 (C.a : Int), .int .u64 (C.b : Int)] 38 ∧ Kp (fun y => y = w.heap.size + 1 + 1) Wc wx)
        case first =>
          refine wp_region_held_drew (S := (fun w' => w'.cell? ⟨w.heap.size, 0, none⟩ = some (.int .i64 n) ∧ w'.cell? ⟨w.heap.size, 1, none⟩ = some (.slice aa a.length ca) ∧ Kp (fun y => y = w.heap.size + 1 + 1) Wc w')) (by kernel_rfl) ?_ (fun hHeld => ?_)
          · try dsimp only
            exact HKS.out _ (Kp.drew _ _)
          refine wpAnyH_take (i := 1) (v := ?_) rfl (by kernel_rfl) (by kernel_rfl) (by kernel_rfl) (fun _ _ _ h => h) (Or.inl ⟨by rfl, ?_⟩) (by assumption) ?_
          rotate_left
          · intro w hSw
            try dsimp only at hSw
            first | (go_simp; done) | (go_simp; with_reducible rfl)
          change wpAnyH _ _ _ _ _ _ _ (Act.put _ (some 34) _) _
          try simp only [Act.put, List.setIfInBounds_toArray, List.set_cons_zero, List.set_cons_succ]
          refine wpAnyH_take (i := 2) (v := ?_) rfl (by kernel_rfl) (by kernel_rfl) (by kernel_rfl) (fun _ _ _ h => h) (Or.inl ⟨by rfl, ?_⟩) (by assumption) ?_
          rotate_left
          · intro w hSw
            try dsimp only at hSw
            first | (go_simp; done) | (go_simp; with_reducible rfl)
          change wpAnyH _ _ _ _ _ _ _ (Act.put _ (some 35) _) _
          try simp only [Act.put, List.setIfInBounds_toArray, List.set_cons_zero, List.set_cons_succ]
          refine wpAnyH_ready (rs := [0, 3]) (by kernel_rfl) (by simp) ?_
          refine AllReadyH.cons rfl (fun K hK => ?_) (AllReadyH.cons rfl (fun K hK => ?_) AllReadyH.nil)
          · have m0 : Wc.drew.cell? ⟨w.heap.size + 1 + 1, 0, none⟩ = some (.int .u64 (o.a : Int)) := (D2.out.later (Below.drew (Below.refl Wc.heap.size Wc))).cell 0
            have m1 : Wc.drew.cell? ⟨w.heap.size + 1 + 1, 1, none⟩ = some (.int .u64 (o.b : Int)) := (D2.out.later (Below.drew (Below.refl Wc.heap.size Wc))).cell 1
            go_simp
            refine hK.out _ _ ?_ (fun hHeld => ?_)
            · try dsimp only
              exact HKS.out _ (Kp.drew _ _)
            clear hK K
            try simp only [Act.put, List.setIfInBounds_toArray, List.set_cons_zero, List.set_cons_succ]
            refine wpAnyH_ready (rs := [3]) (by kernel_rfl) (by simp) ?_
            refine AllReadyH.cons rfl (fun K hK => ?_) AllReadyH.nil
            go_simp
            go_at_call 28
            refine (HALL3.out _).mono ?_
            rintro e v5 ⟨rfl, hb5⟩
            have hv5 : Below Wc.heap.size Wc v5 := Below.trans (Below.drew (Below.refl Wc.heap.size Wc)) (hb5.mono (Below.size (Below.drew (Below.refl Wc.heap.size Wc))))
            clear hb5
            go_wp2_with fail
            refine hK.out _ _ ?_ (fun hHeld => ?_)
            · try dsimp only
              exact HKS.out _ (Kp.below hv5)
            clear hK K
            try simp only [Act.put, List.setIfInBounds_toArray, List.set_cons_zero, List.set_cons_succ]
            refine wpAnyH_ready (rs := [4]) (by kernel_rfl) (by simp) ?_
            refine AllReadyH.cons rfl (fun K hK => ?_) AllReadyH.nil
            go_simp
            go_at_call 27
            refine (HCUT.out _).mono ?_
            rintro e v6 ⟨rfl, hb6⟩
            have hv6 : Below Wc.heap.size Wc v6 := Below.trans hv5 (hb6.mono (Below.size hv5))
            clear hb6
            go_wp2_with fail
            refine hK.out _ _ ?_ (fun hHeld => ?_)
            · try dsimp only
              exact HKS.out _ (Kp.below hv6)
            clear hK K
            try simp only [Act.put, List.setIfInBounds_toArray, List.set_cons_zero, List.set_cons_succ]
            have t2 := D2.out.later hv6
            have f0 := t2.fr 0
            have f1 := t2.fr 1
            have g0 : v6.cell? ⟨w.heap.size + 1 + 1, 0, none⟩ = some (.int .u64 (o.a : Int)) := t2.cell 0
            have g1 : v6.cell? ⟨w.heap.size + 1 + 1, 1, none⟩ = some (.int .u64 (o.b : Int)) := t2.cell 1
            have gz : w.heap.size + 1 + 1 < v6.heap.size := t2.lt
            have hkp : Hid (Kp (fun y => y = w.heap.size + 1 + 1) Wc ((v6.setCell ⟨w.heap.size + 1 + 1, 0, none⟩ (.int .u64 (C.a : Int))).setCell ⟨w.heap.size + 1 + 1, 1, none⟩ (.int .u64 (C.b : Int)))) := Kp.trans (M := (fun y => y = w.heap.size + 1 + 1)) (Kp.trans (M := (fun y => y = w.heap.size + 1 + 1)) (Kp.below hv6) (Kp.setCell (M := (fun y => y = w.heap.size + 1 + 1)) _ _ _ rfl)) (Kp.setCell (M := (fun y => y = w.heap.size + 1 + 1)) _ _ _ rfl)
            refine wpAnyH_ready (rs := [5]) (by kernel_rfl) (by simp) ?_
            refine AllReadyH.cons rfl (fun K hK => ?_) AllReadyH.nil
            go_simp
            refine hK.out _ _ ?_ (fun hHeld => ?_)
            · try dsimp only
              exact HKS.out _ hkp.out
            clear hK K
            try simp only [Act.put, List.setIfInBounds_toArray, List.set_cons_zero, List.set_cons_succ]
            refine wpAnyH_done (by kernel_rfl) ?_ _
            all_goals
              go_wp2_with fail
              go_meet
              exact ⟨rfl, (t2.set 0 _).set 1 _, hkp.out⟩
          · go_simp
            go_at_call 28
            refine (HALL3.out _).mono ?_
            rintro e v5 ⟨rfl, hb5⟩
            have hv5 : Below Wc.heap.size Wc v5 := Below.trans (Below.drew (Below.refl Wc.heap.size Wc)) (hb5.mono (Below.size (Below.drew (Below.refl Wc.heap.size Wc))))
            clear hb5
            go_wp2_with fail
            refine hK.out _ _ ?_ (fun hHeld => ?_)
            · try dsimp only
              exact HKS.out _ (Kp.below hv5)
            clear hK K
            try simp only [Act.put, List.setIfInBounds_toArray, List.set_cons_zero, List.set_cons_succ]
            refine wpAnyH_ready (rs := [0]) (by kernel_rfl) (by simp) ?_
            refine AllReadyH.cons rfl (fun K hK => ?_) AllReadyH.nil
            have m0 : v5.cell? ⟨w.heap.size + 1 + 1, 0, none⟩ = some (.int .u64 (o.a : Int)) := (D2.out.later hv5).cell 0
            have m1 : v5.cell? ⟨w.heap.size + 1 + 1, 1, none⟩ = some (.int .u64 (o.b : Int)) := (D2.out.later hv5).cell 1
            go_simp
            refine hK.out _ _ ?_ (fun hHeld => ?_)
            · try dsimp only
              exact HKS.out _ (Kp.below hv5)
            clear hK K
            try simp only [Act.put, List.setIfInBounds_toArray, List.set_cons_zero, List.set_cons_succ]
            refine wpAnyH_ready (rs := [4]) (by kernel_rfl) (by simp) ?_
            refine AllReadyH.cons rfl (fun K hK => ?_) AllReadyH.nil
            go_simp
            go_at_call 27
            refine (HCUT.out _).mono ?_
            rintro e v6 ⟨rfl, hb6⟩
            have hv6 : Below Wc.heap.size Wc v6 := Below.trans hv5 (hb6.mono (Below.size hv5))
            clear hb6
            go_wp2_with fail
            refine hK.out _ _ ?_ (fun hHeld => ?_)
            · try dsimp only
              exact HKS.out _ (Kp.below hv6)
            clear hK K
            try simp only [Act.put, List.setIfInBounds_toArray, List.set_cons_zero, List.set_cons_succ]
            have t2 := D2.out.later hv6
            have f0 := t2.fr 0
            have f1 := t2.fr 1
            have g0 : v6.cell? ⟨w.heap.size + 1 + 1, 0, none⟩ = some (.int .u64 (o.a : Int)) := t2.cell 0
            have g1 : v6.cell? ⟨w.heap.size + 1 + 1, 1, none⟩ = some (.int .u64 (o.b : Int)) := t2.cell 1
            have gz : w.heap.size + 1 + 1 < v6.heap.size := t2.lt
            have hkp : Hid (Kp (fun y => y = w.heap.size + 1 + 1) Wc ((v6.setCell ⟨w.heap.size + 1 + 1, 0, none⟩ (.int .u64 (C.a : Int))).setCell ⟨w.heap.size + 1 + 1, 1, none⟩ (.int .u64 (C.b : Int)))) := Kp.trans (M := (fun y => y = w.heap.size + 1 + 1)) (Kp.trans (M := (fun y => y = w.heap.size + 1 + 1)) (Kp.below hv6) (Kp.setCell (M := (fun y => y = w.heap.size + 1 + 1)) _ _ _ rfl)) (Kp.setCell (M := (fun y => y = w.heap.size + 1 + 1)) _ _ _ rfl)
            refine wpAnyH_ready (rs := [5]) (by kernel_rfl) (by simp) ?_
            refine AllReadyH.cons rfl (fun K hK => ?_) AllReadyH.nil
            go_simp
            refine hK.out _ _ ?_ (fun hHeld => ?_)
            · try dsimp only
              exact HKS.out _ hkp.out
            clear hK K
            try simp only [Act.put, List.setIfInBounds_toArray, List.set_cons_zero, List.set_cons_succ]
            refine wpAnyH_done (by kernel_rfl) ?_ _
            all_goals
              go_wp2_with fail
              go_meet
              exact ⟨rfl, (t2.set 0 _).set 1 _, hkp.out⟩
        case rest =>
          obtain ⟨rfl, hq2, hkp⟩ := hcut
          obtain ⟨V, rfl⟩ : ∃ V : World, V = wc := ⟨_, rfl⟩
          have HKP := Lib.hid hkp
          have E0 := Lib.hid (D0.out.kept hkp (by omega))
          have E1 := Lib.hid (D1.out.kept hkp (by omega))
          have E2 := Lib.hid hq2
          have E4 := Lib.hid (S4.out.kept hkp XBN.out.1)
          have BV : Hid (Below w.heap.size w V) := B4.out.trans (hkp.toBelow B4.out.size (by intro y hy h; omega))
          clear hq2 hkp c0 c1 HKS D0 D1 D2
          have Q0 := E0.out.later (Below.refl _ _)
          have Q1 := E1.out.later (Below.refl _ _)
          have Q2 := E2.out.later (Below.refl _ _)
          have Q4 := E4.out.later (Below.refl _ _)
          have k0 : V.cell? ⟨w.heap.size, 0, none⟩ = some (.int .i64 n) := Q0.cell 0
          have k1 : V.cell? ⟨w.heap.size, 1, none⟩ = some (.slice aa a.length ca) := Q0.cell 1
          have k2 : V.cell? ⟨w.heap.size + 1, 0, none⟩ = some (.int .i64 n) := Q1.cell 0
          have k3 : V.cell? ⟨w.heap.size + 1, 1, none⟩ = some (.slice ab b.length cb) := Q1.cell 1
          have o0 : V.cell? ⟨w.heap.size + 1 + 1, 0, none⟩ = some (.int .u64 (C.a : Int)) := Q2.cell 0
          have o1 : V.cell? ⟨w.heap.size + 1 + 1, 1, none⟩ = some (.int .u64 (C.b : Int)) := Q2.cell 1
          have x0 : V.cell? ⟨xb, 0, none⟩ = some (.int .u64 (F.a : Int)) := Q4.cell 0
          have x1 : V.cell? ⟨xb, 1, none⟩ = some (.int .u64 (F.b : Int)) := Q4.cell 1
          clear Q0 Q1 Q2 Q4
          have HIE := HIS.out
          cases ia with
          | false =>
            have hs0 : is = false := by rw [HIE]; rfl
            subst hs0
            clear HIE HIS
            cases ok with
            | false =>
              go_wp2_with fail
              refine (EAC.out V BV.out).mono ?_
              rintro e u ⟨rfl, hu1⟩
              have HU := Lib.hid hu1
              have BU := Lib.hid (BV.out.trans (hu1.mono BV.out.size))
              clear hu1 k0 k1 k2 k3 o0 o1 x0 x1
              have Q0 := E0.out.later HU.out
              have Q1 := E1.out.later HU.out
              have Q2 := E2.out.later HU.out
              have Q4 := E4.out.later HU.out
              have k0 : u.cell? ⟨w.heap.size, 0, none⟩ = some (.int .i64 n) := Q0.cell 0
              have k1 : u.cell? ⟨w.heap.size, 1, none⟩ = some (.slice aa a.length ca) := Q0.cell 1
              have k2 : u.cell? ⟨w.heap.size + 1, 0, none⟩ = some (.int .i64 n) := Q1.cell 0
              have k3 : u.cell? ⟨w.heap.size + 1, 1, none⟩ = some (.slice ab b.length cb) := Q1.cell 1
              have o0 : u.cell? ⟨w.heap.size + 1 + 1, 0, none⟩ = some (.int .u64 (C.a : Int)) := Q2.cell 0
              have o1 : u.cell? ⟨w.heap.size + 1 + 1, 1, none⟩ = some (.int .u64 (C.b : Int)) := Q2.cell 1
              have x0 : u.cell? ⟨xb, 0, none⟩ = some (.int .u64 (F.a : Int)) := Q4.cell 0
              have x1 : u.cell? ⟨xb, 1, none⟩ = some (.int .u64 (F.b : Int)) := Q4.cell 1
              clear Q0 Q1 Q2 Q4
              have HK8 : Hid (∀ w' : World, Below u.heap.size u w' → w'.cell? ⟨w.heap.size, 0, none⟩ = some (.int .i64 n) ∧ w'.cell? ⟨w.heap.size, 1, none⟩ = some (.slice aa a.length ca) ∧ w'.cell? ⟨w.heap.size + 1, 0, none⟩ = some (.int .i64 n) ∧ w'.cell? ⟨w.heap.size + 1, 1, none⟩ = some (.slice ab b.length cb) ∧ w'.cell? ⟨w.heap.size + 1 + 1, 0, none⟩ = some (.int .u64 (C.a : Int)) ∧ w'.cell? ⟨w.heap.size + 1 + 1, 1, none⟩ = some (.int .u64 (C.b : Int)) ∧ w'.cell? ⟨xb, 0, none⟩ = some (.int .u64 (F.a : Int)) ∧ w'.cell? ⟨xb, 1, none⟩ = some (.int .u64 (F.b : Int)) ∧ Below u.heap.size u w') := Lib.hid fun w' hb => ⟨cell_keep hb k0, cell_keep hb k1, cell_keep hb k2, cell_keep hb k3, cell_keep hb o0, cell_keep hb o1, cell_keep hb x0, cell_keep hb x1, hb⟩
              go_wp2_with fail
              refine wp_region_held_drew (S := (fun w' => w'.cell? ⟨w.heap.size, 0, none⟩ = some (.int .i64 n) ∧ w'.cell? ⟨w.heap.size, 1, none⟩ = some (.slice aa a.length ca) ∧ w'.cell? ⟨w.heap.size + 1, 0, none⟩ = some (.int .i64 n) ∧ w'.cell? ⟨w.heap.size + 1, 1, none⟩ = some (.slice ab b.length cb) ∧ w'.cell? ⟨w.heap.size + 1 + 1, 0, none⟩ = some (.int .u64 (C.a : Int)) ∧ w'.cell? ⟨w.heap.size + 1 + 1, 1, none⟩ = some (.int .u64 (C.b : Int)) ∧ w'.cell? ⟨xb, 0, none⟩ = some (.int .u64 (F.a : Int)) ∧ w'.cell? ⟨xb, 1, none⟩ = some (.int .u64 (F.b : Int)) ∧ Below u.heap.size u w')) (by kernel_rfl) ?_ (fun hHeld => ?_)
              · try dsimp only
                exact HK8.out _ (Below.refl _ _).drew
              refine wpAnyH_take (i := 0) (v := ?_) rfl (by kernel_rfl) (by kernel_rfl) (by kernel_rfl) (fun _ _ _ h => h) (Or.inl ⟨by rfl, ?_⟩) (by assumption) ?_
              rotate_left
              · intro w hSw
                try dsimp only at hSw
                first | (go_simp; done) | (go_simp; with_reducible rfl)
              change wpAnyH _ _ _ _ _ _ _ (Act.put _ (some 56) _) _
              try simp only [Act.put, List.setIfInBounds_toArray, List.set_cons_zero, List.set_cons_succ]
              refine wpAnyH_take (i := 1) (v := ?_) rfl (by kernel_rfl) (by kernel_rfl) (by kernel_rfl) (fun _ _ _ h => h) (Or.inl ⟨by rfl, ?_⟩) (by assumption) ?_
              rotate_left
              · intro w hSw
                try dsimp only at hSw
                first | (go_simp; done) | (go_simp; with_reducible rfl)
              change wpAnyH _ _ _ _ _ _ _ (Act.put _ (some 57) _) _
              try simp only [Act.put, List.setIfInBounds_toArray, List.set_cons_zero, List.set_cons_succ]
              refine wpAnyH_take (i := 2) (v := ?_) rfl (by kernel_rfl) (by kernel_rfl) (by kernel_rfl) (fun _ _ _ h => h) (Or.inl ⟨by rfl, ?_⟩) (by assumption) ?_
              rotate_left
              · intro w hSw
                try dsimp only at hSw
                first | (go_simp; done) | (go_simp; with_reducible rfl)
              change wpAnyH _ _ _ _ _ _ _ (Act.put _ (some 58) _) _
              try simp only [Act.put, List.setIfInBounds_toArray, List.set_cons_zero, List.set_cons_succ]
              refine wpAnyH_take (i := 3) rfl (by kernel_rfl) (by kernel_rfl) (by kernel_rfl) (fun _ _ _ h => h) (Or.inr ⟨by kernel_rfl, rfl⟩) (by assumption) ?_
              change wpAnyH _ _ _ _ _ _ _ (Act.put _ (some 59) _) _
              try simp only [Act.put, List.setIfInBounds_toArray, List.set_cons_zero, List.set_cons_succ]
              refine wpAnyH_take (i := 4) rfl (by kernel_rfl) (by kernel_rfl) (by kernel_rfl) (fun _ _ _ h => h) (Or.inr ⟨by kernel_rfl, rfl⟩) (by assumption) ?_
              change wpAnyH _ _ _ _ _ _ _ (Act.put _ (some 60) _) _
              try simp only [Act.put, List.setIfInBounds_toArray, List.set_cons_zero, List.set_cons_succ]
              refine wpAnyH_take (i := 5) rfl (by kernel_rfl) (by kernel_rfl) (by kernel_rfl) (fun _ _ _ h => h) (Or.inr ⟨by kernel_rfl, rfl⟩) (by assumption) ?_
              change wpAnyH _ _ _ _ _ _ _ (Act.put _ (some 61) _) _
              try simp only [Act.put, List.setIfInBounds_toArray, List.set_cons_zero, List.set_cons_succ]
              refine wpAnyH_take (i := 6) rfl (by kernel_rfl) (by kernel_rfl) (by kernel_rfl) (fun _ _ _ h => h) (Or.inr ⟨by kernel_rfl, rfl⟩) (by assumption) ?_
              change wpAnyH _ _ _ _ _ _ _ (Act.put _ (some 62) _) _
              try simp only [Act.put, List.setIfInBounds_toArray, List.set_cons_zero, List.set_cons_succ]
              refine wpAnyH_take (i := 7) rfl (by kernel_rfl) (by kernel_rfl) (by kernel_rfl) (fun _ _ _ h => h) (Or.inr ⟨by kernel_rfl, rfl⟩) (by assumption) ?_
              change wpAnyH _ _ _ _ _ _ _ (Act.put _ (some 63) _) _
              try simp only [Act.put, List.setIfInBounds_toArray, List.set_cons_zero, List.set_cons_succ]
              refine wpAnyH_take (i := 8) rfl (by kernel_rfl) (by kernel_rfl) (by kernel_rfl) (fun _ _ _ h => h) (Or.inr ⟨by kernel_rfl, rfl⟩) (by assumption) ?_
              change wpAnyH _ _ _ _ _ _ _ (Act.put _ (some 64) _) _
              try simp only [Act.put, List.setIfInBounds_toArray, List.set_cons_zero, List.set_cons_succ]
              refine wpAnyH_take (i := 9) rfl (by kernel_rfl) (by kernel_rfl) (by kernel_rfl) (fun _ _ _ h => h) (Or.inr ⟨by kernel_rfl, rfl⟩) (by assumption) ?_
              change wpAnyH _ _ _ _ _ _ _ (Act.put _ (some 65) _) _
              try simp only [Act.put, List.setIfInBounds_toArray, List.set_cons_zero, List.set_cons_succ]
              refine wpAnyH_take (i := 10) rfl (by kernel_rfl) (by kernel_rfl) (by kernel_rfl) (fun _ _ _ h => h) (Or.inr ⟨by kernel_rfl, rfl⟩) (by assumption) ?_
              change wpAnyH _ _ _ _ _ _ _ (Act.put _ (some 66) _) _
              try simp only [Act.put, List.setIfInBounds_toArray, List.set_cons_zero, List.set_cons_succ]
              refine wpAnyH_take (i := 11) rfl (by kernel_rfl) (by kernel_rfl) (by kernel_rfl) (fun _ _ _ h => h) (Or.inr ⟨by kernel_rfl, rfl⟩) (by assumption) ?_
              change wpAnyH _ _ _ _ _ _ _ (Act.put _ (some 67) _) _
              try simp only [Act.put, List.setIfInBounds_toArray, List.set_cons_zero, List.set_cons_succ]
              refine wpAnyH_take (i := 12) rfl (by kernel_rfl) (by kernel_rfl) (by kernel_rfl) (fun _ _ _ h => h) (Or.inr ⟨by kernel_rfl, rfl⟩) (by assumption) ?_
              change wpAnyH _ _ _ _ _ _ _ (Act.put _ (some 68) _) _
              try simp only [Act.put, List.setIfInBounds_toArray, List.set_cons_zero, List.set_cons_succ]
              refine wpAnyH_take (i := 13) rfl (by kernel_rfl) (by kernel_rfl) (by kernel_rfl) (fun _ _ _ h => h) (Or.inr ⟨by kernel_rfl, rfl⟩) (by assumption) ?_
              change wpAnyH _ _ _ _ _ _ _ (Act.put _ (some 69) _) _
              try simp only [Act.put, List.setIfInBounds_toArray, List.set_cons_zero, List.set_cons_succ]
              refine wpAnyH_take (i := 14) rfl (by kernel_rfl) (by kernel_rfl) (by kernel_rfl) (fun _ _ _ h => h) (Or.inr ⟨by kernel_rfl, rfl⟩) (by assumption) ?_
              change wpAnyH _ _ _ _ _ _ _ (Act.put _ (some 70) _) _
              try simp only [Act.put, List.setIfInBounds_toArray, List.set_cons_zero, List.set_cons_succ]
              refine wpAnyH_take (i := 15) rfl (by kernel_rfl) (by kernel_rfl) (by kernel_rfl) (fun _ _ _ h => h) (Or.inr ⟨by kernel_rfl, rfl⟩) (by assumption) ?_
              change wpAnyH _ _ _ _ _ _ _ (Act.put _ (some 71) _) _
              try simp only [Act.put, List.setIfInBounds_toArray, List.set_cons_zero, List.set_cons_succ]
              refine wpAnyH_take (i := 16) rfl (by kernel_rfl) (by kernel_rfl) (by kernel_rfl) (fun _ _ _ h => h) (Or.inr ⟨by kernel_rfl, rfl⟩) (by assumption) ?_
              change wpAnyH _ _ _ _ _ _ _ (Act.put _ (some 72) _) _
              try simp only [Act.put, List.setIfInBounds_toArray, List.set_cons_zero, List.set_cons_succ]
              refine wpAnyH_take (i := 17) rfl (by kernel_rfl) (by kernel_rfl) (by kernel_rfl) (fun _ _ _ h => h) (Or.inr ⟨by kernel_rfl, rfl⟩) (by assumption) ?_
              change wpAnyH _ _ _ _ _ _ _ (Act.put _ (some 73) _) _
              try simp only [Act.put, List.setIfInBounds_toArray, List.set_cons_zero, List.set_cons_succ]
              refine wpAnyH_take (i := 18) rfl (by kernel_rfl) (by kernel_rfl) (by kernel_rfl) (fun _ _ _ h => h) (Or.inr ⟨by kernel_rfl, rfl⟩) (by assumption) ?_
              change wpAnyH _ _ _ _ _ _ _ (Act.put _ (some 74) _) _
              try simp only [Act.put, List.setIfInBounds_toArray, List.set_cons_zero, List.set_cons_succ]
              refine wpAnyH_take (i := 19) rfl (by kernel_rfl) (by kernel_rfl) (by kernel_rfl) (fun _ _ _ h => h) (Or.inr ⟨by kernel_rfl, rfl⟩) (by assumption) ?_
              change wpAnyH _ _ _ _ _ _ _ (Act.put _ (some 75) _) _
              try simp only [Act.put, List.setIfInBounds_toArray, List.set_cons_zero, List.set_cons_succ]
              refine wpAnyH_take (i := 20) rfl (by kernel_rfl) (by kernel_rfl) (by kernel_rfl) (fun _ _ _ h => h) (Or.inr ⟨by kernel_rfl, rfl⟩) (by assumption) ?_
              change wpAnyH _ _ _ _ _ _ _ (Act.put _ (some 76) _) _
              try simp only [Act.put, List.setIfInBounds_toArray, List.set_cons_zero, List.set_cons_succ]
              refine wpAnyH_take (i := 21) rfl (by kernel_rfl) (by kernel_rfl) (by kernel_rfl) (fun _ _ _ h => h) (Or.inr ⟨by kernel_rfl, rfl⟩) (by assumption) ?_
              change wpAnyH _ _ _ _ _ _ _ (Act.put _ (some 77) _) _
              try simp only [Act.put, List.setIfInBounds_toArray, List.set_cons_zero, List.set_cons_succ]
              refine wpAnyH_take (i := 22) rfl (by kernel_rfl) (by kernel_rfl) (by kernel_rfl) (fun _ _ _ h => h) (Or.inr ⟨by kernel_rfl, rfl⟩) (by assumption) ?_
              change wpAnyH _ _ _ _ _ _ _ (Act.put _ (some 78) _) _
              try simp only [Act.put, List.setIfInBounds_toArray, List.set_cons_zero, List.set_cons_succ]
              refine wpAnyH_take (i := 23) rfl (by kernel_rfl) (by kernel_rfl) (by kernel_rfl) (fun _ _ _ h => h) (Or.inr ⟨by kernel_rfl, rfl⟩) (by assumption) ?_
              change wpAnyH _ _ _ _ _ _ _ (Act.put _ (some 79) _) _
              try simp only [Act.put, List.setIfInBounds_toArray, List.set_cons_zero, List.set_cons_succ]
              refine wpAnyH_take (i := 24) rfl (by kernel_rfl) (by kernel_rfl) (by kernel_rfl) (fun _ _ _ h => h) (Or.inr ⟨by kernel_rfl, rfl⟩) (by assumption) ?_
              change wpAnyH _ _ _ _ _ _ _ (Act.put _ (some 80) _) _
              try simp only [Act.put, List.setIfInBounds_toArray, List.set_cons_zero, List.set_cons_succ]
              refine wpAnyH_take (i := 25) rfl (by kernel_rfl) (by kernel_rfl) (by kernel_rfl) (fun _ _ _ h => h) (Or.inr ⟨by kernel_rfl, rfl⟩) (by assumption) ?_
              change wpAnyH _ _ _ _ _ _ _ (Act.put _ (some 81) _) _
              try simp only [Act.put, List.setIfInBounds_toArray, List.set_cons_zero, List.set_cons_succ]
              refine wpAnyH_take (i := 26) rfl (by kernel_rfl) (by kernel_rfl) (by kernel_rfl) (fun _ _ _ h => h) (Or.inr ⟨by kernel_rfl, rfl⟩) (by assumption) ?_
              change wpAnyH _ _ _ _ _ _ _ (Act.put _ (some 82) _) _
              try simp only [Act.put, List.setIfInBounds_toArray, List.set_cons_zero, List.set_cons_succ]
              refine wpAnyH_take (i := 27) rfl (by kernel_rfl) (by kernel_rfl) (by kernel_rfl) (fun _ _ _ h => h) (Or.inr ⟨by kernel_rfl, rfl⟩) (by assumption) ?_
              change wpAnyH _ _ _ _ _ _ _ (Act.put _ (some 83) _) _
              try simp only [Act.put, List.setIfInBounds_toArray, List.set_cons_zero, List.set_cons_succ]
              refine wpAnyH_take (i := 28) (v := ?_) rfl (by kernel_rfl) (by kernel_rfl) (by kernel_rfl) (fun _ _ _ h => h) (Or.inl ⟨by rfl, ?_⟩) (by assumption) ?_
              rotate_left
              · intro w hSw
                try dsimp only at hSw
                first | (go_simp; done) | (go_simp; with_reducible rfl)
              change wpAnyH _ _ _ _ _ _ _ (Act.put _ (some 84) _) _
              try simp only [Act.put, List.setIfInBounds_toArray, List.set_cons_zero, List.set_cons_succ]
              refine wpAnyH_take (i := 29) (v := ?_) rfl (by kernel_rfl) (by kernel_rfl) (by kernel_rfl) (fun _ _ _ h => h) (Or.inl ⟨by rfl, ?_⟩) (by assumption) ?_
              rotate_left
              · intro w hSw
                try dsimp only at hSw
                first | (go_simp; done) | (go_simp; with_reducible rfl)
              change wpAnyH _ _ _ _ _ _ _ (Act.put _ (some 85) _) _
              try simp only [Act.put, List.setIfInBounds_toArray, List.set_cons_zero, List.set_cons_succ]
              refine wpAnyH_ready (rs := [30]) (by kernel_rfl) (by simp) ?_
              refine AllReadyH.cons rfl (fun K hK => ?_) AllReadyH.nil
              go_simp
              go_at_call 12
              refine (HW.out _ (BU.out.trans (Below.mono (B := u.heap.size) (last9L (by assumption)) BU.out.size))).mono ?_
              rintro e y6 ⟨rfl, hb6⟩
              have hy6 : Below u.heap.size u y6 := Below.trans (last9L (by assumption)) (hb6.mono (Below.size (B := u.heap.size) (w := u) (last9L (by assumption))))
              clear hb6
              go_wp2_with fail
              refine hK.out _ _ ?_ (fun hHeld => ?_)
              · try dsimp only
                exact HK8.out _ hy6
              clear hK K
              try simp only [Act.put, List.setIfInBounds_toArray, List.set_cons_zero, List.set_cons_succ]
              refine wpAnyH_take (i := 31) (v := ?_) rfl (by kernel_rfl) (by kernel_rfl) (by kernel_rfl) (fun _ _ _ h => h) (Or.inl ⟨by rfl, ?_⟩) (by assumption) ?_
              rotate_left
              · intro w hSw
                try dsimp only at hSw
                first | (go_simp; done) | (go_simp; with_reducible rfl)
              change wpAnyH _ _ _ _ _ _ _ (Act.put _ (some 87) _) _
              try simp only [Act.put, List.setIfInBounds_toArray, List.set_cons_zero, List.set_cons_succ]
              refine wpAnyH_take (i := 32) (v := ?_) rfl (by kernel_rfl) (by kernel_rfl) (by kernel_rfl) (fun _ _ _ h => h) (Or.inl ⟨by rfl, ?_⟩) (by assumption) ?_
              rotate_left
              · intro w hSw
                try dsimp only at hSw
                first | (go_simp; done) | (go_simp; with_reducible rfl)
              change wpAnyH _ _ _ _ _ _ _ (Act.put _ (some 6) _) _
              try simp only [Act.put, List.setIfInBounds_toArray, List.set_cons_zero, List.set_cons_succ]
              refine wpAnyH_done (by kernel_rfl) ?_ _
              all_goals
                have BZ := Lib.hid (BU.out.trans (hy6.mono BU.out.size))
                go_wp2
                go_ret
                exact ⟨rfl, BZ.out⟩
            | true =>
              obtain ⟨hA, hB, hS, hLs⟩ := HL2.out rfl
              rw [hA] at EAF
              rw [hB] at EBF
              rw [hS] at HSUB
              clear hA hB hS hLs
              go_wp2_with fail
              refine (EAC.out V BV.out).mono ?_
              rintro e u ⟨rfl, hu1⟩
              have HU := Lib.hid hu1
              have BU := Lib.hid (BV.out.trans (hu1.mono BV.out.size))
              clear hu1 k0 k1 k2 k3 o0 o1 x0 x1
              have Q0 := E0.out.later HU.out
              have Q1 := E1.out.later HU.out
              have Q2 := E2.out.later HU.out
              have Q4 := E4.out.later HU.out
              have k0 : u.cell? ⟨w.heap.size, 0, none⟩ = some (.int .i64 n) := Q0.cell 0
              have k1 : u.cell? ⟨w.heap.size, 1, none⟩ = some (.slice aa a.length ca) := Q0.cell 1
              have k2 : u.cell? ⟨w.heap.size + 1, 0, none⟩ = some (.int .i64 n) := Q1.cell 0
              have k3 : u.cell? ⟨w.heap.size + 1, 1, none⟩ = some (.slice ab b.length cb) := Q1.cell 1
              have o0 : u.cell? ⟨w.heap.size + 1 + 1, 0, none⟩ = some (.int .u64 (C.a : Int)) := Q2.cell 0
              have o1 : u.cell? ⟨w.heap.size + 1 + 1, 1, none⟩ = some (.int .u64 (C.b : Int)) := Q2.cell 1
              have x0 : u.cell? ⟨xb, 0, none⟩ = some (.int .u64 (F.a : Int)) := Q4.cell 0
              have x1 : u.cell? ⟨xb, 1, none⟩ = some (.int .u64 (F.b : Int)) := Q4.cell 1
              clear Q0 Q1 Q2 Q4
              have HK8 : Hid (∀ w' : World, Below u.heap.size u w' → w'.cell? ⟨w.heap.size, 0, none⟩ = some (.int .i64 n) ∧ w'.cell? ⟨w.heap.size, 1, none⟩ = some (.slice aa a.length ca) ∧ w'.cell? ⟨w.heap.size + 1, 0, none⟩ = some (.int .i64 n) ∧ w'.cell? ⟨w.heap.size + 1, 1, none⟩ = some (.slice ab b.length cb) ∧ w'.cell? ⟨w.heap.size + 1 + 1, 0, none⟩ = some (.int .u64 (C.a : Int)) ∧ w'.cell? ⟨w.heap.size + 1 + 1, 1, none⟩ = some (.int .u64 (C.b : Int)) ∧ w'.cell? ⟨xb, 0, none⟩ = some (.int .u64 (F.a : Int)) ∧ w'.cell? ⟨xb, 1, none⟩ = some (.int .u64 (F.b : Int)) ∧ Below u.heap.size u w') := Lib.hid fun w' hb => ⟨cell_keep hb k0, cell_keep hb k1, cell_keep hb k2, cell_keep hb k3, cell_keep hb o0, cell_keep hb o1, cell_keep hb x0, cell_keep hb x1, hb⟩
              go_wp2_with fail
              refine wp_region_held_drew (S := (fun w' => w'.cell? ⟨w.heap.size, 0, none⟩ = some (.int .i64 n) ∧ w'.cell? ⟨w.heap.size, 1, none⟩ = some (.slice aa a.length ca) ∧ w'.cell? ⟨w.heap.size + 1, 0, none⟩ = some (.int .i64 n) ∧ w'.cell? ⟨w.heap.size + 1, 1, none⟩ = some (.slice ab b.length cb) ∧ w'.cell? ⟨w.heap.size + 1 + 1, 0, none⟩ = some (.int .u64 (C.a : Int)) ∧ w'.cell? ⟨w.heap.size + 1 + 1, 1, none⟩ = some (.int .u64 (C.b : Int)) ∧ w'.cell? ⟨xb, 0, none⟩ = some (.int .u64 (F.a : Int)) ∧ w'.cell? ⟨xb, 1, none⟩ = some (.int .u64 (F.b : Int)) ∧ Below u.heap.size u w')) (by kernel_rfl) ?_ (fun hHeld => ?_)
              · try dsimp only
                exact HK8.out _ (Below.refl _ _).drew
              refine wpAnyH_take (i := 0) (v := ?_) rfl (by kernel_rfl) (by kernel_rfl) (by kernel_rfl) (fun _ _ _ h => h) (Or.inl ⟨by rfl, ?_⟩) (by assumption) ?_
              rotate_left
              · intro w hSw
                try dsimp only at hSw
                first | (go_simp; done) | (go_simp; with_reducible rfl)
              change wpAnyH _ _ _ _ _ _ _ (Act.put _ (some 56) _) _
              try simp only [Act.put, List.setIfInBounds_toArray, List.set_cons_zero, List.set_cons_succ]
              refine wpAnyH_take (i := 1) (v := ?_) rfl (by kernel_rfl) (by kernel_rfl) (by kernel_rfl) (fun _ _ _ h => h) (Or.inl ⟨by rfl, ?_⟩) (by assumption) ?_
              rotate_left
              · intro w hSw
                try dsimp only at hSw
                first | (go_simp; done) | (go_simp; with_reducible rfl)
              change wpAnyH _ _ _ _ _ _ _ (Act.put _ (some 57) _) _
              try simp only [Act.put, List.setIfInBounds_toArray, List.set_cons_zero, List.set_cons_succ]
              refine wpAnyH_take (i := 2) (v := ?_) rfl (by kernel_rfl) (by kernel_rfl) (by kernel_rfl) (fun _ _ _ h => h) (Or.inl ⟨by rfl, ?_⟩) (by assumption) ?_
              rotate_left
              · intro w hSw
                try dsimp only at hSw
                first | (go_simp; done) | (go_simp; with_reducible rfl)
              change wpAnyH _ _ _ _ _ _ _ (Act.put _ (some 58) _) _
              try simp only [Act.put, List.setIfInBounds_toArray, List.set_cons_zero, List.set_cons_succ]
              refine wpAnyH_take (i := 3) (v := ?_) rfl (by kernel_rfl) (by kernel_rfl) (by kernel_rfl) (fun _ _ _ h => h) (Or.inl ⟨by rfl, ?_⟩) (by assumption) ?_
              rotate_left
              · intro w hSw
                try dsimp only at hSw
                first | (go_simp; done) | (go_simp; with_reducible rfl)
              change wpAnyH _ _ _ _ _ _ _ (Act.put _ (some 59) _) _
              try simp only [Act.put, List.setIfInBounds_toArray, List.set_cons_zero, List.set_cons_succ]
              refine wpAnyH_take (i := 4) (v := ?_) rfl (by kernel_rfl) (by kernel_rfl) (by kernel_rfl) (fun _ _ _ h => h) (Or.inl ⟨by rfl, ?_⟩) (by assumption) ?_
              rotate_left
              · intro w hSw
                try dsimp only at hSw
                first | (go_simp; done) | (go_simp; with_reducible rfl)
              change wpAnyH _ _ _ _ _ _ _ (Act.put _ (some 60) _) _
              try simp only [Act.put, List.setIfInBounds_toArray, List.set_cons_zero, List.set_cons_succ]
              refine wpAnyH_ready (rs := [5]) (by kernel_rfl) (by simp) ?_
              refine AllReadyH.cons rfl (fun K hK => ?_) AllReadyH.nil
              go_simp
              go_at_call 29
              refine (EAF.out _ (BU.out.trans (Below.mono (B := u.heap.size) (last9L (by assumption)) BU.out.size))).mono ?_
              rintro e y1 ⟨rfl, hb1⟩
              have hy1 : Below u.heap.size u y1 := Below.trans (last9L (by assumption)) (hb1.mono (Below.size (B := u.heap.size) (w := u) (last9L (by assumption))))
              clear hb1
              go_wp2_with fail
              refine hK.out _ _ ?_ (fun hHeld => ?_)
              · try dsimp only
                exact HK8.out _ hy1
              clear hK K
              try simp only [Act.put, List.setIfInBounds_toArray, List.set_cons_zero, List.set_cons_succ]
              refine wpAnyH_take (i := 6) (v := ?_) rfl (by kernel_rfl) (by kernel_rfl) (by kernel_rfl) (fun _ _ _ h => h) (Or.inl ⟨by rfl, ?_⟩) (by assumption) ?_
              rotate_left
              · intro w hSw
                try dsimp only at hSw
                first | (go_simp; done) | (go_simp; with_reducible rfl)
              change wpAnyH _ _ _ _ _ _ _ (Act.put _ (some 62) _) _
              try simp only [Act.put, List.setIfInBounds_toArray, List.set_cons_zero, List.set_cons_succ]
              refine wpAnyH_take (i := 7) (v := ?_) rfl (by kernel_rfl) (by kernel_rfl) (by kernel_rfl) (fun _ _ _ h => h) (Or.inl ⟨by rfl, ?_⟩) (by assumption) ?_
              rotate_left
              · intro w hSw
                try dsimp only at hSw
                first | (go_simp; done) | (go_simp; with_reducible rfl)
              change wpAnyH _ _ _ _ _ _ _ (Act.put _ (some 63) _) _
              try simp only [Act.put, List.setIfInBounds_toArray, List.set_cons_zero, List.set_cons_succ]
              refine wpAnyH_take (i := 8) (v := ?_) rfl (by kernel_rfl) (by kernel_rfl) (by kernel_rfl) (fun _ _ _ h => h) (Or.inl ⟨by rfl, ?_⟩) (by assumption) ?_
              rotate_left
              · intro w hSw
                try dsimp only at hSw
                first | (go_simp; done) | (go_simp; with_reducible rfl)
              change wpAnyH _ _ _ _ _ _ _ (Act.put _ (some 64) _) _
              try simp only [Act.put, List.setIfInBounds_toArray, List.set_cons_zero, List.set_cons_succ]
              refine wpAnyH_ready (rs := [9]) (by kernel_rfl) (by simp) ?_
              refine AllReadyH.cons rfl (fun K hK => ?_) AllReadyH.nil
              go_simp
              go_at_call 29
              refine (EBF.out _ (BU.out.trans (Below.mono (B := u.heap.size) (last9L (by assumption)) BU.out.size))).mono ?_
              rintro e y2 ⟨rfl, hb2⟩
              have hy2 : Below u.heap.size u y2 := Below.trans (last9L (by assumption)) (hb2.mono (Below.size (B := u.heap.size) (w := u) (last9L (by assumption))))
              clear hb2
              go_wp2_with fail
              refine hK.out _ _ ?_ (fun hHeld => ?_)
              · try dsimp only
                exact HK8.out _ hy2
              clear hK K
              try simp only [Act.put, List.setIfInBounds_toArray, List.set_cons_zero, List.set_cons_succ]
              refine wpAnyH_take (i := 10) (v := ?_) rfl (by kernel_rfl) (by kernel_rfl) (by kernel_rfl) (fun _ _ _ h => h) (Or.inl ⟨by rfl, ?_⟩) (by assumption) ?_
              rotate_left
              · intro w hSw
                try dsimp only at hSw
                first | (go_simp; done) | (go_simp; with_reducible rfl)
              change wpAnyH _ _ _ _ _ _ _ (Act.put _ (some 66) _) _
              try simp only [Act.put, List.setIfInBounds_toArray, List.set_cons_zero, List.set_cons_succ]
              refine wpAnyH_take (i := 11) (v := ?_) rfl (by kernel_rfl) (by kernel_rfl) (by kernel_rfl) (fun _ _ _ h => h) (Or.inl ⟨by rfl, ?_⟩) (by assumption) ?_
              rotate_left
              · intro w hSw
                try dsimp only at hSw
                first | (go_simp; done) | (go_simp; with_reducible rfl)
              change wpAnyH _ _ _ _ _ _ _ (Act.put _ (some 67) _) _
              try simp only [Act.put, List.setIfInBounds_toArray, List.set_cons_zero, List.set_cons_succ]
              refine wpAnyH_take (i := 12) (v := ?_) rfl (by kernel_rfl) (by kernel_rfl) (by kernel_rfl) (fun _ _ _ h => h) (Or.inl ⟨by rfl, ?_⟩) (by assumption) ?_
              rotate_left
              · intro w hSw
                try dsimp only at hSw
                first | (go_simp; done) | (go_simp; with_reducible rfl)
              change wpAnyH _ _ _ _ _ _ _ (Act.put _ (some 68) _) _
              try simp only [Act.put, List.setIfInBounds_toArray, List.set_cons_zero, List.set_cons_succ]
              refine wpAnyH_take (i := 13) (v := ?_) rfl (by kernel_rfl) (by kernel_rfl) (by kernel_rfl) (fun _ _ _ h => h) (Or.inl ⟨by rfl, ?_⟩) (by assumption) ?_
              rotate_left
              · intro w hSw
                try dsimp only at hSw
                first | (go_simp; done) | (go_simp; with_reducible rfl)
              change wpAnyH _ _ _ _ _ _ _ (Act.put _ (some 69) _) _
              try simp only [Act.put, List.setIfInBounds_toArray, List.set_cons_zero, List.set_cons_succ]
              refine wpAnyH_take (i := 14) (v := ?_) rfl (by kernel_rfl) (by kernel_rfl) (by kernel_rfl) (fun _ _ _ h => h) (Or.inl ⟨by rfl, ?_⟩) (by assumption) ?_
              rotate_left
              · intro w hSw
                try dsimp only at hSw
                first | (go_simp; done) | (go_simp; with_reducible rfl)
              change wpAnyH _ _ _ _ _ _ _ (Act.put _ (some 70) _) _
              try simp only [Act.put, List.setIfInBounds_toArray, List.set_cons_zero, List.set_cons_succ]
              refine wpAnyH_take (i := 15) (v := ?_) rfl (by kernel_rfl) (by kernel_rfl) (by kernel_rfl) (fun _ _ _ h => h) (Or.inl ⟨by rfl, ?_⟩) (by assumption) ?_
              rotate_left
              · intro w hSw
                try dsimp only at hSw
                first | (go_simp; done) | (go_simp; with_reducible rfl)
              change wpAnyH _ _ _ _ _ _ _ (Act.put _ (some 71) _) _
              try simp only [Act.put, List.setIfInBounds_toArray, List.set_cons_zero, List.set_cons_succ]
              refine wpAnyH_ready (rs := [16]) (by kernel_rfl) (by simp) ?_
              refine AllReadyH.cons rfl (fun K hK => ?_) AllReadyH.nil
              go_simp
              go_at_call 31
              refine (HALL.out _).mono ?_
              rintro e y3 ⟨rfl, hb3⟩
              have hy3 : Below u.heap.size u y3 := Below.trans (last9L (by assumption)) (hb3.mono (Below.size (B := u.heap.size) (w := u) (last9L (by assumption))))
              clear hb3
              go_wp2_with fail
              refine hK.out _ _ ?_ (fun hHeld => ?_)
              · try dsimp only
                exact HK8.out _ hy3
              clear hK K
              try simp only [Act.put, List.setIfInBounds_toArray, List.set_cons_zero, List.set_cons_succ]
              refine wpAnyH_ready (rs := [17]) (by kernel_rfl) (by simp) ?_
              refine AllReadyH.cons rfl (fun K hK => ?_) AllReadyH.nil
              go_simp
              go_at_call 30
              refine (HSUB.out _).mono ?_
              rintro e y4 ⟨rfl, hb4⟩
              have hy4 : Below u.heap.size u y4 := Below.trans (last9L (by assumption)) (hb4.mono (Below.size (B := u.heap.size) (w := u) (last9L (by assumption))))
              clear hb4
              go_wp2_with fail
              refine hK.out _ _ ?_ (fun hHeld => ?_)
              · try dsimp only
                exact HK8.out _ hy4
              clear hK K
              try simp only [Act.put, List.setIfInBounds_toArray, List.set_cons_zero, List.set_cons_succ]
              refine wpAnyH_take (i := 18) (v := ?_) rfl (by kernel_rfl) (by kernel_rfl) (by kernel_rfl) (fun _ _ _ h => h) (Or.inl ⟨by rfl, ?_⟩) (by assumption) ?_
              rotate_left
              · intro w hSw
                try dsimp only at hSw
                first | (go_simp; done) | (go_simp; with_reducible rfl)
              change wpAnyH _ _ _ _ _ _ _ (Act.put _ (some 74) _) _
              try simp only [Act.put, List.setIfInBounds_toArray, List.set_cons_zero, List.set_cons_succ]
              refine wpAnyH_take (i := 19) (v := ?_) rfl (by kernel_rfl) (by kernel_rfl) (by kernel_rfl) (fun _ _ _ h => h) (Or.inl ⟨by rfl, ?_⟩) (by assumption) ?_
              rotate_left
              · intro w hSw
                try dsimp only at hSw
                first | (go_simp; done) | (go_simp; with_reducible rfl)
              change wpAnyH _ _ _ _ _ _ _ (Act.put _ (some 75) _) _
              try simp only [Act.put, List.setIfInBounds_toArray, List.set_cons_zero, List.set_cons_succ]
              refine wpAnyH_take (i := 20) (v := ?_) rfl (by kernel_rfl) (by kernel_rfl) (by kernel_rfl) (fun _ _ _ h => h) (Or.inl ⟨by rfl, ?_⟩) (by assumption) ?_
              rotate_left
              · intro w hSw
                try dsimp only at hSw
                first | (go_simp; done) | (go_simp; with_reducible rfl)
              change wpAnyH _ _ _ _ _ _ _ (Act.put _ (some 76) _) _
              try simp only [Act.put, List.setIfInBounds_toArray, List.set_cons_zero, List.set_cons_succ]
              refine wpAnyH_take (i := 21) (v := ?_) rfl (by kernel_rfl) (by kernel_rfl) (by kernel_rfl) (fun _ _ _ h => h) (Or.inl ⟨by rfl, ?_⟩) (by assumption) ?_
              rotate_left
              · intro w hSw
                try dsimp only at hSw
                first | (go_simp; done) | (go_simp; with_reducible rfl)
              change wpAnyH _ _ _ _ _ _ _ (Act.put _ (some 77) _) _
              try simp only [Act.put, List.setIfInBounds_toArray, List.set_cons_zero, List.set_cons_succ]
              refine wpAnyH_take (i := 22) rfl (by kernel_rfl) (by kernel_rfl) (by kernel_rfl) (fun _ _ _ h => h) (Or.inr ⟨by kernel_rfl, rfl⟩) (by assumption) ?_
              change wpAnyH _ _ _ _ _ _ _ (Act.put _ (some 78) _) _
              try simp only [Act.put, List.setIfInBounds_toArray, List.set_cons_zero, List.set_cons_succ]
              refine wpAnyH_take (i := 23) rfl (by kernel_rfl) (by kernel_rfl) (by kernel_rfl) (fun _ _ _ h => h) (Or.inr ⟨by kernel_rfl, rfl⟩) (by assumption) ?_
              change wpAnyH _ _ _ _ _ _ _ (Act.put _ (some 79) _) _
              try simp only [Act.put, List.setIfInBounds_toArray, List.set_cons_zero, List.set_cons_succ]
              refine wpAnyH_take (i := 24) rfl (by kernel_rfl) (by kernel_rfl) (by kernel_rfl) (fun _ _ _ h => h) (Or.inr ⟨by kernel_rfl, rfl⟩) (by assumption) ?_
              change wpAnyH _ _ _ _ _ _ _ (Act.put _ (some 80) _) _
              try simp only [Act.put, List.setIfInBounds_toArray, List.set_cons_zero, List.set_cons_succ]
              refine wpAnyH_take (i := 25) (v := ?_) rfl (by kernel_rfl) (by kernel_rfl) (by kernel_rfl) (fun _ _ _ h => h) (Or.inl ⟨by rfl, ?_⟩) (by assumption) ?_
              rotate_left
              · intro w hSw
                try dsimp only at hSw
                first | (go_simp; done) | (go_simp; with_reducible rfl)
              change wpAnyH _ _ _ _ _ _ _ (Act.put _ (some 81) _) _
              try simp only [Act.put, List.setIfInBounds_toArray, List.set_cons_zero, List.set_cons_succ]
              refine wpAnyH_take (i := 26) (v := ?_) rfl (by kernel_rfl) (by kernel_rfl) (by kernel_rfl) (fun _ _ _ h => h) (Or.inl ⟨by rfl, ?_⟩) (by assumption) ?_
              rotate_left
              · intro w hSw
                try dsimp only at hSw
                first | (go_simp; done) | (go_simp; with_reducible rfl)
              change wpAnyH _ _ _ _ _ _ _ (Act.put _ (some 82) _) _
              try simp only [Act.put, List.setIfInBounds_toArray, List.set_cons_zero, List.set_cons_succ]
              refine wpAnyH_take (i := 27) (v := ?_) rfl (by kernel_rfl) (by kernel_rfl) (by kernel_rfl) (fun _ _ _ h => h) (Or.inl ⟨by rfl, ?_⟩) (by assumption) ?_
              rotate_left
              · intro w hSw
                try dsimp only at hSw
                first | (go_simp; done) | (go_simp; with_reducible rfl)
              change wpAnyH _ _ _ _ _ _ _ (Act.put _ (some 83) _) _
              try simp only [Act.put, List.setIfInBounds_toArray, List.set_cons_zero, List.set_cons_succ]
              refine wpAnyH_take (i := 28) (v := ?_) rfl (by kernel_rfl) (by kernel_rfl) (by kernel_rfl) (fun _ _ _ h => h) (Or.inl ⟨by rfl, ?_⟩) (by assumption) ?_
              rotate_left
              · intro w hSw
                try dsimp only at hSw
                first | (go_simp; done) | (go_simp; with_reducible rfl)
              change wpAnyH _ _ _ _ _ _ _ (Act.put _ (some 84) _) _
              try simp only [Act.put, List.setIfInBounds_toArray, List.set_cons_zero, List.set_cons_succ]
              refine wpAnyH_take (i := 29) (v := ?_) rfl (by kernel_rfl) (by kernel_rfl) (by kernel_rfl) (fun _ _ _ h => h) (Or.inl ⟨by rfl, ?_⟩) (by assumption) ?_
              rotate_left
              · intro w hSw
                try dsimp only at hSw
                first | (go_simp; done) | (go_simp; with_reducible rfl)
              change wpAnyH _ _ _ _ _ _ _ (Act.put _ (some 85) _) _
              try simp only [Act.put, List.setIfInBounds_toArray, List.set_cons_zero, List.set_cons_succ]
              refine wpAnyH_ready (rs := [30]) (by kernel_rfl) (by simp) ?_
              refine AllReadyH.cons rfl (fun K hK => ?_) AllReadyH.nil
              go_simp
              go_at_call 12
              refine (HW.out _ (BU.out.trans (Below.mono (B := u.heap.size) (last9L (by assumption)) BU.out.size))).mono ?_
              rintro e y6 ⟨rfl, hb6⟩
              have hy6 : Below u.heap.size u y6 := Below.trans (last9L (by assumption)) (hb6.mono (Below.size (B := u.heap.size) (w := u) (last9L (by assumption))))
              clear hb6
              go_wp2_with fail
              refine hK.out _ _ ?_ (fun hHeld => ?_)
              · try dsimp only
                exact HK8.out _ hy6
              clear hK K
              try simp only [Act.put, List.setIfInBounds_toArray, List.set_cons_zero, List.set_cons_succ]
              refine wpAnyH_take (i := 31) (v := ?_) rfl (by kernel_rfl) (by kernel_rfl) (by kernel_rfl) (fun _ _ _ h => h) (Or.inl ⟨by rfl, ?_⟩) (by assumption) ?_
              rotate_left
              · intro w hSw
                try dsimp only at hSw
                first | (go_simp; done) | (go_simp; with_reducible rfl)
              change wpAnyH _ _ _ _ _ _ _ (Act.put _ (some 87) _) _
              try simp only [Act.put, List.setIfInBounds_toArray, List.set_cons_zero, List.set_cons_succ]
              refine wpAnyH_take (i := 32) (v := ?_) rfl (by kernel_rfl) (by kernel_rfl) (by kernel_rfl) (fun _ _ _ h => h) (Or.inl ⟨by rfl, ?_⟩) (by assumption) ?_
              rotate_left
              · intro w hSw
                try dsimp only at hSw
                first | (go_simp; done) | (go_simp; with_reducible rfl)
              change wpAnyH _ _ _ _ _ _ _ (Act.put _ (some 6) _) _
              try simp only [Act.put, List.setIfInBounds_toArray, List.set_cons_zero, List.set_cons_succ]
              refine wpAnyH_done (by kernel_rfl) ?_ _
              all_goals
                have BZ := Lib.hid (BU.out.trans (hy6.mono BU.out.size))
                go_wp2
                go_ret
                exact ⟨rfl, BZ.out⟩
          | true =>
            cases ib with
            | true =>
              have hs0 : is = false := by rw [HIE]; rfl
              subst hs0
              clear HIE HIS
              cases ok with
              | false =>
                go_wp2_with fail
                refine (EAC.out V BV.out).mono ?_
                rintro e u1 ⟨rfl, hu1⟩
                have HU1 := Lib.hid hu1
                have BU1 := Lib.hid (BV.out.trans (hu1.mono BV.out.size))
                clear hu1 k0 k1 k2 k3 o0 o1 x0 x1
                have Q0 := E0.out.later HU1.out
                have Q1 := E1.out.later HU1.out
                have Q2 := E2.out.later HU1.out
                have Q4 := E4.out.later HU1.out
                have k0 : u1.cell? ⟨w.heap.size, 0, none⟩ = some (.int .i64 n) := Q0.cell 0
                have k1 : u1.cell? ⟨w.heap.size, 1, none⟩ = some (.slice aa a.length ca) := Q0.cell 1
                have k2 : u1.cell? ⟨w.heap.size + 1, 0, none⟩ = some (.int .i64 n) := Q1.cell 0
                have k3 : u1.cell? ⟨w.heap.size + 1, 1, none⟩ = some (.slice ab b.length cb) := Q1.cell 1
                have o0 : u1.cell? ⟨w.heap.size + 1 + 1, 0, none⟩ = some (.int .u64 (C.a : Int)) := Q2.cell 0
                have o1 : u1.cell? ⟨w.heap.size + 1 + 1, 1, none⟩ = some (.int .u64 (C.b : Int)) := Q2.cell 1
                have x0 : u1.cell? ⟨xb, 0, none⟩ = some (.int .u64 (F.a : Int)) := Q4.cell 0
                have x1 : u1.cell? ⟨xb, 1, none⟩ = some (.int .u64 (F.b : Int)) := Q4.cell 1
                clear Q0 Q1 Q2 Q4
                go_wp2_with fail
                refine (EBC.out u1 BU1.out).mono ?_
                rintro e u ⟨rfl, hu2⟩
                have HU := Lib.hid (HU1.out.trans (hu2.mono HU1.out.size))
                have BU := Lib.hid (BU1.out.trans (hu2.mono BU1.out.size))
                clear hu2 k0 k1 k2 k3 o0 o1 x0 x1
                have Q0 := E0.out.later HU.out
                have Q1 := E1.out.later HU.out
                have Q2 := E2.out.later HU.out
                have Q4 := E4.out.later HU.out
                have k0 : u.cell? ⟨w.heap.size, 0, none⟩ = some (.int .i64 n) := Q0.cell 0
                have k1 : u.cell? ⟨w.heap.size, 1, none⟩ = some (.slice aa a.length ca) := Q0.cell 1
                have k2 : u.cell? ⟨w.heap.size + 1, 0, none⟩ = some (.int .i64 n) := Q1.cell 0
                have k3 : u.cell? ⟨w.heap.size + 1, 1, none⟩ = some (.slice ab b.length cb) := Q1.cell 1
                have o0 : u.cell? ⟨w.heap.size + 1 + 1, 0, none⟩ = some (.int .u64 (C.a : Int)) := Q2.cell 0
                have o1 : u.cell? ⟨w.heap.size + 1 + 1, 1, none⟩ = some (.int .u64 (C.b : Int)) := Q2.cell 1
                have x0 : u.cell? ⟨xb, 0, none⟩ = some (.int .u64 (F.a : Int)) := Q4.cell 0
                have x1 : u.cell? ⟨xb, 1, none⟩ = some (.int .u64 (F.b : Int)) := Q4.cell 1
                clear Q0 Q1 Q2 Q4
                have HK8 : Hid (∀ w' : World, Below u.heap.size u w' → w'.cell? ⟨w.heap.size, 0, none⟩ = some (.int .i64 n) ∧ w'.cell? ⟨w.heap.size, 1, none⟩ = some (.slice aa a.length ca) ∧ w'.cell? ⟨w.heap.size + 1, 0, none⟩ = some (.int .i64 n) ∧ w'.cell? ⟨w.heap.size + 1, 1, none⟩ = some (.slice ab b.length cb) ∧ w'.cell? ⟨w.heap.size + 1 + 1, 0, none⟩ = some (.int .u64 (C.a : Int)) ∧ w'.cell? ⟨w.heap.size + 1 + 1, 1, none⟩ = some (.int .u64 (C.b : Int)) ∧ w'.cell? ⟨xb, 0, none⟩ = some (.int .u64 (F.a : Int)) ∧ w'.cell? ⟨xb, 1, none⟩ = some (.int .u64 (F.b : Int)) ∧ Below u.heap.size u w') := Lib.hid fun w' hb => ⟨cell_keep hb k0, cell_keep hb k1, cell_keep hb k2, cell_keep hb k3, cell_keep hb o0, cell_keep hb o1, cell_keep hb x0, cell_keep hb x1, hb⟩
                go_wp2_with fail
                refine wp_region_held_drew (S := (fun w' => w'.cell? ⟨w.heap.size, 0, none⟩ = some (.int .i64 n) ∧ w'.cell? ⟨w.heap.size, 1, none⟩ = some (.slice aa a.length ca) ∧ w'.cell? ⟨w.heap.size + 1, 0, none⟩ = some (.int .i64 n) ∧ w'.cell? ⟨w.heap.size + 1, 1, none⟩ = some (.slice ab b.length cb) ∧ w'.cell? ⟨w.heap.size + 1 + 1, 0, none⟩ = some (.int .u64 (C.a : Int)) ∧ w'.cell? ⟨w.heap.size + 1 + 1, 1, none⟩ = some (.int .u64 (C.b : Int)) ∧ w'.cell? ⟨xb, 0, none⟩ = some (.int .u64 (F.a : Int)) ∧ w'.cell? ⟨xb, 1, none⟩ = some (.int .u64 (F.b : Int)) ∧ Below u.heap.size u w')) (by kernel_rfl) ?_ (fun hHeld => ?_)
                · try dsimp only
                  exact HK8.out _ (Below.refl _ _).drew
                refine wpAnyH_take (i := 0) (v := ?_) rfl (by kernel_rfl) (by kernel_rfl) (by kernel_rfl) (fun _ _ _ h => h) (Or.inl ⟨by rfl, ?_⟩) (by assumption) ?_
                rotate_left
                · intro w hSw
                  try dsimp only at hSw
                  first | (go_simp; done) | (go_simp; with_reducible rfl)
                change wpAnyH _ _ _ _ _ _ _ (Act.put _ (some 56) _) _
                try simp only [Act.put, List.setIfInBounds_toArray, List.set_cons_zero, List.set_cons_succ]
                refine wpAnyH_take (i := 1) (v := ?_) rfl (by kernel_rfl) (by kernel_rfl) (by kernel_rfl) (fun _ _ _ h => h) (Or.inl ⟨by rfl, ?_⟩) (by assumption) ?_
                rotate_left
                · intro w hSw
                  try dsimp only at hSw
                  first | (go_simp; done) | (go_simp; with_reducible rfl)
                change wpAnyH _ _ _ _ _ _ _ (Act.put _ (some 57) _) _
                try simp only [Act.put, List.setIfInBounds_toArray, List.set_cons_zero, List.set_cons_succ]
                refine wpAnyH_take (i := 2) (v := ?_) rfl (by kernel_rfl) (by kernel_rfl) (by kernel_rfl) (fun _ _ _ h => h) (Or.inl ⟨by rfl, ?_⟩) (by assumption) ?_
                rotate_left
                · intro w hSw
                  try dsimp only at hSw
                  first | (go_simp; done) | (go_simp; with_reducible rfl)
                change wpAnyH _ _ _ _ _ _ _ (Act.put _ (some 58) _) _
                try simp only [Act.put, List.setIfInBounds_toArray, List.set_cons_zero, List.set_cons_succ]
                refine wpAnyH_take (i := 3) rfl (by kernel_rfl) (by kernel_rfl) (by kernel_rfl) (fun _ _ _ h => h) (Or.inr ⟨by kernel_rfl, rfl⟩) (by assumption) ?_
                change wpAnyH _ _ _ _ _ _ _ (Act.put _ (some 59) _) _
                try simp only [Act.put, List.setIfInBounds_toArray, List.set_cons_zero, List.set_cons_succ]
                refine wpAnyH_take (i := 4) rfl (by kernel_rfl) (by kernel_rfl) (by kernel_rfl) (fun _ _ _ h => h) (Or.inr ⟨by kernel_rfl, rfl⟩) (by assumption) ?_
                change wpAnyH _ _ _ _ _ _ _ (Act.put _ (some 60) _) _
                try simp only [Act.put, List.setIfInBounds_toArray, List.set_cons_zero, List.set_cons_succ]
                refine wpAnyH_take (i := 5) rfl (by kernel_rfl) (by kernel_rfl) (by kernel_rfl) (fun _ _ _ h => h) (Or.inr ⟨by kernel_rfl, rfl⟩) (by assumption) ?_
                change wpAnyH _ _ _ _ _ _ _ (Act.put _ (some 61) _) _
                try simp only [Act.put, List.setIfInBounds_toArray, List.set_cons_zero, List.set_cons_succ]
                refine wpAnyH_take (i := 6) rfl (by kernel_rfl) (by kernel_rfl) (by kernel_rfl) (fun _ _ _ h => h) (Or.inr ⟨by kernel_rfl, rfl⟩) (by assumption) ?_
                change wpAnyH _ _ _ _ _ _ _ (Act.put _ (some 62) _) _
                try simp only [Act.put, List.setIfInBounds_toArray, List.set_cons_zero, List.set_cons_succ]
                refine wpAnyH_take (i := 7) rfl (by kernel_rfl) (by kernel_rfl) (by kernel_rfl) (fun _ _ _ h => h) (Or.inr ⟨by kernel_rfl, rfl⟩) (by assumption) ?_
                change wpAnyH _ _ _ _ _ _ _ (Act.put _ (some 63) _) _
                try simp only [Act.put, List.setIfInBounds_toArray, List.set_cons_zero, List.set_cons_succ]
                refine wpAnyH_take (i := 8) rfl (by kernel_rfl) (by kernel_rfl) (by kernel_rfl) (fun _ _ _ h => h) (Or.inr ⟨by kernel_rfl, rfl⟩) (by assumption) ?_
                change wpAnyH _ _ _ _ _ _ _ (Act.put _ (some 64) _) _
                try simp only [Act.put, List.setIfInBounds_toArray, List.set_cons_zero, List.set_cons_succ]
                refine wpAnyH_take (i := 9) rfl (by kernel_rfl) (by kernel_rfl) (by kernel_rfl) (fun _ _ _ h => h) (Or.inr ⟨by kernel_rfl, rfl⟩) (by assumption) ?_
                change wpAnyH _ _ _ _ _ _ _ (Act.put _ (some 65) _) _
                try simp only [Act.put, List.setIfInBounds_toArray, List.set_cons_zero, List.set_cons_succ]
                refine wpAnyH_take (i := 10) rfl (by kernel_rfl) (by kernel_rfl) (by kernel_rfl) (fun _ _ _ h => h) (Or.inr ⟨by kernel_rfl, rfl⟩) (by assumption) ?_
                change wpAnyH _ _ _ _ _ _ _ (Act.put _ (some 66) _) _
                try simp only [Act.put, List.setIfInBounds_toArray, List.set_cons_zero, List.set_cons_succ]
                refine wpAnyH_take (i := 11) rfl (by kernel_rfl) (by kernel_rfl) (by kernel_rfl) (fun _ _ _ h => h) (Or.inr ⟨by kernel_rfl, rfl⟩) (by assumption) ?_
                change wpAnyH _ _ _ _ _ _ _ (Act.put _ (some 67) _) _
                try simp only [Act.put, List.setIfInBounds_toArray, List.set_cons_zero, List.set_cons_succ]
                refine wpAnyH_take (i := 12) rfl (by kernel_rfl) (by kernel_rfl) (by kernel_rfl) (fun _ _ _ h => h) (Or.inr ⟨by kernel_rfl, rfl⟩) (by assumption) ?_
                change wpAnyH _ _ _ _ _ _ _ (Act.put _ (some 68) _) _
                try simp only [Act.put, List.setIfInBounds_toArray, List.set_cons_zero, List.set_cons_succ]
                refine wpAnyH_take (i := 13) rfl (by kernel_rfl) (by kernel_rfl) (by kernel_rfl) (fun _ _ _ h => h) (Or.inr ⟨by kernel_rfl, rfl⟩) (by assumption) ?_
                change wpAnyH _ _ _ _ _ _ _ (Act.put _ (some 69) _) _
                try simp only [Act.put, List.setIfInBounds_toArray, List.set_cons_zero, List.set_cons_succ]
                refine wpAnyH_take (i := 14) rfl (by kernel_rfl) (by kernel_rfl) (by kernel_rfl) (fun _ _ _ h => h) (Or.inr ⟨by kernel_rfl, rfl⟩) (by assumption) ?_
                change wpAnyH _ _ _ _ _ _ _ (Act.put _ (some 70) _) _
                try simp only [Act.put, List.setIfInBounds_toArray, List.set_cons_zero, List.set_cons_succ]
                refine wpAnyH_take (i := 15) rfl (by kernel_rfl) (by kernel_rfl) (by kernel_rfl) (fun _ _ _ h => h) (Or.inr ⟨by kernel_rfl, rfl⟩) (by assumption) ?_
                change wpAnyH _ _ _ _ _ _ _ (Act.put _ (some 71) _) _
                try simp only [Act.put, List.setIfInBounds_toArray, List.set_cons_zero, List.set_cons_succ]
                refine wpAnyH_take (i := 16) rfl (by kernel_rfl) (by kernel_rfl) (by kernel_rfl) (fun _ _ _ h => h) (Or.inr ⟨by kernel_rfl, rfl⟩) (by assumption) ?_
                change wpAnyH _ _ _ _ _ _ _ (Act.put _ (some 72) _) _
                try simp only [Act.put, List.setIfInBounds_toArray, List.set_cons_zero, List.set_cons_succ]
                refine wpAnyH_take (i := 17) rfl (by kernel_rfl) (by kernel_rfl) (by kernel_rfl) (fun _ _ _ h => h) (Or.inr ⟨by kernel_rfl, rfl⟩) (by assumption) ?_
                change wpAnyH _ _ _ _ _ _ _ (Act.put _ (some 73) _) _
                try simp only [Act.put, List.setIfInBounds_toArray, List.set_cons_zero, List.set_cons_succ]
                refine wpAnyH_take (i := 18) rfl (by kernel_rfl) (by kernel_rfl) (by kernel_rfl) (fun _ _ _ h => h) (Or.inr ⟨by kernel_rfl, rfl⟩) (by assumption) ?_
                change wpAnyH _ _ _ _ _ _ _ (Act.put _ (some 74) _) _
                try simp only [Act.put, List.setIfInBounds_toArray, List.set_cons_zero, List.set_cons_succ]
                refine wpAnyH_take (i := 19) rfl (by kernel_rfl) (by kernel_rfl) (by kernel_rfl) (fun _ _ _ h => h) (Or.inr ⟨by kernel_rfl, rfl⟩) (by assumption) ?_
                change wpAnyH _ _ _ _ _ _ _ (Act.put _ (some 75) _) _
                try simp only [Act.put, List.setIfInBounds_toArray, List.set_cons_zero, List.set_cons_succ]
                refine wpAnyH_take (i := 20) rfl (by kernel_rfl) (by kernel_rfl) (by kernel_rfl) (fun _ _ _ h => h) (Or.inr ⟨by kernel_rfl, rfl⟩) (by assumption) ?_
                change wpAnyH _ _ _ _ _ _ _ (Act.put _ (some 76) _) _
                try simp only [Act.put, List.setIfInBounds_toArray, List.set_cons_zero, List.set_cons_succ]
                refine wpAnyH_take (i := 21) rfl (by kernel_rfl) (by kernel_rfl) (by kernel_rfl) (fun _ _ _ h => h) (Or.inr ⟨by kernel_rfl, rfl⟩) (by assumption) ?_
                change wpAnyH _ _ _ _ _ _ _ (Act.put _ (some 77) _) _
                try simp only [Act.put, List.setIfInBounds_toArray, List.set_cons_zero, List.set_cons_succ]
                refine wpAnyH_take (i := 22) rfl (by kernel_rfl) (by kernel_rfl) (by kernel_rfl) (fun _ _ _ h => h) (Or.inr ⟨by kernel_rfl, rfl⟩) (by assumption) ?_
                change wpAnyH _ _ _ _ _ _ _ (Act.put _ (some 78) _) _
                try simp only [Act.put, List.setIfInBounds_toArray, List.set_cons_zero, List.set_cons_succ]
                refine wpAnyH_take (i := 23) rfl (by kernel_rfl) (by kernel_rfl) (by kernel_rfl) (fun _ _ _ h => h) (Or.inr ⟨by kernel_rfl, rfl⟩) (by assumption) ?_
                change wpAnyH _ _ _ _ _ _ _ (Act.put _ (some 79) _) _
                try simp only [Act.put, List.setIfInBounds_toArray, List.set_cons_zero, List.set_cons_succ]
                refine wpAnyH_take (i := 24) rfl (by kernel_rfl) (by kernel_rfl) (by kernel_rfl) (fun _ _ _ h => h) (Or.inr ⟨by kernel_rfl, rfl⟩) (by assumption) ?_
                change wpAnyH _ _ _ _ _ _ _ (Act.put _ (some 80) _) _
                try simp only [Act.put, List.setIfInBounds_toArray, List.set_cons_zero, List.set_cons_succ]
                refine wpAnyH_take (i := 25) rfl (by kernel_rfl) (by kernel_rfl) (by kernel_rfl) (fun _ _ _ h => h) (Or.inr ⟨by kernel_rfl, rfl⟩) (by assumption) ?_
                change wpAnyH _ _ _ _ _ _ _ (Act.put _ (some 81) _) _
                try simp only [Act.put, List.setIfInBounds_toArray, List.set_cons_zero, List.set_cons_succ]
                refine wpAnyH_take (i := 26) rfl (by kernel_rfl) (by kernel_rfl) (by kernel_rfl) (fun _ _ _ h => h) (Or.inr ⟨by kernel_rfl, rfl⟩) (by assumption) ?_
                change wpAnyH _ _ _ _ _ _ _ (Act.put _ (some 82) _) _
                try simp only [Act.put, List.setIfInBounds_toArray, List.set_cons_zero, List.set_cons_succ]
                refine wpAnyH_take (i := 27) rfl (by kernel_rfl) (by kernel_rfl) (by kernel_rfl) (fun _ _ _ h => h) (Or.inr ⟨by kernel_rfl, rfl⟩) (by assumption) ?_
                change wpAnyH _ _ _ _ _ _ _ (Act.put _ (some 83) _) _
                try simp only [Act.put, List.setIfInBounds_toArray, List.set_cons_zero, List.set_cons_succ]
                refine wpAnyH_take (i := 28) (v := ?_) rfl (by kernel_rfl) (by kernel_rfl) (by kernel_rfl) (fun _ _ _ h => h) (Or.inl ⟨by rfl, ?_⟩) (by assumption) ?_
                rotate_left
                · intro w hSw
                  try dsimp only at hSw
                  first | (go_simp; done) | (go_simp; with_reducible rfl)
                change wpAnyH _ _ _ _ _ _ _ (Act.put _ (some 84) _) _
                try simp only [Act.put, List.setIfInBounds_toArray, List.set_cons_zero, List.set_cons_succ]
                refine wpAnyH_take (i := 29) (v := ?_) rfl (by kernel_rfl) (by kernel_rfl) (by kernel_rfl) (fun _ _ _ h => h) (Or.inl ⟨by rfl, ?_⟩) (by assumption) ?_
                rotate_left
                · intro w hSw
                  try dsimp only at hSw
                  first | (go_simp; done) | (go_simp; with_reducible rfl)
                change wpAnyH _ _ _ _ _ _ _ (Act.put _ (some 85) _) _
                try simp only [Act.put, List.setIfInBounds_toArray, List.set_cons_zero, List.set_cons_succ]
                refine wpAnyH_ready (rs := [30]) (by kernel_rfl) (by simp) ?_
                refine AllReadyH.cons rfl (fun K hK => ?_) AllReadyH.nil
                go_simp
                go_at_call 12
                refine (HW.out _ (BU.out.trans (Below.mono (B := u.heap.size) (last9L (by assumption)) BU.out.size))).mono ?_
                rintro e y6 ⟨rfl, hb6⟩
                have hy6 : Below u.heap.size u y6 := Below.trans (last9L (by assumption)) (hb6.mono (Below.size (B := u.heap.size) (w := u) (last9L (by assumption))))
                clear hb6
                go_wp2_with fail
                refine hK.out _ _ ?_ (fun hHeld => ?_)
                · try dsimp only
                  exact HK8.out _ hy6
                clear hK K
                try simp only [Act.put, List.setIfInBounds_toArray, List.set_cons_zero, List.set_cons_succ]
                refine wpAnyH_take (i := 31) (v := ?_) rfl (by kernel_rfl) (by kernel_rfl) (by kernel_rfl) (fun _ _ _ h => h) (Or.inl ⟨by rfl, ?_⟩) (by assumption) ?_
                rotate_left
                · intro w hSw
                  try dsimp only at hSw
                  first | (go_simp; done) | (go_simp; with_reducible rfl)
                change wpAnyH _ _ _ _ _ _ _ (Act.put _ (some 87) _) _
                try simp only [Act.put, List.setIfInBounds_toArray, List.set_cons_zero, List.set_cons_succ]
                refine wpAnyH_take (i := 32) (v := ?_) rfl (by kernel_rfl) (by kernel_rfl) (by kernel_rfl) (fun _ _ _ h => h) (Or.inl ⟨by rfl, ?_⟩) (by assumption) ?_
                rotate_left
                · intro w hSw
                  try dsimp only at hSw
                  first | (go_simp; done) | (go_simp; with_reducible rfl)
                change wpAnyH _ _ _ _ _ _ _ (Act.put _ (some 6) _) _
                try simp only [Act.put, List.setIfInBounds_toArray, List.set_cons_zero, List.set_cons_succ]
                refine wpAnyH_done (by kernel_rfl) ?_ _
                all_goals
                  have BZ := Lib.hid (BU.out.trans (hy6.mono BU.out.size))
                  go_wp2
                  go_ret
                  exact ⟨rfl, BZ.out⟩
              | true =>
                obtain ⟨hA, hB, hS, hLs⟩ := HL2.out rfl
                rw [hA] at EAF
                rw [hB] at EBF
                rw [hS] at HSUB
                clear hA hB hS hLs
                go_wp2_with fail
                refine (EAC.out V BV.out).mono ?_
                rintro e u1 ⟨rfl, hu1⟩
                have HU1 := Lib.hid hu1
                have BU1 := Lib.hid (BV.out.trans (hu1.mono BV.out.size))
                clear hu1 k0 k1 k2 k3 o0 o1 x0 x1
                have Q0 := E0.out.later HU1.out
                have Q1 := E1.out.later HU1.out
                have Q2 := E2.out.later HU1.out
                have Q4 := E4.out.later HU1.out
                have k0 : u1.cell? ⟨w.heap.size, 0, none⟩ = some (.int .i64 n) := Q0.cell 0
                have k1 : u1.cell? ⟨w.heap.size, 1, none⟩ = some (.slice aa a.length ca) := Q0.cell 1
                have k2 : u1.cell? ⟨w.heap.size + 1, 0, none⟩ = some (.int .i64 n) := Q1.cell 0
                have k3 : u1.cell? ⟨w.heap.size + 1, 1, none⟩ = some (.slice ab b.length cb) := Q1.cell 1
                have o0 : u1.cell? ⟨w.heap.size + 1 + 1, 0, none⟩ = some (.int .u64 (C.a : Int)) := Q2.cell 0
                have o1 : u1.cell? ⟨w.heap.size + 1 + 1, 1, none⟩ = some (.int .u64 (C.b : Int)) := Q2.cell 1
                have x0 : u1.cell? ⟨xb, 0, none⟩ = some (.int .u64 (F.a : Int)) := Q4.cell 0
                have x1 : u1.cell? ⟨xb, 1, none⟩ = some (.int .u64 (F.b : Int)) := Q4.cell 1
                clear Q0 Q1 Q2 Q4
                go_wp2_with fail
                refine (EBC.out u1 BU1.out).mono ?_
                rintro e u ⟨rfl, hu2⟩
                have HU := Lib.hid (HU1.out.trans (hu2.mono HU1.out.size))
                have BU := Lib.hid (BU1.out.trans (hu2.mono BU1.out.size))
                clear hu2 k0 k1 k2 k3 o0 o1 x0 x1
                have Q0 := E0.out.later HU.out
                have Q1 := E1.out.later HU.out
                have Q2 := E2.out.later HU.out
                have Q4 := E4.out.later HU.out
                have k0 : u.cell? ⟨w.heap.size, 0, none⟩ = some (.int .i64 n) := Q0.cell 0
                have k1 : u.cell? ⟨w.heap.size, 1, none⟩ = some (.slice aa a.length ca) := Q0.cell 1
                have k2 : u.cell? ⟨w.heap.size + 1, 0, none⟩ = some (.int .i64 n) := Q1.cell 0
                have k3 : u.cell? ⟨w.heap.size + 1, 1, none⟩ = some (.slice ab b.length cb) := Q1.cell 1
                have o0 : u.cell? ⟨w.heap.size + 1 + 1, 0, none⟩ = some (.int .u64 (C.a : Int)) := Q2.cell 0
                have o1 : u.cell? ⟨w.heap.size + 1 + 1, 1, none⟩ = some (.int .u64 (C.b : Int)) := Q2.cell 1
                have x0 : u.cell? ⟨xb, 0, none⟩ = some (.int .u64 (F.a : Int)) := Q4.cell 0
                have x1 : u.cell? ⟨xb, 1, none⟩ = some (.int .u64 (F.b : Int)) := Q4.cell 1
                clear Q0 Q1 Q2 Q4
                have HK8 : Hid (∀ w' : World, Below u.heap.size u w' → w'.cell? ⟨w.heap.size, 0, none⟩ = some (.int .i64 n) ∧ w'.cell? ⟨w.heap.size, 1, none⟩ = some (.slice aa a.length ca) ∧ w'.cell? ⟨w.heap.size + 1, 0, none⟩ = some (.int .i64 n) ∧ w'.cell? ⟨w.heap.size + 1, 1, none⟩ = some (.slice ab b.length cb) ∧ w'.cell? ⟨w.heap.size + 1 + 1, 0, none⟩ = some (.int .u64 (C.a : Int)) ∧ w'.cell? ⟨w.heap.size + 1 + 1, 1, none⟩ = some (.int .u64 (C.b : Int)) ∧ w'.cell? ⟨xb, 0, none⟩ = some (.int .u64 (F.a : Int)) ∧ w'.cell? ⟨xb, 1, none⟩ = some (.int .u64 (F.b : Int)) ∧ Below u.heap.size u w') := Lib.hid fun w' hb => ⟨cell_keep hb k0, cell_keep hb k1, cell_keep hb k2, cell_keep hb k3, cell_keep hb o0, cell_keep hb o1, cell_keep hb x0, cell_keep hb x1, hb⟩
                go_wp2_with fail
                refine wp_region_held_drew (S := (fun w' => w'.cell? ⟨w.heap.size, 0, none⟩ = some (.int .i64 n) ∧ w'.cell? ⟨w.heap.size, 1, none⟩ = some (.slice aa a.length ca) ∧ w'.cell? ⟨w.heap.size + 1, 0, none⟩ = some (.int .i64 n) ∧ w'.cell? ⟨w.heap.size + 1, 1, none⟩ = some (.slice ab b.length cb) ∧ w'.cell? ⟨w.heap.size + 1 + 1, 0, none⟩ = some (.int .u64 (C.a : Int)) ∧ w'.cell? ⟨w.heap.size + 1 + 1, 1, none⟩ = some (.int .u64 (C.b : Int)) ∧ w'.cell? ⟨xb, 0, none⟩ = some (.int .u64 (F.a : Int)) ∧ w'.cell? ⟨xb, 1, none⟩ = some (.int .u64 (F.b : Int)) ∧ Below u.heap.size u w')) (by kernel_rfl) ?_ (fun hHeld => ?_)
                · try dsimp only
                  exact HK8.out _ (Below.refl _ _).drew
                refine wpAnyH_take (i := 0) (v := ?_) rfl (by kernel_rfl) (by kernel_rfl) (by kernel_rfl) (fun _ _ _ h => h) (Or.inl ⟨by rfl, ?_⟩) (by assumption) ?_
                rotate_left
                · intro w hSw
                  try dsimp only at hSw
                  first | (go_simp; done) | (go_simp; with_reducible rfl)
                change wpAnyH _ _ _ _ _ _ _ (Act.put _ (some 56) _) _
                try simp only [Act.put, List.setIfInBounds_toArray, List.set_cons_zero, List.set_cons_succ]
                refine wpAnyH_take (i := 1) (v := ?_) rfl (by kernel_rfl) (by kernel_rfl) (by kernel_rfl) (fun _ _ _ h => h) (Or.inl ⟨by rfl, ?_⟩) (by assumption) ?_
                rotate_left
                · intro w hSw
                  try dsimp only at hSw
                  first | (go_simp; done) | (go_simp; with_reducible rfl)
                change wpAnyH _ _ _ _ _ _ _ (Act.put _ (some 57) _) _
                try simp only [Act.put, List.setIfInBounds_toArray, List.set_cons_zero, List.set_cons_succ]
                refine wpAnyH_take (i := 2) (v := ?_) rfl (by kernel_rfl) (by kernel_rfl) (by kernel_rfl) (fun _ _ _ h => h) (Or.inl ⟨by rfl, ?_⟩) (by assumption) ?_
                rotate_left
                · intro w hSw
                  try dsimp only at hSw
                  first | (go_simp; done) | (go_simp; with_reducible rfl)
                change wpAnyH _ _ _ _ _ _ _ (Act.put _ (some 58) _) _
                try simp only [Act.put, List.setIfInBounds_toArray, List.set_cons_zero, List.set_cons_succ]
                refine wpAnyH_take (i := 3) (v := ?_) rfl (by kernel_rfl) (by kernel_rfl) (by kernel_rfl) (fun _ _ _ h => h) (Or.inl ⟨by rfl, ?_⟩) (by assumption) ?_
                rotate_left
                · intro w hSw
                  try dsimp only at hSw
                  first | (go_simp; done) | (go_simp; with_reducible rfl)
                change wpAnyH _ _ _ _ _ _ _ (Act.put _ (some 59) _) _
                try simp only [Act.put, List.setIfInBounds_toArray, List.set_cons_zero, List.set_cons_succ]
                refine wpAnyH_take (i := 4) (v := ?_) rfl (by kernel_rfl) (by kernel_rfl) (by kernel_rfl) (fun _ _ _ h => h) (Or.inl ⟨by rfl, ?_⟩) (by assumption) ?_
                rotate_left
                · intro w hSw
                  try dsimp only at hSw
                  first | (go_simp; done) | (go_simp; with_reducible rfl)
                change wpAnyH _ _ _ _ _ _ _ (Act.put _ (some 60) _) _
                try simp only [Act.put, List.setIfInBounds_toArray, List.set_cons_zero, List.set_cons_succ]
                refine wpAnyH_ready (rs := [5]) (by kernel_rfl) (by simp) ?_
                refine AllReadyH.cons rfl (fun K hK => ?_) AllReadyH.nil
                go_simp
                go_at_call 29
                refine (EAF.out _ (BU.out.trans (Below.mono (B := u.heap.size) (last9L (by assumption)) BU.out.size))).mono ?_
                rintro e y1 ⟨rfl, hb1⟩
                have hy1 : Below u.heap.size u y1 := Below.trans (last9L (by assumption)) (hb1.mono (Below.size (B := u.heap.size) (w := u) (last9L (by assumption))))
                clear hb1
                go_wp2_with fail
                refine hK.out _ _ ?_ (fun hHeld => ?_)
                · try dsimp only
                  exact HK8.out _ hy1
                clear hK K
                try simp only [Act.put, List.setIfInBounds_toArray, List.set_cons_zero, List.set_cons_succ]
                refine wpAnyH_take (i := 6) (v := ?_) rfl (by kernel_rfl) (by kernel_rfl) (by kernel_rfl) (fun _ _ _ h => h) (Or.inl ⟨by rfl, ?_⟩) (by assumption) ?_
                rotate_left
                · intro w hSw
                  try dsimp only at hSw
                  first | (go_simp; done) | (go_simp; with_reducible rfl)
                change wpAnyH _ _ _ _ _ _ _ (Act.put _ (some 62) _) _
                try simp only [Act.put, List.setIfInBounds_toArray, List.set_cons_zero, List.set_cons_succ]
                refine wpAnyH_take (i := 7) (v := ?_) rfl (by kernel_rfl) (by kernel_rfl) (by kernel_rfl) (fun _ _ _ h => h) (Or.inl ⟨by rfl, ?_⟩) (by assumption) ?_
                rotate_left
                · intro w hSw
                  try dsimp only at hSw
                  first | (go_simp; done) | (go_simp; with_reducible rfl)
                change wpAnyH _ _ _ _ _ _ _ (Act.put _ (some 63) _) _
                try simp only [Act.put, List.setIfInBounds_toArray, List.set_cons_zero, List.set_cons_succ]
                refine wpAnyH_take (i := 8) (v := ?_) rfl (by kernel_rfl) (by kernel_rfl) (by kernel_rfl) (fun _ _ _ h => h) (Or.inl ⟨by rfl, ?_⟩) (by assumption) ?_
                rotate_left
                · intro w hSw
                  try dsimp only at hSw
                  first | (go_simp; done) | (go_simp; with_reducible rfl)
                change wpAnyH _ _ _ _ _ _ _ (Act.put _ (some 64) _) _
                try simp only [Act.put, List.setIfInBounds_toArray, List.set_cons_zero, List.set_cons_succ]
                refine wpAnyH_ready (rs := [9]) (by kernel_rfl) (by simp) ?_
                refine AllReadyH.cons rfl (fun K hK => ?_) AllReadyH.nil
                go_simp
                go_at_call 29
                refine (EBF.out _ (BU.out.trans (Below.mono (B := u.heap.size) (last9L (by assumption)) BU.out.size))).mono ?_
                rintro e y2 ⟨rfl, hb2⟩
                have hy2 : Below u.heap.size u y2 := Below.trans (last9L (by assumption)) (hb2.mono (Below.size (B := u.heap.size) (w := u) (last9L (by assumption))))
                clear hb2
                go_wp2_with fail
                refine hK.out _ _ ?_ (fun hHeld => ?_)
                · try dsimp only
                  exact HK8.out _ hy2
                clear hK K
                try simp only [Act.put, List.setIfInBounds_toArray, List.set_cons_zero, List.set_cons_succ]
                refine wpAnyH_take (i := 10) (v := ?_) rfl (by kernel_rfl) (by kernel_rfl) (by kernel_rfl) (fun _ _ _ h => h) (Or.inl ⟨by rfl, ?_⟩) (by assumption) ?_
                rotate_left
                · intro w hSw
                  try dsimp only at hSw
                  first | (go_simp; done) | (go_simp; with_reducible rfl)
                change wpAnyH _ _ _ _ _ _ _ (Act.put _ (some 66) _) _
                try simp only [Act.put, List.setIfInBounds_toArray, List.set_cons_zero, List.set_cons_succ]
                refine wpAnyH_take (i := 11) (v := ?_) rfl (by kernel_rfl) (by kernel_rfl) (by kernel_rfl) (fun _ _ _ h => h) (Or.inl ⟨by rfl, ?_⟩) (by assumption) ?_
                rotate_left
                · intro w hSw
                  try dsimp only at hSw
                  first | (go_simp; done) | (go_simp; with_reducible rfl)
                change wpAnyH _ _ _ _ _ _ _ (Act.put _ (some 67) _) _
                try simp only [Act.put, List.setIfInBounds_toArray, List.set_cons_zero, List.set_cons_succ]
                refine wpAnyH_take (i := 12) (v := ?_) rfl (by kernel_rfl) (by kernel_rfl) (by kernel_rfl) (fun _ _ _ h => h) (Or.inl ⟨by rfl, ?_⟩) (by assumption) ?_
                rotate_left
                · intro w hSw
                  try dsimp only at hSw
                  first | (go_simp; done) | (go_simp; with_reducible rfl)
                change wpAnyH _ _ _ _ _ _ _ (Act.put _ (some 68) _) _
                try simp only [Act.put, List.setIfInBounds_toArray, List.set_cons_zero, List.set_cons_succ]
                refine wpAnyH_take (i := 13) (v := ?_) rfl (by kernel_rfl) (by kernel_rfl) (by kernel_rfl) (fun _ _ _ h => h) (Or.inl ⟨by rfl, ?_⟩) (by assumption) ?_
                rotate_left
                · intro w hSw
                  try dsimp only at hSw
                  first | (go_simp; done) | (go_simp; with_reducible rfl)
                change wpAnyH _ _ _ _ _ _ _ (Act.put _ (some 69) _) _
                try simp only [Act.put, List.setIfInBounds_toArray, List.set_cons_zero, List.set_cons_succ]
                refine wpAnyH_take (i := 14) (v := ?_) rfl (by kernel_rfl) (by kernel_rfl) (by kernel_rfl) (fun _ _ _ h => h) (Or.inl ⟨by rfl, ?_⟩) (by assumption) ?_
                rotate_left
                · intro w hSw
                  try dsimp only at hSw
                  first | (go_simp; done) | (go_simp; with_reducible rfl)
                change wpAnyH _ _ _ _ _ _ _ (Act.put _ (some 70) _) _
                try simp only [Act.put, List.setIfInBounds_toArray, List.set_cons_zero, List.set_cons_succ]
                refine wpAnyH_take (i := 15) (v := ?_) rfl (by kernel_rfl) (by kernel_rfl) (by kernel_rfl) (fun _ _ _ h => h) (Or.inl ⟨by rfl, ?_⟩) (by assumption) ?_
                rotate_left
                · intro w hSw
                  try dsimp only at hSw
                  first | (go_simp; done) | (go_simp; with_reducible rfl)
                change wpAnyH _ _ _ _ _ _ _ (Act.put _ (some 71) _) _
                try simp only [Act.put, List.setIfInBounds_toArray, List.set_cons_zero, List.set_cons_succ]
                refine wpAnyH_ready (rs := [16]) (by kernel_rfl) (by simp) ?_
                refine AllReadyH.cons rfl (fun K hK => ?_) AllReadyH.nil
                go_simp
                go_at_call 31
                refine (HALL.out _).mono ?_
                rintro e y3 ⟨rfl, hb3⟩
                have hy3 : Below u.heap.size u y3 := Below.trans (last9L (by assumption)) (hb3.mono (Below.size (B := u.heap.size) (w := u) (last9L (by assumption))))
                clear hb3
                go_wp2_with fail
                refine hK.out _ _ ?_ (fun hHeld => ?_)
                · try dsimp only
                  exact HK8.out _ hy3
                clear hK K
                try simp only [Act.put, List.setIfInBounds_toArray, List.set_cons_zero, List.set_cons_succ]
                refine wpAnyH_ready (rs := [17]) (by kernel_rfl) (by simp) ?_
                refine AllReadyH.cons rfl (fun K hK => ?_) AllReadyH.nil
                go_simp
                go_at_call 30
                refine (HSUB.out _).mono ?_
                rintro e y4 ⟨rfl, hb4⟩
                have hy4 : Below u.heap.size u y4 := Below.trans (last9L (by assumption)) (hb4.mono (Below.size (B := u.heap.size) (w := u) (last9L (by assumption))))
                clear hb4
                go_wp2_with fail
                refine hK.out _ _ ?_ (fun hHeld => ?_)
                · try dsimp only
                  exact HK8.out _ hy4
                clear hK K
                try simp only [Act.put, List.setIfInBounds_toArray, List.set_cons_zero, List.set_cons_succ]
                refine wpAnyH_take (i := 18) (v := ?_) rfl (by kernel_rfl) (by kernel_rfl) (by kernel_rfl) (fun _ _ _ h => h) (Or.inl ⟨by rfl, ?_⟩) (by assumption) ?_
                rotate_left
                · intro w hSw
                  try dsimp only at hSw
                  first | (go_simp; done) | (go_simp; with_reducible rfl)
                change wpAnyH _ _ _ _ _ _ _ (Act.put _ (some 74) _) _
                try simp only [Act.put, List.setIfInBounds_toArray, List.set_cons_zero, List.set_cons_succ]
                refine wpAnyH_take (i := 19) (v := ?_) rfl (by kernel_rfl) (by kernel_rfl) (by kernel_rfl) (fun _ _ _ h => h) (Or.inl ⟨by rfl, ?_⟩) (by assumption) ?_
                rotate_left
                · intro w hSw
                  try dsimp only at hSw
                  first | (go_simp; done) | (go_simp; with_reducible rfl)
                change wpAnyH _ _ _ _ _ _ _ (Act.put _ (some 75) _) _
                try simp only [Act.put, List.setIfInBounds_toArray, List.set_cons_zero, List.set_cons_succ]
                refine wpAnyH_take (i := 20) (v := ?_) rfl (by kernel_rfl) (by kernel_rfl) (by kernel_rfl) (fun _ _ _ h => h) (Or.inl ⟨by rfl, ?_⟩) (by assumption) ?_
                rotate_left
                · intro w hSw
                  try dsimp only at hSw
                  first | (go_simp; done) | (go_simp; with_reducible rfl)
                change wpAnyH _ _ _ _ _ _ _ (Act.put _ (some 76) _) _
                try simp only [Act.put, List.setIfInBounds_toArray, List.set_cons_zero, List.set_cons_succ]
                refine wpAnyH_take (i := 21) (v := ?_) rfl (by kernel_rfl) (by kernel_rfl) (by kernel_rfl) (fun _ _ _ h => h) (Or.inl ⟨by rfl, ?_⟩) (by assumption) ?_
                rotate_left
                · intro w hSw
                  try dsimp only at hSw
                  first | (go_simp; done) | (go_simp; with_reducible rfl)
                change wpAnyH _ _ _ _ _ _ _ (Act.put _ (some 77) _) _
                try simp only [Act.put, List.setIfInBounds_toArray, List.set_cons_zero, List.set_cons_succ]
                refine wpAnyH_take (i := 22) rfl (by kernel_rfl) (by kernel_rfl) (by kernel_rfl) (fun _ _ _ h => h) (Or.inr ⟨by kernel_rfl, rfl⟩) (by assumption) ?_
                change wpAnyH _ _ _ _ _ _ _ (Act.put _ (some 78) _) _
                try simp only [Act.put, List.setIfInBounds_toArray, List.set_cons_zero, List.set_cons_succ]
                refine wpAnyH_take (i := 23) rfl (by kernel_rfl) (by kernel_rfl) (by kernel_rfl) (fun _ _ _ h => h) (Or.inr ⟨by kernel_rfl, rfl⟩) (by assumption) ?_
                change wpAnyH _ _ _ _ _ _ _ (Act.put _ (some 79) _) _
                try simp only [Act.put, List.setIfInBounds_toArray, List.set_cons_zero, List.set_cons_succ]
                refine wpAnyH_take (i := 24) rfl (by kernel_rfl) (by kernel_rfl) (by kernel_rfl) (fun _ _ _ h => h) (Or.inr ⟨by kernel_rfl, rfl⟩) (by assumption) ?_
                change wpAnyH _ _ _ _ _ _ _ (Act.put _ (some 80) _) _
                try simp only [Act.put, List.setIfInBounds_toArray, List.set_cons_zero, List.set_cons_succ]
                refine wpAnyH_take (i := 25) (v := ?_) rfl (by kernel_rfl) (by kernel_rfl) (by kernel_rfl) (fun _ _ _ h => h) (Or.inl ⟨by rfl, ?_⟩) (by assumption) ?_
                rotate_left
                · intro w hSw
                  try dsimp only at hSw
                  first | (go_simp; done) | (go_simp; with_reducible rfl)
                change wpAnyH _ _ _ _ _ _ _ (Act.put _ (some 81) _) _
                try simp only [Act.put, List.setIfInBounds_toArray, List.set_cons_zero, List.set_cons_succ]
                refine wpAnyH_take (i := 26) (v := ?_) rfl (by kernel_rfl) (by kernel_rfl) (by kernel_rfl) (fun _ _ _ h => h) (Or.inl ⟨by rfl, ?_⟩) (by assumption) ?_
                rotate_left
                · intro w hSw
                  try dsimp only at hSw
                  first | (go_simp; done) | (go_simp; with_reducible rfl)
                change wpAnyH _ _ _ _ _ _ _ (Act.put _ (some 82) _) _
                try simp only [Act.put, List.setIfInBounds_toArray, List.set_cons_zero, List.set_cons_succ]
                refine wpAnyH_take (i := 27) (v := ?_) rfl (by kernel_rfl) (by kernel_rfl) (by kernel_rfl) (fun _ _ _ h => h) (Or.inl ⟨by rfl, ?_⟩) (by assumption) ?_
                rotate_left
                · intro w hSw
                  try dsimp only at hSw
                  first | (go_simp; done) | (go_simp; with_reducible rfl)
                change wpAnyH _ _ _ _ _ _ _ (Act.put _ (some 83) _) _
                try simp only [Act.put, List.setIfInBounds_toArray, List.set_cons_zero, List.set_cons_succ]
                refine wpAnyH_take (i := 28) (v := ?_) rfl (by kernel_rfl) (by kernel_rfl) (by kernel_rfl) (fun _ _ _ h => h) (Or.inl ⟨by rfl, ?_⟩) (by assumption) ?_
                rotate_left
                · intro w hSw
                  try dsimp only at hSw
                  first | (go_simp; done) | (go_simp; with_reducible rfl)
                change wpAnyH _ _ _ _ _ _ _ (Act.put _ (some 84) _) _
                try simp only [Act.put, List.setIfInBounds_toArray, List.set_cons_zero, List.set_cons_succ]
                refine wpAnyH_take (i := 29) (v := ?_) rfl (by kernel_rfl) (by kernel_rfl) (by kernel_rfl) (fun _ _ _ h => h) (Or.inl ⟨by rfl, ?_⟩) (by assumption) ?_
                rotate_left
                · intro w hSw
                  try dsimp only at hSw
                  first | (go_simp; done) | (go_simp; with_reducible rfl)
                change wpAnyH _ _ _ _ _ _ _ (Act.put _ (some 85) _) _
                try simp only [Act.put, List.setIfInBounds_toArray, List.set_cons_zero, List.set_cons_succ]
                refine wpAnyH_ready (rs := [30]) (by kernel_rfl) (by simp) ?_
                refine AllReadyH.cons rfl (fun K hK => ?_) AllReadyH.nil
                go_simp
                go_at_call 12
                refine (HW.out _ (BU.out.trans (Below.mono (B := u.heap.size) (last9L (by assumption)) BU.out.size))).mono ?_
                rintro e y6 ⟨rfl, hb6⟩
                have hy6 : Below u.heap.size u y6 := Below.trans (last9L (by assumption)) (hb6.mono (Below.size (B := u.heap.size) (w := u) (last9L (by assumption))))
                clear hb6
                go_wp2_with fail
                refine hK.out _ _ ?_ (fun hHeld => ?_)
                · try dsimp only
                  exact HK8.out _ hy6
                clear hK K
                try simp only [Act.put, List.setIfInBounds_toArray, List.set_cons_zero, List.set_cons_succ]
                refine wpAnyH_take (i := 31) (v := ?_) rfl (by kernel_rfl) (by kernel_rfl) (by kernel_rfl) (fun _ _ _ h => h) (Or.inl ⟨by rfl, ?_⟩) (by assumption) ?_
                rotate_left
                · intro w hSw
                  try dsimp only at hSw
                  first | (go_simp; done) | (go_simp; with_reducible rfl)
                change wpAnyH _ _ _ _ _ _ _ (Act.put _ (some 87) _) _
                try simp only [Act.put, List.setIfInBounds_toArray, List.set_cons_zero, List.set_cons_succ]
                refine wpAnyH_take (i := 32) (v := ?_) rfl (by kernel_rfl) (by kernel_rfl) (by kernel_rfl) (fun _ _ _ h => h) (Or.inl ⟨by rfl, ?_⟩) (by assumption) ?_
                rotate_left
                · intro w hSw
                  try dsimp only at hSw
                  first | (go_simp; done) | (go_simp; with_reducible rfl)
                change wpAnyH _ _ _ _ _ _ _ (Act.put _ (some 6) _) _
                try simp only [Act.put, List.setIfInBounds_toArray, List.set_cons_zero, List.set_cons_succ]
                refine wpAnyH_done (by kernel_rfl) ?_ _
                all_goals
                  have BZ := Lib.hid (BU.out.trans (hy6.mono BU.out.size))
                  go_wp2
                  go_ret
                  exact ⟨rfl, BZ.out⟩
            | false =>
              have hs0 : is = true := by rw [HIE]; rfl
              subst hs0
              clear HIE HIS
              cases ok with
              | false =>
                exact absurd (HL1.out rfl) (by simp)
              | true =>
                obtain ⟨hA, hB, hS, hLs⟩ := HL2.out rfl
                rw [hA] at EAF
                rw [hB] at EBF
                rw [hS] at HSUB
                rw [hLs rfl] at HLESS
                clear hA hB hS hLs
                go_wp2_with fail
                refine (EAC.out V BV.out).mono ?_
                rintro e u1 ⟨rfl, hu1⟩
                have HU1 := Lib.hid hu1
                have BU1 := Lib.hid (BV.out.trans (hu1.mono BV.out.size))
                clear hu1 k0 k1 k2 k3 o0 o1 x0 x1
                have Q0 := E0.out.later HU1.out
                have Q1 := E1.out.later HU1.out
                have Q2 := E2.out.later HU1.out
                have Q4 := E4.out.later HU1.out
                have k0 : u1.cell? ⟨w.heap.size, 0, none⟩ = some (.int .i64 n) := Q0.cell 0
                have k1 : u1.cell? ⟨w.heap.size, 1, none⟩ = some (.slice aa a.length ca) := Q0.cell 1
                have k2 : u1.cell? ⟨w.heap.size + 1, 0, none⟩ = some (.int .i64 n) := Q1.cell 0
                have k3 : u1.cell? ⟨w.heap.size + 1, 1, none⟩ = some (.slice ab b.length cb) := Q1.cell 1
                have o0 : u1.cell? ⟨w.heap.size + 1 + 1, 0, none⟩ = some (.int .u64 (C.a : Int)) := Q2.cell 0
                have o1 : u1.cell? ⟨w.heap.size + 1 + 1, 1, none⟩ = some (.int .u64 (C.b : Int)) := Q2.cell 1
                have x0 : u1.cell? ⟨xb, 0, none⟩ = some (.int .u64 (F.a : Int)) := Q4.cell 0
                have x1 : u1.cell? ⟨xb, 1, none⟩ = some (.int .u64 (F.b : Int)) := Q4.cell 1
                clear Q0 Q1 Q2 Q4
                go_wp2_with fail
                refine (EBC.out u1 BU1.out).mono ?_
                rintro e u ⟨rfl, hu2⟩
                have HU := Lib.hid (HU1.out.trans (hu2.mono HU1.out.size))
                have BU := Lib.hid (BU1.out.trans (hu2.mono BU1.out.size))
                clear hu2 k0 k1 k2 k3 o0 o1 x0 x1
                have Q0 := E0.out.later HU.out
                have Q1 := E1.out.later HU.out
                have Q2 := E2.out.later HU.out
                have Q4 := E4.out.later HU.out
                have k0 : u.cell? ⟨w.heap.size, 0, none⟩ = some (.int .i64 n) := Q0.cell 0
                have k1 : u.cell? ⟨w.heap.size, 1, none⟩ = some (.slice aa a.length ca) := Q0.cell 1
                have k2 : u.cell? ⟨w.heap.size + 1, 0, none⟩ = some (.int .i64 n) := Q1.cell 0
                have k3 : u.cell? ⟨w.heap.size + 1, 1, none⟩ = some (.slice ab b.length cb) := Q1.cell 1
                have o0 : u.cell? ⟨w.heap.size + 1 + 1, 0, none⟩ = some (.int .u64 (C.a : Int)) := Q2.cell 0
                have o1 : u.cell? ⟨w.heap.size + 1 + 1, 1, none⟩ = some (.int .u64 (C.b : Int)) := Q2.cell 1
                have x0 : u.cell? ⟨xb, 0, none⟩ = some (.int .u64 (F.a : Int)) := Q4.cell 0
                have x1 : u.cell? ⟨xb, 1, none⟩ = some (.int .u64 (F.b : Int)) := Q4.cell 1
                clear Q0 Q1 Q2 Q4
                have HK8 : Hid (∀ w' : World, Below u.heap.size u w' → w'.cell? ⟨w.heap.size, 0, none⟩ = some (.int .i64 n) ∧ w'.cell? ⟨w.heap.size, 1, none⟩ = some (.slice aa a.length ca) ∧ w'.cell? ⟨w.heap.size + 1, 0, none⟩ = some (.int .i64 n) ∧ w'.cell? ⟨w.heap.size + 1, 1, none⟩ = some (.slice ab b.length cb) ∧ w'.cell? ⟨w.heap.size + 1 + 1, 0, none⟩ = some (.int .u64 (C.a : Int)) ∧ w'.cell? ⟨w.heap.size + 1 + 1, 1, none⟩ = some (.int .u64 (C.b : Int)) ∧ w'.cell? ⟨xb, 0, none⟩ = some (.int .u64 (F.a : Int)) ∧ w'.cell? ⟨xb, 1, none⟩ = some (.int .u64 (F.b : Int)) ∧ Below u.heap.size u w') := Lib.hid fun w' hb => ⟨cell_keep hb k0, cell_keep hb k1, cell_keep hb k2, cell_keep hb k3, cell_keep hb o0, cell_keep hb o1, cell_keep hb x0, cell_keep hb x1, hb⟩
                go_wp2_with fail
                refine wp_region_held_drew (S := (fun w' => w'.cell? ⟨w.heap.size, 0, none⟩ = some (.int .i64 n) ∧ w'.cell? ⟨w.heap.size, 1, none⟩ = some (.slice aa a.length ca) ∧ w'.cell? ⟨w.heap.size + 1, 0, none⟩ = some (.int .i64 n) ∧ w'.cell? ⟨w.heap.size + 1, 1, none⟩ = some (.slice ab b.length cb) ∧ w'.cell? ⟨w.heap.size + 1 + 1, 0, none⟩ = some (.int .u64 (C.a : Int)) ∧ w'.cell? ⟨w.heap.size + 1 + 1, 1, none⟩ = some (.int .u64 (C.b : Int)) ∧ w'.cell? ⟨xb, 0, none⟩ = some (.int .u64 (F.a : Int)) ∧ w'.cell? ⟨xb, 1, none⟩ = some (.int .u64 (F.b : Int)) ∧ Below u.heap.size u w')) (by kernel_rfl) ?_ (fun hHeld => ?_)
                · try dsimp only
                  exact HK8.out _ (Below.refl _ _).drew
                refine wpAnyH_take (i := 0) (v := ?_) rfl (by kernel_rfl) (by kernel_rfl) (by kernel_rfl) (fun _ _ _ h => h) (Or.inl ⟨by rfl, ?_⟩) (by assumption) ?_
                rotate_left
                · intro w hSw
                  try dsimp only at hSw
                  first | (go_simp; done) | (go_simp; with_reducible rfl)
                change wpAnyH _ _ _ _ _ _ _ (Act.put _ (some 56) _) _
                try simp only [Act.put, List.setIfInBounds_toArray, List.set_cons_zero, List.set_cons_succ]
                refine wpAnyH_take (i := 1) (v := ?_) rfl (by kernel_rfl) (by kernel_rfl) (by kernel_rfl) (fun _ _ _ h => h) (Or.inl ⟨by rfl, ?_⟩) (by assumption) ?_
                rotate_left
                · intro w hSw
                  try dsimp only at hSw
                  first | (go_simp; done) | (go_simp; with_reducible rfl)
                change wpAnyH _ _ _ _ _ _ _ (Act.put _ (some 57) _) _
                try simp only [Act.put, List.setIfInBounds_toArray, List.set_cons_zero, List.set_cons_succ]
                refine wpAnyH_take (i := 2) (v := ?_) rfl (by kernel_rfl) (by kernel_rfl) (by kernel_rfl) (fun _ _ _ h => h) (Or.inl ⟨by rfl, ?_⟩) (by assumption) ?_
                rotate_left
                · intro w hSw
                  try dsimp only at hSw
                  first | (go_simp; done) | (go_simp; with_reducible rfl)
                change wpAnyH _ _ _ _ _ _ _ (Act.put _ (some 58) _) _
                try simp only [Act.put, List.setIfInBounds_toArray, List.set_cons_zero, List.set_cons_succ]
                refine wpAnyH_take (i := 3) (v := ?_) rfl (by kernel_rfl) (by kernel_rfl) (by kernel_rfl) (fun _ _ _ h => h) (Or.inl ⟨by rfl, ?_⟩) (by assumption) ?_
                rotate_left
                · intro w hSw
                  try dsimp only at hSw
                  first | (go_simp; done) | (go_simp; with_reducible rfl)
                change wpAnyH _ _ _ _ _ _ _ (Act.put _ (some 59) _) _
                try simp only [Act.put, List.setIfInBounds_toArray, List.set_cons_zero, List.set_cons_succ]
                refine wpAnyH_take (i := 4) (v := ?_) rfl (by kernel_rfl) (by kernel_rfl) (by kernel_rfl) (fun _ _ _ h => h) (Or.inl ⟨by rfl, ?_⟩) (by assumption) ?_
                rotate_left
                · intro w hSw
                  try dsimp only at hSw
                  first | (go_simp; done) | (go_simp; with_reducible rfl)
                change wpAnyH _ _ _ _ _ _ _ (Act.put _ (some 60) _) _
                try simp only [Act.put, List.setIfInBounds_toArray, List.set_cons_zero, List.set_cons_succ]
                refine wpAnyH_ready (rs := [5]) (by kernel_rfl) (by simp) ?_
                refine AllReadyH.cons rfl (fun K hK => ?_) AllReadyH.nil
                go_simp
                go_at_call 29
                refine (EAF.out _ (BU.out.trans (Below.mono (B := u.heap.size) (last9L (by assumption)) BU.out.size))).mono ?_
                rintro e y1 ⟨rfl, hb1⟩
                have hy1 : Below u.heap.size u y1 := Below.trans (last9L (by assumption)) (hb1.mono (Below.size (B := u.heap.size) (w := u) (last9L (by assumption))))
                clear hb1
                go_wp2_with fail
                refine hK.out _ _ ?_ (fun hHeld => ?_)
                · try dsimp only
                  exact HK8.out _ hy1
                clear hK K
                try simp only [Act.put, List.setIfInBounds_toArray, List.set_cons_zero, List.set_cons_succ]
                refine wpAnyH_take (i := 6) (v := ?_) rfl (by kernel_rfl) (by kernel_rfl) (by kernel_rfl) (fun _ _ _ h => h) (Or.inl ⟨by rfl, ?_⟩) (by assumption) ?_
                rotate_left
                · intro w hSw
                  try dsimp only at hSw
                  first | (go_simp; done) | (go_simp; with_reducible rfl)
                change wpAnyH _ _ _ _ _ _ _ (Act.put _ (some 62) _) _
                try simp only [Act.put, List.setIfInBounds_toArray, List.set_cons_zero, List.set_cons_succ]
                refine wpAnyH_take (i := 7) (v := ?_) rfl (by kernel_rfl) (by kernel_rfl) (by kernel_rfl) (fun _ _ _ h => h) (Or.inl ⟨by rfl, ?_⟩) (by assumption) ?_
                rotate_left
                · intro w hSw
                  try dsimp only at hSw
                  first | (go_simp; done) | (go_simp; with_reducible rfl)
                change wpAnyH _ _ _ _ _ _ _ (Act.put _ (some 63) _) _
                try simp only [Act.put, List.setIfInBounds_toArray, List.set_cons_zero, List.set_cons_succ]
                refine wpAnyH_take (i := 8) (v := ?_) rfl (by kernel_rfl) (by kernel_rfl) (by kernel_rfl) (fun _ _ _ h => h) (Or.inl ⟨by rfl, ?_⟩) (by assumption) ?_
                rotate_left
                · intro w hSw
                  try dsimp only at hSw
                  first | (go_simp; done) | (go_simp; with_reducible rfl)
                change wpAnyH _ _ _ _ _ _ _ (Act.put _ (some 64) _) _
                try simp only [Act.put, List.setIfInBounds_toArray, List.set_cons_zero, List.set_cons_succ]
                refine wpAnyH_ready (rs := [9]) (by kernel_rfl) (by simp) ?_
                refine AllReadyH.cons rfl (fun K hK => ?_) AllReadyH.nil
                go_simp
                go_at_call 29
                refine (EBF.out _ (BU.out.trans (Below.mono (B := u.heap.size) (last9L (by assumption)) BU.out.size))).mono ?_
                rintro e y2 ⟨rfl, hb2⟩
                have hy2 : Below u.heap.size u y2 := Below.trans (last9L (by assumption)) (hb2.mono (Below.size (B := u.heap.size) (w := u) (last9L (by assumption))))
                clear hb2
                go_wp2_with fail
                refine hK.out _ _ ?_ (fun hHeld => ?_)
                · try dsimp only
                  exact HK8.out _ hy2
                clear hK K
                try simp only [Act.put, List.setIfInBounds_toArray, List.set_cons_zero, List.set_cons_succ]
                refine wpAnyH_take (i := 10) (v := ?_) rfl (by kernel_rfl) (by kernel_rfl) (by kernel_rfl) (fun _ _ _ h => h) (Or.inl ⟨by rfl, ?_⟩) (by assumption) ?_
                rotate_left
                · intro w hSw
                  try dsimp only at hSw
                  first | (go_simp; done) | (go_simp; with_reducible rfl)
                change wpAnyH _ _ _ _ _ _ _ (Act.put _ (some 66) _) _
                try simp only [Act.put, List.setIfInBounds_toArray, List.set_cons_zero, List.set_cons_succ]
                refine wpAnyH_take (i := 11) (v := ?_) rfl (by kernel_rfl) (by kernel_rfl) (by kernel_rfl) (fun _ _ _ h => h) (Or.inl ⟨by rfl, ?_⟩) (by assumption) ?_
                rotate_left
                · intro w hSw
                  try dsimp only at hSw
                  first | (go_simp; done) | (go_simp; with_reducible rfl)
                change wpAnyH _ _ _ _ _ _ _ (Act.put _ (some 67) _) _
                try simp only [Act.put, List.setIfInBounds_toArray, List.set_cons_zero, List.set_cons_succ]
                refine wpAnyH_take (i := 12) (v := ?_) rfl (by kernel_rfl) (by kernel_rfl) (by kernel_rfl) (fun _ _ _ h => h) (Or.inl ⟨by rfl, ?_⟩) (by assumption) ?_
                rotate_left
                · intro w hSw
                  try dsimp only at hSw
                  first | (go_simp; done) | (go_simp; with_reducible rfl)
                change wpAnyH _ _ _ _ _ _ _ (Act.put _ (some 68) _) _
                try simp only [Act.put, List.setIfInBounds_toArray, List.set_cons_zero, List.set_cons_succ]
                refine wpAnyH_take (i := 13) (v := ?_) rfl (by kernel_rfl) (by kernel_rfl) (by kernel_rfl) (fun _ _ _ h => h) (Or.inl ⟨by rfl, ?_⟩) (by assumption) ?_
                rotate_left
                · intro w hSw
                  try dsimp only at hSw
                  first | (go_simp; done) | (go_simp; with_reducible rfl)
                change wpAnyH _ _ _ _ _ _ _ (Act.put _ (some 69) _) _
                try simp only [Act.put, List.setIfInBounds_toArray, List.set_cons_zero, List.set_cons_succ]
                refine wpAnyH_take (i := 14) (v := ?_) rfl (by kernel_rfl) (by kernel_rfl) (by kernel_rfl) (fun _ _ _ h => h) (Or.inl ⟨by rfl, ?_⟩) (by assumption) ?_
                rotate_left
                · intro w hSw
                  try dsimp only at hSw
                  first | (go_simp; done) | (go_simp; with_reducible rfl)
                change wpAnyH _ _ _ _ _ _ _ (Act.put _ (some 70) _) _
                try simp only [Act.put, List.setIfInBounds_toArray, List.set_cons_zero, List.set_cons_succ]
                refine wpAnyH_take (i := 15) (v := ?_) rfl (by kernel_rfl) (by kernel_rfl) (by kernel_rfl) (fun _ _ _ h => h) (Or.inl ⟨by rfl, ?_⟩) (by assumption) ?_
                rotate_left
                · intro w hSw
                  try dsimp only at hSw
                  first | (go_simp; done) | (go_simp; with_reducible rfl)
                change wpAnyH _ _ _ _ _ _ _ (Act.put _ (some 71) _) _
                try simp only [Act.put, List.setIfInBounds_toArray, List.set_cons_zero, List.set_cons_succ]
                refine wpAnyH_ready (rs := [16]) (by kernel_rfl) (by simp) ?_
                refine AllReadyH.cons rfl (fun K hK => ?_) AllReadyH.nil
                go_simp
                go_at_call 31
                refine (HALL.out _).mono ?_
                rintro e y3 ⟨rfl, hb3⟩
                have hy3 : Below u.heap.size u y3 := Below.trans (last9L (by assumption)) (hb3.mono (Below.size (B := u.heap.size) (w := u) (last9L (by assumption))))
                clear hb3
                go_wp2_with fail
                refine hK.out _ _ ?_ (fun hHeld => ?_)
                · try dsimp only
                  exact HK8.out _ hy3
                clear hK K
                try simp only [Act.put, List.setIfInBounds_toArray, List.set_cons_zero, List.set_cons_succ]
                refine wpAnyH_ready (rs := [17]) (by kernel_rfl) (by simp) ?_
                refine AllReadyH.cons rfl (fun K hK => ?_) AllReadyH.nil
                go_simp
                go_at_call 30
                refine (HSUB.out _).mono ?_
                rintro e y4 ⟨rfl, hb4⟩
                have hy4 : Below u.heap.size u y4 := Below.trans (last9L (by assumption)) (hb4.mono (Below.size (B := u.heap.size) (w := u) (last9L (by assumption))))
                clear hb4
                go_wp2_with fail
                refine hK.out _ _ ?_ (fun hHeld => ?_)
                · try dsimp only
                  exact HK8.out _ hy4
                clear hK K
                try simp only [Act.put, List.setIfInBounds_toArray, List.set_cons_zero, List.set_cons_succ]
                refine wpAnyH_take (i := 18) (v := ?_) rfl (by kernel_rfl) (by kernel_rfl) (by kernel_rfl) (fun _ _ _ h => h) (Or.inl ⟨by rfl, ?_⟩) (by assumption) ?_
                rotate_left
                · intro w hSw
                  try dsimp only at hSw
                  first | (go_simp; done) | (go_simp; with_reducible rfl)
                change wpAnyH _ _ _ _ _ _ _ (Act.put _ (some 74) _) _
                try simp only [Act.put, List.setIfInBounds_toArray, List.set_cons_zero, List.set_cons_succ]
                refine wpAnyH_take (i := 19) (v := ?_) rfl (by kernel_rfl) (by kernel_rfl) (by kernel_rfl) (fun _ _ _ h => h) (Or.inl ⟨by rfl, ?_⟩) (by assumption) ?_
                rotate_left
                · intro w hSw
                  try dsimp only at hSw
                  first | (go_simp; done) | (go_simp; with_reducible rfl)
                change wpAnyH _ _ _ _ _ _ _ (Act.put _ (some 75) _) _
                try simp only [Act.put, List.setIfInBounds_toArray, List.set_cons_zero, List.set_cons_succ]
                refine wpAnyH_take (i := 20) (v := ?_) rfl (by kernel_rfl) (by kernel_rfl) (by kernel_rfl) (fun _ _ _ h => h) (Or.inl ⟨by rfl, ?_⟩) (by assumption) ?_
                rotate_left
                · intro w hSw
                  try dsimp only at hSw
                  first | (go_simp; done) | (go_simp; with_reducible rfl)
                change wpAnyH _ _ _ _ _ _ _ (Act.put _ (some 76) _) _
                try simp only [Act.put, List.setIfInBounds_toArray, List.set_cons_zero, List.set_cons_succ]
                refine wpAnyH_take (i := 21) (v := ?_) rfl (by kernel_rfl) (by kernel_rfl) (by kernel_rfl) (fun _ _ _ h => h) (Or.inl ⟨by rfl, ?_⟩) (by assumption) ?_
                rotate_left
                · intro w hSw
                  try dsimp only at hSw
                  first | (go_simp; done) | (go_simp; with_reducible rfl)
                change wpAnyH _ _ _ _ _ _ _ (Act.put _ (some 77) _) _
                try simp only [Act.put, List.setIfInBounds_toArray, List.set_cons_zero, List.set_cons_succ]
                refine wpAnyH_take (i := 22) (v := ?_) rfl (by kernel_rfl) (by kernel_rfl) (by kernel_rfl) (fun _ _ _ h => h) (Or.inl ⟨by rfl, ?_⟩) (by assumption) ?_
                rotate_left
                · intro w hSw
                  try dsimp only at hSw
                  first | (go_simp; done) | (go_simp; with_reducible rfl)
                change wpAnyH _ _ _ _ _ _ _ (Act.put _ (some 78) _) _
                try simp only [Act.put, List.setIfInBounds_toArray, List.set_cons_zero, List.set_cons_succ]
                refine wpAnyH_take (i := 23) (v := ?_) rfl (by kernel_rfl) (by kernel_rfl) (by kernel_rfl) (fun _ _ _ h => h) (Or.inl ⟨by rfl, ?_⟩) (by assumption) ?_
                rotate_left
                · intro w hSw
                  try dsimp only at hSw
                  first | (go_simp; done) | (go_simp; with_reducible rfl)
                change wpAnyH _ _ _ _ _ _ _ (Act.put _ (some 79) _) _
                try simp only [Act.put, List.setIfInBounds_toArray, List.set_cons_zero, List.set_cons_succ]
                refine wpAnyH_ready (rs := [24]) (by kernel_rfl) (by simp) ?_
                refine AllReadyH.cons rfl (fun K hK => ?_) AllReadyH.nil
                go_simp
                go_at_call 32
                refine (HLESS.out _ (HDT.out.keep (BU.out.trans (Below.mono (B := u.heap.size) (last9L (by assumption)) BU.out.size)))).mono ?_
                rintro e y5 ⟨rfl, hb5⟩
                have hy5 : Below u.heap.size u y5 := Below.trans (last9L (by assumption)) (hb5.mono (Below.size (B := u.heap.size) (w := u) (last9L (by assumption))))
                clear hb5
                go_wp2_with fail
                refine hK.out _ _ ?_ (fun hHeld => ?_)
                · try dsimp only
                  exact HK8.out _ hy5
                clear hK K
                try simp only [Act.put, List.setIfInBounds_toArray, List.set_cons_zero, List.set_cons_succ]
                refine wpAnyH_take (i := 25) (v := ?_) rfl (by kernel_rfl) (by kernel_rfl) (by kernel_rfl) (fun _ _ _ h => h) (Or.inl ⟨by rfl, ?_⟩) (by assumption) ?_
                rotate_left
                · intro w hSw
                  try dsimp only at hSw
                  first | (go_simp; done) | (go_simp; with_reducible rfl)
                change wpAnyH _ _ _ _ _ _ _ (Act.put _ (some 81) _) _
                try simp only [Act.put, List.setIfInBounds_toArray, List.set_cons_zero, List.set_cons_succ]
                refine wpAnyH_take (i := 26) (v := ?_) rfl (by kernel_rfl) (by kernel_rfl) (by kernel_rfl) (fun _ _ _ h => h) (Or.inl ⟨by rfl, ?_⟩) (by assumption) ?_
                rotate_left
                · intro w hSw
                  try dsimp only at hSw
                  first | (go_simp; done) | (go_simp; with_reducible rfl)
                change wpAnyH _ _ _ _ _ _ _ (Act.put _ (some 82) _) _
                try simp only [Act.put, List.setIfInBounds_toArray, List.set_cons_zero, List.set_cons_succ]
                refine wpAnyH_take (i := 27) (v := ?_) rfl (by kernel_rfl) (by kernel_rfl) (by kernel_rfl) (fun _ _ _ h => h) (Or.inl ⟨by rfl, ?_⟩) (by assumption) ?_
                rotate_left
                · intro w hSw
                  try dsimp only at hSw
                  first | (go_simp; done) | (go_simp; with_reducible rfl)
                change wpAnyH _ _ _ _ _ _ _ (Act.put _ (some 83) _) _
                try simp only [Act.put, List.setIfInBounds_toArray, List.set_cons_zero, List.set_cons_succ]
                refine wpAnyH_take (i := 28) (v := ?_) rfl (by kernel_rfl) (by kernel_rfl) (by kernel_rfl) (fun _ _ _ h => h) (Or.inl ⟨by rfl, ?_⟩) (by assumption) ?_
                rotate_left
                · intro w hSw
                  try dsimp only at hSw
                  first | (go_simp; done) | (go_simp; with_reducible rfl)
                change wpAnyH _ _ _ _ _ _ _ (Act.put _ (some 84) _) _
                try simp only [Act.put, List.setIfInBounds_toArray, List.set_cons_zero, List.set_cons_succ]
                refine wpAnyH_take (i := 29) (v := ?_) rfl (by kernel_rfl) (by kernel_rfl) (by kernel_rfl) (fun _ _ _ h => h) (Or.inl ⟨by rfl, ?_⟩) (by assumption) ?_
                rotate_left
                · intro w hSw
                  try dsimp only at hSw
                  first | (go_simp; done) | (go_simp; with_reducible rfl)
                change wpAnyH _ _ _ _ _ _ _ (Act.put _ (some 85) _) _
                try simp only [Act.put, List.setIfInBounds_toArray, List.set_cons_zero, List.set_cons_succ]
                refine wpAnyH_ready (rs := [30]) (by kernel_rfl) (by simp) ?_
                refine AllReadyH.cons rfl (fun K hK => ?_) AllReadyH.nil
                go_simp
                go_at_call 12
                refine (HW.out _ (BU.out.trans (Below.mono (B := u.heap.size) (last9L (by assumption)) BU.out.size))).mono ?_
                rintro e y6 ⟨rfl, hb6⟩
                have hy6 : Below u.heap.size u y6 := Below.trans (last9L (by assumption)) (hb6.mono (Below.size (B := u.heap.size) (w := u) (last9L (by assumption))))
                clear hb6
                go_wp2_with fail
                refine hK.out _ _ ?_ (fun hHeld => ?_)
                · try dsimp only
                  exact HK8.out _ hy6
                clear hK K
                try simp only [Act.put, List.setIfInBounds_toArray, List.set_cons_zero, List.set_cons_succ]
                refine wpAnyH_take (i := 31) (v := ?_) rfl (by kernel_rfl) (by kernel_rfl) (by kernel_rfl) (fun _ _ _ h => h) (Or.inl ⟨by rfl, ?_⟩) (by assumption) ?_
                rotate_left
                · intro w hSw
                  try dsimp only at hSw
                  first | (go_simp; done) | (go_simp; with_reducible rfl)
                change wpAnyH _ _ _ _ _ _ _ (Act.put _ (some 87) _) _
                try simp only [Act.put, List.setIfInBounds_toArray, List.set_cons_zero, List.set_cons_succ]
                refine wpAnyH_take (i := 32) (v := ?_) rfl (by kernel_rfl) (by kernel_rfl) (by kernel_rfl) (fun _ _ _ h => h) (Or.inl ⟨by rfl, ?_⟩) (by assumption) ?_
                rotate_left
                · intro w hSw
                  try dsimp only at hSw
                  first | (go_simp; done) | (go_simp; with_reducible rfl)
                change wpAnyH _ _ _ _ _ _ _ (Act.put _ (some 6) _) _
                try simp only [Act.put, List.setIfInBounds_toArray, List.set_cons_zero, List.set_cons_succ]
                refine wpAnyH_done (by kernel_rfl) ?_ _
                all_goals
                  have BZ := Lib.hid (BU.out.trans (hy6.mono BU.out.size))
                  go_wp2
                  go_ret
                  exact ⟨rfl, BZ.out⟩
      · have HCK : Hid (∀ V, Below (((w.alloc (.cells #[.int .i64 n, .slice aa a.length ca] 24)).alloc (.cells #[.int .i64 m, .slice ab b.length cb] 24)).alloc (.cells #[.int .u64 (o.a : Int), .int .u64 (o.b : Int)] 38)).heap.size (((w.alloc (.cells #[.int .i64 n, .slice aa a.length ca] 24)).alloc (.cells #[.int .i64 m, .slice ab b.length cb] 24)).alloc (.cells #[.int .u64 (o.a : Int), .int .u64 (o.b : Int)] 38)) V → Calls Tryz.prog 24 #[.agg #[.int .i64 n, .slice aa a.length ca], .agg #[.int .i64 m, .slice ab b.length cb]] V fun e w' => e = .returned (.int .i64 (chk2 ⟨n, a⟩ ⟨m, b⟩)) ∧ Below V.heap.size V w') := Lib.hid fun V hV =>
          rCheck2_any n m aa ab ca cb a b V (XNA.out.keep hV) (XNB.out.keep hV) hl30a hl30b
        have hcb : (chk2 ⟨n, a⟩ ⟨m, b⟩ != 0) = true := by simpa using hc
        clear hc
        generalize chk2 ⟨n, a⟩ ⟨m, b⟩ = c at *
        go_enter Tryz.func8, Tryz.ntmps8
        go_wp2_with fail
        refine (HLA.out _ XA.out).mono ?_
        rintro e w1 ⟨rfl, hb1⟩
        have Lw1 := Lib.hid (hb1)
        have L1 := Lw1
        have B1 := Lib.hid (HB0.out.trans (L1.out.mono HB0.out.size))
        clear hb1
        have Q := q0.out.later Lw1.out
        have k0_0 : w1.cell? ⟨w.heap.size, 0, none⟩ = some (.int .i64 n) := Q.cell 0
        have k0_1 : w1.cell? ⟨w.heap.size, 1, none⟩ = some (.slice aa a.length ca) := Q.cell 1
        have z0 : w.heap.size < w1.heap.size := Q.lt
        clear Q
        have Q := q1.out.later Lw1.out
        have k1_0 : w1.cell? ⟨w.heap.size + 1, 0, none⟩ = some (.int .i64 m) := Q.cell 0
        have k1_1 : w1.cell? ⟨w.heap.size + 1, 1, none⟩ = some (.slice ab b.length cb) := Q.cell 1
        have z1 : w.heap.size + 1 < w1.heap.size := Q.lt
        clear Q
        have Q := q2.out.later Lw1.out
        have k2_0 : w1.cell? ⟨w.heap.size + 1 + 1, 0, none⟩ = some (.int .u64 (o.a : Int)) := Q.cell 0
        have k2_1 : w1.cell? ⟨w.heap.size + 1 + 1, 1, none⟩ = some (.int .u64 (o.b : Int)) := Q.cell 1
        have z2 : w.heap.size + 1 + 1 < w1.heap.size := Q.lt
        clear Q
        go_wp2_with fail
        refine (HLB.out _ (XB.out.keep L1.out)).mono ?_
        rintro e w2 ⟨rfl, hb2⟩
        have Lw2 := Lib.hid (L1.out.trans (hb2.mono L1.out.size))
        clear k0_0 k0_1 z0 k1_0 k1_1 z1 k2_0 k2_1 z2
        have L2 := Lw2
        have B2 := Lib.hid (HB0.out.trans (L2.out.mono HB0.out.size))
        clear hb2
        have Q := q0.out.later Lw2.out
        have k0_0 : w2.cell? ⟨w.heap.size, 0, none⟩ = some (.int .i64 n) := Q.cell 0
        have k0_1 : w2.cell? ⟨w.heap.size, 1, none⟩ = some (.slice aa a.length ca) := Q.cell 1
        have z0 : w.heap.size < w2.heap.size := Q.lt
        clear Q
        have Q := q1.out.later Lw2.out
        have k1_0 : w2.cell? ⟨w.heap.size + 1, 0, none⟩ = some (.int .i64 m) := Q.cell 0
        have k1_1 : w2.cell? ⟨w.heap.size + 1, 1, none⟩ = some (.slice ab b.length cb) := Q.cell 1
        have z1 : w.heap.size + 1 < w2.heap.size := Q.lt
        clear Q
        have Q := q2.out.later Lw2.out
        have k2_0 : w2.cell? ⟨w.heap.size + 1 + 1, 0, none⟩ = some (.int .u64 (o.a : Int)) := Q.cell 0
        have k2_1 : w2.cell? ⟨w.heap.size + 1 + 1, 1, none⟩ = some (.int .u64 (o.b : Int)) := Q.cell 1
        have z2 : w.heap.size + 1 + 1 < w2.heap.size := Q.lt
        clear Q
        go_wp2_with fail
        refine (HCK.out _ L2.out).mono ?_
        rintro e w3 ⟨rfl, hb3⟩
        have Lw3 := Lib.hid (L2.out.trans (hb3.mono L2.out.size))
        clear k0_0 k0_1 z0 k1_0 k1_1 z1 k2_0 k2_1 z2
        have L3 := Lw3
        have B3 := Lib.hid (HB0.out.trans (L3.out.mono HB0.out.size))
        clear hb3
        have Q := q0.out.later Lw3.out
        have k0_0 : w3.cell? ⟨w.heap.size, 0, none⟩ = some (.int .i64 n) := Q.cell 0
        have k0_1 : w3.cell? ⟨w.heap.size, 1, none⟩ = some (.slice aa a.length ca) := Q.cell 1
        have z0 : w.heap.size < w3.heap.size := Q.lt
        clear Q
        have Q := q1.out.later Lw3.out
        have k1_0 : w3.cell? ⟨w.heap.size + 1, 0, none⟩ = some (.int .i64 m) := Q.cell 0
        have k1_1 : w3.cell? ⟨w.heap.size + 1, 1, none⟩ = some (.slice ab b.length cb) := Q.cell 1
        have z1 : w.heap.size + 1 < w3.heap.size := Q.lt
        clear Q
        have Q := q2.out.later Lw3.out
        have k2_0 : w3.cell? ⟨w.heap.size + 1 + 1, 0, none⟩ = some (.int .u64 (o.a : Int)) := Q.cell 0
        have k2_1 : w3.cell? ⟨w.heap.size + 1 + 1, 1, none⟩ = some (.int .u64 (o.b : Int)) := Q.cell 1
        have z2 : w.heap.size + 1 + 1 < w3.heap.size := Q.lt
        clear Q
        go_wp2_with fail
        refine (HW.out _ B3.out).mono ?_
        rintro e w4 ⟨rfl, hb4⟩
        have Lw4 := Lib.hid (L3.out.trans (hb4.mono L3.out.size))
        clear k0_0 k0_1 z0 k1_0 k1_1 z1 k2_0 k2_1 z2
        have L4 := Lw4
        have B4 := Lib.hid (HB0.out.trans (L4.out.mono HB0.out.size))
        clear hb4
        go_wp2
        go_ret
        exact ⟨rfl, B4.out⟩
end Go.Proofs.YtfdonhfhcomjaaaGreatDoor
