/- Part of the proofs that laws of censuslaw38 return true for every input, where the tables that the rows list are laid. Texts: R38C. -/
import Derived.Test.YtfdonhfhcomjaaaGreatDoorZC2

/- The walks of censusref38's Check2, Counter. -/
namespace Go.Proofs.YtfdonhfhcomjaaaGreatDoor
open Go.RowKit Cen
set_option maxHeartbeats 4000000
set_option maxRecDepth 100000
theorem find_hit {α : Type} [Inhabited α] {p : α → Bool} {M : List α} {k : Nat} (hk : k < M.length) (hno : ∀ j, j < k → p (M.getD j default) = false) (h : p (M.getD k default) = true) : M.find? p = some (M.getD k default) := by
  rw [List.find?_eq_some_iff_getElem]
  refine ⟨h, k, hk, by simp [List.getD_eq_getElem?_getD, hk], fun j hj => ?_⟩
  have h1 := hno j hj
  have hj' : j < M.length := by omega
  simp [List.getD_eq_getElem?_getD, hj'] at h1
  simp [h1]
theorem find_miss {α : Type} [Inhabited α] {p : α → Bool} {M : List α} (hno : ∀ j, j < M.length → p (M.getD j default) = false) : M.find? p = none := by
  rw [List.find?_eq_none]
  intro x hx
  obtain ⟨j, hj, rfl⟩ := List.getElem_of_mem hx
  have h1 := hno j hj
  simp [List.getD_eq_getElem?_getD, hj] at h1
  simp [h1]
theorem rCheck2_any (n m : Int) (aa ab : Option Addr) (ca cb : Nat) (a b : List Nd) (w : World) (xa : NdCells w aa a) (xb : NdCells w ab b) (hla : a.length ≤ 1073741824) (hlb : b.length ≤ 1073741824) :
    Calls Tryz.prog 24 #[.agg #[.int .i64 n, .slice aa a.length ca], .agg #[.int .i64 m, .slice ab b.length cb]] w fun e w' => e = .returned (.int .i64 (chk2 ⟨n, a⟩ ⟨m, b⟩)) ∧ Below w.heap.size w w' := by
  have hb0 := ((Below.refl w.heap.size w).alloc (Nat.le_refl _) (.cells #[.int .i64 n, .slice aa a.length ca] 24)).alloc (by simp) (.cells #[.int .i64 m, .slice ab b.length cb] 24)
  have HB0 := Lib.hid hb0
  have q0 := Lib.hid ((Blk.new w #[.int .i64 n, .slice aa a.length ca] 24).alloc (.cells #[.int .i64 m, .slice ab b.length cb] 24))
  have q1 := Lib.hid (Blk.new' (w.alloc (.cells #[.int .i64 n, .slice aa a.length ca] 24)) (World.size_alloc _ _) #[.int .i64 m, .slice ab b.length cb] 24)
  have XA := Lib.hid (xa.keep hb0)
  have XB := Lib.hid (xb.keep hb0)
  have HVA := Lib.hid (fun V h => rValid_any n aa ca a V hla h)
  have HVB := Lib.hid (fun V h => rValid_any m ab cb b V hlb h)
  clear hb0 xa xb
  cases hoa : netOk ⟨n, a⟩ with
  | false =>
    rw [hoa] at HVA
    have HR : Hid (chk2 ⟨n, a⟩ ⟨m, b⟩ = 1) := by show _ = _; unfold chk2; rw [hoa]; rfl
    clear hoa
    go_enter Tryz.func24, Tryz.ntmps24
    go_wp2_with fail
    refine (HVA.out _ XA.out).mono ?_
    rintro e w1 ⟨rfl, hb1⟩
    have L1 := Lib.hid (hb1)
    have B1 := Lib.hid (HB0.out.trans (L1.out.mono HB0.out.size))
    clear hb1
    have Q0 := q0.out.later L1.out
    have Q1 := q1.out.later L1.out
    have k0 : w1.cell? ⟨w.heap.size, 0, none⟩ = some (.int .i64 n) := Q0.cell 0
    have k1 : w1.cell? ⟨w.heap.size, 1, none⟩ = some (.slice aa a.length ca) := Q0.cell 1
    have k2 : w1.cell? ⟨w.heap.size + 1, 0, none⟩ = some (.int .i64 m) := Q1.cell 0
    have k3 : w1.cell? ⟨w.heap.size + 1, 1, none⟩ = some (.slice ab b.length cb) := Q1.cell 1
    clear Q0 Q1
    go_wp2
    go_ret
    exact ⟨ret_int HR.out.symm, B1.out⟩
  | true =>
    rw [hoa] at HVA
    cases hob : netOk ⟨m, b⟩ with
    | false =>
      rw [hob] at HVB
      have HR : Hid (chk2 ⟨n, a⟩ ⟨m, b⟩ = 1) := by show _ = _; unfold chk2; rw [hoa, hob]; rfl
      clear hoa hob
      go_enter Tryz.func24, Tryz.ntmps24
      go_wp2_with fail
      refine (HVA.out _ XA.out).mono ?_
      rintro e w1 ⟨rfl, hb1⟩
      have L1 := Lib.hid (hb1)
      have B1 := Lib.hid (HB0.out.trans (L1.out.mono HB0.out.size))
      clear hb1
      have Q0 := q0.out.later L1.out
      have Q1 := q1.out.later L1.out
      have k0 : w1.cell? ⟨w.heap.size, 0, none⟩ = some (.int .i64 n) := Q0.cell 0
      have k1 : w1.cell? ⟨w.heap.size, 1, none⟩ = some (.slice aa a.length ca) := Q0.cell 1
      have k2 : w1.cell? ⟨w.heap.size + 1, 0, none⟩ = some (.int .i64 m) := Q1.cell 0
      have k3 : w1.cell? ⟨w.heap.size + 1, 1, none⟩ = some (.slice ab b.length cb) := Q1.cell 1
      clear Q0 Q1
      go_wp2_with fail
      refine (HVB.out w1 (XB.out.keep L1.out)).mono ?_
      rintro e w2 ⟨rfl, hb2⟩
      have L2 := Lib.hid (L1.out.trans (hb2.mono L1.out.size))
      have B2 := Lib.hid (HB0.out.trans (L2.out.mono HB0.out.size))
      clear hb2 k0 k1 k2 k3
      have Q0 := q0.out.later L2.out
      have Q1 := q1.out.later L2.out
      have k0 : w2.cell? ⟨w.heap.size, 0, none⟩ = some (.int .i64 n) := Q0.cell 0
      have k1 : w2.cell? ⟨w.heap.size, 1, none⟩ = some (.slice aa a.length ca) := Q0.cell 1
      have k2 : w2.cell? ⟨w.heap.size + 1, 0, none⟩ = some (.int .i64 m) := Q1.cell 0
      have k3 : w2.cell? ⟨w.heap.size + 1, 1, none⟩ = some (.slice ab b.length cb) := Q1.cell 1
      clear Q0 Q1
      go_wp2
      go_ret
      exact ⟨ret_int HR.out.symm, B2.out⟩
    | true =>
      rw [hob] at HVB
      by_cases hnm : n = m
      · subst hnm
        have hne : (n != n) = false := by simp
        have HDA := Lib.hid (fun V h => decomposable21_any n aa ca a V hoa h)
        have HDB := Lib.hid (fun V h => decomposable21_any n ab cb b V hob h)
        cases hda : decL a with
        | false =>
          rw [hda] at HDA
          have HR : Hid (chk2 ⟨n, a⟩ ⟨n, b⟩ = 210) := by show _ = _; unfold chk2; rw [hoa, hob]; simp [hda]
          clear hoa hob hda
          go_enter Tryz.func24, Tryz.ntmps24
          go_wp2_with fail
          refine (HVA.out _ XA.out).mono ?_
          rintro e w1 ⟨rfl, hb1⟩
          have L1 := Lib.hid (hb1)
          have B1 := Lib.hid (HB0.out.trans (L1.out.mono HB0.out.size))
          clear hb1
          have Q0 := q0.out.later L1.out
          have Q1 := q1.out.later L1.out
          have k0 : w1.cell? ⟨w.heap.size, 0, none⟩ = some (.int .i64 n) := Q0.cell 0
          have k1 : w1.cell? ⟨w.heap.size, 1, none⟩ = some (.slice aa a.length ca) := Q0.cell 1
          have k2 : w1.cell? ⟨w.heap.size + 1, 0, none⟩ = some (.int .i64 n) := Q1.cell 0
          have k3 : w1.cell? ⟨w.heap.size + 1, 1, none⟩ = some (.slice ab b.length cb) := Q1.cell 1
          clear Q0 Q1
          go_wp2_with fail
          refine (HVB.out w1 (XB.out.keep L1.out)).mono ?_
          rintro e w2 ⟨rfl, hb2⟩
          have L2 := Lib.hid (L1.out.trans (hb2.mono L1.out.size))
          have B2 := Lib.hid (HB0.out.trans (L2.out.mono HB0.out.size))
          clear hb2 k0 k1 k2 k3
          have Q0 := q0.out.later L2.out
          have Q1 := q1.out.later L2.out
          have k0 : w2.cell? ⟨w.heap.size, 0, none⟩ = some (.int .i64 n) := Q0.cell 0
          have k1 : w2.cell? ⟨w.heap.size, 1, none⟩ = some (.slice aa a.length ca) := Q0.cell 1
          have k2 : w2.cell? ⟨w.heap.size + 1, 0, none⟩ = some (.int .i64 n) := Q1.cell 0
          have k3 : w2.cell? ⟨w.heap.size + 1, 1, none⟩ = some (.slice ab b.length cb) := Q1.cell 1
          clear Q0 Q1
          go_wp2_with fail
          refine (HDA.out w2 (XA.out.keep L2.out)).mono ?_
          rintro e w3 ⟨rfl, hb3⟩
          have L3 := Lib.hid (L2.out.trans (hb3.mono L2.out.size))
          have B3 := Lib.hid (HB0.out.trans (L3.out.mono HB0.out.size))
          clear hb3 k0 k1 k2 k3
          have Q0 := q0.out.later L3.out
          have Q1 := q1.out.later L3.out
          have k0 : w3.cell? ⟨w.heap.size, 0, none⟩ = some (.int .i64 n) := Q0.cell 0
          have k1 : w3.cell? ⟨w.heap.size, 1, none⟩ = some (.slice aa a.length ca) := Q0.cell 1
          have k2 : w3.cell? ⟨w.heap.size + 1, 0, none⟩ = some (.int .i64 n) := Q1.cell 0
          have k3 : w3.cell? ⟨w.heap.size + 1, 1, none⟩ = some (.slice ab b.length cb) := Q1.cell 1
          clear Q0 Q1
          go_wp2
          go_ret
          exact ⟨ret_int HR.out.symm, B3.out⟩
        | true =>
          rw [hda] at HDA
          cases hdb : decL b with
          | false =>
            rw [hdb] at HDB
            have HR : Hid (chk2 ⟨n, a⟩ ⟨n, b⟩ = 210) := by show _ = _; unfold chk2; rw [hoa, hob]; simp [hdb]
            clear hoa hob hda hdb
            go_enter Tryz.func24, Tryz.ntmps24
            go_wp2_with fail
            refine (HVA.out _ XA.out).mono ?_
            rintro e w1 ⟨rfl, hb1⟩
            have L1 := Lib.hid (hb1)
            have B1 := Lib.hid (HB0.out.trans (L1.out.mono HB0.out.size))
            clear hb1
            have Q0 := q0.out.later L1.out
            have Q1 := q1.out.later L1.out
            have k0 : w1.cell? ⟨w.heap.size, 0, none⟩ = some (.int .i64 n) := Q0.cell 0
            have k1 : w1.cell? ⟨w.heap.size, 1, none⟩ = some (.slice aa a.length ca) := Q0.cell 1
            have k2 : w1.cell? ⟨w.heap.size + 1, 0, none⟩ = some (.int .i64 n) := Q1.cell 0
            have k3 : w1.cell? ⟨w.heap.size + 1, 1, none⟩ = some (.slice ab b.length cb) := Q1.cell 1
            clear Q0 Q1
            go_wp2_with fail
            refine (HVB.out w1 (XB.out.keep L1.out)).mono ?_
            rintro e w2 ⟨rfl, hb2⟩
            have L2 := Lib.hid (L1.out.trans (hb2.mono L1.out.size))
            have B2 := Lib.hid (HB0.out.trans (L2.out.mono HB0.out.size))
            clear hb2 k0 k1 k2 k3
            have Q0 := q0.out.later L2.out
            have Q1 := q1.out.later L2.out
            have k0 : w2.cell? ⟨w.heap.size, 0, none⟩ = some (.int .i64 n) := Q0.cell 0
            have k1 : w2.cell? ⟨w.heap.size, 1, none⟩ = some (.slice aa a.length ca) := Q0.cell 1
            have k2 : w2.cell? ⟨w.heap.size + 1, 0, none⟩ = some (.int .i64 n) := Q1.cell 0
            have k3 : w2.cell? ⟨w.heap.size + 1, 1, none⟩ = some (.slice ab b.length cb) := Q1.cell 1
            clear Q0 Q1
            go_wp2_with fail
            refine (HDA.out w2 (XA.out.keep L2.out)).mono ?_
            rintro e w3 ⟨rfl, hb3⟩
            have L3 := Lib.hid (L2.out.trans (hb3.mono L2.out.size))
            have B3 := Lib.hid (HB0.out.trans (L3.out.mono HB0.out.size))
            clear hb3 k0 k1 k2 k3
            have Q0 := q0.out.later L3.out
            have Q1 := q1.out.later L3.out
            have k0 : w3.cell? ⟨w.heap.size, 0, none⟩ = some (.int .i64 n) := Q0.cell 0
            have k1 : w3.cell? ⟨w.heap.size, 1, none⟩ = some (.slice aa a.length ca) := Q0.cell 1
            have k2 : w3.cell? ⟨w.heap.size + 1, 0, none⟩ = some (.int .i64 n) := Q1.cell 0
            have k3 : w3.cell? ⟨w.heap.size + 1, 1, none⟩ = some (.slice ab b.length cb) := Q1.cell 1
            clear Q0 Q1
            go_wp2_with fail
            refine (HDB.out w3 (XB.out.keep L3.out)).mono ?_
            rintro e w4 ⟨rfl, hb4⟩
            have L4 := Lib.hid (L3.out.trans (hb4.mono L3.out.size))
            have B4 := Lib.hid (HB0.out.trans (L4.out.mono HB0.out.size))
            clear hb4 k0 k1 k2 k3
            have Q0 := q0.out.later L4.out
            have Q1 := q1.out.later L4.out
            have k0 : w4.cell? ⟨w.heap.size, 0, none⟩ = some (.int .i64 n) := Q0.cell 0
            have k1 : w4.cell? ⟨w.heap.size, 1, none⟩ = some (.slice aa a.length ca) := Q0.cell 1
            have k2 : w4.cell? ⟨w.heap.size + 1, 0, none⟩ = some (.int .i64 n) := Q1.cell 0
            have k3 : w4.cell? ⟨w.heap.size + 1, 1, none⟩ = some (.slice ab b.length cb) := Q1.cell 1
            clear Q0 Q1
            go_wp2
            go_ret
            exact ⟨ret_int HR.out.symm, B4.out⟩
          | true =>
            rw [hdb] at HDB
            have HR : Hid (chk2 ⟨n, a⟩ ⟨n, b⟩ = 0) := by show _ = _; unfold chk2; rw [hoa, hob]; simp [hda, hdb]
            clear hoa hob hda hdb
            go_enter Tryz.func24, Tryz.ntmps24
            go_wp2_with fail
            refine (HVA.out _ XA.out).mono ?_
            rintro e w1 ⟨rfl, hb1⟩
            have L1 := Lib.hid (hb1)
            have B1 := Lib.hid (HB0.out.trans (L1.out.mono HB0.out.size))
            clear hb1
            have Q0 := q0.out.later L1.out
            have Q1 := q1.out.later L1.out
            have k0 : w1.cell? ⟨w.heap.size, 0, none⟩ = some (.int .i64 n) := Q0.cell 0
            have k1 : w1.cell? ⟨w.heap.size, 1, none⟩ = some (.slice aa a.length ca) := Q0.cell 1
            have k2 : w1.cell? ⟨w.heap.size + 1, 0, none⟩ = some (.int .i64 n) := Q1.cell 0
            have k3 : w1.cell? ⟨w.heap.size + 1, 1, none⟩ = some (.slice ab b.length cb) := Q1.cell 1
            clear Q0 Q1
            go_wp2_with fail
            refine (HVB.out w1 (XB.out.keep L1.out)).mono ?_
            rintro e w2 ⟨rfl, hb2⟩
            have L2 := Lib.hid (L1.out.trans (hb2.mono L1.out.size))
            have B2 := Lib.hid (HB0.out.trans (L2.out.mono HB0.out.size))
            clear hb2 k0 k1 k2 k3
            have Q0 := q0.out.later L2.out
            have Q1 := q1.out.later L2.out
            have k0 : w2.cell? ⟨w.heap.size, 0, none⟩ = some (.int .i64 n) := Q0.cell 0
            have k1 : w2.cell? ⟨w.heap.size, 1, none⟩ = some (.slice aa a.length ca) := Q0.cell 1
            have k2 : w2.cell? ⟨w.heap.size + 1, 0, none⟩ = some (.int .i64 n) := Q1.cell 0
            have k3 : w2.cell? ⟨w.heap.size + 1, 1, none⟩ = some (.slice ab b.length cb) := Q1.cell 1
            clear Q0 Q1
            go_wp2_with fail
            refine (HDA.out w2 (XA.out.keep L2.out)).mono ?_
            rintro e w3 ⟨rfl, hb3⟩
            have L3 := Lib.hid (L2.out.trans (hb3.mono L2.out.size))
            have B3 := Lib.hid (HB0.out.trans (L3.out.mono HB0.out.size))
            clear hb3 k0 k1 k2 k3
            have Q0 := q0.out.later L3.out
            have Q1 := q1.out.later L3.out
            have k0 : w3.cell? ⟨w.heap.size, 0, none⟩ = some (.int .i64 n) := Q0.cell 0
            have k1 : w3.cell? ⟨w.heap.size, 1, none⟩ = some (.slice aa a.length ca) := Q0.cell 1
            have k2 : w3.cell? ⟨w.heap.size + 1, 0, none⟩ = some (.int .i64 n) := Q1.cell 0
            have k3 : w3.cell? ⟨w.heap.size + 1, 1, none⟩ = some (.slice ab b.length cb) := Q1.cell 1
            clear Q0 Q1
            go_wp2_with fail
            refine (HDB.out w3 (XB.out.keep L3.out)).mono ?_
            rintro e w4 ⟨rfl, hb4⟩
            have L4 := Lib.hid (L3.out.trans (hb4.mono L3.out.size))
            have B4 := Lib.hid (HB0.out.trans (L4.out.mono HB0.out.size))
            clear hb4 k0 k1 k2 k3
            have Q0 := q0.out.later L4.out
            have Q1 := q1.out.later L4.out
            have k0 : w4.cell? ⟨w.heap.size, 0, none⟩ = some (.int .i64 n) := Q0.cell 0
            have k1 : w4.cell? ⟨w.heap.size, 1, none⟩ = some (.slice aa a.length ca) := Q0.cell 1
            have k2 : w4.cell? ⟨w.heap.size + 1, 0, none⟩ = some (.int .i64 n) := Q1.cell 0
            have k3 : w4.cell? ⟨w.heap.size + 1, 1, none⟩ = some (.slice ab b.length cb) := Q1.cell 1
            clear Q0 Q1
            go_wp2
            go_ret
            exact ⟨ret_int HR.out.symm, B4.out⟩
      · have hne : (n != m) = true := by simpa using hnm
        have HR : Hid (chk2 ⟨n, a⟩ ⟨m, b⟩ = 1) := by show _ = _; unfold chk2; rw [hoa, hob]; simp [hnm]
        clear hoa hob hnm
        go_enter Tryz.func24, Tryz.ntmps24
        go_wp2_with fail
        refine (HVA.out _ XA.out).mono ?_
        rintro e w1 ⟨rfl, hb1⟩
        have L1 := Lib.hid (hb1)
        have B1 := Lib.hid (HB0.out.trans (L1.out.mono HB0.out.size))
        clear hb1
        have Q0 := q0.out.later L1.out
        have Q1 := q1.out.later L1.out
        have k0 : w1.cell? ⟨w.heap.size, 0, none⟩ = some (.int .i64 n) := Q0.cell 0
        have k1 : w1.cell? ⟨w.heap.size, 1, none⟩ = some (.slice aa a.length ca) := Q0.cell 1
        have k2 : w1.cell? ⟨w.heap.size + 1, 0, none⟩ = some (.int .i64 m) := Q1.cell 0
        have k3 : w1.cell? ⟨w.heap.size + 1, 1, none⟩ = some (.slice ab b.length cb) := Q1.cell 1
        clear Q0 Q1
        go_wp2_with fail
        refine (HVB.out w1 (XB.out.keep L1.out)).mono ?_
        rintro e w2 ⟨rfl, hb2⟩
        have L2 := Lib.hid (L1.out.trans (hb2.mono L1.out.size))
        have B2 := Lib.hid (HB0.out.trans (L2.out.mono HB0.out.size))
        clear hb2 k0 k1 k2 k3
        have Q0 := q0.out.later L2.out
        have Q1 := q1.out.later L2.out
        have k0 : w2.cell? ⟨w.heap.size, 0, none⟩ = some (.int .i64 n) := Q0.cell 0
        have k1 : w2.cell? ⟨w.heap.size, 1, none⟩ = some (.slice aa a.length ca) := Q0.cell 1
        have k2 : w2.cell? ⟨w.heap.size + 1, 0, none⟩ = some (.int .i64 m) := Q1.cell 0
        have k3 : w2.cell? ⟨w.heap.size + 1, 1, none⟩ = some (.slice ab b.length cb) := Q1.cell 1
        clear Q0 Q1
        go_wp2
        go_ret
        exact ⟨ret_int HR.out.symm, B2.out⟩
theorem rCounter_any (N : Nat) (aa ab : Option Addr) (ca cb : Nat) (a b : List Nd) (w : World) (hoa : netOk ⟨N, a⟩ = true) (hob : netOk ⟨N, b⟩ = true) (hN : N ≤ 16) (xa : NdCells w aa a) (xb : NdCells w ab b) :
    Calls Tryz.prog 25 #[.agg #[.int .i64 N, .slice aa a.length ca], .agg #[.int .i64 N, .slice ab b.length cb]] w fun e w' => e = .returned (.tuple #[stv ((cntRef N a b).getD St.zero), .bool (cntRef N a b).isSome]) ∧ Below w.heap.size w w' := by
  have hb0 := (((Below.refl w.heap.size w).alloc (Nat.le_refl _) (.cells #[.int .i64 N, .slice aa a.length ca] 24)).alloc (by simp) (.cells #[.int .i64 N, .slice ab b.length cb] 24)).alloc (by simp; omega) (.cells #[.int .u64 0, .int .u64 0] 38)
  have HB0 := Lib.hid hb0
  have q0 := Lib.hid (((Blk.new w #[.int .i64 N, .slice aa a.length ca] 24).alloc (.cells #[.int .i64 N, .slice ab b.length cb] 24)).alloc (.cells #[.int .u64 0, .int .u64 0] 38))
  have q1 := Lib.hid ((Blk.new' (w.alloc (.cells #[.int .i64 N, .slice aa a.length ca] 24)) (World.size_alloc _ _) #[.int .i64 N, .slice ab b.length cb] 24).alloc (.cells #[.int .u64 0, .int .u64 0] 38))
  have q2 := Lib.hid (Blk.new' ((w.alloc (.cells #[.int .i64 N, .slice aa a.length ca] 24)).alloc (.cells #[.int .i64 N, .slice ab b.length cb] 24)) (b := w.heap.size + 1 + 1) (by simp only [World.size_alloc]) #[.int .u64 0, .int .u64 0] 38)
  have HM := Lib.hid (fun V => subsets_any N V hN)
  have XA := Lib.hid (xa.keep hb0)
  have XB := Lib.hid (xb.keep hb0)
  have HOKM := Lib.hid (subL_ok hN)
  have HLM := Lib.hid (subL_len hN)
  have HE : Hid (cntRef N a b = (subL N).find? (hit N a b)) := rfl
  have HA := Lib.hid hoa
  have HB := Lib.hid hob
  have hl1 : a.length ≤ 1073741824 := by have := (netOk_head hoa).2.2.2; simp only at this; omega
  have hl2 : b.length ≤ 1073741824 := by have := (netOk_head hob).2.2.2; simp only at this; omega
  generalize subL N = M at *
  clear hb0 hoa hob xa xb
  go_enter Tryz.func25, Tryz.ntmps25
  go_wp2_with fail
  generalize ((w.alloc (.cells #[.int .i64 N, .slice aa a.length ca] 24)).alloc (.cells #[.int .i64 N, .slice ab b.length cb] 24)).alloc (.cells #[.int .u64 0, .int .u64 0] 38) = W at *
  have k0 : W.cell? ⟨w.heap.size, 0, none⟩ = some (.int .i64 N) := q0.out.cell 0
  have k1 : W.cell? ⟨w.heap.size, 1, none⟩ = some (.slice aa a.length ca) := q0.out.cell 1
  try go_wp2_with fail
  refine (HM.out _).mono ?_
  rintro e w1 ⟨v, rfl, hown1, hb1⟩
  have HW1 := Lib.hid hb1
  have HB1 := Lib.hid (HB0.out.trans (hb1.mono HB0.out.size))
  have HO1 := Lib.hid hown1
  have r0 := Lib.hid (q0.out.later hb1)
  have r1 := Lib.hid (q1.out.later hb1)
  have r2 := Lib.hid (q2.out.later hb1)
  clear hb1 k0 k1
  obtain ⟨ao, capv, rfl⟩ := hown1.sliced
  clear hown1
  go_wp2
  go_loopw [7] (fun i wr => ∃ k : Nat, k ≤ M.length ∧ i = .int .i64 k ∧ (∀ j, j < k → hit N a b (M.getD j default) = false) ∧ Below w1.heap.size w1 wr) (fun i _ => M.length - (intOf i).toNat)
  case atStart => exact ⟨0, Nat.zero_le _, rfl, fun j h => absurd h (Nat.not_lt_zero _), Below.refl _ _⟩
  case round =>
    obtain ⟨k, hk, rfl, hno, hb⟩ := hrel
    have HNO := Lib.hid hno
    have HBB := Lib.hid hb
    have HBA := Lib.hid (HB1.out.trans (hb.mono HB1.out.size))
    have HBW := Lib.hid (HW1.out.trans (hb.mono HW1.out.size))
    have HO := Lib.hid (HO1.out.later hb)
    have s0 := Lib.hid (r0.out.later hb)
    have s1 := Lib.hid (r1.out.later hb)
    have s2 := Lib.hid (r2.out.later hb)
    have k0 : wr.cell? ⟨w.heap.size, 0, none⟩ = some (.int .i64 N) := s0.out.cell 0
    have k1 : wr.cell? ⟨w.heap.size, 1, none⟩ = some (.slice aa a.length ca) := s0.out.cell 1
    have k2 : wr.cell? ⟨w.heap.size + 1, 0, none⟩ = some (.int .i64 N) := s1.out.cell 0
    have k3 : wr.cell? ⟨w.heap.size + 1, 1, none⟩ = some (.slice ab b.length cb) := s1.out.cell 1
    clear hno hb
    by_cases hlt : k < M.length
    · rcases HO.out.shape with ⟨_, hz⟩ | ⟨g, capl, hsl, _, _⟩
      · rw [hz] at hlt; exact absurd hlt (by simp)
      simp only [Value.slice.injEq] at hsl
      obtain ⟨rfl, _, rfl⟩ := hsl
      have c0 := HO.out.cell rfl stc_len k 0 hlt (by omega)
      have c1 := HO.out.cell rfl stc_len k 1 hlt (by omega)
      rw [Nat.add_zero] at c0
      have hgd : M.getD k default = M[k] := by simp [List.getD_eq_getElem?_getD, hlt]
      have HGD := Lib.hid hgd
      have hs := HOKM.out M[k] (List.getElem_mem hlt)
      generalize M[k] = s at *
      have d0 : wr.cell? ⟨g, k * 2, none⟩ = some (.int .u64 (s.a : Int)) := c0
      have d1 : wr.cell? ⟨g, k * 2 + 1, none⟩ = some (.int .u64 (s.b : Int)) := c1
      have HEA : Hid (∀ V, Below wr.heap.size wr V → Calls Tryz.prog 58 #[.agg #[.int .i64 N, .slice aa a.length ca], stv s] V fun e w' => e = .returned (.bool (ev s.mem ⟨N, a⟩)) ∧ Below V.heap.size V w') := Lib.hid fun V hV => by
        have h := rEval_any N aa ca a s V hl1 ((XA.out.keep HBW.out).keep hV) hs
        rw [HA.out] at h; exact h
      have HEB : Hid (∀ V, Below wr.heap.size wr V → Calls Tryz.prog 58 #[.agg #[.int .i64 N, .slice ab b.length cb], stv s] V fun e w' => e = .returned (.bool (ev s.mem ⟨N, b⟩)) ∧ Below V.heap.size V w') := Lib.hid fun V hV => by
        have h := rEval_any N ab cb b s V hl2 ((XB.out.keep HBW.out).keep hV) hs
        rw [HB.out] at h; exact h
      have HKS : Hid (∀ w' : World, Below wr.heap.size wr w' → w'.cell? ⟨w.heap.size, 0, none⟩ = some (.int .i64 N) ∧ w'.cell? ⟨w.heap.size, 1, none⟩ = some (.slice aa a.length ca) ∧ w'.cell? ⟨w.heap.size + 1, 0, none⟩ = some (.int .i64 N) ∧ w'.cell? ⟨w.heap.size + 1, 1, none⟩ = some (.slice ab b.length cb) ∧ w'.cell? ⟨g, k * 2, none⟩ = some (.int .u64 (s.a : Int)) ∧ w'.cell? ⟨g, k * 2 + 1, none⟩ = some (.int .u64 (s.b : Int)) ∧ Below wr.heap.size wr w') := Lib.hid fun w' hb => ⟨cell_keep hb k0, cell_keep hb k1, cell_keep hb k2, cell_keep hb k3, cell_keep hb d0, cell_keep hb d1, hb⟩
      have hki : (k : Int) < (M.length : Int) := by omega
      have hk0 : (0 : Int) ≤ (k : Int) := by omega
      have hkb : (k : Int) ≤ 65536 := by have := HLM.out; omega
      have HH : Hid (hit N a b s = (ev s.mem ⟨N, a⟩ && !ev s.mem ⟨N, b⟩)) := rfl
      clear c0 c1 hgd hs
      cases ha : ev s.mem ⟨N, a⟩ with
      | false =>
        rw [ha] at HEA HH
        clear ha
        go_wp2_with fail
        refine wp_region_held_drew (S := (fun w' => w'.cell? ⟨w.heap.size, 0, none⟩ = some (.int .i64 N) ∧ w'.cell? ⟨w.heap.size, 1, none⟩ = some (.slice aa a.length ca) ∧ w'.cell? ⟨w.heap.size + 1, 0, none⟩ = some (.int .i64 N) ∧ w'.cell? ⟨w.heap.size + 1, 1, none⟩ = some (.slice ab b.length cb) ∧ w'.cell? ⟨g, k * 2, none⟩ = some (.int .u64 (s.a : Int)) ∧ w'.cell? ⟨g, k * 2 + 1, none⟩ = some (.int .u64 (s.b : Int)) ∧ Below wr.heap.size wr w')) (by kernel_rfl) ?_ (fun hHeld => ?_)
        · try dsimp only
          exact HKS.out _ (Below.refl _ _).drew
        refine wpAnyH_take (i := 0) (v := ?_) rfl (by kernel_rfl) (by kernel_rfl) (by kernel_rfl) (fun _ _ _ h => h) (Or.inl ⟨by rfl, ?_⟩) (by assumption) ?_
        rotate_left
        · intro w hSw
          try dsimp only at hSw
          first | (go_simp; done) | (go_simp; with_reducible rfl)
        change wpAnyH _ _ _ _ _ _ _ (Act.put _ (some 17) _) _
        try simp only [Act.put, List.setIfInBounds_toArray, List.set_cons_zero, List.set_cons_succ]
        refine wpAnyH_take (i := 1) (v := ?_) rfl (by kernel_rfl) (by kernel_rfl) (by kernel_rfl) (fun _ _ _ h => h) (Or.inl ⟨by rfl, ?_⟩) (by assumption) ?_
        rotate_left
        · intro w hSw
          try dsimp only at hSw
          first | (go_simp; done) | (go_simp; with_reducible rfl)
        change wpAnyH _ _ _ _ _ _ _ (Act.put _ (some 18) _) _
        try simp only [Act.put, List.setIfInBounds_toArray, List.set_cons_zero, List.set_cons_succ]
        refine wpAnyH_take (i := 2) (v := ?_) rfl (by kernel_rfl) (by kernel_rfl) (by kernel_rfl) (fun _ _ _ h => h) (Or.inl ⟨by rfl, ?_⟩) (by assumption) ?_
        rotate_left
        · intro w hSw
          try dsimp only at hSw
          first | (go_simp; done) | (go_simp; with_reducible rfl)
        change wpAnyH _ _ _ _ _ _ _ (Act.put _ (some 19) _) _
        try simp only [Act.put, List.setIfInBounds_toArray, List.set_cons_zero, List.set_cons_succ]
        refine wpAnyH_take (i := 3) (v := ?_) rfl (by kernel_rfl) (by kernel_rfl) (by kernel_rfl) (fun _ _ _ h => h) (Or.inl ⟨by rfl, ?_⟩) (by assumption) ?_
        rotate_left
        · intro w hSw
          try dsimp only at hSw
          first | (go_simp; done) | (go_simp; with_reducible rfl)
        change wpAnyH _ _ _ _ _ _ _ (Act.put _ (some 20) _) _
        try simp only [Act.put, List.setIfInBounds_toArray, List.set_cons_zero, List.set_cons_succ]
        refine wpAnyH_take (i := 4) (v := ?_) rfl (by kernel_rfl) (by kernel_rfl) (by kernel_rfl) (fun _ _ _ h => h) (Or.inl ⟨by rfl, ?_⟩) (by assumption) ?_
        rotate_left
        · intro w hSw
          try dsimp only at hSw
          first | (go_simp; done) | (go_simp; with_reducible rfl)
        change wpAnyH _ _ _ _ _ _ _ (Act.put _ (some 21) _) _
        try simp only [Act.put, List.setIfInBounds_toArray, List.set_cons_zero, List.set_cons_succ]
        refine wpAnyH_ready (rs := [5]) (by kernel_rfl) (by simp) ?_
        refine AllReadyH.cons rfl (fun K hK => ?_) AllReadyH.nil
        go_simp
        go_at_call 58
        refine (HEA.out _ (last7 (by assumption))).mono ?_
        rintro e w2 ⟨rfl, hb2⟩
        have hw2 : Below wr.heap.size wr w2 := Below.trans (last7 (by assumption)) (hb2.mono (Below.size (B := wr.heap.size) (w := wr) (last7 (by assumption))))
        go_wp2_with fail
        refine hK.out _ _ ?_ (fun hHeld => ?_)
        · try dsimp only
          exact HKS.out _ hw2
        clear hK K
        try simp only [Act.put, List.setIfInBounds_toArray, List.set_cons_zero, List.set_cons_succ]
        refine wpAnyH_take (i := 6) (v := ?_) rfl (by kernel_rfl) (by kernel_rfl) (by kernel_rfl) (fun _ _ _ h => h) (Or.inl ⟨by rfl, ?_⟩) (by assumption) ?_
        rotate_left
        · intro w hSw
          try dsimp only at hSw
          first | (go_simp; done) | (go_simp; with_reducible rfl)
        change wpAnyH _ _ _ _ _ _ _ (Act.put _ (some 23) _) _
        try simp only [Act.put, List.setIfInBounds_toArray, List.set_cons_zero, List.set_cons_succ]
        refine wpAnyH_take (i := 7) rfl (by kernel_rfl) (by kernel_rfl) (by kernel_rfl) (fun _ _ _ h => h) (Or.inr ⟨by kernel_rfl, rfl⟩) (by assumption) ?_
        change wpAnyH _ _ _ _ _ _ _ (Act.put _ (some 24) _) _
        try simp only [Act.put, List.setIfInBounds_toArray, List.set_cons_zero, List.set_cons_succ]
        refine wpAnyH_take (i := 8) rfl (by kernel_rfl) (by kernel_rfl) (by kernel_rfl) (fun _ _ _ h => h) (Or.inr ⟨by kernel_rfl, rfl⟩) (by assumption) ?_
        change wpAnyH _ _ _ _ _ _ _ (Act.put _ (some 25) _) _
        try simp only [Act.put, List.setIfInBounds_toArray, List.set_cons_zero, List.set_cons_succ]
        refine wpAnyH_take (i := 9) rfl (by kernel_rfl) (by kernel_rfl) (by kernel_rfl) (fun _ _ _ h => h) (Or.inr ⟨by kernel_rfl, rfl⟩) (by assumption) ?_
        change wpAnyH _ _ _ _ _ _ _ (Act.put _ (some 26) _) _
        try simp only [Act.put, List.setIfInBounds_toArray, List.set_cons_zero, List.set_cons_succ]
        refine wpAnyH_take (i := 10) rfl (by kernel_rfl) (by kernel_rfl) (by kernel_rfl) (fun _ _ _ h => h) (Or.inr ⟨by kernel_rfl, rfl⟩) (by assumption) ?_
        change wpAnyH _ _ _ _ _ _ _ (Act.put _ (some 27) _) _
        try simp only [Act.put, List.setIfInBounds_toArray, List.set_cons_zero, List.set_cons_succ]
        refine wpAnyH_take (i := 11) rfl (by kernel_rfl) (by kernel_rfl) (by kernel_rfl) (fun _ _ _ h => h) (Or.inr ⟨by kernel_rfl, rfl⟩) (by assumption) ?_
        change wpAnyH _ _ _ _ _ _ _ (Act.put _ (some 28) _) _
        try simp only [Act.put, List.setIfInBounds_toArray, List.set_cons_zero, List.set_cons_succ]
        refine wpAnyH_take (i := 12) rfl (by kernel_rfl) (by kernel_rfl) (by kernel_rfl) (fun _ _ _ h => h) (Or.inr ⟨by kernel_rfl, rfl⟩) (by assumption) ?_
        change wpAnyH _ _ _ _ _ _ _ (Act.put _ (some 29) _) _
        try simp only [Act.put, List.setIfInBounds_toArray, List.set_cons_zero, List.set_cons_succ]
        refine wpAnyH_take (i := 13) rfl (by kernel_rfl) (by kernel_rfl) (by kernel_rfl) (fun _ _ _ h => h) (Or.inr ⟨by kernel_rfl, rfl⟩) (by assumption) ?_
        change wpAnyH _ _ _ _ _ _ _ (Act.put _ (some 30) _) _
        try simp only [Act.put, List.setIfInBounds_toArray, List.set_cons_zero, List.set_cons_succ]
        refine wpAnyH_take (i := 14) (v := ?_) rfl (by kernel_rfl) (by kernel_rfl) (by kernel_rfl) (fun _ _ _ h => h) (Or.inl ⟨by rfl, ?_⟩) (by assumption) ?_
        rotate_left
        · intro w hSw
          try dsimp only at hSw
          first | (go_simp; done) | (go_simp; with_reducible rfl)
        change wpAnyH _ _ _ _ _ _ _ (Act.put _ (some 31) _) _
        try simp only [Act.put, List.setIfInBounds_toArray, List.set_cons_zero, List.set_cons_succ]
        refine wpAnyH_done (by kernel_rfl) ?_ _
        all_goals
          have HB2 := Lib.hid (HBB.out.trans (hw2.mono HBB.out.size))
          go_wp2
          go_roundw
          case rel => exact ⟨k + 1, by omega, by go_num, fun j hj => by
            by_cases e : j = k
            · subst e; rw [HGD.out, HH.out]; rfl
            · exact HNO.out j (by omega), HB2.out⟩
          case measure => simp [intOf]; omega
      | true =>
        rw [ha] at HEA HH
        cases hv : ev s.mem ⟨N, b⟩ with
        | true =>
          rw [hv] at HEB HH
          clear ha hv
          go_wp2_with fail
          refine wp_region_held_drew (S := (fun w' => w'.cell? ⟨w.heap.size, 0, none⟩ = some (.int .i64 N) ∧ w'.cell? ⟨w.heap.size, 1, none⟩ = some (.slice aa a.length ca) ∧ w'.cell? ⟨w.heap.size + 1, 0, none⟩ = some (.int .i64 N) ∧ w'.cell? ⟨w.heap.size + 1, 1, none⟩ = some (.slice ab b.length cb) ∧ w'.cell? ⟨g, k * 2, none⟩ = some (.int .u64 (s.a : Int)) ∧ w'.cell? ⟨g, k * 2 + 1, none⟩ = some (.int .u64 (s.b : Int)) ∧ Below wr.heap.size wr w')) (by kernel_rfl) ?_ (fun hHeld => ?_)
          · try dsimp only
            exact HKS.out _ (Below.refl _ _).drew
          refine wpAnyH_take (i := 0) (v := ?_) rfl (by kernel_rfl) (by kernel_rfl) (by kernel_rfl) (fun _ _ _ h => h) (Or.inl ⟨by rfl, ?_⟩) (by assumption) ?_
          rotate_left
          · intro w hSw
            try dsimp only at hSw
            first | (go_simp; done) | (go_simp; with_reducible rfl)
          change wpAnyH _ _ _ _ _ _ _ (Act.put _ (some 17) _) _
          try simp only [Act.put, List.setIfInBounds_toArray, List.set_cons_zero, List.set_cons_succ]
          refine wpAnyH_take (i := 1) (v := ?_) rfl (by kernel_rfl) (by kernel_rfl) (by kernel_rfl) (fun _ _ _ h => h) (Or.inl ⟨by rfl, ?_⟩) (by assumption) ?_
          rotate_left
          · intro w hSw
            try dsimp only at hSw
            first | (go_simp; done) | (go_simp; with_reducible rfl)
          change wpAnyH _ _ _ _ _ _ _ (Act.put _ (some 18) _) _
          try simp only [Act.put, List.setIfInBounds_toArray, List.set_cons_zero, List.set_cons_succ]
          refine wpAnyH_take (i := 2) (v := ?_) rfl (by kernel_rfl) (by kernel_rfl) (by kernel_rfl) (fun _ _ _ h => h) (Or.inl ⟨by rfl, ?_⟩) (by assumption) ?_
          rotate_left
          · intro w hSw
            try dsimp only at hSw
            first | (go_simp; done) | (go_simp; with_reducible rfl)
          change wpAnyH _ _ _ _ _ _ _ (Act.put _ (some 19) _) _
          try simp only [Act.put, List.setIfInBounds_toArray, List.set_cons_zero, List.set_cons_succ]
          refine wpAnyH_take (i := 3) (v := ?_) rfl (by kernel_rfl) (by kernel_rfl) (by kernel_rfl) (fun _ _ _ h => h) (Or.inl ⟨by rfl, ?_⟩) (by assumption) ?_
          rotate_left
          · intro w hSw
            try dsimp only at hSw
            first | (go_simp; done) | (go_simp; with_reducible rfl)
          change wpAnyH _ _ _ _ _ _ _ (Act.put _ (some 20) _) _
          try simp only [Act.put, List.setIfInBounds_toArray, List.set_cons_zero, List.set_cons_succ]
          refine wpAnyH_take (i := 4) (v := ?_) rfl (by kernel_rfl) (by kernel_rfl) (by kernel_rfl) (fun _ _ _ h => h) (Or.inl ⟨by rfl, ?_⟩) (by assumption) ?_
          rotate_left
          · intro w hSw
            try dsimp only at hSw
            first | (go_simp; done) | (go_simp; with_reducible rfl)
          change wpAnyH _ _ _ _ _ _ _ (Act.put _ (some 21) _) _
          try simp only [Act.put, List.setIfInBounds_toArray, List.set_cons_zero, List.set_cons_succ]
          refine wpAnyH_ready (rs := [5]) (by kernel_rfl) (by simp) ?_
          refine AllReadyH.cons rfl (fun K hK => ?_) AllReadyH.nil
          go_simp
          go_at_call 58
          refine (HEA.out _ (last7 (by assumption))).mono ?_
          rintro e w2 ⟨rfl, hb2⟩
          have hw2 : Below wr.heap.size wr w2 := Below.trans (last7 (by assumption)) (hb2.mono (Below.size (B := wr.heap.size) (w := wr) (last7 (by assumption))))
          go_wp2_with fail
          refine hK.out _ _ ?_ (fun hHeld => ?_)
          · try dsimp only
            exact HKS.out _ hw2
          clear hK K
          try simp only [Act.put, List.setIfInBounds_toArray, List.set_cons_zero, List.set_cons_succ]
          refine wpAnyH_take (i := 6) (v := ?_) rfl (by kernel_rfl) (by kernel_rfl) (by kernel_rfl) (fun _ _ _ h => h) (Or.inl ⟨by rfl, ?_⟩) (by assumption) ?_
          rotate_left
          · intro w hSw
            try dsimp only at hSw
            first | (go_simp; done) | (go_simp; with_reducible rfl)
          change wpAnyH _ _ _ _ _ _ _ (Act.put _ (some 23) _) _
          try simp only [Act.put, List.setIfInBounds_toArray, List.set_cons_zero, List.set_cons_succ]
          refine wpAnyH_take (i := 7) (v := ?_) rfl (by kernel_rfl) (by kernel_rfl) (by kernel_rfl) (fun _ _ _ h => h) (Or.inl ⟨by rfl, ?_⟩) (by assumption) ?_
          rotate_left
          · intro w hSw
            try dsimp only at hSw
            first | (go_simp; done) | (go_simp; with_reducible rfl)
          change wpAnyH _ _ _ _ _ _ _ (Act.put _ (some 24) _) _
          try simp only [Act.put, List.setIfInBounds_toArray, List.set_cons_zero, List.set_cons_succ]
          refine wpAnyH_take (i := 8) (v := ?_) rfl (by kernel_rfl) (by kernel_rfl) (by kernel_rfl) (fun _ _ _ h => h) (Or.inl ⟨by rfl, ?_⟩) (by assumption) ?_
          rotate_left
          · intro w hSw
            try dsimp only at hSw
            first | (go_simp; done) | (go_simp; with_reducible rfl)
          change wpAnyH _ _ _ _ _ _ _ (Act.put _ (some 25) _) _
          try simp only [Act.put, List.setIfInBounds_toArray, List.set_cons_zero, List.set_cons_succ]
          refine wpAnyH_take (i := 9) (v := ?_) rfl (by kernel_rfl) (by kernel_rfl) (by kernel_rfl) (fun _ _ _ h => h) (Or.inl ⟨by rfl, ?_⟩) (by assumption) ?_
          rotate_left
          · intro w hSw
            try dsimp only at hSw
            first | (go_simp; done) | (go_simp; with_reducible rfl)
          change wpAnyH _ _ _ _ _ _ _ (Act.put _ (some 26) _) _
          try simp only [Act.put, List.setIfInBounds_toArray, List.set_cons_zero, List.set_cons_succ]
          refine wpAnyH_take (i := 10) (v := ?_) rfl (by kernel_rfl) (by kernel_rfl) (by kernel_rfl) (fun _ _ _ h => h) (Or.inl ⟨by rfl, ?_⟩) (by assumption) ?_
          rotate_left
          · intro w hSw
            try dsimp only at hSw
            first | (go_simp; done) | (go_simp; with_reducible rfl)
          change wpAnyH _ _ _ _ _ _ _ (Act.put _ (some 27) _) _
          try simp only [Act.put, List.setIfInBounds_toArray, List.set_cons_zero, List.set_cons_succ]
          refine wpAnyH_take (i := 11) (v := ?_) rfl (by kernel_rfl) (by kernel_rfl) (by kernel_rfl) (fun _ _ _ h => h) (Or.inl ⟨by rfl, ?_⟩) (by assumption) ?_
          rotate_left
          · intro w hSw
            try dsimp only at hSw
            first | (go_simp; done) | (go_simp; with_reducible rfl)
          change wpAnyH _ _ _ _ _ _ _ (Act.put _ (some 28) _) _
          try simp only [Act.put, List.setIfInBounds_toArray, List.set_cons_zero, List.set_cons_succ]
          refine wpAnyH_ready (rs := [12]) (by kernel_rfl) (by simp) ?_
          refine AllReadyH.cons rfl (fun K hK => ?_) AllReadyH.nil
          go_simp
          go_at_call 58
          refine (HEB.out _ (last7 (by assumption))).mono ?_
          rintro e w3 ⟨rfl, hb3⟩
          have hw3 : Below wr.heap.size wr w3 := Below.trans (last7 (by assumption)) (hb3.mono (Below.size (B := wr.heap.size) (w := wr) (last7 (by assumption))))
          go_wp2_with fail
          refine hK.out _ _ ?_ (fun hHeld => ?_)
          · try dsimp only
            exact HKS.out _ hw3
          clear hK K
          try simp only [Act.put, List.setIfInBounds_toArray, List.set_cons_zero, List.set_cons_succ]
          refine wpAnyH_take (i := 13) (v := ?_) rfl (by kernel_rfl) (by kernel_rfl) (by kernel_rfl) (fun _ _ _ h => h) (Or.inl ⟨by rfl, ?_⟩) (by assumption) ?_
          rotate_left
          · intro w hSw
            try dsimp only at hSw
            first | (go_simp; done) | (go_simp; with_reducible rfl)
          change wpAnyH _ _ _ _ _ _ _ (Act.put _ (some 30) _) _
          try simp only [Act.put, List.setIfInBounds_toArray, List.set_cons_zero, List.set_cons_succ]
          refine wpAnyH_take (i := 14) (v := ?_) rfl (by kernel_rfl) (by kernel_rfl) (by kernel_rfl) (fun _ _ _ h => h) (Or.inl ⟨by rfl, ?_⟩) (by assumption) ?_
          rotate_left
          · intro w hSw
            try dsimp only at hSw
            first | (go_simp; done) | (go_simp; with_reducible rfl)
          change wpAnyH _ _ _ _ _ _ _ (Act.put _ (some 31) _) _
          try simp only [Act.put, List.setIfInBounds_toArray, List.set_cons_zero, List.set_cons_succ]
          refine wpAnyH_done (by kernel_rfl) ?_ _
          all_goals
            have HB2 := Lib.hid (HBB.out.trans (hw3.mono HBB.out.size))
            go_wp2
            go_roundw
            case rel => exact ⟨k + 1, by omega, by go_num, fun j hj => by
              by_cases e : j = k
              · subst e; rw [HGD.out, HH.out]; rfl
              · exact HNO.out j (by omega), HB2.out⟩
            case measure => simp [intOf]; omega
        | false =>
          rw [hv] at HEB HH
          have HR : Hid (cntRef N a b = some s) := by
            show _ = _; rw [HE.out, ← HGD.out]
            exact find_hit hlt HNO.out (by rw [HGD.out, HH.out]; rfl)
          clear ha hv
          go_wp2_with fail
          refine wp_region_held_drew (S := (fun w' => w'.cell? ⟨w.heap.size, 0, none⟩ = some (.int .i64 N) ∧ w'.cell? ⟨w.heap.size, 1, none⟩ = some (.slice aa a.length ca) ∧ w'.cell? ⟨w.heap.size + 1, 0, none⟩ = some (.int .i64 N) ∧ w'.cell? ⟨w.heap.size + 1, 1, none⟩ = some (.slice ab b.length cb) ∧ w'.cell? ⟨g, k * 2, none⟩ = some (.int .u64 (s.a : Int)) ∧ w'.cell? ⟨g, k * 2 + 1, none⟩ = some (.int .u64 (s.b : Int)) ∧ Below wr.heap.size wr w')) (by kernel_rfl) ?_ (fun hHeld => ?_)
          · try dsimp only
            exact HKS.out _ (Below.refl _ _).drew
          refine wpAnyH_take (i := 0) (v := ?_) rfl (by kernel_rfl) (by kernel_rfl) (by kernel_rfl) (fun _ _ _ h => h) (Or.inl ⟨by rfl, ?_⟩) (by assumption) ?_
          rotate_left
          · intro w hSw
            try dsimp only at hSw
            first | (go_simp; done) | (go_simp; with_reducible rfl)
          change wpAnyH _ _ _ _ _ _ _ (Act.put _ (some 17) _) _
          try simp only [Act.put, List.setIfInBounds_toArray, List.set_cons_zero, List.set_cons_succ]
          refine wpAnyH_take (i := 1) (v := ?_) rfl (by kernel_rfl) (by kernel_rfl) (by kernel_rfl) (fun _ _ _ h => h) (Or.inl ⟨by rfl, ?_⟩) (by assumption) ?_
          rotate_left
          · intro w hSw
            try dsimp only at hSw
            first | (go_simp; done) | (go_simp; with_reducible rfl)
          change wpAnyH _ _ _ _ _ _ _ (Act.put _ (some 18) _) _
          try simp only [Act.put, List.setIfInBounds_toArray, List.set_cons_zero, List.set_cons_succ]
          refine wpAnyH_take (i := 2) (v := ?_) rfl (by kernel_rfl) (by kernel_rfl) (by kernel_rfl) (fun _ _ _ h => h) (Or.inl ⟨by rfl, ?_⟩) (by assumption) ?_
          rotate_left
          · intro w hSw
            try dsimp only at hSw
            first | (go_simp; done) | (go_simp; with_reducible rfl)
          change wpAnyH _ _ _ _ _ _ _ (Act.put _ (some 19) _) _
          try simp only [Act.put, List.setIfInBounds_toArray, List.set_cons_zero, List.set_cons_succ]
          refine wpAnyH_take (i := 3) (v := ?_) rfl (by kernel_rfl) (by kernel_rfl) (by kernel_rfl) (fun _ _ _ h => h) (Or.inl ⟨by rfl, ?_⟩) (by assumption) ?_
          rotate_left
          · intro w hSw
            try dsimp only at hSw
            first | (go_simp; done) | (go_simp; with_reducible rfl)
          change wpAnyH _ _ _ _ _ _ _ (Act.put _ (some 20) _) _
          try simp only [Act.put, List.setIfInBounds_toArray, List.set_cons_zero, List.set_cons_succ]
          refine wpAnyH_take (i := 4) (v := ?_) rfl (by kernel_rfl) (by kernel_rfl) (by kernel_rfl) (fun _ _ _ h => h) (Or.inl ⟨by rfl, ?_⟩) (by assumption) ?_
          rotate_left
          · intro w hSw
            try dsimp only at hSw
            first | (go_simp; done) | (go_simp; with_reducible rfl)
          change wpAnyH _ _ _ _ _ _ _ (Act.put _ (some 21) _) _
          try simp only [Act.put, List.setIfInBounds_toArray, List.set_cons_zero, List.set_cons_succ]
          refine wpAnyH_ready (rs := [5]) (by kernel_rfl) (by simp) ?_
          refine AllReadyH.cons rfl (fun K hK => ?_) AllReadyH.nil
          go_simp
          go_at_call 58
          refine (HEA.out _ (last7 (by assumption))).mono ?_
          rintro e w2 ⟨rfl, hb2⟩
          have hw2 : Below wr.heap.size wr w2 := Below.trans (last7 (by assumption)) (hb2.mono (Below.size (B := wr.heap.size) (w := wr) (last7 (by assumption))))
          go_wp2_with fail
          refine hK.out _ _ ?_ (fun hHeld => ?_)
          · try dsimp only
            exact HKS.out _ hw2
          clear hK K
          try simp only [Act.put, List.setIfInBounds_toArray, List.set_cons_zero, List.set_cons_succ]
          refine wpAnyH_take (i := 6) (v := ?_) rfl (by kernel_rfl) (by kernel_rfl) (by kernel_rfl) (fun _ _ _ h => h) (Or.inl ⟨by rfl, ?_⟩) (by assumption) ?_
          rotate_left
          · intro w hSw
            try dsimp only at hSw
            first | (go_simp; done) | (go_simp; with_reducible rfl)
          change wpAnyH _ _ _ _ _ _ _ (Act.put _ (some 23) _) _
          try simp only [Act.put, List.setIfInBounds_toArray, List.set_cons_zero, List.set_cons_succ]
          refine wpAnyH_take (i := 7) (v := ?_) rfl (by kernel_rfl) (by kernel_rfl) (by kernel_rfl) (fun _ _ _ h => h) (Or.inl ⟨by rfl, ?_⟩) (by assumption) ?_
          rotate_left
          · intro w hSw
            try dsimp only at hSw
            first | (go_simp; done) | (go_simp; with_reducible rfl)
          change wpAnyH _ _ _ _ _ _ _ (Act.put _ (some 24) _) _
          try simp only [Act.put, List.setIfInBounds_toArray, List.set_cons_zero, List.set_cons_succ]
          refine wpAnyH_take (i := 8) (v := ?_) rfl (by kernel_rfl) (by kernel_rfl) (by kernel_rfl) (fun _ _ _ h => h) (Or.inl ⟨by rfl, ?_⟩) (by assumption) ?_
          rotate_left
          · intro w hSw
            try dsimp only at hSw
            first | (go_simp; done) | (go_simp; with_reducible rfl)
          change wpAnyH _ _ _ _ _ _ _ (Act.put _ (some 25) _) _
          try simp only [Act.put, List.setIfInBounds_toArray, List.set_cons_zero, List.set_cons_succ]
          refine wpAnyH_take (i := 9) (v := ?_) rfl (by kernel_rfl) (by kernel_rfl) (by kernel_rfl) (fun _ _ _ h => h) (Or.inl ⟨by rfl, ?_⟩) (by assumption) ?_
          rotate_left
          · intro w hSw
            try dsimp only at hSw
            first | (go_simp; done) | (go_simp; with_reducible rfl)
          change wpAnyH _ _ _ _ _ _ _ (Act.put _ (some 26) _) _
          try simp only [Act.put, List.setIfInBounds_toArray, List.set_cons_zero, List.set_cons_succ]
          refine wpAnyH_take (i := 10) (v := ?_) rfl (by kernel_rfl) (by kernel_rfl) (by kernel_rfl) (fun _ _ _ h => h) (Or.inl ⟨by rfl, ?_⟩) (by assumption) ?_
          rotate_left
          · intro w hSw
            try dsimp only at hSw
            first | (go_simp; done) | (go_simp; with_reducible rfl)
          change wpAnyH _ _ _ _ _ _ _ (Act.put _ (some 27) _) _
          try simp only [Act.put, List.setIfInBounds_toArray, List.set_cons_zero, List.set_cons_succ]
          refine wpAnyH_take (i := 11) (v := ?_) rfl (by kernel_rfl) (by kernel_rfl) (by kernel_rfl) (fun _ _ _ h => h) (Or.inl ⟨by rfl, ?_⟩) (by assumption) ?_
          rotate_left
          · intro w hSw
            try dsimp only at hSw
            first | (go_simp; done) | (go_simp; with_reducible rfl)
          change wpAnyH _ _ _ _ _ _ _ (Act.put _ (some 28) _) _
          try simp only [Act.put, List.setIfInBounds_toArray, List.set_cons_zero, List.set_cons_succ]
          refine wpAnyH_ready (rs := [12]) (by kernel_rfl) (by simp) ?_
          refine AllReadyH.cons rfl (fun K hK => ?_) AllReadyH.nil
          go_simp
          go_at_call 58
          refine (HEB.out _ (last7 (by assumption))).mono ?_
          rintro e w3 ⟨rfl, hb3⟩
          have hw3 : Below wr.heap.size wr w3 := Below.trans (last7 (by assumption)) (hb3.mono (Below.size (B := wr.heap.size) (w := wr) (last7 (by assumption))))
          go_wp2_with fail
          refine hK.out _ _ ?_ (fun hHeld => ?_)
          · try dsimp only
            exact HKS.out _ hw3
          clear hK K
          try simp only [Act.put, List.setIfInBounds_toArray, List.set_cons_zero, List.set_cons_succ]
          refine wpAnyH_take (i := 13) (v := ?_) rfl (by kernel_rfl) (by kernel_rfl) (by kernel_rfl) (fun _ _ _ h => h) (Or.inl ⟨by rfl, ?_⟩) (by assumption) ?_
          rotate_left
          · intro w hSw
            try dsimp only at hSw
            first | (go_simp; done) | (go_simp; with_reducible rfl)
          change wpAnyH _ _ _ _ _ _ _ (Act.put _ (some 30) _) _
          try simp only [Act.put, List.setIfInBounds_toArray, List.set_cons_zero, List.set_cons_succ]
          refine wpAnyH_take (i := 14) (v := ?_) rfl (by kernel_rfl) (by kernel_rfl) (by kernel_rfl) (fun _ _ _ h => h) (Or.inl ⟨by rfl, ?_⟩) (by assumption) ?_
          rotate_left
          · intro w hSw
            try dsimp only at hSw
            first | (go_simp; done) | (go_simp; with_reducible rfl)
          change wpAnyH _ _ _ _ _ _ _ (Act.put _ (some 31) _) _
          try simp only [Act.put, List.setIfInBounds_toArray, List.set_cons_zero, List.set_cons_succ]
          refine wpAnyH_done (by kernel_rfl) ?_ _
          all_goals
            have HB2 := Lib.hid (HBA.out.trans (hw3.mono HBA.out.size))
            have t2 := s2.out.later hw3
            have m0 : w3.cell? ⟨g, k * 2, none⟩ = some (.int .u64 (s.a : Int)) := cell_keep hw3 d0
            have m1 : w3.cell? ⟨g, k * 2 + 1, none⟩ = some (.int .u64 (s.b : Int)) := cell_keep hw3 d1
            have f0 := t2.fr 0
            have f1 := t2.fr 1
            have j0 : w3.cell? ⟨w.heap.size + 1 + 1, 0, none⟩ = some (.int .u64 0) := t2.cell 0
            have j1 : w3.cell? ⟨w.heap.size + 1 + 1, 1, none⟩ = some (.int .u64 0) := t2.cell 1
            have hz : w.heap.size + 1 + 1 < w3.heap.size := t2.lt
            go_wp2
            have hbr := (t2.set 0 (.int .u64 (s.a : Int))).set 1 (.int .u64 (s.b : Int))
            have e0 : ((w3.setCell ⟨w.heap.size + 1 + 1, 0, none⟩ (.int .u64 (s.a : Int))).setCell ⟨w.heap.size + 1 + 1, 1, none⟩ (.int .u64 (s.b : Int))).cell? ⟨w.heap.size + 1 + 1, 0, none⟩ = some (.int .u64 (s.a : Int)) := hbr.cell 0
            have e1 : ((w3.setCell ⟨w.heap.size + 1 + 1, 0, none⟩ (.int .u64 (s.a : Int))).setCell ⟨w.heap.size + 1 + 1, 1, none⟩ (.int .u64 (s.b : Int))).cell? ⟨w.heap.size + 1 + 1, 1, none⟩ = some (.int .u64 (s.b : Int)) := hbr.cell 1
            exact bodyPost_ret (v := .tuple #[stv s, .bool true]) (by simp [results, Tryz.results25, go_sem, e0, e1]) rfl ⟨by rw [HR.out]; rfl, (HB2.out.setCell (show w.heap.size ≤ (⟨w.heap.size + 1 + 1, 0, none⟩ : Addr).block by dsimp only; omega) _).setCell (show w.heap.size ≤ (⟨w.heap.size + 1 + 1, 1, none⟩ : Addr).block by dsimp only; omega) _⟩
    · have : k = M.length := by omega
      subst this
      have HR : Hid (cntRef N a b = none) := by
        show _ = _; rw [HE.out]
        exact find_miss HNO.out
      have f0 := s2.out.fr 0
      have f1 := s2.out.fr 1
      have j0 : wr.cell? ⟨w.heap.size + 1 + 1, 0, none⟩ = some (.int .u64 0) := s2.out.cell 0
      have j1 : wr.cell? ⟨w.heap.size + 1 + 1, 1, none⟩ = some (.int .u64 0) := s2.out.cell 1
      have hz : w.heap.size + 1 + 1 < wr.heap.size := s2.out.lt
      go_wp2
      have hbr := (s2.out.set 0 (.int .u64 0)).set 1 (.int .u64 0)
      have e0 : ((wr.setCell ⟨w.heap.size + 1 + 1, 0, none⟩ (.int .u64 0)).setCell ⟨w.heap.size + 1 + 1, 1, none⟩ (.int .u64 0)).cell? ⟨w.heap.size + 1 + 1, 0, none⟩ = some (.int .u64 0) := hbr.cell 0
      have e1 : ((wr.setCell ⟨w.heap.size + 1 + 1, 0, none⟩ (.int .u64 0)).setCell ⟨w.heap.size + 1 + 1, 1, none⟩ (.int .u64 0)).cell? ⟨w.heap.size + 1 + 1, 1, none⟩ = some (.int .u64 0) := hbr.cell 1
      exact bodyPost_ret (v := .tuple #[stv St.zero, .bool false]) (by simp [results, Tryz.results25, go_sem, e0, e1, St.zero]) rfl ⟨by rw [HR.out]; rfl, (HBA.out.setCell (show w.heap.size ≤ (⟨w.heap.size + 1 + 1, 0, none⟩ : Addr).block by dsimp only; omega) _).setCell (show w.heap.size ≤ (⟨w.heap.size + 1 + 1, 1, none⟩ : Addr).block by dsimp only; omega) _⟩
end Go.Proofs.YtfdonhfhcomjaaaGreatDoor
