/- Part of the proofs that laws of censuslaw38 return true for every input, where the tables that the rows list are laid. Texts: Lists, Arg2. -/
import Derived.Test.YtfdonhfhcomjaaaGreatDoorZA25
import Derived.Test.YtfdonhfhcomjaaaGreatDoorZC1
import Derived.Test.YtfdonhfhcomjaaaGreatDoorZC2

/- The walk of QueryLists. -/
namespace Go.Proofs.YtfdonhfhcomjaaaGreatDoor
open Go.RowKit Cen
set_option maxHeartbeats 4000000
set_option maxRecDepth 100000
theorem lists_any (n : Int) (a : Option Addr) (cap : Nat) (l : List Nd) (b : Option Addr) (cap2 : Nat) (xs : List Int) (w : World) (hl : l.length ≤ 9223372036854775807) (hx : NdCells0 w a l) (hxs : IntCells w b xs) (hxl : xs.length ≤ 9223372036854775807) (ht : Tab w) :
    Calls Tryz.prog 4 #[.agg #[.int .i64 n, .slice a l.length cap], .slice b xs.length cap2] w fun e w' => e = .returned (.bool true) ∧ Below w.heap.size w w' := by
  have hb0 := (Below.refl w.heap.size w).alloc (Nat.le_refl _) (.cells #[.int .i64 n, .slice a l.length cap] 24)
  have HB0 := Lib.hid hb0
  have HX := Lib.hid (hx.keep hb0)
  have HXS := Lib.hid (hxs.keep hb0)
  have q0 := Lib.hid (Blk.new w #[.int .i64 n, .slice a l.length cap] 24)
  have HLI := Lib.hid (light_any n a cap l _ hl (hx.keep hb0))
  have HT := Lib.hid ht
  have HW := Lib.hid (fun V (hb : Below w.heap.size w V) => works_any V (ht.keep hb))
  clear hb0 hx ht hxs
  cases hli : lightB ⟨n, l⟩ with
  | false =>
    rw [hli] at HLI
    clear hli
    go_enter Tryz.func4, Tryz.ntmps4
    go_wp2_with fail
    refine HLI.out.mono ?_
    rintro e w1 ⟨rfl, hb1⟩
    have B1 := Lib.hid (HB0.out.trans (hb1.mono HB0.out.size))
    clear hb1
    go_wp2_with fail
    refine (HW.out w1 B1.out).mono ?_
    rintro e w2 ⟨rfl, hb2⟩
    have B2 := Lib.hid (B1.out.trans (hb2.mono B1.out.size))
    clear hb2
    go_wp2
    go_ret
    exact ⟨rfl, B2.out⟩
  | true =>
    rw [hli] at HLI
    by_cases h40 : xs.length ≤ 40
    · obtain ⟨hl50, hi50, h8⟩ := lightB_ok hli
      simp only at hl50 hi50 h8
      have d40 : decide ((40 : Int) < (xs.length : Int)) = false := by simp; omega
      have HXN := Lib.hid (HX.out.up fun x hx => by have := hi50 x hx; omega)
      have hl30 : l.length ≤ 1073741824 := by omega
      have hx30 : xs.length ≤ 1073741824 := by omega
      have HSM := Lib.hid (small50 hl50 hi50)
      have H8 := Lib.hid h8
      clear hli hl50 hi50 h8 h40
      go_enter Tryz.func4, Tryz.ntmps4
      go_wp2_with fail
      refine HLI.out.mono ?_
      rintro e w1 ⟨rfl, hb1⟩
      have L1 := Lib.hid hb1
      have B1 := Lib.hid (HB0.out.trans (hb1.mono HB0.out.size))
      have Q1 := Lib.hid (q0.out.later hb1)
      have k0 : w1.cell? ⟨w.heap.size, 0, none⟩ = some (.int .i64 n) := Q1.out.cell 0
      have k1 : w1.cell? ⟨w.heap.size, 1, none⟩ = some (.slice a l.length cap) := Q1.out.cell 1
      have HEN := Lib.hid (entails_any n a cap l b cap2 xs w1 (HXN.out.keep hb1) hl30 (HXS.out.keep hb1) hx30 (fun _ => HSM.out) (HT.out.keep B1.out))
      clear hb1
      go_wp2_with fail
      refine HEN.out.mono ?_
      rintro e w2 ⟨rfl, hb2⟩
      have L2 := Lib.hid (L1.out.trans (hb2.mono L1.out.size))
      have B2 := Lib.hid (B1.out.trans (hb2.mono B1.out.size))
      have Q2 := Lib.hid (Q1.out.later hb2)
      clear k0 k1
      have k0 : w2.cell? ⟨w.heap.size, 0, none⟩ = some (.int .i64 n) := Q2.out.cell 0
      have k1 : w2.cell? ⟨w.heap.size, 1, none⟩ = some (.slice a l.length cap) := Q2.out.cell 1
      have HIM := Lib.hid (implies_any n a cap l b cap2 xs w2 (HXN.out.keep L2.out) hl30 (HXS.out.keep L2.out) hx30 (fun _ => HSM.out) (fun hc _ => cheap_cost (show n ≤ 20 by have := H8.out (chkR_ok hc).1; omega) _ _) (HT.out.keep B2.out))
      clear hb2
      go_wp2_with fail
      refine HIM.out.mono ?_
      rintro e w3 ⟨rfl, hb3⟩
      have L3 := Lib.hid (L2.out.trans (hb3.mono L2.out.size))
      have B3 := Lib.hid (B2.out.trans (hb3.mono B2.out.size))
      have Q3 := Lib.hid (Q2.out.later hb3)
      clear k0 k1
      have k0 : w3.cell? ⟨w.heap.size, 0, none⟩ = some (.int .i64 n) := Q3.out.cell 0
      have k1 : w3.cell? ⟨w.heap.size, 1, none⟩ = some (.slice a l.length cap) := Q3.out.cell 1
      have HCK := Lib.hid (rCheck_any n a cap l b cap2 xs w3 (HXN.out.keep L3.out) hl30 (HXS.out.keep L3.out) hx30)
      clear hb3
      by_cases hc : chkR xs ⟨n, l⟩ = 0
      · obtain ⟨hok, _, _⟩ := chkR_ok hc
        obtain ⟨hn0, hn1, _, _⟩ := netOk_head hok
        simp only at hn0 hn1
        obtain ⟨N, rfl⟩ := Int.eq_ofNat_of_zero_le hn0
        have hN8 : N ≤ 16 := by have := H8.out hok; omega
        have HOK := Lib.hid hok
        have HEC := Lib.hid (ent_ref hN8 hc)
        have HEV := Lib.hid (imp_ref hN8 HSM.out hc)
        have HRC := Lib.hid (fun V h k => rEntails_any N a cap l b cap2 xs V HOK.out hN8 h k hx30)
        have HRV := Lib.hid (fun V h k => rImplies_any N a cap l b cap2 xs V HOK.out hN8 h k hx30)
        rw [HEC.out] at HRC
        rw [HEV.out] at HRV
        rw [hc] at HCK ⊢
        clear hc hok hn0 hn1
        go_wp2_with fail
        refine HCK.out.mono ?_
        rintro e w4 ⟨rfl, hb4⟩
        have L4 := Lib.hid (L3.out.trans (hb4.mono L3.out.size))
        have B4 := Lib.hid (B3.out.trans (hb4.mono B3.out.size))
        have Q4 := Lib.hid (Q3.out.later hb4)
        clear k0 k1 hb4
        have k0 : w4.cell? ⟨w.heap.size, 0, none⟩ = some (.int .i64 N) := Q4.out.cell 0
        have k1 : w4.cell? ⟨w.heap.size, 1, none⟩ = some (.slice a l.length cap) := Q4.out.cell 1
        generalize entR ⟨(N : Int), l⟩ xs = c1 at *
        generalize impR ⟨(N : Int), l⟩ xs = c2 at *
        go_wp2_with fail
        refine (HRC.out w4 (HXN.out.keep L4.out) (HXS.out.keep L4.out)).mono ?_
        rintro e w5 ⟨rfl, hb5⟩
        have L5 := Lib.hid (L4.out.trans (hb5.mono L4.out.size))
        have B5 := Lib.hid (B4.out.trans (hb5.mono B4.out.size))
        have Q5 := Lib.hid (Q4.out.later hb5)
        clear k0 k1 hb5
        have k0 : w5.cell? ⟨w.heap.size, 0, none⟩ = some (.int .i64 N) := Q5.out.cell 0
        have k1 : w5.cell? ⟨w.heap.size, 1, none⟩ = some (.slice a l.length cap) := Q5.out.cell 1
        have hcc : (c1 == c1) = true := by simp
        have hcc2 : (c2 == c2) = true := by simp
        go_wp2_with fail
        refine (HRV.out w5 (HXN.out.keep L5.out) (HXS.out.keep L5.out)).mono ?_
        rintro e w6 ⟨rfl, hb6⟩
        have B6 := Lib.hid (B5.out.trans (hb6.mono B5.out.size))
        clear hb6 k0 k1
        go_wp2_with fail
        refine (HW.out w6 B6.out).mono ?_
        rintro e w7 ⟨rfl, hb7⟩
        have B7 := Lib.hid (B6.out.trans (hb7.mono B6.out.size))
        clear hb7
        go_wp2
        go_ret
        exact ⟨rfl, B7.out⟩
      · have HA : Hid (entR ⟨n, l⟩ xs = false) := by show _ = _; unfold entR; rw [decide_eq_false hc]; rfl
        have HV2 : Hid (impR ⟨n, l⟩ xs = false) := by show _ = _; unfold impR; rw [decide_eq_false hc]; rfl
        have hcb : (chkR xs ⟨n, l⟩ != 0) = true := by simpa using hc
        rw [HA.out, HV2.out]
        generalize chkR xs ⟨n, l⟩ = c at *
        clear hc
        have hcc : (c == c) = true := by simp
        go_wp2_with fail
        refine HCK.out.mono ?_
        rintro e w4 ⟨rfl, hb4⟩
        have B4 := Lib.hid (B3.out.trans (hb4.mono B3.out.size))
        clear k0 k1 hb4
        go_wp2_with fail
        refine (HW.out w4 B4.out).mono ?_
        rintro e w5 ⟨rfl, hb5⟩
        have B5 := Lib.hid (B4.out.trans (hb5.mono B4.out.size))
        clear hb5
        go_wp2
        go_ret
        exact ⟨rfl, B5.out⟩
    · have d40 : decide ((40 : Int) < (xs.length : Int)) = true := by simp; omega
      clear hli h40
      go_enter Tryz.func4, Tryz.ntmps4
      go_wp2_with fail
      refine HLI.out.mono ?_
      rintro e w1 ⟨rfl, hb1⟩
      have B1 := Lib.hid (HB0.out.trans (hb1.mono HB0.out.size))
      clear hb1
      go_wp2_with fail
      refine (HW.out w1 B1.out).mono ?_
      rintro e w2 ⟨rfl, hb2⟩
      have B2 := Lib.hid (B1.out.trans (hb2.mono B1.out.size))
      clear hb2
      go_wp2
      go_ret
      exact ⟨rfl, B2.out⟩
end Go.Proofs.YtfdonhfhcomjaaaGreatDoor

/- Arguments opened: slices of integers, sets; no argument at all. -/
namespace Go.Proofs.YtfdonhfhcomjaaaGreatDoor
open Go.Joins Go.ChangeShapes Go.WideShapes Go.ChangeAt Go.Deep Go.RowKit Cen
set_option maxRecDepth 100000
section
variable {H : Type} {enc : TypeId × Value → H} {W : World} {base : Nat} {spare : Nat → Bool} {held : Bool}
theorem open_isA {r : Reach} {b0 : Nat} {v : Value} {d : DataW H} {p : List MemPlace} (hv : Value.okWide Tryz.prog W r b0 31 v) (h : DataW.Trod enc Tryz.prog W base spare held 31 v d p) :
    ∃ (a : Option Addr) (l : List Int) (cap : Nat), v = .slice a l.length cap ∧ l.length ≤ 9223372036854775807 ∧ IntCells W a l := by
  obtain ⟨a0, la, ca, rfl⟩ := okWide_slice Tryz.underlying31 hv
  obtain ⟨fuel, hf⟩ := h
  obtain ⟨a, l, cap, e, h1, h2, _⟩ := open_is (v := .slice a0 la ca) hf
  exact ⟨a, l, cap, e, h1, h2⟩
theorem trodAll_zero {w : World} {args : Array Value} {ds : List (DataW H)} {ps : List MemPlace} (h : DataW.TrodAll enc Tryz.prog w base spare held [] args.toList ds ps) : args = #[] ∧ ds = [] ∧ ps = [] := by
  obtain ⟨h1, rfl, rfl⟩ := trodAll_nil h
  exact ⟨by cases args; simp_all, rfl, rfl⟩
end
end Go.Proofs.YtfdonhfhcomjaaaGreatDoor
