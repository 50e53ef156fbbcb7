/- Part 25 of 26 of the proof that censuslaw38.QueryFacts returns true for every input, where the tables that the row lists are laid. Texts: Facts, Arg. -/
import Derived.Test.YtfdonhfhcomjaaaGreatDoorZA24
import Derived.Test.YtfdonhfhcomjaaaGreatDoorRows
import Derived.ProofKit
import Derived.LaidMore
import Derived.LaidSub
import Derived.OpenShut
import Derived.Stop.Joined
import Derived.Deep.Slices
import Derived.Deep.Fields
import Derived.Lib.SmallJoins
import Derived.Lib.LaidTab
import Derived.Lay

/- The walks of light and of QueryFacts. -/
namespace Go.Proofs.YtfdonhfhcomjaaaGreatDoor
open Go.RowKit Cen
set_option maxHeartbeats 4000000
set_option maxRecDepth 100000
/-- Nodes that can be read, of whatever size. -/
def NdCells0 (w : World) (a : Option Addr) (l : List Nd) : Prop :=
  ∀ i, i < l.length → ∃ b off, a = some ⟨b, off, none⟩ ∧ w.cell? ⟨b, off + i * 3, none⟩ = some (.int .i64 (l.getD i default).kind) ∧ w.cell? ⟨b, off + i * 3 + 1, none⟩ = some (.int .i64 (l.getD i default).lit) ∧
    ∃ av cv, w.cell? ⟨b, off + i * 3 + 2, none⟩ = some (.slice av (l.getD i default).ins.length cv) ∧ IntCells w av (l.getD i default).ins ∧ (l.getD i default).ins.length ≤ 9223372036854775807
theorem NdCells0.up {w : World} {a : Option Addr} {l : List Nd} (h : NdCells0 w a l) (hs : ∀ x ∈ l, x.ins.length ≤ 1073741824) : NdCells w a l := by
  intro i hi
  obtain ⟨b, off, e, c0, c1, av, cv, c2, c3, _⟩ := h i hi
  have e2 : l.getD i default = l[i] := by simp [List.getD_eq_getElem?_getD, hi]
  exact ⟨b, off, e, c0, c1, av, cv, c2, c3, by rw [e2]; exact hs _ (List.getElem_mem hi)⟩
theorem NdCells0.keep {w w' : World} {a : Option Addr} {l : List Nd} (h : NdCells0 w a l) (hb : Below w.heap.size w w') : NdCells0 w' a l := by
  intro i hi
  obtain ⟨b, off, e, c0, c1, av, cv, c2, c3, c4⟩ := h i hi
  exact ⟨b, off, e, cell_keep hb c0, cell_keep hb c1, av, cv, cell_keep hb c2, c3.keep hb, c4⟩
def lightB (t : Nt) : Bool := decide (t.l.length ≤ 50) && ((t.l.all fun x => decide (x.ins.length ≤ 50)) && (decide (t.n ≤ 8) || !netOk t))
theorem lightB_ok {t : Nt} (h : lightB t = true) : t.l.length ≤ 50 ∧ (∀ x ∈ t.l, x.ins.length ≤ 50) ∧ (netOk t = true → t.n ≤ 8) := by
  unfold lightB at h
  simp only [Bool.and_eq_true, Bool.or_eq_true, decide_eq_true_eq, List.all_eq_true, Bool.not_eq_true'] at h
  refine ⟨h.1, h.2.1, fun ho => ?_⟩
  rcases h.2.2 with h3 | h3
  · exact h3
  · rw [ho] at h3; simp at h3
theorem light_any (n : Int) (a : Option Addr) (cap : Nat) (l : List Nd) (w : World) (hl : l.length ≤ 9223372036854775807) (hx : NdCells0 w a l) :
    Calls Tryz.prog 11 #[.agg #[.int .i64 n, .slice a l.length cap]] w fun e w' => e = .returned (.bool (lightB ⟨n, l⟩)) ∧ Below w.heap.size w w' := by
  have hb0 := (Below.refl w.heap.size w).alloc (Nat.le_refl _) (.cells #[.int .i64 n, .slice a l.length cap] 24)
  have HB0 := Lib.hid hb0
  have HX := Lib.hid (hx.keep hb0)
  have q0 := Lib.hid (Blk.new w #[.int .i64 n, .slice a l.length cap] 24)
  clear hb0 hx
  by_cases h1 : l.length ≤ 50
  · have d1 : decide ((50 : Int) < (l.length : Int)) = false := by simp; omega
    go_enter Tryz.func11, Tryz.ntmps11
    go_wp2
    generalize w.alloc (.cells #[.int .i64 n, .slice a l.length cap] 24) = W at *
    have k0 : W.cell? ⟨w.heap.size, 0, none⟩ = some (.int .i64 n) := q0.out.cell 0
    have k1 : W.cell? ⟨w.heap.size, 1, none⟩ = some (.slice a l.length cap) := q0.out.cell 1
    clear d1
    go_loop [3] (fun i => ∃ k : Nat, k ≤ l.length ∧ i = .int .i64 k ∧ ∀ j, j < k → decide ((l.getD j default).ins.length ≤ 50) = true) (fun i => l.length - (intOf i).toNat)
    case atStart => exact ⟨0, Nat.zero_le _, rfl, fun j h => absurd h (Nat.not_lt_zero _)⟩
    case round =>
      obtain ⟨k, hk, rfl, hno⟩ := hrel
      have HN := Lib.hid hno
      clear hno
      by_cases hlt : k < l.length
      · obtain ⟨b, off, rfl, _, _, av, cv, c2, _, hil⟩ := HX.out k hlt
        generalize hxd : l.getD k default = x at *
        have HXD := Lib.hid hxd
        clear hxd
        by_cases h50 : x.ins.length ≤ 50
        · have d2 : decide ((50 : Int) < (x.ins.length : Int)) = false := by simp; omega
          have H50 := Lib.hid h50
          clear h50
          go_wp2
          go_round
          case rel => exact ⟨k + 1, by omega, by go_num, fun j hj => by
            by_cases e : j = k
            · subst e; rw [HXD.out]; simpa using H50.out
            · exact HN.out j (by omega)⟩
          case measure => simp [intOf]; omega
        · have d2 : decide ((50 : Int) < (x.ins.length : Int)) = true := by simp; omega
          have HR : Hid (lightB ⟨n, l⟩ = false) := by
            show _ = _; unfold lightB
            rw [all_false (p := fun x : Nd => decide (x.ins.length ≤ 50)) hlt (by rw [HXD.out]; simpa using h50)]; simp
          clear h50
          go_wp2
          go_ret
          exact ⟨ret_bool HR.out.symm, HB0.out⟩
      · have : k = l.length := by omega
        subst this
        have HALL : Hid ((l.all fun x => decide (x.ins.length ≤ 50)) = true) := all_true HN.out
        have HXU := Lib.hid (HX.out.up fun x hx => by have := List.all_eq_true.1 HALL.out x hx; simp at this; omega)
        by_cases h8 : n ≤ 8
        · have d3 : decide (n ≤ 8) = true := by simpa using h8
          have HR : Hid (lightB ⟨n, l⟩ = true) := by
            show _ = _; unfold lightB; rw [decide_eq_true h1, HALL.out, d3]; rfl
          clear h8
          go_wp2
          go_ret
          exact ⟨ret_bool HR.out.symm, HB0.out⟩
        · have d3 : decide (n ≤ 8) = false := by simpa using h8
          have HR : Hid (lightB ⟨n, l⟩ = !netOk ⟨n, l⟩) := by
            show _ = _; unfold lightB; rw [decide_eq_true h1, HALL.out, d3]; rfl
          have HV := Lib.hid (rValid_any n a cap l W (by omega) HXU.out)
          clear h8
          go_wp2_with fail
          refine HV.out.mono ?_
          rintro e w1 ⟨rfl, hb1⟩
          have HB1 := Lib.hid (HB0.out.trans (hb1.mono HB0.out.size))
          clear hb1
          go_wp2
          go_ret
          exact ⟨ret_bool (by rw [HR.out]), HB1.out⟩
  · have d1 : decide ((50 : Int) < (l.length : Int)) = true := by simp; omega
    have HR : Hid (lightB ⟨n, l⟩ = false) := by show _ = _; unfold lightB; rw [decide_eq_false h1]; rfl
    clear h1
    go_enter Tryz.func11, Tryz.ntmps11
    go_wp2
    go_ret
    exact ⟨ret_bool HR.out.symm, HB0.out⟩
theorem small50 {l : List Nd} (h1 : l.length ≤ 50) (h2 : ∀ x ∈ l, x.ins.length ≤ 50) : Small l := ⟨by omega, fun x hx => by have := h2 x hx; omega⟩
theorem facts_any (n : Int) (a : Option Addr) (cap : Nat) (l : List Nd) (w : World) (hl : l.length ≤ 9223372036854775807) (hx : NdCells0 w a l) (ht : Tab w) :
    Calls Tryz.prog 3 #[.agg #[.int .i64 n, .slice a l.length cap]] w fun e w' => e = .returned (.bool true) ∧ Below w.heap.size w w' := by
  have hb0 := (Below.refl w.heap.size w).alloc (Nat.le_refl _) (.cells #[.int .i64 n, .slice a l.length cap] 24)
  have HB0 := Lib.hid hb0
  have HX := Lib.hid (hx.keep hb0)
  have q0 := Lib.hid (Blk.new w #[.int .i64 n, .slice a l.length cap] 24)
  have HLI := Lib.hid (light_any n a cap l _ hl (hx.keep hb0))
  have HT := Lib.hid ht
  have HW := Lib.hid (fun V (hb : Below w.heap.size w V) => works_any V (ht.keep hb))
  clear hb0 hx ht
  cases hli : lightB ⟨n, l⟩ with
  | false =>
    rw [hli] at HLI
    clear hli
    go_enter Tryz.func3, Tryz.ntmps3
    go_wp2_with fail
    refine HLI.out.mono ?_
    rintro e w1 ⟨rfl, hb1⟩
    have B1 := Lib.hid (HB0.out.trans (hb1.mono HB0.out.size))
    clear hb1
    go_wp2_with fail
    refine (HW.out w1 B1.out).mono ?_
    rintro e w2 ⟨rfl, hb2⟩
    have B2 := Lib.hid (B1.out.trans (hb2.mono B1.out.size))
    clear hb2
    go_wp2
    go_ret
    exact ⟨rfl, B2.out⟩
  | true =>
    rw [hli] at HLI
    obtain ⟨hl50, hi50, h8⟩ := lightB_ok hli
    simp only at hl50 hi50 h8
    have HXN := Lib.hid (HX.out.up fun x hx => by have := hi50 x hx; omega)
    have hl30 : l.length ≤ 1073741824 := by omega
    have HSM := Lib.hid (small50 hl50 hi50)
    have H8 := Lib.hid h8
    clear hli hl50 hi50 h8
    go_enter Tryz.func3, Tryz.ntmps3
    go_wp2_with fail
    refine HLI.out.mono ?_
    rintro e w1 ⟨rfl, hb1⟩
    have L1 := Lib.hid hb1
    have B1 := Lib.hid (HB0.out.trans (hb1.mono HB0.out.size))
    have Q1 := Lib.hid (q0.out.later hb1)
    have k0 : w1.cell? ⟨w.heap.size, 0, none⟩ = some (.int .i64 n) := Q1.out.cell 0
    have k1 : w1.cell? ⟨w.heap.size, 1, none⟩ = some (.slice a l.length cap) := Q1.out.cell 1
    have HCO := Lib.hid (consistent_any n a cap l w1 (HXN.out.keep hb1) hl30 (fun _ => HSM.out) (HT.out.keep B1.out))
    clear hb1
    go_wp2_with fail
    refine HCO.out.mono ?_
    rintro e w2 ⟨rfl, hb2⟩
    have L2 := Lib.hid (L1.out.trans (hb2.mono L1.out.size))
    have B2 := Lib.hid (B1.out.trans (hb2.mono B1.out.size))
    have Q2 := Lib.hid (Q1.out.later hb2)
    clear k0 k1
    have k0 : w2.cell? ⟨w.heap.size, 0, none⟩ = some (.int .i64 n) := Q2.out.cell 0
    have k1 : w2.cell? ⟨w.heap.size, 1, none⟩ = some (.slice a l.length cap) := Q2.out.cell 1
    have HVA := Lib.hid (valid_any n a cap l w2 (HXN.out.keep L2.out) hl30 (fun _ => HSM.out) (fun hc _ => cheap_cost (show n ≤ 20 by have := H8.out (chkR_ok hc).1; omega) _ _) (HT.out.keep B2.out))
    clear hb2
    go_wp2_with fail
    refine HVA.out.mono ?_
    rintro e w3 ⟨rfl, hb3⟩
    have L3 := Lib.hid (L2.out.trans (hb3.mono L2.out.size))
    have B3 := Lib.hid (B2.out.trans (hb3.mono B2.out.size))
    have Q3 := Lib.hid (Q2.out.later hb3)
    clear k0 k1
    have k0 : w3.cell? ⟨w.heap.size, 0, none⟩ = some (.int .i64 n) := Q3.out.cell 0
    have k1 : w3.cell? ⟨w.heap.size, 1, none⟩ = some (.slice a l.length cap) := Q3.out.cell 1
    have HCK := Lib.hid (rCheck_any n a cap l none 0 [] w3 (HXN.out.keep L3.out) hl30 (IntCells.nil _ _) (by simp))
    clear hb3
    by_cases hc : chkR [] ⟨n, l⟩ = 0
    · obtain ⟨hok, _, _⟩ := chkR_ok hc
      obtain ⟨hn0, hn1, _, _⟩ := netOk_head hok
      simp only at hn0 hn1
      obtain ⟨N, rfl⟩ := Int.eq_ofNat_of_zero_le hn0
      have hN8 : N ≤ 16 := by have := H8.out hok; omega
      have HOK := Lib.hid hok
      have HEC := Lib.hid (cons_ref hN8 hc)
      have HEV := Lib.hid (valid_ref hN8 HSM.out hc)
      have HRC := Lib.hid (fun V h => rConsistent_any N a cap l V HOK.out hN8 h)
      have HRV := Lib.hid (fun V h => rValid38_any N a cap l V HOK.out hN8 h)
      rw [HEC.out] at HRC
      rw [HEV.out] at HRV
      rw [hc] at HCK ⊢
      have HC := Lib.hid hc
      clear hc hok hn0 hn1
      go_wp2_with fail
      refine HCK.out.mono ?_
      rintro e w4 ⟨rfl, hb4⟩
      have L4 := Lib.hid (L3.out.trans (hb4.mono L3.out.size))
      have B4 := Lib.hid (B3.out.trans (hb4.mono B3.out.size))
      have Q4 := Lib.hid (Q3.out.later hb4)
      clear k0 k1 hb4
      have k0 : w4.cell? ⟨w.heap.size, 0, none⟩ = some (.int .i64 N) := Q4.out.cell 0
      have k1 : w4.cell? ⟨w.heap.size, 1, none⟩ = some (.slice a l.length cap) := Q4.out.cell 1
      generalize consR ⟨(N : Int), l⟩ = c1 at *
      generalize impR ⟨(N : Int), l⟩ [] = c2 at *
      go_wp2_with fail
      refine (HRC.out w4 (HXN.out.keep L4.out)).mono ?_
      rintro e w5 ⟨rfl, hb5⟩
      have L5 := Lib.hid (L4.out.trans (hb5.mono L4.out.size))
      have B5 := Lib.hid (B4.out.trans (hb5.mono B4.out.size))
      have Q5 := Lib.hid (Q4.out.later hb5)
      clear k0 k1 hb5
      have k0 : w5.cell? ⟨w.heap.size, 0, none⟩ = some (.int .i64 N) := Q5.out.cell 0
      have k1 : w5.cell? ⟨w.heap.size, 1, none⟩ = some (.slice a l.length cap) := Q5.out.cell 1
      have hcc : (c1 == c1) = true := by simp
      have hcc2 : (c2 == c2) = true := by simp
      go_wp2_with fail
      refine (HRV.out w5 (HXN.out.keep L5.out)).mono ?_
      rintro e w6 ⟨rfl, hb6⟩
      have B6 := Lib.hid (B5.out.trans (hb6.mono B5.out.size))
      clear hb6 k0 k1
      go_wp2_with fail
      refine (HW.out w6 B6.out).mono ?_
      rintro e w7 ⟨rfl, hb7⟩
      have B7 := Lib.hid (B6.out.trans (hb7.mono B6.out.size))
      clear hb7
      go_wp2
      go_ret
      exact ⟨rfl, B7.out⟩
    · have HA : Hid (consR ⟨n, l⟩ = false) := by show _ = _; unfold consR; rw [decide_eq_false hc]; rfl
      have HV2 : Hid (impR ⟨n, l⟩ [] = false) := by show _ = _; unfold impR; rw [decide_eq_false hc]; rfl
      have hcb : (chkR [] ⟨n, l⟩ != 0) = true := by simpa using hc
      rw [HA.out, HV2.out]
      generalize chkR [] ⟨n, l⟩ = c at *
      clear hc
      have hcc : (c == c) = true := by simp
      go_wp2_with fail
      refine HCK.out.mono ?_
      rintro e w4 ⟨rfl, hb4⟩
      have B4 := Lib.hid (B3.out.trans (hb4.mono B3.out.size))
      clear k0 k1 hb4
      go_wp2_with fail
      refine (HW.out w4 B4.out).mono ?_
      rintro e w5 ⟨rfl, hb5⟩
      have B5 := Lib.hid (B4.out.trans (hb5.mono B4.out.size))
      clear hb5
      go_wp2
      go_ret
      exact ⟨rfl, B5.out⟩
end Go.Proofs.YtfdonhfhcomjaaaGreatDoor

/- The rows' common parts: arguments opened to cells; what the laid tables give; the last step where the call made blocks of its own. -/
namespace Go.Proofs.YtfdonhfhcomjaaaGreatDoor
open Go.Joins Go.ChangeShapes Go.WideShapes Go.ChangeAt Go.Deep Go.RowKit Cen
set_option maxRecDepth 100000

theorem ownOf : ownKnob Tryz.prog.godebug = none := by kernel_rfl
theorem laidOutOf : laidOutB Tryz.prog = true := by kernel_rfl

/-- What the rows list. -/
def laidOf : List (String × DataW Unit) := [("math/bits.deBruijn32tab", Rows.laid_math_bits_deBruijn32tab), ("math/bits.deBruijn64tab", Rows.laid_math_bits_deBruijn64tab), ("internal/strconv.uint64pow10", Rows.laid_internal_strconv_uint64pow10)]
theorem laid_plain : (laidOf.all fun x => x.2.handleName?.isNone) = true := by kernel_rfl
theorem tab_of_laid {W : World} (h : laidMetH Tryz.prog laidOf W) : Tab W := by
  have h2 := h.filter (fun x => x.1 == "internal/strconv.uint64pow10")
  have e : (laidOf.filter fun x => x.1 == "internal/strconv.uint64pow10") = ("internal/strconv.uint64pow10", Lib.tabData .u64 Lib.pow10Tab) :: [] := by kernel_rfl
  rw [e, MakeChecks.laidMetH_plain _ _ _ (by kernel_rfl)] at h2
  exact Lib.tabIs_of_head (g := 1) (by kernel_rfl) (by kernel_rfl) Tryz.underlying270 Tryz.underlying36 (by kernel_rfl) (by kernel_rfl) h2

section
variable {H : Type} {enc : TypeId × Value → H} {P : Program} {w : World} {base : Nat} {spare : Nat → Bool} {held : Bool}
theorem open_slice_fields {t e : TypeId} {fs : Array Field} {fuel : Nat} {cs : List Value} {x : DataW H × List MemPlace} (ht : P.underlying t = some (.slice e)) (he : P.underlying e = some (.struct fs))
    (hone : oneCellFields P fs = true) (hC : P.cellsOf e = fs.size) (h : DataW.trod enc P w base spare held fuel t cs = some x) :
    (cs = [.slice none 0 0] ∧ x = (.nil, [])) ∨
    ∃ (a : Addr) (len cap m : Nat) (D : Nat → DataW H) (Pl : Nat → List MemPlace), cs = [.slice (some a) len cap] ∧ base ≤ a.block ∧ len ≤ cap ∧ cap ≤ maxLen ∧ m = (if spare a.block then cap else len) ∧
      x = (.slice ((List.range len).map D) ((List.range (m - len)).map fun j => D (len + j)), MemPlace.row a (m * fs.size) ++ (List.range m).flatMap Pl) ∧
      ∀ i, i < m → ∃ (ys : List (DataW H × List MemPlace)) (n : Nat), D i = .agg (ys.map (·.1)) ∧ Pl i = ys.flatMap (·.2) ∧ ys.length = fs.size ∧
        ∀ (j : Nat) (f : Field), fs[j]? = some f → ∃ (v : Value) (y : DataW H × List MemPlace), w.cell? (a.add (i * fs.size + j)) = some v ∧ ys[j]? = some y ∧ DataW.trod enc P w base spare held n f.type [v] = some y := by
  rcases open_slice ht h with h0 | ⟨a, len, cap, m, n, D, Pl, hcs, hb, hl, hm, hmm, hx, hi⟩
  · exact .inl h0
  · refine .inr ⟨a, len, cap, m, D, Pl, hcs, hb, hl, hm, hmm, by rw [hC] at hx; exact hx, fun i him => ?_⟩
    obtain ⟨cs', hc, ht'⟩ := hi i him
    rw [hC] at hc
    obtain ⟨ys, n', hn', hy, hlen, hyl, hf⟩ := DataW.trod_struct he ht'
    obtain ⟨_, hcl, hat⟩ := World.cells?_some hc
    simp only [Prod.mk.injEq] at hy
    refine ⟨ys, n', hy.1, hy.2, hyl, fun j f hj => ?_⟩
    obtain ⟨ho, hk⟩ := hone_of hone j f hj
    have hjl : j < fs.size := (Array.getElem?_eq_some_iff.1 hj).1
    have hcell := hat j hjl
    have hv : cs'[j]? = some (cs'[j]'(by omega)) := List.getElem?_eq_getElem (by omega)
    have h1 := hf j f hj
    rw [ho, hk] at h1
    have hone' : (cs'.drop j).take 1 = [cs'[j]'(by omega)] := by
      rw [List.drop_eq_getElem_cons (by omega)]
      rfl
    rw [hone'] at h1
    have hys : ys[j]? = some (ys[j]'(by omega)) := List.getElem?_eq_getElem (by omega)
    refine ⟨_, _, ?_, hys, h1.trans hys⟩
    rw [← Go.Deep.add_add, hcell, hv]

theorem post_of_below {f : Func} {s : ChangeSpec} {apart fresh handsOn again : Bool} {W W' : World} {args : Array Value} {v : Value} {ds gs : List (DataW H)} {before pa pv : List MemPlace}
    (hW : DataW.Whole enc P f.params.toList s.vars apart W args.toList ds gs before)
    (hres : ∀ (b : Nat) (sp : Nat → Bool) (hd : Bool), DataW.TrodAll enc P W' b sp hd f.resultTypes.toList (v.resultList f.resultTypes.size) (s.fn H (ds ++ gs)).results [])
    (hargs : ∀ sp : Nat → Bool, (∀ p ∈ before, sp p.block = true) → DataW.TrodAll enc P W' 0 sp true f.params.toList args.toList (s.fn H (ds ++ gs)).args pa)
    (hvars : ∀ sp : Nat → Bool, (∀ p ∈ before, sp p.block = true) → DataW.TrodVars enc P W' sp s.vars (s.fn H (ds ++ gs)).vars pv)
    (hps : before = pa ++ pv) (hb : Below W.heap.size W W')
    (hok : ∀ (j : Nat) (t : TypeId) (r : Value), f.resultTypes[j]? = some t → (v.resultList f.resultTypes.size)[j]? = some r → Value.okWide P W' .any 0 t r) :
    s.post enc P f apart fresh handsOn again W args v W' := by
  have hlt : ∀ p ∈ before, p.block < W.heap.size := fun p hp => hW.lt p hp
  have hold : ∀ p ∈ before, (fun b => decide (b < W.heap.size)) p.block = true := fun p hp => by simpa using hlt p hp
  refine ⟨ds, gs, before, [], pa, pv, hW, hres _ _ _, hargs _ hold, hvars _ hold, World.keptBut_mono (fun p hp => ⟨hp, ?_⟩) (hb.frame (· ∈ before)), fun _ => ?_⟩
  · rw [hps, List.mem_append] at hp
    exact Or.inr hp
  · obtain ⟨_, _, _, _, _, hz, hn⟩ := hW
    refine ⟨hok, _, _, ([] ++ pa) ++ pv, ⟨[] ++ pa, pv, trodAll_append (hargs _ (fun _ _ => rfl)) (hres _ _ _), hvars _ (fun _ _ => rfl), rfl, ?_, ?_⟩, ?_⟩
    · intro b off hp
      have hin : MemPlace.cell b off ∈ before := by rw [hps]; simpa using hp
      rw [hb.frozen (hlt _ hin)]
      exact hz b off hin
    · intro ha
      have := hn ha
      rw [hps] at this
      simpa using this
    · intro p hp _
      rw [hps]
      simpa using hp
end

/-- From one thing for every index to a list of them. -/
theorem list_of {α : Type} [Inhabited α] {Q : Nat → α → Prop} : ∀ (n : Nat), (∀ i, i < n → ∃ x, Q i x) → ∃ l : List α, l.length = n ∧ ∀ i, i < n → Q i (l.getD i default)
  | 0, _ => ⟨[], rfl, fun i h => absurd h (Nat.not_lt_zero _)⟩
  | n + 1, h => by
    obtain ⟨l, hl, hq⟩ := list_of n fun i hi => h i (by omega)
    obtain ⟨x, hx⟩ := h n (by omega)
    refine ⟨l ++ [x], by simp [hl], fun i hi => ?_⟩
    by_cases e : i < n
    · have : (l ++ [x]).getD i default = l.getD i default := by simp [List.getD_eq_getElem?_getD, List.getElem?_append_left (show i < l.length by omega)]
      rw [this]; exact hq i e
    · have e2 : i = n := by omega
      subst e2
      have : (l ++ [x]).getD i default = x := by simp [List.getD_eq_getElem?_getD, ← hl]
      rw [this]; exact hx

theorem addr_of {w : World} {a : Addr} {n : Nat} {v : Value} (h : w.cell? (a.add n) = some v) : w.cell? ⟨a.block, a.off + n, none⟩ = some v := by
  by_cases e : n = 0
  · subst e
    have h2 : w.cell? a = some v := h
    obtain ⟨b, o, s⟩ := a
    cases s with
    | none => exact h2
    | some k =>
      exfalso
      unfold World.cell? at h2
      split at h2 <;> simp at h2
  · simpa [Addr.add, e] using h
theorem spot_of {w : World} {a : Addr} {v : Value} (h : w.cell? (a.add 0) = some v) : a = ⟨a.block, a.off, none⟩ := by
  obtain ⟨b, o, s⟩ := a
  cases s with
  | none => rfl
  | some k =>
    exfalso
    unfold World.cell? Addr.add at h
    split at h <;> simp at h

section
variable {H : Type} {enc : TypeId × Value → H} {W : World} {base : Nat} {spare : Nat → Bool} {held : Bool}
theorem open_is {fuel : Nat} {v : Value} {x : DataW H × List MemPlace} (h : DataW.trod enc Tryz.prog W base spare held fuel 31 [v] = some x) :
    ∃ (a : Option Addr) (l : List Int) (cap : Nat), v = .slice a l.length cap ∧ l.length ≤ 9223372036854775807 ∧ IntCells W a l ∧ ∀ z ∈ l, (Lit.int .i64 z).wf = true := by
  rcases open_ints Tryz.underlying31 Tryz.underlying3 (by kernel_rfl) h with ⟨hcs, _⟩ | ⟨a, len, cap, zs, hcs, _, hl, hm, hz, _, hc, hw⟩
  · simp only [List.cons.injEq, and_true] at hcs
    subst hcs
    exact ⟨none, [], 0, rfl, by simp, IntCells.nil _ _, by simp⟩
  · simp only [List.cons.injEq, and_true] at hcs
    subst hcs
    have hlz : len ≤ zs.length := by rw [hz]; split <;> omega
    have hlt : (zs.take len).length = len := by simp; omega
    refine ⟨some a, zs.take len, cap, by rw [hlt], ?_, fun i hi => ?_, fun z hzz => hw z (List.mem_of_mem_take hzz)⟩
    · rw [hlt]
      have : maxLen = 9223372036854775807 := rfl
      omega
    · rw [hlt] at hi
      have e : (zs.take len).getD i 0 = zs.getD i 0 := by simp [List.getD_eq_getElem?_getD, hi]
      have ea := spot_of (hc 0 (by omega))
      exact ⟨a.block, a.off, by rw [← ea], by rw [e]; exact addr_of (hc i (by omega))⟩
theorem open_nds {fuel : Nat} {v : Value} {x : DataW H × List MemPlace} (h : DataW.trod enc Tryz.prog W base spare held fuel 22 [v] = some x) :
    ∃ (a : Option Addr) (l : List Nd) (cap : Nat), v = .slice a l.length cap ∧ l.length ≤ 9223372036854775807 ∧ NdCells0 W a l := by
  rcases open_slice_fields Tryz.underlying22 Tryz.underlying73 (by kernel_rfl) (by kernel_rfl) h with ⟨hcs, _⟩ | ⟨a, len, cap, m, D, Pl, hcs, _, hl, hm, hmm, _, hi⟩
  · simp only [List.cons.injEq, and_true] at hcs
    subst hcs
    exact ⟨none, [], 0, rfl, by simp, fun i h => absurd h (Nat.not_lt_zero _)⟩
  · simp only [List.cons.injEq, and_true] at hcs
    subst hcs
    have hlm : len ≤ m := by rw [hmm]; split <;> omega
    clear hmm
    have each : ∀ i, i < len → ∃ x : Nd, W.cell? (a.add (i * 3)) = some (.int .i64 x.kind) ∧ W.cell? (a.add (i * 3 + 1)) = some (.int .i64 x.lit) ∧
        ∃ av cv, W.cell? (a.add (i * 3 + 2)) = some (.slice av x.ins.length cv) ∧ IntCells W av x.ins ∧ x.ins.length ≤ 9223372036854775807 := by
      intro i hil
      obtain ⟨ys, n, _, _, _, hf⟩ := hi i (by omega)
      obtain ⟨v0, y0, c0, _, t0⟩ := hf 0 _ rfl
      obtain ⟨v1, y1, c1, _, t1⟩ := hf 1 _ rfl
      obtain ⟨v2, y2, c2, _, t2⟩ := hf 2 _ rfl
      obtain ⟨z0, e0, _, _⟩ := DataW.trod_int Tryz.underlying3 t0
      obtain ⟨z1, e1, _, _⟩ := DataW.trod_int Tryz.underlying3 t1
      obtain ⟨av, li, cv, e2, h2, h3, _⟩ := open_is t2
      simp only [List.cons.injEq, and_true] at e0 e1
      subst e0; subst e1; subst e2
      exact ⟨⟨z0, z1, li⟩, c0, c1, av, cv, c2, h3, h2⟩
    obtain ⟨l, hll, hq⟩ := list_of len each
    refine ⟨some a, l, cap, by rw [hll], ?_, fun i hil => ?_⟩
    · have : maxLen = 9223372036854775807 := rfl
      omega
    · rw [hll] at hil
      obtain ⟨c0, c1, av, cv, c2, h3, h2⟩ := hq i hil
      have ea := spot_of (by have := (hq 0 (by omega)).1; simpa using this)
      exact ⟨a.block, a.off, by rw [← ea], addr_of c0, addr_of c1, av, cv, addr_of c2, h3, h2⟩
theorem open_net {r : Reach} {b0 : Nat} {v : Value} {d : DataW H} {p : List MemPlace} (hv : Value.okWide Tryz.prog W r b0 24 v) (h : DataW.Trod enc Tryz.prog W base spare held 24 v d p) :
    ∃ (n : Int) (a : Option Addr) (l : List Nd) (cap : Nat), v = .agg #[.int .i64 n, .slice a l.length cap] ∧ l.length ≤ 9223372036854775807 ∧ NdCells0 W a l ∧ (Lit.int .i64 n).wf = true := by
  obtain ⟨v0, v1, y0, y1, n, rfl, _, _, t0, t1⟩ := open_agg2 Tryz.underlying24 (by kernel_rfl) (by kernel_rfl) hv h
  obtain ⟨z0, e0, _, w0⟩ := DataW.trod_int Tryz.underlying3 t0
  obtain ⟨a, l, cap, e1, h1, h2⟩ := open_nds t1
  simp only [List.cons.injEq, and_true] at e0
  subst e0; subst e1
  exact ⟨z0, a, l, cap, rfl, h1, h2, w0⟩
end
end Go.Proofs.YtfdonhfhcomjaaaGreatDoor
