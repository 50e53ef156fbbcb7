/- Part of the proofs that laws return true for every input, where the tables that the rows list are laid. Texts: ArgS. -/
import Derived.Test.YtlleofjjdhfgcaaGreatDoorYM46
import Derived.Test.YtlleofjjdhfgcaaGreatDoorYM47
set_option maxHeartbeats 8000000
set_option maxRecDepth 100000
set_option linter.unusedSimpArgs false
set_option linter.unusedVariables false
namespace Go.Proofs.YtlleofjjdhfgcaaGreatDoor
open Go.Joins Go.ChangeShapes Go.WideShapes Go.ChangeAt Go.Deep Go.RowKit Cen
def laidOf4 : List (String × DataW Unit) := [("math/bits.deBruijn32tab", Rows.laid_math_bits_deBruijn32tab), ("math/bits.deBruijn64tab", Rows.laid_math_bits_deBruijn64tab), ("internal/strconv.uint64pow10", Rows.laid_internal_strconv_uint64pow10), ("census/censuslaw45.sizes", Rows.laid_census_censuslaw45_sizes)]
theorem zjd : (laidOf4.all fun x => x.2.handleName?.isNone) = true := by kernel_rfl
theorem zk7 {W : World} (h : laidMetH Tryz.prog laidOf4 W) : laidMetH Tryz.prog laidOf W := by
 have h2 := h.filter (fun x => x.1 != "census/censuslaw45.sizes")
 have e : (laidOf4.filter fun x => x.1 != "census/censuslaw45.sizes") = laidOf := by kernel_rfl
 rw [e] at h2;exact h2
def zzt : DataW Unit := .agg (sizesL.map fun p => .agg [.lit (.int .i64 (p.1 : Int)), .lit (.int .i64 (p.2 : Int))])
theorem zhv {W : World} (h : laidMetH Tryz.prog laidOf4 W) : Stab W := by
 have h2 := h.filter (fun x => x.1 == "census/censuslaw45.sizes")
 have e : (laidOf4.filter fun x => x.1 == "census/censuslaw45.sizes") = [("census/censuslaw45.sizes", zzt)] := by kernel_rfl
 rw [e, MakeChecks.laidMetH_plain _ _ _ (by kernel_rfl)] at h2;obtain ⟨ps, ⟨g, t, cs, fuel, p, q, hg, ht, hvar, hd, _, _⟩, _⟩ := h2;obtain rfl := Option.some.inj ((show Tryz.prog.globalNamed "census/censuslaw45.sizes" = some 0 by kernel_rfl).symm.trans hg);obtain rfl := Option.some.inj ((show (Tryz.prog.globals[0]?).map (·.type) = some 28 by kernel_rfl).symm.trans ht);obtain ⟨xs, k, _, hx, hl, hxl, hat⟩ := DataW.trod_array Tryz.underlying28 hd
 have hc2 : Tryz.prog.cellsOf 27 = 2 := by kernel_rfl
 have hc1 : Tryz.prog.cellsOf 3 = 1 := by kernel_rfl
 have hc24 : Tryz.prog.cellsOf 28 = 24 := by kernel_rfl
 rw [hc24] at hl;rw [hc2] at hat
 have hxs : xs.map (·.1) = sizesL.map fun p => .agg [.lit (.int .i64 (p.1 : Int)), .lit (.int .i64 (p.2 : Int))] := by
  have := congrArg Prod.fst hx;simp only [zzt, DataW.agg.injEq] at this;exact this.symm
 intro i hi
 have hsl : sizesL.length = 12 := by decide
 obtain ⟨pi, hpi⟩ : ∃ pi, sizesL[i]? = some pi := ⟨_, List.getElem?_eq_getElem (by omega)⟩
 obtain ⟨y, hy⟩ : ∃ y, xs[i]? = some y := ⟨_, List.getElem?_eq_getElem (by omega)⟩
 have hy1 : y.1 = .agg [.lit (.int .i64 (pi.1 : Int)), .lit (.int .i64 (pi.2 : Int))] := by
  have h3 := congrArg (·[i]?) hxs;simp only [List.getElem?_map, hy, hpi, Option.map_some, Option.some.injEq] at h3;exact h3
 have h4 := hat i hi;rw [hy] at h4;obtain ⟨ys, k2, _, hz, hl2, hyl, hat2⟩ := DataW.trod_array Tryz.underlying27 h4;rw [hc1] at hat2;rw [hz] at hy1;simp only [DataW.agg.injEq] at hy1;have g0 := hat2 0 (by omega);have g1 := hat2 1 (by omega)
 obtain ⟨b0, b1, rfl⟩ : ∃ b0 b1, ys = [b0, b1] := by
  match ys, hyl with
  | [b0, b1], _ => exact ⟨b0, b1, rfl⟩
 simp only [List.getElem?_cons_zero, List.getElem?_cons_succ] at g0 g1;simp only [List.map_cons, List.map_nil, List.cons.injEq, and_true] at hy1;obtain ⟨z0, f0, e0, _⟩ := DataW.trod_int Tryz.underlying3 g0;obtain ⟨z1, f1, e1, _⟩ := DataW.trod_int Tryz.underlying3 g1;rw [e0, e1] at hy1;simp only [DataW.lit.injEq, Lit.int.injEq, true_and] at hy1;obtain ⟨rfl, rfl⟩ := hy1
 have c0 : cs.toList[i * 2]? = some (.int .i64 (pi.1 : Int)) := by
  have := congrArg (·[0]?) f0
  simpa [List.getElem?_take, List.getElem?_drop] using this
 have c1 : cs.toList[i * 2 + 1]? = some (.int .i64 (pi.2 : Int)) := by
  have := congrArg (·[0]?) f1
  simpa [List.getElem?_take, List.getElem?_drop] using this
 have hd2 : sizesL.getD i (0, 0) = pi := by rw [List.getD_eq_getElem?_getD, hpi]; rfl
 rw [hd2];exact ⟨by rw [World.var?_cell hg hvar, <- c0, Array.getElem?_toList], by rw [World.var?_cell hg hvar, <- c1, Array.getElem?_toList]⟩
end Go.Proofs.YtlleofjjdhfgcaaGreatDoor
