/- Part of the proofs that laws of censuslaw24 return true for every input, where the tables that the rows list are laid. Texts: Ej. -/
import Derived.Test.YtfmmhjphopikgaaGreatDoorYC32
import Derived.Test.YtfmmhjphopikgaaGreatDoorYC1
set_option maxHeartbeats 8000000
set_option maxRecDepth 100000
set_option linter.unusedSimpArgs false
set_option linter.unusedVariables false
namespace Go.Proofs.YtfmmhjphopikgaaGreatDoor
open Go.RowKit Cen
theorem ze1 (x : Int) (w : World) (h : -9223372036854775807 <= x) (h2 : x <= 9223372036854775807) : Calls Tryz.prog 82 #[.int .i64 x] w fun e w' => e = .returned (.int .i64 (labs x)) /\ w = w' := by
 by_cases h0 : x < 0
 ·have HR : Hid (labs x = -x) := by show _ = _; unfold labs; rw [if_pos h0]
  have hw : IntKind.i64.wrap (-x) = -x := IntWalk.i64_in _ (by omega);clear h h2;go_enter Tryz.func82, Tryz.ntmps82;go_wp2;go_ret;exact ⟨zbb HR.o.symm, rfl⟩
 have HR : Hid (labs x = x) := by show _ = _; unfold labs; rw [if_neg h0]
 clear h h2;go_enter Tryz.func82, Tryz.ntmps82;go_wp2;go_ret;exact ⟨zbb HR.o.symm, rfl⟩
theorem zhr {n : Nat} {f : Nat -> Bool} (h : ∀ j, j < n -> f j = true) : (List.range n).all f = true := by
 rw [List.all_eq_true]; intro j hj; exact h j (List.mem_range.1 hj)
theorem zds {n k : Nat} {f : Nat -> Bool} (hk : k < n) (h : f k = false) : (List.range n).all f = false := by
 rw [Bool.eq_false_iff]; intro hc;have := List.all_eq_true.1 hc k (List.mem_range.2 hk);rw [h] at this; simp at this
theorem zgz (n m : Nat) (hn : n <= 128) (ta : Option Addr) (tc : Nat) (tm : Cl) (aa : Option Addr) (ac : Nat) (at' : List Int) (w : World) (hm : m <= 1073741824) (hl : tm.length <= 1073741824) (hl2 : at'.length <= 1073741824) (hx : IntCells w ta tm) (hy : IntCells w aa at') :
 Calls Tryz.prog 39 #[.agg #[.slice ta tm.length tc, .slice aa at'.length ac], .int .i64 n, .int .i64 m] w fun e w' => e = .returned (.bool (zbk n m ⟨tm, at'⟩)) /\ Below w.heap.size w w' := by
 obtain ⟨w0, hw0⟩ : ∃ w0, w0 = w.alloc (.cells #[.slice ta tm.length tc, .slice aa at'.length ac] 44) := ⟨_, rfl⟩
 have hb0 : Below w.heap.size w w0 := by rw [hw0]; exact (Below.refl _ _).alloc (Nat.le_refl _) _
 have q0 : Blk w0 w.heap.size #[.slice ta tm.length tc, .slice aa at'.length ac] 44 := by rw [hw0]; exact Blk.new w _ _
 have HB0 := lh hb0;have HX := lh (hx.keep hb0);have HY := lh (hy.keep hb0);have k0 := q0.cell 0;have k1 := q0.cell 1;have z0 := q0.lt;have Q0 := lh q0
 have HF1 : Hid (∀ k, k < tm.length -> tmOk n tm k = false -> zbk n m ⟨tm, at'⟩ = false) := fun k hk h => by
  unfold zbk; rw [zds hk h]; rfl
 have HF2 : Hid ((∀ j, j < tm.length -> tmOk n tm j = true) -> zbk n m ⟨tm, at'⟩ = (List.range at'.length).all (ixOk m at')) := fun h => by
  unfold zbk; rw [zhr h]; rfl
 generalize zbk n m ⟨tm, at'⟩ = R at *;clear hx hy hb0 q0;go_enter Tryz.func39, Tryz.ntmps39;go_wp2_with fail;rw [<- hw0];clear hw0;go_wp2_with fail
 go_loopw [7] (fun i wr => ∃ k : Nat, k <= tm.length /\ i = .int .i64 k /\ (∀ j, j < k -> tmOk n tm j = true) /\ wr = w0) (fun i _ => tm.length - (intOf i).toNat)
 case atStart => exact ⟨0, Nat.zero_le _, rfl, fun j h => absurd h (Nat.not_lt_zero _), rfl⟩
 obtain ⟨k, hk, rfl, hno, hwr⟩ := hrel;obtain rfl := hwr;have HN := lh hno;clear hno
 by_cases hlt : k < tm.length
 ·obtain ⟨b1, off1, hae, hc⟩ := HX.o k hlt;have HFK := lh (HF1.o k hlt);have HTK : Hid (tmOk n tm k = ((decide (tm.getD k 0 ≠ 0) && decide (tm.getD k 0 <= n) && decide (-(n : Int) <= tm.getD k 0)) && (List.range k).all fun j => decide (labs (tm.getD j 0) ≠ labs (tm.getD k 0)))) := rfl
  have hki : (k : Int) < (tm.length : Int) := by omega
  generalize tm.getD k 0 = x at hc HTK;subst hae
  by_cases c0 : x = 0
  ·have HR : Hid (R = false) := HFK.o (by rw [HTK.o, c0]; simp);subst c0;go_wp2;go_ret;exact ⟨by rw [HR.o]; rfl, HB0.o⟩
  have d0 : (x == 0) = false := by simpa using c0
  by_cases c1 : (n : Int) < x
  ·have HR : Hid (R = false) := HFK.o (by rw [HTK.o, decide_eq_false (show ¬ x <= n by omega)]; simp);clear c0;go_wp2;go_ret;exact ⟨by rw [HR.o]; rfl, HB0.o⟩
  have c1' : x <= n := by omega
  have hwr : IntKind.i64.wrap (-(n : Int)) = -(n : Int) := IntWalk.i64_in _ (by omega)
  by_cases c2 : x < -(n : Int)
  ·have HR : Hid (R = false) := HFK.o (by rw [HTK.o, decide_eq_false (show ¬ -(n : Int) <= x by omega)]; simp);clear c0;go_wp2;go_ret;exact ⟨by rw [HR.o]; rfl, HB0.o⟩
  have c2' : -(n : Int) <= x := by omega
  have HTK2 : Hid (tmOk n tm k = (List.range k).all fun j => decide (labs (tm.getD j 0) ≠ labs x)) := by
   show _ = _; rw [HTK.o, decide_eq_true c0, decide_eq_true c1', decide_eq_true c2']; rfl
  clear HTK c0;go_wp2_with fail
  go_loopw [9] (fun i wi => ∃ q : Nat, q <= k /\ i = .int .i64 q /\ (∀ j, j < q -> labs (tm.getD j 0) ≠ labs x) /\ wi = wr) (fun i _ => k - (intOf i).toNat)
  case atStart => exact ⟨0, Nat.zero_le _, rfl, fun j h => absurd h (Nat.not_lt_zero _), rfl⟩
  obtain ⟨q, hq, rfl, hno, hwi⟩ := hrel;obtain rfl := hwi;have HN2 := lh hno;clear hno
  by_cases hqk : q < k
  ·obtain ⟨b2, off2, hae2, e0⟩ := HX.o q (by omega);simp only [Option.some.injEq, Addr.mk.injEq, and_true] at hae2;obtain ⟨rfl, rfl⟩ := hae2
   have hqi : (q : Int) < (k : Int) := by omega
   have hql : (q : Int) < (tm.length : Int) := by omega
   have hyb : -(n : Int) <= tm.getD q 0 /\ tm.getD q 0 <= n := by
    have := HN.o q hqk;unfold tmOk at this;simp only [Bool.and_eq_true, decide_eq_true_eq] at this;exact ⟨this.1.2, this.1.1.2⟩
   have HNE : Hid (labs (tm.getD q 0) ≠ labs x -> ∀ j, j < q + 1 -> labs (tm.getD j 0) ≠ labs x) := fun he j hj => by
    by_cases e : j = q
    ·subst e; exact he
    exact HN2.o j (by omega)
   have HFE : Hid (labs (tm.getD q 0) = labs x -> R = false) := fun he => HFK.o (by rw [HTK2.o]; exact zds hqk (by simp [<- List.getD_eq_getElem?_getD, he]))
   generalize tm.getD q 0 = y at e0 hyb HNE HFE;obtain ⟨hy1, hy2⟩ := hyb;have HV1 := lh (fun W => ze1 y W (by omega) (by omega));have HV2 := lh (fun W => ze1 x W (by omega) (by omega))
   by_cases he : labs y = labs x
   ·have HR := lh (HFE.o he)
    have hd : (labs y == labs x) = true := by simpa using he
    go_wp2_with fail;refine (HV1.o _).mono ?_;rintro e wq ⟨rfl, hwq⟩;obtain rfl := hwq;go_wp2_with fail;refine (HV2.o _).mono ?_;rintro e wq ⟨rfl, hwq⟩;obtain rfl := hwq;go_wp2;go_ret;exact ⟨by rw [HR.o]; rfl, HB0.o⟩
   have HNN := lh (HNE.o he)
   have hd : (labs y == labs x) = false := by simpa using he
   clear he;go_wp2_with fail;refine (HV1.o _).mono ?_;rintro e wq ⟨rfl, hwq⟩;obtain rfl := hwq;go_wp2_with fail;refine (HV2.o _).mono ?_;rintro e wq ⟨rfl, hwq⟩;obtain rfl := hwq;go_wp2;go_roundw
   case rel => exact ⟨q + 1, by omega, by go_num, HNN.o, by first | rfl | trivial⟩
   case measure => simp [intOf]; omega
  have hqe : q = k := by omega
  subst hqe
  have HOK : Hid (tmOk n tm q = true) := by show _ = _; rw [HTK2.o]; exact zhr fun j hj => by simpa using HN2.o j hj
  go_wp2;go_roundw
  case rel => exact ⟨q + 1, by omega, by go_num, fun j hj => by
   by_cases e : j = q
   ·subst e; exact HOK.o
   exact HN.o j (by omega), by first | rfl | trivial⟩
  case measure => simp [intOf]; omega
 have hke : k = tm.length := by omega
 subst hke;have HG := lh (HF2.o HN.o);clear HF1 HF2;go_wp2_with fail
 go_loopw [10] (fun i wi => ∃ q : Nat, q <= at'.length /\ i = .int .i64 q /\ (∀ j, j < q -> ixOk m at' j = true) /\ Below wr.heap.size wr wi) (fun i _ => at'.length - (intOf i).toNat)
 case atStart => exact ⟨0, Nat.zero_le _, rfl, fun j h => absurd h (Nat.not_lt_zero _), Below.refl _ _⟩
 obtain ⟨q, hq, rfl, hno, hbi⟩ := hrel
 rename World => wi
 have HN2 := lh hno;have HBI := lh hbi;have T0 := lh (Q0.o.later hbi);have HY2 := lh (HY.o.keep hbi);have j1 := T0.o.cell 1;have jz := T0.o.lt;have HBW := lh (HB0.o.trans (hbi.mono HB0.o.size));clear hno hbi
 by_cases hqa : q < at'.length
 ·obtain ⟨b1, off1, hae, e0⟩ := HY2.o q hqa;subst hae
  have hqi : (q : Int) < (at'.length : Int) := by omega
  have HNE : Hid (ixOk m at' q = true -> ∀ j, j < q + 1 -> ixOk m at' j = true) := fun he j hj => by
   by_cases e : j = q
   ·subst e; exact he
   exact HN2.o j (by omega)
  have HFE : Hid (ixOk m at' q = false -> R = false) := fun he => by rw [HG.o]; exact zds hqa he
  have HIX : Hid (ixOk m at' q = (decide (0 <= at'.getD q 0) && decide (at'.getD q 0 < m) && (decide (q = 0) || decide (at'.getD (q - 1) 0 < at'.getD q 0)))) := rfl;generalize ixOk m at' q = io at *;generalize at'.getD q 0 = x at e0 HIX
  by_cases c1 : x < 0
  ·have HR : Hid (R = false) := HFE.o (by rw [HIX.o, decide_eq_false (show ¬ 0 <= x by omega)]; rfl)
   have d1 : decide (x < 0) = true := by simpa using c1
   go_wp2_with fail
   go_quiet (fail)
   go_wp2;go_ret;exact ⟨by rw [HR.o]; rfl, HBW.o.trans (zad _ _)⟩
  have c1' : 0 <= x := by omega
  have d1 : decide (x < 0) = false := by simpa using c1
  by_cases c2 : (m : Int) <= x
  ·have HR : Hid (R = false) := HFE.o (by rw [HIX.o, decide_eq_false (show ¬ x < m by omega)]; simp)
   have d2 : decide ((m : Int) <= x) = true := by simpa using c2
   clear c1 c1';go_wp2_with fail
   go_quiet (fail)
   go_wp2;go_ret;exact ⟨by rw [HR.o]; rfl, HBW.o.trans (zad _ _)⟩
  have c2' : x < m := by omega
  have d2 : decide ((m : Int) <= x) = false := by simpa using c2
  by_cases c3 : q = 0
  ·have HNN := lh (HNE.o (by rw [HIX.o, decide_eq_true c1', decide_eq_true c2', decide_eq_true c3]; rfl));subst c3;have e0' : wi.cell? ⟨b1, off1, none⟩ = some (.int .i64 x) := e0
   have hqi' : (0 : Int) < (at'.length : Int) := by simpa using hqi
   clear c1 c1' c2 c2' e0 hqi;go_wp2_with fail
   go_quiet (fail)
   go_wp2;go_roundw
   case rel => exact ⟨1, by omega, by go_num, HNN.o, HBI.o.trans (zad _ _)⟩
   case measure => simp [intOf]; omega
  obtain ⟨p, rfl⟩ : ∃ p, q = p + 1 := ⟨q - 1, by omega⟩
  obtain ⟨b2, off2, hae2, e1⟩ := HY2.o p (by omega);simp only [Option.some.injEq, Addr.mk.injEq, and_true] at hae2;obtain ⟨rfl, rfl⟩ := hae2
  have HIX2 : Hid (io = decide (at'.getD p 0 < x)) := by show _ = _; rw [HIX.o, decide_eq_true c1', decide_eq_true c2', decide_eq_false c3]; rfl
  generalize at'.getD p 0 = y at e1 HIX2
  have c3' : (0 : Int) < ((p + 1 : Nat) : Int) := by omega
  have d3 : decide ((0 : Int) < ((p + 1 : Nat) : Int)) = true := by simp
  by_cases c4 : x <= y
  ·have HR : Hid (R = false) := HFE.o (by rw [HIX2.o, decide_eq_false (by omega)])
   have d4 : decide (x <= y) = true := by simpa using c4
   clear c1 c1' c2 c2';go_wp2_with fail
   go_quiet (fail)
   go_wp2;go_ret;exact ⟨by rw [HR.o]; rfl, HBW.o.trans (zad _ _)⟩
  have HNN := lh (HNE.o (by rw [HIX2.o, decide_eq_true (by omega)]))
  have d4 : decide (x <= y) = false := by simpa using c4
  clear c1 c1' c2 c2';go_wp2_with fail
  go_quiet (fail)
  go_wp2;go_roundw
  case rel => exact ⟨p + 1 + 1, by omega, by go_num, HNN.o, HBI.o.trans (zad _ _)⟩
  case measure => simp [intOf]; omega
 have hqe : q = at'.length := by omega
 subst hqe
 have HR : Hid (R = true) := by show _ = _; rw [HG.o]; exact zhr HN2.o
 go_wp2;go_ret;exact ⟨by rw [HR.o]; rfl, HBW.o⟩
end Go.Proofs.YtfmmhjphopikgaaGreatDoor
