/- Part of the proofs that laws return true for every input, where the tables that the rows list are laid. Texts: Tz, Members, Memb, First, Ha, Hb, Oc, Hh. -/
import Derived.Lib.TrailingZeros
import Derived.RangeFuncNested
import Derived.RangeFuncBound
import Derived.Test.YtlleofjjdhfgcaaGreatDoorYM9
set_option maxHeartbeats 8000000
set_option maxRecDepth 100000
set_option linter.unusedSimpArgs false
set_option linter.unusedVariables false
namespace Go.Proofs.YtlleofjjdhfgcaaGreatDoor
open Go.RowKit Cen
def Dtab (w : World) : Prop := ∀ j, j < 64 -> w.cell? ⟨1, j, none⟩ = some (.int .u8 (Lib.deBruijn64tab.getD j 0 : Nat))
theorem Dtab.keep {w w' : World} (h : Dtab w) (hb : Below w.heap.size w w') : Dtab w' := fun j hj => zab hb (h j hj)
theorem ydk (x a : Nat) (hx : x < U64) (hx0 : x ≠ 0) (hlow : x &&& (18446744073709551616 - x) = a) :
 IntKind.u64.wrap (bits BinOp.and IntKind.u64 (x : Int) (IntKind.u64.wrap (-(x : Int))) * 285870213051353865) / 288230376151711744 = ((a * 285870213051353865 % 18446744073709551616 / 288230376151711744 : Nat) : Int) := by
 unfold U64 at hx
 have e1 : IntKind.u64.wrap (-(x : Int)) = ((18446744073709551616 - x : Nat) : Int) := by rw [IntKind.wrap_u64]; omega
 rw [e1, ztt (by unfold U64; omega) (by unfold U64; omega), hlow, IntKind.wrap_u64];omega
theorem zwe (x k idx : Nat) (w : World) (hx1 : ((x : Int) == 0) = false)
 (key : IntKind.u64.wrap (bits BinOp.and IntKind.u64 (x : Int) (IntKind.u64.wrap (-(x : Int))) * 285870213051353865) / 288230376151711744 = (idx : Int))
 (hi : idx < 64) (hk : k < 64) (hcell : w.cell? ⟨1, idx, none⟩ = some (.int .u8 k)) :
 Calls Tryz.prog 151 #[.int .u64 (x : Int)] w fun e w' => e = .returned (.int .i64 k) /\ w = w' := by
 go_enter Tryz.func151, Tryz.ntmps151;go_wp2_with (simp only [key]);go_ret;exact ⟨rfl, rfl⟩
theorem zr1 (x : Nat) (hx : x < U64) (hx0 : x ≠ 0) (w : World) (hT : Dtab w) :
 Calls Tryz.prog 151 #[.int .u64 (x : Int)] w fun e w' => e = .returned (.int .i64 (Lib.ctz 64 x : Nat)) /\ w = w' := by
 obtain ⟨hlow, hk⟩ := Lib.lowest_bit 64 x hx0 (by unfold U64 at hx; exact hx);obtain ⟨hi, htab⟩ := Lib.deBruijn64_at _ hk;have hcell := hT _ hi;rw [htab] at hcell;exact zwe x _ _ w (by simp; omega) (ydk x _ hx hx0 hlow) hi hk hcell
theorem ybc {x i : Nat} (h0 : x ≠ 0) (h : x < 2 ^ 64) : (x &&& (x - 1)).testBit i = (x.testBit i && decide (i ≠ Lib.ctz 64 x)) := by
 obtain ⟨m, hm, _⟩ := Lib.ctzFrom_spec 64 x (by omega) h
 have e : Lib.ctz 64 x = Lib.ctzFrom 64 x := by simp [Lib.ctz, h0]
 rw [e];generalize Lib.ctzFrom 64 x = c at *;have hp : 0 < 2 ^ c := Nat.pow_pos (by omega)
 have e1 : x - 1 = 2 ^ c * (2 * m) + (2 ^ c - 1) := by rw [hm, Nat.mul_add, Nat.mul_one]; omega
 have b1 : ∀ i, x.testBit i = (decide (c <= i) && (2 * m + 1).testBit (i - c)) := fun i => by rw [hm, Nat.mul_comm, Nat.testBit_mul_two_pow]
 have b2 : ∀ i, (x - 1).testBit i = if i < c then true else (2 * m).testBit (i - c) := fun i => by
  rw [e1, Nat.testBit_two_pow_mul_add _ (by omega)]
  split
  ·rename_i h; rw [Nat.testBit_two_pow_sub_one]; simpa using h
  rfl
 rw [Nat.testBit_and, b1, b2]
 by_cases h1 : i < c
 ·rw [decide_eq_false (show ¬ c <= i by omega)]; simp
 rw [if_neg h1, decide_eq_true (show c <= i by omega)]
 by_cases h2 : i = c
 ·subst h2; simp
 rw [decide_eq_true h2, Bool.and_true, Bool.true_and]
 obtain ⟨j, hj⟩ : ∃ j, i - c = j + 1 := ⟨i - c - 1, by omega⟩
 rw [hj, Nat.testBit_succ, Nat.testBit_succ, show (2 * m + 1) / 2 = m by omega, show 2 * m / 2 = m by omega, Bool.and_self]
theorem zvc {x : Nat} (h0 : x ≠ 0) (h : x < 2 ^ 64) : x.testBit (Lib.ctz 64 x) = true /\ (∀ j, j < Lib.ctz 64 x -> x.testBit j = false) /\ Lib.ctz 64 x < 64 := by
 obtain ⟨m, hm, hk⟩ := Lib.ctzFrom_spec 64 x (by omega) h
 have e : Lib.ctz 64 x = Lib.ctzFrom 64 x := by simp [Lib.ctz, h0]
 rw [e];generalize Lib.ctzFrom 64 x = c at *
 have b1 : ∀ i, x.testBit i = (decide (c <= i) && (2 * m + 1).testBit (i - c)) := fun i => by rw [hm, Nat.mul_comm, Nat.testBit_mul_two_pow]
 refine ⟨?_, fun j hj => ?_, hk⟩
 ·rw [b1, decide_eq_true (Nat.le_refl c), Nat.sub_self]; simp
 rw [b1, decide_eq_false (show ¬ c <= j by omega)]; rfl
def zff (x : Nat) : List Nat := (List.range 64).filter fun i => x.testBit i
theorem zm9 : zff 0 = [] := by unfold zff; simp
theorem zgx {x : Nat} (h0 : x ≠ 0) (h : x < 2 ^ 64) : zff x = Lib.ctz 64 x :: zff (x &&& (x - 1)) := by
 obtain ⟨h1, h2, h3⟩ := zvc h0 h
 have hoff := fun i => ybc (i := i) h0 h
 generalize Lib.ctz 64 x = c at *;unfold zff
 have hs : List.range 64 = List.range c ++ (c :: (List.range (63 - c)).map (· + (c + 1))) := by
  apply List.ext_getElem
  ·simp; omega
  intro i a b;rw [List.getElem_range]
  by_cases e1 : i < c
  ·rw [List.getElem_append_left (by simpa using e1), List.getElem_range]
  rw [List.getElem_append_right (by simpa using e1)];simp only [List.length_range]
  by_cases e2 : i = c
  ·subst e2; simp
  obtain ⟨j, hj⟩ : ∃ j, i - c = j + 1 := ⟨i - c - 1, by omega⟩
  simp only [hj, List.getElem_cons_succ, List.getElem_map, List.getElem_range];omega
 have f1 : (List.range c).filter (fun i => x.testBit i) = [] := by
  rw [List.filter_eq_nil_iff]; intro i hi; rw [h2 i (List.mem_range.1 hi)]; simp
 have f2 : (List.range c).filter (fun i => (x &&& (x - 1)).testBit i) = [] := by
  rw [List.filter_eq_nil_iff]; intro i hi; rw [hoff, h2 i (List.mem_range.1 hi)]; simp
 rw [hs, List.filter_append, List.filter_append, f1, f2, List.filter_cons, List.filter_cons, if_pos h1, if_neg (by rw [hoff]; simp), List.nil_append, List.nil_append]
 congr 1
 refine List.filter_congr fun i hi => ?_
 rw [List.mem_map] at hi;obtain ⟨j, _, rfl⟩ := hi;rw [hoff, decide_eq_true (show j + (c + 1) ≠ c by omega), Bool.and_true]
end Go.Proofs.YtlleofjjdhfgcaaGreatDoor
namespace Go.Proofs.YtlleofjjdhfgcaaGreatDoor
open Go.RowKit Go.Shelf Cen
attribute [local go_sem] Oper.semAt_some
def offs (wd : Nat) (x : Nat) : List Int := (zff x).map fun i : Nat => 64 * (wd : Int) + (i : Int) + 1
def memS (s : St) : List Int := offs 0 s.a ++ offs 1 s.b
def zha (s : St) : Nat -> List Int
 | 0 => []
 | 1 => offs 0 s.a
 | _ => memS s
theorem zoe {x : Nat} (wd : Nat) (h0 : x ≠ 0) (h : x < 2 ^ 64) : offs wd x = (64 * (wd : Int) + (Lib.ctz 64 x : Int) + 1) :: offs wd (x &&& (x - 1)) := by
 unfold offs; rw [zgx h0 h, List.map_cons]
theorem zic (wd x : Nat) : (offs wd x).length <= 64 := by
 unfold offs zff;rw [List.length_map];have := List.length_filter_le (fun i => x.testBit i) (List.range 64)
 simpa using this
theorem zrg (s : St) : (memS s).length <= 128 := by
 unfold memS; rw [List.length_append];have := zic 0 s.a; have := zic 1 s.b; omega
theorem zm7 {x : Nat} (h : x < U64) (h0 : x ≠ 0) : bits .and .u64 (x : Int) (IntKind.u64.wrap ((x : Int) - 1)) = ((x &&& (x - 1) : Nat) : Int) := by
 have e : IntKind.u64.wrap ((x : Int) - 1) = ((x - 1 : Nat) : Int) := by
  unfold U64 at h; rw [IntKind.wrap_u64]; omega
 rw [e, ztt h (by unfold U64 at *; omega)]
theorem zp2 (n : Nat) (hn : 1 <= n) (l Bs n₀ : Nat) (s : St) (hs : s.ok) (J Jx : List Int -> World -> Prop)
 (hY : ∀ pre x W, J pre W -> pre.length < 128 -> YieldAt Fence.wide (n - 1) Tryz.prog l #[.int .i64 x] W fun e W' =>
   (e = .returned (.bool true) /\ J (pre ++ [x]) W' /\ Below n₀ W W') \/ (e = .returned (.bool false) /\ Jx (pre ++ [x]) W'))
 (W : World) (hB0 : W.cell? ⟨Bs, 0, none⟩ = some (.int .u64 (s.a : Int))) (hB1 : W.cell? ⟨Bs, 1, none⟩ = some (.int .u64 (s.b : Int))) (hT : ∀ V, Below n₀ W V -> Dtab V) (h0 : J [] W) :
 CallsIn Fence.wide n Tryz.prog 150 #[.func (.yield l) #[] #[], .pointer (some ⟨Bs, 0, none⟩)] W fun e W' => (∃ v, e = .returned v) /\
  ((∃ ys, ys = memS s /\ J ys W') \/ (∃ pre, pre <+: memS s /\ Jx pre W')) := by
 have HT := lh hT;have HY := lh hY
 have hi0 : ∀ w, (Instr.index 40 (.agg #[.int .u64 (s.a : Int), .int .u64 (s.b : Int)]) (.int .i64 0)).run Tryz.prog w = .ok (.int .u64 (s.a : Int)) w := fun _ => by kernel_rfl
 have hi1 : ∀ w, (Instr.index 40 (.agg #[.int .u64 (s.a : Int), .int .u64 (s.b : Int)]) (.int .i64 1)).run Tryz.prog w = .ok (.int .u64 (s.b : Int)) w := fun _ => by kernel_rfl
 clear hT hY;refine callsIn_of_wp Tryz.func150 rfl trivial ?_ rfl;simp only [Tryz.ntmps150, List.size_toArray, List.length_cons, List.length_nil, Nat.reduceAdd, Nat.reduceSub, Array.replicate_succ, Array.replicate_zero, List.push_toArray, List.append_toArray, List.nil_append, List.cons_append]
 gi_wp2
 gi_loopw [6] (fun i wr => ((i = .int .i64 0 /\ J (zha s 0) wr) \/ (i = .int .i64 1 /\ J (zha s 1) wr) \/ (i = .int .i64 2 /\ J (zha s 2) wr)) /\ Below n₀ W wr) (fun i _ => 2 - (intOf i).toNat)
 case atStart => exact ⟨.inl ⟨rfl, h0⟩, Below.refl _ _⟩
 obtain ⟨hcase, hb⟩ := hrel;have HB := lh hb;clear hb
 rcases hcase with ⟨rfl, hJ⟩ | ⟨rfl, hJ⟩ | ⟨rfl, hJ⟩
 ·have HJ := lh hJ;clear hJ
  gi_wp2
  obtain ⟨wo, rfl⟩ : ∃ wo : World, wo = wr := ⟨_, rfl⟩
  gi_loopw [4] (fun x wi => ∃ (y : Nat) (pre : List Int), x = .int .u64 (y : Int) /\ y < U64 /\ pre ++ offs 0 y = zha s 1 /\ J pre wi /\ Below n₀ W wi) (fun x _ => (zff (intOf x).toNat).length)
  case atStart => exact ⟨s.a, [], rfl, hs.1, rfl, HJ.o, HB.o⟩
  obtain ⟨wi, rfl⟩ : ∃ wi : World, wi = wr := ⟨_, rfl⟩
  obtain ⟨y, pre, rfl, hy1, hpre, hJi, hbi⟩ := hrel;have HJI := lh hJi;have HBI := lh hbi;have HPRE := lh hpre;have HY1 := lh hy1;clear hJi hbi hpre hy1
  by_cases hy0 : y = 0
  ·subst hy0
   have HE : Hid (pre = zha s 1) := by
    have h := HPRE.o;rw [show offs 0 0 = [] by unfold offs; rw [zm9]; rfl, List.append_nil] at h;exact h
   gi_wp2
   go_roundw
   case rel => exact ⟨.inr (.inl ⟨rfl, by rw [<- HE.o]; exact HJI.o⟩), HBI.o⟩
   case measure => simp [intOf]
  have hne : ((y : Int) != 0) = true := by simp; omega
  have hst := zoe 0 hy0 (by have := HY1.o; unfold U64 at this; exact this);have hbs := zgx hy0 (by have := HY1.o; unfold U64 at this; exact this);have hlo := (zvc hy0 (by have := HY1.o; unfold U64 at this; exact this)).2.2;have hand := zm7 HY1.o hy0;have HTZ := lh (fun V (hV : Below n₀ W V) => zr1 y HY1.o hy0 V (HT.o V hV));have HY2 : Hid ((y &&& (y - 1)) < U64) := zc7 HY1.o
  have hlen : pre.length < 128 := by
   have h := congrArg List.length HPRE.o;rw [hst, List.length_append, List.length_cons] at h;have h2 := zrg s;have h3 := zic 0 s.a;have h4 : (zha s 1).length = (offs 0 s.a).length := rfl;omega
  have HPX : Hid ((pre ++ [(Lib.ctz 64 y : Int) + 1]) ++ offs 0 (y &&& (y - 1)) = zha s 1) := by
   show _ = _
   have h := HPRE.o;rw [hst] at h;rw [List.append_assoc, <- h]
   simp
  have HBS : Hid ((zff (y &&& (y - 1))).length < (zff y).length) := by show _ < _; rw [hbs]; simp
  generalize Lib.ctz 64 y = c at *
  have hc1 : (c : Int) <= 63 := by omega
  have hc0 : (0 : Int) <= (c : Int) := by omega
  obtain ⟨z, hz⟩ : ∃ z, z = y &&& (y - 1) := ⟨_, rfl⟩
  rw [<- hz] at hand HY2 HPX HBS;obtain ⟨fn, tmps, assign, body, hy, hR⟩ := HY.o pre ((c : Int) + 1) wi HJI.o hlen
  have HPP : Hid (∀ q, pre ++ [(c : Int) + 1] ++ q = zha s 1 -> pre ++ [(c : Int) + 1] <+: memS s) := lh fun q hq => by
   exact ⟨q ++ offs 1 s.b, by rw [<- List.append_assoc, hq]; rfl⟩
  clear hst hbs hlo hlen hz hy0
  gi_wp2_with (refine ⟨trivial, ?_⟩; gi_at_call 151; refine (callsIn_wide.2 (HTZ.o _ HBI.o)).mono ?_; rintro e w' ⟨rfl, rfl⟩)
  refine hR.mono ?_;rintro e W3 (⟨rfl, hJ3, hk3⟩ | ⟨rfl, hJx3⟩)
  ·have HJ3 := lh hJ3;have HB3 := lh (HBI.o.trans hk3);clear hJ3 hk3
   gi_wp2
   go_roundw
   case rel => exact ⟨z, _, rfl, HY2.o, HPX.o, HJ3.o, HB3.o⟩
   case measure => simpa [intOf] using HBS.o
  have HJX := lh hJx3;clear hJx3
  gi_wp2
  refine bodyPost_ret (results_none rfl _ _ _) rfl ?_;exact ⟨⟨_, rfl⟩, .inr ⟨_, HPP.o _ HPX.o, HJX.o⟩⟩
 ·have HJ := lh hJ;clear hJ
  ·skip
   gi_wp2
   obtain ⟨wo, rfl⟩ : ∃ wo : World, wo = wr := ⟨_, rfl⟩
   gi_loopw [4] (fun x wi => ∃ (y : Nat) (pre : List Int), x = .int .u64 (y : Int) /\ y < U64 /\ pre ++ offs 1 y = zha s 2 /\ J pre wi /\ Below n₀ W wi) (fun x _ => (zff (intOf x).toNat).length)
   case atStart => exact ⟨s.b, offs 0 s.a, rfl, hs.2, rfl, HJ.o, HB.o⟩
   obtain ⟨wi, rfl⟩ : ∃ wi : World, wi = wr := ⟨_, rfl⟩
   obtain ⟨y, pre, rfl, hy1, hpre, hJi, hbi⟩ := hrel;have HJI := lh hJi;have HBI := lh hbi;have HPRE := lh hpre;have HY1 := lh hy1;clear hJi hbi hpre hy1
   by_cases hy0 : y = 0
   ·subst hy0
    have HE : Hid (pre = zha s 2) := by
     have h := HPRE.o;rw [show offs 1 0 = [] by unfold offs; rw [zm9]; rfl, List.append_nil] at h;exact h
    gi_wp2
    go_roundw
    case rel => exact ⟨.inr (.inr ⟨rfl, by rw [<- HE.o]; exact HJI.o⟩), HBI.o⟩
    case measure => simp [intOf]
   have hne : ((y : Int) != 0) = true := by simp; omega
   have hst := zoe 1 hy0 (by have := HY1.o; unfold U64 at this; exact this);have hbs := zgx hy0 (by have := HY1.o; unfold U64 at this; exact this);have hlo := (zvc hy0 (by have := HY1.o; unfold U64 at this; exact this)).2.2;have hand := zm7 HY1.o hy0;have HTZ := lh (fun V (hV : Below n₀ W V) => zr1 y HY1.o hy0 V (HT.o V hV));have HY2 : Hid ((y &&& (y - 1)) < U64) := zc7 HY1.o
   have hlen : pre.length < 128 := by
    have h := congrArg List.length HPRE.o;rw [hst, List.length_append, List.length_cons] at h;have h2 := zrg s;have h3 := zic 0 s.a;have h4 : (zha s 2).length = (memS s).length := rfl;omega
   have HPX : Hid ((pre ++ [64 + (Lib.ctz 64 y : Int) + 1]) ++ offs 1 (y &&& (y - 1)) = zha s 2) := by
    show _ = _
    have h := HPRE.o;rw [hst] at h;rw [List.append_assoc, <- h]
    simp
   have HBS : Hid ((zff (y &&& (y - 1))).length < (zff y).length) := by show _ < _; rw [hbs]; simp
   generalize Lib.ctz 64 y = c at *
   have hc1 : (c : Int) <= 63 := by omega
   have hc0 : (0 : Int) <= (c : Int) := by omega
   obtain ⟨z, hz⟩ : ∃ z, z = y &&& (y - 1) := ⟨_, rfl⟩
   rw [<- hz] at hand HY2 HPX HBS;obtain ⟨fn, tmps, assign, body, hy, hR⟩ := HY.o pre (64 + (c : Int) + 1) wi HJI.o hlen
   have HPP : Hid (∀ q, pre ++ [64 + (c : Int) + 1] ++ q = zha s 2 -> pre ++ [64 + (c : Int) + 1] <+: memS s) := lh fun q hq => by
    exact ⟨q, hq⟩
   clear hst hbs hlo hlen hz hy0
   gi_wp2_with (refine ⟨trivial, ?_⟩; gi_at_call 151; refine (callsIn_wide.2 (HTZ.o _ HBI.o)).mono ?_; rintro e w' ⟨rfl, rfl⟩)
   refine hR.mono ?_;rintro e W3 (⟨rfl, hJ3, hk3⟩ | ⟨rfl, hJx3⟩)
   ·have HJ3 := lh hJ3;have HB3 := lh (HBI.o.trans hk3);clear hJ3 hk3
    gi_wp2
    go_roundw
    case rel => exact ⟨z, _, rfl, HY2.o, HPX.o, HJ3.o, HB3.o⟩
    case measure => simpa [intOf] using HBS.o
   have HJX := lh hJx3;clear hJx3
   gi_wp2
   refine bodyPost_ret (results_none rfl _ _ _) rfl ?_;exact ⟨⟨_, rfl⟩, .inr ⟨_, HPP.o _ HPX.o, HJX.o⟩⟩
 have HJ := lh hJ;clear hJ
 ·gi_wp2
  go_end0
  exact ⟨⟨_, rfl⟩, .inl ⟨_, rfl, HJ.o⟩⟩
attribute [local go_sem] Oper.semAt_some
theorem zp3 (s : St) (w : World) : Calls Tryz.prog 114 #[stv s] w fun e w' => e = .returned (.func (.func 150) #[] #[.pointer (some ⟨w.heap.size, 0, none⟩)]) /\ w' = w.alloc (.cells #[.int .u64 (s.a : Int), .int .u64 (s.b : Int)] 40) := by
 go_enter Tryz.func114, Tryz.ntmps114;go_wp2;go_ret;exact ⟨rfl, rfl⟩
theorem Dtab.on {w0 W V : World} (h : Dtab w0) (hW : Below w0.heap.size w0 W) (hV : Below w0.heap.size W V) : Dtab V := h.keep (hW.trans hV)
theorem zmn (n : Nat) (hn : 1 <= n) (Bs : Nat) (s : St) (hs : s.ok) (w0 w : World) (hw0 : Below w0.heap.size w0 w) (hT : Dtab w0) (hBs : Bs < w.heap.size)
 (hB0 : w.cell? ⟨Bs, 0, none⟩ = some (.int .u64 (s.a : Int))) (hB1 : w.cell? ⟨Bs, 1, none⟩ = some (.int .u64 (s.b : Int))) :
 SeqStopsK Fence.wide n Tryz.prog 150 #[.pointer (some ⟨Bs, 0, none⟩)] (fun x : Int => #[Value.int .i64 x]) (Below w0.heap.size) (fun ys => ys = memS s) (fun pre => pre <+: memS s) 128 w := fun l J Jx W hW _ _ hY h0 =>
 zp2 n hn l Bs w0.heap.size s hs J Jx hY W ((hW.cell (p := ⟨Bs, 0, none⟩) hBs).trans hB0) ((hW.cell (p := ⟨Bs, 1, none⟩) hBs).trans hB1) (fun _ hV => hT.on (hw0.trans (hW.mono hw0.size)) hV) h0
attribute [local go_sem] Oper.semAt_some
def za4 (s : St) : Int := (memS s).headD 0
theorem zum (s : St) (w : World) (hs : s.ok) (hT : Dtab w) : Calls Tryz.prog 74 #[stv s] w fun e w' => e = .returned (.int .i64 (za4 s)) /\ Below w.heap.size w w' := by
 have HT := lh hT;clear hT;refine (callsIn_wide (n := 3)).1 ?_;refine callsIn_of_wp_marks Tryz.func74 rfl trivial ?_ rfl;simp only [Tryz.ntmps74, List.size_toArray, List.length_cons, List.length_nil, Nat.reduceAdd, Nat.reduceSub, Array.replicate_succ, Array.replicate_zero, List.push_toArray, List.append_toArray, List.nil_append, List.cons_append]
 gi_wp2_with (refine ⟨trivial, ?_⟩; gi_at_call 114; refine (callsIn_wide.2 (zp3 s _)).mono ?_; rintro e w' ⟨rfl, rfl⟩)
 have q1 := (Blk.new' (w.alloc (.cells #[.int .u64 (s.a : Int), .int .u64 (s.b : Int)] 40)) (b := w.heap.size + 1) (by simp only [World.size_alloc]) #[.int .i64 0] 3).alloc (.cells #[.int .u64 (s.a : Int), .int .u64 (s.b : Int)] 40);have hB0 : Below w.heap.size w (((w.alloc (.cells #[.int .u64 (s.a : Int), .int .u64 (s.b : Int)] 40)).alloc (.cells #[.int .i64 0] 3)).alloc (.cells #[.int .u64 (s.a : Int), .int .u64 (s.b : Int)] 40)) := (((Below.refl _ w).alloc (Nat.le_refl _) _).alloc (by simp) _).alloc (by simp; omega) _;have q2 := Blk.new' ((w.alloc (.cells #[.int .u64 (s.a : Int), .int .u64 (s.b : Int)] 40)).alloc (.cells #[.int .i64 0] 3)) (b := w.heap.size + 1 + 1) (by simp only [World.size_alloc]) #[.int .u64 (s.a : Int), .int .u64 (s.b : Int)] 40
 refine wpIn_rangeFunc_ownF rfl (by omega) (gf := 150) (lb := #[.pointer (some ⟨w.heap.size + 1 + 1, 0, none⟩)]) rfl trivial (enters_of Tryz.func150 (by kernel_rfl) rfl)
  (zmn (3 - 1) (by omega) (w.heap.size + 1 + 1) s hs w _ hB0 HT.o q2.lt (q2.cell 0) (q2.cell 1)) belowK_t (belowK_b (by simp; omega)) (Below.refl _ _) (fun _ => rfl)
  (fun pre W => (pre = [] /\ W.cell? ⟨w.heap.size + 1, 0, none⟩ = some (.int .i64 0) /\ W.frozen? ⟨w.heap.size + 1, 0, none⟩ = false) /\ Below w.heap.size w W)
  (fun c pre W => (c = .ret /\ ∃ x, pre = [x] /\ W.cell? ⟨w.heap.size + 1, 0, none⟩ = some (.int .i64 x)) /\ Below w.heap.size w W)
  (OwnFrom.and (Own.from (fun s A B row hs hg hr => ⟨hs.1, cell_kept hs.2.1 hg hr, (frozen_kept hs.2.1 hg hr).trans hs.2.2⟩) _) (ownFrom_below (Nat.le_refl _) (by simp; omega)))
  (fun c => OwnFrom.and (Own.from (fun s A B row hs hg hr => ⟨hs.1, by obtain ⟨_, x, h1, h2⟩ := hs; exact ⟨x, h1, cell_kept h2 hg hr⟩⟩) _) (ownFrom_below (Nat.le_refl _) (by simp; omega)))
  ⟨⟨rfl, q1.cell 0, q1.fr 0⟩, hB0⟩
  (fun x => { tmps := #[stv s, .pointer (some ⟨w.heap.size, 0, none⟩), .pointer (some ⟨w.heap.size + 1, 0, none⟩), .int .i64 x, stv s, .func (.func 150) #[] #[.pointer (some ⟨w.heap.size + 1 + 1, 0, none⟩)], .int .i64 x, undef], defers := [] }) ?assign ?body ?done ?stop
 case assign =>
  intro l x W K hK
  gi_wp2
  exact hK
 case body =>
  rintro l pre x W ⟨⟨rfl, hcr, hfr⟩, hB⟩ _
  gi_wp2
  exact ⟨KeepsOthers.setCell _ _ _, ⟨rfl, x, rfl, World.cell?_setCell_same' _ _ _ (by rw [hcr]; rfl)⟩, hB.setCell (p := ⟨w.heap.size + 1, 0, none⟩) (by simp) _⟩
 case done =>
  rintro D ys W hD rfl ⟨⟨hne, hcr, hfr⟩, hB⟩ hK
  gi_wp2
  have hK' := (KeepsOthers.setCell W ⟨w.heap.size + 1, 0, none⟩ (.int .i64 0)).same D _ hK rfl;refine ⟨by simp, .inl ⟨_, _, rfl, run_takeDeferred hK', ?_⟩⟩;have hc5 := cell_kept (World.cell?_setCell_same' W ⟨w.heap.size + 1, 0, none⟩ (.int .i64 0) (by rw [hcr]; rfl)) (grownBy_putObj' _ D (.deferred none)) (fun r e => by cases e; exact ⟨_, hK', rfl⟩);refine ⟨.int .i64 0, ?_, by unfold za4; rw [hne]; rfl, (hB.setCell (p := ⟨w.heap.size + 1, 0, none⟩) (by simp) _).trans (belowK_b (w := w) (Nat.le_refl _) _ D _ _ (by simp at hD; omega) hK' rfl rfl)⟩
  simp [results, Tryz.f74, go_sem, hc5]
 case stop =>
  rintro D c pre W hD hpre ⟨⟨rfl, x, rfl, hcr⟩, hB⟩ hK
  gi_wp2
  refine ⟨by simp, .inl ⟨_, _, rfl, run_takeDeferred hK, ?_⟩⟩;have hc5 := cell_kept hcr (grownBy_putObj' _ D (.deferred none)) (fun r e => by cases e; exact ⟨_, hK, rfl⟩);refine ⟨.int .i64 x, ?_, by obtain ⟨t, ht⟩ := hpre; unfold za4; rw [<- ht]; rfl, hB.trans (belowK_b (w := w) (Nat.le_refl _) W D _ _ (by simp at hD; omega) hK rfl rfl)⟩
  simp [results, Tryz.f74, go_sem, hc5]
end Go.Proofs.YtlleofjjdhfgcaaGreatDoor
namespace Go.Proofs.YtlleofjjdhfgcaaGreatDoor
open Go.RowKit Cen
def xorS (s t : St) : St := ⟨s.a ^^^ t.a, s.b ^^^ t.b⟩
theorem zlr {x y : Nat} (hx : x < U64) (hy : y < U64) : x ^^^ y < U64 := by rw [zek] at *; exact Nat.xor_lt_two_pow hx hy
theorem yby {s t : St} (h : s.ok) (k : t.ok) : (xorS s t).ok := ⟨zlr h.1 k.1, zlr h.2 k.2⟩
structure Pr where
 v : St
 odd : Bool
instance : Inhabited Pr := ⟨⟨St.zero, false⟩⟩
instance : DecidableEq Pr := fun x y => decidable_of_iff (x.v = y.v /\ x.odd = y.odd) (by cases x; cases y; simp)
def Pr.zero : Pr := ⟨St.zero, false⟩
def Pr.ok (p : Pr) : Prop := p.v.ok
def sumP (p q : Pr) : Pr := ⟨xorS p.v q.v, p.odd != q.odd⟩
theorem zv7 {p q : Pr} (h : p.ok) (k : q.ok) : (sumP p q).ok := yby h k
theorem Pr.zero_ok : Pr.zero.ok := St.zero_ok
def zbs (p : Pr) (rest : List Pr) : List Pr := rest.map fun q => if q.v.mem (za4 p.v) then sumP p q else q
def zbo (p : Pr) (rest : List Pr) : List Pr := (zbs p rest).filter fun q => !decide (q = Pr.zero)
def rdF : Nat -> List Pr -> List Pr -> List Pr × Bool
 | 0, _, out => (out, true)
 | _ + 1, [], out => (out, true)
 | f + 1, p :: rest, out => if za4 p.v = 0 /\ p.odd = true then ([], false) else rdF f (zbo p rest) (if 0 < za4 p.v then out ++ [p] else out)
def zay (l : List Pr) : List Pr × Bool := rdF (l.length + 1) l []
structure Ct where
 e : Nat
 o : Nat
instance : Inhabited Ct := ⟨⟨0, 0⟩⟩
instance : DecidableEq Ct := fun x y => decidable_of_iff (x.e = y.e /\ x.o = y.o) (by cases x; cases y; simp)
def Ct.s (c : Ct) : Nat := c.e + c.o
def zj9 (a b : Ct) : Ct := ⟨a.e * b.e + a.o * b.o, a.e * b.o + a.o * b.e⟩
def znb (a b : Ct) : Option Ct := if a.s < 65536 /\ b.s < 65536 /\ a.s * b.s < 65536 then some (zj9 a b) else none
def addO (a b : Ct) : Option Ct := if a.s + b.s < 65536 then some ⟨a.e + b.e, a.o + b.o⟩ else none
def zmg (k : Nat) (meets : Bool) : Ct := if meets then ⟨2 ^ (k - 1), 2 ^ (k - 1)⟩ else ⟨2 ^ k, 0⟩
theorem yae (a b : Ct) : (zj9 a b).s = a.s * b.s := by
 unfold zj9 Ct.s;simp only [Nat.add_mul, Nat.mul_add]; omega
theorem zgy {a b c : Ct} (h : znb a b = some c) : c = zj9 a b /\ a.s < 65536 /\ b.s < 65536 /\ a.s * b.s < 65536 := by
 unfold znb at h
 split at h
 ·rename_i h1; simp at h; exact ⟨h.symm, h1⟩
 simp at h
theorem ztr {a b c : Ct} (h : addO a b = some c) : c = ⟨a.e + b.e, a.o + b.o⟩ /\ a.s + b.s < 65536 := by
 unfold addO at h
 split at h
 ·rename_i h1; simp at h; exact ⟨h.symm, h1⟩
 simp at h
theorem ydm {x y : Nat} (hx : x < U64) (hy : y < U64) : bits .xor .u64 (x : Int) (y : Int) = ((x ^^^ y : Nat) : Int) := u64_xor_nat x y hx hy
def prv (p : Pr) : Value := .agg #[.int .u64 (p.v.a : Int), .int .u64 (p.v.b : Int), .bool p.odd]
def prc (p : Pr) : List Value := [.int .u64 (p.v.a : Int), .int .u64 (p.v.b : Int), .bool p.odd]
theorem zax (p : Pr) : (prc p).length = 3 := rfl
theorem zp8 (p : Pr) : ∀ u ∈ prc p, u.oneCell' = true := by intro u hu; simp [prc] at hu; rcases hu with rfl | rfl | rfl <;> rfl
theorem zq2 : Elem 38 42 3 24 (prv Pr.zero) := .mk Tryz.underlying38 (by kernel_rfl) rfl (by decide)
abbrev OwnP := OwnL prc 42 3
def PrCells (w : World) (a : Option Addr) (l : List Pr) : Prop := ∀ i, i < l.length -> ∃ b off, a = some ⟨b, off, none⟩ /\ w.cell? ⟨b, off + i * 3, none⟩ = some (.int .u64 ((l.getD i default).v.a : Int)) /\ w.cell? ⟨b, off + i * 3 + 1, none⟩ = some (.int .u64 ((l.getD i default).v.b : Int)) /\ w.cell? ⟨b, off + i * 3 + 2, none⟩ = some (.bool (l.getD i default).odd)
theorem PrCells.keep {w w' : World} {a : Option Addr} {l : List Pr} (h : PrCells w a l) (hb : Below w.heap.size w w') : PrCells w' a l := fun i hi =>
 let ⟨b, off, e, h0, h1, h2⟩ := h i hi; ⟨b, off, e, zab hb h0, zab hb h1, zab hb h2⟩
theorem PrCells.nil (w : World) (a : Option Addr) : PrCells w a [] := fun _ h => absurd h (Nat.not_lt_zero _)
theorem OwnP.pc {w : World} {base : Nat} {v : Value} {l : List Pr} (h : OwnP w base v l) : ∃ a cap, v = .slice a l.length cap /\ PrCells w a l := by
 rcases h.shape with ⟨h1, h2⟩ | ⟨g, cap, h1, _⟩
 ·subst h2; exact ⟨none, 0, h1, PrCells.nil _ _⟩
 subst h1;refine ⟨some ⟨g, 0, none⟩, cap, rfl, fun i hi => ?_⟩
 have e : l.getD i default = l[i] := by simp [List.getD_eq_getElem?_getD, hi]
 have c0 := h.cell rfl zax i 0 hi (by omega);have c1 := h.cell rfl zax i 1 hi (by omega);have c2 := h.cell rfl zax i 2 hi (by omega);rw [e];refine ⟨g, 0, rfl, ?_, ?_, ?_⟩
 ·rw [Nat.zero_add]; exact c0
 ·rw [Nat.zero_add]; exact c1
 rw [Nat.zero_add]; exact c2
theorem zry (p q : Pr) (w : World) (hp : p.ok) (hq : q.ok) :
 Calls Tryz.prog 40 #[prv p, prv q] w fun e w' => e = .returned (prv (sumP p q)) /\ Below w.heap.size w w' := by
 have e1 := ydm hp.1 hq.1;have e2 := ydm hp.2 hq.2;obtain ⟨⟨pa, pb⟩, po⟩ := p;obtain ⟨⟨qa, qb⟩, qo⟩ := q;simp only at e1 e2;clear hp hq;unfold prv;go_enter Tryz.func40, Tryz.ntmps40;go_wp2
 exact bodyPost_ret (v := prv (sumP ⟨⟨pa, pb⟩, po⟩ ⟨⟨qa, qb⟩, qo⟩)) (by simp [results, Tryz.results40, go_sem, sumP, xorS, prv]; cases po <;> cases qo <;> rfl) rfl ⟨rfl, by
  exact ((((((Below.refl _ _).alloc (Nat.le_refl _) _).alloc (by simp) _).alloc (by simp; omega) _))) ⟩
theorem zfj (d : Nat) (a b : Int) (x : Bool) (c e : Int) (y : Bool) (w : World) :
 (Op.equalIn (d + 3) 42 (.agg #[.int .u64 a, .int .u64 b, .bool x]) (.agg #[.int .u64 c, .int .u64 e, .bool y])).run Tryz.prog w = .ok ((a == c && b == e) && x == y) w := by
 have hp0 : ∀ (x y z : Value) w, (part 40 #[x, y, z] 0).run Tryz.prog w = .ok (.agg #[x, y]) w := fun x y z w => by kernel_rfl
 have hp2 : ∀ (x y z : Value) w, (part 4 #[x, y, z] 2).run Tryz.prog w = .ok z w := fun x y z w => by kernel_rfl
 rw [run_equalIn_struct w (d + 2) _ _ _ (by kernel_rfl) (by kernel_rfl)];rw [show (Tryz.prog.fieldsOf 42).toList = [{ name := "Vars", type := 40, offset := 0, embedded := false, tag := "", pkgPath := "", byteOffset := 0 }, { name := "Odd", type := 4, offset := 2, embedded := false, tag := "", pkgPath := "", byteOffset := 16 }] by kernel_rfl];simp only [Op.eqFields, Sem.run_bind, Sem.run_ite, hp0, hp2, Result.andThen_ok, zcf, run_equalIn_bool' w (d + 1) 4 x y Tryz.underlying4]
 by_cases h : (a == c && b == e) = true
 ·rw [h]; cases hxy : (x == y) <;> simp
 rw [Bool.not_eq_true] at h; rw [h]; simp
def eqPr (p q : Pr) : Bool := decide (p = q)
theorem zq3 (p q : Pr) : (((p.v.a : Int) == (q.v.a : Int) && (p.v.b : Int) == (q.v.b : Int)) && p.odd == q.odd) = eqPr p q := by
 unfold eqPr;rw [Bool.eq_iff_iff];obtain ⟨⟨a, b⟩, x⟩ := p;obtain ⟨⟨c, e⟩, y⟩ := q
 simp; omega
theorem zs2 (p q : Pr) (w : World) : (binOp .neq 42 (prv p) (prv q)).run Tryz.prog w = .ok (.bool !(eqPr p q)) w := by
 unfold prv;rw [run_neq_struct, zfj 9997];simp only [Result.andThen_ok, zq3]
theorem zlk (p q : Pr) (w : World) : (binOp .eql 42 (prv p) (prv q)).run Tryz.prog w = .ok (.bool (eqPr p q)) w := by
 unfold prv;rw [run_eql_struct, zfj 9997];simp only [Result.andThen_ok, zq3]
theorem zkx : Tryz.prog.eqGuardType Tryz.prog.depth 42 = false := by kernel_rfl
theorem zoj (p : Pr) (w : World) : Calls Tryz.prog 77 #[prv p] w fun e w' => e = .returned (.bool (!eqPr p Pr.zero)) /\ Below w.heap.size w w' := by
 have hq : ∀ w : World, (binOp .neq 42 (.agg #[.int .u64 (p.v.a : Int), .int .u64 (p.v.b : Int), .bool p.odd]) (.agg #[.int .u64 0, .int .u64 0, .bool false])).run Tryz.prog w = .ok (.bool !(eqPr p Pr.zero)) w := fun w => zs2 p Pr.zero w
 have hgd := zkx;unfold prv;generalize eqPr p Pr.zero = r at *;go_enter Tryz.func77, Tryz.ntmps77;go_wp2;go_ret;exact ⟨rfl, (Below.refl _ _).alloc (Nat.le_refl _) _⟩
def ycx (x : Int) : Int :=
 let a := IntKind.u64.wrap (bits .and .u64 (x / 2) 6148914691236517205 + bits .and .u64 x 6148914691236517205)
 let b := IntKind.u64.wrap (bits .and .u64 (a / 4) 3689348814741910323 + bits .and .u64 a 3689348814741910323)
 let c := bits .and .u64 (IntKind.u64.wrap (b / 16 + b)) 1085102592571150095
 let d := IntKind.u64.wrap (c + c / 256)
 let e := IntKind.u64.wrap (d + d / 65536)
 let f := IntKind.u64.wrap (e + e / 4294967296)
 bits .and .i64 (wrap64 f) 127
theorem zx5 : ∀ x : Nat, x < 256 -> ycx (x : Int) = ((Lib.onesCount x : Nat) : Int) := by decide +kernel
theorem zrk (x : Nat) (hx : x < 256) (w : World) : Calls Tryz.prog 153 #[.int .u64 (x : Int)] w fun e w' => e = .returned (.int .i64 ((Lib.onesCount x : Nat) : Int)) /\ w = w' := by
 have HE := lh (zx5 x hx);clear hx;go_enter Tryz.func153, Tryz.ntmps153;go_wp2;exact bodyPost_ret (v := .int .i64 (ycx (x : Int))) (by simp [results, Tryz.results153, go_sem]; rfl) rfl ⟨by rw [HE.o], rfl⟩
theorem zl9 {B : Nat} (w : World) (n : Nat) : Below B w (w.drewN n) := let h := Below.refl B w; ⟨h.os, h.tape, h.output, h.size, h.block⟩
def lenA (s : St) : Nat := Lib.onesCount s.a
theorem zy3 (s : St) (w : World) (ha : s.a < 256) (hb : s.b = 0) : Calls Tryz.prog 116 #[stv s] w fun e w' => e = .returned (.int .i64 (lenA s : Int)) /\ Below w.heap.size w w' := by
 obtain ⟨a, b⟩ := s;simp only at ha hb;subst hb;have HO := lh (fun V => zrk a ha V)
 have HZ : Hid (∀ V : World, Calls Tryz.prog 153 #[.int .u64 0] V fun e w' => e = .returned (.int .i64 0) /\ V = w') := fun V => by
  have h := zrk 0 (by decide) V;rw [show ((Lib.onesCount 0 : Nat) : Int) = 0 by decide] at h;exact h
 have hle : Lib.onesCount a <= 8 := Lib.onesCount_le8 ⟨a, ha⟩;have HR : Hid (lenA ⟨a, 0⟩ = Lib.onesCount a) := rfl;generalize lenA ⟨a, 0⟩ = r at *;generalize Lib.onesCount a = k at *;unfold stv;simp only;rw [show ((0 : Nat) : Int) = 0 from rfl];clear ha;go_enter Tryz.func116, Tryz.ntmps116;go_wp2_with fail
 go_quiet (first | (with_reducible exact Calls.quiet_of_same ((HO.o _).mono fun _ _ hh => ⟨hh.1, hh.2.symm⟩)) | (with_reducible exact Calls.quiet_of_same ((HZ.o _).mono fun _ _ hh => ⟨hh.1, hh.2.symm⟩)))
 go_wp2;go_ret;exact ⟨by rw [HR.o]; rfl, ((Below.refl _ _).alloc (Nat.le_refl _) _).trans (zl9 _ _)⟩
def U8Cells (w : World) (a : Option Addr) (bs : List Nat) : Prop := ∀ i, i < bs.length -> ∃ b off, a = some ⟨b, off, none⟩ /\ w.cell? ⟨b, off + i, none⟩ = some (.int .u8 ((bs.getD i 0 : Nat) : Int)) /\ bs.getD i 0 < 256
theorem U8Cells.keep {w w' : World} {a : Option Addr} {bs : List Nat} (h : U8Cells w a bs) (hb : Below w.heap.size w w') : U8Cells w' a bs := fun i hi =>
 let ⟨b, off, e, h0, h1⟩ := h i hi; ⟨b, off, e, zab hb h0, h1⟩
def bitN (bs : List Nat) (i : Nat) : Bool := bs.getD (i / 8) 0 / 2 ^ (7 - i % 8) % 2 == 1
def zjy (n m : Int) : Int := if n < 0 \/ 128 < n \/ m < 0 \/ 16 < m then 0 else m * (n + 1)
theorem yac : ∀ b, b < 256 -> ∀ k, k < 8 -> (bits .and .u8 ((b / 2 ^ k : Nat) : Int) 1 == 1) = (b / 2 ^ k % 2 == 1) := by decide +kernel
theorem zv2 (x k : Nat) : ((x : Int) / 2 ^ k) = ((x / 2 ^ k : Nat) : Int) := by rw [Int.natCast_ediv, Int.natCast_pow]; rfl
theorem sh_tmod (x k : Nat) : (((x : Int) / 2 ^ k).tmod 2 == 1) = (x / 2 ^ k % 2 == 1) := by
 rw [zv2, Int.tmod_eq_emod_of_nonneg (Int.natCast_nonneg _), Bool.eq_iff_iff];simp only [beq_iff_eq];omega
theorem bit_any (a : Option Addr) (cap : Nat) (bs : List Nat) (i : Nat) (w : World) (hl : bs.length <= 1073741824) (hx : U8Cells w a bs) (hi : i / 8 < bs.length) :
 Calls Tryz.prog 94 #[.slice a bs.length cap, .int .i64 (i : Int)] w fun e w' => e = .returned (.bool (bitN bs i)) /\ w = w' := by
 obtain ⟨b, off, rfl, c0, hb⟩ := hx _ hi;have HB : Hid (bitN bs i = (bs.getD (i / 8) 0 / 2 ^ (7 - i % 8) % 2 == 1)) := rfl;clear hx;generalize bs.getD (i / 8) 0 = x at *
 obtain ⟨q, hq⟩ : ∃ q, q = i / 8 := ⟨_, rfl⟩
 obtain ⟨r, hr⟩ : ∃ r, r = i % 8 := ⟨_, rfl⟩
 have h8 : r < 8 := by omega
 have e1 : (i : Int) / 8 = (q : Int) := by omega
 have e2 : (i : Int) % 8 = (r : Int) := by omega
 rw [<- hq] at c0 hi;rw [<- hr] at HB
 have hqi : (q : Int) < (bs.length : Int) := by omega
 have hi0 : 0 <= (i : Int) := by omega
 clear hq hr;go_enter Tryz.func94, Tryz.ntmps94;go_wp2;exact bodyPost_ret (v := .bool (((x : Int) / 2 ^ (7 - r)).tmod 2 == 1)) (by simp [results, Tryz.results94, go_sem]) rfl ⟨by rw [HB.o, sh_tmod], rfl⟩
theorem zom (n m : Int) (w : World) : Calls Tryz.prog 30 #[.int .i64 n, .int .i64 m] w fun e w' => e = .returned (.int .i64 (zjy n m)) /\ w = w' := by
 have HS : Hid (zjy n m = if n < 0 \/ 128 < n \/ m < 0 \/ 16 < m then 0 else m * (n + 1)) := rfl
 by_cases h : n < 0 \/ 128 < n \/ m < 0 \/ 16 < m
 ·have HE : Hid (zjy n m = 0) := by show _ = _; rw [HS.o, if_pos h]
  clear HS
  have h1 : n < 0 \/ ¬ n < 0 := by omega
  rcases h1 with h1 | h1
  ·go_enter Tryz.func30, Tryz.ntmps30;go_wp2;go_ret;exact ⟨by rw [HE.o]; rfl, rfl⟩
  have h2 : 128 < n \/ ¬ 128 < n := by omega
  rcases h2 with h2 | h2
  ·go_enter Tryz.func30, Tryz.ntmps30;go_wp2;go_ret;exact ⟨by rw [HE.o]; rfl, rfl⟩
  have h3 : m < 0 \/ ¬ m < 0 := by omega
  rcases h3 with h3 | h3
  ·go_enter Tryz.func30, Tryz.ntmps30;go_wp2;go_ret;exact ⟨by rw [HE.o]; rfl, rfl⟩
  have h4 : 16 < m := by omega
  go_enter Tryz.func30, Tryz.ntmps30;go_wp2;go_ret;exact ⟨by rw [HE.o]; rfl, rfl⟩
 have HE : Hid (zjy n m = m * (n + 1)) := by show _ = _; rw [HS.o, if_neg h]
 have h1 : ¬ n < 0 := by omega
 have h2 : ¬ 128 < n := by omega
 have h3 : ¬ m < 0 := by omega
 have h4 : ¬ 16 < m := by omega
 have h5 : m * (n + 1) <= 2064 := by
  have a1 : m * (n + 1) <= 16 * (n + 1) := Int.mul_le_mul_of_nonneg_right (by omega) (by omega);omega
 have h6 : 0 <= m * (n + 1) := Int.mul_nonneg (by omega) (by omega);clear h HS;go_enter Tryz.func30, Tryz.ntmps30;go_wp2;go_ret;exact ⟨by rw [HE.o]; rfl, rfl⟩
theorem zx1 (A S : Nat) (a : Option Addr) (cap : Nat) (bs : List Nat) (i : Nat) (w : World) (hl : bs.length <= 1073741824) (hx : U8Cells w a bs) (hi : i / 8 < bs.length) (hA : Blk w A #[.int .i64 ((i : Int) - 1)] 3) (hS : Blk w S #[.slice a bs.length cap] 59) (hAS : A ≠ S) (hab : ∀ q, a = some q -> q.block ≠ A) :
 Calls Tryz.prog 61 #[.pointer (some ⟨A, 0, none⟩), .pointer (some ⟨S, 0, none⟩)] w fun e w' => e = .returned (.bool (bitN bs i)) /\ Blk w' A #[.int .i64 (i : Int)] 3 /\ Kp (fun y => y = A) w w' := by
 obtain ⟨b, off, rfl, c0, hb⟩ := hx _ hi;have HB : Hid (bitN bs i = (bs.getD (i / 8) 0 / 2 ^ (7 - i % 8) % 2 == 1)) := rfl;have hbA : b ≠ A := hab _ rfl;clear hx hab;generalize bs.getD (i / 8) 0 = x at *
 obtain ⟨q, hq⟩ : ∃ q, q = i / 8 := ⟨_, rfl⟩
 obtain ⟨r, hr⟩ : ∃ r, r = i % 8 := ⟨_, rfl⟩
 have h8 : r < 8 := by omega
 have e1 : (i : Int) / 8 = (q : Int) := by omega
 have e2 : (i : Int) % 8 = (r : Int) := by omega
 have HE := lh (yac x hb (7 - r) (by omega));rw [<- hq] at c0 hi;rw [<- hr] at HB
 have hqi : (q : Int) < (bs.length : Int) := by omega
 have hi0 : 0 <= (i : Int) := by omega
 have hii : (i : Int) < 8 * 1073741824 := by omega
 clear hq hr;have HA := lh hA;have a0 := hA.cell 0;have af := hA.fr 0;have al := hA.lt;have s0 := hS.cell 0;have sl := hS.lt;clear hA hS;go_enter Tryz.func61, Tryz.ntmps61;go_wp2_with fail;have hw1 : Blk (w.setCell ⟨A, 0, none⟩ (.int .i64 (i : Int))) A #[.int .i64 (i : Int)] 3 := HA.o.set 0 _;have hk1 : Kp (fun y => y = A) w (w.setCell ⟨A, 0, none⟩ (.int .i64 (i : Int))) := Kp.setCell _ _ _ rfl;have HK1 := lh hk1;have HW1 := lh hw1;have d0 := hk1.cell c0 hbA;have d1 := hk1.cell s0 (by dsimp only; omega);have d2 := hw1.cell 0;have z0 := hw1.lt
 have z1 : S < (w.setCell ⟨A, 0, none⟩ (.int .i64 (i : Int))).heap.size := by rw [World.size_setCell']; exact sl
 clear a0 af al s0 sl c0 hk1 hw1 HA;generalize w.setCell ⟨A, 0, none⟩ (.int .i64 (i : Int)) = w1 at *
 go_quiet (fail)
 go_wp2;go_ret;exact ⟨by rw [HB.o, <- HE.o, <- zv2]; rfl, HW1.o.later (zl9 _ _), HK1.o.trans (Kp.below (zl9 _ _))⟩
end Go.Proofs.YtlleofjjdhfgcaaGreatDoor
