/- Part of the proofs that laws return true for every input, where the tables that the rows list are laid. Texts: Tz, Members, MemP, R20, Eg, R20T, Eo, Er. -/
import Derived.Test.YtflhbcnhaeijbaaGreatDoorYH3
import Derived.Lib.TrailingZeros
import Derived.Laws.Bits64b
import Derived.RangeFuncNested
import Derived.RangeFuncBound
import Derived.RangeFuncCalls
import Derived.RangeFuncLeaves
import Derived.Shelf.Abstract
import Derived.Shelf.RegionOpen
import Derived.WalkKit
import Derived.OwnWalkIn
import Derived.TacticsInMore
import Derived.LoopNIn
import Derived.LoopIn
import Derived.Test.YtflhbcnhaeijbaaGreatDoorYH1
import Derived.Test.YtflhbcnhaeijbaaGreatDoorYH2
import Derived.Outline
import Derived.StillTailTactics
import Derived.Test.YtflhbcnhaeijbaaGreatDoorYH6
import Derived.Test.YtflhbcnhaeijbaaGreatDoorYH9
import Derived.BigQuiet
import Derived.Test.YtflhbcnhaeijbaaGreatDoorYH4
import Derived.Deep.DeepCutAuto
import Derived.Deep.RegionHeld3
import Derived.BigRegion
import Derived.Maps.AppendAt
set_option maxHeartbeats 8000000
set_option maxRecDepth 100000
set_option linter.unusedSimpArgs false
set_option linter.unusedVariables false
namespace Go.Proofs.YtflhbcnhaeijbaaGreatDoor
open Go.RowKit Cen
def Dtab (w : World) : Prop := ∀ j, j < 64 -> w.cell? ⟨0, j, none⟩ = some (.int .u8 (Lib.deBruijn64tab.getD j 0 : Nat))
theorem Dtab.keep {w w' : World} (h : Dtab w) (hb : Below w.heap.size w w') : Dtab w' := fun j hj => zaa hb (h j hj)
theorem tz_key (x a : Nat) (hx : x < U64) (hx0 : x ≠ 0) (hlow : x &&& (18446744073709551616 - x) = a) :
 IntKind.u64.wrap (bits BinOp.and IntKind.u64 (x : Int) (IntKind.u64.wrap (-(x : Int))) * 285870213051353865) / 288230376151711744 = ((a * 285870213051353865 % 18446744073709551616 / 288230376151711744 : Nat) : Int) := by
 unfold U64 at hx
 have e1 : IntKind.u64.wrap (-(x : Int)) = ((18446744073709551616 - x : Nat) : Int) := by rw [IntKind.wrap_u64]; omega
 rw [e1, zst (by unfold U64; omega) (by unfold U64; omega), hlow, IntKind.wrap_u64];omega
theorem tz64_core (x k idx : Nat) (w : World) (hx1 : ((x : Int) == 0) = false)
 (key : IntKind.u64.wrap (bits BinOp.and IntKind.u64 (x : Int) (IntKind.u64.wrap (-(x : Int))) * 285870213051353865) / 288230376151711744 = (idx : Int))
 (hi : idx < 64) (hk : k < 64) (hcell : w.cell? ⟨0, idx, none⟩ = some (.int .u8 k)) :
 Calls Tryz.prog 109 #[.int .u64 (x : Int)] w fun e w' => e = .returned (.int .i64 k) /\ w = w' := by
 go_enter Tryz.func109, Tryz.ntmps109;go_wp2_with (simp only [key]);go_ret;exact ⟨rfl, rfl⟩
theorem tz64_any (x : Nat) (hx : x < U64) (hx0 : x ≠ 0) (w : World) (hT : Dtab w) :
 Calls Tryz.prog 109 #[.int .u64 (x : Int)] w fun e w' => e = .returned (.int .i64 (Lib.ctz 64 x : Nat)) /\ w = w' := by
 obtain ⟨hlow, hk⟩ := Lib.lowest_bit 64 x hx0 (by unfold U64 at hx; exact hx);obtain ⟨hi, htab⟩ := Lib.deBruijn64_at _ hk;have hcell := hT _ hi;rw [htab] at hcell;exact tz64_core x _ _ w (by simp; omega) (tz_key x _ hx hx0 hlow) hi hk hcell
theorem low_off {x i : Nat} (h0 : x ≠ 0) (h : x < 2 ^ 64) : (x &&& (x - 1)).testBit i = (x.testBit i && decide (i ≠ Lib.ctz 64 x)) := by
 obtain ⟨m, hm, _⟩ := Lib.ctzFrom_spec 64 x (by omega) h
 have e : Lib.ctz 64 x = Lib.ctzFrom 64 x := by simp [Lib.ctz, h0]
 rw [e];generalize Lib.ctzFrom 64 x = c at *;have hp : 0 < 2 ^ c := Nat.pow_pos (by omega)
 have e1 : x - 1 = 2 ^ c * (2 * m) + (2 ^ c - 1) := by rw [hm, Nat.mul_add, Nat.mul_one]; omega
 have b1 : ∀ i, x.testBit i = (decide (c <= i) && (2 * m + 1).testBit (i - c)) := fun i => by rw [hm, Nat.mul_comm, Nat.testBit_mul_two_pow]
 have b2 : ∀ i, (x - 1).testBit i = if i < c then true else (2 * m).testBit (i - c) := fun i => by
  rw [e1, Nat.testBit_two_pow_mul_add _ (by omega)]
  split
  ·rename_i h; rw [Nat.testBit_two_pow_sub_one]; simpa using h
  rfl
 rw [Nat.testBit_and, b1, b2]
 by_cases h1 : i < c
 ·rw [decide_eq_false (show ¬ c <= i by omega)]; simp
 rw [if_neg h1, decide_eq_true (show c <= i by omega)]
 by_cases h2 : i = c
 ·subst h2; simp
 rw [decide_eq_true h2, Bool.and_true, Bool.true_and]
 obtain ⟨j, hj⟩ : ∃ j, i - c = j + 1 := ⟨i - c - 1, by omega⟩
 rw [hj, Nat.testBit_succ, Nat.testBit_succ, show (2 * m + 1) / 2 = m by omega, show 2 * m / 2 = m by omega, Bool.and_self]
theorem low_on {x : Nat} (h0 : x ≠ 0) (h : x < 2 ^ 64) : x.testBit (Lib.ctz 64 x) = true /\ (∀ j, j < Lib.ctz 64 x -> x.testBit j = false) /\ Lib.ctz 64 x < 64 := by
 obtain ⟨m, hm, hk⟩ := Lib.ctzFrom_spec 64 x (by omega) h
 have e : Lib.ctz 64 x = Lib.ctzFrom 64 x := by simp [Lib.ctz, h0]
 rw [e];generalize Lib.ctzFrom 64 x = c at *
 have b1 : ∀ i, x.testBit i = (decide (c <= i) && (2 * m + 1).testBit (i - c)) := fun i => by rw [hm, Nat.mul_comm, Nat.testBit_mul_two_pow]
 refine ⟨?_, fun j hj => ?_, hk⟩
 ·rw [b1, decide_eq_true (Nat.le_refl c), Nat.sub_self]; simp
 rw [b1, decide_eq_false (show ¬ c <= j by omega)]; rfl
def bitsL (x : Nat) : List Nat := (List.range 64).filter fun i => x.testBit i
theorem bitsL_nil : bitsL 0 = [] := by unfold bitsL; simp
theorem bitsL_step {x : Nat} (h0 : x ≠ 0) (h : x < 2 ^ 64) : bitsL x = Lib.ctz 64 x :: bitsL (x &&& (x - 1)) := by
 obtain ⟨h1, h2, h3⟩ := low_on h0 h
 have hoff := fun i => low_off (i := i) h0 h
 generalize Lib.ctz 64 x = c at *;unfold bitsL
 have hs : List.range 64 = List.range c ++ (c :: (List.range (63 - c)).map (· + (c + 1))) := by
  apply List.ext_getElem
  ·simp; omega
  intro i a b;rw [List.getElem_range]
  by_cases e1 : i < c
  ·rw [List.getElem_append_left (by simpa using e1), List.getElem_range]
  rw [List.getElem_append_right (by simpa using e1)];simp only [List.length_range]
  by_cases e2 : i = c
  ·subst e2; simp
  obtain ⟨j, hj⟩ : ∃ j, i - c = j + 1 := ⟨i - c - 1, by omega⟩
  simp only [hj, List.getElem_cons_succ, List.getElem_map, List.getElem_range];omega
 have f1 : (List.range c).filter (fun i => x.testBit i) = [] := by
  rw [List.filter_eq_nil_iff]; intro i hi; rw [h2 i (List.mem_range.1 hi)]; simp
 have f2 : (List.range c).filter (fun i => (x &&& (x - 1)).testBit i) = [] := by
  rw [List.filter_eq_nil_iff]; intro i hi; rw [hoff, h2 i (List.mem_range.1 hi)]; simp
 rw [hs, List.filter_append, List.filter_append, f1, f2, List.filter_cons, List.filter_cons, if_pos h1, if_neg (by rw [hoff]; simp), List.nil_append, List.nil_append]
 congr 1
 refine List.filter_congr fun i hi => ?_
 rw [List.mem_map] at hi;obtain ⟨j, _, rfl⟩ := hi;rw [hoff, decide_eq_true (show j + (c + 1) ≠ c by omega), Bool.and_true]
end Go.Proofs.YtflhbcnhaeijbaaGreatDoor
namespace Go.Proofs.YtflhbcnhaeijbaaGreatDoor
open Go.RowKit Go.Shelf Cen
attribute [local go_sem] Oper.semAt_some
def offs (wd : Nat) (x : Nat) : List Int := (bitsL x).map fun i : Nat => 64 * (wd : Int) + (i : Int) + 1
def memS (s : St) : List Int := offs 0 s.a ++ offs 1 s.b
def prefS (s : St) : Nat -> List Int
 | 0 => []
 | 1 => offs 0 s.a
 | _ => memS s
theorem offs_step {x : Nat} (wd : Nat) (h0 : x ≠ 0) (h : x < 2 ^ 64) : offs wd x = (64 * (wd : Int) + (Lib.ctz 64 x : Int) + 1) :: offs wd (x &&& (x - 1)) := by
 unfold offs; rw [bitsL_step h0 h, List.map_cons]
theorem offs_len (wd x : Nat) : (offs wd x).length <= 64 := by
 unfold offs bitsL;rw [List.length_map];have := List.length_filter_le (fun i => x.testBit i) (List.range 64)
 simpa using this
theorem memS_len (s : St) : (memS s).length <= 128 := by
 unfold memS; rw [List.length_append];have := offs_len 0 s.a; have := offs_len 1 s.b; omega
theorem and_sub64 {x : Nat} (h : x < U64) (h0 : x ≠ 0) : bits .and .u64 (x : Int) (IntKind.u64.wrap ((x : Int) - 1)) = ((x &&& (x - 1) : Nat) : Int) := by
 have e : IntKind.u64.wrap ((x : Int) - 1) = ((x - 1 : Nat) : Int) := by
  unfold U64 at h; rw [IntKind.wrap_u64]; omega
 rw [e, zst h (by unfold U64 at *; omega)]
theorem members1_in (n : Nat) (hn : 1 <= n) (l Bs n₀ : Nat) (s : St) (hs : s.ok) (J Jx : List Int -> World -> Prop)
 (hY : ∀ pre x W, J pre W -> pre.length < 128 -> YieldAt Fence.wide (n - 1) Tryz.prog l #[.int .i64 x] W fun e W' =>
   (e = .returned (.bool true) /\ J (pre ++ [x]) W' /\ Below n₀ W W') \/ (e = .returned (.bool false) /\ Jx (pre ++ [x]) W'))
 (W : World) (hB0 : W.cell? ⟨Bs, 0, none⟩ = some (.int .u64 (s.a : Int))) (hB1 : W.cell? ⟨Bs, 1, none⟩ = some (.int .u64 (s.b : Int))) (hT : ∀ V, Below n₀ W V -> Dtab V) (h0 : J [] W) :
 CallsIn Fence.wide n Tryz.prog 108 #[.func (.yield l) #[] #[], .pointer (some ⟨Bs, 0, none⟩)] W fun e W' => (∃ v, e = .returned v) /\
  ((∃ ys, ys = memS s /\ J ys W') \/ (∃ pre, pre <+: memS s /\ Jx pre W')) := by
 have HT := lh hT;have HY := lh hY
 have hi0 : ∀ w, (Instr.index 34 (.agg #[.int .u64 (s.a : Int), .int .u64 (s.b : Int)]) (.int .i64 0)).run Tryz.prog w = .ok (.int .u64 (s.a : Int)) w := fun _ => by kernel_rfl
 have hi1 : ∀ w, (Instr.index 34 (.agg #[.int .u64 (s.a : Int), .int .u64 (s.b : Int)]) (.int .i64 1)).run Tryz.prog w = .ok (.int .u64 (s.b : Int)) w := fun _ => by kernel_rfl
 clear hT hY;refine callsIn_of_wp Tryz.func108 rfl trivial ?_ rfl;simp only [Tryz.ntmps108, List.size_toArray, List.length_cons, List.length_nil, Nat.reduceAdd, Nat.reduceSub, Array.replicate_succ, Array.replicate_zero, List.push_toArray, List.append_toArray, List.nil_append, List.cons_append]
 gi_wp2
 gi_loopw [6] (fun i wr => ((i = .int .i64 0 /\ J (prefS s 0) wr) \/ (i = .int .i64 1 /\ J (prefS s 1) wr) \/ (i = .int .i64 2 /\ J (prefS s 2) wr)) /\ Below n₀ W wr) (fun i _ => 2 - (intOf i).toNat)
 case atStart => exact ⟨.inl ⟨rfl, h0⟩, Below.refl _ _⟩
 obtain ⟨hcase, hb⟩ := hrel;have HB := lh hb;clear hb
 rcases hcase with ⟨rfl, hJ⟩ | ⟨rfl, hJ⟩ | ⟨rfl, hJ⟩
 ·have HJ := lh hJ;clear hJ
  gi_wp2
  obtain ⟨wo, rfl⟩ : ∃ wo : World, wo = wr := ⟨_, rfl⟩
  gi_loopw [4] (fun x wi => ∃ (y : Nat) (pre : List Int), x = .int .u64 (y : Int) /\ y < U64 /\ pre ++ offs 0 y = prefS s 1 /\ J pre wi /\ Below n₀ W wi) (fun x _ => (bitsL (intOf x).toNat).length)
  case atStart => exact ⟨s.a, [], rfl, hs.1, rfl, HJ.o, HB.o⟩
  obtain ⟨wi, rfl⟩ : ∃ wi : World, wi = wr := ⟨_, rfl⟩
  obtain ⟨y, pre, rfl, hy1, hpre, hJi, hbi⟩ := hrel;have HJI := lh hJi;have HBI := lh hbi;have HPRE := lh hpre;have HY1 := lh hy1;clear hJi hbi hpre hy1
  by_cases hy0 : y = 0
  ·subst hy0
   have HE : Hid (pre = prefS s 1) := by
    have h := HPRE.o;rw [show offs 0 0 = [] by unfold offs; rw [bitsL_nil]; rfl, List.append_nil] at h;exact h
   gi_wp2
   go_roundw
   case rel => exact ⟨.inr (.inl ⟨rfl, by rw [<- HE.o]; exact HJI.o⟩), HBI.o⟩
   case measure => simp [intOf]
  have hne : ((y : Int) != 0) = true := by simp; omega
  have hst := offs_step 0 hy0 (by have := HY1.o; unfold U64 at this; exact this);have hbs := bitsL_step hy0 (by have := HY1.o; unfold U64 at this; exact this);have hlo := (low_on hy0 (by have := HY1.o; unfold U64 at this; exact this)).2.2;have hand := and_sub64 HY1.o hy0;have HTZ := lh (fun V (hV : Below n₀ W V) => tz64_any y HY1.o hy0 V (HT.o V hV));have HY2 : Hid ((y &&& (y - 1)) < U64) := zju HY1.o
  have hlen : pre.length < 128 := by
   have h := congrArg List.length HPRE.o;rw [hst, List.length_append, List.length_cons] at h;have h2 := memS_len s;have h3 := offs_len 0 s.a;have h4 : (prefS s 1).length = (offs 0 s.a).length := rfl;omega
  have HPX : Hid ((pre ++ [(Lib.ctz 64 y : Int) + 1]) ++ offs 0 (y &&& (y - 1)) = prefS s 1) := by
   show _ = _
   have h := HPRE.o;rw [hst] at h;rw [List.append_assoc, <- h]
   simp
  have HBS : Hid ((bitsL (y &&& (y - 1))).length < (bitsL y).length) := by show _ < _; rw [hbs]; simp
  generalize Lib.ctz 64 y = c at *
  have hc1 : (c : Int) <= 63 := by omega
  have hc0 : (0 : Int) <= (c : Int) := by omega
  obtain ⟨z, hz⟩ : ∃ z, z = y &&& (y - 1) := ⟨_, rfl⟩
  rw [<- hz] at hand HY2 HPX HBS;obtain ⟨fn, tmps, assign, body, hy, hR⟩ := HY.o pre ((c : Int) + 1) wi HJI.o hlen
  have HPP : Hid (∀ q, pre ++ [(c : Int) + 1] ++ q = prefS s 1 -> pre ++ [(c : Int) + 1] <+: memS s) := lh fun q hq => by
   exact ⟨q ++ offs 1 s.b, by rw [<- List.append_assoc, hq]; rfl⟩
  clear hst hbs hlo hlen hz hy0
  gi_wp2_with (refine ⟨trivial, ?_⟩; gi_at_call 109; refine (callsIn_wide.2 (HTZ.o _ HBI.o)).mono ?_; rintro e w' ⟨rfl, rfl⟩)
  refine hR.mono ?_;rintro e W3 (⟨rfl, hJ3, hk3⟩ | ⟨rfl, hJx3⟩)
  ·have HJ3 := lh hJ3;have HB3 := lh (HBI.o.trans hk3);clear hJ3 hk3
   gi_wp2
   go_roundw
   case rel => exact ⟨z, _, rfl, HY2.o, HPX.o, HJ3.o, HB3.o⟩
   case measure => simpa [intOf] using HBS.o
  have HJX := lh hJx3;clear hJx3
  gi_wp2
  refine bodyPost_ret (results_none rfl _ _ _) rfl ?_;exact ⟨⟨_, rfl⟩, .inr ⟨_, HPP.o _ HPX.o, HJX.o⟩⟩
 ·have HJ := lh hJ;clear hJ
  ·skip
   gi_wp2
   obtain ⟨wo, rfl⟩ : ∃ wo : World, wo = wr := ⟨_, rfl⟩
   gi_loopw [4] (fun x wi => ∃ (y : Nat) (pre : List Int), x = .int .u64 (y : Int) /\ y < U64 /\ pre ++ offs 1 y = prefS s 2 /\ J pre wi /\ Below n₀ W wi) (fun x _ => (bitsL (intOf x).toNat).length)
   case atStart => exact ⟨s.b, offs 0 s.a, rfl, hs.2, rfl, HJ.o, HB.o⟩
   obtain ⟨wi, rfl⟩ : ∃ wi : World, wi = wr := ⟨_, rfl⟩
   obtain ⟨y, pre, rfl, hy1, hpre, hJi, hbi⟩ := hrel;have HJI := lh hJi;have HBI := lh hbi;have HPRE := lh hpre;have HY1 := lh hy1;clear hJi hbi hpre hy1
   by_cases hy0 : y = 0
   ·subst hy0
    have HE : Hid (pre = prefS s 2) := by
     have h := HPRE.o;rw [show offs 1 0 = [] by unfold offs; rw [bitsL_nil]; rfl, List.append_nil] at h;exact h
    gi_wp2
    go_roundw
    case rel => exact ⟨.inr (.inr ⟨rfl, by rw [<- HE.o]; exact HJI.o⟩), HBI.o⟩
    case measure => simp [intOf]
   have hne : ((y : Int) != 0) = true := by simp; omega
   have hst := offs_step 1 hy0 (by have := HY1.o; unfold U64 at this; exact this);have hbs := bitsL_step hy0 (by have := HY1.o; unfold U64 at this; exact this);have hlo := (low_on hy0 (by have := HY1.o; unfold U64 at this; exact this)).2.2;have hand := and_sub64 HY1.o hy0;have HTZ := lh (fun V (hV : Below n₀ W V) => tz64_any y HY1.o hy0 V (HT.o V hV));have HY2 : Hid ((y &&& (y - 1)) < U64) := zju HY1.o
   have hlen : pre.length < 128 := by
    have h := congrArg List.length HPRE.o;rw [hst, List.length_append, List.length_cons] at h;have h2 := memS_len s;have h3 := offs_len 0 s.a;have h4 : (prefS s 2).length = (memS s).length := rfl;omega
   have HPX : Hid ((pre ++ [64 + (Lib.ctz 64 y : Int) + 1]) ++ offs 1 (y &&& (y - 1)) = prefS s 2) := by
    show _ = _
    have h := HPRE.o;rw [hst] at h;rw [List.append_assoc, <- h]
    simp
   have HBS : Hid ((bitsL (y &&& (y - 1))).length < (bitsL y).length) := by show _ < _; rw [hbs]; simp
   generalize Lib.ctz 64 y = c at *
   have hc1 : (c : Int) <= 63 := by omega
   have hc0 : (0 : Int) <= (c : Int) := by omega
   obtain ⟨z, hz⟩ : ∃ z, z = y &&& (y - 1) := ⟨_, rfl⟩
   rw [<- hz] at hand HY2 HPX HBS;obtain ⟨fn, tmps, assign, body, hy, hR⟩ := HY.o pre (64 + (c : Int) + 1) wi HJI.o hlen
   have HPP : Hid (∀ q, pre ++ [64 + (c : Int) + 1] ++ q = prefS s 2 -> pre ++ [64 + (c : Int) + 1] <+: memS s) := lh fun q hq => by
    exact ⟨q, hq⟩
   clear hst hbs hlo hlen hz hy0
   gi_wp2_with (refine ⟨trivial, ?_⟩; gi_at_call 109; refine (callsIn_wide.2 (HTZ.o _ HBI.o)).mono ?_; rintro e w' ⟨rfl, rfl⟩)
   refine hR.mono ?_;rintro e W3 (⟨rfl, hJ3, hk3⟩ | ⟨rfl, hJx3⟩)
   ·have HJ3 := lh hJ3;have HB3 := lh (HBI.o.trans hk3);clear hJ3 hk3
    gi_wp2
    go_roundw
    case rel => exact ⟨z, _, rfl, HY2.o, HPX.o, HJ3.o, HB3.o⟩
    case measure => simpa [intOf] using HBS.o
   have HJX := lh hJx3;clear hJx3
   gi_wp2
   refine bodyPost_ret (results_none rfl _ _ _) rfl ?_;exact ⟨⟨_, rfl⟩, .inr ⟨_, HPP.o _ HPX.o, HJX.o⟩⟩
 have HJ := lh hJ;clear hJ
 ·gi_wp2
  go_end0
  exact ⟨⟨_, rfl⟩, .inl ⟨_, rfl, HJ.o⟩⟩
end Go.Proofs.YtflhbcnhaeijbaaGreatDoor
namespace Go.Proofs.YtflhbcnhaeijbaaGreatDoor
open Cen
theorem offs_mem (wd x : Nat) (v : Int) : v ∈ offs wd x ↔ ∃ i : Nat, i < 64 /\ x.testBit i = true /\ v = 64 * (wd : Int) + i + 1 := by
 unfold offs bitsL;simp only [List.mem_map, List.mem_filter, List.mem_range]
 constructor
 ·rintro ⟨i, ⟨h1, h2⟩, rfl⟩; exact ⟨i, h1, h2, rfl⟩
 rintro ⟨i, h1, h2, rfl⟩; exact ⟨i, ⟨h1, h2⟩, rfl⟩
theorem memS_mem (s : St) (v : Int) : v ∈ memS s ↔ s.mem v = true := by
 unfold memS;rw [List.mem_append, offs_mem, offs_mem]
 constructor
 ·rintro (⟨i, h1, h2, rfl⟩ | ⟨i, h1, h2, rfl⟩)
  ·unfold St.mem; rw [if_pos (by omega)]; rw [show (64 * ((0 : Nat) : Int) + i + 1 - 1).toNat = i by omega]; exact h2
  unfold St.mem; rw [if_neg (by omega), if_pos (by omega)]; rw [show (64 * ((1 : Nat) : Int) + i + 1 - 65).toNat = i by omega]; exact h2
 intro h;unfold St.mem at h
 by_cases a : 1 <= v /\ v <= 64
 ·rw [if_pos a] at h; exact .inl ⟨(v - 1).toNat, by omega, h, by omega⟩
 rw [if_neg a] at h
 by_cases b : 65 <= v /\ v <= 128
 ·rw [if_pos b] at h; exact .inr ⟨(v - 65).toNat, by omega, h, by omega⟩
 rw [if_neg b] at h; simp at h
end Go.Proofs.YtflhbcnhaeijbaaGreatDoor
namespace Go.Proofs.YtflhbcnhaeijbaaGreatDoor
open Go.RowKit Cen
theorem zeg (t : Nt) : zdi t = true ↔ (0 <= t.n /\ t.n <= 128 /\ 1 <= t.l.length /\ t.l.length <= 65536) /\ ∀ j, j < t.l.length -> ndOk (t.l.getD j default) t.n j = true := by
 simp only [zdi, zop, Bool.and_eq_true, decide_eq_true_eq];exact ⟨fun h => ⟨by omega, h.2⟩, fun h => ⟨by omega, h.2⟩⟩
theorem zjw {n : Nat} (hn : n <= 128) : ∀ {t : List Cl}, zd8 n t = 0 ↔ ∀ c ∈ t, c.length <= 128 /\ ∀ x ∈ c, litN n x
 | [] => by simp [zd8]
 | c :: t => by
   rw [zd8]
   have hall : (c.all fun x => zas x n) = true ↔ ∀ x ∈ c, litN n x := by
    rw [List.all_eq_true];exact ⟨fun h x hx => (zc2 hn).1 (h x hx), fun h x hx => (zc2 hn).2 (h x hx)⟩
   by_cases h1 : 128 < c.length
   ·rw [if_pos h1]
    constructor
    ·intro h; simp at h
    intro h; have := (h c (by simp)).1; omega
   rw [if_neg h1]
   by_cases h2 : (c.all fun x => zas x n) = true
   ·rw [if_pos h2, zjw hn]
    constructor
    ·intro h d hd
     rcases List.mem_cons.1 hd with rfl | hd
     ·exact ⟨by omega, hall.1 h2⟩
     exact h d hd
    intro h d hd; exact h d (List.mem_cons_of_mem _ hd)
   rw [if_neg h2]
   constructor
   ·intro h; simp at h
   intro h; exact absurd (hall.2 (h c (by simp)).2) h2
theorem zbu {n : Nat} (hn : n <= 128) {t : List Cl} : chkT n t = 0 ↔ tOk n t := by
 unfold chkT;rw [if_neg (by omega)]
 by_cases h : 4096 < t.length
 ·rw [if_pos h]
  constructor
  ·intro h; simp at h
  intro ht; have := ht.len; omega
 rw [if_neg h, zjw hn];exact ⟨fun k => ⟨by omega, k⟩, fun k => k.cl⟩
def acc (s f : Int -> Bool) (x : Nd) (m : Nat) : Bool := evNd s f ⟨x.kind, x.lit, x.ins.take m⟩
structure PfOk (p : Prf) : Prop where
 n : p.n <= 128
 t : tOk p.n p.t
 N : zdi ⟨p.n, p.N⟩ = true
 C : p.C.length = p.N.length
 cl : ∀ c ∈ p.C, c.tm.length <= 1073741824 /\ c.at'.length <= 1073741824
structure PfB (p : Prf) : Prop where
 ok : PfOk p
 il : ∀ x ∈ p.N, x.ins.length <= 8192
theorem PfB.ins {p : Prf} (h : PfB p) {j : Nat} (hj : j < p.N.length) : (p.N.getD j default).ins.length <= 8192 /\ ∀ i ∈ (p.N.getD j default).ins, 0 <= i /\ i < p.N.length := by
 have hm : p.N.getD j default ∈ p.N := by rw [List.getD_eq_getElem?_getD, List.getElem?_eq_getElem hj]; exact List.getElem_mem hj
 refine ⟨h.il _ hm, fun i hi => ?_⟩;have h1 := ((zeg _).1 h.ok.N).2 j hj;unfold ndOk at h1;rw [Bool.and_eq_true] at h1;have := (zdo.1 h1.1) i hi;omega
end Go.Proofs.YtflhbcnhaeijbaaGreatDoor
