/- Parts of the proofs of laws. Texts: Tz, Members, Memb, First, Ha, Hb, Hc, Hm. -/
import Derived.Lib.TrailingZeros
import Derived.RangeFuncNested
import Derived.RangeFuncBound
import Derived.Test.YtlleofjjdhfgcaaGreatDoorYA9
import Derived.Deep.DeepCutAuto
set_option maxHeartbeats 8000000
set_option maxRecDepth 100000
set_option linter.all false
namespace Go.Proofs.YtlleofjjdhfgcaaGreatDoor
open Go.RowKit Cen
def Dtab (w : World) : Prop := ∀ j, j < 64 -> w.cell? ⟨1, j, none⟩ = some (.int .u8 (Lib.deBruijn64tab.getD j 0 : Nat))
theorem Dtab.keep {w w' : World} (h : Dtab w) (hb : Below w.heap.size w w') : Dtab w' := fun j hj => zab hb (h j hj)
theorem ydk (x a : Nat) (hx : x < U64) (hx0 : x ≠ 0) (hlow : x &&& (18446744073709551616 - x) = a) :
 IntKind.u64.wrap (bits BinOp.and IntKind.u64 (x : Int) (IntKind.u64.wrap (-(x : Int))) * 285870213051353865) / 288230376151711744 = ((a * 285870213051353865 % 18446744073709551616 / 288230376151711744 : Nat) : Int) := by
 unfold U64 at hx
 have e1 : IntKind.u64.wrap (-(x : Int)) = ((18446744073709551616 - x : Nat) : Int) := by rw [IntKind.wrap_u64]; omega
 rw [e1, ztt (by unfold U64; omega) (by unfold U64; omega), hlow, IntKind.wrap_u64];omega
theorem zwe (x k idx : Nat) (w : World) (hx1 : ((x : Int) == 0) = false)
 (key : IntKind.u64.wrap (bits BinOp.and IntKind.u64 (x : Int) (IntKind.u64.wrap (-(x : Int))) * 285870213051353865) / 288230376151711744 = (idx : Int))
 (hi : idx < 64) (hk : k < 64) (hcell : w.cell? ⟨1, idx, none⟩ = some (.int .u8 k)) :
 Calls Tryz.prog 151 #[.int .u64 (x : Int)] w fun e w' => e = .returned (.int .i64 k) /\ w = w' := by
 go_enter Tryz.func151, Tryz.ntmps151;go_wp2_with (simp only [key]);go_ret;exact ⟨rfl, rfl⟩
theorem zr1 (x : Nat) (hx : x < U64) (hx0 : x ≠ 0) (w : World) (hT : Dtab w) :
 Calls Tryz.prog 151 #[.int .u64 (x : Int)] w fun e w' => e = .returned (.int .i64 (Lib.ctz 64 x : Nat)) /\ w = w' := by
 obtain ⟨hlow, hk⟩ := Lib.lowest_bit 64 x hx0 (by unfold U64 at hx; exact hx);obtain ⟨hi, htab⟩ := Lib.deBruijn64_at _ hk;have hcell := hT _ hi;rw [htab] at hcell;exact zwe x _ _ w (by simp; omega) (ydk x _ hx hx0 hlow) hi hk hcell
theorem ybc {x i : Nat} (h0 : x ≠ 0) (h : x < 2 ^ 64) : (x &&& (x - 1)).testBit i = (x.testBit i && decide (i ≠ Lib.ctz 64 x)) := by
 obtain ⟨m, hm, _⟩ := Lib.ctzFrom_spec 64 x (by omega) h
 have e : Lib.ctz 64 x = Lib.ctzFrom 64 x := by simp [Lib.ctz, h0]
 rw [e];generalize Lib.ctzFrom 64 x = c at *;have hp : 0 < 2 ^ c := Nat.pow_pos (by omega)
 have e1 : x - 1 = 2 ^ c * (2 * m) + (2 ^ c - 1) := by rw [hm, Nat.mul_add, Nat.mul_one]; omega
 have b1 : ∀ i, x.testBit i = (decide (c <= i) && (2 * m + 1).testBit (i - c)) := fun i => by rw [hm, Nat.mul_comm, Nat.testBit_mul_two_pow]
 have b2 : ∀ i, (x - 1).testBit i = if i < c then true else (2 * m).testBit (i - c) := fun i => by
  rw [e1, Nat.testBit_two_pow_mul_add _ (by omega)]
  split
  ·rename_i h; rw [Nat.testBit_two_pow_sub_one]; simpa using h
  rfl
 rw [Nat.testBit_and, b1, b2]
 by_cases h1 : i < c
 ·rw [decide_eq_false (show ¬ c <= i by omega)]; simp
 rw [if_neg h1, decide_eq_true (show c <= i by omega)]
 by_cases h2 : i = c
 ·subst h2; simp
 rw [decide_eq_true h2, Bool.and_true, Bool.true_and]
 obtain ⟨j, hj⟩ : ∃ j, i - c = j + 1 := ⟨i - c - 1, by omega⟩
 rw [hj, Nat.testBit_succ, Nat.testBit_succ, show (2 * m + 1) / 2 = m by omega, show 2 * m / 2 = m by omega, Bool.and_self]
theorem zvc {x : Nat} (h0 : x ≠ 0) (h : x < 2 ^ 64) : x.testBit (Lib.ctz 64 x) = true /\ (∀ j, j < Lib.ctz 64 x -> x.testBit j = false) /\ Lib.ctz 64 x < 64 := by
 obtain ⟨m, hm, hk⟩ := Lib.ctzFrom_spec 64 x (by omega) h
 have e : Lib.ctz 64 x = Lib.ctzFrom 64 x := by simp [Lib.ctz, h0]
 rw [e];generalize Lib.ctzFrom 64 x = c at *
 have b1 : ∀ i, x.testBit i = (decide (c <= i) && (2 * m + 1).testBit (i - c)) := fun i => by rw [hm, Nat.mul_comm, Nat.testBit_mul_two_pow]
 refine ⟨?_, fun j hj => ?_, hk⟩
 ·rw [b1, decide_eq_true (Nat.le_refl c), Nat.sub_self]; simp
 rw [b1, decide_eq_false (show ¬ c <= j by omega)]; rfl
def zff (x : Nat) : List Nat := (List.range 64).filter fun i => x.testBit i
theorem zm9 : zff 0 = [] := by unfold zff; simp
theorem zgx {x : Nat} (h0 : x ≠ 0) (h : x < 2 ^ 64) : zff x = Lib.ctz 64 x :: zff (x &&& (x - 1)) := by
 obtain ⟨h1, h2, h3⟩ := zvc h0 h
 have hoff := fun i => ybc (i := i) h0 h
 generalize Lib.ctz 64 x = c at *;unfold zff
 have hs : List.range 64 = List.range c ++ (c :: (List.range (63 - c)).map (· + (c + 1))) := by
  apply List.ext_getElem
  ·simp; omega
  intro i a b;rw [List.getElem_range]
  by_cases e1 : i < c
  ·rw [List.getElem_append_left (by simpa using e1), List.getElem_range]
  rw [List.getElem_append_right (by simpa using e1)];simp only [List.length_range]
  by_cases e2 : i = c
  ·subst e2; simp
  obtain ⟨j, hj⟩ : ∃ j, i - c = j + 1 := ⟨i - c - 1, by omega⟩
  simp only [hj, List.getElem_cons_succ, List.getElem_map, List.getElem_range];omega
 have f1 : (List.range c).filter (fun i => x.testBit i) = [] := by
  rw [List.filter_eq_nil_iff]; intro i hi; rw [h2 i (List.mem_range.1 hi)]; simp
 have f2 : (List.range c).filter (fun i => (x &&& (x - 1)).testBit i) = [] := by
  rw [List.filter_eq_nil_iff]; intro i hi; rw [hoff, h2 i (List.mem_range.1 hi)]; simp
 rw [hs, List.filter_append, List.filter_append, f1, f2, List.filter_cons, List.filter_cons, if_pos h1, if_neg (by rw [hoff]; simp), List.nil_append, List.nil_append]
 congr 1
 refine List.filter_congr fun i hi => ?_
 rw [List.mem_map] at hi;obtain ⟨j, _, rfl⟩ := hi;rw [hoff, decide_eq_true (show j + (c + 1) ≠ c by omega), Bool.and_true]
end Go.Proofs.YtlleofjjdhfgcaaGreatDoor
namespace Go.Proofs.YtlleofjjdhfgcaaGreatDoor
open Go.RowKit Go.Shelf Cen
attribute [local go_sem] Oper.semAt_some
def offs (wd : Nat) (x : Nat) : List Int := (zff x).map fun i : Nat => 64 * (wd : Int) + (i : Int) + 1
def memS (s : St) : List Int := offs 0 s.a ++ offs 1 s.b
def zha (s : St) : Nat -> List Int
 | 0 => []
 | 1 => offs 0 s.a
 | _ => memS s
theorem zoe {x : Nat} (wd : Nat) (h0 : x ≠ 0) (h : x < 2 ^ 64) : offs wd x = (64 * (wd : Int) + (Lib.ctz 64 x : Int) + 1) :: offs wd (x &&& (x - 1)) := by
 unfold offs; rw [zgx h0 h, List.map_cons]
theorem zic (wd x : Nat) : (offs wd x).length <= 64 := by
 unfold offs zff;rw [List.length_map];have := List.length_filter_le (fun i => x.testBit i) (List.range 64)
 simpa using this
theorem zrg (s : St) : (memS s).length <= 128 := by
 unfold memS; rw [List.length_append];have := zic 0 s.a; have := zic 1 s.b; omega
theorem zm7 {x : Nat} (h : x < U64) (h0 : x ≠ 0) : bits .and .u64 (x : Int) (IntKind.u64.wrap ((x : Int) - 1)) = ((x &&& (x - 1) : Nat) : Int) := by
 have e : IntKind.u64.wrap ((x : Int) - 1) = ((x - 1 : Nat) : Int) := by
  unfold U64 at h; rw [IntKind.wrap_u64]; omega
 rw [e, ztt h (by unfold U64 at *; omega)]
theorem zp2 (n : Nat) (hn : 1 <= n) (l Bs n₀ : Nat) (s : St) (hs : s.ok) (J Jx : List Int -> World -> Prop)
 (hY : ∀ pre x W, J pre W -> pre.length < 128 -> YieldAt Fence.wide (n - 1) Tryz.prog l #[.int .i64 x] W fun e W' =>
   (e = .returned (.bool true) /\ J (pre ++ [x]) W' /\ Below n₀ W W') \/ (e = .returned (.bool false) /\ Jx (pre ++ [x]) W'))
 (W : World) (hB0 : W.cell? ⟨Bs, 0, none⟩ = some (.int .u64 (s.a : Int))) (hB1 : W.cell? ⟨Bs, 1, none⟩ = some (.int .u64 (s.b : Int))) (hT : ∀ V, Below n₀ W V -> Dtab V) (h0 : J [] W) :
 CallsIn Fence.wide n Tryz.prog 150 #[.func (.yield l) #[] #[], .pointer (some ⟨Bs, 0, none⟩)] W fun e W' => (∃ v, e = .returned v) /\
  ((∃ ys, ys = memS s /\ J ys W') \/ (∃ pre, pre <+: memS s /\ Jx pre W')) := by
 have HT := lh hT;have HY := lh hY
 have hi0 : ∀ w, (Instr.index 40 (.agg #[.int .u64 (s.a : Int), .int .u64 (s.b : Int)]) (.int .i64 0)).run Tryz.prog w = .ok (.int .u64 (s.a : Int)) w := fun _ => by kernel_rfl
 have hi1 : ∀ w, (Instr.index 40 (.agg #[.int .u64 (s.a : Int), .int .u64 (s.b : Int)]) (.int .i64 1)).run Tryz.prog w = .ok (.int .u64 (s.b : Int)) w := fun _ => by kernel_rfl
 clear hT hY;refine callsIn_of_wp Tryz.func150 rfl trivial ?_ rfl;simp only [Tryz.ntmps150, List.size_toArray, List.length_cons, List.length_nil, Nat.reduceAdd, Nat.reduceSub, Array.replicate_succ, Array.replicate_zero, List.push_toArray, List.append_toArray, List.nil_append, List.cons_append]
 gi_wp2
 gi_loopw [6] (fun i wr => ((i = .int .i64 0 /\ J (zha s 0) wr) \/ (i = .int .i64 1 /\ J (zha s 1) wr) \/ (i = .int .i64 2 /\ J (zha s 2) wr)) /\ Below n₀ W wr) (fun i _ => 2 - (intOf i).toNat)
 case atStart => exact ⟨.inl ⟨rfl, h0⟩, Below.refl _ _⟩
 obtain ⟨hcase, hb⟩ := hrel;have HB := lh hb;clear hb
 rcases hcase with ⟨rfl, hJ⟩ | ⟨rfl, hJ⟩ | ⟨rfl, hJ⟩
 ·have HJ := lh hJ;clear hJ
  gi_wp2
  obtain ⟨wo, rfl⟩ : ∃ wo : World, wo = wr := ⟨_, rfl⟩
  gi_loopw [4] (fun x wi => ∃ (y : Nat) (pre : List Int), x = .int .u64 (y : Int) /\ y < U64 /\ pre ++ offs 0 y = zha s 1 /\ J pre wi /\ Below n₀ W wi) (fun x _ => (zff (intOf x).toNat).length)
  case atStart => exact ⟨s.a, [], rfl, hs.1, rfl, HJ.o, HB.o⟩
  obtain ⟨wi, rfl⟩ : ∃ wi : World, wi = wr := ⟨_, rfl⟩
  obtain ⟨y, pre, rfl, hy1, hpre, hJi, hbi⟩ := hrel;have HJI := lh hJi;have HBI := lh hbi;have HPRE := lh hpre;have HY1 := lh hy1;clear hJi hbi hpre hy1
  by_cases hy0 : y = 0
  ·subst hy0
   have HE : Hid (pre = zha s 1) := by
    have h := HPRE.o;rw [show offs 0 0 = [] by unfold offs; rw [zm9]; rfl, List.append_nil] at h;exact h
   gi_wp2
   go_roundw
   case rel => exact ⟨.inr (.inl ⟨rfl, by rw [<- HE.o]; exact HJI.o⟩), HBI.o⟩
   case measure => simp [intOf]
  have hne : ((y : Int) != 0) = true := by simp; omega
  have hst := zoe 0 hy0 (by have := HY1.o; unfold U64 at this; exact this);have hbs := zgx hy0 (by have := HY1.o; unfold U64 at this; exact this);have hlo := (zvc hy0 (by have := HY1.o; unfold U64 at this; exact this)).2.2;have hand := zm7 HY1.o hy0;have HTZ := lh (fun V (hV : Below n₀ W V) => zr1 y HY1.o hy0 V (HT.o V hV));have HY2 : Hid ((y &&& (y - 1)) < U64) := zc7 HY1.o
  have hlen : pre.length < 128 := by
   have h := congrArg List.length HPRE.o;rw [hst, List.length_append, List.length_cons] at h;have h2 := zrg s;have h3 := zic 0 s.a;have h4 : (zha s 1).length = (offs 0 s.a).length := rfl;omega
  have HPX : Hid ((pre ++ [(Lib.ctz 64 y : Int) + 1]) ++ offs 0 (y &&& (y - 1)) = zha s 1) := by
   show _ = _
   have h := HPRE.o;rw [hst] at h;rw [List.append_assoc, <- h]
   simp
  have HBS : Hid ((zff (y &&& (y - 1))).length < (zff y).length) := by show _ < _; rw [hbs]; simp
  generalize Lib.ctz 64 y = c at *
  have hc1 : (c : Int) <= 63 := by omega
  have hc0 : (0 : Int) <= (c : Int) := by omega
  obtain ⟨z, hz⟩ := nm (y &&& (y - 1));rw [<- hz] at hand HY2 HPX HBS;obtain ⟨fn, tmps, assign, body, hy, hR⟩ := HY.o pre ((c : Int) + 1) wi HJI.o hlen
  have HPP : Hid (∀ q, pre ++ [(c : Int) + 1] ++ q = zha s 1 -> pre ++ [(c : Int) + 1] <+: memS s) := lh fun q hq => by
   exact ⟨q ++ offs 1 s.b, by rw [<- List.append_assoc, hq]; rfl⟩
  clear hst hbs hlo hlen hz hy0
  gi_wp2_with (refine ⟨trivial, ?_⟩; gi_at_call 151; refine (callsIn_wide.2 (HTZ.o _ HBI.o)).mono ?_; rintro e w' ⟨rfl, rfl⟩)
  refine hR.mono ?_;rintro e W3 (⟨rfl, hJ3, hk3⟩ | ⟨rfl, hJx3⟩)
  ·have HJ3 := lh hJ3;have HB3 := lh (HBI.o.trans hk3);clear hJ3 hk3
   gi_wp2
   go_roundw
   case rel => exact ⟨z, _, rfl, HY2.o, HPX.o, HJ3.o, HB3.o⟩
   case measure => simpa [intOf] using HBS.o
  have HJX := lh hJx3;clear hJx3
  gi_wp2
  refine bodyPost_ret (results_none rfl _ _ _) rfl ?_;exact ⟨⟨_, rfl⟩, .inr ⟨_, HPP.o _ HPX.o, HJX.o⟩⟩
 ·have HJ := lh hJ;clear hJ
  ·skip
   gi_wp2
   obtain ⟨wo, rfl⟩ : ∃ wo : World, wo = wr := ⟨_, rfl⟩
   gi_loopw [4] (fun x wi => ∃ (y : Nat) (pre : List Int), x = .int .u64 (y : Int) /\ y < U64 /\ pre ++ offs 1 y = zha s 2 /\ J pre wi /\ Below n₀ W wi) (fun x _ => (zff (intOf x).toNat).length)
   case atStart => exact ⟨s.b, offs 0 s.a, rfl, hs.2, rfl, HJ.o, HB.o⟩
   obtain ⟨wi, rfl⟩ : ∃ wi : World, wi = wr := ⟨_, rfl⟩
   obtain ⟨y, pre, rfl, hy1, hpre, hJi, hbi⟩ := hrel;have HJI := lh hJi;have HBI := lh hbi;have HPRE := lh hpre;have HY1 := lh hy1;clear hJi hbi hpre hy1
   by_cases hy0 : y = 0
   ·subst hy0
    have HE : Hid (pre = zha s 2) := by
     have h := HPRE.o;rw [show offs 1 0 = [] by unfold offs; rw [zm9]; rfl, List.append_nil] at h;exact h
    gi_wp2
    go_roundw
    case rel => exact ⟨.inr (.inr ⟨rfl, by rw [<- HE.o]; exact HJI.o⟩), HBI.o⟩
    case measure => simp [intOf]
   have hne : ((y : Int) != 0) = true := by simp; omega
   have hst := zoe 1 hy0 (by have := HY1.o; unfold U64 at this; exact this);have hbs := zgx hy0 (by have := HY1.o; unfold U64 at this; exact this);have hlo := (zvc hy0 (by have := HY1.o; unfold U64 at this; exact this)).2.2;have hand := zm7 HY1.o hy0;have HTZ := lh (fun V (hV : Below n₀ W V) => zr1 y HY1.o hy0 V (HT.o V hV));have HY2 : Hid ((y &&& (y - 1)) < U64) := zc7 HY1.o
   have hlen : pre.length < 128 := by
    have h := congrArg List.length HPRE.o;rw [hst, List.length_append, List.length_cons] at h;have h2 := zrg s;have h3 := zic 0 s.a;have h4 : (zha s 2).length = (memS s).length := rfl;omega
   have HPX : Hid ((pre ++ [64 + (Lib.ctz 64 y : Int) + 1]) ++ offs 1 (y &&& (y - 1)) = zha s 2) := by
    show _ = _
    have h := HPRE.o;rw [hst] at h;rw [List.append_assoc, <- h]
    simp
   have HBS : Hid ((zff (y &&& (y - 1))).length < (zff y).length) := by show _ < _; rw [hbs]; simp
   generalize Lib.ctz 64 y = c at *
   have hc1 : (c : Int) <= 63 := by omega
   have hc0 : (0 : Int) <= (c : Int) := by omega
   obtain ⟨z, hz⟩ := nm (y &&& (y - 1));rw [<- hz] at hand HY2 HPX HBS;obtain ⟨fn, tmps, assign, body, hy, hR⟩ := HY.o pre (64 + (c : Int) + 1) wi HJI.o hlen
   have HPP : Hid (∀ q, pre ++ [64 + (c : Int) + 1] ++ q = zha s 2 -> pre ++ [64 + (c : Int) + 1] <+: memS s) := lh fun q hq => by
    exact ⟨q, hq⟩
   clear hst hbs hlo hlen hz hy0
   gi_wp2_with (refine ⟨trivial, ?_⟩; gi_at_call 151; refine (callsIn_wide.2 (HTZ.o _ HBI.o)).mono ?_; rintro e w' ⟨rfl, rfl⟩)
   refine hR.mono ?_;rintro e W3 (⟨rfl, hJ3, hk3⟩ | ⟨rfl, hJx3⟩)
   ·have HJ3 := lh hJ3;have HB3 := lh (HBI.o.trans hk3);clear hJ3 hk3
    gi_wp2
    go_roundw
    case rel => exact ⟨z, _, rfl, HY2.o, HPX.o, HJ3.o, HB3.o⟩
    case measure => simpa [intOf] using HBS.o
   have HJX := lh hJx3;clear hJx3
   gi_wp2
   refine bodyPost_ret (results_none rfl _ _ _) rfl ?_;exact ⟨⟨_, rfl⟩, .inr ⟨_, HPP.o _ HPX.o, HJX.o⟩⟩
 have HJ := lh hJ;clear hJ
 ·gi_wp2
  go_end0
  exact ⟨⟨_, rfl⟩, .inl ⟨_, rfl, HJ.o⟩⟩
attribute [local go_sem] Oper.semAt_some
theorem zp3 (s : St) (w : World) : Calls Tryz.prog 114 #[stv s] w fun e w' => e = .returned (.func (.func 150) #[] #[.pointer (some ⟨w.heap.size, 0, none⟩)]) /\ w' = w.alloc (.cells #[.int .u64 (s.a : Int), .int .u64 (s.b : Int)] 40) := by
 go_enter Tryz.func114, Tryz.ntmps114;go_wp2;go_ret;exact ⟨rfl, rfl⟩
theorem Dtab.on {w0 W V : World} (h : Dtab w0) (hW : Below w0.heap.size w0 W) (hV : Below w0.heap.size W V) : Dtab V := h.keep (hW.trans hV)
theorem zmn (n : Nat) (hn : 1 <= n) (Bs : Nat) (s : St) (hs : s.ok) (w0 w : World) (hw0 : Below w0.heap.size w0 w) (hT : Dtab w0) (hBs : Bs < w.heap.size)
 (hB0 : w.cell? ⟨Bs, 0, none⟩ = some (.int .u64 (s.a : Int))) (hB1 : w.cell? ⟨Bs, 1, none⟩ = some (.int .u64 (s.b : Int))) :
 SeqStopsK Fence.wide n Tryz.prog 150 #[.pointer (some ⟨Bs, 0, none⟩)] (fun x : Int => #[Value.int .i64 x]) (Below w0.heap.size) (fun ys => ys = memS s) (fun pre => pre <+: memS s) 128 w := fun l J Jx W hW _ _ hY h0 =>
 zp2 n hn l Bs w0.heap.size s hs J Jx hY W ((hW.cell (p := ⟨Bs, 0, none⟩) hBs).trans hB0) ((hW.cell (p := ⟨Bs, 1, none⟩) hBs).trans hB1) (fun _ hV => hT.on (hw0.trans (hW.mono hw0.size)) hV) h0
attribute [local go_sem] Oper.semAt_some
def za4 (s : St) : Int := (memS s).headD 0
theorem zum (s : St) (w : World) (hs : s.ok) (hT : Dtab w) : Calls Tryz.prog 74 #[stv s] w fun e w' => e = .returned (.int .i64 (za4 s)) /\ Below w.heap.size w w' := by
 have HT := lh hT;clear hT;refine (callsIn_wide (n := 3)).1 ?_;refine callsIn_of_wp_marks Tryz.func74 rfl trivial ?_ rfl;simp only [Tryz.ntmps74, List.size_toArray, List.length_cons, List.length_nil, Nat.reduceAdd, Nat.reduceSub, Array.replicate_succ, Array.replicate_zero, List.push_toArray, List.append_toArray, List.nil_append, List.cons_append]
 gi_wp2_with (refine ⟨trivial, ?_⟩; gi_at_call 114; refine (callsIn_wide.2 (zp3 s _)).mono ?_; rintro e w' ⟨rfl, rfl⟩)
 have q1 := (Blk.new' (w.alloc (.cells #[.int .u64 (s.a : Int), .int .u64 (s.b : Int)] 40)) (b := w.heap.size + 1) (by simp only [World.size_alloc]) #[.int .i64 0] 3).alloc (.cells #[.int .u64 (s.a : Int), .int .u64 (s.b : Int)] 40);have hB0 : Below w.heap.size w (((w.alloc (.cells #[.int .u64 (s.a : Int), .int .u64 (s.b : Int)] 40)).alloc (.cells #[.int .i64 0] 3)).alloc (.cells #[.int .u64 (s.a : Int), .int .u64 (s.b : Int)] 40)) := (((Below.refl _ w).alloc (Nat.le_refl _) _).alloc (by simp) _).alloc (by simp; omega) _;have q2 := Blk.new' ((w.alloc (.cells #[.int .u64 (s.a : Int), .int .u64 (s.b : Int)] 40)).alloc (.cells #[.int .i64 0] 3)) (b := w.heap.size + 1 + 1) (by simp only [World.size_alloc]) #[.int .u64 (s.a : Int), .int .u64 (s.b : Int)] 40
 refine wpIn_rangeFunc_ownF rfl (by omega) (gf := 150) (lb := #[.pointer (some ⟨w.heap.size + 1 + 1, 0, none⟩)]) rfl trivial (enters_of Tryz.func150 (by kernel_rfl) rfl)
  (zmn (3 - 1) (by omega) (w.heap.size + 1 + 1) s hs w _ hB0 HT.o q2.lt (q2.cell 0) (q2.cell 1)) belowK_t (belowK_b (by simp; omega)) (Below.refl _ _) (fun _ => rfl)
  (fun pre W => (pre = [] /\ W.cell? ⟨w.heap.size + 1, 0, none⟩ = some (.int .i64 0) /\ W.frozen? ⟨w.heap.size + 1, 0, none⟩ = false) /\ Below w.heap.size w W)
  (fun c pre W => (c = .ret /\ ∃ x, pre = [x] /\ W.cell? ⟨w.heap.size + 1, 0, none⟩ = some (.int .i64 x)) /\ Below w.heap.size w W)
  (OwnFrom.and (Own.from (fun s A B row hs hg hr => ⟨hs.1, cell_kept hs.2.1 hg hr, (frozen_kept hs.2.1 hg hr).trans hs.2.2⟩) _) (ownFrom_below (Nat.le_refl _) (by simp; omega)))
  (fun c => OwnFrom.and (Own.from (fun s A B row hs hg hr => ⟨hs.1, by obtain ⟨_, x, h1, h2⟩ := hs; exact ⟨x, h1, cell_kept h2 hg hr⟩⟩) _) (ownFrom_below (Nat.le_refl _) (by simp; omega)))
  ⟨⟨rfl, q1.cell 0, q1.fr 0⟩, hB0⟩
  (fun x => { tmps := #[stv s, .pointer (some ⟨w.heap.size, 0, none⟩), .pointer (some ⟨w.heap.size + 1, 0, none⟩), .int .i64 x, stv s, .func (.func 150) #[] #[.pointer (some ⟨w.heap.size + 1 + 1, 0, none⟩)], .int .i64 x, undef], defers := [] }) ?assign ?body ?done ?stop
 case assign =>
  intro l x W K hK
  gi_wp2
  exact hK
 case body =>
  rintro l pre x W ⟨⟨rfl, hcr, hfr⟩, hB⟩ _
  gi_wp2
  exact ⟨KeepsOthers.setCell _ _ _, ⟨rfl, x, rfl, World.cell?_setCell_same' _ _ _ (by rw [hcr]; rfl)⟩, hB.setCell (p := ⟨w.heap.size + 1, 0, none⟩) (by simp) _⟩
 case done =>
  rintro D ys W hD rfl ⟨⟨hne, hcr, hfr⟩, hB⟩ hK
  gi_wp2
  have hK' := (KeepsOthers.setCell W ⟨w.heap.size + 1, 0, none⟩ (.int .i64 0)).same D _ hK rfl;refine ⟨by simp, .inl ⟨_, _, rfl, run_takeDeferred hK', ?_⟩⟩;have hc5 := cell_kept (World.cell?_setCell_same' W ⟨w.heap.size + 1, 0, none⟩ (.int .i64 0) (by rw [hcr]; rfl)) (grownBy_putObj' _ D (.deferred none)) (fun r e => by cases e; exact ⟨_, hK', rfl⟩);refine ⟨.int .i64 0, ?_, by unfold za4; rw [hne]; rfl, (hB.setCell (p := ⟨w.heap.size + 1, 0, none⟩) (by simp) _).trans (belowK_b (w := w) (Nat.le_refl _) _ D _ _ (by simp at hD; omega) hK' rfl rfl)⟩
  simp [results, Tryz.f74, go_sem, hc5]
 case stop =>
  rintro D c pre W hD hpre ⟨⟨rfl, x, rfl, hcr⟩, hB⟩ hK
  gi_wp2
  refine ⟨by simp, .inl ⟨_, _, rfl, run_takeDeferred hK, ?_⟩⟩;have hc5 := cell_kept hcr (grownBy_putObj' _ D (.deferred none)) (fun r e => by cases e; exact ⟨_, hK, rfl⟩);refine ⟨.int .i64 x, ?_, by obtain ⟨t, ht⟩ := hpre; unfold za4; rw [<- ht]; rfl, hB.trans (belowK_b (w := w) (Nat.le_refl _) W D _ _ (by simp at hD; omega) hK rfl rfl)⟩
  simp [results, Tryz.f74, go_sem, hc5]
end Go.Proofs.YtlleofjjdhfgcaaGreatDoor
namespace Go.Proofs.YtlleofjjdhfgcaaGreatDoor
open Go.RowKit Cen
def xorS (s t : St) : St := ⟨s.a ^^^ t.a, s.b ^^^ t.b⟩
theorem zlr {x y : Nat} (hx : x < U64) (hy : y < U64) : x ^^^ y < U64 := by rw [zek] at *; exact Nat.xor_lt_two_pow hx hy
theorem yby {s t : St} (h : s.ok) (k : t.ok) : (xorS s t).ok := ⟨zlr h.1 k.1, zlr h.2 k.2⟩
structure Pr where
 v : St
 odd : Bool
instance : Inhabited Pr := ⟨⟨St.zero, false⟩⟩
instance : DecidableEq Pr := fun x y => decidable_of_iff (x.v = y.v /\ x.odd = y.odd) (by cases x; cases y; simp)
def Pr.zero : Pr := ⟨St.zero, false⟩
def Pr.ok (p : Pr) : Prop := p.v.ok
def sumP (p q : Pr) : Pr := ⟨xorS p.v q.v, p.odd != q.odd⟩
theorem zv7 {p q : Pr} (h : p.ok) (k : q.ok) : (sumP p q).ok := yby h k
theorem Pr.zero_ok : Pr.zero.ok := St.zero_ok
def zbs (p : Pr) (rest : List Pr) : List Pr := rest.map fun q => if q.v.mem (za4 p.v) then sumP p q else q
def zbo (p : Pr) (rest : List Pr) : List Pr := (zbs p rest).filter fun q => !decide (q = Pr.zero)
def rdF : Nat -> List Pr -> List Pr -> List Pr × Bool
 | 0, _, out => (out, true)
 | _ + 1, [], out => (out, true)
 | f + 1, p :: rest, out => if za4 p.v = 0 /\ p.odd = true then ([], false) else rdF f (zbo p rest) (if 0 < za4 p.v then out ++ [p] else out)
def zay (l : List Pr) : List Pr × Bool := rdF (l.length + 1) l []
structure Ct where
 e : Nat
 o : Nat
instance : Inhabited Ct := ⟨⟨0, 0⟩⟩
instance : DecidableEq Ct := fun x y => decidable_of_iff (x.e = y.e /\ x.o = y.o) (by cases x; cases y; simp)
def Ct.s (c : Ct) : Nat := c.e + c.o
def zj9 (a b : Ct) : Ct := ⟨a.e * b.e + a.o * b.o, a.e * b.o + a.o * b.e⟩
def znb (a b : Ct) : Option Ct := if a.s < 65536 /\ b.s < 65536 /\ a.s * b.s < 65536 then some (zj9 a b) else none
def addO (a b : Ct) : Option Ct := if a.s + b.s < 65536 then some ⟨a.e + b.e, a.o + b.o⟩ else none
def zmg (k : Nat) (meets : Bool) : Ct := if meets then ⟨2 ^ (k - 1), 2 ^ (k - 1)⟩ else ⟨2 ^ k, 0⟩
theorem yae (a b : Ct) : (zj9 a b).s = a.s * b.s := by
 unfold zj9 Ct.s;simp only [Nat.add_mul, Nat.mul_add]; omega
theorem zgy {a b c : Ct} (h : znb a b = some c) : c = zj9 a b /\ a.s < 65536 /\ b.s < 65536 /\ a.s * b.s < 65536 := by
 unfold znb at h
 split at h
 ·rename_i h1; simp at h; exact ⟨h.symm, h1⟩
 simp at h
theorem ztr {a b c : Ct} (h : addO a b = some c) : c = ⟨a.e + b.e, a.o + b.o⟩ /\ a.s + b.s < 65536 := by
 unfold addO at h
 split at h
 ·rename_i h1; simp at h; exact ⟨h.symm, h1⟩
 simp at h
theorem ydm {x y : Nat} (hx : x < U64) (hy : y < U64) : bits .xor .u64 (x : Int) (y : Int) = ((x ^^^ y : Nat) : Int) := u64_xor_nat x y hx hy
def prv (p : Pr) : Value := .agg #[.int .u64 (p.v.a : Int), .int .u64 (p.v.b : Int), .bool p.odd]
def prc (p : Pr) : List Value := [.int .u64 (p.v.a : Int), .int .u64 (p.v.b : Int), .bool p.odd]
theorem zax (p : Pr) : (prc p).length = 3 := rfl
theorem zp8 (p : Pr) : ∀ u ∈ prc p, u.oneCell' = true := by intro u hu; simp [prc] at hu; rcases hu with rfl | rfl | rfl <;> rfl
theorem zq2 : Elem 38 42 3 24 (prv Pr.zero) := .mk Tryz.underlying38 (by kernel_rfl) rfl (by decide)
abbrev OwnP := OwnL prc 42 3
def PrCells (w : World) (a : Option Addr) (l : List Pr) : Prop := ∀ i, i < l.length -> ∃ b off, a = some ⟨b, off, none⟩ /\ w.cell? ⟨b, off + i * 3, none⟩ = some (.int .u64 ((l.getD i default).v.a : Int)) /\ w.cell? ⟨b, off + i * 3 + 1, none⟩ = some (.int .u64 ((l.getD i default).v.b : Int)) /\ w.cell? ⟨b, off + i * 3 + 2, none⟩ = some (.bool (l.getD i default).odd)
theorem PrCells.keep {w w' : World} {a : Option Addr} {l : List Pr} (h : PrCells w a l) (hb : Below w.heap.size w w') : PrCells w' a l := fun i hi =>
 let ⟨b, off, e, h0, h1, h2⟩ := h i hi; ⟨b, off, e, zab hb h0, zab hb h1, zab hb h2⟩
theorem PrCells.nil (w : World) (a : Option Addr) : PrCells w a [] := fun _ h => absurd h (Nat.not_lt_zero _)
theorem OwnP.pc {w : World} {base : Nat} {v : Value} {l : List Pr} (h : OwnP w base v l) : ∃ a cap, v = .slice a l.length cap /\ PrCells w a l := by
 rcases h.shape with ⟨h1, h2⟩ | ⟨g, cap, h1, _⟩
 ·subst h2; exact ⟨none, 0, h1, PrCells.nil _ _⟩
 subst h1;refine ⟨some ⟨g, 0, none⟩, cap, rfl, fun i hi => ?_⟩
 have e : l.getD i default = l[i] := by simp [List.getD_eq_getElem?_getD, hi]
 have c0 := h.cell rfl zax i 0 hi (by omega);have c1 := h.cell rfl zax i 1 hi (by omega);have c2 := h.cell rfl zax i 2 hi (by omega);rw [e];refine ⟨g, 0, rfl, ?_, ?_, ?_⟩
 ·rw [Nat.zero_add]; exact c0
 ·rw [Nat.zero_add]; exact c1
 rw [Nat.zero_add]; exact c2
theorem zry (p q : Pr) (w : World) (hp : p.ok) (hq : q.ok) :
 Calls Tryz.prog 40 #[prv p, prv q] w fun e w' => e = .returned (prv (sumP p q)) /\ Below w.heap.size w w' := by
 have e1 := ydm hp.1 hq.1;have e2 := ydm hp.2 hq.2;obtain ⟨⟨pa, pb⟩, po⟩ := p;obtain ⟨⟨qa, qb⟩, qo⟩ := q;simp only at e1 e2;clear hp hq;unfold prv;go_enter Tryz.func40, Tryz.ntmps40;go_wp2
 exact bodyPost_ret (v := prv (sumP ⟨⟨pa, pb⟩, po⟩ ⟨⟨qa, qb⟩, qo⟩)) (by simp [results, Tryz.results40, go_sem, sumP, xorS, prv]; cases po <;> cases qo <;> rfl) rfl ⟨rfl, by
  exact (((((ba _ _).alloc (by simp) _).alloc (by simp; omega) _))) ⟩
theorem zfj (d : Nat) (a b : Int) (x : Bool) (c e : Int) (y : Bool) (w : World) :
 (Op.equalIn (d + 3) 42 (.agg #[.int .u64 a, .int .u64 b, .bool x]) (.agg #[.int .u64 c, .int .u64 e, .bool y])).run Tryz.prog w = .ok ((a == c && b == e) && x == y) w := by
 have hp0 : ∀ (x y z : Value) w, (part 40 #[x, y, z] 0).run Tryz.prog w = .ok (.agg #[x, y]) w := fun x y z w => by kernel_rfl
 have hp2 : ∀ (x y z : Value) w, (part 4 #[x, y, z] 2).run Tryz.prog w = .ok z w := fun x y z w => by kernel_rfl
 rw [run_equalIn_struct w (d + 2) _ _ _ (by kernel_rfl) (by kernel_rfl)];rw [show (Tryz.prog.fieldsOf 42).toList = [{ name := "Vars", type := 40, offset := 0, embedded := false, tag := "", pkgPath := "", byteOffset := 0 }, { name := "Odd", type := 4, offset := 2, embedded := false, tag := "", pkgPath := "", byteOffset := 16 }] by kernel_rfl];simp only [Op.eqFields, Sem.run_bind, Sem.run_ite, hp0, hp2, Result.andThen_ok, zcf, run_equalIn_bool' w (d + 1) 4 x y Tryz.underlying4]
 by_cases h : (a == c && b == e) = true
 ·rw [h]; cases hxy : (x == y) <;> simp
 rw [Bool.not_eq_true] at h; rw [h]; simp
def eqPr (p q : Pr) : Bool := decide (p = q)
theorem zq3 (p q : Pr) : (((p.v.a : Int) == (q.v.a : Int) && (p.v.b : Int) == (q.v.b : Int)) && p.odd == q.odd) = eqPr p q := by
 unfold eqPr;rw [Bool.eq_iff_iff];obtain ⟨⟨a, b⟩, x⟩ := p;obtain ⟨⟨c, e⟩, y⟩ := q
 simp; omega
theorem zs2 (p q : Pr) (w : World) : (binOp .neq 42 (prv p) (prv q)).run Tryz.prog w = .ok (.bool !(eqPr p q)) w := by
 unfold prv;rw [run_neq_struct, zfj 9997];simp only [Result.andThen_ok, zq3]
theorem zlk (p q : Pr) (w : World) : (binOp .eql 42 (prv p) (prv q)).run Tryz.prog w = .ok (.bool (eqPr p q)) w := by
 unfold prv;rw [run_eql_struct, zfj 9997];simp only [Result.andThen_ok, zq3]
theorem zkx : Tryz.prog.eqGuardType Tryz.prog.depth 42 = false := by kernel_rfl
theorem zoj (p : Pr) (w : World) : Calls Tryz.prog 77 #[prv p] w fun e w' => e = .returned (.bool (!eqPr p Pr.zero)) /\ Below w.heap.size w w' := by
 have hq : ∀ w : World, (binOp .neq 42 (.agg #[.int .u64 (p.v.a : Int), .int .u64 (p.v.b : Int), .bool p.odd]) (.agg #[.int .u64 0, .int .u64 0, .bool false])).run Tryz.prog w = .ok (.bool !(eqPr p Pr.zero)) w := fun w => zs2 p Pr.zero w
 have hgd := zkx;unfold prv;generalize eqPr p Pr.zero = r at *;go_enter Tryz.func77, Tryz.ntmps77;go_wp2;go_ret;exact ⟨rfl, ba _ _⟩
theorem PrCells.at {w : World} {a : Option Addr} {l : List Pr} (h : PrCells w a l) {k : Nat} (hk : k < l.length) : ∃ b off, a = some ⟨b, off, none⟩ /\ w.cell? ⟨b, off + k * 3, none⟩ = some (.int .u64 ((l[k]).v.a : Int)) /\ w.cell? ⟨b, off + k * 3 + 1, none⟩ = some (.int .u64 ((l[k]).v.b : Int)) /\ w.cell? ⟨b, off + k * 3 + 2, none⟩ = some (.bool (l[k]).odd) := by
 have := h k hk
 rwa [show l.getD k default = l[k] by simp [List.getD_eq_getElem?_getD, hk]] at this
def ztl (L : List Pr) (w : World) (e : Ending) (w' : World) : Prop := ∃ v, e = .returned v /\ OwnP w' w.heap.size v L /\ Below w.heap.size w w'
def zeh (q : Pr) : Bool := !eqPr q Pr.zero
theorem zsj (a : Option Addr) (cap : Nat) (l : List Pr) (w : World) (hl : l.length <= 1073741824) (hx : PrCells w a l) :
 Calls Tryz.prog 76 #[.slice a l.length cap, .func (.func 77) #[] #[]] w (ztl (l.filter zeh) w) := by
 have HX := lh hx;clear hx
 have HLF : Hid (∀ k, (l.take k).filter zeh = (l.take k).filter zeh) := fun _ => rfl
 go_enter Tryz.func76, Tryz.ntmps76;go_wp2_with fail
 go_loopw [5, 10] (fun v i wr => ∃ (k : Nat) (va : Option Addr) (vc : Nat), k <= l.length /\ i = .int .i64 k /\ v = .slice va ((l.take k).filter zeh).length vc /\ OwnP wr w.heap.size (.slice va ((l.take k).filter zeh).length vc) ((l.take k).filter zeh) /\ Below w.heap.size w wr) (fun _ i _ => l.length - (intOf i).toNat)
 case atStart => exact ⟨0, none, 0, Nat.zero_le _, rfl, rfl, OwnL.nil _ _, Below.refl _ _⟩
 obtain ⟨k, va, vc, hk, rfl, rfl, hown, hb⟩ := hrel;have HO := lh hown;have HB := lh hb;have HZ := lh hb.size;have HXR := lh (HX.o.keep hb);clear hown hb
 by_cases hlt : k < l.length
 ·obtain ⟨b2, off2, hae, c0, c1, c2⟩ := HXR.o.at hlt
  have hki : (k : Int) < (l.length : Int) := by omega
  have zb := zai c0
  have HNX : Hid ((l.take (k + 1)).filter zeh = if zeh l[k] then (l.take k).filter zeh ++ [l[k]] else (l.take k).filter zeh) := by
   show _ = _; rw [List.take_succ_eq_append_getElem hlt, List.filter_append]; cases h : zeh l[k] <;> simp [h]
  have HLN : Hid (((l.take k).filter zeh).length <= 1073741824) := by
   have := List.length_filter_le zeh (l.take k);rw [List.length_take] at this
   show _ <= _; omega
  generalize l[k] = p at *;generalize (l.take k).filter zeh = L at *;have HRD := lh (fun W => zoj p W);have HKP : Hid (zeh p = !eqPr p Pr.zero) := rfl;unfold prv at HRD;subst hae;obtain ⟨V, hV⟩ := nm (wr.alloc (.cells #[.int .u64 (p.v.a : Int), .int .u64 (p.v.b : Int), .bool p.odd] 42))
  have hbv : Below wr.heap.size wr V := by rw [hV]; exact ba _ _
  have qv : Blk V wr.heap.size #[.int .u64 (p.v.a : Int), .int .u64 (p.v.b : Int), .bool p.odd] 42 := by rw [hV]; exact Blk.new _ _ _
  have QV := lh qv;have HBV := lh hbv;clear qv hbv
  cases hq : eqPr p Pr.zero with
  | true =>
    rw [hq] at HRD HKP
    have HN2 : Hid ((l.take (k + 1)).filter zeh = L) := by show _ = _; rw [HNX.o, HKP.o]; rfl
    clear hq;go_wp2_with fail;rw [<- hV];refine (HRD.o _).mono ?_;rintro e w2 ⟨rfl, hb2⟩;have HB2 := bt HBV hb2;clear hb2 hV;go_wp2;go_roundw
    case rel => exact ⟨k + 1, va, vc, by omega, by go_num, by rw [HN2.o], by rw [HN2.o]; exact HO.o.later HB2.o, HB.o.trans (HB2.o.mono HB.o.size)⟩
    case measure => simp [intOf]; omega
  | false =>
    rw [hq] at HRD HKP
    have HN2 : Hid ((l.take (k + 1)).filter zeh = L ++ [p]) := by show _ = _; rw [HNX.o, HKP.o]; rfl
    clear hq;go_wp2_with fail;rw [<- hV];refine (HRD.o _).mono ?_;rintro e w2 ⟨rfl, hb2⟩;have HB2 := bt HBV hb2;have q2 := QV.o.later hb2;have d0 := q2.cell 0;have d1 := q2.cell 1;have d2 := q2.cell 2;have dz := q2.lt;have HO2 := lh (HO.o.later HB2.o);have HZ2 : Hid (w.heap.size <= w2.heap.size) := Nat.le_trans HZ.o HB2.o.size;have HBX := lh (HB.o.trans (HB2.o.mono HB.o.size));clear hb2 hV q2 c0 c1 c2 zb;go_wp2_with (at_builtin; go_loud (refine zlx (C := #[.int .u64 (p.v.a : Int), .int .u64 (p.v.b : Int), .bool p.odd]) zq2 rfl _ _ rfl w.heap.size (.slice va L.length vc) L p rfl HO2.o rfl rfl rfl (zp8 p) HLN.o (by decide) HZ2.o ?_))
    intro g5 cap5 w5 ho5 hg5 hgn5;have HO5 := lh ho5;have HB5 : Hid (Below w.heap.size w w5) := HBX.o.grown hg5 HZ2.o (fun q hq => (World.ownsRow.lt HO2.o q hq).1);clear ho5 hg5 hgn5;go_wp2;go_roundw
    case rel => exact ⟨k + 1, some ⟨g5, 0, none⟩, cap5, by omega, by go_num, by rw [HN2.o]; simp, by rw [HN2.o]; simpa using HO5.o, HB5.o⟩
    case measure => simp [intOf]; omega
 have hke : k = l.length := by omega
 subst hke;rw [List.take_length] at HO ⊢;go_wp2;go_ret;exact ⟨_, rfl, HO.o, HB.o⟩
theorem zvw {w : World} {ad : Addr} {l : List Pr} (h : PrCells w (some ad) l) : ∀ j u, (l.flatMap prc)[j]? = some u -> w.cell? (ad.add j) = some u := by
 intro j u hj
 have hlen : j < l.length * 3 := by
  have := (List.getElem?_eq_some_iff.1 hj).1
  rwa [zbl zax] at this
 have hq : j / 3 < l.length := by omega
 obtain ⟨b, off, hae, c0, c1, c2⟩ := h.at hq;simp only [Option.some.injEq] at hae;subst hae;have hg := zmc zax l (j / 3) (j % 3) hq (by omega);rw [show j / 3 * 3 + j % 3 = j by omega, hj] at hg;unfold prc at hg
 have hr : j % 3 = 0 \/ j % 3 = 1 \/ j % 3 = 2 := by omega
 rw [show (⟨b, off, none⟩ : Addr).add j = ⟨b, off + j, none⟩ by simp [Addr.add]]
 rcases hr with hr | hr | hr <;> rw [hr] at hg <;> simp at hg <;> subst hg
 ·rw [<- c0]; congr 2; omega
 ·rw [<- c1]; congr 2; omega
 rw [<- c2]; congr 2; omega
theorem zyg (l : List Pr) : ∀ u ∈ l.flatMap prc, u.oneCell' = true := by
 intro u hu;obtain ⟨p, _, h⟩ := List.mem_flatMap.1 hu;exact zp8 p u h
theorem zo5 (a : Option Addr) (cap : Nat) (l : List Pr) (w : World) (hl : l.length <= 65536) (hx : PrCells w a l) :
 Calls Tryz.prog 73 #[.slice a l.length cap] w (ztl l w) := by
 have hsl := fun (w : World) (a : Option Addr) (l c n1 c1 : Nat) => Lib.run_eql_slice_nil w 38 42 a l c n1 c1 Tryz.underlying38
 cases a with
 | none =>
   have hn : l = [] := by
    cases l with
    | nil => rfl
    | cons x xs => obtain ⟨_, _, e, _⟩ := hx 0 (by simp); simp at e
   subst hn;clear hx;go_enter Tryz.func73, Tryz.ntmps73;go_wp2;go_ret;exact ⟨_, rfl, OwnL.nil _ _, Below.refl _ _⟩
 | some ad =>
   have H0 : Hid ((w.alloc (.cells #[] 42)).ownsRow w.heap.size 42 3 (.slice (some ⟨w.heap.size, 0, none⟩) 0 0) 0 []) := World.ownsRow_lit w #[] 0 (Nat.le_refl _) (by unfold maxLen; omega) rfl
   have HC : Hid (∀ j u, (l.flatMap prc)[j]? = some u -> (w.alloc (.cells #[] 42)).cell? (ad.add j) = some u) := fun j u h => zab (ba _ _) (zvw hx j u h)
   have HFL : Hid ((l.flatMap prc).length = l.length * 3) := by show _ = _; rw [zbl zax]
   have H1 : Hid (0 + l.length <= maxLen) := by show _ <= _; unfold maxLen; omega
   have H2 : Hid ((0 + l.length) * 24 <= 140737488355328) := by show _ <= _; omega
   have HON := lh (zyg l);clear hx;go_enter Tryz.func73, Tryz.ntmps73;go_wp2_with (at_builtin; go_loud (refine app zq2 rfl _ _ rfl w.heap.size _ _ _ rfl H0.o ad l.length cap (l.flatMap prc) rfl HFL.o HC.o HON.o H1.o H2.o (by simp) ?_));intro v' w1 hown hgrow _
   have HO : Hid (OwnP w1 w.heap.size v' l) := by show OwnP _ _ _ _; unfold OwnP OwnL; simpa using hown
   have HG := lh hgrow;clear hown hgrow;go_wp2;go_ret;exact ⟨_, rfl, HO.o, (ba _ _).grown HG.o (by simp) (by simp [Value.ownBlock])⟩
def yb6 (B : Bool) (w : World) (e : Ending) (w' : World) : Prop := ∃ r : Int, e = .returned (.int .i64 r) /\ decide (0 <= r) = B /\ Below w.heap.size w w'
theorem yaa {p : Pr -> Bool} {xs : List Pr} {k : Nat} (hk : k < xs.length) (h : p xs[k] = true) : xs.any p = true := List.any_eq_true.2 ⟨_, List.getElem_mem hk, h⟩
theorem zwp {p : Pr -> Bool} {xs : List Pr} (h : ∀ j (hj : j < xs.length), p xs[j] = false) : xs.any p = false := by
 rw [Bool.eq_false_iff];intro hx;obtain ⟨x, hm, hp⟩ := List.any_eq_true.1 hx;obtain ⟨j, hj, rfl⟩ := List.getElem_of_mem hm;rw [h j hj] at hp;exact absurd hp (by simp)
theorem zki (a : Option Addr) (cap : Nat) (xs : List Pr) (g : FuncId) (cs : Array Value) (p : Pr -> Bool) (w : World) (hl : xs.length <= 1073741824)
 (hx : PrCells w a xs) (hp : ∀ x W, x ∈ xs -> Below w.heap.size w W -> Calls Tryz.prog g (#[prv x] ++ cs) W fun e w' => e = .returned (.bool (p x)) /\ Below W.heap.size W w') (hcf0 : za8 g) :
 Calls Tryz.prog 65 #[.slice a xs.length cap, .func (.func g) #[] cs] w (yb6 (xs.any p) w) := by
 have HX := lh hx;have HP := lh hp;have hcf : ∀ (args : Array Value) (w : World), (callFunc g args).run Tryz.prog w = .ok (.enter g args) w := hcf0;clear hx hp hcf0;unfold prv at HP;go_enter Tryz.func65, Tryz.ntmps65;go_wp2
 go_loopw [5, 8] (fun v i wr => ∃ k : Nat, k <= xs.length /\ i = .int .i64 k /\ (∀ j (hj : j < xs.length), j < k -> p xs[j] = false) /\ Below w.heap.size w wr) (fun _ i _ => xs.length - (intOf i).toNat)
 case atStart => exact ⟨0, Nat.zero_le _, rfl, fun j _ h => absurd h (Nat.not_lt_zero _), Below.refl _ _⟩
 obtain ⟨k, hk, rfl, hno, hb⟩ := hrel;have HN := lh hno;have HB := lh hb;have HXR := lh (HX.o.keep hb);clear hno hb
 by_cases hlt : k < xs.length
 ·obtain ⟨b, off, rfl, c0, c1, c2⟩ := HXR.o.at hlt
  have hki : (k : Int) < (xs.length : Int) := by omega
  have HAT : Hid (p xs[k] = true -> xs.any p = true) := yaa hlt
  have HNN : Hid (p xs[k] = false -> ∀ j (hj : j < xs.length), j < k + 1 -> p xs[j] = false) := fun h j hj hjk => by
   by_cases e : j = k
   ·subst e; exact h
   exact HN.o j hj (by omega)
  have HC := lh (fun W h => HP.o xs[k] W (List.getElem_mem hlt) h);generalize xs[k] = q at *
  cases hpk : p q
  ·have HK := lh (HNN.o hpk);rw [hpk] at HC;clear hpk HNN HAT;go_wp2_with fail;refine (HC.o _ HB.o).mono ?_;rintro e w1 ⟨rfl, hb1⟩;have HB1 := bt HB hb1;clear hb1 c0 c1 c2;go_wp2;go_roundw
   case rel => exact ⟨k + 1, by omega, by go_num, HK.o, HB1.o⟩
   case measure => simp [intOf]; omega
  have HK := lh (HAT.o hpk);rw [hpk] at HC;clear hpk HNN HAT;go_wp2_with fail;refine (HC.o _ HB.o).mono ?_;rintro e w1 ⟨rfl, hb1⟩;have HB1 := bt HB hb1;clear hb1 c0 c1 c2;go_wp2;go_ret;exact ⟨(k : Int), rfl, by rw [HK.o]; simp, HB1.o⟩
 have hke : k = xs.length := by omega
 have HK : Hid (xs.any p = false) := zwp fun j hj => HN.o j hj (by omega)
 subst hke;go_wp2;go_ret;exact ⟨-1, rfl, by rw [HK.o]; rfl, HB.o⟩
theorem zg2 (a : Option Addr) (cap : Nat) (xs : List Pr) (g : FuncId) (cs : Array Value) (p : Pr -> Bool) (w : World) (hl : xs.length <= 1073741824)
 (hx : PrCells w a xs) (hp : ∀ x W, x ∈ xs -> Below w.heap.size w W -> Calls Tryz.prog g (#[prv x] ++ cs) W fun e w' => e = .returned (.bool (p x)) /\ Below W.heap.size W w') (hcf0 : za8 g) :
 Calls Tryz.prog 33 #[.slice a xs.length cap, .func (.func g) #[] cs] w fun e w' => e = .returned (.bool (xs.any p)) /\ Below w.heap.size w w' := by
 have HI := lh (zki a cap xs g cs p w hl hx hp hcf0);clear hx hp hcf0;generalize xs.any p = B at *;go_enter Tryz.func33, Tryz.ntmps33;go_wp2_with fail;refine HI.o.mono ?_;rintro e w1 ⟨r, rfl, hr, hb1⟩;have HB1 := lh hb1;have HR := lh hr;clear hb1 hr;go_wp2;go_ret;exact ⟨by rw [<- HR.o]; rfl, HB1.o⟩
def outP (n : Int) (q : Pr) : Bool := !decide (St.minus q.v (zbq n) = St.zero)
theorem zt0 (q : Pr) (T : Nat) (n : Int) (v : Value) (w : World) (hq : q.ok) (hT : Blk w T #[.int .i64 n, v] 24) :
 Calls Tryz.prog 34 #[prv q, .pointer (some ⟨T, 0, none⟩)] w fun e w' => e = .returned (.bool (outP n q)) /\ Below w.heap.size w w' := by
 have HAL := lh (fun V => zlw n V);have HSU := lh (fun V => zv6 q.v (zbq n) V hq (zdo _));have HR : Hid (outP n q = !decide (St.minus q.v (zbq n) = St.zero)) := rfl;generalize decide (St.minus q.v (zbq n) = St.zero) = B at *;generalize zbq n = al at *;unfold stv at HAL HSU;obtain ⟨W, hW⟩ := nm (w.alloc (.cells #[.int .u64 (q.v.a : Int), .int .u64 (q.v.b : Int), .bool q.odd] 42))
 have hbw : Below w.heap.size w W := by rw [hW]; exact ba _ _
 have q0 : Blk W w.heap.size #[.int .u64 (q.v.a : Int), .int .u64 (q.v.b : Int), .bool q.odd] 42 := by rw [hW]; exact Blk.new _ _ _
 have hTW := hT.later hbw;have HBW := lh hbw;have k0 := q0.cell 0;have k1 := q0.cell 1;have t0 := hTW.cell 0;have kz := q0.lt;have tz := hTW.lt
 have HKS : Hid (∀ w' : World, Below W.heap.size W w' -> (fun w' => w'.cell? ⟨w.heap.size, 0, none⟩ = some (.int .u64 (q.v.a : Int)) /\ w'.cell? ⟨w.heap.size, 1, none⟩ = some (.int .u64 (q.v.b : Int)) /\ w'.cell? ⟨T, 0, none⟩ = some (.int .i64 n)) w') := lh fun w' hb => ⟨zab hb k0, zab hb k1, zab hb t0⟩
 clear hbw q0 hT hTW hq;unfold prv;go_enter Tryz.func34, Tryz.ntmps34;go_wp2_with fail;rw [<- hW];clear hW
 refine wp_region_held_drew (S := (fun w' => w'.cell? ⟨w.heap.size, 0, none⟩ = some (.int .u64 (q.v.a : Int)) /\ w'.cell? ⟨w.heap.size, 1, none⟩ = some (.int .u64 (q.v.b : Int)) /\ w'.cell? ⟨T, 0, none⟩ = some (.int .i64 n))) (by kernel_rfl) (by exact HKS.o _ (Below.refl W.heap.size W).drew) fun hH => ?_
 refine tkV 0 4 rfl rfl ?_; try simp only [tkS]
 refine tkV 1 5 rfl rfl ?_; try simp only [tkS]
 refine tkV 2 6 rfl rfl ?_; try simp only [tkS]
 refine tkV 3 7 rfl rfl ?_; try simp only [tkS]
 refine tkR 4 (.cons rfl (fun K hK => ?_) .nil);go_simp;go_at_call 36
 with_reducible refine Calls.mono (HAL.o _) ?_
 rintro e w5 ⟨rfl, hb5⟩;have hw5 : Below W.heap.size W w5 := Below.trans (Below.refl W.heap.size W).drew (Below.mono hb5 (Below.size (Below.refl W.heap.size W).drew));clear hb5;go_wp2_with fail
 refine hK.out _ _ (by exact HKS.o _ hw5) fun hH => ?_
 clear hK K
 try simp only [tkS]
 refine tkR 5 (.cons rfl (fun K hK => ?_) .nil);go_simp;go_at_call 35
 with_reducible refine Calls.mono (HSU.o _) ?_
 rintro e w6 ⟨rfl, hb6⟩;have hw6 : Below W.heap.size W w6 := Below.trans hw5 (Below.mono hb6 (Below.size hw5));clear hb6;go_wp2_with fail
 refine hK.out _ _ (by exact HKS.o _ hw6) fun hH => ?_
 clear hK K
 try simp only [tkS]
 refine tkV 6 10 rfl rfl ?_; try simp only [tkS]
 refine tkV 7 3 rfl rfl ?_; try simp only [tkS]
 refine wpAnyH_done (by kernel_rfl) ?_ _;go_wp2;go_ret;exact ⟨by rw [HR.o]; rfl, HBW.o.trans (hw6.mono HBW.o.size)⟩
theorem zka : za8 34 := fun _ _ => by kernel_rfl
end Go.Proofs.YtlleofjjdhfgcaaGreatDoor
