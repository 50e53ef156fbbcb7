/- Part of the proofs that laws of censuslaw38 return true for every input, where the tables that the rows list are laid. Texts: Tz, Members, First, VLess. -/
import Derived.Test.YtfdonhfhcomjaaaGreatDoorZG1
import Derived.Lib.TrailingZeros
import Derived.Laws.Bits64b
import Derived.RangeFuncNested
import Derived.RangeFuncBound
import Derived.RangeFuncCalls
import Derived.RangeFuncLeaves
import Derived.Shelf.Abstract
import Derived.Shelf.RegionOpen
import Derived.WalkKit
import Derived.OwnWalkIn
import Derived.TacticsInMore
import Derived.LoopNIn
import Derived.LoopIn
import Derived.RangeFuncFrom
import Derived.Deep.RegionHeld3

/- The walk of bits.TrailingZeros64; plain: the bits of a word, the lowest first. -/
namespace Go.Proofs.YtfdonhfhcomjaaaGreatDoor
open Go.RowKit Cen
set_option maxHeartbeats 2000000
set_option maxRecDepth 100000
/-- The table of math/bits lies in its variable. -/
def Dtab (w : World) : Prop := ∀ j, j < 64 → w.cell? ⟨0, j, none⟩ = some (.int .u8 (Lib.deBruijn64tab.getD j 0 : Nat))
theorem Dtab.keep {w w' : World} (h : Dtab w) (hb : Below w.heap.size w w') : Dtab w' := fun j hj => cell_keep hb (h j hj)
theorem tz_key (x a : Nat) (hx : x < U64) (hx0 : x ≠ 0) (hlow : x &&& (18446744073709551616 - x) = a) :
    IntKind.u64.wrap (bits BinOp.and IntKind.u64 (x : Int) (IntKind.u64.wrap (-(x : Int))) * 285870213051353865) / 288230376151711744 = ((a * 285870213051353865 % 18446744073709551616 / 288230376151711744 : Nat) : Int) := by
  unfold U64 at hx
  have e1 : IntKind.u64.wrap (-(x : Int)) = ((18446744073709551616 - x : Nat) : Int) := by rw [IntKind.wrap_u64]; omega
  rw [e1, and64 (by unfold U64; omega) (by unfold U64; omega), hlow, IntKind.wrap_u64]
  omega
theorem tz64_core (x k idx : Nat) (w : World) (hx1 : ((x : Int) == 0) = false)
    (key : IntKind.u64.wrap (bits BinOp.and IntKind.u64 (x : Int) (IntKind.u64.wrap (-(x : Int))) * 285870213051353865) / 288230376151711744 = (idx : Int))
    (hi : idx < 64) (hk : k < 64) (hcell : w.cell? ⟨0, idx, none⟩ = some (.int .u8 k)) :
    Calls Tryz.prog 166 #[.int .u64 (x : Int)] w fun e w' => e = .returned (.int .i64 k) ∧ w = w' := by
  go_enter Tryz.func166, Tryz.ntmps166
  go_wp2_with (simp only [key])
  go_ret
  exact ⟨rfl, rfl⟩
theorem tz64_any (x : Nat) (hx : x < U64) (hx0 : x ≠ 0) (w : World) (hT : Dtab w) :
    Calls Tryz.prog 166 #[.int .u64 (x : Int)] w fun e w' => e = .returned (.int .i64 (Lib.ctz 64 x : Nat)) ∧ w = w' := by
  obtain ⟨hlow, hk⟩ := Lib.lowest_bit 64 x hx0 (by unfold U64 at hx; exact hx)
  obtain ⟨hi, htab⟩ := Lib.deBruijn64_at _ hk
  have hcell := hT _ hi
  rw [htab] at hcell
  exact tz64_core x _ _ w (by simp; omega) (tz_key x _ hx hx0 hlow) hi hk hcell
/-- Without its lowest bit. -/
theorem low_off {x i : Nat} (h0 : x ≠ 0) (h : x < 2 ^ 64) : (x &&& (x - 1)).testBit i = (x.testBit i && decide (i ≠ Lib.ctz 64 x)) := by
  obtain ⟨m, hm, _⟩ := Lib.ctzFrom_spec 64 x (by omega) h
  have e : Lib.ctz 64 x = Lib.ctzFrom 64 x := by simp [Lib.ctz, h0]
  rw [e]
  generalize Lib.ctzFrom 64 x = c at *
  have hp : 0 < 2 ^ c := Nat.pow_pos (by omega)
  have e1 : x - 1 = 2 ^ c * (2 * m) + (2 ^ c - 1) := by rw [hm, Nat.mul_add, Nat.mul_one]; omega
  have b1 : ∀ i, x.testBit i = (decide (c ≤ i) && (2 * m + 1).testBit (i - c)) := fun i => by rw [hm, Nat.mul_comm, Nat.testBit_mul_two_pow]
  have b2 : ∀ i, (x - 1).testBit i = if i < c then true else (2 * m).testBit (i - c) := fun i => by
    rw [e1, Nat.testBit_two_pow_mul_add _ (by omega)]
    split
    · rename_i h; rw [Nat.testBit_two_pow_sub_one]; simpa using h
    · rfl
  rw [Nat.testBit_and, b1, b2]
  by_cases h1 : i < c
  · rw [decide_eq_false (show ¬ c ≤ i by omega)]; simp
  · rw [if_neg h1, decide_eq_true (show c ≤ i by omega)]
    by_cases h2 : i = c
    · subst h2; simp
    · rw [decide_eq_true h2, Bool.and_true, Bool.true_and]
      obtain ⟨j, hj⟩ : ∃ j, i - c = j + 1 := ⟨i - c - 1, by omega⟩
      rw [hj, Nat.testBit_succ, Nat.testBit_succ, show (2 * m + 1) / 2 = m by omega, show 2 * m / 2 = m by omega, Bool.and_self]
theorem low_on {x : Nat} (h0 : x ≠ 0) (h : x < 2 ^ 64) : x.testBit (Lib.ctz 64 x) = true ∧ (∀ j, j < Lib.ctz 64 x → x.testBit j = false) ∧ Lib.ctz 64 x < 64 := by
  obtain ⟨m, hm, hk⟩ := Lib.ctzFrom_spec 64 x (by omega) h
  have e : Lib.ctz 64 x = Lib.ctzFrom 64 x := by simp [Lib.ctz, h0]
  rw [e]
  generalize Lib.ctzFrom 64 x = c at *
  have b1 : ∀ i, x.testBit i = (decide (c ≤ i) && (2 * m + 1).testBit (i - c)) := fun i => by rw [hm, Nat.mul_comm, Nat.testBit_mul_two_pow]
  refine ⟨?_, fun j hj => ?_, hk⟩
  · rw [b1, decide_eq_true (Nat.le_refl c), Nat.sub_self]; simp
  · rw [b1, decide_eq_false (show ¬ c ≤ j by omega)]; rfl
/-- The bits of a word from place k on, the lowest first. -/
def bitsL (x : Nat) : List Nat := (List.range 64).filter fun i => x.testBit i
theorem bitsL_nil : bitsL 0 = [] := by unfold bitsL; simp
theorem bitsL_step {x : Nat} (h0 : x ≠ 0) (h : x < 2 ^ 64) : bitsL x = Lib.ctz 64 x :: bitsL (x &&& (x - 1)) := by
  obtain ⟨h1, h2, h3⟩ := low_on h0 h
  have hoff := fun i => low_off (i := i) h0 h
  generalize Lib.ctz 64 x = c at *
  unfold bitsL
  have hs : List.range 64 = List.range c ++ (c :: (List.range (63 - c)).map (· + (c + 1))) := by
    apply List.ext_getElem
    · simp; omega
    · intro i a b
      rw [List.getElem_range]
      by_cases e1 : i < c
      · rw [List.getElem_append_left (by simpa using e1), List.getElem_range]
      · rw [List.getElem_append_right (by simpa using e1)]
        simp only [List.length_range]
        by_cases e2 : i = c
        · subst e2; simp
        · obtain ⟨j, hj⟩ : ∃ j, i - c = j + 1 := ⟨i - c - 1, by omega⟩
          simp only [hj, List.getElem_cons_succ, List.getElem_map, List.getElem_range]
          omega
  have f1 : (List.range c).filter (fun i => x.testBit i) = [] := by
    rw [List.filter_eq_nil_iff]; intro i hi; rw [h2 i (List.mem_range.1 hi)]; simp
  have f2 : (List.range c).filter (fun i => (x &&& (x - 1)).testBit i) = [] := by
    rw [List.filter_eq_nil_iff]; intro i hi; rw [hoff, h2 i (List.mem_range.1 hi)]; simp
  rw [hs, List.filter_append, List.filter_append, f1, f2, List.filter_cons, List.filter_cons, if_pos h1, if_neg (by rw [hoff]; simp), List.nil_append, List.nil_append]
  congr 1
  refine List.filter_congr fun i hi => ?_
  rw [List.mem_map] at hi
  obtain ⟨j, _, rfl⟩ := hi
  rw [hoff, decide_eq_true (show j + (c + 1) ≠ c by omega), Bool.and_true]
end Go.Proofs.YtfdonhfhcomjaaaGreatDoor

/- The walk of vars.members: the iterator over a set's variables. -/
namespace Go.Proofs.YtfdonhfhcomjaaaGreatDoor
open Go.RowKit Go.Shelf Cen
attribute [local go_sem] Oper.semAt_some
set_option maxHeartbeats 4000000
set_option maxRecDepth 100000
def offs (wd : Nat) (x : Nat) : List Int := (bitsL x).map fun i : Nat => 64 * (wd : Int) + (i : Int) + 1
/-- The variables of a set, in order. -/
def memS (s : St) : List Int := offs 0 s.a ++ offs 1 s.b
def prefS (s : St) : Nat → List Int
  | 0 => []
  | 1 => offs 0 s.a
  | _ => memS s
theorem offs_step {x : Nat} (wd : Nat) (h0 : x ≠ 0) (h : x < 2 ^ 64) : offs wd x = (64 * (wd : Int) + (Lib.ctz 64 x : Int) + 1) :: offs wd (x &&& (x - 1)) := by
  unfold offs; rw [bitsL_step h0 h, List.map_cons]
theorem offs_len (wd x : Nat) : (offs wd x).length ≤ 64 := by
  unfold offs bitsL
  rw [List.length_map]
  have := List.length_filter_le (fun i => x.testBit i) (List.range 64)
  simpa using this
theorem memS_len (s : St) : (memS s).length ≤ 128 := by
  unfold memS; rw [List.length_append]
  have := offs_len 0 s.a; have := offs_len 1 s.b; omega
theorem and_sub64 {x : Nat} (h : x < U64) (h0 : x ≠ 0) : bits .and .u64 (x : Int) (IntKind.u64.wrap ((x : Int) - 1)) = ((x &&& (x - 1) : Nat) : Int) := by
  have e : IntKind.u64.wrap ((x : Int) - 1) = ((x - 1 : Nat) : Int) := by
    unfold U64 at h; rw [IntKind.wrap_u64]; omega
  rw [e, and64 h (by unfold U64 at *; omega)]
theorem members1_in (n : Nat) (hn : 1 ≤ n) (l Bs n₀ : Nat) (s : St) (hs : s.ok) (J Jx : List Int → World → Prop)
    (hY : ∀ pre x W, J pre W → pre.length < 128 → YieldAt Fence.wide (n - 1) Tryz.prog l #[.int .i64 x] W fun e W' =>
      (e = .returned (.bool true) ∧ J (pre ++ [x]) W' ∧ Below n₀ W W') ∨ (e = .returned (.bool false) ∧ Jx (pre ++ [x]) W'))
    (W : World) (hB0 : W.cell? ⟨Bs, 0, none⟩ = some (.int .u64 (s.a : Int))) (hB1 : W.cell? ⟨Bs, 1, none⟩ = some (.int .u64 (s.b : Int))) (hT : ∀ V, Below n₀ W V → Dtab V) (h0 : J [] W) :
    CallsIn Fence.wide n Tryz.prog 165 #[.func (.yield l) #[] #[], .pointer (some ⟨Bs, 0, none⟩)] W fun e W' => (∃ v, e = .returned v) ∧
      ((∃ ys, ys = memS s ∧ J ys W') ∨ (∃ pre, pre <+: memS s ∧ Jx pre W')) := by
  have HT := Lib.hid hT
  have HY := Lib.hid hY
  have hi0 : ∀ w, (Instr.index 38 (.agg #[.int .u64 (s.a : Int), .int .u64 (s.b : Int)]) (.int .i64 0)).run Tryz.prog w = .ok (.int .u64 (s.a : Int)) w := fun _ => by kernel_rfl
  have hi1 : ∀ w, (Instr.index 38 (.agg #[.int .u64 (s.a : Int), .int .u64 (s.b : Int)]) (.int .i64 1)).run Tryz.prog w = .ok (.int .u64 (s.b : Int)) w := fun _ => by kernel_rfl
  clear hT hY
  refine callsIn_of_wp Tryz.func165 rfl trivial ?_ rfl
  simp only [Tryz.ntmps165, List.size_toArray, List.length_cons, List.length_nil, Nat.reduceAdd, Nat.reduceSub, Array.replicate_succ, Array.replicate_zero, List.push_toArray, List.append_toArray, List.nil_append, List.cons_append]
  gi_wp2
  gi_loopw [6] (fun i wr => ((i = .int .i64 0 ∧ J (prefS s 0) wr) ∨ (i = .int .i64 1 ∧ J (prefS s 1) wr) ∨ (i = .int .i64 2 ∧ J (prefS s 2) wr)) ∧ Below n₀ W wr) (fun i _ => 2 - (intOf i).toNat)
  case atStart => exact ⟨.inl ⟨rfl, h0⟩, Below.refl _ _⟩
  case round =>
    obtain ⟨hcase, hb⟩ := hrel
    have HB := Lib.hid hb
    clear hb
    rcases hcase with ⟨rfl, hJ⟩ | ⟨rfl, hJ⟩ | ⟨rfl, hJ⟩
    · have HJ := Lib.hid hJ
      clear hJ
      gi_wp2
      obtain ⟨wo, rfl⟩ : ∃ wo : World, wo = wr := ⟨_, rfl⟩
      gi_loopw [4] (fun x wi => ∃ (y : Nat) (pre : List Int), x = .int .u64 (y : Int) ∧ y < U64 ∧ pre ++ offs 0 y = prefS s 1 ∧ J pre wi ∧ Below n₀ W wi) (fun x _ => (bitsL (intOf x).toNat).length)
      case atStart => exact ⟨s.a, [], rfl, hs.1, rfl, HJ.out, HB.out⟩
      case round =>
        obtain ⟨wi, rfl⟩ : ∃ wi : World, wi = wr := ⟨_, rfl⟩
        obtain ⟨y, pre, rfl, hy1, hpre, hJi, hbi⟩ := hrel
        have HJI := Lib.hid hJi
        have HBI := Lib.hid hbi
        have HPRE := Lib.hid hpre
        have HY1 := Lib.hid hy1
        clear hJi hbi hpre hy1
        by_cases hy0 : y = 0
        · subst hy0
          have HE : Hid (pre = prefS s 1) := by
            have h := HPRE.out
            rw [show offs 0 0 = [] by unfold offs; rw [bitsL_nil]; rfl, List.append_nil] at h
            exact h
          gi_wp2
          go_roundw
          case rel => exact ⟨.inr (.inl ⟨rfl, by rw [← HE.out]; exact HJI.out⟩), HBI.out⟩
          case measure => simp [intOf]
        · have hne : ((y : Int) != 0) = true := by simp; omega
          have hst := offs_step 0 hy0 (by have := HY1.out; unfold U64 at this; exact this)
          have hbs := bitsL_step hy0 (by have := HY1.out; unfold U64 at this; exact this)
          have hlo := (low_on hy0 (by have := HY1.out; unfold U64 at this; exact this)).2.2
          have hand := and_sub64 HY1.out hy0
          have HTZ := Lib.hid (fun V (hV : Below n₀ W V) => tz64_any y HY1.out hy0 V (HT.out V hV))
          have HY2 : Hid ((y &&& (y - 1)) < U64) := and_lt_U64 HY1.out
          have hlen : pre.length < 128 := by
            have h := congrArg List.length HPRE.out
            rw [hst, List.length_append, List.length_cons] at h
            have h2 := memS_len s
            have h3 := offs_len 0 s.a
            have h4 : (prefS s 1).length = (offs 0 s.a).length := rfl
            omega
          have HPX : Hid ((pre ++ [(Lib.ctz 64 y : Int) + 1]) ++ offs 0 (y &&& (y - 1)) = prefS s 1) := by
            show _ = _
            have h := HPRE.out
            rw [hst] at h
            rw [List.append_assoc, ← h]
            simp
          have HBS : Hid ((bitsL (y &&& (y - 1))).length < (bitsL y).length) := by show _ < _; rw [hbs]; simp
          generalize Lib.ctz 64 y = c at *
          have hc1 : (c : Int) ≤ 63 := by omega
          have hc0 : (0 : Int) ≤ (c : Int) := by omega
          obtain ⟨z, hz⟩ : ∃ z, z = y &&& (y - 1) := ⟨_, rfl⟩
          rw [← hz] at hand HY2 HPX HBS
          obtain ⟨fn, tmps, assign, body, hy, hR⟩ := HY.out pre ((c : Int) + 1) wi HJI.out hlen
          have HPP : Hid (∀ q, pre ++ [(c : Int) + 1] ++ q = prefS s 1 → pre ++ [(c : Int) + 1] <+: memS s) := Lib.hid fun q hq => by
            exact ⟨q ++ offs 1 s.b, by rw [← List.append_assoc, hq]; rfl⟩
          clear hst hbs hlo hlen hz hy0
          gi_wp2_with (refine ⟨trivial, ?_⟩; gi_at_call 166; refine (callsIn_wide.2 (HTZ.out _ HBI.out)).mono ?_; rintro e w' ⟨rfl, rfl⟩)
          refine hR.mono ?_
          rintro e W3 (⟨rfl, hJ3, hk3⟩ | ⟨rfl, hJx3⟩)
          · have HJ3 := Lib.hid hJ3
            have HB3 := Lib.hid (HBI.out.trans hk3)
            clear hJ3 hk3
            gi_wp2
            go_roundw
            case rel => exact ⟨z, _, rfl, HY2.out, HPX.out, HJ3.out, HB3.out⟩
            case measure => simpa [intOf] using HBS.out
          · have HJX := Lib.hid hJx3
            clear hJx3
            gi_wp2
            refine bodyPost_ret (results_none rfl _ _ _) rfl ?_
            exact ⟨⟨_, rfl⟩, .inr ⟨_, HPP.out _ HPX.out, HJX.out⟩⟩
    · have HJ := Lib.hid hJ
      clear hJ
      · skip
        gi_wp2
        obtain ⟨wo, rfl⟩ : ∃ wo : World, wo = wr := ⟨_, rfl⟩
        gi_loopw [4] (fun x wi => ∃ (y : Nat) (pre : List Int), x = .int .u64 (y : Int) ∧ y < U64 ∧ pre ++ offs 1 y = prefS s 2 ∧ J pre wi ∧ Below n₀ W wi) (fun x _ => (bitsL (intOf x).toNat).length)
        case atStart => exact ⟨s.b, offs 0 s.a, rfl, hs.2, rfl, HJ.out, HB.out⟩
        case round =>
          obtain ⟨wi, rfl⟩ : ∃ wi : World, wi = wr := ⟨_, rfl⟩
          obtain ⟨y, pre, rfl, hy1, hpre, hJi, hbi⟩ := hrel
          have HJI := Lib.hid hJi
          have HBI := Lib.hid hbi
          have HPRE := Lib.hid hpre
          have HY1 := Lib.hid hy1
          clear hJi hbi hpre hy1
          by_cases hy0 : y = 0
          · subst hy0
            have HE : Hid (pre = prefS s 2) := by
              have h := HPRE.out
              rw [show offs 1 0 = [] by unfold offs; rw [bitsL_nil]; rfl, List.append_nil] at h
              exact h
            gi_wp2
            go_roundw
            case rel => exact ⟨.inr (.inr ⟨rfl, by rw [← HE.out]; exact HJI.out⟩), HBI.out⟩
            case measure => simp [intOf]
          · have hne : ((y : Int) != 0) = true := by simp; omega
            have hst := offs_step 1 hy0 (by have := HY1.out; unfold U64 at this; exact this)
            have hbs := bitsL_step hy0 (by have := HY1.out; unfold U64 at this; exact this)
            have hlo := (low_on hy0 (by have := HY1.out; unfold U64 at this; exact this)).2.2
            have hand := and_sub64 HY1.out hy0
            have HTZ := Lib.hid (fun V (hV : Below n₀ W V) => tz64_any y HY1.out hy0 V (HT.out V hV))
            have HY2 : Hid ((y &&& (y - 1)) < U64) := and_lt_U64 HY1.out
            have hlen : pre.length < 128 := by
              have h := congrArg List.length HPRE.out
              rw [hst, List.length_append, List.length_cons] at h
              have h2 := memS_len s
              have h3 := offs_len 0 s.a
              have h4 : (prefS s 2).length = (memS s).length := rfl
              omega
            have HPX : Hid ((pre ++ [64 + (Lib.ctz 64 y : Int) + 1]) ++ offs 1 (y &&& (y - 1)) = prefS s 2) := by
              show _ = _
              have h := HPRE.out
              rw [hst] at h
              rw [List.append_assoc, ← h]
              simp
            have HBS : Hid ((bitsL (y &&& (y - 1))).length < (bitsL y).length) := by show _ < _; rw [hbs]; simp
            generalize Lib.ctz 64 y = c at *
            have hc1 : (c : Int) ≤ 63 := by omega
            have hc0 : (0 : Int) ≤ (c : Int) := by omega
            obtain ⟨z, hz⟩ : ∃ z, z = y &&& (y - 1) := ⟨_, rfl⟩
            rw [← hz] at hand HY2 HPX HBS
            obtain ⟨fn, tmps, assign, body, hy, hR⟩ := HY.out pre (64 + (c : Int) + 1) wi HJI.out hlen
            have HPP : Hid (∀ q, pre ++ [64 + (c : Int) + 1] ++ q = prefS s 2 → pre ++ [64 + (c : Int) + 1] <+: memS s) := Lib.hid fun q hq => by
              exact ⟨q, hq⟩
            clear hst hbs hlo hlen hz hy0
            gi_wp2_with (refine ⟨trivial, ?_⟩; gi_at_call 166; refine (callsIn_wide.2 (HTZ.out _ HBI.out)).mono ?_; rintro e w' ⟨rfl, rfl⟩)
            refine hR.mono ?_
            rintro e W3 (⟨rfl, hJ3, hk3⟩ | ⟨rfl, hJx3⟩)
            · have HJ3 := Lib.hid hJ3
              have HB3 := Lib.hid (HBI.out.trans hk3)
              clear hJ3 hk3
              gi_wp2
              go_roundw
              case rel => exact ⟨z, _, rfl, HY2.out, HPX.out, HJ3.out, HB3.out⟩
              case measure => simpa [intOf] using HBS.out
            · have HJX := Lib.hid hJx3
              clear hJx3
              gi_wp2
              refine bodyPost_ret (results_none rfl _ _ _) rfl ?_
              exact ⟨⟨_, rfl⟩, .inr ⟨_, HPP.out _ HPX.out, HJX.out⟩⟩
    · have HJ := Lib.hid hJ
      clear hJ
      · gi_wp2
        go_end0
        exact ⟨⟨_, rfl⟩, .inl ⟨_, rfl, HJ.out⟩⟩
end Go.Proofs.YtfdonhfhcomjaaaGreatDoor

/- The walks of vars.members and vars.First. -/
namespace Go.Proofs.YtfdonhfhcomjaaaGreatDoor
open Go.RowKit Go.Shelf Cen
attribute [local go_sem] Oper.semAt_some
set_option maxHeartbeats 4000000
set_option maxRecDepth 100000
def firstS (s : St) : Int := (memS s).headD 0
theorem members_any (s : St) (w : World) : Calls Tryz.prog 115 #[stv s] w fun e w' => e = .returned (.func (.func 165) #[] #[.pointer (some ⟨w.heap.size, 0, none⟩)]) ∧ w' = w.alloc (.cells #[.int .u64 (s.a : Int), .int .u64 (s.b : Int)] 38) := by
  go_enter Tryz.func115, Tryz.ntmps115
  go_wp2
  go_ret
  exact ⟨rfl, rfl⟩
theorem Dtab.on {w0 W V : World} (h : Dtab w0) (hW : Below w0.heap.size w0 W) (hV : Below w0.heap.size W V) : Dtab V := h.keep (hW.trans hV)
theorem members_stops (n : Nat) (hn : 1 ≤ n) (Bs : Nat) (s : St) (hs : s.ok) (w0 w : World) (hw0 : Below w0.heap.size w0 w) (hT : Dtab w0) (hBs : Bs < w.heap.size)
    (hB0 : w.cell? ⟨Bs, 0, none⟩ = some (.int .u64 (s.a : Int))) (hB1 : w.cell? ⟨Bs, 1, none⟩ = some (.int .u64 (s.b : Int))) :
    SeqStopsK Fence.wide n Tryz.prog 165 #[.pointer (some ⟨Bs, 0, none⟩)] (fun x : Int => #[Value.int .i64 x]) (Below w0.heap.size) (fun ys => ys = memS s) (fun pre => pre <+: memS s) 128 w := fun l J Jx W hW _ _ hY h0 =>
  members1_in n hn l Bs w0.heap.size s hs J Jx hY W ((hW.cell (p := ⟨Bs, 0, none⟩) hBs).trans hB0) ((hW.cell (p := ⟨Bs, 1, none⟩) hBs).trans hB1) (fun _ hV => hT.on (hw0.trans (hW.mono hw0.size)) hV) h0
theorem first_any (s : St) (w : World) (hs : s.ok) (hT : Dtab w) : Calls Tryz.prog 69 #[stv s] w fun e w' => e = .returned (.int .i64 (firstS s)) ∧ Below w.heap.size w w' := by
  have HT := Lib.hid hT
  clear hT
  refine (callsIn_wide (n := 3)).1 ?_
  refine callsIn_of_wp_marks Tryz.func69 rfl trivial ?_ rfl
  simp only [Tryz.ntmps69, List.size_toArray, List.length_cons, List.length_nil, Nat.reduceAdd, Nat.reduceSub, Array.replicate_succ, Array.replicate_zero, List.push_toArray, List.append_toArray, List.nil_append, List.cons_append]
  gi_wp2_with (refine ⟨trivial, ?_⟩; gi_at_call 115; refine (callsIn_wide.2 (members_any s _)).mono ?_; rintro e w' ⟨rfl, rfl⟩)
  have q1 := (Blk.new' (w.alloc (.cells #[.int .u64 (s.a : Int), .int .u64 (s.b : Int)] 38)) (b := w.heap.size + 1) (by simp only [World.size_alloc]) #[.int .i64 0] 3).alloc (.cells #[.int .u64 (s.a : Int), .int .u64 (s.b : Int)] 38)
  have hB0 : Below w.heap.size w (((w.alloc (.cells #[.int .u64 (s.a : Int), .int .u64 (s.b : Int)] 38)).alloc (.cells #[.int .i64 0] 3)).alloc (.cells #[.int .u64 (s.a : Int), .int .u64 (s.b : Int)] 38)) := (((Below.refl _ w).alloc (Nat.le_refl _) _).alloc (by simp) _).alloc (by simp; omega) _
  have q2 := Blk.new' ((w.alloc (.cells #[.int .u64 (s.a : Int), .int .u64 (s.b : Int)] 38)).alloc (.cells #[.int .i64 0] 3)) (b := w.heap.size + 1 + 1) (by simp only [World.size_alloc]) #[.int .u64 (s.a : Int), .int .u64 (s.b : Int)] 38
  refine wpIn_rangeFunc_ownF rfl (by omega) (gf := 165) (lb := #[.pointer (some ⟨w.heap.size + 1 + 1, 0, none⟩)]) rfl trivial (enters_of Tryz.func165 (by kernel_rfl) rfl)
    (members_stops (3 - 1) (by omega) (w.heap.size + 1 + 1) s hs w _ hB0 HT.out q2.lt (q2.cell 0) (q2.cell 1)) belowK_t (belowK_b (by simp; omega)) (Below.refl _ _) (fun _ => rfl)
    (fun pre W => (pre = [] ∧ W.cell? ⟨w.heap.size + 1, 0, none⟩ = some (.int .i64 0) ∧ W.frozen? ⟨w.heap.size + 1, 0, none⟩ = false) ∧ Below w.heap.size w W)
    (fun c pre W => (c = .ret ∧ ∃ x, pre = [x] ∧ W.cell? ⟨w.heap.size + 1, 0, none⟩ = some (.int .i64 x)) ∧ Below w.heap.size w W)
    (OwnFrom.and (Own.from (fun s A B row hs hg hr => ⟨hs.1, cell_kept hs.2.1 hg hr, (frozen_kept hs.2.1 hg hr).trans hs.2.2⟩) _) (ownFrom_below (Nat.le_refl _) (by simp; omega)))
    (fun c => OwnFrom.and (Own.from (fun s A B row hs hg hr => ⟨hs.1, by obtain ⟨_, x, h1, h2⟩ := hs; exact ⟨x, h1, cell_kept h2 hg hr⟩⟩) _) (ownFrom_below (Nat.le_refl _) (by simp; omega)))
    ⟨⟨rfl, q1.cell 0, q1.fr 0⟩, hB0⟩
    (fun x => { tmps := #[stv s, .pointer (some ⟨w.heap.size, 0, none⟩), .pointer (some ⟨w.heap.size + 1, 0, none⟩), .int .i64 x, stv s, .func (.func 165) #[] #[.pointer (some ⟨w.heap.size + 1 + 1, 0, none⟩)], .int .i64 x, undef], defers := [] }) ?assign ?body ?done ?stop
  case assign =>
    intro l x W K hK
    gi_wp2
    exact hK
  case body =>
    rintro l pre x W ⟨⟨rfl, hcr, hfr⟩, hB⟩ _
    gi_wp2
    exact ⟨KeepsOthers.setCell _ _ _, ⟨rfl, x, rfl, World.cell?_setCell_same' _ _ _ (by rw [hcr]; rfl)⟩, hB.setCell (p := ⟨w.heap.size + 1, 0, none⟩) (by simp) _⟩
  case done =>
    rintro D ys W hD rfl ⟨⟨hne, hcr, hfr⟩, hB⟩ hK
    gi_wp2
    have hK' := (KeepsOthers.setCell W ⟨w.heap.size + 1, 0, none⟩ (.int .i64 0)).same D _ hK rfl
    refine ⟨by simp, .inl ⟨_, _, rfl, run_takeDeferred hK', ?_⟩⟩
    have hc5 := cell_kept (World.cell?_setCell_same' W ⟨w.heap.size + 1, 0, none⟩ (.int .i64 0) (by rw [hcr]; rfl)) (grownBy_putObj' _ D (.deferred none)) (fun r e => by cases e; exact ⟨_, hK', rfl⟩)
    refine ⟨.int .i64 0, ?_, by unfold firstS; rw [hne]; rfl, (hB.setCell (p := ⟨w.heap.size + 1, 0, none⟩) (by simp) _).trans (belowK_b (w := w) (Nat.le_refl _) _ D _ _ (by simp at hD; omega) hK' rfl rfl)⟩
    simp [results, Tryz.f69, go_sem, hc5]
  case stop =>
    rintro D c pre W hD hpre ⟨⟨rfl, x, rfl, hcr⟩, hB⟩ hK
    gi_wp2
    refine ⟨by simp, .inl ⟨_, _, rfl, run_takeDeferred hK, ?_⟩⟩
    have hc5 := cell_kept hcr (grownBy_putObj' _ D (.deferred none)) (fun r e => by cases e; exact ⟨_, hK, rfl⟩)
    refine ⟨.int .i64 x, ?_, by obtain ⟨t, ht⟩ := hpre; unfold firstS; rw [← ht]; rfl, hB.trans (belowK_b (w := w) (Nat.le_refl _) W D _ _ (by simp at hD; omega) hK rfl rfl)⟩
    simp [results, Tryz.f69, go_sem, hc5]
end Go.Proofs.YtfdonhfhcomjaaaGreatDoor

/- The walk of vars.Less; what it says. -/
namespace Go.Proofs.YtfdonhfhcomjaaaGreatDoor
open Go.RowKit Cen
set_option maxHeartbeats 4000000
set_option maxRecDepth 100000
theorem last5v {p q r s t : Prop} (h : p ∧ q ∧ r ∧ s ∧ t) : t := h.2.2.2.2
def diffS (s t : St) : St := (St.minus s t).union (St.minus t s)
def lessS (s t : St) : Bool := decide (0 < firstS (diffS s t)) && !s.mem (firstS (diffS s t))
theorem diffS_ok {s t : St} (hs : s.ok) (ht : t.ok) : (diffS s t).ok := St.union_ok (St.minus_ok hs) (St.minus_ok ht)
theorem vless_any (s t : St) (w : World) (hs : s.ok) (ht : t.ok) (hT : Dtab w) : Calls Tryz.prog 32 #[stv s, stv t] w fun e w' => e = .returned (.bool (lessS s t)) ∧ Below w.heap.size w w' := by
  have hb0 := ((Below.refl w.heap.size w).alloc (Nat.le_refl _) (.cells #[.int .u64 (s.a : Int), .int .u64 (s.b : Int)] 38)).alloc (by simp) (.cells #[.int .u64 (t.a : Int), .int .u64 (t.b : Int)] 38)
  have HB0 := Lib.hid hb0
  have q0 := Lib.hid ((Blk.new w #[.int .u64 (s.a : Int), .int .u64 (s.b : Int)] 38).alloc (.cells #[.int .u64 (t.a : Int), .int .u64 (t.b : Int)] 38))
  have q1 := Lib.hid (Blk.new' (w.alloc (.cells #[.int .u64 (s.a : Int), .int .u64 (s.b : Int)] 38)) (World.size_alloc _ _) #[.int .u64 (t.a : Int), .int .u64 (t.b : Int)] 38)
  have HT := Lib.hid hT
  have HAB := Lib.hid (fun V => minus_any s t V hs ht)
  have HBA := Lib.hid (fun V => minus_any t s V ht hs)
  have HU := Lib.hid (fun V => union_any (St.minus s t) (St.minus t s) V (St.minus_ok hs) (St.minus_ok ht))
  have HF := Lib.hid (fun V h => first_any (diffS s t) V (diffS_ok hs ht) h)
  have HH := Lib.hid (fun v V => has_any s v V hs)
  have HD : Hid ((St.minus s t).union (St.minus t s) = diffS s t) := rfl
  have HL : Hid (lessS s t = (decide (0 < firstS (diffS s t)) && !s.mem (firstS (diffS s t)))) := rfl
  rw [HD.out] at HU
  obtain ⟨W0, hW0⟩ : ∃ W0, W0 = (w.alloc (.cells #[.int .u64 (s.a : Int), .int .u64 (s.b : Int)] 38)).alloc (.cells #[.int .u64 (t.a : Int), .int .u64 (t.b : Int)] 38) := ⟨_, rfl⟩
  rw [← hW0] at HB0 q0 q1
  have HW0 := Lib.hid hW0
  generalize St.minus s t = m1 at *
  generalize St.minus t s = m2 at *
  generalize diffS s t = df at *
  have k0 : W0.cell? ⟨w.heap.size, 0, none⟩ = some (.int .u64 (s.a : Int)) := q0.out.cell 0
  have k1 : W0.cell? ⟨w.heap.size, 1, none⟩ = some (.int .u64 (s.b : Int)) := q0.out.cell 1
  have k2 : W0.cell? ⟨w.heap.size + 1, 0, none⟩ = some (.int .u64 (t.a : Int)) := q1.out.cell 0
  have k3 : W0.cell? ⟨w.heap.size + 1, 1, none⟩ = some (.int .u64 (t.b : Int)) := q1.out.cell 1
  have HKS : Hid (∀ w' : World, Below W0.heap.size W0 w' → w'.cell? ⟨w.heap.size, 0, none⟩ = some (.int .u64 (s.a : Int)) ∧ w'.cell? ⟨w.heap.size, 1, none⟩ = some (.int .u64 (s.b : Int)) ∧ w'.cell? ⟨w.heap.size + 1, 0, none⟩ = some (.int .u64 (t.a : Int)) ∧ w'.cell? ⟨w.heap.size + 1, 1, none⟩ = some (.int .u64 (t.b : Int)) ∧ Below W0.heap.size W0 w') := Lib.hid fun w' hb => ⟨cell_keep hb k0, cell_keep hb k1, cell_keep hb k2, cell_keep hb k3, hb⟩
  clear hb0 hW0 hT
  go_enter Tryz.func32, Tryz.ntmps32
  go_wp2_with fail
  try (rw [← HW0.out])
  refine wp_region_held_drew (S := (fun w' => w'.cell? ⟨w.heap.size, 0, none⟩ = some (.int .u64 (s.a : Int)) ∧ w'.cell? ⟨w.heap.size, 1, none⟩ = some (.int .u64 (s.b : Int)) ∧ w'.cell? ⟨w.heap.size + 1, 0, none⟩ = some (.int .u64 (t.a : Int)) ∧ w'.cell? ⟨w.heap.size + 1, 1, none⟩ = some (.int .u64 (t.b : Int)) ∧ Below W0.heap.size W0 w')) (by kernel_rfl) ?_ (fun hHeld => ?_)
  · try dsimp only
    exact HKS.out _ (Below.refl _ _).drew
  refine wpAnyH_take (i := 0) (v := ?_) rfl (by kernel_rfl) (by kernel_rfl) (by kernel_rfl) (fun _ _ _ h => h) (Or.inl ⟨by rfl, ?_⟩) (by assumption) ?_
  rotate_left
  · intro w hSw
    try dsimp only at hSw
    first | (go_simp; done) | (go_simp; with_reducible rfl)
  change wpAnyH _ _ _ _ _ _ _ (Act.put _ (some 6) _) _
  try simp only [Act.put, List.setIfInBounds_toArray, List.set_cons_zero, List.set_cons_succ]
  refine wpAnyH_take (i := 1) (v := ?_) rfl (by kernel_rfl) (by kernel_rfl) (by kernel_rfl) (fun _ _ _ h => h) (Or.inl ⟨by rfl, ?_⟩) (by assumption) ?_
  rotate_left
  · intro w hSw
    try dsimp only at hSw
    first | (go_simp; done) | (go_simp; with_reducible rfl)
  change wpAnyH _ _ _ _ _ _ _ (Act.put _ (some 7) _) _
  try simp only [Act.put, List.setIfInBounds_toArray, List.set_cons_zero, List.set_cons_succ]
  refine wpAnyH_take (i := 3) (v := ?_) rfl (by kernel_rfl) (by kernel_rfl) (by kernel_rfl) (fun _ _ _ h => h) (Or.inl ⟨by rfl, ?_⟩) (by assumption) ?_
  rotate_left
  · intro w hSw
    try dsimp only at hSw
    first | (go_simp; done) | (go_simp; with_reducible rfl)
  change wpAnyH _ _ _ _ _ _ _ (Act.put _ (some 9) _) _
  try simp only [Act.put, List.setIfInBounds_toArray, List.set_cons_zero, List.set_cons_succ]
  refine wpAnyH_take (i := 4) (v := ?_) rfl (by kernel_rfl) (by kernel_rfl) (by kernel_rfl) (fun _ _ _ h => h) (Or.inl ⟨by rfl, ?_⟩) (by assumption) ?_
  rotate_left
  · intro w hSw
    try dsimp only at hSw
    first | (go_simp; done) | (go_simp; with_reducible rfl)
  change wpAnyH _ _ _ _ _ _ _ (Act.put _ (some 10) _) _
  try simp only [Act.put, List.setIfInBounds_toArray, List.set_cons_zero, List.set_cons_succ]
  refine wpAnyH_ready (rs := [2]) (by kernel_rfl) (by simp) ?_
  refine AllReadyH.cons rfl (fun K hK => ?_) AllReadyH.nil
  go_simp
  go_at_call 67
  refine (HAB.out _).mono ?_
  rintro e w1 ⟨rfl, hb1⟩
  have hw1 : Below W0.heap.size W0 w1 := Below.trans (last5v (by assumption)) (hb1.mono (Below.size (B := W0.heap.size) (w := W0) (last5v (by assumption))))
  clear hb1
  go_wp2_with fail
  refine hK.out _ _ ?_ (fun hHeld => ?_)
  · try dsimp only
    exact HKS.out _ hw1
  clear hK K
  try simp only [Act.put, List.setIfInBounds_toArray, List.set_cons_zero, List.set_cons_succ]
  refine wpAnyH_ready (rs := [5]) (by kernel_rfl) (by simp) ?_
  refine AllReadyH.cons rfl (fun K hK => ?_) AllReadyH.nil
  go_simp
  go_at_call 67
  refine (HBA.out _).mono ?_
  rintro e w2 ⟨rfl, hb2⟩
  have hw2 : Below W0.heap.size W0 w2 := Below.trans (last5v (by assumption)) (hb2.mono (Below.size (B := W0.heap.size) (w := W0) (last5v (by assumption))))
  clear hb2
  go_wp2_with fail
  refine hK.out _ _ ?_ (fun hHeld => ?_)
  · try dsimp only
    exact HKS.out _ hw2
  clear hK K
  try simp only [Act.put, List.setIfInBounds_toArray, List.set_cons_zero, List.set_cons_succ]
  refine wpAnyH_ready (rs := [6]) (by kernel_rfl) (by simp) ?_
  refine AllReadyH.cons rfl (fun K hK => ?_) AllReadyH.nil
  go_simp
  go_at_call 70
  refine (HU.out _).mono ?_
  rintro e w3 ⟨rfl, hb3⟩
  have hw3 : Below W0.heap.size W0 w3 := Below.trans (last5v (by assumption)) (hb3.mono (Below.size (B := W0.heap.size) (w := W0) (last5v (by assumption))))
  clear hb3
  go_wp2_with fail
  refine hK.out _ _ ?_ (fun hHeld => ?_)
  · try dsimp only
    exact HKS.out _ hw3
  clear hK K
  try simp only [Act.put, List.setIfInBounds_toArray, List.set_cons_zero, List.set_cons_succ]
  refine wpAnyH_ready (rs := [7]) (by kernel_rfl) (by simp) ?_
  refine AllReadyH.cons rfl (fun K hK => ?_) AllReadyH.nil
  go_simp
  go_at_call 69
  refine (HF.out _ (HT.out.keep (HB0.out.trans (hw3.mono HB0.out.size)))).mono ?_
  rintro e w4 ⟨rfl, hb4⟩
  have hw4 : Below W0.heap.size W0 w4 := Below.trans (last5v (by assumption)) (hb4.mono (Below.size (B := W0.heap.size) (w := W0) (last5v (by assumption))))
  clear hb4
  go_wp2_with fail
  refine hK.out _ _ ?_ (fun hHeld => ?_)
  · try dsimp only
    exact HKS.out _ hw4
  clear hK K
  try simp only [Act.put, List.setIfInBounds_toArray, List.set_cons_zero, List.set_cons_succ]
  refine wpAnyH_take (i := 8) (v := ?_) rfl (by kernel_rfl) (by kernel_rfl) (by kernel_rfl) (fun _ _ _ h => h) (Or.inl ⟨by rfl, ?_⟩) (by assumption) ?_
  rotate_left
  · intro w hSw
    try dsimp only at hSw
    first | (go_simp; done) | (go_simp; with_reducible rfl)
  change wpAnyH _ _ _ _ _ _ _ (Act.put _ (some 5) _) _
  try simp only [Act.put, List.setIfInBounds_toArray, List.set_cons_zero, List.set_cons_succ]
  refine wpAnyH_done (by kernel_rfl) ?_ _
  all_goals
    have B4 := Lib.hid (HB0.out.trans (hw4.mono HB0.out.size))
    have Q := q0.out.later hw4
    have j0 : w4.cell? ⟨w.heap.size, 0, none⟩ = some (.int .u64 (s.a : Int)) := Q.cell 0
    have j1 : w4.cell? ⟨w.heap.size, 1, none⟩ = some (.int .u64 (s.b : Int)) := Q.cell 1
    obtain ⟨d, hd⟩ : ∃ d, d = firstS df := ⟨_, rfl⟩
    rw [← hd] at HL ⊢
    have HHD := Lib.hid (HH.out d w4)
    clear Q k0 k1 k2 k3 hHeld hd
    by_cases h0 : 0 < d
    · have d0 : decide (0 < d) = true := by simpa using h0
      rw [d0] at HL
      generalize s.mem d = mm at *
      go_wp2_with fail
      refine HHD.out.mono ?_
      rintro e w5 ⟨rfl, hb5⟩
      have B5 := Lib.hid (B4.out.trans (hb5.mono B4.out.size))
      clear hb5
      go_wp2
      go_ret
      exact ⟨ret_bool (by rw [HL.out]; simp), B5.out⟩
    · have d0 : decide (0 < d) = false := by simpa using h0
      rw [d0] at HL
      clear h0
      go_wp2
      go_ret
      exact ⟨ret_bool (by rw [HL.out]; simp), B4.out⟩
end Go.Proofs.YtfdonhfhcomjaaaGreatDoor
