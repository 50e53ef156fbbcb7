/- Part of the proofs that laws of censuslaw38 return true for every input, where the tables that the rows list are laid. Texts: Tz, Members, MemP, SumS, Memb, VList. -/
import Derived.Test.YtkaojolofaanfaaGreatDoorZA28
import Derived.Lib.TrailingZeros
import Derived.Laws.Bits64b
import Derived.RangeFuncNested
import Derived.RangeFuncBound
import Derived.RangeFuncCalls
import Derived.RangeFuncLeaves
import Derived.Shelf.Abstract
import Derived.Shelf.RegionOpen
import Derived.WalkKit
import Derived.OwnWalkIn
import Derived.TacticsInMore
import Derived.LoopNIn
import Derived.LoopIn
import Derived.Test.YtkaojolofaanfaaGreatDoorZA27
import Derived.RangeFuncFrom
import Derived.RangeFuncBox
import Derived.Maps.AppendAt

/- The walk of bits.TrailingZeros64; plain: the bits of a word, the lowest first. -/
namespace Go.Proofs.YtkaojolofaanfaaGreatDoor
open Go.RowKit Cen
set_option maxHeartbeats 2000000
set_option maxRecDepth 100000
/-- The table of math/bits lies in its variable. -/
def Dtab (w : World) : Prop := ∀ j, j < 64 → w.cell? ⟨0, j, none⟩ = some (.int .u8 (Lib.deBruijn64tab.getD j 0 : Nat))
theorem Dtab.keep {w w' : World} (h : Dtab w) (hb : Below w.heap.size w w') : Dtab w' := fun j hj => cell_keep hb (h j hj)
theorem tz_key (x a : Nat) (hx : x < U64) (hx0 : x ≠ 0) (hlow : x &&& (18446744073709551616 - x) = a) :
    IntKind.u64.wrap (bits BinOp.and IntKind.u64 (x : Int) (IntKind.u64.wrap (-(x : Int))) * 285870213051353865) / 288230376151711744 = ((a * 285870213051353865 % 18446744073709551616 / 288230376151711744 : Nat) : Int) := by
  unfold U64 at hx
  have e1 : IntKind.u64.wrap (-(x : Int)) = ((18446744073709551616 - x : Nat) : Int) := by rw [IntKind.wrap_u64]; omega
  rw [e1, and64 (by unfold U64; omega) (by unfold U64; omega), hlow, IntKind.wrap_u64]
  omega
theorem tz64_core (x k idx : Nat) (w : World) (hx1 : ((x : Int) == 0) = false)
    (key : IntKind.u64.wrap (bits BinOp.and IntKind.u64 (x : Int) (IntKind.u64.wrap (-(x : Int))) * 285870213051353865) / 288230376151711744 = (idx : Int))
    (hi : idx < 64) (hk : k < 64) (hcell : w.cell? ⟨0, idx, none⟩ = some (.int .u8 k)) :
    Calls Tryz.prog 207 #[.int .u64 (x : Int)] w fun e w' => e = .returned (.int .i64 k) ∧ w = w' := by
  go_enter Tryz.func207, Tryz.ntmps207
  go_wp2_with (simp only [key])
  go_ret
  exact ⟨rfl, rfl⟩
theorem tz64_any (x : Nat) (hx : x < U64) (hx0 : x ≠ 0) (w : World) (hT : Dtab w) :
    Calls Tryz.prog 207 #[.int .u64 (x : Int)] w fun e w' => e = .returned (.int .i64 (Lib.ctz 64 x : Nat)) ∧ w = w' := by
  obtain ⟨hlow, hk⟩ := Lib.lowest_bit 64 x hx0 (by unfold U64 at hx; exact hx)
  obtain ⟨hi, htab⟩ := Lib.deBruijn64_at _ hk
  have hcell := hT _ hi
  rw [htab] at hcell
  exact tz64_core x _ _ w (by simp; omega) (tz_key x _ hx hx0 hlow) hi hk hcell
/-- Without its lowest bit. -/
theorem low_off {x i : Nat} (h0 : x ≠ 0) (h : x < 2 ^ 64) : (x &&& (x - 1)).testBit i = (x.testBit i && decide (i ≠ Lib.ctz 64 x)) := by
  obtain ⟨m, hm, _⟩ := Lib.ctzFrom_spec 64 x (by omega) h
  have e : Lib.ctz 64 x = Lib.ctzFrom 64 x := by simp [Lib.ctz, h0]
  rw [e]
  generalize Lib.ctzFrom 64 x = c at *
  have hp : 0 < 2 ^ c := Nat.pow_pos (by omega)
  have e1 : x - 1 = 2 ^ c * (2 * m) + (2 ^ c - 1) := by rw [hm, Nat.mul_add, Nat.mul_one]; omega
  have b1 : ∀ i, x.testBit i = (decide (c ≤ i) && (2 * m + 1).testBit (i - c)) := fun i => by rw [hm, Nat.mul_comm, Nat.testBit_mul_two_pow]
  have b2 : ∀ i, (x - 1).testBit i = if i < c then true else (2 * m).testBit (i - c) := fun i => by
    rw [e1, Nat.testBit_two_pow_mul_add _ (by omega)]
    split
    · rename_i h; rw [Nat.testBit_two_pow_sub_one]; simpa using h
    · rfl
  rw [Nat.testBit_and, b1, b2]
  by_cases h1 : i < c
  · rw [decide_eq_false (show ¬ c ≤ i by omega)]; simp
  · rw [if_neg h1, decide_eq_true (show c ≤ i by omega)]
    by_cases h2 : i = c
    · subst h2; simp
    · rw [decide_eq_true h2, Bool.and_true, Bool.true_and]
      obtain ⟨j, hj⟩ : ∃ j, i - c = j + 1 := ⟨i - c - 1, by omega⟩
      rw [hj, Nat.testBit_succ, Nat.testBit_succ, show (2 * m + 1) / 2 = m by omega, show 2 * m / 2 = m by omega, Bool.and_self]
theorem low_on {x : Nat} (h0 : x ≠ 0) (h : x < 2 ^ 64) : x.testBit (Lib.ctz 64 x) = true ∧ (∀ j, j < Lib.ctz 64 x → x.testBit j = false) ∧ Lib.ctz 64 x < 64 := by
  obtain ⟨m, hm, hk⟩ := Lib.ctzFrom_spec 64 x (by omega) h
  have e : Lib.ctz 64 x = Lib.ctzFrom 64 x := by simp [Lib.ctz, h0]
  rw [e]
  generalize Lib.ctzFrom 64 x = c at *
  have b1 : ∀ i, x.testBit i = (decide (c ≤ i) && (2 * m + 1).testBit (i - c)) := fun i => by rw [hm, Nat.mul_comm, Nat.testBit_mul_two_pow]
  refine ⟨?_, fun j hj => ?_, hk⟩
  · rw [b1, decide_eq_true (Nat.le_refl c), Nat.sub_self]; simp
  · rw [b1, decide_eq_false (show ¬ c ≤ j by omega)]; rfl
/-- The bits of a word from place k on, the lowest first. -/
def bitsL (x : Nat) : List Nat := (List.range 64).filter fun i => x.testBit i
theorem bitsL_nil : bitsL 0 = [] := by unfold bitsL; simp
theorem bitsL_step {x : Nat} (h0 : x ≠ 0) (h : x < 2 ^ 64) : bitsL x = Lib.ctz 64 x :: bitsL (x &&& (x - 1)) := by
  obtain ⟨h1, h2, h3⟩ := low_on h0 h
  have hoff := fun i => low_off (i := i) h0 h
  generalize Lib.ctz 64 x = c at *
  unfold bitsL
  have hs : List.range 64 = List.range c ++ (c :: (List.range (63 - c)).map (· + (c + 1))) := by
    apply List.ext_getElem
    · simp; omega
    · intro i a b
      rw [List.getElem_range]
      by_cases e1 : i < c
      · rw [List.getElem_append_left (by simpa using e1), List.getElem_range]
      · rw [List.getElem_append_right (by simpa using e1)]
        simp only [List.length_range]
        by_cases e2 : i = c
        · subst e2; simp
        · obtain ⟨j, hj⟩ : ∃ j, i - c = j + 1 := ⟨i - c - 1, by omega⟩
          simp only [hj, List.getElem_cons_succ, List.getElem_map, List.getElem_range]
          omega
  have f1 : (List.range c).filter (fun i => x.testBit i) = [] := by
    rw [List.filter_eq_nil_iff]; intro i hi; rw [h2 i (List.mem_range.1 hi)]; simp
  have f2 : (List.range c).filter (fun i => (x &&& (x - 1)).testBit i) = [] := by
    rw [List.filter_eq_nil_iff]; intro i hi; rw [hoff, h2 i (List.mem_range.1 hi)]; simp
  rw [hs, List.filter_append, List.filter_append, f1, f2, List.filter_cons, List.filter_cons, if_pos h1, if_neg (by rw [hoff]; simp), List.nil_append, List.nil_append]
  congr 1
  refine List.filter_congr fun i hi => ?_
  rw [List.mem_map] at hi
  obtain ⟨j, _, rfl⟩ := hi
  rw [hoff, decide_eq_true (show j + (c + 1) ≠ c by omega), Bool.and_true]
end Go.Proofs.YtkaojolofaanfaaGreatDoor

/- The walk of vars.members: the iterator over a set's variables. -/
namespace Go.Proofs.YtkaojolofaanfaaGreatDoor
open Go.RowKit Go.Shelf Cen
attribute [local go_sem] Oper.semAt_some
set_option maxHeartbeats 4000000
set_option maxRecDepth 100000
def offs (wd : Nat) (x : Nat) : List Int := (bitsL x).map fun i : Nat => 64 * (wd : Int) + (i : Int) + 1
/-- The variables of a set, in order. -/
def memS (s : St) : List Int := offs 0 s.a ++ offs 1 s.b
def prefS (s : St) : Nat → List Int
  | 0 => []
  | 1 => offs 0 s.a
  | _ => memS s
theorem offs_step {x : Nat} (wd : Nat) (h0 : x ≠ 0) (h : x < 2 ^ 64) : offs wd x = (64 * (wd : Int) + (Lib.ctz 64 x : Int) + 1) :: offs wd (x &&& (x - 1)) := by
  unfold offs; rw [bitsL_step h0 h, List.map_cons]
theorem offs_len (wd x : Nat) : (offs wd x).length ≤ 64 := by
  unfold offs bitsL
  rw [List.length_map]
  have := List.length_filter_le (fun i => x.testBit i) (List.range 64)
  simpa using this
theorem memS_len (s : St) : (memS s).length ≤ 128 := by
  unfold memS; rw [List.length_append]
  have := offs_len 0 s.a; have := offs_len 1 s.b; omega
theorem and_sub64 {x : Nat} (h : x < U64) (h0 : x ≠ 0) : bits .and .u64 (x : Int) (IntKind.u64.wrap ((x : Int) - 1)) = ((x &&& (x - 1) : Nat) : Int) := by
  have e : IntKind.u64.wrap ((x : Int) - 1) = ((x - 1 : Nat) : Int) := by
    unfold U64 at h; rw [IntKind.wrap_u64]; omega
  rw [e, and64 h (by unfold U64 at *; omega)]
theorem members1_in (n : Nat) (hn : 1 ≤ n) (l Bs n₀ : Nat) (s : St) (hs : s.ok) (J Jx : List Int → World → Prop)
    (hY : ∀ pre x W, J pre W → pre.length < 128 → YieldAt Fence.wide (n - 1) Tryz.prog l #[.int .i64 x] W fun e W' =>
      (e = .returned (.bool true) ∧ J (pre ++ [x]) W' ∧ Below n₀ W W') ∨ (e = .returned (.bool false) ∧ Jx (pre ++ [x]) W'))
    (W : World) (hB0 : W.cell? ⟨Bs, 0, none⟩ = some (.int .u64 (s.a : Int))) (hB1 : W.cell? ⟨Bs, 1, none⟩ = some (.int .u64 (s.b : Int))) (hT : ∀ V, Below n₀ W V → Dtab V) (h0 : J [] W) :
    CallsIn Fence.wide n Tryz.prog 206 #[.func (.yield l) #[] #[], .pointer (some ⟨Bs, 0, none⟩)] W fun e W' => (∃ v, e = .returned v) ∧
      ((∃ ys, ys = memS s ∧ J ys W') ∨ (∃ pre, pre <+: memS s ∧ Jx pre W')) := by
  have HT := Lib.hid hT
  have HY := Lib.hid hY
  have hi0 : ∀ w, (Instr.index 54 (.agg #[.int .u64 (s.a : Int), .int .u64 (s.b : Int)]) (.int .i64 0)).run Tryz.prog w = .ok (.int .u64 (s.a : Int)) w := fun _ => by kernel_rfl
  have hi1 : ∀ w, (Instr.index 54 (.agg #[.int .u64 (s.a : Int), .int .u64 (s.b : Int)]) (.int .i64 1)).run Tryz.prog w = .ok (.int .u64 (s.b : Int)) w := fun _ => by kernel_rfl
  clear hT hY
  refine callsIn_of_wp Tryz.func206 rfl trivial ?_ rfl
  simp only [Tryz.ntmps206, List.size_toArray, List.length_cons, List.length_nil, Nat.reduceAdd, Nat.reduceSub, Array.replicate_succ, Array.replicate_zero, List.push_toArray, List.append_toArray, List.nil_append, List.cons_append]
  gi_wp2
  gi_loopw [6] (fun i wr => ((i = .int .i64 0 ∧ J (prefS s 0) wr) ∨ (i = .int .i64 1 ∧ J (prefS s 1) wr) ∨ (i = .int .i64 2 ∧ J (prefS s 2) wr)) ∧ Below n₀ W wr) (fun i _ => 2 - (intOf i).toNat)
  case atStart => exact ⟨.inl ⟨rfl, h0⟩, Below.refl _ _⟩
  case round =>
    obtain ⟨hcase, hb⟩ := hrel
    have HB := Lib.hid hb
    clear hb
    rcases hcase with ⟨rfl, hJ⟩ | ⟨rfl, hJ⟩ | ⟨rfl, hJ⟩
    · have HJ := Lib.hid hJ
      clear hJ
      gi_wp2
      obtain ⟨wo, rfl⟩ : ∃ wo : World, wo = wr := ⟨_, rfl⟩
      gi_loopw [4] (fun x wi => ∃ (y : Nat) (pre : List Int), x = .int .u64 (y : Int) ∧ y < U64 ∧ pre ++ offs 0 y = prefS s 1 ∧ J pre wi ∧ Below n₀ W wi) (fun x _ => (bitsL (intOf x).toNat).length)
      case atStart => exact ⟨s.a, [], rfl, hs.1, rfl, HJ.out, HB.out⟩
      case round =>
        obtain ⟨wi, rfl⟩ : ∃ wi : World, wi = wr := ⟨_, rfl⟩
        obtain ⟨y, pre, rfl, hy1, hpre, hJi, hbi⟩ := hrel
        have HJI := Lib.hid hJi
        have HBI := Lib.hid hbi
        have HPRE := Lib.hid hpre
        have HY1 := Lib.hid hy1
        clear hJi hbi hpre hy1
        by_cases hy0 : y = 0
        · subst hy0
          have HE : Hid (pre = prefS s 1) := by
            have h := HPRE.out
            rw [show offs 0 0 = [] by unfold offs; rw [bitsL_nil]; rfl, List.append_nil] at h
            exact h
          gi_wp2
          go_roundw
          case rel => exact ⟨.inr (.inl ⟨rfl, by rw [← HE.out]; exact HJI.out⟩), HBI.out⟩
          case measure => simp [intOf]
        · have hne : ((y : Int) != 0) = true := by simp; omega
          have hst := offs_step 0 hy0 (by have := HY1.out; unfold U64 at this; exact this)
          have hbs := bitsL_step hy0 (by have := HY1.out; unfold U64 at this; exact this)
          have hlo := (low_on hy0 (by have := HY1.out; unfold U64 at this; exact this)).2.2
          have hand := and_sub64 HY1.out hy0
          have HTZ := Lib.hid (fun V (hV : Below n₀ W V) => tz64_any y HY1.out hy0 V (HT.out V hV))
          have HY2 : Hid ((y &&& (y - 1)) < U64) := and_lt_U64 HY1.out
          have hlen : pre.length < 128 := by
            have h := congrArg List.length HPRE.out
            rw [hst, List.length_append, List.length_cons] at h
            have h2 := memS_len s
            have h3 := offs_len 0 s.a
            have h4 : (prefS s 1).length = (offs 0 s.a).length := rfl
            omega
          have HPX : Hid ((pre ++ [(Lib.ctz 64 y : Int) + 1]) ++ offs 0 (y &&& (y - 1)) = prefS s 1) := by
            show _ = _
            have h := HPRE.out
            rw [hst] at h
            rw [List.append_assoc, ← h]
            simp
          have HBS : Hid ((bitsL (y &&& (y - 1))).length < (bitsL y).length) := by show _ < _; rw [hbs]; simp
          generalize Lib.ctz 64 y = c at *
          have hc1 : (c : Int) ≤ 63 := by omega
          have hc0 : (0 : Int) ≤ (c : Int) := by omega
          obtain ⟨z, hz⟩ : ∃ z, z = y &&& (y - 1) := ⟨_, rfl⟩
          rw [← hz] at hand HY2 HPX HBS
          obtain ⟨fn, tmps, assign, body, hy, hR⟩ := HY.out pre ((c : Int) + 1) wi HJI.out hlen
          have HPP : Hid (∀ q, pre ++ [(c : Int) + 1] ++ q = prefS s 1 → pre ++ [(c : Int) + 1] <+: memS s) := Lib.hid fun q hq => by
            exact ⟨q ++ offs 1 s.b, by rw [← List.append_assoc, hq]; rfl⟩
          clear hst hbs hlo hlen hz hy0
          gi_wp2_with (refine ⟨trivial, ?_⟩; gi_at_call 207; refine (callsIn_wide.2 (HTZ.out _ HBI.out)).mono ?_; rintro e w' ⟨rfl, rfl⟩)
          refine hR.mono ?_
          rintro e W3 (⟨rfl, hJ3, hk3⟩ | ⟨rfl, hJx3⟩)
          · have HJ3 := Lib.hid hJ3
            have HB3 := Lib.hid (HBI.out.trans hk3)
            clear hJ3 hk3
            gi_wp2
            go_roundw
            case rel => exact ⟨z, _, rfl, HY2.out, HPX.out, HJ3.out, HB3.out⟩
            case measure => simpa [intOf] using HBS.out
          · have HJX := Lib.hid hJx3
            clear hJx3
            gi_wp2
            refine bodyPost_ret (results_none rfl _ _ _) rfl ?_
            exact ⟨⟨_, rfl⟩, .inr ⟨_, HPP.out _ HPX.out, HJX.out⟩⟩
    · have HJ := Lib.hid hJ
      clear hJ
      · skip
        gi_wp2
        obtain ⟨wo, rfl⟩ : ∃ wo : World, wo = wr := ⟨_, rfl⟩
        gi_loopw [4] (fun x wi => ∃ (y : Nat) (pre : List Int), x = .int .u64 (y : Int) ∧ y < U64 ∧ pre ++ offs 1 y = prefS s 2 ∧ J pre wi ∧ Below n₀ W wi) (fun x _ => (bitsL (intOf x).toNat).length)
        case atStart => exact ⟨s.b, offs 0 s.a, rfl, hs.2, rfl, HJ.out, HB.out⟩
        case round =>
          obtain ⟨wi, rfl⟩ : ∃ wi : World, wi = wr := ⟨_, rfl⟩
          obtain ⟨y, pre, rfl, hy1, hpre, hJi, hbi⟩ := hrel
          have HJI := Lib.hid hJi
          have HBI := Lib.hid hbi
          have HPRE := Lib.hid hpre
          have HY1 := Lib.hid hy1
          clear hJi hbi hpre hy1
          by_cases hy0 : y = 0
          · subst hy0
            have HE : Hid (pre = prefS s 2) := by
              have h := HPRE.out
              rw [show offs 1 0 = [] by unfold offs; rw [bitsL_nil]; rfl, List.append_nil] at h
              exact h
            gi_wp2
            go_roundw
            case rel => exact ⟨.inr (.inr ⟨rfl, by rw [← HE.out]; exact HJI.out⟩), HBI.out⟩
            case measure => simp [intOf]
          · have hne : ((y : Int) != 0) = true := by simp; omega
            have hst := offs_step 1 hy0 (by have := HY1.out; unfold U64 at this; exact this)
            have hbs := bitsL_step hy0 (by have := HY1.out; unfold U64 at this; exact this)
            have hlo := (low_on hy0 (by have := HY1.out; unfold U64 at this; exact this)).2.2
            have hand := and_sub64 HY1.out hy0
            have HTZ := Lib.hid (fun V (hV : Below n₀ W V) => tz64_any y HY1.out hy0 V (HT.out V hV))
            have HY2 : Hid ((y &&& (y - 1)) < U64) := and_lt_U64 HY1.out
            have hlen : pre.length < 128 := by
              have h := congrArg List.length HPRE.out
              rw [hst, List.length_append, List.length_cons] at h
              have h2 := memS_len s
              have h3 := offs_len 0 s.a
              have h4 : (prefS s 2).length = (memS s).length := rfl
              omega
            have HPX : Hid ((pre ++ [64 + (Lib.ctz 64 y : Int) + 1]) ++ offs 1 (y &&& (y - 1)) = prefS s 2) := by
              show _ = _
              have h := HPRE.out
              rw [hst] at h
              rw [List.append_assoc, ← h]
              simp
            have HBS : Hid ((bitsL (y &&& (y - 1))).length < (bitsL y).length) := by show _ < _; rw [hbs]; simp
            generalize Lib.ctz 64 y = c at *
            have hc1 : (c : Int) ≤ 63 := by omega
            have hc0 : (0 : Int) ≤ (c : Int) := by omega
            obtain ⟨z, hz⟩ : ∃ z, z = y &&& (y - 1) := ⟨_, rfl⟩
            rw [← hz] at hand HY2 HPX HBS
            obtain ⟨fn, tmps, assign, body, hy, hR⟩ := HY.out pre (64 + (c : Int) + 1) wi HJI.out hlen
            have HPP : Hid (∀ q, pre ++ [64 + (c : Int) + 1] ++ q = prefS s 2 → pre ++ [64 + (c : Int) + 1] <+: memS s) := Lib.hid fun q hq => by
              exact ⟨q, hq⟩
            clear hst hbs hlo hlen hz hy0
            gi_wp2_with (refine ⟨trivial, ?_⟩; gi_at_call 207; refine (callsIn_wide.2 (HTZ.out _ HBI.out)).mono ?_; rintro e w' ⟨rfl, rfl⟩)
            refine hR.mono ?_
            rintro e W3 (⟨rfl, hJ3, hk3⟩ | ⟨rfl, hJx3⟩)
            · have HJ3 := Lib.hid hJ3
              have HB3 := Lib.hid (HBI.out.trans hk3)
              clear hJ3 hk3
              gi_wp2
              go_roundw
              case rel => exact ⟨z, _, rfl, HY2.out, HPX.out, HJ3.out, HB3.out⟩
              case measure => simpa [intOf] using HBS.out
            · have HJX := Lib.hid hJx3
              clear hJx3
              gi_wp2
              refine bodyPost_ret (results_none rfl _ _ _) rfl ?_
              exact ⟨⟨_, rfl⟩, .inr ⟨_, HPP.out _ HPX.out, HJX.out⟩⟩
    · have HJ := Lib.hid hJ
      clear hJ
      · gi_wp2
        go_end0
        exact ⟨⟨_, rfl⟩, .inl ⟨_, rfl, HJ.out⟩⟩
end Go.Proofs.YtkaojolofaanfaaGreatDoor

/- Plain: the first variable of a set; the order of models; the least counterexample. -/
namespace Go.Proofs.YtkaojolofaanfaaGreatDoor
open Cen
theorem offs_mem (wd x : Nat) (v : Int) : v ∈ offs wd x ↔ ∃ i : Nat, i < 64 ∧ x.testBit i = true ∧ v = 64 * (wd : Int) + i + 1 := by
  unfold offs bitsL
  simp only [List.mem_map, List.mem_filter, List.mem_range]
  constructor
  · rintro ⟨i, ⟨h1, h2⟩, rfl⟩; exact ⟨i, h1, h2, rfl⟩
  · rintro ⟨i, h1, h2, rfl⟩; exact ⟨i, ⟨h1, h2⟩, rfl⟩
theorem memS_mem (s : St) (v : Int) : v ∈ memS s ↔ s.mem v = true := by
  unfold memS
  rw [List.mem_append, offs_mem, offs_mem]
  constructor
  · rintro (⟨i, h1, h2, rfl⟩ | ⟨i, h1, h2, rfl⟩)
    · unfold St.mem; rw [if_pos (by omega)]; rw [show (64 * ((0 : Nat) : Int) + i + 1 - 1).toNat = i by omega]; exact h2
    · unfold St.mem; rw [if_neg (by omega), if_pos (by omega)]; rw [show (64 * ((1 : Nat) : Int) + i + 1 - 65).toNat = i by omega]; exact h2
  · intro h
    unfold St.mem at h
    by_cases a : 1 ≤ v ∧ v ≤ 64
    · rw [if_pos a] at h; exact .inl ⟨(v - 1).toNat, by omega, h, by omega⟩
    · rw [if_neg a] at h
      by_cases b : 65 ≤ v ∧ v ≤ 128
      · rw [if_pos b] at h; exact .inr ⟨(v - 65).toNat, by omega, h, by omega⟩
      · rw [if_neg b] at h; simp at h
theorem bitsL_sorted (x : Nat) : (bitsL x).Pairwise (· < ·) := by
  unfold bitsL
  exact List.Pairwise.filter _ List.pairwise_lt_range
theorem memS_sorted (s : St) : (memS s).Pairwise (· < ·) := by
  unfold memS
  rw [List.pairwise_append]
  have h : ∀ wd x, (offs wd x).Pairwise (· < ·) := fun wd x => by
    unfold offs
    rw [List.pairwise_map]
    exact (bitsL_sorted x).imp fun h => by omega
  refine ⟨h 0 _, h 1 _, fun a ha b hb => ?_⟩
  rw [offs_mem] at ha hb
  obtain ⟨i, h1, _, rfl⟩ := ha
  obtain ⟨j, h2, _, rfl⟩ := hb
  omega
theorem mem_range_of {s : St} {v : Int} (h : s.mem v = true) : 1 ≤ v ∧ v ≤ 128 := by
  unfold St.mem at h
  by_cases a : 1 ≤ v ∧ v ≤ 64
  · omega
  · rw [if_neg a] at h
    by_cases b : 65 ≤ v ∧ v ≤ 128
    · omega
    · rw [if_neg b] at h; simp at h
end Go.Proofs.YtkaojolofaanfaaGreatDoor

/- Plain: what the walks of count.short and count.sum need of the sums. -/
namespace Go.Proofs.YtkaojolofaanfaaGreatDoor
open Cen
theorem card_eq (s : St) : card s = (((List.range 128).filter fun (j : Nat) => s.mem ((j : Int) + 1)).map fun (j : Nat) => (j : Int) + 1).length := by
  rw [List.length_map, ← List.countP_eq_length_filter]; rfl
theorem memS_card (s : St) : (memS s).length = card s := by
  rw [card_eq]
  refine List.Perm.length_eq ((List.perm_ext_iff_of_nodup ?_ ?_).2 fun v => ?_)
  · exact (memS_sorted s).imp fun h => by omega
  · refine List.Pairwise.map _ (fun a b h => ?_) ((List.nodup_range (n := 128)).filter _)
    omega
  · rw [memS_mem, List.mem_map]
    constructor
    · intro h
      have := mem_range_of h
      exact ⟨(v - 1).toNat, List.mem_filter.2 ⟨List.mem_range.2 (by omega), by rw [show (((v - 1).toNat : Nat) : Int) + 1 = v by omega]; exact h⟩, by omega⟩
    · rintro ⟨j, hj, rfl⟩
      exact (List.mem_filter.1 hj).2
theorem card_min (s : St) {t : St} (ht : t.ok) : card (St.minus s t) = minus s t := by
  unfold card minus
  congr 1
  funext j
  rw [St.mem_minus ht]
/-- The sum of a node of which m inputs have been taken in. -/
def accS (S d : Int → Nat) (x : Nd) (m : Nat) : Nat := if x.kind = 2 then 1 else sumIn S d x.kind (x.ins.take m)
theorem accS_zero (S d : Int → Nat) (x : Nd) : accS S d x 0 = if x.kind = 2 ∨ x.kind = 1 ∨ x.kind = 3 then 1 else 0 := by
  unfold accS sumIn
  by_cases h2 : x.kind = 2
  · simp [h2]
  · by_cases h1 : x.kind = 1 ∨ x.kind = 3
    · rw [if_neg h2, if_pos h1, if_pos (Or.inr h1)]; rfl
    · rw [if_neg h2, if_neg h1, if_neg (by omega)]; rfl
theorem accS_and {S d : Int → Nat} {x : Nd} {m : Nat} (hm : m < x.ins.length) (h : x.kind = 3) : accS S d x (m + 1) = accS S d x m * S x.ins[m] := by
  unfold accS sumIn
  rw [if_neg (by omega), if_pos (by omega), if_neg (by omega), if_pos (by omega), List.take_succ_eq_append_getElem hm, List.foldl_append]; rfl
theorem accS_or {S d : Int → Nat} {x : Nd} {m : Nat} (hm : m < x.ins.length) (h : x.kind = 4) : accS S d x (m + 1) = accS S d x m + S x.ins[m] * 2 ^ d x.ins[m] := by
  unfold accS sumIn
  rw [if_neg (by omega), if_neg (by omega), if_neg (by omega), if_neg (by omega), List.take_succ_eq_append_getElem hm, List.foldl_append]; rfl
theorem accS_end (S d : Int → Nat) (x : Nd) : accS S d x x.ins.length = sumNd S d x := by unfold accS sumNd; rw [List.take_length]
end Go.Proofs.YtkaojolofaanfaaGreatDoor

/- The walks of vars.members and vars.First. -/
namespace Go.Proofs.YtkaojolofaanfaaGreatDoor
open Go.RowKit Go.Shelf Cen
attribute [local go_sem] Oper.semAt_some
set_option maxHeartbeats 4000000
set_option maxRecDepth 100000
theorem members_any (s : St) (w : World) : Calls Tryz.prog 173 #[stv s] w fun e w' => e = .returned (.func (.func 206) #[] #[.pointer (some ⟨w.heap.size, 0, none⟩)]) ∧ w' = w.alloc (.cells #[.int .u64 (s.a : Int), .int .u64 (s.b : Int)] 54) := by
  go_enter Tryz.func173, Tryz.ntmps173
  go_wp2
  go_ret
  exact ⟨rfl, rfl⟩
theorem Dtab.on {w0 W V : World} (h : Dtab w0) (hW : Below w0.heap.size w0 W) (hV : Below w0.heap.size W V) : Dtab V := h.keep (hW.trans hV)
theorem members_stops (n : Nat) (hn : 1 ≤ n) (Bs : Nat) (s : St) (hs : s.ok) (w0 w : World) (hw0 : Below w0.heap.size w0 w) (hT : Dtab w0) (hBs : Bs < w.heap.size)
    (hB0 : w.cell? ⟨Bs, 0, none⟩ = some (.int .u64 (s.a : Int))) (hB1 : w.cell? ⟨Bs, 1, none⟩ = some (.int .u64 (s.b : Int))) :
    SeqStopsK Fence.wide n Tryz.prog 206 #[.pointer (some ⟨Bs, 0, none⟩)] (fun x : Int => #[Value.int .i64 x]) (Below w0.heap.size) (fun ys => ys = memS s) (fun pre => pre <+: memS s) 128 w := fun l J Jx W hW _ _ hY h0 =>
  members1_in n hn l Bs w0.heap.size s hs J Jx hY W ((hW.cell (p := ⟨Bs, 0, none⟩) hBs).trans hB0) ((hW.cell (p := ⟨Bs, 1, none⟩) hBs).trans hB1) (fun _ hV => hT.on (hw0.trans (hW.mono hw0.size)) hV) h0
end Go.Proofs.YtkaojolofaanfaaGreatDoor

/- The walks of slices.AppendSeq and Collect at ints over a set's iterator, and of vars.List. -/
namespace Go.Proofs.YtkaojolofaanfaaGreatDoor
open Go.RowKit Go.Shelf Cen
attribute [local go_sem] Oper.semAt_some
set_option maxHeartbeats 4000000
set_option maxRecDepth 100000
theorem appendSeq_any (Bs : Nat) (s : St) (w : World) (hs : s.ok) (hT : Dtab w) (hBs : Bs < w.heap.size) (hB0 : w.cell? ⟨Bs, 0, none⟩ = some (.int .u64 (s.a : Int))) (hB1 : w.cell? ⟨Bs, 1, none⟩ = some (.int .u64 (s.b : Int))) :
    Calls Tryz.prog 205 #[.slice none 0 0, .func (.func 206) #[] #[.pointer (some ⟨Bs, 0, none⟩)]] w fun e w' => ∃ v, e = .returned v ∧ OwnInts w' w.heap.size v (memS s) ∧ Below w.heap.size w w' := by
  obtain ⟨_, i0, hi, hz0, hz1, hz2, _, _⟩ := elemInt
  have HT := Lib.hid hT
  have HC0 := Lib.hid hB0
  have HC1 := Lib.hid hB1
  clear hT hB0 hB1
  refine (callsIn_wide (n := 3)).1 ?_
  refine callsIn_of_wp_marks Tryz.func205 rfl trivial ?_ rfl
  simp only [Tryz.ntmps205, List.size_toArray, List.length_cons, List.length_nil, Nat.reduceAdd, Nat.reduceSub, Array.replicate_succ, Array.replicate_zero, List.push_toArray, List.append_toArray, List.nil_append, List.cons_append]
  gi_wp2
  have bO := Boxed.new w 40 (.slice none 0 0)
  have hB00 : Below w.heap.size w (w.alloc (.cells #[.slice none 0 0] 40)) := (Below.refl _ w).alloc (Nat.le_refl _) _
  refine wpIn_rangeFunc_ownF rfl (by omega) (gf := 206) (lb := #[.pointer (some ⟨Bs, 0, none⟩)]) rfl trivial (enters_of Tryz.func206 (by kernel_rfl) rfl)
    (members_stops (3 - 1) (by omega) Bs s hs w _ hB00 HT.out (by simp; omega) ((hB00.cell (p := ⟨Bs, 0, none⟩) hBs).trans HC0.out) ((hB00.cell (p := ⟨Bs, 1, none⟩) hBs).trans HC1.out)) belowK_t (belowK_b (by simp)) (Below.refl _ _) (fun _ => rfl)
    (fun pre W => (∃ v, Boxed W w.heap.size 40 v ∧ W.ownsRow w.heap.size 3 1 v pre.length (pre.map (Value.int .i64)) ∧ True) ∧ Below w.heap.size w W)
    (fun _ _ _ => False)
    (OwnFrom.and (Own.from (holdsRow_own w.heap.size w.heap.size 40 3 1 (fun pre : List Int => pre.length) (fun pre => pre.map (Value.int .i64)) (fun _ _ => True)) _) (ownFrom_below (Nat.le_refl _) (by simp)))
    (fun _ _ _ _ _ hs _ _ => hs)
    ⟨⟨_, bO, World.ownsRow_nil _ _ _ _, trivial⟩, hB00⟩
    (fun x => { tmps := #[.slice none 0 0, .func (.func 206) #[] #[.pointer (some ⟨Bs, 0, none⟩)], .pointer (some ⟨w.heap.size, 0, none⟩), undef, .slice none 0 0, .int .i64 x, .func (.func 206) #[] #[.pointer (some ⟨Bs, 0, none⟩)], .int .i64 x, undef, undef, undef, undef, undef], defers := [] }) ?assign ?body ?done ?stop
  case assign =>
    intro l x W K hK
    gi_wp2
    exact hK
  case body =>
    rintro l pre x W ⟨⟨v, hv, hrow, _⟩, hB⟩ hlt
    have hc := hv.cell
    gi_wp2_with (gi_at_builtin; refine wpListIn_append_own _ rfl _ _ 40 rfl w.heap.size 3 i0 (.int .i64 0) 1 8 Tryz.underlying40 hi hz0 hz1 hz2 rfl (by decide) _ _ _ rfl (hrow.alloc _) ⟨W.heap.size, 0, none⟩ 1 1 [.int .i64 x] rfl rfl (cell_one_new _ _ _) (by simp [Value.oneCell']) (by unfold maxLen; omega) (by omega) (by have := hB.size; simp; omega) ?_; intro v' w1 hown' hgrow _; obtain ⟨g', cap', rfl⟩ := ownsRow_succ hown'; obtain ⟨hv1, hv2, hr2, hk2, hb2⟩ := hv.appended (by decide) hrow hB.size (Nat.le_refl _) hown' hgrow; have hc1 := hv1.cell; have hf1 := hv1.frozen)
    exact ⟨hk2, hb2, ⟨_, hv2, by simpa using hr2, trivial⟩, hB.trans hb2⟩
  case done =>
    rintro D ys W hD rfl ⟨⟨v, hv, hrow, _⟩, hB⟩ hK
    have hc := hv.cell
    gi_wp2
    refine ⟨by simp, .inl ⟨_, _, rfl, run_takeDeferred hK, ?_⟩⟩
    exact ⟨_, results_tmp rfl _ _ _, v, rfl, ownsRow_putObj hrow _ hK rfl, hB.trans (belowK_b (w := w) (Nat.le_refl _) W D _ _ (by simp at hD; omega) hK rfl rfl)⟩
  case stop =>
    rintro D c pre W _ _ h _
    exact h.elim
theorem collect_any (Bs : Nat) (s : St) (w : World) (hs : s.ok) (hT : Dtab w) (hBs : Bs < w.heap.size) (hB0 : w.cell? ⟨Bs, 0, none⟩ = some (.int .u64 (s.a : Int))) (hB1 : w.cell? ⟨Bs, 1, none⟩ = some (.int .u64 (s.b : Int))) :
    Calls Tryz.prog 172 #[.func (.func 206) #[] #[.pointer (some ⟨Bs, 0, none⟩)]] w fun e w' => ∃ v, e = .returned v ∧ OwnInts w' w.heap.size v (memS s) ∧ Below w.heap.size w w' := by
  have H := Lib.hid (appendSeq_any Bs s w hs hT hBs hB0 hB1)
  clear hT hB0 hB1
  go_enter Tryz.func172, Tryz.ntmps172
  go_wp2_with fail
  refine H.out.mono ?_
  rintro e w1 ⟨v, rfl, ho, hb⟩
  go_wp2
  go_ret
  exact ⟨v, rfl, ho, hb⟩
theorem ownInts_down {w : World} {base B : Nat} {v : Value} {xs : List Int} (h : OwnInts w base v xs) (hB : B ≤ base) : OwnInts w B v xs := by
  refine ⟨h.1, ?_⟩
  rcases h.2 with h1 | ⟨g, cap, cur, hv, hg, r⟩
  · exact .inl h1
  · exact .inr ⟨g, cap, cur, hv, Nat.le_trans hB hg, r⟩
theorem list_any (s : St) (w : World) (hs : s.ok) (hT : Dtab w) : Calls Tryz.prog 127 #[stv s] w fun e w' => ∃ v, e = .returned v ∧ OwnInts w' w.heap.size v (memS s) ∧ Below w.heap.size w w' := by
  have hb0 : Below w.heap.size w (w.alloc (.cells #[.int .u64 (s.a : Int), .int .u64 (s.b : Int)] 54)) := (Below.refl _ w).alloc (Nat.le_refl _) _
  obtain ⟨w0, hw0⟩ : ∃ w0, w0 = w.alloc (.cells #[.int .u64 (s.a : Int), .int .u64 (s.b : Int)] 54) := ⟨_, rfl⟩
  have hs0 : w0.heap.size = w.heap.size + 1 := by rw [hw0]; simp
  rw [← hw0] at hb0
  have k := Blk.new w0 #[.int .u64 (s.a : Int), .int .u64 (s.b : Int)] 54
  have hb : Below w.heap.size w (w0.alloc (.cells #[.int .u64 (s.a : Int), .int .u64 (s.b : Int)] 54)) := hb0.alloc (by omega) _
  have H := Lib.hid (collect_any w0.heap.size s (w0.alloc (.cells #[.int .u64 (s.a : Int), .int .u64 (s.b : Int)] 54)) hs (hT.keep hb) k.lt (k.cell 0) (k.cell 1))
  have HB := Lib.hid hb
  have HM := Lib.hid (members_any s w0)
  have HS := Lib.hid hs0
  rw [hs0] at H
  clear hT k hb hb0 hs0
  subst hw0
  go_enter Tryz.func127, Tryz.ntmps127
  go_wp2_with fail
  refine HM.out.mono ?_
  rintro e w1 ⟨rfl, rfl⟩
  go_wp2_with fail
  refine H.out.mono ?_
  rintro e w1 ⟨v, rfl, ho, hb1⟩
  go_wp2
  go_ret
  have hz := HS.out
  exact ⟨v, rfl, ownInts_down ho (by simp; omega), HB.out.trans (hb1.mono (by simp; omega))⟩
end Go.Proofs.YtkaojolofaanfaaGreatDoor
