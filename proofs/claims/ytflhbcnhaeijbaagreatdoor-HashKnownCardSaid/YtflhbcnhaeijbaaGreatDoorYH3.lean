/- Part of the proofs that laws return true for every input, where the tables that the rows list are laid. Texts: VarsOf, Decomp, VarsM, KeyL, BldL, RedL, RedT, RedS, Cex, SumP, Shelf. -/
import Derived.Test.YtflhbcnhaeijbaaGreatDoorYH2
import Derived.Test.YtflhbcnhaeijbaaGreatDoorYH1
import Derived.Lib.ItoaNum
import Derived.Shelf.Small.Bits
import Derived.Shelf.Strconv.Itoa0
import Derived.Shelf.Strconv.Itoa1
import Derived.Shelf.LaysM
import Derived.Shelf.Strconv.Itoa2
import Derived.Shelf.Sort.Plain
import Derived.Shelf.Strconv.AppendUint10
import Derived.Shelf.Strconv.AppendInt10
import Derived.Shelf.Strconv.AppendIntPublic10
import Derived.Shelf.Slices.Equal
import Derived.Ground.Names2Prog
import Derived.Shelf.Slices.CompactI
import Derived.Test.YtflhbcnhaeijbaaGreatDoorProg
set_option maxHeartbeats 8000000
set_option maxRecDepth 100000
set_option linter.unusedSimpArgs false
set_option linter.unusedVariables false
namespace Go.Proofs.YtflhbcnhaeijbaaGreatDoor
open Go.RowKit Cen
def stc (s : St) : List Value := [.int .u64 (s.a : Int), .int .u64 (s.b : Int)]
theorem zc6 (s : St) : (stc s).length = 2 := rfl
theorem znf : Elem 71 34 2 16 (stv St.zero) := .mk Tryz.underlying71 (by kernel_rfl) rfl (by decide)
abbrev zga := OwnL stc 34 2
theorem nodeVars_any (n : Int) (a : Option Addr) (cap : Nat) (l : List Nd) (w : World) (hok : zdi ⟨n, l⟩ = true) (hl : l.length <= 65536) (hx : NdCells w a l) :
 Calls Tryz.prog 25 #[.agg #[.int .i64 n, .slice a l.length cap]] w fun e w' => ∃ g, e = .returned (.slice (some ⟨g, 0, none⟩) l.length l.length) /\ zga w' w.heap.size (.slice (some ⟨g, 0, none⟩) l.length l.length) (varsL l) /\ Below w.heap.size w w' := by
 have HB0 := lh ((Below.refl w.heap.size w).alloc (Nat.le_refl _) (.cells #[.int .i64 n, .slice a l.length cap] 62));have HX0 := lh (hx.keep HB0.o);have HK := lh hok
 have hl1 : Hid (l.length <= 1073741824) := by show l.length <= 1073741824; omega
 have HCH := lh (fun W (h : NdCells W a l) => (check_any n a cap l W hl1.out h).mono (R' := fun e w' => e = .returned (.int .i64 0) /\ Below W.heap.size W w') (fun e w' ⟨h1, h2⟩ => ⟨by rw [h1]; simp [chk, HK.o], h2⟩));clear hx hok;go_enter Tryz.func25, Tryz.ntmps25;go_wp2_with fail;refine (HCH.o _ HX0.o).mono ?_;rintro e w1 ⟨rfl, hb1⟩;have hbx := Blk.later (Blk.new w #[.int .i64 n, .slice a l.length cap] 62) hb1;have c0 : w1.cell? ⟨w.heap.size, 0, none⟩ = some (.int .i64 n) := hbx.cell 0;have c1 : w1.cell? ⟨w.heap.size, 1, none⟩ = some (.slice a l.length cap) := hbx.cell 1;have HBX := lh hbx;have hz1 := hb1.size
 have HB1 := lh hb1
 have hs1 : w.heap.size + 1 <= w1.heap.size := by simpa using hz1
 clear hbx hb1 hz1
 have hm1 : l.length <= maxLen := by unfold maxLen; omega
 have HM1 := lh hm1;clear hm1;go_wp2_with (at_make; refine mk znf rfl _ _ rfl w1.heap.size .i64 .i64 _ _ l.length rfl rfl rfl rfl (by omega) HM1.o (Nat.le_refl _) stc St.zero rfl ?_);intro w2 hown2 hgrow2;have HO2 := lh hown2;have HB2 := lh ((Below.refl w1.heap.size w1).grown hgrow2 (Nat.le_refl _) (by simp));have c0' := zaa HB2.o c0;have c1' := zaa HB2.o c1;have HX2 := lh ((HX0.o.keep HB1.o).keep HB2.o);clear hown2 hgrow2 c0 c1;go_wp2
 go_loopw [18] (fun i wr => ∃ k : Nat, k <= l.length /\ i = .int .i64 k /\ zga wr w1.heap.size (.slice (some ⟨w1.heap.size, 0, none⟩) l.length l.length) (varsL (l.take k) ++ List.replicate (l.length - k) St.zero) /\ Below w1.heap.size w1 wr) (fun i _ => l.length - (intOf i).toNat)
 case atStart => exact ⟨0, Nat.zero_le _, rfl, by simpa [varsL, varsAcc] using HO2.o, HB2.o⟩
 obtain ⟨k, hk, rfl, hown, hbel⟩ := hrel;have HO := lh hown;have HB := lh hbel;clear hown hbel
 by_cases hlt : k < l.length
 ·obtain ⟨b, off, rfl, hc0⟩ := (HX0.o.keep HB1.o) k hlt;generalize hxe : l.getD k default = x at hc0
  have HXE : Hid (l[k] = x) := by show _ = _; rw [<- hxe]; simp [List.getD_eq_getElem?_getD, hlt]
  clear hxe;obtain ⟨r1, r2, a', cap', r3, pi, pl⟩ := hc0;have p1 := zaa HB.o r1;have p2 := zaa HB.o r2;have p3 := zaa HB.o r3;clear r1 r2 r3;have hin := netOk_ins HK.o hlt;rw [HXE.o] at hin;have HIN := lh hin;clear hin;have HPI := lh pi;clear pi;have hbz : b < wr.heap.size := zak p1;have HSZ := lh HB.o.size;go_wp2_with fail;refine (zbz _ _).mono ?_;rintro e w' ⟨rfl, rfl⟩;go_wp2_with fail;refine (zr7 (some ⟨wr.heap.size + 1, 0, none⟩) 1 [zac x.lit] _ (by simp) ?_).mono ?_
  ·intro i hi
   have : i = 0 := by simpa using hi
   subst this;exact ⟨_, _, rfl, by rw [World.cell?_alloc_at _ _ _ _ (by simp)]; rfl⟩
  rintro e w3 ⟨rfl, hb3⟩;have hb : Below wr.heap.size wr w3 := (((Below.refl _ _).alloc (Nat.le_refl _) _).alloc (by simp) _).trans (hb3.mono (by simp; omega));have hbx3 : Blk w3 wr.heap.size #[.int .i64 x.kind, .int .i64 x.lit, .slice a' x.ins.length cap'] 110 := ((Blk.new wr _ _).alloc _).later hb3;have HLT := lh hlt
  have HVL : Hid (k = (varsL (l.take k)).length) := by show _ = _; rw [varsL_length, List.length_take]; omega
  have HVO := lh (varsL_ok (l.take k))
  have hrep : List.replicate (l.length - k) St.zero = St.zero :: List.replicate (l.length - k - 1) St.zero := by
   rw [<- List.replicate_succ]; congr 1; omega
  have HVS : Hid (varsL (l.take (k + 1)) = varsL (l.take k) ++ [insU (varsL (l.take k)) (ofL [zac x.lit]) x.ins]) := by
   show _ = _; rw [List.take_succ_eq_append_getElem hlt, varsL_snoc, HXE.o]
  have HN : Hid (∀ c : St, l.length = (varsL (l.take k) ++ c :: List.replicate (l.length - k - 1) St.zero).length) := fun c => by
   simp [varsL_length]; omega
  have ho3 := HO.o;have hgz : w1.heap.size < wr.heap.size := ho3.lt.1;rw [hrep] at ho3;clear hrep;generalize varsL (l.take k) = vs at *;generalize hzs : List.replicate (l.length - k - 1) St.zero = zs at *;have HREP := lh hzs;clear hzs;have ho3' := ho3.later hb;have m0 : w3.cell? ⟨w1.heap.size, k * 2, none⟩ = some (.int .u64 ((St.zero).a : Int)) := ho3'.mid HVL.o (HN.o _) zc6 0 (by omega);have m1 : w3.cell? ⟨w1.heap.size, k * 2 + 1, none⟩ = some (.int .u64 ((St.zero).b : Int)) := ho3'.mid HVL.o (HN.o _) zc6 1 (by omega);have f0 := ho3'.fr (HN.o _) (k * 2);have f1 := ho3'.fr (HN.o _) (k * 2 + 1)
  have HO3 := lh ho3';have HB3 := lh hb;have n2 : w3.cell? ⟨wr.heap.size, 2, none⟩ = some (.slice a' x.ins.length cap') := hbx3.cell 2;have hwz : wr.heap.size < w3.heap.size := zak n2;clear ho3 ho3' hb hbx3 hb3 p1 p2 p3;go_wp2;generalize hcu : ofL [zac x.lit] = cu at *;have HCU := lh hcu
  have HCO : Hid cu.ok := by show cu.ok; rw [<- hcu]; exact zvg _
  clear hcu
  obtain ⟨wo, rfl⟩ : ∃ wo : World, wo = wr := ⟨_, rfl⟩
  go_loopw [34] (fun i wi => ∃ m : Nat, m <= x.ins.length /\ i = .int .i64 m /\ zga wi w1.heap.size (.slice (some ⟨w1.heap.size, 0, none⟩) l.length l.length) (vs ++ insU vs cu (x.ins.take m) :: zs) /\ Below w1.heap.size w1 wi) (fun i _ => x.ins.length - (intOf i).toNat)
  case atStart =>
   refine ⟨0, Nat.zero_le _, rfl, ?_, ?_⟩
   ·exact HO3.o.midput2 HVL.o (HN.o _) zc6 cu _ _ rfl
   exact ((HB.o.trans (HB3.o.mono HSZ.o)).setCell (Nat.le_refl _) _).setCell (Nat.le_refl _) _
  obtain ⟨wi, rfl⟩ : ∃ wi : World, wi = wr := ⟨_, rfl⟩
  obtain ⟨m, hm, rfl, hown, hbel⟩ := hrel;have HBi := lh hbel
  by_cases hlm : m < x.ins.length
  ·obtain ⟨b2, off2, rfl, hi0⟩ := HPI.o m hlm;have hi1 := zaa HBi.o hi0;have hq := HIN.o (x.ins.getD m 0) (by simp [List.getD_eq_getElem?_getD, hlm]);generalize hye : x.ins.getD m 0 = y at hi1 hq
   have HYE : Hid (x.ins[m] = y) := by show _ = _; rw [<- hye]; simp [List.getD_eq_getElem?_getD, hlm]
   clear hi0 hye;obtain ⟨hq0, hq1⟩ := hq;obtain ⟨q, rfl⟩ := Int.eq_ofNat_of_zero_le hq0
   have hqk : q < vs.length := by have := HVL.o; omega
   have m0 : wi.cell? ⟨w1.heap.size, k * 2, none⟩ = some (.int .u64 ((insU vs cu (x.ins.take m)).a : Int)) := hown.mid HVL.o (HN.o _) zc6 0 (by omega);have m1 : wi.cell? ⟨w1.heap.size, k * 2 + 1, none⟩ = some (.int .u64 ((insU vs cu (x.ins.take m)).b : Int)) := hown.mid HVL.o (HN.o _) zc6 1 (by omega);have q0 : wi.cell? ⟨w1.heap.size, q * 2, none⟩ = some (.int .u64 (vs[q].a : Int)) := hown.left hqk (HN.o _) zc6 0 (by omega);have q1 : wi.cell? ⟨w1.heap.size, q * 2 + 1, none⟩ = some (.int .u64 (vs[q].b : Int)) := hown.left hqk (HN.o _) zc6 1 (by omega);have f0 := hown.fr (HN.o _) (k * 2);have f1 := hown.fr (HN.o _) (k * 2 + 1)
   have HO4 := lh hown;have HTO : Hid (vs[q].ok) := HVO.o _ (List.getElem_mem hqk);have HCO2 : Hid ((insU vs cu (x.ins.take m)).ok) := insU_ok HVO.o _ HCO.o
   have HST : Hid (insU vs cu (x.ins.take (m + 1)) = (insU vs cu (x.ins.take m)).union vs[q]) := by
    show _ = _; rw [List.take_succ_eq_append_getElem hlm, insU_snoc, HYE.o]; simp [List.getD_eq_getElem?_getD, hqk]
   generalize insU vs cu (x.ins.take m) = cur at *;generalize vs[q] = tq at *;clear hown hbel;go_wp2_with fail
   have HF : Hid (∀ W w5 : World, W.heap = wi.heap -> Below W.heap.size W w5 -> w5.cell? ⟨w1.heap.size, k * 2, none⟩ = some (.int .u64 (cur.a : Int)) /\ w5.cell? ⟨w1.heap.size, k * 2 + 1, none⟩ = some (.int .u64 (cur.b : Int)) /\
    w5.frozen? ⟨w1.heap.size, k * 2, none⟩ = false /\ w5.frozen? ⟨w1.heap.size, k * 2 + 1, none⟩ = false) := fun W w5 hw hb5 => by
    have e1 : ∀ p v, wi.cell? p = some v -> W.cell? p = some v := fun p v h => by simp only [World.cell?, hw]; exact h
    have e2 : ∀ p, W.frozen? p = wi.frozen? p := fun p => by simp only [World.frozen?, hw]
    refine ⟨zaa hb5 (e1 _ _ m0), zaa hb5 (e1 _ _ m1), ?_, ?_⟩
    ·rw [hb5.frozen (p := ⟨w1.heap.size, k * 2, none⟩) (zak (e1 _ _ m0)), e2]; exact f0
    rw [hb5.frozen (p := ⟨w1.heap.size, k * 2 + 1, none⟩) (zak (e1 _ _ m1)), e2]; exact f1
   go_region_with (go_at_call 54; refine (zsh cur tq _ HCO2.o HTO.o).mono ?_; rintro e w5 ⟨rfl, hb5⟩; go_loud (obtain ⟨z0, z1, z2, z3⟩ := HF.o wi.drew w5 rfl hb5))
   all_goals
    have HB5 : Hid (Below wi.heap.size wi w5) := (Below.refl wi.heap.size wi).drew.trans (hb5.mono (Nat.le_refl wi.heap.size));have HSI := lh HBi.o.size;clear z0 z1 z2 z3 hb5;go_wp2;go_roundw
    case rel =>
     refine ⟨m + 1, by omega, by go_num, ?_, ((HBi.o.trans (HB5.o.mono HSI.o)).setCell (Nat.le_refl _) _).setCell (Nat.le_refl _) _⟩;rw [HST.o];exact (HO4.o.later HB5.o).midput2 HVL.o (HN.o _) zc6 _ _ _ rfl
    case measure => simp [intOf]; omega
  have : m = x.ins.length := by omega
  subst this;go_wp2;go_roundw
  case rel =>
   refine ⟨k + 1, by omega, by go_num, ?_, HBi.o⟩;rw [HVS.o, List.append_assoc, show l.length - (k + 1) = l.length - k - 1 by omega, HREP.o];rw [List.take_length] at hown;exact hown
  case measure => simp [intOf]; omega
 have : k = l.length := by omega
 subst this;go_wp2;go_ret;refine ⟨_, rfl, ?_, HB0.o.trans ((HB1.o.mono (by simp)).trans (HB.o.mono (by omega)))⟩;have := HO.o;simp only [Nat.sub_self, List.replicate_zero, List.append_nil, List.take_length] at this;exact this.lower (by omega)
theorem zel (d : Nat) (a b c e : Int) (w : World) :
 (Op.equalIn (d + 2) 34 (.agg #[.int .u64 a, .int .u64 b]) (.agg #[.int .u64 c, .int .u64 e])).run Tryz.prog w = .ok (a == c && b == e) w := by
 have hsz : ∀ w, (sizeOf 32).run Tryz.prog w = .ok 1 w := fun w => by kernel_rfl
 have hp0 : ∀ (x y : Value) w, (part 32 #[x, y] 0).run Tryz.prog w = .ok x w := fun x y w => by kernel_rfl
 have hp1 : ∀ (x y : Value) w, (part 32 #[x, y] 1).run Tryz.prog w = .ok y w := fun x y w => by kernel_rfl
 rw [Op.equalIn.eq_def];simp only [Sem.run_bind, run_underlying Tryz.underlying34, Result.andThen_ok, hsz]
 simp [List.range']
 simp [hp0, hp1, run_equalIn_int _ _ _ _ _ _ _ Tryz.underlying32]
 by_cases h1 : a = c <;> by_cases h2 : b = e <;> simp [h1, h2]
def eqSt (s t : St) : Bool := decide (s = t)
theorem zoh (s t : St) : ((s.a : Int) == (t.a : Int) && (s.b : Int) == (t.b : Int)) = eqSt s t := by
 unfold eqSt;rw [Bool.eq_iff_iff]
 cases s; cases t; simp; omega
theorem zi4 (s t : St) (w : World) : (binOp .neq 34 (stv s) (stv t)).run Tryz.prog w = .ok (.bool !(eqSt s t)) w := by
 rw [run_neq_struct, zel 9998]
 simp [Result.andThen_ok, <- zoh]
theorem znv (s t : St) (w : World) : (binOp .eql 34 (stv s) (stv t)).run Tryz.prog w = .ok (.bool (eqSt s t)) w := by
 rw [run_eql_struct, zel 9998]
 simp [Result.andThen_ok, <- zoh]
theorem ze9 : Tryz.prog.eqGuardType Tryz.prog.depth 34 = false := by kernel_rfl
theorem has_no (s : St) (v : Int) (w : World) (h : ¬ (1 <= v /\ v <= 128)) : Calls Tryz.prog 48 #[stv s, .int .i64 v] w fun e w' => e = .returned (.bool (s.mem v)) /\ Below w.heap.size w w' := by
 have HB : Hid (Below w.heap.size w (w.alloc (.cells #[.int .u64 (s.a : Int), .int .u64 (s.b : Int)] 34))) := (Below.refl _ _).alloc (Nat.le_refl _) _
 have HR : Hid (s.mem v = false) := by show _ = _; unfold St.mem; rw [if_neg (by omega), if_neg (by omega)]
 have HP := lh (fun V => zuf v V h);clear h;go_enter Tryz.func48, Tryz.ntmps48;go_wp2_with fail;refine (HP.o _).mono ?_;rintro e w' ⟨rfl, rfl⟩;go_wp2;go_ret;exact ⟨zah HR.o.symm, HB.o⟩
theorem and_bit {a k : Nat} (ha : a < U64) (hk : k < 64) : (bits .and .u64 (a : Int) ((2 ^ k : Nat) : Int) != 0) = a.testBit k := by
 rw [zst ha (zcc hk)]
 have h : a &&& 2 ^ k = (a.testBit k).toNat * 2 ^ k := by
  apply Nat.eq_of_testBit_eq
  intro i;rw [Nat.testBit_and, Nat.testBit_two_pow]
  cases hb : a.testBit k with
  | true =>
    simp only [Bool.toNat_true, Nat.one_mul, Nat.testBit_two_pow]
    by_cases e : k = i
    ·subst e; simp [hb]
    simp [e]
  | false =>
    simp only [Bool.toNat_false, Nat.zero_mul, Nat.zero_testBit]
    by_cases e : k = i
    ·subst e; simp [hb]
    simp [e]
 rw [h]
 cases a.testBit k with
 | false => simp
 | true =>
   have : 0 < 2 ^ k := Nat.pow_pos (by omega);simp only [Bool.toNat_true, Nat.one_mul];rw [bne_iff_ne]; intro h0;have := Int.ofNat_eq_zero.1 h0;omega
theorem has_any (s : St) (v : Int) (w : World) (hs : s.ok) : Calls Tryz.prog 48 #[stv s, .int .i64 v] w fun e w' => e = .returned (.bool (s.mem v)) /\ Below w.heap.size w w' := by
 by_cases h : 1 <= v /\ v <= 64
 ·have HB : Hid (Below w.heap.size w (w.alloc (.cells #[.int .u64 (s.a : Int), .int .u64 (s.b : Int)] 34))) := (Below.refl _ _).alloc (Nat.le_refl _) _
  have hr : (bits .and .u64 (s.a : Int) (zkt v : Int) != 0) = s.mem v := by
   unfold zkt;rw [and_bit hs.1 (by omega)]; unfold St.mem; rw [if_pos h]; congr 1; omega
  have HP := lh (fun V => zue v V h);clear h;go_enter Tryz.func48, Tryz.ntmps48;go_wp2_with fail;refine (HP.o _).mono ?_;rintro e w' ⟨rfl, rfl⟩;go_wp2;go_ret;exact ⟨rfl, HB.o⟩
 by_cases h2 : 65 <= v /\ v <= 128
 ·have HB : Hid (Below w.heap.size w (w.alloc (.cells #[.int .u64 (s.a : Int), .int .u64 (s.b : Int)] 34))) := (Below.refl _ _).alloc (Nat.le_refl _) _
  have hr : (bits .and .u64 (s.b : Int) (zkt v : Int) != 0) = s.mem v := by
   unfold zkt;rw [and_bit hs.2 (by omega)]; unfold St.mem; rw [if_neg h, if_pos h2]; congr 1; omega
  have HP := lh (fun V => zud v V h2);clear h h2;go_enter Tryz.func48, Tryz.ntmps48;go_wp2_with fail;refine (HP.o _).mono ?_;rintro e w' ⟨rfl, rfl⟩;go_wp2;go_ret;exact ⟨rfl, HB.o⟩
 exact has_no s v w (by omega)
def St.minus (s t : St) : St := ⟨s.a &&& (18446744073709551615 - t.a), s.b &&& (18446744073709551615 - t.b)⟩
theorem St.minus_ok {s t : St} (h : s.ok) : (St.minus s t).ok := ⟨zju h.1, zju h.2⟩
theorem minus_any (s t : St) (w : World) (hs : s.ok) (ht : t.ok) :
 Calls Tryz.prog 39 #[stv s, stv t] w fun e w' => e = .returned (stv (St.minus s t)) /\ Below w.heap.size w w' := by
 have e1 : bits .andNot .u64 (s.a : Int) (t.a : Int) = (((St.minus s t).a : Nat) : Int) := u64_andNot_nat s.a t.a hs.1 ht.1;have e2 : bits .andNot .u64 (s.b : Int) (t.b : Int) = (((St.minus s t).b : Nat) : Int) := u64_andNot_nat s.b t.b hs.2 ht.2;generalize St.minus s t = d at *;have HB : Hid (Below w.heap.size w (((w.alloc (.cells #[.int .u64 (s.a : Int), .int .u64 (s.b : Int)] 34)).alloc (.cells #[.int .u64 (t.a : Int), .int .u64 (t.b : Int)] 34)).alloc (.cells #[.int .u64 (d.a : Int), .int .u64 (d.b : Int)] 34))) := (((Below.refl _ _).alloc (Nat.le_refl _) _).alloc (by simp) _).alloc (by simp; omega) _
 go_enter Tryz.func39, Tryz.ntmps39;go_wp2;exact bodyPost_ret (v := stv d) (by simp [results, Tryz.results39, go_sem]) rfl ⟨rfl, HB.o⟩
theorem eq_zero_set (d : St) (w : World) : (Op.equalIn 10000 34 (.agg #[.int .u64 (d.a : Int), .int .u64 (d.b : Int)]) (.agg #[.int .u64 0, .int .u64 0])).run Tryz.prog w = .ok (decide (d = St.zero)) w := by
 rw [zel 9998]
 congr 1
 rw [Bool.eq_iff_iff]
 cases d
 simp only [Bool.and_eq_true, beq_iff_eq, decide_eq_true_eq, St.zero, St.mk.injEq];omega
theorem sub_any (s t : St) (w : World) (hs : s.ok) (ht : t.ok) :
 Calls Tryz.prog 21 #[stv s, stv t] w fun e w' => e = .returned (.bool (decide (St.minus s t = St.zero))) /\ Below w.heap.size w w' := by
 have HB0 : Hid (Below w.heap.size w ((w.alloc (.cells #[.int .u64 (s.a : Int), .int .u64 (s.b : Int)] 34)).alloc (.cells #[.int .u64 (t.a : Int), .int .u64 (t.b : Int)] 34))) := ((Below.refl _ _).alloc (Nat.le_refl _) _).alloc (by simp) _;have HM := lh (fun V => minus_any s t V hs ht);generalize St.minus s t = d at *;have heq := eq_zero_set d;go_enter Tryz.func21, Tryz.ntmps21;go_wp2_with fail;refine (HM.o _).mono ?_;rintro e w1 ⟨rfl, hb1⟩;have HB1 := lh (HB0.o.trans (hb1.mono HB0.o.size));clear hb1;go_wp2;go_ret;exact ⟨rfl, HB1.o⟩
theorem zi5 {f : Nat -> Bool} {k : Nat} : ∀ m, k <= m -> (∀ j, k < j -> j <= m -> f j = false) -> setB f m = setB f k
 | 0, h, _ => by rw [show k = 0 by omega]
 | m + 1, h, hf => by
   by_cases e : k = m + 1
   ·rw [e]
   have ih := zi5 m (by omega) (fun j h1 h2 => hf j h1 (by omega))
   show (if f (m + 1) then (setB f m).add ((m : Int) + 1) else setB f m) = _
   rw [hf (m + 1) (by omega) (Nat.le_refl _), ih]; rfl
theorem zvv (n : Int) (w : World) : Calls Tryz.prog 22 #[.int .i64 n] w fun e w' => e = .returned (stv (zcy n)) /\ Below w.heap.size w w' := by
 have HB0 : Hid (Below w.heap.size w ((w.alloc (.cells #[.int .u64 0, .int .u64 0] 34)).alloc (.cells #[.int .u64 0, .int .u64 0] 34))) := ((Below.refl _ _).alloc (Nat.le_refl _) _).alloc (by simp) _;go_enter Tryz.func22, Tryz.ntmps22;go_wp2
 go_loopw [4] (fun i wr => ∃ v : Int, 1 <= v /\ v <= 129 /\ (1 < v -> v <= n + 1) /\ i = .int .i64 v /\ Blk wr (w.heap.size + 1) (sts (setB (fun j : Nat => decide ((j : Int) <= n)) (v.toNat - 1))) 34 /\ Blk wr w.heap.size (sts St.zero) 34 /\ Below w.heap.size w wr) (fun i _ => 129 - (intOf i).toNat)
 case atStart => exact ⟨1, by omega, by omega, fun h => by omega, rfl, Blk.new' (w.alloc _) (by simp) (sts St.zero) 34, (Blk.new w _ _).alloc _, HB0.o⟩
 obtain ⟨v, hv1, hv2, hvn, rfl, hs, hz, hbel⟩ := hrel;obtain ⟨c0, c1, f0, f1⟩ := hs.sc;obtain ⟨d0, d1, g0, g1⟩ := hz.sc;have HS := lh hs;have HZ := lh hz;have HB := lh hbel;have HVN := lh hvn;have HOK := lh (zi7 (fun j : Nat => decide ((j : Int) <= n)) (v.toNat - 1));have hzz : w.heap.size + 1 < wr.heap.size := hs.lt;clear hs hz hbel hvn
 by_cases hn : 128 < n
 ·by_cases hgo : v <= 128 /\ v <= n
  ·obtain ⟨h1, h2⟩ := hgo
   have HSB : Hid (setB (fun j : Nat => decide ((j : Int) <= n)) v.toNat = (setB (fun j : Nat => decide ((j : Int) <= n)) (v.toNat - 1)).add v) := by
    have h := zi6 (fun j : Nat => decide ((j : Int) <= n)) hv1;rw [decide_eq_true (show ((v.toNat : Nat) : Int) <= n by omega), if_pos rfl] at h; exact h
   generalize setB (fun j : Nat => decide ((j : Int) <= n)) (v.toNat - 1) = s at *;have HWI := lh (fun V => zhm s v V HOK.o)
   obtain ⟨d, hd⟩ : ∃ d, d = s.add v := ⟨_, rfl⟩
   rw [<- hd] at HWI HSB;clear hd;go_wp2_with fail;refine (HWI.o _).mono ?_;rintro e w1 ⟨rfl, hb1⟩;have hs1 := HS.o.later hb1;obtain ⟨c0', c1', f0', f1'⟩ := hs1.sc;have HZ1 := lh (HZ.o.later hb1);have HB1 := lh (HB.o.trans (hb1.mono HB.o.size));have HS1 := lh hs1;have hz1 : w.heap.size + 1 < w1.heap.size := hs1.lt;clear hb1 c0 c1 f0 f1 d0 d1 g0 g1 hs1;go_wp2;go_roundw
   case rel => exact ⟨v + 1, by omega, by omega, fun _ => by omega, rfl, by rw [show (v + 1).toNat - 1 = v.toNat by omega, HSB.o]; exact HS1.o.putSet d, (HZ1.o.other _ _ (by simp)).other _ _ (by simp), (HB1.o.setCell (by simp) _).setCell (by simp) _⟩
   case measure => simp [intOf]; omega
  have hgo2 : ¬ v <= 128 \/ ¬ v <= n := by omega
  have HE : Hid (setB (fun j : Nat => decide ((j : Int) <= n)) (v.toNat - 1) = zcy n) := by
   show _ = _
   unfold zcy;refine (zi5 128 (by omega) fun j h1 h2 => ?_).symm;rw [decide_eq_false_iff_not];have := HVN.o;omega
  generalize setB (fun j : Nat => decide ((j : Int) <= n)) (v.toNat - 1) = s at *;go_wp2;exact bodyPost_ret (v := stv s) (by simp [results, Tryz.results22, go_sem, d0, d1]) rfl ⟨by rw [HE.o], (HB.o.setCell (Nat.le_refl _) _).setCell (Nat.le_refl _) _⟩
 have hn2 : n <= 128 := by omega
 by_cases hgo : v <= 128 /\ v <= n
 ·obtain ⟨h1, h2⟩ := hgo
  have HSB : Hid (setB (fun j : Nat => decide ((j : Int) <= n)) v.toNat = (setB (fun j : Nat => decide ((j : Int) <= n)) (v.toNat - 1)).add v) := by
   have h := zi6 (fun j : Nat => decide ((j : Int) <= n)) hv1;rw [decide_eq_true (show ((v.toNat : Nat) : Int) <= n by omega), if_pos rfl] at h; exact h
  generalize setB (fun j : Nat => decide ((j : Int) <= n)) (v.toNat - 1) = s at *;have HWI := lh (fun V => zhm s v V HOK.o)
  obtain ⟨d, hd⟩ : ∃ d, d = s.add v := ⟨_, rfl⟩
  rw [<- hd] at HWI HSB;clear hd;go_wp2_with fail;refine (HWI.o _).mono ?_;rintro e w1 ⟨rfl, hb1⟩;have hs1 := HS.o.later hb1;obtain ⟨c0', c1', f0', f1'⟩ := hs1.sc;have HZ1 := lh (HZ.o.later hb1);have HB1 := lh (HB.o.trans (hb1.mono HB.o.size));have HS1 := lh hs1;have hz1 : w.heap.size + 1 < w1.heap.size := hs1.lt;clear hb1 c0 c1 f0 f1 d0 d1 g0 g1 hs1;go_wp2;go_roundw
  case rel => exact ⟨v + 1, by omega, by omega, fun _ => by omega, rfl, by rw [show (v + 1).toNat - 1 = v.toNat by omega, HSB.o]; exact HS1.o.putSet d, (HZ1.o.other _ _ (by simp)).other _ _ (by simp), (HB1.o.setCell (by simp) _).setCell (by simp) _⟩
  case measure => simp [intOf]; omega
 have hgo2 : ¬ v <= 128 \/ ¬ v <= n := by omega
 have HE : Hid (setB (fun j : Nat => decide ((j : Int) <= n)) (v.toNat - 1) = zcy n) := by
  show _ = _
  unfold zcy;refine (zi5 128 (by omega) fun j h1 h2 => ?_).symm;rw [decide_eq_false_iff_not];have := HVN.o;omega
 generalize setB (fun j : Nat => decide ((j : Int) <= n)) (v.toNat - 1) = s at *;go_wp2;exact bodyPost_ret (v := stv s) (by simp [results, Tryz.results22, go_sem, d0, d1]) rfl ⟨by rw [HE.o], (HB.o.setCell (Nat.le_refl _) _).setCell (Nat.le_refl _) _⟩
end Go.Proofs.YtflhbcnhaeijbaaGreatDoor
namespace Cen
open Go
def zc9 (n : Int) : List UInt8 := Lib.itoa n ++ [32]
theorem zor (n : Int) (h0 : -65536 <= n) (h1 : n <= 65536) : (Lib.itoa n).length <= 20 := by
 have key : ∀ k : Nat, k < 10 ^ 7 -> (Lib.decDigits k).length <= 8 := fun k hk => by
  rw [Lib.decDigits_length]
  have h2 : ∀ (f m : Nat), m < 10 ^ f -> Lib.nDigits m <= f + 1 := by
   intro f
   induction f with
   | zero => intro m hm; rw [Lib.nDigits_small (by omega)]; omega
   | succ f ih =>
     intro m hm
     by_cases h10 : m < 10
     ·rw [Lib.nDigits_small h10]; omega
     rw [Lib.nDigits_big h10];have := ih (m / 10) (by rw [Nat.pow_succ] at hm; omega);omega
  exact h2 7 k hk
 unfold Lib.itoa
 split
 ·simp; have := key n.natAbs (by omega); omega
 have := key n.toNat (by omega); omega
theorem zrc (n : Int) (h0 : -65536 <= n) (h1 : n <= 65536) : (zc9 n).length <= 21 := by have := zor n h0 h1; simp [zc9]; omega
def zt2 : List UInt8 -> Nat := List.foldl (fun a c => 10 * a + (c.toNat - 48)) 0
theorem zpu (l : List UInt8) (c : UInt8) : zt2 (l ++ [c]) = 10 * zt2 l + (c.toNat - 48) := by simp [zt2]
theorem zc0 {k : Nat} (h : k < 10) : (UInt8.ofNat (48 + k)).toNat = 48 + k := by
 simp [UInt8.toNat_ofNat']; omega
theorem zfr (u : Nat) : zt2 (Lib.decDigits u) = u := by
 induction u using Nat.strongRecOn with
 | _ u ih =>
   rw [Lib.decDigits]
   split
   ·rename_i h; show 10 * 0 + ((UInt8.ofNat (48 + u)).toNat - 48) = u; rw [zc0 h]; omega
   rename_i h
   rw [zpu, ih (u / 10) (by omega), zc0 (by omega)];omega
theorem zb3 (u : Nat) : ∀ c ∈ Lib.decDigits u, 48 <= c.toNat /\ c.toNat <= 57 := by
 induction u using Nat.strongRecOn with
 | _ u ih =>
   rw [Lib.decDigits]
   split
   ·rename_i h; intro c hc; rw [List.mem_singleton.1 hc, zc0 h]; omega
   rename_i h
   intro c hc
   rcases List.mem_append.1 hc with h1 | h1
   ·exact ih (u / 10) (by omega) c h1
   rw [List.mem_singleton.1 h1, zc0 (by omega)]; omega
theorem zfq {u v : Nat} (h : Lib.decDigits u = Lib.decDigits v) : u = v := by rw [<- zfr u, h, zfr]
theorem zgx (u : Nat) : Lib.decDigits u ≠ [] := by
 rw [Lib.decDigits]; split <;> simp
theorem ztq {m n : Int} (h : Lib.itoa m = Lib.itoa n) : m = n := by
 unfold Lib.itoa at h
 by_cases h1 : m < 0 <;> by_cases h2 : n < 0
 ·rw [if_pos h1, if_pos h2] at h;have := zfq (List.cons.inj h).2;omega
 ·rw [if_pos h1, if_neg h2] at h;have := zb3 n.toNat 45 (by rw [<- h]; simp);exact absurd this.1 (by decide)
 ·rw [if_neg h1, if_pos h2] at h;have := zb3 m.toNat 45 (by rw [h]; simp);exact absurd this.1 (by decide)
 rw [if_neg h1, if_neg h2] at h;have := zfq h;omega
theorem zmi (n : Int) : (32 : UInt8) ∉ Lib.itoa n := by
 unfold Lib.itoa
 split
 ·intro h
  rcases List.mem_cons.1 h with h1 | h1
  ·exact absurd h1 (by decide)
  have := (zb3 _ _ h1).1; exact absurd this (by decide)
 intro h;have := (zb3 _ _ h).1; exact absurd this (by decide)
theorem cut32 {a b r s : List UInt8} (ha : (32 : UInt8) ∉ a) (hb : (32 : UInt8) ∉ b) (h : a ++ 32 :: r = b ++ 32 :: s) : a = b /\ r = s := by
 induction a generalizing b with
 | nil =>
   cases b with
   | nil => simpa using h
   | cons y b => simp at h hb; exact absurd h.1 hb.1
 | cons x a ih =>
   cases b with
   | nil => simp at h ha; exact absurd h.1.symm ha.1
   | cons y b =>
     simp only [List.cons_append, List.cons.injEq] at h;simp at ha hb;obtain ⟨h1, h2⟩ := ih ha.2 hb.2 h.2;exact ⟨by rw [h.1, h1], h2⟩
theorem zrb {m n : Int} {r s : List UInt8} (h : zc9 m ++ r = zc9 n ++ s) : m = n /\ r = s := by
 unfold zc9 at h;simp only [List.append_assoc, List.singleton_append] at h;obtain ⟨h1, h2⟩ := cut32 (zmi m) (zmi n) h;exact ⟨ztq h1, h2⟩
theorem zti (l : List Int) (h : ∀ x ∈ l, -65536 <= x /\ x <= 65536) : (l.flatMap zc9).length <= 21 * l.length := by
 induction l with
 | nil => simp
 | cons x l ih =>
   have h1 := zrc x (h x (by simp)).1 (h x (by simp)).2
   have h2 := ih fun y hy => h y (by simp [hy])
   simp only [List.flatMap_cons, List.length_append, List.length_cons]; omega
end Cen
namespace Cen
end Cen
namespace Cen
def nd (L : List Nd) (i : Int) : Nd := L.getD i.toNat default
def zcu (l : List Int) : List Int := l.mergeSort fun x y => decide (x <= y)
end Cen
namespace Cen
theorem zmw {l : List Int} {y : Int} : y ∈ zcu l ↔ y ∈ l := by unfold zcu; exact List.mem_mergeSort
end Cen
namespace Cen
structure RedOk (n : Int) (st : List Nd × List Int) (k : Nat) : Prop where
 nds : zno st.1 n st.1.length
 le : st.1.length <= k
 len : st.2.length = k
 at_ : ∀ i ∈ st.2, 0 <= i /\ i < (st.1.length : Int)
theorem RedOk.getD {n : Int} {st : List Nd × List Int} {k : Nat} (h : RedOk n st k) (i : Nat) (hi : i < k) : 0 <= st.2.getD i 0 /\ st.2.getD i 0 < (st.1.length : Int) := by
 have hi' : i < st.2.length := by rw [h.len]; exact hi
 have := h.at_ (st.2[i]) (List.getElem_mem hi')
 simpa [List.getD_eq_getElem?_getD, hi'] using this
theorem nd_get {L : List Nd} {i : Int} (h0 : 0 <= i) (h1 : i < L.length) : nd L i = L[i.toNat]'(by omega) := by
 unfold nd; simp [List.getD_eq_getElem?_getD, show i.toNat < L.length by omega]
theorem zro {L r : List Nd} {i : Int} (h0 : 0 <= i) (h1 : i < L.length) : nd (L ++ r) i = nd L i := by
 unfold nd; simp only [List.getD_eq_getElem?_getD]; rw [List.getElem?_append_left (by omega)]
theorem zty {x : Nd} {n b : Int} (h : ndOk x n b = true) : ∀ i ∈ x.ins, 0 <= i /\ i < b := by
 simp only [ndOk, Bool.and_eq_true] at h; exact zdo.1 h.1
theorem zcj {l : List Int} (h : l.Nodup) {b : Nat} (hb : ∀ i ∈ l, 0 <= i /\ i < (b : Int)) : l.length <= b := by
 induction b generalizing l with
 | zero =>
   match l with
   | [] => simp
   | x :: l => have := hb x (by simp); omega
 | succ b ih =>
   have h2 := ih (l := l.filter fun x => decide (x ≠ (b : Int))) (h.filter _) (by
    intro i hi;simp only [List.mem_filter, decide_eq_true_eq] at hi;have := hb i hi.1
    omega)
   have h3 : l.length <= (l.filter fun x => decide (x ≠ (b : Int))).length + 1 := by
    clear h2 ih hb
    induction l with
    | nil => simp
    | cons x l ih =>
      rw [List.nodup_cons] at h
      by_cases e : x = (b : Int)
      ·have : (l.filter fun x => decide (x ≠ (b : Int))) = l := by
        rw [List.filter_eq_self];intro a ha;simp only [decide_eq_true_eq];intro e2; exact h.1 (by rw [e, <- e2]; exact ha)
       rw [List.filter_cons_of_neg (by simp [e]), this]; simp
      rw [List.filter_cons_of_pos (by simp [e])];have := ih h.2;simp only [List.length_cons]; omega
   omega
theorem zid {x : Nd} {n b : Int} (h : ndOk x n b = true) : x.kind = 0 \/ x.kind = 1 \/ x.kind = 2 \/ x.kind = 3 \/ x.kind = 4 := by
 simp only [ndOk, Bool.and_eq_true] at h;have h2 := h.2;unfold zcr at h2
 by_cases h0 : x.kind = 0 \/ x.kind = 1
 ·omega
 rw [if_neg h0] at h2
 by_cases h1 : x.kind = 2
 ·omega
 rw [if_neg h1] at h2
 by_cases h3 : x.kind = 3 \/ x.kind = 4
 ·omega
 rw [if_neg h3] at h2; simp at h2
def card (s : St) : Nat := (List.range 128).countP fun (j : Nat) => s.mem ((j : Int) + 1)
theorem zl3 {p q : Nat -> Bool} (h : ∀ j, ¬ (p j = true /\ q j = true)) (l : List Nat) : l.countP (fun j => p j || q j) = l.countP p + l.countP q := by
 induction l with
 | nil => rfl
 | cons x l ih =>
   simp only [List.countP_cons, ih];have := h x
   cases hp : p x <;> cases hq : q x <;> simp_all <;> omega
theorem zvy {s : St} {n : Nat} (hn : n <= 128) (h : ∀ v : Int, 1 <= v -> s.mem v = true -> v <= n) : card s <= n := by
 unfold card
 have e : List.range 128 = List.range n ++ (List.range (128 - n)).map (n + ·) := by
  rw [<- List.range_add]; congr 1; omega
 rw [e, List.countP_append]
 have h1 : (List.range n).countP (fun (j : Nat) => s.mem ((j : Int) + 1)) <= n := by
  have := List.countP_le_length (p := fun j => s.mem (((j : Nat) : Int) + 1)) (l := List.range n)
  simpa using this
 have h2 : ((List.range (128 - n)).map (n + ·)).countP (fun (j : Nat) => s.mem ((j : Int) + 1)) = 0 := by
  rw [List.countP_eq_zero];intro j hj;simp only [List.mem_map, List.mem_range] at hj;obtain ⟨i, _, rfl⟩ := hj;intro hm;have := h _ (by omega) hm;omega
 omega
end Cen
namespace Go.Proofs
open Go.Shelf
def Tryz.lays125_ren : Go.Shelf.Ren := ⟨fun | 125 => 63 | 128 => 79 | 129 => 90 | n => n, fun | 46 => 51 | 3 => 3 | 51 => 86 | 53 => 32 | 4 => 4 | 5 => 5 | 9 => 9 | n => n, fun | n => n⟩
theorem Tryz.lays125 : Go.Proofs.Lays.n125 Tryz.prog Tryz.lays125_ren := {
 mixed := by kernel_rfl
 f125 := Tryz.func63.trans (congrArg some (by kernel_rfl))
 f128 := Tryz.func79.trans (congrArg some (by kernel_rfl))
 f129 := Tryz.func90.trans (congrArg some (by kernel_rfl))
 t3 := Tryz.underlying3
 a3 := Tryz.isAgg3
 z3 := Tryz.sizeOf3
 v3 := Tryz.zeroValue3
 t4 := Tryz.underlying4
 a4 := Tryz.isAgg4
 z4 := Tryz.sizeOf4
 v4 := Tryz.zeroValue4
 t5 := Tryz.underlying5
 a5 := Tryz.isAgg5
 z5 := Tryz.sizeOf5
 v5 := Tryz.zeroValue5
 t9 := Tryz.underlying9
 a9 := Tryz.isAgg9
 z9 := Tryz.sizeOf9
 v9 := Tryz.zeroValue9
 t46 := Tryz.underlying51
 a46 := Tryz.isAgg51
 z46 := Tryz.sizeOf51
 v46 := Tryz.zeroValue51
 t51 := Tryz.underlying86
 a51 := Tryz.isAgg86
 z51 := Tryz.sizeOf86
 v51 := Tryz.zeroValue86
 t53 := Tryz.underlying32
 a53 := Tryz.isAgg32
 z53 := Tryz.sizeOf32
 v53 := Tryz.zeroValue32 }
theorem Tryz.bits_Len (x : Int) (w : World) (h0 : 0 <= x) (h1 : x <= 18446744073709551615) :
 Calls Tryz.prog 63 #[.int .u64 x] w fun e w' => e = .returned (.int .i64 (Lib.bitLen x.toNat)) /\ w' = w := Any.bits_Len Tryz.lays125 x w h0 h1
open Go.Lib in
open Go.Lib in
open Go.Lib in
open Go.Lib in
open Go.RowKit Go.Sort Go.Lib in
def Tryz.lays189_ren : Go.Shelf.Ren := ⟨fun | 189 => 74 | 125 => 63 | 257 => 107 | 128 => 79 | 129 => 90 | 294 => 128 | 295 => 129 | 296 => 130 | 297 => 131 | 298 => 132 | 299 => 133 | 216 => 134 | 300 => 135 | 301 => 136 | 328 => 143 | 329 => 114 | 330 => 115 | 331 => 144 | 332 => 145 | 215 => 146 | 343 => 159 | n => n, fun | 28 => 54 | 3 => 3 | 46 => 51 | 0 => 0 | 51 => 86 | 53 => 32 | 4 => 4 | 183 => 153 | 182 => 152 | 131 => 157 | 5 => 5 | 9 => 9 | 218 => 174 | 222 => 178 | 228 => 192 | 229 => 193 | n => n, fun | n => n⟩
theorem Tryz.lays189 : Go.Proofs.Lays.n189 Tryz.prog Tryz.lays189_ren := {
 mixed := by kernel_rfl
 f125 := Tryz.func63.trans (congrArg some (by kernel_rfl))
 f128 := Tryz.func79.trans (congrArg some (by kernel_rfl))
 f129 := Tryz.func90.trans (congrArg some (by kernel_rfl))
 f189 := Tryz.func74.trans (congrArg some (by kernel_rfl))
 f215 := Tryz.func146.trans (congrArg some (by kernel_rfl))
 f216 := Tryz.func134.trans (congrArg some (by kernel_rfl))
 f257 := Tryz.func107.trans (congrArg some (by kernel_rfl))
 f294 := Tryz.func128.trans (congrArg some (by kernel_rfl))
 f295 := Tryz.func129.trans (congrArg some (by kernel_rfl))
 f296 := Tryz.func130.trans (congrArg some (by kernel_rfl))
 f297 := Tryz.func131.trans (congrArg some (by kernel_rfl))
 f298 := Tryz.func132.trans (congrArg some (by kernel_rfl))
 f299 := Tryz.func133.trans (congrArg some (by kernel_rfl))
 f300 := Tryz.func135.trans (congrArg some (by kernel_rfl))
 f301 := Tryz.func136.trans (congrArg some (by kernel_rfl))
 f328 := Tryz.func143.trans (congrArg some (by kernel_rfl))
 f329 := Tryz.func114.trans (congrArg some (by kernel_rfl))
 f330 := Tryz.func115.trans (congrArg some (by kernel_rfl))
 f331 := Tryz.func144.trans (congrArg some (by kernel_rfl))
 f332 := Tryz.func145.trans (congrArg some (by kernel_rfl))
 f343 := Tryz.func159.trans (congrArg some (by kernel_rfl))
 t0 := Tryz.underlying0
 a0 := Tryz.isAgg0
 z0 := Tryz.sizeOf0
 v0 := Tryz.zeroValue0
 t3 := Tryz.underlying3
 a3 := Tryz.isAgg3
 z3 := Tryz.sizeOf3
 v3 := Tryz.zeroValue3
 t4 := Tryz.underlying4
 a4 := Tryz.isAgg4
 z4 := Tryz.sizeOf4
 v4 := Tryz.zeroValue4
 t5 := Tryz.underlying5
 a5 := Tryz.isAgg5
 z5 := Tryz.sizeOf5
 v5 := Tryz.zeroValue5
 t9 := Tryz.underlying9
 a9 := Tryz.isAgg9
 z9 := Tryz.sizeOf9
 v9 := Tryz.zeroValue9
 t28 := Tryz.underlying54
 a28 := Tryz.isAgg54
 z28 := Tryz.sizeOf54
 v28 := Tryz.zeroValue54
 t46 := Tryz.underlying51
 a46 := Tryz.isAgg51
 z46 := Tryz.sizeOf51
 v46 := Tryz.zeroValue51
 t51 := Tryz.underlying86
 a51 := Tryz.isAgg86
 z51 := Tryz.sizeOf86
 v51 := Tryz.zeroValue86
 t53 := Tryz.underlying32
 a53 := Tryz.isAgg32
 z53 := Tryz.sizeOf32
 v53 := Tryz.zeroValue32
 t131 := Tryz.underlying157
 a131 := Tryz.isAgg157
 z131 := Tryz.sizeOf157
 v131 := Tryz.zeroValue157
 t182 := Tryz.underlying152
 a182 := Tryz.isAgg152
 z182 := Tryz.sizeOf152
 v182 := Tryz.zeroValue152
 t183 := Tryz.underlying153
 a183 := Tryz.isAgg153
 z183 := Tryz.sizeOf153
 v183 := Tryz.zeroValue153
 t218 := Tryz.underlying174
 a218 := Tryz.isAgg174
 z218 := Tryz.sizeOf174
 v218 := Tryz.zeroValue174
 t222 := Tryz.underlying178
 a222 := Tryz.isAgg178
 z222 := Tryz.sizeOf178
 v222 := Tryz.zeroValue178
 t228 := Tryz.underlying192
 a228 := Tryz.isAgg192
 z228 := Tryz.sizeOf192
 v228 := Tryz.zeroValue192
 t229 := Tryz.underlying193
 a229 := Tryz.isAgg193
 z229 := Tryz.sizeOf193
 v229 := Tryz.zeroValue193 }
open Go.Sort Go.RowKit in
theorem Tryz.slices_Sort_int (blk off cap : Nat) (zs : List Int) (w : World) (hH : Holds (Value.int .i64) w blk off zs.toArray) (hblk : blk < w.heap.size) (hsz : zs.length < 4611686018427387904) :
 Calls Tryz.prog 74 #[.slice (some ⟨blk, off, none⟩) zs.length cap] w fun e w' =>
  e = .returned (.tuple #[]) /\ ∃ n os, w' = grow (putRow (Value.int .i64) (Sort.ahead w n) blk off (zs.mergeSort fun x y => decide (x <= y)).toArray) os := Any.slices_Sort_int Tryz.lays189 blk off cap zs w hH hblk hsz
def Tryz.laysM288_ren : Go.Shelf.Ren := ⟨fun | 288 => 156 | 283 => 164 | 284 => 165 | 285 => 166 | 286 => 167 | 129 => 90 | 317 => 173 | 318 => 174 | 319 => 175 | 320 => 176 | 337 => 178 | 338 => 109 | n => n, fun | 37 => 22 | 53 => 32 | 3 => 3 | 4 => 4 | 9 => 9 | 171 => 218 | 0 => 0 | 173 => 220 | 212 => 229 | 51 => 86 | 5 => 5 | 20 => 20 | 213 => 230 | 46 => 51 | 232 => 232 | 233 => 191 | n => n, fun | 17 => 1 | 18 => 2 | 19 => 0 | n => n⟩
open Go.RowKit Go.Sort Go.Lib in
open Go.RowKit Go.Sort Go.Lib in
open Go.RowKit Go.Sort Go.Lib in
def Tryz.laysM249_ren : Go.Shelf.Ren := ⟨fun | 249 => 141 | 288 => 156 | 283 => 164 | 284 => 165 | 285 => 166 | 286 => 167 | 129 => 90 | 317 => 173 | 318 => 174 | 319 => 175 | 320 => 176 | 337 => 178 | 338 => 109 | n => n, fun | 37 => 22 | 2 => 2 | 3 => 3 | 53 => 32 | 4 => 4 | 9 => 9 | 171 => 218 | 0 => 0 | 173 => 220 | 212 => 229 | 51 => 86 | 5 => 5 | 20 => 20 | 213 => 230 | 46 => 51 | 232 => 232 | 233 => 191 | n => n, fun | 17 => 1 | 18 => 2 | 19 => 0 | n => n⟩
open Go.RowKit Go.Sort Go.Lib in
def Tryz.laysM176_ren : Go.Shelf.Ren := ⟨fun | 176 => 126 | 249 => 141 | 288 => 156 | 283 => 164 | 284 => 165 | 285 => 166 | 286 => 167 | 129 => 90 | 317 => 173 | 318 => 174 | 319 => 175 | 320 => 176 | 337 => 178 | 338 => 109 | n => n, fun | 37 => 22 | 2 => 2 | 3 => 3 | 53 => 32 | 4 => 4 | 9 => 9 | 171 => 218 | 0 => 0 | 173 => 220 | 212 => 229 | 51 => 86 | 5 => 5 | 20 => 20 | 213 => 230 | 46 => 51 | 232 => 232 | 233 => 191 | n => n, fun | 17 => 1 | 18 => 2 | 19 => 0 | n => n⟩
theorem Tryz.laysM176 : Go.Proofs.LaysM.n176 Tryz.prog Tryz.laysM176_ren := {
 mixed := by kernel_rfl
 f129 := Tryz.func90.trans (congrArg some (by kernel_rfl))
 f176 := Tryz.func126.trans (congrArg some (by kernel_rfl))
 f249 := Tryz.func141.trans (congrArg some (by kernel_rfl))
 f283 := Tryz.func164.trans (congrArg some (by kernel_rfl))
 f284 := Tryz.func165.trans (congrArg some (by kernel_rfl))
 f285 := Tryz.func166.trans (congrArg some (by kernel_rfl))
 f286 := Tryz.func167.trans (congrArg some (by kernel_rfl))
 f288 := Tryz.func156.trans (congrArg some (by kernel_rfl))
 f317 := Tryz.func173.trans (congrArg some (by kernel_rfl))
 f318 := Tryz.func174.trans (congrArg some (by kernel_rfl))
 f319 := Tryz.func175.trans (congrArg some (by kernel_rfl))
 f320 := Tryz.func176.trans (congrArg some (by kernel_rfl))
 f337 := Tryz.func178.trans (congrArg some (by kernel_rfl))
 f338 := Tryz.func109.trans (congrArg some (by kernel_rfl))
 t0 := Tryz.underlying0
 a0 := Tryz.isAgg0
 z0 := Tryz.sizeOf0
 v0 := Tryz.zeroValue0
 t2 := Tryz.underlying2
 a2 := Tryz.isAgg2
 z2 := Tryz.sizeOf2
 v2 := Tryz.zeroValue2
 t3 := Tryz.underlying3
 a3 := Tryz.isAgg3
 z3 := Tryz.sizeOf3
 v3 := Tryz.zeroValue3
 t4 := Tryz.underlying4
 a4 := Tryz.isAgg4
 z4 := Tryz.sizeOf4
 v4 := Tryz.zeroValue4
 t5 := Tryz.underlying5
 a5 := Tryz.isAgg5
 z5 := Tryz.sizeOf5
 v5 := Tryz.zeroValue5
 t9 := Tryz.underlying9
 a9 := Tryz.isAgg9
 z9 := Tryz.sizeOf9
 v9 := Tryz.zeroValue9
 t20 := Tryz.underlying20
 a20 := Tryz.isAgg20
 z20 := Tryz.sizeOf20
 v20 := Tryz.zeroValue20
 t37 := Tryz.underlying22
 a37 := Tryz.isAgg22
 z37 := Tryz.sizeOf22
 v37 := Tryz.zeroValue22
 t46 := Tryz.underlying51
 a46 := Tryz.isAgg51
 z46 := Tryz.sizeOf51
 v46 := Tryz.zeroValue51
 t51 := Tryz.underlying86
 a51 := Tryz.isAgg86
 z51 := Tryz.sizeOf86
 v51 := Tryz.zeroValue86
 t53 := Tryz.underlying32
 a53 := Tryz.isAgg32
 z53 := Tryz.sizeOf32
 v53 := Tryz.zeroValue32
 t171 := Tryz.underlying218
 a171 := Tryz.isAgg218
 z171 := Tryz.sizeOf218
 v171 := Tryz.zeroValue218
 t173 := Tryz.underlying220
 a173 := Tryz.isAgg220
 z173 := Tryz.sizeOf220
 v173 := Tryz.zeroValue220
 t212 := Tryz.underlying229
 a212 := Tryz.isAgg229
 z212 := Tryz.sizeOf229
 v212 := Tryz.zeroValue229
 t213 := Tryz.underlying230
 a213 := Tryz.isAgg230
 z213 := Tryz.sizeOf230
 t232 := Tryz.underlying232
 a232 := Tryz.isAgg232
 z232 := Tryz.sizeOf232
 v232 := Tryz.zeroValue232
 t233 := Tryz.underlying191
 a233 := Tryz.isAgg191
 z233 := Tryz.sizeOf191
 v233 := Tryz.zeroValue191
 g17 := by kernel_rfl
 g18 := by kernel_rfl
 g19 := by kernel_rfl
 i0 := by kernel_rfl
 i2 := by kernel_rfl
 i3 := by kernel_rfl
 i4 := by kernel_rfl
 i5 := by kernel_rfl
 i9 := by kernel_rfl
 i20 := by kernel_rfl
 i37 := by kernel_rfl
 i46 := by kernel_rfl
 i51 := by kernel_rfl
 i53 := by kernel_rfl
 i171 := by kernel_rfl
 i173 := by kernel_rfl
 i212 := by kernel_rfl
 i232 := by kernel_rfl
 i233 := by kernel_rfl
 m17 := by kernel_rfl
 m18 := by kernel_rfl
 m19 := by kernel_rfl }
open Go.RowKit Go.Sort Go.Lib in
theorem Tryz.strconv_AppendInt_10 (B n : Nat) (i : Int) (h0 : -9223372036854775808 <= i) (h1 : i <= 9223372036854775807) (sv : Value) (xs : List Value) (w : World) (hown : w.ownsRow B 5 1 sv n xs) (hBw : B <= w.heap.size) (hlim : n + 21 <= 140737488355328) (htab : Lib.TabBelow Tryz.prog B w "internal/strconv.uint64pow10" .u64 Lib.pow10Tab) :
 Calls Tryz.prog 126 #[sv, .int .i64 i, .int .i64 10] w fun e w' => ∃ v', e = .returned v' /\ w'.ownsRow B 5 1 v' (n + (Lib.itoa i).length) (xs ++ Lib.byteCells (Lib.itoa i)) /\ Below B w w' /\ Lib.OthersKept 5 none w w' := Any.strconv_AppendInt_10 Tryz.laysM176 B n i h0 h1 sv xs w hown hBw hlim htab
open Go.RowKit Go.Lib in
open Go.RowKit Go.Lib in
def Tryz.laysNm220_ren : Go.Shelf.Ren := ⟨fun | 20 => 122 | n => n, fun | 22 => 54 | 3 => 3 | 4 => 4 | 0 => 0 | n => n, fun | n => n⟩
theorem Tryz.laysNm220 : Go.Proofs.Lays2.n20 Tryz.prog Tryz.laysNm220_ren := {
 mixed := by kernel_rfl
 f20 := Tryz.func122.trans (congrArg some (by kernel_rfl))
 t0 := Tryz.underlying0
 a0 := Tryz.isAgg0
 z0 := Tryz.sizeOf0
 v0 := Tryz.zeroValue0
 t3 := Tryz.underlying3
 a3 := Tryz.isAgg3
 z3 := Tryz.sizeOf3
 v3 := Tryz.zeroValue3
 t4 := Tryz.underlying4
 a4 := Tryz.isAgg4
 z4 := Tryz.sizeOf4
 v4 := Tryz.zeroValue4
 t22 := Tryz.underlying54
 a22 := Tryz.isAgg54
 z22 := Tryz.sizeOf54
 v22 := Tryz.zeroValue54
 i3 := by kernel_rfl }
open Go.RowKit Go.Lib Go.Sort in
open Go.RowKit Go.Lib Go.Sort in
theorem Tryz.slices_Compact_int (blk off cap : Nat) (zs : List Int) (w : World) (hH : Holds (Value.int .i64) w blk off zs.toArray) (hsz : zs.length <= 9223372036854775807) (hcap : zs.length <= cap) :
 Calls Tryz.prog 122 #[.slice (some ⟨blk, off, none⟩) zs.length cap] w fun e w' => e = .returned (.slice (some ⟨blk, off, none⟩) (Lib.compact zs).length cap) /\ ∃ q, w' = putRow (Value.int .i64) (Sort.ahead w q) blk off (Lib.compact zs ++ List.replicate (zs.length - (Lib.compact zs).length) 0).toArray := Any.slices_Compact_int Tryz.laysNm220 blk off cap zs w hH hsz hcap
open Go.RowKit Go.Lib Go.Sort in
theorem Tryz.slices_Compact_int_empty (a : Option Addr) (cap : Nat) (w : World) :
 Calls Tryz.prog 122 #[.slice a 0 cap] w fun e w' => e = .returned (.slice a 0 cap) /\ w' = w := Any.slices_Compact_int_empty Tryz.laysNm220 a cap w
end Go.Proofs
