/- Part of the proofs that laws of censuslaw24 return true for every input, where the tables that the rows list are laid. Texts: R21O, Ei, Ej. -/
import Derived.Test.YtkaojolofaanfaaGreatDoorYA31
import Derived.Test.YtkaojolofaanfaaGreatDoorYA33
import Derived.Deep.RegionHeld3
import Derived.Test.YtkaojolofaanfaaGreatDoorYA7
import Derived.RangeFuncNested
import Derived.RangeFuncBound
import Derived.RangeFuncCalls
import Derived.RangeFuncLeaves
import Derived.Shelf.Abstract
import Derived.Shelf.RegionOpen
import Derived.WalkKit
import Derived.OwnWalkIn
import Derived.TacticsInMore
import Derived.LoopNIn
import Derived.LoopIn
import Derived.Test.YtkaojolofaanfaaGreatDoorYA6
import Derived.Lib.TrailingZeros
import Derived.Laws.Bits64b
import Derived.Test.YtkaojolofaanfaaGreatDoorYA1
set_option maxHeartbeats 8000000
set_option maxRecDepth 100000
set_option linter.unusedSimpArgs false
set_option linter.unusedVariables false
namespace Go.Proofs.YtkaojolofaanfaaGreatDoor
open Go.RowKit Cen
theorem zpm (s : St) (l : Int) (w : World) (hs : s.ok) (hl : zac l ≠ 0) : Calls Tryz.prog 83 #[stv s, .int .i64 l] w fun e w' => e = .returned (.bool (zbw s.mem l)) /\ Below w.heap.size w w' := by
 have HH := lh (fun v V => zk3 s v V hs);have HB0 := lh ((Below.refl w.heap.size w).alloc (Nat.le_refl _) (.cells #[.int .u64 (s.a : Int), .int .u64 (s.b : Int)] 54))
 rcases zc3 hl with ⟨h1, h2, h3⟩ | ⟨h1, h2, h3⟩
 ·have hd : decide (l < 0) = false := by simp; omega
  have HV : Hid (zbw s.mem l = s.mem l) := by show _ = _; unfold zbw; rw [h3, decide_eq_true (show l ≠ 0 by omega), decide_eq_true (show 0 < l by omega)]; simp
  have HH1 := lh (HH.out l);clear hl h3;go_enter Tryz.func83, Tryz.ntmps83;go_wp2_with fail;refine (HH1.out _).mono ?_;rintro e w1 ⟨rfl, hb1⟩;have HB1 := lh (HB0.out.trans (hb1.mono HB0.out.size));clear hb1;go_wp2;go_ret;exact ⟨zah HV.out.symm, HB1.out⟩
 ·have hd : decide (l < 0) = true := by simp; omega
  have hw : IntKind.i64.wrap (-l) = -l := IntWalk.i64_in _ (by omega)
  have HV : Hid (zbw s.mem l = !s.mem (-l)) := by show _ = _; unfold zbw; rw [h3, decide_eq_true (show -l ≠ 0 by omega), decide_eq_false (show ¬ 0 < l by omega)]; cases s.mem (-l) <;> rfl
  have HH1 := lh (HH.out (-l));clear hl h3;go_enter Tryz.func83, Tryz.ntmps83;go_wp2_with fail
  try rw [hw]
  refine (HH1.out _).mono ?_;rintro e w1 ⟨rfl, hb1⟩;have HB1 := lh (HB0.out.trans (hb1.mono HB0.out.size));clear hb1 hw;go_wp2;go_ret;exact ⟨zah HV.out.symm, HB1.out⟩
def addC (s : St) (xs : Cl) : St := xs.foldl (fun s x => s.add (zac x)) s
def sK (t : List Cl) (k : Nat) : St := (t.take k).foldl addC St.zero
theorem zql {s : St} (h : s.ok) : ∀ xs : Cl, (addC s xs).ok := by
 intro xs;unfold addC
 induction xs generalizing s with
 | nil => exact h
 | cons x xs ih => exact ih (St.add_ok h _)
theorem zxh (t : List Cl) (k : Nat) : (sK t k).ok := by
 have : ∀ (l : List Cl) (s : St), s.ok -> (l.foldl addC s).ok := by
  intro l
  induction l with
  | nil => intro s h; exact h
  | cons c l ih => intro s h; exact ih _ (zql h c)
 exact this _ _ St.zero_ok
theorem zsq (s : St) (xs : Cl) (v : Int) : (addC s xs).mem v = (s.mem v || (zcq xs).mem v) := by
 unfold addC zcq;rw [zfl, zfl, St.mem_zero, Bool.false_or]
theorem zxg (t : List Cl) : sK t t.length = zaf t := by
 apply St.ext (zxh _ _) (zm0 _)
 intro v _ _;rw [Bool.eq_iff_iff, za8];unfold sK;rw [List.take_length]
 have : ∀ (l : List Cl) (s : St), (l.foldl addC s).mem v = true ↔ s.mem v = true \/ ∃ c ∈ l, (zcq c).mem v = true := by
  intro l
  induction l with
  | nil => intro s; simp
  | cons c l ih =>
    intro s;rw [List.foldl_cons, ih, zsq, Bool.or_eq_true];simp only [List.mem_cons]
    constructor
    ·rintro ((h | h) | ⟨d, hd, h⟩)
     ·exact .inl h
     ·exact .inr ⟨c, .inl rfl, h⟩
     ·exact .inr ⟨d, .inr hd, h⟩
    ·rintro (h | ⟨d, rfl | hd, h⟩)
     ·exact .inl (.inl h)
     ·exact .inl (.inr h)
     ·exact .inr ⟨d, hd, h⟩
 rw [this, St.mem_zero]; simp
def VSR (n : Nat) (t : List Cl) (a : Option Addr) (cap : Nat) (w : World) (s : St) (wr : World) : Prop :=
 Below w.heap.size w wr /\ Blk wr w.heap.size #[.int .i64 n, .slice a t.length cap] 39 /\ Blk wr (w.heap.size + 1) #[.int .u64 0, .int .u64 0] 54 /\
  Blk wr (w.heap.size + 1 + 1) #[.int .u64 (s.a : Int), .int .u64 (s.b : Int)] 54
theorem zrv {n : Nat} (hn : n <= 128) (t : List Cl) : okT n t = decide (chkT n t = 0) := by
 rw [Bool.eq_iff_iff, decide_eq_true_iff, zix hn, zbu hn]
theorem zjb (n : Nat) (hn : n <= 128) (a : Option Addr) (cap : Nat) (t : List Cl) (w : World) (hl : t.length <= 1073741824) (hs : ∀ c ∈ t, c.length <= 1073741824) (hx : LsCells w a t) :
 Calls Tryz.prog 156 #[.agg #[.int .i64 n, .slice a t.length cap]] w fun e w' => e = .returned (stv (zbs n t)) /\ Below w.heap.size w w' := by
 obtain ⟨w0, hw0⟩ : ∃ w0, w0 = ((w.alloc (.cells #[.int .i64 n, .slice a t.length cap] 39)).alloc (.cells #[.int .u64 0, .int .u64 0] 54)).alloc (.cells #[.int .u64 0, .int .u64 0] 54) := ⟨_, rfl⟩
 have hb0 : Below w.heap.size w w0 := by rw [hw0]; exact (((Below.refl _ _).alloc (Nat.le_refl _) _).alloc (by simp) _).alloc (by simp; omega) _
 have q0 : Blk w0 w.heap.size #[.int .i64 n, .slice a t.length cap] 39 := by rw [hw0]; exact ((Blk.new w _ _).alloc _).alloc _
 have q1 : Blk w0 (w.heap.size + 1) #[.int .u64 0, .int .u64 0] 54 := by rw [hw0]; exact (Blk.new' _ (by simp) _ _).alloc _
 have q2 : Blk w0 (w.heap.size + 1 + 1) #[.int .u64 0, .int .u64 0] 54 := by rw [hw0]; exact Blk.new' _ (by simp) _ _
 have HC := lh (zby n a cap t w0 hl hs (hx.keep hb0));have HB0 := lh hb0;have Q0 := lh q0;have Q1 := lh q1;have Q2 := lh q2;have HX := lh hx;have HOKT := lh (zrv hn t);have HZO := lh (zbu hn (t := t));have HN := lh hn;clear hx hb0 q0 q1 q2 hn
 by_cases hbad : chkT n t = 0
 ·have ht := HZO.out.1 hbad;rw [hbad] at HC
  have HR : Hid (zbs n t = zaf t) := by show _ = _; unfold zbs; rw [HOKT.out, hbad]; rfl
  have HT := lh ht;have htl4 : t.length <= 4096 := ht.len;clear hbad ht HZO HOKT hs hl;go_enter Tryz.func156, Tryz.ntmps156;go_wp2_with fail;rw [<- hw0];refine HC.out.mono ?_;rintro e w1 ⟨rfl, hb1⟩
  have HIN : Hid (VSR n t a cap w (sK t 0) w1) := ⟨HB0.out.trans (hb1.mono HB0.out.size), Q0.out.later hb1, Q1.out.later hb1, Q2.out.later hb1⟩
  clear hb1 hw0;go_wp2_with fail
  go_loopw [4] (fun i wr => ∃ k : Nat, k <= t.length /\ i = .int .i64 k /\ VSR n t a cap w (sK t k) wr) (fun i _ => t.length - (intOf i).toNat)
  case atStart => exact ⟨0, Nat.zero_le _, rfl, HIN.out⟩
  case round =>
   obtain ⟨k, hk, rfl, hb, p0, p1, p2⟩ := hrel;have HB := lh hb;have P0 := lh p0;have P1 := lh p1;have P2 := lh p2;have k0 := p0.cell 0;have k1 := p0.cell 1;have z0 := p0.lt;have HZ : Hid (w.heap.size <= wr.heap.size) := hb.size;clear hb
   by_cases hlt : k < t.length
   ·obtain ⟨b1, off1, ai, ci, hae, hc0, hi⟩ := HX.out k hlt;have hc1 := zaa HB.out hc0
    have hmem : t.getD k [] ∈ t := by rw [List.getD_eq_getElem?_getD, List.getElem?_eq_getElem hlt]; exact List.getElem_mem hlt
    obtain ⟨hcl, hcr⟩ := HT.out.cl _ hmem;have HKN : Hid (sK t (k + 1) = addC (sK t k) (t.getD k [])) := zfs _ _ [] hlt;have HSK := lh (zxh t k)
    have hki : (k : Int) < (t.length : Int) := by omega
    have HI := lh hi;have HC0 := lh hc0;generalize t.getD k [] = c at *;generalize sK t k = s0 at *;have HCR := lh hcr;clear hmem hcr hi p0 p1 p2 hc0;subst hae;go_wp2_with fail
    go_loopw [5] (fun i wi => ∃ q : Nat, q <= c.length /\ i = .int .i64 q /\ VSR n t (some ⟨b1, off1, none⟩) cap w (addC s0 (c.take q)) wi) (fun i _ => c.length - (intOf i).toNat)
    case atStart => exact ⟨0, Nat.zero_le _, rfl, HB.out, P0.out, P1.out, P2.out⟩
    case round =>
     obtain ⟨q, hq, rfl, hbi, t0, t1, t2⟩ := hrel;have hc2 := zaa hbi HC0.out;have hi2 := HI.out.keep hbi
     rename World => wi
     have HBI := lh hbi;have T0 := lh t0;have T1 := lh t1;have T2 := lh t2;have HI2 := lh hi2;have m1 := t0.cell 1;have y0 := t0.lt;have d0 := t2.cell 0;have d1 := t2.cell 1;have y2 := t2.lt;have HZI : Hid (w.heap.size <= wi.heap.size) := hbi.size;clear hbi t0 t1 t2 hi2
     by_cases hqc : q < c.length
     ·obtain ⟨b2, off2, hai, e0⟩ := HI2.out q hqc
      have hqi : (q : Int) < (c.length : Int) := by omega
      have hyn := HCR.out _ (zbd hqc);have HAN : Hid (addC s0 (c.take (q + 1)) = (addC s0 (c.take q)).add (zac (c.getD q 0))) := zfs _ _ 0 hqc;have HOK := lh (zql HSK.out (c.take q));generalize addC s0 (c.take q) = s at *;generalize c.getD q 0 = y at *
      have hy1 : -128 <= y := by have := hyn.2.1; have := HN.out; omega
      have hy2 : y <= 128 := by have := hyn.2.2; have := HN.out; omega
      have hy0 : y ≠ 0 := hyn.1
      obtain ⟨v, hv⟩ : ∃ v, v = labs y := ⟨_, rfl⟩
      have hv1 : 1 <= v := by rw [hv]; unfold labs; split <;> omega
      have hv2 : v <= 128 := by rw [hv]; unfold labs; split <;> omega
      have HAN2 : Hid (addC s0 (c.take (q + 1)) = s.add v) := by show _ = _; rw [HAN.out, zk5 ⟨hy1, hy2⟩, hv]
      have HAB := lh (fun W => zn8 y W (by omega) (by omega));rw [<- hv] at HAB;have HHS := lh (fun W => zk3 s v W HOK.out);subst hai;clear hyn hv HAN hy0 hy1 hy2
      cases hm : s.mem v with
      | true =>
        rw [hm] at HHS
        have HAE : Hid (addC s0 (c.take (q + 1)) = s) := by show _ = _; rw [HAN2.out, zsr HOK.out hm]
        clear hm;go_wp2_with fail;refine (HAB.out _).mono ?_;rintro e wq ⟨rfl, hwq⟩;obtain rfl := hwq;go_wp2_with fail;refine (HHS.out _).mono ?_;rintro e w2 ⟨rfl, hb2⟩;have S0 := lh (T0.out.later hb2);have S1 := lh (T1.out.later hb2);have S2 := lh (T2.out.later hb2);have HB2 := lh (HBI.out.trans (hb2.mono HZI.out));have HQ2 := lh hb2;have g0 := S2.out.cell 0;have g1 := S2.out.cell 1;have h0 := S2.out.fr 0;have h1 := S2.out.fr 1;have gz := S2.out.lt;clear hb2
        have HF : Hid (∃ q' : Nat, q' <= c.length /\ Value.int .i64 ((q : Int) + 1) = .int .i64 q' /\ VSR n t (some ⟨b1, off1, none⟩) cap w (addC s0 (c.take q')) w2) :=
         ⟨q + 1, by omega, by go_num, by rw [HAE.out]; exact ⟨HB2.out, S0.out, S1.out, S2.out⟩⟩
        go_wp2;go_roundw
        case rel => exact HF.out
        case measure => simp [intOf]; omega
      | false =>
        rw [hm] at HHS
        by_cases h64 : v <= 64
        ·have e1 : (v - 1) / 64 = 0 := by omega
         have e2 : (v - 1) % 64 = v - 1 := by omega
         have hbit : s.a.testBit (v.toNat - 1) = false := by
          have := hm; unfold St.mem at this; rw [if_pos (by omega)] at this
          rwa [show (v - 1).toNat = v.toNat - 1 by omega] at this
         obtain ⟨A, hA⟩ : ∃ A : Nat, A = s.a ||| 2 ^ (v.toNat - 1) := ⟨_, rfl⟩
         have HR : Hid (s.add v = ⟨A, s.b⟩) := by
          show _ = _; unfold St.add; rw [if_pos (by omega), show (v - 1).toNat = v.toNat - 1 by omega, hA]
         have hw : IntKind.u64.wrap ((s.a : Int) + IntKind.u64.wrap ((2 : Int) ^ (v.toNat - 1))) = (A : Int) := by rw [hA]; exact zo8 HOK.out.1 hbit (by omega)
         have HNB := lh (fun W (h : Blk W (w.heap.size + 1 + 1) #[.int .u64 (s.a : Int), .int .u64 (s.b : Int)] 54) => h.set 0 (.int .u64 (A : Int)));clear hm hbit hA;go_wp2_with fail;refine (HAB.out _).mono ?_;rintro e wq ⟨rfl, hwq⟩;obtain rfl := hwq;go_wp2_with fail;refine (HHS.out _).mono ?_;rintro e w2 ⟨rfl, hb2⟩;have S0 := lh (T0.out.later hb2);have S1 := lh (T1.out.later hb2);have S2 := lh (T2.out.later hb2);have HB2 := lh (HBI.out.trans (hb2.mono HZI.out));have HQ2 := lh hb2;have g0 := S2.out.cell 0;have g1 := S2.out.cell 1;have h0 := S2.out.fr 0;have h1 := S2.out.fr 1;have gz := S2.out.lt
         clear hb2
         have HF : Hid (∃ q' : Nat, q' <= c.length /\ Value.int .i64 ((q : Int) + 1) = .int .i64 q' /\ VSR n t (some ⟨b1, off1, none⟩) cap w (addC s0 (c.take q')) (w2.setCell ⟨w.heap.size + 1 + 1, 0, none⟩ (.int .u64 (A : Int)))) := by
          have hk2 : Kp (fun y => y = w.heap.size + 1 + 1) w2 (w2.setCell ⟨w.heap.size + 1 + 1, 0, none⟩ (.int .u64 (A : Int))) := Kp.setCell _ _ _ rfl;exact ⟨q + 1, by omega, by go_num, by rw [HAN2.out, HR.out]; exact ⟨HB2.out.setCell (by show w.heap.size <= w.heap.size + 1 + 1; omega) _, S0.out.kept hk2 (by omega), S1.out.kept hk2 (by omega), HNB.out _ S2.out⟩⟩
         go_wp2;go_roundw
         case rel => exact HF.out
         case measure => simp [intOf]; omega
        ·have e1 : (v - 1) / 64 = 1 := by omega
         have e2 : (v - 1) % 64 = v - 65 := by omega
         have hv65 : 65 <= v := by omega
         have hbit : s.b.testBit (v - 65).toNat = false := by
          have := hm; unfold St.mem at this; rw [if_neg (by omega), if_pos (by omega)] at this;exact this
         obtain ⟨A, hA⟩ : ∃ A : Nat, A = s.b ||| 2 ^ (v - 65).toNat := ⟨_, rfl⟩
         have HR : Hid (s.add v = ⟨s.a, A⟩) := by
          show _ = _; unfold St.add; rw [if_neg (by omega), if_pos (by omega), hA]
         have hw : IntKind.u64.wrap ((s.b : Int) + IntKind.u64.wrap ((2 : Int) ^ (v - 65).toNat)) = (A : Int) := by rw [hA]; exact zo8 HOK.out.2 hbit (by omega)
         have HNB := lh (fun W (h : Blk W (w.heap.size + 1 + 1) #[.int .u64 (s.a : Int), .int .u64 (s.b : Int)] 54) => h.set 1 (.int .u64 (A : Int)));clear hm hbit hA;go_wp2_with fail;refine (HAB.out _).mono ?_;rintro e wq ⟨rfl, hwq⟩;obtain rfl := hwq;go_wp2_with fail;refine (HHS.out _).mono ?_;rintro e w2 ⟨rfl, hb2⟩;have S0 := lh (T0.out.later hb2);have S1 := lh (T1.out.later hb2);have S2 := lh (T2.out.later hb2);have HB2 := lh (HBI.out.trans (hb2.mono HZI.out));have HQ2 := lh hb2;have g0 := S2.out.cell 0;have g1 := S2.out.cell 1;have h0 := S2.out.fr 0;have h1 := S2.out.fr 1;have gz := S2.out.lt
         clear hb2
         have HF : Hid (∃ q' : Nat, q' <= c.length /\ Value.int .i64 ((q : Int) + 1) = .int .i64 q' /\ VSR n t (some ⟨b1, off1, none⟩) cap w (addC s0 (c.take q')) (w2.setCell ⟨w.heap.size + 1 + 1, 1, none⟩ (.int .u64 (A : Int)))) := by
          have hk2 : Kp (fun y => y = w.heap.size + 1 + 1) w2 (w2.setCell ⟨w.heap.size + 1 + 1, 1, none⟩ (.int .u64 (A : Int))) := Kp.setCell _ _ _ rfl;exact ⟨q + 1, by omega, by go_num, by rw [HAN2.out, HR.out]; exact ⟨HB2.out.setCell (by show w.heap.size <= w.heap.size + 1 + 1; omega) _, S0.out.kept hk2 (by omega), S1.out.kept hk2 (by omega), HNB.out _ S2.out⟩⟩
         go_wp2;go_roundw
         case rel => exact HF.out
         case measure => simp [intOf]; omega
     ·have hqe : q = c.length := by omega
      subst hqe
      have HKE : Hid (sK t (k + 1) = addC s0 (c.take c.length)) := by show _ = _; rw [HKN.out, List.take_length]
      have HF : Hid (VSR n t (some ⟨b1, off1, none⟩) cap w (sK t (k + 1)) wi) := by show VSR _ _ _ _ _ _ _; rw [HKE.out]; exact ⟨HBI.out, T0.out, T1.out, T2.out⟩
      go_wp2;go_roundw
      case rel => exact ⟨k + 1, by omega, by go_num, HF.out⟩
      case measure => simp [intOf]; omega
   ·have hke : k = t.length := by omega
    subst hke;have HE := lh (zxg t);generalize sK t t.length = s at *;have l0 := p2.cell 0;have l1 := p2.cell 1;have m0 := p1.cell 0;have m1 := p1.cell 1;have fr0 := p1.fr 0;have fr1 := p1.fr 1;have z1 := p1.lt;have z2 := p2.lt
    have hbr := ((p1.set 0 (.int .u64 (s.a : Int))).set 1 (.int .u64 (s.b : Int)))
    have e0 : ((wr.setCell ⟨w.heap.size + 1, 0, none⟩ (.int .u64 (s.a : Int))).setCell ⟨w.heap.size + 1, 1, none⟩ (.int .u64 (s.b : Int))).cell? ⟨w.heap.size + 1, 0, none⟩ = some (.int .u64 (s.a : Int)) := hbr.cell 0;have e1 : ((wr.setCell ⟨w.heap.size + 1, 0, none⟩ (.int .u64 (s.a : Int))).setCell ⟨w.heap.size + 1, 1, none⟩ (.int .u64 (s.b : Int))).cell? ⟨w.heap.size + 1, 1, none⟩ = some (.int .u64 (s.b : Int)) := hbr.cell 1;clear p0 p1 p2 hbr;go_wp2;exact bodyPost_ret (v := stv s) (by simp [results, Tryz.results156, go_sem, e0, e1]) rfl ⟨by rw [HR.out, <- HE.out], (HB.out.setCell (Nat.le_succ _) _).setCell (Nat.le_succ _) _⟩
 ·have HR : Hid (zbs n t = St.zero) := by show _ = _; unfold zbs; rw [HOKT.out, decide_eq_false hbad]; rfl
  obtain ⟨c, hc⟩ : ∃ c, c = chkT n t := ⟨_, rfl⟩
  rw [<- hc] at hbad HC;clear hc HZO HOKT hs hl;go_enter Tryz.func156, Tryz.ntmps156;go_wp2_with fail;rw [<- hw0];refine HC.out.mono ?_;rintro e w1 ⟨rfl, hb1⟩;have p1 := Q1.out.later hb1;have p2 := Q2.out.later hb1;have HB := lh (HB0.out.trans (hb1.mono HB0.out.size));have l0 := p2.cell 0;have l1 := p2.cell 1;have m0 := p1.cell 0;have m1 := p1.cell 1;have fr0 := p1.fr 0;have fr1 := p1.fr 1;have z1 := p1.lt;have z2 := p2.lt
  have hbr := ((p1.set 0 (.int .u64 0)).set 1 (.int .u64 0))
  have e0 : ((w1.setCell ⟨w.heap.size + 1, 0, none⟩ (.int .u64 0)).setCell ⟨w.heap.size + 1, 1, none⟩ (.int .u64 0)).cell? ⟨w.heap.size + 1, 0, none⟩ = some (.int .u64 0) := hbr.cell 0;have e1 : ((w1.setCell ⟨w.heap.size + 1, 0, none⟩ (.int .u64 0)).setCell ⟨w.heap.size + 1, 1, none⟩ (.int .u64 0)).cell? ⟨w.heap.size + 1, 1, none⟩ = some (.int .u64 0) := hbr.cell 1
  have hcb : (c != 0) = true := by simpa using hbad
  clear hb1 hw0 p1 p2 hbr;go_wp2;exact bodyPost_ret (v := stv St.zero) (by simp [results, Tryz.results156, go_sem, e0, e1, stv, St.zero]) rfl ⟨by rw [HR.out], (HB.out.setCell (Nat.le_succ _) _).setCell (Nat.le_succ _) _⟩
theorem ze1 (x : Int) (w : World) (h : -9223372036854775807 <= x) (h2 : x <= 9223372036854775807) : Calls Tryz.prog 161 #[.int .i64 x] w fun e w' => e = .returned (.int .i64 (labs x)) /\ w = w' := by
 by_cases h0 : x < 0
 ·have HR : Hid (labs x = -x) := by show _ = _; unfold labs; rw [if_pos h0]
  have hw : IntKind.i64.wrap (-x) = -x := IntWalk.i64_in _ (by omega);clear h h2;go_enter Tryz.func161, Tryz.ntmps161;go_wp2;go_ret;exact ⟨zbb HR.out.symm, rfl⟩
 ·have HR : Hid (labs x = x) := by show _ = _; unfold labs; rw [if_neg h0]
  clear h h2;go_enter Tryz.func161, Tryz.ntmps161;go_wp2;go_ret;exact ⟨zbb HR.out.symm, rfl⟩
theorem zhr {n : Nat} {f : Nat -> Bool} (h : ∀ j, j < n -> f j = true) : (List.range n).all f = true := by
 rw [List.all_eq_true]; intro j hj; exact h j (List.mem_range.1 hj)
theorem zds {n k : Nat} {f : Nat -> Bool} (hk : k < n) (h : f k = false) : (List.range n).all f = false := by
 rw [Bool.eq_false_iff]; intro hc;have := List.all_eq_true.1 hc k (List.mem_range.2 hk);rw [h] at this; simp at this
theorem zgz (n m : Nat) (hn : n <= 128) (ta : Option Addr) (tc : Nat) (tm : Cl) (aa : Option Addr) (ac : Nat) (at' : List Int) (w : World) (hm : m <= 1073741824) (hl : tm.length <= 1073741824) (hl2 : at'.length <= 1073741824) (hx : IntCells w ta tm) (hy : IntCells w aa at') :
 Calls Tryz.prog 89 #[.agg #[.slice ta tm.length tc, .slice aa at'.length ac], .int .i64 n, .int .i64 m] w fun e w' => e = .returned (.bool (zbk n m ⟨tm, at'⟩)) /\ Below w.heap.size w w' := by
 obtain ⟨w0, hw0⟩ : ∃ w0, w0 = w.alloc (.cells #[.slice ta tm.length tc, .slice aa at'.length ac] 63) := ⟨_, rfl⟩
 have hb0 : Below w.heap.size w w0 := by rw [hw0]; exact (Below.refl _ _).alloc (Nat.le_refl _) _
 have q0 : Blk w0 w.heap.size #[.slice ta tm.length tc, .slice aa at'.length ac] 63 := by rw [hw0]; exact Blk.new w _ _
 have HB0 := lh hb0;have HX := lh (hx.keep hb0);have HY := lh (hy.keep hb0);have k0 := q0.cell 0;have k1 := q0.cell 1;have z0 := q0.lt;have Q0 := lh q0
 have HF1 : Hid (∀ k, k < tm.length -> tmOk n tm k = false -> zbk n m ⟨tm, at'⟩ = false) := fun k hk h => by
  unfold zbk; rw [zds hk h]; rfl
 have HF2 : Hid ((∀ j, j < tm.length -> tmOk n tm j = true) -> zbk n m ⟨tm, at'⟩ = (List.range at'.length).all (ixOk m at')) := fun h => by
  unfold zbk; rw [zhr h]; rfl
 generalize zbk n m ⟨tm, at'⟩ = R at *;clear hx hy hb0 q0;go_enter Tryz.func89, Tryz.ntmps89;go_wp2_with fail;rw [<- hw0];clear hw0;go_wp2_with fail
 go_loopw [7] (fun i wr => ∃ k : Nat, k <= tm.length /\ i = .int .i64 k /\ (∀ j, j < k -> tmOk n tm j = true) /\ wr = w0) (fun i _ => tm.length - (intOf i).toNat)
 case atStart => exact ⟨0, Nat.zero_le _, rfl, fun j h => absurd h (Nat.not_lt_zero _), rfl⟩
 case round =>
  obtain ⟨k, hk, rfl, hno, hwr⟩ := hrel;obtain rfl := hwr;have HN := lh hno;clear hno
  by_cases hlt : k < tm.length
  ·obtain ⟨b1, off1, hae, hc⟩ := HX.out k hlt;have HFK := lh (HF1.out k hlt);have HTK : Hid (tmOk n tm k = ((decide (tm.getD k 0 ≠ 0) && decide (tm.getD k 0 <= n) && decide (-(n : Int) <= tm.getD k 0)) && (List.range k).all fun j => decide (labs (tm.getD j 0) ≠ labs (tm.getD k 0)))) := rfl
   have hki : (k : Int) < (tm.length : Int) := by omega
   generalize tm.getD k 0 = x at hc HTK;subst hae
   by_cases c0 : x = 0
   ·have HR : Hid (R = false) := HFK.out (by rw [HTK.out, c0]; simp);subst c0;go_wp2;go_ret;exact ⟨by rw [HR.out]; rfl, HB0.out⟩
   ·have d0 : (x == 0) = false := by simpa using c0
    by_cases c1 : (n : Int) < x
    ·have HR : Hid (R = false) := HFK.out (by rw [HTK.out, decide_eq_false (show ¬ x <= n by omega)]; simp);clear c0;go_wp2;go_ret;exact ⟨by rw [HR.out]; rfl, HB0.out⟩
    ·have c1' : x <= n := by omega
     have hwr : IntKind.i64.wrap (-(n : Int)) = -(n : Int) := IntWalk.i64_in _ (by omega)
     by_cases c2 : x < -(n : Int)
     ·have HR : Hid (R = false) := HFK.out (by rw [HTK.out, decide_eq_false (show ¬ -(n : Int) <= x by omega)]; simp);clear c0;go_wp2;go_ret;exact ⟨by rw [HR.out]; rfl, HB0.out⟩
     ·have c2' : -(n : Int) <= x := by omega
      have HTK2 : Hid (tmOk n tm k = (List.range k).all fun j => decide (labs (tm.getD j 0) ≠ labs x)) := by
       show _ = _; rw [HTK.out, decide_eq_true c0, decide_eq_true c1', decide_eq_true c2']; rfl
      clear HTK c0;go_wp2_with fail
      go_loopw [9] (fun i wi => ∃ q : Nat, q <= k /\ i = .int .i64 q /\ (∀ j, j < q -> labs (tm.getD j 0) ≠ labs x) /\ wi = wr) (fun i _ => k - (intOf i).toNat)
      case atStart => exact ⟨0, Nat.zero_le _, rfl, fun j h => absurd h (Nat.not_lt_zero _), rfl⟩
      case round =>
       obtain ⟨q, hq, rfl, hno, hwi⟩ := hrel;obtain rfl := hwi;have HN2 := lh hno;clear hno
       by_cases hqk : q < k
       ·obtain ⟨b2, off2, hae2, e0⟩ := HX.out q (by omega);simp only [Option.some.injEq, Addr.mk.injEq, and_true] at hae2;obtain ⟨rfl, rfl⟩ := hae2
        have hqi : (q : Int) < (k : Int) := by omega
        have hql : (q : Int) < (tm.length : Int) := by omega
        have hyb : -(n : Int) <= tm.getD q 0 /\ tm.getD q 0 <= n := by
         have := HN.out q hqk;unfold tmOk at this;simp only [Bool.and_eq_true, decide_eq_true_eq] at this;exact ⟨this.1.2, this.1.1.2⟩
        have HNE : Hid (labs (tm.getD q 0) ≠ labs x -> ∀ j, j < q + 1 -> labs (tm.getD j 0) ≠ labs x) := fun he j hj => by
         by_cases e : j = q
         ·subst e; exact he
         ·exact HN2.out j (by omega)
        have HFE : Hid (labs (tm.getD q 0) = labs x -> R = false) := fun he => HFK.out (by rw [HTK2.out]; exact zds hqk (by simp [<- List.getD_eq_getElem?_getD, he]))
        generalize tm.getD q 0 = y at e0 hyb HNE HFE;obtain ⟨hy1, hy2⟩ := hyb;have HV1 := lh (fun W => ze1 y W (by omega) (by omega));have HV2 := lh (fun W => ze1 x W (by omega) (by omega))
        by_cases he : labs y = labs x
        ·have HR := lh (HFE.out he)
         have hd : (labs y == labs x) = true := by simpa using he
         go_wp2_with fail;refine (HV1.out _).mono ?_;rintro e wq ⟨rfl, hwq⟩;obtain rfl := hwq;go_wp2_with fail;refine (HV2.out _).mono ?_;rintro e wq ⟨rfl, hwq⟩;obtain rfl := hwq;go_wp2;go_ret;exact ⟨by rw [HR.out]; rfl, HB0.out⟩
        ·have HNN := lh (HNE.out he)
         have hd : (labs y == labs x) = false := by simpa using he
         clear he;go_wp2_with fail;refine (HV1.out _).mono ?_;rintro e wq ⟨rfl, hwq⟩;obtain rfl := hwq;go_wp2_with fail;refine (HV2.out _).mono ?_;rintro e wq ⟨rfl, hwq⟩;obtain rfl := hwq;go_wp2;go_roundw
         case rel => exact ⟨q + 1, by omega, by go_num, HNN.out, by first | rfl | trivial⟩
         case measure => simp [intOf]; omega
       ·have hqe : q = k := by omega
        subst hqe
        have HOK : Hid (tmOk n tm q = true) := by show _ = _; rw [HTK2.out]; exact zhr fun j hj => by simpa using HN2.out j hj
        go_wp2;go_roundw
        case rel => exact ⟨q + 1, by omega, by go_num, fun j hj => by
         by_cases e : j = q
         ·subst e; exact HOK.out
         ·exact HN.out j (by omega), by first | rfl | trivial⟩
        case measure => simp [intOf]; omega
  ·have hke : k = tm.length := by omega
   subst hke;have HG := lh (HF2.out HN.out);clear HF1 HF2;go_wp2_with fail
   go_loopw [10] (fun i wi => ∃ q : Nat, q <= at'.length /\ i = .int .i64 q /\ (∀ j, j < q -> ixOk m at' j = true) /\ Below wr.heap.size wr wi) (fun i _ => at'.length - (intOf i).toNat)
   case atStart => exact ⟨0, Nat.zero_le _, rfl, fun j h => absurd h (Nat.not_lt_zero _), Below.refl _ _⟩
   case round =>
    obtain ⟨q, hq, rfl, hno, hbi⟩ := hrel
    rename World => wi
    have HN2 := lh hno;have HBI := lh hbi;have T0 := lh (Q0.out.later hbi);have HY2 := lh (HY.out.keep hbi);have j1 := T0.out.cell 1;have jz := T0.out.lt;have HBW := lh (HB0.out.trans (hbi.mono HB0.out.size));clear hno hbi
    by_cases hqa : q < at'.length
    ·obtain ⟨b1, off1, hae, e0⟩ := HY2.out q hqa;subst hae
     have hqi : (q : Int) < (at'.length : Int) := by omega
     have HNE : Hid (ixOk m at' q = true -> ∀ j, j < q + 1 -> ixOk m at' j = true) := fun he j hj => by
      by_cases e : j = q
      ·subst e; exact he
      ·exact HN2.out j (by omega)
     have HFE : Hid (ixOk m at' q = false -> R = false) := fun he => by rw [HG.out]; exact zds hqa he
     have HIX : Hid (ixOk m at' q = (decide (0 <= at'.getD q 0) && decide (at'.getD q 0 < m) && (decide (q = 0) || decide (at'.getD (q - 1) 0 < at'.getD q 0)))) := rfl;generalize ixOk m at' q = io at *;generalize at'.getD q 0 = x at e0 HIX
     by_cases c1 : x < 0
     ·have HR : Hid (R = false) := HFE.out (by rw [HIX.out, decide_eq_false (show ¬ 0 <= x by omega)]; rfl)
      have d1 : decide (x < 0) = true := by simpa using c1
      go_wp2_with fail
      go_quiet (fail)
      go_wp2;go_ret;exact ⟨by rw [HR.out]; rfl, HBW.out.trans (zad _ _)⟩
     ·have c1' : 0 <= x := by omega
      have d1 : decide (x < 0) = false := by simpa using c1
      by_cases c2 : (m : Int) <= x
      ·have HR : Hid (R = false) := HFE.out (by rw [HIX.out, decide_eq_false (show ¬ x < m by omega)]; simp)
       have d2 : decide ((m : Int) <= x) = true := by simpa using c2
       clear c1 c1';go_wp2_with fail
       go_quiet (fail)
       go_wp2;go_ret;exact ⟨by rw [HR.out]; rfl, HBW.out.trans (zad _ _)⟩
      ·have c2' : x < m := by omega
       have d2 : decide ((m : Int) <= x) = false := by simpa using c2
       by_cases c3 : q = 0
       ·have HNN := lh (HNE.out (by rw [HIX.out, decide_eq_true c1', decide_eq_true c2', decide_eq_true c3]; rfl));subst c3;have e0' : wi.cell? ⟨b1, off1, none⟩ = some (.int .i64 x) := e0
        have hqi' : (0 : Int) < (at'.length : Int) := by simpa using hqi
        clear c1 c1' c2 c2' e0 hqi;go_wp2_with fail
        go_quiet (fail)
        go_wp2;go_roundw
        case rel => exact ⟨1, by omega, by go_num, HNN.out, HBI.out.trans (zad _ _)⟩
        case measure => simp [intOf]; omega
       ·obtain ⟨p, rfl⟩ : ∃ p, q = p + 1 := ⟨q - 1, by omega⟩
        obtain ⟨b2, off2, hae2, e1⟩ := HY2.out p (by omega);simp only [Option.some.injEq, Addr.mk.injEq, and_true] at hae2;obtain ⟨rfl, rfl⟩ := hae2
        have HIX2 : Hid (io = decide (at'.getD p 0 < x)) := by show _ = _; rw [HIX.out, decide_eq_true c1', decide_eq_true c2', decide_eq_false c3]; rfl
        generalize at'.getD p 0 = y at e1 HIX2
        have c3' : (0 : Int) < ((p + 1 : Nat) : Int) := by omega
        have d3 : decide ((0 : Int) < ((p + 1 : Nat) : Int)) = true := by simp
        by_cases c4 : x <= y
        ·have HR : Hid (R = false) := HFE.out (by rw [HIX2.out, decide_eq_false (by omega)])
         have d4 : decide (x <= y) = true := by simpa using c4
         clear c1 c1' c2 c2';go_wp2_with fail
         go_quiet (fail)
         go_wp2;go_ret;exact ⟨by rw [HR.out]; rfl, HBW.out.trans (zad _ _)⟩
        ·have HNN := lh (HNE.out (by rw [HIX2.out, decide_eq_true (by omega)]))
         have d4 : decide (x <= y) = false := by simpa using c4
         clear c1 c1' c2 c2';go_wp2_with fail
         go_quiet (fail)
         go_wp2;go_roundw
         case rel => exact ⟨p + 1 + 1, by omega, by go_num, HNN.out, HBI.out.trans (zad _ _)⟩
         case measure => simp [intOf]; omega
    ·have hqe : q = at'.length := by omega
     subst hqe
     have HR : Hid (R = true) := by show _ = _; rw [HG.out]; exact zhr HN2.out
     go_wp2;go_ret;exact ⟨by rw [HR.out]; rfl, HBW.out⟩
end Go.Proofs.YtkaojolofaanfaaGreatDoor
