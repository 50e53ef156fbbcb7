/- Part of the proofs that laws of censuslaw24 return true for every input, where the tables that the rows list are laid. Texts: Eh, R20T, Ei. -/
import Derived.Test.YtfmmhjphopikgaaGreatDoorYC31
import Derived.Test.YtfmmhjphopikgaaGreatDoorYC4
import Derived.Test.YtfmmhjphopikgaaGreatDoorYC7
import Derived.Test.YtfmmhjphopikgaaGreatDoorYC5
import Derived.Deep.DeepCutAuto
import Derived.Test.YtfmmhjphopikgaaGreatDoorYC30
import Derived.Deep.RegionHeld3
import Derived.RangeFuncNested
import Derived.RangeFuncBound
import Derived.RangeFuncCalls
import Derived.RangeFuncLeaves
import Derived.Shelf.Abstract
import Derived.Shelf.RegionOpen
import Derived.WalkKit
import Derived.OwnWalkIn
import Derived.TacticsInMore
import Derived.LoopNIn
import Derived.LoopIn
import Derived.Test.YtfmmhjphopikgaaGreatDoorYC6
import Derived.Lib.TrailingZeros
import Derived.Laws.Bits64b
import Derived.Test.YtfmmhjphopikgaaGreatDoorYC1
set_option maxHeartbeats 8000000
set_option maxRecDepth 100000
set_option linter.unusedSimpArgs false
set_option linter.unusedVariables false
namespace Go.Proofs.YtfmmhjphopikgaaGreatDoor
open Go.RowKit Cen
theorem zse (a : Option Addr) (cap : Nat) (l : Cl) (n : Int) (w : World) (hn0 : 0 <= n) (hn1 : n <= 128) (hl : l.length <= 1073741824) (hx : IntCells w a l) :
 Calls Tryz.prog 83 #[.slice a l.length cap, .int .i64 n] w fun e w' => e = .returned (.bool (l.all fun x => zas x n && !l.contains (-x))) /\ w = w' := by
 have HX := lh hx
 have HM : Hid (∀ k, k < l.length -> (zas (l.getD k 0) n && !inL l (-(l.getD k 0))) = false -> (l.all fun x => zas x n && !l.contains (-x)) = false) := fun k hk h => by
  rw [Bool.eq_false_iff];intro hc;have := List.all_eq_true.1 hc _ (zbd hk);rw [show (zas (l.getD k 0) n && !l.contains (-(l.getD k 0))) = false from h] at this;simp at this
 have HAL : Hid ((∀ j, j < l.length -> (zas (l.getD j 0) n && !inL l (-(l.getD j 0))) = true) -> (l.all fun x => zas x n && !l.contains (-x)) = true) := fun h => by
  rw [List.all_eq_true];intro x hx;obtain ⟨j, hj, rfl⟩ := List.getElem_of_mem hx;have := h j hj
  simpa [List.getD_eq_getElem?_getD, hj, inL] using this
 clear hx;generalize (l.all fun x => zas x n && !l.contains (-x)) = R at *;go_enter Tryz.func83, Tryz.ntmps83;go_wp2
 go_loop [5] (fun i => ∃ k : Nat, k <= l.length /\ i = .int .i64 k /\ ∀ j, j < k -> (zas (l.getD j 0) n && !inL l (-(l.getD j 0))) = true) (fun i => l.length - (intOf i).toNat)
 case atStart => exact ⟨0, Nat.zero_le _, rfl, fun j h => absurd h (Nat.not_lt_zero _)⟩
 obtain ⟨k, hk, rfl, hno⟩ := hrel;have HN := lh hno;clear hno
 by_cases hlt : k < l.length
 ·obtain ⟨b, off, rfl, hc⟩ := HX.o k hlt;have HMK := lh (HM.o k hlt)
  have HNX : Hid ((zas (l.getD k 0) n && !inL l (-(l.getD k 0))) = true -> ∀ j, j < k + 1 -> (zas (l.getD j 0) n && !inL l (-(l.getD j 0))) = true) := fun he j hj => by
   by_cases e : j = k
   ·subst e; exact he
   exact HN.o j (by omega)
  generalize l.getD k 0 = y at hc HMK HNX
  cases hv : zas y n with
  | false =>
    have HV := lh (fun W => zfk y n W hn0 hn1);rw [hv] at HV;have HR : Hid (R = false) := HMK.o (by rw [hv]; rfl);clear hv;go_wp2_with fail;refine (HV.o _).mono ?_;rintro e wq ⟨rfl, hwq⟩;obtain rfl := hwq;go_wp2;go_ret;exact ⟨by rw [HR.o]; rfl, rfl⟩
  | true =>
    have HV := lh (fun W => zfk y n W hn0 hn1);rw [hv] at HV
    have hyb : -128 <= y /\ y <= 128 := by
     simp only [zas, Bool.and_eq_true, decide_eq_true_eq] at hv;have := zc3 hv.1;omega
    obtain ⟨hy1, hy2⟩ := hyb;have hwr : IntKind.i64.wrap (-y) = -y := IntWalk.i64_in _ (by omega);have HCT := lh (fun W (hW : IntCells W (some ⟨b, off, none⟩) l) => zcs (some ⟨b, off, none⟩) cap l (-y) W hl hW)
    cases hm : inL l (-y) with
    | true =>
      rw [hm] at HCT;have HR : Hid (R = false) := HMK.o (by rw [hv, hm]; rfl);clear hv hm;go_wp2_with fail;refine (HV.o _).mono ?_;rintro e wq ⟨rfl, hwq⟩;obtain rfl := hwq;go_wp2_with fail;refine (HCT.o _ HX.o).mono ?_;rintro e wq ⟨rfl, hwq⟩;obtain rfl := hwq;go_wp2;go_ret;exact ⟨by rw [HR.o]; rfl, rfl⟩
    | false =>
      rw [hm] at HCT;have HNN := lh (HNX.o (by rw [hv, hm]; rfl));clear hv hm;go_wp2_with fail;refine (HV.o _).mono ?_;rintro e wq ⟨rfl, hwq⟩;obtain rfl := hwq;go_wp2_with fail;refine (HCT.o _ HX.o).mono ?_;rintro e wq ⟨rfl, hwq⟩;obtain rfl := hwq;go_wp2;go_round
      case rel => exact ⟨k + 1, by omega, by go_num, HNN.o⟩
      case measure => simp [intOf]; omega
 have hke : k = l.length := by omega
 subst hke;have HR : Hid (R = true) := HAL.o HN.o;go_wp2;go_ret;exact ⟨by rw [HR.o]; rfl, rfl⟩
def GVR (n : Nat) (term : Cl) (t : List Cl) (a : Option Addr) (cap : Nat) (w : World) (ob : Nat) (wr : World) (i : Value) : Prop :=
 ∃ (k : Nat) (L : List Sl) (oa : Option Addr) (oc : Nat), k <= t.length /\ i = .int .i64 (k : Int) /\ Below w.heap.size w wr /\ Blk wr w.heap.size #[.int .i64 n, .slice a t.length cap] 24 /\ Blk wr (w.heap.size + 1) #[.int .i64 0, .slice none 0 0] 24 /\
  Blk wr ob #[.int .i64 n, .slice oa L.length oc] 24 /\ OwnS (fun k => ob < k) wr (ob + 1) (.slice oa L.length oc) L /\ (L.map fun e => e.xs) = givT term (t.take k)
def GVI (term : Cl) (c : Cl) (wr wi : World) (cv is i : Value) : Prop :=
 ∃ (q : Nat) (ys : Cl) (ca : Option Addr) (cc : Nat) (bs : Bool), q <= c.length /\ i = .int .i64 (q : Int) /\ is = .bool bs /\ cv = .slice ca ys.length cc /\ bs = (c.take q).any (inL term) /\ ys = (c.take q).filter (fun y => !inL term (-y)) /\
  OwnInts wi wr.heap.size (.slice ca ys.length cc) ys /\ Below wr.heap.size wr wi
def zqf (n : Nat) (r : List Cl) (w : World) (e : Ending) (w' : World) : Prop :=
 ∃ a' c', e = .returned (.tuple #[.agg #[.int .i64 n, .slice a' r.length c'], .int .i64 0]) /\ LsIn (fun k => w.heap.size <= k) w' a' r /\ Below w.heap.size w w'
theorem zmc (n : Nat) (hn : n <= 128) (a : Option Addr) (cap : Nat) (t : List Cl) (b : Option Addr) (cap2 : Nat) (term : Cl) (w : World) (ht : tOk n t) (hT : zp9 n term = true) (htl : term.length <= 1073741824) (hx : LsCells w a t) (hy : IntCells w b term) :
 Calls Tryz.prog 40 #[.agg #[.int .i64 n, .slice a t.length cap], .slice b term.length cap2] w (zqf n (givT term t) w) := by
 obtain ⟨w0, hw0⟩ : ∃ w0, w0 = (w.alloc (.cells #[.int .i64 n, .slice a t.length cap] 24)).alloc (.cells #[.int .i64 0, .slice none 0 0] 24) := ⟨_, rfl⟩
 have hb0 : Below w.heap.size w w0 := by rw [hw0]; exact ((Below.refl _ _).alloc (Nat.le_refl _) _).alloc (by simp) _
 have q0 : Blk w0 w.heap.size #[.int .i64 n, .slice a t.length cap] 24 := by rw [hw0]; exact (Blk.new w _ _).alloc _
 have q1 : Blk w0 (w.heap.size + 1) #[.int .i64 0, .slice none 0 0] 24 := by rw [hw0]; exact Blk.new' _ (by simp) _ _
 have hcz := (zbu hn).2 ht;have htle := ht.len;have HC := lh (zby n a cap t w0 (by omega) (fun c hc => by have := (ht.cl c hc).1; omega) (hx.keep hb0));rw [hcz] at HC;have HB0 := lh hb0;have Q0 := lh q0;have Q1 := lh q1;have HX := lh hx;have HY := lh hy;have HT := lh ht;have HN := lh hn
 have HTB : Hid (∀ W, IntCells W b term -> Calls Tryz.prog 83 #[.slice b term.length cap2, .int .i64 n] W fun e w' => e = .returned (.bool true) /\ W = w') := fun W hW => by
  have := zse b cap2 term n W (by omega) (by omega) htl hW;unfold zp9 at hT
  rwa [hT] at this
 have HCT : Hid (∀ x W, IntCells W b term -> Calls Tryz.prog 84 #[.slice b term.length cap2, .int .i64 x] W fun e w' => e = .returned (.bool (inL term x)) /\ W = w') := fun x W hW => zcs b cap2 term x W htl hW
 clear hx hy hb0 q0 q1 hcz ht hn hT;go_enter Tryz.func40, Tryz.ntmps40;go_wp2_with fail;rw [<- hw0];refine HC.o.mono ?_;rintro e w1 ⟨rfl, hb1⟩;have R0 := lh (Q0.o.later hb1);have R1 := lh (Q1.o.later hb1);have HB1 := lh (HB0.o.trans (hb1.mono HB0.o.size));have c0 := R0.o.cell 0;have c1 := R0.o.cell 1;have s1 : w.heap.size + 1 < w1.heap.size := R1.o.lt
 have s0 : w.heap.size < w1.heap.size := by omega
 clear hb1 hw0;go_wp2_with fail;refine (HTB.o _ (HY.o.keep HB1.o)).mono ?_;rintro e wq ⟨rfl, hwq⟩;obtain rfl := hwq
 obtain ⟨ob, hob⟩ : ∃ ob, ob = w1.heap.size := ⟨_, rfl⟩
 have HIN : Hid (GVR n term t a cap w w1.heap.size (w1.alloc (.cells #[.int .i64 n, .slice none 0 0] 24)) (.int .i64 0)) :=
  ⟨0, [], none, 0, Nat.zero_le _, rfl, HB1.o.alloc (Nat.le_of_lt s0) _, R0.o.alloc _, R1.o.alloc _, Blk.new _ _ _, OwnS.nil _ _ _, rfl⟩
 rw [<- hob] at HIN;have HOB := lh hob;go_wp2_with fail;rw [<- hob];clear hob
 go_loopw [8] (fun i wr => GVR n term t a cap w ob wr i) (fun i _ => t.length - (intOf i).toNat)
 case atStart => exact HIN.o
 obtain ⟨k, L, oa, oc, hk, rfl, hb, p0, p1, p2, hO, hLX⟩ := hrel;have HB := lh hb;have P0 := lh p0;have P1 := lh p1;have P2 := lh p2;have HO := lh hO;have HLX := lh hLX;have HXR := lh (HX.o.keep hb);have HYR := lh (HY.o.keep hb);have k0 := p0.cell 0;have k1 := p0.cell 1;have z0 := p0.lt;have z1 := p1.lt;have z2 := p2.lt;have HZ : Hid (w.heap.size <= wr.heap.size) := hb.size
 have HOBW : Hid (w.heap.size + 1 < ob) := by rw [HOB.o]; exact s1
 clear hb hO hLX
 by_cases hlt : k < t.length
 ·obtain ⟨b1, off1, ai, ci, rfl, hc1, hi⟩ := HXR.o k hlt
  have hmem : t.getD k [] ∈ t := by rw [List.getD_eq_getElem?_getD, List.getElem?_eq_getElem hlt]; exact List.getElem_mem hlt
  obtain ⟨hcl, hcr⟩ := HT.o.cl _ hmem;have HKN : Hid (givT term (t.take (k + 1)) = if ((t.getD k []).any (inL term)) = true then givT term (t.take k) else givT term (t.take k) ++ [(t.getD k []).filter fun y => !inL term (-y)]) := zq5 term hlt
  have hki : (k : Int) < (t.length : Int) := by omega
  have HI := lh hi
  have HLL : Hid (L.length <= 4096) := by
   show _ <= _
   have h1 := congrArg List.length HLX.o;rw [List.length_map] at h1;have h2 := zdx term (t.take k);rw [List.length_take] at h2;omega
  generalize t.getD k [] = c at *;have HCR := lh hcr;clear hmem hcr hi;go_wp2_with fail
  go_loopw [9, 10, 11] (fun cv is i wi => GVI term c wr wi cv is i) (fun _ _ i _ => c.length - (intOf i).toNat)
  case atStart => exact ⟨0, [], none, 0, false, Nat.zero_le _, rfl, rfl, rfl, rfl, rfl, OwnInts.nil _ _, Below.refl _ _⟩
  obtain ⟨q, ys, ca, cc, bs, hq, rfl, rfl, rfl, hbs, hys, hown, hbi⟩ := hrel
  rename World => wi
  have HBS := lh hbs;have HYS := lh hys;have HOW := lh hown;have HBI := lh hbi;have T0 := lh (P0.o.later hbi);have m1 := T0.o.cell 1;have hc2 := zaa hbi hc1;have HI2 := lh (HI.o.keep hbi);have HY2 := lh (HYR.o.keep hbi);have y0 : w.heap.size < wi.heap.size := T0.o.lt;have HZI : Hid (wr.heap.size <= wi.heap.size) := hbi.size
  have hyl : ys.length <= 128 := by
   rw [hys];refine Nat.le_trans (List.length_filter_le _ _) ?_;rw [List.length_take]; omega
  clear hbs hys hown hbi
  by_cases hqc : q < c.length
  ·obtain ⟨b2, off2, rfl, e0⟩ := HI2.o q hqc
   have hqi : (q : Int) < (c.length : Int) := by omega
   have hyn := HCR.o _ (zbd hqc);have HAN := lh (zoa (inL term) 0 hqc);have HFN := lh (zng (fun y => !inL term (-y)) 0 hqc);generalize c.getD q 0 = y at *
   have hy1 : -128 <= y := by have := hyn.2.1; have := HN.o; omega
   have hy2 : y <= 128 := by have := hyn.2.2; have := HN.o; omega
   have hwr : IntKind.i64.wrap (-y) = -y := IntWalk.i64_in _ (by omega);clear hyn
   cases bs
   case' false =>
    go_wp2_with fail;refine (HCT.o y _ HY2.o).mono ?_;rintro e wq ⟨rfl, hwq⟩;obtain rfl := hwq
   all_goals
    have HCN := lh (HCT.o (-y) wi HY2.o)
    cases hm : inL term (-y) with
    | true =>
      rw [hm] at HCN
      have HFE : Hid ((c.take (q + 1)).filter (fun y => !inL term (-y)) = ys) := by show _ = _; rw [HFN.o, HYS.o]; simp [hm]
      clear hm;go_wp2_with fail;refine HCN.o.mono ?_;rintro e wq ⟨rfl, hwq⟩;obtain rfl := hwq;go_wp2;go_roundw
      case rel => exact ⟨q + 1, ys, ca, cc, _, by omega, by go_num, rfl, rfl, by rw [HAN.o, <- HBS.o]; first | rfl | simp, HFE.o.symm, HOW.o, HBI.o⟩
      case measure => simp [intOf]; omega
    | false =>
      rw [hm] at HCN
      have HFE : Hid ((c.take (q + 1)).filter (fun y => !inL term (-y)) = ys ++ [y]) := by show _ = _; rw [HFN.o, HYS.o]; simp [hm]
      clear hm;go_wp2_with fail;refine HCN.o.mono ?_;rintro e wq ⟨rfl, hwq⟩;obtain rfl := hwq;go_wp2_with (at_builtin; refine zhs rfl _ _ rfl wr.heap.size (.slice ca ys.length cc) ys y rfl HOW.o rfl (by omega) HZI.o ?_);intro v2 w2 hown2 hgrow2 _;have HB2 : Hid (Below wr.heap.size wr w2) := HBI.o.grown hgrow2 HZI.o (fun q hq => (HOW.o.lt q hq).1);obtain ⟨av, cv2, hv2, hcells, _⟩ := hown2.cells;subst hv2;have HO2 := lh hown2;clear hown2 hgrow2 hcells;go_wp2;go_roundw
      case rel => exact ⟨q + 1, ys ++ [y], av, cv2, _, by omega, by go_num, rfl, rfl, by rw [HAN.o, <- HBS.o]; first | rfl | simp, HFE.o.symm, HO2.o, HB2.o⟩
      case measure => simp [intOf]; omega
  have hqe : q = c.length := by omega
  subst hqe;rw [List.take_length] at HBS HYS;have HBW := lh (HB.o.trans (HBI.o.mono HZ.o));have T1 := lh (P1.o.later HBI.o);have T2 := lh (P2.o.later HBI.o);have HO2 := lh (HO.o.later HBI.o);have n1 := T2.o.cell 1;have nf := T2.o.fr 1;have nz := T2.o.lt
  cases bs with
  | true =>
    have HKE : Hid (givT term (t.take (k + 1)) = L.map fun e => e.xs) := by show _ = _; rw [HKN.o, <- HBS.o, HLX.o]; rfl
    go_wp2;go_roundw
    case rel => exact ⟨k + 1, L, oa, oc, by omega, by go_num, HBW.o, T0.o, T1.o, T2.o, HO2.o, HKE.o.symm⟩
    case measure => simp [intOf]; omega
  | false =>
    have HKE : Hid (givT term (t.take (k + 1)) = (L ++ [(⟨ca, cc, ys⟩ : Sl)]).map fun e => e.xs) := by show _ = _; rw [HKN.o, <- HBS.o, <- HYS.o, List.map_append, HLX.o]; rfl
    have HEI : Hid (IntIn (fun k => ob < k /\ ¬ (Value.slice oa L.length oc).ownBlock = some k) wi ca ys) := by
     obtain ⟨_, h1⟩ := IntIn.own HOW.o
     exact h1.mono fun k _ hk => ⟨by omega, fun e => by have := (World.ownsRow.lt HO.o.own k e).2; omega⟩
    have HZ2 : Hid (ob + 1 <= wi.heap.size) := nz;go_wp2_with (at_builtin; go_loud (refine zjf (C := #[.slice ca ys.length cc]) zd5 rfl _ _ rfl (ob + 1) (.slice oa L.length oc) L ⟨ca, cc, ys⟩ rfl HO2.o.own rfl rfl rfl (zcp _) (by have := HLL.o; omega) (by decide) HZ2.o ?_));intro g5 cap5 w5 ho5 hg5 hgn5;have hO5 := HO2.o.push HEI.o ho5 hg5 hgn5
    have hk5 : Kp (fun k => (Value.slice oa L.length oc).ownBlock = some k) wi w5 := Kp.grown hg5 fun k h => h
    have hlo : ∀ k, (Value.slice oa L.length oc).ownBlock = some k -> ob + 1 <= k := fun k e => (World.ownsRow.lt HO2.o.own k e).1
    have V0 := T0.o.kept hk5 fun e => by have := hlo _ e; have := HOBW.o; omega
    have V1 := T1.o.kept hk5 fun e => by have := hlo _ e; have := HOBW.o; omega
    have V2 := T2.o.kept hk5 fun e => by have := hlo _ e; omega
    have hB5 : Below w.heap.size w w5 := HBW.o.grown hg5 (by have := HZ.o; have := HZI.o; omega) (fun q hq => by have := hlo _ hq; have := HOBW.o; omega);have hks : Kp (fun y => y = ob) w5 (w5.setCell ⟨ob, 1, none⟩ (.slice (some ⟨g5, 0, none⟩) (L.length + 1) cap5)) := Kp.setCell _ _ _ rfl;have r1 := V2.cell 1;have rf := V2.fr 1;have rz := V2.lt
    have hg5' : ob + 1 <= g5 := by
     rcases hgn5 with h | h
     ·exact hlo _ h
     have := HZ2.o; omega
    have HF : Hid (GVR n term t (some ⟨b1, off1, none⟩) cap w ob (w5.setCell ⟨ob, 1, none⟩ (.slice (some ⟨g5, 0, none⟩) (L.length + 1) cap5)) (.int .i64 ((k : Int) + 1))) :=
     ⟨k + 1, L ++ [⟨ca, cc, ys⟩], some ⟨g5, 0, none⟩, cap5, by omega, by go_num, hB5.setCell (by have := HOBW.o; show w.heap.size <= ob; omega) _, V0.kept hks (by have := HOBW.o; omega), V1.kept hks (by have := HOBW.o; omega),
       by rw [List.length_append]; exact V2.set 1 _, hO5.kept hks (fun k hk => by omega) (fun k hk => by simp [Value.ownBlock] at hk; omega), HKE.o.symm⟩
    clear ho5 hg5 hgn5 hO5 hk5 hlo V0 V1 V2 hB5 hks hg5';go_wp2;go_roundw
    case rel => exact HF.o
    case measure => simp [intOf]; omega
 have hke : k = t.length := by omega
 subst hke
 have HE : Hid (givT term t = L.map fun e => e.xs) := by show _ = _; rw [HLX.o, List.take_length]
 have l0 := p2.cell 0;have l1 := p2.cell 1;have m0 := p1.cell 0;have m1 := p1.cell 1;have fr0 := p1.fr 0;have fr1 := p1.fr 1
 have hbo : w.heap.size + 1 ≠ ob := by have := HOBW.o; omega
 have HLF : Hid (LsIn (fun k => w.heap.size <= k) ((wr.setCell ⟨w.heap.size + 1, 0, none⟩ (.int .i64 n)).setCell ⟨w.heap.size + 1, 1, none⟩ (.slice oa L.length oc)) oa (givT term t)) := by
  have h1 := (HO.o.ls fun k hk => hk).2;rw [<- HE.o] at h1
  exact ((h1.kept (M := fun y => y = w.heap.size + 1) (Kp.trans (M := fun y => y = w.heap.size + 1) (Kp.setCell wr ⟨w.heap.size + 1, 0, none⟩ (.int .i64 n) rfl) (Kp.setCell _ ⟨w.heap.size + 1, 1, none⟩ (.slice oa L.length oc) rfl)) (fun k hk => by have := HOBW.o; omega))).mono fun k _ hk => by have := HOBW.o; omega
 have HLE : Hid ((givT term t).length = L.length) := by show _ = _; rw [HE.o, List.length_map]
 clear p0 p1 p2;go_wp2;exact bodyPost_ret (v := .tuple #[.agg #[.int .i64 n, .slice oa L.length oc], .int .i64 0]) (by simp [results, Tryz.results40, go_sem, z1, m0, m1]) rfl ⟨oa, oc, by rw [HLE.o], HLF.o, (HB.o.setCell (Nat.le_succ _) _).setCell (Nat.le_succ _) _⟩
def acc (s f : Int -> Bool) (x : Nd) (m : Nat) : Bool := evNd s f ⟨x.kind, x.lit, x.ins.take m⟩
theorem zvs {s f : Int -> Bool} {x : Nd} {m : Nat} (hm : m < x.ins.length) (h : x.kind = 3) : acc s f x (m + 1) = (acc s f x m && f x.ins[m]) := by
 unfold acc evNd; simp only; rw [if_neg (by omega), if_neg (by omega), if_pos h, if_neg (by omega), if_neg (by omega), if_pos h, List.take_succ_eq_append_getElem hm, List.all_append]; simp
theorem zw3 {s f : Int -> Bool} {x : Nd} {m : Nat} (hm : m < x.ins.length) (h : x.kind = 4) : acc s f x (m + 1) = (acc s f x m || f x.ins[m]) := by
 unfold acc evNd; simp only;rw [if_neg (by omega), if_neg (by omega), if_neg (by omega), if_pos h, if_neg (by omega), if_neg (by omega), if_neg (by omega), if_pos h, List.take_succ_eq_append_getElem hm, List.any_append]; simp
theorem zvt (s f : Int -> Bool) (x : Nd) : acc s f x x.ins.length = evNd s f x := by unfold acc; rw [List.take_length]
theorem zsp {s f : Int -> Bool} {x : Nd} : acc s f x 0 = if x.kind = 1 then true else if x.kind = 2 then zbw s x.lit else decide (x.kind = 3) := by
 unfold acc evNd; simp only [List.take_zero]
 by_cases h1 : x.kind = 1
 ·simp [h1]
 by_cases h2 : x.kind = 2
 ·simp [h2]
 by_cases h3 : x.kind = 3
 ·simp [h3]
 simp [h1, h2, h3]
theorem ztp {x : Nd} {n b : Int} (h : ndOk x n b = true) (hi : x.ins ≠ []) : x.kind = 3 \/ x.kind = 4 := by
 have hk := zid h;simp only [ndOk, Bool.and_eq_true] at h;have h2 := h.2;unfold zcr at h2
 by_cases h0 : x.kind = 0 \/ x.kind = 1
 ·rw [if_pos h0] at h2; simp at h2; exact absurd h2.2 hi
 rw [if_neg h0] at h2
 by_cases h3 : x.kind = 2
 ·rw [if_pos h3] at h2; simp at h2; exact absurd h2.2 hi
 omega
theorem zp0 (n : Int) (a : Option Addr) (cap : Nat) (l : List Nd) (s : St) (w : World) (hok : zdi ⟨n, l⟩ = true) (hx : NdCells w a l) (hs : s.ok) :
 Calls Tryz.prog 69 #[.agg #[.int .i64 n, .slice a l.length cap], stv s] w fun e w' => ∃ g cap', e = .returned (.slice (some ⟨g, 0, none⟩) l.length cap') /\ OwnL bc 4 1 w' w.heap.size (.slice (some ⟨g, 0, none⟩) l.length cap') (zc7 s.mem l) /\ Below w.heap.size w w' := by
 have hb0 : Below w.heap.size w ((w.alloc (.cells #[.int .i64 n, .slice a l.length cap] 33)).alloc (.cells #[.int .u64 (s.a : Int), .int .u64 (s.b : Int)] 56)) := ((Below.refl _ _).alloc (Nat.le_refl _) _).alloc (by simp) _;have HB0 := lh hb0;have HX := lh hx;have q0 := lh ((Blk.new w #[.int .i64 n, .slice a l.length cap] 33).alloc (.cells #[.int .u64 (s.a : Int), .int .u64 (s.b : Int)] 56));have q1 := lh (Blk.new' (w.alloc (.cells #[.int .i64 n, .slice a l.length cap] 33)) (World.size_alloc _ _) #[.int .u64 (s.a : Int), .int .u64 (s.b : Int)] 56);have HK := lh hok;have HS := lh hs;obtain ⟨_, _, hl1, hl2⟩ := zcv hok
 simp only at hl1 hl2;have HL1 := lh hl1
 have HZ0 : Hid (((w.alloc (.cells #[.int .i64 n, .slice a l.length cap] 33)).alloc (.cells #[.int .u64 (s.a : Int), .int .u64 (s.b : Int)] 56)).heap.size = w.heap.size + 2) := by show _ = _; simp
 clear hb0 hx hok hs hl1;go_enter Tryz.func69, Tryz.ntmps69;go_wp2;generalize (w.alloc (.cells #[.int .i64 n, .slice a l.length cap] 33)).alloc (.cells #[.int .u64 (s.a : Int), .int .u64 (s.b : Int)] 56) = W at *
 go_loopw [5, 6] (fun v i wr => ∃ k : Nat, k <= l.length /\ i = .int .i64 k /\ OwnL bc 4 1 wr (w.heap.size + 2) v (zc7 s.mem (l.take k)) /\ Below (w.heap.size + 2) W wr) (fun _ i _ => l.length - (intOf i).toNat)
 case atStart => exact ⟨0, Nat.zero_le _, rfl, OwnL.nil _ _, Below.refl _ _⟩
 obtain ⟨k, hk, rfl, hown, hb⟩ := hrel;obtain ⟨ao, capv, rfl⟩ := hown.sliced;have HO := lh hown;have HBW := lh hb;have HBA := lh (HB0.o.trans (hb.mono (by omega)));have Q0 := lh (q0.out.laterB hb (by omega));have Q1 := lh (q1.out.laterB hb (by omega));have k0 : wr.cell? ⟨w.heap.size, 0, none⟩ = some (.int .i64 n) := Q0.o.cell 0;have k1 : wr.cell? ⟨w.heap.size, 1, none⟩ = some (.slice a l.length cap) := Q0.o.cell 1;have hzw : w.heap.size + 1 < wr.heap.size := Q1.o.lt
 have htl : (zc7 s.mem (l.take k)).length = k := by rw [zcl, List.length_take]; omega
 clear hown hb
 by_cases hlt : k < l.length
 ·obtain ⟨b, off, rfl, c0', c1', av, cv, c2', hin, hil⟩ := HX.o k hlt
  have hgd : l.getD k default = l[k] := by simp [List.getD_eq_getElem?_getD, hlt]
  rw [hgd] at c0' c1' c2' hin hil;have hbw : b < w.heap.size := zak c0';have c0 := HBA.o.cell (p := ⟨b, off + k * 3, none⟩) hbw;have c1 := HBA.o.cell (p := ⟨b, off + k * 3 + 1, none⟩) hbw;have c2 := HBA.o.cell (p := ⟨b, off + k * 3 + 2, none⟩) hbw;rw [c0'] at c0;rw [c1'] at c1;rw [c2'] at c2;have HNK := lh (ztz HK.o hlt)
  have HTS : Hid (zc7 s.mem (l.take (k + 1)) = zc7 s.mem (l.take k) ++ [evNd s.mem (at' (zc7 s.mem (l.take k))) l[k]]) := by
   show _ = _; rw [List.take_succ_eq_append_getElem hlt, zkp]
  simp only at HNK;generalize l[k] = x at *;generalize zc7 s.mem (l.take k) = vs at *;have HTL := lh htl;have HIN := lh hin;have hbz : b < wr.heap.size := zak c0;have HA0 := lh (zsp (s := s.mem) (f := at' vs) (x := x));have HAE := lh (zvt s.mem (at' vs) x);have HBLK := lh (Blk.new wr #[.int .i64 x.kind, .int .i64 x.lit, .slice av x.ins.length cv] 48);clear hin hgd htl c0' c1' c2'
  rcases x with ⟨kd, lt, ins⟩
  simp only at *
  go_upto_region 6 with fail
  go_cut [8] (fun c wx => c = .bool (acc s.mem (at' vs) ⟨kd, lt, ins⟩ 0) /\ Below wr.heap.size wr wx /\ Blk wx wr.heap.size #[.int .i64 kd, .int .i64 lt, .slice av ins.length cv] 48)
  case first =>
   have hk5 := zid HNK.o;simp only at hk5;have s0 : (wr.alloc (.cells #[.int .i64 kd, .int .i64 lt, .slice av ins.length cv] 48)).cell? ⟨w.heap.size + 1, 0, none⟩ = some (.int .u64 (s.a : Int)) := (Q1.o.alloc _).cell 0;have s1 : (wr.alloc (.cells #[.int .i64 kd, .int .i64 lt, .slice av ins.length cv] 48)).cell? ⟨w.heap.size + 1, 1, none⟩ = some (.int .u64 (s.b : Int)) := (Q1.o.alloc _).cell 1;have HB6 := lh ((Below.refl wr.heap.size wr).alloc (Nat.le_refl _) (.cells #[.int .i64 kd, .int .i64 lt, .slice av ins.length cv] 48))
   rcases hk5 with rfl | rfl | rfl | rfl | rfl
   ·go_wp2_with fail
    go_meet
    exact ⟨by rw [HA0.o]; rfl, HB6.o, HBLK.o⟩
   ·go_wp2_with fail
    go_meet
    exact ⟨by rw [HA0.o]; rfl, HB6.o, HBLK.o⟩
   ·have HH := lh (fun V => zpz s lt V HS.o);go_wp2_with fail;refine (HH.o _).mono ?_;rintro e w5 ⟨rfl, hb5⟩;have HB7 := lh (HB6.o.trans (hb5.mono HB6.o.size));have HK7 := lh (HBLK.o.later hb5);clear hb5;go_wp2_with fail
    go_meet
    exact ⟨by rw [HA0.o]; rfl, HB7.o, HK7.o⟩
   ·go_wp2_with fail
    go_meet
    exact ⟨by rw [HA0.o]; rfl, HB6.o, HBLK.o⟩
   go_wp2_with fail
   go_meet
   exact ⟨by rw [HA0.o]; rfl, HB6.o, HBLK.o⟩
  obtain ⟨rfl, hbc, hkc⟩ := hcut
  obtain ⟨wx, rfl⟩ : ∃ wx : World, wx = wc := ⟨_, rfl⟩
  have HBX := lh hbc;have HBXA := lh (HBA.o.trans (hbc.mono HBA.o.size));have HBXW := lh (HBW.o.trans (hbc.mono (by have := Q1.o.lt; omega)));have HOX := lh (HO.o.later hbc);have d0 : wx.cell? ⟨wr.heap.size, 0, none⟩ = some (.int .i64 kd) := hkc.cell 0;have d2 : wx.cell? ⟨wr.heap.size, 2, none⟩ = some (.slice av ins.length cv) := hkc.cell 2;have HZX := lh HBX.o.size;clear hbc hkc k0 k1 c0 c1 c2;go_wp2_with fail
  go_loop [8, 9] (fun c i => ∃ m : Nat, m <= ins.length /\ i = .int .i64 m /\ c = .bool (acc s.mem (at' vs) ⟨kd, lt, ins⟩ m)) (fun _ i => ins.length - (intOf i).toNat)
  case atStart => exact ⟨0, Nat.zero_le _, rfl, rfl⟩
  obtain ⟨m, hm, rfl, rfl⟩ := hrel
  by_cases hlm : m < ins.length
  ·obtain ⟨b2, off2, rfl, e0'⟩ := HIN.o m hlm
   have hgd : ins.getD m 0 = ins[m] := by simp [List.getD_eq_getElem?_getD, hlm]
   have hq := zty HNK.o ins[m] (List.getElem_mem hlm);have hkk := ztp HNK.o (show ins ≠ [] from fun e => by rw [e] at hlm; simp at hlm)
   have hand := fun h => zvs (s := s.mem) (f := at' vs) (x := ⟨kd, lt, ins⟩) (m := m) hlm h
   have hor := fun h => zw3 (s := s.mem) (f := at' vs) (x := ⟨kd, lt, ins⟩) (m := m) hlm h
   simp only at hkk hand hor;rw [hgd] at e0';generalize ins[m] = y at *;have hb2w : b2 < w.heap.size := zak e0';have e0 := HBXA.o.cell (p := ⟨b2, off2 + m, none⟩) hb2w;rw [e0'] at e0;obtain ⟨q, rfl⟩ := Int.eq_ofNat_of_zero_le hq.1
   have hqk : q < vs.length := by have := HTL.o; omega
   have hyv : at' vs (q : Int) = vs[q] := by unfold at'; simp [List.getD_eq_getElem?_getD, hqk]
   rw [hyv] at hand hor
   obtain ⟨g, rfl⟩ : ∃ g, ao = some ⟨g, 0, none⟩ := by
    rcases HOX.o.shape with ⟨_, h⟩ | ⟨g, cap'', h, _⟩
    ·rw [h] at hqk; simp at hqk
    simp only [Value.slice.injEq] at h; exact ⟨g, h.1⟩
   have f0 : wx.cell? ⟨g, q, none⟩ = some (.bool vs[q]) := by have := HOX.o.cell rfl zht q 0 hqk (by omega); simpa [bc] using this
   have hqi : (q : Int) < (vs.length : Int) := by have := hq.2; omega
   have HAND := lh hand;have HOR := lh hor;generalize vs[q] = d at *;generalize hcm : acc s.mem (at' vs) ⟨kd, lt, ins⟩ m = c at *;have HCM := lh hcm;clear hand hor hyv hgd e0' hq hcm
   rcases hkk with rfl | rfl
   all_goals
    cases c
    all_goals
     go_wp2_with fail;go_round
     case rel => exact ⟨m + 1, by omega, by go_num, by first | (rw [HAND.o rfl]; try rfl) | (rw [HOR.o rfl]; try rfl)⟩
     case measure => simp [intOf]; omega
  have : m = ins.length := by omega
  subst this;have hae := HAE.o;rw [hae];generalize hev : evNd s.mem (at' vs) ⟨kd, lt, ins⟩ = c at *;have HEV := lh hev;clear hae hev;go_wp2_with (at_builtin; refine app1 (C := #[.bool c]) zk0 rfl _ _ rfl (w.heap.size + 2) _ _ _ rfl HOX.o rfl rfl (by simp [Value.oneCell']) (by unfold maxLen; have := HTL.o; omega) (by have := HTL.o; omega) (by have := HZX.o; have := Q1.o.lt; omega) ?_);intro v' w8 hown8 hgrow8 _
  have ho8 : OwnL bc 4 1 w8 (w.heap.size + 2) v' (vs ++ [c]) := by unfold OwnL; rw [List.length_append, List.flatMap_append]; simpa [bc] using hown8
  have HO8 := lh ho8
  have HB8 : Hid (Below (w.heap.size + 2) W w8) := HBXW.o.grown hgrow8 (by have := HZX.o; have := Q1.o.lt; omega) (fun g hg => by
   rcases HOX.o.shape with ⟨h, _⟩ | ⟨g', cap'', h, h2, _⟩
   ·rw [h] at hg; simp [Value.ownBlock] at hg
   rw [h] at hg; simp [Value.ownBlock] at hg; omega)
  clear hown8 hgrow8 ho8;go_wp2;go_roundw
  case rel => exact ⟨k + 1, by omega, by go_num, by rw [HTS.o]; exact HO8.o, HB8.o⟩
  case measure => simp [intOf]; omega
 have : k = l.length := by omega
 subst this;have ho := HO.o;rw [htl, List.take_length] at ho
 obtain ⟨g, rfl⟩ : ∃ g, ao = some ⟨g, 0, none⟩ := by
  rcases ho.shape with ⟨_, h⟩ | ⟨g, cap'', h, _⟩
  ·have h2 := zcl s.mem l; rw [h] at h2; have := HL1.o; simp at h2; omega
  simp only [Value.slice.injEq] at h; exact ⟨g, h.1⟩
 have HOE := lh (ho.lower (show w.heap.size <= w.heap.size + 2 by omega));clear ho;go_wp2;rw [htl];go_ret;exact ⟨g, capv, rfl, HOE.o, HBA.o⟩
def addC (s : St) (xs : Cl) : St := xs.foldl (fun s x => s.add (zac x)) s
def sK (t : List Cl) (k : Nat) : St := (t.take k).foldl addC St.zero
theorem zql {s : St} (h : s.ok) : ∀ xs : Cl, (addC s xs).ok := by
 intro xs;unfold addC
 induction xs generalizing s with
 | nil => exact h
 | cons x xs ih => exact ih (St.add_ok h _)
theorem zxh (t : List Cl) (k : Nat) : (sK t k).ok := by
 have : ∀ (l : List Cl) (s : St), s.ok -> (l.foldl addC s).ok := by
  intro l
  induction l with
  | nil => intro s h; exact h
  | cons c l ih => intro s h; exact ih _ (zql h c)
 exact this _ _ St.zero_ok
theorem zsq (s : St) (xs : Cl) (v : Int) : (addC s xs).mem v = (s.mem v || (zcq xs).mem v) := by
 unfold addC zcq;rw [zfl, zfl, St.mem_zero, Bool.false_or]
theorem zxg (t : List Cl) : sK t t.length = zaf t := by
 apply St.ext (zxh _ _) (zm0 _)
 intro v _ _;rw [Bool.eq_iff_iff, za8];unfold sK;rw [List.take_length]
 have : ∀ (l : List Cl) (s : St), (l.foldl addC s).mem v = true ↔ s.mem v = true \/ ∃ c ∈ l, (zcq c).mem v = true := by
  intro l
  induction l with
  | nil => intro s; simp
  | cons c l ih =>
    intro s;rw [List.foldl_cons, ih, zsq, Bool.or_eq_true];simp only [List.mem_cons]
    constructor
    ·rintro ((h | h) | ⟨d, hd, h⟩)
     ·exact .inl h
     ·exact .inr ⟨c, .inl rfl, h⟩
     exact .inr ⟨d, .inr hd, h⟩
    rintro (h | ⟨d, rfl | hd, h⟩)
    ·exact .inl (.inl h)
    ·exact .inl (.inr h)
    exact .inr ⟨d, hd, h⟩
 rw [this, St.mem_zero]; simp
def VSR (n : Nat) (t : List Cl) (a : Option Addr) (cap : Nat) (w : World) (s : St) (wr : World) : Prop :=
 Below w.heap.size w wr /\ Blk wr w.heap.size #[.int .i64 n, .slice a t.length cap] 24 /\ Blk wr (w.heap.size + 1) #[.int .u64 0, .int .u64 0] 56 /\
  Blk wr (w.heap.size + 1 + 1) #[.int .u64 (s.a : Int), .int .u64 (s.b : Int)] 56
theorem zrv {n : Nat} (hn : n <= 128) (t : List Cl) : okT n t = decide (chkT n t = 0) := by
 rw [Bool.eq_iff_iff, decide_eq_true_iff, zix hn, zbu hn]
theorem zjb (n : Nat) (hn : n <= 128) (a : Option Addr) (cap : Nat) (t : List Cl) (w : World) (hl : t.length <= 1073741824) (hs : ∀ c ∈ t, c.length <= 1073741824) (hx : LsCells w a t) :
 Calls Tryz.prog 91 #[.agg #[.int .i64 n, .slice a t.length cap]] w fun e w' => e = .returned (stv (zbs n t)) /\ Below w.heap.size w w' := by
 obtain ⟨w0, hw0⟩ : ∃ w0, w0 = ((w.alloc (.cells #[.int .i64 n, .slice a t.length cap] 24)).alloc (.cells #[.int .u64 0, .int .u64 0] 56)).alloc (.cells #[.int .u64 0, .int .u64 0] 56) := ⟨_, rfl⟩
 have hb0 : Below w.heap.size w w0 := by rw [hw0]; exact (((Below.refl _ _).alloc (Nat.le_refl _) _).alloc (by simp) _).alloc (by simp; omega) _
 have q0 : Blk w0 w.heap.size #[.int .i64 n, .slice a t.length cap] 24 := by rw [hw0]; exact ((Blk.new w _ _).alloc _).alloc _
 have q1 : Blk w0 (w.heap.size + 1) #[.int .u64 0, .int .u64 0] 56 := by rw [hw0]; exact (Blk.new' _ (by simp) _ _).alloc _
 have q2 : Blk w0 (w.heap.size + 1 + 1) #[.int .u64 0, .int .u64 0] 56 := by rw [hw0]; exact Blk.new' _ (by simp) _ _
 have HC := lh (zby n a cap t w0 hl hs (hx.keep hb0));have HB0 := lh hb0;have Q0 := lh q0;have Q1 := lh q1;have Q2 := lh q2;have HX := lh hx;have HOKT := lh (zrv hn t);have HZO := lh (zbu hn (t := t));have HN := lh hn;clear hx hb0 q0 q1 q2 hn
 by_cases hbad : chkT n t = 0
 ·have ht := HZO.o.1 hbad;rw [hbad] at HC
  have HR : Hid (zbs n t = zaf t) := by show _ = _; unfold zbs; rw [HOKT.o, hbad]; rfl
  have HT := lh ht;have htl4 : t.length <= 4096 := ht.len;clear hbad ht HZO HOKT hs hl;go_enter Tryz.func91, Tryz.ntmps91;go_wp2_with fail;rw [<- hw0];refine HC.o.mono ?_;rintro e w1 ⟨rfl, hb1⟩
  have HIN : Hid (VSR n t a cap w (sK t 0) w1) := ⟨HB0.o.trans (hb1.mono HB0.o.size), Q0.o.later hb1, Q1.o.later hb1, Q2.o.later hb1⟩
  clear hb1 hw0;go_wp2_with fail
  go_loopw [4] (fun i wr => ∃ k : Nat, k <= t.length /\ i = .int .i64 k /\ VSR n t a cap w (sK t k) wr) (fun i _ => t.length - (intOf i).toNat)
  case atStart => exact ⟨0, Nat.zero_le _, rfl, HIN.o⟩
  obtain ⟨k, hk, rfl, hb, p0, p1, p2⟩ := hrel;have HB := lh hb;have P0 := lh p0;have P1 := lh p1;have P2 := lh p2;have k0 := p0.cell 0;have k1 := p0.cell 1;have z0 := p0.lt;have HZ : Hid (w.heap.size <= wr.heap.size) := hb.size;clear hb
  by_cases hlt : k < t.length
  ·obtain ⟨b1, off1, ai, ci, hae, hc0, hi⟩ := HX.o k hlt;have hc1 := zaa HB.o hc0
   have hmem : t.getD k [] ∈ t := by rw [List.getD_eq_getElem?_getD, List.getElem?_eq_getElem hlt]; exact List.getElem_mem hlt
   obtain ⟨hcl, hcr⟩ := HT.o.cl _ hmem;have HKN : Hid (sK t (k + 1) = addC (sK t k) (t.getD k [])) := zfs _ _ [] hlt;have HSK := lh (zxh t k)
   have hki : (k : Int) < (t.length : Int) := by omega
   have HI := lh hi;have HC0 := lh hc0;generalize t.getD k [] = c at *;generalize sK t k = s0 at *;have HCR := lh hcr;clear hmem hcr hi p0 p1 p2 hc0;subst hae;go_wp2_with fail
   go_loopw [5] (fun i wi => ∃ q : Nat, q <= c.length /\ i = .int .i64 q /\ VSR n t (some ⟨b1, off1, none⟩) cap w (addC s0 (c.take q)) wi) (fun i _ => c.length - (intOf i).toNat)
   case atStart => exact ⟨0, Nat.zero_le _, rfl, HB.o, P0.o, P1.o, P2.o⟩
   obtain ⟨q, hq, rfl, hbi, t0, t1, t2⟩ := hrel;have hc2 := zaa hbi HC0.o;have hi2 := HI.o.keep hbi
   rename World => wi
   have HBI := lh hbi;have T0 := lh t0;have T1 := lh t1;have T2 := lh t2;have HI2 := lh hi2;have m1 := t0.cell 1;have y0 := t0.lt;have d0 := t2.cell 0;have d1 := t2.cell 1;have y2 := t2.lt;have HZI : Hid (w.heap.size <= wi.heap.size) := hbi.size;clear hbi t0 t1 t2 hi2
   by_cases hqc : q < c.length
   ·obtain ⟨b2, off2, hai, e0⟩ := HI2.o q hqc
    have hqi : (q : Int) < (c.length : Int) := by omega
    have hyn := HCR.o _ (zbd hqc);have HAN : Hid (addC s0 (c.take (q + 1)) = (addC s0 (c.take q)).add (zac (c.getD q 0))) := zfs _ _ 0 hqc;have HOK := lh (zql HSK.o (c.take q));generalize addC s0 (c.take q) = s at *;generalize c.getD q 0 = y at *
    have hy1 : -128 <= y := by have := hyn.2.1; have := HN.o; omega
    have hy2 : y <= 128 := by have := hyn.2.2; have := HN.o; omega
    have hy0 : y ≠ 0 := hyn.1
    obtain ⟨v, hv⟩ : ∃ v, v = labs y := ⟨_, rfl⟩
    have hv1 : 1 <= v := by rw [hv]; unfold labs; split <;> omega
    have hv2 : v <= 128 := by rw [hv]; unfold labs; split <;> omega
    have HAN2 : Hid (addC s0 (c.take (q + 1)) = s.add v) := by show _ = _; rw [HAN.o, zk5 ⟨hy1, hy2⟩, hv]
    have HAB := lh (fun W => zn8 y W (by omega) (by omega));rw [<- hv] at HAB;have HHS := lh (fun W => zk3 s v W HOK.o);subst hai;clear hyn hv HAN hy0 hy1 hy2
    cases hm : s.mem v with
    | true =>
      rw [hm] at HHS
      have HAE : Hid (addC s0 (c.take (q + 1)) = s) := by show _ = _; rw [HAN2.o, zsr HOK.o hm]
      clear hm;go_wp2_with fail;refine (HAB.o _).mono ?_;rintro e wq ⟨rfl, hwq⟩;obtain rfl := hwq;go_wp2_with fail;refine (HHS.o _).mono ?_;rintro e w2 ⟨rfl, hb2⟩;have S0 := lh (T0.o.later hb2);have S1 := lh (T1.o.later hb2);have S2 := lh (T2.o.later hb2);have HB2 := lh (HBI.o.trans (hb2.mono HZI.o));have HQ2 := lh hb2;have g0 := S2.o.cell 0;have g1 := S2.o.cell 1;have h0 := S2.o.fr 0;have h1 := S2.o.fr 1;have gz := S2.o.lt;clear hb2
      have HF : Hid (∃ q' : Nat, q' <= c.length /\ Value.int .i64 ((q : Int) + 1) = .int .i64 q' /\ VSR n t (some ⟨b1, off1, none⟩) cap w (addC s0 (c.take q')) w2) :=
       ⟨q + 1, by omega, by go_num, by rw [HAE.o]; exact ⟨HB2.o, S0.o, S1.o, S2.o⟩⟩
      go_wp2;go_roundw
      case rel => exact HF.o
      case measure => simp [intOf]; omega
    | false =>
      rw [hm] at HHS
      by_cases h64 : v <= 64
      ·have e1 : (v - 1) / 64 = 0 := by omega
       have e2 : (v - 1) % 64 = v - 1 := by omega
       have hbit : s.a.testBit (v.toNat - 1) = false := by
        have := hm; unfold St.mem at this; rw [if_pos (by omega)] at this
        rwa [show (v - 1).toNat = v.toNat - 1 by omega] at this
       obtain ⟨A, hA⟩ : ∃ A : Nat, A = s.a ||| 2 ^ (v.toNat - 1) := ⟨_, rfl⟩
       have HR : Hid (s.add v = ⟨A, s.b⟩) := by
        show _ = _; unfold St.add; rw [if_pos (by omega), show (v - 1).toNat = v.toNat - 1 by omega, hA]
       have hw : IntKind.u64.wrap ((s.a : Int) + IntKind.u64.wrap ((2 : Int) ^ (v.toNat - 1))) = (A : Int) := by rw [hA]; exact zo8 HOK.o.1 hbit (by omega)
       have HNB := lh (fun W (h : Blk W (w.heap.size + 1 + 1) #[.int .u64 (s.a : Int), .int .u64 (s.b : Int)] 56) => h.set 0 (.int .u64 (A : Int)));clear hm hbit hA;go_wp2_with fail;refine (HAB.o _).mono ?_;rintro e wq ⟨rfl, hwq⟩;obtain rfl := hwq;go_wp2_with fail;refine (HHS.o _).mono ?_;rintro e w2 ⟨rfl, hb2⟩;have S0 := lh (T0.o.later hb2);have S1 := lh (T1.o.later hb2);have S2 := lh (T2.o.later hb2);have HB2 := lh (HBI.o.trans (hb2.mono HZI.o));have HQ2 := lh hb2;have g0 := S2.o.cell 0;have g1 := S2.o.cell 1;have h0 := S2.o.fr 0;have h1 := S2.o.fr 1;have gz := S2.o.lt;clear hb2
       have HF : Hid (∃ q' : Nat, q' <= c.length /\ Value.int .i64 ((q : Int) + 1) = .int .i64 q' /\ VSR n t (some ⟨b1, off1, none⟩) cap w (addC s0 (c.take q')) (w2.setCell ⟨w.heap.size + 1 + 1, 0, none⟩ (.int .u64 (A : Int)))) := by
        have hk2 : Kp (fun y => y = w.heap.size + 1 + 1) w2 (w2.setCell ⟨w.heap.size + 1 + 1, 0, none⟩ (.int .u64 (A : Int))) := Kp.setCell _ _ _ rfl;exact ⟨q + 1, by omega, by go_num, by rw [HAN2.o, HR.o]; exact ⟨HB2.o.setCell (by show w.heap.size <= w.heap.size + 1 + 1; omega) _, S0.o.kept hk2 (by omega), S1.o.kept hk2 (by omega), HNB.o _ S2.o⟩⟩
       go_wp2;go_roundw
       case rel => exact HF.o
       case measure => simp [intOf]; omega
      have e1 : (v - 1) / 64 = 1 := by omega
      have e2 : (v - 1) % 64 = v - 65 := by omega
      have hv65 : 65 <= v := by omega
      have hbit : s.b.testBit (v - 65).toNat = false := by
       have := hm; unfold St.mem at this; rw [if_neg (by omega), if_pos (by omega)] at this;exact this
      obtain ⟨A, hA⟩ : ∃ A : Nat, A = s.b ||| 2 ^ (v - 65).toNat := ⟨_, rfl⟩
      have HR : Hid (s.add v = ⟨s.a, A⟩) := by
       show _ = _; unfold St.add; rw [if_neg (by omega), if_pos (by omega), hA]
      have hw : IntKind.u64.wrap ((s.b : Int) + IntKind.u64.wrap ((2 : Int) ^ (v - 65).toNat)) = (A : Int) := by rw [hA]; exact zo8 HOK.o.2 hbit (by omega)
      have HNB := lh (fun W (h : Blk W (w.heap.size + 1 + 1) #[.int .u64 (s.a : Int), .int .u64 (s.b : Int)] 56) => h.set 1 (.int .u64 (A : Int)));clear hm hbit hA;go_wp2_with fail;refine (HAB.o _).mono ?_;rintro e wq ⟨rfl, hwq⟩;obtain rfl := hwq;go_wp2_with fail;refine (HHS.o _).mono ?_;rintro e w2 ⟨rfl, hb2⟩;have S0 := lh (T0.o.later hb2);have S1 := lh (T1.o.later hb2);have S2 := lh (T2.o.later hb2);have HB2 := lh (HBI.o.trans (hb2.mono HZI.o));have HQ2 := lh hb2;have g0 := S2.o.cell 0;have g1 := S2.o.cell 1;have h0 := S2.o.fr 0;have h1 := S2.o.fr 1;have gz := S2.o.lt;clear hb2
      have HF : Hid (∃ q' : Nat, q' <= c.length /\ Value.int .i64 ((q : Int) + 1) = .int .i64 q' /\ VSR n t (some ⟨b1, off1, none⟩) cap w (addC s0 (c.take q')) (w2.setCell ⟨w.heap.size + 1 + 1, 1, none⟩ (.int .u64 (A : Int)))) := by
       have hk2 : Kp (fun y => y = w.heap.size + 1 + 1) w2 (w2.setCell ⟨w.heap.size + 1 + 1, 1, none⟩ (.int .u64 (A : Int))) := Kp.setCell _ _ _ rfl;exact ⟨q + 1, by omega, by go_num, by rw [HAN2.o, HR.o]; exact ⟨HB2.o.setCell (by show w.heap.size <= w.heap.size + 1 + 1; omega) _, S0.o.kept hk2 (by omega), S1.o.kept hk2 (by omega), HNB.o _ S2.o⟩⟩
      go_wp2;go_roundw
      case rel => exact HF.o
      case measure => simp [intOf]; omega
   have hqe : q = c.length := by omega
   subst hqe
   have HKE : Hid (sK t (k + 1) = addC s0 (c.take c.length)) := by show _ = _; rw [HKN.o, List.take_length]
   have HF : Hid (VSR n t (some ⟨b1, off1, none⟩) cap w (sK t (k + 1)) wi) := by show VSR _ _ _ _ _ _ _; rw [HKE.o]; exact ⟨HBI.o, T0.o, T1.o, T2.o⟩
   go_wp2;go_roundw
   case rel => exact ⟨k + 1, by omega, by go_num, HF.o⟩
   case measure => simp [intOf]; omega
  have hke : k = t.length := by omega
  subst hke;have HE := lh (zxg t);generalize sK t t.length = s at *;have l0 := p2.cell 0;have l1 := p2.cell 1;have m0 := p1.cell 0;have m1 := p1.cell 1;have fr0 := p1.fr 0;have fr1 := p1.fr 1;have z1 := p1.lt;have z2 := p2.lt
  have hbr := ((p1.set 0 (.int .u64 (s.a : Int))).set 1 (.int .u64 (s.b : Int)))
  have e0 : ((wr.setCell ⟨w.heap.size + 1, 0, none⟩ (.int .u64 (s.a : Int))).setCell ⟨w.heap.size + 1, 1, none⟩ (.int .u64 (s.b : Int))).cell? ⟨w.heap.size + 1, 0, none⟩ = some (.int .u64 (s.a : Int)) := hbr.cell 0;have e1 : ((wr.setCell ⟨w.heap.size + 1, 0, none⟩ (.int .u64 (s.a : Int))).setCell ⟨w.heap.size + 1, 1, none⟩ (.int .u64 (s.b : Int))).cell? ⟨w.heap.size + 1, 1, none⟩ = some (.int .u64 (s.b : Int)) := hbr.cell 1;clear p0 p1 p2 hbr;go_wp2;exact bodyPost_ret (v := stv s) (by simp [results, Tryz.results91, go_sem, e0, e1]) rfl ⟨by rw [HR.o, <- HE.o], (HB.o.setCell (Nat.le_succ _) _).setCell (Nat.le_succ _) _⟩
 have HR : Hid (zbs n t = St.zero) := by show _ = _; unfold zbs; rw [HOKT.o, decide_eq_false hbad]; rfl
 obtain ⟨c, hc⟩ : ∃ c, c = chkT n t := ⟨_, rfl⟩
 rw [<- hc] at hbad HC;clear hc HZO HOKT hs hl;go_enter Tryz.func91, Tryz.ntmps91;go_wp2_with fail;rw [<- hw0];refine HC.o.mono ?_;rintro e w1 ⟨rfl, hb1⟩;have p1 := Q1.o.later hb1;have p2 := Q2.o.later hb1;have HB := lh (HB0.o.trans (hb1.mono HB0.o.size));have l0 := p2.cell 0;have l1 := p2.cell 1;have m0 := p1.cell 0;have m1 := p1.cell 1;have fr0 := p1.fr 0;have fr1 := p1.fr 1;have z1 := p1.lt;have z2 := p2.lt
 have hbr := ((p1.set 0 (.int .u64 0)).set 1 (.int .u64 0))
 have e0 : ((w1.setCell ⟨w.heap.size + 1, 0, none⟩ (.int .u64 0)).setCell ⟨w.heap.size + 1, 1, none⟩ (.int .u64 0)).cell? ⟨w.heap.size + 1, 0, none⟩ = some (.int .u64 0) := hbr.cell 0;have e1 : ((w1.setCell ⟨w.heap.size + 1, 0, none⟩ (.int .u64 0)).setCell ⟨w.heap.size + 1, 1, none⟩ (.int .u64 0)).cell? ⟨w.heap.size + 1, 1, none⟩ = some (.int .u64 0) := hbr.cell 1
 have hcb : (c != 0) = true := by simpa using hbad
 clear hb1 hw0 p1 p2 hbr;go_wp2;exact bodyPost_ret (v := stv St.zero) (by simp [results, Tryz.results91, go_sem, e0, e1, stv, St.zero]) rfl ⟨by rw [HR.o], (HB.o.setCell (Nat.le_succ _) _).setCell (Nat.le_succ _) _⟩
end Go.Proofs.YtfmmhjphopikgaaGreatDoor
