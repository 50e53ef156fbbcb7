/- Part of the proofs that laws of censuslaw24 return true for every input, where the tables that the rows list are laid. Texts: Eg, Eh, R20T. -/
import Derived.Test.YtkaojolofaanfaaGreatDoorYA32
import Derived.Test.YtkaojolofaanfaaGreatDoorYA4
import Derived.Test.YtkaojolofaanfaaGreatDoorYA7
import Derived.Test.YtkaojolofaanfaaGreatDoorYA5
import Derived.Deep.DeepCutAuto
import Derived.Test.YtkaojolofaanfaaGreatDoorYA1
set_option maxHeartbeats 8000000
set_option maxRecDepth 100000
set_option linter.unusedSimpArgs false
set_option linter.unusedVariables false
namespace Go.Proofs.YtkaojolofaanfaaGreatDoor
open Go.RowKit Cen
theorem zjw {n : Nat} (hn : n <= 128) : ∀ {t : List Cl}, zd8 n t = 0 ↔ ∀ c ∈ t, c.length <= 128 /\ ∀ x ∈ c, litN n x
 | [] => by simp [zd8]
 | c :: t => by
   rw [zd8]
   have hall : (c.all fun x => zas x n) = true ↔ ∀ x ∈ c, litN n x := by
    rw [List.all_eq_true];exact ⟨fun h x hx => (zc2 hn).1 (h x hx), fun h x hx => (zc2 hn).2 (h x hx)⟩
   by_cases h1 : 128 < c.length
   ·rw [if_pos h1]
    constructor
    ·intro h; simp at h
    ·intro h; have := (h c (by simp)).1; omega
   ·rw [if_neg h1]
    by_cases h2 : (c.all fun x => zas x n) = true
    ·rw [if_pos h2, zjw hn]
     constructor
     ·intro h d hd
      rcases List.mem_cons.1 hd with rfl | hd
      ·exact ⟨by omega, hall.1 h2⟩
      ·exact h d hd
     ·intro h d hd; exact h d (List.mem_cons_of_mem _ hd)
    ·rw [if_neg h2]
     constructor
     ·intro h; simp at h
     ·intro h; exact absurd (hall.2 (h c (by simp)).2) h2
theorem zbu {n : Nat} (hn : n <= 128) {t : List Cl} : chkT n t = 0 ↔ tOk n t := by
 unfold chkT;rw [if_neg (by omega)]
 by_cases h : 4096 < t.length
 ·rw [if_pos h]
  constructor
  ·intro h; simp at h
  ·intro ht; have := ht.len; omega
 ·rw [if_neg h, zjw hn];exact ⟨fun k => ⟨by omega, k⟩, fun k => k.cl⟩
theorem znp (n : Int) (a : Option Addr) (cap : Nat) (t : List Cl) (w : World) (hl : t.length <= 1073741824) (hs : ∀ c ∈ t, c.length <= 1073741824) (hx : LsCells w a t) (hbad : chkT n t ≠ 0) :
 Calls Tryz.prog 87 #[.agg #[.int .i64 n, .slice a t.length cap]] w fun e w' => e = .returned (.tuple #[.agg #[.int .i64 0, .slice none 0 0], .int .i64 (chkT n t)]) /\ Below w.heap.size w w' := by
 obtain ⟨w0, hw0⟩ : ∃ w0, w0 = (w.alloc (.cells #[.int .i64 n, .slice a t.length cap] 39)).alloc (.cells #[.int .i64 0, .slice none 0 0] 39) := ⟨_, rfl⟩
 have hb0 : Below w.heap.size w w0 := by rw [hw0]; exact ((Below.refl _ _).alloc (Nat.le_refl _) _).alloc (by simp) _
 have q1 : Blk w0 (w.heap.size + 1) #[.int .i64 0, .slice none 0 0] 39 := by rw [hw0]; exact Blk.new' _ (by simp) _ _
 have HC := lh (zby n a cap t w0 hl hs (hx.keep hb0));have HB0 := lh hb0;have Q1 := lh q1;clear hx hs hb0 q1
 obtain ⟨c, hc⟩ : ∃ c, c = chkT n t := ⟨_, rfl⟩
 rw [<- hc] at hbad HC ⊢;clear hc;go_enter Tryz.func87, Tryz.ntmps87;go_wp2_with fail;rw [<- hw0];refine HC.out.mono ?_;rintro e w1 ⟨rfl, hb1⟩;have R1 := lh (Q1.out.later hb1);have HB1 := lh (HB0.out.trans (hb1.mono HB0.out.size));have a0 := R1.out.cell 0;have a1 := R1.out.cell 1;have f0 := R1.out.fr 0;have f1 := R1.out.fr 1;have s1 := R1.out.lt;clear hb1 hw0
 have hcb : (c != 0) = true := by simpa using hbad
 go_wp2;exact bodyPost_ret (v := .tuple #[.agg #[.int .i64 0, .slice none 0 0], .int .i64 c]) (by simp [results, Tryz.results87, go_sem, a0, a1, s1]) rfl ⟨rfl, (HB1.out.setCell (Nat.le_succ _) _).setCell (Nat.le_succ _) _⟩
def NMR (n : Nat) (t : List Cl) (a : Option Addr) (cap : Nat) (w : World) (ob : Nat) (wr : World) (i : Value) : Prop :=
 ∃ (k : Nat) (oa : Option Addr) (oc : Nat), k <= t.length /\ i = .int .i64 (k : Int) /\ Below w.heap.size w wr /\ Blk wr w.heap.size #[.int .i64 n, .slice a t.length cap] 39 /\ Blk wr (w.heap.size + 1) #[.int .i64 0, .slice none 0 0] 39 /\
  Blk wr ob #[.int .i64 n, .slice oa (zda n t k).length oc] 39 /\ LsIn (fun k => ob < k) wr oa (zda n t k)
def zu0 (n : Nat) (t : List Cl) (w : World) (e : Ending) (w' : World) : Prop :=
 ∃ a' c', e = .returned (.tuple #[.agg #[.int .i64 n, .slice a' (zab n t).length c'], .int .i64 0]) /\ LsIn (fun k => w.heap.size <= k) w' a' (zab n t) /\ Below w.heap.size w w'
theorem zer (n : Nat) (hn : n <= 128) (a : Option Addr) (cap : Nat) (t : List Cl) (w : World) (ht : tOk n t) (hx : LsCells w a t) :
 Calls Tryz.prog 87 #[.agg #[.int .i64 n, .slice a t.length cap]] w (zu0 n t w) := by
 obtain ⟨w0, hw0⟩ : ∃ w0, w0 = (w.alloc (.cells #[.int .i64 n, .slice a t.length cap] 39)).alloc (.cells #[.int .i64 0, .slice none 0 0] 39) := ⟨_, rfl⟩
 have hb0 : Below w.heap.size w w0 := by rw [hw0]; exact ((Below.refl _ _).alloc (Nat.le_refl _) _).alloc (by simp) _
 have q0 : Blk w0 w.heap.size #[.int .i64 n, .slice a t.length cap] 39 := by rw [hw0]; exact (Blk.new w _ _).alloc _
 have q1 : Blk w0 (w.heap.size + 1) #[.int .i64 0, .slice none 0 0] 39 := by rw [hw0]; exact Blk.new' _ (by simp) _ _
 have hcz := (zbu hn).2 ht;have htl := ht.len;have HC := lh (zby n a cap t w0 (by omega) (fun c hc => by have := (ht.cl c hc).1; omega) (hx.keep hb0));rw [hcz] at HC;have HB0 := lh hb0;have Q0 := lh q0;have Q1 := lh q1;have HX := lh hx;have HT := lh ht;have HN := lh hn;clear hx hb0 q0 q1 hcz ht hn;go_enter Tryz.func87, Tryz.ntmps87;go_wp2_with fail;rw [<- hw0];refine HC.out.mono ?_;rintro e w1 ⟨rfl, hb1⟩;have R0 := lh (Q0.out.later hb1);have R1 := lh (Q1.out.later hb1);have HB1 := lh (HB0.out.trans (hb1.mono HB0.out.size));have c0 := R0.out.cell 0;have c1 := R0.out.cell 1;have s1 : w.heap.size + 1 < w1.heap.size := R1.out.lt
 have s0 : w.heap.size < w1.heap.size := by omega
 clear hb1 hw0
 obtain ⟨ob, hob⟩ : ∃ ob, ob = w1.heap.size := ⟨_, rfl⟩
 have HIN : Hid (NMR n t a cap w w1.heap.size (w1.alloc (.cells #[.int .i64 n, .slice none 0 0] 39)) (.int .i64 0)) :=
  ⟨0, none, 0, Nat.zero_le _, rfl, HB1.out.alloc (Nat.le_of_lt s0) _, R0.out.alloc _, R1.out.alloc _, Blk.new _ _ _, LsIn.nil _ _ _⟩
 rw [<- hob] at HIN;have HOB := lh hob;go_wp2_with fail;rw [<- hob];clear hob
 go_loopw [6] (fun i wr => NMR n t a cap w ob wr i) (fun i _ => t.length - (intOf i).toNat)
 case atStart => exact HIN.out
 case round =>
  obtain ⟨k, oa, oc, hk, rfl, hb, p0, p1, p2, hls⟩ := hrel;have HB := lh hb;have P0 := lh p0;have P1 := lh p1;have P2 := lh p2;have HLS := lh hls;have HXR := lh (HX.out.keep hb);have k0 := p0.cell 0;have k1 := p0.cell 1;have z0 := p0.lt;have z1 := p1.lt;have z2 := p2.lt;have HZ : Hid (w.heap.size <= wr.heap.size) := hb.size
  have HOBW : Hid (w.heap.size + 1 < ob) := by rw [HOB.out]; exact s1
  clear hb hls
  by_cases hlt : k < t.length
  ·obtain ⟨b1, off1, ai, ci, rfl, hc1, hi⟩ := HXR.out k hlt
   have hmem : t.getD k [] ∈ t := by rw [List.getD_eq_getElem?_getD, List.getElem?_eq_getElem hlt]; exact List.getElem_mem hlt
   obtain ⟨hcl, hcr⟩ := HT.out.cl _ hmem;have HKN : Hid (zda n t (k + 1) = if taut (t.getD k []) = true then zda n t k else insC (zaw n (t.getD k [])) (zda n t k)) := rfl
   have hki : (k : Int) < (t.length : Int) := by omega
   have HI := lh hi
   have HKM : Hid (∀ d ∈ zda n t k, d.length <= 1073741824 /\ ∀ x ∈ d, -128 <= x /\ x <= 128) := fun d hd => by
    obtain ⟨c', hc', rfl⟩ := ziw (Nat.le_of_lt hlt) hd;have h1 := zeh c' n;have h2 := HN.out;exact ⟨by omega, fun x hx => by have := (zbi.1 hx).2; omega⟩
   have HKL : Hid ((zda n t k).length <= 4096) := Nat.le_trans (zg1 n t k) (by omega);generalize t.getD k [] = c at *;generalize zda n t k = R at *
   have HSO : Hid (∀ W, Below wr.heap.size wr W -> Calls Tryz.prog 158 #[.slice ai c.length ci, .int .i64 (n : Int)] W fun e w' => ∃ v, e = .returned (.tuple #[v, .bool (taut c)]) /\ OwnInts w' W.heap.size v (zaw n c) /\ Below W.heap.size W w') := fun W hW => by
    have := znw ai ci c n W HN.out (by omega) (HI.out.keep hW)
    rwa [zry hcr] at this
   have HNL := lh (zeh c n)
   have HNB : Hid (∀ x ∈ zaw n c, -128 <= x /\ x <= 128) := fun x hx => by have := (zbi.1 hx).2; have := HN.out; omega
   clear hmem hcl hcr hi;go_wp2_with fail
   go_region_with (go_at_call 158; refine (HSO.out _ (Below.refl _ _).drew).mono ?_; rintro e w2 ⟨v, rfl, hown, hb2⟩)
   all_goals
    have hb2' := zay hb2;obtain ⟨av, cv, rfl, hcells, hav⟩ := hown.cells;have hsz : wr.drew.heap.size = wr.heap.size := rfl
    have HIN2 : Hid (IntIn (fun k => ob < k) w2 av (zaw n c)) := ⟨hcells, fun p hp _ => by have := hav p hp; omega⟩
    have HB2 := lh (HB.out.trans (hb2'.mono HZ.out));have T0 := lh (P0.out.later hb2');have T1 := lh (P1.out.later hb2');have T2 := lh (P2.out.later hb2');have HLS2 := lh (HLS.out.later hb2');have HZ2 : Hid (w.heap.size <= w2.heap.size) := HB2.out.size;have t0 := T2.out.cell 0;have t1 := T2.out.cell 1;clear hown hb2 hb2' hcells hav hsz
    cases htc : taut c with
    | true =>
      have HKE : Hid (zda n t (k + 1) = R) := by show _ = _; rw [HKN.out, htc]; rfl
      clear htc;go_wp2;go_roundw
      case rel => exact ⟨k + 1, oa, oc, by omega, by go_num, HB2.out, T0.out, T1.out, by rw [HKE.out]; exact T2.out, by rw [HKE.out]; exact HLS2.out⟩
      case measure => simp [intOf]; omega
    | false =>
      have HKE : Hid (zda n t (k + 1) = insC (zaw n c) R) := by show _ = _; rw [HKN.out, htc]; rfl
      have HPU := lh (zug (fun k => ob < k) oa oc R av cv (zaw n c) w2 (by have := HKL.out; omega) (by have := HNL.out; have := HN.out; omega) HKM.out HNB.out HLS2.out HIN2.out (fun j hj => by have := T2.out.lt; omega));clear htc;go_wp2_with fail;refine HPU.out.mono ?_;rintro e w3 ⟨a3, c3, rfl, hls3, hb3⟩;have V2 := T2.out.later hb3;have g0 := V2.cell 0;have g1 := V2.cell 1;have h1 := V2.fr 1;have hz3 := V2.lt;have hk3 : Kp (fun y => y = ob) w3 (w3.setCell ⟨ob, 1, none⟩ (.slice a3 (insC (zaw n c) R).length c3)) := Kp.setCell _ _ _ rfl
      have HF : Hid (NMR n t (some ⟨b1, off1, none⟩) cap w ob (w3.setCell ⟨ob, 1, none⟩ (.slice a3 (insC (zaw n c) R).length c3)) (.int .i64 ((k : Int) + 1))) :=
       ⟨k + 1, a3, c3, by omega, by go_num, (HB2.out.trans (hb3.mono HZ2.out)).setCell (by have := HOBW.out; show w.heap.size <= ob; omega) _, (T0.out.later hb3).kept hk3 (by have := HOBW.out; omega), (T1.out.later hb3).kept hk3 (by have := HOBW.out; omega),
         by rw [HKE.out]; exact V2.set 1 _, by rw [HKE.out]; exact hls3.kept hk3 fun k hk => by omega⟩
      clear hls3 hb3 V2 hk3;go_wp2;go_roundw
      case rel => exact HF.out
      case measure => simp [intOf]; omega
  ·have hke : k = t.length := by omega
   subst hke;have HE := lh (zrr n t);have l0 := p2.cell 0;have l1 := p2.cell 1;have m0 := p1.cell 0;have m1 := p1.cell 1;have fr0 := p1.fr 0;have fr1 := p1.fr 1
   have hbo : w.heap.size + 1 ≠ ob := by have := HOBW.out; omega
   generalize zda n t t.length = R at *
   have HLF : Hid (LsIn (fun k => w.heap.size <= k) ((wr.setCell ⟨w.heap.size + 1, 0, none⟩ (.int .i64 n)).setCell ⟨w.heap.size + 1, 1, none⟩ (.slice oa R.length oc)) oa R) :=
    ((HLS.out.kept (M := fun y => y = w.heap.size + 1) (Kp.trans (M := fun y => y = w.heap.size + 1) (Kp.setCell wr ⟨w.heap.size + 1, 0, none⟩ (.int .i64 n) rfl) (Kp.setCell _ ⟨w.heap.size + 1, 1, none⟩ (.slice oa R.length oc) rfl)) (fun k hk => by have := HOBW.out; omega))).mono fun k _ hk => by have := HOBW.out; omega
   clear p0 p1 p2;go_wp2;exact bodyPost_ret (v := .tuple #[.agg #[.int .i64 n, .slice oa R.length oc], .int .i64 0]) (by simp [results, Tryz.results87, go_sem, z1, m0, m1]) rfl ⟨oa, oc, by rw [<- HE.out], by rw [<- HE.out]; exact HLF.out, (HB.out.setCell (Nat.le_succ _) _).setCell (Nat.le_succ _) _⟩
theorem zse (a : Option Addr) (cap : Nat) (l : Cl) (n : Int) (w : World) (hn0 : 0 <= n) (hn1 : n <= 128) (hl : l.length <= 1073741824) (hx : IntCells w a l) :
 Calls Tryz.prog 162 #[.slice a l.length cap, .int .i64 n] w fun e w' => e = .returned (.bool (l.all fun x => zas x n && !l.contains (-x))) /\ w = w' := by
 have HX := lh hx
 have HM : Hid (∀ k, k < l.length -> (zas (l.getD k 0) n && !inL l (-(l.getD k 0))) = false -> (l.all fun x => zas x n && !l.contains (-x)) = false) := fun k hk h => by
  rw [Bool.eq_false_iff];intro hc;have := List.all_eq_true.1 hc _ (zbd hk);rw [show (zas (l.getD k 0) n && !l.contains (-(l.getD k 0))) = false from h] at this;simp at this
 have HAL : Hid ((∀ j, j < l.length -> (zas (l.getD j 0) n && !inL l (-(l.getD j 0))) = true) -> (l.all fun x => zas x n && !l.contains (-x)) = true) := fun h => by
  rw [List.all_eq_true];intro x hx;obtain ⟨j, hj, rfl⟩ := List.getElem_of_mem hx;have := h j hj
  simpa [List.getD_eq_getElem?_getD, hj, inL] using this
 clear hx;generalize (l.all fun x => zas x n && !l.contains (-x)) = R at *;go_enter Tryz.func162, Tryz.ntmps162;go_wp2
 go_loop [5] (fun i => ∃ k : Nat, k <= l.length /\ i = .int .i64 k /\ ∀ j, j < k -> (zas (l.getD j 0) n && !inL l (-(l.getD j 0))) = true) (fun i => l.length - (intOf i).toNat)
 case atStart => exact ⟨0, Nat.zero_le _, rfl, fun j h => absurd h (Nat.not_lt_zero _)⟩
 case round =>
  obtain ⟨k, hk, rfl, hno⟩ := hrel;have HN := lh hno;clear hno
  by_cases hlt : k < l.length
  ·obtain ⟨b, off, rfl, hc⟩ := HX.out k hlt;have HMK := lh (HM.out k hlt)
   have HNX : Hid ((zas (l.getD k 0) n && !inL l (-(l.getD k 0))) = true -> ∀ j, j < k + 1 -> (zas (l.getD j 0) n && !inL l (-(l.getD j 0))) = true) := fun he j hj => by
    by_cases e : j = k
    ·subst e; exact he
    ·exact HN.out j (by omega)
   generalize l.getD k 0 = y at hc HMK HNX
   cases hv : zas y n with
   | false =>
     have HV := lh (fun W => zfk y n W hn0 hn1);rw [hv] at HV;have HR : Hid (R = false) := HMK.out (by rw [hv]; rfl);clear hv;go_wp2_with fail;refine (HV.out _).mono ?_;rintro e wq ⟨rfl, hwq⟩;obtain rfl := hwq;go_wp2;go_ret;exact ⟨by rw [HR.out]; rfl, rfl⟩
   | true =>
     have HV := lh (fun W => zfk y n W hn0 hn1);rw [hv] at HV
     have hyb : -128 <= y /\ y <= 128 := by
      simp only [zas, Bool.and_eq_true, decide_eq_true_eq] at hv;have := zc3 hv.1;omega
     obtain ⟨hy1, hy2⟩ := hyb;have hwr : IntKind.i64.wrap (-y) = -y := IntWalk.i64_in _ (by omega);have HCT := lh (fun W (hW : IntCells W (some ⟨b, off, none⟩) l) => zcs (some ⟨b, off, none⟩) cap l (-y) W hl hW)
     cases hm : inL l (-y) with
     | true =>
       rw [hm] at HCT;have HR : Hid (R = false) := HMK.out (by rw [hv, hm]; rfl);clear hv hm;go_wp2_with fail;refine (HV.out _).mono ?_;rintro e wq ⟨rfl, hwq⟩;obtain rfl := hwq;go_wp2_with fail;refine (HCT.out _ HX.out).mono ?_;rintro e wq ⟨rfl, hwq⟩;obtain rfl := hwq;go_wp2;go_ret;exact ⟨by rw [HR.out]; rfl, rfl⟩
     | false =>
       rw [hm] at HCT;have HNN := lh (HNX.out (by rw [hv, hm]; rfl));clear hv hm;go_wp2_with fail;refine (HV.out _).mono ?_;rintro e wq ⟨rfl, hwq⟩;obtain rfl := hwq;go_wp2_with fail;refine (HCT.out _ HX.out).mono ?_;rintro e wq ⟨rfl, hwq⟩;obtain rfl := hwq;go_wp2;go_round
       case rel => exact ⟨k + 1, by omega, by go_num, HNN.out⟩
       case measure => simp [intOf]; omega
  ·have hke : k = l.length := by omega
   subst hke;have HR : Hid (R = true) := HAL.out HN.out;go_wp2;go_ret;exact ⟨by rw [HR.out]; rfl, rfl⟩
def GVR (n : Nat) (term : Cl) (t : List Cl) (a : Option Addr) (cap : Nat) (w : World) (ob : Nat) (wr : World) (i : Value) : Prop :=
 ∃ (k : Nat) (L : List Sl) (oa : Option Addr) (oc : Nat), k <= t.length /\ i = .int .i64 (k : Int) /\ Below w.heap.size w wr /\ Blk wr w.heap.size #[.int .i64 n, .slice a t.length cap] 39 /\ Blk wr (w.heap.size + 1) #[.int .i64 0, .slice none 0 0] 39 /\
  Blk wr ob #[.int .i64 n, .slice oa L.length oc] 39 /\ OwnS (fun k => ob < k) wr (ob + 1) (.slice oa L.length oc) L /\ (L.map fun e => e.xs) = givT term (t.take k)
def GVI (term : Cl) (c : Cl) (wr wi : World) (cv is i : Value) : Prop :=
 ∃ (q : Nat) (ys : Cl) (ca : Option Addr) (cc : Nat) (bs : Bool), q <= c.length /\ i = .int .i64 (q : Int) /\ is = .bool bs /\ cv = .slice ca ys.length cc /\ bs = (c.take q).any (inL term) /\ ys = (c.take q).filter (fun y => !inL term (-y)) /\
  OwnInts wi wr.heap.size (.slice ca ys.length cc) ys /\ Below wr.heap.size wr wi
def zqf (n : Nat) (r : List Cl) (w : World) (e : Ending) (w' : World) : Prop :=
 ∃ a' c', e = .returned (.tuple #[.agg #[.int .i64 n, .slice a' r.length c'], .int .i64 0]) /\ LsIn (fun k => w.heap.size <= k) w' a' r /\ Below w.heap.size w w'
theorem zmc (n : Nat) (hn : n <= 128) (a : Option Addr) (cap : Nat) (t : List Cl) (b : Option Addr) (cap2 : Nat) (term : Cl) (w : World) (ht : tOk n t) (hT : zp9 n term = true) (htl : term.length <= 1073741824) (hx : LsCells w a t) (hy : IntCells w b term) :
 Calls Tryz.prog 90 #[.agg #[.int .i64 n, .slice a t.length cap], .slice b term.length cap2] w (zqf n (givT term t) w) := by
 obtain ⟨w0, hw0⟩ : ∃ w0, w0 = (w.alloc (.cells #[.int .i64 n, .slice a t.length cap] 39)).alloc (.cells #[.int .i64 0, .slice none 0 0] 39) := ⟨_, rfl⟩
 have hb0 : Below w.heap.size w w0 := by rw [hw0]; exact ((Below.refl _ _).alloc (Nat.le_refl _) _).alloc (by simp) _
 have q0 : Blk w0 w.heap.size #[.int .i64 n, .slice a t.length cap] 39 := by rw [hw0]; exact (Blk.new w _ _).alloc _
 have q1 : Blk w0 (w.heap.size + 1) #[.int .i64 0, .slice none 0 0] 39 := by rw [hw0]; exact Blk.new' _ (by simp) _ _
 have hcz := (zbu hn).2 ht;have htle := ht.len;have HC := lh (zby n a cap t w0 (by omega) (fun c hc => by have := (ht.cl c hc).1; omega) (hx.keep hb0));rw [hcz] at HC;have HB0 := lh hb0;have Q0 := lh q0;have Q1 := lh q1;have HX := lh hx;have HY := lh hy;have HT := lh ht;have HN := lh hn
 have HTB : Hid (∀ W, IntCells W b term -> Calls Tryz.prog 162 #[.slice b term.length cap2, .int .i64 n] W fun e w' => e = .returned (.bool true) /\ W = w') := fun W hW => by
  have := zse b cap2 term n W (by omega) (by omega) htl hW;unfold zp9 at hT
  rwa [hT] at this
 have HCT : Hid (∀ x W, IntCells W b term -> Calls Tryz.prog 163 #[.slice b term.length cap2, .int .i64 x] W fun e w' => e = .returned (.bool (inL term x)) /\ W = w') := fun x W hW => zcs b cap2 term x W htl hW
 clear hx hy hb0 q0 q1 hcz ht hn hT;go_enter Tryz.func90, Tryz.ntmps90;go_wp2_with fail;rw [<- hw0];refine HC.out.mono ?_;rintro e w1 ⟨rfl, hb1⟩;have R0 := lh (Q0.out.later hb1);have R1 := lh (Q1.out.later hb1);have HB1 := lh (HB0.out.trans (hb1.mono HB0.out.size));have c0 := R0.out.cell 0;have c1 := R0.out.cell 1;have s1 : w.heap.size + 1 < w1.heap.size := R1.out.lt
 have s0 : w.heap.size < w1.heap.size := by omega
 clear hb1 hw0;go_wp2_with fail;refine (HTB.out _ (HY.out.keep HB1.out)).mono ?_;rintro e wq ⟨rfl, hwq⟩;obtain rfl := hwq
 obtain ⟨ob, hob⟩ : ∃ ob, ob = w1.heap.size := ⟨_, rfl⟩
 have HIN : Hid (GVR n term t a cap w w1.heap.size (w1.alloc (.cells #[.int .i64 n, .slice none 0 0] 39)) (.int .i64 0)) :=
  ⟨0, [], none, 0, Nat.zero_le _, rfl, HB1.out.alloc (Nat.le_of_lt s0) _, R0.out.alloc _, R1.out.alloc _, Blk.new _ _ _, OwnS.nil _ _ _, rfl⟩
 rw [<- hob] at HIN;have HOB := lh hob;go_wp2_with fail;rw [<- hob];clear hob
 go_loopw [8] (fun i wr => GVR n term t a cap w ob wr i) (fun i _ => t.length - (intOf i).toNat)
 case atStart => exact HIN.out
 case round =>
  obtain ⟨k, L, oa, oc, hk, rfl, hb, p0, p1, p2, hO, hLX⟩ := hrel;have HB := lh hb;have P0 := lh p0;have P1 := lh p1;have P2 := lh p2;have HO := lh hO;have HLX := lh hLX;have HXR := lh (HX.out.keep hb);have HYR := lh (HY.out.keep hb);have k0 := p0.cell 0;have k1 := p0.cell 1;have z0 := p0.lt;have z1 := p1.lt;have z2 := p2.lt;have HZ : Hid (w.heap.size <= wr.heap.size) := hb.size
  have HOBW : Hid (w.heap.size + 1 < ob) := by rw [HOB.out]; exact s1
  clear hb hO hLX
  by_cases hlt : k < t.length
  ·obtain ⟨b1, off1, ai, ci, rfl, hc1, hi⟩ := HXR.out k hlt
   have hmem : t.getD k [] ∈ t := by rw [List.getD_eq_getElem?_getD, List.getElem?_eq_getElem hlt]; exact List.getElem_mem hlt
   obtain ⟨hcl, hcr⟩ := HT.out.cl _ hmem;have HKN : Hid (givT term (t.take (k + 1)) = if ((t.getD k []).any (inL term)) = true then givT term (t.take k) else givT term (t.take k) ++ [(t.getD k []).filter fun y => !inL term (-y)]) := zq5 term hlt
   have hki : (k : Int) < (t.length : Int) := by omega
   have HI := lh hi
   have HLL : Hid (L.length <= 4096) := by
    show _ <= _
    have h1 := congrArg List.length HLX.out;rw [List.length_map] at h1;have h2 := zdx term (t.take k);rw [List.length_take] at h2;omega
   generalize t.getD k [] = c at *;have HCR := lh hcr;clear hmem hcr hi;go_wp2_with fail
   go_loopw [9, 10, 11] (fun cv is i wi => GVI term c wr wi cv is i) (fun _ _ i _ => c.length - (intOf i).toNat)
   case atStart => exact ⟨0, [], none, 0, false, Nat.zero_le _, rfl, rfl, rfl, rfl, rfl, OwnInts.nil _ _, Below.refl _ _⟩
   case round =>
    obtain ⟨q, ys, ca, cc, bs, hq, rfl, rfl, rfl, hbs, hys, hown, hbi⟩ := hrel
    rename World => wi
    have HBS := lh hbs;have HYS := lh hys;have HOW := lh hown;have HBI := lh hbi;have T0 := lh (P0.out.later hbi);have m1 := T0.out.cell 1;have hc2 := zaa hbi hc1;have HI2 := lh (HI.out.keep hbi);have HY2 := lh (HYR.out.keep hbi);have y0 : w.heap.size < wi.heap.size := T0.out.lt;have HZI : Hid (wr.heap.size <= wi.heap.size) := hbi.size
    have hyl : ys.length <= 128 := by
     rw [hys];refine Nat.le_trans (List.length_filter_le _ _) ?_;rw [List.length_take]; omega
    clear hbs hys hown hbi
    by_cases hqc : q < c.length
    ·obtain ⟨b2, off2, rfl, e0⟩ := HI2.out q hqc
     have hqi : (q : Int) < (c.length : Int) := by omega
     have hyn := HCR.out _ (zbd hqc);have HAN := lh (zoa (inL term) 0 hqc);have HFN := lh (zng (fun y => !inL term (-y)) 0 hqc);generalize c.getD q 0 = y at *
     have hy1 : -128 <= y := by have := hyn.2.1; have := HN.out; omega
     have hy2 : y <= 128 := by have := hyn.2.2; have := HN.out; omega
     have hwr : IntKind.i64.wrap (-y) = -y := IntWalk.i64_in _ (by omega);clear hyn
     cases bs
     case' false =>
      go_wp2_with fail;refine (HCT.out y _ HY2.out).mono ?_;rintro e wq ⟨rfl, hwq⟩;obtain rfl := hwq
     all_goals
      have HCN := lh (HCT.out (-y) wi HY2.out)
      cases hm : inL term (-y) with
      | true =>
        rw [hm] at HCN
        have HFE : Hid ((c.take (q + 1)).filter (fun y => !inL term (-y)) = ys) := by show _ = _; rw [HFN.out, HYS.out]; simp [hm]
        clear hm;go_wp2_with fail;refine HCN.out.mono ?_;rintro e wq ⟨rfl, hwq⟩;obtain rfl := hwq;go_wp2;go_roundw
        case rel => exact ⟨q + 1, ys, ca, cc, _, by omega, by go_num, rfl, rfl, by rw [HAN.out, <- HBS.out]; first | rfl | simp, HFE.out.symm, HOW.out, HBI.out⟩
        case measure => simp [intOf]; omega
      | false =>
        rw [hm] at HCN
        have HFE : Hid ((c.take (q + 1)).filter (fun y => !inL term (-y)) = ys ++ [y]) := by show _ = _; rw [HFN.out, HYS.out]; simp [hm]
        clear hm;go_wp2_with fail;refine HCN.out.mono ?_;rintro e wq ⟨rfl, hwq⟩;obtain rfl := hwq;go_wp2_with (at_builtin; refine zhs rfl _ _ rfl wr.heap.size (.slice ca ys.length cc) ys y rfl HOW.out rfl (by omega) HZI.out ?_);intro v2 w2 hown2 hgrow2 _;have HB2 : Hid (Below wr.heap.size wr w2) := HBI.out.grown hgrow2 HZI.out (fun q hq => (HOW.out.lt q hq).1);obtain ⟨av, cv2, hv2, hcells, _⟩ := hown2.cells;subst hv2;have HO2 := lh hown2;clear hown2 hgrow2 hcells;go_wp2;go_roundw
        case rel => exact ⟨q + 1, ys ++ [y], av, cv2, _, by omega, by go_num, rfl, rfl, by rw [HAN.out, <- HBS.out]; first | rfl | simp, HFE.out.symm, HO2.out, HB2.out⟩
        case measure => simp [intOf]; omega
    ·have hqe : q = c.length := by omega
     subst hqe;rw [List.take_length] at HBS HYS;have HBW := lh (HB.out.trans (HBI.out.mono HZ.out));have T1 := lh (P1.out.later HBI.out);have T2 := lh (P2.out.later HBI.out);have HO2 := lh (HO.out.later HBI.out);have n1 := T2.out.cell 1;have nf := T2.out.fr 1;have nz := T2.out.lt
     cases bs with
     | true =>
       have HKE : Hid (givT term (t.take (k + 1)) = L.map fun e => e.xs) := by show _ = _; rw [HKN.out, <- HBS.out, HLX.out]; rfl
       go_wp2;go_roundw
       case rel => exact ⟨k + 1, L, oa, oc, by omega, by go_num, HBW.out, T0.out, T1.out, T2.out, HO2.out, HKE.out.symm⟩
       case measure => simp [intOf]; omega
     | false =>
       have HKE : Hid (givT term (t.take (k + 1)) = (L ++ [(⟨ca, cc, ys⟩ : Sl)]).map fun e => e.xs) := by show _ = _; rw [HKN.out, <- HBS.out, <- HYS.out, List.map_append, HLX.out]; rfl
       have HEI : Hid (IntIn (fun k => ob < k /\ ¬ (Value.slice oa L.length oc).ownBlock = some k) wi ca ys) := by
        obtain ⟨_, h1⟩ := IntIn.own HOW.out
        exact h1.mono fun k _ hk => ⟨by omega, fun e => by have := (World.ownsRow.lt HO.out.own k e).2; omega⟩
       have HZ2 : Hid (ob + 1 <= wi.heap.size) := nz;go_wp2_with (at_builtin; go_loud (refine zjf (C := #[.slice ca ys.length cc]) zd5 rfl _ _ rfl (ob + 1) (.slice oa L.length oc) L ⟨ca, cc, ys⟩ rfl HO2.out.own rfl rfl rfl (zcp _) (by have := HLL.out; omega) (by decide) HZ2.out ?_));intro g5 cap5 w5 ho5 hg5 hgn5;have hO5 := HO2.out.push HEI.out ho5 hg5 hgn5
       have hk5 : Kp (fun k => (Value.slice oa L.length oc).ownBlock = some k) wi w5 := Kp.grown hg5 fun k h => h
       have hlo : ∀ k, (Value.slice oa L.length oc).ownBlock = some k -> ob + 1 <= k := fun k e => (World.ownsRow.lt HO2.out.own k e).1
       have V0 := T0.out.kept hk5 fun e => by have := hlo _ e; have := HOBW.out; omega
       have V1 := T1.out.kept hk5 fun e => by have := hlo _ e; have := HOBW.out; omega
       have V2 := T2.out.kept hk5 fun e => by have := hlo _ e; omega
       have hB5 : Below w.heap.size w w5 := HBW.out.grown hg5 (by have := HZ.out; have := HZI.out; omega) (fun q hq => by have := hlo _ hq; have := HOBW.out; omega);have hks : Kp (fun y => y = ob) w5 (w5.setCell ⟨ob, 1, none⟩ (.slice (some ⟨g5, 0, none⟩) (L.length + 1) cap5)) := Kp.setCell _ _ _ rfl;have r1 := V2.cell 1;have rf := V2.fr 1;have rz := V2.lt
       have hg5' : ob + 1 <= g5 := by
        rcases hgn5 with h | h
        ·exact hlo _ h
        ·have := HZ2.out; omega
       have HF : Hid (GVR n term t (some ⟨b1, off1, none⟩) cap w ob (w5.setCell ⟨ob, 1, none⟩ (.slice (some ⟨g5, 0, none⟩) (L.length + 1) cap5)) (.int .i64 ((k : Int) + 1))) :=
        ⟨k + 1, L ++ [⟨ca, cc, ys⟩], some ⟨g5, 0, none⟩, cap5, by omega, by go_num, hB5.setCell (by have := HOBW.out; show w.heap.size <= ob; omega) _, V0.kept hks (by have := HOBW.out; omega), V1.kept hks (by have := HOBW.out; omega),
          by rw [List.length_append]; exact V2.set 1 _, hO5.kept hks (fun k hk => by omega) (fun k hk => by simp [Value.ownBlock] at hk; omega), HKE.out.symm⟩
       clear ho5 hg5 hgn5 hO5 hk5 hlo V0 V1 V2 hB5 hks hg5';go_wp2;go_roundw
       case rel => exact HF.out
       case measure => simp [intOf]; omega
  ·have hke : k = t.length := by omega
   subst hke
   have HE : Hid (givT term t = L.map fun e => e.xs) := by show _ = _; rw [HLX.out, List.take_length]
   have l0 := p2.cell 0;have l1 := p2.cell 1;have m0 := p1.cell 0;have m1 := p1.cell 1;have fr0 := p1.fr 0;have fr1 := p1.fr 1
   have hbo : w.heap.size + 1 ≠ ob := by have := HOBW.out; omega
   have HLF : Hid (LsIn (fun k => w.heap.size <= k) ((wr.setCell ⟨w.heap.size + 1, 0, none⟩ (.int .i64 n)).setCell ⟨w.heap.size + 1, 1, none⟩ (.slice oa L.length oc)) oa (givT term t)) := by
    have h1 := (HO.out.ls fun k hk => hk).2;rw [<- HE.out] at h1
    exact ((h1.kept (M := fun y => y = w.heap.size + 1) (Kp.trans (M := fun y => y = w.heap.size + 1) (Kp.setCell wr ⟨w.heap.size + 1, 0, none⟩ (.int .i64 n) rfl) (Kp.setCell _ ⟨w.heap.size + 1, 1, none⟩ (.slice oa L.length oc) rfl)) (fun k hk => by have := HOBW.out; omega))).mono fun k _ hk => by have := HOBW.out; omega
   have HLE : Hid ((givT term t).length = L.length) := by show _ = _; rw [HE.out, List.length_map]
   clear p0 p1 p2;go_wp2;exact bodyPost_ret (v := .tuple #[.agg #[.int .i64 n, .slice oa L.length oc], .int .i64 0]) (by simp [results, Tryz.results90, go_sem, z1, m0, m1]) rfl ⟨oa, oc, by rw [HLE.out], HLF.out, (HB.out.setCell (Nat.le_succ _) _).setCell (Nat.le_succ _) _⟩
def acc (s f : Int -> Bool) (x : Nd) (m : Nat) : Bool := evNd s f ⟨x.kind, x.lit, x.ins.take m⟩
theorem zvs {s f : Int -> Bool} {x : Nd} {m : Nat} (hm : m < x.ins.length) (h : x.kind = 3) : acc s f x (m + 1) = (acc s f x m && f x.ins[m]) := by
 unfold acc evNd; simp only; rw [if_neg (by omega), if_neg (by omega), if_pos h, if_neg (by omega), if_neg (by omega), if_pos h, List.take_succ_eq_append_getElem hm, List.all_append]; simp
theorem zw3 {s f : Int -> Bool} {x : Nd} {m : Nat} (hm : m < x.ins.length) (h : x.kind = 4) : acc s f x (m + 1) = (acc s f x m || f x.ins[m]) := by
 unfold acc evNd; simp only;rw [if_neg (by omega), if_neg (by omega), if_neg (by omega), if_pos h, if_neg (by omega), if_neg (by omega), if_neg (by omega), if_pos h, List.take_succ_eq_append_getElem hm, List.any_append]; simp
theorem zvt (s f : Int -> Bool) (x : Nd) : acc s f x x.ins.length = evNd s f x := by unfold acc; rw [List.take_length]
theorem zsp {s f : Int -> Bool} {x : Nd} : acc s f x 0 = if x.kind = 1 then true else if x.kind = 2 then zbw s x.lit else decide (x.kind = 3) := by
 unfold acc evNd; simp only [List.take_zero]
 by_cases h1 : x.kind = 1
 ·simp [h1]
 ·by_cases h2 : x.kind = 2
  ·simp [h2]
  ·by_cases h3 : x.kind = 3
   ·simp [h3]
   ·simp [h1, h2, h3]
theorem ztp {x : Nd} {n b : Int} (h : ndOk x n b = true) (hi : x.ins ≠ []) : x.kind = 3 \/ x.kind = 4 := by
 have hk := zid h;simp only [ndOk, Bool.and_eq_true] at h;have h2 := h.2;unfold zcr at h2
 by_cases h0 : x.kind = 0 \/ x.kind = 1
 ·rw [if_pos h0] at h2; simp at h2; exact absurd h2.2 hi
 ·rw [if_neg h0] at h2
  by_cases h3 : x.kind = 2
  ·rw [if_pos h3] at h2; simp at h2; exact absurd h2.2 hi
  ·omega
theorem zp0 (n : Int) (a : Option Addr) (cap : Nat) (l : List Nd) (s : St) (w : World) (hok : zdi ⟨n, l⟩ = true) (hx : NdCells w a l) (hs : s.ok) :
 Calls Tryz.prog 81 #[.agg #[.int .i64 n, .slice a l.length cap], stv s] w fun e w' => ∃ g cap', e = .returned (.slice (some ⟨g, 0, none⟩) l.length cap') /\ OwnL bc 4 1 w' w.heap.size (.slice (some ⟨g, 0, none⟩) l.length cap') (zc7 s.mem l) /\ Below w.heap.size w w' := by
 have hb0 : Below w.heap.size w ((w.alloc (.cells #[.int .i64 n, .slice a l.length cap] 24)).alloc (.cells #[.int .u64 (s.a : Int), .int .u64 (s.b : Int)] 54)) := ((Below.refl _ _).alloc (Nat.le_refl _) _).alloc (by simp) _;have HB0 := lh hb0;have HX := lh hx;have q0 := lh ((Blk.new w #[.int .i64 n, .slice a l.length cap] 24).alloc (.cells #[.int .u64 (s.a : Int), .int .u64 (s.b : Int)] 54));have q1 := lh (Blk.new' (w.alloc (.cells #[.int .i64 n, .slice a l.length cap] 24)) (World.size_alloc _ _) #[.int .u64 (s.a : Int), .int .u64 (s.b : Int)] 54);have HK := lh hok;have HS := lh hs;obtain ⟨_, _, hl1, hl2⟩ := zcv hok
 simp only at hl1 hl2;have HL1 := lh hl1
 have HZ0 : Hid (((w.alloc (.cells #[.int .i64 n, .slice a l.length cap] 24)).alloc (.cells #[.int .u64 (s.a : Int), .int .u64 (s.b : Int)] 54)).heap.size = w.heap.size + 2) := by show _ = _; simp
 clear hb0 hx hok hs hl1;go_enter Tryz.func81, Tryz.ntmps81;go_wp2;generalize (w.alloc (.cells #[.int .i64 n, .slice a l.length cap] 24)).alloc (.cells #[.int .u64 (s.a : Int), .int .u64 (s.b : Int)] 54) = W at *
 go_loopw [5, 6] (fun v i wr => ∃ k : Nat, k <= l.length /\ i = .int .i64 k /\ OwnL bc 4 1 wr (w.heap.size + 2) v (zc7 s.mem (l.take k)) /\ Below (w.heap.size + 2) W wr) (fun _ i _ => l.length - (intOf i).toNat)
 case atStart => exact ⟨0, Nat.zero_le _, rfl, OwnL.nil _ _, Below.refl _ _⟩
 case round =>
  obtain ⟨k, hk, rfl, hown, hb⟩ := hrel;obtain ⟨ao, capv, rfl⟩ := hown.sliced;have HO := lh hown;have HBW := lh hb;have HBA := lh (HB0.out.trans (hb.mono (by omega)));have Q0 := lh (q0.out.laterB hb (by omega));have Q1 := lh (q1.out.laterB hb (by omega));have k0 : wr.cell? ⟨w.heap.size, 0, none⟩ = some (.int .i64 n) := Q0.out.cell 0;have k1 : wr.cell? ⟨w.heap.size, 1, none⟩ = some (.slice a l.length cap) := Q0.out.cell 1;have hzw : w.heap.size + 1 < wr.heap.size := Q1.out.lt
  have htl : (zc7 s.mem (l.take k)).length = k := by rw [zcl, List.length_take]; omega
  clear hown hb
  by_cases hlt : k < l.length
  ·obtain ⟨b, off, rfl, c0', c1', av, cv, c2', hin, hil⟩ := HX.out k hlt
   have hgd : l.getD k default = l[k] := by simp [List.getD_eq_getElem?_getD, hlt]
   rw [hgd] at c0' c1' c2' hin hil;have hbw : b < w.heap.size := zak c0';have c0 := HBA.out.cell (p := ⟨b, off + k * 3, none⟩) hbw;have c1 := HBA.out.cell (p := ⟨b, off + k * 3 + 1, none⟩) hbw;have c2 := HBA.out.cell (p := ⟨b, off + k * 3 + 2, none⟩) hbw;rw [c0'] at c0;rw [c1'] at c1;rw [c2'] at c2;have HNK := lh (ztz HK.out hlt)
   have HTS : Hid (zc7 s.mem (l.take (k + 1)) = zc7 s.mem (l.take k) ++ [evNd s.mem (at' (zc7 s.mem (l.take k))) l[k]]) := by
    show _ = _; rw [List.take_succ_eq_append_getElem hlt, zkp]
   simp only at HNK;generalize l[k] = x at *;generalize zc7 s.mem (l.take k) = vs at *;have HTL := lh htl;have HIN := lh hin;have hbz : b < wr.heap.size := zak c0;have HA0 := lh (zsp (s := s.mem) (f := at' vs) (x := x));have HAE := lh (zvt s.mem (at' vs) x);have HBLK := lh (Blk.new wr #[.int .i64 x.kind, .int .i64 x.lit, .slice av x.ins.length cv] 67);clear hin hgd htl c0' c1' c2'
   rcases x with ⟨kd, lt, ins⟩
   simp only at *
   go_upto_region 6 with fail
   go_cut [8] (fun c wx => c = .bool (acc s.mem (at' vs) ⟨kd, lt, ins⟩ 0) /\ Below wr.heap.size wr wx /\ Blk wx wr.heap.size #[.int .i64 kd, .int .i64 lt, .slice av ins.length cv] 67)
   case first =>
    have hk5 := zid HNK.out;simp only at hk5;have s0 : (wr.alloc (.cells #[.int .i64 kd, .int .i64 lt, .slice av ins.length cv] 67)).cell? ⟨w.heap.size + 1, 0, none⟩ = some (.int .u64 (s.a : Int)) := (Q1.out.alloc _).cell 0;have s1 : (wr.alloc (.cells #[.int .i64 kd, .int .i64 lt, .slice av ins.length cv] 67)).cell? ⟨w.heap.size + 1, 1, none⟩ = some (.int .u64 (s.b : Int)) := (Q1.out.alloc _).cell 1;have HB6 := lh ((Below.refl wr.heap.size wr).alloc (Nat.le_refl _) (.cells #[.int .i64 kd, .int .i64 lt, .slice av ins.length cv] 67))
    rcases hk5 with rfl | rfl | rfl | rfl | rfl
    ·go_wp2_with fail
     go_meet
     exact ⟨by rw [HA0.out]; rfl, HB6.out, HBLK.out⟩
    ·go_wp2_with fail
     go_meet
     exact ⟨by rw [HA0.out]; rfl, HB6.out, HBLK.out⟩
    ·have HH := lh (fun V => zpz s lt V HS.out);go_wp2_with fail;refine (HH.out _).mono ?_;rintro e w5 ⟨rfl, hb5⟩;have HB7 := lh (HB6.out.trans (hb5.mono HB6.out.size));have HK7 := lh (HBLK.out.later hb5);clear hb5;go_wp2_with fail
     go_meet
     exact ⟨by rw [HA0.out]; rfl, HB7.out, HK7.out⟩
    ·go_wp2_with fail
     go_meet
     exact ⟨by rw [HA0.out]; rfl, HB6.out, HBLK.out⟩
    ·go_wp2_with fail
     go_meet
     exact ⟨by rw [HA0.out]; rfl, HB6.out, HBLK.out⟩
   case rest =>
    obtain ⟨rfl, hbc, hkc⟩ := hcut
    obtain ⟨wx, rfl⟩ : ∃ wx : World, wx = wc := ⟨_, rfl⟩
    have HBX := lh hbc;have HBXA := lh (HBA.out.trans (hbc.mono HBA.out.size));have HBXW := lh (HBW.out.trans (hbc.mono (by have := Q1.out.lt; omega)));have HOX := lh (HO.out.later hbc);have d0 : wx.cell? ⟨wr.heap.size, 0, none⟩ = some (.int .i64 kd) := hkc.cell 0;have d2 : wx.cell? ⟨wr.heap.size, 2, none⟩ = some (.slice av ins.length cv) := hkc.cell 2;have HZX := lh HBX.out.size;clear hbc hkc k0 k1 c0 c1 c2;go_wp2_with fail
    go_loop [8, 9] (fun c i => ∃ m : Nat, m <= ins.length /\ i = .int .i64 m /\ c = .bool (acc s.mem (at' vs) ⟨kd, lt, ins⟩ m)) (fun _ i => ins.length - (intOf i).toNat)
    case atStart => exact ⟨0, Nat.zero_le _, rfl, rfl⟩
    case round =>
     obtain ⟨m, hm, rfl, rfl⟩ := hrel
     by_cases hlm : m < ins.length
     ·obtain ⟨b2, off2, rfl, e0'⟩ := HIN.out m hlm
      have hgd : ins.getD m 0 = ins[m] := by simp [List.getD_eq_getElem?_getD, hlm]
      have hq := zty HNK.out ins[m] (List.getElem_mem hlm);have hkk := ztp HNK.out (show ins ≠ [] from fun e => by rw [e] at hlm; simp at hlm)
      have hand := fun h => zvs (s := s.mem) (f := at' vs) (x := ⟨kd, lt, ins⟩) (m := m) hlm h
      have hor := fun h => zw3 (s := s.mem) (f := at' vs) (x := ⟨kd, lt, ins⟩) (m := m) hlm h
      simp only at hkk hand hor;rw [hgd] at e0';generalize ins[m] = y at *;have hb2w : b2 < w.heap.size := zak e0';have e0 := HBXA.out.cell (p := ⟨b2, off2 + m, none⟩) hb2w;rw [e0'] at e0;obtain ⟨q, rfl⟩ := Int.eq_ofNat_of_zero_le hq.1
      have hqk : q < vs.length := by have := HTL.out; omega
      have hyv : at' vs (q : Int) = vs[q] := by unfold at'; simp [List.getD_eq_getElem?_getD, hqk]
      rw [hyv] at hand hor
      obtain ⟨g, rfl⟩ : ∃ g, ao = some ⟨g, 0, none⟩ := by
       rcases HOX.out.shape with ⟨_, h⟩ | ⟨g, cap'', h, _⟩
       ·rw [h] at hqk; simp at hqk
       ·simp only [Value.slice.injEq] at h; exact ⟨g, h.1⟩
      have f0 : wx.cell? ⟨g, q, none⟩ = some (.bool vs[q]) := by have := HOX.out.cell rfl zht q 0 hqk (by omega); simpa [bc] using this
      have hqi : (q : Int) < (vs.length : Int) := by have := hq.2; omega
      have HAND := lh hand;have HOR := lh hor;generalize vs[q] = d at *;generalize hcm : acc s.mem (at' vs) ⟨kd, lt, ins⟩ m = c at *;have HCM := lh hcm;clear hand hor hyv hgd e0' hq hcm
      rcases hkk with rfl | rfl
      all_goals
       cases c
       all_goals
        go_wp2_with fail;go_round
        case rel => exact ⟨m + 1, by omega, by go_num, by first | (rw [HAND.out rfl]; try rfl) | (rw [HOR.out rfl]; try rfl)⟩
        case measure => simp [intOf]; omega
     ·have : m = ins.length := by omega
      subst this;have hae := HAE.out;rw [hae];generalize hev : evNd s.mem (at' vs) ⟨kd, lt, ins⟩ = c at *;have HEV := lh hev;clear hae hev;go_wp2_with (at_builtin; refine app1 (C := #[.bool c]) zk0 rfl _ _ rfl (w.heap.size + 2) _ _ _ rfl HOX.out rfl rfl (by simp [Value.oneCell']) (by unfold maxLen; have := HTL.out; omega) (by have := HTL.out; omega) (by have := HZX.out; have := Q1.out.lt; omega) ?_);intro v' w8 hown8 hgrow8 _
      have ho8 : OwnL bc 4 1 w8 (w.heap.size + 2) v' (vs ++ [c]) := by unfold OwnL; rw [List.length_append, List.flatMap_append]; simpa [bc] using hown8
      have HO8 := lh ho8
      have HB8 : Hid (Below (w.heap.size + 2) W w8) := HBXW.out.grown hgrow8 (by have := HZX.out; have := Q1.out.lt; omega) (fun g hg => by
       rcases HOX.out.shape with ⟨h, _⟩ | ⟨g', cap'', h, h2, _⟩
       ·rw [h] at hg; simp [Value.ownBlock] at hg
       ·rw [h] at hg; simp [Value.ownBlock] at hg; omega)
      clear hown8 hgrow8 ho8;go_wp2;go_roundw
      case rel => exact ⟨k + 1, by omega, by go_num, by rw [HTS.out]; exact HO8.out, HB8.out⟩
      case measure => simp [intOf]; omega
  ·have : k = l.length := by omega
   subst this;have ho := HO.out;rw [htl, List.take_length] at ho
   obtain ⟨g, rfl⟩ : ∃ g, ao = some ⟨g, 0, none⟩ := by
    rcases ho.shape with ⟨_, h⟩ | ⟨g, cap'', h, _⟩
    ·have h2 := zcl s.mem l; rw [h] at h2; have := HL1.out; simp at h2; omega
    ·simp only [Value.slice.injEq] at h; exact ⟨g, h.1⟩
   have HOE := lh (ho.lower (show w.heap.size <= w.heap.size + 2 by omega));clear ho;go_wp2;rw [htl];go_ret;exact ⟨g, capv, rfl, HOE.out, HBA.out⟩
end Go.Proofs.YtkaojolofaanfaaGreatDoor
