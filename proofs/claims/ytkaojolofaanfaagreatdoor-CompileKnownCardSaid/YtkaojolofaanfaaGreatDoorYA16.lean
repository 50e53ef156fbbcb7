/- Part of the proofs that laws of censuslaw24 return true for every input, where the tables that the rows list are laid. Texts: CpN, CpE. -/
import Derived.Test.YtkaojolofaanfaaGreatDoorYA15
import Derived.Test.YtkaojolofaanfaaGreatDoorYA3
import Derived.Test.YtkaojolofaanfaaGreatDoorYA1
set_option maxHeartbeats 8000000
set_option maxRecDepth 100000
set_option linter.unusedSimpArgs false
set_option linter.unusedVariables false
namespace Go.Proofs.YtkaojolofaanfaaGreatDoor
open Go.RowKit Cen
theorem zk1 : Elem 112 159 2 32 (.agg #[.slice none 0 0, .int .i64 0]) := .mk Tryz.underlying112 (by kernel_rfl) rfl (by decide)
def CsIn (w : World) (base : Nat) (v : Value) (l : List Ce) : Prop := ∀ e ∈ l, e.xs.length <= 1073741824 /\ litB e.xs /\ IntCells w e.a e.xs /\ ∀ p, e.a = some p -> base <= p.block /\ p.block < w.heap.size /\ ¬ v.ownBlock = some p.block
theorem CsIn.nil (w : World) (base : Nat) (v : Value) : CsIn w base v [] := fun e h => by simp at h
theorem CsIn.ok {w : World} {base g n cap : Nat} {l : List Ce} (h : CsIn w base (.slice (some ⟨g, 0, none⟩) n cap) l) : CsOk w g l := fun e he => by
 obtain ⟨h1, h2, h3, h4⟩ := h e he;exact ⟨h1, h2, h3, fun p hp e' => (h4 p hp).2.2 (by rw [e']; rfl)⟩
theorem CsIn.kept {w w' : World} {base : Nat} {v v' : Value} {l : List Ce} (h : CsIn w base v l) (hk : Kp (fun y => v.ownBlock = some y) w w') (hv : ∀ k, v'.ownBlock = some k -> v.ownBlock = some k \/ w.heap.size <= k) : CsIn w' base v' l := fun e he => by
 obtain ⟨h1, h2, h3, h4⟩ := h e he;refine ⟨h1, h2, h3.kept hk fun p hp => (h4 p hp).2.2, fun p hp => ?_⟩;obtain ⟨k1, k2, k3⟩ := h4 p hp;refine ⟨k1, Nat.lt_of_lt_of_le k2 hk.size, fun e' => ?_⟩
 rcases hv _ e' with h5 | h5
 ·exact k3 h5
 ·omega
theorem CsIn.sub {w : World} {base : Nat} {v : Value} {l m : List Ce} (h : CsIn w base v l) (hm : ∀ e ∈ m, e ∈ l) : CsIn w base v m := fun e he => h e (hm e he)
def AtN (n : Nat) (t : List Cl) (k : Nat) (l : List Ce) : Prop := ∀ e ∈ l, ∃ j : Nat, j < k /\ e.i = j /\ taut (t.getD j []) = false /\ e.xs = zaw n (t.getD j [])
structure NrmSt (n : Nat) (t : List Cl) (B k : Nat) (w : World) (v : Value) (l : List Ce) : Prop where
 own : OwnC w B v l
 ins : CsIn w B v l
 at' : AtN n t k l
 xs : (l.map fun e => e.xs) = ((t.take k).filter fun c => !taut c).map (zaw n)
def zvp (n : Nat) (t : List Cl) (w : World) (e : Ending) (w' : World) : Prop :=
 ∃ v l, e = .returned v /\ OwnC w' w.heap.size v l /\ CsIn w' w.heap.size v l /\ AtN n t t.length l /\ (l.map fun e => e.xs) = zab n t /\ Below w.heap.size w w'
theorem NrmSt.skip {n : Nat} {t : List Cl} {B k : Nat} {w : World} {v : Value} {l : List Ce} (h : NrmSt n t B k w v l) (hk : k < t.length) (ht : taut (t.getD k []) = true) : NrmSt n t B (k + 1) w v l :=
 ⟨h.own, h.ins, fun e he => let ⟨j, h1, h2⟩ := h.at' e he; ⟨j, by omega, h2⟩, by
   rw [h.xs, List.take_succ_eq_append_getElem hk, List.filter_append, List.map_append]
   have : taut t[k] = true := by rw [<- ht]; simp [List.getD_eq_getElem?_getD, hk]
   simp [this]⟩
theorem NrmSt.len {n : Nat} {t : List Cl} {B k : Nat} {w : World} {v : Value} {l : List Ce} (h : NrmSt n t B k w v l) : l.length <= t.length := by
 have := congrArg List.length h.xs;rw [List.length_map, List.length_map] at this;have h2 := List.length_filter_le (fun c => !taut c) (t.take k);rw [List.length_take] at h2;omega
theorem NrmSt.later {n : Nat} {t : List Cl} {B k : Nat} {w w' : World} {v : Value} {l : List Ce} (h : NrmSt n t B k w v l) (hb : Below w.heap.size w w') : NrmSt n t B k w' v l :=
 ⟨h.own.later hb, h.ins.kept (Kp.below hb) fun _ h => .inl h, h.at', h.xs⟩
theorem zpt (n : Nat) (hn : n <= 128) (a : Option Addr) (cap : Nat) (t : List Cl) (w : World) (hl : t.length <= 1073741823) (hx : LsCells w a t) (ht : ∀ c ∈ t, c.length <= 12 /\ ∀ x ∈ c, x ≠ 0 /\ -(n : Int) <= x /\ x <= n) :
 Calls Tryz.prog 75 #[.agg #[.int .i64 n, .slice a t.length cap]] w (zvp n t w) := by
 have hb0 : Below w.heap.size w (w.alloc (.cells #[.int .i64 n, .slice a t.length cap] 39)) := (Below.refl _ _).alloc (Nat.le_refl _) _
 obtain ⟨w0, hw0⟩ : ∃ w0, w0 = w.alloc (.cells #[.int .i64 n, .slice a t.length cap] 39) := ⟨_, rfl⟩
 have b0 : w0.cell? ⟨w.heap.size, 0, none⟩ = some (.int .i64 n) := by rw [hw0, World.cell?_alloc_at _ _ _ _ rfl]; rfl
 have b1 : w0.cell? ⟨w.heap.size, 1, none⟩ = some (.slice a t.length cap) := by rw [hw0, World.cell?_alloc_at _ _ _ _ rfl]; rfl
 have hs0 : w0.heap.size = w.heap.size + 1 := by rw [hw0]; simp
 rw [<- hw0] at hb0;have HX := lh (hx.keep hb0);have HB0 := lh hb0;have HT := lh ht;have HS0 := lh hs0
 have HIN : Hid (NrmSt n t w0.heap.size 0 w0 (.slice none 0 0) []) := ⟨OwnL.nil _ _, CsIn.nil _ _ _, fun e h => by simp at h, rfl⟩
 clear hx ht hb0 hs0;go_enter Tryz.func75, Tryz.ntmps75;go_wp2_with fail;rw [<- hw0];clear hw0;go_wp2_with fail
 go_loopw [3, 12] (fun v i wr => ∃ k : Nat, k <= t.length /\ i = .int .i64 k /\ Below w0.heap.size w0 wr /\ ∃ l va vc, v = .slice va l.length vc /\ NrmSt n t w0.heap.size k wr (.slice va l.length vc) l) (fun _ i _ => t.length - (intOf i).toNat)
 case atStart => exact ⟨0, Nat.zero_le _, rfl, Below.refl _ _, [], none, 0, rfl, HIN.out⟩
 case round =>
  obtain ⟨k, hk, rfl, hb, l, va, vc, rfl, hst⟩ := hrel;have HB := lh hb;have HST := lh hst;have hle := hst.len;clear hb hst
  by_cases hlt : k < t.length
  ·obtain ⟨b, off, ai, ci, rfl, hc1, hi⟩ := HX.out.keep HB.out k hlt;have b2 := zaa HB.out b0
   have hmem : t.getD k [] ∈ t := by rw [List.getD_eq_getElem?_getD, List.getElem?_eq_getElem hlt]; exact List.getElem_mem hlt
   obtain ⟨hlen, hval⟩ := HT.out _ hmem
   obtain ⟨c, hc⟩ : ∃ c, c = t.getD k [] := ⟨_, rfl⟩
   rw [<- hc] at hc1 hi hlen hval;have HCE := lh hc;have HCL := lh (zk7 n hn ai ci c wr hlen hi hval);have HVL := lh hval
   have hki : (k : Int) < (t.length : Int) := by omega
   clear hmem hlen hval hi hc;go_wp2_with fail;refine HCL.out.mono ?_;rintro e w2 ⟨v2, rfl, hown2, hdl, hb2⟩;have HST2 := lh (HST.out.later hb2);have HB2 := lh (HB.out.trans (hb2.mono HB.out.size));have HLT := lh (show ∀ g, (Value.slice va l.length vc).ownBlock = some g -> g < wr.heap.size from fun g hg => (World.ownsRow.lt HST.out.own g hg).2)
   cases htc : taut c with
   | true =>
     have HS := lh (HST2.out.skip hlt (by rw [<- HCE.out]; exact htc));clear hown2 hb2 htc;go_wp2;go_roundw
     case rel => exact ⟨k + 1, by omega, by go_num, HB2.out, l, va, vc, rfl, HS.out⟩
     case measure => simp [intOf]; omega
   | false =>
     obtain ⟨av, cv, rfl, hcells, hav⟩ := (zaq.2 hown2).cells;have hlt2 := (zaq.2 hown2).lt;have HTC := lh htc;have HCE2 := lh hcells;have HAV := lh hav;have HL2 := lh hlt2;have HDL := lh hdl;have HSZ := lh hb2.size;have HSZ2 : Hid (w0.heap.size <= w2.heap.size) := HB2.out.size;have HLL := lh (show l.length <= 1073741824 by omega);clear hcells hav hlt2 hown2 hb2 htc hdl hle
     have HD : Hid (zaw n c = zaw n (t.getD k [])) := by show _ = _; rw [HCE.out]
     have hdb : litB (zaw n c) := fun x hx => by obtain ⟨_, _, h1, h2⟩ := zbi.1 hx; exact ⟨by omega, by omega⟩
     have HDB := lh hdb;clear hdb;generalize zaw n c = d at *;go_wp2_with (at_builtin; go_loud (refine zjf (C := #[.slice av d.length cv, .int .i64 k]) zk1 rfl _ _ rfl w0.heap.size (.slice va l.length vc) l ⟨av, cv, d, k⟩ rfl HST2.out.own rfl rfl rfl (by intro u hu; simp [ce] at hu; rcases hu with rfl | rfl <;> rfl) HLL.out (by decide) HSZ2.out ?_));intro g cap5 w5 ho5 hg5 hgn
     have HN : Hid (NrmSt n t w0.heap.size (k + 1) w5 (.slice (some ⟨g, 0, none⟩) (l.length + 1) cap5) (l ++ [⟨av, cv, d, k⟩])) := by
      have hob : ∀ g0, (Value.slice va l.length vc).ownBlock = some g0 -> g0 < wr.heap.size := HLT.out
      have hkp : Kp (fun y => (Value.slice va l.length vc).ownBlock = some y) w2 w5 := Kp.grown hg5 fun k h => h
      have hgn' : ∀ k, (Value.slice (some ⟨g, 0, none⟩) (l.length + 1) cap5).ownBlock = some k -> (Value.slice va l.length vc).ownBlock = some k \/ w2.heap.size <= k := fun k h => by
       cases h; exact hgn
      refine ⟨ho5, fun e he => ?_, fun e he => ?_, ?_⟩
      ·rcases List.mem_append.1 he with he | he
       ·exact (HST2.out.ins.kept hkp hgn') e he
       ·simp only [List.mem_singleton] at he;subst he;refine ⟨Nat.le_trans HDL.out (by decide), HDB.out, HCE2.out.kept hkp fun p hp e' => ?_, fun p hp => ?_⟩
        ·have h1 := hob _ e'; have h2 := (HAV.out p hp).1; omega
        ·subst hp;have h1 := (HAV.out p rfl).1;have h2 := (HL2.out p.block rfl).2;have h3 := HB.out.size;refine ⟨by omega, Nat.lt_of_lt_of_le h2 hkp.size, fun e' => ?_⟩
         rcases hgn' _ e' with h4 | h4
         ·have := hob _ h4; omega
         ·omega
      ·rcases List.mem_append.1 he with he | he
       ·obtain ⟨j, h1, h2⟩ := HST2.out.at' e he; exact ⟨j, by omega, h2⟩
       ·simp only [List.mem_singleton] at he;subst he;exact ⟨k, by omega, rfl, by rw [<- HCE.out]; exact HTC.out, HD.out⟩
      ·have ht1 : t[k] = t.getD k [] := by simp [List.getD_eq_getElem?_getD, hlt]
       have ht2 : taut t[k] = false := by rw [ht1, <- HCE.out]; exact HTC.out
       rw [List.map_append, HST2.out.xs, List.take_succ_eq_append_getElem hlt, List.filter_append, List.map_append];rw [show [t[k]].filter (fun c => !taut c) = [t[k]] by simp [ht2], ht1, show List.map (zaw n) [t.getD k []] = [zaw n (t.getD k [])] from rfl, <- HD.out]
       rfl
     have HB5 : Hid (Below w0.heap.size w0 w5) := HB2.out.trans (Kp.toBelow (Kp.grown (M := fun y => (Value.slice va l.length vc).ownBlock = some y) hg5 fun k h => h) HSZ2.out fun k hk h => by
      have := (World.ownsRow.lt HST.out.own k h).1; omega)
     clear ho5 hg5 hgn;go_wp2;go_roundw
     case rel => exact ⟨k + 1, by omega, by go_num, HB5.out, l ++ [⟨av, cv, d, k⟩], some ⟨g, 0, none⟩, cap5, by rw [List.length_append]; rfl, by rw [List.length_append]; exact HN.out⟩
     case measure => simp [intOf]; omega
  ·have hke : k = t.length := by omega
   subst hke
   have HXS : Hid ((l.map fun e => e.xs) = (t.filter fun c => !taut c).map (zaw n)) := by
    show _ = _
    rw [HST.out.xs, List.take_length]
   have HSB := lh (HB0.out.trans (HB.out.mono HB0.out.size));have HZ : Hid (w.heap.size <= w0.heap.size) := HB0.out.size
   rcases HST.out.own.shape with ⟨hv, h0⟩ | ⟨g, cp, hv, hg1, hg2⟩
   ·simp only [Value.slice.injEq] at hv;obtain ⟨rfl, _, rfl⟩ := hv;subst h0
    have HNF : Hid (zab n t = []) := by
     show _ = _
     unfold zab;rw [<- HXS.out]; rfl
    go_wp2_with fail;refine (zmv _).mono ?_;rintro e w2 ⟨rfl, rfl⟩;go_wp2;go_ret;exact ⟨_, [], rfl, OwnL.nil _ _, CsIn.nil _ _ _, fun e h => by simp at h, HNF.out.symm, HSB.out⟩
   ·simp only [Value.slice.injEq] at hv;obtain ⟨rfl, _, rfl⟩ := hv;have HOR := lh (zi0 g vc w0.heap.size l wr HST.out.own HST.out.ins.ok (by omega));have HG1 := lh hg1;clear hg1 hg2;go_wp2_with fail;refine HOR.out.mono ?_;rintro e w2 ⟨l', rfl, hown, hxs, hsub, hkp⟩;have HO2 := lh (hown.lower HZ.out)
    have HC2 : Hid (CsIn w2 w.heap.size (.slice (some ⟨g, 0, none⟩) l'.length vc) l') := by
     have h1 := (HST.out.ins.sub hsub).kept (hkp.mono fun k _ h => by rw [h]; rfl) (v' := .slice (some ⟨g, 0, none⟩) l'.length vc) (fun k h => .inl h)
     exact fun e he => let ⟨a1, a2, a3, a4⟩ := h1 e he; ⟨a1, a2, a3, fun p hp => ⟨Nat.le_trans HZ.out (a4 p hp).1, (a4 p hp).2⟩⟩
    have HAT : Hid (AtN n t t.length l') := fun e he => HST.out.at' e (hsub e he)
    have HNF : Hid ((l'.map fun e => e.xs) = zab n t) := by
     show _ = _
     rw [hxs, HXS.out]; rfl
    have HBB := lh (HSB.out.trans (hkp.fresh (Nat.le_trans HZ.out HG1.out) HSB.out.size));clear hown hxs hsub hkp;go_wp2;go_ret;exact ⟨_, l', rfl, HO2.out, HC2.out, HAT.out, HNF.out, HBB.out⟩
theorem zem (n : Int) (a : Option Addr) (cap : Nat) (t : List Cl) (w : World) (hl : t.length <= 1073741824) (hs : ∀ c ∈ t, c.length <= 1073741824) (hx : LsCells w a t) :
 Calls Tryz.prog 49 #[.agg #[.int .i64 n, .slice a t.length cap]] w fun e w' => e = .returned (.int .i64 (chkT n t)) /\ Below w.heap.size w w' := by
 have hb0 : Below w.heap.size w (w.alloc (.cells #[.int .i64 n, .slice a t.length cap] 39)) := (Below.refl _ _).alloc (Nat.le_refl _) _;have HB0 := lh hb0
 by_cases hn : n < 0 \/ 128 < n
 ·have HR : Hid (chkT n t = 6) := by show _ = _; unfold chkT; rw [if_pos hn]
  clear hx hb0
  rcases hn with hn | hn
  ·go_enter Tryz.func49, Tryz.ntmps49;go_wp2;go_ret;exact ⟨by rw [HR.out]; rfl, HB0.out⟩
  ·have hn0 : ¬ n < 0 := by omega
   go_enter Tryz.func49, Tryz.ntmps49;go_wp2;go_ret;exact ⟨by rw [HR.out]; rfl, HB0.out⟩
 ·have hn0 : 0 <= n := by omega
  have hn1 : n <= 128 := by omega
  by_cases hlt : 4096 < t.length
  ·have HR : Hid (chkT n t = 2) := by show _ = _; unfold chkT; rw [if_neg hn, if_pos hlt]
   have hli : (4096 : Int) < (t.length : Int) := by omega
   clear hx hb0 hn;go_enter Tryz.func49, Tryz.ntmps49;go_wp2;go_ret;exact ⟨by rw [HR.out]; rfl, HB0.out⟩
  ·have HR : Hid (chkT n t = zd8 n (t.drop 0)) := by show _ = _; unfold chkT; rw [if_neg hn, if_neg hlt]; rfl
   have hli : (t.length : Int) <= 4096 := by omega
   have HX := lh (hx.keep hb0);have HS := lh hs
   obtain ⟨w0, hw0⟩ : ∃ w0, w0 = w.alloc (.cells #[.int .i64 n, .slice a t.length cap] 39) := ⟨_, rfl⟩
   rw [<- hw0] at HX HB0
   have b0 : w0.cell? ⟨w.heap.size, 0, none⟩ = some (.int .i64 n) := by rw [hw0, World.cell?_alloc_at _ _ _ _ rfl]; rfl
   have b1 : w0.cell? ⟨w.heap.size, 1, none⟩ = some (.slice a t.length cap) := by rw [hw0, World.cell?_alloc_at _ _ _ _ rfl]; rfl
   clear hx hs hb0 hn;go_enter Tryz.func49, Tryz.ntmps49;go_wp2_with fail;rw [<- hw0];clear hw0;go_wp2_with fail
   go_loopw [22] (fun i wr => ∃ k : Nat, k <= t.length /\ i = .int .i64 k /\ wr = w0 /\ chkT n t = zd8 n (t.drop k)) (fun i _ => t.length - (intOf i).toNat)
   case atStart => exact ⟨0, Nat.zero_le _, rfl, rfl, HR.out⟩
   case round =>
    obtain ⟨k, hk, rfl, rfl, hch⟩ := hrel;have HC := lh hch;clear hch
    by_cases hkt : k < t.length
    ·obtain ⟨b, off, ai, ci, rfl, hc1, hi⟩ := HX.out k hkt;have HD := lh (zjv (n := n) hkt);have hcl := HS.out _ (by rw [List.getD_eq_getElem?_getD, List.getElem?_eq_getElem hkt]; exact List.getElem_mem hkt : t.getD k [] ∈ t)
     have hki : (k : Int) < (t.length : Int) := by omega
     have HI := lh hi;clear hi;generalize t.getD k [] = c at *
     by_cases h128 : 128 < c.length
     ·have hci : (128 : Int) < (c.length : Int) := by omega
      have HE : Hid (chkT n t = 2) := by show _ = _; rw [HC.out, HD.out, if_pos h128]
      go_wp2;go_ret;exact ⟨by rw [HE.out]; rfl, HB0.out⟩
     ·have hci : (c.length : Int) <= 128 := by omega
      have HD2 : Hid (chkT n t = if (c.all fun x => zas x n) = true then zd8 n (t.drop (k + 1)) else 1) := by show _ = _; rw [HC.out, HD.out, if_neg h128]
      go_wp2_with fail
      go_loopw [31] (fun i wi => ∃ q : Nat, q <= c.length /\ i = .int .i64 q /\ wi = wr /\ (c.all fun x => zas x n) = (c.drop q).all fun x => zas x n) (fun i _ => c.length - (intOf i).toNat)
      case atStart => exact ⟨0, Nat.zero_le _, rfl, rfl, rfl⟩
      case round =>
       obtain ⟨q, hq, rfl, hwi, hal⟩ := hrel;obtain rfl := hwi;have HA := lh hal;clear hal
       by_cases hqc : q < c.length
       ·obtain ⟨b2, off2, rfl, e0⟩ := HI.out q hqc
        have hqi : (q : Int) < (c.length : Int) := by omega
        have HDQ : Hid (((c.drop q).all fun x => zas x n) = (zas (c.getD q 0) n && (c.drop (q + 1)).all fun x => zas x n)) := by
         show _ = _; rw [List.drop_eq_getElem_cons hqc, List.all_cons]; simp [List.getD_eq_getElem?_getD, hqc]
        generalize c.getD q 0 = y at *
        cases hy : zas y n with
        | true =>
          have HV := lh (zde y n wr);rw [hy] at HV
          have HN : Hid ((c.all fun x => zas x n) = (c.drop (q + 1)).all fun x => zas x n) := by show _ = _; rw [HA.out, HDQ.out, hy, Bool.true_and]
          clear hy;go_wp2_with fail;refine HV.out.mono ?_;rintro e w' ⟨rfl, rfl⟩;go_wp2;go_roundw
          case rel => exact ⟨q + 1, by omega, by go_num, by first | rfl | trivial, HN.out⟩
          case measure => simp [intOf]; omega
        | false =>
          have HV := lh (zde y n wr);rw [hy] at HV
          have HE : Hid (chkT n t = 1) := by show _ = _; rw [HD2.out, HA.out, HDQ.out, hy, Bool.false_and, if_neg (by simp)]
          clear hy;go_wp2_with fail;refine HV.out.mono ?_;rintro e w' ⟨rfl, rfl⟩;go_wp2;go_ret;exact ⟨by rw [HE.out]; rfl, HB0.out⟩
       ·have hqe : q = c.length := by omega
        subst hqe
        have HN : Hid (chkT n t = zd8 n (t.drop (k + 1))) := by show _ = _; rw [HD2.out, HA.out, List.drop_length]; rfl
        go_wp2;go_roundw
        case rel => exact ⟨k + 1, by omega, by go_num, by first | rfl | trivial, HN.out⟩
        case measure => simp [intOf]; omega
    ·have hke : k = t.length := by omega
     subst hke
     have HE : Hid (chkT n t = 0) := by show _ = _; rw [HC.out, List.drop_length]; rfl
     go_wp2;go_ret;exact ⟨by rw [HE.out]; rfl, HB0.out⟩
end Go.Proofs.YtkaojolofaanfaaGreatDoor
