/- Part of the proofs that laws of censuslaw24 return true for every input, where the tables that the rows list are laid. Texts: Es. -/
import Derived.Test.YtfmmhjphopikgaaGreatDoorYC1
import Derived.Test.YtfmmhjphopikgaaGreatDoorYC39
import Derived.Test.YtfmmhjphopikgaaGreatDoorYC5
set_option maxHeartbeats 8000000
set_option maxRecDepth 100000
set_option linter.unusedSimpArgs false
set_option linter.unusedVariables false
namespace Go.Proofs.YtfmmhjphopikgaaGreatDoor
open Go.RowKit Cen
theorem zkr {n k : Nat} {f : Nat -> Bool} (hk : k < n) (h : f k = true) : (List.range n).any f = true := List.any_eq_true.2 ⟨k, List.mem_range.2 hk, h⟩
theorem zje {n : Nat} {f : Nat -> Bool} (h : ∀ k, k < n -> f k = false) : (List.range n).any f = false := by
 rw [Bool.eq_false_iff]; intro hc;obtain ⟨k, hk, h2⟩ := List.any_eq_true.1 hc;rw [h k (List.mem_range.1 hk)] at h2; simp at h2
theorem zjd (p : Prf) (hp : PfB p) (ta : Option Addr) (tc : Nat) (na : Option Addr) (nc : Nat) (ca : Option Addr) (cc : Nat) (n' : Int) (ra : Option Addr) (rc : Nat) (r : List Cl) (i : Int) (w : World)
 (hn' : n' = p.n) (hr : tOk p.n r) (hi0 : 0 <= i) (hi1 : i < p.N.length) (h : PfAt p w ta na ca) (hrx : LsCells w ra r) :
 Calls Tryz.prog 45 #[.agg #[.int .i64 p.n, .slice ta p.t.length tc, .int .i64 p.n, .slice na p.N.length nc, .slice ca p.C.length cc], .int .i64 i, .agg #[.int .i64 n', .slice ra r.length rc]] w
  fun e w' => e = .returned (.bool (p.acc i r)) /\ Below w.heap.size w w' := by
 subst hn'
 obtain ⟨j, rfl⟩ : ∃ j : Nat, i = (j : Int) := ⟨i.toNat, by omega⟩
 have hjl : j < p.N.length := by omega
 obtain ⟨w0, hw0⟩ : ∃ w0, w0 = (w.alloc (.cells #[.int .i64 p.n, .slice ta p.t.length tc, .int .i64 p.n, .slice na p.N.length nc, .slice ca p.C.length cc] 87)).alloc (.cells #[.int .i64 p.n, .slice ra r.length rc] 24) := ⟨_, rfl⟩
 have hb0 : Below w.heap.size w w0 := by rw [hw0]; exact ((Below.refl _ _).alloc (Nat.le_refl _) _).alloc (by simp) _
 have hs0 : w0.heap.size = w.heap.size + 1 + 1 := by rw [hw0]; simp
 have q0 : Blk w0 w.heap.size #[.int .i64 p.n, .slice ta p.t.length tc, .int .i64 p.n, .slice na p.N.length nc, .slice ca p.C.length cc] 87 := by rw [hw0]; exact (Blk.new w _ _).alloc _
 have q1 : Blk w0 (w.heap.size + 1) #[.int .i64 p.n, .slice ra r.length rc] 24 := by rw [hw0]; exact Blk.new' _ (by simp) _ _
 obtain ⟨nb, noff, hne, d0, d1, xa, xc, d2, hxi, hxl⟩ := h.n j hjl;obtain ⟨hil, hib⟩ := hp.ins hjl;have hnd : nd p.N (j : Int) = p.N.getD j default := rfl
 have HAC : Hid (p.acc j r = if (nd p.N j).kind = 1 then decide (r = []) else if (nd p.N j).kind = 0 then za7 r else if (nd p.N j).kind = 2 then decide (r.length = 1) && hasU r (nd p.N j).lit
  else if (nd p.N j).kind = 3 then p.fit r (nd p.N j).ins
  else decide ((nd p.N j).ins.length = 2) && (List.range p.n).any fun (q : Nat) => p.onv r ((nd p.N j).ins.getD 0 0) ((nd p.N j).ins.getD 1 0) ((q : Int) + 1)) := rfl
 rw [hnd] at HAC;generalize p.acc j r = R at *;generalize p.N.getD j default = x at *;have znb : nb < w.heap.size := zak d0
 obtain ⟨w1, hw1⟩ : ∃ w1, w1 = w0.alloc (.cells #[.int .i64 x.kind, .int .i64 x.lit, .slice xa x.ins.length xc] 48) := ⟨_, rfl⟩
 have hb1 : Below w0.heap.size w0 w1 := by rw [hw1]; exact (Below.refl _ _).alloc (Nat.le_refl _) _
 have hb01 : Below w.heap.size w w1 := hb0.trans (hb1.mono hb0.size);have p0 := q0.later hb1;have p1 := q1.later hb1
 have p2 : Blk w1 (w.heap.size + 1 + 1) #[.int .i64 x.kind, .int .i64 x.lit, .slice xa x.ins.length xc] 48 := by rw [hw1]; exact Blk.new' _ hs0 _ _
 have HP := lh hp;have hpn := hp.ok.n;have HAT := lh h;have HRX := lh hrx;have HB1 := lh hb01;have HIB := lh hib;have HXI := lh hxi;have P0 := lh p0;have P1 := lh p1;have P2 := lh p2;have HR := lh hr
 have hji : (j : Int) < (p.N.length : Int) := by omega
 have hnl : p.N.length <= 65536 := hp.ok.len.2;have hrl : r.length <= 4096 := hr.len;subst hne;clear h hrx hb0 hb1 hb01 hib hxi p0 p1 p2 q0 q1 hr hp hxl hnd
 by_cases k1 : x.kind = 1
 ·have e1 : (x.kind == 1) = true := by simpa using k1
  have HQ : Hid (R = ((r.length : Int) == 0)) := by show _ = _; rw [HAC.o, if_pos k1, Bool.eq_iff_iff]; simp
  clear k1;go_enter Tryz.func45, Tryz.ntmps45;go_wp2_with fail;rw [<- hw0];rw [<- hw1];go_ret;exact ⟨by rw [HQ.o]; rfl, HB1.o⟩
 have e1 : (x.kind == 1) = false := by simpa using k1
 by_cases k0 : x.kind = 0
 ·have e0 : (x.kind == 0) = true := by simpa using k0
  have HQ : Hid (R = za7 r) := by show _ = _; rw [HAC.o, if_neg k1, if_pos k0]
  by_cases hr0 : r.length = 0
  ·have HQ2 : Hid (R = false) := by show _ = _; rw [HQ.o, List.eq_nil_of_length_eq_zero hr0]; rfl
   have d9 : decide ((0 : Int) < (r.length : Int)) = false := by rw [hr0]; rfl
   have d8 : decide (0 < r.length) = false := by rw [hr0]; rfl
   have d7 : ¬ 0 < r.length := by omega
   clear k1 k0 hr0;go_enter Tryz.func45, Tryz.ntmps45;go_wp2_with fail;rw [<- hw0];rw [<- hw1];go_ret;exact ⟨by rw [HQ2.o]; rfl, HB1.o⟩
  obtain ⟨b1, off1, ai, ci, hae, hc1, hi1'⟩ := HRX.o 0 (by omega)
  have HQ2 : Hid (R = (((r.getD 0 []).length : Int) == 0)) := by
   show _ = _
   rw [HQ.o, Bool.eq_iff_iff]
   cases r with
   | nil => simp at hr0
   | cons c r => cases c with
     | nil => simp [za7]
     | cons y c => simp [za7]; omega
  have hc2 : w.cell? ⟨b1, off1, none⟩ = some (.slice ai (r.getD 0 []).length ci) := hc1;have zb1 : b1 < w.heap.size := zak hc1
  have zb1a : b1 < w.heap.size + 1 := by omega
  have zb1b : b1 < w.heap.size + 1 + 1 := by omega
  have hpos : (0 : Int) < (r.length : Int) := by omega
  have hpos2 : 0 < r.length := by omega
  generalize r.getD 0 [] = c at *;subst hae;clear k1 k0 hc1 hi1' hr0;go_enter Tryz.func45, Tryz.ntmps45;go_wp2_with fail;rw [<- hw0];rw [<- hw1];go_ret;exact ⟨by rw [HQ2.o]; rfl, HB1.o⟩
 have e0 : (x.kind == 0) = false := by simpa using k0
 by_cases k2 : x.kind = 2
 ·have e2 : (x.kind == 2) = true := by simpa using k2
  have HQ : Hid (R = (decide (r.length = 1) && hasU r x.lit)) := by show _ = _; rw [HAC.o, if_neg k1, if_neg k0, if_pos k2]
  by_cases hr1 : r.length = 1
  ·have d9 : ((r.length : Int) == 1) = true := by simp; omega
   have HQ2 : Hid (R = hasU r x.lit) := by show _ = _; rw [HQ.o, decide_eq_true hr1]; rfl
   have HHAS := lh (zmf p.n ra rc r x.lit w1 (by omega) (fun c hc => by have := (HR.o.cl c hc).1; omega) (HRX.o.keep HB1.o));clear k1 k0 k2 hr1;generalize hasU r x.lit = Q at *;go_enter Tryz.func45, Tryz.ntmps45;go_wp2_with fail;rw [<- hw0];rw [<- hw1];refine HHAS.o.mono ?_;rintro e w5 ⟨rfl, hb5⟩;have HB5 := lh (HB1.o.trans (hb5.mono HB1.o.size));clear hb5;go_wp2;go_ret;exact ⟨by rw [HQ2.o]; rfl, HB5.o⟩
  have d9 : ((r.length : Int) == 1) = false := by simp; omega
  have HQ2 : Hid (R = false) := by show _ = _; rw [HQ.o, decide_eq_false hr1]; rfl
  clear k1 k0 k2 hr1;go_enter Tryz.func45, Tryz.ntmps45;go_wp2_with fail;rw [<- hw0];rw [<- hw1];go_ret;exact ⟨by rw [HQ2.o]; rfl, HB1.o⟩
 have e2 : (x.kind == 2) = false := by simpa using k2
 by_cases k3 : x.kind = 3
 ·have e3 : (x.kind == 3) = true := by simpa using k3
  have HQ : Hid (R = p.fit r x.ins) := by show _ = _; rw [HAC.o, if_neg k1, if_neg k0, if_neg k2, if_pos k3]
  have HFI := lh (zl9 p HP.o.ok ta tc (some ⟨nb, noff, none⟩) nc ca cc p.n ra rc r xa xc x.ins w1 rfl HR.o hil HIB.o (HAT.o.keep HB1.o) (HRX.o.keep HB1.o) (HXI.o.keep HB1.o));clear k1 k0 k2 k3;generalize p.fit r x.ins = Q at *;go_enter Tryz.func45, Tryz.ntmps45;go_wp2_with fail;rw [<- hw0];rw [<- hw1];refine HFI.o.mono ?_;rintro e w5 ⟨rfl, hb5⟩;have HB5 := lh (HB1.o.trans (hb5.mono HB1.o.size));clear hb5;go_wp2;go_ret;exact ⟨by rw [HQ.o]; rfl, HB5.o⟩
 have e3 : (x.kind == 3) = false := by simpa using k3
 have HQ : Hid (R = (decide (x.ins.length = 2) && (List.range p.n).any fun (q : Nat) => p.onv r (x.ins.getD 0 0) (x.ins.getD 1 0) ((q : Int) + 1))) := by show _ = _; rw [HAC.o, if_neg k1, if_neg k0, if_neg k2, if_neg k3]
 clear k1 k0 k2 k3 HAC
 by_cases h2 : x.ins.length = 2
 ·have d9 : ((x.ins.length : Int) != 2) = false := by simp; omega
  have HQ2 : Hid (R = (List.range p.n).any fun (q : Nat) => p.onv r (x.ins.getD 0 0) (x.ins.getD 1 0) ((q : Int) + 1)) := by show _ = _; rw [HQ.o, decide_eq_true h2]; rfl
  obtain ⟨b1, off1, hae, f0⟩ := HXI.o 0 (by omega);obtain ⟨b2, off2, hae2, f1⟩ := HXI.o 1 (by omega);have ha := HIB.o _ (zbd (show 0 < x.ins.length by omega));have hb := HIB.o _ (zbd (show 1 < x.ins.length by omega));rw [hae] at hae2;simp only [Option.some.injEq, Addr.mk.injEq, and_true] at hae2;obtain ⟨rfl, rfl⟩ := hae2;have f0' : w.cell? ⟨b1, off1, none⟩ = some (.int .i64 (x.ins.getD 0 0)) := f0
  have hi0' : (0 : Int) < (x.ins.length : Int) := by omega
  have hi1' : (1 : Int) < (x.ins.length : Int) := by omega
  have hp0 : 0 < x.ins.length := by omega
  have hp1 : 1 < x.ins.length := by omega
  generalize x.ins.getD 0 0 = a at *;generalize x.ins.getD 1 0 = b at *;have zb1 : b1 < w.heap.size := zak f0';subst hae
  have HSA : Hid (∀ W l, Below w1.heap.size w1 W -> litN p.n l -> Calls Tryz.prog 92 #[.agg #[.int .i64 p.n, .slice ta p.t.length tc, .int .i64 p.n, .slice (some ⟨nb, noff, none⟩) p.N.length nc, .slice ca p.C.length cc], .agg #[.int .i64 p.n, .slice ra r.length rc], .int .i64 a, .int .i64 l] W fun e w' => e = .returned (.bool (p.side r a l)) /\ Below W.heap.size W w') := fun W l hW hl =>
   zkj p HP.o ta tc _ nc ca cc p.n ra rc r a l W rfl HR.o ha.1 ha.2 hl ((HAT.o.keep HB1.o).keep hW) ((HRX.o.keep HB1.o).keep hW)
  have HSB : Hid (∀ W l, Below w1.heap.size w1 W -> litN p.n l -> Calls Tryz.prog 92 #[.agg #[.int .i64 p.n, .slice ta p.t.length tc, .int .i64 p.n, .slice (some ⟨nb, noff, none⟩) p.N.length nc, .slice ca p.C.length cc], .agg #[.int .i64 p.n, .slice ra r.length rc], .int .i64 b, .int .i64 l] W fun e w' => e = .returned (.bool (p.side r b l)) /\ Below W.heap.size W w') := fun W l hW hl =>
   zkj p HP.o ta tc _ nc ca cc p.n ra rc r b l W rfl HR.o hb.1 hb.2 hl ((HAT.o.keep HB1.o).keep hW) ((HRX.o.keep HB1.o).keep hW)
  have HVA : Hid (∀ W, Below w1.heap.size w1 W -> Calls Tryz.prog 91 #[.agg #[.int .i64 p.n, .slice ra r.length rc]] W fun e w' => e = .returned (stv (zbs p.n r)) /\ Below W.heap.size W w') := fun W hW =>
   zjb p.n hpn ra rc r W (by omega) (fun c hc => by have := (HR.o.cl c hc).1; omega) ((HRX.o.keep HB1.o).keep hW)
  have HIN : Hid (∀ v W, 1 <= v -> v <= 128 -> Calls Tryz.prog 90 #[stv (zbs p.n r), .int .i64 v] W fun e w' => e = .returned (.bool ((zbs p.n r).mem v)) /\ Below W.heap.size W w') := fun v W h1 h2 => zvb _ v W ⟨h1, h2⟩ (zhl p.n r)
  have HKS : Hid (∀ w' : World, Below w1.heap.size w1 w' -> w'.cell? ⟨w.heap.size, 0, none⟩ = some (.int .i64 p.n) /\ w'.cell? ⟨w.heap.size, 1, none⟩ = some (.slice ta p.t.length tc) /\ w'.cell? ⟨w.heap.size, 2, none⟩ = some (.int .i64 p.n) /\ w'.cell? ⟨w.heap.size, 3, none⟩ = some (.slice (some ⟨nb, noff, none⟩) p.N.length nc) /\ w'.cell? ⟨w.heap.size, 4, none⟩ = some (.slice ca p.C.length cc) /\ w'.cell? ⟨w.heap.size + 1, 0, none⟩ = some (.int .i64 p.n) /\ w'.cell? ⟨w.heap.size + 1, 1, none⟩ = some (.slice ra r.length rc) /\ w'.cell? ⟨w.heap.size + 1 + 1, 2, none⟩ = some (.slice (some ⟨b1, off1, none⟩) x.ins.length xc) /\ w'.cell? ⟨b1, off1, none⟩ = some (.int .i64 a) /\ w'.cell? ⟨b1, off1 + 1, none⟩ = some (.int .i64 b)) := fun w' h => ⟨(P0.o.later h).cell 0, (P0.o.later h).cell 1, (P0.o.later h).cell 2, (P0.o.later h).cell 3, (P0.o.later h).cell 4, (P1.o.later h).cell 0, (P1.o.later h).cell 1, (P2.o.later h).cell 2, zaa h (zaa HB1.o f0'), zaa h (zaa HB1.o f1)⟩
  clear h2 ha hb f0 f0' f1 zb1;go_enter Tryz.func45, Tryz.ntmps45;go_wp2_with fail;rw [<- hw0];rw [<- hw1]
  go_loopw [8] (fun i wr => ∃ k : Nat, k <= p.n /\ i = .int .i64 ((k : Int) + 1) /\ (∀ q, q < k -> p.onv r a b ((q : Int) + 1) = false) /\ Below w1.heap.size w1 wr) (fun i _ => p.n + 1 - (intOf i).toNat)
  case atStart => exact ⟨0, Nat.zero_le _, rfl, fun j h => absurd h (Nat.not_lt_zero _), Below.refl _ _⟩
  obtain ⟨k, hk, rfl, hno, hb⟩ := hrel;have HN := lh hno;have HBR := lh hb;have HBW := lh (HB1.o.trans (hb.mono HB1.o.size));have q0' := (P0.o.later hb).cell 0;have y0 := (P1.o.later hb).cell 0;have y1 := (P1.o.later hb).cell 1;have yz := (P1.o.later hb).lt;have qz := (P0.o.later hb).lt;clear hno hb
  by_cases hlt : k < p.n
  ·have hkv : (k : Int) + 1 <= (p.n : Int) := by omega
   have HON : Hid (p.onv r a b ((k : Int) + 1) = ((zbs p.n r).mem ((k : Int) + 1) && ((p.side r a ((k : Int) + 1) && p.side r b (-((k : Int) + 1))) || (p.side r a (-((k : Int) + 1)) && p.side r b ((k : Int) + 1))))) := rfl
   have HT : Hid (p.onv r a b ((k : Int) + 1) = true -> R = true) := fun e => by rw [HQ2.o]; exact zkr hlt e
   have HNX : Hid (p.onv r a b ((k : Int) + 1) = false -> ∀ q, q < k + 1 -> p.onv r a b ((q : Int) + 1) = false) := fun he q hq => by
    by_cases e : q = k
    ·subst e; exact he
    exact HN.o q (by omega)
   have HL1 : Hid (litN p.n ((k : Int) + 1)) := ⟨by omega, by omega, by omega⟩
   have HL2 : Hid (litN p.n (-((k : Int) + 1))) := ⟨by omega, by omega, by omega⟩
   have HNEG : Hid (IntKind.i64.wrap (-((k : Int) + 1)) = -((k : Int) + 1)) := IntWalk.i64_in _ (by omega);generalize p.onv r a b ((k : Int) + 1) = ov at HON HT HNX
   obtain ⟨v, hv⟩ : ∃ v : Int, v = (k : Int) + 1 := ⟨_, rfl⟩
   have hv1 : 1 <= v := by omega
   have hv2 : v <= 128 := by omega
   have hvn : v <= (p.n : Int) := by omega
   rw [<- hv] at HON HL1 HL2 HNEG ⊢;have HV := lh hv;have HINV := lh (fun W => HIN.o v W hv1 hv2);clear hv;go_wp2_with fail;refine (HVA.o _ HBR.o).mono ?_;rintro e w3 ⟨rfl, hb3⟩;have HB3 := lh (HBR.o.trans (hb3.mono HBR.o.size));clear hb3 q0' y0 y1 yz qz;go_wp2_with fail;refine (HINV.o _).mono ?_;rintro e w4 ⟨rfl, hb4⟩;have HB4 := lh (HB3.o.trans (hb4.mono HB3.o.size));have zz0 : w.heap.size < w4.heap.size := (P0.o.later HB4.o).lt;have zz1 : w.heap.size + 1 < w4.heap.size := (P1.o.later HB4.o).lt;have zz2 : w.heap.size + 1 + 1 < w4.heap.size := (P2.o.later HB4.o).lt;clear hb4
   cases hmv : (zbs p.n r).mem v with
   | false =>
     have HNN := lh (HNX.o (by rw [HON.o, hmv]; rfl));have hvk := HV.o;subst hvk;clear hmv;go_wp2;go_roundw
     case rel => exact ⟨k + 1, by omega, by go_num, HNN.o, HB4.o⟩
     case measure => simp [intOf]; omega
   | true =>
     have HON2 : Hid (ov = ((p.side r a v && p.side r b (-v)) || (p.side r a (-v) && p.side r b v))) := by show _ = _; rw [HON.o, hmv]; rfl
     clear hmv;have HA1 := lh (fun W hW => HSA.o W v hW HL1.o);have HA2 := lh (fun W hW => HSA.o W (-v) hW HL2.o);have HC1 := lh (fun W hW => HSB.o W v hW HL1.o);have HC2 := lh (fun W hW => HSB.o W (-v) hW HL2.o);generalize p.side r a v = s1 at *;generalize p.side r b (-v) = s2 at *;generalize p.side r a (-v) = s3 at *;generalize p.side r b v = s4 at *
     cases s1
     case false =>
      cases s3
      case false =>
       try simp only [Bool.false_and, Bool.true_and, Bool.and_false, Bool.and_true, Bool.or_false, Bool.false_or, Bool.or_true, Bool.true_or] at HON2
       have hneg := HNEG.o;go_wp2_with fail;refine wp_region_held_drew (S := (fun w' => w'.cell? ⟨w.heap.size, 0, none⟩ = some (.int .i64 p.n) /\ w'.cell? ⟨w.heap.size, 1, none⟩ = some (.slice ta p.t.length tc) /\ w'.cell? ⟨w.heap.size, 2, none⟩ = some (.int .i64 p.n) /\ w'.cell? ⟨w.heap.size, 3, none⟩ = some (.slice (some ⟨nb, noff, none⟩) p.N.length nc) /\ w'.cell? ⟨w.heap.size, 4, none⟩ = some (.slice ca p.C.length cc) /\ w'.cell? ⟨w.heap.size + 1, 0, none⟩ = some (.int .i64 p.n) /\ w'.cell? ⟨w.heap.size + 1, 1, none⟩ = some (.slice ra r.length rc) /\ w'.cell? ⟨w.heap.size + 1 + 1, 2, none⟩ = some (.slice (some ⟨b1, off1, none⟩) x.ins.length xc) /\ w'.cell? ⟨b1, off1, none⟩ = some (.int .i64 a) /\ w'.cell? ⟨b1, off1 + 1, none⟩ = some (.int .i64 b))) (by kernel_rfl) ?_ (fun hHeld => ?_)
       ·try dsimp only
        exact HKS.o _ (HB4.o.trans (Below.refl _ _).drew)
       refine tkV 0 72 rfl rfl ?_; try simp only [tkS]
       refine tkV 1 73 rfl rfl ?_; try simp only [tkS]
       refine tkV 2 74 rfl rfl ?_; try simp only [tkS]
       refine tkV 3 75 rfl rfl ?_; try simp only [tkS]
       refine tkV 4 76 rfl rfl ?_; try simp only [tkS]
       refine tkV 5 77 rfl rfl ?_; try simp only [tkS]
       refine tkV 6 78 rfl rfl ?_; try simp only [tkS]
       refine tkR 7 (.cons rfl (fun K hK => ?_) .nil);go_simp;go_at_call 92;refine (HA1.o _ (HB4.o.trans (Below.refl _ _).drew)).mono ?_;rintro e w11 ⟨rfl, hb11⟩;have hw11 : Below w1.heap.size w1 w11 := Below.trans (HB4.o.trans (Below.refl _ _).drew) (hb11.mono (Below.size (HB4.o.trans (Below.refl _ _).drew)));go_wp2_with fail;refine hK.out _ _ ?_ (fun hHeld => ?_)
       ·try dsimp only
        exact HKS.o _ hw11
       clear hK K
       try simp only [tkS]
       refine tkV 8 80 rfl rfl ?_; try simp only [tkS]
       refine tkO 9 81 rfl rfl ?_; try simp only [tkS]
       refine tkO 10 82 rfl rfl ?_; try simp only [tkS]
       refine tkO 11 83 rfl rfl ?_; try simp only [tkS]
       refine tkO 12 84 rfl rfl ?_; try simp only [tkS]
       refine tkO 13 85 rfl rfl ?_; try simp only [tkS]
       refine tkO 14 86 rfl rfl ?_; try simp only [tkS]
       refine tkO 15 87 rfl rfl ?_; try simp only [tkS]
       refine tkO 16 88 rfl rfl ?_; try simp only [tkS]
       refine tkO 17 89 rfl rfl ?_; try simp only [tkS]
       refine tkV 18 90 rfl rfl ?_; try simp only [tkS]
       refine tkV 19 91 rfl rfl ?_; try simp only [tkS]
       refine tkV 20 92 rfl rfl ?_; try simp only [tkS]
       refine tkV 21 93 rfl rfl ?_; try simp only [tkS]
       refine tkV 22 94 rfl rfl ?_; try simp only [tkS]
       refine tkV 23 95 rfl rfl ?_; try simp only [tkS]
       refine tkV 24 96 rfl rfl ?_; try simp only [tkS]
       refine tkV 25 97 rfl rfl ?_; try simp only [tkS]
       refine tkV 26 98 rfl rfl ?_; try simp only [tkS]
       refine tkV 27 99 rfl rfl ?_; try simp only [tkS]
       refine tkR 28 (.cons rfl (fun K hK => ?_) .nil);go_simp;go_at_call 92;refine (HA2.o _ hw11).mono ?_;rintro e w13 ⟨rfl, hb13⟩;have hw13 : Below w1.heap.size w1 w13 := Below.trans hw11 (hb13.mono (Below.size hw11));go_wp2_with fail;refine hK.out _ _ ?_ (fun hHeld => ?_)
       ·try dsimp only
        exact HKS.o _ hw13
       clear hK K
       try simp only [tkS]
       refine tkV 29 101 rfl rfl ?_; try simp only [tkS]
       refine tkO 30 102 rfl rfl ?_; try simp only [tkS]
       refine tkO 31 103 rfl rfl ?_; try simp only [tkS]
       refine tkO 32 104 rfl rfl ?_; try simp only [tkS]
       refine tkO 33 105 rfl rfl ?_; try simp only [tkS]
       refine tkO 34 106 rfl rfl ?_; try simp only [tkS]
       refine tkO 35 107 rfl rfl ?_; try simp only [tkS]
       refine tkO 36 108 rfl rfl ?_; try simp only [tkS]
       refine tkO 37 109 rfl rfl ?_; try simp only [tkS]
       refine tkV 38 110 rfl rfl ?_; try simp only [tkS]
       refine tkV 39 111 rfl rfl ?_; try simp only [tkS]
       refine wpAnyH_done (by kernel_rfl) ?_ _;have HBE := lh hw13;clear hneg;have HNN := lh (HNX.o HON2.o);have hvk := HV.o;subst hvk;go_wp2;go_roundw
       case rel => exact ⟨k + 1, by omega, by go_num, HNN.o, HBE.o⟩
       case measure => simp [intOf]; omega
      case true =>
       cases s4
       case false =>
        try simp only [Bool.false_and, Bool.true_and, Bool.and_false, Bool.and_true, Bool.or_false, Bool.false_or, Bool.or_true, Bool.true_or] at HON2
        have hneg := HNEG.o;go_wp2_with fail;refine wp_region_held_drew (S := (fun w' => w'.cell? ⟨w.heap.size, 0, none⟩ = some (.int .i64 p.n) /\ w'.cell? ⟨w.heap.size, 1, none⟩ = some (.slice ta p.t.length tc) /\ w'.cell? ⟨w.heap.size, 2, none⟩ = some (.int .i64 p.n) /\ w'.cell? ⟨w.heap.size, 3, none⟩ = some (.slice (some ⟨nb, noff, none⟩) p.N.length nc) /\ w'.cell? ⟨w.heap.size, 4, none⟩ = some (.slice ca p.C.length cc) /\ w'.cell? ⟨w.heap.size + 1, 0, none⟩ = some (.int .i64 p.n) /\ w'.cell? ⟨w.heap.size + 1, 1, none⟩ = some (.slice ra r.length rc) /\ w'.cell? ⟨w.heap.size + 1 + 1, 2, none⟩ = some (.slice (some ⟨b1, off1, none⟩) x.ins.length xc) /\ w'.cell? ⟨b1, off1, none⟩ = some (.int .i64 a) /\ w'.cell? ⟨b1, off1 + 1, none⟩ = some (.int .i64 b))) (by kernel_rfl) ?_ (fun hHeld => ?_)
        ·try dsimp only
         exact HKS.o _ (HB4.o.trans (Below.refl _ _).drew)
        refine tkV 0 72 rfl rfl ?_; try simp only [tkS]
        refine tkV 1 73 rfl rfl ?_; try simp only [tkS]
        refine tkV 2 74 rfl rfl ?_; try simp only [tkS]
        refine tkV 3 75 rfl rfl ?_; try simp only [tkS]
        refine tkV 4 76 rfl rfl ?_; try simp only [tkS]
        refine tkV 5 77 rfl rfl ?_; try simp only [tkS]
        refine tkV 6 78 rfl rfl ?_; try simp only [tkS]
        refine tkR 7 (.cons rfl (fun K hK => ?_) .nil);go_simp;go_at_call 92;refine (HA1.o _ (HB4.o.trans (Below.refl _ _).drew)).mono ?_;rintro e w11 ⟨rfl, hb11⟩;have hw11 : Below w1.heap.size w1 w11 := Below.trans (HB4.o.trans (Below.refl _ _).drew) (hb11.mono (Below.size (HB4.o.trans (Below.refl _ _).drew)));go_wp2_with fail;refine hK.out _ _ ?_ (fun hHeld => ?_)
        ·try dsimp only
         exact HKS.o _ hw11
        clear hK K
        try simp only [tkS]
        refine tkV 8 80 rfl rfl ?_; try simp only [tkS]
        refine tkO 9 81 rfl rfl ?_; try simp only [tkS]
        refine tkO 10 82 rfl rfl ?_; try simp only [tkS]
        refine tkO 11 83 rfl rfl ?_; try simp only [tkS]
        refine tkO 12 84 rfl rfl ?_; try simp only [tkS]
        refine tkO 13 85 rfl rfl ?_; try simp only [tkS]
        refine tkO 14 86 rfl rfl ?_; try simp only [tkS]
        refine tkO 15 87 rfl rfl ?_; try simp only [tkS]
        refine tkO 16 88 rfl rfl ?_; try simp only [tkS]
        refine tkO 17 89 rfl rfl ?_; try simp only [tkS]
        refine tkV 18 90 rfl rfl ?_; try simp only [tkS]
        refine tkV 19 91 rfl rfl ?_; try simp only [tkS]
        refine tkV 20 92 rfl rfl ?_; try simp only [tkS]
        refine tkV 21 93 rfl rfl ?_; try simp only [tkS]
        refine tkV 22 94 rfl rfl ?_; try simp only [tkS]
        refine tkV 23 95 rfl rfl ?_; try simp only [tkS]
        refine tkV 24 96 rfl rfl ?_; try simp only [tkS]
        refine tkV 25 97 rfl rfl ?_; try simp only [tkS]
        refine tkV 26 98 rfl rfl ?_; try simp only [tkS]
        refine tkV 27 99 rfl rfl ?_; try simp only [tkS]
        refine tkR 28 (.cons rfl (fun K hK => ?_) .nil);go_simp;go_at_call 92;refine (HA2.o _ hw11).mono ?_;rintro e w13 ⟨rfl, hb13⟩;have hw13 : Below w1.heap.size w1 w13 := Below.trans hw11 (hb13.mono (Below.size hw11));go_wp2_with fail;refine hK.out _ _ ?_ (fun hHeld => ?_)
        ·try dsimp only
         exact HKS.o _ hw13
        clear hK K
        try simp only [tkS]
        refine tkV 29 101 rfl rfl ?_; try simp only [tkS]
        refine tkV 30 102 rfl rfl ?_; try simp only [tkS]
        refine tkV 31 103 rfl rfl ?_; try simp only [tkS]
        refine tkV 32 104 rfl rfl ?_; try simp only [tkS]
        refine tkV 33 105 rfl rfl ?_; try simp only [tkS]
        refine tkV 34 106 rfl rfl ?_; try simp only [tkS]
        refine tkV 35 107 rfl rfl ?_; try simp only [tkS]
        refine tkV 36 108 rfl rfl ?_; try simp only [tkS]
        refine tkR 37 (.cons rfl (fun K hK => ?_) .nil);go_simp;go_at_call 92;refine (HC1.o _ hw13).mono ?_;rintro e w14 ⟨rfl, hb14⟩;have hw14 : Below w1.heap.size w1 w14 := Below.trans hw13 (hb14.mono (Below.size hw13));go_wp2_with fail;refine hK.out _ _ ?_ (fun hHeld => ?_)
        ·try dsimp only
         exact HKS.o _ hw14
        clear hK K
        try simp only [tkS]
        refine tkV 38 110 rfl rfl ?_; try simp only [tkS]
        refine tkV 39 111 rfl rfl ?_; try simp only [tkS]
        refine wpAnyH_done (by kernel_rfl) ?_ _;have HBE := lh hw14;clear hneg;have HNN := lh (HNX.o HON2.o);have hvk := HV.o;subst hvk;go_wp2;go_roundw
        case rel => exact ⟨k + 1, by omega, by go_num, HNN.o, HBE.o⟩
        case measure => simp [intOf]; omega
       case true =>
        try simp only [Bool.false_and, Bool.true_and, Bool.and_false, Bool.and_true, Bool.or_false, Bool.false_or, Bool.or_true, Bool.true_or] at HON2
        have hneg := HNEG.o;go_wp2_with fail;refine wp_region_held_drew (S := (fun w' => w'.cell? ⟨w.heap.size, 0, none⟩ = some (.int .i64 p.n) /\ w'.cell? ⟨w.heap.size, 1, none⟩ = some (.slice ta p.t.length tc) /\ w'.cell? ⟨w.heap.size, 2, none⟩ = some (.int .i64 p.n) /\ w'.cell? ⟨w.heap.size, 3, none⟩ = some (.slice (some ⟨nb, noff, none⟩) p.N.length nc) /\ w'.cell? ⟨w.heap.size, 4, none⟩ = some (.slice ca p.C.length cc) /\ w'.cell? ⟨w.heap.size + 1, 0, none⟩ = some (.int .i64 p.n) /\ w'.cell? ⟨w.heap.size + 1, 1, none⟩ = some (.slice ra r.length rc) /\ w'.cell? ⟨w.heap.size + 1 + 1, 2, none⟩ = some (.slice (some ⟨b1, off1, none⟩) x.ins.length xc) /\ w'.cell? ⟨b1, off1, none⟩ = some (.int .i64 a) /\ w'.cell? ⟨b1, off1 + 1, none⟩ = some (.int .i64 b))) (by kernel_rfl) ?_ (fun hHeld => ?_)
        ·try dsimp only
         exact HKS.o _ (HB4.o.trans (Below.refl _ _).drew)
        refine tkV 0 72 rfl rfl ?_; try simp only [tkS]
        refine tkV 1 73 rfl rfl ?_; try simp only [tkS]
        refine tkV 2 74 rfl rfl ?_; try simp only [tkS]
        refine tkV 3 75 rfl rfl ?_; try simp only [tkS]
        refine tkV 4 76 rfl rfl ?_; try simp only [tkS]
        refine tkV 5 77 rfl rfl ?_; try simp only [tkS]
        refine tkV 6 78 rfl rfl ?_; try simp only [tkS]
        refine tkR 7 (.cons rfl (fun K hK => ?_) .nil);go_simp;go_at_call 92;refine (HA1.o _ (HB4.o.trans (Below.refl _ _).drew)).mono ?_;rintro e w11 ⟨rfl, hb11⟩;have hw11 : Below w1.heap.size w1 w11 := Below.trans (HB4.o.trans (Below.refl _ _).drew) (hb11.mono (Below.size (HB4.o.trans (Below.refl _ _).drew)));go_wp2_with fail;refine hK.out _ _ ?_ (fun hHeld => ?_)
        ·try dsimp only
         exact HKS.o _ hw11
        clear hK K
        try simp only [tkS]
        refine tkV 8 80 rfl rfl ?_; try simp only [tkS]
        refine tkO 9 81 rfl rfl ?_; try simp only [tkS]
        refine tkO 10 82 rfl rfl ?_; try simp only [tkS]
        refine tkO 11 83 rfl rfl ?_; try simp only [tkS]
        refine tkO 12 84 rfl rfl ?_; try simp only [tkS]
        refine tkO 13 85 rfl rfl ?_; try simp only [tkS]
        refine tkO 14 86 rfl rfl ?_; try simp only [tkS]
        refine tkO 15 87 rfl rfl ?_; try simp only [tkS]
        refine tkO 16 88 rfl rfl ?_; try simp only [tkS]
        refine tkO 17 89 rfl rfl ?_; try simp only [tkS]
        refine tkV 18 90 rfl rfl ?_; try simp only [tkS]
        refine tkV 19 91 rfl rfl ?_; try simp only [tkS]
        refine tkV 20 92 rfl rfl ?_; try simp only [tkS]
        refine tkV 21 93 rfl rfl ?_; try simp only [tkS]
        refine tkV 22 94 rfl rfl ?_; try simp only [tkS]
        refine tkV 23 95 rfl rfl ?_; try simp only [tkS]
        refine tkV 24 96 rfl rfl ?_; try simp only [tkS]
        refine tkV 25 97 rfl rfl ?_; try simp only [tkS]
        refine tkV 26 98 rfl rfl ?_; try simp only [tkS]
        refine tkV 27 99 rfl rfl ?_; try simp only [tkS]
        refine tkR 28 (.cons rfl (fun K hK => ?_) .nil);go_simp;go_at_call 92;refine (HA2.o _ hw11).mono ?_;rintro e w13 ⟨rfl, hb13⟩;have hw13 : Below w1.heap.size w1 w13 := Below.trans hw11 (hb13.mono (Below.size hw11));go_wp2_with fail;refine hK.out _ _ ?_ (fun hHeld => ?_)
        ·try dsimp only
         exact HKS.o _ hw13
        clear hK K
        try simp only [tkS]
        refine tkV 29 101 rfl rfl ?_; try simp only [tkS]
        refine tkV 30 102 rfl rfl ?_; try simp only [tkS]
        refine tkV 31 103 rfl rfl ?_; try simp only [tkS]
        refine tkV 32 104 rfl rfl ?_; try simp only [tkS]
        refine tkV 33 105 rfl rfl ?_; try simp only [tkS]
        refine tkV 34 106 rfl rfl ?_; try simp only [tkS]
        refine tkV 35 107 rfl rfl ?_; try simp only [tkS]
        refine tkV 36 108 rfl rfl ?_; try simp only [tkS]
        refine tkR 37 (.cons rfl (fun K hK => ?_) .nil);go_simp;go_at_call 92;refine (HC1.o _ hw13).mono ?_;rintro e w14 ⟨rfl, hb14⟩;have hw14 : Below w1.heap.size w1 w14 := Below.trans hw13 (hb14.mono (Below.size hw13));go_wp2_with fail;refine hK.out _ _ ?_ (fun hHeld => ?_)
        ·try dsimp only
         exact HKS.o _ hw14
        clear hK K
        try simp only [tkS]
        refine tkV 38 110 rfl rfl ?_; try simp only [tkS]
        refine tkV 39 111 rfl rfl ?_; try simp only [tkS]
        refine wpAnyH_done (by kernel_rfl) ?_ _;have HBE := lh hw14;clear hneg;have HRT := lh (HT.o HON2.o);go_wp2;go_ret;exact ⟨by rw [HRT.o]; rfl, HB1.o.trans (HBE.o.mono HB1.o.size)⟩
     case true =>
      cases s2
      case false =>
       cases s3
       case false =>
        try simp only [Bool.false_and, Bool.true_and, Bool.and_false, Bool.and_true, Bool.or_false, Bool.false_or, Bool.or_true, Bool.true_or] at HON2
        have hneg := HNEG.o;go_wp2_with fail;refine wp_region_held_drew (S := (fun w' => w'.cell? ⟨w.heap.size, 0, none⟩ = some (.int .i64 p.n) /\ w'.cell? ⟨w.heap.size, 1, none⟩ = some (.slice ta p.t.length tc) /\ w'.cell? ⟨w.heap.size, 2, none⟩ = some (.int .i64 p.n) /\ w'.cell? ⟨w.heap.size, 3, none⟩ = some (.slice (some ⟨nb, noff, none⟩) p.N.length nc) /\ w'.cell? ⟨w.heap.size, 4, none⟩ = some (.slice ca p.C.length cc) /\ w'.cell? ⟨w.heap.size + 1, 0, none⟩ = some (.int .i64 p.n) /\ w'.cell? ⟨w.heap.size + 1, 1, none⟩ = some (.slice ra r.length rc) /\ w'.cell? ⟨w.heap.size + 1 + 1, 2, none⟩ = some (.slice (some ⟨b1, off1, none⟩) x.ins.length xc) /\ w'.cell? ⟨b1, off1, none⟩ = some (.int .i64 a) /\ w'.cell? ⟨b1, off1 + 1, none⟩ = some (.int .i64 b))) (by kernel_rfl) ?_ (fun hHeld => ?_)
        ·try dsimp only
         exact HKS.o _ (HB4.o.trans (Below.refl _ _).drew)
        refine tkV 0 72 rfl rfl ?_; try simp only [tkS]
        refine tkV 1 73 rfl rfl ?_; try simp only [tkS]
        refine tkV 2 74 rfl rfl ?_; try simp only [tkS]
        refine tkV 3 75 rfl rfl ?_; try simp only [tkS]
        refine tkV 4 76 rfl rfl ?_; try simp only [tkS]
        refine tkV 5 77 rfl rfl ?_; try simp only [tkS]
        refine tkV 6 78 rfl rfl ?_; try simp only [tkS]
        refine tkR 7 (.cons rfl (fun K hK => ?_) .nil);go_simp;go_at_call 92;refine (HA1.o _ (HB4.o.trans (Below.refl _ _).drew)).mono ?_;rintro e w11 ⟨rfl, hb11⟩;have hw11 : Below w1.heap.size w1 w11 := Below.trans (HB4.o.trans (Below.refl _ _).drew) (hb11.mono (Below.size (HB4.o.trans (Below.refl _ _).drew)));go_wp2_with fail;refine hK.out _ _ ?_ (fun hHeld => ?_)
        ·try dsimp only
         exact HKS.o _ hw11
        clear hK K
        try simp only [tkS]
        refine tkV 8 80 rfl rfl ?_; try simp only [tkS]
        refine tkV 9 81 rfl rfl ?_; try simp only [tkS]
        refine tkV 10 82 rfl rfl ?_; try simp only [tkS]
        refine tkV 11 83 rfl rfl ?_; try simp only [tkS]
        refine tkV 12 84 rfl rfl ?_; try simp only [tkS]
        refine tkV 13 85 rfl rfl ?_; try simp only [tkS]
        refine tkV 14 86 rfl rfl ?_; try simp only [tkS]
        refine tkV 15 87 rfl rfl ?_; try simp only [tkS]
        refine tkV 16 88 rfl rfl ?_; try simp only [tkS]
        refine tkR 17 (.cons rfl (fun K hK => ?_) .nil);go_simp;go_at_call 92;refine (HC2.o _ hw11).mono ?_;rintro e w12 ⟨rfl, hb12⟩;have hw12 : Below w1.heap.size w1 w12 := Below.trans hw11 (hb12.mono (Below.size hw11));go_wp2_with fail;refine hK.out _ _ ?_ (fun hHeld => ?_)
        ·try dsimp only
         exact HKS.o _ hw12
        clear hK K
        try simp only [tkS]
        refine tkV 18 90 rfl rfl ?_; try simp only [tkS]
        refine tkV 19 91 rfl rfl ?_; try simp only [tkS]
        refine tkV 20 92 rfl rfl ?_; try simp only [tkS]
        refine tkV 21 93 rfl rfl ?_; try simp only [tkS]
        refine tkV 22 94 rfl rfl ?_; try simp only [tkS]
        refine tkV 23 95 rfl rfl ?_; try simp only [tkS]
        refine tkV 24 96 rfl rfl ?_; try simp only [tkS]
        refine tkV 25 97 rfl rfl ?_; try simp only [tkS]
        refine tkV 26 98 rfl rfl ?_; try simp only [tkS]
        refine tkV 27 99 rfl rfl ?_; try simp only [tkS]
        refine tkR 28 (.cons rfl (fun K hK => ?_) .nil);go_simp;go_at_call 92;refine (HA2.o _ hw12).mono ?_;rintro e w13 ⟨rfl, hb13⟩;have hw13 : Below w1.heap.size w1 w13 := Below.trans hw12 (hb13.mono (Below.size hw12));go_wp2_with fail;refine hK.out _ _ ?_ (fun hHeld => ?_)
        ·try dsimp only
         exact HKS.o _ hw13
        clear hK K
        try simp only [tkS]
        refine tkV 29 101 rfl rfl ?_; try simp only [tkS]
        refine tkO 30 102 rfl rfl ?_; try simp only [tkS]
        refine tkO 31 103 rfl rfl ?_; try simp only [tkS]
        refine tkO 32 104 rfl rfl ?_; try simp only [tkS]
        refine tkO 33 105 rfl rfl ?_; try simp only [tkS]
        refine tkO 34 106 rfl rfl ?_; try simp only [tkS]
        refine tkO 35 107 rfl rfl ?_; try simp only [tkS]
        refine tkO 36 108 rfl rfl ?_; try simp only [tkS]
        refine tkO 37 109 rfl rfl ?_; try simp only [tkS]
        refine tkV 38 110 rfl rfl ?_; try simp only [tkS]
        refine tkV 39 111 rfl rfl ?_; try simp only [tkS]
        refine wpAnyH_done (by kernel_rfl) ?_ _;have HBE := lh hw13;clear hneg;have HNN := lh (HNX.o HON2.o);have hvk := HV.o;subst hvk;go_wp2;go_roundw
        case rel => exact ⟨k + 1, by omega, by go_num, HNN.o, HBE.o⟩
        case measure => simp [intOf]; omega
       case true =>
        cases s4
        case false =>
         try simp only [Bool.false_and, Bool.true_and, Bool.and_false, Bool.and_true, Bool.or_false, Bool.false_or, Bool.or_true, Bool.true_or] at HON2
         have hneg := HNEG.o;go_wp2_with fail;refine wp_region_held_drew (S := (fun w' => w'.cell? ⟨w.heap.size, 0, none⟩ = some (.int .i64 p.n) /\ w'.cell? ⟨w.heap.size, 1, none⟩ = some (.slice ta p.t.length tc) /\ w'.cell? ⟨w.heap.size, 2, none⟩ = some (.int .i64 p.n) /\ w'.cell? ⟨w.heap.size, 3, none⟩ = some (.slice (some ⟨nb, noff, none⟩) p.N.length nc) /\ w'.cell? ⟨w.heap.size, 4, none⟩ = some (.slice ca p.C.length cc) /\ w'.cell? ⟨w.heap.size + 1, 0, none⟩ = some (.int .i64 p.n) /\ w'.cell? ⟨w.heap.size + 1, 1, none⟩ = some (.slice ra r.length rc) /\ w'.cell? ⟨w.heap.size + 1 + 1, 2, none⟩ = some (.slice (some ⟨b1, off1, none⟩) x.ins.length xc) /\ w'.cell? ⟨b1, off1, none⟩ = some (.int .i64 a) /\ w'.cell? ⟨b1, off1 + 1, none⟩ = some (.int .i64 b))) (by kernel_rfl) ?_ (fun hHeld => ?_)
         ·try dsimp only
          exact HKS.o _ (HB4.o.trans (Below.refl _ _).drew)
         refine tkV 0 72 rfl rfl ?_; try simp only [tkS]
         refine tkV 1 73 rfl rfl ?_; try simp only [tkS]
         refine tkV 2 74 rfl rfl ?_; try simp only [tkS]
         refine tkV 3 75 rfl rfl ?_; try simp only [tkS]
         refine tkV 4 76 rfl rfl ?_; try simp only [tkS]
         refine tkV 5 77 rfl rfl ?_; try simp only [tkS]
         refine tkV 6 78 rfl rfl ?_; try simp only [tkS]
         refine tkR 7 (.cons rfl (fun K hK => ?_) .nil);go_simp;go_at_call 92;refine (HA1.o _ (HB4.o.trans (Below.refl _ _).drew)).mono ?_;rintro e w11 ⟨rfl, hb11⟩;have hw11 : Below w1.heap.size w1 w11 := Below.trans (HB4.o.trans (Below.refl _ _).drew) (hb11.mono (Below.size (HB4.o.trans (Below.refl _ _).drew)));go_wp2_with fail;refine hK.out _ _ ?_ (fun hHeld => ?_)
         ·try dsimp only
          exact HKS.o _ hw11
         clear hK K
         try simp only [tkS]
         refine tkV 8 80 rfl rfl ?_; try simp only [tkS]
         refine tkV 9 81 rfl rfl ?_; try simp only [tkS]
         refine tkV 10 82 rfl rfl ?_; try simp only [tkS]
         refine tkV 11 83 rfl rfl ?_; try simp only [tkS]
         refine tkV 12 84 rfl rfl ?_; try simp only [tkS]
         refine tkV 13 85 rfl rfl ?_; try simp only [tkS]
         refine tkV 14 86 rfl rfl ?_; try simp only [tkS]
         refine tkV 15 87 rfl rfl ?_; try simp only [tkS]
         refine tkV 16 88 rfl rfl ?_; try simp only [tkS]
         refine tkR 17 (.cons rfl (fun K hK => ?_) .nil);go_simp;go_at_call 92;refine (HC2.o _ hw11).mono ?_;rintro e w12 ⟨rfl, hb12⟩;have hw12 : Below w1.heap.size w1 w12 := Below.trans hw11 (hb12.mono (Below.size hw11));go_wp2_with fail;refine hK.out _ _ ?_ (fun hHeld => ?_)
         ·try dsimp only
          exact HKS.o _ hw12
         clear hK K
         try simp only [tkS]
         refine tkV 18 90 rfl rfl ?_; try simp only [tkS]
         refine tkV 19 91 rfl rfl ?_; try simp only [tkS]
         refine tkV 20 92 rfl rfl ?_; try simp only [tkS]
         refine tkV 21 93 rfl rfl ?_; try simp only [tkS]
         refine tkV 22 94 rfl rfl ?_; try simp only [tkS]
         refine tkV 23 95 rfl rfl ?_; try simp only [tkS]
         refine tkV 24 96 rfl rfl ?_; try simp only [tkS]
         refine tkV 25 97 rfl rfl ?_; try simp only [tkS]
         refine tkV 26 98 rfl rfl ?_; try simp only [tkS]
         refine tkV 27 99 rfl rfl ?_; try simp only [tkS]
         refine tkR 28 (.cons rfl (fun K hK => ?_) .nil);go_simp;go_at_call 92;refine (HA2.o _ hw12).mono ?_;rintro e w13 ⟨rfl, hb13⟩;have hw13 : Below w1.heap.size w1 w13 := Below.trans hw12 (hb13.mono (Below.size hw12));go_wp2_with fail;refine hK.out _ _ ?_ (fun hHeld => ?_)
         ·try dsimp only
          exact HKS.o _ hw13
         clear hK K
         try simp only [tkS]
         refine tkV 29 101 rfl rfl ?_; try simp only [tkS]
         refine tkV 30 102 rfl rfl ?_; try simp only [tkS]
         refine tkV 31 103 rfl rfl ?_; try simp only [tkS]
         refine tkV 32 104 rfl rfl ?_; try simp only [tkS]
         refine tkV 33 105 rfl rfl ?_; try simp only [tkS]
         refine tkV 34 106 rfl rfl ?_; try simp only [tkS]
         refine tkV 35 107 rfl rfl ?_; try simp only [tkS]
         refine tkV 36 108 rfl rfl ?_; try simp only [tkS]
         refine tkR 37 (.cons rfl (fun K hK => ?_) .nil);go_simp;go_at_call 92;refine (HC1.o _ hw13).mono ?_;rintro e w14 ⟨rfl, hb14⟩;have hw14 : Below w1.heap.size w1 w14 := Below.trans hw13 (hb14.mono (Below.size hw13));go_wp2_with fail;refine hK.out _ _ ?_ (fun hHeld => ?_)
         ·try dsimp only
          exact HKS.o _ hw14
         clear hK K
         try simp only [tkS]
         refine tkV 38 110 rfl rfl ?_; try simp only [tkS]
         refine tkV 39 111 rfl rfl ?_; try simp only [tkS]
         refine wpAnyH_done (by kernel_rfl) ?_ _;have HBE := lh hw14;clear hneg;have HNN := lh (HNX.o HON2.o);have hvk := HV.o;subst hvk;go_wp2;go_roundw
         case rel => exact ⟨k + 1, by omega, by go_num, HNN.o, HBE.o⟩
         case measure => simp [intOf]; omega
        case true =>
         try simp only [Bool.false_and, Bool.true_and, Bool.and_false, Bool.and_true, Bool.or_false, Bool.false_or, Bool.or_true, Bool.true_or] at HON2
         have hneg := HNEG.o;go_wp2_with fail;refine wp_region_held_drew (S := (fun w' => w'.cell? ⟨w.heap.size, 0, none⟩ = some (.int .i64 p.n) /\ w'.cell? ⟨w.heap.size, 1, none⟩ = some (.slice ta p.t.length tc) /\ w'.cell? ⟨w.heap.size, 2, none⟩ = some (.int .i64 p.n) /\ w'.cell? ⟨w.heap.size, 3, none⟩ = some (.slice (some ⟨nb, noff, none⟩) p.N.length nc) /\ w'.cell? ⟨w.heap.size, 4, none⟩ = some (.slice ca p.C.length cc) /\ w'.cell? ⟨w.heap.size + 1, 0, none⟩ = some (.int .i64 p.n) /\ w'.cell? ⟨w.heap.size + 1, 1, none⟩ = some (.slice ra r.length rc) /\ w'.cell? ⟨w.heap.size + 1 + 1, 2, none⟩ = some (.slice (some ⟨b1, off1, none⟩) x.ins.length xc) /\ w'.cell? ⟨b1, off1, none⟩ = some (.int .i64 a) /\ w'.cell? ⟨b1, off1 + 1, none⟩ = some (.int .i64 b))) (by kernel_rfl) ?_ (fun hHeld => ?_)
         ·try dsimp only
          exact HKS.o _ (HB4.o.trans (Below.refl _ _).drew)
         refine tkV 0 72 rfl rfl ?_; try simp only [tkS]
         refine tkV 1 73 rfl rfl ?_; try simp only [tkS]
         refine tkV 2 74 rfl rfl ?_; try simp only [tkS]
         refine tkV 3 75 rfl rfl ?_; try simp only [tkS]
         refine tkV 4 76 rfl rfl ?_; try simp only [tkS]
         refine tkV 5 77 rfl rfl ?_; try simp only [tkS]
         refine tkV 6 78 rfl rfl ?_; try simp only [tkS]
         refine tkR 7 (.cons rfl (fun K hK => ?_) .nil);go_simp;go_at_call 92;refine (HA1.o _ (HB4.o.trans (Below.refl _ _).drew)).mono ?_;rintro e w11 ⟨rfl, hb11⟩;have hw11 : Below w1.heap.size w1 w11 := Below.trans (HB4.o.trans (Below.refl _ _).drew) (hb11.mono (Below.size (HB4.o.trans (Below.refl _ _).drew)));go_wp2_with fail;refine hK.out _ _ ?_ (fun hHeld => ?_)
         ·try dsimp only
          exact HKS.o _ hw11
         clear hK K
         try simp only [tkS]
         refine tkV 8 80 rfl rfl ?_; try simp only [tkS]
         refine tkV 9 81 rfl rfl ?_; try simp only [tkS]
         refine tkV 10 82 rfl rfl ?_; try simp only [tkS]
         refine tkV 11 83 rfl rfl ?_; try simp only [tkS]
         refine tkV 12 84 rfl rfl ?_; try simp only [tkS]
         refine tkV 13 85 rfl rfl ?_; try simp only [tkS]
         refine tkV 14 86 rfl rfl ?_; try simp only [tkS]
         refine tkV 15 87 rfl rfl ?_; try simp only [tkS]
         refine tkV 16 88 rfl rfl ?_; try simp only [tkS]
         refine tkR 17 (.cons rfl (fun K hK => ?_) .nil);go_simp;go_at_call 92;refine (HC2.o _ hw11).mono ?_;rintro e w12 ⟨rfl, hb12⟩;have hw12 : Below w1.heap.size w1 w12 := Below.trans hw11 (hb12.mono (Below.size hw11));go_wp2_with fail;refine hK.out _ _ ?_ (fun hHeld => ?_)
         ·try dsimp only
          exact HKS.o _ hw12
         clear hK K
         try simp only [tkS]
         refine tkV 18 90 rfl rfl ?_; try simp only [tkS]
         refine tkV 19 91 rfl rfl ?_; try simp only [tkS]
         refine tkV 20 92 rfl rfl ?_; try simp only [tkS]
         refine tkV 21 93 rfl rfl ?_; try simp only [tkS]
         refine tkV 22 94 rfl rfl ?_; try simp only [tkS]
         refine tkV 23 95 rfl rfl ?_; try simp only [tkS]
         refine tkV 24 96 rfl rfl ?_; try simp only [tkS]
         refine tkV 25 97 rfl rfl ?_; try simp only [tkS]
         refine tkV 26 98 rfl rfl ?_; try simp only [tkS]
         refine tkV 27 99 rfl rfl ?_; try simp only [tkS]
         refine tkR 28 (.cons rfl (fun K hK => ?_) .nil);go_simp;go_at_call 92;refine (HA2.o _ hw12).mono ?_;rintro e w13 ⟨rfl, hb13⟩;have hw13 : Below w1.heap.size w1 w13 := Below.trans hw12 (hb13.mono (Below.size hw12));go_wp2_with fail;refine hK.out _ _ ?_ (fun hHeld => ?_)
         ·try dsimp only
          exact HKS.o _ hw13
         clear hK K
         try simp only [tkS]
         refine tkV 29 101 rfl rfl ?_; try simp only [tkS]
         refine tkV 30 102 rfl rfl ?_; try simp only [tkS]
         refine tkV 31 103 rfl rfl ?_; try simp only [tkS]
         refine tkV 32 104 rfl rfl ?_; try simp only [tkS]
         refine tkV 33 105 rfl rfl ?_; try simp only [tkS]
         refine tkV 34 106 rfl rfl ?_; try simp only [tkS]
         refine tkV 35 107 rfl rfl ?_; try simp only [tkS]
         refine tkV 36 108 rfl rfl ?_; try simp only [tkS]
         refine tkR 37 (.cons rfl (fun K hK => ?_) .nil);go_simp;go_at_call 92;refine (HC1.o _ hw13).mono ?_;rintro e w14 ⟨rfl, hb14⟩;have hw14 : Below w1.heap.size w1 w14 := Below.trans hw13 (hb14.mono (Below.size hw13));go_wp2_with fail;refine hK.out _ _ ?_ (fun hHeld => ?_)
         ·try dsimp only
          exact HKS.o _ hw14
         clear hK K
         try simp only [tkS]
         refine tkV 38 110 rfl rfl ?_; try simp only [tkS]
         refine tkV 39 111 rfl rfl ?_; try simp only [tkS]
         refine wpAnyH_done (by kernel_rfl) ?_ _;have HBE := lh hw14;clear hneg;have HRT := lh (HT.o HON2.o);go_wp2;go_ret;exact ⟨by rw [HRT.o]; rfl, HB1.o.trans (HBE.o.mono HB1.o.size)⟩
      case true =>
       try simp only [Bool.false_and, Bool.true_and, Bool.and_false, Bool.and_true, Bool.or_false, Bool.false_or, Bool.or_true, Bool.true_or] at HON2
       have hneg := HNEG.o;go_wp2_with fail;refine wp_region_held_drew (S := (fun w' => w'.cell? ⟨w.heap.size, 0, none⟩ = some (.int .i64 p.n) /\ w'.cell? ⟨w.heap.size, 1, none⟩ = some (.slice ta p.t.length tc) /\ w'.cell? ⟨w.heap.size, 2, none⟩ = some (.int .i64 p.n) /\ w'.cell? ⟨w.heap.size, 3, none⟩ = some (.slice (some ⟨nb, noff, none⟩) p.N.length nc) /\ w'.cell? ⟨w.heap.size, 4, none⟩ = some (.slice ca p.C.length cc) /\ w'.cell? ⟨w.heap.size + 1, 0, none⟩ = some (.int .i64 p.n) /\ w'.cell? ⟨w.heap.size + 1, 1, none⟩ = some (.slice ra r.length rc) /\ w'.cell? ⟨w.heap.size + 1 + 1, 2, none⟩ = some (.slice (some ⟨b1, off1, none⟩) x.ins.length xc) /\ w'.cell? ⟨b1, off1, none⟩ = some (.int .i64 a) /\ w'.cell? ⟨b1, off1 + 1, none⟩ = some (.int .i64 b))) (by kernel_rfl) ?_ (fun hHeld => ?_)
       ·try dsimp only
        exact HKS.o _ (HB4.o.trans (Below.refl _ _).drew)
       refine tkV 0 72 rfl rfl ?_; try simp only [tkS]
       refine tkV 1 73 rfl rfl ?_; try simp only [tkS]
       refine tkV 2 74 rfl rfl ?_; try simp only [tkS]
       refine tkV 3 75 rfl rfl ?_; try simp only [tkS]
       refine tkV 4 76 rfl rfl ?_; try simp only [tkS]
       refine tkV 5 77 rfl rfl ?_; try simp only [tkS]
       refine tkV 6 78 rfl rfl ?_; try simp only [tkS]
       refine tkR 7 (.cons rfl (fun K hK => ?_) .nil);go_simp;go_at_call 92;refine (HA1.o _ (HB4.o.trans (Below.refl _ _).drew)).mono ?_;rintro e w11 ⟨rfl, hb11⟩;have hw11 : Below w1.heap.size w1 w11 := Below.trans (HB4.o.trans (Below.refl _ _).drew) (hb11.mono (Below.size (HB4.o.trans (Below.refl _ _).drew)));go_wp2_with fail;refine hK.out _ _ ?_ (fun hHeld => ?_)
       ·try dsimp only
        exact HKS.o _ hw11
       clear hK K
       try simp only [tkS]
       refine tkV 8 80 rfl rfl ?_; try simp only [tkS]
       refine tkV 9 81 rfl rfl ?_; try simp only [tkS]
       refine tkV 10 82 rfl rfl ?_; try simp only [tkS]
       refine tkV 11 83 rfl rfl ?_; try simp only [tkS]
       refine tkV 12 84 rfl rfl ?_; try simp only [tkS]
       refine tkV 13 85 rfl rfl ?_; try simp only [tkS]
       refine tkV 14 86 rfl rfl ?_; try simp only [tkS]
       refine tkV 15 87 rfl rfl ?_; try simp only [tkS]
       refine tkV 16 88 rfl rfl ?_; try simp only [tkS]
       refine tkR 17 (.cons rfl (fun K hK => ?_) .nil);go_simp;go_at_call 92;refine (HC2.o _ hw11).mono ?_;rintro e w12 ⟨rfl, hb12⟩;have hw12 : Below w1.heap.size w1 w12 := Below.trans hw11 (hb12.mono (Below.size hw11));go_wp2_with fail;refine hK.out _ _ ?_ (fun hHeld => ?_)
       ·try dsimp only
        exact HKS.o _ hw12
       clear hK K
       try simp only [tkS]
       refine tkV 18 90 rfl rfl ?_; try simp only [tkS]
       refine tkV 19 91 rfl rfl ?_; try simp only [tkS]
       refine tkO 20 92 rfl rfl ?_; try simp only [tkS]
       refine tkO 21 93 rfl rfl ?_; try simp only [tkS]
       refine tkO 22 94 rfl rfl ?_; try simp only [tkS]
       refine tkO 23 95 rfl rfl ?_; try simp only [tkS]
       refine tkO 24 96 rfl rfl ?_; try simp only [tkS]
       refine tkO 25 97 rfl rfl ?_; try simp only [tkS]
       refine tkO 26 98 rfl rfl ?_; try simp only [tkS]
       refine tkO 27 99 rfl rfl ?_; try simp only [tkS]
       refine tkO 28 100 rfl rfl ?_; try simp only [tkS]
       refine tkO 29 101 rfl rfl ?_; try simp only [tkS]
       refine tkO 30 102 rfl rfl ?_; try simp only [tkS]
       refine tkO 31 103 rfl rfl ?_; try simp only [tkS]
       refine tkO 32 104 rfl rfl ?_; try simp only [tkS]
       refine tkO 33 105 rfl rfl ?_; try simp only [tkS]
       refine tkO 34 106 rfl rfl ?_; try simp only [tkS]
       refine tkO 35 107 rfl rfl ?_; try simp only [tkS]
       refine tkO 36 108 rfl rfl ?_; try simp only [tkS]
       refine tkO 37 109 rfl rfl ?_; try simp only [tkS]
       refine tkO 38 110 rfl rfl ?_; try simp only [tkS]
       refine tkV 39 111 rfl rfl ?_; try simp only [tkS]
       refine wpAnyH_done (by kernel_rfl) ?_ _;have HBE := lh hw12;clear hneg;have HRT := lh (HT.o HON2.o);go_wp2;go_ret;exact ⟨by rw [HRT.o]; rfl, HB1.o.trans (HBE.o.mono HB1.o.size)⟩
  have hke : k = p.n := by omega
  subst hke
  have HF : Hid (R = false) := by show _ = _; rw [HQ2.o]; exact zje HN.o
  have hkn : ¬ (p.n : Int) + 1 <= (p.n : Int) := by omega
  go_wp2;go_ret;exact ⟨by rw [HF.o]; rfl, HBW.o⟩
 have d9 : ((x.ins.length : Int) != 2) = true := by simp; omega
 have HQ2 : Hid (R = false) := by show _ = _; rw [HQ.o, decide_eq_false h2]; rfl
 clear h2;go_enter Tryz.func45, Tryz.ntmps45;go_wp2_with fail;rw [<- hw0];rw [<- hw1];go_ret;exact ⟨by rw [HQ2.o]; rfl, HB1.o⟩
end Go.Proofs.YtfmmhjphopikgaaGreatDoor
