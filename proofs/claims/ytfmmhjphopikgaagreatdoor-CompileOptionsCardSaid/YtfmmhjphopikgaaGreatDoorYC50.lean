/- Part of the proofs that laws of censuslaw24 return true for every input, where the tables that the rows list are laid. Texts: Fo, Arg4. -/
import Derived.Test.YtfmmhjphopikgaaGreatDoorYC42
import Derived.Test.YtfmmhjphopikgaaGreatDoorYC48
import Derived.Test.YtfmmhjphopikgaaGreatDoorYC49
import Derived.Test.YtfmmhjphopikgaaGreatDoorYC1
import Derived.BigRegion
import Derived.Deep.RegionHeld3
import Derived.Test.YtfmmhjphopikgaaGreatDoorYC43
import Derived.Test.YtfmmhjphopikgaaGreatDoorYC6
import Derived.Lib.TrailingZeros
import Derived.Laws.Bits64b
set_option maxHeartbeats 8000000
set_option maxRecDepth 100000
set_option linter.unusedSimpArgs false
set_option linter.unusedVariables false
namespace Go.Proofs.YtfmmhjphopikgaaGreatDoor
open Go.RowKit Cen
theorem last9 {a b c d e f g h i : Prop} (x : a /\ b /\ c /\ d /\ e /\ f /\ g /\ h /\ i) : i := x.2.2.2.2.2.2.2.2
theorem CRes.neval {n : Nat} {t : List Cl} {order : List Int} {o1 o2 : Bool} {B : Nat} {w : World} {na : Option Addr} {nc : Nat} {ca : Option Addr} {cc : Nat} {N : List Nd} {C : List Clm} (h : CRes n t order o1 o2 B w na nc ca cc N C) (hg : Gdt n t order) (s : St) (hs : s.ok) :
 Calls Tryz.prog 23 #[.agg #[.int .i64 (n : Int), .slice na N.length nc], stv s] w fun e w' => e = .returned (.bool (evL s.mem t)) /\ Below w.heap.size w w' := by
 have := nEval_any (n : Int) na nc N s w (by have := h.small hg; omega) h.n hs
 rwa [h.ok hg, h.ev hg, Bool.true_and] at this
theorem CRes.kept {n : Nat} {t : List Cl} {order : List Int} {o1 o2 : Bool} {B : Nat} {w W : World} {na : Option Addr} {nc : Nat} {ca : Option Addr} {cc : Nat} {N : List Nd} {C : List Clm} (h : CRes n t order o1 o2 B w na nc ca cc N C) {M : Nat -> Prop} (hk : Kp M w W) (hM : ∀ k, M k -> k < B) : CRes n t order o1 o2 B W na nc ca cc N C := by
 obtain ⟨L, hm, hN, hC⟩ := h.mem
 have low : ∀ {v : Value} {l : List Int}, OwnI w B v l -> OwnI W B v l := fun ho => ho.kept hk fun k hv hm => by have := (ho.blk hv).1; have := hM k hm; omega
 have hm' : CpMem W B (.slice na L.length nc) (.slice ca L.length cc) L := ⟨hm.rn.kept hk fun k hv hm' => by have := (World.ownsRow.lt hm.rn k hv).1; have := hM k hm'; omega,
  hm.rc.kept hk fun k hv hm' => by have := (World.ownsRow.lt hm.rc k hv).1; have := hM k hm'; omega, fun e he => let ⟨a, b, c⟩ := hm.me e he; ⟨low a, low b, low c⟩, hm.ap, hm.ne⟩
 have hll : ∀ e ∈ L, e.c.nd.ins.length <= 1073741824 := fun e he => by
  obtain ⟨i, hi, rfl⟩ := List.getElem_of_mem he
  have hgd : N.getD i default = L[i].c.nd := by rw [<- hN]; simp [nds, List.getD_eq_getElem?_getD, hi]
  obtain ⟨b, off, _, hc⟩ := h.n i (by rw [<- hN]; simpa [nds] using hi);rw [hgd] at hc;obtain ⟨_, _, av, cv, _, _, hl⟩ := hc;exact hl
 have hn := hm'.nodes hll;have hcl := hm'.claims;rw [hN] at hn;rw [hC] at hcl;exact ⟨h.eqN, h.cl, h.len, hn.1, hn.2, hcl, L, hm', hN, hC⟩
theorem options_any (z : Int) (a : Option Addr) (cap : Nat) (t : List Cl) (oa : Option Addr) (oc : Nat) (order : List Int) (o1 o2 : Bool) (pa : Option Addr) (pc : Nat) (porder : List Int) (x1 x2 : Bool) (s : St) (w : World) (hx : LsCells w a t) (ho : IntCells w oa order) (hp : IntCells w pa porder) (hs : s.ok) (htab : Tab w) :
 Calls Tryz.prog 6 #[.agg #[.int .i64 z, .slice a t.length cap], .agg #[.slice oa order.length oc, .bool o1, .bool o2], .agg #[.slice pa porder.length pc, .bool x1, .bool x2], stv s] w fun e w' => e = .returned (.bool true) /\ Below w.heap.size w w' := by
 obtain ⟨w0, hw0⟩ : ∃ w0, w0 = (((w.alloc (.cells #[.int .i64 z, .slice a t.length cap] 24)).alloc (.cells #[.slice oa order.length oc, .bool o1, .bool o2] 27)).alloc (.cells #[.slice pa porder.length pc, .bool x1, .bool x2] 27)).alloc (.cells #[.int .u64 (s.a : Int), .int .u64 (s.b : Int)] 56) := ⟨_, rfl⟩
 have hb0 : Below w.heap.size w w0 := by rw [hw0]; exact ((((Below.refl _ _).alloc (Nat.le_refl _) _).alloc (by simp) _).alloc (by simp; omega) _).alloc (by simp; omega) _
 have q0 : Blk w0 w.heap.size #[.int .i64 z, .slice a t.length cap] 24 := by rw [hw0]; exact (((Blk.new w _ _).alloc _).alloc _).alloc _
 have q1 : Blk w0 (w.heap.size + 1) #[.slice oa order.length oc, .bool o1, .bool o2] 27 := by rw [hw0]; exact ((Blk.new' _ (by simp) _ _).alloc _).alloc _
 have q2 : Blk w0 (w.heap.size + 1 + 1) #[.slice pa porder.length pc, .bool x1, .bool x2] 27 := by rw [hw0]; exact (Blk.new' _ (by simp) _ _).alloc _
 have q3 : Blk w0 (w.heap.size + 1 + 1 + 1) #[.int .u64 (s.a : Int), .int .u64 (s.b : Int)] 56 := by rw [hw0]; exact Blk.new' _ (by simp) _ _
 have HB0 := lh hb0;have Q0 := lh q0;have Q1 := lh q1;have Q2 := lh q2;have Q3 := lh q3;have HX := lh (hx.keep hb0);have HXI := lh ((LsIn.old hx).later hb0);have HTL := lh (zxj htab);have HO := lh (ho.keep hb0);have HP := lh (hp.keep hb0);have HT := lh (htab.keep hb0);have HS := lh hs;have HL := lh (fun W (hb : Below w0.heap.size w0 W) => zip z a cap t W (HX.o.keep hb));have HWK := lh (fun W (hb : Below w0.heap.size w0 W) => zjc W (HT.o.keep hb));clear hx ho hp hs htab hb0 q0 q1 q2 q3
 cases hl : zch z t with
 | false =>
   rw [hl] at HL;clear hl;go_enter Tryz.func6, Tryz.ntmps6;go_wp2_with fail;rw [<- hw0];clear hw0;refine (HL.o _ (Below.refl _ _)).mono ?_;rintro e w1 ⟨rfl, hb1⟩;have HB1 := lh hb1;clear hb1;go_wp2_with fail;refine (HWK.o _ HB1.o).mono ?_;rintro e wz ⟨rfl, hbz⟩;have HBZ := lh (HB0.o.trans (((HB1.o).trans (hbz.mono (HB1.o).size)).mono HB0.o.size));clear hbz;go_wp2;go_ret;exact ⟨rfl, HBZ.o⟩
 | true =>
   rw [hl] at HL
   have htl : t.length <= 40 := by
    unfold zch at hl;simp only [Bool.and_eq_true, decide_eq_true_eq] at hl;exact hl.2.1
   have HG := lh (fun W (hb : Below w0.heap.size w0 W) => zoo z a cap t oa oc order o1 o2 W (by omega) (HX.o.keep hb) (HO.o.keep hb));have HGP := lh (fun W (hb : Below w0.heap.size w0 W) => zoo z a cap t pa pc porder x1 x2 W (by omega) (HX.o.keep hb) (HP.o.keep hb));clear htl
   cases hc : decide (za0 z t order = 0) with
   | false =>
     rw [hc] at HG;clear hl hc;go_enter Tryz.func6, Tryz.ntmps6;go_wp2_with fail;rw [<- hw0];clear hw0;refine (HL.o _ (Below.refl _ _)).mono ?_;rintro e w1 ⟨rfl, hb1⟩;have HB1 := lh hb1;have pt := Q0.o.later hb1;have t0 := pt.cell 0;have t1 := pt.cell 1;have tz := pt.lt;clear pt;have po := Q1.o.later hb1;have o0 := po.cell 0;have o1 := po.cell 1;have o2 := po.cell 2;have oz := po.lt;clear po;clear hb1;go_wp2_with fail;refine (HG.o _ HB1.o).mono ?_;rintro e w2 ⟨rfl, hb2⟩;have HB2 := lh (HB1.o.trans (hb2.mono HB1.o.size));clear hb2;clear t0 t1 tz o0 o1 o2 oz;go_wp2_with fail;refine (HWK.o _ HB2.o).mono ?_
     rintro e wz ⟨rfl, hbz⟩;have HBZ := lh (HB0.o.trans (((HB2.o).trans (hbz.mono (HB2.o).size)).mono HB0.o.size));clear hbz;go_wp2;go_ret;exact ⟨rfl, HBZ.o⟩
   | true =>
     rw [hc] at HG
     cases hd : decide (za0 z t porder = 0) with
     | false =>
       rw [hd] at HGP;clear hl hc hd;go_enter Tryz.func6, Tryz.ntmps6;go_wp2_with fail;rw [<- hw0];clear hw0;refine (HL.o _ (Below.refl _ _)).mono ?_;rintro e w1 ⟨rfl, hb1⟩;have HB1 := lh hb1;have pt := Q0.o.later hb1;have t0 := pt.cell 0;have t1 := pt.cell 1;have tz := pt.lt;clear pt;have po := Q1.o.later hb1;have o0 := po.cell 0;have o1 := po.cell 1;have o2 := po.cell 2;have oz := po.lt;clear po;clear hb1;go_wp2_with fail;refine (HG.o _ HB1.o).mono ?_;rintro e w2 ⟨rfl, hb2⟩;have HB2 := lh (HB1.o.trans (hb2.mono HB1.o.size));clear hb2;clear t0 t1 tz o0 o1 o2 oz;have pt := Q0.o.later HB2.o;have t0 := pt.cell 0
       have t1 := pt.cell 1;have tz := pt.lt;clear pt;have pp := Q2.o.later HB2.o;have p0 := pp.cell 0;have p1 := pp.cell 1;have p2 := pp.cell 2;have pz := pp.lt;clear pp;go_wp2_with fail;refine (HGP.o _ HB2.o).mono ?_;rintro e w3 ⟨rfl, hb3⟩;have HB3 := lh (HB2.o.trans (hb3.mono HB2.o.size));clear hb3;clear t0 t1 tz p0 p1 p2 pz;go_wp2_with fail;refine (HWK.o _ HB3.o).mono ?_;rintro e wz ⟨rfl, hbz⟩;have HBZ := lh (HB0.o.trans (((HB3.o).trans (hbz.mono (HB3.o).size)).mono HB0.o.size));clear hbz;go_wp2;go_ret;exact ⟨rfl, HBZ.o⟩
     | true =>
       rw [hd] at HGP;obtain ⟨n, rfl, hg⟩ := Gdt.of hl (of_decide_eq_true hc)
       have hgp : Gdt n t porder := ⟨hg.n9, hg.tl, hg.cl, of_decide_eq_true hd⟩
       have HGD := lh hg;have HGE := lh hgp;have HCP := lh (fun W (hb : Below w0.heap.size w0 W) => zhd n a cap t oa oc order o1 o2 W hg (HX.o.keep hb) (HO.o.keep hb) (HT.o.keep hb));have HCQ := lh (fun W (hb : Below w0.heap.size w0 W) => zhd n a cap t pa pc porder x1 x2 W hgp (HX.o.keep hb) (HP.o.keep hb) (HT.o.keep hb));clear hl hc hd hg hgp;go_enter Tryz.func6, Tryz.ntmps6;go_wp2_with fail;rw [<- hw0];clear hw0;refine (HL.o _ (Below.refl _ _)).mono ?_;rintro e w1 ⟨rfl, hb1⟩;have HB1 := lh hb1;have pt := Q0.o.later hb1;have t0 := pt.cell 0;have t1 := pt.cell 1;have tz := pt.lt;clear pt;have po := Q1.o.later hb1
       have o0 := po.cell 0;have o1 := po.cell 1;have o2 := po.cell 2;have oz := po.lt;clear po;clear hb1;go_wp2_with fail;refine (HG.o _ HB1.o).mono ?_;rintro e w2 ⟨rfl, hb2⟩;have HB2 := lh (HB1.o.trans (hb2.mono HB1.o.size));clear hb2;clear t0 t1 tz o0 o1 o2 oz;have pt := Q0.o.later HB2.o;have t0 := pt.cell 0;have t1 := pt.cell 1;have tz := pt.lt;clear pt;have pp := Q2.o.later HB2.o;have p0 := pp.cell 0;have p1 := pp.cell 1;have p2 := pp.cell 2;have pz := pp.lt;clear pp;go_wp2_with fail;refine (HGP.o _ HB2.o).mono ?_;rintro e w3 ⟨rfl, hb3⟩;have HB3 := lh (HB2.o.trans (hb3.mono HB2.o.size));clear hb3
       clear t0 t1 tz p0 p1 p2 pz;have pt := Q0.o.later HB3.o;have t0 := pt.cell 0;have t1 := pt.cell 1;have tz := pt.lt;clear pt;have po := Q1.o.later HB3.o;have o0 := po.cell 0;have o1 := po.cell 1;have o2 := po.cell 2;have oz := po.lt;clear po;go_wp2_with fail;refine (HCP.o _ HB3.o).mono ?_;rintro e v1 ⟨na1, nc1, ca1, cc1, N1, C1, rfl, hr, hbv⟩;have hbw := HB3.o.trans (hbv.mono HB3.o.size)
       obtain ⟨nb1, hnb⟩ : ∃ nb, nb = v1.heap.size := ⟨_, rfl⟩
       obtain ⟨u1, hu⟩ : ∃ u, u = v1.alloc (.cells #[.int .i64 (n : Int), .slice na1 N1.length nc1] 33) := ⟨_, rfl⟩
       have hbu : Below v1.heap.size v1 u1 := by rw [hu]; exact (Below.refl _ _).alloc (Nat.le_refl _) _
       have qu : Blk u1 nb1 #[.int .i64 (n : Int), .slice na1 N1.length nc1] 33 := by rw [hu, hnb]; exact Blk.new _ _ _
       have HR1 := lh (hr.keep hbu);have HB4 := lh (hbw.trans (hbu.mono hbw.size));have QN1 := lh qu
       have NBW1 : Hid (w0.heap.size <= nb1) := by show _ <= _; rw [hnb]; exact hbw.size
       clear t0 t1 tz o0 o1 o2 oz;have pt := Q0.o.later hbw;have t0 := pt.cell 0;have t1 := pt.cell 1;have tz := pt.lt;clear pt;have pp := Q2.o.later hbw;have p0 := pp.cell 0;have p1 := pp.cell 1;have p2 := pp.cell 2;have pz := pp.lt;clear pp;clear hr hbv hbw hbu qu;go_wp2_with fail;rw [<- hnb, <- hu];clear hu hnb;clear t0 t1 tz p0 p1 p2 pz;refine (HCQ.o _ HB4.o).mono ?_;rintro e v2 ⟨na2, nc2, ca2, cc2, N2, C2, rfl, hr, hbv⟩;have hbw := HB4.o.trans (hbv.mono HB4.o.size)
       obtain ⟨nb2, hnb⟩ : ∃ nb, nb = v2.heap.size := ⟨_, rfl⟩
       obtain ⟨u2, hu⟩ : ∃ u, u = v2.alloc (.cells #[.int .i64 (n : Int), .slice na2 N2.length nc2] 33) := ⟨_, rfl⟩
       have hbu : Below v2.heap.size v2 u2 := by rw [hu]; exact (Below.refl _ _).alloc (Nat.le_refl _) _
       have qu : Blk u2 nb2 #[.int .i64 (n : Int), .slice na2 N2.length nc2] 33 := by rw [hu, hnb]; exact Blk.new _ _ _
       have HR2 := lh (hr.keep hbu);have HB5 := lh (hbw.trans (hbu.mono hbw.size));have QN2 := lh qu
       have NBW2 : Hid (w0.heap.size <= nb2) := by show _ <= _; rw [hnb]; exact hbw.size
       have HRA := lh (HR1.o.keep (hbv.trans (hbu.mono hbv.size)));have QNA := lh (QN1.o.later (hbv.trans (hbu.mono hbv.size)));have pt := Q0.o.later hbw;have t0 := pt.cell 0;have t1 := pt.cell 1;have tz := pt.lt;clear pt;have ps := Q3.o.later hbw;have s0 := ps.cell 0;have s1 := ps.cell 1;have sz := ps.lt;clear ps;clear hr hbv hbw hbu qu;go_wp2_with fail;rw [<- hnb, <- hu];clear hu hnb;clear t0 t1 tz s0 s1 sz;have pt := Q0.o.later HB5.o;have t0 := pt.cell 0;have t1 := pt.cell 1;have tz := pt.lt;clear pt;have ps := Q3.o.later HB5.o;have s0 := ps.cell 0;have s1 := ps.cell 1;have sz := ps.lt;clear ps
       have sf0 := (Q3.o.later HB5.o).fr 0;have sf1 := (Q3.o.later HB5.o).fr 1;have HAL := lh (fun W => zss (n : Int) W);have HCU := lh (fun W => cut3_any s (zcy (n : Int)) W HS.o (allSt_ok n));have h9 := HGD.o.n9
       have HSM : Hid (∀ v : Int, (n : Int) < v -> (s.cut (zcy (n : Int))).mem v = false) := fun v hv => by
        rw [St.mem_cut, zqn, decide_eq_false (show ¬ v <= (n : Int) by omega)]; simp
       have HSO := lh (St.cut_ok (t := zcy (n : Int)) HS.o);generalize zcy (n : Int) = al at *;generalize s.cut al = s2 at *;go_wp2_with fail
       go_cut [45] from 46 to 49 (fun _ wx => Blk wx (w.heap.size + 1 + 1 + 1) #[.int .u64 (s2.a : Int), .int .u64 (s2.b : Int)] 56 /\ Kp (fun y => y = w.heap.size + 1 + 1 + 1) u2 wx)
       case first =>
        go_region_with (first
         | (go_at_call 22; refine (HAL.o _).mono ?_; rintro e6 w6 ⟨rfl, hb6⟩; have HB6 : Hid (Below u2.heap.size u2 w6) := zay hb6; have ya0 := zaa HB6.o s0; have ya1 := zaa HB6.o s1; have yz : w.heap.size + 1 + 1 + 1 < w6.heap.size := Nat.lt_of_lt_of_le sz HB6.o.size)
         | (go_at_call 21; refine (HCU.o _).mono ?_; rintro e7 w7 ⟨rfl, hb7⟩; have HB7 : Hid (Below u2.heap.size u2 w7) := HB6.o.trans (hb7.mono HB6.o.size); have xa0 := zaa HB7.o s0; have xa1 := zaa HB7.o s1; have xz : w.heap.size + 1 + 1 + 1 < w7.heap.size := Nat.lt_of_lt_of_le sz HB7.o.size; have xf0 := ((Q3.o.later HB5.o).later HB7.o).fr 0; have xf1 := ((Q3.o.later HB5.o).later HB7.o).fr 1; have HST : Hid (Blk ((w7.setCell ⟨w.heap.size + 1 + 1 + 1, 0, none⟩ (.int .u64 (s2.a : Int))).setCell ⟨w.heap.size + 1 + 1 + 1, 1, none⟩ (.int .u64 (s2.b : Int))) (w.heap.size + 1 + 1 + 1) #[.int .u64 (s2.a : Int), .int .u64 (s2.b : Int)] 56 /\ Kp (fun y => y = w.heap.size + 1 + 1 + 1) u2 ((w7.setCell ⟨w.heap.size + 1 + 1 + 1, 0, none⟩ (.int .u64 (s2.a : Int))).setCell ⟨w.heap.size + 1 + 1 + 1, 1, none⟩ (.int .u64 (s2.b : Int)))) := ⟨(((Q3.o.later HB5.o).later HB7.o).set 0 _).set 1 _, Kp.trans (M := fun y => y = w.heap.size + 1 + 1 + 1) (Kp.below HB7.o) (Kp.trans (M := fun y => y = w.heap.size + 1 + 1 + 1) (Kp.setCell _ _ _ rfl) (Kp.setCell _ _ _ rfl))⟩))
        all_goals
         go_wp2_with fail
         go_meet
         exact HST.o
       obtain ⟨hs5, hk5⟩ := hcut
       rename World => wx
       have hq3 := Q3.o.lt;have hz0 := HB0.o.size;have hz3 := HB3.o.size;have hz4 := HB4.o.size;have hz5 := HB5.o.size;have hn1 := NBW1.o;have hn2 := NBW2.o;have HRX := lh (HRA.o.kept hk5 (fun k hk => by omega));have HRY := lh (HR2.o.kept hk5 (fun k hk => by omega));have HTX := lh ((HT.o.keep HB5.o).kp hk5 (fun k hk => by have := HTL.o; omega));have HLX := lh ((((HXI.o).kept (Kp.below (M := fun _ => False) HB5.o) fun _ _ h => h).kept hk5 (fun k hk e => by omega)).ls);have HBX : Hid (Below w.heap.size w wx) := (HB0.o.trans (HB5.o.mono hz0)).trans (hk5.toBelow (by omega) (fun k hk e => by omega))
       have pn1 := QNA.o.kept hk5 (fun e => by omega);have pn2 := QN2.o.kept hk5 (fun e => by omega);have pt := (Q0.o.later HB5.o).kept hk5 (fun e => by omega);have a0 := pn1.cell 0;have a1 := pn1.cell 1;have a2 := pn2.cell 0;have a3 := pn2.cell 1;have a4 := pt.cell 0;have a5 := pt.cell 1;have a6 := hs5.cell 0;have a7 := hs5.cell 1
       have HN1 : Hid (∀ V, Below wx.heap.size wx V -> Calls Tryz.prog 23 #[.agg #[.int .i64 (n : Int), .slice na1 N1.length nc1], .agg #[.int .u64 (s2.a : Int), .int .u64 (s2.b : Int)]] V fun e w' => e = .returned (.bool (evL s2.mem t)) /\ Below V.heap.size V w') := fun V hV => (HRX.o.keep hV).neval HGD.o s2 HSO.o
       have HN2 : Hid (∀ V, Below wx.heap.size wx V -> Calls Tryz.prog 23 #[.agg #[.int .i64 (n : Int), .slice na2 N2.length nc2], .agg #[.int .u64 (s2.a : Int), .int .u64 (s2.b : Int)]] V fun e w' => e = .returned (.bool (evL s2.mem t)) /\ Below V.heap.size V w') := fun V hV => (HRY.o.keep hV).neval HGE.o s2 HSO.o
       have HTV : Hid (∀ V, Below wx.heap.size wx V -> Calls Tryz.prog 24 #[.agg #[.int .i64 (n : Int), .slice a t.length cap], .agg #[.int .u64 (s2.a : Int), .int .u64 (s2.b : Int)]] V fun e w' => e = .returned (.bool (evL s2.mem t)) /\ Below V.heap.size V w') := fun V hV => tEval_ok n (by omega) a cap t s2 V HGD.o.tok (HLX.o.keep hV) HSO.o HSM.o
       have HWX : Hid (∀ V, Below wx.heap.size wx V -> Calls Tryz.prog 10 #[] V fun e w' => e = .returned (.bool true) /\ Below V.heap.size V w') := fun V hV => zjc V (HTX.o.keep hV)
       generalize evL s2.mem t = r at *
       have HKS : Hid (∀ w' : World, Below wx.heap.size wx w' -> (fun w' => w'.cell? ⟨nb1, 0, none⟩ = some (.int .i64 (n : Int)) /\ w'.cell? ⟨nb1, 1, none⟩ = some (.slice na1 N1.length nc1) /\ w'.cell? ⟨nb2, 0, none⟩ = some (.int .i64 (n : Int)) /\ w'.cell? ⟨nb2, 1, none⟩ = some (.slice na2 N2.length nc2) /\ w'.cell? ⟨w.heap.size, 0, none⟩ = some (.int .i64 (n : Int)) /\ w'.cell? ⟨w.heap.size, 1, none⟩ = some (.slice a t.length cap) /\ w'.cell? ⟨w.heap.size + 1 + 1 + 1, 0, none⟩ = some (.int .u64 (s2.a : Int)) /\ w'.cell? ⟨w.heap.size + 1 + 1 + 1, 1, none⟩ = some (.int .u64 (s2.b : Int)) /\ Below wx.heap.size wx w') w') := lh fun w' hb => ⟨zaa hb a0, zaa hb a1, zaa hb a2, zaa hb a3, zaa hb a4, zaa hb a5, zaa hb a6, zaa hb a7, hb⟩
       clear hs5 hk5 pn1 pn2 pt hq3 hz0 hz3 hz4 hz5 hn1 hn2 s0 s1 sz t0 t1 tz sf0 sf1;go_wp2_with fail;refine wp_region_held_drew (S := (fun w' => w'.cell? ⟨nb1, 0, none⟩ = some (.int .i64 (n : Int)) /\ w'.cell? ⟨nb1, 1, none⟩ = some (.slice na1 N1.length nc1) /\ w'.cell? ⟨nb2, 0, none⟩ = some (.int .i64 (n : Int)) /\ w'.cell? ⟨nb2, 1, none⟩ = some (.slice na2 N2.length nc2) /\ w'.cell? ⟨w.heap.size, 0, none⟩ = some (.int .i64 (n : Int)) /\ w'.cell? ⟨w.heap.size, 1, none⟩ = some (.slice a t.length cap) /\ w'.cell? ⟨w.heap.size + 1 + 1 + 1, 0, none⟩ = some (.int .u64 (s2.a : Int)) /\ w'.cell? ⟨w.heap.size + 1 + 1 + 1, 1, none⟩ = some (.int .u64 (s2.b : Int)) /\ Below wx.heap.size wx w')) (by kernel_rfl) ?_ (fun hHeld => ?_)
       ·try dsimp only
        exact HKS.o _ (Below.refl _ _).drew
       refine tkV 0 50 rfl rfl ?_; try simp only [tkS]
       refine tkV 1 51 rfl rfl ?_; try simp only [tkS]
       refine tkV 2 52 rfl rfl ?_; try simp only [tkS]
       refine tkV 3 53 rfl rfl ?_; try simp only [tkS]
       refine tkV 4 54 rfl rfl ?_; try simp only [tkS]
       refine tkV 5 55 rfl rfl ?_; try simp only [tkS]
       refine tkV 6 56 rfl rfl ?_; try simp only [tkS]
       refine tkV 7 57 rfl rfl ?_; try simp only [tkS]
       refine tkV 8 58 rfl rfl ?_; try simp only [tkS]
       refine tkV 10 60 rfl rfl ?_; try simp only [tkS]
       refine tkV 11 61 rfl rfl ?_; try simp only [tkS]
       refine tkR 9 (.cons rfl (fun K hK => ?_) .nil);go_simp;go_at_call 23;refine (HN1.o _ (last9 (by assumption))).mono ?_;rintro e wA ⟨rfl, hbA⟩;have hwA : Below wx.heap.size wx wA := Below.trans (last9 (by assumption)) (hbA.mono (Below.size (B := wx.heap.size) (w := wx) (last9 (by assumption))));go_wp2_with fail;refine hK.out _ _ ?_ (fun hHeld => ?_)
       ·try dsimp only
        exact HKS.o _ hwA
       clear hK K
       try simp only [tkS]
       refine tkR 12 (.cons rfl (fun K hK => ?_) .nil);go_simp;go_at_call 24;refine (HTV.o _ (last9 (by assumption))).mono ?_;rintro e wB ⟨rfl, hbB⟩;have hwB : Below wx.heap.size wx wB := Below.trans (last9 (by assumption)) (hbB.mono (Below.size (B := wx.heap.size) (w := wx) (last9 (by assumption))));go_wp2_with fail;refine hK.out _ _ ?_ (fun hHeld => ?_)
       ·try dsimp only
        exact HKS.o _ hwB
       clear hK K
       try simp only [tkS]
       refine tkV 13 63 rfl rfl ?_; try simp only [tkS]
       refine tkV 14 64 rfl rfl ?_; try simp only [tkS]
       refine tkV 15 65 rfl rfl ?_; try simp only [tkS]
       refine tkV 16 66 rfl rfl ?_; try simp only [tkS]
       refine tkV 17 67 rfl rfl ?_; try simp only [tkS]
       refine tkV 19 69 rfl rfl ?_; try simp only [tkS]
       refine tkV 20 70 rfl rfl ?_; try simp only [tkS]
       refine tkR 18 (.cons rfl (fun K hK => ?_) .nil);go_simp;go_at_call 23;refine (HN2.o _ (last9 (by assumption))).mono ?_;rintro e wC ⟨rfl, hbC⟩;have hwC : Below wx.heap.size wx wC := Below.trans (last9 (by assumption)) (hbC.mono (Below.size (B := wx.heap.size) (w := wx) (last9 (by assumption))));go_wp2_with fail;refine hK.out _ _ ?_ (fun hHeld => ?_)
       ·try dsimp only
        exact HKS.o _ hwC
       clear hK K
       try simp only [tkS]
       refine tkR 21 (.cons rfl (fun K hK => ?_) .nil);go_simp;go_at_call 24;refine (HTV.o _ (last9 (by assumption))).mono ?_;rintro e wD ⟨rfl, hbD⟩;have hwD : Below wx.heap.size wx wD := Below.trans (last9 (by assumption)) (hbD.mono (Below.size (B := wx.heap.size) (w := wx) (last9 (by assumption))));go_wp2_with fail;refine hK.out _ _ ?_ (fun hHeld => ?_)
       ·try dsimp only
        exact HKS.o _ hwD
       clear hK K
       try simp only [tkS]
       refine tkV 22 72 rfl rfl ?_; try simp only [tkS]
       refine tkV 23 73 rfl rfl ?_; try simp only [tkS]
       refine tkV 24 74 rfl rfl ?_; try simp only [tkS]
       refine tkR 25 (.cons rfl (fun K hK => ?_) .nil);go_simp;go_at_call 10;refine (HWX.o _ (last9 (by assumption))).mono ?_;rintro e wE ⟨rfl, hbE⟩;have hwE : Below wx.heap.size wx wE := Below.trans (last9 (by assumption)) (hbE.mono (Below.size (B := wx.heap.size) (w := wx) (last9 (by assumption))));go_wp2_with fail;refine hK.out _ _ ?_ (fun hHeld => ?_)
       ·try dsimp only
        exact HKS.o _ hwE
       clear hK K
       try simp only [tkS]
       refine tkV 26 76 rfl rfl ?_; try simp only [tkS]
       refine tkV 27 8 rfl rfl ?_; try simp only [tkS]
       refine wpAnyH_done (by kernel_rfl) ?_ _;have HBF := lh hwE;go_wp2;go_ret;exact ⟨rfl, HBX.o.trans (HBF.o.mono HBX.o.size)⟩
end Go.Proofs.YtfmmhjphopikgaaGreatDoor
namespace Go.Proofs.YtfmmhjphopikgaaGreatDoor
open Go.Joins Go.ChangeShapes Go.WideShapes Go.ChangeAt Go.Deep Go.RowKit Cen
section
variable {H : Type} {enc : TypeId × Value -> H} {W : World} {base : Nat} {spare : Nat -> Bool} {held : Bool}
theorem zt7 {r : Reach} {b0 : Nat} {v : Value} {d : DataW H} {p : List MemPlace} (hv : Value.okWide Tryz.prog W r b0 56 v) (h : DataW.Trod enc Tryz.prog W base spare held 56 v d p) :
 ∃ s : St, v = stv s /\ s.ok := by
 simp only [Value.okWide, Tryz.underlying56] at hv;obtain ⟨cs, rfl, _, _⟩ := hv;obtain ⟨fuel, hf⟩ := h;obtain ⟨ys, k, rfl, _, hl, hyl, hat⟩ := DataW.trod_array Tryz.underlying56 hf
 have hc2 : Tryz.prog.cellsOf 56 = 2 := by kernel_rfl
 have hc1 : Tryz.prog.cellsOf 54 = 1 := by kernel_rfl
 rw [hc2] at hl
 have hcs : (Value.agg cs).cells.toList = cs.toList := by simp [Value.cells]
 rw [hcs] at hl hat
 obtain ⟨a0, a1, he⟩ : ∃ a0 a1, cs.toList = [a0, a1] := by
  match h : cs.toList, hl with
  | [a0, a1], _ => exact ⟨a0, a1, rfl⟩
 have hcs2 : cs = #[a0, a1] := by
  apply Array.toList_inj.1; rw [he]
 subst hcs2;have g0 := hat 0 (by omega);have g1 := hat 1 (by omega);rw [hc1] at g0 g1;have e0 : ys[0]? = some (ys[0]'(by omega)) := List.getElem?_eq_getElem (by omega);have e1 : ys[1]? = some (ys[1]'(by omega)) := List.getElem?_eq_getElem (by omega);rw [e0] at g0;rw [e1] at g1;simp only [Nat.zero_mul, List.drop_zero, List.take_succ_cons, List.take_zero, Nat.one_mul, List.drop_succ_cons] at g0 g1;obtain ⟨z0, f0, _, w0⟩ := DataW.trod_int Tryz.underlying54 g0;obtain ⟨z1, f1, _, w1⟩ := DataW.trod_int Tryz.underlying54 g1;simp only [List.cons.injEq, and_true] at f0 f1;subst f0; subst f1
 simp [Lit.wf, IntKind.min, IntKind.max, IntKind.signed, IntKind.bits] at w0 w1
 obtain ⟨n0, rfl⟩ := Int.eq_ofNat_of_zero_le w0.1;obtain ⟨n1, rfl⟩ := Int.eq_ofNat_of_zero_le w1.1;exact ⟨⟨n0, n1⟩, rfl, by show n0 < U64; unfold U64; omega, by show n1 < U64; unfold U64; omega⟩
end
end Go.Proofs.YtfmmhjphopikgaaGreatDoor
