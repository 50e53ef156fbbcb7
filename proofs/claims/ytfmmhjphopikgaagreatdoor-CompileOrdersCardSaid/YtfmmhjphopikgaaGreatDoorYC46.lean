/- Part of the proofs that laws of censuslaw24 return true for every input, where the tables that the rows list are laid. Texts: Ge. -/
import Derived.Test.YtfmmhjphopikgaaGreatDoorYC45
import Derived.Test.YtfmmhjphopikgaaGreatDoorYC6
import Derived.Test.YtfmmhjphopikgaaGreatDoorYC1
import Derived.BigRegion
import Derived.BigQuiet
import Derived.Deep.RegionHeld3
set_option maxHeartbeats 8000000
set_option maxRecDepth 100000
set_option linter.unusedSimpArgs false
set_option linter.unusedVariables false
namespace Go.Proofs.YtfmmhjphopikgaaGreatDoor
open Go.RowKit Cen
theorem ofL_mem (xs : List Int) (v : Int) : (ofL xs).mem v = true ↔ v ∈ xs /\ 1 <= v /\ v <= 128 := by
 have : ∀ s : St, (xs.foldl St.add s).mem v = true ↔ s.mem v = true \/ (v ∈ xs /\ 1 <= v /\ v <= 128) := by
  induction xs with
  | nil => intro s; simp
  | cons x xs ih =>
    intro s;rw [List.foldl_cons, ih, St.mem_add];simp only [Bool.or_eq_true, Bool.and_eq_true, decide_eq_true_eq, List.mem_cons]
    constructor
    ·rintro ((h | ⟨⟨rfl, h1⟩, h2⟩) | ⟨h, h1⟩)
     ·exact .inl h
     ·exact .inr ⟨.inl rfl, h1, h2⟩
     exact .inr ⟨.inr h, h1⟩
    rintro (h | ⟨rfl | h, h1, h2⟩)
    ·exact .inl (.inl h)
    ·exact .inl (.inr ⟨⟨rfl, h1⟩, h2⟩)
    exact .inr ⟨h, h1, h2⟩
 unfold ofL;rw [this, St.mem_zero]; simp
theorem Gdt.all {n : Nat} {t : List Cl} {order : List Int} (hg : Gdt n t order) (h0 : order.length ≠ 0) : ∀ v : Int, 1 <= v -> v <= n -> v ∈ order := fun v h1 h2 => by
 have h9 := hg.n9;have hc := hg.ck;unfold za0 at hc;rw [if_neg (by rw [hg.ct]; simp)] at hc
 have he : ofL order = zcy n := Classical.byContradiction fun h => by
  rw [if_pos ⟨by omega, .inr h⟩] at hc; simp at hc
 have : (ofL order).mem v = true := by
  rw [he, zqn];simp only [Bool.and_eq_true, decide_eq_true_eq];omega
 exact ((ofL_mem order v).1 this).1
section
variable {n : Nat} {t : List Cl} {order : List Int} {o1 o2 : Bool} {B : Nat} {w : World} {na : Option Addr} {nc : Nat} {ca : Option Addr} {cc : Nat} {N : List Nd} {C : List Clm}
structure DecN (N : List Nd) (order : List Int) (k kk : Nat) : Prop where
 lt : kk < order.length
 lo : 1 <= order.getD kk 0
 hi : order.getD kk 0 <= 128
 yes : ((varsL N).getD k St.zero).mem (order.getD kk 0) = true
 no : ∀ j, j < kk -> ((varsL N).getD k St.zero).mem (order.getD j 0) = false
 ab : ∃ a b : Nat, (N.getD k default).ins = [(a : Int), (b : Int)] /\ a < N.length /\ b < N.length /\ litQ N a (-(order.getD kk 0)) = true /\ litQ N b (order.getD kk 0) = true
theorem CRes.first (h : CRes n t order o1 o2 B w na nc ca cc N C) (hg : Gdt n t order) (h0 : order.length ≠ 0) {k : Nat} (hk : k < N.length) (h4 : (N.getD k default).kind = 4) : ∃ kk, DecN N order k kk := by
 have h9 := hg.n9;obtain ⟨l, a, b, ho⟩ := h.or hg hk h4;obtain ⟨kk, hkk, e, hno⟩ := ho.first (by omega) (hg.all h0)
 have hgd : ∀ j, j < order.length -> ∀ (hj : j < order.length), order.getD j 0 = order[j] := fun j _ hj => by simp [List.getD_eq_getElem?_getD, hj]
 have e2 : order.getD kk 0 = chF order o1 n l := by rw [hgd kk hkk hkk, e]
 have hins : (N.getD k default).ins = [(a : Int), (b : Int)] := ho.ins;have h1 := ho.lo;have h2 := ho.hi;have h3 := ho.la;have h5 := ho.lb;have h6 := ho.bv;have h7 := ho.ha.litQ;have h8 := ho.hb.litQ;rw [<- e2] at h1 h2 h6 h7 h8;refine ⟨kk, hkk, h1, by omega, h6, fun j hj => ?_, a, b, hins, by omega, by omega, h7, h8⟩;have hn := hno j hj;rw [hgd j (by omega) (by omega)];exact Bool.eq_false_iff.2 hn
theorem CRes.decides (h : CRes n t order o1 o2 B w na nc ca cc N C) (hg : Gdt n t order) {k kk : Nat} (hk : k < N.length) (hd : DecN N order k kk) :
 Calls Tryz.prog 20 #[.agg #[.int .i64 (n : Int), .slice na N.length nc], .int .i64 k, .int .i64 (order.getD kk 0)] w fun e w' => e = .returned (.bool true) /\ Below w.heap.size w w' := by
 obtain ⟨a, b, h1, h2, h3, h4, h5⟩ := hd.ab;refine decides_ok (n : Int) na nc N k (order.getD kk 0) a b w (by have := h.small hg; omega) hk h1 h2 h3 (fun i hi j hj => ?_) h4 h5 ⟨hd.lo, hd.hi⟩ h.n;have := netOk_ins (h.ok hg) hi;simp only at this;rw [show N.getD i default = N[i] by simp [List.getD_eq_getElem?_getD, hi]] at hj;have := this j hj;omega
theorem CRes.vars (h : CRes n t order o1 o2 B w na nc ca cc N C) (hg : Gdt n t order) :
 Calls Tryz.prog 18 #[.agg #[.int .i64 (n : Int), .slice na N.length nc]] w fun e w' => ∃ g, e = .returned (.slice (some ⟨g, 0, none⟩) N.length N.length) /\ zga w' w.heap.size (.slice (some ⟨g, 0, none⟩) N.length N.length) (varsL N) /\ Below w.heap.size w w' :=
 nodeVars_any (n : Int) na nc N w (h.ok hg) (h.small hg) h.n
end
theorem last5o {a b c d e : Prop} (x : a /\ b /\ c /\ d /\ e) : e := x.2.2.2.2
theorem orders_any (z : Int) (a : Option Addr) (cap : Nat) (t : List Cl) (oa : Option Addr) (oc : Nat) (order : List Int) (o1 o2 : Bool) (w : World) (hx : LsCells w a t) (ho : IntCells w oa order) (htab : Tab w) :
 Calls Tryz.prog 5 #[.agg #[.int .i64 z, .slice a t.length cap], .agg #[.slice oa order.length oc, .bool o1, .bool o2]] w fun e w' => e = .returned (.bool true) /\ Below w.heap.size w w' := by
 obtain ⟨w0, hw0⟩ : ∃ w0, w0 = (w.alloc (.cells #[.int .i64 z, .slice a t.length cap] 24)).alloc (.cells #[.slice oa order.length oc, .bool o1, .bool o2] 27) := ⟨_, rfl⟩
 have hb0 : Below w.heap.size w w0 := by rw [hw0]; exact ((Below.refl _ _).alloc (Nat.le_refl _) _).alloc (by simp) _
 have q0 : Blk w0 w.heap.size #[.int .i64 z, .slice a t.length cap] 24 := by rw [hw0]; exact (Blk.new w _ _).alloc _
 have q1 : Blk w0 (w.heap.size + 1) #[.slice oa order.length oc, .bool o1, .bool o2] 27 := by rw [hw0]; exact Blk.new' _ (by simp) _ _
 have HB0 := lh hb0;have Q0 := lh q0;have Q1 := lh q1;have HX := lh (hx.keep hb0);have HO := lh (ho.keep hb0);have HT := lh (htab.keep hb0);have HL := lh (fun W (hb : Below w0.heap.size w0 W) => zip z a cap t W (HX.o.keep hb));have HWK := lh (fun W (hb : Below w0.heap.size w0 W) => zjc W (HT.o.keep hb));clear hx ho htab hb0 q0 q1
 cases hl : zch z t with
 | false =>
   rw [hl] at HL;clear hl;go_enter Tryz.func5, Tryz.ntmps5;go_wp2_with fail;rw [<- hw0];clear hw0;refine (HL.o _ (Below.refl _ _)).mono ?_;rintro e w1 ⟨rfl, hb1⟩;have HB1 := lh hb1;clear hb1;go_wp2_with fail;refine (HWK.o _ HB1.o).mono ?_;rintro e w2 ⟨rfl, hb2⟩;have HB2 := lh (HB0.o.trans ((HB1.o.trans (hb2.mono HB1.o.size)).mono HB0.o.size));clear hb2;go_wp2;go_ret;exact ⟨rfl, HB2.o⟩
 | true =>
   rw [hl] at HL
   have htl : t.length <= 40 := by
    unfold zch at hl;simp only [Bool.and_eq_true, decide_eq_true_eq] at hl;exact hl.2.1
   have HG := lh (fun W (hb : Below w0.heap.size w0 W) => zoo z a cap t oa oc order o1 o2 W (by omega) (HX.o.keep hb) (HO.o.keep hb))
   cases hc : decide (za0 z t order = 0) with
   | false =>
     rw [hc] at HG;clear hl hc;go_enter Tryz.func5, Tryz.ntmps5;go_wp2_with fail;rw [<- hw0];clear hw0;refine (HL.o _ (Below.refl _ _)).mono ?_;rintro e w1 ⟨rfl, hb1⟩;have HB1 := lh hb1;have p0 := Q0.o.later hb1;have p1 := Q1.o.later hb1;have c0 := p0.cell 0;have c1 := p0.cell 1;have d0 := p1.cell 0;have d1 := p1.cell 1;have d2 := p1.cell 2;have z0 := p0.lt;have z1 := p1.lt;clear hb1 p0 p1;go_wp2_with fail;refine (HG.o _ HB1.o).mono ?_;rintro e w2 ⟨rfl, hb2⟩;have HB2 := lh (HB1.o.trans (hb2.mono HB1.o.size));clear hb2 c0 c1 d0 d1 d2 z0 z1;go_wp2_with fail;refine (HWK.o _ HB2.o).mono ?_;rintro e w3 ⟨rfl, hb3⟩
     have HB3 := lh (HB0.o.trans ((HB2.o.trans (hb3.mono HB2.o.size)).mono HB0.o.size));clear hb3;go_wp2;go_ret;exact ⟨rfl, HB3.o⟩
   | true =>
     rw [hc] at HG;obtain ⟨n, rfl, hg⟩ := Gdt.of hl (of_decide_eq_true hc);have HGD := lh hg;have HCP := lh (fun W (hb : Below w0.heap.size w0 W) => zhd n a cap t oa oc order o1 o2 W hg (HX.o.keep hb) (HO.o.keep hb) (HT.o.keep hb));clear hl hc htl hg;go_enter Tryz.func5, Tryz.ntmps5;go_wp2_with fail;rw [<- hw0];clear hw0;refine (HL.o _ (Below.refl _ _)).mono ?_;rintro e w1 ⟨rfl, hb1⟩;have HB1 := lh hb1;have p0 := Q0.o.later hb1;have p1 := Q1.o.later hb1;have c0 := p0.cell 0;have c1 := p0.cell 1;have d0 := p1.cell 0;have d1 := p1.cell 1;have d2 := p1.cell 2;have z0 := p0.lt;have z1 := p1.lt;clear hb1 p0 p1
     go_wp2_with fail;refine (HG.o _ HB1.o).mono ?_;rintro e w2 ⟨rfl, hb2⟩;have HB2 := lh (HB1.o.trans (hb2.mono HB1.o.size));have p0 := Q0.o.later HB2.o;have p1 := Q1.o.later HB2.o;have c0 := p0.cell 0;have c1 := p0.cell 1;have d0 := p1.cell 0;have d1 := p1.cell 1;have d2 := p1.cell 2;have z0 := p0.lt;have z1 := p1.lt;clear hb2 p0 p1
     by_cases h0 : order.length = 0
     ·have he : ((order.length : Int) == 0) = true := by simpa using h0
      clear h0;go_wp2_with fail;refine (HWK.o _ HB2.o).mono ?_;rintro e wz ⟨rfl, hbz⟩;have HBZ := lh (HB0.o.trans (((HB2.o).trans (hbz.mono (HB2.o).size)).mono HB0.o.size));clear hbz;go_wp2;go_ret;exact ⟨rfl, HBZ.o⟩
     have he : ((order.length : Int) == 0) = false := by simpa using h0
     have H0 := lh h0;clear h0;go_wp2_with fail;refine (HCP.o _ HB2.o).mono ?_;rintro e w3 ⟨na, nc, ca, cc, N, C, rfl, hr, hb3⟩;have hbw3 := HB2.o.trans (hb3.mono HB2.o.size)
     obtain ⟨nb, hnb⟩ : ∃ nb, nb = w3.heap.size := ⟨_, rfl⟩
     obtain ⟨w4, hw4⟩ : ∃ w4, w4 = w3.alloc (.cells #[.int .i64 (n : Int), .slice na N.length nc] 33) := ⟨_, rfl⟩
     have hb4 : Below w3.heap.size w3 w4 := by rw [hw4]; exact (Below.refl _ _).alloc (Nat.le_refl _) _
     have q4 : Blk w4 nb #[.int .i64 (n : Int), .slice na N.length nc] 33 := by rw [hw4, hnb]; exact Blk.new _ _ _
     have HR := lh (hr.keep hb4);have HB4 := lh (hbw3.trans (hb4.mono hbw3.size));have Q4 := lh q4;have p0 := Q0.o.later hbw3;clear c0 c1 d0 d1 d2 z0 z1;have c0 := p0.cell 0;have c1 := p0.cell 1;have z0 := p0.lt;clear hr hb3 hbw3 hb4 q4 p0;go_wp2_with fail;rw [<- hnb, <- hw4];clear hw4 hnb c0 c1 z0;refine (HR.o.valid HGD.o).mono ?_;rintro e w5 ⟨rfl, hb5⟩;have HB5 := lh (HB4.o.trans (hb5.mono HB4.o.size));have HR5 := lh (HR.o.keep hb5);have Q5 := lh (Q4.o.later hb5);have k0 := Q5.o.cell 0;have k1 := Q5.o.cell 1;have kz := Q5.o.lt;clear hb5;go_wp2_with fail;refine (HR5.o.vars HGD.o).mono ?_;rintro e w6 ⟨g, rfl, hrow, hb6⟩
     have HRW := lh hrow;have HB6 := lh (HB5.o.trans (hb6.mono HB5.o.size));have HR6 := lh (HR5.o.keep hb6);have Q6 := lh (Q5.o.later hb6);have hnl := HR6.o.small HGD.o
     have hol : order.length <= 9 := by have := HGD.o.ol; have := HGD.o.n9; omega
     obtain ⟨ob, oo, hoa, _⟩ := HO.o 0 (by have := H0.o; omega);subst hoa;have k0 := Q6.o.cell 0;have k1 := Q6.o.cell 1;have kz := Q6.o.lt;clear hrow hb6;go_wp2_with fail
     go_loopw [9] (fun i wr => ∃ k : Nat, k <= N.length /\ i = .int .i64 k /\ Below w6.heap.size w6 wr) (fun i _ => N.length - (intOf i).toNat)
     case atStart => exact ⟨0, Nat.zero_le _, rfl, Below.refl _ _⟩
     obtain ⟨k, hk, rfl, hbr⟩ := hrel;have HBR := lh hbr;have HB7 := lh (HB6.o.trans (hbr.mono HB6.o.size));have HR7 := lh (HR6.o.keep hbr);have Q7 := lh (Q6.o.later hbr);have p0 := Q7.o.cell 0;have p1 := Q7.o.cell 1;have pz := Q7.o.lt;clear hbr k0 k1 kz
     by_cases hlt : k < N.length
     ·obtain ⟨nb2, noff, hne, x0, x1, xa, xc, x2, hxi, hxl⟩ := HR7.o.n k hlt
      have hki : (k : Int) < (N.length : Int) := by omega
      have xz := zak x0;have HF := lh (fun h4 => HR7.o.first HGD.o H0.o hlt h4);have HNE := lh hne;generalize N.getD k default = x at *
      by_cases h4 : x.kind = 4
      ·obtain ⟨kk, hd⟩ := HF.o h4
       have d4 : (x.kind != 4) = false := by simp [h4]
       have HD := lh hd;have hkk := hd.lt;have hvl : (varsL N).length = N.length := varsL_length N;have hrow := HRW.o.later HBR.o
       have hgs : (varsL N).getD k St.zero = (varsL N)[k]'(by omega) := by simp [List.getD_eq_getElem?_getD, hvl, hlt]
       have y0 : wr.cell? ⟨g, k * 2, none⟩ = some (.int .u64 (((varsL N).getD k St.zero).a : Int)) := by rw [hgs]; exact hrow.cell hvl.symm zc6 k 0 (by omega) (by omega)
       have y1 : wr.cell? ⟨g, k * 2 + 1, none⟩ = some (.int .u64 (((varsL N).getD k St.zero).b : Int)) := by rw [hgs]; exact hrow.cell hvl.symm zc6 k 1 (by omega) (by omega)
       have HSO : Hid ((varsL N).getD k St.zero).ok := by show St.ok _; rw [hgs]; exact varsL_ok N _ (List.getElem_mem _)
       have HYES := lh hd.yes;have HNO := lh hd.no;generalize (varsL N).getD k St.zero = s at *;clear h4 hd hvl hrow hgs;subst hne;go_wp2_with fail;clear x0 x1 x2 xz p0 p1 pz
       go_loopw [10] (fun j wi => ∃ q : Nat, q <= kk /\ j = .int .i64 q /\ Below wr.heap.size wr wi) (fun j _ => kk - (intOf j).toNat)
       case atStart => exact ⟨0, Nat.zero_le _, rfl, Below.refl _ _⟩
       obtain ⟨q, hq, rfl, hbi⟩ := hrel
       rename World => wi
       have HBI := lh hbi;have HB8 := lh (HB7.o.trans (hbi.mono HB7.o.size));have po := (Q1.o.later HB8.o).cell 0;have poz := (Q1.o.later HB8.o).lt;have z0 := zaa hbi y0;have z1 := zaa hbi y1;obtain ⟨ob', oo', hoe, e0⟩ := (HO.o.keep HB8.o) q (by omega);simp only [Option.some.injEq, Addr.mk.injEq, and_true] at hoe;obtain ⟨rfl, rfl⟩ := hoe
       have hqo : (q : Int) < (order.length : Int) := by omega
       clear hbi
       by_cases hqk : q < kk
       ·have HH : Hid (∀ W, Below wi.heap.size wi W -> Calls Tryz.prog 19 #[.agg #[.int .u64 (s.a : Int), .int .u64 (s.b : Int)], .int .i64 (order.getD q 0)] W fun e w' => e = .returned (.bool false) /\ Below W.heap.size W w') := fun W _ => by
         have := has_any s (order.getD q 0) W HSO.o
         rwa [HNO.o q hqk] at this
        generalize order.getD q 0 = v at *
        have HKS : Hid (∀ w' : World, Below wi.heap.size wi w' -> (fun w' => w'.cell? ⟨w.heap.size + 1, 0, none⟩ = some (.slice (some ⟨ob, oo, none⟩) order.length oc) /\ w'.cell? ⟨g, k * 2, none⟩ = some (.int .u64 (s.a : Int)) /\ w'.cell? ⟨g, k * 2 + 1, none⟩ = some (.int .u64 (s.b : Int)) /\ w'.cell? ⟨ob, oo + q, none⟩ = some (.int .i64 v) /\ Below wi.heap.size wi w') w') := lh fun w' hb => ⟨zaa hb po, zaa hb z0, zaa hb z1, zaa hb e0, hb⟩
        go_wp2_with fail;refine wp_region_held_drew (S := (fun w' => w'.cell? ⟨w.heap.size + 1, 0, none⟩ = some (.slice (some ⟨ob, oo, none⟩) order.length oc) /\ w'.cell? ⟨g, k * 2, none⟩ = some (.int .u64 (s.a : Int)) /\ w'.cell? ⟨g, k * 2 + 1, none⟩ = some (.int .u64 (s.b : Int)) /\ w'.cell? ⟨ob, oo + q, none⟩ = some (.int .i64 v) /\ Below wi.heap.size wi w')) (by kernel_rfl) ?_ (fun hHeld => ?_)
        ·try dsimp only
         exact HKS.o _ (Below.refl _ _).drew
        refine tkV 0 63 rfl rfl ?_; try simp only [tkS]
        refine tkV 1 64 rfl rfl ?_; try simp only [tkS]
        refine tkV 2 65 rfl rfl ?_; try simp only [tkS]
        refine tkV 3 66 rfl rfl ?_; try simp only [tkS]
        refine tkV 4 67 rfl rfl ?_; try simp only [tkS]
        refine tkV 5 68 rfl rfl ?_; try simp only [tkS]
        refine tkV 6 69 rfl rfl ?_; try simp only [tkS]
        refine tkV 7 70 rfl rfl ?_; try simp only [tkS]
        refine tkV 8 71 rfl rfl ?_; try simp only [tkS]
        refine tkV 9 72 rfl rfl ?_; try simp only [tkS]
        refine tkV 10 73 rfl rfl ?_; try simp only [tkS]
        refine tkV 11 74 rfl rfl ?_; try simp only [tkS]
        refine tkV 12 75 rfl rfl ?_; try simp only [tkS]
        refine tkV 13 76 rfl rfl ?_; try simp only [tkS]
        refine tkV 14 77 rfl rfl ?_; try simp only [tkS]
        refine tkR 15 (.cons rfl (fun K hK => ?_) .nil);go_simp;go_at_call 19
        with_reducible refine Calls.mono (HH.o _ (last5o (by assumption))) ?_
        rintro e wA ⟨rfl, hbA⟩;have hwA : Below wi.heap.size wi wA := Below.trans (last5o (by assumption)) (hbA.mono (Below.size (B := wi.heap.size) (w := wi) (last5o (by assumption))));go_wp2_with fail;refine hK.out _ _ ?_ (fun hHeld => ?_)
        ·try dsimp only
         exact HKS.o _ hwA
        clear hK K
        try simp only [tkS]
        refine tkV 16 79 rfl rfl ?_; try simp only [tkS]
        refine tkV 17 80 rfl rfl ?_; try simp only [tkS]
        refine wpAnyH_done (by kernel_rfl) ?_ _;have HBF : Hid (Below wi.heap.size wi wA) := hwA;go_wp2;go_roundw
        case rel => exact ⟨q + 1, by omega, by go_num, HBI.o.trans (HBF.o.mono HBI.o.size)⟩
        case measure => simp [intOf]; omega
       have hqe : q = kk := by omega
       subst hqe
       have HH : Hid (∀ W, Below wi.heap.size wi W -> Calls Tryz.prog 19 #[.agg #[.int .u64 (s.a : Int), .int .u64 (s.b : Int)], .int .i64 (order.getD q 0)] W fun e w' => e = .returned (.bool true) /\ Below W.heap.size W w') := fun W _ => by
        have := has_any s (order.getD q 0) W HSO.o
        rwa [HYES.o] at this
       have HR8 := lh (HR7.o.keep HBI.o)
       have HDD : Hid (∀ W, Below wi.heap.size wi W -> Calls Tryz.prog 20 #[.agg #[.int .i64 (n : Int), .slice (some ⟨nb2, noff, none⟩) N.length nc], .int .i64 k, .int .i64 (order.getD q 0)] W fun e w' => e = .returned (.bool true) /\ Below W.heap.size W w') := fun W hW => (HR8.o.keep hW).decides HGD.o hlt HD.o
       have hqe2 : ((q : Int) == (order.length : Int)) = false := by simp; omega
       have Q8 := lh (Q7.o.later HBI.o);have m0 := Q8.o.cell 0;have m1 := Q8.o.cell 1;generalize order.getD q 0 = v at *
       have HKS : Hid (∀ w' : World, Below wi.heap.size wi w' -> (fun w' => w'.cell? ⟨w.heap.size + 1, 0, none⟩ = some (.slice (some ⟨ob, oo, none⟩) order.length oc) /\ w'.cell? ⟨g, k * 2, none⟩ = some (.int .u64 (s.a : Int)) /\ w'.cell? ⟨g, k * 2 + 1, none⟩ = some (.int .u64 (s.b : Int)) /\ w'.cell? ⟨ob, oo + q, none⟩ = some (.int .i64 v) /\ Below wi.heap.size wi w') w') := lh fun w' hb => ⟨zaa hb po, zaa hb z0, zaa hb z1, zaa hb e0, hb⟩
       have HKT : Hid (∀ w' : World, Below wi.heap.size wi w' -> (fun w' => w'.cell? ⟨w.heap.size + 1, 0, none⟩ = some (.slice (some ⟨ob, oo, none⟩) order.length oc) /\ w'.cell? ⟨nb, 0, none⟩ = some (.int .i64 (n : Int)) /\ w'.cell? ⟨nb, 1, none⟩ = some (.slice (some ⟨nb2, noff, none⟩) N.length nc) /\ w'.cell? ⟨ob, oo + q, none⟩ = some (.int .i64 v) /\ Below wi.heap.size wi w') w') := lh fun w' hb => ⟨zaa hb po, zaa hb m0, zaa hb m1, zaa hb e0, hb⟩
       clear m0 m1;go_wp2_with fail;refine wp_region_held_drew (S := (fun w' => w'.cell? ⟨w.heap.size + 1, 0, none⟩ = some (.slice (some ⟨ob, oo, none⟩) order.length oc) /\ w'.cell? ⟨g, k * 2, none⟩ = some (.int .u64 (s.a : Int)) /\ w'.cell? ⟨g, k * 2 + 1, none⟩ = some (.int .u64 (s.b : Int)) /\ w'.cell? ⟨ob, oo + q, none⟩ = some (.int .i64 v) /\ Below wi.heap.size wi w')) (by kernel_rfl) ?_ (fun hHeld => ?_)
       ·try dsimp only
        exact HKS.o _ (Below.refl _ _).drew
       refine tkV 0 63 rfl rfl ?_; try simp only [tkS]
       refine tkV 1 64 rfl rfl ?_; try simp only [tkS]
       refine tkV 2 65 rfl rfl ?_; try simp only [tkS]
       refine tkV 3 66 rfl rfl ?_; try simp only [tkS]
       refine tkV 4 67 rfl rfl ?_; try simp only [tkS]
       refine tkV 5 68 rfl rfl ?_; try simp only [tkS]
       refine tkV 6 69 rfl rfl ?_; try simp only [tkS]
       refine tkV 7 70 rfl rfl ?_; try simp only [tkS]
       refine tkV 8 71 rfl rfl ?_; try simp only [tkS]
       refine tkV 9 72 rfl rfl ?_; try simp only [tkS]
       refine tkV 10 73 rfl rfl ?_; try simp only [tkS]
       refine tkV 11 74 rfl rfl ?_; try simp only [tkS]
       refine tkV 12 75 rfl rfl ?_; try simp only [tkS]
       refine tkV 13 76 rfl rfl ?_; try simp only [tkS]
       refine tkV 14 77 rfl rfl ?_; try simp only [tkS]
       refine tkR 15 (.cons rfl (fun K hK => ?_) .nil);go_simp;go_at_call 19
       with_reducible refine Calls.mono (HH.o _ (last5o (by assumption))) ?_
       rintro e wA ⟨rfl, hbA⟩;have hwA : Below wi.heap.size wi wA := Below.trans (last5o (by assumption)) (hbA.mono (Below.size (B := wi.heap.size) (w := wi) (last5o (by assumption))));go_wp2_with fail;refine hK.out _ _ ?_ (fun hHeld => ?_)
       ·try dsimp only
        exact HKS.o _ hwA
       clear hK K
       try simp only [tkS]
       refine tkV 16 79 rfl rfl ?_; try simp only [tkS]
       refine tkV 17 80 rfl rfl ?_; try simp only [tkS]
       refine wpAnyH_done (by kernel_rfl) ?_ _;go_wp2_with fail;refine wp_region_held_drew (S := (fun w' => w'.cell? ⟨w.heap.size + 1, 0, none⟩ = some (.slice (some ⟨ob, oo, none⟩) order.length oc) /\ w'.cell? ⟨nb, 0, none⟩ = some (.int .i64 (n : Int)) /\ w'.cell? ⟨nb, 1, none⟩ = some (.slice (some ⟨nb2, noff, none⟩) N.length nc) /\ w'.cell? ⟨ob, oo + q, none⟩ = some (.int .i64 v) /\ Below wi.heap.size wi w')) (by kernel_rfl) ?_ (fun hHeld => ?_)
       ·try dsimp only
        exact HKT.o _ hwA.drew
       refine tkV 0 83 rfl rfl ?_; try simp only [tkS]
       refine tkV 1 84 rfl rfl ?_; try simp only [tkS]
       refine tkV 2 85 rfl rfl ?_; try simp only [tkS]
       refine tkV 3 86 rfl rfl ?_; try simp only [tkS]
       refine tkV 4 87 rfl rfl ?_; try simp only [tkS]
       refine tkV 5 88 rfl rfl ?_; try simp only [tkS]
       refine tkV 6 89 rfl rfl ?_; try simp only [tkS]
       refine tkV 7 90 rfl rfl ?_; try simp only [tkS]
       refine tkV 8 91 rfl rfl ?_; try simp only [tkS]
       refine tkV 9 92 rfl rfl ?_; try simp only [tkS]
       refine tkV 10 93 rfl rfl ?_; try simp only [tkS]
       refine tkV 11 94 rfl rfl ?_; try simp only [tkS]
       refine tkV 12 95 rfl rfl ?_; try simp only [tkS]
       refine tkR 13 (.cons rfl (fun K hK => ?_) .nil);go_simp;go_at_call 20
       with_reducible refine Calls.mono (HDD.o _ (last5o (by assumption))) ?_
       rintro e wB ⟨rfl, hbB⟩;have hwB : Below wi.heap.size wi wB := Below.trans (last5o (by assumption)) (hbB.mono (Below.size (B := wi.heap.size) (w := wi) (last5o (by assumption))));go_wp2_with fail;refine hK.out _ _ ?_ (fun hHeld => ?_)
       ·try dsimp only
        exact HKT.o _ hwB
       clear hK K
       try simp only [tkS]
       refine tkV 14 97 rfl rfl ?_; try simp only [tkS]
       refine tkV 15 98 rfl rfl ?_; try simp only [tkS]
       refine wpAnyH_done (by kernel_rfl) ?_ _;have HBF : Hid (Below wi.heap.size wi wB) := hwB;go_wp2;go_roundw
       case rel => exact ⟨k + 1, by omega, by go_num, HBR.o.trans ((HBI.o.trans (HBF.o.mono HBI.o.size)).mono HBR.o.size)⟩
       case measure => simp [intOf]; omega
      have d4 : (x.kind != 4) = true := by simpa using h4
      clear h4;subst hne;go_wp2;go_roundw
      case rel => exact ⟨k + 1, by omega, by go_num, HBR.o⟩
      case measure => simp [intOf]; omega
     have hke : k = N.length := by omega
     subst hke;go_wp2_with fail;refine (HWK.o _ HB7.o).mono ?_;rintro e wz ⟨rfl, hbz⟩;have HBZ := lh (HB0.o.trans (((HB7.o).trans (hbz.mono (HB7.o).size)).mono HB0.o.size));clear hbz;go_wp2;go_ret;exact ⟨rfl, HBZ.o⟩
end Go.Proofs.YtfmmhjphopikgaaGreatDoor
