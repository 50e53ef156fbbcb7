/- Part of the proofs that laws of censuslaw24 return true for every input, where the tables that the rows list are laid. Texts: Gg. -/
import Derived.Test.YtfmmhjphopikgaaGreatDoorYC42
import Derived.Test.YtfmmhjphopikgaaGreatDoorYC29
import Derived.Test.YtfmmhjphopikgaaGreatDoorYC1
import Derived.Deep.RegionHeld3
import Derived.BigRegion
import Derived.Lib.Hide
import Derived.RowKit
import Derived.Test.YtfmmhjphopikgaaGreatDoorYC28
import Derived.Test.YtfmmhjphopikgaaGreatDoorYC16
import Derived.Test.YtfmmhjphopikgaaGreatDoorYC15
import Derived.Test.YtfmmhjphopikgaaGreatDoorYC14
import Derived.Test.YtfmmhjphopikgaaGreatDoorYC13
import Derived.Test.YtfmmhjphopikgaaGreatDoorYC12
import Derived.Test.YtfmmhjphopikgaaGreatDoorYC11
import Derived.Test.YtfmmhjphopikgaaGreatDoorYC4
import Derived.Test.YtfmmhjphopikgaaGreatDoorYC3
import Derived.Test.YtfmmhjphopikgaaGreatDoorYC2
import Derived.Test.YtfmmhjphopikgaaGreatDoorYS1
import Derived.Test.YtfmmhjphopikgaaGreatDoorProg
import Derived.WalkKit
import Derived.WalkSpells
import Derived.WalkLawsBesides
import Derived.Deep.QuietTactic
import Derived.BigQuiet
import Derived.Laws.ResultCell
import Derived.Deep.RegionWith
import Derived.Deep.DeepCutAuto
import Derived.Deep.CutRange
import Derived.Lib.SliceRun
import Derived.Test.YtfmmhjphopikgaaGreatDoorYC5
import Derived.Shelf.Small.Bits
import Derived.Shelf.Strconv.Itoa0
import Derived.Shelf.Strconv.Itoa1
import Derived.Shelf.LaysM
import Derived.Shelf.Strconv.Itoa2
import Derived.Shelf.Sort.Plain
import Derived.Shelf.Strconv.AppendUint10
import Derived.Shelf.Strconv.AppendInt10
import Derived.Shelf.Strconv.AppendIntPublic10
import Derived.Shelf.Slices.Equal
import Derived.Ground.Names2Prog
import Derived.Shelf.Slices.CompactI
import Derived.Maps.OwnOps
import Derived.Maps.OwnSet
import Derived.Lib.ItoaNum
import Derived.Lib.AppendStr
import Derived.Deep.AppendLies
import Derived.Deep.RegionLaw
import Derived.StillTailTactics
import Derived.Sort.OwnSortedInts
import Derived.Lib.SlicesCompact
import Derived.Lib.RowBridge
import Derived.Test.YtfmmhjphopikgaaGreatDoorYC6
import Derived.Outline
import Derived.Test.YtfmmhjphopikgaaGreatDoorYC17
import Derived.Defers
import Derived.Recover
import Derived.Test.YtfmmhjphopikgaaGreatDoorYC24
import Derived.Test.YtfmmhjphopikgaaGreatDoorYC21
import Derived.Test.YtfmmhjphopikgaaGreatDoorYC18
import Derived.Test.YtfmmhjphopikgaaGreatDoorYC7
import Derived.Deep.LoopGhost
import Derived.Test.YtfmmhjphopikgaaGreatDoorYC20
import Derived.Test.YtfmmhjphopikgaaGreatDoorYC19
import Derived.Lib.AppendIntMem
import Derived.Lib.OthersKept
import Derived.Lib.Slices
import Derived.Laws.IdiomStrings
import Derived.Test.YtfmmhjphopikgaaGreatDoorYC8
import Derived.Test.YtfmmhjphopikgaaGreatDoorYC10
import Derived.Test.YtfmmhjphopikgaaGreatDoorYC9
import Derived.Test.YtfmmhjphopikgaaGreatDoorYC23
import Derived.Test.YtfmmhjphopikgaaGreatDoorYC22
import Derived.Test.YtfmmhjphopikgaaGreatDoorYC27
import Derived.Test.YtfmmhjphopikgaaGreatDoorYC26
import Derived.Test.YtfmmhjphopikgaaGreatDoorYC25
import Derived.Test.YtfmmhjphopikgaaGreatDoorYC41
import Derived.Test.YtfmmhjphopikgaaGreatDoorYC40
import Derived.Test.YtfmmhjphopikgaaGreatDoorYC39
import Derived.Test.YtfmmhjphopikgaaGreatDoorYC38
import Derived.Test.YtfmmhjphopikgaaGreatDoorYC37
import Derived.Test.YtfmmhjphopikgaaGreatDoorYC36
import Derived.Test.YtfmmhjphopikgaaGreatDoorYC35
import Derived.Test.YtfmmhjphopikgaaGreatDoorYC34
import Derived.Test.YtfmmhjphopikgaaGreatDoorYC33
import Derived.Test.YtfmmhjphopikgaaGreatDoorYC32
import Derived.Test.YtfmmhjphopikgaaGreatDoorYC31
import Derived.Test.YtfmmhjphopikgaaGreatDoorYC30
import Derived.RangeFuncNested
import Derived.RangeFuncBound
import Derived.RangeFuncCalls
import Derived.RangeFuncLeaves
import Derived.Shelf.Abstract
import Derived.Shelf.RegionOpen
import Derived.OwnWalkIn
import Derived.TacticsInMore
import Derived.LoopNIn
import Derived.LoopIn
import Derived.Lib.TrailingZeros
import Derived.Laws.Bits64b
import Derived.Maps.AppendAt
set_option maxHeartbeats 8000000
set_option maxRecDepth 100000
set_option linter.unusedSimpArgs false
set_option linter.unusedVariables false
namespace Go.Proofs.YtfmmhjphopikgaaGreatDoor
open Go.RowKit Cen
structure Th where
 a : Option Addr
 c : Nat
 r : List Cl
def thc (n : Nat) (e : Th) : List Value := [.int .i64 (n : Int), .slice e.a e.r.length e.c]
theorem thc_len (n : Nat) (e : Th) : (thc n e).length = 2 := rfl
theorem thc_one (n : Nat) (e : Th) : ∀ u ∈ thc n e, u.oneCell' = true := by intro u hu; simp [thc] at hu; rcases hu with rfl | rfl <;> rfl
theorem elemTh : Elem 39 24 2 32 (.agg #[.int .i64 0, .slice none 0 0]) := .mk Tryz.underlying39 (by kernel_rfl) rfl (by decide)
structure OwnTh (n : Nat) (w : World) (base : Nat) (v : Value) (L : List Th) : Prop where
 own : OwnL (thc n) 24 2 w base v L
 ic : ∀ e ∈ L, LsIn (fun k => ¬ v.ownBlock = some k) w e.a e.r
theorem OwnTh.later {n : Nat} {w w' : World} {base : Nat} {v : Value} {L : List Th} (h : OwnTh n w base v L) (hb : Below w.heap.size w w') : OwnTh n w' base v L := ⟨h.own.later hb, fun e he => (h.ic e he).later hb⟩
theorem OwnTh.push {n : Nat} {w w' : World} {base g cap : Nat} {v : Value} {L : List Th} {e : Th} (h : OwnTh n w base v L) (he : LsIn (fun k => ¬ v.ownBlock = some k) w e.a e.r)
 (ho : OwnL (thc n) 24 2 w' base (.slice (some ⟨g, 0, none⟩) (L.length + 1) cap) (L ++ [e])) (hg : w.grownBy w' v.ownBlock) (hn : v.ownBlock = some g \/ w.heap.size <= g) :
 OwnTh n w' base (.slice (some ⟨g, 0, none⟩) (L ++ [e]).length cap) (L ++ [e]) := by
 have hk : Kp (fun k => v.ownBlock = some k) w w' := Kp.grown hg fun k h => h
 refine ⟨by rw [List.length_append]; exact ho, fun x hx => ?_⟩
 have hx' : LsIn (fun k => ¬ v.ownBlock = some k) w x.a x.r := by
  rcases List.mem_append.1 hx with hx | hx
  ·exact h.ic x hx
  simp at hx; subst hx; exact he
 have h2 := (hx'.mono (Y := fun k => k < w.heap.size /\ ¬ v.ownBlock = some k) fun k hk hx => ⟨hk, hx⟩).kept hk fun k hk => hk.2
 refine h2.mono fun k _ hk => fun e => ?_
 simp [Value.ownBlock] at e
 subst e
 rcases hn with hn | hn
 ·exact hk.2 hn
 exact absurd hk.1 (by omega)
def ShR (n : Nat) (N : List Nd) (res : Nat -> Option (List Cl)) (w wr : World) (v i : Value) : Prop :=
 ∃ (k : Nat) (L : List Th) (sa : Option Addr) (sc : Nat), k <= N.length /\ i = .int .i64 (k : Int) /\ v = .slice sa L.length sc /\ OwnTh n wr w.heap.size (.slice sa L.length sc) L /\ L.length <= k /\ (∀ e ∈ L, ∃ j, j < k /\ zgm N j = true /\ res j = some e.r) /\ Below w.heap.size w wr
def ResR (n : Nat) (r : List Cl) (w wx : World) (v10 v11 : Value) : Prop :=
 ∃ (b : Nat) (la : Option Addr) (lc : Nat), v10 = .pointer (some ⟨b, 0, none⟩) /\ v11 = .int .i64 0 /\ Blk wx b #[.int .i64 (n : Int), .slice la r.length lc] 24 /\ LsIn (fun k => w.heap.size <= k) wx la r /\ Below w.heap.size w wx
section
variable {n : Nat} {t : List Cl} {order : List Int} {o1 : Bool} {B : Nat} {w : World} {na : Option Addr} {nc : Nat} {ca : Option Addr} {cc : Nat} {N : List Nd} {C : List Clm}
theorem CRes.tagRes {o2 : Bool} (h : CRes n t order o1 o2 B w na nc ca cc N C) (hg : Gdt n t order) {i : Nat} {c : Nc} {l : List Cl} {tm : Cl} (hc : (zae (chF order o1 n) o2 n t)[i]? = some c) (e : c.tag = some (l, tm)) (hl : gL n l) : resF n t (C.getD i ⟨[], []⟩) = some l := by
 have h9 := hg.n9;have h1 := h.cl i c hc;rw [e] at h1;obtain ⟨a, h2, h3⟩ := h1;rw [h2];exact zxf (by omega) hg.tok.rg hl (zs8 (by omega) (ze3 (by omega)) hg.tok hc e).1 h3
theorem CRes.need {o2 : Bool} (h : CRes n t order o1 o2 B w na nc ca cc N C) (hg : Gdt n t order) {k : Nat} (hk : k < N.length) (hb : zgm N k = true) : ∃ r, resF n t (C.getD k ⟨[], []⟩) = some r /\ r.length <= 4096 /\ ∀ c ∈ r, c.length <= 128 := by
 have h9 := hg.n9;have e := h.eqN;subst e;obtain ⟨c, l, tm, h1, h2, h3, _⟩ := comp_need (by omega) (ze3 (by omega)) hg.tok hk hb
 exact ⟨l, h.tagRes hg h1 h2 h3, (zs8 (by omega) (ze3 (by omega)) hg.tok h1 h2).2, fun d hd => by
  have := (h3.gc d hd).so
  have h4 := zcj (l := d.map fun x => zac x - 1) (b := n) (by
   show List.Pairwise _ _
   rw [List.pairwise_map];refine List.Pairwise.imp_of_mem (fun {a b} ha hb hab e => ?_) this
   have ea : zac a = zac b := by omega
   have ra := (h3.gc d hd).rg a ha;have rb := (h3.gc d hd).rg b hb;have nt := (h3.gc d hd).nt a ha;rw [zal ra.1 (by omega) (by omega), zal rb.1 (by omega) (by omega)] at ea
   rcases zqk ea with rfl | e2
   ·exact ltL_irrefl _ hab
   ·exact nt (by rw [e2, Int.neg_neg]; exact hb)) (fun i hi => by
   obtain ⟨x, hx, rfl⟩ := List.mem_map.1 hi;have := (litN.ok (by omega) ((h3.gc d hd).rg x hx)).2;have h5 := (litN.ok (by omega) ((h3.gc d hd).rg x hx)).1;have := zb6 x
   omega)
  rw [List.length_map] at h4
  omega⟩
theorem CRes.diff (h : CRes n t order o1 true B w na nc ca cc N C) (hg : Gdt n t order) {i j : Nat} (hi : i < N.length) (hj : j < N.length) (hbi : zgm N i = true) (hbj : zgm N j = true) {r : List Cl} (ei : resF n t (C.getD i ⟨[], []⟩) = some r) (ej : resF n t (C.getD j ⟨[], []⟩) = some r) : i = j := by
 have h9 := hg.n9;have e := h.eqN;subst e;obtain ⟨c, l, tm, a1, a2, a3, _⟩ := comp_need (by omega) (ze3 (by omega)) hg.tok hi hbi;obtain ⟨d, m, tm', b1, b2, b3, _⟩ := comp_need (by omega) (ze3 (by omega)) hg.tok hj hbj;have e1 := h.tagRes hg a1 a2 a3;have e2 := h.tagRes hg b1 b2 b3;rw [ei] at e1;rw [ej] at e2;simp only [Option.some.injEq] at e1 e2;subst e1 e2;exact comp_diff (by omega) (ze3 (by omega)) hg.tok hi hj hbi hbj a1 b1 a2 b2
theorem CRes.residual {o2 : Bool} (h : CRes n t order o1 o2 B w na nc ca cc N C) (hg : Gdt n t order) {a : Option Addr} (cap : Nat) (ta : Option Addr) (tc : Nat) (aa : Option Addr) (ac : Nat) {k : Nat} (hk : k < C.length) (hx : LsCells w a t) (hy : IntCells w ta (C.getD k ⟨[], []⟩).tm) (hz : IntCells w aa (C.getD k ⟨[], []⟩).at') :
 Calls Tryz.prog 14 #[.agg #[.int .i64 (n : Int), .slice a t.length cap], .agg #[.slice ta (C.getD k ⟨[], []⟩).tm.length tc, .slice aa (C.getD k ⟨[], []⟩).at'.length ac]] w (zu2 n (resF n t (C.getD k ⟨[], []⟩)) w) := by
 have hp := (h.pf hg).1.ok
 have hm : C.getD k ⟨[], []⟩ ∈ C := by rw [List.getD_eq_getElem?_getD, List.getElem?_eq_getElem hk]; exact List.getElem_mem hk
 have hl := hp.cl _ hm;exact zr5 ⟨n, t, N, C⟩ hp a cap ta tc aa ac _ w hl.1 hl.2 hx hy hz
end
theorem last5s {a b c d e : Prop} (x : a /\ b /\ c /\ d /\ e) : e := x.2.2.2.2
theorem shares_any (z : Int) (a : Option Addr) (cap : Nat) (t : List Cl) (oa : Option Addr) (oc : Nat) (order : List Int) (o1 o2 : Bool) (w : World) (hx : LsCells w a t) (ho : IntCells w oa order) (htab : Tab w) :
 Calls Tryz.prog 3 #[.agg #[.int .i64 z, .slice a t.length cap], .agg #[.slice oa order.length oc, .bool o1, .bool o2]] w fun e w' => e = .returned (.bool true) /\ Below w.heap.size w w' := by
 obtain ⟨w0, hw0⟩ : ∃ w0, w0 = (w.alloc (.cells #[.int .i64 z, .slice a t.length cap] 24)).alloc (.cells #[.slice oa order.length oc, .bool o1, .bool o2] 27) := ⟨_, rfl⟩
 have hb0 : Below w.heap.size w w0 := by rw [hw0]; exact ((Below.refl _ _).alloc (Nat.le_refl _) _).alloc (by simp) _
 have q0 : Blk w0 w.heap.size #[.int .i64 z, .slice a t.length cap] 24 := by rw [hw0]; exact (Blk.new w _ _).alloc _
 have q1 : Blk w0 (w.heap.size + 1) #[.slice oa order.length oc, .bool o1, .bool o2] 27 := by rw [hw0]; exact Blk.new' _ (by simp) _ _
 have HB0 := lh hb0;have Q0 := lh q0;have Q1 := lh q1;have HX := lh (hx.keep hb0);have HO := lh (ho.keep hb0);have HT := lh (htab.keep hb0);have HL := lh (fun W (hb : Below w0.heap.size w0 W) => zip z a cap t W (HX.o.keep hb));have HWK := lh (fun W (hb : Below w0.heap.size w0 W) => zjc W (HT.o.keep hb));have HXW := lh hx;have HOW := lh ho;have HTW := lh htab;clear hx ho htab hb0 q0 q1
 cases hl : zch z t with
 | false =>
   rw [hl] at HL;clear hl;go_enter Tryz.func3, Tryz.ntmps3;go_wp2_with fail;rw [<- hw0];clear hw0;refine (HL.o _ (Below.refl _ _)).mono ?_;rintro e w1 ⟨rfl, hb1⟩;have HB1 := lh hb1;clear hb1;go_wp2_with fail;refine (HWK.o _ HB1.o).mono ?_;rintro e w2 ⟨rfl, hb2⟩;have HB2 := lh (HB0.o.trans ((HB1.o.trans (hb2.mono HB1.o.size)).mono HB0.o.size));clear hb2;go_wp2;go_ret;exact ⟨rfl, HB2.o⟩
 | true =>
   rw [hl] at HL
   have htl : t.length <= 40 := by
    unfold zch at hl;simp only [Bool.and_eq_true, decide_eq_true_eq] at hl;exact hl.2.1
   have HG := lh (fun W (hb : Below w0.heap.size w0 W) => zoo z a cap t oa oc order o1 o2 W (by omega) (HX.o.keep hb) (HO.o.keep hb))
   cases hc : decide (za0 z t order = 0) with
   | false =>
     rw [hc] at HG;clear hl hc;go_enter Tryz.func3, Tryz.ntmps3;go_wp2_with fail;rw [<- hw0];clear hw0;refine (HL.o _ (Below.refl _ _)).mono ?_;rintro e w1 ⟨rfl, hb1⟩;have HB1 := lh hb1;have p0 := Q0.o.later hb1;have p1 := Q1.o.later hb1;have c0 := p0.cell 0;have c1 := p0.cell 1;have d0 := p1.cell 0;have d1 := p1.cell 1;have d2 := p1.cell 2;have z0 := p0.lt;have z1 := p1.lt;clear hb1 p0 p1;go_wp2_with fail;refine (HG.o _ HB1.o).mono ?_;rintro e w2 ⟨rfl, hb2⟩;have HB2 := lh (HB1.o.trans (hb2.mono HB1.o.size));clear hb2 c0 c1 d0 d1 d2 z0 z1;go_wp2_with fail;refine (HWK.o _ HB2.o).mono ?_;rintro e w3 ⟨rfl, hb3⟩
     have HB3 := lh (HB0.o.trans ((HB2.o.trans (hb3.mono HB2.o.size)).mono HB0.o.size));clear hb3;go_wp2;go_ret;exact ⟨rfl, HB3.o⟩
   | true =>
     rw [hc] at HG;obtain ⟨n, rfl, hg⟩ := Gdt.of hl (of_decide_eq_true hc);have HGD := lh hg;have HCP := lh (fun W (hb : Below w0.heap.size w0 W) => zhd n a cap t oa oc order o1 o2 W hg (HX.o.keep hb) (HO.o.keep hb) (HT.o.keep hb));clear hl hc htl hg;go_enter Tryz.func3, Tryz.ntmps3;go_wp2_with fail;rw [<- hw0];clear hw0;refine (HL.o _ (Below.refl _ _)).mono ?_;rintro e w1 ⟨rfl, hb1⟩;have HB1 := lh hb1;have p0 := Q0.o.later hb1;have p1 := Q1.o.later hb1;have c0 := p0.cell 0;have c1 := p0.cell 1;have d0 := p1.cell 0;have d1 := p1.cell 1;have d2 := p1.cell 2;have z0 := p0.lt;have z1 := p1.lt;clear hb1 p0 p1
     go_wp2_with fail;refine (HG.o _ HB1.o).mono ?_;rintro e w2 ⟨rfl, hb2⟩;have HB2 := lh (HB1.o.trans (hb2.mono HB1.o.size));have p0 := Q0.o.later HB2.o;have p1 := Q1.o.later HB2.o;have c0 := p0.cell 0;have c1 := p0.cell 1;have d0 := p1.cell 0;have d1 := p1.cell 1;have d2 := p1.cell 2;have z0 := p0.lt;have z1 := p1.lt;clear hb2 p0 p1;have f2 := (Q1.o.later HB2.o).fr 2
     obtain ⟨ws, hs⟩ : ∃ ws, ws = w2.setCell ⟨w.heap.size + 1, 2, none⟩ (.bool true) := ⟨_, rfl⟩
     have HBS : Hid (Below w.heap.size w ws) := by show Below _ _ _; rw [hs]; exact (HB0.o.trans (HB2.o.mono HB0.o.size)).setCell (by simp) _
     have P0 : Hid (Blk ws w.heap.size #[.int .i64 (n : Int), .slice a t.length cap] 24) := by show Blk _ _ _ _; rw [hs]; exact (Q0.o.later HB2.o).other _ _ (by simp)
     have HCW := lh (fun W (hb : Below w.heap.size w W) => zhd n a cap t oa oc order o1 true W HGD.o (HXW.o.keep hb) (HOW.o.keep hb) (HTW.o.keep hb));have HWW := lh (fun W (hb : Below w.heap.size w W) => zjc W (HTW.o.keep hb));go_wp2_with fail;rw [<- hs];clear hs f2 c0 c1 d0 d1 d2 z0 z1;refine (HCW.o _ HBS.o).mono ?_;rintro e w3 ⟨na, nc, ca, cc, N, C, rfl, hr, hb3⟩;have hbw3 := HBS.o.trans (hb3.mono HBS.o.size)
     obtain ⟨nb, hnb⟩ : ∃ nb, nb = w3.heap.size := ⟨_, rfl⟩
     obtain ⟨w4, hw4⟩ : ∃ w4, w4 = w3.alloc (.cells #[.int .i64 (n : Int), .slice na N.length nc] 33) := ⟨_, rfl⟩
     have hb4 : Below w3.heap.size w3 w4 := by rw [hw4]; exact (Below.refl _ _).alloc (Nat.le_refl _) _
     have q4 : Blk w4 nb #[.int .i64 (n : Int), .slice na N.length nc] 33 := by rw [hw4, hnb]; exact Blk.new _ _ _
     have HR := lh (hr.keep hb4);have HB4 := lh (hbw3.trans (hb4.mono hbw3.size));have Q4 := lh q4;have P4 := lh ((P0.o.later hb3).later hb4);clear hr hb3 hbw3 hb4 q4;go_wp2_with fail;rw [<- hnb, <- hw4];clear hw4 hnb;refine (HR.o.valid HGD.o).mono ?_;rintro e w5 ⟨rfl, hb5⟩;have HB5 := lh (HB4.o.trans (hb5.mono HB4.o.size));have HR5 := lh (HR.o.keep hb5);have Q5 := lh (Q4.o.later hb5);have P5 := lh (P4.o.later hb5);have k0 := Q5.o.cell 0;have k1 := Q5.o.cell 1;have kz := Q5.o.lt;have hnl := HR5.o.small HGD.o
     have HNX : Hid (∀ k, k < N.length -> zgm N k = true -> ∃ r, resF n t (C.getD k ⟨[], []⟩) = some r /\ r.length <= 4096 /\ ∀ c ∈ r, c.length <= 128) := fun k hk hb => HR5.o.need HGD.o hk hb
     have HDF : Hid (∀ i j, i < N.length -> j < N.length -> zgm N i = true -> zgm N j = true -> ∀ r, resF n t (C.getD i ⟨[], []⟩) = some r -> resF n t (C.getD j ⟨[], []⟩) = some r -> i = j) := fun i j hi hj h1 h2 r h3 h4 => HR5.o.diff HGD.o hi hj h1 h2 h3 h4
     clear hb5;go_wp2_with fail
     go_loopw [8, 9] (fun v i wr => ShR n N (fun j => resF n t (C.getD j ⟨[], []⟩)) w5 wr v i) (fun _ i _ => N.length - (intOf i).toNat)
     case atStart => exact ⟨0, [], none, 0, Nat.zero_le _, rfl, rfl, ⟨OwnL.nil _ _, fun e h => by simp at h⟩, Nat.le_refl _, fun e h => by simp at h, Below.refl _ _⟩
     obtain ⟨k, L, sa, sc, hk, rfl, rfl, hown, hlk, hel, hbr⟩ := hrel;have HOW2 := lh hown;have HEL := lh hel;have HLK := lh hlk;have HBR := lh hbr;have HB7 := lh (HB5.o.trans (hbr.mono HB5.o.size));have HR7 := lh (HR5.o.keep hbr);have Q7 := lh (Q5.o.later hbr);have P7 := lh (P5.o.later hbr);have p0 := Q7.o.cell 0;have p1 := Q7.o.cell 1;have pz := Q7.o.lt;clear hown hel hbr k0 k1 kz hlk
     by_cases hlt : k < N.length
     ·have hki : (k : Int) < (N.length : Int) := by omega
      have HND := lh (zmq (n : Int) na nc N k wr hnl hlt HR7.o.n)
      cases hnb : zgm N k with
      | false =>
        rw [hnb] at HND;go_wp2_with fail;refine HND.o.mono ?_;rintro e w7 ⟨rfl, hb7⟩;have HB77 := lh hb7;clear hb7;go_wp2;go_roundw
        case rel => exact ⟨k + 1, L, sa, sc, by omega, by go_num, rfl, HOW2.o.later HB77.o, by have := HLK.o; omega, fun e he => let ⟨j, h1, h2, h3⟩ := HEL.o e he; ⟨j, by omega, h2, h3⟩, HBR.o.trans (HB77.o.mono HBR.o.size)⟩
        case measure => simp [intOf]; omega
      | true =>
        rw [hnb] at HND;obtain ⟨r, hr, hr1, hr2⟩ := HNX.o k hlt hnb
        have hkc : k < C.length := by rw [HR7.o.len]; exact hlt
        obtain ⟨cb, off, ma, mc, aa, ac, hca, e0, e1, e2, e3⟩ := HR7.o.c k hkc
        have HNE : Hid (∀ e ∈ L, e.r.length <= 4096 /\ (∀ c ∈ e.r, c.length <= 128) /\ decide (e.r = r) = false) := fun e he => by
         obtain ⟨j, h1, h2, h3⟩ := HEL.o e he;obtain ⟨r', g1, g2, g3⟩ := HNX.o j (by omega) h2
         have : r' = e.r := by rw [show resF n t (C.getD j ⟨[], []⟩) = some e.r from h3] at g1; simpa using g1.symm
         subst this;refine ⟨g2, g3, decide_eq_false fun he2 => ?_⟩;have := HDF.o j k (by omega) hlt h2 hnb r (by rw [<- he2]; exact g1) hr;omega
        have HRC : Hid (∀ W, Below wr.heap.size wr W -> Calls Tryz.prog 14 #[.agg #[.int .i64 (n : Int), .slice a t.length cap], .agg #[.slice ma (C.getD k ⟨[], []⟩).tm.length mc, .slice aa (C.getD k ⟨[], []⟩).at'.length ac]] W (zu2 n (some r) W)) := fun W hW => by
         rw [<- hr];exact (HR7.o.keep hW).residual HGD.o cap ma mc aa ac hkc ((HXW.o.keep HB7.o).keep hW) (e2.keep hW) (e3.keep hW)
        have HRK := lh hr;have HNK := lh hnb;have HR1 := lh hr1;have HR2 := lh hr2;generalize hce : C.getD k ⟨[], []⟩ = c at *;have HCE := lh hce;clear hce;subst hca;have hcl : k < C.length := hkc
        have hcli : (k : Int) < (N.length : Int) := by omega
        clear hr hnb hr1 hr2 e2 e3 hkc;go_wp2_with fail;refine HND.o.mono ?_;rintro e w7 ⟨rfl, hb7⟩;have HB77 := lh hb7;have P8 := lh (P7.o.later hb7);have x0 := P8.o.cell 0;have x1 := P8.o.cell 1;have xz := P8.o.lt;have y0 := zaa hb7 e0;have y1 := zaa hb7 e1;have yz := zak y0
        have HKS : Hid (∀ w' : World, Below w7.heap.size w7 w' -> (fun w' => w'.cell? ⟨w.heap.size, 0, none⟩ = some (.int .i64 (n : Int)) /\ w'.cell? ⟨w.heap.size, 1, none⟩ = some (.slice a t.length cap) /\ w'.cell? ⟨cb, off + k * 2, none⟩ = some (.slice ma c.tm.length mc) /\ w'.cell? ⟨cb, off + k * 2 + 1, none⟩ = some (.slice aa c.at'.length ac)) w') := lh fun w' hb => ⟨zaa hb x0, zaa hb x1, zaa hb y0, zaa hb y1⟩
        have HRS : Hid (∀ W, Below w7.heap.size w7 W -> Calls Tryz.prog 14 #[.agg #[.int .i64 (n : Int), .slice a t.length cap], .agg #[.slice ma c.tm.length mc, .slice aa c.at'.length ac]] W (zu2 n (some r) W)) := fun W hW => HRC.o W (HB77.o.trans (hW.mono HB77.o.size))
        clear hb7 e0 e1 p0 p1 pz;go_wp2_with fail
        go_cut [10, 11] from 57 to 65 (fun v10 v11 wx => ResR n r w7 wx v10 v11)
        case first =>
         have h10 : TB w7 w7.drew none := ⟨(Below.refl _ _).drew, fun b e => by simp at e⟩
         refine wp_region_held_drew (S := (fun w' => w'.cell? ⟨w.heap.size, 0, none⟩ = some (.int .i64 (n : Int)) /\ w'.cell? ⟨w.heap.size, 1, none⟩ = some (.slice a t.length cap) /\ w'.cell? ⟨cb, off + k * 2, none⟩ = some (.slice ma c.tm.length mc) /\ w'.cell? ⟨cb, off + k * 2 + 1, none⟩ = some (.slice aa c.at'.length ac))) (by kernel_rfl) ?_ (fun hHeld => ?_)
         ·try dsimp only
          exact HKS.o _ h10.bl
         refine tkV 0 58 rfl rfl ?_; try simp only [tkS]
         refine tkV 1 59 rfl rfl ?_; try simp only [tkS]
         refine tkV 2 60 rfl rfl ?_; try simp only [tkS]
         refine tkV 3 61 rfl rfl ?_; try simp only [tkS]
         refine tkV 4 62 rfl rfl ?_; try simp only [tkS]
         refine wpAnyH_ready (rs := [5, 9]) (by kernel_rfl) (by simp) ?_;refine AllReadyH.cons rfl (fun K hK => ?_) (AllReadyH.cons rfl (fun K hK => ?_) AllReadyH.nil)
         ·go_simp;go_at_call 14;refine (HRS.o _ h10.bl).mono ?_;rintro e V11 ⟨n', a', m', c', er, rfl, hb11, her, hls⟩
          have her : er = 0 := by simpa using her
          have hls1 := hls r rfl;clear hls;obtain ⟨rfl, rfl, hls⟩ := hls1;subst her;have h11 := h10.later hb11;have hsz : w7.drew.heap.size = w7.heap.size := rfl
          have hls := hls.mono (Y := fun k => w7.heap.size <= k) fun k _ hk => by omega
          clear hsz;clear hb11;go_wp2_with fail;refine hK.out _ _ ?_ (fun hHeld => ?_)
          ·try dsimp only
           exact HKS.o _ h11.bl
          clear hK K
          try simp only [tkS]
          refine tkV 6 57 rfl rfl ?_; try simp only [tkS]
          refine tkV 7 64 rfl rfl ?_; try simp only [tkS]
          refine tkV 8 65 rfl rfl ?_; try simp only [tkS]
          refine tkR 9 (.cons rfl (fun K hK => ?_) .nil);go_simp
          obtain ⟨bX, hbX⟩ : ∃ bX, bX = V11.heap.size := ⟨_, rfl⟩
          have h12 := h11.alloc (q := bX) hbX;refine hK.out _ _ ?_ (fun hHeld => ?_)
          ·try dsimp only
           exact HKS.o _ h12.bl
          clear hK K
          try simp only [tkS]
          obtain ⟨V12, hV12⟩ : ∃ V, V = V11.alloc (.cells #[.int .i64 0, .slice none 0 0] 24) := ⟨_, rfl⟩
          rw [show V11.alloc (.cells #[.int .i64 0, .slice none 0 0] 24) = V12 from hV12.symm] at h12;rw [<- hbX, <- hV12];have hls := (hls.mono (Y := fun k => w7.heap.size <= k /\ k ≠ bX) fun k hk1 hk2 => ⟨hk2, by omega⟩).later (show Below V11.heap.size V11 V12 by rw [hV12]; exact (Below.refl _ _).alloc (Nat.le_refl _) _);clear hV12 hbX;refine tkR 10 (.cons rfl (fun K hK => ?_) .nil);obtain ⟨_, d13⟩ := h12.x _ rfl;have c130 := d13.cell 0;have c131 := d13.cell 1;have f130 := d13.fr 0;have f131 := d13.fr 1;have z13 := h12.lt;go_simp;obtain ⟨h13, hq13, hk13⟩ := h12.store (.int .i64 (n : Int)) (.slice a' r.length c')
          clear d13 c130 c131 f130 f131 z13;refine hK.out _ _ ?_ (fun hHeld => ?_)
          ·try dsimp only
           exact HKS.o _ h13
          clear hK K
          try simp only [tkS]
          have HST := lh (show ResR n r w7 ((V12.setCell ⟨bX, 0, none⟩ (.int .i64 (n : Int))).setCell ⟨bX, 1, none⟩ (.slice a' r.length c')) (.pointer (some ⟨bX, 0, none⟩)) (.int .i64 0) from ⟨bX, a', c', rfl, rfl, hq13, (hls.kept hk13 (fun k hk => hk.2)).mono fun k _ hk => hk.1, h13⟩);clear hls hq13 hk13
          refine tkV 11 11 rfl rfl ?_; try simp only [tkS]
          refine wpAnyH_done (by kernel_rfl) ?_ _;go_wp2_with fail
          go_meet
          exact HST.o
         go_simp
         obtain ⟨bX, hbX⟩ : ∃ bX, bX = w7.heap.size := ⟨_, rfl⟩
         have h11 := h10.alloc (q := bX) hbX;refine hK.out _ _ ?_ (fun hHeld => ?_)
         ·try dsimp only
          exact HKS.o _ h11.bl
         clear hK K
         try simp only [tkS]
         obtain ⟨V11, hV11⟩ : ∃ V, V = (w7.alloc (.cells #[.int .i64 0, .slice none 0 0] 24)).drew := ⟨_, rfl⟩
         rw [show w7.drew.alloc (.cells #[.int .i64 0, .slice none 0 0] 24) = V11 from hV11.symm] at h11;rw [<- hbX, <- hV11];clear hV11 hbX;refine tkR 5 (.cons rfl (fun K hK => ?_) .nil);go_simp;go_at_call 14;refine (HRS.o _ h11.bl).mono ?_;rintro e V12 ⟨n', a', m', c', er, rfl, hb12, her, hls⟩
         have her : er = 0 := by simpa using her
         have hls1 := hls r rfl;clear hls;obtain ⟨rfl, rfl, hls⟩ := hls1;subst her;have h12 := h11.later hb12;have hbw := h11.lt;have hbs := h11.bl.size
         have hls := hls.mono (Y := fun k => w7.heap.size <= k /\ k ≠ bX) fun k _ hk => ⟨by omega, by omega⟩
         clear hbw hbs;clear hb12;go_wp2_with fail;refine hK.out _ _ ?_ (fun hHeld => ?_)
         ·try dsimp only
          exact HKS.o _ h12.bl
         clear hK K
         try simp only [tkS]
         refine tkV 6 57 rfl rfl ?_; try simp only [tkS]
         refine tkV 7 64 rfl rfl ?_; try simp only [tkS]
         refine tkV 8 65 rfl rfl ?_; try simp only [tkS]
         refine tkR 10 (.cons rfl (fun K hK => ?_) .nil);obtain ⟨_, d13⟩ := h12.x _ rfl;have c130 := d13.cell 0;have c131 := d13.cell 1;have f130 := d13.fr 0;have f131 := d13.fr 1;have z13 := h12.lt;go_simp;obtain ⟨h13, hq13, hk13⟩ := h12.store (.int .i64 (n : Int)) (.slice a' r.length c');clear d13 c130 c131 f130 f131 z13;refine hK.out _ _ ?_ (fun hHeld => ?_)
         ·try dsimp only
          exact HKS.o _ h13
         clear hK K
         try simp only [tkS]
         have HST := lh (show ResR n r w7 ((V12.setCell ⟨bX, 0, none⟩ (.int .i64 (n : Int))).setCell ⟨bX, 1, none⟩ (.slice a' r.length c')) (.pointer (some ⟨bX, 0, none⟩)) (.int .i64 0) from ⟨bX, a', c', rfl, rfl, hq13, (hls.kept hk13 (fun k hk => hk.2)).mono fun k _ hk => hk.1, h13⟩);clear hls hq13 hk13
         refine tkV 11 11 rfl rfl ?_; try simp only [tkS]
         refine wpAnyH_done (by kernel_rfl) ?_ _;go_wp2_with fail
         go_meet
         exact HST.o
        obtain ⟨b, la, lc, rfl, rfl, hqb, hls, hbx⟩ := hcut
        rename World => wx
        have HQB := lh hqb;have HLS := lh hls;have HBX := lh (HB77.o.trans (hbx.mono HB77.o.size));have HOX := lh ((HOW2.o.later HB77.o).later hbx)
        have HNL : Hid (LsIn (fun k => ¬ (Value.slice sa L.length sc).ownBlock = some k) wx la r) := hls.mono fun k _ hk e => by
         have := (World.ownsRow.lt (HOW2.o.later HB77.o).own k e).2;omega
        have g0 := hqb.cell 0;have g1 := hqb.cell 1;have gz := hqb.lt;clear hqb hls hbx x0 x1 xz y0 y1 yz;go_wp2_with fail
        go_loopw [12] (fun j wi => ∃ q : Nat, q <= L.length /\ j = .int .i64 q /\ Below wx.heap.size wx wi) (fun j _ => L.length - (intOf j).toNat)
        case atStart => exact ⟨0, Nat.zero_le _, rfl, Below.refl _ _⟩
        obtain ⟨q, hq, rfl, hbi⟩ := hrel
        rename World => wi
        have HBI := lh hbi;have QI := lh (HQB.o.later hbi);have HOI := lh (HOX.o.later hbi);have j0 := QI.o.cell 0;have j1 := QI.o.cell 1;have jz := QI.o.lt
        have hll : L.length <= 65536 := by have := HLK.o; omega
        clear hbi g0 g1 gz
        by_cases hql : q < L.length
        ·have hqi : (q : Int) < (L.length : Int) := by omega
         obtain ⟨sg, scp, hse⟩ : ∃ sg scp, (Value.slice sa L.length sc) = .slice (some ⟨sg, 0, none⟩) L.length scp := by
          rcases HOI.o.own.shape with ⟨h1, h2⟩ | ⟨g, gc, h1, _⟩
          ·rw [h2] at hql; simp at hql
          exact ⟨g, gc, h1⟩
         simp only [Value.slice.injEq, true_and] at hse;obtain ⟨rfl, rfl⟩ := hse;have m0 : wi.cell? ⟨sg, q * 2, none⟩ = some (.int .i64 (n : Int)) := HOI.o.own.cell rfl (thc_len n) q 0 hql (by omega);have m1 : wi.cell? ⟨sg, q * 2 + 1, none⟩ = some (.slice L[q].a L[q].r.length L[q].c) := HOI.o.own.cell rfl (thc_len n) q 1 hql (by omega);obtain ⟨b1, b2, b3⟩ := HNE.o L[q] (List.getElem_mem hql);have HIC := lh (HOI.o.ic L[q] (List.getElem_mem hql));generalize L[q] = e at *
         have HST : Hid (∀ W, Below wi.heap.size wi W -> Calls Tryz.prog 15 #[.agg #[.int .i64 (n : Int), .slice e.a e.r.length e.c], .agg #[.int .i64 (n : Int), .slice la r.length lc]] W fun e w' => e = .returned (.bool false) /\ Below W.heap.size W w') := fun W hW => by
          have := sameT22_any (n : Int) e.a e.c e.r la lc r W (by omega) (fun d hd => by have := b2 d hd; omega) (by have := HR1.o; omega) (fun d hd => by have := HR2.o d hd; omega) (HIC.o.later hW).ls ((HLS.o.later HBI.o).later hW).ls
          rwa [b3] at this
         have HKT : Hid (∀ w' : World, Below wi.heap.size wi w' -> (fun w' => w'.cell? ⟨sg, q * 2, none⟩ = some (.int .i64 (n : Int)) /\ w'.cell? ⟨sg, q * 2 + 1, none⟩ = some (.slice e.a e.r.length e.c) /\ w'.cell? ⟨b, 0, none⟩ = some (.int .i64 (n : Int)) /\ w'.cell? ⟨b, 1, none⟩ = some (.slice la r.length lc) /\ Below wi.heap.size wi w') w') := lh fun w' hb => ⟨zaa hb m0, zaa hb m1, zaa hb j0, zaa hb j1, hb⟩
         clear m0 m1 j0 j1 jz b1 b2 b3;go_wp2_with fail;refine wp_region_held_drew (S := (fun w' => w'.cell? ⟨sg, q * 2, none⟩ = some (.int .i64 (n : Int)) /\ w'.cell? ⟨sg, q * 2 + 1, none⟩ = some (.slice e.a e.r.length e.c) /\ w'.cell? ⟨b, 0, none⟩ = some (.int .i64 (n : Int)) /\ w'.cell? ⟨b, 1, none⟩ = some (.slice la r.length lc) /\ Below wi.heap.size wi w')) (by kernel_rfl) ?_ (fun hHeld => ?_)
         ·try dsimp only
          exact HKT.o _ (Below.refl _ _).drew
         refine tkV 0 74 rfl rfl ?_; try simp only [tkS]
         refine tkV 1 75 rfl rfl ?_; try simp only [tkS]
         refine tkV 2 76 rfl rfl ?_; try simp only [tkS]
         refine tkV 3 77 rfl rfl ?_; try simp only [tkS]
         refine tkV 4 78 rfl rfl ?_; try simp only [tkS]
         refine tkR 5 (.cons rfl (fun K hK => ?_) .nil);go_simp;go_at_call 15
         with_reducible refine Calls.mono (HST.o _ (last5s (by assumption))) ?_
         rintro e' wA ⟨rfl, hbA⟩;have hwA : Below wi.heap.size wi wA := Below.trans (last5s (by assumption)) (hbA.mono (Below.size (B := wi.heap.size) (w := wi) (last5s (by assumption))));go_wp2_with fail;refine hK.out _ _ ?_ (fun hHeld => ?_)
         ·try dsimp only
          exact HKT.o _ hwA
         clear hK K
         try simp only [tkS]
         refine wpAnyH_done (by kernel_rfl) ?_ _;have HBF : Hid (Below wi.heap.size wi wA) := hwA;go_wp2;go_roundw
         case rel => exact ⟨q + 1, by omega, by go_num, HBI.o.trans (HBF.o.mono HBI.o.size)⟩
         case measure => simp [intOf]; omega
        have hqe : q = L.length := by omega
        subst hqe;have HZI : Hid (w5.heap.size <= wi.heap.size) := Nat.le_trans HBR.o.size (Nat.le_trans HBX.o.size HBI.o.size);have HLN : Hid (LsIn (fun k => ¬ (Value.slice sa L.length sc).ownBlock = some k) wi la r) := HNL.o.later HBI.o;have HBZ := lh (HBR.o.trans ((HBX.o.trans (HBI.o.mono HBX.o.size)).mono HBR.o.size));go_wp2_with (at_builtin; go_loud (refine zjf (C := #[.int .i64 (n : Int), .slice la r.length lc]) elemTh rfl _ _ rfl w5.heap.size (.slice sa L.length sc) L ⟨la, lc, r⟩ rfl HOI.o.own rfl rfl rfl (thc_one n _) (by omega) (by decide) HZI.o ?_));intro g5 cap5 w8 ho5 hg5 hgn5;have HO8 := lh (HOI.o.push HLN.o ho5 hg5 hgn5)
        have HB8 : Hid (Below w5.heap.size w5 w8) := HBZ.o.grown hg5 HZI.o (fun q hq => (World.ownsRow.lt HOI.o.own q hq).1);clear ho5 hg5 hgn5;go_wp2;go_roundw
        case rel =>
         refine ⟨k + 1, L ++ [⟨la, lc, r⟩], _, _, by omega, by go_num, by simp, HO8.o, by have := HLK.o; simp; omega, fun e he => ?_, HB8.o⟩
         rcases List.mem_append.1 he with he | he
         ·obtain ⟨j, h1, h2, h3⟩ := HEL.o e he;exact ⟨j, by omega, h2, h3⟩
         simp at he; subst he;exact ⟨k, by omega, HNK.o, by show resF n t (C.getD k ⟨[], []⟩) = some r; rw [HCE.o]; exact HRK.o⟩
        case measure => simp [intOf]; omega
     have hke : k = N.length := by omega
     subst hke;go_wp2_with fail;refine (HWW.o _ HB7.o).mono ?_;rintro e wz ⟨rfl, hbz⟩;have HBZ := lh (HB7.o.trans (hbz.mono HB7.o.size));clear hbz;go_wp2;go_ret;exact ⟨rfl, HBZ.o⟩
end Go.Proofs.YtfmmhjphopikgaaGreatDoor
