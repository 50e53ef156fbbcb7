/- Part of the proofs that laws of censuslaw24 return true for every input, where the tables that the rows list are laid. Texts: Gf. -/
import Derived.Test.YtfmmhjphopikgaaGreatDoorYU1
import Derived.Test.YtfmmhjphopikgaaGreatDoorYC39
import Derived.Test.YtfmmhjphopikgaaGreatDoorYC1
import Derived.Deep.RegionHeld3
import Derived.BigRegion
import Derived.Lib.Hide
import Derived.RowKit
import Derived.BigQuiet
set_option maxHeartbeats 8000000
set_option maxRecDepth 100000
set_option linter.unusedSimpArgs false
set_option linter.unusedVariables false
namespace Go.Proofs.YtfmmhjphopikgaaGreatDoor
open Go.RowKit Cen
def OwR (n : Nat) (t : List Cl) (w2 : World) (bw : Nat) (wr : World) (i : Value) : Prop :=
 ∃ (k : Nat) (L : List Sl) (sa : Option Addr) (sc : Nat), k <= t.length /\ i = .int .i64 (k : Int) /\ Below w2.heap.size w2 wr /\ Blk wr bw #[.int .i64 (n : Int), .slice sa L.length sc] 24 /\ OwnS (fun k => bw < k) wr (bw + 1) (.slice sa L.length sc) L /\ L.map (fun e => e.xs) = t.take k
def XI (M : Nat -> Prop) (w : World) (v : Value) (m : Nat) : Prop := (v = .slice none 0 0 /\ m = 0) \/ ∃ g cap cs, v = .slice (some ⟨g, 0, none⟩) m cap /\ M g /\ Blk w g cs 3 /\ m <= cs.size
theorem XI.of {M : Nat -> Prop} {w : World} {base : Nat} {v : Value} {l : List Int} (h : OwnI w base v l) (hM : ∀ k, v.ownBlock = some k -> M k) : XI M w v l.length := by
 have h0 := h
 rcases h.2 with ⟨h1, h2⟩ | ⟨g, cap, cur, hv, hb, hh, _⟩
 ·exact .inl ⟨h1, h2⟩
 refine .inr ⟨g, cap, cur, hv, hM g (by rw [hv]; rfl), hh, ?_⟩;subst hv
 rcases Nat.eq_zero_or_pos l.length with e | e
 ·omega
 have hc := OwnI.c0 h0 rfl (i := l.length - 1) (by omega);rw [show w.cell? ⟨g, l.length - 1, none⟩ = cur[l.length - 1]? from Blk.cell (t := 3) hh _] at hc;have := (Array.getElem?_eq_some_iff.1 hc).1;omega
theorem XI.later {M : Nat -> Prop} {w w' : World} {v : Value} {m : Nat} (h : XI M w v m) (hb : Below w.heap.size w w') : XI M w' v m := by
 rcases h with h | ⟨g, cap, cs, h1, h2, h3, h4⟩
 ·exact .inl h
 exact .inr ⟨g, cap, cs, h1, h2, h3.later hb, h4⟩
theorem XI.put {M : Nat -> Prop} {w : World} {v : Value} {m : Nat} (h : XI M w v m) (p : Addr) (hp : p.spot = none) (x : Value) : XI M (w.setCell p x) v m := by
 rcases h with h | ⟨g, cap, cs, h1, h2, h3, h4⟩
 ·exact .inl h
 by_cases e : p.block = g
 ·subst e;obtain ⟨b, off, s⟩ := p;simp only at hp;subst hp;exact .inr ⟨b, cap, _, h1, h2, h3.set off x, by simpa using h4⟩
 exact .inr ⟨g, cap, cs, h1, h2, h3.other p x e, h4⟩
def RI (M : Nat -> Prop) (L : List Me) (u wr : World) : Prop := Kp M u wr /\ ∀ e ∈ L, XI M wr e.v e.c.nd.ins.length /\ XI M wr e.va e.at'.length
theorem RI.put {M : Nat -> Prop} {L : List Me} {u wr : World} (h : RI M L u wr) (g j : Nat) (hg : M g) (x : Value) : RI M L u (wr.setCell ⟨g, j, none⟩ x) :=
 ⟨h.1.trans (Kp.setCell wr ⟨g, j, none⟩ x hg), fun e he => ⟨(h.2 e he).1.put _ rfl x, (h.2 e he).2.put _ rfl x⟩⟩
theorem XI.at {M : Nat -> Prop} {w : World} {v : Value} {m : Nat} (h : XI M w v m) {q : Nat} (hq : q < m) : ∃ g cap y, v = .slice (some ⟨g, 0, none⟩) m cap /\ M g /\ w.cell? ⟨g, q, none⟩ = some y /\ w.frozen? ⟨g, q, none⟩ = false /\ g < w.heap.size := by
 rcases h with ⟨_, h⟩ | ⟨g, cap, cs, h1, h2, h3, h4⟩
 ·omega
 exact ⟨g, cap, cs[q]'(by omega), h1, h2, by rw [h3.cell, Array.getElem?_eq_getElem (by omega)], h3.fr q, h3.lt⟩
theorem XI.len {M : Nat -> Prop} {w : World} {v : Value} {m : Nat} (h : XI M w v m) : ∃ a cap, v = .slice a m cap := by
 rcases h with ⟨h, rfl⟩ | ⟨g, cap, cs, h1, _⟩
 ·exact ⟨_, _, h⟩
 exact ⟨_, _, h1⟩
section
variable {n : Nat} {t : List Cl} {order : List Int} {o1 o2 : Bool} {w : World} {N : List Nd}
theorem CRes.verify2 {B B' : Nat} {na na' ca ca' : Option Addr} {nc nc' cc cc' : Nat} {C C' : List Clm} (h : CRes n t order o1 o2 B w na nc ca cc N C) (h' : CRes n t order o1 o2 B' w na' nc' ca' cc' N C') (hg : Gdt n t order) {ta : Option Addr} (tc : Nat) (hx : LsCells w ta t) :
 Calls Tryz.prog 17 #[.agg #[.int .i64 (n : Int), .slice ta t.length tc], .agg #[.int .i64 (n : Int), .slice na N.length nc], .slice ca' N.length cc'] w fun e w' => e = .returned (.tuple #[.int .i64 0, .int .i64 0]) /\ Below w.heap.size w w' := by
 have hp := h'.pf hg;have := zn3 ⟨n, t, N, C'⟩ hp.1 hp.2 ta tc na nc ca' cc' w ⟨hx, h.n, h'.c, h.cp⟩;dsimp only at this;rw [h'.len] at this;exact this
theorem CRes.own {B : Nat} {na ca : Option Addr} {nc cc : Nat} {C : List Clm} (h : CRes n t order o1 o2 B w na nc ca cc N C) (hg : Gdt n t order) : ∃ L : List Me, CpMem w B (.slice na L.length nc) (.slice ca L.length cc) L /\ L.length = N.length /\ (∀ e ∈ L, e.c.nd.ins.length <= 1073741824 /\ e.at'.length <= 1073741824) := by
 obtain ⟨L, h1, h2, h3⟩ := h.mem;refine ⟨L, h1, by rw [<- h2]; simp [nds], fun e he => ?_⟩;obtain ⟨i, hi, rfl⟩ := List.getElem_of_mem he
 have hgd : N.getD i default = L[i].c.nd := by rw [<- h2]; simp [nds, List.getD_eq_getElem?_getD, hi]
 obtain ⟨b, off, _, hc⟩ := h.n i (by rw [<- h2]; simpa [nds] using hi);rw [hgd] at hc;obtain ⟨_, _, av, cv, _, _, hl⟩ := hc;refine ⟨hl, ?_⟩
 have hm : (⟨L[i].tm, L[i].at'⟩ : Clm) ∈ C := by rw [<- h3]; exact List.mem_map.2 ⟨_, List.getElem_mem hi, rfl⟩
 exact ((h.pf hg).1.ok.cl _ hm).2
end
theorem LsIn.keptAt {M : Nat -> Prop} {w W : World} {a : Option Addr} {t : List Cl} {B : Nat} (h : LsIn (fun k => k < B) w a t) (hk : Kp M w W) (hM : ∀ k, M k -> B <= k) : LsIn (fun k => k < B) W a t := h.kept hk fun k h1 h2 => by have := hM k h2; omega
theorem IntIn.keptAt {M : Nat -> Prop} {w W : World} {a : Option Addr} {t : Cl} {B : Nat} (h : IntIn (fun k => k < B) w a t) (hk : Kp M w W) (hM : ∀ k, M k -> B <= k) : IntIn (fun k => k < B) W a t := h.kept hk fun k h1 h2 => by have := hM k h2; omega
theorem own_any (z : Int) (a : Option Addr) (cap : Nat) (t : List Cl) (oa : Option Addr) (oc : Nat) (order : List Int) (o1 o2 : Bool) (w : World) (hx : LsCells w a t) (ho : IntCells w oa order) (htab : Tab w) :
 Calls Tryz.prog 4 #[.agg #[.int .i64 z, .slice a t.length cap], .agg #[.slice oa order.length oc, .bool o1, .bool o2]] w fun e w' => e = .returned (.bool true) /\ Below w.heap.size w w' := by
 obtain ⟨w0, hw0⟩ : ∃ w0, w0 = (w.alloc (.cells #[.int .i64 z, .slice a t.length cap] 24)).alloc (.cells #[.slice oa order.length oc, .bool o1, .bool o2] 27) := ⟨_, rfl⟩
 have hb0 : Below w.heap.size w w0 := by rw [hw0]; exact ((Below.refl _ _).alloc (Nat.le_refl _) _).alloc (by simp) _
 have q0 : Blk w0 w.heap.size #[.int .i64 z, .slice a t.length cap] 24 := by rw [hw0]; exact (Blk.new w _ _).alloc _
 have q1 : Blk w0 (w.heap.size + 1) #[.slice oa order.length oc, .bool o1, .bool o2] 27 := by rw [hw0]; exact Blk.new' _ (by simp) _ _
 have HB0 := lh hb0;have Q0 := lh q0;have Q1 := lh q1;have HX := lh (hx.keep hb0);have HO := lh (ho.keep hb0);have HT := lh (htab.keep hb0);have HL := lh (fun W (hb : Below w0.heap.size w0 W) => zip z a cap t W (HX.o.keep hb));have HWK := lh (fun W (hb : Below w0.heap.size w0 W) => zjc W (HT.o.keep hb));have HTL := lh (zxj htab);clear hx ho htab hb0 q0 q1
 cases hl : zch z t with
 | false =>
   rw [hl] at HL;clear hl;go_enter Tryz.func4, Tryz.ntmps4;go_wp2_with fail;rw [<- hw0];clear hw0;refine (HL.o _ (Below.refl _ _)).mono ?_;rintro e w1 ⟨rfl, hb1⟩;have HB1 := lh hb1;clear hb1;go_wp2_with fail;refine (HWK.o _ HB1.o).mono ?_;rintro e w2 ⟨rfl, hb2⟩;have HB2 := lh (HB0.o.trans ((HB1.o.trans (hb2.mono HB1.o.size)).mono HB0.o.size));clear hb2;go_wp2;go_ret;exact ⟨rfl, HB2.o⟩
 | true =>
   rw [hl] at HL
   have htl : t.length <= 40 := by
    unfold zch at hl;simp only [Bool.and_eq_true, decide_eq_true_eq] at hl;exact hl.2.1
   have HG := lh (fun W (hb : Below w0.heap.size w0 W) => zoo z a cap t oa oc order o1 o2 W (by omega) (HX.o.keep hb) (HO.o.keep hb))
   cases hc : decide (za0 z t order = 0) with
   | false =>
     rw [hc] at HG;clear hl hc;go_enter Tryz.func4, Tryz.ntmps4;go_wp2_with fail;rw [<- hw0];clear hw0;refine (HL.o _ (Below.refl _ _)).mono ?_;rintro e w1 ⟨rfl, hb1⟩;have HB1 := lh hb1;have p0 := Q0.o.later hb1;have p1 := Q1.o.later hb1;have c0 := p0.cell 0;have c1 := p0.cell 1;have d0 := p1.cell 0;have d1 := p1.cell 1;have d2 := p1.cell 2;have z0 := p0.lt;have z1 := p1.lt;clear hb1 p0 p1;go_wp2_with fail;refine (HG.o _ HB1.o).mono ?_;rintro e w2 ⟨rfl, hb2⟩;have HB2 := lh (HB1.o.trans (hb2.mono HB1.o.size));clear hb2 c0 c1 d0 d1 d2 z0 z1;go_wp2_with fail;refine (HWK.o _ HB2.o).mono ?_;rintro e w3 ⟨rfl, hb3⟩
     have HB3 := lh (HB0.o.trans ((HB2.o.trans (hb3.mono HB2.o.size)).mono HB0.o.size));clear hb3;go_wp2;go_ret;exact ⟨rfl, HB3.o⟩
   | true =>
     rw [hc] at HG;obtain ⟨n, rfl, hg⟩ := Gdt.of hl (of_decide_eq_true hc);have HGD := lh hg;have HCP := lh (fun W (hb : Below w0.heap.size w0 W) => zhd n a cap t oa oc order o1 o2 W hg (HX.o.keep hb) (HO.o.keep hb) (HT.o.keep hb));clear hl hc htl hg;go_enter Tryz.func4, Tryz.ntmps4;go_wp2_with fail;rw [<- hw0];clear hw0;refine (HL.o _ (Below.refl _ _)).mono ?_;rintro e w1 ⟨rfl, hb1⟩;have HB1 := lh hb1;have p0 := Q0.o.later hb1;have p1 := Q1.o.later hb1;have c0 := p0.cell 0;have c1 := p0.cell 1;have d0 := p1.cell 0;have d1 := p1.cell 1;have d2 := p1.cell 2;have z0 := p0.lt;have z1 := p1.lt;clear hb1 p0 p1
     go_wp2_with fail;refine (HG.o _ HB1.o).mono ?_;rintro e w2 ⟨rfl, hb2⟩;have HB2 := lh (HB1.o.trans (hb2.mono HB1.o.size));have p0 := Q0.o.later HB2.o;have p1 := Q1.o.later HB2.o;have c0 := p0.cell 0;have c1 := p0.cell 1;have d0 := p1.cell 0;have d1 := p1.cell 1;have d2 := p1.cell 2;have z0 := p0.lt;have z1 := p1.lt;clear hb2 p0 p1
     obtain ⟨bw, hbw⟩ : ∃ bw, bw = w2.heap.size := ⟨_, rfl⟩
     obtain ⟨wA, hwA⟩ : ∃ wA, wA = w2.alloc (.cells #[.int .i64 (n : Int), .slice none 0 0] 24) := ⟨_, rfl⟩
     have HAI : Hid (OwR n t w2 bw wA (.int .i64 0)) := ⟨0, [], none, 0, Nat.zero_le _, rfl, by rw [hwA]; exact (Below.refl _ _).alloc (Nat.le_refl _) _, by rw [hwA, hbw]; exact Blk.new _ _ _, OwnS.nil _ _ _, rfl⟩
     have HBW := lh hbw;have htl := HGD.o.tl;have h9 := HGD.o.n9;go_wp2_with fail;rw [<- hbw, <- hwA];clear hbw hwA c0 c1 d0 d1 d2 z0 z1
     go_loopw [6] (fun i wr => OwR n t w2 bw wr i) (fun i _ => t.length - (intOf i).toNat)
     case atStart => exact HAI.o
     obtain ⟨k, L, sa, sc, hk, rfl, hb, hp, ho, hlx⟩ := hrel;have HBR := lh hb;have HP := lh hp;have HO2 := lh ho;have HLX := lh hlx;have HBT := lh (HB2.o.trans (hb.mono HB2.o.size))
     have hll : L.length = k := by
      have := congrArg List.length hlx;rw [List.length_map, List.length_take] at this;omega
     have p0 := (Q0.o.later HBT.o).cell 1;have pz := (Q0.o.later HBT.o).lt;clear hb hp ho hlx
     by_cases hlt : k < t.length
     ·obtain ⟨b1, off1, ai, ci, hae, e0', hci⟩ := (HX.o.keep HB2.o) k hlt;have p0' := (Q0.o.later HB2.o).cell 1
      have hki : (k : Int) < (t.length : Int) := by omega
      have HTK : Hid (t.take (k + 1) = t.take k ++ [t.getD k []]) := by show _ = _; rw [List.take_succ_eq_append_getElem hlt]; simp [List.getD_eq_getElem?_getD, hlt]
      have hcl := HGD.o.cl (t.getD k []) (by rw [List.getD_eq_getElem?_getD, List.getElem?_eq_getElem hlt]; exact List.getElem_mem hlt);generalize t.getD k [] = c at *;have HCI := lh hci
      have HCL : Hid (c.length <= 1073741824) := by show _ <= _; omega
      have HLE := lh hll
      have HNB : Hid (¬ (Value.slice sa L.length sc).ownBlock = some bw) := fun e => by have := (World.ownsRow.lt HO2.o.own _ e).1; omega
      have HZ : Hid (bw + 1 <= wr.heap.size) := HP.o.lt
      have HLM : Hid (L.length <= 1073741824) := by show _ <= _; omega
      subst hae
      have HKS : Hid (∀ w' : World, Below w2.heap.size w2 w' -> (fun w' => w'.cell? ⟨w.heap.size, 1, none⟩ = some (.slice (some ⟨b1, off1, none⟩) t.length cap) /\ w'.cell? ⟨b1, off1 + k, none⟩ = some (.slice ai c.length ci)) w') := lh fun w' hb => ⟨zaa hb p0', zaa hb e0'⟩
      clear hci hcl e0' p0' hll;go_wp2_with fail;have h10 : Below wr.heap.size wr wr.drew := (Below.refl _ _).drew;have g10 : Below w2.heap.size w2 wr.drew := HBR.o.trans (h10.mono HBR.o.size);refine wp_region_held_drew (S := (fun w' => w'.cell? ⟨w.heap.size, 1, none⟩ = some (.slice (some ⟨b1, off1, none⟩) t.length cap) /\ w'.cell? ⟨b1, off1 + k, none⟩ = some (.slice ai c.length ci))) (by kernel_rfl) ?_ (fun hHeld => ?_)
      ·try dsimp only
       exact HKS.o _ g10
      refine tkV 0 41 rfl rfl ?_; try simp only [tkS]
      refine tkV 3 44 rfl rfl ?_; try simp only [tkS]
      refine tkV 4 45 rfl rfl ?_; try simp only [tkS]
      refine tkV 5 46 rfl rfl ?_; try simp only [tkS]
      refine tkV 6 47 rfl rfl ?_; try simp only [tkS]
      refine tkV 7 48 rfl rfl ?_; try simp only [tkS]
      refine wpAnyH_ready (rs := [1, 2]) (by kernel_rfl) (by simp) ?_;refine AllReadyH.cons rfl (fun K hK => ?_) (AllReadyH.cons rfl (fun K hK => ?_) AllReadyH.nil)
      ·have r11 : wr.drew.cell? ⟨bw, 1, none⟩ = some (.slice sa L.length sc) := (HP.o.later h10).cell 1;have rz11 := (HP.o.later h10).lt;go_simp;refine hK.out _ _ ?_ (fun hHeld => ?_)
       ·try dsimp only
        exact HKS.o _ g10
       clear hK K
       try simp only [tkS]
       clear r11 rz11;refine tkR 2 (.cons rfl (fun K hK => ?_) .nil)
       obtain ⟨z2, hz2⟩ : ∃ z, z = wr.heap.size := ⟨_, rfl⟩
       have o12 : OwnInts (wr.drew.alloc (.cells #[] 3)) wr.heap.size (.slice (some ⟨z2, 0, none⟩) 0 0) [] := by rw [hz2]; exact World.ownsRow_lit wr.drew #[] 0 h10.size (by unfold maxLen; omega) rfl
       have h12 := h10.alloc h10.size (.cells #[] 3);have g12 := g10.alloc g10.size (.cells #[] 3);go_simp;refine hK.out _ _ ?_ (fun hHeld => ?_)
       ·try dsimp only
        exact HKS.o _ g12
       clear hK K
       try simp only [tkS]
       obtain ⟨V12, hV12⟩ : ∃ V, V = (wr.alloc (.cells #[] 3)).drew := ⟨_, rfl⟩
       rw [show wr.drew.alloc (.cells #[] 3) = V12 from hV12.symm] at h12 g12 o12;rw [<- hz2, <- hV12];clear hV12 hz2;refine tkR 8 (.cons rfl (fun K hK => ?_) .nil);refine step_append_ints (by kernel_rfl) _ _ rfl wr.heap.size _ [] rfl o12 ai ci c rfl (HCI.o.keep g12) (by simp) HCL.o h12.size ?_;intro v13 V13 hown13 hgrow13;rw [List.nil_append] at hown13;have h13 : Below wr.heap.size wr V13 := h12.grown hgrow13 h12.size (fun q hq => (World.ownsRow.lt o12 q hq).1);have g13 := HBR.o.trans (h13.mono HBR.o.size);obtain ⟨ea, ec, rfl, hic, hea⟩ := hown13.cells;have HEA := lh hea;refine hK.out _ _ ?_ (fun hHeld => ?_)
       ·try dsimp only
        exact HKS.o _ g13
       clear hK K
       try simp only [tkS]
       clear hown13 hgrow13 o12 hea;refine tkR 9 (.cons rfl (fun K hK => ?_) .nil)
       obtain ⟨z9, hz9⟩ : ∃ z, z = V13.heap.size := ⟨_, rfl⟩
       have h14 := h13.alloc h13.size (.cells #[.slice ea c.length ec] 25);have g14 := g13.alloc g13.size (.cells #[.slice ea c.length ec] 25)
       have hn14 : ∀ j u, (sle ⟨ea, ec, c⟩)[j]? = some u -> (V13.alloc (.cells #[.slice ea c.length ec] 25)).cell? ⟨z9, j, none⟩ = some u := fun j u hj => by rw [hz9, World.cell?_alloc_at _ _ _ _ rfl]; simpa [sle] using hj
       have hic := hic.keep (show Below V13.heap.size V13 (V13.alloc (.cells #[.slice ea c.length ec] 25)) from (Below.refl _ _).alloc (Nat.le_refl _) _);have HNQ14 := lh hn14;clear hn14;go_simp;refine hK.out _ _ ?_ (fun hHeld => ?_)
       ·try dsimp only
        exact HKS.o _ g14
       clear hK K
       try simp only [tkS]
       obtain ⟨V14, hV14⟩ : ∃ V, V = V13.alloc (.cells #[.slice ea c.length ec] 25) := ⟨_, rfl⟩
       rw [show V13.alloc (.cells #[.slice ea c.length ec] 25) = V14 from hV14.symm] at h14 g14 HNQ14 hic;rw [<- hz9, <- hV14];clear hV14 hz9;refine tkR 10 (.cons rfl (fun K hK => ?_) .nil);refine zbn zd5 rfl _ _ rfl (bw + 1) (.slice sa L.length sc) L ⟨ea, ec, c⟩ rfl (HO2.o.own.later h14) z9 rfl rfl HNQ14.o (zcp _) HLM.o (by decide) (Nat.le_trans HZ.o h14.size) ?_;intro gg cap3 V15 ho3 hg3 hl3
       have hkg : Kp (fun k => (Value.slice sa L.length sc).ownBlock = some k) V14 V15 := Kp.grown hg3 fun k h => h
       have g15 : Below w2.heap.size w2 V15 := g14.grown hg3 g14.size (fun q hq => by have := (World.ownsRow.lt HO2.o.own q hq).1; have := HBW.o; omega);have hO3 : OwnS (fun k => bw < k) V15 (bw + 1) (.slice (some ⟨gg, 0, none⟩) (L ++ [(⟨ea, ec, c⟩ : Sl)]).length cap3) (L ++ [(⟨ea, ec, c⟩ : Sl)]) := (HO2.o.later h14).push (e := ⟨ea, ec, c⟩) (show IntIn _ _ _ _ from ⟨hic, fun p hp _ => ⟨by have := (HEA.o p hp).1; have := HZ.o; omega, fun eo => by have := (World.ownsRow.lt HO2.o.own _ eo).2; have := (HEA.o p hp).1; omega⟩⟩) ho3 hg3 (hl3.imp id fun e => by rw [e]; exact Nat.le_refl _);have B3 : Blk V15 bw #[.int .i64 (n : Int), .slice sa L.length sc] 24 := (HP.o.later h14).kept hkg HNB.o
       have hgb : bw + 1 <= gg := hl3.elim (fun h => (World.ownsRow.lt HO2.o.own _ h).1) (fun h => by have := HZ.o; have := h14.size; omega);have HGB := lh hgb;have HO3 := lh hO3;clear hgb hO3 ho3 hg3 hl3 hkg;refine hK.out _ _ ?_ (fun hHeld => ?_)
       ·try dsimp only
        exact HKS.o _ g15
       clear hK K
       try simp only [tkS]
       refine tkV 11 52 rfl rfl ?_; try simp only [tkS]
       refine tkR 12 (.cons rfl (fun K hK => ?_) .nil);have c1 : V15.cell? ⟨bw, 1, none⟩ = some (.slice sa L.length sc) := B3.cell 1;have f1 := B3.fr 1;have bz := B3.lt;have g16 := g15.setCell (p := ⟨bw, 1, none⟩) (by have := HBW.o; show w2.heap.size <= bw; omega) (.slice (some ⟨gg, 0, none⟩) (L.length + 1) cap3)
       have HF : Hid (OwR n t w2 bw (V15.setCell ⟨bw, 1, none⟩ (.slice (some ⟨gg, 0, none⟩) (L.length + 1) cap3)) (.int .i64 ((k : Int) + 1))) := ⟨k + 1, L ++ [⟨ea, ec, c⟩], some ⟨gg, 0, none⟩, cap3, by omega, by go_num, g16, by rw [List.length_append]; exact B3.set 1 _, HO3.o.kept (Kp.setCell (M := fun y => y = bw) _ ⟨bw, 1, none⟩ _ rfl) (fun k hk => by omega) (fun k hk => by have := HGB.o; simp [Value.ownBlock] at hk; omega), by rw [HTK.o, List.map_append, HLX.o]; rfl⟩
       go_simp;refine hK.out _ _ ?_ (fun hHeld => ?_)
       ·try dsimp only
        exact HKS.o _ g16
       clear hK K
       try simp only [tkS]
       clear c1 f1 bz B3;refine wpAnyH_done (by kernel_rfl) ?_ _;go_wp2;go_roundw
       case rel => exact HF.o
       case measure => simp [intOf]; omega
      obtain ⟨z2, hz2⟩ : ∃ z, z = wr.heap.size := ⟨_, rfl⟩
      have o11 : OwnInts (wr.drew.alloc (.cells #[] 3)) wr.heap.size (.slice (some ⟨z2, 0, none⟩) 0 0) [] := by rw [hz2]; exact World.ownsRow_lit wr.drew #[] 0 h10.size (by unfold maxLen; omega) rfl
      have h11 := h10.alloc h10.size (.cells #[] 3);have g11 := g10.alloc g10.size (.cells #[] 3);go_simp;refine hK.out _ _ ?_ (fun hHeld => ?_)
      ·try dsimp only
       exact HKS.o _ g11
      clear hK K
      try simp only [tkS]
      obtain ⟨V11, hV11⟩ : ∃ V, V = (wr.alloc (.cells #[] 3)).drew := ⟨_, rfl⟩
      rw [show wr.drew.alloc (.cells #[] 3) = V11 from hV11.symm] at h11 g11 o11;rw [<- hz2, <- hV11];clear hV11 hz2;refine wpAnyH_ready (rs := [1, 8]) (by kernel_rfl) (by simp) ?_;refine AllReadyH.cons rfl (fun K hK => ?_) (AllReadyH.cons rfl (fun K hK => ?_) AllReadyH.nil)
      ·have r12 : V11.cell? ⟨bw, 1, none⟩ = some (.slice sa L.length sc) := (HP.o.later h11).cell 1;have rz12 := (HP.o.later h11).lt;go_simp;refine hK.out _ _ ?_ (fun hHeld => ?_)
       ·try dsimp only
        exact HKS.o _ g11
       clear hK K
       try simp only [tkS]
       clear r12 rz12;refine tkR 8 (.cons rfl (fun K hK => ?_) .nil);refine step_append_ints (by kernel_rfl) _ _ rfl wr.heap.size _ [] rfl o11 ai ci c rfl (HCI.o.keep g11) (by simp) HCL.o h11.size ?_;intro v13 V13 hown13 hgrow13;rw [List.nil_append] at hown13;have h13 : Below wr.heap.size wr V13 := h11.grown hgrow13 h11.size (fun q hq => (World.ownsRow.lt o11 q hq).1);have g13 := HBR.o.trans (h13.mono HBR.o.size);obtain ⟨ea, ec, rfl, hic, hea⟩ := hown13.cells;have HEA := lh hea;refine hK.out _ _ ?_ (fun hHeld => ?_)
       ·try dsimp only
        exact HKS.o _ g13
       clear hK K
       try simp only [tkS]
       clear hown13 hgrow13 o11 hea;refine tkR 9 (.cons rfl (fun K hK => ?_) .nil)
       obtain ⟨z9, hz9⟩ : ∃ z, z = V13.heap.size := ⟨_, rfl⟩
       have h14 := h13.alloc h13.size (.cells #[.slice ea c.length ec] 25);have g14 := g13.alloc g13.size (.cells #[.slice ea c.length ec] 25)
       have hn14 : ∀ j u, (sle ⟨ea, ec, c⟩)[j]? = some u -> (V13.alloc (.cells #[.slice ea c.length ec] 25)).cell? ⟨z9, j, none⟩ = some u := fun j u hj => by rw [hz9, World.cell?_alloc_at _ _ _ _ rfl]; simpa [sle] using hj
       have hic := hic.keep (show Below V13.heap.size V13 (V13.alloc (.cells #[.slice ea c.length ec] 25)) from (Below.refl _ _).alloc (Nat.le_refl _) _);have HNQ14 := lh hn14;clear hn14;go_simp;refine hK.out _ _ ?_ (fun hHeld => ?_)
       ·try dsimp only
        exact HKS.o _ g14
       clear hK K
       try simp only [tkS]
       obtain ⟨V14, hV14⟩ : ∃ V, V = V13.alloc (.cells #[.slice ea c.length ec] 25) := ⟨_, rfl⟩
       rw [show V13.alloc (.cells #[.slice ea c.length ec] 25) = V14 from hV14.symm] at h14 g14 HNQ14 hic;rw [<- hz9, <- hV14];clear hV14 hz9;refine tkR 10 (.cons rfl (fun K hK => ?_) .nil);refine zbn zd5 rfl _ _ rfl (bw + 1) (.slice sa L.length sc) L ⟨ea, ec, c⟩ rfl (HO2.o.own.later h14) z9 rfl rfl HNQ14.o (zcp _) HLM.o (by decide) (Nat.le_trans HZ.o h14.size) ?_;intro gg cap3 V15 ho3 hg3 hl3
       have hkg : Kp (fun k => (Value.slice sa L.length sc).ownBlock = some k) V14 V15 := Kp.grown hg3 fun k h => h
       have g15 : Below w2.heap.size w2 V15 := g14.grown hg3 g14.size (fun q hq => by have := (World.ownsRow.lt HO2.o.own q hq).1; have := HBW.o; omega);have hO3 : OwnS (fun k => bw < k) V15 (bw + 1) (.slice (some ⟨gg, 0, none⟩) (L ++ [(⟨ea, ec, c⟩ : Sl)]).length cap3) (L ++ [(⟨ea, ec, c⟩ : Sl)]) := (HO2.o.later h14).push (e := ⟨ea, ec, c⟩) (show IntIn _ _ _ _ from ⟨hic, fun p hp _ => ⟨by have := (HEA.o p hp).1; have := HZ.o; omega, fun eo => by have := (World.ownsRow.lt HO2.o.own _ eo).2; have := (HEA.o p hp).1; omega⟩⟩) ho3 hg3 (hl3.imp id fun e => by rw [e]; exact Nat.le_refl _);have B3 : Blk V15 bw #[.int .i64 (n : Int), .slice sa L.length sc] 24 := (HP.o.later h14).kept hkg HNB.o
       have hgb : bw + 1 <= gg := hl3.elim (fun h => (World.ownsRow.lt HO2.o.own _ h).1) (fun h => by have := HZ.o; have := h14.size; omega);have HGB := lh hgb;have HO3 := lh hO3;clear hgb hO3 ho3 hg3 hl3 hkg;refine hK.out _ _ ?_ (fun hHeld => ?_)
       ·try dsimp only
        exact HKS.o _ g15
       clear hK K
       try simp only [tkS]
       refine tkV 11 52 rfl rfl ?_; try simp only [tkS]
       refine tkR 12 (.cons rfl (fun K hK => ?_) .nil);have c1 : V15.cell? ⟨bw, 1, none⟩ = some (.slice sa L.length sc) := B3.cell 1;have f1 := B3.fr 1;have bz := B3.lt;have g16 := g15.setCell (p := ⟨bw, 1, none⟩) (by have := HBW.o; show w2.heap.size <= bw; omega) (.slice (some ⟨gg, 0, none⟩) (L.length + 1) cap3)
       have HF : Hid (OwR n t w2 bw (V15.setCell ⟨bw, 1, none⟩ (.slice (some ⟨gg, 0, none⟩) (L.length + 1) cap3)) (.int .i64 ((k : Int) + 1))) := ⟨k + 1, L ++ [⟨ea, ec, c⟩], some ⟨gg, 0, none⟩, cap3, by omega, by go_num, g16, by rw [List.length_append]; exact B3.set 1 _, HO3.o.kept (Kp.setCell (M := fun y => y = bw) _ ⟨bw, 1, none⟩ _ rfl) (fun k hk => by omega) (fun k hk => by have := HGB.o; simp [Value.ownBlock] at hk; omega), by rw [HTK.o, List.map_append, HLX.o]; rfl⟩
       go_simp;refine hK.out _ _ ?_ (fun hHeld => ?_)
       ·try dsimp only
        exact HKS.o _ g16
       clear hK K
       try simp only [tkS]
       clear c1 f1 bz B3;refine wpAnyH_done (by kernel_rfl) ?_ _;go_wp2;go_roundw
       case rel => exact HF.o
       case measure => simp [intOf]; omega
      refine step_append_ints (by kernel_rfl) _ _ rfl wr.heap.size _ [] rfl o11 ai ci c rfl (HCI.o.keep g11) (by simp) HCL.o h11.size ?_;intro v12 V12 hown12 hgrow12;rw [List.nil_append] at hown12;have h12 : Below wr.heap.size wr V12 := h11.grown hgrow12 h11.size (fun q hq => (World.ownsRow.lt o11 q hq).1);have g12 := HBR.o.trans (h12.mono HBR.o.size);obtain ⟨ea, ec, rfl, hic, hea⟩ := hown12.cells;have HEA := lh hea;refine hK.out _ _ ?_ (fun hHeld => ?_)
      ·try dsimp only
       exact HKS.o _ g12
      clear hK K
      try simp only [tkS]
      clear hown12 hgrow12 o11 hea;refine wpAnyH_ready (rs := [1, 9]) (by kernel_rfl) (by simp) ?_;refine AllReadyH.cons rfl (fun K hK => ?_) (AllReadyH.cons rfl (fun K hK => ?_) AllReadyH.nil)
      ·have r13 : V12.cell? ⟨bw, 1, none⟩ = some (.slice sa L.length sc) := (HP.o.later h12).cell 1;have rz13 := (HP.o.later h12).lt;go_simp;refine hK.out _ _ ?_ (fun hHeld => ?_)
       ·try dsimp only
        exact HKS.o _ g12
       clear hK K
       try simp only [tkS]
       clear r13 rz13;refine tkR 9 (.cons rfl (fun K hK => ?_) .nil)
       obtain ⟨z9, hz9⟩ : ∃ z, z = V12.heap.size := ⟨_, rfl⟩
       have h14 := h12.alloc h12.size (.cells #[.slice ea c.length ec] 25);have g14 := g12.alloc g12.size (.cells #[.slice ea c.length ec] 25)
       have hn14 : ∀ j u, (sle ⟨ea, ec, c⟩)[j]? = some u -> (V12.alloc (.cells #[.slice ea c.length ec] 25)).cell? ⟨z9, j, none⟩ = some u := fun j u hj => by rw [hz9, World.cell?_alloc_at _ _ _ _ rfl]; simpa [sle] using hj
       have hic := hic.keep (show Below V12.heap.size V12 (V12.alloc (.cells #[.slice ea c.length ec] 25)) from (Below.refl _ _).alloc (Nat.le_refl _) _);have HNQ14 := lh hn14;clear hn14;go_simp;refine hK.out _ _ ?_ (fun hHeld => ?_)
       ·try dsimp only
        exact HKS.o _ g14
       clear hK K
       try simp only [tkS]
       obtain ⟨V14, hV14⟩ : ∃ V, V = V12.alloc (.cells #[.slice ea c.length ec] 25) := ⟨_, rfl⟩
       rw [show V12.alloc (.cells #[.slice ea c.length ec] 25) = V14 from hV14.symm] at h14 g14 HNQ14 hic;rw [<- hz9, <- hV14];clear hV14 hz9;refine tkR 10 (.cons rfl (fun K hK => ?_) .nil);refine zbn zd5 rfl _ _ rfl (bw + 1) (.slice sa L.length sc) L ⟨ea, ec, c⟩ rfl (HO2.o.own.later h14) z9 rfl rfl HNQ14.o (zcp _) HLM.o (by decide) (Nat.le_trans HZ.o h14.size) ?_;intro gg cap3 V15 ho3 hg3 hl3
       have hkg : Kp (fun k => (Value.slice sa L.length sc).ownBlock = some k) V14 V15 := Kp.grown hg3 fun k h => h
       have g15 : Below w2.heap.size w2 V15 := g14.grown hg3 g14.size (fun q hq => by have := (World.ownsRow.lt HO2.o.own q hq).1; have := HBW.o; omega);have hO3 : OwnS (fun k => bw < k) V15 (bw + 1) (.slice (some ⟨gg, 0, none⟩) (L ++ [(⟨ea, ec, c⟩ : Sl)]).length cap3) (L ++ [(⟨ea, ec, c⟩ : Sl)]) := (HO2.o.later h14).push (e := ⟨ea, ec, c⟩) (show IntIn _ _ _ _ from ⟨hic, fun p hp _ => ⟨by have := (HEA.o p hp).1; have := HZ.o; omega, fun eo => by have := (World.ownsRow.lt HO2.o.own _ eo).2; have := (HEA.o p hp).1; omega⟩⟩) ho3 hg3 (hl3.imp id fun e => by rw [e]; exact Nat.le_refl _);have B3 : Blk V15 bw #[.int .i64 (n : Int), .slice sa L.length sc] 24 := (HP.o.later h14).kept hkg HNB.o
       have hgb : bw + 1 <= gg := hl3.elim (fun h => (World.ownsRow.lt HO2.o.own _ h).1) (fun h => by have := HZ.o; have := h14.size; omega);have HGB := lh hgb;have HO3 := lh hO3;clear hgb hO3 ho3 hg3 hl3 hkg;refine hK.out _ _ ?_ (fun hHeld => ?_)
       ·try dsimp only
        exact HKS.o _ g15
       clear hK K
       try simp only [tkS]
       refine tkV 11 52 rfl rfl ?_; try simp only [tkS]
       refine tkR 12 (.cons rfl (fun K hK => ?_) .nil);have c1 : V15.cell? ⟨bw, 1, none⟩ = some (.slice sa L.length sc) := B3.cell 1;have f1 := B3.fr 1;have bz := B3.lt;have g16 := g15.setCell (p := ⟨bw, 1, none⟩) (by have := HBW.o; show w2.heap.size <= bw; omega) (.slice (some ⟨gg, 0, none⟩) (L.length + 1) cap3)
       have HF : Hid (OwR n t w2 bw (V15.setCell ⟨bw, 1, none⟩ (.slice (some ⟨gg, 0, none⟩) (L.length + 1) cap3)) (.int .i64 ((k : Int) + 1))) := ⟨k + 1, L ++ [⟨ea, ec, c⟩], some ⟨gg, 0, none⟩, cap3, by omega, by go_num, g16, by rw [List.length_append]; exact B3.set 1 _, HO3.o.kept (Kp.setCell (M := fun y => y = bw) _ ⟨bw, 1, none⟩ _ rfl) (fun k hk => by omega) (fun k hk => by have := HGB.o; simp [Value.ownBlock] at hk; omega), by rw [HTK.o, List.map_append, HLX.o]; rfl⟩
       go_simp;refine hK.out _ _ ?_ (fun hHeld => ?_)
       ·try dsimp only
        exact HKS.o _ g16
       clear hK K
       try simp only [tkS]
       clear c1 f1 bz B3;refine wpAnyH_done (by kernel_rfl) ?_ _;go_wp2;go_roundw
       case rel => exact HF.o
       case measure => simp [intOf]; omega
      obtain ⟨z9, hz9⟩ : ∃ z, z = V12.heap.size := ⟨_, rfl⟩
      have h13 := h12.alloc h12.size (.cells #[.slice ea c.length ec] 25);have g13 := g12.alloc g12.size (.cells #[.slice ea c.length ec] 25)
      have hn13 : ∀ j u, (sle ⟨ea, ec, c⟩)[j]? = some u -> (V12.alloc (.cells #[.slice ea c.length ec] 25)).cell? ⟨z9, j, none⟩ = some u := fun j u hj => by rw [hz9, World.cell?_alloc_at _ _ _ _ rfl]; simpa [sle] using hj
      have hic := hic.keep (show Below V12.heap.size V12 (V12.alloc (.cells #[.slice ea c.length ec] 25)) from (Below.refl _ _).alloc (Nat.le_refl _) _);have HNQ13 := lh hn13;clear hn13;go_simp;refine hK.out _ _ ?_ (fun hHeld => ?_)
      ·try dsimp only
       exact HKS.o _ g13
      clear hK K
      try simp only [tkS]
      obtain ⟨V13, hV13⟩ : ∃ V, V = V12.alloc (.cells #[.slice ea c.length ec] 25) := ⟨_, rfl⟩
      rw [show V12.alloc (.cells #[.slice ea c.length ec] 25) = V13 from hV13.symm] at h13 g13 HNQ13 hic;rw [<- hz9, <- hV13];clear hV13 hz9;refine tkR 1 (.cons rfl (fun K hK => ?_) .nil);have r14 : V13.cell? ⟨bw, 1, none⟩ = some (.slice sa L.length sc) := (HP.o.later h13).cell 1;have rz14 := (HP.o.later h13).lt;go_simp;refine hK.out _ _ ?_ (fun hHeld => ?_)
      ·try dsimp only
       exact HKS.o _ g13
      clear hK K
      try simp only [tkS]
      clear r14 rz14;refine tkR 10 (.cons rfl (fun K hK => ?_) .nil);refine zbn zd5 rfl _ _ rfl (bw + 1) (.slice sa L.length sc) L ⟨ea, ec, c⟩ rfl (HO2.o.own.later h13) z9 rfl rfl HNQ13.o (zcp _) HLM.o (by decide) (Nat.le_trans HZ.o h13.size) ?_;intro gg cap3 V15 ho3 hg3 hl3
      have hkg : Kp (fun k => (Value.slice sa L.length sc).ownBlock = some k) V13 V15 := Kp.grown hg3 fun k h => h
      have g15 : Below w2.heap.size w2 V15 := g13.grown hg3 g13.size (fun q hq => by have := (World.ownsRow.lt HO2.o.own q hq).1; have := HBW.o; omega);have hO3 : OwnS (fun k => bw < k) V15 (bw + 1) (.slice (some ⟨gg, 0, none⟩) (L ++ [(⟨ea, ec, c⟩ : Sl)]).length cap3) (L ++ [(⟨ea, ec, c⟩ : Sl)]) := (HO2.o.later h13).push (e := ⟨ea, ec, c⟩) (show IntIn _ _ _ _ from ⟨hic, fun p hp _ => ⟨by have := (HEA.o p hp).1; have := HZ.o; omega, fun eo => by have := (World.ownsRow.lt HO2.o.own _ eo).2; have := (HEA.o p hp).1; omega⟩⟩) ho3 hg3 (hl3.imp id fun e => by rw [e]; exact Nat.le_refl _);have B3 : Blk V15 bw #[.int .i64 (n : Int), .slice sa L.length sc] 24 := (HP.o.later h13).kept hkg HNB.o
      have hgb : bw + 1 <= gg := hl3.elim (fun h => (World.ownsRow.lt HO2.o.own _ h).1) (fun h => by have := HZ.o; have := h13.size; omega);have HGB := lh hgb;have HO3 := lh hO3;clear hgb hO3 ho3 hg3 hl3 hkg;refine hK.out _ _ ?_ (fun hHeld => ?_)
      ·try dsimp only
       exact HKS.o _ g15
      clear hK K
      try simp only [tkS]
      refine tkV 11 52 rfl rfl ?_; try simp only [tkS]
      refine tkR 12 (.cons rfl (fun K hK => ?_) .nil);have c1 : V15.cell? ⟨bw, 1, none⟩ = some (.slice sa L.length sc) := B3.cell 1;have f1 := B3.fr 1;have bz := B3.lt;have g16 := g15.setCell (p := ⟨bw, 1, none⟩) (by have := HBW.o; show w2.heap.size <= bw; omega) (.slice (some ⟨gg, 0, none⟩) (L.length + 1) cap3)
      have HF : Hid (OwR n t w2 bw (V15.setCell ⟨bw, 1, none⟩ (.slice (some ⟨gg, 0, none⟩) (L.length + 1) cap3)) (.int .i64 ((k : Int) + 1))) := ⟨k + 1, L ++ [⟨ea, ec, c⟩], some ⟨gg, 0, none⟩, cap3, by omega, by go_num, g16, by rw [List.length_append]; exact B3.set 1 _, HO3.o.kept (Kp.setCell (M := fun y => y = bw) _ ⟨bw, 1, none⟩ _ rfl) (fun k hk => by omega) (fun k hk => by have := HGB.o; simp [Value.ownBlock] at hk; omega), by rw [HTK.o, List.map_append, HLX.o]; rfl⟩
      go_simp;refine hK.out _ _ ?_ (fun hHeld => ?_)
      ·try dsimp only
       exact HKS.o _ g16
      clear hK K
      try simp only [tkS]
      clear c1 f1 bz B3;refine wpAnyH_done (by kernel_rfl) ?_ _;go_wp2;go_roundw
      case rel => exact HF.o
      case measure => simp [intOf]; omega
     have hke : k = t.length := by omega
     subst hke;rw [List.take_length] at HLX;have hOL := HO2.o.ls (fun k hk => by omega);rw [HLX.o] at hOL;have HWL := lh (LsIn.old hOL.2.ls);rw [hll] at HP;have HPI := lh (LsIn.old (HX.o.keep HBT.o));have HOI := lh (IntIn.old (HO.o.keep HBT.o));have HTI := lh (HT.o.keep HBT.o);have HWW0 := lh (HB0.o.trans (HBT.o.mono HB0.o.size));have c0 := (Q0.o.later HBT.o).cell 0;have p1 := Q1.o.later HBT.o;have d0 := p1.cell 0;have d1 := p1.cell 1;have d2 := p1.cell 2;have z1 := p1.lt;have HQ1 := lh (Q1.o.later HBT.o);have HQ0 := lh (Q0.o.later HBT.o);clear hOL p1 hll;go_wp2_with fail;refine (HCP.o _ HBT.o).mono ?_
     rintro e w3 ⟨na, nc, ca, cc, N, C, rfl, hr, hb3⟩;obtain ⟨L1, hm1, hl1, hel1⟩ := hr.own HGD.o
     have HEL : Hid (∀ k, k < N.length -> ∀ (h : k < L1.length), L1[k].c.nd.ins.length <= 1073741824 /\ L1[k].at'.length <= 1073741824) := fun k _ h => hel1 _ (List.getElem_mem h)
     clear hel1
     obtain ⟨nb, hnb⟩ : ∃ nb, nb = w3.heap.size := ⟨_, rfl⟩
     obtain ⟨w4, hw4⟩ : ∃ w4, w4 = w3.alloc (.cells #[.int .i64 (n : Int), .slice na N.length nc] 33) := ⟨_, rfl⟩
     have hb4 : Below w3.heap.size w3 w4 := by rw [hw4]; exact (Below.refl _ _).alloc (Nat.le_refl _) _
     have q4 : Blk w4 nb #[.int .i64 (n : Int), .slice na N.length nc] 33 := by rw [hw4, hnb]; exact Blk.new _ _ _
     have HR := lh hr;have HM1 := lh hm1;have HL1 := lh hl1;have HNB3 := lh hnb;have HB3 := lh hb3;have HB34 := lh hb4;have HB4 := lh (hb3.trans (hb4.mono hb3.size));have HB04 := lh (HBT.o.trans ((hb3.trans (hb4.mono hb3.size)).mono HBT.o.size));have Q4 := lh q4;have c0 := zaa hb3 c0;have p0 := zaa hb3 p0;have d0 := zaa hb3 d0;have d1 := zaa hb3 d1;have d2 := zaa hb3 d2;have pz : w.heap.size < w3.heap.size := Nat.lt_of_lt_of_le pz hb3.size;have z1 : w.heap.size + 1 < w3.heap.size := Nat.lt_of_lt_of_le z1 hb3.size;clear hr hm1 hl1 hb3 hb4 q4;go_wp2_with fail;rw [<- hnb, <- hw4];clear hw4 hnb c0 p0 d0 d1 d2 pz z1
     refine (HCP.o _ HB04.o).mono ?_;rintro e w5 ⟨na2, nc2, ca2, cc2, N2, C2, rfl, hr2, hb5⟩
     obtain rfl : N2 = N := by rw [hr2.eqN, HR.o.eqN]
     obtain ⟨nb2, hnb2⟩ : ∃ nb2, nb2 = w5.heap.size := ⟨_, rfl⟩
     obtain ⟨w6, hw6⟩ : ∃ w6, w6 = w5.alloc (.cells #[.int .i64 (n : Int), .slice na2 N2.length nc2] 33) := ⟨_, rfl⟩
     have hb6 : Below w5.heap.size w5 w6 := by rw [hw6]; exact (Below.refl _ _).alloc (Nat.le_refl _) _
     have q6 : Blk w6 nb2 #[.int .i64 (n : Int), .slice na2 N2.length nc2] 33 := by rw [hw6, hnb2]; exact Blk.new _ _ _
     have HR2 := lh (hr2.keep hb6);have HB46 := lh (hb5.trans (hb6.mono hb5.size));have HR6 := lh ((HR.o.keep HB34.o).keep HB46.o);have Q6 := lh (Q4.o.later HB46.o);have R6 := lh q6;have HNL := lh (hr2.small HGD.o);have Q5 := Q4.o.later hb5;have k0 := Q5.cell 0;have k1 := Q5.cell 1;have kz := Q5.lt;have HNB2 := lh hnb2;have HZ5 : Hid (w4.heap.size <= w5.heap.size) := hb5.size;clear hr2 hb5 hb6 q6 Q5;go_wp2_with fail;rw [<- hnb2, <- hw6];clear hnb2 hw6 k0 k1 kz;refine (same20_ok (n : Int) na nc na2 nc2 N2 w6 (by have := HNL.o; omega) HR6.o.n HR2.o.n).mono ?_;rintro e w7 ⟨rfl, hb7⟩;have HR7 := lh (HR2.o.keep hb7)
     have Q7 := lh (Q6.o.later hb7);have R7 := lh (R6.o.later hb7);have HB37 := lh (HB34.o.trans (((HB46.o).trans (hb7.mono HB46.o.size)).mono HB34.o.size));have HB17 := lh (HB3.o.trans (HB37.o.mono HB3.o.size));have HNB4 : Hid (nb < w4.heap.size) := Q4.o.lt
     obtain ⟨M, hM⟩ : ∃ M : Nat -> Prop, M = fun k => wr.heap.size <= k /\ k < nb /\ (Value.slice na L1.length nc).ownBlock ≠ some k /\ (Value.slice ca L1.length cc).ownBlock ≠ some k := ⟨_, rfl⟩
     have HM : Hid (∀ k, M k -> wr.heap.size <= k /\ k < nb /\ (Value.slice na L1.length nc).ownBlock ≠ some k /\ (Value.slice ca L1.length cc).ownBlock ≠ some k) := by intro k hk; rw [hM] at hk; exact hk
     have HRI : Hid (RI M L1 w7 w7) := by
      refine ⟨Kp.below (Below.refl _ _), fun e he => ?_⟩;obtain ⟨m1, _, m3⟩ := HM1.o.me e he;have hap := HM1.o.ap e he;refine ⟨(XI.of m1 fun k hk => ?_).later HB37.o, (XI.of m3 fun k hk => ?_).later HB37.o⟩
      ·rw [hM]; have h1 := m1.blk hk; have h2 := hap k (.inl hk); have h3 := HNB3.o; exact ⟨h1.1, by omega, h2.1, h2.2⟩
      rw [hM]; have h1 := m3.blk hk; have h2 := hap k (.inr (.inr hk)); have h3 := HNB3.o; exact ⟨h1.1, by omega, h2.1, h2.2⟩
     have k0 := Q7.o.cell 0;have k1 := Q7.o.cell 1;have kz := Q7.o.lt;have hnl := HNL.o;clear hb7 hM;go_wp2_with fail
     go_loopw [13] (fun i wz => ∃ k : Nat, k <= N2.length /\ i = .int .i64 k /\ RI M L1 w7 wz) (fun i _ => N2.length - (intOf i).toNat)
     case atStart => exact ⟨0, Nat.zero_le _, rfl, HRI.o⟩
     obtain ⟨k, hk, rfl, hri⟩ := hrel
     rename World => wz
     have HRZ := lh hri;have HKZ := lh hri.1
     have hqz := Q7.o.kept hri.1 fun h => by have := (HM.o _ h).2.1; omega
     have k1 := hqz.cell 1;have kz := hqz.lt;clear hri k0 hqz
     by_cases hlt : k < N2.length
     ·have hki : (k : Int) < (N2.length : Int) := by omega
      have hkl : k < L1.length := by rw [HL1.o]; exact hlt
      obtain ⟨q, qc, hsh⟩ : ∃ q qc, (Value.slice na L1.length nc) = .slice (some ⟨q, 0, none⟩) L1.length qc := by
       rcases HM1.o.rn.shape with ⟨_, h2⟩ | ⟨g, gc, h1, _⟩
       ·rw [h2] at hkl; simp at hkl
       exact ⟨g, gc, h1⟩
      simp only [Value.slice.injEq, true_and] at hsh;obtain ⟨rfl, rfl⟩ := hsh
      obtain ⟨cq, cqc, hsh⟩ : ∃ q qc, (Value.slice ca L1.length cc) = .slice (some ⟨q, 0, none⟩) L1.length qc := by
       rcases HM1.o.rc.shape with ⟨_, h2⟩ | ⟨g, gc, h1, _⟩
       ·rw [h2] at hkl; simp at hkl
       exact ⟨g, gc, h1⟩
      simp only [Value.slice.injEq, true_and] at hsh;obtain ⟨rfl, rfl⟩ := hsh;have x2 : w3.cell? ⟨q, k * 3 + 2, none⟩ = some L1[k].v := HM1.o.rn.cell rfl ziu k 2 hkl (by omega);have y1 : w3.cell? ⟨cq, k * 2 + 1, none⟩ = some L1[k].va := HM1.o.rc.cell rfl zh1 k 1 hkl (by omega)
      have HMQ : Hid (¬ M q) := fun h => (HM.o _ h).2.2.1 rfl
      have HMC : Hid (¬ M cq) := fun h => (HM.o _ h).2.2.2 rfl
      have HX2 : Hid (∀ V, RI M L1 w7 V -> V.cell? ⟨q, k * 3 + 2, none⟩ = some L1[k].v) := fun V hV => hV.1.cell (zaa HB37.o x2) HMQ.o
      have HY1 : Hid (∀ V, RI M L1 w7 V -> V.cell? ⟨cq, k * 2 + 1, none⟩ = some L1[k].va) := fun V hV => hV.1.cell (zaa HB37.o y1) HMC.o
      have HXI2 : Hid (∀ V, RI M L1 w7 V -> XI M V L1[k].v L1[k].c.nd.ins.length /\ XI M V L1[k].va L1[k].at'.length) := fun V hV => hV.2 _ (List.getElem_mem hkl)
      have hmb := HEL.o k hlt hkl;generalize L1[k] = e at *
      have HNQ : Hid (∀ V, RI M L1 w7 V -> Blk V nb #[.int .i64 (n : Int), .slice (some ⟨q, 0, none⟩) N2.length nc] 33) := fun V hV => Q7.o.kept hV.1 fun h => by have := (HM.o _ h).2.1; omega
      clear x2 y1 k1 kz;have hmb1 := hmb.1;have hmb2 := hmb.2;have k1 := (HNQ.o wz HRZ.o).cell 1;have kz := (HNQ.o wz HRZ.o).lt;go_wp2_with fail
      go_loopw [14] (fun j wi => ∃ p : Nat, p <= e.c.nd.ins.length /\ j = .int .i64 p /\ RI M L1 w7 wi) (fun j _ => e.c.nd.ins.length - (intOf j).toNat)
      case atStart => exact ⟨0, Nat.zero_le _, rfl, HRZ.o⟩
      obtain ⟨p, hp, rfl, hri⟩ := hrel
      rename World => wi
      have HRW := lh hri;have m1 := (HNQ.o wi hri).cell 1;have mz := (HNQ.o wi hri).lt;have x2 := HX2.o wi hri;have qz := zak x2;obtain ⟨hxi, _⟩ := HXI2.o wi hri;clear hri k1 kz
      by_cases hpl : p < e.c.nd.ins.length
      ·have hpi : (p : Int) < (e.c.nd.ins.length : Int) := by omega
       obtain ⟨g, gc, y, hev, hg, y0, f0, gz⟩ := hxi.at hpl;have HG := lh hg;rw [hev] at x2;clear hxi hev hg;go_wp2;go_roundw
       case rel => exact ⟨p + 1, by omega, by go_num, HRW.o.put g p HG.o _⟩
       case measure => simp [intOf]; omega
      have hpe : p = e.c.nd.ins.length := by omega
      obtain ⟨xa, xc, hev⟩ := hxi.len;rw [hev] at x2
      have hpn : ¬ (p : Int) < (e.c.nd.ins.length : Int) := by omega
      clear hxi hev hpl;go_wp2_with fail
      go_loopw [15] (fun j wi => ∃ p : Nat, p <= e.at'.length /\ j = .int .i64 p /\ RI M L1 w7 wi) (fun j _ => e.at'.length - (intOf j).toNat)
      case atStart => exact ⟨0, Nat.zero_le _, rfl, HRW.o⟩
      obtain ⟨p', hp', rfl, hri⟩ := hrel
      rename World => wj
      have HRJ := lh hri;have y2 := HY1.o wj hri;have cqz := zak y2;obtain ⟨_, hxi⟩ := HXI2.o wj hri;clear hri m1 mz x2 qz
      by_cases hpl : p' < e.at'.length
      ·have hpi : (p' : Int) < (e.at'.length : Int) := by omega
       obtain ⟨g, gc, y, hev, hg, y0, f0, gz⟩ := hxi.at hpl;have HG := lh hg;rw [hev] at y2;clear hxi hev hg;go_wp2;go_roundw
       case rel => exact ⟨p' + 1, by omega, by go_num, HRJ.o.put g p' HG.o _⟩
       case measure => simp [intOf]; omega
      obtain ⟨xa, xc, hev⟩ := hxi.len;rw [hev] at y2
      have hpn : ¬ (p' : Int) < (e.at'.length : Int) := by omega
      clear hxi hev hpl;go_wp2;go_roundw
      case rel => exact ⟨k + 1, by omega, by go_num, HRJ.o⟩
      case measure => simp [intOf]; omega
     have hke : k = N2.length := by omega
     subst hke;have hzw := HRZ.o.1
     have hlow : ∀ k, M k -> wr.heap.size <= k := fun k hk => (HM.o k hk).1
     have hhi : ∀ k, M k -> k < nb := fun k hk => (HM.o k hk).2.1
     have b17 := HB17.o;have hXz := ((HPI.o.later b17).keptAt hzw hlow).ls;have hOz := ((HOI.o.later b17).keptAt hzw hlow).1;have hWz := ((HWL.o.later b17).keptAt hzw hlow).ls
     have hTz : Tab wz := (HTI.o.keep b17).kp hzw fun k hk => by have := hlow k hk; have := HTL.o; have := HWW0.o.size; omega
     have hbz : Below w.heap.size w wz := (HWW0.o.trans (b17.mono HWW0.o.size)).trans (hzw.toBelow (by have := HWW0.o.size; have := b17.size; omega) fun k hk h => by have := hlow k h; have := HWW0.o.size; omega);have hz0 := HQ0.o.lt;have hz1 := HQ1.o.lt;have hzw0 := HP.o.lt;have HRZ2 := lh (HR7.o.kp hzw fun k hk => by have := hhi k hk; have := HNB4.o; omega)
     have a0 := (HQ0.o.later b17).kept hzw fun h => by have := hlow _ h; omega
     have a1 := (HQ1.o.later b17).kept hzw fun h => by have := hlow _ h; omega
     have a2 := (HP.o.later b17).kept hzw fun h => by have := hlow _ h; omega
     have a3 := R7.o.kept hzw fun h => by have := hhi _ h; have := HNB4.o; have := HZ5.o; have := HNB2.o; omega
     have HCW := lh (zhd n a cap t oa oc order o1 o2 wz HGD.o hXz hOz hTz);have HWZ := lh hWz;have HTZ := lh hTz;have HBZ := lh hbz;have A2 := lh a2;have A3 := lh a3;have c0 := a0.cell 0;have p0 := a0.cell 1;have pz := a0.lt;have d0 := a1.cell 0;have d1 := a1.cell 1;have d2 := a1.cell 2;have z1 := a1.lt;clear hzw hlow hhi b17 hXz hOz hWz hTz hbz hz0 hz1 hzw0 a0 a1 a2 a3;go_wp2_with fail;refine HCW.o.mono ?_;rintro e w8 ⟨na3, nc3, ca3, cc3, N3, C3, rfl, hr3, hb8⟩
     obtain rfl : N3 = N2 := by rw [hr3.eqN, HR.o.eqN]
     obtain ⟨nb3, hnb3⟩ : ∃ nb3, nb3 = w8.heap.size := ⟨_, rfl⟩
     obtain ⟨w9, hw9⟩ : ∃ w9, w9 = w8.alloc (.cells #[.int .i64 (n : Int), .slice na3 N3.length nc3] 33) := ⟨_, rfl⟩
     have hb9 : Below w8.heap.size w8 w9 := by rw [hw9]; exact (Below.refl _ _).alloc (Nat.le_refl _) _
     have HZ9 := lh (hb8.trans (hb9.mono hb8.size));have HR3 := lh (hr3.keep hb9);have e2 := A2.o.later hb8;have e3 := A3.o.later hb8;have v0 := e2.cell 0;have v1 := e2.cell 1;have vz := e2.lt;have u0 := e3.cell 0;have u1 := e3.cell 1;have uz := e3.lt;clear hr3 hb8 hb9 e2 e3 c0 p0 pz d0 d1 d2 z1 k1 kz;go_wp2_with fail;rw [<- hnb3, <- hw9];clear hnb3 hw9 v0 v1 vz u0 u1 uz;refine ((HRZ2.o.keep HZ9.o).verify2 HR3.o HGD.o sc (HWZ.o.keep HZ9.o)).mono ?_;rintro e w10 ⟨rfl, hb10⟩;have HZ10 := lh (HZ9.o.trans (hb10.mono HZ9.o.size));clear hb10;go_wp2_with fail;refine (zjc _ (HTZ.o.keep HZ10.o)).mono ?_
     rintro e w11 ⟨rfl, hb11⟩;have HZ11 := lh (HBZ.o.trans ((HZ10.o.trans (hb11.mono HZ10.o.size)).mono HBZ.o.size));clear hb11;go_wp2;go_ret;exact ⟨rfl, HZ11.o⟩
end Go.Proofs.YtfmmhjphopikgaaGreatDoor
