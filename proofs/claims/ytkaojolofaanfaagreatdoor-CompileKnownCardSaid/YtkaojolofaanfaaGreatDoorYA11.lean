/- Part of the proofs that laws of censuslaw24 return true for every input, where the tables that the rows list are laid. Texts: CqZ, Cm. -/
import Derived.Test.YtkaojolofaanfaaGreatDoorYA10
import Derived.Test.YtkaojolofaanfaaGreatDoorYA3
import Derived.Test.YtkaojolofaanfaaGreatDoorYA9
import Derived.Test.YtkaojolofaanfaaGreatDoorYA1
set_option maxHeartbeats 8000000
set_option maxRecDepth 100000
set_option linter.unusedSimpArgs false
set_option linter.unusedVariables false
namespace Cen
section
variable {ch : List Cl -> Int} {n : Nat} {t : List Cl} {cache : Bool}
theorem zbf (h : zab n t = []) : zae ch cache n t = [⟨⟨1, 0, []⟩, some ([], [])⟩] := by unfold zae; rw [if_pos h]
theorem zce (h : zab n t ≠ []) (hr : zct (zao ch cache (zab n t)) (zab n t) = true) :
 zae ch cache n t = (zao ch cache (zab n t)).1 ++ [⟨⟨3, 0, zag (zao ch cache (zab n t)).2⟩, some (zab n t, [])⟩] := by
 unfold zae capF; rw [if_neg h, if_pos hr]
theorem zcf (h : zab n t ≠ []) (hr : zct (zao ch cache (zab n t)) (zab n t) = false) :
 zae ch cache n t = (zao ch cache (zab n t)).1.set ((zao ch cache (zab n t)).1.length - 1) ⟨nd (nds (zao ch cache (zab n t)).1) ((zao ch cache (zab n t)).1.length - 1 : Nat), some (zab n t, [])⟩ := by
 unfold zae capF; rw [if_neg h, if_neg (by simp [hr])]
theorem zk8 (h : zab n t ≠ []) (hr : zct (zao ch cache (zab n t)) (zab n t) = true) :
 nds (zae ch cache n t) = nds (zao ch cache (zab n t)).1 ++ [⟨3, 0, zag (zao ch cache (zab n t)).2⟩] := by
 rw [zce h hr, zpr]; rfl
theorem zk9 (h : zab n t ≠ []) (hr : zct (zao ch cache (zab n t)) (zab n t) = false) :
 nds (zae ch cache n t) = nds (zao ch cache (zab n t)).1 := by
 rw [zcf h hr, zed]
theorem zqv (hn : n <= 128) (hch : Chooses ch n) (ht : tOk n t) {p : Prf} (hpn : p.n = n) (hpt : p.t = t) (hpN : p.N = nds (zae ch cache n t))
 (hpC : ∀ (i : Nat) (c : Nc) (l : List Cl) (term : Cl), (zae ch cache n t)[i]? = some c -> c.tag = some (l, term) -> ∃ a, p.C.getD i ⟨[], []⟩ = ⟨term, a⟩ /\ ClOf n t l term a) : ∀ i, i < p.N.length -> p.node i := by
 obtain ⟨pn, pt, pN, pC⟩ := p;simp only at hpn hpt hpN hpC;subst hpn; subst hpt; subst hpN;have hg := za2 hn ht.rg;have hal : (zab pn pt).length <= 4096 := Nat.le_trans (zbx pn pt) ht.len
 have hres0 : ∀ (i : Nat) (c : Nc) (l : List Cl) (term : Cl), (zae ch cache pn pt)[i]? = some c -> c.tag = some (l, term) -> gL pn l -> gT pn term -> Prf.res ⟨pn, pt, nds (zae ch cache pn pt), pC⟩ i = some l := fun i c l term hc htag hgl hgt => by
  obtain ⟨a, h1, h2⟩ := hpC i c l term hc htag;unfold Prf.res;simp only [Int.toNat_natCast];rw [h1];exact zxf hn ht.rg hgl hgt h2
 by_cases h0 : zab pn pt = []
 ·have hN : nds (zae ch cache pn pt) = [⟨1, 0, []⟩] := by rw [zbf h0]; rfl
  have hr0 := hres0 0 ⟨⟨1, 0, []⟩, some ([], [])⟩ [] [] (by rw [zbf h0]; rfl) rfl (by rw [<- h0]; exact hg) (gT.nil pn);intro i hi;simp only at hi;rw [hN] at hi hr0 ⊢
  have : i = 0 := by simpa using hi
  subst this;refine ⟨.inl (by simp [zgm]), fun _ => ⟨[], hr0, ?_, fun _ => h0.symm⟩⟩;unfold Prf.acc
  simp [nd]
 ·have hC := core hn hch ht cache
  have htg : ∀ i l, tagged (zao ch cache (zab pn pt)).1 i l -> gL pn l /\ l ≠ [] := fun i l h => zfi hC.inv.inv h
  have hlen : ∀ i l, tagged (zao ch cache (zab pn pt)).1 i l -> l.length <= 4096 := fun i l ⟨c, tm, hc, e⟩ => by
   obtain ⟨_, hR⟩ := hC.inv.tg i c l tm hc e;have hgl := (htg i l ⟨c, tm, hc, e⟩).1
   have hex : ∀ c ∈ l, ∃ j : Nat, j < pt.length /\ Left1 pn pt tm j c := fun c hc => by
    obtain ⟨i, hi⟩ := hR c hc;obtain ⟨j, hj, e, r⟩ := hi;exact ⟨j, hj, by subst e; exact ⟨j, hj, rfl, r⟩⟩
   have : l.length <= pt.length := by
    have hch : ∀ c : Cl, ∃ j : Nat, c ∈ l -> j < pt.length /\ Left1 pn pt tm j c := fun c => by
     by_cases h : c ∈ l
     ·obtain ⟨j, h1, h2⟩ := hex c h; exact ⟨j, fun _ => ⟨h1, h2⟩⟩
     ·exact ⟨0, fun h' => absurd h' h⟩
    obtain ⟨f, hf⟩ := Classical.axiomOfChoice hch
    have := zcj (l := l.map fun c => (f c : Int)) (b := pt.length) (by
     show List.Pairwise _ _
     rw [List.pairwise_map];refine List.Pairwise.imp_of_mem (fun {a b} ha hb hab e => ?_) hgl.so
     have e' : f a = f b := by omega
     have h1 := (hf a ha).2;rw [e'] at h1;have := h1.fun (hf b hb).2;subst this
     exact zeq _ hab) (fun y hy => by
     obtain ⟨c, hc, rfl⟩ := List.mem_map.1 hy;have := (hf c hc).1
     omega)
    simpa using this
   exact Nat.le_trans this ht.len
  have hRT : ∀ (i : Nat) (c : Nc) (l : List Cl) (tm : Cl), (zao ch cache (zab pn pt)).1[i]? = some c -> c.tag = some (l, tm) -> gT pn tm := fun i c l tm hc e => (hC.inv.tg i c l tm hc e).1
  cases hr : zct (zao ch cache (zab pn pt)) (zab pn pt) with
  | true =>
    have hN := zk8 (ch := ch) (cache := cache) h0 hr;have hF := zce (ch := ch) (cache := cache) h0 hr
    have hnd : ∀ (i : Nat) (c : Nc), (zao ch cache (zab pn pt)).1[i]? = some c -> nd (nds (zae ch cache pn pt)) i = c.nd := fun i c hc => by
     rw [hN, zro (by omega) (by rw [za5]; have := zb8 hc; omega), zdh hc]
    have hres : ∀ (i : Nat) (l : List Cl), tagged (zao ch cache (zab pn pt)).1 i l -> Prf.res ⟨pn, pt, nds (zae ch cache pn pt), pC⟩ i = some l := fun i l ⟨c, tm, hc, e⟩ =>
     hres0 i c l tm (by rw [hF]; exact zdw hc) e (htg i l ⟨c, tm, hc, e⟩).1 (hRT i c l tm hc e)
    have hmem : ∀ c ∈ (zao ch cache (zab pn pt)).1, c.nd ∈ nds (zae ch cache pn pt) := fun c hc => by
     rw [hN]; exact List.mem_append_left _ (List.mem_map.2 ⟨c, hc, rfl⟩)
    intro i hi;simp only at hi
    have hNl : (nds (zae ch cache pn pt)).length = (zao ch cache (zab pn pt)).1.length + 1 := by rw [hN]; simp [za5]
    rcases Nat.lt_or_ge i (zao ch cache (zab pn pt)).1.length with hlt | hge
    ·have hc : (zao ch cache (zab pn pt)).1[i]? = some (zao ch cache (zab pn pt)).1[i] := List.getElem?_eq_getElem hlt;refine zkc (ch := ch) hn hnd hres hC.inv.inv hlen hmem hc (by simp only; omega) (fun hk => ?_) ?_
     ·cases hb : zbh (nds (zae ch cache pn pt)) i 3 with
      | false => rfl
      | true =>
        exfalso
        obtain ⟨x, hx, hm, hk3⟩ := zgg.1 hb;rw [hN] at hx
        rcases List.mem_append.1 hx with hx | hx
        ·obtain ⟨d, hd, rfl⟩ := List.mem_map.1 hx;exact zrp hC.inv.inv hc hk d hd hm hk3
        ·simp at hx; subst hx;simp only [zag, List.mem_map] at hm;obtain ⟨m, hm, e⟩ := hm
         have : m = i := by omega
         subst this;obtain ⟨y, hy, ey⟩ := hC.fit.kind hC.inv.inv m hm;rw [hc] at hy; simp at hy; subst hy;exact ey hk
     ·rcases hC.use i _ hc with h | ⟨h1, h2⟩
      ·exact .inl h
      ·refine .inr ⟨zfu (x := ⟨3, 0, zag (zao ch cache (zab pn pt)).2⟩) (by simp only; rw [hN]; simp) ?_ rfl, h2⟩;simp only [zag, List.mem_map];exact ⟨i, h1, rfl⟩
    ·have hi2 : i = (zao ch cache (zab pn pt)).1.length := by omega
     subst hi2
     have hx : nd (nds (zae ch cache pn pt)) ((zao ch cache (zab pn pt)).1.length : Nat) = ⟨3, 0, zag (zao ch cache (zab pn pt)).2⟩ := by
      rw [hN]; unfold nd
      simp [List.getD_eq_getElem?_getD, za5, nds]
     have hr1 := hres0 (zao ch cache (zab pn pt)).1.length ⟨⟨3, 0, zag (zao ch cache (zab pn pt)).2⟩, some (zab pn pt, [])⟩ (zab pn pt) [] (by rw [hF]; simp) rfl hg (gT.nil pn);refine ⟨.inl (by unfold zgm; simp only; rw [hNl]; simp), fun _ => ⟨_, hr1, ?_, fun _ => rfl⟩⟩;unfold Prf.acc;simp only [hx];simp only [show ¬ ((3 : Int) = 1) by decide, show ¬ ((3 : Int) = 0) by decide, show ¬ ((3 : Int) = 2) by decide, if_false, if_true];exact zu9 hn hnd hres hC.fit hg hal
  | false =>
    have hN := zk9 (ch := ch) (cache := cache) h0 hr;have hF := zcf (ch := ch) (cache := cache) h0 hr;obtain ⟨k, d, hF2, hk, hd, hend⟩ := zo5 hC hg h0 hr
    have hnd : ∀ (i : Nat) (c : Nc), (zao ch cache (zab pn pt)).1[i]? = some c -> nd (nds (zae ch cache pn pt)) i = c.nd := fun i c hc => by
     rw [hN, zdh hc]
    have hk1 : (zao ch cache (zab pn pt)).1.length - 1 = k := by omega
    have hroot : (zae ch cache pn pt)[k]? = some ⟨d.nd, some (zab pn pt, [])⟩ := by
     rw [hF, hk1, zdh hd, List.getElem?_set]; simp; omega
    have hr1 := hres0 k _ (zab pn pt) [] hroot rfl hg (gT.nil pn)
    have hres : ∀ (i : Nat) (l : List Cl), tagged (zao ch cache (zab pn pt)).1 i l -> Prf.res ⟨pn, pt, nds (zae ch cache pn pt), pC⟩ i = some l := fun i l ⟨c, tm, hc, e⟩ => by
     by_cases hik : i = k
     ·subst hik;rw [hd] at hc; simp at hc; subst hc
      rcases hend with ⟨x, _, _, h3⟩ | ⟨tm', h3, _⟩
      ·rw [h3] at e; simp at e
      ·rw [h3] at e; simp at e; rw [<- e.1]; exact hr1
     ·refine hres0 i c l tm ?_ e (htg i l ⟨c, tm, hc, e⟩).1 (hRT i c l tm hc e);rw [hF, hk1, List.getElem?_set_ne (by omega)]; exact hc
    have hmem : ∀ c ∈ (zao ch cache (zab pn pt)).1, c.nd ∈ nds (zae ch cache pn pt) := fun c hc => by
     rw [hN]; exact List.mem_map.2 ⟨c, hc, rfl⟩
    have hNl : (nds (zae ch cache pn pt)).length = (zao ch cache (zab pn pt)).1.length := by rw [hN, za5]
    intro i hi;simp only at hi
    have hlt : i < (zao ch cache (zab pn pt)).1.length := by omega
    have hc : (zao ch cache (zab pn pt)).1[i]? = some (zao ch cache (zab pn pt)).1[i] := List.getElem?_eq_getElem hlt
    by_cases hik : i = k
    ·subst hik;refine ⟨.inl (by unfold zgm; simp only; rw [hNl, hk]; simp), fun _ => ⟨_, hr1, ?_, fun _ => rfl⟩⟩;have hx := hnd i d hd;unfold Prf.acc;simp only [hx]
     rcases hend with ⟨x, h1, h2, _⟩ | ⟨tm, h3, ⟨h1, h2⟩ | h1⟩
     ·rw [h1, h2]; simp [hasU]
     ·rw [h1]; simp [h2]
     ·have hform := hC.inv.inv i d hd
      cases hform with
      | lit a b => simp at h1
      | bad a => simp at h1
      | and => simp at h1
      | @dec l tt a b g1 g2 g3 g4 g5 g6 g7 g8 s1 s2 =>
        simp only [Option.some.injEq, Prod.mk.injEq] at h3;obtain ⟨rfl, _⟩ := h3;simp only [show ¬ ((4 : Int) = 1) by decide, show ¬ ((4 : Int) = 0) by decide, show ¬ ((4 : Int) = 2) by decide, show ¬ ((4 : Int) = 3) by decide, if_false, List.length_cons, List.length_nil, Bool.and_eq_true, decide_eq_true_eq, List.any_eq_true, List.mem_range];refine ⟨trivial, (ch (zab pn pt) - 1).toNat, by omega, ?_⟩;rw [show (((ch (zab pn pt) - 1).toNat : Nat) : Int) + 1 = ch (zab pn pt) by omega];unfold Prf.onv
        have hv : (zbs pn (zab pn pt)).mem (ch (zab pn pt)) = true := by unfold zbs; rw [if_pos ((zix hn).2 (gL.ok hn hg.gc hal))]; exact g6
        have e1 := zle (p := ⟨pn, pt, nds (zae ch cache pn pt), pC⟩) hn hnd hres s1 hg hal;have e2 := zle (p := ⟨pn, pt, nds (zae ch cache pn pt), pC⟩) hn hnd hres s2 hg hal
        show ((zbs pn (zab pn pt)).mem (ch (zab pn pt)) && ((Prf.side ⟨pn, pt, nds (zae ch cache pn pt), pC⟩ (zab pn pt) (a : Int) (ch (zab pn pt)) && Prf.side ⟨pn, pt, nds (zae ch cache pn pt), pC⟩ (zab pn pt) (b : Int) (-ch (zab pn pt))) || (Prf.side ⟨pn, pt, nds (zae ch cache pn pt), pC⟩ (zab pn pt) (a : Int) (-ch (zab pn pt)) && Prf.side ⟨pn, pt, nds (zae ch cache pn pt), pC⟩ (zab pn pt) (b : Int) (ch (zab pn pt))))) = true
        rw [hv, e1, e2]; simp
    ·refine zkc (ch := ch) hn hnd hres hC.inv.inv hlen hmem hc (by simp only; omega) (fun hk3 => ?_) ?_
     ·cases hb : zbh (nds (zae ch cache pn pt)) i 3 with
      | false => rfl
      | true =>
        exfalso
        obtain ⟨x, hx, hm, hk3'⟩ := zgg.1 hb;rw [hN] at hx;obtain ⟨e, he, rfl⟩ := List.mem_map.1 hx;exact zrp hC.inv.inv hc hk3 e he hm hk3'
     ·rcases hC.use i _ hc with h | ⟨h1, h2⟩
      ·exact .inl h
      ·rw [hF2] at h1; simp at h1; exact absurd h1 hik
theorem zky (hn : n <= 128) (hch : Chooses ch n) (ht : tOk n t) : (zae ch cache n t).length <= FB (card (zaf (zab n t))) + 2 * n + 1 /\ 1 <= (zae ch cache n t).length := by
 by_cases h0 : zab n t = []
 ·rw [zbf h0]; simp
 ·have hC := core hn hch ht cache;have h1 := zox hC.inv;have h2 := hC.few
  cases hr : zct (zao ch cache (zab n t)) (zab n t) with
  | true => rw [zce h0 hr]; simp; omega
  | false =>
    have hg := za2 hn ht.rg;obtain ⟨k, d, _, hk, _⟩ := zo5 hC hg h0 hr;rw [zcf h0 hr]; simp; omega
theorem zsw {l : List Nat} {b : Nat} (h : ∀ j ∈ l, j < b) : zhb (zag l) b = true := by
 rw [zdo];intro i hi;simp only [zag, List.mem_map] at hi;obtain ⟨j, hj, rfl⟩ := hi;have := h j hj;omega
theorem zs6 (hn : n <= 128) (hch : Chooses ch n) (ht : tOk n t) : zno (nds (zae ch cache n t)) n (nds (zae ch cache n t)).length := by
 by_cases h0 : zab n t = []
 ·rw [zbf h0];intro j hj
  have : j = 0 := by simpa [nds] using hj
  subst this
  simp [nds, ndOk, zhb, zcr]
 ·have hC := core hn hch ht cache
  cases hr : zct (zao ch cache (zab n t)) (zab n t) with
  | false => rw [zk9 h0 hr]; exact hC.inv.inv.nds hn
  | true =>
    rw [zk8 h0 hr];intro j hj
    rcases Nat.lt_or_ge j (nds (zao ch cache (zab n t)).1).length with h | h
    ·rw [List.getD_eq_getElem?_getD, List.getElem?_append_left h, <- List.getD_eq_getElem?_getD];exact hC.inv.inv.nds hn j h
    ·have e : j = (nds (zao ch cache (zab n t)).1).length := by simp at hj; omega
     subst e;rw [List.getD_eq_getElem?_getD, List.getElem?_append_right (Nat.le_refl _)];simp only [Nat.sub_self, List.getElem?_cons_zero, Option.getD_some];unfold ndOk;rw [zsw fun j hj => by rw [za5]; exact hC.fit.lt j hj]
     simp [zcr]
theorem zs7 (hn : n <= 128) (hch : Chooses ch n) (ht : tOk n t) (hl : (zae ch cache n t).length <= 65536) : zdi ⟨n, nds (zae ch cache n t)⟩ = true := by
 have := (zky (cache := cache) hn hch ht).2;unfold zdi zop;simp only [Bool.and_eq_true, decide_eq_true_eq, za5];refine ⟨⟨⟨⟨by omega, by omega⟩, by omega⟩, by omega⟩, ?_⟩;have := zs6 (cache := cache) hn hch ht;rw [za5] at this;exact this
theorem zv1 (hn : n <= 128) (hch : Chooses ch n) (ht : tOk n t) (s : Int -> Bool) : ev s ⟨n, nds (zae ch cache n t)⟩ = evL s t := by
 rw [<- zpi hn ht.rg];have hl := (zky (cache := cache) hn hch ht).2;rw [ev_eq s _ (by simp only [za5]; exact hl)]
 by_cases h0 : zab n t = []
 ·rw [zbf h0, h0]
  simp [nds, T, zc7, evs, evNd, at', evL]
 ·have hC := core hn hch ht cache;have hg := za2 hn ht.rg
  have hs := hC.fit.says hn hg.gc (s := s) fun j hj => zui hn s hC.inv.inv j j rfl (hC.fit.lt j hj)
  cases hr : zct (zao ch cache (zab n t)) (zab n t) with
  | true =>
    simp only [zk8 h0 hr];rw [show (nds (zao ch cache (zab n t)).1 ++ [(⟨3, 0, zag (zao ch cache (zab n t)).2⟩ : Nd)]).length - 1 = (nds (zao ch cache (zab n t)).1).length by simp];rw [zu4, <- hs]
    simp [evNd, zag, List.all_map, Function.comp_def]
  | false =>
    simp only [zk9 h0 hr];obtain ⟨k, d, hF2, hk, hd, hend⟩ := zo5 hC hg h0 hr;rw [hF2] at hs;rw [za5, show (zao ch cache (zab n t)).1.length - 1 = k by omega, <- hs]
    simp
end
end Cen
namespace Go.Proofs.YtkaojolofaanfaaGreatDoor
open Go.RowKit Cen
def CmCells (w : World) (a : Option Addr) (C : List Clm) : Prop :=
 ∀ i, i < C.length -> ∃ b off ta tc aa ac, a = some ⟨b, off, none⟩ /\ w.cell? ⟨b, off + i * 2, none⟩ = some (.slice ta (C.getD i ⟨[], []⟩).tm.length tc) /\ w.cell? ⟨b, off + i * 2 + 1, none⟩ = some (.slice aa (C.getD i ⟨[], []⟩).at'.length ac) /\
  IntCells w ta (C.getD i ⟨[], []⟩).tm /\ IntCells w aa (C.getD i ⟨[], []⟩).at'
theorem CmCells.keep {w w' : World} {a : Option Addr} {C : List Clm} (h : CmCells w a C) (hb : Below w.heap.size w w') : CmCells w' a C := fun i hi =>
 let ⟨b, off, ta, tc, aa, ac, e, h1, h2, h3, h4⟩ := h i hi; ⟨b, off, ta, tc, aa, ac, e, zaa hb h1, zaa hb h2, h3.keep hb, h4.keep hb⟩
def NdCap (w : World) (a : Option Addr) (N : List Nd) : Prop := ∀ i, i < N.length -> ∀ b off xa m xc, a = some ⟨b, off, none⟩ -> w.cell? ⟨b, off + i * 3 + 2, none⟩ = some (.slice xa m xc) -> m <= xc
theorem NdCap.keep {w w' : World} {a : Option Addr} {N : List Nd} (h : NdCap w a N) (hn : NdCells w a N) (hb : Below w.heap.size w w') : NdCap w' a N := fun i hi b off xa m xc ha hc => by
 obtain ⟨b2, off2, e, _, _, xa2, xc2, c2, _, _⟩ := hn i hi;rw [ha] at e;simp only [Option.some.injEq, Addr.mk.injEq, and_true] at e;obtain ⟨rfl, rfl⟩ := e;rw [zaa hb c2] at hc;exact h i hi b off xa m xc ha (by rw [c2, hc])
end Go.Proofs.YtkaojolofaanfaaGreatDoor
