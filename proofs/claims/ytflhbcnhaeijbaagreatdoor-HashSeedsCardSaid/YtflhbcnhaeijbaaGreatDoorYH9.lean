/- Part of the proofs that laws return true for every input, where the tables that the rows list are laid. Texts: CqY, CqZ, Cm. -/
import Derived.Test.YtflhbcnhaeijbaaGreatDoorYH8
import Derived.Test.YtflhbcnhaeijbaaGreatDoorYH6
import Derived.Test.YtflhbcnhaeijbaaGreatDoorYH1
set_option maxHeartbeats 8000000
set_option maxRecDepth 100000
set_option linter.unusedSimpArgs false
set_option linter.unusedVariables false
namespace Cen
def zct (F : List Nc × List Nat) (all : List Cl) : Bool := decide (1 < F.2.length) || (decide (1 < all.length) && decide ((nd (nds F.1) (F.2.getD 0 0 : Nat)).kind = 2))
def capF (F : List Nc × List Nat) (all : List Cl) : List Nc :=
 if zct F all then F.1 ++ [⟨⟨3, 0, zag F.2⟩, some (all, [])⟩] else F.1.set (F.1.length - 1) ⟨nd (nds F.1) (F.1.length - 1 : Nat), some (all, [])⟩
def zao (ch : List Cl -> Int) (cache : Bool) (all : List Cl) : List Nc × List Nat := fitF ch cache (card (zaf all) + 1) [] all []
def zae (ch : List Cl -> Int) (cache : Bool) (n : Nat) (t : List Cl) : List Nc :=
 if zab n t = [] then [⟨⟨1, 0, []⟩, some ([], [])⟩] else capF (zao ch cache (zab n t)) (zab n t)
theorem zmt {n : Nat} {t : List Cl} : RT n t (zab n t) [] := ⟨gT.nil n, fun d hd => by
 obtain ⟨c, hc, ht, rfl⟩ := zc4.1 hd;obtain ⟨j, hj, rfl⟩ := List.getElem_of_mem hc
 have e : t.getD j [] = t[j] := by rw [List.getD_eq_getElem?_getD, List.getElem?_eq_getElem hj]; rfl
 refine ⟨(j : Int), j, hj, rfl, by rw [e]; exact ht, by simp, ?_⟩
 rw [e, List.filter_eq_self.2 (fun y _ => by simp)]⟩
theorem zbx (n : Nat) (t : List Cl) : (zab n t).length <= t.length := by
 unfold zab;refine Nat.le_trans (za9 _) ?_;rw [List.length_map]; exact List.length_filter_le _ _
structure Core (ch : List Cl -> Int) (n : Nat) (t : List Cl) (cache : Bool) (all : List Cl) (F : List Nc × List Nat) : Prop where
 inv : InvR ch (RT n t) cache n F.1
 fit : Fit F.1 all F.2
 few : F.1.countP zbg <= FB (card (zaf all))
 use : ∀ i c, F.1[i]? = some c -> UsdC F.1 i c \/ (i ∈ F.2 /\ c.nd.kind ≠ 3)
 one : ∀ i, F.2 = [i] -> i + 1 = F.1.length
theorem ziv {cache : Bool} {l : List Cl} {term : Cl} {mk : List Nc -> List Nc × Nd} : (zam cache [] l term mk).2 + 1 = (zam cache [] l term mk).1.length := by
 unfold zam
 have : (if cache = true then ([] : List Nc).findIdx? (zbm l) else none) = none := by cases cache <;> rfl
 rw [this]; simp
theorem zgt : ∀ (f : Nat) (u : Us), u.ins.length <= (zap f u).ins.length /\ ((zap f u).ins.length = u.ins.length -> zap f u = u)
 | 0, u => ⟨Nat.le_refl _, fun _ => rfl⟩
 | f + 1, ⟨st, l, term, ins⟩ => by
   match l with
   | [x] :: l =>
     have h := zgt f ⟨(litF st x).1, zai ([x] :: l) x, term ++ [x], ins ++ [(litF st x).2]⟩;have e : zap (f + 1) ⟨st, [x] :: l, term, ins⟩ = zap f ⟨(litF st x).1, zai ([x] :: l) x, term ++ [x], ins ++ [(litF st x).2]⟩ := rfl;rw [e];have h1 := h.1;simp only [List.length_append, List.length_cons, List.length_nil] at h1;exact ⟨by simp only; omega, fun h => by simp only at h; omega⟩
   | [] => exact ⟨Nat.le_refl _, fun _ => rfl⟩
   | [] :: l => exact ⟨Nat.le_refl _, fun _ => rfl⟩
   | (x :: y :: c) :: l => exact ⟨Nat.le_refl _, fun _ => rfl⟩
theorem zqb (f : Nat) (l : List Cl) (term : Cl) {i : Nat} (h : (zap f ⟨[], l, term, []⟩).ins = [i]) : i + 1 = (zap f ⟨[], l, term, []⟩).st.length := by
 match f, l with
 | 0, l => simp [zap] at h
 | f + 1, [x] :: l =>
   have e : zap (f + 1) ⟨[], [x] :: l, term, []⟩ = zap f ⟨(litF [] x).1, zai ([x] :: l) x, term ++ [x], [] ++ [(litF [] x).2]⟩ := rfl;rw [e] at h ⊢;have h1 := (zgt f ⟨(litF [] x).1, zai ([x] :: l) x, term ++ [x], [] ++ [(litF [] x).2]⟩).2 (by rw [h]; rfl);rw [h1] at h ⊢;simp only [List.nil_append, List.cons.injEq, and_true] at h;rw [<- h]; rfl
 | f + 1, [] => simp [zap] at h
 | f + 1, [] :: l => simp [zap] at h
 | f + 1, (x :: y :: c) :: l => simp [zap] at h
theorem zgn (cache : Bool) (dec : List Nc -> List Cl -> List Nc × Nd) (term : Cl) : ∀ (ps : List (List Cl)) (acc : List Nc × List Nat), (za6 cache dec term ps acc).2.length = acc.2.length + ps.length
 | [], acc => rfl
 | p :: ps, acc => by
   have e : za6 cache dec term (p :: ps) acc = za6 cache dec term ps ((zam cache acc.1 p term fun s => dec s p).1, acc.2 ++ [(zam cache acc.1 p term fun s => dec s p).2]) := rfl;rw [e, zgn cache dec term ps]; simp; omega
theorem ztg (ch : List Cl -> Int) (cache : Bool) (f : Nat) (l : List Cl) (term : Cl) {i : Nat} (h : (fitF ch cache (f + 1) [] l term).2 = [i]) : i + 1 = (fitF ch cache (f + 1) [] l term).1.length := by
 rw [fitF] at h ⊢;have hU1 := zqb l.length l term (i := i);have hU2 := (zgt l.length ⟨[], l, term, []⟩).2;generalize zap l.length ⟨[], l, term, []⟩ = U at *
 split at h
 ·rename_i he
  rw [if_pos he]
  have h0 : U.ins = [] := by
   simpa using congrArg List.length h
  have hU := hU2 (by simp [h0]);rw [h0] at h;simp only [List.nil_append, List.cons.injEq, and_true] at h;rw [<- h];rw [hU];exact ziv
 rename_i he
 rw [if_neg he];have hl := zgn cache (fun s part => zau (fitF ch cache f) ch s part U.term) U.term (zaj U.l) (U.st, U.ins);rw [h] at hl;simp only [List.length_cons, List.length_nil] at hl
 rcases hs : zaj U.l with _ | ⟨q, qs⟩
 ·rw [hs] at h;exact hU1 h
 rw [hs] at hl h;simp only [List.length_cons] at hl;have h0 : U.ins = [] := List.eq_nil_of_length_eq_zero (by omega);have hq : qs = [] := List.eq_nil_of_length_eq_zero (by omega);have hU := hU2 (by simp [h0]);subst hq;have e : za6 cache (fun s part => zau (fitF ch cache f) ch s part U.term) U.term [q] (U.st, U.ins) = ((zam cache U.st q U.term fun s => zau (fitF ch cache f) ch s q U.term).1, U.ins ++ [(zam cache U.st q U.term fun s => zau (fitF ch cache f) ch s q U.term).2]) := rfl;rw [e] at h ⊢;rw [h0] at h;simp only [List.nil_append, List.cons.injEq, and_true] at h;rw [<- h]
 have e2 : U.st = [] := by rw [hU]
 rw [e2];exact ziv
theorem core {ch : List Cl -> Int} {n : Nat} (hn : n <= 128) (hch : Chooses ch n) {t : List Cl} (ht : tOk n t) (cache : Bool) : Core ch n t cache (zab n t) (zao ch cache (zab n t)) := by
 have hg := za2 hn ht.rg;obtain ⟨r, h1, h2, h3, h4, h5⟩ := zdl (R := RT n t) (cache := cache) hn (zbt hn t) hch (card (zaf (zab n t)) + 1) [] (zab n t) [] ⟨Inv.nil n, fun i c l t h => by simp at h, fun i j x ⟨c, h, _⟩ => by simp at h, fun _ i j l ⟨c, t, h, _⟩ => by simp at h⟩ hg zmt (Nat.lt_succ_self _);obtain ⟨q, k1, k2⟩ := zma ch cache (card (zaf (zab n t)) + 1) [] (zab n t) [];rw [List.nil_append] at h1 h2 h3 k1 k2;unfold zao
 exact ⟨by rw [h1]; exact h2, by rw [h1]; exact h3, by rw [h1]; exact h4, fun i c hc => by
  rw [k1] at hc ⊢; exact k2 i c (Nat.zero_le _) hc, fun i hi => ztg ch cache _ _ _ hi⟩
theorem Fit.ne {st : List Nc} {l : List Cl} {ins : List Nat} (h : Fit st l ins) (hl : l ≠ []) : ins ≠ [] := by
 cases h with
 | unit a b => simp
 | bad a b => simp
 | parts a b c =>
   intro e;subst e;have h0 : zaj l = [] := List.eq_nil_of_length_eq_zero (by simpa using b.symm)
   cases l with
   | nil => exact hl rfl
   | cons d m =>
     obtain ⟨p, hp, _⟩ := zci.2 (List.mem_cons_self : d ∈ d :: m);rw [h0] at hp; simp at hp
theorem Fit.kind {ch : List Cl -> Int} {n : Nat} {st : List Nc} (hi : Inv ch n st) {l : List Cl} {ins : List Nat} (h : Fit st l ins) : ∀ j ∈ ins, ∃ c, st[j]? = some c /\ c.nd.kind ≠ 3 := by
 induction h with
 | unit a _ ih =>
   intro j hj
   rcases List.mem_cons.1 hj with rfl | hj
   ·obtain ⟨c, hc, e⟩ := a; exact ⟨c, hc, by rw [e]; simp⟩
   exact ih j hj
 | bad a b => intro j hj; simp at hj; subst hj; obtain ⟨c, hc, e⟩ := b; exact ⟨c, hc, by rw [e]; simp⟩
 | @parts l ins a b c =>
   intro j hj;obtain ⟨k, hk, rfl⟩ := List.getElem_of_mem hj;obtain ⟨_, d, hd, e⟩ := c k hk
   have e1 : ins.getD k 0 = ins[k] := by rw [List.getD_eq_getElem?_getD, List.getElem?_eq_getElem hk]; rfl
   rw [e1] at hd;exact ⟨d, hd, by rw [e]; simp⟩
theorem zrp {ch : List Cl -> Int} {n : Nat} {st : List Nc} (hi : Inv ch n st) {j : Nat} {c : Nc} (hc : st[j]? = some c) (hk : c.nd.kind = 3) : ∀ d ∈ st, (j : Int) ∈ d.nd.ins -> d.nd.kind ≠ 3 := by
 intro d hd hm h3;obtain ⟨i, hi', rfl⟩ := List.getElem_of_mem hd;have hf := hi i _ (List.getElem?_eq_getElem hi');generalize st[i] = d at *
 cases hf with
 | lit a b => simp at h3
 | bad a => simp at h3
 | dec => simp at h3
 | @and l x k ins a b c' d' e f =>
   simp only [zag, List.mem_map] at hm;obtain ⟨m, hm, e'⟩ := hm
   have : m = j := by omega
   subst this
   rcases List.mem_cons.1 hm with rfl | hm
   ·obtain ⟨y, hy, ey⟩ := d';rw [hc] at hy; simp at hy; subst hy;rw [ey] at hk; simp at hk
   obtain ⟨y, hy, ey⟩ := f.kind hi m hm;rw [hc] at hy; simp at hy; subst hy;exact ey hk
theorem zfi {ch : List Cl -> Int} {n : Nat} {st : List Nc} (hi : Inv ch n st) {i : Nat} {l : List Cl} (h : tagged st i l) : gL n l /\ l ≠ [] := by
 obtain ⟨c, t, hc, e⟩ := h;have hf := hi i c hc
 cases hf with
 | lit a b => rw [b] at e; simp at e
 | bad a => simp at e; rw [<- e.1]; exact ⟨a, by simp⟩
 | dec a b => simp at e; rw [<- e.1]; exact ⟨a, b⟩
 | and => simp at e
theorem zfu {N : List Nd} {j k : Int} {x : Nd} (hx : x ∈ N) (hm : j ∈ x.ins) (hk : x.kind = k) : zbh N j k = true := by
 unfold zbh;rw [List.any_eq_true];exact ⟨x, hx, by rw [hk]; simp only [decide_true, Bool.and_true, List.any_eq_true, decide_eq_true_eq]; exact ⟨j, hm, rfl⟩⟩
theorem zgg {N : List Nd} {j k : Int} : zbh N j k = true ↔ ∃ x ∈ N, j ∈ x.ins /\ x.kind = k := by
 unfold zbh;rw [List.any_eq_true]
 constructor
 ·rintro ⟨x, hx, h⟩;simp only [Bool.and_eq_true, List.any_eq_true, decide_eq_true_eq] at h;obtain ⟨⟨y, hy, rfl⟩, h⟩ := h;exact ⟨x, hx, hy, h⟩
 rintro ⟨x, hx, hm, hk⟩;have := zfu hx hm hk;unfold zbh at this;rw [List.any_eq_true] at this;exact this
theorem zkc {ch : List Cl -> Int} {p : Prf} {st : List Nc} (hn : p.n <= 128) (hnd : ∀ (i : Nat) (c : Nc), st[i]? = some c -> nd p.N (i : Int) = c.nd) (hres : ∀ (i : Nat) (l : List Cl), tagged st i l -> p.res (i : Int) = some l) (hinv : Inv ch p.n st) (hlen : ∀ i l, tagged st i l -> l.length <= 4096)
 (hmem : ∀ c ∈ st, c.nd ∈ p.N) {j : Nat} {c : Nc} (hc : st[j]? = some c) (hj : j + 1 ≠ p.N.length) (hno : c.nd.kind = 3 -> zbh p.N j 3 = false) (hu : UsdC st j c \/ (zbh p.N j 3 = true /\ c.nd.kind ≠ 3)) : p.node j := by
 have hndj := hnd j c hc
 have hus : ∀ k, usedBy st j k -> zbh p.N j k = true := fun k ⟨d, hd, h1, h2⟩ => zfu (hmem d hd) h1 h2
 have hneed : zgm p.N j = (decide (c.nd.kind ≠ 2) && zbh p.N j 3) := by
  unfold zgm;rw [hndj, decide_eq_false hj, Bool.false_or]
 have hf := hinv j c hc
 cases hf with
 | @lit x t a b =>
   refine ⟨.inr (.inl (by rw [hndj])), fun h => ?_⟩;rw [hneed] at h; simp at h
 | @bad l t a =>
   have h3 : zbh p.N j 3 = true := by
    rcases hu with (h | ⟨h, _⟩ | h) | ⟨h, _⟩
    ·simp at h
    ·simp at h
    ·exact hus _ h
    exact h
   have htag : tagged st j ([] :: l) := ⟨_, t, hc, rfl⟩
   refine ⟨.inl (by rw [hneed, h3]; simp), fun _ => ⟨_, hres _ _ htag, ?_, fun h => absurd h hj⟩⟩;unfold Prf.acc; rw [hndj]; simp [za7]
 | @dec l t a b g1 g2 g3 g4 g5 g6 g7 g8 s1 s2 =>
   have h3 : zbh p.N j 3 = true := by
    rcases hu with (h | ⟨h, _⟩ | h) | ⟨h, _⟩
    ·simp at h
    ·simp at h
    ·exact hus _ h
    exact h
   have htag : tagged st j l := ⟨_, t, hc, rfl⟩
   have hl := hlen _ _ htag;refine ⟨.inl (by rw [hneed, h3]; simp), fun _ => ⟨_, hres _ _ htag, ?_, fun h => absurd h hj⟩⟩;unfold Prf.acc; rw [hndj];simp only [show ¬ ((4 : Int) = 1) by decide, show ¬ ((4 : Int) = 0) by decide, show ¬ ((4 : Int) = 2) by decide, show ¬ ((4 : Int) = 3) by decide, if_false, List.length_cons, List.length_nil, Bool.and_eq_true, decide_eq_true_eq, List.any_eq_true, List.mem_range];refine ⟨trivial, (ch l - 1).toNat, by omega, ?_⟩;rw [show (((ch l - 1).toNat : Nat) : Int) + 1 = ch l by omega];unfold Prf.onv
   have hv : (zbs p.n l).mem (ch l) = true := by unfold zbs; rw [if_pos ((zix hn).2 (gL.ok hn g1.gc hl))]; exact g6
   have e1 := zle hn hnd hres s1 g1 hl;have e2 := zle hn hnd hres s2 g1 hl
   show ((zbs p.n l).mem (ch l) && ((p.side l (a : Int) (ch l) && p.side l (b : Int) (-ch l)) || (p.side l (a : Int) (-ch l) && p.side l (b : Int) (ch l)))) = true
   rw [hv, e1, e2]; simp
 | @and l x k ins a b c' d e f =>
   have h3 := hno rfl;refine ⟨.inr (.inr ⟨by rw [hndj], ?_⟩), fun h => by rw [hneed, h3] at h; simp at h⟩
   rcases hu with (h | ⟨_, h⟩ | h) | ⟨h, _⟩
   ·simp at h
   ·exact hus _ h
   ·have := hus _ h; rw [h3] at this; simp at this
   rw [h3] at h; simp at h
theorem zpr (st r : List Nc) : nds (st ++ r) = nds st ++ nds r := by simp [nds]
theorem za5 (st : List Nc) : (nds st).length = st.length := by simp [nds]
theorem zed {st : List Nc} {k : Nat} {tg : Option (List Cl × Cl)} : nds (st.set k ⟨nd (nds st) (k : Nat), tg⟩) = nds st := by
 apply List.ext_getElem
 ·simp [nds]
 intro i h1 h2
 have h3 : i < st.length := by rw [za5] at h2; exact h2
 simp only [nds, List.getElem_map, List.getElem_set]
 split
 ·rename_i e
  subst e;exact zdh (List.getElem?_eq_getElem h3)
 rfl
theorem zo5 {ch : List Cl -> Int} {n : Nat} {t : List Cl} {cache : Bool} {all : List Cl} {F : List Nc × List Nat} (hC : Core ch n t cache all F) (hg : gL n all) (hne : all ≠ []) (hr : zct F all = false) :
 ∃ i c, F.2 = [i] /\ i + 1 = F.1.length /\ F.1[i]? = some c /\ ((∃ x, all = [[x]] /\ c.nd = ⟨2, x, []⟩ /\ c.tag = none) \/ (∃ tm, c.tag = some (all, tm) /\ ((c.nd = ⟨0, 0, []⟩ /\ za7 all = true) \/ c.nd.kind = 4))) := by
 unfold zct at hr;simp only [Bool.or_eq_false_iff, Bool.and_eq_false_iff, decide_eq_false_iff_not] at hr;obtain ⟨h1, h2⟩ := hr;have h0 := hC.fit.ne hne
 obtain ⟨i, hi⟩ : ∃ i, F.2 = [i] := by
  rcases hF : F.2 with _ | ⟨i, _ | ⟨j, l⟩⟩
  ·exact absurd hF h0
  ·exact ⟨i, rfl⟩
  rw [hF] at h1; simp at h1
 have hil := hC.one i hi;have hfit := hC.fit;rw [hi] at hfit;have hc : F.1[i]? = some (F.1[i]'(by omega)) := List.getElem?_eq_getElem _;refine ⟨i, _, hi, hil, hc, ?_⟩;generalize F.1[i]'(by omega) = c at *;have hform := hC.inv.inv i c hc;rw [hi, show ([i] : List Nat).getD 0 0 = i from rfl, zdh hc] at h2
 cases hfit with
 | @unit x l _ _ a b =>
   left
   obtain ⟨d, hd, e⟩ := a;rw [hc] at hd; simp at hd; subst hd
   have hl : l = [] := by
    rcases h2 with h2 | h2
    ·exact List.eq_nil_of_length_eq_zero (by simp only [List.length_cons] at h2; omega)
    rw [e] at h2; simp at h2
   subst hl;refine ⟨x, rfl, e, ?_⟩;obtain ⟨nd', tg⟩ := c;simp only at e;subst e
   cases hform with
   | lit a b => exact b
 | @bad l _ a b =>
   right
   obtain ⟨d, tm, hd, e⟩ := a;rw [hc] at hd; simp at hd; subst hd;obtain ⟨d', hd', e'⟩ := b;rw [hc] at hd'; simp at hd'; subst hd';exact ⟨tm, e, .inl ⟨e', rfl⟩⟩
 | @parts _ _ a b c' =>
   right
   have hk := c' 0 (by simp);rw [show ([i] : List Nat).getD 0 0 = i from rfl] at hk;obtain ⟨⟨d, tm, hd, e⟩, d', hd', e'⟩ := hk;rw [hc] at hd hd'; simp at hd hd'; subst hd; 
   obtain ⟨q, hq⟩ : ∃ q, zaj all = [q] := by
    rcases hS : zaj all with _ | ⟨q, _ | ⟨q', qs⟩⟩
    ·rw [hS] at b; simp at b
    ·exact ⟨q, rfl⟩
    rw [hS] at b; simp at b
   have hqa : q = all := by
    have hqm : q ∈ zaj all := by rw [hq]; simp
    refine zbq (fun _ _ => zb7) (zcx hg.gc hqm).1.so hg.so fun d => ?_
    constructor
    ·intro h; exact (zcx hg.gc hqm).2.2 d h
    intro h;obtain ⟨q', hq', hd⟩ := zci.2 h;rw [hq] at hq'; simp at hq'; subst hq'; exact hd
   rw [hq] at e;refine ⟨tm, by rw [e, <- hqa]; rfl, .inr (by rw [hd']; exact e')⟩
theorem zm2 {n : Nat} (hn : n <= 128) {l : List Cl} (hg : ∀ c ∈ l, ∀ x ∈ c, litN n x) : card (zaf l) <= n := zvy hn fun v hv hm => by
 obtain ⟨c, hc, h⟩ := za8.1 hm;obtain ⟨h1, y, hy, rfl⟩ := zdr.1 h;exact ((hg c hc y hy).ok hn).2
theorem zox {ch : List Cl -> Int} {R : List Cl -> Cl -> Prop} {n : Nat} {cache : Bool} {st : List Nc} (hi : InvR ch R cache n st) : st.length <= st.countP zbg + 2 * n := by
 have h1 : st.length = st.countP zbg + st.countP (fun c => !zbg c) := by
  have := List.length_eq_countP_add_countP zbg (l := st);rw [this]; congr 1
  apply List.countP_congr; intro c _; simp
 have h2 : (st.filter fun c => !zbg c).length <= 2 * n := by
  have hnod : (((st.filter fun c => !zbg c).map fun c => c.nd.lit)).Nodup := by
   show List.Pairwise _ _
   rw [List.pairwise_map, List.pairwise_filter];rw [List.pairwise_iff_getElem];intro i j hi' hj' hij h1 h2 e;have a1 := hi.inv i _ (List.getElem?_eq_getElem hi');have a2 := hi.inv j _ (List.getElem?_eq_getElem hj')
   have b1 : isLit st i st[i].nd.lit := ⟨_, List.getElem?_eq_getElem hi', by
    generalize st[i] = c at *;unfold zbg at h1
    cases a1 <;> simp at h1 ⊢⟩
   have b2 : isLit st j st[i].nd.lit := ⟨_, List.getElem?_eq_getElem hj', by
    rw [e];generalize st[j] = c at *;unfold zbg at h2
    cases a2 <;> simp at h2 ⊢⟩
   have := hi.dl i j _ b1 b2;omega
  have hz : ∀ c ∈ st.filter fun c => !zbg c, c.nd.lit ≠ 0 := fun c hc => by
   rw [List.mem_filter] at hc;obtain ⟨k, hk, rfl⟩ := List.getElem_of_mem hc.1;have a := hi.inv k _ (List.getElem?_eq_getElem hk);have hb := hc.2;generalize st[k] = c at *;unfold zbg at hb
   cases a with
   | lit a b => exact a.1
   | bad a => simp at hb
   | dec => simp at hb
   | and => simp at hb
  have : (0 :: ((st.filter fun c => !zbg c).map fun c => c.nd.lit)).Nodup := by
   rw [List.nodup_cons];exact ⟨fun h => by obtain ⟨c, hc, e⟩ := List.mem_map.1 h; exact hz c hc e, hnod⟩
  have hl2 : ((0 :: ((st.filter fun c => !zbg c).map fun c => c.nd.lit)).map fun (y : Int) => y + n).length <= 2 * n + 1 := by
   refine zcj ?_ fun y hy => ?_
   ·show List.Pairwise _ _
    have h3 : List.Pairwise _ _ := this;rw [List.pairwise_map]
    exact h3.imp fun h e => h (by omega)
   obtain ⟨z, hz', rfl⟩ := List.mem_map.1 hy
   rcases List.mem_cons.1 hz' with rfl | hz'
   ·omega
   obtain ⟨c, hc, rfl⟩ := List.mem_map.1 hz';rw [List.mem_filter] at hc;obtain ⟨k, hk, rfl⟩ := List.getElem_of_mem hc.1;have a := hi.inv k _ (List.getElem?_eq_getElem hk);have hb := hc.2;generalize st[k] = c at *;unfold zbg at hb
   cases a with
   | lit a b => have := a.2; simp only; omega
   | bad a => simp at hb
   | dec => simp at hb
   | and => simp at hb
  simp at hl2
  simp
  omega
 rw [List.countP_eq_length_filter (p := fun c => !zbg c)] at h1;omega
section
variable {ch : List Cl -> Int} {n : Nat} {t : List Cl} {cache : Bool}
theorem zbf (h : zab n t = []) : zae ch cache n t = [⟨⟨1, 0, []⟩, some ([], [])⟩] := by unfold zae; rw [if_pos h]
theorem zce (h : zab n t ≠ []) (hr : zct (zao ch cache (zab n t)) (zab n t) = true) :
 zae ch cache n t = (zao ch cache (zab n t)).1 ++ [⟨⟨3, 0, zag (zao ch cache (zab n t)).2⟩, some (zab n t, [])⟩] := by
 unfold zae capF; rw [if_neg h, if_pos hr]
theorem zcf (h : zab n t ≠ []) (hr : zct (zao ch cache (zab n t)) (zab n t) = false) :
 zae ch cache n t = (zao ch cache (zab n t)).1.set ((zao ch cache (zab n t)).1.length - 1) ⟨nd (nds (zao ch cache (zab n t)).1) ((zao ch cache (zab n t)).1.length - 1 : Nat), some (zab n t, [])⟩ := by
 unfold zae capF; rw [if_neg h, if_neg (by simp [hr])]
theorem zk8 (h : zab n t ≠ []) (hr : zct (zao ch cache (zab n t)) (zab n t) = true) :
 nds (zae ch cache n t) = nds (zao ch cache (zab n t)).1 ++ [⟨3, 0, zag (zao ch cache (zab n t)).2⟩] := by
 rw [zce h hr, zpr]; rfl
theorem zk9 (h : zab n t ≠ []) (hr : zct (zao ch cache (zab n t)) (zab n t) = false) :
 nds (zae ch cache n t) = nds (zao ch cache (zab n t)).1 := by
 rw [zcf h hr, zed]
theorem zqv (hn : n <= 128) (hch : Chooses ch n) (ht : tOk n t) {p : Prf} (hpn : p.n = n) (hpt : p.t = t) (hpN : p.N = nds (zae ch cache n t))
 (hpC : ∀ (i : Nat) (c : Nc) (l : List Cl) (term : Cl), (zae ch cache n t)[i]? = some c -> c.tag = some (l, term) -> ∃ a, p.C.getD i ⟨[], []⟩ = ⟨term, a⟩ /\ ClOf n t l term a) : ∀ i, i < p.N.length -> p.node i := by
 obtain ⟨pn, pt, pN, pC⟩ := p;simp only at hpn hpt hpN hpC;subst hpn; subst hpt; subst hpN;have hg := za2 hn ht.rg;have hal : (zab pn pt).length <= 4096 := Nat.le_trans (zbx pn pt) ht.len
 have hres0 : ∀ (i : Nat) (c : Nc) (l : List Cl) (term : Cl), (zae ch cache pn pt)[i]? = some c -> c.tag = some (l, term) -> gL pn l -> gT pn term -> Prf.res ⟨pn, pt, nds (zae ch cache pn pt), pC⟩ i = some l := fun i c l term hc htag hgl hgt => by
  obtain ⟨a, h1, h2⟩ := hpC i c l term hc htag;unfold Prf.res;simp only [Int.toNat_natCast];rw [h1];exact zxf hn ht.rg hgl hgt h2
 by_cases h0 : zab pn pt = []
 ·have hN : nds (zae ch cache pn pt) = [⟨1, 0, []⟩] := by rw [zbf h0]; rfl
  have hr0 := hres0 0 ⟨⟨1, 0, []⟩, some ([], [])⟩ [] [] (by rw [zbf h0]; rfl) rfl (by rw [<- h0]; exact hg) (gT.nil pn);intro i hi;simp only at hi;rw [hN] at hi hr0 ⊢
  have : i = 0 := by simpa using hi
  subst this;refine ⟨.inl (by simp [zgm]), fun _ => ⟨[], hr0, ?_, fun _ => h0.symm⟩⟩;unfold Prf.acc
  simp [nd]
 have hC := core hn hch ht cache
 have htg : ∀ i l, tagged (zao ch cache (zab pn pt)).1 i l -> gL pn l /\ l ≠ [] := fun i l h => zfi hC.inv.inv h
 have hlen : ∀ i l, tagged (zao ch cache (zab pn pt)).1 i l -> l.length <= 4096 := fun i l ⟨c, tm, hc, e⟩ => by
  obtain ⟨_, hR⟩ := hC.inv.tg i c l tm hc e;have hgl := (htg i l ⟨c, tm, hc, e⟩).1
  have hex : ∀ c ∈ l, ∃ j : Nat, j < pt.length /\ Left1 pn pt tm j c := fun c hc => by
   obtain ⟨i, hi⟩ := hR c hc;obtain ⟨j, hj, e, r⟩ := hi;exact ⟨j, hj, by subst e; exact ⟨j, hj, rfl, r⟩⟩
  have : l.length <= pt.length := by
   have hch : ∀ c : Cl, ∃ j : Nat, c ∈ l -> j < pt.length /\ Left1 pn pt tm j c := fun c => by
    by_cases h : c ∈ l
    ·obtain ⟨j, h1, h2⟩ := hex c h; exact ⟨j, fun _ => ⟨h1, h2⟩⟩
    exact ⟨0, fun h' => absurd h' h⟩
   obtain ⟨f, hf⟩ := Classical.axiomOfChoice hch
   have := zcj (l := l.map fun c => (f c : Int)) (b := pt.length) (by
    show List.Pairwise _ _
    rw [List.pairwise_map];refine List.Pairwise.imp_of_mem (fun {a b} ha hb hab e => ?_) hgl.so
    have e' : f a = f b := by omega
    have h1 := (hf a ha).2;rw [e'] at h1;have := h1.fun (hf b hb).2;subst this
    exact zeq _ hab) (fun y hy => by
    obtain ⟨c, hc, rfl⟩ := List.mem_map.1 hy;have := (hf c hc).1
    omega)
   simpa using this
  exact Nat.le_trans this ht.len
 have hRT : ∀ (i : Nat) (c : Nc) (l : List Cl) (tm : Cl), (zao ch cache (zab pn pt)).1[i]? = some c -> c.tag = some (l, tm) -> gT pn tm := fun i c l tm hc e => (hC.inv.tg i c l tm hc e).1
 cases hr : zct (zao ch cache (zab pn pt)) (zab pn pt) with
 | true =>
   have hN := zk8 (ch := ch) (cache := cache) h0 hr;have hF := zce (ch := ch) (cache := cache) h0 hr
   have hnd : ∀ (i : Nat) (c : Nc), (zao ch cache (zab pn pt)).1[i]? = some c -> nd (nds (zae ch cache pn pt)) i = c.nd := fun i c hc => by
    rw [hN, zro (by omega) (by rw [za5]; have := zb8 hc; omega), zdh hc]
   have hres : ∀ (i : Nat) (l : List Cl), tagged (zao ch cache (zab pn pt)).1 i l -> Prf.res ⟨pn, pt, nds (zae ch cache pn pt), pC⟩ i = some l := fun i l ⟨c, tm, hc, e⟩ =>
    hres0 i c l tm (by rw [hF]; exact zdw hc) e (htg i l ⟨c, tm, hc, e⟩).1 (hRT i c l tm hc e)
   have hmem : ∀ c ∈ (zao ch cache (zab pn pt)).1, c.nd ∈ nds (zae ch cache pn pt) := fun c hc => by
    rw [hN]; exact List.mem_append_left _ (List.mem_map.2 ⟨c, hc, rfl⟩)
   intro i hi;simp only at hi
   have hNl : (nds (zae ch cache pn pt)).length = (zao ch cache (zab pn pt)).1.length + 1 := by rw [hN]; simp [za5]
   rcases Nat.lt_or_ge i (zao ch cache (zab pn pt)).1.length with hlt | hge
   ·have hc : (zao ch cache (zab pn pt)).1[i]? = some (zao ch cache (zab pn pt)).1[i] := List.getElem?_eq_getElem hlt;refine zkc (ch := ch) hn hnd hres hC.inv.inv hlen hmem hc (by simp only; omega) (fun hk => ?_) ?_
    ·cases hb : zbh (nds (zae ch cache pn pt)) i 3 with
     | false => rfl
     | true =>
       exfalso
       obtain ⟨x, hx, hm, hk3⟩ := zgg.1 hb;rw [hN] at hx
       rcases List.mem_append.1 hx with hx | hx
       ·obtain ⟨d, hd, rfl⟩ := List.mem_map.1 hx;exact zrp hC.inv.inv hc hk d hd hm hk3
       simp at hx; subst hx;simp only [zag, List.mem_map] at hm;obtain ⟨m, hm, e⟩ := hm
       have : m = i := by omega
       subst this;obtain ⟨y, hy, ey⟩ := hC.fit.kind hC.inv.inv m hm;rw [hc] at hy; simp at hy; subst hy;exact ey hk
    rcases hC.use i _ hc with h | ⟨h1, h2⟩
    ·exact .inl h
    refine .inr ⟨zfu (x := ⟨3, 0, zag (zao ch cache (zab pn pt)).2⟩) (by simp only; rw [hN]; simp) ?_ rfl, h2⟩;simp only [zag, List.mem_map];exact ⟨i, h1, rfl⟩
   have hi2 : i = (zao ch cache (zab pn pt)).1.length := by omega
   subst hi2
   have hx : nd (nds (zae ch cache pn pt)) ((zao ch cache (zab pn pt)).1.length : Nat) = ⟨3, 0, zag (zao ch cache (zab pn pt)).2⟩ := by
    rw [hN]; unfold nd
    simp [List.getD_eq_getElem?_getD, za5, nds]
   have hr1 := hres0 (zao ch cache (zab pn pt)).1.length ⟨⟨3, 0, zag (zao ch cache (zab pn pt)).2⟩, some (zab pn pt, [])⟩ (zab pn pt) [] (by rw [hF]; simp) rfl hg (gT.nil pn);refine ⟨.inl (by unfold zgm; simp only; rw [hNl]; simp), fun _ => ⟨_, hr1, ?_, fun _ => rfl⟩⟩;unfold Prf.acc;simp only [hx];simp only [show ¬ ((3 : Int) = 1) by decide, show ¬ ((3 : Int) = 0) by decide, show ¬ ((3 : Int) = 2) by decide, if_false, if_true];exact zu9 hn hnd hres hC.fit hg hal
 | false =>
   have hN := zk9 (ch := ch) (cache := cache) h0 hr;have hF := zcf (ch := ch) (cache := cache) h0 hr;obtain ⟨k, d, hF2, hk, hd, hend⟩ := zo5 hC hg h0 hr
   have hnd : ∀ (i : Nat) (c : Nc), (zao ch cache (zab pn pt)).1[i]? = some c -> nd (nds (zae ch cache pn pt)) i = c.nd := fun i c hc => by
    rw [hN, zdh hc]
   have hk1 : (zao ch cache (zab pn pt)).1.length - 1 = k := by omega
   have hroot : (zae ch cache pn pt)[k]? = some ⟨d.nd, some (zab pn pt, [])⟩ := by
    rw [hF, hk1, zdh hd, List.getElem?_set]; simp; omega
   have hr1 := hres0 k _ (zab pn pt) [] hroot rfl hg (gT.nil pn)
   have hres : ∀ (i : Nat) (l : List Cl), tagged (zao ch cache (zab pn pt)).1 i l -> Prf.res ⟨pn, pt, nds (zae ch cache pn pt), pC⟩ i = some l := fun i l ⟨c, tm, hc, e⟩ => by
    by_cases hik : i = k
    ·subst hik;rw [hd] at hc; simp at hc; subst hc
     rcases hend with ⟨x, _, _, h3⟩ | ⟨tm', h3, _⟩
     ·rw [h3] at e; simp at e
     rw [h3] at e; simp at e; rw [<- e.1]; exact hr1
    refine hres0 i c l tm ?_ e (htg i l ⟨c, tm, hc, e⟩).1 (hRT i c l tm hc e);rw [hF, hk1, List.getElem?_set_ne (by omega)]; exact hc
   have hmem : ∀ c ∈ (zao ch cache (zab pn pt)).1, c.nd ∈ nds (zae ch cache pn pt) := fun c hc => by
    rw [hN]; exact List.mem_map.2 ⟨c, hc, rfl⟩
   have hNl : (nds (zae ch cache pn pt)).length = (zao ch cache (zab pn pt)).1.length := by rw [hN, za5]
   intro i hi;simp only at hi
   have hlt : i < (zao ch cache (zab pn pt)).1.length := by omega
   have hc : (zao ch cache (zab pn pt)).1[i]? = some (zao ch cache (zab pn pt)).1[i] := List.getElem?_eq_getElem hlt
   by_cases hik : i = k
   ·subst hik;refine ⟨.inl (by unfold zgm; simp only; rw [hNl, hk]; simp), fun _ => ⟨_, hr1, ?_, fun _ => rfl⟩⟩;have hx := hnd i d hd;unfold Prf.acc;simp only [hx]
    rcases hend with ⟨x, h1, h2, _⟩ | ⟨tm, h3, ⟨h1, h2⟩ | h1⟩
    ·rw [h1, h2]; simp [hasU]
    ·rw [h1]; simp [h2]
    have hform := hC.inv.inv i d hd
    cases hform with
    | lit a b => simp at h1
    | bad a => simp at h1
    | and => simp at h1
    | @dec l tt a b g1 g2 g3 g4 g5 g6 g7 g8 s1 s2 =>
      simp only [Option.some.injEq, Prod.mk.injEq] at h3;obtain ⟨rfl, _⟩ := h3;simp only [show ¬ ((4 : Int) = 1) by decide, show ¬ ((4 : Int) = 0) by decide, show ¬ ((4 : Int) = 2) by decide, show ¬ ((4 : Int) = 3) by decide, if_false, List.length_cons, List.length_nil, Bool.and_eq_true, decide_eq_true_eq, List.any_eq_true, List.mem_range];refine ⟨trivial, (ch (zab pn pt) - 1).toNat, by omega, ?_⟩;rw [show (((ch (zab pn pt) - 1).toNat : Nat) : Int) + 1 = ch (zab pn pt) by omega];unfold Prf.onv
      have hv : (zbs pn (zab pn pt)).mem (ch (zab pn pt)) = true := by unfold zbs; rw [if_pos ((zix hn).2 (gL.ok hn hg.gc hal))]; exact g6
      have e1 := zle (p := ⟨pn, pt, nds (zae ch cache pn pt), pC⟩) hn hnd hres s1 hg hal;have e2 := zle (p := ⟨pn, pt, nds (zae ch cache pn pt), pC⟩) hn hnd hres s2 hg hal
      show ((zbs pn (zab pn pt)).mem (ch (zab pn pt)) && ((Prf.side ⟨pn, pt, nds (zae ch cache pn pt), pC⟩ (zab pn pt) (a : Int) (ch (zab pn pt)) && Prf.side ⟨pn, pt, nds (zae ch cache pn pt), pC⟩ (zab pn pt) (b : Int) (-ch (zab pn pt))) || (Prf.side ⟨pn, pt, nds (zae ch cache pn pt), pC⟩ (zab pn pt) (a : Int) (-ch (zab pn pt)) && Prf.side ⟨pn, pt, nds (zae ch cache pn pt), pC⟩ (zab pn pt) (b : Int) (ch (zab pn pt))))) = true
      rw [hv, e1, e2]; simp
   refine zkc (ch := ch) hn hnd hres hC.inv.inv hlen hmem hc (by simp only; omega) (fun hk3 => ?_) ?_
   ·cases hb : zbh (nds (zae ch cache pn pt)) i 3 with
    | false => rfl
    | true =>
      exfalso
      obtain ⟨x, hx, hm, hk3'⟩ := zgg.1 hb;rw [hN] at hx;obtain ⟨e, he, rfl⟩ := List.mem_map.1 hx;exact zrp hC.inv.inv hc hk3 e he hm hk3'
   rcases hC.use i _ hc with h | ⟨h1, h2⟩
   ·exact .inl h
   rw [hF2] at h1; simp at h1; exact absurd h1 hik
theorem zky (hn : n <= 128) (hch : Chooses ch n) (ht : tOk n t) : (zae ch cache n t).length <= FB (card (zaf (zab n t))) + 2 * n + 1 /\ 1 <= (zae ch cache n t).length := by
 by_cases h0 : zab n t = []
 ·rw [zbf h0]; simp
 have hC := core hn hch ht cache;have h1 := zox hC.inv;have h2 := hC.few
 cases hr : zct (zao ch cache (zab n t)) (zab n t) with
 | true => rw [zce h0 hr]; simp; omega
 | false =>
   have hg := za2 hn ht.rg;obtain ⟨k, d, _, hk, _⟩ := zo5 hC hg h0 hr;rw [zcf h0 hr]; simp; omega
theorem zsw {l : List Nat} {b : Nat} (h : ∀ j ∈ l, j < b) : zhb (zag l) b = true := by
 rw [zdo];intro i hi;simp only [zag, List.mem_map] at hi;obtain ⟨j, hj, rfl⟩ := hi;have := h j hj;omega
theorem zs6 (hn : n <= 128) (hch : Chooses ch n) (ht : tOk n t) : zno (nds (zae ch cache n t)) n (nds (zae ch cache n t)).length := by
 by_cases h0 : zab n t = []
 ·rw [zbf h0];intro j hj
  have : j = 0 := by simpa [nds] using hj
  subst this
  simp [nds, ndOk, zhb, zcr]
 have hC := core hn hch ht cache
 cases hr : zct (zao ch cache (zab n t)) (zab n t) with
 | false => rw [zk9 h0 hr]; exact hC.inv.inv.nds hn
 | true =>
   rw [zk8 h0 hr];intro j hj
   rcases Nat.lt_or_ge j (nds (zao ch cache (zab n t)).1).length with h | h
   ·rw [List.getD_eq_getElem?_getD, List.getElem?_append_left h, <- List.getD_eq_getElem?_getD];exact hC.inv.inv.nds hn j h
   have e : j = (nds (zao ch cache (zab n t)).1).length := by simp at hj; omega
   subst e;rw [List.getD_eq_getElem?_getD, List.getElem?_append_right (Nat.le_refl _)];simp only [Nat.sub_self, List.getElem?_cons_zero, Option.getD_some];unfold ndOk;rw [zsw fun j hj => by rw [za5]; exact hC.fit.lt j hj]
   simp [zcr]
theorem zs7 (hn : n <= 128) (hch : Chooses ch n) (ht : tOk n t) (hl : (zae ch cache n t).length <= 65536) : zdi ⟨n, nds (zae ch cache n t)⟩ = true := by
 have := (zky (cache := cache) hn hch ht).2;unfold zdi zop;simp only [Bool.and_eq_true, decide_eq_true_eq, za5];refine ⟨⟨⟨⟨by omega, by omega⟩, by omega⟩, by omega⟩, ?_⟩;have := zs6 (cache := cache) hn hch ht;rw [za5] at this;exact this
end
end Cen
namespace Go.Proofs.YtflhbcnhaeijbaaGreatDoor
open Go.RowKit Cen
def CmCells (w : World) (a : Option Addr) (C : List Clm) : Prop :=
 ∀ i, i < C.length -> ∃ b off ta tc aa ac, a = some ⟨b, off, none⟩ /\ w.cell? ⟨b, off + i * 2, none⟩ = some (.slice ta (C.getD i ⟨[], []⟩).tm.length tc) /\ w.cell? ⟨b, off + i * 2 + 1, none⟩ = some (.slice aa (C.getD i ⟨[], []⟩).at'.length ac) /\
  IntCells w ta (C.getD i ⟨[], []⟩).tm /\ IntCells w aa (C.getD i ⟨[], []⟩).at'
def NdCap (w : World) (a : Option Addr) (N : List Nd) : Prop := ∀ i, i < N.length -> ∀ b off xa m xc, a = some ⟨b, off, none⟩ -> w.cell? ⟨b, off + i * 3 + 2, none⟩ = some (.slice xa m xc) -> m <= xc
end Go.Proofs.YtflhbcnhaeijbaaGreatDoor
