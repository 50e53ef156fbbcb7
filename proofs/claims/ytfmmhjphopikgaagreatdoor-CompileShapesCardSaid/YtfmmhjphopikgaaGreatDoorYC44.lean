/- Part of the proofs that laws of censuslaw24 return true for every input, where the tables that the rows list are laid. Texts: Ga. -/
import Derived.Test.YtfmmhjphopikgaaGreatDoorYC10
import Derived.Test.YtfmmhjphopikgaaGreatDoorYC7
import Derived.Test.YtfmmhjphopikgaaGreatDoorYC1
set_option maxHeartbeats 8000000
set_option maxRecDepth 100000
set_option linter.unusedSimpArgs false
set_option linter.unusedVariables false
namespace Cen
def BV (N : List Nd) (i : Int) (v : Int) : Prop := ((varsL N).getD i.toNat St.zero).mem v = true
theorem varsL_append_get {l r : List Nd} {i : Nat} (h : i < l.length) : (varsL (l ++ r)).getD i St.zero = (varsL l).getD i St.zero := by
 obtain ⟨us, hu⟩ := varsAcc_prefix r (varsL l)
 have e : varsL (l ++ r) = varsL l ++ us := by rw [<- hu]; exact varsAcc_append l r []
 rw [e, List.getD_eq_getElem?_getD, List.getD_eq_getElem?_getD, List.getElem?_append_left (by rw [varsL_length]; exact h)]
theorem insU_ex (vs : List St) (ins : List Int) (v : Int) : ∀ s : St, (insU vs s ins).mem v = true ↔ s.mem v = true \/ ∃ k ∈ ins, (vs.getD k.toNat St.zero).mem v = true := by
 induction ins with
 | nil => intro s; simp [insU]
 | cons k ins ih =>
   intro s;rw [show insU vs s (k :: ins) = insU vs (s.union (vs.getD k.toNat St.zero)) ins from rfl, ih, St.mem_union, Bool.or_eq_true];simp only [List.mem_cons]
   constructor
   ·rintro ((h | h) | ⟨j, hj, h⟩)
    ·exact .inl h
    ·exact .inr ⟨k, .inl rfl, h⟩
    exact .inr ⟨j, .inr hj, h⟩
   rintro (h | ⟨j, rfl | hj, h⟩)
   ·exact .inl (.inl h)
   ·exact .inl (.inr h)
   exact .inr ⟨j, hj, h⟩
theorem ofL_one (x v : Int) : (ofL [x]).mem v = true ↔ v = x /\ 1 <= x /\ x <= 128 := by
 unfold ofL;simp only [List.foldl_cons, List.foldl_nil, St.mem_add, St.mem_zero, Bool.false_or, Bool.and_eq_true, decide_eq_true_eq, and_assoc]
theorem BV_eq {N : List Nd} {i : Nat} (hi : i < N.length) (hin : zhb (nd N i).ins i = true) {v : Int} : BV N i v ↔ (v = zac (nd N i).lit /\ 1 <= v) \/ ∃ k ∈ (nd N i).ins, BV N k v := by
 rw [zdo] at hin
 have e : nd N i = N[i] := by unfold nd; simp [List.getD_eq_getElem?_getD, hi]
 rw [e] at hin ⊢;have h1 : N = N.take (i + 1) ++ N.drop (i + 1) := (List.take_append_drop _ _).symm
 have h2 : (varsL N).getD i St.zero = insU (varsL (N.take i)) (ofL [zac N[i].lit]) N[i].ins := by
  have hl : (varsL (N.take i)).length = i := by rw [varsL_length, List.length_take]; omega
  have h3 := varsL_append_get (l := N.take (i + 1)) (r := N.drop (i + 1)) (i := i) (by rw [List.length_take]; omega);rw [<- h1, List.take_succ_eq_append_getElem hi, varsL_snoc, List.getD_eq_getElem?_getD (l := _ ++ _), List.getElem?_append_right (by omega), hl] at h3;rw [h3]; simp
 have h4 : ∀ k ∈ N[i].ins, (varsL (N.take i)).getD k.toNat St.zero = (varsL N).getD k.toNat St.zero := fun k hk => by
  have := hin k hk;have h5 := varsL_append_get (l := N.take i) (r := N.drop i) (i := k.toNat) (by rw [List.length_take]; omega);rw [List.take_append_drop] at h5;exact h5.symm
 unfold BV;rw [Int.toNat_natCast, h2, insU_ex, ofL_one];have hb := zb6 N[i].lit
 constructor
 ·rintro (⟨a, b, _⟩ | ⟨k, hk, a⟩)
  ·exact .inl ⟨a, by omega⟩
  rw [h4 k hk] at a; exact .inr ⟨k, hk, a⟩
 rintro (⟨a, b⟩ | ⟨k, hk, a⟩)
 ·exact .inl ⟨a, by omega, by omega⟩
 rw [<- h4 k hk] at a; exact .inr ⟨k, hk, a⟩
def Nod (st : List Nc) (N : List Nd) : Prop := ∀ (i : Nat) (c : Nc), st[i]? = some c -> i < N.length /\ nd N i = c.nd /\ zhb c.nd.ins i = true
def Bel (st : List Nc) (N : List Nd) (i : Nat) : Prop := ∀ c, st[i]? = some c -> (∀ x, c.nd = ⟨2, x, []⟩ -> ∀ v, BV N i v -> v = zac x) /\ (c.nd.kind = 0 -> ∀ v, ¬ BV N i v) /\ (c.nd.kind = 4 -> ∀ l t, c.tag = some (l, t) -> ∀ v, BV N i v -> (zaf l).mem v = true)
section
variable {st : List Nc} {N : List Nd} {n : Nat} {ch : List Cl -> Int}
theorem Nod.eq (h : Nod st N) {i : Nat} {c : Nc} (hc : st[i]? = some c) {v : Int} : BV N i v ↔ (v = zac c.nd.lit /\ 1 <= v) \/ ∃ k ∈ c.nd.ins, BV N k v := by
 obtain ⟨h1, h2, h3⟩ := h i c hc;have := BV_eq (v := v) h1 (by rw [h2]; exact h3)
 rwa [h2] at this
theorem litVar_zero' : zac 0 = 0 := by unfold zac; simp
theorem Fit.sep (hn : n <= 128) {m : List Cl} {ins : List Nat} (h : Fit st m ins) (hg : ∀ c ∈ m, gC n c) (hB : ∀ j ∈ ins, Bel st N j) :
 (ins.Pairwise fun (i j : Nat) => ∀ v, ¬ (BV N i v /\ BV N j v)) /\ ∀ j ∈ ins, ∀ v, BV N (j : Nat) v -> (zaf m).mem v = true := by
 induction h with
 | @unit x l i ins a hf ih =>
   have hl := (hg [x] (by simp)).lv hn (x := x) (by simp)
   obtain ⟨ih1, ih2⟩ := ih (zbl hg x).gc fun j hj => hB j (by simp [hj])
   obtain ⟨c, hc, e⟩ := a;have hi := (hB i (by simp) c hc).1 x e;refine ⟨List.pairwise_cons.2 ⟨fun j hj v ⟨h1, h2⟩ => ?_, ih1⟩, fun j hj v hv => ?_⟩
   ·exact (zbc hl (ih2 j hj v h2)).2 (hi v h1)
   rcases List.mem_cons.1 hj with rfl | hj
   ·rw [hi v hv]; exact zhh (c := [x]) (by simp) (by simp) hl
   exact (zbc hl (ih2 j hj v hv)).1
 | @bad l i a b =>
   obtain ⟨c, hc, e⟩ := b;refine ⟨by simp, fun j hj v hv => ?_⟩;simp at hj; subst hj;exact absurd hv ((hB j (by simp) c hc).2.1 (by rw [e]) v)
 | @parts l ins a b c =>
   have key : ∀ k (h1 : k < ins.length) (h2 : k < (zaj l).length) v, BV N (ins[k] : Nat) v -> (zaf (zaj l)[k]).mem v = true := fun k h1 h2 v hv => by
    obtain ⟨⟨c', t, hc, ht⟩, d, hd, hk⟩ := c k h1
    have e1 : ins.getD k 0 = ins[k] := by simp [List.getD_eq_getElem?_getD, h1]
    have e2 : (zaj l).getD k [] = (zaj l)[k] := by simp [List.getD_eq_getElem?_getD, h2]
    rw [e1] at hc hd; rw [e2] at ht;rw [hc] at hd; simp at hd; subst hd;exact (hB _ (List.getElem_mem h1) c' hc).2.2 hk _ t ht v hv
   refine ⟨?_, fun j hj v hv => ?_⟩
   ·rw [List.pairwise_iff_getElem];intro i j hi hj hij v ⟨h1, h2⟩;have := List.pairwise_iff_getElem.1 (zo6 l) i j (by omega) (by omega) hij v;exact this ⟨key i hi (by omega) v h1, key j hj (by omega) v h2⟩
   obtain ⟨k, hk, rfl⟩ := List.getElem_of_mem hj;exact zgs (List.getElem_mem (by omega)) (key k hk (by omega) v hv)
theorem Nod.lit (hN : Nod st N) {i : Nat} {x : Int} (h : isLit st i x) (hx : zac x ≠ 0) (v : Int) : BV N i v ↔ v = zac x := by
 obtain ⟨c, hc, e⟩ := h;rw [hN.eq hc, e];have := zb6 x
 constructor
 ·rintro (⟨a, _⟩ | ⟨k, hk, _⟩)
  ·exact a
  simp at hk
 intro a; exact .inl ⟨a, by omega⟩
theorem Nod.and (hn : n <= 128) (hN : Nod st N) {l : List Cl} {x : Int} {k : Nat} {ins : List Nat} (hg : ∀ c ∈ l, gC n c) (hx : zac x ≠ 0) (hk : isLit st k x) (hf : Fit st (zai l x) ins) (hB : ∀ j ∈ ins, Bel st N j) :
 ((k :: ins).Pairwise fun (i j : Nat) => ∀ v, ¬ (BV N i v /\ BV N j v)) /\ ∀ j ∈ k :: ins, ∀ v, BV N (j : Nat) v -> v = zac x \/ (zaf l).mem v = true := by
 obtain ⟨h1, h2⟩ := hf.sep hn (zbl hg x).gc hB;have hl := hN.lit hk hx;refine ⟨List.pairwise_cons.2 ⟨fun j hj v ⟨a, b⟩ => ?_, h1⟩, fun j hj v hv => ?_⟩
 ·exact (zbc hx (h2 j hj v b)).2 ((hl v).1 a)
 rcases List.mem_cons.1 hj with rfl | hj
 ·exact .inl ((hl v).1 hv)
 exact .inr (zbc hx (h2 j hj v hv)).1
theorem mem_castL {l : List Nat} {k : Int} : k ∈ zag l ↔ ∃ j ∈ l, (j : Int) = k := by simp [zag]
theorem Side.bel (hn : n <= 128) (hN : Nod st N) {l : List Cl} {x : Int} {i : Nat} (h : Side st l x i) (hg : ∀ c ∈ l, gC n c) (hx : zac x ≠ 0) (hv : (zaf l).mem (zac x) = true) (hB : ∀ j, j < i -> Bel st N j) :
 (∀ v, BV N i v -> (zaf l).mem v = true) /\ BV N i (zac x) := by
 rcases h with ⟨a, b⟩ | ⟨a, c, k, ins, d, e, f, g, h1, h2, h3⟩
 ·have hl := hN.lit b hx;exact ⟨fun v h => by rw [(hl v).1 h]; exact hv, (hl _).2 rfl⟩
 have h4 := (hN.and hn hg hx g h1 fun j hj => hB j (h3 j hj)).2
 have hq := fun v => hN.eq (v := v) d
 rw [e] at hq;refine ⟨fun v h => ?_, (hq _).2 (.inr ⟨k, mem_castL.2 ⟨k, by simp, rfl⟩, (hN.lit g hx _).2 rfl⟩)⟩
 rcases (hq v).1 h with ⟨a1, a2⟩ | ⟨j, hj, a1⟩
 ·simp only [litVar_zero'] at a1; omega
 obtain ⟨j', hj', rfl⟩ := mem_castL.1 hj
 rcases h4 j' hj' v a1 with rfl | h5
 ·exact hv
 exact h5
theorem bel_all (hn : n <= 128) (hi : Inv ch n st) (hN : Nod st N) : ∀ i, Bel st N i := by
 intro i
 induction i using Nat.strongRecOn with
 | _ i ih =>
   intro c hc
   have hq := fun v => hN.eq (v := v) hc
   have hf := hi i c hc
   cases hf with
   | @lit x t a b =>
     refine ⟨fun y e v h => ?_, fun h => by simp at h, fun h => by simp at h⟩;simp at e; subst e
     rcases (hq v).1 h with ⟨a1, _⟩ | ⟨j, hj, _⟩
     ·exact a1
     simp at hj
   | bad a =>
     refine ⟨fun y e => by simp at e, fun _ v h => ?_, fun h => by simp at h⟩
     rcases (hq v).1 h with ⟨a1, a2⟩ | ⟨j, hj, _⟩
     ·simp only [litVar_zero'] at a1; omega
     simp at hj
   | @dec l t a b g1 g2 g3 g4 g5 g6 g7 g8 s1 s2 =>
     refine ⟨fun y e => by simp at e, fun h => by simp at h, fun _ l' t' e v h => ?_⟩;simp only [Option.some.injEq, Prod.mk.injEq] at e;obtain ⟨rfl, _⟩ := e
     have hv0 : zac (ch l) = ch l := by rw [zal (by omega) (by omega) (by omega), if_neg (by omega)]
     have b1 := (s1.bel hn hN g1.gc (by rw [zca, hv0]; omega) (by rw [zca, hv0]; exact g6) fun j hj => ih j (by omega)).1;have b2 := (s2.bel hn hN g1.gc (by rw [hv0]; omega) (by rw [hv0]; exact g6) fun j hj => ih j (by omega)).1
     rcases (hq v).1 h with ⟨a1, a2⟩ | ⟨j, hj, h2⟩
     ·simp only [litVar_zero'] at a1; omega
     simp only [List.mem_cons, List.not_mem_nil, or_false] at hj
     rcases hj with rfl | rfl
     ·exact b1 v h2
     exact b2 v h2
   | and => exact ⟨fun y e => by simp at e, fun h => by simp at h, fun h => by simp at h⟩
theorem sepF_of : ∀ (ins : List Nat) (s : St), s.ok -> (ins.Pairwise fun (i j : Nat) => ∀ v, ¬ (BV N i v /\ BV N j v)) -> (∀ j ∈ ins, ∀ v, ¬ (s.mem v = true /\ BV N (j : Nat) v)) -> sepF (varsL N) s (zag ins) = true
 | [], s, _, _, _ => rfl
 | k :: ins, s, hs, hp, hd => by
   rw [show zag (k :: ins) = (k : Int) :: zag ins from rfl];unfold sepF
   have hz : s.cut ((varsL N).getD (k : Int).toNat St.zero) = St.zero := Classical.byContradiction fun h => by
    obtain ⟨v, h1, h2⟩ := zw6 hs h;exact hd k (by simp) v ⟨h1, h2⟩
   rw [if_pos hz];rw [List.pairwise_cons] at hp
   refine sepF_of ins _ (St.union_ok hs ?_) hp.2 fun j hj v ⟨h1, h2⟩ => ?_
   ·rw [List.getD_eq_getElem?_getD]
    cases h : (varsL N)[(k : Int).toNat]? with
    | none => exact St.zero_ok
    | some x => exact varsL_ok N x (List.mem_of_getElem? h)
   rw [St.mem_union, Bool.or_eq_true] at h1
   rcases h1 with h1 | h1
   ·exact hd j (by simp [hj]) v ⟨h1, h2⟩
   exact hp.1 j hj v ⟨h1, h2⟩
theorem sep_zero {ins : List Nat} (hp : ins.Pairwise fun (i j : Nat) => ∀ v, ¬ (BV N i v /\ BV N j v)) : sepF (varsL N) St.zero (zag ins) = true := sepF_of ins _ St.zero_ok hp fun j _ v h => by
 rw [St.mem_zero] at h; simp at h
def hasL (N : List Nd) (i : Int) (x : Int) : Prop := nd N i = ⟨2, x, []⟩ \/ ((nd N i).kind = 3 /\ ∃ k ∈ (nd N i).ins, nd N k = ⟨2, x, []⟩)
theorem Side.has (hN : Nod st N) {l : List Cl} {x : Int} {i : Nat} (h : Side st l x i) : hasL N i x := by
 rcases h with ⟨a, c, hc, e⟩ | ⟨a, c, k, ins, d, e, f, ⟨c', hc, e'⟩, h1, h2, h3⟩
 ·exact .inl (by rw [(hN i c hc).2.1, e])
 refine .inr ⟨by rw [(hN i c d).2.1, e], k, ?_, by rw [(hN k c' hc).2.1, e']⟩;rw [(hN i c d).2.1, e]; exact mem_castL.2 ⟨k, by simp, rfl⟩
structure OrN (ch : List Cl -> Int) (n : Nat) (N : List Nd) (i : Int) (l : List Cl) (a b : Nat) : Prop where
 gl : gL n l
 ne : l ≠ []
 two : ∀ c ∈ l, 2 <= c.length
 ins : (nd N i).ins = [(a : Int), (b : Int)]
 lo : 1 <= ch l
 hi : ch l <= n
 la : a < i
 lb : b < i
 ha : hasL N a (-ch l)
 hb : hasL N b (ch l)
 bv : BV N i (ch l)
 vs : ∀ v, BV N i v -> (zaf l).mem v = true
theorem node_or (hn : n <= 128) (hi : Inv ch n st) (hN : Nod st N) {i : Nat} {c : Nc} (hc : st[i]? = some c) (h4 : c.nd.kind = 4) : ∃ l a b, OrN ch n N i l a b := by
 have hb := bel_all hn hi hN;have hf := hi i c hc;have hbi := (hb i c hc).2.2 h4
 have hq := fun v => hN.eq (v := v) hc
 have hnd := (hN i c hc).2.1
 cases hf with
 | lit => simp at h4
 | bad => simp at h4
 | and => simp at h4
 | @dec l t a b g1 g2 g3 g4 g5 g6 g7 g8 s1 s2 =>
   have hv0 : zac (ch l) = ch l := by rw [zal (by omega) (by omega) (by omega), if_neg (by omega)]
   have b2 := (s2.bel hn hN g1.gc (by rw [hv0]; omega) (by rw [hv0]; exact g6) fun j hj => hb j).2;rw [hv0] at b2;exact ⟨l, a, b, g1, g2, g3, by rw [hnd], g4, g5, by omega, by omega, s1.has hN, s2.has hN, (hq _).2 (.inr ⟨b, by simp, b2⟩), hbi l t rfl⟩
theorem node_sep (hn : n <= 128) (hi : Inv ch n st) (hN : Nod st N) {i : Nat} {c : Nc} (hc : st[i]? = some c) : ndSep (varsL N) c.nd = true := by
 have hb := bel_all hn hi hN;have hf := hi i c hc;unfold ndSep
 cases hf with
 | lit => simp
 | bad => simp
 | dec => simp
 | @and l x k ins a b g hk c' hf =>
   have hx : zac x ≠ 0 := by
    obtain ⟨d, hd, e⟩ := hk;have hf' := hi k d hd
    have : litN n x := by
     cases hf' with
     | lit a b => simp at e; subst e; exact a
     | bad => simp at e
     | dec => simp at e
     | and => simp at e
    exact (this.ok hn).1
   rw [sep_zero (hN.and hn g.gc hx hk hf fun j _ => hb j).1]; simp
end
section
variable {ch : List Cl -> Int} {n : Nat} {t : List Cl} {cache : Bool}
theorem Inv.ins {st : List Nc} (hn : n <= 128) (h : Inv ch n st) {i : Nat} {c : Nc} (hc : st[i]? = some c) : zhb c.nd.ins i = true := by
 have := (h i c hc).ok hn;unfold ndOk at this;simp only [Bool.and_eq_true] at this;exact this.1
theorem core_nod (hn : n <= 128) (hch : Chooses ch n) (ht : tOk n t) (h0 : zab n t ≠ []) : Nod (zao ch cache (zab n t)).1 (nds (zae ch cache n t)) := by
 have hC := core hn hch ht cache;intro i c hc;have hl := zb8 hc
 cases hr : zct (zao ch cache (zab n t)) (zab n t) with
 | true =>
   rw [zk8 h0 hr];exact ⟨by simp [za5]; omega, by rw [zro (by omega) (by rw [za5]; omega), zdh hc], hC.inv.inv.ins hn hc⟩
 | false =>
   rw [zk9 h0 hr];exact ⟨by rw [za5]; exact hl, zdh hc, hC.inv.inv.ins hn hc⟩
theorem comp_dec (hn : n <= 128) (hch : Chooses ch n) (ht : tOk n t) : decL (nds (zae ch cache n t)) = true := by
 by_cases h0 : zab n t = []
 ·rw [zbf h0]; rfl
 have hC := core hn hch ht cache;have hN := core_nod (cache := cache) hn hch ht h0;have hg := za2 hn ht.rg
 refine decL_true fun j hj => ?_
 by_cases hl : j < (zao ch cache (zab n t)).1.length
 ·have hc : (zao ch cache (zab n t)).1[j]? = some (zao ch cache (zab n t)).1[j] := List.getElem?_eq_getElem hl;have := node_sep hn hC.inv.inv hN hc;rw [<- (hN j _ hc).2.1] at this;exact this
 cases hr : zct (zao ch cache (zab n t)) (zab n t) with
 | false => rw [zk9 h0 hr, za5] at hj; exact absurd hj hl
 | true =>
   have hs := sep_zero (hC.fit.sep hn hg.gc fun j _ => bel_all hn hC.inv.inv hN j).1;rw [zk8 h0 hr] at hj hs ⊢
   have e : j = (nds (zao ch cache (zab n t)).1).length := by simp [za5] at hj ⊢; omega
   subst e;rw [List.getD_eq_getElem?_getD, List.getElem?_append_right (Nat.le_refl _)];simp only [Nat.sub_self, List.getElem?_cons_zero, Option.getD_some];unfold ndSep;rw [hs]; simp
theorem comp_or (hn : n <= 128) (hch : Chooses ch n) (ht : tOk n t) {i : Nat} (hi : i < (nds (zae ch cache n t)).length) (hk : (nd (nds (zae ch cache n t)) i).kind = 4) : ∃ l a b, OrN ch n (nds (zae ch cache n t)) i l a b := by
 by_cases h0 : zab n t = []
 ·rw [zbf h0] at hi hk
  have : i = 0 := by simpa [nds] using hi
  subst this
  simp [nd, nds] at hk
 have hC := core hn hch ht cache;have hN := core_nod (cache := cache) hn hch ht h0
 by_cases hl : i < (zao ch cache (zab n t)).1.length
 ·have hc : (zao ch cache (zab n t)).1[i]? = some (zao ch cache (zab n t)).1[i] := List.getElem?_eq_getElem hl;refine node_or hn hC.inv.inv hN hc ?_;rw [<- (hN i _ hc).2.1]; exact hk
 exfalso
 cases hr : zct (zao ch cache (zab n t)) (zab n t) with
 | false => rw [zk9 h0 hr, za5] at hi; exact hl hi
 | true =>
   rw [zk8 h0 hr] at hi hk
   have e : i = (nds (zao ch cache (zab n t)).1).length := by simp [za5] at hi ⊢; omega
   subst e;unfold nd at hk;rw [List.getD_eq_getElem?_getD, Int.toNat_natCast, List.getElem?_append_right (Nat.le_refl _)] at hk;simp at hk
end
def headsF (N : List Nd) (i : Int) : List Int := if (nd N i).kind = 2 then [(nd N i).lit] else if (nd N i).kind = 3 then ((nd N i).ins.filter fun k => decide ((nd N k).kind = 2)).map fun k => (nd N k).lit else []
def oppB (a b : List Int) : Bool := b.any fun l => a.contains (-l)
theorem hasL.heads {N : List Nd} {i x : Int} (h : hasL N i x) : x ∈ headsF N i := by
 unfold headsF
 rcases h with h | ⟨h, k, hk, e⟩
 ·rw [h]; simp
 rw [h];simp only [show ¬ ((3 : Int) = 2) by decide, if_false, if_true];exact List.mem_map.2 ⟨k, List.mem_filter.2 ⟨hk, by rw [e]; simp⟩, by rw [e]⟩
theorem OrN.opp {ch : List Cl -> Int} {n : Nat} {N : List Nd} {i : Int} {l : List Cl} {a b : Nat} (h : OrN ch n N i l a b) : oppB (headsF N a) (headsF N b) = true := by
 unfold oppB;rw [List.any_eq_true];exact ⟨_, h.hb.heads, by simpa using h.ha.heads⟩
def litQ (N : List Nd) (i l : Int) : Bool := if (nd N i).kind = 2 then decide ((nd N i).lit = l) else if (nd N i).kind = 3 then (nd N i).ins.any fun k => decide ((nd N k).kind = 2) && decide ((nd N k).lit = l) else false
theorem hasL.litQ {N : List Nd} {i x : Int} (h : hasL N i x) : litQ N i x = true := by
 unfold Cen.litQ
 rcases h with h | ⟨h, k, hk, e⟩
 ·rw [h]; simp
 rw [h];simp only [show ¬ ((3 : Int) = 2) by decide, if_false, if_true];exact List.any_eq_true.2 ⟨k, hk, by rw [e]; simp⟩
theorem OrN.first {order : List Int} {probe : Bool} {n : Nat} (hn : n <= 128) (hall : ∀ v : Int, 1 <= v -> v <= n -> v ∈ order) {N : List Nd} {i : Int} {l : List Cl} {a b : Nat} (h : OrN (chF order probe n) n N i l a b) :
 ∃ k, ∃ hk : k < order.length, order[k] = chF order probe n l /\ ∀ j (hj : j < k), ¬ BV N i order[j] := by
 have hne : 0 < zan l (chF order probe n l) := by
  obtain ⟨c, hc, hcv⟩ := za8.1 (h.vs _ h.bv);obtain ⟨_, x, hx, e⟩ := zdr.1 hcv;exact zkn.2 ⟨c, hc, x, hx, e⟩
 cases hf : order.find? fun v => decide (0 < zan l v) with
 | none =>
   exfalso
   have := List.find?_eq_none.1 hf _ (hall _ h.lo h.hi);simp at this;omega
 | some v =>
   have e : chF order probe n l = v := by unfold chF; rw [hf]
   obtain ⟨_, k, hk, e2, hj⟩ := List.find?_eq_some_iff_getElem.1 hf;refine ⟨k, hk, by rw [e, e2], fun j hjk hb => ?_⟩;have h1 := hj j hjk;obtain ⟨c, hc, hcv⟩ := za8.1 (h.vs _ hb);obtain ⟨_, x, hx, e3⟩ := zdr.1 hcv;have := zkn.2 ⟨c, hc, x, hx, e3⟩;simp at h1;omega
end Cen
