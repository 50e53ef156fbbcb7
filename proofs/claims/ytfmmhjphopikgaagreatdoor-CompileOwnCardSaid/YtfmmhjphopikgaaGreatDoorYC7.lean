/- Part of the proofs that laws of censuslaw24 return true for every input, where the tables that the rows list are laid. Texts: CpI, RedS, Cex, Sat, SumP, CpS, CpU, CpK. -/
import Derived.Test.YtfmmhjphopikgaaGreatDoorYC5
import Derived.Test.YtfmmhjphopikgaaGreatDoorYC6
import Derived.Test.YtfmmhjphopikgaaGreatDoorYC1
import Derived.Test.YtfmmhjphopikgaaGreatDoorYC4
set_option maxHeartbeats 8000000
set_option maxRecDepth 100000
set_option linter.unusedSimpArgs false
set_option linter.unusedVariables false
namespace Cen
def nds (st : List Nc) : List Nd := st.map fun c => c.nd
def isLit (st : List Nc) (i : Nat) (x : Int) : Prop := ∃ c, st[i]? = some c /\ c.nd = ⟨2, x, []⟩
def tagged (st : List Nc) (i : Nat) (l : List Cl) : Prop := ∃ c t, st[i]? = some c /\ c.tag = some (l, t)
def zag (l : List Nat) : List Int := l.map fun (i : Nat) => (i : Int)
inductive Fit (st : List Nc) : List Cl -> List Nat -> Prop
 | unit {x : Int} {l : List Cl} {i : Nat} {ins : List Nat} : isLit st i x -> Fit st (zai ([x] :: l) x) ins -> Fit st ([x] :: l) (i :: ins)
 | bad {l : List Cl} {i : Nat} : tagged st i ([] :: l) -> (∃ c, st[i]? = some c /\ c.nd = ⟨0, 0, []⟩) -> Fit st ([] :: l) [i]
 | parts {l : List Cl} {ins : List Nat} : (∀ c ∈ l, 2 <= c.length) -> ins.length = (zaj l).length ->
    (∀ k, k < ins.length -> tagged st (ins.getD k 0) ((zaj l).getD k []) /\ ∃ c, st[ins.getD k 0]? = some c /\ c.nd.kind = 4) -> Fit st l ins
def Side (st : List Nc) (l : List Cl) (x : Int) (i : Nat) : Prop :=
 (zai l x = [] /\ isLit st i x) \/ (zai l x ≠ [] /\ ∃ c k ins, st[i]? = some c /\ c.nd = ⟨3, 0, zag (k :: ins)⟩ /\ c.tag = none /\ isLit st k x /\ Fit st (zai l x) ins /\ k < i /\ ∀ j ∈ ins, j < i)
def litN (n : Nat) (x : Int) : Prop := x ≠ 0 /\ -(n : Int) <= x /\ x <= n
inductive Form (ch : List Cl -> Int) (n : Nat) (st : List Nc) (i : Nat) : Nc -> Prop
 | lit {x : Int} {t : Option (List Cl × Cl)} : litN n x -> t = none -> Form ch n st i ⟨⟨2, x, []⟩, t⟩
 | bad {l : List Cl} {t : Cl} : gL n ([] :: l) -> Form ch n st i ⟨⟨0, 0, []⟩, some ([] :: l, t)⟩
 | dec {l : List Cl} {t : Cl} {a b : Nat} : gL n l -> l ≠ [] -> (∀ c ∈ l, 2 <= c.length) -> 1 <= ch l -> ch l <= n -> (zaf l).mem (ch l) = true -> a < i -> b < i -> Side st l (-ch l) a -> Side st l (ch l) b -> Form ch n st i ⟨⟨4, 0, [(a : Int), (b : Int)]⟩, some (l, t)⟩
 | and {l : List Cl} {x : Int} {k : Nat} {ins : List Nat} : k < i -> (∀ j ∈ ins, j < i) -> gL n l -> isLit st k x -> zai l x ≠ [] -> Fit st (zai l x) ins -> Form ch n st i ⟨⟨3, 0, zag (k :: ins)⟩, none⟩
def Inv (ch : List Cl -> Int) (n : Nat) (st : List Nc) : Prop := ∀ i c, st[i]? = some c -> Form ch n st i c
section
variable {ch : List Cl -> Int} {st r : List Nc} {n : Nat}
theorem zdw {i : Nat} {c : Nc} (h : st[i]? = some c) : (st ++ r)[i]? = some c := by
 have : i < st.length := by
  rcases Nat.lt_or_ge i st.length with h' | h'
  ·exact h'
  rw [List.getElem?_eq_none h'] at h; simp at h
 rw [List.getElem?_append_left this]; exact h
theorem isLit.more {i : Nat} {x : Int} (h : isLit st i x) : isLit (st ++ r) i x := let ⟨c, a, b⟩ := h; ⟨c, zdw a, b⟩
theorem tagged.more {i : Nat} {l : List Cl} (h : tagged st i l) : tagged (st ++ r) i l := let ⟨c, t, a, b⟩ := h; ⟨c, t, zdw a, b⟩
theorem Fit.more {l : List Cl} {ins : List Nat} (h : Fit st l ins) : Fit (st ++ r) l ins := by
 induction h with
 | unit a _ ih => exact .unit a.more ih
 | bad a b => exact .bad a.more (let ⟨c, p, q⟩ := b; ⟨c, zdw p, q⟩)
 | parts a b c => exact .parts a b fun k hk => ⟨(c k hk).1.more, let ⟨d, p, q⟩ := (c k hk).2; ⟨d, zdw p, q⟩⟩
theorem Side.more {l : List Cl} {x : Int} {i : Nat} (h : Side st l x i) : Side (st ++ r) l x i := by
 rcases h with ⟨a, b⟩ | ⟨a, c, k, ins, d, e, f, g, h1, h2, h3⟩
 ·exact .inl ⟨a, b.more⟩
 exact .inr ⟨a, c, k, ins, zdw d, e, f, g.more, h1.more, h2, h3⟩
theorem Form.more {i : Nat} {c : Nc} (h : Form ch n st i c) : Form ch n (st ++ r) i c := by
 cases h with
 | lit a b => exact .lit a b
 | bad a => exact .bad a
 | dec a b c d e f g h p q => exact .dec a b c d e f g h p.more q.more
 | and a b c d e f => exact .and a b c d.more e f.more
theorem Inv.snoc {c : Nc} (h : Inv ch n st) (hc : Form ch n st st.length c) : Inv ch n (st ++ [c]) := by
 intro i d hd
 rcases Nat.lt_or_ge i st.length with hi | hi
 ·rw [List.getElem?_append_left hi] at hd;exact (h i d hd).more
 rw [List.getElem?_append_right hi] at hd
 have e : i = st.length := by
  rcases Nat.eq_or_lt_of_le hi with e | e
  ·exact e.symm
  rw [List.getElem?_eq_none (by simp; omega)] at hd; simp at hd
 subst e;simp at hd; subst hd;exact hc.more
theorem Inv.nil (n : Nat) : Inv ch n [] := fun i c h => by simp at h
theorem zb8 {i : Nat} {c : Nc} (h : st[i]? = some c) : i < st.length := by
 rcases Nat.lt_or_ge i st.length with h' | h'
 ·exact h'
 rw [List.getElem?_eq_none h'] at h; simp at h
theorem isLit.lt {i : Nat} {x : Int} (h : isLit st i x) : i < st.length := let ⟨_, a, _⟩ := h; zb8 a
theorem tagged.lt {i : Nat} {l : List Cl} (h : tagged st i l) : i < st.length := let ⟨_, _, a, _⟩ := h; zb8 a
theorem Fit.lt {l : List Cl} {ins : List Nat} (h : Fit st l ins) : ∀ j ∈ ins, j < st.length := by
 induction h with
 | unit a _ ih =>
   intro j hj
   rcases List.mem_cons.1 hj with rfl | hj
   ·exact a.lt
   exact ih j hj
 | bad a _ => intro j hj; simp at hj; subst hj; exact a.lt
 | parts a b c =>
   intro j hj;obtain ⟨k, hk, rfl⟩ := List.getElem_of_mem hj;have := (c k hk).1.lt
   simpa [List.getD_eq_getElem?_getD, hk] using this
theorem litN.ok {x : Int} (hn : n <= 128) (h : litN n x) : zac x ≠ 0 /\ zac x <= n := by
 obtain ⟨h1, h2, h3⟩ := h
 rw [zal h1 (by omega) (by omega)]; split <;> omega
theorem Form.ok (hn : n <= 128) {i : Nat} {c : Nc} (h : Form ch n st i c) : ndOk c.nd n i = true := by
 cases h with
 | lit a b =>
   have := a.ok hn
   simp [ndOk, zhb, zcr, zas, this]
 | bad a => simp [ndOk, zhb, zcr]
 | dec a b c d e f g h p q =>
   simp only [ndOk, zhb, zcr, List.all_cons, List.all_nil, Bool.and_true, Bool.and_eq_true, decide_eq_true_eq];refine ⟨⟨⟨by omega, by omega⟩, by omega, by omega⟩, ?_⟩
   simp
 | and a b c d e f =>
   simp only [ndOk, Bool.and_eq_true];refine ⟨?_, by simp [zcr]⟩;unfold zhb zag;rw [List.all_eq_true];intro y hy;rw [List.mem_map] at hy;obtain ⟨j, hj, rfl⟩ := hy;simp only [Bool.and_eq_true, decide_eq_true_eq]
   rcases List.mem_cons.1 hj with rfl | hj
   ·omega
   have := b j hj; omega
theorem zdh {i : Nat} {c : Nc} (h : st[i]? = some c) : nd (nds st) (i : Int) = c.nd := by
 unfold nd nds
 simp [List.getD_eq_getElem?_getD, h]
theorem Inv.nds (hn : n <= 128) (h : Inv ch n st) : zno (nds st) n (nds st).length := by
 intro j hj
 have hl : j < st.length := by simpa [Cen.nds] using hj
 have hc : st[j]? = some st[j] := List.getElem?_eq_getElem hl;have := zdh hc;unfold nd at this;simp only [Int.toNat_natCast] at this;rw [this];exact (h j _ hc).ok hn
def Says (s : Int -> Bool) (st : List Nc) (i : Nat) : Prop :=
 (∀ x, isLit st i x -> T s (nds st) i = zbw s x) /\ (∀ l, tagged st i l -> (∀ c, st[i]? = some c -> c.nd.kind ≠ 3) -> T s (nds st) i = evL s l)
theorem zq6 {s : Int -> Bool} {x : Int} {l : List Cl} (h : zbw s x = false) : evL s ([x] :: l) = false := by
 simp [evL, evC, h]
theorem zl7 (s : Int -> Bool) (l : List Cl) : evL s ([] :: l) = false := by simp [evL, evC]
theorem Fit.says (hn : n <= 128) {s : Int -> Bool} {l : List Cl} {ins : List Nat} (h : Fit st l ins) (hg : ∀ c ∈ l, gC n c) (hs : ∀ j ∈ ins, Says s st j) : ins.all (fun (j : Nat) => T s (Cen.nds st) j) = evL s l := by
 induction h with
 | @unit x l i ins a hf ih =>
   rw [List.all_cons, (hs i (by simp)).1 x a];have hgx := hg [x] (by simp);have hl := hgx.lv hn (x := x) (by simp)
   cases hx : zbw s x with
   | false => rw [zq6 hx]; rfl
   | true =>
     rw [ih (zbl hg x).gc fun j hj => hs j (by simp [hj]), zh7 hn hg hx hl]; rfl
 | @bad l i a b =>
   obtain ⟨c, hc, hk⟩ := b;rw [List.all_cons, (hs i (by simp)).2 _ a fun c' hc' => by rw [hc] at hc'; simp at hc'; rw [<- hc', hk]; simp, zl7]; rfl
 | @parts l ins a b c =>
   rw [zqy, Bool.eq_iff_iff, List.all_eq_true, List.all_eq_true]
   have key : ∀ k (h1 : k < ins.length) (h2 : k < (zaj l).length), T s (Cen.nds st) (ins[k] : Nat) = evL s (zaj l)[k] := fun k h1 h2 => by
    obtain ⟨t, d, hd, hk⟩ := c k h1
    have e1 : ins.getD k 0 = ins[k] := by simp [List.getD_eq_getElem?_getD, h1]
    have e2 : (zaj l).getD k [] = (zaj l)[k] := by simp [List.getD_eq_getElem?_getD, h2]
    rw [e1] at t hd; rw [e2] at t
    exact (hs _ (List.getElem_mem h1)).2 _ t fun c' hc' => by rw [hd] at hc'; simp at hc'; rw [<- hc', hk]; simp
   constructor
   ·intro h p hp;obtain ⟨k, hk, rfl⟩ := List.getElem_of_mem hp;rw [<- key k (by omega) hk]; exact h _ (List.getElem_mem (by omega))
   intro h j hj;obtain ⟨k, hk, rfl⟩ := List.getElem_of_mem hj;rw [key k hk (by omega)]; exact h _ (List.getElem_mem (by omega))
theorem Side.says (hn : n <= 128) {s : Int -> Bool} {l : List Cl} {x : Int} {i : Nat} (hi : Inv ch n st) (h : Side st l x i) (hg : ∀ c ∈ l, gC n c) (hx : litN n x) (hs : ∀ j, j <= i -> Says s st j) : T s (nds st) i = (zbw s x && evL s l) := by
 have hl := (hx.ok hn).1
 rcases h with ⟨a, b⟩ | ⟨a, c, k, ins, d, e, f, g, h1, h2, h3⟩
 ·rw [(hs i (Nat.le_refl _)).1 x b]
  cases hh : zbw s x with
  | false => rfl
  | true => rw [<- zh7 hn hg hh hl, a]; rfl
 have hlen : i < (nds st).length := by rw [show (nds st).length = st.length by simp [nds]]; exact zb8 d
 rw [T_nd s (hi.nds hn) (by omega) (by omega), zdh d, e]
 have : evNd s (T s (nds st)) ⟨3, 0, zag (k :: ins)⟩ = (zag (k :: ins)).all (T s (nds st)) := by simp [evNd]
 rw [this];unfold zag;rw [List.all_map, List.all_cons];have e1 : ((T s (nds st)) ∘ fun (i : Nat) => (i : Int)) k = zbw s x := (hs k (by omega)).1 x g
 have e2 := h1.says hn (zbl hg x).gc (s := s) fun j hj => hs j (Nat.le_of_lt (h3 j hj))
 rw [e1];have e3 : ins.all ((T s (nds st)) ∘ fun (i : Nat) => (i : Int)) = evL s (zai l x) := e2;rw [e3]
 cases hh : zbw s x with
 | false => rfl
 | true => rw [zh7 hn hg hh hl]
theorem zui (hn : n <= 128) (s : Int -> Bool) (h : Inv ch n st) : ∀ (k i : Nat), i = k -> i < st.length -> Says s st i := by
 intro k
 induction k using Nat.strongRecOn with
 | _ k ih =>
   intro i hik hi;have hc : st[i]? = some st[i] := List.getElem?_eq_getElem hi;have hf := h i _ hc
   have hlen : i < (nds st).length := by rw [show (nds st).length = st.length by simp [nds]]; exact hi
   have hT := T_nd s (h.nds hn) (i := (i : Int)) (by omega) (by omega);rw [zdh hc] at hT;generalize st[i] = c at *
   have hless : ∀ j, j < i -> Says s st j := fun j hj => ih j (by omega) j rfl (by omega)
   cases hf with
   | @lit x t a b =>
     refine ⟨fun y ⟨d, hd, he⟩ => ?_, fun l ⟨d, t', hd, he⟩ _ => ?_⟩
     ·rw [hc] at hd; simp at hd; subst hd; simp at he; subst he;rw [hT]; simp [evNd]
     rw [hc] at hd; simp at hd; subst hd; rw [b] at he; simp at he
   | @bad l t a =>
     refine ⟨fun y ⟨d, hd, he⟩ => ?_, fun l' ⟨d, t', hd, he⟩ _ => ?_⟩
     ·rw [hc] at hd; simp at hd; subst hd; simp at he
     rw [hc] at hd; simp at hd; subst hd; simp at he;rw [hT, <- he.1, zl7]; simp [evNd]
   | @dec l t a b g1 g2 g3 g4 g5 g6 g7 g8 p q =>
     refine ⟨fun y ⟨d, hd, he⟩ => ?_, fun l' ⟨d, t', hd, he⟩ _ => ?_⟩
     ·rw [hc] at hd; simp at hd; subst hd; simp at he
     rw [hc] at hd; simp at hd; subst hd; simp at he;rw [hT, <- he.1]
     have ha := p.says hn h g1.gc (s := s) ⟨by omega, by omega, by omega⟩ fun j hj => hless j (by omega)
     have hb := q.says hn h g1.gc (s := s) ⟨by omega, by omega, by omega⟩ fun j hj => hless j (by omega)
     have hl := (show litN n (ch l) from ⟨by omega, by omega, by omega⟩).ok hn;rw [zih hl.1] at ha;simp only [evNd, List.any_cons, List.any_nil];rw [ha, hb]
     simp
     cases zbw s (ch l) <;> simp
   | @and l x k' ins a b c' d e f =>
     refine ⟨fun y ⟨d, hd, he⟩ => ?_, fun l' ⟨d, t', hd, he⟩ hk => ?_⟩
     ·rw [hc] at hd; simp at hd; subst hd; simp at he
     have := hk _ hc; simp at this
end
theorem zcj {l : List Int} (h : l.Nodup) {b : Nat} (hb : ∀ i ∈ l, 0 <= i /\ i < (b : Int)) : l.length <= b := by
 induction b generalizing l with
 | zero =>
   match l with
   | [] => simp
   | x :: l => have := hb x (by simp); omega
 | succ b ih =>
   have h2 := ih (l := l.filter fun x => decide (x ≠ (b : Int))) (h.filter _) (by
    intro i hi;simp only [List.mem_filter, decide_eq_true_eq] at hi;have := hb i hi.1
    omega)
   have h3 : l.length <= (l.filter fun x => decide (x ≠ (b : Int))).length + 1 := by
    clear h2 ih hb
    induction l with
    | nil => simp
    | cons x l ih =>
      rw [List.nodup_cons] at h
      by_cases e : x = (b : Int)
      ·have : (l.filter fun x => decide (x ≠ (b : Int))) = l := by
        rw [List.filter_eq_self];intro a ha;simp only [decide_eq_true_eq];intro e2; exact h.1 (by rw [e, <- e2]; exact ha)
       rw [List.filter_cons_of_neg (by simp [e]), this]; simp
      rw [List.filter_cons_of_pos (by simp [e])];have := ih h.2;simp only [List.length_cons]; omega
   omega
theorem zid {x : Nd} {n b : Int} (h : ndOk x n b = true) : x.kind = 0 \/ x.kind = 1 \/ x.kind = 2 \/ x.kind = 3 \/ x.kind = 4 := by
 simp only [ndOk, Bool.and_eq_true] at h;have h2 := h.2;unfold zcr at h2
 by_cases h0 : x.kind = 0 \/ x.kind = 1
 ·omega
 rw [if_neg h0] at h2
 by_cases h1 : x.kind = 2
 ·omega
 rw [if_neg h1] at h2
 by_cases h3 : x.kind = 3 \/ x.kind = 4
 ·omega
 rw [if_neg h3] at h2; simp at h2
theorem varsAcc_prefix (l : List Nd) : ∀ vs : List St, ∃ us, varsAcc l vs = vs ++ us := by
 induction l with
 | nil => intro vs; exact ⟨[], by simp [varsAcc]⟩
 | cons x l ih =>
   intro vs;obtain ⟨us, h⟩ := ih (vs ++ [insU vs (ofL [zac x.lit]) x.ins]);exact ⟨insU vs (ofL [zac x.lit]) x.ins :: us, by simp [varsAcc, h]⟩
theorem ofL_mem (x v : Int) : (ofL [x]).mem v = (decide (v = x) && decide (1 <= x) && decide (x <= 128)) := by
 show (St.zero.add x).mem v = _
 rw [St.mem_add, St.mem_zero]; simp
where
 litVar_pos' {l : Int} (h : zac l ≠ 0) : 1 <= zac l /\ zac l <= 128 := by rcases zc3 h with h | h <;> omega
def card (s : St) : Nat := (List.range 128).countP fun (j : Nat) => s.mem ((j : Int) + 1)
theorem zl3 {p q : Nat -> Bool} (h : ∀ j, ¬ (p j = true /\ q j = true)) (l : List Nat) : l.countP (fun j => p j || q j) = l.countP p + l.countP q := by
 induction l with
 | nil => rfl
 | cons x l ih =>
   simp only [List.countP_cons, ih];have := h x
   cases hp : p x <;> cases hq : q x <;> simp_all <;> omega
theorem zvy {s : St} {n : Nat} (hn : n <= 128) (h : ∀ v : Int, 1 <= v -> s.mem v = true -> v <= n) : card s <= n := by
 unfold card
 have e : List.range 128 = List.range n ++ (List.range (128 - n)).map (n + ·) := by
  rw [<- List.range_add]; congr 1; omega
 rw [e, List.countP_append]
 have h1 : (List.range n).countP (fun (j : Nat) => s.mem ((j : Int) + 1)) <= n := by
  have := List.countP_le_length (p := fun j => s.mem (((j : Nat) : Int) + 1)) (l := List.range n)
  simpa using this
 have h2 : ((List.range (128 - n)).map (n + ·)).countP (fun (j : Nat) => s.mem ((j : Int) + 1)) = 0 := by
  rw [List.countP_eq_zero];intro j hj;simp only [List.mem_map, List.mem_range] at hj;obtain ⟨i, _, rfl⟩ := hj;intro hm;have := h _ (by omega) hm;omega
 omega
structure InvR (ch : List Cl -> Int) (R : List Cl -> Cl -> Prop) (cache : Bool) (n : Nat) (st : List Nc) : Prop where
 inv : Inv ch n st
 tg : ∀ (i : Nat) (c : Nc) (l : List Cl) (t : Cl), st[i]? = some c -> c.tag = some (l, t) -> R l t
 dl : ∀ i j x, isLit st i x -> isLit st j x -> i = j
 sh : cache = true -> ∀ i j l, tagged st i l -> tagged st j l -> i = j
structure Closed (R : List Cl -> Cl -> Prop) (n : Nat) : Prop where
 given : ∀ l t x, R l t -> gL n l -> litN n x -> (zaf l).mem (zac x) = true -> R (zai l x) (t ++ [x])
 split : ∀ l t p, R l t -> gL n l -> p ∈ zaj l -> R p t
structure Chooses (ch : List Cl -> Int) (n : Nat) : Prop where
 ch : ∀ l, gL n l -> l ≠ [] -> (∀ c ∈ l, 2 <= c.length) -> 1 <= ch l /\ ch l <= n /\ (zaf l).mem (ch l) = true
section
variable {ch : List Cl -> Int} {R : List Cl -> Cl -> Prop} {cache : Bool} {n : Nat}
def zbg (c : Nc) : Bool := decide (c.nd.kind ≠ 2)
def Under (st r : List Nc) (l : List Cl) : Prop := ∀ i l', st.length <= i -> tagged (st ++ r) i l' -> ∀ v, (zaf l').mem v = true -> (zaf l).mem v = true
theorem Under.nil (st : List Nc) (l : List Cl) : Under st [] l := fun i l' hi ht => by
 have := ht.lt; simp at this; omega
theorem Under.app {st r q : List Nc} {l : List Cl} (h : Under st r l) (k : Under (st ++ r) q l) : Under st (r ++ q) l := fun i l' hi ht v hv => by
 rw [<- List.append_assoc] at ht
 rcases Nat.lt_or_ge i (st ++ r).length with hj | hj
 ·obtain ⟨c, t, a, b⟩ := ht;rw [List.getElem?_append_left hj] at a;exact h i l' hi ⟨c, t, a, b⟩ v hv
 exact k i l' hj ht v hv
theorem Under.mono {st r : List Nc} {l m : List Cl} (h : Under st r l) (k : ∀ v, (zaf l).mem v = true -> (zaf m).mem v = true) : Under st r m := fun i l' hi ht v hv => k v (h i l' hi ht v hv)
theorem Under.one {st : List Nc} {c : Nc} {l : List Cl} (h : ∀ l' t, c.tag = some (l', t) -> ∀ v, (zaf l').mem v = true -> (zaf l).mem v = true) : Under st [c] l := fun i l' hi ⟨d, t, a, b⟩ v hv => by
 have e : i = st.length := by
  have := zb8 a; simp at this; omega
 subst e;simp at a; subst a;exact h _ _ b v hv
theorem InvR.snoc {st : List Nc} {c : Nc} (h : InvR ch R cache n st) (hf : Form ch n st st.length c) (ht : ∀ l t, c.tag = some (l, t) -> R l t)
 (hd : ∀ x, c.nd = ⟨2, x, []⟩ -> ∀ i, ¬ isLit st i x) (hs : cache = true -> ∀ l t, c.tag = some (l, t) -> ∀ i, ¬ tagged st i l) : InvR ch R cache n (st ++ [c]) := by
 have key : ∀ i d, (st ++ [c])[i]? = some d -> (i < st.length /\ st[i]? = some d) \/ (i = st.length /\ d = c) := fun i d hi => by
  rcases Nat.lt_or_ge i st.length with hj | hj
  ·rw [List.getElem?_append_left hj] at hi; exact .inl ⟨hj, hi⟩
  have e : i = st.length := by have := zb8 hi; simp at this; omega
  subst e; simp at hi; exact .inr ⟨rfl, hi.symm⟩
 refine ⟨h.inv.snoc hf, fun i d l t hi hd' => ?_, fun i j x ⟨d, hi, he⟩ ⟨d', hj, he'⟩ => ?_, fun hc i j l ⟨d, t, hi, he⟩ ⟨d', t', hj, he'⟩ => ?_⟩
 ·rcases key i d hi with ⟨_, h1⟩ | ⟨_, rfl⟩
  ·exact h.tg i d l t h1 hd'
  exact ht l t hd'
 ·rcases key i d hi with ⟨_, h1⟩ | ⟨h0, rfl⟩ <;> rcases key j d' hj with ⟨_, h2⟩ | ⟨h0', e⟩
  ·exact h.dl i j x ⟨d, h1, he⟩ ⟨d', h2, he'⟩
  ·subst e; exact absurd ⟨d, h1, he⟩ (hd x he' i)
  ·exact absurd ⟨d', h2, he'⟩ (hd x he j)
  omega
 rcases key i d hi with ⟨_, h1⟩ | ⟨h0, rfl⟩ <;> rcases key j d' hj with ⟨_, h2⟩ | ⟨h0', e⟩
 ·exact h.sh hc i j l ⟨d, t, h1, he⟩ ⟨d', t', h2, he'⟩
 ·subst e; exact absurd ⟨d, t, h1, he⟩ (hs hc l t' he' i)
 ·exact absurd ⟨d', t', h2, he'⟩ (hs hc l t he j)
 omega
theorem zj4 {n : Nat} {st : List Nc} (h : Inv ch n st) {i : Nat} {c : Nc} (hc : st[i]? = some c) {x : Int} : zdd x c = true ↔ c.nd = ⟨2, x, []⟩ := by
 have hf := h i c hc;unfold zdd;rw [Bool.and_eq_true, decide_eq_true_eq, decide_eq_true_eq]
 constructor
 ·rintro ⟨h1, h2⟩
  cases hf <;> simp at h1 h2
  subst h2; rfl
 intro e; rw [e]; simp
theorem zfx {st : List Nc} (h : InvR ch R cache n st) {x : Int} (hx : litN n x) :
 ∃ r, (litF st x).1 = st ++ r /\ InvR ch R cache n (st ++ r) /\ isLit (st ++ r) (litF st x).2 x /\ r.countP zbg = 0 /\ (∀ l, Under st r l) := by
 unfold litF
 cases hf : st.findIdx? (zdd x) with
 | some i =>
   rw [List.findIdx?_eq_some_iff_getElem] at hf;obtain ⟨hi, h1, _⟩ := hf;have hc : st[i]? = some st[i] := List.getElem?_eq_getElem hi;refine ⟨[], by simp, by simpa using h, ?_, rfl, fun l => Under.nil _ _⟩;rw [List.append_nil];exact ⟨_, hc, (zj4 h.inv hc).1 h1⟩
 | none =>
   rw [List.findIdx?_eq_none_iff] at hf;refine ⟨[⟨⟨2, x, []⟩, none⟩], rfl, ?_, ⟨⟨⟨2, x, []⟩, none⟩, by simp, rfl⟩, rfl, fun l => Under.one fun l' t e => by simp at e⟩;refine h.snoc (.lit hx rfl) (fun l t e => by simp at e) (fun y hy i ⟨c, hc, e⟩ => ?_) (fun _ l t e => by simp at e);simp at hy; subst hy;have := hf c (List.mem_of_getElem? hc);rw [(zj4 h.inv hc).2 e] at this; simp at this
theorem zgi {l : List Cl} {c : Nc} : zbm l c = true ↔ ∃ t, c.tag = some (l, t) := by
 unfold zbm
 cases c.tag with
 | none => simp
 | some t => simp; constructor
             ·rintro rfl; exact ⟨t.2, rfl⟩
             rintro ⟨t', e⟩; rw [e]
theorem zef {st : List Nc} (h : InvR ch R cache n st) (l : List Cl) (term : Cl) (hR : R l term) (mk : List Nc -> List Nc × Nd) (W : Nat) (P : Nd -> Prop)
 (hp : ∀ (i : Nat) (c : Nc) (t : Cl), st[i]? = some c -> c.tag = some (l, t) -> P c.nd)
 (hm : ∃ r, (mk st).1 = st ++ r /\ InvR ch R cache n (st ++ r) /\ r.countP zbg + 1 <= W /\ Under st r l /\ (∀ i, st.length <= i -> ¬ tagged (st ++ r) i l) /\ Form ch n (st ++ r) (st ++ r).length ⟨(mk st).2, some (l, term)⟩ /\ P (mk st).2 /\ (mk st).2.kind ≠ 2) :
 ∃ r, (zam cache st l term mk).1 = st ++ r /\ InvR ch R cache n (st ++ r) /\ tagged (st ++ r) (zam cache st l term mk).2 l /\ (∃ c, (st ++ r)[(zam cache st l term mk).2]? = some c /\ P c.nd) /\ r.countP zbg <= W /\ Under st r l := by
 unfold zam
 cases hf : (if cache then st.findIdx? (zbm l) else none) with
 | some i =>
   have hcc : cache = true := by cases cache <;> simp at hf ⊢
   rw [hcc, if_pos rfl, List.findIdx?_eq_some_iff_getElem] at hf;obtain ⟨hi, h1, _⟩ := hf;obtain ⟨t, ht⟩ := zgi.1 h1;have hc : st[i]? = some st[i] := List.getElem?_eq_getElem hi;refine ⟨[], by simp, by simpa using h, ⟨_, t, by rw [List.append_nil]; exact hc, ht⟩, ⟨st[i], by rw [List.append_nil]; exact hc, hp i _ t hc ht⟩, by simp, Under.nil _ _⟩
 | none =>
   obtain ⟨r, h1, h2, h3, h4, h5, h6, h7, h8⟩ := hm;refine ⟨r ++ [⟨(mk st).2, some (l, term)⟩], by simp [h1], ?_, ⟨⟨(mk st).2, some (l, term)⟩, term, by simp [h1], rfl⟩, ⟨⟨(mk st).2, some (l, term)⟩, by simp [h1], h7⟩, ?_, ?_⟩
   ·rw [<- List.append_assoc];refine h2.snoc h6 (fun l' t e => ?_) (fun x e => ?_) (fun hc l' t e i ht => ?_)
    ·simp at e; rw [<- e.1, <- e.2]; exact hR
    ·simp only at e; rw [e] at h8; simp at h8
    simp at e; rw [<- e.1] at ht
    rcases Nat.lt_or_ge i st.length with hi | hi
    ·obtain ⟨c, t, a, b⟩ := ht;rw [List.getElem?_append_left hi] at a;rw [hc, if_pos rfl, List.findIdx?_eq_none_iff] at hf;have := hf c (List.mem_of_getElem? a);rw [zgi.2 ⟨t, b⟩] at this; simp at this
    exact h5 i hi ht
   ·rw [List.countP_append];have : List.countP zbg [(⟨(mk st).2, some (l, term)⟩ : Nc)] <= 1 := List.countP_le_length;omega
   exact h4.app (Under.one fun l' t e => by simp at e; rw [<- e.1]; exact fun v hv => hv)
theorem zbc {l : List Cl} {x v : Int} (hx : zac x ≠ 0) (h : (zaf (zai l x)).mem v = true) : (zaf l).mem v = true /\ v ≠ zac x := by
 obtain ⟨d, hd, hv⟩ := za8.1 h;obtain ⟨c, hc, hxc, rfl⟩ := zcb.1 hd;obtain ⟨h1, y, hy, rfl⟩ := zdr.1 hv;obtain ⟨hyc, hyx⟩ := List.mem_filter.1 hy;simp only [decide_eq_true_eq] at hyx;refine ⟨za8.2 ⟨c, hc, zdr.2 ⟨h1, y, hyc, rfl⟩⟩, fun e => ?_⟩
 have hyx' : y ≠ x := fun e => hxc (e ▸ hyc)
 rcases zc3 hx with ⟨a, b, c⟩ | ⟨a, b, c⟩ <;> rcases zc3 (show zac y ≠ 0 by omega) with ⟨a', b', c'⟩ | ⟨a', b', c'⟩ <;> omega
theorem zna {s t : St} (h : ∀ v : Int, t.mem v = true -> s.mem v = true) {v : Int} (h1 : s.mem v = true) (h2 : t.mem v = false) (hv : 1 <= v) (hv' : v <= 128) : card t < card s := by
 unfold card
 have e : (List.range 128).countP (fun (j : Nat) => s.mem ((j : Int) + 1)) = (List.range 128).countP (fun (j : Nat) => t.mem ((j : Int) + 1)) + (List.range 128).countP (fun (j : Nat) => s.mem ((j : Int) + 1) && !t.mem ((j : Int) + 1)) := by
  rw [<- zl3 (fun j => by rintro ⟨a, b⟩; rw [a] at b; simp at b)]
  congr 1; funext j
  cases ht : t.mem ((j : Int) + 1) with
  | true => simp [h _ ht]
  | false => simp
 rw [e]
 have : 0 < (List.range 128).countP (fun (j : Nat) => s.mem ((j : Int) + 1) && !t.mem ((j : Int) + 1)) := by
  rw [List.countP_pos_iff];exact ⟨(v - 1).toNat, List.mem_range.2 (by omega), by rw [show (((v - 1).toNat : Nat) : Int) + 1 = v by omega, h1, h2]; rfl⟩
 omega
theorem zhx {s t : St} (h : ∀ v : Int, t.mem v = true -> s.mem v = true) : card t <= card s := by
 unfold card; exact List.countP_mono_left fun x _ hx => h _ hx
theorem znn {s : St} {v : Int} (h : s.mem v = true) : 1 <= v /\ v <= 128 := by
 unfold St.mem at h
 by_cases a : 1 <= v /\ v <= 64
 ·omega
 rw [if_neg a] at h
 by_cases b : 65 <= v /\ v <= 128
 ·omega
 rw [if_neg b] at h; simp at h
theorem zgs {l p : List Cl} (hp : p ∈ zaj l) {v : Int} (h : (zaf p).mem v = true) : (zaf l).mem v = true := by
 obtain ⟨c, hc, hv⟩ := za8.1 h;exact za8.2 ⟨c, zci.1 ⟨p, hp, hc⟩, hv⟩
theorem zhh {l : List Cl} {c : Cl} {x : Int} (hc : c ∈ l) (hx : x ∈ c) (h : zac x ≠ 0) : (zaf l).mem (zac x) = true :=
 za8.2 ⟨c, hc, zdr.2 ⟨by have := zb6 x; omega, x, hx, rfl⟩⟩
theorem zme {x : Int} {l : List Cl} : (zai ([x] :: l) x).length <= l.length := by
 unfold zai;refine Nat.le_trans (za9 _) ?_;rw [List.length_map, List.filter_cons_of_neg (by simp)];exact List.length_filter_le _ _
def zek : List Cl -> Bool | [_] :: _ => false | _ => true
theorem zi9 (hn : n <= 128) (hC : Closed R n) : ∀ (f : Nat) (u : Us), InvR ch R cache n u.st -> gL n u.l -> R u.l u.term ->
 ∃ r i', (zap f u).st = u.st ++ r /\ InvR ch R cache n (u.st ++ r) /\ gL n (zap f u).l /\ R (zap f u).l (zap f u).term /\ (zap f u).ins = u.ins ++ i' /\ r.countP zbg = 0 /\ (∀ l, Under u.st r l) /\
  (∀ v, (zaf (zap f u).l).mem v = true -> (zaf u.l).mem v = true) /\ (∀ st' rest, Fit (u.st ++ r ++ st') (zap f u).l rest -> Fit (u.st ++ r ++ st') u.l (i' ++ rest)) /\ (u.l.length <= f -> zek (zap f u).l = true)
 | 0, u, h, hg, hR => ⟨[], [], by simp [zap], by simpa using h, hg, hR, by simp [zap], rfl, fun l => Under.nil _ _, fun v hv => hv, fun st' rest hf => by simpa [zap] using hf, fun hl => by
    have : u.l = [] := List.eq_nil_of_length_eq_zero (by omega)
    simp [zap, this, zek]⟩
 | f + 1, u, h, hg, hR => by
   obtain ⟨st, l, term, ins⟩ := u
   match l, hg, hR with
   | [x] :: l, hg, hR =>
     have hx : litN n x := (hg.gc [x] (by simp)).rg x (by simp);obtain ⟨r, h1, h2, h3, h4, h5⟩ := zfx h hx;have hxv := zhh (l := [x] :: l) (c := [x]) (by simp) (x := x) (by simp) (hx.ok hn).1;obtain ⟨r', i', k1, k2, k3, k4, k5, k6, k7, k8, k9, k10⟩ := zi9 hn hC f ⟨(litF st x).1, zai ([x] :: l) x, term ++ [x], ins ++ [(litF st x).2]⟩ (by rw [h1]; exact h2) (zbl hg.gc x) (hC.given _ _ _ hR hg hx hxv);simp only at k1 k2 k3 k4 k5 k6 k7 k8 k9 k10;have eu : zap (f + 1) ⟨st, [x] :: l, term, ins⟩ = zap f ⟨(litF st x).1, zai ([x] :: l) x, term ++ [x], ins ++ [(litF st x).2]⟩ := rfl;rw [eu];generalize zap f ⟨(litF st x).1, zai ([x] :: l) x, term ++ [x], ins ++ [(litF st x).2]⟩ = U at *
     rw [h1] at k2 k7 k9;refine ⟨r ++ r', (litF st x).2 :: i', by rw [k1, h1, List.append_assoc], by rw [<- List.append_assoc]; exact k2, k3, k4, by rw [k5]; simp, by rw [List.countP_append, h4, k6], fun m => (h5 m).app (k7 m), fun v hv => (zbc (hx.ok hn).1 (k8 v hv)).1, fun st' rest hf => ?_, fun hl => ?_⟩
     ·rw [<- List.append_assoc] at hf ⊢;have := k9 st' rest hf;refine .unit ?_ this;rw [List.append_assoc];exact h3.more
     simp only [List.length_cons] at hl;exact k10 (Nat.le_trans zme (by omega))
   | [], hg, hR => exact ⟨[], [], by simp [zap], by simpa using h, hg, hR, by simp [zap], rfl, fun l => Under.nil _ _, fun v hv => hv, fun st' rest hf => by simpa [zap] using hf, fun _ => rfl⟩
   | [] :: l, hg, hR => exact ⟨[], [], by simp [zap], by simpa using h, hg, hR, by simp [zap], rfl, fun l => Under.nil _ _, fun v hv => hv, fun st' rest hf => by simpa [zap] using hf, fun _ => rfl⟩
   | (x :: y :: c) :: l, hg, hR => exact ⟨[], [], by simp [zap], by simpa using h, hg, hR, by simp [zap], rfl, fun l => Under.nil _ _, fun v hv => hv, fun st' rest hf => by simpa [zap] using hf, fun _ => rfl⟩
theorem zrj {a b : Cl} (h : ltC a b) : a.length <= b.length := by
 unfold ltC cmpC at h
 split at h <;> omega
theorem znk {l : List Cl} (hs : l.Pairwise ltC) (h1 : zek l = true) (h2 : za7 l = false) : ∀ c ∈ l, 2 <= c.length := by
 match l, hs, h1, h2 with
 | [], _, _, _ => simp
 | [] :: _, _, _, h2 => simp [za7] at h2
 | [_] :: _, _, h1, _ => simp [zek] at h1
 | (x :: y :: c) :: l, hs, _, _ =>
   intro d hd
   rcases List.mem_cons.1 hd with rfl | hd
   ·simp
   have := zrj ((List.pairwise_cons.1 hs).1 d hd);simp at this; omega
end
def zck (T : Cl) : Cl -> Int -> Option Int
 | [], x => some x
 | l :: c, x => if T.contains l then none else if T.contains (-l) || decide (l = x) then zck T c x else if x = 0 then zck T c l else none
def zny (T : Cl) (t : List Cl) : Option Int := t.findSome? fun c => zck T c 0
def zc5 (t : List Cl) : Nat -> Cl -> Cl × Bool
 | 0, T => (T, false)
 | f + 1, T => match zny T t with
   | none => (T, false)
   | some x => if x = 0 then (T, true) else zc5 t f (T ++ [x])
structure gT (n : Nat) (T : Cl) : Prop where
 rg : ∀ x ∈ T, litN n x
 nd : T.Pairwise fun a b => zac a ≠ zac b
theorem zqk {u v : Int} (h : (if u < 0 then -u else u) = (if v < 0 then -v else v)) : u = v \/ u = -v := by
 by_cases h1 : u < 0 <;> by_cases h2 : v < 0
 ·rw [if_pos h1, if_pos h2] at h; exact .inl (by omega)
 ·rw [if_pos h1, if_neg h2] at h; exact .inr (by omega)
 ·rw [if_neg h1, if_pos h2] at h; exact .inr (by omega)
 rw [if_neg h1, if_neg h2] at h; exact .inl h
theorem gT.nil (n : Nat) : gT n [] := ⟨by simp, by simp⟩
theorem gT.snoc {n : Nat} {T : Cl} (h : gT n T) {x : Int} (hx : litN n x) (hn : n <= 128) (h1 : x ∉ T) (h2 : -x ∉ T) : gT n (T ++ [x]) := by
 refine ⟨fun y hy => ?_, ?_⟩
 ·rcases List.mem_append.1 hy with hy | hy
  ·exact h.rg y hy
  simp at hy; subst hy; exact hx
 rw [List.pairwise_append];refine ⟨h.nd, by simp, fun a ha b hb e => ?_⟩;simp at hb; subst hb;have hr := h.rg a ha;rw [zal hr.1 (by have := hr.2; omega) (by have := hr.2; omega), zal hx.1 (by have := hx.2; omega) (by have := hx.2; omega)] at e;have : a = b \/ a = -b := zqk e
 rcases this with rfl | rfl
 ·exact h1 ha
 exact h2 ha
theorem gT.len {n : Nat} {T : Cl} (hn : n <= 128) (h : gT n T) : T.length <= n := by
 have h1 := zcj (l := T.map fun x => zac x - 1) (b := n) (by
  show List.Pairwise _ _
  rw [List.pairwise_map]
  exact h.nd.imp fun hab e => hab (by omega)) (fun i hi => by
  obtain ⟨x, hx, rfl⟩ := List.mem_map.1 hi;have hr := h.rg x hx;have h0 := hr.1;have h2 := hr.2;rw [zal hr.1 (by omega) (by omega)]
  split <;> omega)
 rwa [List.length_map] at h1
theorem gT.nt {n : Nat} {T : Cl} (hn : n <= 128) (h : gT n T) {x : Int} (hx : x ∈ T) : -x ∉ T := fun hy => by
 have h0 := (h.rg x hx).1;have hv := zca x
 have key : ∀ {l : Cl}, (l.Pairwise fun a b => zac a ≠ zac b) -> ∀ a ∈ l, ∀ b ∈ l, zac a = zac b -> a = b := by
  intro l hl
  induction l with
  | nil => intro a ha; simp at ha
  | cons c l ih =>
    rw [List.pairwise_cons] at hl;intro a ha b hb e
    rcases List.mem_cons.1 ha with ea | ha'
    ·rcases List.mem_cons.1 hb with eb | hb'
     ·rw [ea, eb]
     subst ea; exact absurd e (hl.1 b hb')
    rcases List.mem_cons.1 hb with eb | hb'
    ·subst eb; exact absurd e.symm (hl.1 a ha')
    exact ih hl.2 a ha' b hb' e
 have := key h.nd _ hy _ hx hv;omega
theorem gT.taut {n : Nat} {T : Cl} (hn : n <= 128) (h : gT n T) : taut T = false := by
 cases e : Cen.taut T with
 | false => rfl
 | true => obtain ⟨x, hx, hx'⟩ := zcd.1 e; exact absurd hx' (h.nt hn hx)
theorem ziy {T : Cl} : ∀ {c : Cl} {x y : Int}, zck T c x = some y -> y = x \/ (y ∈ c /\ y ∉ T /\ -y ∉ T)
 | [], x, y, h => by simp [zck] at h; exact .inl h.symm
 | l :: c, x, y, h => by
   rw [zck] at h
   split at h
   ·simp at h
   rename_i h1
   split at h
   ·rcases ziy h with e | ⟨a, b⟩
    ·exact .inl e
    exact .inr ⟨by simp [a], b⟩
   rename_i h2
   split at h
   ·rcases ziy h with e | ⟨a, b⟩
    ·subst e;simp only [Bool.or_eq_true, decide_eq_true_eq, not_or, List.contains_iff_mem] at h1 h2;exact .inr ⟨by simp, h1, h2.1⟩
    exact .inr ⟨by simp [a], b⟩
   simp at h
theorem zmx {T : Cl} {t : List Cl} {x : Int} (h : zny T t = some x) (h0 : x ≠ 0) : (∃ c ∈ t, x ∈ c) /\ x ∉ T /\ -x ∉ T := by
 obtain ⟨c, hc, hx⟩ := List.exists_of_findSome?_eq_some h
 rcases ziy hx with e | ⟨a, b, d⟩
 ·exact absurd e h0
 exact ⟨⟨c, hc, a⟩, b, d⟩
theorem zgo {n : Nat} (hn : n <= 128) {t : List Cl} (ht : ∀ c ∈ t, ∀ x ∈ c, litN n x) : ∀ (f : Nat) (T : Cl), gT n T -> gT n (zc5 t f T).1
 | 0, T, h => h
 | f + 1, T, h => by
   rw [zc5]
   cases e : zny T t with
   | none => exact h
   | some x =>
     simp only
     by_cases h0 : x = 0
     ·rw [if_pos h0]; exact h
     rw [if_neg h0];obtain ⟨⟨c, hc, hx⟩, h1, h2⟩ := zmx e h0;exact zgo hn ht f _ (h.snoc (ht c hc x hx) hn h1 h2)
def zbv (n : Nat) (t : List Cl) (d : Int) : Bool :=
 if (zc5 t (n + 1) []).2 then true
 else if (zc5 t (n + 1) []).1.contains (-d) then true
 else (zc5 t (n + 1) (if (zc5 t (n + 1) []).1.contains d then (zc5 t (n + 1) []).1 else (zc5 t (n + 1) []).1 ++ [d])).2
def zan (l : List Cl) (v : Int) : Nat := l.flatten.countP fun y => decide (zac y = v)
def zcz (probe : Bool) (n : Nat) (l : List Cl) : Nat -> Nat -> Int -> Int
 | 0, _, b => b
 | f + 1, v, b =>
   if zan l v = 0 then zcz probe n l f (v + 1) b
   else if probe && (zbv n l v || zbv n l (-(v : Int))) then v
   else if zan l b < zan l v then zcz probe n l f (v + 1) v else zcz probe n l f (v + 1) b
def chF (order : List Int) (probe : Bool) (n : Nat) (l : List Cl) : Int :=
 match order.find? fun v => decide (0 < zan l v) with
 | some v => v
 | none => zcz probe n l (n + 1) 0 0
theorem zkn {l : List Cl} {v : Int} : 0 < zan l v ↔ ∃ c ∈ l, ∃ y ∈ c, zac y = v := by
 unfold zan;rw [List.countP_pos_iff]
 constructor
 ·rintro ⟨y, hy, h⟩;obtain ⟨c, hc, hyc⟩ := List.mem_flatten.1 hy;exact ⟨c, hc, y, hyc, by simpa using h⟩
 rintro ⟨c, hc, y, hy, h⟩;exact ⟨y, List.mem_flatten.2 ⟨c, hc, hy⟩, by simpa using h⟩
theorem zfm {probe : Bool} {n : Nat} {l : List Cl} : ∀ (f v : Nat) (b : Int), (0 < zan l b \/ ∃ u : Nat, v <= u /\ u < v + f /\ 0 < zan l u) -> 0 < zan l (zcz probe n l f v b)
 | 0, v, b, h => by
   rcases h with h | ⟨u, h1, h2, _⟩
   ·exact h
   omega
 | f + 1, v, b, h => by
   rw [zcz]
   have skip : ∀ u : Nat, v <= u -> u < v + (f + 1) -> 0 < zan l u -> zan l v = 0 \/ u = v -> u ≠ v -> v + 1 <= u /\ u < v + 1 + f := fun u h1 h2 _ _ h3 => by omega
   by_cases h0 : zan l v = 0
   ·rw [if_pos h0];refine zfm f (v + 1) b ?_
    rcases h with h | ⟨u, h1, h2, h3⟩
    ·exact .inl h
    refine .inr ⟨u, ?_, by omega, h3⟩
    rcases Nat.lt_or_ge v u with h4 | h4
    ·exact h4
    have : u = v := by omega
    subst this; omega
   rw [if_neg h0]
   split
   ·omega
   split
   ·exact zfm f (v + 1) v (.inl (by omega))
   rename_i h5
   exact zfm f (v + 1) b (.inl (by omega))
theorem zvz {order : List Int} {probe : Bool} {n : Nat} (hn : n <= 128) {l : List Cl} (hg : ∀ c ∈ l, ∀ x ∈ c, litN n x) (hne : ∃ c ∈ l, c ≠ []) : 0 < zan l (chF order probe n l) := by
 unfold chF
 split
 ·rename_i v e
  have := List.find?_some e
  simpa using this
 refine zfm _ _ _ (.inr ?_);obtain ⟨c, hc, h0⟩ := hne
 cases c with
 | nil => exact absurd rfl h0
 | cons y c =>
   have hy := hg _ hc y (by simp)
   have hv : zac y = ((zac y).toNat : Nat) /\ zac y <= n := by
    rw [zal hy.1 (by have := hy.2; omega) (by have := hy.2; omega)];have := hy.2
    split <;> omega
   exact ⟨(zac y).toNat, by omega, by omega, zkn.2 ⟨_, hc, y, by simp, hv.1⟩⟩
theorem zko {n : Nat} (hn : n <= 128) {l : List Cl} (hg : ∀ c ∈ l, ∀ x ∈ c, litN n x) {v : Int} (h : 0 < zan l v) : 1 <= v /\ v <= n /\ (zaf l).mem v = true := by
 obtain ⟨c, hc, y, hy, rfl⟩ := zkn.1 h;have hr := hg c hc y hy
 have hv : 1 <= zac y /\ zac y <= n := by
  rw [zal hr.1 (by have := hr.2; omega) (by have := hr.2; omega)];have := hr.2; have := hr.1
  split <;> omega
 exact ⟨hv.1, hv.2, za8.2 ⟨c, hc, zdr.2 ⟨hv.1, y, hy, rfl⟩⟩⟩
theorem ze3 {order : List Int} {probe : Bool} {n : Nat} (hn : n <= 128) : Chooses (chF order probe n) n := ⟨fun l hg hne h2 => by
 have hr : ∀ c ∈ l, ∀ x ∈ c, litN n x := fun c hc x hx => (hg.gc c hc).rg x hx
 refine zko hn hr (zvz hn hr ?_)
 cases l with
 | nil => exact absurd rfl hne
 | cons c l => exact ⟨c, by simp, fun e => by have := h2 c (by simp); rw [e] at this; simp at this⟩⟩
def zb4 (c : Cl) : List UInt8 := c.flatMap zc9 ++ [48]
def keyC (l : List Cl) : List UInt8 := l.flatMap zb4
theorem zjh (u : Nat) : u ≠ 0 -> (Go.Lib.decDigits u).head? ≠ some 48 := by
 induction u using Nat.strongRecOn with
 | _ u ih =>
   intro hu;rw [Go.Lib.decDigits]
   split
   ·rename_i h
    intro e;simp only [List.head?_cons, Option.some.injEq] at e;have := congrArg UInt8.toNat e;rw [zc0 h] at this;have h48 : (48 : UInt8).toNat = 48 := rfl;omega
   rename_i h
   have h2 := ih (u / 10) (by omega) (by omega);have h3 := zgx (u / 10)
   cases hd : Go.Lib.decDigits (u / 10) with
   | nil => exact absurd hd h3
   | cons y t => rw [hd] at h2; simpa using h2
theorem zmh {x : Int} (h : x ≠ 0) (r : List UInt8) : (zc9 x ++ r).head? ≠ some 48 := by
 unfold zc9 Go.Lib.itoa
 split
 ·simp
 have h2 := zjh x.toNat (by omega);have h3 := zgx x.toNat
 cases hd : Go.Lib.decDigits x.toNat with
 | nil => exact absurd hd h3
 | cons y t => rw [hd] at h2; simpa using h2
theorem zmj : ∀ {c d : Cl} {r s : List UInt8}, (0 ∉ c) -> (0 ∉ d) -> zb4 c ++ r = zb4 d ++ s -> c = d /\ r = s
 | [], [], r, s, _, _, h => by simpa [zb4] using h
 | [], y :: d, r, s, _, hd, h => by
   have h1 := congrArg List.head? h;simp only [zb4, List.flatMap_nil, List.nil_append, List.flatMap_cons, List.append_assoc, List.singleton_append, List.head?_cons] at h1;exact absurd h1.symm (zmh (fun e => hd (by simp [e])) _)
 | x :: c, [], r, s, hc, _, h => by
   have h1 := congrArg List.head? h;simp only [zb4, List.flatMap_nil, List.nil_append, List.flatMap_cons, List.append_assoc, List.singleton_append, List.head?_cons] at h1;exact absurd h1 (zmh (fun e => hc (by simp [e])) _)
 | x :: c, y :: d, r, s, hc, hd, h => by
   have h' : zc9 x ++ (zb4 c ++ r) = zc9 y ++ (zb4 d ++ s) := by simpa [zb4] using h
   obtain ⟨h1, h2⟩ := zrb h';simp only [List.mem_cons, not_or] at hc hd;obtain ⟨h3, h4⟩ := zmj hc.2 hd.2 h2;exact ⟨by rw [h1, h3], h4⟩
theorem zou (c : Cl) : zb4 c ≠ [] := by simp [zb4]
theorem zot : ∀ {l m : List Cl}, (∀ c ∈ l, 0 ∉ c) -> (∀ c ∈ m, 0 ∉ c) -> keyC l = keyC m -> l = m
 | [], [], _, _, _ => rfl
 | [], d :: m, _, _, h => by
   simp only [keyC, List.flatMap_nil, List.flatMap_cons] at h;exact absurd (List.append_eq_nil_iff.1 h.symm).1 (zou d)
 | c :: l, [], _, _, h => by
   simp only [keyC, List.flatMap_nil, List.flatMap_cons] at h;exact absurd (List.append_eq_nil_iff.1 h).1 (zou c)
 | c :: l, d :: m, hl, hm, h => by
   simp only [keyC, List.flatMap_cons] at h;obtain ⟨h1, h2⟩ := zmj (hl c (by simp)) (hm d (by simp)) h;rw [h1, zot (fun x hx => hl x (by simp [hx])) (fun x hx => hm x (by simp [hx])) h2]
theorem zrf {c : Cl} (h : ∀ x ∈ c, -65536 <= x /\ x <= 65536) : (zb4 c).length <= 21 * c.length + 1 := by
 have := zti c h;unfold zb4; simp only [List.length_append, List.length_singleton]; omega
end Cen
