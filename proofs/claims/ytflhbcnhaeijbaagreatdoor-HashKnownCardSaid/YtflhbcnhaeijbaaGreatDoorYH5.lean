/- Part of the proofs that laws return true for every input, where the tables that the rows list are laid. Texts: CpI, CpS, Cp1, CpX. -/
import Derived.Test.YtflhbcnhaeijbaaGreatDoorYH4
import Derived.Test.YtflhbcnhaeijbaaGreatDoorYH3
import Derived.Test.YtflhbcnhaeijbaaGreatDoorYH2
import Derived.Test.YtflhbcnhaeijbaaGreatDoorYH1
set_option maxHeartbeats 8000000
set_option maxRecDepth 100000
set_option linter.unusedSimpArgs false
set_option linter.unusedVariables false
namespace Cen
def nds (st : List Nc) : List Nd := st.map fun c => c.nd
def isLit (st : List Nc) (i : Nat) (x : Int) : Prop := ∃ c, st[i]? = some c /\ c.nd = ⟨2, x, []⟩
def tagged (st : List Nc) (i : Nat) (l : List Cl) : Prop := ∃ c t, st[i]? = some c /\ c.tag = some (l, t)
def zag (l : List Nat) : List Int := l.map fun (i : Nat) => (i : Int)
inductive Fit (st : List Nc) : List Cl -> List Nat -> Prop
 | unit {x : Int} {l : List Cl} {i : Nat} {ins : List Nat} : isLit st i x -> Fit st (zai ([x] :: l) x) ins -> Fit st ([x] :: l) (i :: ins)
 | bad {l : List Cl} {i : Nat} : tagged st i ([] :: l) -> (∃ c, st[i]? = some c /\ c.nd = ⟨0, 0, []⟩) -> Fit st ([] :: l) [i]
 | parts {l : List Cl} {ins : List Nat} : (∀ c ∈ l, 2 <= c.length) -> ins.length = (zaj l).length ->
    (∀ k, k < ins.length -> tagged st (ins.getD k 0) ((zaj l).getD k []) /\ ∃ c, st[ins.getD k 0]? = some c /\ c.nd.kind = 4) -> Fit st l ins
def Side (st : List Nc) (l : List Cl) (x : Int) (i : Nat) : Prop :=
 (zai l x = [] /\ isLit st i x) \/ (zai l x ≠ [] /\ ∃ c k ins, st[i]? = some c /\ c.nd = ⟨3, 0, zag (k :: ins)⟩ /\ c.tag = none /\ isLit st k x /\ Fit st (zai l x) ins /\ k < i /\ ∀ j ∈ ins, j < i)
def litN (n : Nat) (x : Int) : Prop := x ≠ 0 /\ -(n : Int) <= x /\ x <= n
inductive Form (ch : List Cl -> Int) (n : Nat) (st : List Nc) (i : Nat) : Nc -> Prop
 | lit {x : Int} {t : Option (List Cl × Cl)} : litN n x -> t = none -> Form ch n st i ⟨⟨2, x, []⟩, t⟩
 | bad {l : List Cl} {t : Cl} : gL n ([] :: l) -> Form ch n st i ⟨⟨0, 0, []⟩, some ([] :: l, t)⟩
 | dec {l : List Cl} {t : Cl} {a b : Nat} : gL n l -> l ≠ [] -> (∀ c ∈ l, 2 <= c.length) -> 1 <= ch l -> ch l <= n -> (zaf l).mem (ch l) = true -> a < i -> b < i -> Side st l (-ch l) a -> Side st l (ch l) b -> Form ch n st i ⟨⟨4, 0, [(a : Int), (b : Int)]⟩, some (l, t)⟩
 | and {l : List Cl} {x : Int} {k : Nat} {ins : List Nat} : k < i -> (∀ j ∈ ins, j < i) -> gL n l -> isLit st k x -> zai l x ≠ [] -> Fit st (zai l x) ins -> Form ch n st i ⟨⟨3, 0, zag (k :: ins)⟩, none⟩
def Inv (ch : List Cl -> Int) (n : Nat) (st : List Nc) : Prop := ∀ i c, st[i]? = some c -> Form ch n st i c
section
variable {ch : List Cl -> Int} {st r : List Nc} {n : Nat}
theorem zdw {i : Nat} {c : Nc} (h : st[i]? = some c) : (st ++ r)[i]? = some c := by
 have : i < st.length := by
  rcases Nat.lt_or_ge i st.length with h' | h'
  ·exact h'
  rw [List.getElem?_eq_none h'] at h; simp at h
 rw [List.getElem?_append_left this]; exact h
theorem isLit.more {i : Nat} {x : Int} (h : isLit st i x) : isLit (st ++ r) i x := let ⟨c, a, b⟩ := h; ⟨c, zdw a, b⟩
theorem tagged.more {i : Nat} {l : List Cl} (h : tagged st i l) : tagged (st ++ r) i l := let ⟨c, t, a, b⟩ := h; ⟨c, t, zdw a, b⟩
theorem Fit.more {l : List Cl} {ins : List Nat} (h : Fit st l ins) : Fit (st ++ r) l ins := by
 induction h with
 | unit a _ ih => exact .unit a.more ih
 | bad a b => exact .bad a.more (let ⟨c, p, q⟩ := b; ⟨c, zdw p, q⟩)
 | parts a b c => exact .parts a b fun k hk => ⟨(c k hk).1.more, let ⟨d, p, q⟩ := (c k hk).2; ⟨d, zdw p, q⟩⟩
theorem Side.more {l : List Cl} {x : Int} {i : Nat} (h : Side st l x i) : Side (st ++ r) l x i := by
 rcases h with ⟨a, b⟩ | ⟨a, c, k, ins, d, e, f, g, h1, h2, h3⟩
 ·exact .inl ⟨a, b.more⟩
 exact .inr ⟨a, c, k, ins, zdw d, e, f, g.more, h1.more, h2, h3⟩
theorem Form.more {i : Nat} {c : Nc} (h : Form ch n st i c) : Form ch n (st ++ r) i c := by
 cases h with
 | lit a b => exact .lit a b
 | bad a => exact .bad a
 | dec a b c d e f g h p q => exact .dec a b c d e f g h p.more q.more
 | and a b c d e f => exact .and a b c d.more e f.more
theorem Inv.snoc {c : Nc} (h : Inv ch n st) (hc : Form ch n st st.length c) : Inv ch n (st ++ [c]) := by
 intro i d hd
 rcases Nat.lt_or_ge i st.length with hi | hi
 ·rw [List.getElem?_append_left hi] at hd;exact (h i d hd).more
 rw [List.getElem?_append_right hi] at hd
 have e : i = st.length := by
  rcases Nat.eq_or_lt_of_le hi with e | e
  ·exact e.symm
  rw [List.getElem?_eq_none (by simp; omega)] at hd; simp at hd
 subst e;simp at hd; subst hd;exact hc.more
theorem Inv.nil (n : Nat) : Inv ch n [] := fun i c h => by simp at h
theorem zb8 {i : Nat} {c : Nc} (h : st[i]? = some c) : i < st.length := by
 rcases Nat.lt_or_ge i st.length with h' | h'
 ·exact h'
 rw [List.getElem?_eq_none h'] at h; simp at h
theorem isLit.lt {i : Nat} {x : Int} (h : isLit st i x) : i < st.length := let ⟨_, a, _⟩ := h; zb8 a
theorem tagged.lt {i : Nat} {l : List Cl} (h : tagged st i l) : i < st.length := let ⟨_, _, a, _⟩ := h; zb8 a
theorem Fit.lt {l : List Cl} {ins : List Nat} (h : Fit st l ins) : ∀ j ∈ ins, j < st.length := by
 induction h with
 | unit a _ ih =>
   intro j hj
   rcases List.mem_cons.1 hj with rfl | hj
   ·exact a.lt
   exact ih j hj
 | bad a _ => intro j hj; simp at hj; subst hj; exact a.lt
 | parts a b c =>
   intro j hj;obtain ⟨k, hk, rfl⟩ := List.getElem_of_mem hj;have := (c k hk).1.lt
   simpa [List.getD_eq_getElem?_getD, hk] using this
theorem litN.ok {x : Int} (hn : n <= 128) (h : litN n x) : zac x ≠ 0 /\ zac x <= n := by
 obtain ⟨h1, h2, h3⟩ := h
 rw [zal h1 (by omega) (by omega)]; split <;> omega
theorem Form.ok (hn : n <= 128) {i : Nat} {c : Nc} (h : Form ch n st i c) : ndOk c.nd n i = true := by
 cases h with
 | lit a b =>
   have := a.ok hn
   simp [ndOk, zhb, zcr, zas, this]
 | bad a => simp [ndOk, zhb, zcr]
 | dec a b c d e f g h p q =>
   simp only [ndOk, zhb, zcr, List.all_cons, List.all_nil, Bool.and_true, Bool.and_eq_true, decide_eq_true_eq];refine ⟨⟨⟨by omega, by omega⟩, by omega, by omega⟩, ?_⟩
   simp
 | and a b c d e f =>
   simp only [ndOk, Bool.and_eq_true];refine ⟨?_, by simp [zcr]⟩;unfold zhb zag;rw [List.all_eq_true];intro y hy;rw [List.mem_map] at hy;obtain ⟨j, hj, rfl⟩ := hy;simp only [Bool.and_eq_true, decide_eq_true_eq]
   rcases List.mem_cons.1 hj with rfl | hj
   ·omega
   have := b j hj; omega
theorem zdh {i : Nat} {c : Nc} (h : st[i]? = some c) : nd (nds st) (i : Int) = c.nd := by
 unfold nd nds
 simp [List.getD_eq_getElem?_getD, h]
theorem Inv.nds (hn : n <= 128) (h : Inv ch n st) : zno (nds st) n (nds st).length := by
 intro j hj
 have hl : j < st.length := by simpa [Cen.nds] using hj
 have hc : st[j]? = some st[j] := List.getElem?_eq_getElem hl;have := zdh hc;unfold nd at this;simp only [Int.toNat_natCast] at this;rw [this];exact (h j _ hc).ok hn
end
structure InvR (ch : List Cl -> Int) (R : List Cl -> Cl -> Prop) (cache : Bool) (n : Nat) (st : List Nc) : Prop where
 inv : Inv ch n st
 tg : ∀ (i : Nat) (c : Nc) (l : List Cl) (t : Cl), st[i]? = some c -> c.tag = some (l, t) -> R l t
 dl : ∀ i j x, isLit st i x -> isLit st j x -> i = j
 sh : cache = true -> ∀ i j l, tagged st i l -> tagged st j l -> i = j
structure Closed (R : List Cl -> Cl -> Prop) (n : Nat) : Prop where
 given : ∀ l t x, R l t -> gL n l -> litN n x -> (zaf l).mem (zac x) = true -> R (zai l x) (t ++ [x])
 split : ∀ l t p, R l t -> gL n l -> p ∈ zaj l -> R p t
structure Chooses (ch : List Cl -> Int) (n : Nat) : Prop where
 ch : ∀ l, gL n l -> l ≠ [] -> (∀ c ∈ l, 2 <= c.length) -> 1 <= ch l /\ ch l <= n /\ (zaf l).mem (ch l) = true
section
variable {ch : List Cl -> Int} {R : List Cl -> Cl -> Prop} {cache : Bool} {n : Nat}
def zbg (c : Nc) : Bool := decide (c.nd.kind ≠ 2)
def Under (st r : List Nc) (l : List Cl) : Prop := ∀ i l', st.length <= i -> tagged (st ++ r) i l' -> ∀ v, (zaf l').mem v = true -> (zaf l).mem v = true
theorem Under.nil (st : List Nc) (l : List Cl) : Under st [] l := fun i l' hi ht => by
 have := ht.lt; simp at this; omega
theorem Under.app {st r q : List Nc} {l : List Cl} (h : Under st r l) (k : Under (st ++ r) q l) : Under st (r ++ q) l := fun i l' hi ht v hv => by
 rw [<- List.append_assoc] at ht
 rcases Nat.lt_or_ge i (st ++ r).length with hj | hj
 ·obtain ⟨c, t, a, b⟩ := ht;rw [List.getElem?_append_left hj] at a;exact h i l' hi ⟨c, t, a, b⟩ v hv
 exact k i l' hj ht v hv
theorem Under.mono {st r : List Nc} {l m : List Cl} (h : Under st r l) (k : ∀ v, (zaf l).mem v = true -> (zaf m).mem v = true) : Under st r m := fun i l' hi ht v hv => k v (h i l' hi ht v hv)
theorem Under.one {st : List Nc} {c : Nc} {l : List Cl} (h : ∀ l' t, c.tag = some (l', t) -> ∀ v, (zaf l').mem v = true -> (zaf l).mem v = true) : Under st [c] l := fun i l' hi ⟨d, t, a, b⟩ v hv => by
 have e : i = st.length := by
  have := zb8 a; simp at this; omega
 subst e;simp at a; subst a;exact h _ _ b v hv
theorem InvR.snoc {st : List Nc} {c : Nc} (h : InvR ch R cache n st) (hf : Form ch n st st.length c) (ht : ∀ l t, c.tag = some (l, t) -> R l t)
 (hd : ∀ x, c.nd = ⟨2, x, []⟩ -> ∀ i, ¬ isLit st i x) (hs : cache = true -> ∀ l t, c.tag = some (l, t) -> ∀ i, ¬ tagged st i l) : InvR ch R cache n (st ++ [c]) := by
 have key : ∀ i d, (st ++ [c])[i]? = some d -> (i < st.length /\ st[i]? = some d) \/ (i = st.length /\ d = c) := fun i d hi => by
  rcases Nat.lt_or_ge i st.length with hj | hj
  ·rw [List.getElem?_append_left hj] at hi; exact .inl ⟨hj, hi⟩
  have e : i = st.length := by have := zb8 hi; simp at this; omega
  subst e; simp at hi; exact .inr ⟨rfl, hi.symm⟩
 refine ⟨h.inv.snoc hf, fun i d l t hi hd' => ?_, fun i j x ⟨d, hi, he⟩ ⟨d', hj, he'⟩ => ?_, fun hc i j l ⟨d, t, hi, he⟩ ⟨d', t', hj, he'⟩ => ?_⟩
 ·rcases key i d hi with ⟨_, h1⟩ | ⟨_, rfl⟩
  ·exact h.tg i d l t h1 hd'
  exact ht l t hd'
 ·rcases key i d hi with ⟨_, h1⟩ | ⟨h0, rfl⟩ <;> rcases key j d' hj with ⟨_, h2⟩ | ⟨h0', e⟩
  ·exact h.dl i j x ⟨d, h1, he⟩ ⟨d', h2, he'⟩
  ·subst e; exact absurd ⟨d, h1, he⟩ (hd x he' i)
  ·exact absurd ⟨d', h2, he'⟩ (hd x he j)
  omega
 rcases key i d hi with ⟨_, h1⟩ | ⟨h0, rfl⟩ <;> rcases key j d' hj with ⟨_, h2⟩ | ⟨h0', e⟩
 ·exact h.sh hc i j l ⟨d, t, h1, he⟩ ⟨d', t', h2, he'⟩
 ·subst e; exact absurd ⟨d, t, h1, he⟩ (hs hc l t' he' i)
 ·exact absurd ⟨d', t', h2, he'⟩ (hs hc l t he j)
 omega
theorem zj4 {n : Nat} {st : List Nc} (h : Inv ch n st) {i : Nat} {c : Nc} (hc : st[i]? = some c) {x : Int} : zdd x c = true ↔ c.nd = ⟨2, x, []⟩ := by
 have hf := h i c hc;unfold zdd;rw [Bool.and_eq_true, decide_eq_true_eq, decide_eq_true_eq]
 constructor
 ·rintro ⟨h1, h2⟩
  cases hf <;> simp at h1 h2
  subst h2; rfl
 intro e; rw [e]; simp
theorem zfx {st : List Nc} (h : InvR ch R cache n st) {x : Int} (hx : litN n x) :
 ∃ r, (litF st x).1 = st ++ r /\ InvR ch R cache n (st ++ r) /\ isLit (st ++ r) (litF st x).2 x /\ r.countP zbg = 0 /\ (∀ l, Under st r l) := by
 unfold litF
 cases hf : st.findIdx? (zdd x) with
 | some i =>
   rw [List.findIdx?_eq_some_iff_getElem] at hf;obtain ⟨hi, h1, _⟩ := hf;have hc : st[i]? = some st[i] := List.getElem?_eq_getElem hi;refine ⟨[], by simp, by simpa using h, ?_, rfl, fun l => Under.nil _ _⟩;rw [List.append_nil];exact ⟨_, hc, (zj4 h.inv hc).1 h1⟩
 | none =>
   rw [List.findIdx?_eq_none_iff] at hf;refine ⟨[⟨⟨2, x, []⟩, none⟩], rfl, ?_, ⟨⟨⟨2, x, []⟩, none⟩, by simp, rfl⟩, rfl, fun l => Under.one fun l' t e => by simp at e⟩;refine h.snoc (.lit hx rfl) (fun l t e => by simp at e) (fun y hy i ⟨c, hc, e⟩ => ?_) (fun _ l t e => by simp at e);simp at hy; subst hy;have := hf c (List.mem_of_getElem? hc);rw [(zj4 h.inv hc).2 e] at this; simp at this
theorem zgi {l : List Cl} {c : Nc} : zbm l c = true ↔ ∃ t, c.tag = some (l, t) := by
 unfold zbm
 cases c.tag with
 | none => simp
 | some t => simp; constructor
             ·rintro rfl; exact ⟨t.2, rfl⟩
             rintro ⟨t', e⟩; rw [e]
theorem zef {st : List Nc} (h : InvR ch R cache n st) (l : List Cl) (term : Cl) (hR : R l term) (mk : List Nc -> List Nc × Nd) (W : Nat) (P : Nd -> Prop)
 (hp : ∀ (i : Nat) (c : Nc) (t : Cl), st[i]? = some c -> c.tag = some (l, t) -> P c.nd)
 (hm : ∃ r, (mk st).1 = st ++ r /\ InvR ch R cache n (st ++ r) /\ r.countP zbg + 1 <= W /\ Under st r l /\ (∀ i, st.length <= i -> ¬ tagged (st ++ r) i l) /\ Form ch n (st ++ r) (st ++ r).length ⟨(mk st).2, some (l, term)⟩ /\ P (mk st).2 /\ (mk st).2.kind ≠ 2) :
 ∃ r, (zam cache st l term mk).1 = st ++ r /\ InvR ch R cache n (st ++ r) /\ tagged (st ++ r) (zam cache st l term mk).2 l /\ (∃ c, (st ++ r)[(zam cache st l term mk).2]? = some c /\ P c.nd) /\ r.countP zbg <= W /\ Under st r l := by
 unfold zam
 cases hf : (if cache then st.findIdx? (zbm l) else none) with
 | some i =>
   have hcc : cache = true := by cases cache <;> simp at hf ⊢
   rw [hcc, if_pos rfl, List.findIdx?_eq_some_iff_getElem] at hf;obtain ⟨hi, h1, _⟩ := hf;obtain ⟨t, ht⟩ := zgi.1 h1;have hc : st[i]? = some st[i] := List.getElem?_eq_getElem hi;refine ⟨[], by simp, by simpa using h, ⟨_, t, by rw [List.append_nil]; exact hc, ht⟩, ⟨st[i], by rw [List.append_nil]; exact hc, hp i _ t hc ht⟩, by simp, Under.nil _ _⟩
 | none =>
   obtain ⟨r, h1, h2, h3, h4, h5, h6, h7, h8⟩ := hm;refine ⟨r ++ [⟨(mk st).2, some (l, term)⟩], by simp [h1], ?_, ⟨⟨(mk st).2, some (l, term)⟩, term, by simp [h1], rfl⟩, ⟨⟨(mk st).2, some (l, term)⟩, by simp [h1], h7⟩, ?_, ?_⟩
   ·rw [<- List.append_assoc];refine h2.snoc h6 (fun l' t e => ?_) (fun x e => ?_) (fun hc l' t e i ht => ?_)
    ·simp at e; rw [<- e.1, <- e.2]; exact hR
    ·simp only at e; rw [e] at h8; simp at h8
    simp at e; rw [<- e.1] at ht
    rcases Nat.lt_or_ge i st.length with hi | hi
    ·obtain ⟨c, t, a, b⟩ := ht;rw [List.getElem?_append_left hi] at a;rw [hc, if_pos rfl, List.findIdx?_eq_none_iff] at hf;have := hf c (List.mem_of_getElem? a);rw [zgi.2 ⟨t, b⟩] at this; simp at this
    exact h5 i hi ht
   ·rw [List.countP_append];have : List.countP zbg [(⟨(mk st).2, some (l, term)⟩ : Nc)] <= 1 := List.countP_le_length;omega
   exact h4.app (Under.one fun l' t e => by simp at e; rw [<- e.1]; exact fun v hv => hv)
theorem zbc {l : List Cl} {x v : Int} (hx : zac x ≠ 0) (h : (zaf (zai l x)).mem v = true) : (zaf l).mem v = true /\ v ≠ zac x := by
 obtain ⟨d, hd, hv⟩ := za8.1 h;obtain ⟨c, hc, hxc, rfl⟩ := zcb.1 hd;obtain ⟨h1, y, hy, rfl⟩ := zdr.1 hv;obtain ⟨hyc, hyx⟩ := List.mem_filter.1 hy;simp only [decide_eq_true_eq] at hyx;refine ⟨za8.2 ⟨c, hc, zdr.2 ⟨h1, y, hyc, rfl⟩⟩, fun e => ?_⟩
 have hyx' : y ≠ x := fun e => hxc (e ▸ hyc)
 rcases zc3 hx with ⟨a, b, c⟩ | ⟨a, b, c⟩ <;> rcases zc3 (show zac y ≠ 0 by omega) with ⟨a', b', c'⟩ | ⟨a', b', c'⟩ <;> omega
theorem zna {s t : St} (h : ∀ v : Int, t.mem v = true -> s.mem v = true) {v : Int} (h1 : s.mem v = true) (h2 : t.mem v = false) (hv : 1 <= v) (hv' : v <= 128) : card t < card s := by
 unfold card
 have e : (List.range 128).countP (fun (j : Nat) => s.mem ((j : Int) + 1)) = (List.range 128).countP (fun (j : Nat) => t.mem ((j : Int) + 1)) + (List.range 128).countP (fun (j : Nat) => s.mem ((j : Int) + 1) && !t.mem ((j : Int) + 1)) := by
  rw [<- zl3 (fun j => by rintro ⟨a, b⟩; rw [a] at b; simp at b)]
  congr 1; funext j
  cases ht : t.mem ((j : Int) + 1) with
  | true => simp [h _ ht]
  | false => simp
 rw [e]
 have : 0 < (List.range 128).countP (fun (j : Nat) => s.mem ((j : Int) + 1) && !t.mem ((j : Int) + 1)) := by
  rw [List.countP_pos_iff];exact ⟨(v - 1).toNat, List.mem_range.2 (by omega), by rw [show (((v - 1).toNat : Nat) : Int) + 1 = v by omega, h1, h2]; rfl⟩
 omega
theorem zhx {s t : St} (h : ∀ v : Int, t.mem v = true -> s.mem v = true) : card t <= card s := by
 unfold card; exact List.countP_mono_left fun x _ hx => h _ hx
theorem znn {s : St} {v : Int} (h : s.mem v = true) : 1 <= v /\ v <= 128 := by
 unfold St.mem at h
 by_cases a : 1 <= v /\ v <= 64
 ·omega
 rw [if_neg a] at h
 by_cases b : 65 <= v /\ v <= 128
 ·omega
 rw [if_neg b] at h; simp at h
theorem zgs {l p : List Cl} (hp : p ∈ zaj l) {v : Int} (h : (zaf p).mem v = true) : (zaf l).mem v = true := by
 obtain ⟨c, hc, hv⟩ := za8.1 h;exact za8.2 ⟨c, zci.1 ⟨p, hp, hc⟩, hv⟩
theorem zhh {l : List Cl} {c : Cl} {x : Int} (hc : c ∈ l) (hx : x ∈ c) (h : zac x ≠ 0) : (zaf l).mem (zac x) = true :=
 za8.2 ⟨c, hc, zdr.2 ⟨by have := zb6 x; omega, x, hx, rfl⟩⟩
theorem zme {x : Int} {l : List Cl} : (zai ([x] :: l) x).length <= l.length := by
 unfold zai;refine Nat.le_trans (za9 _) ?_;rw [List.length_map, List.filter_cons_of_neg (by simp)];exact List.length_filter_le _ _
def zek : List Cl -> Bool | [_] :: _ => false | _ => true
theorem zi9 (hn : n <= 128) (hC : Closed R n) : ∀ (f : Nat) (u : Us), InvR ch R cache n u.st -> gL n u.l -> R u.l u.term ->
 ∃ r i', (zap f u).st = u.st ++ r /\ InvR ch R cache n (u.st ++ r) /\ gL n (zap f u).l /\ R (zap f u).l (zap f u).term /\ (zap f u).ins = u.ins ++ i' /\ r.countP zbg = 0 /\ (∀ l, Under u.st r l) /\
  (∀ v, (zaf (zap f u).l).mem v = true -> (zaf u.l).mem v = true) /\ (∀ st' rest, Fit (u.st ++ r ++ st') (zap f u).l rest -> Fit (u.st ++ r ++ st') u.l (i' ++ rest)) /\ (u.l.length <= f -> zek (zap f u).l = true)
 | 0, u, h, hg, hR => ⟨[], [], by simp [zap], by simpa using h, hg, hR, by simp [zap], rfl, fun l => Under.nil _ _, fun v hv => hv, fun st' rest hf => by simpa [zap] using hf, fun hl => by
    have : u.l = [] := List.eq_nil_of_length_eq_zero (by omega)
    simp [zap, this, zek]⟩
 | f + 1, u, h, hg, hR => by
   obtain ⟨st, l, term, ins⟩ := u
   match l, hg, hR with
   | [x] :: l, hg, hR =>
     have hx : litN n x := (hg.gc [x] (by simp)).rg x (by simp);obtain ⟨r, h1, h2, h3, h4, h5⟩ := zfx h hx;have hxv := zhh (l := [x] :: l) (c := [x]) (by simp) (x := x) (by simp) (hx.ok hn).1;obtain ⟨r', i', k1, k2, k3, k4, k5, k6, k7, k8, k9, k10⟩ := zi9 hn hC f ⟨(litF st x).1, zai ([x] :: l) x, term ++ [x], ins ++ [(litF st x).2]⟩ (by rw [h1]; exact h2) (zbl hg.gc x) (hC.given _ _ _ hR hg hx hxv);simp only at k1 k2 k3 k4 k5 k6 k7 k8 k9 k10;have eu : zap (f + 1) ⟨st, [x] :: l, term, ins⟩ = zap f ⟨(litF st x).1, zai ([x] :: l) x, term ++ [x], ins ++ [(litF st x).2]⟩ := rfl;rw [eu];generalize zap f ⟨(litF st x).1, zai ([x] :: l) x, term ++ [x], ins ++ [(litF st x).2]⟩ = U at *
     rw [h1] at k2 k7 k9;refine ⟨r ++ r', (litF st x).2 :: i', by rw [k1, h1, List.append_assoc], by rw [<- List.append_assoc]; exact k2, k3, k4, by rw [k5]; simp, by rw [List.countP_append, h4, k6], fun m => (h5 m).app (k7 m), fun v hv => (zbc (hx.ok hn).1 (k8 v hv)).1, fun st' rest hf => ?_, fun hl => ?_⟩
     ·rw [<- List.append_assoc] at hf ⊢;have := k9 st' rest hf;refine .unit ?_ this;rw [List.append_assoc];exact h3.more
     simp only [List.length_cons] at hl;exact k10 (Nat.le_trans zme (by omega))
   | [], hg, hR => exact ⟨[], [], by simp [zap], by simpa using h, hg, hR, by simp [zap], rfl, fun l => Under.nil _ _, fun v hv => hv, fun st' rest hf => by simpa [zap] using hf, fun _ => rfl⟩
   | [] :: l, hg, hR => exact ⟨[], [], by simp [zap], by simpa using h, hg, hR, by simp [zap], rfl, fun l => Under.nil _ _, fun v hv => hv, fun st' rest hf => by simpa [zap] using hf, fun _ => rfl⟩
   | (x :: y :: c) :: l, hg, hR => exact ⟨[], [], by simp [zap], by simpa using h, hg, hR, by simp [zap], rfl, fun l => Under.nil _ _, fun v hv => hv, fun st' rest hf => by simpa [zap] using hf, fun _ => rfl⟩
theorem zrj {a b : Cl} (h : ltC a b) : a.length <= b.length := by
 unfold ltC cmpC at h
 split at h <;> omega
theorem znk {l : List Cl} (hs : l.Pairwise ltC) (h1 : zek l = true) (h2 : za7 l = false) : ∀ c ∈ l, 2 <= c.length := by
 match l, hs, h1, h2 with
 | [], _, _, _ => simp
 | [] :: _, _, _, h2 => simp [za7] at h2
 | [_] :: _, _, h1, _ => simp [zek] at h1
 | (x :: y :: c) :: l, hs, _, _ =>
   intro d hd
   rcases List.mem_cons.1 hd with rfl | hd
   ·simp
   have := zrj ((List.pairwise_cons.1 hs).1 d hd);simp at this; omega
end
end Cen
namespace Go.Proofs.YtflhbcnhaeijbaaGreatDoor
open Go.RowKit Cen
theorem zmk (a b : Int) (ha1 : -128 <= a) (ha2 : a <= 128) (hb1 : -128 <= b) (hb2 : b <= 128) (w : World) :
 Calls Tryz.prog 121 #[.int .i64 a, .int .i64 b] w fun e w' => e = .returned (.int .i64 (cmpL a b)) /\ w = w' := by
 obtain ⟨x1, x2⟩ := zb6 a;obtain ⟨y1, y2⟩ := zb6 b;have HA := lh (fun V => zbz a V);have HB := lh (fun V => zbz b V)
 by_cases hv : zac a = zac b
 ·have HC : Hid (cmpL a b = a - b) := by show _ = _; unfold cmpL; rw [if_neg (by omega)]
  have hvb : (zac a != zac b) = false := by simp [hv]
  clear hv;generalize zac a = x at *;generalize zac b = y at *;go_enter Tryz.func121, Tryz.ntmps121;go_wp2_with fail;refine (HA.o _).mono ?_;rintro e w' ⟨rfl, rfl⟩;go_wp2_with fail;refine (HB.o _).mono ?_;rintro e w' ⟨rfl, rfl⟩;go_wp2;go_ret;exact ⟨zbb HC.o.symm, rfl⟩
 have HC : Hid (cmpL a b = zac a - zac b) := by show _ = _; unfold cmpL; rw [if_pos (by omega)]
 have hvb : (zac a != zac b) = true := by simp [hv]
 clear hv;generalize zac a = x at *;generalize zac b = y at *;go_enter Tryz.func121, Tryz.ntmps121;go_wp2_with fail;refine (HA.o _).mono ?_;rintro e w' ⟨rfl, rfl⟩;go_wp2_with fail;refine (HB.o _).mono ?_;rintro e w' ⟨rfl, rfl⟩;go_wp2;go_ret;exact ⟨zbb HC.o.symm, rfl⟩
theorem znl (a b : Int) (ha1 : -128 <= a) (ha2 : a <= 128) (hb1 : -128 <= b) (hb2 : b <= 128) (w : World) :
 Calls Tryz.prog 120 #[.int .i64 a, .int .i64 b] w fun e w' => e = .returned (.int .i64 (cmpL a b)) /\ w = w' := by
 have HC := lh (fun V => zmk a b ha1 ha2 hb1 hb2 V);go_enter Tryz.func120, Tryz.ntmps120;go_wp2_with fail;refine (HC.o _).mono ?_;rintro e w' ⟨rfl, rfl⟩;go_wp2;go_ret;exact ⟨rfl, rfl⟩
theorem zlr (a b : Int) (ha1 : -128 <= a) (ha2 : a <= 128) (hb1 : -128 <= b) (hb2 : b <= 128) (w : World) :
 Calls Tryz.prog 97 #[.int .i64 a, .int .i64 b] w fun e w' => e = .returned (.int .i64 (cmpL a b)) /\ w = w' := by
 obtain ⟨x1, x2⟩ := zb6 a;obtain ⟨y1, y2⟩ := zb6 b;have HA := lh (fun V => zbz a V);have HB := lh (fun V => zbz b V)
 by_cases hv : zac a = zac b
 ·have HC : Hid (cmpL a b = a - b) := by show _ = _; unfold cmpL; rw [if_neg (by omega)]
  have hvb : (zac a - zac b != 0) = false := by simp [hv]
  clear hv;generalize zac a = x at *;generalize zac b = y at *;go_enter Tryz.func97, Tryz.ntmps97;go_wp2_with fail;refine (HA.o _).mono ?_;rintro e w' ⟨rfl, rfl⟩;go_wp2_with fail;refine (HB.o _).mono ?_;rintro e w' ⟨rfl, rfl⟩;go_wp2;go_ret;exact ⟨zbb HC.o.symm, rfl⟩
 have HC : Hid (cmpL a b = zac a - zac b) := by show _ = _; unfold cmpL; rw [if_pos (by omega)]
 have hvb : (zac a - zac b != 0) = true := by simp; omega
 clear hv;generalize zac a = x at *;generalize zac b = y at *;go_enter Tryz.func97, Tryz.ntmps97;go_wp2_with fail;refine (HA.o _).mono ?_;rintro e w' ⟨rfl, rfl⟩;go_wp2_with fail;refine (HB.o _).mono ?_;rintro e w' ⟨rfl, rfl⟩;go_wp2;go_ret;exact ⟨zbb HC.o.symm, rfl⟩
theorem zio : ∀ (xs ys : Cl) (k : Nat), k <= xs.length -> xs.length = ys.length -> (∀ j, j < k -> cmpL (xs.getD j 0) (ys.getD j 0) = 0) -> lexC xs ys = lexC (xs.drop k) (ys.drop k)
 | _, _, 0, _, _, _ => by simp
 | [], _, k + 1, h, _, _ => by simp at h
 | _ :: _, [], k + 1, _, h, _ => by simp at h
 | x :: xs, y :: ys, k + 1, h, hl, hz => by
   have h0 := hz 0 (by omega);simp at h0;rw [lexC, if_neg (by simpa using h0), List.drop_succ_cons, List.drop_succ_cons]
   exact zio xs ys k (by simpa using h) (by simpa using hl) fun j hj => by have := hz (j + 1) (by omega); simpa using this
theorem zts {xs ys : Cl} {k : Nat} (hk : k < xs.length) (hl : xs.length = ys.length) (hz : ∀ j, j < k -> cmpL (xs.getD j 0) (ys.getD j 0) = 0) (hn : cmpL (xs.getD k 0) (ys.getD k 0) ≠ 0) : lexC xs ys = cmpL (xs.getD k 0) (ys.getD k 0) := by
 have hk2 : k < ys.length := by omega
 rw [zio xs ys k (by omega) hl hz, List.drop_eq_getElem_cons hk, List.drop_eq_getElem_cons hk2, lexC]
 have e1 : xs.getD k 0 = xs[k] := by simp [List.getD_eq_getElem?_getD, hk]
 have e2 : ys.getD k 0 = ys[k] := by simp [List.getD_eq_getElem?_getD, hk2]
 rw [e1, e2] at hn ⊢;rw [if_pos hn]
theorem ztr {xs ys : Cl} (hl : xs.length = ys.length) (hz : ∀ j, j < xs.length -> cmpL (xs.getD j 0) (ys.getD j 0) = 0) : lexC xs ys = 0 := by
 rw [zio xs ys xs.length (Nat.le_refl _) hl hz, List.drop_length, hl, List.drop_length]; rfl
theorem zm8 : ∀ (args : Array Value) (w : World), (callFunc 97 args).run Tryz.prog w = .ok (.enter 97 args) w := fun _ _ => by kernel_rfl
def litB (xs : Cl) : Prop := ∀ x ∈ xs, -128 <= x /\ x <= 128
theorem zh5 (a b : Option Addr) (c d : Nat) (xs ys : Cl) (w : World) (hl : xs.length = ys.length) (hm : xs.length <= 1073741824) (hx : IntCells w a xs) (hy : IntCells w b ys) (bx : litB xs) (bY : litB ys) :
 Calls Tryz.prog 96 #[.slice a xs.length c, .slice b ys.length d, .func (.func 97) #[] #[]] w fun e w' => e = .returned (.int .i64 (lexC xs ys)) /\ w = w' := by
 have HX := lh hx;have HY := lh hy;have HBX := lh bx;have HBY := lh bY;have hcc := zm8;have HL := lh hl;rw [<- hl];clear hx hy bx bY hl;go_enter Tryz.func96, Tryz.ntmps96;go_wp2
 go_loop [7, 8, 9, 10, 13] (fun _ _ _ _ i => ∃ k : Nat, k <= xs.length /\ i = .int .i64 k /\ ∀ j, j < k -> cmpL (xs.getD j 0) (ys.getD j 0) = 0) (fun _ _ _ _ i => xs.length - (intOf i).toNat)
 case atStart => exact ⟨0, Nat.zero_le _, rfl, fun j h => absurd h (Nat.not_lt_zero _)⟩
 obtain ⟨k, hk, rfl, hz⟩ := hrel;have HZ := lh hz;clear hz
 by_cases hlt : k < xs.length
 ·obtain ⟨b1, o1, rfl, e1⟩ := HX.o k hlt;obtain ⟨b2, o2, rfl, e2⟩ := HY.o k (by have := HL.o; omega)
  have g1 : xs.getD k 0 = xs[k] := by simp [List.getD_eq_getElem?_getD, hlt]
  have hlt2 : k < ys.length := by have := HL.o; omega
  have g2 : ys.getD k 0 = ys[k] := by simp [List.getD_eq_getElem?_getD, hlt2]
  have m1 := HBX.o xs[k] (List.getElem_mem hlt);have m2 := HBY.o ys[k] (List.getElem_mem hlt2);rw [<- g1] at m1;rw [<- g2] at m2;have HH := lh (zts hlt HL.o HZ.o)
  have HST : Hid (cmpL (xs.getD k 0) (ys.getD k 0) = 0 -> ∀ j, j < k + 1 -> cmpL (xs.getD j 0) (ys.getD j 0) = 0) := fun h j hj => by
   rcases Nat.lt_or_ge j k with h' | h'
   ·exact HZ.o j h'
   rw [show j = k by omega]; exact h
  clear g1 g2 hlt2;generalize xs.getD k 0 = x at *;generalize ys.getD k 0 = y at *;have HC := lh (fun V => zlr x y m1.1 m1.2 m2.1 m2.2 V)
  have hki : (k : Int) < (xs.length : Int) := by omega
  clear m1 m2
  by_cases hc : cmpL x y = 0
  ·have hcb : (cmpL x y != 0) = false := by simp [hc]
   have HS2 := lh (HST.o hc);clear hc;generalize cmpL x y = cv at *;go_wp2_with fail;refine (HC.o _).mono ?_;rintro e w' ⟨rfl, rfl⟩;go_wp2;go_round
   case rel => exact ⟨k + 1, by omega, by go_num, HS2.o⟩
   case measure => simp [intOf]; omega
  have hcb : (cmpL x y != 0) = true := by simp [hc]
  have HH2 := lh (HH.o hc);clear hc;generalize cmpL x y = cv at *;go_wp2_with fail;refine (HC.o _).mono ?_;rintro e w' ⟨rfl, rfl⟩;go_wp2;go_ret;exact ⟨zbb HH2.o.symm, rfl⟩
 have : k = xs.length := by omega
 subst this;have HE := lh (ztr HL.o HZ.o);go_wp2;go_ret;exact ⟨zbb HE.o.symm, rfl⟩
abbrev clv (a : Option Addr) (n c : Nat) (i : Int) : Value := .agg #[.slice a n c, .int .i64 i]
theorem zpw (a b : Option Addr) (c d : Nat) (i j : Int) (xs ys : Cl) (w : World) (hm : xs.length <= 1073741824) (hm2 : ys.length <= 1073741824) (hx : IntCells w a xs) (hy : IntCells w b ys) (bx : litB xs) (bY : litB ys) :
 Calls Tryz.prog 95 #[clv a xs.length c i, clv b ys.length d j] w fun e w' => e = .returned (.int .i64 (cmpC xs ys)) /\ Below w.heap.size w w' := by
 have hb0 : Below w.heap.size w ((w.alloc (.cells #[.slice a xs.length c, .int .i64 i] 135)).alloc (.cells #[.slice b ys.length d, .int .i64 j] 135)) := ((Below.refl _ _).alloc (Nat.le_refl _) _).alloc (by simp) _;have HB0 := lh hb0
 by_cases hl : xs.length = ys.length
 ·have HCF := lh (zh5 a b c d xs ys _ hl hm (hx.keep hb0) (hy.keep hb0) bx bY)
  have HC : Hid (cmpC xs ys = lexC xs ys) := by show _ = _; unfold cmpC; rw [if_neg (by omega)]
  have hd0 : ((xs.length : Int) - (ys.length : Int) != 0) = false := by simp; omega
  clear hb0 hx hy bx bY hl;go_enter Tryz.func95, Tryz.ntmps95;go_wp2_with fail;refine HCF.o.mono ?_;rintro e w' ⟨rfl, rfl⟩;go_wp2;go_ret;exact ⟨zbb HC.o.symm, HB0.o⟩
 have HC : Hid (cmpC xs ys = (xs.length : Int) - (ys.length : Int)) := by show _ = _; unfold cmpC; rw [if_pos (by omega)]
 have hd0 : ((xs.length : Int) - (ys.length : Int) != 0) = true := by simp; omega
 clear hb0 hx hy bx bY hl;go_enter Tryz.func95, Tryz.ntmps95;go_wp2;go_ret;exact ⟨zbb HC.o.symm, HB0.o⟩
end Go.Proofs.YtflhbcnhaeijbaaGreatDoor
namespace Cen
theorem zf3 {α : Type} {l : List α} {i : Nat} (h : i < l.length) (x : α) : (l[i] :: l.set i x).Perm (x :: l) := by
 have h1 : l = l.take i ++ l[i] :: l.drop (i + 1) := by rw [List.getElem_cons_drop, List.take_append_drop]
 have h2 : l.set i x = l.take i ++ x :: l.drop (i + 1) := List.set_eq_take_append_cons_drop.trans (by rw [if_pos h]);rw [h2]
 conv => rhs; rw [h1]
 refine (List.Perm.cons _ List.perm_middle).trans ?_;refine (List.Perm.swap _ _ _).trans ?_;exact (List.Perm.cons _ List.perm_middle.symm)
section
variable {α : Type} [Inhabited α]
def gd (l : List α) (i : Nat) : α := l.getD i default
theorem zat {l : List α} {i : Nat} (h : i < l.length) : gd l i = l[i] := by unfold gd; simp [List.getD_eq_getElem?_getD, h]
theorem ztt {l m : List α} (hl : l.length = m.length) (h : ∀ i, i < l.length -> gd l i = gd m i) : l = m := by
 apply List.ext_getElem hl
 intro i h1 h2;have := h i h1
 rwa [zat h1, zat h2] at this
def swp (l : List α) (i j : Nat) : List α := (l.set i (gd l j)).set j (gd l i)
theorem zeu (l : List α) (i j : Nat) : (swp l i j).length = l.length := by simp [swp]
theorem zom {l : List α} {i j : Nat} (hi : i < l.length) (hj : j < l.length) (t : Nat) : gd (swp l i j) t = if t = j then gd l i else if t = i then gd l j else gd l t := by
 unfold swp
 by_cases h2 : t = j
 ·subst h2; rw [if_pos rfl]
  show ((l.set i (gd l t)).set t (gd l i)).getD t default = _
  simp [List.getD_eq_getElem?_getD, hj]
 rw [if_neg h2]
 by_cases h1 : t = i
 ·subst h1; rw [if_pos rfl]
  show ((l.set t (gd l j)).set j (gd l t)).getD t default = _
  rw [List.getD_eq_getElem?_getD, List.getElem?_set_ne (show j ≠ t from fun e => h2 e.symm), List.getElem?_set_self hi]; rfl
 rw [if_neg h1]
 show ((l.set i (gd l j)).set j (gd l i)).getD t default = l.getD t default
 simp [List.getD_eq_getElem?_getD, List.getElem?_set_ne (show j ≠ t from fun e => h2 e.symm), List.getElem?_set_ne (show i ≠ t from fun e => h1 e.symm)]
theorem zuq {l : List α} {i : Nat} (hi : i < l.length) : swp l i i = l := ztt (zeu _ _ _) fun t _ => by
 rw [zom hi hi]; split
 ·rename_i h; rw [h]
 rfl
theorem zf6 {l : List α} {i j : Nat} (hi : i < l.length) (hj : j < l.length) : (swp l i j).Perm l := by
 by_cases e : i = j
 ·subst e; rw [zuq hi]
 have h1 := zf3 (l := l) hi (gd l j)
 have hj' : j < (l.set i (gd l j)).length := by simpa using hj
 have h2 := zf3 (l := l.set i (gd l j)) hj' (gd l i)
 have ej : (l.set i (gd l j))[j] = gd l j := by
  rw [List.getElem_set_ne e]; exact (zat hj).symm
 rw [ej] at h2;rw [<- zat hi] at h1;have h3 := h2.trans h1;exact (List.perm_cons _).1 h3
def zdb (l : List α) (a b : Nat) : Nat -> List α
 | 0 => l
 | k + 1 => swp (zdb l a b k) (a + k) (b + k)
theorem zbo (l : List α) (a b : Nat) : ∀ k, (zdb l a b k).length = l.length
 | 0 => rfl
 | k + 1 => by rw [zdb, zeu, zbo]
theorem zet {l : List α} {a b : Nat} : ∀ k, a + k <= l.length -> b + k <= l.length -> (zdb l a b k).Perm l
 | 0, _, _ => List.Perm.refl _
 | k + 1, h1, h2 => by
   rw [zdb];exact (zf6 (by rw [zbo]; omega) (by rw [zbo]; omega)).trans (zet k (by omega) (by omega))
theorem zhe {l : List α} {a b : Nat} : ∀ k, a + k <= b -> b + k <= l.length -> ∀ t, gd (zdb l a b k) t = gd l (if a <= t /\ t < a + k then t - a + b else if b <= t /\ t < b + k then t - b + a else t)
 | 0, _, _, t => by rw [zdb, if_neg (by omega), if_neg (by omega)]
 | k + 1, h1, h2, t => by
   rw [zdb, zom (by rw [zbo]; omega) (by rw [zbo]; omega)];have ih := zhe (l := l) (a := a) (b := b) k (by omega) (by omega)
   by_cases e1 : t = b + k
   ·rw [if_pos e1, ih, if_neg (by omega), if_neg (by omega), if_neg (by omega), if_pos (by omega)]; congr 1; omega
   rw [if_neg e1]
   by_cases e2 : t = a + k
   ·rw [if_pos e2, ih, if_neg (by omega), if_neg (by omega), if_pos (by omega)]; congr 1; omega
   rw [if_neg e2, ih]
   congr 1
   (repeat' split) <;> omega
def rot (p i j t : Nat) : Nat := if t < p then t else if t < p + j then t + i else if t < p + i + j then t - j else t
def IsRot (l' l : List α) (p i j : Nat) : Prop := l'.length = l.length /\ ∀ t, gd l' t = gd l (rot p i j t)
end
end Cen
