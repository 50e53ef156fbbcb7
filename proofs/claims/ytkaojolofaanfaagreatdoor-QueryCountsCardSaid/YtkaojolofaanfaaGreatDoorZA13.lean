/- Part of the proofs that laws of censuslaw38 return true for every input, where the tables that the rows list are laid. Texts: RedT, RedN. -/
import Derived.Test.YtkaojolofaanfaaGreatDoorZA10

/- Plain: the reduced net is as true as the net. -/
namespace Cen
theorem nd_get {L : List Nd} {i : Int} (h0 : 0 ≤ i) (h1 : i < L.length) : nd L i = L[i.toNat]'(by omega) := by
  unfold nd; simp [List.getD_eq_getElem?_getD, show i.toNat < L.length by omega]
theorem nd_append {L r : List Nd} {i : Int} (h0 : 0 ≤ i) (h1 : i < L.length) : nd (L ++ r) i = nd L i := by
  unfold nd; simp only [List.getD_eq_getElem?_getD]; rw [List.getElem?_append_left (by omega)]
theorem nd_ok {L : List Nd} {n : Int} (hL : ndsOk L n L.length) {i : Int} (h0 : 0 ≤ i) (h1 : i < L.length) : ndOk (nd L i) n i = true := by
  have := hL i.toNat (by omega)
  rw [show ((i.toNat : Nat) : Int) = i by omega] at this; exact this
theorem ndOk_ins {x : Nd} {n b : Int} (h : ndOk x n b = true) : ∀ i ∈ x.ins, 0 ≤ i ∧ i < b := by
  simp only [ndOk, Bool.and_eq_true] at h; exact insOk_iff.1 h.1
theorem ndOk_lit {x : Nd} {n b : Int} (h : ndOk x n b = true) (h2 : x.kind = 2) : litVar x.lit ≠ 0 ∧ litVar x.lit ≤ n := by
  simp only [ndOk, Bool.and_eq_true] at h
  have h3 := h.2
  unfold formOk at h3
  rw [if_neg (by omega), if_pos h2] at h3
  simp only [litOk, Bool.and_eq_true, decide_eq_true_eq] at h3
  exact h3.1
theorem T_nd (s : Int → Bool) {L : List Nd} {n : Int} (hL : ndsOk L n L.length) {i : Int} (h0 : 0 ≤ i) (h1 : i < L.length) : T s L i = evNd s (T s L) (nd L i) := by
  have e : ((i.toNat : Nat) : Int) = i := by omega
  have h := hL i.toNat (by omega)
  simp only [ndOk, Bool.and_eq_true] at h
  have := T_eq s L i.toNat (by omega) h.1
  rw [e] at this; exact this
theorem evNd_leaf (s : Int → Bool) (f g : Int → Bool) (x : Nd) (ins : List Int) (h : ¬ (x.kind = 3 ∨ x.kind = 4)) : evNd s f ⟨x.kind, x.lit, ins⟩ = evNd s g x := by
  unfold evNd
  simp only
  by_cases h1 : x.kind = 1
  · rw [if_pos h1, if_pos h1]
  · rw [if_neg h1, if_neg h1]
    by_cases h2 : x.kind = 2
    · rw [if_pos h2, if_pos h2]
    · rw [if_neg h2, if_neg h2, if_neg (fun e => h (.inl e)), if_neg (fun e => h (.inr e)), if_neg (fun e => h (.inl e)), if_neg (fun e => h (.inr e))]
/-- The kinds And and Or, with what is told of their inputs. -/
def pol (k : Int) (q : Bool) : Prop := (k = 3 ∧ q = false) ∨ (k = 4 ∧ q = true)
theorem all_neg {α : Type} (f : α → Bool) (l : List α) : (l.any f != true) = l.all (fun i => f i != true) := by
  induction l with
  | nil => rfl
  | cons x l ih => simp only [List.any_cons, List.all_cons]; rw [← ih]; cases f x <;> cases l.any f <;> rfl
theorem evNd_pol (s : Int → Bool) (f : Int → Bool) {x : Nd} {q : Bool} (h : pol x.kind q) : (evNd s f x != q) = x.ins.all (fun i => f i != q) := by
  rcases h with ⟨h, rfl⟩ | ⟨h, rfl⟩
  · unfold evNd; rw [if_neg (by omega), if_neg (by omega), if_pos h]
    simp
  · unfold evNd; rw [if_neg (by omega), if_neg (by omega), if_neg (by omega), if_pos h]
    exact all_neg f x.ins
theorem evNd_const (s f : Int → Bool) {k : Int} (h : k = 0 ∨ k = 1) : evNd s f ⟨k, 0, []⟩ = decide (k = 1) := by
  rcases h with rfl | rfl <;> rfl
theorem flat_G {s : Int → Bool} {L : List Nd} {n k : Int} {q : Bool} (hL : ndsOk L n L.length) (hp : pol k q) {l : List Int} (hl : ∀ i ∈ l, 0 ≤ i ∧ i < (L.length : Int)) :
    (flat L k l).all (fun i => T s L i != q) = l.all (fun i => T s L i != q) := by
  induction l with
  | nil => rfl
  | cons i l ih =>
    have e : flat L k (i :: l) = (if (nd L i).kind = k then (nd L i).ins else [i]) ++ flat L k l := rfl
    rw [e, List.all_append, ih fun j hj => hl j (by simp [hj]), List.all_cons]
    congr 1
    obtain ⟨h0, h1⟩ := hl i (by simp)
    by_cases hk : (nd L i).kind = k
    · rw [if_pos hk, T_nd s hL h0 h1]; exact (evNd_pol s (T s L) (hk ▸ hp)).symm
    · rw [if_neg hk]; simp
theorem holds_opp {s : Int → Bool} {l : Int} (h : litVar l ≠ 0) : holds s (-l) = !holds s l := by
  have hv : litVar (-l) = litVar l := by unfold litVar at *; (repeat' split at *) <;> omega
  have hp : decide (0 < -l) = !decide (0 < l) := by
    rcases litVar_ne h with ⟨h1, _, _⟩ | ⟨h1, _, _⟩
    · rw [decide_eq_false (by omega), decide_eq_true (by omega)]; rfl
    · rw [decide_eq_true (by omega), decide_eq_false (by omega)]; rfl
  unfold holds
  rw [hv, hp, decide_eq_true h]
  cases s (litVar l) <;> cases decide (0 < l) <;> rfl
def dropK (q : Bool) : Int := if q then 0 else 1
def endK (q : Bool) : Int := if q then 1 else 0
theorem G_drop {s : Int → Bool} {L : List Nd} {n : Int} {q : Bool} (hL : ndsOk L n L.length) {i : Int} (h0 : 0 ≤ i) (h1 : i < L.length) (h : (nd L i).kind = dropK q) : (T s L i != q) = true := by
  rw [T_nd s hL h0 h1]; unfold evNd
  cases q <;> simp [dropK] at h <;> simp [h]
theorem G_end {s : Int → Bool} {L : List Nd} {n : Int} {q : Bool} (hL : ndsOk L n L.length) {i : Int} (h0 : 0 ≤ i) (h1 : i < L.length) (h : (nd L i).kind = endK q) : (T s L i != q) = false := by
  rw [T_nd s hL h0 h1]; unfold evNd
  cases q <;> simp [endK] at h <;> simp [h]
theorem T_lit {s : Int → Bool} {L : List Nd} {n : Int} (hL : ndsOk L n L.length) {i : Int} (h0 : 0 ≤ i) (h1 : i < L.length) (h : (nd L i).kind = 2) : T s L i = holds s (nd L i).lit := by
  rw [T_nd s hL h0 h1]; unfold evNd; rw [if_neg (by omega), if_pos h]
structure InSInv (L : List Nd) (q : Bool) (p : List Int) (st : InS) : Prop where
  lits : ∀ l ∈ st.lits, ∃ i ∈ p, (nd L i).kind = 2 ∧ (nd L i).lit = l
  fals : st.opn = false → ∀ s : Int → Bool, p.all (fun i => T s L i != q) = false
  out : st.opn = true → ∀ i ∈ p, (nd L i).kind = dropK q ∨ i ∈ st.out
  sub : ∀ i ∈ st.out, i ∈ p
  nodup : st.out.Nodup
  lo : ∀ i ∈ p, (nd L i).kind = 2 → (nd L i).lit ∈ st.lits
  hit : st.opn = false → (∃ i ∈ p, (nd L i).kind = endK q) ∨ ∃ i ∈ p, ∃ j ∈ p, (nd L i).kind = 2 ∧ (nd L j).kind = 2 ∧ (nd L i).lit = -(nd L j).lit
  nohit : st.opn = true → ∀ i ∈ p, (nd L i).kind ≠ endK q
  nodrop : ∀ i ∈ st.out, (nd L i).kind ≠ dropK q
theorem inSInv_step {L : List Nd} {n : Int} {q : Bool} (hL : ndsOk L n L.length) {p : List Int} {st : InS} (hp : ∀ i ∈ p, 0 ≤ i ∧ i < (L.length : Int)) (h : InSInv L q p st) {i : Int} (h0 : 0 ≤ i) (h1 : i < L.length) :
    InSInv L q (p ++ [i]) (addS L (dropK q) (endK q) st i) := by
  have hhit : hitS L (endK q) st i = true → (∀ s : Int → Bool, (p ++ [i]).all (fun i => T s L i != q) = false) ∧ ((nd L i).kind = endK q ∨ ∃ j ∈ p, (nd L i).kind = 2 ∧ (nd L j).kind = 2 ∧ (nd L i).lit = -(nd L j).lit) := by
    intro hh
    simp only [hitS, Bool.or_eq_true, Bool.and_eq_true, decide_eq_true_eq, List.contains_iff_mem] at hh
    rcases hh with hh | ⟨hk, hm⟩
    · exact ⟨fun s => by rw [List.all_append]; simp [G_end (s := s) hL h0 h1 hh], .inl hh⟩
    · obtain ⟨j, hj, hj2, hjl⟩ := h.lits _ hm
      refine ⟨fun s => ?_, .inr ⟨j, hj, hk, hj2, by omega⟩⟩
      obtain ⟨j0, j1⟩ := hp j hj
      have e1 := T_lit (s := s) hL h0 h1 hk
      have e2 := T_lit (s := s) hL j0 j1 hj2
      have hv := (ndOk_lit (nd_ok hL h0 h1) hk).1
      rw [hjl, holds_opp hv, ← e1] at e2
      rw [Bool.eq_false_iff]
      intro ha
      rw [List.all_eq_true] at ha
      have a1 := ha j (by simp [hj])
      have a2 := ha i (by simp)
      simp only [e2] at a1
      revert a1 a2
      cases T s L i <;> cases q <;> simp
  constructor
  · intro l hl
    simp only [addS] at hl
    split at hl
    · rename_i h2
      rcases List.mem_append.1 hl with hl | hl
      · obtain ⟨j, hj, r⟩ := h.lits l hl; exact ⟨j, by simp [hj], r⟩
      · simp at hl; exact ⟨i, by simp, h2, hl.symm⟩
    · obtain ⟨j, hj, r⟩ := h.lits l hl; exact ⟨j, by simp [hj], r⟩
  · intro ho s
    simp only [addS] at ho
    cases hs : st.opn with
    | false => rw [List.all_append, h.fals hs s]; rfl
    | true =>
      rw [hs] at ho
      simp at ho
      exact (hhit ho).1 s
  · intro ho j hj
    simp only [addS] at ho ⊢
    simp only [Bool.and_eq_true, Bool.not_eq_true'] at ho
    rw [if_neg (by rw [ho.2]; simp)]
    rcases List.mem_append.1 hj with hj | hj
    · rcases h.out ho.1 j hj with h3 | h3
      · exact .inl h3
      · right; split
        · simp [h3]
        · exact h3
    · simp at hj; subst hj
      by_cases hd : (nd L j).kind = dropK q
      · exact .inl hd
      · right
        cases hc : st.out.contains j with
        | false => rw [if_pos ⟨hd, rfl⟩]; simp
        | true => rw [if_neg (by simp)]; simpa using hc
  · intro j hj
    rcases addS_out_mem hj with h3 | h3
    · simp [h.sub j h3]
    · simp [h3]
  · simp only [addS]
    split
    · exact h.nodup
    · split
      · rename_i h3
        rw [List.nodup_append]
        refine ⟨h.nodup, by simp, ?_⟩
        intro a ha b hb
        simp at hb; subst hb
        intro e; subst e
        have := h3.2
        simp [ha] at this
      · exact h.nodup
  · intro j hj h2
    simp only [addS]
    rcases List.mem_append.1 hj with hj | hj
    · have := h.lo j hj h2
      split
      · simp [this]
      · exact this
    · simp at hj; subst hj; rw [if_pos h2]; simp
  · intro ho
    simp only [addS] at ho
    cases hs : st.opn with
    | false =>
      rcases h.hit hs with ⟨j, hj, r⟩ | ⟨j, hj, j', hj', r⟩
      · exact .inl ⟨j, by simp [hj], r⟩
      · exact .inr ⟨j, by simp [hj], j', by simp [hj'], r⟩
    | true =>
      rw [hs] at ho
      simp at ho
      rcases (hhit ho).2 with r | ⟨j, hj, r⟩
      · exact .inl ⟨i, by simp, r⟩
      · exact .inr ⟨i, by simp, j, by simp [hj], r⟩
  · intro ho j hj
    simp only [addS, Bool.and_eq_true, Bool.not_eq_true'] at ho
    rcases List.mem_append.1 hj with hj | hj
    · exact h.nohit ho.1 j hj
    · simp at hj; subst hj
      have := ho.2
      simp only [hitS, Bool.or_eq_false_iff, decide_eq_false_iff_not] at this
      exact this.1
  · intro j hj
    simp only [addS] at hj
    split at hj
    · exact h.nodrop j hj
    · split at hj
      · rename_i h3
        rcases List.mem_append.1 hj with hj | hj
        · exact h.nodrop j hj
        · simp at hj; subst hj; exact h3.1
      · exact h.nodrop j hj
theorem inSInv {L : List Nd} {n : Int} {q : Bool} (hL : ndsOk L n L.length) {l : List Int} (hl : ∀ i ∈ l, 0 ≤ i ∧ i < (L.length : Int)) : InSInv L q l (inS L (dropK q) (endK q) l) := by
  have key : ∀ (l p : List Int) (st : InS), (∀ i ∈ p, 0 ≤ i ∧ i < (L.length : Int)) → (∀ i ∈ l, 0 ≤ i ∧ i < (L.length : Int)) → InSInv L q p st → InSInv L q (p ++ l) (l.foldl (addS L (dropK q) (endK q)) st) := by
    intro l
    induction l with
    | nil => intro p st _ _ h; simpa using h
    | cons x l ih =>
      intro p st hp hl h
      have hx := hl x (by simp)
      have := ih (p ++ [x]) _ (fun i hi => by
        rcases List.mem_append.1 hi with hi | hi
        · exact hp i hi
        · simp at hi; subst hi; exact hx) (fun i hi => hl i (by simp [hi])) (inSInv_step hL hp h hx.1 hx.2)
      rw [List.append_assoc] at this
      exact this
  have := key l [] ⟨[], [], true⟩ (by simp) hl ⟨by simp, by simp, by simp, by simp, by simp, by simp, by simp, by simp, by simp⟩
  rw [List.nil_append] at this; exact this
theorem all_mem {f : Int → Bool} {l m : List Int} (h : ∀ i, i ∈ l ↔ i ∈ m) : l.all f = m.all f := by
  rw [Bool.eq_iff_iff, List.all_eq_true, List.all_eq_true]
  exact ⟨fun a i hi => a i ((h i).2 hi), fun a i hi => a i ((h i).1 hi)⟩
/-- What the inputs of an And or Or come to. -/
theorem inputsL_G {L : List Nd} {n k : Int} {q : Bool} (hL : ndsOk L n L.length) (hp : pol k q) {l : List Int} (hl : ∀ i ∈ l, 0 ≤ i ∧ i < (L.length : Int)) :
    ((inputsL L k (dropK q) (endK q) l).2 = false → ∀ s : Int → Bool, l.all (fun i => T s L i != q) = false) ∧
    ((inputsL L k (dropK q) (endK q) l).2 = true → ∀ s : Int → Bool, (inputsL L k (dropK q) (endK q) l).1.all (fun i => T s L i != q) = l.all (fun i => T s L i != q)) := by
  have hf := flat_valid (kind := k) hL hl
  have h := inSInv (q := q) hL hf
  refine ⟨fun ho s => ?_, fun ho s => ?_⟩
  · rw [← flat_G hL hp hl]; exact h.fals ho s
  · rw [← flat_G hL hp hl]
    show (sortL (inS L (dropK q) (endK q) (flat L k l)).out).all _ = _
    rw [all_mem (m := (inS L (dropK q) (endK q) (flat L k l)).out) fun i => sortL_mem]
    rw [Bool.eq_iff_iff, List.all_eq_true, List.all_eq_true]
    refine ⟨fun a i hi => ?_, fun a i hi => a i (h.sub i hi)⟩
    rcases h.out ho i hi with h1 | h1
    · exact G_drop hL (hf i hi).1 (hf i hi).2 h1
    · exact a i h1
theorem putL_T {n : Int} {L : List Nd} {x : Nd} (hl : L.length < 65536) (hL : ndsOk L n L.length) (_hx : ndOk x n L.length = true) :
    (∃ r, (putL L x).1 = L ++ r) ∧ nd (putL L x).1 (putL L x).2.1 = x ∧ (∀ s, T s (putL L x).1 (putL L x).2.1 = evNd s (T s L) x) ∧ ∀ y ∈ (putL L x).1, y ∈ L ∨ y = x := by
  rcases putL_spec (x := x) hl with ⟨i, hi, e1, e⟩ | ⟨_, e⟩
  · rw [e]
    have e2 : nd L (i : Int) = x := by unfold nd; simpa using e1
    refine ⟨⟨[], by simp⟩, e2, fun s => ?_, fun y hy => .inl hy⟩
    simp only
    rw [T_nd s hL (by omega) (by omega), e2]
  · rw [e]
    refine ⟨⟨[x], rfl⟩, by simp [nd, List.getD_eq_getElem?_getD], fun s => T_snoc s L x, fun y hy => ?_⟩
    simp at hy; exact hy
theorem pol_ends {k : Int} (h : k = 3 ∨ k = 4) : ∃ q, pol k q ∧ (if k = 3 then (1 : Int) else 0) = dropK q ∧ (if k = 3 then (0 : Int) else 1) = endK q := by
  rcases h with rfl | rfl
  · exact ⟨false, .inl ⟨rfl, rfl⟩, rfl, rfl⟩
  · exact ⟨true, .inr ⟨rfl, rfl⟩, rfl, rfl⟩
theorem beq_of_bne {a b q : Bool} (h : (a != q) = (b != q)) : a = b := by revert h; cases a <;> cases b <;> cases q <;> simp
/-- What Add comes to: the node behind the index. -/
theorem addL_form {n : Int} {L : List Nd} {x : Nd} (_hx : ndOk x n L.length = true) :
    (¬ (x.kind = 3 ∨ x.kind = 4) ∧ addL n L x = ((putL L ⟨x.kind, x.lit, []⟩).1, (putL L ⟨x.kind, x.lit, []⟩).2.1)) ∨
    ∃ q, pol x.kind q ∧
      (((inputsL L x.kind (dropK q) (endK q) x.ins).2 = false ∧ addL n L x = ((putL L ⟨endK q, 0, []⟩).1, (putL L ⟨endK q, 0, []⟩).2.1)) ∨
       ((inputsL L x.kind (dropK q) (endK q) x.ins).2 = true ∧ (
        ((inputsL L x.kind (dropK q) (endK q) x.ins).1 = [] ∧ addL n L x = ((putL L ⟨dropK q, 0, []⟩).1, (putL L ⟨dropK q, 0, []⟩).2.1)) ∨
        (∃ i, (inputsL L x.kind (dropK q) (endK q) x.ins).1 = [i] ∧ addL n L x = (L, i)) ∨
        (2 ≤ (inputsL L x.kind (dropK q) (endK q) x.ins).1.length ∧ addL n L x = ((putL L ⟨x.kind, 0, (inputsL L x.kind (dropK q) (endK q) x.ins).1⟩).1, (putL L ⟨x.kind, 0, (inputsL L x.kind (dropK q) (endK q) x.ins).1⟩).2.1))))) := by
  unfold addL
  by_cases h : x.kind = 3 ∨ x.kind = 4
  · right
    obtain ⟨q, hp, e1, e2⟩ := pol_ends h
    refine ⟨q, hp, ?_⟩
    rw [if_pos h]
    simp only [e1, e2]
    generalize inputsL L x.kind (dropK q) (endK q) x.ins = r
    obtain ⟨r1, r2⟩ := r
    cases r2 with
    | false => exact .inl ⟨rfl, by simp⟩
    | true =>
      refine .inr ⟨rfl, ?_⟩
      simp only
      match r1 with
      | [] => exact .inl ⟨rfl, by simp⟩
      | [i] => exact .inr (.inl ⟨i, rfl, by simp⟩)
      | i :: j :: r => exact .inr (.inr ⟨by simp, by simp⟩)
  · left; exact ⟨h, by rw [if_neg h]⟩
theorem addL_T {n : Int} {L : List Nd} {x : Nd} (hl : L.length < 65536) (hL : ndsOk L n L.length) (hx : ndOk x n L.length = true) :
    (∃ r, (addL n L x).1 = L ++ r) ∧ ∀ s, T s (addL n L x).1 (addL n L x).2 = evNd s (T s L) x := by
  have hxi := ndOk_ins hx
  rcases addL_form hx with ⟨h, e⟩ | ⟨q, hp, h⟩
  · rw [e]
    obtain ⟨a, _, b, _⟩ := putL_T hl hL (ndOk_leaf hx h).1
    refine ⟨a, fun s => ?_⟩
    simp only
    rw [b s, evNd_leaf s (T s L) (T s L) x [] h]
  · have hG := inputsL_G hL hp hxi
    have key : ∀ s, (evNd s (T s L) x != q) = x.ins.all (fun i => T s L i != q) := fun s => evNd_pol s _ hp
    have hE : endK q = 0 ∨ endK q = 1 := by cases q <;> simp [endK]
    have hD : dropK q = 0 ∨ dropK q = 1 := by cases q <;> simp [dropK]
    rcases h with ⟨ho, e⟩ | ⟨ho, h⟩
    · rw [e]
      obtain ⟨a, _, b, _⟩ := putL_T hl hL (ndOk_const (n := n) (b := L.length) hE)
      refine ⟨a, fun s => ?_⟩
      simp only
      rw [b s, evNd_const _ _ hE]
      apply beq_of_bne (q := q)
      rw [key s, hG.1 ho s]
      cases q <;> simp [endK]
    · rcases h with ⟨h0, e⟩ | ⟨i, h1, e⟩ | ⟨h2, e⟩
      · rw [e]
        obtain ⟨a, _, b, _⟩ := putL_T hl hL (ndOk_const (n := n) (b := L.length) hD)
        refine ⟨a, fun s => ?_⟩
        simp only
        rw [b s, evNd_const _ _ hD]
        apply beq_of_bne (q := q)
        rw [key s, ← hG.2 ho s, h0]
        cases q <;> simp [dropK]
      · rw [e]
        refine ⟨⟨[], by simp⟩, fun s => ?_⟩
        simp only
        apply beq_of_bne (q := q)
        rw [key s, ← hG.2 ho s, h1]
        simp
      · rw [e]
        have hk : x.kind = 3 ∨ x.kind = 4 := by rcases hp with ⟨h, _⟩ | ⟨h, _⟩ <;> simp [h]
        obtain ⟨a, _, b, _⟩ := putL_T hl hL (ndOk_inner (n := n) hk (inputsL_valid hL hxi))
        refine ⟨a, fun s => ?_⟩
        simp only
        rw [b s]
        apply beq_of_bne (q := q)
        rw [key s, ← hG.2 ho s]
        exact evNd_pol s (T s L) (x := ⟨x.kind, 0, _⟩) hp
end Cen

/- Plain: the reduced net as a net: its truth, its form, its size. -/
namespace Cen
/-- The nodes so far mean what the nodes of the net mean. -/
structure RedInv (n : Int) (l : List Nd) (st : List Nd × List Int) (k : Nat) : Prop where
  ok : RedOk n st k
  t : ∀ s : Int → Bool, ∀ i, i < k → T s st.1 (st.2.getD i 0) = T s l i
theorem redStep_ext {n : Int} {st : List Nd × List Int} {x : Nd} {k : Nat} (h : RedOk n st k) (hx : ndOk x n k = true) (hk : k < 65536) :
    (∃ r, (redStep n st x).1 = st.1 ++ r) ∧ (redStep n st x).2 = st.2 ++ [(addL n st.1 (renum st.2 x)).2] :=
  ⟨(addL_T (Nat.lt_of_le_of_lt h.le hk) h.nds (renum_ok h hx)).1, rfl⟩
theorem redStep_inv {n : Int} {l : List Nd} (hl : l.length ≤ 65536) (hL : ndsOk l n l.length) {st : List Nd × List Int} {k : Nat} (hk : k < l.length) (h : RedInv n l st k) : RedInv n l (redStep n st l[k]) (k + 1) := by
  have e : l.getD k default = l[k] := by simp [List.getD_eq_getElem?_getD, hk]
  have hx : ndOk l[k] n k = true := by have := hL k hk; rw [e] at this; exact this
  have hlt := Nat.lt_of_le_of_lt h.ok.le (show k < 65536 by omega)
  obtain ⟨⟨r, hr⟩, hT⟩ := addL_T hlt h.ok.nds (renum_ok h.ok hx)
  refine ⟨redStep_ok h.ok hx (by omega), fun s i hi => ?_⟩
  have hlen := h.ok.len
  by_cases e2 : i = k
  · subst e2
    have e3 : (redStep n st l[i]).2.getD i 0 = (addL n st.1 (renum st.2 l[i])).2 := by
      simp only [redStep, List.getD_eq_getElem?_getD]; rw [List.getElem?_append_right (by omega)]; simp [hlen]
    rw [e3]
    show T s (addL n st.1 (renum st.2 l[i])).1 _ = _
    rw [hT s, T_eq s l i hk (by rw [e]; simp only [ndOk, Bool.and_eq_true] at hx; exact hx.1), e]
    have h3 : evNd s (T s st.1) (renum st.2 l[i]) = evNd s (fun j => T s st.1 (st.2.getD j.toNat 0)) l[i] := by
      unfold evNd renum; simp [List.all_map, List.any_map, Function.comp_def]
    rw [h3]
    apply evNd_congr
    intro j hj
    obtain ⟨j0, j1⟩ := ndOk_ins hx j hj
    have := h.t s j.toNat (by omega)
    rw [this, show ((j.toNat : Nat) : Int) = j by omega]
  · have hi' : i < k := by omega
    have e3 : (redStep n st l[k]).2.getD i 0 = st.2.getD i 0 := by
      simp only [redStep, List.getD_eq_getElem?_getD]; rw [List.getElem?_append_left (by omega)]
    rw [e3, ← h.t s i hi']
    show T s (addL n st.1 (renum st.2 l[k])).1 _ = _
    rw [hr]
    obtain ⟨a, b⟩ := h.ok.getD i hi'
    exact T_append s _ _ _ b a
theorem redSt_inv {n : Int} {l : List Nd} (hl : l.length ≤ 65536) (hL : ndsOk l n l.length) (k : Nat) (hk : k ≤ l.length) : RedInv n l (redSt n l k) k := by
  induction k with
  | zero => exact ⟨redSt_ok hl hL 0 hk, fun s i hi => absurd hi (Nat.not_lt_zero _)⟩
  | succ k ih => rw [redSt_succ (by omega)]; exact redStep_inv hl hL (by omega) (ih (by omega))

/-! The net with a root. -/
theorem markIn_true (ins : List Int) : ∀ (m : List Bool) (j : Nat), (m.getD j false = true → (markIn ins true m).getD j false = true) ∧ ((∃ k ∈ ins, k.toNat = j) → j < m.length → (markIn ins true m).getD j false = true) := by
  induction ins with
  | nil => intro m j; exact ⟨id, fun ⟨k, h, _⟩ => by simp at h⟩
  | cons k ins ih =>
    intro m j
    have h1 := ih (m.set k.toNat (m.getD k.toNat false || true)) j
    have e : markIn (k :: ins) true m = markIn ins true (m.set k.toNat (m.getD k.toNat false || true)) := rfl
    rw [e]
    have keep : m.getD j false = true → (m.set k.toNat (m.getD k.toNat false || true)).getD j false = true := fun h => by
      simp only [List.getD_eq_getElem?_getD, List.getElem?_set] at *
      by_cases hj : k.toNat = j
      · subst hj
        have : k.toNat < m.length := by
          rcases Nat.lt_or_ge k.toNat m.length with h' | h'
          · exact h'
          · rw [List.getElem?_eq_none h'] at h; simp at h
        simp [this]
      · simp [hj, h]
    refine ⟨fun h => h1.1 (keep h), ?_⟩
    rintro ⟨k', hk', hj⟩ hlt
    by_cases he : k.toNat = j
    · refine h1.1 ?_
      subst he
      simp [List.getD_eq_getElem?_getD, hlt]
    · refine h1.2 ⟨k', ?_, hj⟩ (by simpa using hlt)
      rcases List.mem_cons.1 hk' with h2 | h2
      · subst h2; exact absurd hj he
      · exact h2
theorem markIn_false (ins : List Int) : ∀ (m : List Bool) (j : Nat), (markIn ins false m).getD j false = m.getD j false := by
  induction ins with
  | nil => intro m j; rfl
  | cons k ins ih =>
    intro m j
    have e : markIn (k :: ins) false m = markIn ins false (m.set k.toNat (m.getD k.toNat false || false)) := rfl
    rw [e, ih]
    simp only [List.getD_eq_getElem?_getD, List.getElem?_set]
    by_cases hj : k.toNat = j
    · subst hj
      by_cases hlt : k.toNat < m.length
      · simp [hlt]
      · simp [hlt]
    · simp [hj]
/-- Marks are kept, and the inputs of marked nodes are marked. -/
theorem markR_spec {L : List Nd} {n : Int} (hL : ndsOk L n L.length) : ∀ (j : Nat) (m : List Bool), j ≤ m.length → j ≤ L.length →
    (∀ i, m.getD i false = true → (markR L j m).getD i false = true) ∧
    (∀ i, j ≤ i → (markR L j m).getD i false = m.getD i false) ∧
    (∀ i, i < j → (markR L j m).getD i false = true → ∀ k ∈ (nd L (i : Int)).ins, (markR L j m).getD k.toNat false = true) := by
  intro j
  induction j with
  | zero => intro m _ _; exact ⟨fun i h => h, fun i _ => rfl, fun i h => absurd h (Nat.not_lt_zero _)⟩
  | succ j ih =>
    intro m hm hj
    have hins := ndOk_ins (nd_ok hL (i := (j : Int)) (by omega) (by omega))
    obtain ⟨a, b, c⟩ := ih (markIn (nd L (j : Int)).ins (m.getD j false) m) (by rw [markIn_length]; omega) (by omega)
    have e : markR L (j + 1) m = markR L j (markIn (nd L (j : Int)).ins (m.getD j false) m) := rfl
    rw [e]
    have keep : ∀ i, m.getD i false = true → (markIn (nd L (j : Int)).ins (m.getD j false) m).getD i false = true := fun i h => by
      cases hc : m.getD j false with
      | true => exact (markIn_true _ m i).1 h
      | false => rw [markIn_false]; exact h
    refine ⟨fun i h => a i (keep i h), fun i hi => ?_, ?_⟩
    · rw [b i (by omega), markIn_other _ _ _ _ fun k hk => by have := hins k hk; omega]
    · intro i hi ht k hk
      by_cases e2 : i = j
      · subst e2
        rw [b i (Nat.le_refl _), markIn_other _ _ _ _ (fun k hk => hins k hk)] at ht
        rw [ht] at a ⊢
        have hk2 := hins k hk
        exact a _ ((markIn_true _ m k.toNat).2 ⟨k, hk, rfl⟩ (by omega))
      · exact c i (by omega) ht k hk
theorem marks_root {L : List Nd} {n : Int} (hL : ndsOk L n L.length) {root : Nat} (hr : root < L.length) : (marks L root).getD root false = true := by
  refine (markR_spec hL (root + 1) _ (by simp) hr).1 root ?_
  simp [List.getD_eq_getElem?_getD]
theorem marks_ins {L : List Nd} {n : Int} (hL : ndsOk L n L.length) {root : Nat} (hr : root < L.length) {i : Nat} (hi : i ≤ root) (h : (marks L root).getD i false = true) : ∀ k ∈ (nd L (i : Int)).ins, (marks L root).getD k.toNat false = true :=
  (markR_spec hL (root + 1) _ (by simp) hr).2.2 i (by omega) h
structure NetInv (n : Int) (L : List Nd) (root : Nat) (st : List Int × List Nd) (k : Nat) : Prop where
  len : st.1.length = root + 1
  later : ∀ j, k ≤ j → st.1.getD j 0 = ((marks L root).map b2i).getD j 0
  done : ∀ j, j < k → (marks L root).getD j false = true → 0 ≤ st.1.getD j 0 ∧ st.1.getD j 0 < (st.2.length : Int) ∧ (∀ s, T s st.2 (st.1.getD j 0) = T s L j) ∧ (nd st.2 (st.1.getD j 0)).kind = (nd L (j : Int)).kind
  nds : ndsOk st.2 n st.2.length
  shp : ∀ x ∈ st.2, ∃ i, i < L.length ∧ x.kind = (nd L (i : Int)).kind ∧ x.lit = (nd L (i : Int)).lit ∧ x.ins.length = (nd L (i : Int)).ins.length
  last : k = root + 1 → (marks L root).getD root false = true → st.1.getD root 0 = (st.2.length : Int) - 1
theorem getD_b2i (m : List Bool) (j : Nat) : (m.map b2i).getD j 0 = b2i (m.getD j false) := by
  simp only [List.getD_eq_getElem?_getD, List.getElem?_map]
  cases m[j]? <;> rfl
theorem netInv {n : Int} {L : List Nd} (hL : ndsOk L n L.length) {root : Nat} (hr : root < L.length) (k : Nat) (hk : k ≤ root + 1) : NetInv n L root (netSt L ((marks L root).map b2i) k) k := by
  induction k with
  | zero =>
    refine ⟨by simp [netSt, marks_length], fun j _ => rfl, fun j h => absurd h (Nat.not_lt_zero _), fun j hj => absurd hj (by simp [netSt]), by simp [netSt], by omega⟩
  | succ k ih =>
    have h := ih (by omega)
    rw [netSt]
    generalize netSt L ((marks L root).map b2i) k = st at h ⊢
    have hat := h.later k (Nat.le_refl _)
    rw [getD_b2i] at hat
    unfold netStep
    cases hm : (marks L root).getD k false with
    | false =>
      rw [hm] at hat
      rw [if_pos (by rw [hat]; rfl)]
      refine ⟨h.len, fun j hj => h.later j (by omega), fun j hj hmj => ?_, h.nds, h.shp, fun e hroot => ?_⟩
      · by_cases e : j = k
        · subst e; rw [hm] at hmj; exact absurd hmj (by simp)
        · exact h.done j (by omega) hmj
      · have : root = k := by omega
        subst this; rw [hm] at hroot; exact absurd hroot (by simp)
    | true =>
      rw [hm] at hat
      rw [if_neg (by rw [hat]; decide)]
      have hkl : k < L.length := by omega
      have hkL := nd_ok hL (i := (k : Int)) (by omega) (by omega)
      have hins := ndOk_ins hkL
      have hmi := marks_ins hL hr (by omega) hm
      generalize hx : (⟨(nd L (k : Int)).kind, (nd L (k : Int)).lit, (nd L (k : Int)).ins.map fun i => st.1.getD i.toNat 0⟩ : Nd) = x
      have hxins : ∀ i ∈ x.ins, 0 ≤ i ∧ i < (st.2.length : Int) := by
        intro i hi
        rw [← hx] at hi
        simp only [List.mem_map] at hi
        obtain ⟨j, hj, rfl⟩ := hi
        have := hins j hj
        obtain ⟨a, b, _⟩ := h.done j.toNat (by omega) (hmi j hj)
        exact ⟨a, b⟩
      have hxok : ndOk x n st.2.length = true := by
        have h2 := hkL
        simp only [ndOk, Bool.and_eq_true] at h2 ⊢
        refine ⟨insOk_iff.2 hxins, ?_⟩
        have h3 := h2.2
        unfold formOk at h3 ⊢
        rw [← hx]; simpa using h3
      have hgk : ∀ j, (st.1.set k (st.2.length : Int)).getD j 0 = if j = k then (st.2.length : Int) else st.1.getD j 0 := fun j => by
        simp only [List.getD_eq_getElem?_getD, List.getElem?_set]
        by_cases e : j = k
        · subst e; simp [show j < st.1.length by rw [h.len]; omega]
        · rw [if_neg (fun e2 => e e2.symm), if_neg e]
      refine ⟨by simp [h.len], fun j hj => ?_, fun j hj hmj => ?_, ndsOk_snoc h.nds hxok, ?_, fun e hroot => ?_⟩
      · show (st.1.set k (st.2.length : Int)).getD j 0 = _
        rw [hgk, if_neg (by omega)]; exact h.later j (by omega)
      · simp only [hgk]
        by_cases e : j = k
        · subst e
          rw [if_pos rfl]
          refine ⟨by omega, by simp; omega, fun s => ?_, by simp [nd, List.getD_eq_getElem?_getD, ← hx]⟩
          rw [T_snoc, T_nd s hL (i := (j : Int)) (by omega) (by omega)]
          have : evNd s (T s st.2) x = evNd s (fun i => T s st.2 (st.1.getD i.toNat 0)) (nd L (j : Int)) := by
            rw [← hx]; unfold evNd; simp [List.all_map, List.any_map, Function.comp_def]
          rw [this]
          apply evNd_congr
          intro i hi
          have hi2 := hins i hi
          obtain ⟨_, _, c, _⟩ := h.done i.toNat (by omega) (hmi i hi)
          rw [c s, show ((i.toNat : Nat) : Int) = i by omega]
        · rw [if_neg e]
          obtain ⟨a, b, c, d⟩ := h.done j (by omega) hmj
          exact ⟨a, by show _ < (((st.2 ++ [x]).length : Nat) : Int); rw [List.length_append, List.length_singleton]; omega, fun s => by rw [T_append s _ _ _ b a]; exact c s, by rw [nd_append a b]; exact d⟩
      · intro y hy
        rcases List.mem_append.1 hy with hy | hy
        · exact h.shp y hy
        · simp at hy; rw [hy]; exact ⟨k, hkl, by rw [← hx], by rw [← hx], by rw [← hx]; simp⟩
      · have : root = k := by omega
        subst this
        show (st.1.set root (st.2.length : Int)).getD root 0 = _
        rw [hgk, if_pos rfl]; simp
theorem netL_T {n : Int} {L : List Nd} (hL : ndsOk L n L.length) {root : Nat} (hr : root < L.length) :
    1 ≤ (netL L root).length ∧ (netL L root).length ≤ root + 1 ∧ ndsOk (netL L root) n (netL L root).length ∧ (∀ s, ev s ⟨n, netL L root⟩ = T s L root) ∧
    (nd (netL L root) ((netL L root).length - 1 : Nat)).kind = (nd L (root : Int)).kind ∧
    ∀ x ∈ netL L root, ∃ i, i < L.length ∧ x.kind = (nd L (i : Int)).kind ∧ x.lit = (nd L (i : Int)).lit ∧ x.ins.length = (nd L (i : Int)).ins.length := by
  have h := netInv hL hr (root + 1) (Nat.le_refl _)
  have hm := marks_root hL hr
  have h2 := netSt_out L ((marks L root).map b2i) (root + 1)
  unfold netL
  generalize netSt L ((marks L root).map b2i) (root + 1) = st at *
  obtain ⟨a, b, c, d⟩ := h.done root (by omega) hm
  have e := h.last rfl hm
  have h1 : 1 ≤ st.2.length := by omega
  have e2 : st.1.getD root 0 = ((st.2.length - 1 : Nat) : Int) := by omega
  rw [e2] at c d
  exact ⟨h1, h2, h.nds, fun s => by rw [ev_eq s _ h1]; exact c s, d, h.shp⟩
/-- The reduced net. -/
theorem redL_T {n : Int} {l : List Nd} (h : netOk ⟨n, l⟩ = true) :
    netOk ⟨n, redL n l⟩ = true ∧ (redL n l).length ≤ l.length ∧ (∀ s, ev s ⟨n, redL n l⟩ = ev s ⟨n, l⟩) := by
  obtain ⟨hn0, hn1, h1, h2⟩ := netOk_head h
  have hL : ndsOk l n l.length := by simp [netOk] at h; exact h.2
  simp only at hn0 hn1 h1 h2
  have hi := redSt_inv h2 hL l.length (Nat.le_refl _)
  have hr := redRoot_lt h2 hL h1
  obtain ⟨a, b, c, d, _, _⟩ := netL_T hi.ok.nds hr
  have hle := hi.ok.le
  refine ⟨?_, by unfold redL; omega, fun s => ?_⟩
  · simp only [netOk, headOk, Bool.and_eq_true, decide_eq_true_eq]
    unfold redL
    exact ⟨⟨⟨⟨hn0, hn1⟩, a⟩, by omega⟩, c⟩
  · unfold redL
    rw [d s, ev_eq s _ h1]
    have hg := hi.ok.getD (l.length - 1) (by omega)
    have := hi.t s (l.length - 1) (by omega)
    show T s _ ((redRoot n l : Nat) : Int) = _
    unfold redRoot
    rw [show (((redSt n l l.length).2.getD (l.length - 1) 0).toNat : Int) = (redSt n l l.length).2.getD (l.length - 1) 0 by omega]
    exact this
end Cen
