/- Part of the proofs that laws of censuslaw38 return true for every input, where the tables that the rows list are laid. Texts: WideR. -/
import Derived.Test.YteoopkogpjhneaaDoorZA14

/- Plain: what the images of literals, of chains of decisions and of conjunctions of literals are when a net is reduced. -/
namespace Cen
theorem litVar_zero : litVar 0 = 0 := by unfold litVar; rw [if_neg (by omega), if_neg (by omega)]
theorem nopp_step {L : List Nd} {n : Int} {q : Bool} (hL : ndsOk L n L.length) {p : List Int} {st : InS} (h : InSInv L q p st)
    (hn : st.opn = true → ∀ i ∈ p, ∀ j ∈ p, (nd L i).kind = 2 → (nd L j).kind = 2 → (nd L i).lit ≠ -(nd L j).lit) {i : Int} (h0 : 0 ≤ i) (h1 : i < L.length) :
    (addS L (dropK q) (endK q) st i).opn = true → ∀ a ∈ p ++ [i], ∀ b ∈ p ++ [i], (nd L a).kind = 2 → (nd L b).kind = 2 → (nd L a).lit ≠ -(nd L b).lit := by
  intro ho a ha b hb ka kb e
  simp only [addS, Bool.and_eq_true, Bool.not_eq_true'] at ho
  obtain ⟨ho1, ho2⟩ := ho
  have key : (nd L i).kind = 2 → -(nd L i).lit ∉ st.lits := by
    intro hk hm
    have : hitS L (endK q) st i = true := by
      unfold hitS
      rw [Bool.or_eq_true]; right
      rw [Bool.and_eq_true]
      exact ⟨by simpa using hk, by simpa using hm⟩
    rw [this] at ho2; simp at ho2
  rcases List.mem_append.1 ha with ha' | ha' <;> rcases List.mem_append.1 hb with hb' | hb'
  · exact hn ho1 a ha' b hb' ka kb e
  · obtain rfl : b = i := by simpa using hb'
    have := h.lo a ha' ka
    rw [e] at this; exact key kb this
  · obtain rfl : a = i := by simpa using ha'
    have := h.lo b hb' kb
    have e2 : (nd L b).lit = -(nd L a).lit := by omega
    rw [e2] at this; exact key ka this
  · obtain rfl : a = i := by simpa using ha'
    obtain rfl : b = a := by simpa using hb'
    have h2 := (ndOk_lit (nd_ok hL h0 h1) ka).1
    have : (nd L b).lit = 0 := by omega
    rw [this] at h2; exact h2 litVar_zero
theorem inS_nopp {L : List Nd} {n : Int} {q : Bool} (hL : ndsOk L n L.length) {l : List Int} (hl : ∀ i ∈ l, 0 ≤ i ∧ i < (L.length : Int)) :
    (inS L (dropK q) (endK q) l).opn = true → ∀ i ∈ l, ∀ j ∈ l, (nd L i).kind = 2 → (nd L j).kind = 2 → (nd L i).lit ≠ -(nd L j).lit := by
  have key : ∀ (l p : List Int) (st : InS), (∀ i ∈ p, 0 ≤ i ∧ i < (L.length : Int)) → (∀ i ∈ l, 0 ≤ i ∧ i < (L.length : Int)) → InSInv L q p st →
      (st.opn = true → ∀ i ∈ p, ∀ j ∈ p, (nd L i).kind = 2 → (nd L j).kind = 2 → (nd L i).lit ≠ -(nd L j).lit) →
      (l.foldl (addS L (dropK q) (endK q)) st).opn = true → ∀ i ∈ p ++ l, ∀ j ∈ p ++ l, (nd L i).kind = 2 → (nd L j).kind = 2 → (nd L i).lit ≠ -(nd L j).lit := by
    intro l
    induction l with
    | nil => intro p st _ _ _ hn; simpa using hn
    | cons x l ih =>
      intro p st hp hl h hn
      have hx := hl x (by simp)
      have := ih (p ++ [x]) _ (fun i hi => by
        rcases List.mem_append.1 hi with hi | hi
        · exact hp i hi
        · simp at hi; subst hi; exact hx) (fun i hi => hl i (by simp [hi])) (inSInv_step hL hp h hx.1 hx.2) (nopp_step hL h hn hx.1 hx.2)
      rw [List.append_assoc] at this
      exact this
  have := key l [] ⟨[], [], true⟩ (by simp) hl ⟨by simp, by simp, by simp, by simp, by simp, by simp, by simp, by simp, by simp⟩ (by simp)
  rw [List.nil_append] at this; exact this
theorem pol_eq {k : Int} {q q' : Bool} (h : pol k q) (h' : pol k q') : q = q' := by
  rcases h with ⟨a, rfl⟩ | ⟨a, rfl⟩ <;> rcases h' with ⟨b, rfl⟩ | ⟨b, rfl⟩ <;> first | rfl | omega
/-- What Add comes to at an And or Or, by its inputs. -/
theorem addL_inner {n : Int} {L : List Nd} {x : Nd} (hl : L.length < 65536) (hL : ndsOk L n L.length) (hx : ndOk x n L.length = true) {q : Bool} (hp : pol x.kind q) {F : List Int} (hF : flat L x.kind x.ins = F) :
    (((∃ i ∈ F, (nd L i).kind = endK q) ∨ ∃ i ∈ F, ∃ j ∈ F, (nd L i).kind = 2 ∧ (nd L j).kind = 2 ∧ (nd L i).lit = -(nd L j).lit) ∧ (nd (addL n L x).1 (addL n L x).2).kind = endK q) ∨
    ((∀ i ∈ F, (nd L i).kind ≠ endK q) ∧ (∀ i ∈ F, ∀ j ∈ F, (nd L i).kind = 2 → (nd L j).kind = 2 → (nd L i).lit ≠ -(nd L j).lit) ∧
      (((∀ i ∈ F, (nd L i).kind = dropK q) ∧ (nd (addL n L x).1 (addL n L x).2).kind = dropK q) ∨
       (∃ i ∈ F, (nd L i).kind ≠ dropK q ∧ (∀ j ∈ F, (nd L j).kind = dropK q ∨ j = i) ∧ addL n L x = (L, i)) ∨
       (∃ ins, nd (addL n L x).1 (addL n L x).2 = ⟨x.kind, 0, ins⟩ ∧ 2 ≤ ins.length ∧ ins.Nodup ∧ ∀ j, j ∈ ins ↔ j ∈ F ∧ (nd L j).kind ≠ dropK q))) := by
  have hxi := ndOk_ins hx
  have hfv := flat_valid (kind := x.kind) hL hxi
  rw [hF] at hfv
  have hI := inSInv (q := q) hL hfv
  have hN := inS_nopp (q := q) hL hfv
  have hE : endK q = 0 ∨ endK q = 1 := by cases q <;> simp [endK]
  have hD : dropK q = 0 ∨ dropK q = 1 := by cases q <;> simp [dropK]
  have hk : x.kind = 3 ∨ x.kind = 4 := by rcases hp with ⟨h, _⟩ | ⟨h, _⟩ <;> simp [h]
  have e1 : (inputsL L x.kind (dropK q) (endK q) x.ins).1 = sortL (inS L (dropK q) (endK q) F).out := by unfold inputsL; simp only [hF]
  have e2 : (inputsL L x.kind (dropK q) (endK q) x.ins).2 = (inS L (dropK q) (endK q) F).opn := by unfold inputsL; simp only [hF]
  rcases addL_form hx with ⟨h, _⟩ | ⟨q', hp', h⟩
  · exact absurd hk h
  · obtain rfl := pol_eq hp hp'
    rw [e2] at h
    rcases h with ⟨ho, e⟩ | ⟨ho, h⟩
    · left
      refine ⟨?_, ?_⟩
      · rcases hI.hit ho with h | ⟨i, hi, j, hj, a, b, c⟩
        · exact .inl h
        · exact .inr ⟨i, hi, j, hj, a, b, c⟩
      · rw [e]; simp only; rw [(putL_T hl hL (ndOk_const (n := n) (b := L.length) hE)).2.1]
    · right
      refine ⟨hI.nohit ho, hN ho, ?_⟩
      have hv := inputsL_valid (kind := x.kind) (drop := dropK q) (endk := endK q) hL hxi
      rw [e1] at h hv
      have hm : ∀ j, j ∈ sortL (inS L (dropK q) (endK q) F).out ↔ j ∈ F ∧ (nd L j).kind ≠ dropK q := fun j => by
        rw [sortL_mem]
        refine ⟨fun hj => ⟨hI.sub j hj, hI.nodrop j hj⟩, fun ⟨a, b⟩ => ?_⟩
        rcases hI.out ho j a with c | c
        · exact absurd c b
        · exact c
      rcases h with ⟨h0, e⟩ | ⟨i, h1, e⟩ | ⟨h2, e⟩
      · left
        refine ⟨fun i hi => ?_, ?_⟩
        · apply Classical.byContradiction; intro hc
          have := (hm i).2 ⟨hi, hc⟩
          rw [h0] at this; simp at this
        · rw [e]; simp only; rw [(putL_T hl hL (ndOk_const (n := n) (b := L.length) hD)).2.1]
      · right; left
        rw [h1] at hm
        have a := (hm i).1 (by simp)
        refine ⟨i, a.1, a.2, fun j hj => ?_, e⟩
        by_cases hc : (nd L j).kind = dropK q
        · exact .inl hc
        · right; have := (hm j).2 ⟨hj, hc⟩; simpa using this
      · right; right
        refine ⟨_, ?_, h2, ?_, hm⟩
        · rw [e]; simp only; rw [(putL_T hl hL (ndOk_inner (n := n) hk hv)).2.1]
        · unfold sortL; exact ((List.mergeSort_perm _ _).nodup_iff).2 hI.nodup
theorem nodup_two {l : List Int} (h : l.Nodup) (h2 : 2 ≤ l.length) (i : Int) : ∃ j ∈ l, j ≠ i := by
  match l, h, h2 with
  | a :: b :: l, h, _ =>
    by_cases e : a = i
    · refine ⟨b, by simp, fun e2 => ?_⟩
      rw [List.nodup_cons] at h
      exact h.1 (by rw [e, ← e2]; simp)
    · exact ⟨a, by simp, e⟩

/-! The forms. -/
def SLit (L : List Nd) (x i : Int) : Prop := (nd L i).kind = 2 ∧ (nd L i).lit = x
def AndOf (L : List Nd) (P : Int → Prop) (x q : Int) : Prop := (nd L q).kind = 3 ∧ ∃ c m, (∀ j, j ∈ (nd L q).ins ↔ j = c ∨ j = m) ∧ P c ∧ SLit L (-x) m
/-- The node is the chain of decisions that is true if some of the literals is. -/
def Ch (L : List Nd) : List Int → Int → Prop
  | [], i => (nd L i).kind = 0
  | [x], i => SLit L x i
  | x :: y :: ls, i => (nd L i).kind = 4 ∧ ∃ p q, (∀ j, j ∈ (nd L i).ins ↔ j = p ∨ j = q) ∧ SLit L x p ∧ AndOf L (Ch L (y :: ls)) x q
/-- The node is the And of the literals. -/
def Al (L : List Nd) (ls : List Int) (i : Int) : Prop := (nd L i).kind = 3 ∧ (∀ p ∈ (nd L i).ins, ∃ x ∈ ls, SLit L x p) ∧ ∀ x ∈ ls, ∃ p ∈ (nd L i).ins, SLit L x p
theorem SLit.ext {L r : List Nd} {x i : Int} (h0 : 0 ≤ i) (h1 : i < (L.length : Int)) (h : SLit L x i) : SLit (L ++ r) x i := by unfold SLit; rw [nd_append h0 h1]; exact h
theorem ins_in {L : List Nd} {n : Int} (hL : ndsOk L n L.length) {i : Int} (h0 : 0 ≤ i) (h1 : i < (L.length : Int)) : ∀ j ∈ (nd L i).ins, 0 ≤ j ∧ j < (L.length : Int) := fun j hj => by
  have := ndOk_ins (nd_ok hL h0 h1) j hj; omega
theorem Ch.ext {L r : List Nd} {n : Int} (hL : ndsOk L n L.length) : ∀ (ls : List Int) (i : Int), 0 ≤ i → i < (L.length : Int) → Ch L ls i → Ch (L ++ r) ls i
  | [], i, h0, h1, h => by unfold Ch at *; rw [nd_append h0 h1]; exact h
  | [x], i, h0, h1, h => by unfold Ch at *; exact h.ext h0 h1
  | x :: y :: ls, i, h0, h1, h => by
    unfold Ch at h ⊢
    obtain ⟨hk, p, q, hin, hp, hq, c, m, hin2, hc, hm⟩ := h
    have vi := ins_in hL h0 h1
    have vp := vi p ((hin p).2 (.inl rfl))
    have vq := vi q ((hin q).2 (.inr rfl))
    have vj := ins_in hL vq.1 vq.2
    have vc := vj c ((hin2 c).2 (.inl rfl))
    have vm := vj m ((hin2 m).2 (.inr rfl))
    rw [nd_append h0 h1]
    refine ⟨hk, p, q, hin, hp.ext vp.1 vp.2, ?_, c, m, ?_, Ch.ext hL (y :: ls) c vc.1 vc.2 hc, hm.ext vm.1 vm.2⟩
    · rw [nd_append vq.1 vq.2]; exact hq
    · rw [nd_append vq.1 vq.2]; exact hin2
theorem Ch.kind {L : List Nd} : ∀ {ls : List Int} {i : Int}, Ch L ls i → (ls = [] ∧ (nd L i).kind = 0) ∨ (∃ x, ls = [x] ∧ SLit L x i) ∨ ((nd L i).kind = 4 ∧ 2 ≤ ls.length)
  | [], _, h => .inl ⟨rfl, h⟩
  | [x], _, h => .inr (.inl ⟨x, rfl, h⟩)
  | _ :: _ :: _, _, h => .inr (.inr ⟨h.1, by simp⟩)
theorem AndOf.ext {L r : List Nd} {n : Int} (hL : ndsOk L n L.length) {ls : List Int} {x q : Int} (h0 : 0 ≤ q) (h1 : q < (L.length : Int)) (h : AndOf L (Ch L ls) x q) : AndOf (L ++ r) (Ch (L ++ r) ls) x q := by
  obtain ⟨hk, c, m, hin, hc, hm⟩ := h
  have vj := ins_in hL h0 h1
  have vc := vj c ((hin c).2 (.inl rfl))
  have vm := vj m ((hin m).2 (.inr rfl))
  unfold AndOf
  rw [nd_append h0 h1]
  exact ⟨hk, c, m, hin, Ch.ext hL ls c vc.1 vc.2 hc, hm.ext vm.1 vm.2⟩

/-! The images, given literals. -/
def anyIn (xs ls : List Int) : Prop := ∃ x ∈ ls, x ∈ xs
def left (xs ls : List Int) : List Int := ls.filter fun x => decide (-x ∉ xs)
def ImL (xs : List Int) (L : List Nd) (x i : Int) : Prop := (x ∈ xs → (nd L i).kind = 1) ∧ (x ∉ xs → -x ∈ xs → (nd L i).kind = 0) ∧ (x ∉ xs → -x ∉ xs → SLit L x i)
def ImC (xs : List Int) (L : List Nd) (ls : List Int) (i : Int) : Prop := (anyIn xs ls → (nd L i).kind = 1) ∧ (¬ anyIn xs ls → Ch L (left xs ls) i)
structure ImA (xs : List Int) (L : List Nd) (x : Int) (ls : List Int) (i : Int) : Prop where
  a : x ∈ xs → (nd L i).kind = 0
  b : x ∉ xs → anyIn xs ls → -x ∈ xs → (nd L i).kind = 1
  c : x ∉ xs → anyIn xs ls → -x ∉ xs → SLit L (-x) i
  d : x ∉ xs → ¬ anyIn xs ls → -x ∈ xs → Ch L (left xs ls) i
  e : x ∉ xs → ¬ anyIn xs ls → -x ∉ xs → left xs ls = [] → (nd L i).kind = 0
  f : x ∉ xs → ¬ anyIn xs ls → -x ∉ xs → left xs ls ≠ [] → AndOf L (Ch L (left xs ls)) x i
theorem slit_opp {L : List Nd} {n : Int} (hL : ndsOk L n L.length) {i : Int} (h0 : 0 ≤ i) (h1 : i < (L.length : Int)) (hk : (nd L i).kind = 2) : (nd L i).lit ≠ -(nd L i).lit := fun e => by
  have h2 := (ndOk_lit (nd_ok hL h0 h1) hk).1
  have : (nd L i).lit = 0 := by omega
  rw [this] at h2; exact h2 litVar_zero
theorem left_sub {xs ls : List Int} {y : Int} (h : y ∈ left xs ls) : y ∈ ls ∧ -y ∉ xs := by
  unfold left at h; rw [List.mem_filter] at h; exact ⟨h.1, by simpa using h.2⟩
theorem ImC.kind {xs : List Int} {L : List Nd} {ls : List Int} {i : Int} (h : ImC xs L ls i) : (nd L i).kind = 0 ∨ (nd L i).kind = 1 ∨ (nd L i).kind = 2 ∨ (nd L i).kind = 4 := by
  by_cases ha : anyIn xs ls
  · exact .inr (.inl (h.1 ha))
  · rcases (h.2 ha).kind with ⟨_, h⟩ | ⟨x, _, h⟩ | ⟨h, _⟩
    · exact .inl h
    · exact .inr (.inr (.inl h.1))
    · exact .inr (.inr (.inr h))
theorem ImL.kind {xs : List Int} {L : List Nd} {x i : Int} (h : ImL xs L x i) : (nd L i).kind = 0 ∨ (nd L i).kind = 1 ∨ (nd L i).kind = 2 := by
  by_cases h1 : x ∈ xs
  · exact .inr (.inl (h.1 h1))
  · by_cases h2 : -x ∈ xs
    · exact .inl (h.2.1 h1 h2)
    · exact .inr (.inr (h.2.2 h1 h2).1)
theorem add_and {n : Int} {L : List Nd} {X : Nd} (hl : L.length < 65536) (hL : ndsOk L n L.length) (hX : ndOk X n L.length = true) (hk : X.kind = 3) {xs ls : List Int} {x c m : Int} (hin : ∀ j, j ∈ X.ins ↔ j = c ∨ j = m)
    (hc : ImC xs L ls c) (hm : ImL xs L (-x) m) (hcl : noClash xs) (hd : ∀ y ∈ ls, y ≠ x ∧ y ≠ -x) : ImA xs (addL n L X).1 x ls (addL n L X).2 := by
  have kc := hc.kind
  have km := hm.kind
  have vi := ndOk_ins hX
  have vc := vi c ((hin c).2 (.inl rfl))
  have vm := vi m ((hin m).2 (.inr rfl))
  have oc := fun h => slit_opp hL vc.1 vc.2 h
  have om := fun h => slit_opp hL vm.1 vm.2 h
  obtain ⟨r, hr⟩ := (addL_T hl hL hX).1
  have hF : flat L X.kind X.ins = X.ins := flat_self fun i hi => by
    rw [hk]; rcases (hin i).1 hi with rfl | rfl <;> omega
  have h := addL_inner hl hL hX (q := false) (.inl ⟨hk, rfl⟩) hF
  simp only [hin, show endK false = 0 from rfl, show dropK false = 1 from rfl] at h
  have hxx : x ∈ xs → -x ∉ xs := fun h => hcl x h
  rw [show (∃ i, (i = c ∨ i = m) ∧ (nd L i).kind = 0) ↔ ((nd L c).kind = 0 ∨ (nd L m).kind = 0) from ⟨fun ⟨i, hi, h⟩ => hi.elim (fun e => .inl (e ▸ h)) (fun e => .inr (e ▸ h)), fun h => h.elim (fun h => ⟨c, .inl rfl, h⟩) (fun h => ⟨m, .inr rfl, h⟩)⟩] at h
  rcases h with ⟨hE, hk0⟩ | ⟨hno, hnopp, hD⟩
  · have hE' : (nd L c).kind = 0 ∨ (nd L m).kind = 0 ∨ ((nd L c).kind = 2 ∧ (nd L m).kind = 2 ∧ (nd L c).lit = -(nd L m).lit) := by
      rcases hE with (h | h) | ⟨i, hi, j, hj, a, b, e⟩
      · exact .inl h
      · exact .inr (.inl h)
      · rcases hi with rfl | rfl <;> rcases hj with rfl | rfl
        · exact absurd e (oc a)
        · exact .inr (.inr ⟨a, b, e⟩)
        · exact .inr (.inr ⟨b, a, by omega⟩)
        · exact absurd e (om a)
    refine ⟨fun _ => hk0, fun h1 h2 h3 => ?_, fun h1 h2 h3 => ?_, fun h1 h2 h3 => ?_, fun _ _ _ _ => hk0, fun h1 h2 h3 h4 => ?_⟩
    · have a := hc.1 h2
      have b := hm.1 h3
      omega
    · have a := hc.1 h2
      have b := hm.2.2 h3 (by rw [Int.neg_neg]; exact h1)
      have := b.1
      omega
    · have b := hm.1 h3
      have a := hc.2 h2
      have hz : (nd L c).kind = 0 := by omega
      rcases a.kind with ⟨e, _⟩ | ⟨y, _, e⟩ | ⟨e, _⟩
      · rw [e]; exact hk0
      · have := e.1; omega
      · omega
    · have b := hm.2.2 h3 (by rw [Int.neg_neg]; exact h1)
      have a := hc.2 h2
      have b1 := b.1
      rcases a.kind with ⟨e, _⟩ | ⟨y, e, e2⟩ | ⟨e, _⟩
      · exact absurd e h4
      · have e3 := e2.1
        have hy := left_sub (xs := xs) (ls := ls) (y := y) (by rw [e]; simp)
        have := hd y hy.1
        have e4 := e2.2
        have e5 := b.2
        omega
      · omega
  · have noc := hno c (.inl rfl)
    have nom := hno m (.inr rfl)
    -- what is left
    have hD' : ((nd L c).kind = 1 ∧ (nd L m).kind = 1 ∧ (nd (addL n L X).1 (addL n L X).2).kind = 1) ∨ ((nd L c).kind ≠ 1 ∧ ((nd L m).kind = 1 ∨ m = c) ∧ addL n L X = (L, c)) ∨ ((nd L m).kind ≠ 1 ∧ ((nd L c).kind = 1 ∨ m = c) ∧ addL n L X = (L, m)) ∨
        ((nd L c).kind ≠ 1 ∧ (nd L m).kind ≠ 1 ∧ m ≠ c ∧ ∃ ins, nd (addL n L X).1 (addL n L X).2 = ⟨X.kind, 0, ins⟩ ∧ ∀ j, j ∈ ins ↔ j = c ∨ j = m) := by
      rcases hD with ⟨a, b⟩ | ⟨i, hi, a, b, e⟩ | ⟨ins, e, h2, hn, hm2⟩
      · exact .inl ⟨a c (.inl rfl), a m (.inr rfl), b⟩
      · rcases hi with rfl | rfl
        · exact .inr (.inl ⟨a, b m (.inr rfl), e⟩)
        · exact .inr (.inr (.inl ⟨a, (b c (.inl rfl)).elim (fun h => .inl h) (fun h => .inr h.symm), e⟩))
      · obtain ⟨j1, hj1, ne1⟩ := nodup_two hn h2 c
        obtain ⟨j2, hj2, ne2⟩ := nodup_two hn h2 m
        obtain ⟨a1, b1⟩ := (hm2 j1).1 hj1
        obtain ⟨a2, b2⟩ := (hm2 j2).1 hj2
        obtain rfl : j1 = m := a1.elim (fun h => absurd h ne1) id
        obtain rfl : j2 = c := a2.elim id (fun h => absurd h ne2)
        refine .inr (.inr (.inr ⟨b2, b1, ne1, ins, e, fun j => ?_⟩))
        rw [hm2 j]
        exact ⟨fun h => h.1, fun h => ⟨h, by rcases h with rfl | rfl <;> assumption⟩⟩
    refine ⟨fun h1 => ?_, fun h1 h2 h3 => ?_, fun h1 h2 h3 => ?_, fun h1 h2 h3 => ?_, fun h1 h2 h3 h4 => ?_, fun h1 h2 h3 h4 => ?_⟩
    · exact absurd (hm.2.1 (hxx h1) (by rw [Int.neg_neg]; exact h1)) nom
    · have a := hc.1 h2
      have b := hm.1 h3
      rcases hD' with ⟨_, _, h⟩ | ⟨h, _⟩ | ⟨h, _⟩ | ⟨h, _⟩
      · exact h
      · exact absurd a h
      · exact absurd b h
      · exact absurd a h
    · have a := hc.1 h2
      have b := hm.2.2 h3 (by rw [Int.neg_neg]; exact h1)
      have b1 := b.1
      rcases hD' with ⟨_, h, _⟩ | ⟨h, _⟩ | ⟨_, _, e⟩ | ⟨h, _⟩
      · omega
      · exact absurd a h
      · rw [e]; exact b
      · exact absurd a h
    · have b := hm.1 h3
      have a := hc.2 h2
      have ak := a.kind
      rcases hD' with ⟨h, _, _⟩ | ⟨h, _, e⟩ | ⟨h, _⟩ | ⟨_, h, _⟩
      · rcases ak with ⟨_, e⟩ | ⟨y, _, e⟩ | ⟨e, _⟩
        · omega
        · have := e.1; omega
        · omega
      · rw [e]; exact a
      · exact absurd b h
      · exact absurd b h
    · have a := hc.2 h2
      rw [h4] at a
      exact absurd a noc
    · have b := hm.2.2 h3 (by rw [Int.neg_neg]; exact h1)
      have a := hc.2 h2
      have b1 := b.1
      have ne : m ≠ c := by
        intro e; subst e
        rcases a.kind with ⟨e, _⟩ | ⟨y, e, e2⟩ | ⟨e, _⟩
        · exact absurd e h4
        · have hy := left_sub (xs := xs) (ls := ls) (y := y) (by rw [e]; simp)
          have := hd y hy.1
          have e4 := e2.2
          have e5 := b.2
          omega
        · omega
      have kc1 : (nd L c).kind ≠ 1 := by
        rcases a.kind with ⟨_, e⟩ | ⟨y, _, e⟩ | ⟨e, _⟩
        · omega
        · have := e.1; omega
        · omega
      rcases hD' with ⟨h, _⟩ | ⟨_, h, _⟩ | ⟨_, h, _⟩ | ⟨_, _, _, ins, e, hm2⟩
      · exact absurd h kc1
      · rcases h with h | h
        · omega
        · exact absurd h ne
      · rcases h with h | h
        · exact absurd h kc1
        · exact absurd h ne
      · unfold AndOf
        rw [e, hr]
        exact ⟨hk, c, m, hm2, a.ext hL _ _ vc.1 vc.2, b.ext vm.1 vm.2⟩

theorem ImA.kinds {xs ls : List Int} {L : List Nd} {x i : Int} (h : ImA xs L x ls i) (h1 : x ∉ xs) : (nd L i).kind = 0 ∨ (nd L i).kind = 1 ∨ (nd L i).kind = 2 ∨ (nd L i).kind = 3 ∨ (nd L i).kind = 4 := by
  by_cases h2 : anyIn xs ls <;> by_cases h3 : -x ∈ xs
  · have := h.b h1 h2 h3; omega
  · have := (h.c h1 h2 h3).1; omega
  · rcases (h.d h1 h2 h3).kind with ⟨_, e⟩ | ⟨y, _, e⟩ | ⟨e, _⟩
    · omega
    · have := e.1; omega
    · omega
  · by_cases h4 : left xs ls = []
    · have := h.e h1 h2 h3 h4; omega
    · have := (h.f h1 h2 h3 h4).1; omega
theorem mem_flat {L : List Nd} {k i : Int} {l : List Int} : i ∈ flat L k l ↔ ∃ j ∈ l, ((nd L j).kind = k ∧ i ∈ (nd L j).ins) ∨ ((nd L j).kind ≠ k ∧ i = j) := by
  unfold flat
  rw [List.mem_flatMap]
  constructor
  · rintro ⟨j, hj, h⟩
    refine ⟨j, hj, ?_⟩
    by_cases e : (nd L j).kind = k
    · rw [if_pos e] at h; exact .inl ⟨e, h⟩
    · rw [if_neg e] at h; exact .inr ⟨e, by simpa using h⟩
  · rintro ⟨j, hj, h⟩
    refine ⟨j, hj, ?_⟩
    rcases h with ⟨e, h⟩ | ⟨e, h⟩
    · rw [if_pos e]; exact h
    · rw [if_neg e]; simpa using h
theorem left_cons (xs ls : List Int) (x : Int) : left xs (x :: ls) = if -x ∈ xs then left xs ls else x :: left xs ls := by
  unfold left
  by_cases h : -x ∈ xs
  · rw [if_pos h, List.filter_cons_of_neg (by simpa using h)]
  · rw [if_neg h, List.filter_cons_of_pos (by simpa using h)]
/-- An Or of a literal and the rest. -/
theorem add_or {n : Int} {L : List Nd} {X : Nd} (hl : L.length < 65536) (hL : ndsOk L n L.length) (hX : ndOk X n L.length = true) (hk : X.kind = 4) {xs ls : List Int} {x p q : Int} (hin : ∀ j, j ∈ X.ins ↔ j = p ∨ j = q)
    (hp : ImL xs L x p) (hq : ImA xs L x ls q) : ImC xs (addL n L X).1 (x :: ls) (addL n L X).2 := by
  have vi := ndOk_ins hX
  have vp := vi p ((hin p).2 (.inl rfl))
  have vq := vi q ((hin q).2 (.inr rfl))
  have kp := hp.kind
  have op := fun h => slit_opp hL vp.1 vp.2 h
  have oq := fun h => slit_opp hL vq.1 vq.2 h
  obtain ⟨r, hr⟩ := (addL_T hl hL hX).1
  have hpF : p ∈ flat L X.kind X.ins := flat_mem ((hin p).2 (.inl rfl)) (by rw [hk]; omega)
  have hqF : (nd L q).kind ≠ 4 → q ∈ flat L X.kind X.ins := fun h => flat_mem ((hin q).2 (.inr rfl)) (by rw [hk]; exact h)
  have hFm : ∀ j, j ∈ flat L X.kind X.ins → (nd L q).kind ≠ 4 → j = p ∨ j = q := fun j hj hq4 => by
    obtain ⟨i, hi, h⟩ := mem_flat.1 hj
    rw [hk] at h
    rcases (hin i).1 hi with rfl | rfl
    · rcases h with ⟨h, _⟩ | ⟨_, h⟩
      · omega
      · exact .inl h
    · rcases h with ⟨h, _⟩ | ⟨_, h⟩
      · exact absurd h hq4
      · exact .inr h
  have h := addL_inner hl hL hX (q := true) (.inr ⟨hk, rfl⟩) rfl
  simp only [show endK true = 1 from rfl, show dropK true = 0 from rfl] at h
  refine ⟨fun ha => ?_, fun ha => ?_⟩
  · -- true
    rcases h with ⟨_, h⟩ | ⟨hno, hnopp, _⟩
    · exact h
    · exfalso
      by_cases h1 : x ∈ xs
      · exact hno p hpF (hp.1 h1)
      · have h2 : anyIn xs ls := by
          obtain ⟨y, hy, hy2⟩ := ha
          rcases List.mem_cons.1 hy with rfl | hy
          · exact absurd hy2 h1
          · exact ⟨y, hy, hy2⟩
        by_cases h3 : -x ∈ xs
        · have a := hq.b h1 h2 h3
          exact hno q (hqF (by omega)) a
        · have a := hq.c h1 h2 h3
          have b := hp.2.2 h1 h3
          have a1 := a.1
          exact hnopp p hpF q (hqF (by omega)) b.1 a1 (by rw [a.2, b.2]; omega)
  · have h1 : x ∉ xs := fun h => ha ⟨x, by simp, h⟩
    have h2 : ¬ anyIn xs ls := fun ⟨y, hy, hy2⟩ => ha ⟨y, by simp [hy], hy2⟩
    rw [left_cons]
    by_cases h3 : -x ∈ xs
    · rw [if_pos h3]
      have a := hq.d h1 h2 h3
      have b := hp.2.1 h1 h3
      generalize left xs ls = ls' at a ⊢
      match ls', a with
      | [], a =>
        have a' : (nd L q).kind = 0 := a
        show (nd _ _).kind = 0
        rcases h with ⟨hE, _⟩ | ⟨_, _, ⟨_, h⟩ | ⟨i, hi, c, _⟩ | ⟨ins, e, c, d, g⟩⟩
        · exfalso
          rcases hE with ⟨i, hi, e⟩ | ⟨i, hi, j, hj, e, _⟩ <;> rcases hFm i hi (by omega) with rfl | rfl <;> omega
        · exact h
        · exfalso; rcases hFm i hi (by omega) with rfl | rfl <;> omega
        · exfalso
          obtain ⟨j, hj, _⟩ := nodup_two d c p
          obtain ⟨u, v⟩ := (g j).1 hj
          rcases hFm j u (by omega) with rfl | rfl <;> omega
      | [y], a =>
        have a' : SLit L y q := a
        have a1 := a'.1
        show SLit _ y _
        rcases h with ⟨hE, _⟩ | ⟨_, _, ⟨c, _⟩ | ⟨i, hi, c, _, e⟩ | ⟨ins, e, c, d, g⟩⟩
        · exfalso
          rcases hE with ⟨i, hi, e⟩ | ⟨i, hi, j, hj, e, e2, e3⟩
          · rcases hFm i hi (by omega) with rfl | rfl <;> omega
          · rcases hFm i hi (by omega) with rfl | rfl
            · omega
            · rcases hFm j hj (by omega) with rfl | rfl
              · omega
              · exact oq a1 e3
        · exfalso; have := c q (hqF (by omega)); omega
        · rw [e]
          rcases hFm i hi (by omega) with rfl | rfl
          · exact absurd b c
          · exact a'
        · exfalso
          obtain ⟨j, hj, ne⟩ := nodup_two d c q
          obtain ⟨u, v⟩ := (g j).1 hj
          rcases hFm j u (by omega) with rfl | rfl
          · exact v b
          · exact ne rfl
      | y :: z :: t, a =>
        obtain ⟨k4, p2, q2, hin2, a2, a3⟩ := a
        have vj := ins_in hL vq.1 vq.2
        have vp2 := vj p2 ((hin2 p2).2 (.inl rfl))
        have vq2 := vj q2 ((hin2 q2).2 (.inr rfl))
        have k2 := a2.1
        have k3 := a3.1
        have hG : ∀ j, j ∈ flat L X.kind X.ins ↔ j = p ∨ j = p2 ∨ j = q2 := fun j => by
          rw [mem_flat, hk]
          constructor
          · rintro ⟨i, hi, h⟩
            rcases (hin i).1 hi with rfl | rfl
            · rcases h with ⟨h, _⟩ | ⟨_, h⟩
              · omega
              · exact .inl h
            · rcases h with ⟨_, h⟩ | ⟨h, _⟩
              · exact .inr ((hin2 j).1 h)
              · exact absurd k4 h
          · rintro (rfl | h)
            · exact ⟨j, (hin j).2 (.inl rfl), .inr ⟨by omega, rfl⟩⟩
            · exact ⟨q, (hin q).2 (.inr rfl), .inl ⟨k4, (hin2 j).2 h⟩⟩
        have fp2 := (hG p2).2 (.inr (.inl rfl))
        have fq2 := (hG q2).2 (.inr (.inr rfl))
        rcases h with ⟨hE, _⟩ | ⟨_, _, ⟨c, _⟩ | ⟨i, hi, c, d, e⟩ | ⟨ins, e, c, d, g⟩⟩
        · exfalso
          rcases hE with ⟨i, hi, e⟩ | ⟨i, hi, j, hj, e, e2, e3⟩
          · rcases (hG i).1 hi with rfl | rfl | rfl <;> omega
          · rcases (hG i).1 hi with rfl | rfl | rfl
            · omega
            · rcases (hG j).1 hj with rfl | rfl | rfl
              · omega
              · exact slit_opp hL vp2.1 vp2.2 k2 e3
              · omega
            · omega
        · exfalso; have := c p2 fp2; omega
        · exfalso
          rcases d p2 fp2 with d1 | d1
          · omega
          · rcases d q2 fq2 with d2 | d2
            · omega
            · rw [d1, ← d2] at k2; omega
        · show (nd _ _).kind = 4 ∧ _
          rw [e, hr]
          refine ⟨hk, p2, q2, fun j => ?_, a2.ext vp2.1 vp2.2, AndOf.ext hL vq2.1 vq2.2 a3⟩
          rw [g j, hG j]
          constructor
          · rintro ⟨rfl | h, w⟩
            · exact absurd b w
            · exact h
          · rintro (rfl | rfl)
            · exact ⟨.inr (.inl rfl), by omega⟩
            · exact ⟨.inr (.inr rfl), by omega⟩
    · rw [if_neg h3]
      have b := hp.2.2 h1 h3
      have b1 := b.1
      cases hls : left xs ls with
      | nil =>
        have a := hq.e h1 h2 h3 hls
        show SLit _ x _
        rcases h with ⟨hE, _⟩ | ⟨_, _, ⟨c, _⟩ | ⟨i, hi, c, _, e⟩ | ⟨ins, e, c, d, g⟩⟩
        · exfalso
          rcases hE with ⟨i, hi, e⟩ | ⟨i, hi, j, hj, e, e2, e3⟩
          · rcases hFm i hi (by omega) with rfl | rfl <;> omega
          · rcases hFm i hi (by omega) with rfl | rfl
            · rcases hFm j hj (by omega) with rfl | rfl
              · exact op b1 e3
              · omega
            · omega
        · exfalso; have := c p hpF; omega
        · rw [e]
          rcases hFm i hi (by omega) with rfl | rfl
          · exact b
          · exact absurd a c
        · exfalso
          obtain ⟨j, hj, ne⟩ := nodup_two d c p
          obtain ⟨u, v⟩ := (g j).1 hj
          rcases hFm j u (by omega) with rfl | rfl
          · exact ne rfl
          · exact v a
      | cons y t =>
        have a := hq.f h1 h2 h3 (by rw [hls]; simp)
        rw [hls] at a
        have k3 := a.1
        rcases h with ⟨hE, _⟩ | ⟨_, _, ⟨c, _⟩ | ⟨i, hi, c, d, e⟩ | ⟨ins, e, c, d, g⟩⟩
        · exfalso
          rcases hE with ⟨i, hi, e⟩ | ⟨i, hi, j, hj, e, e2, e3⟩
          · rcases hFm i hi (by omega) with rfl | rfl <;> omega
          · rcases hFm i hi (by omega) with rfl | rfl
            · rcases hFm j hj (by omega) with rfl | rfl
              · exact op b1 e3
              · omega
            · omega
        · exfalso; have := c p hpF; omega
        · exfalso
          rcases d p hpF with d1 | d1
          · omega
          · rcases d q (hqF (by omega)) with d2 | d2
            · omega
            · rw [d1, ← d2] at b1; omega
        · show (nd _ _).kind = 4 ∧ _
          rw [e, hr]
          refine ⟨hk, p, q, fun j => ?_, b.ext vp.1 vp.2, AndOf.ext hL vq.1 vq.2 a⟩
          rw [g j]
          constructor
          · rintro ⟨h, _⟩; exact hFm j h (by omega)
          · rintro (rfl | rfl)
            · exact ⟨hpF, by omega⟩
            · exact ⟨hqF (by omega), by omega⟩
/-- A conjunction of literals. -/
theorem add_al {n : Int} {L : List Nd} {X : Nd} (hl : L.length < 65536) (hL : ndsOk L n L.length) (hX : ndOk X n L.length = true) (hk : X.kind = 3) {xs ls : List Int} (hno : ∀ x ∈ ls, x ∉ xs) (hopp : ∀ x ∈ ls, ∀ y ∈ ls, x ≠ -y) (h2 : ∃ x ∈ ls, ∃ y ∈ ls, x ≠ y)
    (hin1 : ∀ p ∈ X.ins, ∃ x ∈ ls, ImL xs L x p) (hin2 : ∀ x ∈ ls, ∃ p ∈ X.ins, ImL xs L x p) :
    ((∃ x ∈ ls, -x ∈ xs) → (nd (addL n L X).1 (addL n L X).2).kind = 0) ∧ ((∀ x ∈ ls, -x ∉ xs) → Al (addL n L X).1 ls (addL n L X).2) := by
  have vi := ndOk_ins hX
  obtain ⟨r, hr⟩ := (addL_T hl hL hX).1
  have hF : flat L X.kind X.ins = X.ins := flat_self fun i hi => by
    obtain ⟨x, _, h⟩ := hin1 i hi
    have := h.kind; omega
  have h := addL_inner hl hL hX (q := false) (.inl ⟨hk, rfl⟩) hF
  simp only [show endK false = 0 from rfl, show dropK false = 1 from rfl] at h
  refine ⟨fun ⟨x, hx, hn⟩ => ?_, fun hn => ?_⟩
  · rcases h with ⟨_, h⟩ | ⟨h, _⟩
    · exact h
    · obtain ⟨p, hp, hi⟩ := hin2 x hx
      exact absurd (hi.2.1 (hno x hx) hn) (h p hp)
  · have s1 : ∀ p ∈ X.ins, ∃ x ∈ ls, SLit L x p := fun p hp => by
      obtain ⟨x, hx, h⟩ := hin1 p hp
      exact ⟨x, hx, h.2.2 (hno x hx) (hn x hx)⟩
    have s2 : ∀ x ∈ ls, ∃ p ∈ X.ins, SLit L x p := fun x hx => by
      obtain ⟨p, hp, h⟩ := hin2 x hx
      exact ⟨p, hp, h.2.2 (hno x hx) (hn x hx)⟩
    obtain ⟨x1, hx1, y1, hy1, hne⟩ := h2
    obtain ⟨p1, hp1, t1⟩ := s2 x1 hx1
    obtain ⟨p2, hp2, t2⟩ := s2 y1 hy1
    rcases h with ⟨hE, _⟩ | ⟨_, _, ⟨c, _⟩ | ⟨i, hi, c, d, e⟩ | ⟨ins, e, c, d, g⟩⟩
    · exfalso
      rcases hE with ⟨i, hi, e⟩ | ⟨i, hi, j, hj, _, _, e⟩
      · obtain ⟨x, _, h⟩ := s1 i hi
        have := h.1; omega
      · obtain ⟨x, hx, h⟩ := s1 i hi
        obtain ⟨y, hy, h'⟩ := s1 j hj
        rw [h.2, h'.2] at e
        exact hopp x hx y hy e
    · exfalso; have := c p1 hp1; have := t1.1; omega
    · exfalso
      have u1 := t1.1
      have u2 := t2.1
      rcases d p1 hp1 with d1 | d1
      · omega
      · rcases d p2 hp2 with d2 | d2
        · omega
        · have v1 := t1.2
          have v2 := t2.2
          rw [d1] at v1
          rw [d2] at v2
          exact hne (by rw [← v1, ← v2])
    · unfold Al
      rw [e, hr]
      refine ⟨hk, fun p hp => ?_, fun x hx => ?_⟩
      · have hp' := ((g p).1 hp).1
        obtain ⟨x, hx, h⟩ := s1 p hp'
        exact ⟨x, hx, h.ext (vi p hp').1 (vi p hp').2⟩
      · obtain ⟨p, hp, h⟩ := s2 x hx
        exact ⟨p, (g p).2 ⟨hp, by have := h.1; omega⟩, h.ext (vi p hp).1 (vi p hp).2⟩
theorem Al.ext {L r : List Nd} {n : Int} (hL : ndsOk L n L.length) {ls : List Int} {i : Int} (h0 : 0 ≤ i) (h1 : i < (L.length : Int)) (h : Al L ls i) : Al (L ++ r) ls i := by
  obtain ⟨hk, a, b⟩ := h
  have vi := ins_in hL h0 h1
  unfold Al
  rw [nd_append h0 h1]
  refine ⟨hk, fun p hp => ?_, fun x hx => ?_⟩
  · obtain ⟨x, hx, h⟩ := a p hp
    exact ⟨x, hx, h.ext (vi p hp).1 (vi p hp).2⟩
  · obtain ⟨p, hp, h⟩ := b x hx
    exact ⟨p, hp, h.ext (vi p hp).1 (vi p hp).2⟩
end Cen
