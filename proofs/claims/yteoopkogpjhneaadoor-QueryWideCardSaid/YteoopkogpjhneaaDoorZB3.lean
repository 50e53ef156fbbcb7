/- Part of the proofs that laws of censuslaw38 return true for every input, where the tables that the rows list are laid. Texts: WideS. -/
import Derived.Test.YteoopkogpjhneaaDoorZB2
import Derived.Test.YteoopkogpjhneaaDoorZA18

/- Plain: the nets of the law of many variables: the conjunction of all literals of one sign, and the disjunction as a chain of decisions. -/
namespace Cen
def wLits (σ : Int) (m : Nat) : List Int := (List.range m).map fun (k : Nat) => σ * ((k : Int) + 1)
def wIn (m : Nat) : List Int := (List.range m).map fun (k : Nat) => (k : Int)
def wAllP (σ : Int) (k : Nat) : List Nd := (List.range k).map fun (i : Nat) => ⟨2, σ * ((i : Int) + 1), []⟩
def wAll (σ : Int) (m : Nat) : List Nd := wAllP σ m ++ [⟨3, 0, wIn m⟩]
def wAny (σ : Int) (m : Nat) : Nat → List Nd
  | 0 => [⟨2, σ * m, []⟩]
  | j + 1 => wAny σ m j ++ [⟨2, σ * ((m : Int) - 1 - j), []⟩, ⟨2, -(σ * ((m : Int) - 1 - j)), []⟩, ⟨3, 0, [4 * (j : Int), 4 * (j : Int) + 2]⟩, ⟨4, 0, [4 * (j : Int) + 1, 4 * (j : Int) + 3]⟩]
def wCh (σ : Int) (m : Nat) : Nat → List Int
  | 0 => [σ * m]
  | j + 1 => σ * ((m : Int) - 1 - j) :: wCh σ m j
theorem wAny_length (σ : Int) (m : Nat) : ∀ j, (wAny σ m j).length = 4 * j + 1
  | 0 => rfl
  | j + 1 => by rw [wAny, List.length_append, wAny_length σ m j]; simp; omega
theorem wCh_mem {σ : Int} {m : Nat} : ∀ {j : Nat}, j < m → ∀ x, x ∈ wCh σ m j ↔ ∃ u : Int, (m : Int) - j ≤ u ∧ u ≤ m ∧ x = σ * u
  | 0, _, x => by
    simp only [wCh, List.mem_singleton]
    constructor
    · intro h; exact ⟨m, by omega, by omega, h⟩
    · rintro ⟨u, a, b, c⟩
      have : u = m := by omega
      rw [c, this]
  | j + 1, hj, x => by
    simp only [wCh, List.mem_cons, wCh_mem (show j < m by omega)]
    constructor
    · rintro (h | ⟨u, a, b, c⟩)
      · exact ⟨m - 1 - j, by omega, by omega, h⟩
      · exact ⟨u, by omega, b, c⟩
    · rintro ⟨u, a, b, c⟩
      by_cases e : u = (m : Int) - 1 - j
      · left; rw [c, e]
      · right; exact ⟨u, by omega, b, c⟩
theorem sg_eq {σ u v : Int} (hσ : σ = 1 ∨ σ = -1) (h : σ * u = σ * v) : u = v := by rcases hσ with rfl | rfl <;> omega
theorem sg_neg {σ u v : Int} (hσ : σ = 1 ∨ σ = -1) (h : σ * u = -(σ * v)) : u = -v := by rcases hσ with rfl | rfl <;> omega
theorem sg_var {σ u : Int} (hσ : σ = 1 ∨ σ = -1) (h1 : 1 ≤ u) (h2 : u ≤ 128) : litVar (σ * u) = u ∧ litVar (-(σ * u)) = u := by
  unfold litVar
  rcases hσ with rfl | rfl <;> constructor <;> (repeat' split) <;> omega
theorem wCh_dist {σ : Int} (hσ : σ = 1 ∨ σ = -1) {m : Nat} : ∀ {j : Nat}, j < m → dist (wCh σ m j)
  | 0, _ => List.pairwise_singleton _ _
  | j + 1, hj => by
    unfold dist
    rw [wCh, List.pairwise_cons]
    refine ⟨fun y hy => ?_, wCh_dist hσ (by omega)⟩
    obtain ⟨u, a, b, rfl⟩ := (wCh_mem (show j < m by omega) y).1 hy
    exact ⟨fun e => by have := sg_eq hσ e; omega, fun e => by have := sg_neg hσ e; omega⟩
/-- Decomposable, said of the variables below nodes. -/
def decQ (L : List Nd) : Prop := ∀ i : Int, 0 ≤ i → i < (L.length : Int) → (nd L i).kind = 3 → (nd L i).ins.Pairwise fun j k => ∀ v, (vm L j).mem v = true → (vm L k).mem v = false
theorem sepF_true {vs : List St} (hv : ∀ k, (vs.getD k St.zero).ok) (ins : List Int) : ∀ s : St, s.ok → (∀ k ∈ ins, ∀ v, s.mem v = true → (vs.getD k.toNat St.zero).mem v = false) →
    (ins.Pairwise fun j k => ∀ v, (vs.getD j.toNat St.zero).mem v = true → (vs.getD k.toNat St.zero).mem v = false) → sepF vs s ins = true := by
  induction ins with
  | nil => intro s _ _ _; rfl
  | cons k ins ih =>
    intro s hs hd hp
    rw [List.pairwise_cons] at hp
    have hz : s.cut (vs.getD k.toNat St.zero) = St.zero := by
      apply St.ext (St.cut_ok hs) St.zero_ok
      intro v _ _
      rw [St.mem_cut, St.mem_zero]
      cases hm : s.mem v with
      | false => rfl
      | true => rw [hd k (by simp) v hm]; rfl
    rw [sepF, if_pos hz]
    refine ih _ (St.union_ok hs (hv _)) (fun j hj v hm => ?_) hp.2
    rw [St.mem_union, Bool.or_eq_true] at hm
    rcases hm with hm | hm
    · exact hd j (by simp [hj]) v hm
    · exact hp.1 j hj v hm
theorem decL_of {L : List Nd} (h : decQ L) : decL L = true := by
  refine decL_true fun j hj => ?_
  have h2 := h j (by omega) (by omega)
  rw [show nd L (j : Int) = L.getD j default by unfold nd; simp] at h2
  unfold ndSep
  by_cases hk : (L.getD j default).kind = 3
  · rw [Bool.or_eq_true]; right
    exact sepF_true (varsL_getD_ok L) _ _ St.zero_ok (fun k _ v hv => by rw [St.mem_zero] at hv; simp at hv) (h2 hk)
  · rw [Bool.or_eq_true]; left; exact decide_eq_true hk
theorem decQ_snoc {L : List Nd} {n : Int} (hL : ndsOk L n L.length) (h : decQ L) {x : Nd} (hx : ndOk x n L.length = true) (hs : x.kind = 3 → x.ins.Pairwise fun j k => ∀ v, (vm L j).mem v = true → (vm L k).mem v = false) : decQ (L ++ [x]) := by
  have key : ∀ ins : List Int, (∀ i ∈ ins, 0 ≤ i ∧ i < (L.length : Int)) → (ins.Pairwise fun j k => ∀ v, (vm L j).mem v = true → (vm L k).mem v = false) → ins.Pairwise fun j k => ∀ v, (vm (L ++ [x]) j).mem v = true → (vm (L ++ [x]) k).mem v = false := by
    intro ins hi hp
    refine List.Pairwise.imp_of_mem ?_ hp
    intro a b ha hb hab v hv
    rw [vm_append _ _ _ (hi a ha).2 (hi a ha).1] at hv
    rw [vm_append _ _ _ (hi b hb).2 (hi b hb).1]
    exact hab v hv
  intro i h0 h1 hk
  rw [List.length_append, List.length_singleton] at h1
  by_cases e : i < (L.length : Int)
  · rw [nd_append h0 e] at hk ⊢
    exact key _ (ins_in hL h0 e) (h i h0 e hk)
  · have e2 : i = (L.length : Int) := by omega
    have e3 : nd (L ++ [x]) i = x := by rw [e2]; simp [nd, List.getD_eq_getElem?_getD]
    rw [e3] at hk ⊢
    exact key _ (ndOk_ins hx) (hs hk)
theorem nd_last (L : List Nd) (x : Nd) : nd (L ++ [x]) (L.length : Int) = x := by simp [nd, List.getD_eq_getElem?_getD]
theorem vm_leaf {L : List Nd} {n : Int} (hL : ndsOk L n L.length) {i : Int} (h0 : 0 ≤ i) (h1 : i < (L.length : Int)) (hi : (nd L i).ins = []) (v : Int) (h : (vm L i).mem v = true) : v = litVar (nd L i).lit := by
  rw [vm_mem hL h0 h1, hi, ofL_mem] at h
  simp at h; omega
theorem ndOk_litN {x n b : Int} (h : litVar x ≠ 0) (h2 : litVar x ≤ n) : ndOk ⟨2, x, []⟩ n b = true := by
  simp [ndOk, insOk, formOk, litOk, h, h2]
/-- What holds of the chain. -/
structure WI (σ : Int) (m j : Nat) (L : List Nd) : Prop where
  len : L.length = 4 * j + 1
  ok : ndsOk L m L.length
  few : ∀ y ∈ L, y.ins.length ≤ 2
  dec : decQ L
  ch : Ch L (wCh σ m j) (4 * (j : Int))
  vars : ∀ v, (vm L (4 * (j : Int))).mem v = true → (m : Int) - j ≤ v
theorem wAny_inv {σ : Int} (hσ : σ = 1 ∨ σ = -1) {m : Nat} (hm : m ≤ 128) : ∀ {j : Nat}, j < m → WI σ m j (wAny σ m j)
  | 0, hj => by
    obtain ⟨a, b⟩ := sg_var (u := m) hσ (by omega) (by omega)
    have hok : ndsOk (wAny σ m 0) m (wAny σ m 0).length := by
      have := ndsOk_snoc (l := []) (n := m) (x := ⟨2, σ * m, []⟩) (fun j hj => by simp at hj) (ndOk_litN (by omega) (by omega))
      exact this
    have hn : nd (wAny σ m 0) 0 = ⟨2, σ * m, []⟩ := rfl
    refine ⟨rfl, hok, ?_, ?_, ⟨rfl, rfl⟩, ?_⟩
    · intro y hy
      simp only [wAny, List.mem_singleton] at hy
      subst hy; simp
    · intro i h0 h1 hk
      have : i = 0 := by simp only [wAny, List.length_singleton] at h1; omega
      subst this
      rw [hn] at hk; simp at hk
    · intro v hv
      have := vm_leaf hok (i := 0) (by omega) (by simp [wAny]) (by rw [hn]) v (by simpa using hv)
      rw [hn] at this
      simp only at this
      omega
  | j + 1, hj => by
    have h := wAny_inv hσ hm (j := j) (by omega)
    generalize hL0 : wAny σ m j = L0 at h
    have el : wAny σ m (j + 1) = (((L0 ++ [⟨2, σ * ((m : Int) - 1 - j), []⟩]) ++ [⟨2, -(σ * ((m : Int) - 1 - j)), []⟩]) ++ [⟨3, 0, [4 * (j : Int), 4 * (j : Int) + 2]⟩]) ++ [⟨4, 0, [4 * (j : Int) + 1, 4 * (j : Int) + 3]⟩] := by
      rw [wAny, hL0]; simp
    obtain ⟨a, b⟩ := sg_var (u := (m : Int) - 1 - j) hσ (by omega) (by omega)
    have l0 := h.len
    generalize hx : σ * ((m : Int) - 1 - j) = x at *
    have ok1 : ndOk ⟨2, x, []⟩ m L0.length = true := ndOk_litN (by omega) (by omega)
    have o1 := ndsOk_snoc h.ok ok1
    have d1 := decQ_snoc h.ok h.dec ok1 (fun e => by simp at e)
    generalize hL1 : L0 ++ [⟨2, x, []⟩] = L1 at *
    have l1 : L1.length = 4 * j + 2 := by rw [← hL1, List.length_append, l0]; rfl
    have ok2 : ndOk ⟨2, -x, []⟩ m L1.length = true := ndOk_litN (by omega) (by omega)
    have o2 := ndsOk_snoc o1 ok2
    have d2 := decQ_snoc o1 d1 ok2 (fun e => by simp at e)
    generalize hL2 : L1 ++ [⟨2, -x, []⟩] = L2 at *
    have l2 : L2.length = 4 * j + 3 := by rw [← hL2, List.length_append, l1]; rfl
    -- what is known of nodes
    have n1 : nd L1 (4 * (j : Int) + 1) = ⟨2, x, []⟩ := by rw [← hL1, show (4 * (j : Int) + 1) = ((L0.length : Nat) : Int) by omega]; exact nd_last _ _
    have n2 : nd L2 (4 * (j : Int) + 2) = ⟨2, -x, []⟩ := by rw [← hL2, show (4 * (j : Int) + 2) = ((L1.length : Nat) : Int) by omega]; exact nd_last _ _
    have n12 : nd L2 (4 * (j : Int) + 1) = ⟨2, x, []⟩ := by rw [← hL2, nd_append (by omega) (by omega)]; exact n1
    have v0 : vm L2 (4 * (j : Int)) = vm L0 (4 * (j : Int)) := by rw [← hL2, vm_append _ _ _ (by omega) (by omega), ← hL1, vm_append _ _ _ (by omega) (by omega)]
    have ch1 : Ch L1 (wCh σ m j) (4 * (j : Int)) := by rw [← hL1]; exact h.ch.ext h.ok _ _ (by omega) (by omega)
    have ch2 : Ch L2 (wCh σ m j) (4 * (j : Int)) := by rw [← hL2]; exact ch1.ext o1 _ _ (by omega) (by omega)
    have vx : ∀ v, (vm L2 (4 * (j : Int) + 2)).mem v = true → v = (m : Int) - 1 - j := fun v hv => by
      have := vm_leaf o2 (by omega) (by omega) (by rw [n2]) v hv
      rw [n2] at this
      simp only at this
      omega
    have ok3 : ndOk ⟨3, 0, [4 * (j : Int), 4 * (j : Int) + 2]⟩ m L2.length = true := ndOk_inner (.inl rfl) (by
      intro i hi
      simp only [List.mem_cons, List.not_mem_nil, or_false] at hi
      omega)
    have o3 := ndsOk_snoc o2 ok3
    have d3 := decQ_snoc o2 d2 ok3 (fun _ => by
      rw [List.pairwise_cons]
      refine ⟨fun k hk v hv => ?_, List.pairwise_singleton _ _⟩
      rw [List.mem_singleton] at hk
      subst hk
      rw [Bool.eq_false_iff]
      intro hv2
      have e1 := vx v hv2
      rw [v0] at hv
      have := h.vars v hv
      omega)
    generalize hL3 : L2 ++ [⟨3, 0, [4 * (j : Int), 4 * (j : Int) + 2]⟩] = L3 at *
    have l3 : L3.length = 4 * j + 4 := by rw [← hL3, List.length_append, l2]; rfl
    have n3 : nd L3 (4 * (j : Int) + 3) = ⟨3, 0, [4 * (j : Int), 4 * (j : Int) + 2]⟩ := by rw [← hL3, show (4 * (j : Int) + 3) = ((L2.length : Nat) : Int) by omega]; exact nd_last _ _
    have m1 : nd L3 (4 * (j : Int) + 1) = ⟨2, x, []⟩ := by rw [← hL3, nd_append (by omega) (by omega)]; exact n12
    have m2 : nd L3 (4 * (j : Int) + 2) = ⟨2, -x, []⟩ := by rw [← hL3, nd_append (by omega) (by omega)]; exact n2
    have ch3 : Ch L3 (wCh σ m j) (4 * (j : Int)) := by rw [← hL3]; exact ch2.ext o2 _ _ (by omega) (by omega)
    have and3 : AndOf L3 (Ch L3 (wCh σ m j)) x (4 * (j : Int) + 3) := by
      unfold AndOf
      rw [n3]
      exact ⟨rfl, 4 * (j : Int), 4 * (j : Int) + 2, by simp, ch3, by unfold SLit; rw [m2]; exact ⟨rfl, rfl⟩⟩
    have s3 : SLit L3 x (4 * (j : Int) + 1) := by unfold SLit; rw [m1]; exact ⟨rfl, rfl⟩
    have vv : ∀ v, (vm L3 (4 * (j : Int) + 3)).mem v = true → (m : Int) - 1 - j ≤ v := fun v hv => by
      rw [vm_mem o3 (by omega) (by omega), n3, Bool.or_eq_true] at hv
      rcases hv with hv | hv
      · rw [ofL_mem, show litVar 0 = 0 from litVar_zero] at hv; simp at hv
      · simp only [List.any_cons, List.any_nil, Bool.or_false, Bool.or_eq_true] at hv
        rw [← hL3, vm_append _ _ _ (by omega) (by omega), vm_append _ _ _ (by omega) (by omega), v0] at hv
        rcases hv with hv | hv
        · have := h.vars v hv; omega
        · have := vx v hv; omega
    have vw : ∀ v, (vm L3 (4 * (j : Int) + 1)).mem v = true → (m : Int) - 1 - j ≤ v := fun v hv => by
      have := vm_leaf o3 (by omega) (by omega) (by rw [m1]) v hv
      rw [m1] at this
      simp only at this
      omega
    have ok4 : ndOk ⟨4, 0, [4 * (j : Int) + 1, 4 * (j : Int) + 3]⟩ m L3.length = true := ndOk_inner (.inr rfl) (by
      intro i hi
      simp only [List.mem_cons, List.not_mem_nil, or_false] at hi
      omega)
    have o4 := ndsOk_snoc o3 ok4
    have d4 := decQ_snoc o3 d3 ok4 (fun e => by simp at e)
    rw [el]
    have n4 : nd (L3 ++ [⟨4, 0, [4 * (j : Int) + 1, 4 * (j : Int) + 3]⟩]) (4 * (j : Int) + 4) = ⟨4, 0, [4 * (j : Int) + 1, 4 * (j : Int) + 3]⟩ := by rw [show (4 * (j : Int) + 4) = ((L3.length : Nat) : Int) by omega]; exact nd_last _ _
    have ej : (4 * ((j + 1 : Nat) : Int)) = 4 * (j : Int) + 4 := by omega
    have l4 : (L3 ++ [(⟨4, 0, [4 * (j : Int) + 1, 4 * (j : Int) + 3]⟩ : Nd)]).length = 4 * j + 5 := by rw [List.length_append, l3]; rfl
    refine ⟨by omega, o4, ?_, d4, ?_, ?_⟩
    · intro y hy
      rw [← hL3, ← hL2, ← hL1] at hy
      simp only [List.mem_append, List.mem_singleton] at hy
      rcases hy with (((hy | hy) | hy) | hy) | hy
      · exact h.few y hy
      all_goals (subst hy; simp)
    · rw [ej, wCh, hx]
      have hc : ∀ (ls : List Int), wCh σ m j = ls → Ch (L3 ++ [⟨4, 0, [4 * (j : Int) + 1, 4 * (j : Int) + 3]⟩]) (x :: ls) (4 * (j : Int) + 4) := by
        intro ls hls
        match ls, hls with
        | [], hls => exfalso; cases j <;> simp [wCh] at hls
        | y :: t, hls =>
          show (nd _ _).kind = 4 ∧ _
          rw [n4, ← hls]
          exact ⟨rfl, 4 * (j : Int) + 1, 4 * (j : Int) + 3, by simp, s3.ext (by omega) (by omega), and3.ext o3 (by omega) (by omega)⟩
      exact hc _ rfl
    · intro v hv
      rw [ej, vm_mem o4 (by omega) (by omega), n4, Bool.or_eq_true] at hv
      rcases hv with hv | hv
      · rw [ofL_mem, show litVar 0 = 0 from litVar_zero] at hv; simp at hv
      · simp only [List.any_cons, List.any_nil, Bool.or_false, Bool.or_eq_true] at hv
        rw [vm_append _ _ _ (by omega) (by omega), vm_append _ _ _ (by omega) (by omega)] at hv
        rcases hv with hv | hv
        · have := vw v hv; omega
        · have := vv v hv; omega
theorem wAllP_nd {σ : Int} {m : Nat} {r : List Nd} {k : Nat} (h : k < m) : nd (wAllP σ m ++ r) (k : Int) = ⟨2, σ * ((k : Int) + 1), []⟩ := by
  rw [nd_append (by omega) (by simp [wAllP]; omega), nd_get (by omega) (by simp [wAllP]; omega)]
  simp [wAllP]
theorem wAllP_ok {σ : Int} (hσ : σ = 1 ∨ σ = -1) {m : Nat} (hm : m ≤ 128) : ndsOk (wAllP σ m) m (wAllP σ m).length := by
  intro j hj
  have hj' : j < m := by simpa [wAllP] using hj
  have e : (wAllP σ m).getD j default = ⟨2, σ * ((j : Int) + 1), []⟩ := by simp [wAllP, List.getD_eq_getElem?_getD, hj']
  rw [e]
  obtain ⟨a, b⟩ := sg_var (u := (j : Int) + 1) hσ (by omega) (by omega)
  exact ndOk_litN (by omega) (by omega)
theorem wAll_length (σ : Int) (m : Nat) : (wAll σ m).length = m + 1 := by simp [wAll, wAllP]
theorem wIn_ok (m : Nat) : ∀ i ∈ wIn m, 0 ≤ i ∧ i < (m : Int) := by
  intro i hi
  simp only [wIn, List.mem_map, List.mem_range] at hi
  obtain ⟨k, hk, rfl⟩ := hi
  omega
theorem wAll_inv {σ : Int} (hσ : σ = 1 ∨ σ = -1) {m : Nat} (hm : m ≤ 128) : ndsOk (wAll σ m) m (wAll σ m).length ∧ decQ (wAll σ m) ∧ Al (wAll σ m) (wLits σ m) ((m : Nat) : Int) ∧ ∀ y ∈ wAll σ m, y.ins.length ≤ 128 := by
  have hp := wAllP_ok hσ hm
  have hl : (wAllP σ m).length = m := by simp [wAllP]
  have hx : ndOk ⟨3, 0, wIn m⟩ m (wAllP σ m).length = true := ndOk_inner (.inl rfl) (by rw [hl]; exact wIn_ok m)
  have nk : ∀ k : Nat, k < m → nd (wAllP σ m) (k : Int) = ⟨2, σ * ((k : Int) + 1), []⟩ := fun k hk => by have := wAllP_nd (σ := σ) (r := []) hk; rwa [List.append_nil] at this
  have hd : decQ (wAllP σ m) := by
    intro i h0 h1 hk
    have := nk i.toNat (by omega)
    rw [show ((i.toNat : Nat) : Int) = i by omega] at this
    rw [this] at hk; simp at hk
  have nl : nd (wAll σ m) (m : Int) = ⟨3, 0, wIn m⟩ := by have := nd_last (wAllP σ m) ⟨3, 0, wIn m⟩; rwa [hl] at this
  refine ⟨ndsOk_snoc hp hx, decQ_snoc hp hd hx fun _ => ?_, ?_, ?_⟩
  · have hr : (List.range m).Pairwise (· < ·) := List.pairwise_lt_range
    show (wIn m).Pairwise _
    unfold wIn
    rw [List.pairwise_map]
    refine List.Pairwise.imp_of_mem ?_ hr
    intro a b ha hb hab v hv
    rw [List.mem_range] at ha hb
    have ea := vm_leaf hp (i := (a : Int)) (by omega) (by omega) (by rw [nk a ha]) v hv
    rw [nk a ha] at ea
    rw [Bool.eq_false_iff]
    intro hv2
    have eb := vm_leaf hp (i := (b : Int)) (by omega) (by omega) (by rw [nk b hb]) v hv2
    rw [nk b hb] at eb
    simp only at ea eb
    rw [(sg_var hσ (by omega) (by omega)).1] at ea eb
    omega
  · unfold Al
    rw [nl]
    refine ⟨rfl, fun p hp => ?_, fun x hx => ?_⟩
    · simp only [wIn, List.mem_map, List.mem_range] at hp
      obtain ⟨k, hk, rfl⟩ := hp
      refine ⟨σ * ((k : Int) + 1), by simp only [wLits, List.mem_map, List.mem_range]; exact ⟨k, hk, rfl⟩, ?_⟩
      unfold SLit wAll
      rw [wAllP_nd hk]; exact ⟨rfl, rfl⟩
    · simp only [wLits, List.mem_map, List.mem_range] at hx
      obtain ⟨k, hk, rfl⟩ := hx
      refine ⟨k, by simp only [wIn, List.mem_map, List.mem_range]; exact ⟨k, hk, rfl⟩, ?_⟩
      unfold SLit wAll
      rw [wAllP_nd hk]; exact ⟨rfl, rfl⟩
  · intro y hy
    simp only [wAll, wAllP, List.mem_append, List.mem_map, List.mem_singleton] at hy
    rcases hy with ⟨i, _, rfl⟩ | rfl
    · simp
    · simpa [wIn] using hm
theorem wLits_mem {σ : Int} {m : Nat} (x : Int) : x ∈ wLits σ m ↔ ∃ u : Int, 1 ≤ u ∧ u ≤ m ∧ x = σ * u := by
  simp only [wLits, List.mem_map, List.mem_range]
  constructor
  · rintro ⟨k, hk, rfl⟩; exact ⟨(k : Int) + 1, by omega, by omega, rfl⟩
  · rintro ⟨u, a, b, rfl⟩; exact ⟨(u - 1).toNat, by omega, by rw [show (((u - 1).toNat : Nat) : Int) + 1 = u by omega]⟩
/-- Truth of the forms. -/
theorem Ch.T {L : List Nd} {n : Int} (hL : ndsOk L n L.length) (s : Int → Bool) : ∀ (ls : List Int) (i : Int), 0 ≤ i → i < (L.length : Int) → Ch L ls i → Cen.T s L i = anyL s ls
  | [], i, h0, h1, h => by
    have h : (nd L i).kind = 0 := h
    rw [T_nd s hL h0 h1]; unfold evNd; rw [if_neg (by omega), if_neg (by omega), if_neg (by omega), if_neg (by omega)]; rfl
  | [x], i, h0, h1, h => by
    have h : SLit L x i := h
    rw [T_lit hL h0 h1 h.1, h.2]; simp [anyL]
  | x :: y :: ls, i, h0, h1, h => by
    obtain ⟨hk, p, q, hin, hp, hq, c, m, hin2, hc, hm⟩ := h
    have vi := ins_in hL h0 h1
    have vp := vi p ((hin p).2 (.inl rfl))
    have vq := vi q ((hin q).2 (.inr rfl))
    have vj := ins_in hL vq.1 vq.2
    have vc := vj c ((hin2 c).2 (.inl rfl))
    have vm' := vj m ((hin2 m).2 (.inr rfl))
    have tc := Ch.T hL s (y :: ls) c vc.1 vc.2 hc
    have tm := T_lit (s := s) hL vm'.1 vm'.2 hm.1
    have tp := T_lit (s := s) hL vp.1 vp.2 hp.1
    rw [hm.2] at tm
    rw [hp.2] at tp
    have hlv : litVar x ≠ 0 := by have := (ndOk_lit (nd_ok hL vp.1 vp.2) hp.1).1; rwa [hp.2] at this
    rw [holds_opp hlv] at tm
    have tq : Cen.T s L q = (anyL s (y :: ls) && !holds s x) := by
      rw [T_nd s hL vq.1 vq.2]; unfold evNd; rw [if_neg (by omega), if_neg (by omega), if_pos hq]
      rw [Bool.eq_iff_iff, List.all_eq_true, Bool.and_eq_true, ← tc, ← tm]
      exact ⟨fun h => ⟨h c ((hin2 c).2 (.inl rfl)), h m ((hin2 m).2 (.inr rfl))⟩, fun ⟨a, b⟩ j hj => by rcases (hin2 j).1 hj with rfl | rfl <;> assumption⟩
    have e : anyL s (x :: y :: ls) = (holds s x || anyL s (y :: ls)) := by simp [anyL]
    rw [T_nd s hL h0 h1]; unfold evNd; rw [if_neg (by omega), if_neg (by omega), if_neg (by omega), if_pos hk]
    have e2 : (nd L i).ins.any (Cen.T s L) = (Cen.T s L p || Cen.T s L q) := by
      rw [Bool.eq_iff_iff, List.any_eq_true, Bool.or_eq_true]
      constructor
      · rintro ⟨j, hj, h⟩
        rcases (hin j).1 hj with rfl | rfl
        · exact .inl h
        · exact .inr h
      · rintro (h | h)
        · exact ⟨p, (hin p).2 (.inl rfl), h⟩
        · exact ⟨q, (hin q).2 (.inr rfl), h⟩
    rw [e2, tp, tq, e]
    cases holds s x <;> cases anyL s (y :: ls) <;> rfl
theorem Al.T {L : List Nd} {n : Int} (hL : ndsOk L n L.length) (s : Int → Bool) {ls : List Int} {i : Int} (h0 : 0 ≤ i) (h1 : i < (L.length : Int)) (h : Al L ls i) : Cen.T s L i = allL s ls := by
  obtain ⟨hk, a, b⟩ := h
  have vi := ins_in hL h0 h1
  rw [T_nd s hL h0 h1]; unfold evNd; rw [if_neg (by omega), if_neg (by omega), if_pos hk]
  unfold allL
  rw [Bool.eq_iff_iff, List.all_eq_true, List.all_eq_true]
  constructor
  · intro h x hx
    obtain ⟨p, hp, hs⟩ := b x hx
    have := h p hp
    rw [T_lit hL (vi p hp).1 (vi p hp).2 hs.1, hs.2] at this; exact this
  · intro h p hp
    obtain ⟨x, hx, hs⟩ := a p hp
    rw [T_lit hL (vi p hp).1 (vi p hp).2 hs.1, hs.2]; exact h x hx
end Cen
