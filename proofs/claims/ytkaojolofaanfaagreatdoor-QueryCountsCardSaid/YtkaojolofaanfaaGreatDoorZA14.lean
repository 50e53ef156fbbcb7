/- Part of the proofs that laws of censuslaw38 return true for every input, where the tables that the rows list are laid. Texts: RedS, Cex, Try. -/
import Derived.Test.YtkaojolofaanfaaGreatDoorZA13
import Derived.Test.YtkaojolofaanfaaGreatDoorZA10
import Derived.Test.YtkaojolofaanfaaGreatDoorZA5

/- Plain: how large the reduced net is, and which literals are in it. -/
namespace Cen
theorem nodup_length {l : List Int} (h : l.Nodup) {b : Nat} (hb : ∀ i ∈ l, 0 ≤ i ∧ i < (b : Int)) : l.length ≤ b := by
  induction b generalizing l with
  | zero =>
    match l with
    | [] => simp
    | x :: l => have := hb x (by simp); omega
  | succ b ih =>
    have h2 := ih (l := l.filter fun x => decide (x ≠ (b : Int))) (h.filter _) (by
      intro i hi
      simp only [List.mem_filter, decide_eq_true_eq] at hi
      have := hb i hi.1
      omega)
    have h3 : l.length ≤ (l.filter fun x => decide (x ≠ (b : Int))).length + 1 := by
      clear h2 ih hb
      induction l with
      | nil => simp
      | cons x l ih =>
        rw [List.nodup_cons] at h
        by_cases e : x = (b : Int)
        · have : (l.filter fun x => decide (x ≠ (b : Int))) = l := by
            rw [List.filter_eq_self]
            intro a ha
            simp only [decide_eq_true_eq]
            intro e2; exact h.1 (by rw [e, ← e2]; exact ha)
          rw [List.filter_cons_of_neg (by simp [e]), this]; simp
        · rw [List.filter_cons_of_pos (by simp [e])]
          have := ih h.2
          simp only [List.length_cons]; omega
    omega
/-- What holds of all nodes that Add puts. -/
theorem addL_all {n : Int} {L : List Nd} {x : Nd} (hl : L.length < 65536) (hL : ndsOk L n L.length) (hx : ndOk x n L.length = true) :
    ∀ y ∈ (addL n L x).1, y ∈ L ∨ (y.ins.length ≤ L.length ∧ (y.kind = 2 → y.kind = x.kind ∧ y.lit = x.lit)) := by
  have hxi := ndOk_ins hx
  rcases addL_form hx with ⟨h, e⟩ | ⟨q, hp, h⟩
  · rw [e]
    intro y hy
    rcases (putL_T hl hL (ndOk_leaf hx h).1).2.2.2 y hy with h1 | h1
    · exact .inl h1
    · subst h1; exact .inr ⟨by simp, fun _ => ⟨rfl, rfl⟩⟩
  · have hE : endK q = 0 ∨ endK q = 1 := by cases q <;> simp [endK]
    have hD : dropK q = 0 ∨ dropK q = 1 := by cases q <;> simp [dropK]
    rcases h with ⟨ho, e⟩ | ⟨ho, ⟨h0, e⟩ | ⟨i, h1, e⟩ | ⟨h2, e⟩⟩
    · rw [e]
      intro y hy
      rcases (putL_T hl hL (ndOk_const (n := n) (b := L.length) hE)).2.2.2 y hy with h1 | h1
      · exact .inl h1
      · subst h1; exact .inr ⟨by simp, fun h2 => by simp only at h2; omega⟩
    · rw [e]
      intro y hy
      rcases (putL_T hl hL (ndOk_const (n := n) (b := L.length) hD)).2.2.2 y hy with h1 | h1
      · exact .inl h1
      · subst h1; exact .inr ⟨by simp, fun h2 => by simp only at h2; omega⟩
    · rw [e]; exact fun y hy => .inl hy
    · rw [e]
      have hk : x.kind = 3 ∨ x.kind = 4 := by rcases hp with ⟨h, _⟩ | ⟨h, _⟩ <;> simp [h]
      have hv := inputsL_valid (kind := x.kind) (drop := dropK q) (endk := endK q) hL hxi
      intro y hy
      rcases (putL_T hl hL (ndOk_inner (n := n) hk hv)).2.2.2 y hy with h1 | h1
      · exact .inl h1
      · subst h1
        refine .inr ⟨?_, fun h2 => by simp only at h2; omega⟩
        have hn := (inSInv (q := q) hL (flat_valid (kind := x.kind) hL hxi)).nodup
        have hs : (inputsL L x.kind (dropK q) (endK q) x.ins).1.Nodup := by
          show (sortL _).Nodup
          unfold sortL
          exact ((List.mergeSort_perm _ _).nodup_iff).2 hn
        exact nodup_length hs hv
/-- Nodes with few inputs, and literals of a kind. -/
def Few (M : Nat) (P : Int → Prop) (l : List Nd) : Prop := ∀ y ∈ l, y.ins.length ≤ M ∧ (y.kind = 2 → P y.lit)
theorem redSt_few {n : Int} {l : List Nd} {P : Int → Prop} (hl : l.length ≤ 65536) (hL : ndsOk l n l.length) (hP : ∀ y ∈ l, y.kind = 2 → P y.lit) (k : Nat) (hk : k ≤ l.length) : Few l.length P (redSt n l k).1 := by
  induction k with
  | zero => intro y hy; simp [redSt] at hy
  | succ k ih =>
    have hi := redSt_ok hl hL k (by omega)
    have hx : ndOk l[k] n k = true := by have := hL k (by omega); simpa [List.getD_eq_getElem?_getD, show k < l.length by omega] using this
    rw [redSt_succ (by omega)]
    intro y hy
    rcases addL_all (Nat.lt_of_le_of_lt hi.le (by omega)) hi.nds (renum_ok hi hx) y hy with h | ⟨h1, h2⟩
    · exact ih (by omega) y h
    · refine ⟨by have := hi.le; omega, fun h3 => ?_⟩
      obtain ⟨h4, h5⟩ := h2 h3
      rw [h5]
      have hkl : k < l.length := by omega
      exact hP l[k] (List.getElem_mem hkl) (by rw [h4] at h3; exact h3)
theorem redL_few {n : Int} {l : List Nd} {P : Int → Prop} (h : netOk ⟨n, l⟩ = true) (hP : ∀ y ∈ l, y.kind = 2 → P y.lit) : Few l.length P (redL n l) := by
  obtain ⟨hn0, hn1, h1, h2⟩ := netOk_head h
  have hL : ndsOk l n l.length := by simp [netOk] at h; exact h.2
  simp only at h1 h2
  have hi := redSt_inv h2 hL l.length (Nat.le_refl _)
  have hf := redSt_few h2 hL hP l.length (Nat.le_refl _)
  obtain ⟨_, _, _, _, _, f⟩ := netL_T hi.ok.nds (redRoot_lt h2 hL h1)
  intro y hy
  obtain ⟨i, hi, e1, e2, e3⟩ := f y hy
  have hm : nd (redSt n l l.length).1 (i : Int) ∈ (redSt n l l.length).1 := by
    rw [nd_get (L := (redSt n l l.length).1) (i := (i : Int)) (by omega) (by omega)]; exact List.getElem_mem _
  have := hf _ hm
  rw [e1, e2, e3]; exact this
theorem flat_le {L : List Nd} {k : Int} {M : Nat} (hM : 1 ≤ M) (h : ∀ y ∈ L, y.ins.length ≤ M) (l : List Int) (hl : ∀ i ∈ l, 0 ≤ i ∧ i < (L.length : Int)) : (flat L k l).length ≤ l.length * M := by
  induction l with
  | nil => simp [flat]
  | cons i l ih =>
    have e : flat L k (i :: l) = (if (nd L i).kind = k then (nd L i).ins else [i]) ++ flat L k l := rfl
    rw [e, List.length_append, List.length_cons, Nat.succ_mul]
    have h1 := ih fun j hj => hl j (by simp [hj])
    have h2 : (if (nd L i).kind = k then (nd L i).ins else [i]).length ≤ M := by
      split
      · obtain ⟨a, b⟩ := hl i (by simp)
        rw [nd_get a b]; exact h _ (List.getElem_mem _)
      · simpa using hM
    omega
/-- A net of at most a thousand nodes with at most a thousand inputs each. -/
def Small (l : List Nd) : Prop := l.length ≤ 1000 ∧ ∀ y ∈ l, y.ins.length ≤ 1000
theorem small_flat {n : Int} {l : List Nd} (h : netOk ⟨n, l⟩ = true) (hs : Small l) : ∀ k (hk : k < l.length), (Cen.flat (redSt n l k).1 l[k].kind (renum (redSt n l k).2 l[k]).ins).length ≤ 1000000 := by
  intro k hk
  obtain ⟨hn0, hn1, h1, h2⟩ := netOk_head h
  have hL : ndsOk l n l.length := by simp [netOk] at h; exact h.2
  simp only at h1 h2
  have hi := redSt_ok h2 hL k (by omega)
  have hf := redSt_few (P := fun _ => True) h2 hL (fun _ _ _ => trivial) k (by omega)
  have hx : ndOk l[k] n k = true := by have := hL k (by omega); simpa [List.getD_eq_getElem?_getD, hk] using this
  have := flat_le (L := (redSt n l k).1) (k := l[k].kind) h1 (fun y hy => (hf y hy).1) (renum (redSt n l k).2 l[k]).ins (ndOk_ins (renum_ok hi hx))
  refine Nat.le_trans this ?_
  have e : (renum (redSt n l k).2 l[k]).ins.length = l[k].ins.length := by simp [renum]
  rw [e]
  exact Nat.mul_le_mul (hs.2 _ (List.getElem_mem hk)) hs.1
theorem gv_small {xs : List Int} {l : List Nd} (h : Small l) : Small (l.map (gvNd xs)) := by
  refine ⟨by simpa using h.1, fun y hy => ?_⟩
  rw [List.mem_map] at hy
  obtain ⟨x, hx, rfl⟩ := hy
  unfold gvNd; split
  · simp
  · split
    · simp
    · exact h.2 x hx
/-- The net given literals: valid, small. -/
theorem gvL_fine {n : Int} {xs : List Int} {l : List Nd} (h : netOk ⟨n, l⟩ = true) (hs : Small l) : netOk ⟨n, gvL n xs l⟩ = true ∧ Small (gvL n xs l) ∧ (gvL n xs l).length ≤ l.length := by
  have h2 := gvL_ok (xs := xs) h
  obtain ⟨a, b, _⟩ := redL_T h2
  have c := redL_few (P := fun _ => True) h2 (fun _ _ _ => trivial)
  have d := gv_small (xs := xs) hs
  rw [List.length_map] at b
  refine ⟨a, ⟨Nat.le_trans b hs.1, fun y hy => Nat.le_trans (c y hy).1 d.1⟩, b⟩
/-- Which literals are left. -/
theorem gvL_lits {n : Int} {xs : List Int} {l : List Nd} {P : Int → Prop} (h : netOk ⟨n, l⟩ = true) (hP : ∀ y ∈ l, y.kind = 2 → P y.lit) : ∀ y ∈ gvL n xs l, y.kind = 2 → P y.lit ∧ y.lit ∉ xs ∧ -y.lit ∉ xs := by
  have h2 := gvL_ok (xs := xs) h
  have c := redL_few (P := fun l => P l ∧ l ∉ xs ∧ -l ∉ xs) h2 (by
    intro y hy hk
    rw [List.mem_map] at hy
    obtain ⟨x, hx, rfl⟩ := hy
    unfold gvNd at hk ⊢
    by_cases h1 : x.kind = 2 ∧ x.lit ∈ xs
    · rw [if_pos h1] at hk; simp at hk
    · by_cases h3 : x.kind = 2 ∧ -x.lit ∈ xs
      · rw [if_neg h1, if_pos h3] at hk; simp at hk
      · rw [if_neg h1, if_neg h3] at hk ⊢
        exact ⟨hP x hx hk, fun m => h1 ⟨hk, m⟩, fun m => h3 ⟨hk, m⟩⟩)
  exact fun y hy hk => (c y hy).2 hk
/-- An assignment turned to given literals. -/
def ovr (xs : List Int) (s : Int → Bool) (v : Int) : Bool := if v ∈ xs then true else if -v ∈ xs then false else s v
def noClash (xs : List Int) : Prop := ∀ x ∈ xs, -x ∉ xs
theorem holds_ovr {xs : List Int} {s : Int → Bool} (hc : noClash xs) {l : Int} (h : litVar l ≠ 0) : holds (ovr xs s) l = if l ∈ xs then true else if -l ∈ xs then false else holds s l := by
  unfold holds
  rw [decide_eq_true h]
  rcases litVar_ne h with ⟨h1, _, e⟩ | ⟨h1, _, e⟩
  · rw [e, decide_eq_true (show 0 < l by omega)]
    unfold ovr
    split
    · rfl
    · split <;> simp
  · rw [e, decide_eq_false (show ¬ 0 < l by omega)]
    unfold ovr
    rw [Int.neg_neg]
    by_cases h2 : l ∈ xs
    · simp [h2, hc l h2]
    · by_cases h3 : -l ∈ xs
      · simp [h2, h3]
      · simp [h2, h3]
theorem evNd_gv {xs : List Int} {s : Int → Bool} (hc : noClash xs) {x : Nd} (hx : x.kind = 2 → litVar x.lit ≠ 0) (f : Int → Bool) : evNd s f (gvNd xs x) = evNd (ovr xs s) f x := by
  unfold gvNd
  by_cases h2 : x.kind = 2
  · have e : evNd (ovr xs s) f x = holds (ovr xs s) x.lit := by unfold evNd; rw [if_neg (by omega), if_pos h2]
    rw [e, holds_ovr hc (hx h2)]
    by_cases h3 : x.lit ∈ xs
    · rw [if_pos ⟨h2, h3⟩, if_pos h3]; rfl
    · rw [if_neg (fun h => h3 h.2), if_neg h3]
      by_cases h4 : -x.lit ∈ xs
      · rw [if_pos ⟨h2, h4⟩, if_pos h4]; rfl
      · rw [if_neg (fun h => h4 h.2), if_neg h4]; unfold evNd; rw [if_neg (by omega), if_pos h2]
  · rw [if_neg (fun h => h2 h.1), if_neg (fun h => h2 h.1)]
    unfold evNd; rw [if_neg h2, if_neg h2]
theorem evs_gv {xs : List Int} {s : Int → Bool} (hc : noClash xs) (l : List Nd) : ∀ vs : List Bool, (∀ x ∈ l, x.kind = 2 → litVar x.lit ≠ 0) → evs s (l.map (gvNd xs)) vs = evs (ovr xs s) l vs := by
  induction l with
  | nil => intro vs _; rfl
  | cons x l ih =>
    intro vs h
    simp only [List.map_cons, evs]
    rw [evNd_gv hc (h x (by simp)), ih _ fun y hy => h y (by simp [hy])]
theorem netOk_lits {n : Int} {l : List Nd} (h : netOk ⟨n, l⟩ = true) : ∀ x ∈ l, x.kind = 2 → litVar x.lit ≠ 0 ∧ litVar x.lit ≤ n := by
  intro x hx h2
  obtain ⟨k, hk, rfl⟩ := List.getElem_of_mem hx
  exact ndOk_lit (netOk_nd h hk) h2
/-- The truth of a net, given literals. -/
theorem gvL_ev {n : Int} {xs : List Int} {l : List Nd} (h : netOk ⟨n, l⟩ = true) (hc : noClash xs) (s : Int → Bool) : ev s ⟨n, gvL n xs l⟩ = ev (ovr xs s) ⟨n, l⟩ := by
  have h2 := gvL_ok (xs := xs) h
  have := (redL_T h2).2.2 s
  unfold gvL
  rw [this]
  unfold ev truth
  simp only [List.length_map]
  rw [evs_gv hc l [] fun x hx h2 => (netOk_lits h x hx h2).1]
/-- Assignments that agree on the literals of a net. -/
theorem ev_congr {s s' : Int → Bool} {n : Int} {l : List Nd} (h : ∀ y ∈ l, y.kind = 2 → s (litVar y.lit) = s' (litVar y.lit)) : ev s ⟨n, l⟩ = ev s' ⟨n, l⟩ := by
  unfold ev truth
  have : ∀ (l : List Nd) (vs : List Bool), (∀ y ∈ l, y.kind = 2 → s (litVar y.lit) = s' (litVar y.lit)) → evs s l vs = evs s' l vs := by
    intro l
    induction l with
    | nil => intro vs _; rfl
    | cons x l ih =>
      intro vs h
      simp only [evs]
      rw [show evNd s (at' vs) x = evNd s' (at' vs) x from ?_, ih _ fun y hy => h y (by simp [hy])]
      unfold evNd
      by_cases h2 : x.kind = 2
      · have h1 : ¬ x.kind = 1 := by omega
        rw [if_neg h1, if_neg h1, if_pos h2, if_pos h2]; unfold holds; rw [h x (by simp) h2]
      · rw [if_neg h2, if_neg h2]
  rw [this l [] h]
end Cen

/- Plain: the least model of a net that is none of another one; what a net that is not reduced to False has. -/
namespace Cen
/-- The kind of the root. -/
def rootK (l : List Nd) : Int := (l.getD (l.length - 1) default).kind
theorem rootK_eq (l : List Nd) : rootK l = (nd l ((l.length - 1 : Nat) : Int)).kind := rfl
theorem formOk_kind {x : Nd} {n b : Int} (h : ndOk x n b = true) : x.kind = 0 ∨ x.kind = 1 ∨ x.kind = 2 ∨ x.kind = 3 ∨ x.kind = 4 := by
  simp only [ndOk, Bool.and_eq_true] at h
  have h2 := h.2
  unfold formOk at h2
  by_cases h0 : x.kind = 0 ∨ x.kind = 1
  · omega
  · rw [if_neg h0] at h2
    by_cases h1 : x.kind = 2
    · omega
    · rw [if_neg h1] at h2
      by_cases h3 : x.kind = 3 ∨ x.kind = 4
      · omega
      · rw [if_neg h3] at h2; simp at h2
theorem ev_root0 {s : Int → Bool} {n : Int} {l : List Nd} (h : netOk ⟨n, l⟩ = true) (h0 : rootK l = 0) : ev s ⟨n, l⟩ = false := by
  obtain ⟨_, _, h1, h2⟩ := netOk_head h
  have hL : ndsOk l n l.length := by simp [netOk] at h; exact h.2
  simp only at h1
  rw [ev_eq s _ h1]
  show T s l _ = _
  rw [T_nd s hL (by omega) (by simp only; omega)]
  rw [rootK_eq] at h0
  unfold evNd; simp only [h0]; rfl
theorem ev_root1 {s : Int → Bool} {n : Int} {l : List Nd} (h : netOk ⟨n, l⟩ = true) (h0 : rootK l = 1) : ev s ⟨n, l⟩ = true := by
  obtain ⟨_, _, h1, h2⟩ := netOk_head h
  have hL : ndsOk l n l.length := by simp [netOk] at h; exact h.2
  simp only at h1
  rw [ev_eq s _ h1]
  show T s l _ = _
  rw [T_nd s hL (by omega) (by simp only; omega)]
  rw [rootK_eq] at h0
  unfold evNd; simp only [h0]; rfl
theorem flat_self {L : List Nd} {k : Int} {l : List Int} (h : ∀ i ∈ l, (nd L i).kind ≠ k) : flat L k l = l := by
  induction l with
  | nil => rfl
  | cons i l ih =>
    have e : flat L k (i :: l) = (if (nd L i).kind = k then (nd L i).ins else [i]) ++ flat L k l := rfl
    rw [e, if_neg (h i (by simp)), ih fun j hj => h j (by simp [hj])]; rfl
theorem flat_mem {L : List Nd} {k : Int} {l : List Int} {i : Int} (hi : i ∈ l) (h : (nd L i).kind ≠ k) : i ∈ flat L k l := by
  unfold flat
  exact List.mem_flatMap.2 ⟨i, hi, by rw [if_neg h]; simp⟩
theorem sortL_nil {l : List Int} : sortL l = [] ↔ l = [] := by
  constructor
  · intro h; apply List.eq_nil_of_length_eq_zero; rw [← sortL_length, h]; rfl
  · rintro rfl; apply List.eq_nil_of_length_eq_zero; rw [sortL_length]; rfl
/-- Add at inputs that are constants. -/
theorem addL_const {n : Int} {L : List Nd} {x : Nd} (hl : L.length < 65536) (hL : ndsOk L n L.length) (hx : ndOk x n L.length = true) (h2 : x.kind ≠ 2) (hin : ∀ i ∈ x.ins, (nd L i).kind = 0 ∨ (nd L i).kind = 1) :
    (nd (addL n L x).1 (addL n L x).2).kind = 0 ∨ (nd (addL n L x).1 (addL n L x).2).kind = 1 := by
  have hxi := ndOk_ins hx
  rcases addL_form hx with ⟨h, e⟩ | ⟨q, hp, h⟩
  · rw [e]
    simp only
    rw [(putL_T hl hL (ndOk_leaf hx h).1).2.1]
    have := formOk_kind hx
    simp only; omega
  · have hE : endK q = 0 ∨ endK q = 1 := by cases q <;> simp [endK]
    have hD : dropK q = 0 ∨ dropK q = 1 := by cases q <;> simp [dropK]
    have hk : x.kind = 3 ∨ x.kind = 4 := by rcases hp with ⟨h, _⟩ | ⟨h, _⟩ <;> simp [h]
    have hfl : flat L x.kind x.ins = x.ins := flat_self fun i hi => by have := hin i hi; omega
    have hI := inSInv (q := q) hL (flat_valid (kind := x.kind) hL hxi)
    rw [hfl] at hI
    have hnil : (inputsL L x.kind (dropK q) (endK q) x.ins).2 = true → (inputsL L x.kind (dropK q) (endK q) x.ins).1 = [] := by
      intro ho
      unfold inputsL at ho ⊢
      simp only [hfl] at ho ⊢
      rw [sortL_nil]
      rw [List.eq_nil_iff_forall_not_mem]
      intro i hi
      have h1 := hI.nodrop i hi
      have h3 := hI.nohit ho i (hI.sub i hi)
      have h4 := hin i (hI.sub i hi)
      cases q <;> simp [dropK, endK] at h1 h3 <;> omega
    rcases h with ⟨ho, e⟩ | ⟨ho, h⟩
    · rw [e]; simp only; rw [(putL_T hl hL (ndOk_const (n := n) (b := L.length) hE)).2.1]; exact hE
    · have hn := hnil ho
      rcases h with ⟨h0, e⟩ | ⟨i, h1, e⟩ | ⟨h3, e⟩
      · rw [e]; simp only; rw [(putL_T hl hL (ndOk_const (n := n) (b := L.length) hD)).2.1]; exact hD
      · rw [hn] at h1; simp at h1
      · rw [hn] at h3; simp at h3
/-- Add does not come to False. -/
theorem addL_ne {n : Int} {L : List Nd} {x : Nd} (hl : L.length < 65536) (hL : ndsOk L n L.length) (hx : ndOk x n L.length = true) (h : (nd (addL n L x).1 (addL n L x).2).kind ≠ 0) :
    x.kind ≠ 0 ∧ (x.kind = 3 → ∀ i ∈ x.ins, (nd L i).kind ≠ 0) ∧ (x.kind = 4 → ∃ i ∈ x.ins, (nd L i).kind ≠ 0) := by
  have hxi := ndOk_ins hx
  rcases addL_form hx with ⟨h3, e⟩ | ⟨q, hp, h3⟩
  · rw [e] at h
    simp only at h
    rw [(putL_T hl hL (ndOk_leaf hx h3).1).2.1] at h
    exact ⟨h, fun e => absurd (.inl e) h3, fun e => absurd (.inr e) h3⟩
  · have hE : endK q = 0 ∨ endK q = 1 := by cases q <;> simp [endK]
    have hD : dropK q = 0 ∨ dropK q = 1 := by cases q <;> simp [dropK]
    have hI := inSInv (q := q) hL (flat_valid (kind := x.kind) hL hxi)
    rcases hp with ⟨hk, rfl⟩ | ⟨hk, rfl⟩
    · refine ⟨by omega, fun _ i hi h0 => ?_, fun e => by omega⟩
      have hm := flat_mem (L := L) (k := x.kind) hi (by omega)
      have ho : (inputsL L x.kind (dropK false) (endK false) x.ins).2 = false := by
        cases hc : (inputsL L x.kind (dropK false) (endK false) x.ins).2 with
        | false => rfl
        | true => exact absurd h0 (hI.nohit hc i hm)
      rcases h3 with ⟨_, e⟩ | ⟨ho2, _⟩
      · rw [e] at h
        simp only at h
        rw [(putL_T hl hL (ndOk_const (n := n) (b := L.length) hE)).2.1] at h
        exact h rfl
      · rw [ho] at ho2; simp at ho2
    · refine ⟨by omega, fun e => by omega, fun _ => ?_⟩
      apply Classical.byContradiction
      intro hno
      have hall : ∀ i ∈ x.ins, (nd L i).kind = 0 := fun i hi => Classical.byContradiction fun hc => hno ⟨i, hi, hc⟩
      have hfl : flat L x.kind x.ins = x.ins := flat_self fun i hi => by have := hall i hi; omega
      rw [hfl] at hI
      have ho : (inputsL L x.kind (dropK true) (endK true) x.ins).2 = true := by
        cases hc : (inputsL L x.kind (dropK true) (endK true) x.ins).2 with
        | true => rfl
        | false =>
          have hc2 : (inS L (dropK true) (endK true) x.ins).opn = false := by
            unfold inputsL at hc; simp only [hfl] at hc; exact hc
          rcases hI.hit hc2 with ⟨i, hi, h4⟩ | ⟨i, hi, j, hj, h4, _⟩
          · have := hall i hi; simp [endK] at h4; omega
          · have := hall i hi; omega
      have hn : (inputsL L x.kind (dropK true) (endK true) x.ins).1 = [] := by
        unfold inputsL
        simp only [hfl]
        rw [sortL_nil, List.eq_nil_iff_forall_not_mem]
        intro i hi
        exact hI.nodrop i hi (hall i (hI.sub i hi))
      rcases h3 with ⟨ho2, e⟩ | ⟨_, ⟨_, e⟩ | ⟨i, h1, e⟩ | ⟨h3, e⟩⟩
      · rw [ho] at ho2; simp at ho2
      · rw [e] at h
        simp only at h
        rw [(putL_T hl hL (ndOk_const (n := n) (b := L.length) hD)).2.1] at h
        exact h rfl
      · rw [hn] at h1; simp at h1
      · rw [hn] at h3; simp at h3
/-- What is said of the images of all nodes, by the nodes. -/
theorem redSt_images {n : Int} {l : List Nd} (hl : l.length ≤ 65536) (hL : ndsOk l n l.length) (Q : Nat → Int → Prop)
    (step : ∀ (k : Nat) (hk : k < l.length) (L : List Nd) (ats : List Int), L.length < 65536 → ndsOk L n L.length → ndOk (renum ats l[k]) n L.length = true → (∀ j, j < k → Q j (nd L (ats.getD j 0)).kind) → Q k (nd (addL n L (renum ats l[k])).1 (addL n L (renum ats l[k])).2).kind)
    (k : Nat) (hk : k ≤ l.length) : ∀ j, j < k → Q j (nd (redSt n l k).1 ((redSt n l k).2.getD j 0)).kind := by
  induction k with
  | zero => exact fun j hj => absurd hj (Nat.not_lt_zero _)
  | succ k ih =>
    have hi := redSt_ok hl hL k (by omega)
    have hx : ndOk l[k] n k = true := by have := hL k (by omega); simpa [List.getD_eq_getElem?_getD, show k < l.length by omega] using this
    have ih := ih (by omega)
    rw [redSt_succ (by omega)]
    have hlt := Nat.lt_of_le_of_lt hi.le (show k < 65536 by omega)
    have hro := renum_ok hi hx
    obtain ⟨r, hr⟩ := (addL_T hlt hi.nds hro).1
    generalize hst : redSt n l k = st at *
    intro j hj
    have hlen := hi.len
    by_cases e : j = k
    · subst e
      have e3 : (redStep n st l[j]).2.getD j 0 = (addL n st.1 (renum st.2 l[j])).2 := by
        simp only [redStep, List.getD_eq_getElem?_getD]; rw [List.getElem?_append_right (by omega)]; simp [hlen]
      rw [e3]
      exact step j (by omega) st.1 st.2 hlt hi.nds hro ih
    · have e3 : (redStep n st l[k]).2.getD j 0 = st.2.getD j 0 := by
        simp only [redStep, List.getD_eq_getElem?_getD]; rw [List.getElem?_append_left (by omega)]
      rw [e3]
      obtain ⟨a, b⟩ := hi.getD j (by omega)
      show Q j (nd (addL n st.1 (renum st.2 l[k])).1 _).kind
      rw [hr, nd_append a b]
      exact ih j (by omega)
theorem redL_rootK {n : Int} {l : List Nd} (h : netOk ⟨n, l⟩ = true) : rootK (redL n l) = (nd (redSt n l l.length).1 ((redSt n l l.length).2.getD (l.length - 1) 0)).kind := by
  obtain ⟨hn0, hn1, h1, h2⟩ := netOk_head h
  have hL : ndsOk l n l.length := by simp [netOk] at h; exact h.2
  simp only at h1 h2
  have hi := redSt_ok h2 hL l.length (Nat.le_refl _)
  have hr := redRoot_lt h2 hL h1
  rw [rootK_eq]
  unfold redL
  rw [(netL_T hi.nds hr).2.2.2.2.1]
  have hg := hi.getD (l.length - 1) (by omega)
  unfold redRoot
  rw [show (((redSt n l l.length).2.getD (l.length - 1) 0).toNat : Int) = (redSt n l l.length).2.getD (l.length - 1) 0 by omega]
theorem renum_ins {ats : List Int} {x : Nd} {n : Int} {k : Nat} {Q : Nat → Int → Prop} {L : List Nd} (hx : ndOk x n k = true) (h : ∀ j, j < k → Q j (nd L (ats.getD j 0)).kind) : ∀ i ∈ (renum ats x).ins, ∃ j ∈ x.ins, 0 ≤ j ∧ j < (k : Int) ∧ i = ats.getD j.toNat 0 ∧ Q j.toNat (nd L i).kind := by
  intro i hi
  simp only [renum, List.mem_map] at hi
  obtain ⟨j, hj, rfl⟩ := hi
  have := ndOk_ins hx j hj
  exact ⟨j, hj, this.1, this.2, rfl, h j.toNat (by omega)⟩
/-- A net without literals is reduced to a constant. -/
theorem redL_const {n : Int} {l : List Nd} (h : netOk ⟨n, l⟩ = true) (h0 : ∀ y ∈ l, y.kind ≠ 2) : rootK (redL n l) = 0 ∨ rootK (redL n l) = 1 := by
  obtain ⟨hn0, hn1, h1, h2⟩ := netOk_head h
  have hL : ndsOk l n l.length := by simp [netOk] at h; exact h.2
  simp only at h1 h2
  rw [redL_rootK h]
  refine redSt_images h2 hL (fun _ c => c = 0 ∨ c = 1) ?_ l.length (Nat.le_refl _) (l.length - 1) (by omega)
  intro k hk L ats hlt hok hro hq
  have hx : ndOk l[k] n k = true := by have := hL k hk; simpa [List.getD_eq_getElem?_getD, hk] using this
  refine addL_const hlt hok hro (show l[k].kind ≠ 2 from h0 l[k] (List.getElem_mem hk)) fun i hi => ?_
  obtain ⟨j, _, _, _, _, r⟩ := renum_ins (Q := fun _ c => c = 0 ∨ c = 1) hx hq i hi
  exact r
end Cen

/- Plain: the search for the least model of one net that is none of another. -/
namespace Cen
def stop (a b : List Nd) : Bool := decide (rootK a = 0) || decide (rootK b = 1) || decide (a = b)
/-- The search with k variables left: the variables that are true, the last one first. -/
def tryP (n : Int) : Nat → List Nd → List Nd → Option (List Int)
  | 0, a, b => if stop a b then none else some []
  | k + 1, a, b => if stop a b then none else
    match tryP n k (gvL n [-(n - k)] a) (gvL n [-(n - k)] b) with
    | some m => some m
    | none => match tryP n k (gvL n [n - k] a) (gvL n [n - k] b) with
      | some m => some (m ++ [n - k])
      | none => none
/-- A reduced net without literals of earlier variables. -/
structure Pre (n : Int) (k : Nat) (a : List Nd) : Prop where
  ok : netOk ⟨n, a⟩ = true
  small : Small a
  lits : ∀ y ∈ a, y.kind = 2 → n - k < litVar y.lit
  red : ∃ l, netOk ⟨n, l⟩ = true ∧ a = redL n l ∧ ∀ y ∈ l, y.kind = 2 → n - k < litVar y.lit
def cex (n : Int) (a b : List Nd) (s : Int → Bool) : Prop := ev s ⟨n, a⟩ = true ∧ ev s ⟨n, b⟩ = false
theorem stop_none {n : Int} {a b : List Nd} (ha : netOk ⟨n, a⟩ = true) (hb : netOk ⟨n, b⟩ = true) (h : stop a b = true) : ∀ s, ¬ cex n a b s := by
  intro s ⟨h1, h2⟩
  simp only [stop, Bool.or_eq_true, decide_eq_true_eq] at h
  rcases h with (h | h) | h
  · rw [ev_root0 ha h] at h1; simp at h1
  · rw [ev_root1 hb h] at h2; simp at h2
  · subst h; rw [h1] at h2; simp at h2
theorem litVar_pos {l : Int} (h : litVar l ≠ 0) : (litVar l = l ∨ litVar l = -l) ∧ 1 ≤ litVar l ∧ litVar l ≤ 128 := by
  rcases litVar_ne h with h | h <;> omega
theorem Pre.next {n : Int} {k : Nat} {a : List Nd} (h : Pre n (k + 1) a) {x : Int} (hx : x = n - k ∨ x = -(n - k)) : Pre n k (gvL n [x] a) := by
  obtain ⟨f1, f2, _⟩ := gvL_fine (xs := [x]) h.ok h.small
  have key : ∀ y : Nd, (y ∈ a → y.kind = 2 → litVar y.lit ≠ 0 ∧ n - (k + 1 : Nat) < litVar y.lit) := fun y hy hk => ⟨(netOk_lits h.ok y hy hk).1, h.lits y hy hk⟩
  refine ⟨f1, f2, ?_, a.map (gvNd [x]), gvL_ok h.ok, rfl, ?_⟩
  · intro y hy hk
    obtain ⟨⟨h1, h2⟩, h3, h4⟩ := gvL_lits (P := fun l => litVar l ≠ 0 ∧ n - (k + 1 : Nat) < litVar l) h.ok key y hy hk
    simp only [List.mem_singleton] at h3 h4
    have := (litVar_pos h1).1
    omega
  · intro y hy hk
    rw [List.mem_map] at hy
    obtain ⟨z, hz, rfl⟩ := hy
    unfold gvNd at hk ⊢
    by_cases h1 : z.kind = 2 ∧ z.lit ∈ [x]
    · rw [if_pos h1] at hk; simp at hk
    · by_cases h3 : z.kind = 2 ∧ -z.lit ∈ [x]
      · rw [if_neg h1, if_pos h3] at hk; simp at hk
      · rw [if_neg h1, if_neg h3] at hk ⊢
        obtain ⟨h5, h6⟩ := key z hz hk
        have h7 : z.lit ≠ x := fun e => h1 ⟨hk, by simp [e]⟩
        have h8 : -z.lit ≠ x := fun e => h3 ⟨hk, by simp [e]⟩
        have := (litVar_pos h5).1
        omega
theorem Pre.lit0 {n : Int} {a : List Nd} (h : Pre n 0 a) : rootK a = 0 ∨ rootK a = 1 := by
  obtain ⟨l, h1, rfl, h3⟩ := h.red
  refine redL_const h1 fun y hy hk => ?_
  have h4 := (netOk_lits h1 y hy hk).2
  have h5 := h3 y hy hk
  omega
theorem noClash1 {x : Int} (h : x ≠ 0) : noClash [x] := by
  intro y hy h2
  rw [List.mem_singleton] at hy h2
  omega
/-- The search's step: a net, given one literal, is the net with the variable turned. -/
theorem gv_ev1 {n : Int} {a : List Nd} (h : netOk ⟨n, a⟩ = true) {x : Int} (hx : x ≠ 0) (s : Int → Bool) : ev s ⟨n, gvL n [x] a⟩ = ev (ovr [x] s) ⟨n, a⟩ := gvL_ev h (noClash1 hx) s
theorem ovr_same {x : Int} {s : Int → Bool} (h0 : x ≠ 0) (h : if 0 < x then s x = true else s (-x) = false) : ∀ v, 1 ≤ v → ovr [x] s v = s v := by
  intro v hv
  unfold ovr
  simp only [List.mem_singleton]
  by_cases h1 : v = x
  · subst h1; rw [if_pos (by omega)] at h; rw [if_pos rfl, h]
  · rw [if_neg h1]
    by_cases h2 : -v = x
    · subst h2; rw [if_neg (by omega)] at h; rw [if_pos rfl]; rw [Int.neg_neg] at h; exact h.symm
    · rw [if_neg h2]
theorem ev_pos {s s' : Int → Bool} {n : Int} {a : List Nd} (h : netOk ⟨n, a⟩ = true) (hs : ∀ v, 1 ≤ v → s v = s' v) : ev s ⟨n, a⟩ = ev s' ⟨n, a⟩ :=
  ev_congr fun y hy hk => hs _ (litVar_pos (netOk_lits h y hy hk).1).2.1
theorem cex_gv {n : Int} {a b : List Nd} (ha : netOk ⟨n, a⟩ = true) (hb : netOk ⟨n, b⟩ = true) {x : Int} (h0 : x ≠ 0) {s : Int → Bool} (h : if 0 < x then s x = true else s (-x) = false) :
    cex n (gvL n [x] a) (gvL n [x] b) s ↔ cex n a b s := by
  unfold cex
  rw [gv_ev1 ha h0, gv_ev1 hb h0, ev_pos ha (ovr_same h0 h), ev_pos hb (ovr_same h0 h)]
/-- s comes before t in the order of models, over the variables from v to n. -/
def lexLt (v n : Int) (s t : Int → Bool) : Prop := ∃ u, v ≤ u ∧ u ≤ n ∧ (∀ j, v ≤ j → j < u → s j = t j) ∧ s u = false ∧ t u = true
def memL (m : List Int) (v : Int) : Bool := m.contains v
structure Least (n v : Int) (a b : List Nd) (m : List Int) : Prop where
  bd : ∀ x ∈ m, v ≤ x ∧ x ≤ n
  is : cex n a b (memL m)
  least : ∀ s, cex n a b s → ¬ lexLt v n s (memL m)
theorem tryP_spec {n : Int} : ∀ (k : Nat), (k : Int) ≤ n → n ≤ 128 → ∀ a b : List Nd, Pre n k a → Pre n k b →
    (tryP n k a b = none → ∀ s, ¬ cex n a b s) ∧ (∀ m, tryP n k a b = some m → Least n (n - k + 1) a b m) := by
  intro k
  induction k with
  | zero =>
    intro _ _ a b ha hb
    cases hs : stop a b with
    | true =>
      rw [tryP, hs]
      exact ⟨fun _ => stop_none ha.ok hb.ok hs, fun m h => by simp at h⟩
    | false =>
      rw [tryP, hs]
      refine ⟨fun h => by simp at h, fun m h => ?_⟩
      simp at h; subst h
      simp only [stop, Bool.or_eq_false_iff, decide_eq_false_iff_not] at hs
      have h1 : rootK a = 1 := by have := ha.lit0; omega
      have h2 : rootK b = 0 := by have := hb.lit0; omega
      refine ⟨by simp, ⟨ev_root1 ha.ok h1, ev_root0 hb.ok h2⟩, ?_⟩
      rintro s _ ⟨u, hu1, hu2, _⟩
      omega
  | succ k ih =>
    intro hk hn a b ha hb
    cases hs : stop a b with
    | true =>
      rw [tryP, hs]
      exact ⟨fun _ => stop_none ha.ok hb.ok hs, fun m h => by simp at h⟩
    | false =>
      rw [tryP, hs]
      have hv : 1 ≤ n - (k : Int) := by omega
      obtain ⟨p1, p2⟩ := ih (by omega) hn _ _ (ha.next (x := -(n - k)) (.inr rfl)) (hb.next (x := -(n - k)) (.inr rfl))
      obtain ⟨q1, q2⟩ := ih (by omega) hn _ _ (ha.next (x := n - k) (.inl rfl)) (hb.next (x := n - k) (.inl rfl))
      have hneg : ∀ s : Int → Bool, s (n - k) = false → (cex n (gvL n [-(n - k)] a) (gvL n [-(n - k)] b) s ↔ cex n a b s) := fun s h => cex_gv ha.ok hb.ok (by omega) (by rw [if_neg (by omega), Int.neg_neg]; exact h)
      have hpos : ∀ s : Int → Bool, s (n - k) = true → (cex n (gvL n [n - k] a) (gvL n [n - k] b) s ↔ cex n a b s) := fun s h => cex_gv ha.ok hb.ok (by omega) (by rw [if_pos (by omega)]; exact h)
      generalize hva : n - (k : Int) = v at *
      have hv2 : n - ((k + 1 : Nat) : Int) + 1 = v := by omega
      rw [hv2]
      simp only [Bool.false_eq_true, if_false]
      cases h1 : tryP n k (gvL n [-v] a) (gvL n [-v] b) with
      | some m =>
        simp only
        refine ⟨fun h => by simp at h, fun m' h => ?_⟩
        simp at h; subst h
        have hL := p2 m h1
        have hvm : memL m v = false := by
          unfold memL
          rw [Bool.eq_false_iff]; intro hc
          have := hL.bd v (by simpa using hc)
          omega
        refine ⟨fun x hx => by have := hL.bd x hx; omega, (hneg _ hvm).1 hL.is, ?_⟩
        rintro s hc ⟨u, hu1, hu2, hu3, hu4, hu5⟩
        by_cases e : u = v
        · subst e; rw [hvm] at hu5; simp at hu5
        · have hsv : s v = false := by rw [hu3 v (by omega) (by omega)]; exact hvm
          exact hL.least s ((hneg s hsv).2 hc) ⟨u, by omega, hu2, fun j hj hj2 => hu3 j (by omega) hj2, hu4, hu5⟩
      | none =>
        have hno := p1 h1
        cases h2 : tryP n k (gvL n [v] a) (gvL n [v] b) with
        | some m =>
          simp only
          refine ⟨fun h => by simp at h, fun m' h => ?_⟩
          simp at h; subst h
          have hL := q2 m h2
          have hvt : memL (m ++ [v]) v = true := by simp [memL]
          have hj : ∀ j, j ≠ v → memL (m ++ [v]) j = memL m j := fun j hj => by
            unfold memL; rw [Bool.eq_iff_iff]; simp [hj]
          have hcx : cex n (gvL n [v] a) (gvL n [v] b) (memL (m ++ [v])) := by
            have h3 := hL.is
            unfold cex at h3 ⊢
            rw [gv_ev1 ha.ok (by omega), gv_ev1 hb.ok (by omega)] at h3 ⊢
            have e : ∀ w, 1 ≤ w → ovr [v] (memL m) w = ovr [v] (memL (m ++ [v])) w := fun w _ => by
              unfold ovr
              by_cases h4 : w ∈ [v]
              · rw [if_pos h4, if_pos h4]
              · rw [if_neg h4, if_neg h4, hj w (by simpa using h4)]
            rw [ev_pos ha.ok e, ev_pos hb.ok e] at h3
            exact h3
          refine ⟨?_, (hpos _ hvt).1 hcx, ?_⟩
          · intro x hx
            rcases List.mem_append.1 hx with hx | hx
            · have := hL.bd x hx; omega
            · simp at hx; omega
          · rintro s hc ⟨u, hu1, hu2, hu3, hu4, hu5⟩
            cases hsv : s v with
            | false => exact hno s ((hneg s hsv).2 hc)
            | true =>
              have hne : u ≠ v := fun e => by rw [e, hsv] at hu4; simp at hu4
              refine hL.least s ((hpos s hsv).2 hc) ⟨u, by omega, hu2, fun j hj1 hj2 => ?_, hu4, ?_⟩
              · rw [hu3 j (by omega) hj2, hj j (by omega)]
              · rw [← hj u hne]; exact hu5
        | none =>
          simp only
          refine ⟨fun _ s hc => ?_, fun m h => by simp at h⟩
          cases hsv : s v with
          | false => exact hno s ((hneg s hsv).2 hc)
          | true => exact q1 h2 s ((hpos s hsv).2 hc)
theorem tryP_none_iff {n : Int} {k : Nat} (hk : (k : Int) ≤ n) (hn : n ≤ 128) {a b : List Nd} (ha : Pre n k a) (hb : Pre n k b) : tryP n k a b = none ↔ ∀ s, ¬ cex n a b s := by
  obtain ⟨h1, h2⟩ := tryP_spec k hk hn a b ha hb
  refine ⟨h1, fun h => ?_⟩
  cases hc : tryP n k a b with
  | none => rfl
  | some m => exact absurd (h2 m hc).is (h _)
/-- The beginning of the search. -/
theorem Pre.start {n : Int} {l : List Nd} (h : netOk ⟨n, l⟩ = true) (hs : Small l) : Pre n n.toNat (gvL n [] l) := by
  obtain ⟨f1, f2, _⟩ := gvL_fine (xs := []) h hs
  have hn := (netOk_head h).1
  simp only at hn
  have key : ∀ y ∈ l, y.kind = 2 → 0 < litVar y.lit := fun y hy hk => by have := litVar_pos (netOk_lits h y hy hk).1; omega
  refine ⟨f1, f2, ?_, l.map (gvNd []), gvL_ok h, rfl, ?_⟩
  · intro y hy hk
    have := (gvL_lits (P := fun l => 0 < litVar l) h key y hy hk).1
    omega
  · intro y hy hk
    have e : gvNd [] = id := by funext z; unfold gvNd; simp
    rw [e, List.map_id] at hy
    have := key y hy hk
    omega
/-- The least model of a that is none of b. -/
def cntL (n : Int) (a b : List Nd) : Option (List Int) := tryP n n.toNat (gvL n [] a) (gvL n [] b)
theorem ev_gv0 {n : Int} {a : List Nd} (h : netOk ⟨n, a⟩ = true) (s : Int → Bool) : ev s ⟨n, gvL n [] a⟩ = ev s ⟨n, a⟩ := by
  rw [gvL_ev h (fun x hx => by simp at hx) s]
  have : ovr [] s = s := by funext v; unfold ovr; simp
  rw [this]
theorem cntL_spec {n : Int} {a b : List Nd} (ha : netOk ⟨n, a⟩ = true) (hb : netOk ⟨n, b⟩ = true) (sa : Small a) (sb : Small b) :
    (cntL n a b = none → ∀ s, ¬ cex n a b s) ∧ (∀ m, cntL n a b = some m → Least n 1 a b m) := by
  obtain ⟨hn0, hn1, _, _⟩ := netOk_head ha
  simp only at hn0 hn1
  obtain ⟨h1, h2⟩ := tryP_spec n.toNat (by omega) hn1 _ _ (Pre.start ha sa) (Pre.start hb sb)
  have e : ∀ s, cex n (gvL n [] a) (gvL n [] b) s ↔ cex n a b s := fun s => by unfold cex; rw [ev_gv0 ha, ev_gv0 hb]
  refine ⟨fun h s hc => h1 h s ((e s).2 hc), fun m h => ?_⟩
  have hL := h2 m h
  rw [show n - (n.toNat : Int) + 1 = 1 by omega] at hL
  exact ⟨hL.bd, (e _).1 hL.is, fun s hs => hL.least s ((e s).2 hs)⟩
end Cen
