/- Part of the proofs that laws of censuslaw38 return true for every input, where the tables that the rows list are laid. Texts: WideP. -/
import Derived.Test.YteoopkogpjhneaaDoorZA20
import Derived.Test.YteoopkogpjhneaaDoorZB3

/- Plain: what the searches of the law of many variables cost, and what the functions answer. -/
namespace Go.Proofs.YteoopkogpjhneaaDoor
open Cen
theorem costP_stop {n : Int} {k : Nat} {a b : List Nd} (h : stop a b = true) : costP n k a b = 0 := by cases k <;> simp [costP, h]
theorem stop_b {a b : List Nd} (h : rootK b = 1) : stop a b = true := by simp [stop, h]
theorem stop_a {a b : List Nd} (h : rootK a = 0) : stop a b = true := by simp [stop, h]
theorem tryP_some_of {n : Int} {k : Nat} {a b : List Nd} {s : Int → Bool} (hk : (k : Int) ≤ n) (hn : n ≤ 128) (ha : Pre n k a) (hb : Pre n k b) (h : cex n a b s) : (tryP n k a b).isSome = true := by
  cases hc : tryP n k a b with
  | some m => rfl
  | none => exact absurd h ((tryP_none_iff hk hn ha hb).1 hc s)
/-- Where an assignment that is false before the last variable serves. -/
theorem costP_low {n : Int} (hn : n ≤ 128) (s : Int → Bool) : ∀ (k : Nat), (k : Int) ≤ n → ∀ a b : List Nd, Pre n k a → Pre n k b → cex n a b s → (∀ u, n - k < u → u < n → s u = false) → costP n k a b ≤ 1 := by
  intro k
  induction k with
  | zero => intro _ a b _ _ _ _; simp [costP]
  | succ k ih =>
    intro hk a b ha hb hc hf
    cases hs : stop a b with
    | true => rw [costP_stop hs]; omega
    | false =>
      rw [costP, hs]
      simp only [Bool.false_eq_true, if_false]
      by_cases hk0 : k = 0
      · subst hk0
        simp only [costP]
        split <;> omega
      · have hv : s (n - k) = false := hf _ (by omega) (by omega)
        have hc' : cex n (gvL n [-(n - k)] a) (gvL n [-(n - k)] b) s := (cex_gv ha.ok hb.ok (x := -(n - k)) (by omega) (by rw [if_neg (by omega), Int.neg_neg]; exact hv)).2 hc
        have pa := ha.next (x := -(n - k)) (.inr rfl)
        have pb := hb.next (x := -(n - k)) (.inr rfl)
        have := ih (by omega) _ _ pa pb hc' (fun u h1 h2 => hf u (by omega) h2)
        rw [tryP_some_of (by omega) hn pa pb hc']
        simp only [if_true]
        omega
theorem dist_left {xs ls : List Int} (h : dist ls) : dist (left xs ls) := List.Pairwise.filter _ h
theorem dist_opp : ∀ {ls : List Int}, dist ls → ∀ x ∈ ls, -x ∈ ls → x = 0
  | [], _, x, hx, _ => by simp at hx
  | y :: t, h, x, hx, hn => by
    unfold dist at h
    rw [List.pairwise_cons] at h
    rcases List.mem_cons.1 hx with e | hx' <;> rcases List.mem_cons.1 hn with e2 | hn'
    · omega
    · have := h.1 _ hn'; omega
    · have := h.1 _ hx'; omega
    · exact dist_opp h.2 x hx' hn'
def lowS (ls : List Int) (u : Int) : Bool := decide (-u ∈ ls)
theorem anyL_low {ls : List Int} (hd : dist ls) (hv : ∀ x ∈ ls, litVar x ≠ 0) : anyL (lowS ls) ls = false := by
  unfold anyL
  rw [List.any_eq_false]
  intro x hx hh
  have hv' := hv x hx
  unfold holds at hh
  rw [Bool.and_eq_true] at hh
  have h2 := hh.2
  rcases litVar_ne hv' with ⟨a, _, e⟩ | ⟨a, _, e⟩
  · rw [e, decide_eq_true (by omega : 0 < x)] at h2
    have h3 : -x ∈ ls := by simpa [lowS] using h2
    have := dist_opp hd x hx h3
    omega
  · rw [e, decide_eq_false (by omega : ¬ 0 < x)] at h2
    have h3 : ¬ -(-x) ∈ ls := by simpa [lowS] using h2
    rw [Int.neg_neg] at h3
    exact h3 hx
theorem ch_lits {L : List Nd} {n : Int} (hL : ndsOk L n L.length) : ∀ (ls : List Int) (i : Int), 0 ≤ i → i < (L.length : Int) → Ch L ls i → ∀ x ∈ ls, litVar x ≠ 0
  | [], _, _, _, _ => by simp
  | [x], i, h0, h1, h => by
    intro y hy
    rw [List.mem_singleton] at hy
    subst hy
    have h : SLit L y i := h
    have := (ndOk_lit (nd_ok hL h0 h1) h.1).1
    rwa [h.2] at this
  | x :: y :: ls, i, h0, h1, h => by
    obtain ⟨_, p, q, hin, hp, hq, c, m, hin2, hc, _⟩ := h
    have vi := ins_in hL h0 h1
    have vp := vi p ((hin p).2 (.inl rfl))
    have vq := vi q ((hin q).2 (.inr rfl))
    have vc := ins_in hL vq.1 vq.2 c ((hin2 c).2 (.inl rfl))
    intro z hz
    rcases List.mem_cons.1 hz with rfl | hz
    · have := (ndOk_lit (nd_ok hL vp.1 vp.2) hp.1).1
      rwa [hp.2] at this
    · exact ch_lits hL (y :: ls) c vc.1 vc.2 hc z hz
theorem nds_of {n : Int} {l : List Nd} (h : netOk ⟨n, l⟩ = true) : ndsOk l n l.length := by simp [netOk] at h; exact h.2
theorem ev_ch {n : Int} {b : List Nd} {ls : List Int} (hb : netOk ⟨n, b⟩ = true) (hc : Ch b ls ((b.length - 1 : Nat) : Int)) (s : Int → Bool) : ev s ⟨n, b⟩ = anyL s ls := by
  have h1 := (netOk_head hb).2.2.1
  simp only at h1
  rw [ev_eq s _ h1]
  exact Ch.T (nds_of hb) s ls _ (by omega) (by simp only; omega) hc
theorem ev_al {n : Int} {b : List Nd} {ls : List Int} (hb : netOk ⟨n, b⟩ = true) (hc : Al b ls ((b.length - 1 : Nat) : Int)) (s : Int → Bool) : ev s ⟨n, b⟩ = allL s ls := by
  have h1 := (netOk_head hb).2.2.1
  simp only at h1
  rw [ev_eq s _ h1]
  exact Al.T (nds_of hb) s (by omega) (by simp only; omega) hc
theorem cex_ch {n : Int} {a b : List Nd} {ls : List Int} (ha : netOk ⟨n, a⟩ = true) (hb : netOk ⟨n, b⟩ = true) (h1 : rootK a = 1) (hd : dist ls) (hc : Ch b ls ((b.length - 1 : Nat) : Int)) : cex n a b (lowS ls) := by
  have hl := (netOk_head hb).2.2.1
  simp only at hl
  exact ⟨ev_root1 ha h1, by rw [ev_ch hb hc]; exact anyL_low hd (ch_lits (nds_of hb) ls _ (by omega) (by omega) hc)⟩
/-- The search along a chain. -/
theorem costP_chain {n : Int} (hn : n ≤ 128) : ∀ (k : Nat), (k : Int) ≤ n → ∀ (a b : List Nd) (ls : List Int), Pre n k a → Pre n k b → rootK a = 1 → dist ls → Ch b ls ((b.length - 1 : Nat) : Int) → costP n k a b ≤ k := by
  intro k
  induction k with
  | zero => intro _ a b ls _ _ _ _ _; simp [costP]
  | succ k ih =>
    intro hk a b ls ha hb h1 hd hc
    cases hs : stop a b with
    | true => rw [costP_stop hs]; omega
    | false =>
      rw [costP, hs]
      simp only [Bool.false_eq_true, if_false]
      have hv : (1 : Int) ≤ n - k := by omega
      have pa := ha.next (x := -(n - k)) (.inr rfl)
      have pb := hb.next (x := -(n - k)) (.inr rfl)
      have ra := gvL_k (xs := [-(n - k)]) ha.ok (.inr rfl) h1
      obtain ⟨c1, c2⟩ := gvL_ch (xs := [-(n - k)]) hb.ok (noClash1 (by omega)) hd hc
      by_cases hm : -(n - k) ∈ ls
      · have r1 := c1 ⟨_, hm, by simp⟩
        have e0 : costP n k (gvL n [-(n - k)] a) (gvL n [-(n - k)] b) = 0 := costP_stop (stop_b r1)
        rw [e0]
        have pa' := ha.next (x := n - k) (.inl rfl)
        have pb' := hb.next (x := n - k) (.inl rfl)
        have ra' := gvL_k (xs := [n - k]) ha.ok (.inr rfl) h1
        obtain ⟨_, d2⟩ := gvL_ch (xs := [n - k]) hb.ok (noClash1 (by omega)) hd hc
        have hno : ¬ anyIn [n - k] ls := fun ⟨y, hy, hy2⟩ => by
          rw [List.mem_singleton] at hy2
          subst hy2
          have := dist_opp hd _ hy hm
          omega
        have := ih (by omega) _ _ _ pa' pb' ra' (dist_left hd) (d2 hno)
        split <;> omega
      · have hno : ¬ anyIn [-(n - k)] ls := fun ⟨y, hy, hy2⟩ => by
          rw [List.mem_singleton] at hy2
          subst hy2
          exact hm hy
        have hc' := c2 hno
        have := ih (by omega) _ _ _ pa pb ra (dist_left hd) hc'
        rw [tryP_some_of (by omega) hn pa pb (cex_ch pa.ok pb.ok ra (dist_left hd) hc')]
        simp only [if_true]
        omega

/-! The two nets. -/
section
variable {σ : Int} {m : Nat}
theorem wAny_len (σ : Int) (m : Nat) : (wAny σ m (m - 1)).length - 1 = 4 * (m - 1) := by rw [wAny_length]; omega
theorem wCh_lits (hm1 : 1 ≤ m) (x : Int) : x ∈ wCh σ m (m - 1) ↔ ∃ u : Int, 1 ≤ u ∧ u ≤ m ∧ x = σ * u := by
  rw [wCh_mem (show m - 1 < m by omega)]
  constructor
  · rintro ⟨u, a, b, c⟩; exact ⟨u, by omega, b, c⟩
  · rintro ⟨u, a, b, c⟩; exact ⟨u, by omega, b, c⟩
theorem wAll_ok (hσ : σ = 1 ∨ σ = -1) (hm : m ≤ 128) : netOk ⟨m, wAll σ m⟩ = true := by
  simp only [netOk, headOk, Bool.and_eq_true, decide_eq_true_eq]
  have := wAll_length σ m
  exact ⟨⟨⟨⟨by omega, by omega⟩, by omega⟩, by omega⟩, (wAll_inv hσ hm).1⟩
theorem wAny_ok (hσ : σ = 1 ∨ σ = -1) (hm : m ≤ 128) (hm1 : 1 ≤ m) : netOk ⟨m, wAny σ m (m - 1)⟩ = true := by
  simp only [netOk, headOk, Bool.and_eq_true, decide_eq_true_eq]
  have := wAny_length σ m (m - 1)
  exact ⟨⟨⟨⟨by omega, by omega⟩, by omega⟩, by omega⟩, (wAny_inv hσ hm (show m - 1 < m by omega)).ok⟩
theorem wAll_small (hσ : σ = 1 ∨ σ = -1) (hm : m ≤ 128) : Small (wAll σ m) :=
  ⟨by rw [wAll_length]; omega, fun y hy => by have := (wAll_inv hσ hm).2.2.2 y hy; omega⟩
theorem wAny_small (hσ : σ = 1 ∨ σ = -1) (hm : m ≤ 128) (hm1 : 1 ≤ m) : Small (wAny σ m (m - 1)) :=
  ⟨by rw [wAny_length]; omega, fun y hy => by have := (wAny_inv hσ hm (show m - 1 < m by omega)).few y hy; omega⟩
theorem wAll_al (hσ : σ = 1 ∨ σ = -1) (hm : m ≤ 128) : Al (wAll σ m) (wLits σ m) (((wAll σ m).length - 1 : Nat) : Int) := by
  rw [wAll_length, Nat.add_sub_cancel]; exact (wAll_inv hσ hm).2.2.1
theorem wAny_ch (hσ : σ = 1 ∨ σ = -1) (hm : m ≤ 128) (hm1 : 1 ≤ m) : Ch (wAny σ m (m - 1)) (wCh σ m (m - 1)) (((wAny σ m (m - 1)).length - 1 : Nat) : Int) := by
  rw [wAny_len]
  have := (wAny_inv hσ hm (show m - 1 < m by omega)).ch
  rw [show ((4 * (m - 1) : Nat) : Int) = 4 * ((m - 1 : Nat) : Int) by omega]; exact this
theorem wAll_dec (hσ : σ = 1 ∨ σ = -1) (hm : m ≤ 128) : decL (wAll σ m) = true := decL_of (wAll_inv hσ hm).2.1
theorem wAny_dec (hσ : σ = 1 ∨ σ = -1) (hm : m ≤ 128) (hm1 : 1 ≤ m) : decL (wAny σ m (m - 1)) = true := decL_of (wAny_inv hσ hm (show m - 1 < m by omega)).dec
theorem chkR_mk {n : Int} {l : List Nd} {xs : List Int} (h : netOk ⟨n, l⟩ = true) (hd : decL l = true) (hx : ∀ x ∈ xs, litVar x ≠ 0 ∧ litVar x ≤ n) : chkR xs ⟨n, l⟩ = 0 := by
  have : (xs.all fun x => litOk x n) = true := List.all_eq_true.2 fun x hx' => by
    obtain ⟨a, b⟩ := hx x hx'
    unfold litOk; rw [decide_eq_true a, decide_eq_true b]; rfl
  unfold chkR; simp only [h, hd, this]; rfl
theorem chk2_mk {n : Int} {l r : List Nd} (h : netOk ⟨n, l⟩ = true) (h' : netOk ⟨n, r⟩ = true) (hd : decL l = true) (hd' : decL r = true) : chk2 ⟨n, l⟩ ⟨n, r⟩ = 0 := by
  unfold chk2; simp [h, h', hd, hd']
theorem hold_sg (hσ : σ = 1 ∨ σ = -1) (s : Int → Bool) {u : Int} (h1 : 1 ≤ u) (h2 : u ≤ 128) : holds s (σ * u) = (s u == decide (σ = 1)) := by
  have := (sg_var hσ h1 h2).1
  unfold holds
  rw [this, decide_eq_true (by omega : u ≠ 0), Bool.true_and]
  rcases hσ with rfl | rfl
  · rw [decide_eq_true (by omega), decide_eq_true rfl]
  · rw [decide_eq_false (by omega), decide_eq_false (by omega)]
theorem hold_ng (hσ : σ = 1 ∨ σ = -1) (s : Int → Bool) {u : Int} (h1 : 1 ≤ u) (h2 : u ≤ 128) : holds s (-(σ * u)) = (s u != decide (σ = 1)) := by
  rw [holds_opp (by have := (sg_var hσ h1 h2).1; omega), hold_sg hσ s h1 h2]; rfl
theorem allL_w (hσ : σ = 1 ∨ σ = -1) (hm : m ≤ 128) (s : Int → Bool) : allL s (wLits σ m) = true ↔ ∀ u : Int, 1 ≤ u → u ≤ m → s u = decide (σ = 1) := by
  unfold allL
  rw [List.all_eq_true]
  constructor
  · intro h u h1 h2
    have := h (σ * u) ((wLits_mem _).2 ⟨u, h1, h2, rfl⟩)
    rw [hold_sg hσ s h1 (by omega)] at this
    simpa using this
  · intro h x hx
    obtain ⟨u, a, b, rfl⟩ := (wLits_mem _).1 hx
    rw [hold_sg hσ s a (by omega), h u a b]; simp
theorem anyL_of {s : Int → Bool} {ls : List Int} (hσ : σ = 1 ∨ σ = -1) (hm : m ≤ 128) (hls : ∀ x, x ∈ ls ↔ ∃ u : Int, 1 ≤ u ∧ u ≤ m ∧ x = σ * u) : anyL s ls = true ↔ ∃ u : Int, 1 ≤ u ∧ u ≤ m ∧ s u = decide (σ = 1) := by
  unfold anyL
  rw [List.any_eq_true]
  constructor
  · rintro ⟨x, hx, h⟩
    obtain ⟨u, a, b, rfl⟩ := (hls x).1 hx
    rw [hold_sg hσ s a (by omega)] at h
    exact ⟨u, a, b, by simpa using h⟩
  · rintro ⟨u, a, b, h⟩
    exact ⟨σ * u, (hls _).2 ⟨u, a, b, rfl⟩, by rw [hold_sg hσ s a (by omega), h]; simp⟩
theorem evA (hσ : σ = 1 ∨ σ = -1) (hm : m ≤ 128) (s : Int → Bool) : ev s ⟨m, wAll σ m⟩ = true ↔ ∀ u : Int, 1 ≤ u → u ≤ m → s u = decide (σ = 1) := by
  rw [ev_al (wAll_ok hσ hm) (wAll_al hσ hm)]; exact allL_w hσ hm s
theorem evB (hσ : σ = 1 ∨ σ = -1) (hm : m ≤ 128) (hm1 : 1 ≤ m) (s : Int → Bool) : ev s ⟨m, wAny σ m (m - 1)⟩ = true ↔ ∃ u : Int, 1 ≤ u ∧ u ≤ m ∧ s u = decide (σ = 1) := by
  rw [ev_ch (wAny_ok hσ hm hm1) (wAny_ch hσ hm hm1)]; exact anyL_of hσ hm (wCh_lits hm1)
theorem wLits_ok (hσ : σ = 1 ∨ σ = -1) (hm : m ≤ 128) : ∀ x ∈ wLits σ m, litVar x ≠ 0 ∧ litVar x ≤ (m : Int) := fun x hx => by
  obtain ⟨u, a, b, rfl⟩ := (wLits_mem _).1 hx
  have := (sg_var hσ a (show u ≤ 128 by omega)).1
  omega

/-! What is answered. -/
theorem wChkA (hσ : σ = 1 ∨ σ = -1) (hm : m ≤ 128) {xs : List Int} (hx : ∀ x ∈ xs, litVar x ≠ 0 ∧ litVar x ≤ (m : Int)) : chkR xs ⟨m, wAll σ m⟩ = 0 := chkR_mk (wAll_ok hσ hm) (wAll_dec hσ hm) hx
theorem wChkB (hσ : σ = 1 ∨ σ = -1) (hm : m ≤ 128) (hm1 : 1 ≤ m) {xs : List Int} (hx : ∀ x ∈ xs, litVar x ≠ 0 ∧ litVar x ≤ (m : Int)) : chkR xs ⟨m, wAny σ m (m - 1)⟩ = 0 := chkR_mk (wAny_ok hσ hm hm1) (wAny_dec hσ hm hm1) hx
theorem one_ok' (hσ : σ = 1 ∨ σ = -1) (hm : m ≤ 128) {u : Int} (h1 : 1 ≤ u) (h2 : u ≤ m) : ∀ x ∈ [σ * u], litVar x ≠ 0 ∧ litVar x ≤ (m : Int) := fun x hx => by
  rw [List.mem_singleton] at hx; subst hx
  have := (sg_var hσ h1 (show u ≤ 128 by omega)).1; omega
theorem one_ng' (hσ : σ = 1 ∨ σ = -1) (hm : m ≤ 128) {u : Int} (h1 : 1 ≤ u) (h2 : u ≤ m) : ∀ x ∈ [-(σ * u)], litVar x ≠ 0 ∧ litVar x ≤ (m : Int) := fun x hx => by
  rw [List.mem_singleton] at hx; subst hx
  have := (sg_var hσ h1 (show u ≤ 128 by omega)).2; omega
theorem wide_a (hσ : σ = 1 ∨ σ = -1) (hm : m ≤ 128) : consR ⟨m, wAll σ m⟩ = true :=
  (cons_iff (wChkA hσ hm (by simp))).2 ⟨fun _ => decide (σ = 1), (evA hσ hm _).2 fun _ _ _ => rfl⟩
theorem wide_b (hσ : σ = 1 ∨ σ = -1) (hm : m ≤ 128) {u : Int} (h1 : 1 ≤ u) (h2 : u ≤ m) : entR ⟨m, wAll σ m⟩ [σ * u] = true :=
  (ent_iff (wChkA hσ hm (one_ok' hσ hm h1 h2))).2 fun s hs => by
    have := (evA hσ hm s).1 hs u h1 h2
    simp only [anyL, List.any_cons, List.any_nil, Bool.or_false]
    rw [hold_sg hσ s h1 (by omega), this]; simp
theorem wide_c (hσ : σ = 1 ∨ σ = -1) (hm : m ≤ 128) : impR ⟨m, wAll σ m⟩ (wLits σ m) = true :=
  (imp_iffL (wAll_small hσ hm) (wChkA hσ hm (wLits_ok hσ hm))).2 fun s hs => (evA hσ hm s).2 ((allL_w hσ hm s).1 hs)
theorem wide_d (hσ : σ = 1 ∨ σ = -1) (hm : m ≤ 128) (hm1 : 1 ≤ m) {u : Int} (h1 : 1 ≤ u) (h2 : u ≤ m) : impR ⟨m, wAny σ m (m - 1)⟩ [σ * u] = true :=
  (imp_iffL (wAny_small hσ hm hm1) (wChkB hσ hm hm1 (one_ok' hσ hm h1 h2))).2 fun s hs => (evB hσ hm hm1 s).2 ⟨u, h1, h2, by
    simp only [allL, List.all_cons, List.all_nil, Bool.and_true] at hs
    rw [hold_sg hσ s h1 (by omega)] at hs; simpa using hs⟩
theorem wide_e (hσ : σ = 1 ∨ σ = -1) (hm : m ≤ 128) (hm1 : 1 ≤ m) {u : Int} (h1 : 1 ≤ u) (h2 : u ≤ m) : impR ⟨m, wAny σ m (m - 1)⟩ [-(σ * u)] = false := by
  rw [Bool.eq_false_iff]
  intro h
  have := (imp_iffL (wAny_small hσ hm hm1) (wChkB hσ hm hm1 (one_ng' hσ hm h1 h2))).1 h (fun _ => !decide (σ = 1)) (by
    simp only [allL, List.all_cons, List.all_nil, Bool.and_true]
    rw [hold_ng hσ _ h1 (by omega)]; simp)
  obtain ⟨u, _, _, e⟩ := (evB hσ hm hm1 _).1 this
  simp at e
theorem wide_f (hσ : σ = 1 ∨ σ = -1) (hm : m ≤ 128) (hm1 : 1 ≤ m) : entR ⟨m, wAny σ m (m - 1)⟩ (wLits σ m) = true :=
  (ent_iff (wChkB hσ hm hm1 (wLits_ok hσ hm))).2 fun s hs => (anyL_of hσ hm (fun x => wLits_mem x)).2 ((evB hσ hm hm1 s).1 hs)
theorem wide_g (hσ : σ = 1 ∨ σ = -1) (hm : m ≤ 128) (hm1 : 1 ≤ m) : impR ⟨m, wAll σ m⟩ [] = false := by
  rw [Bool.eq_false_iff]
  intro h
  have := (evA hσ hm _).1 ((imp_iffL (wAll_small hσ hm) (wChkA hσ hm (by simp))).1 h (fun _ => !decide (σ = 1)) rfl) 1 (by omega) (by omega)
  simp at this
theorem wChk2 (hσ : σ = 1 ∨ σ = -1) (hm : m ≤ 128) (hm1 : 1 ≤ m) : chk2 ⟨m, wAll σ m⟩ ⟨m, wAny σ m (m - 1)⟩ = 0 := chk2_mk (wAll_ok hσ hm) (wAny_ok hσ hm hm1) (wAll_dec hσ hm) (wAny_dec hσ hm hm1)
theorem no_AB (hσ : σ = 1 ∨ σ = -1) (hm : m ≤ 128) (hm1 : 1 ≤ m) : ∀ s, ¬ cex m (wAll σ m) (wAny σ m (m - 1)) s := fun s ⟨h1, h2⟩ => by
  have := (evB hσ hm hm1 s).2 ⟨1, by omega, by omega, (evA hσ hm s).1 h1 1 (by omega) (by omega)⟩
  rw [this] at h2; simp at h2
/-- The last variable alone has the sign. -/
def lastS (_σ : Int) (m : Nat) (u : Int) : Bool := if u = (m : Int) then true else false
theorem yes_BA (hσ : σ = 1 ∨ σ = -1) (hm : m ≤ 128) (hm2 : 2 ≤ m) : cex m (wAny σ m (m - 1)) (wAll σ m) (lastS σ m) := by
  have hl : lastS σ m (m : Int) = true := by simp [lastS]
  have h1 : lastS σ m 1 = false := by unfold lastS; rw [if_neg (by omega)]
  refine ⟨(evB hσ hm (by omega) _).2 ?_, ?_⟩
  · rcases hσ with rfl | rfl
    · exact ⟨m, by omega, by omega, by rw [hl]; rfl⟩
    · exact ⟨1, by omega, by omega, by rw [h1]; rfl⟩
  · rw [Bool.eq_false_iff]
    intro h
    have hA := (evA hσ hm _).1 h
    have e1 := hA 1 (by omega) (by omega)
    have e2 := hA m (by omega) (by omega)
    rw [h1] at e1
    rw [hl, ← e1] at e2
    simp at e2
theorem wide_no (hσ : σ = 1 ∨ σ = -1) (hm : m ≤ 128) (hm1 : 1 ≤ m) : (cntR ⟨m, wAll σ m⟩ ⟨m, wAny σ m (m - 1)⟩).isSome = false := by
  rw [Bool.eq_false_iff]
  intro h
  obtain ⟨s, hs⟩ := (cnt_some_iff (wAll_small hσ hm) (wAny_small hσ hm hm1) (wChk2 hσ hm hm1)).1 h
  exact no_AB hσ hm hm1 s hs
theorem wide_same (hσ : σ = 1 ∨ σ = -1) (hm : m ≤ 128) (hm1 : 1 ≤ m) : sameR ⟨m, wAll σ m⟩ ⟨m, wAny σ m (m - 1)⟩ = decide (m = 1) := by
  have hc := wChk2 hσ hm hm1
  rw [same_sides hc (chk2_symm hc), wide_no hσ hm hm1]
  have hiff := cnt_some_iff (wAny_small hσ hm hm1) (wAll_small hσ hm) (chk2_symm hc)
  by_cases h : m = 1
  · have hn : (cntR ⟨m, wAny σ m (m - 1)⟩ ⟨m, wAll σ m⟩).isSome = false := by
      rw [Bool.eq_false_iff]
      intro hh
      obtain ⟨s, h1, h2⟩ := hiff.1 hh
      obtain ⟨u, a, b, e⟩ := (evB hσ hm hm1 s).1 h1
      have := (evA hσ hm s).2 fun v hv1 hv2 => by rw [show v = u by omega]; exact e
      rw [this] at h2; simp at h2
    rw [hn, decide_eq_true h]; rfl
  · rw [hiff.2 ⟨_, yes_BA hσ hm (by omega)⟩, decide_eq_false h]; rfl
/-- What Counter finds. -/
def wWant (σ : Int) (m : Nat) : St := if σ = 1 then St.zero else St.zero.add m
theorem wChkT (hσ : σ = 1 ∨ σ = -1) (hm : m ≤ 128) (hm1 : 1 ≤ m) : chk2 ⟨m, [⟨1, 0, []⟩]⟩ ⟨m, wAll σ m⟩ = 0 := (chk2_flat (u := ⟨m, wAny σ m (m - 1)⟩) (wChk2 hσ hm hm1) 1 (.inr rfl)).2
theorem wide_yes (hσ : σ = 1 ∨ σ = -1) (hm : m ≤ 128) (hm1 : 1 ≤ m) : ∃ l, cntR ⟨m, [⟨1, 0, []⟩]⟩ ⟨m, wAll σ m⟩ = some l ∧ foundOf St.zero (some l) = wWant σ m := by
  have hc := wChkT hσ hm hm1
  obtain ⟨h1, h2⟩ := cntL_spec (tok_of (wAll_ok hσ hm)) (wAll_ok hσ hm) (true_small 1) (wAll_small hσ hm)
  have cx : ∀ s, cex m [⟨1, 0, []⟩] (wAll σ m) s ↔ ∃ u : Int, 1 ≤ u ∧ u ≤ m ∧ s u ≠ decide (σ = 1) := fun s => by
    unfold cex
    constructor
    · rintro ⟨_, h⟩
      apply Classical.byContradiction
      intro hn
      have := (evA hσ hm s).2 fun u a b => Classical.byContradiction fun hh => hn ⟨u, a, b, hh⟩
      rw [this] at h; simp at h
    · rintro ⟨u, a, b, h⟩
      refine ⟨ev_true _ _, ?_⟩
      rw [Bool.eq_false_iff]
      intro hh
      exact h ((evA hσ hm s).1 hh u a b)
  have h0 : cntR ⟨m, [⟨1, 0, []⟩]⟩ ⟨m, wAll σ m⟩ = cntL m [⟨1, 0, []⟩] (wAll σ m) := by unfold cntR; rw [if_pos hc]
  rw [h0]
  cases hl : cntL m [⟨1, 0, []⟩] (wAll σ m) with
  | none => exact absurd ((cx (fun _ => !decide (σ = 1))).2 ⟨1, by omega, by omega, by simp⟩) (h1 hl _)
  | some l =>
    refine ⟨l, rfl, ?_⟩
    have hL := h2 l hl
    -- which variables are true
    have key : ∀ (k : Nat) (u : Int), u.toNat = k → 1 ≤ u → u ≤ m → (σ = 1 ∨ u < m) → memL l u = false := by
      intro k
      induction k using Nat.strongRecOn with
      | _ k ih =>
        intro u hk a b hu
        rw [Bool.eq_false_iff]
        intro ht
        have hlow : ∀ j, 1 ≤ j → j < u → memL l j = false := fun j j1 j2 => ih j.toNat (by omega) j rfl j1 (by omega) (by omega)
        rcases hσ with rfl | rfl
        · exact hL.least (fun _ => false) ((cx _).2 ⟨1, by omega, by omega, by simp⟩) ⟨u, a, b, fun j j1 j2 => (hlow j j1 j2).symm, rfl, ht⟩
        · refine hL.least (lastS (-1) m) ((cx _).2 ⟨m, by omega, by omega, by simp [lastS]⟩) ⟨u, a, b, fun j j1 j2 => ?_, ?_, ht⟩
          · rw [hlow j j1 j2]; unfold lastS; rw [if_neg (by omega)]
          · unfold lastS; rw [if_neg (by omega)]
    have hw : (wWant σ m).ok := by unfold wWant; split; exact St.zero_ok; exact St.add_ok St.zero_ok _
    apply St.ext (foundOf_ok St.zero_ok _) hw
    intro v hv1 hv2
    rw [found_bd hL hm v hv1]
    unfold wWant
    by_cases hb : v ≤ (m : Int)
    · rcases hσ with rfl | rfl
      · rw [if_pos rfl, St.mem_zero]; exact key _ v rfl hv1 hb (.inl rfl)
      · rw [if_neg (by omega), St.mem_add, St.mem_zero]
        by_cases e : v = m
        · subst e
          rw [decide_eq_true rfl, decide_eq_true hv1, decide_eq_true hv2]
          obtain ⟨u, a, b, h⟩ := (cx _).1 hL.is
          have hu : memL l u = true := by cases hh : memL l u with | true => rfl | false => rw [hh] at h; simp at h
          by_cases e2 : u = m
          · rw [← e2, hu]; rfl
          · rw [key _ u rfl a b (.inr (by omega))] at hu; simp at hu
        · rw [decide_eq_false e]; exact key _ v rfl hv1 hb (.inr (by omega))
    · have hf : memL l v = false := by
        rw [Bool.eq_false_iff]; intro hh
        have := hL.bd v (by simpa [memL] using hh)
        omega
      rw [hf]
      split
      · rw [St.mem_zero]
      · rw [St.mem_add, St.mem_zero, decide_eq_false (by omega)]; rfl

/-! What it costs. -/
theorem dcost {n : Nat} (h : n ≤ 128) {c : Nat} (hc : c ≤ n ∨ c ≤ 1) : c ≤ 1000000000 := by omega
theorem true_k (n : Int) (h0 : 0 ≤ n) (h1 : n ≤ 128) : rootK (gvL n [] [⟨1, 0, []⟩]) = 1 := gvL_k (true_ok h0 h1 1 (.inr rfl)) (.inr rfl) rfl
theorem lastA (hσ : σ = 1 ∨ σ = -1) (hm : m ≤ 128) (hm1 : 1 ≤ m) : ∃ s : Int → Bool, ev s ⟨m, wAll σ m⟩ = false ∧ ∀ u, u < (m : Int) → s u = false := by
  rcases hσ with rfl | rfl
  · refine ⟨fun _ => false, ?_, fun _ _ => rfl⟩
    rw [Bool.eq_false_iff]
    intro h
    have := (evA (.inl rfl) hm _).1 h 1 (by omega) (by omega)
    simp at this
  · refine ⟨lastS (-1) m, ?_, fun u hu => by unfold lastS; rw [if_neg (by omega)]⟩
    rw [Bool.eq_false_iff]
    intro h
    have := (evA (.inr rfl) hm _).1 h m (by omega) (by omega)
    simp [lastS] at this
theorem cost_T {l : List Nd} (hm : m ≤ 128) (hl : netOk ⟨m, l⟩ = true) (sl : Small l) {s : Int → Bool} (hs : ev s ⟨m, l⟩ = false) (hu : ∀ u, u < (m : Int) → s u = false) :
    costP m (m : Int).toNat (gvL m [] [⟨1, 0, []⟩]) (gvL m [] l) ≤ 1000000000 := by
  have tk := true_ok (n := (m : Int)) (by omega) (by omega) 1 (.inr rfl)
  have := costP_low (n := m) (by omega) s (m : Int).toNat (by omega) _ _ (Pre.start tk (true_small 1)) (Pre.start hl sl) ⟨by rw [ev_gv0 tk]; exact ev_true _ _, by rw [ev_gv0 hl]; exact hs⟩ (fun u _ h => hu u h)
  omega
theorem cost_g (hσ : σ = 1 ∨ σ = -1) (hm : m ≤ 128) (hm1 : 1 ≤ m) : impCost ⟨m, wAll σ m⟩ [] := fun _ _ => by
  obtain ⟨s, h1, h2⟩ := lastA hσ hm hm1
  have f := gvL_fine (xs := []) (wAll_ok hσ hm) (wAll_small hσ hm)
  exact cost_T hm f.1 f.2.1 (by rw [ev_gv0 (wAll_ok hσ hm)]; exact h1) h2
theorem cost_yes (hσ : σ = 1 ∨ σ = -1) (hm : m ≤ 128) (hm1 : 1 ≤ m) : cntCost ⟨m, [⟨1, 0, []⟩]⟩ ⟨m, wAll σ m⟩ := fun _ => by
  obtain ⟨s, h1, h2⟩ := lastA hσ hm hm1
  exact cost_T hm (wAll_ok hσ hm) (wAll_small hσ hm) h1 h2
theorem cost_stop {n : Int} {k : Nat} {a l : List Nd} {xs : List Int} (hl : netOk ⟨n, gvL n xs l⟩ = true) (h : rootK (gvL n xs l) = 1) : costP n k a (gvL n [] (gvL n xs l)) ≤ 1000000000 := by
  rw [costP_stop (stop_b (gvL_k hl (.inr rfl) h))]; omega
theorem cost_c (hσ : σ = 1 ∨ σ = -1) (hm : m ≤ 128) : impCost ⟨m, wAll σ m⟩ (wLits σ m) := fun _ hcl => by
  have hok := wAll_ok hσ hm
  have f := gvL_fine (xs := wLits σ m) hok (wAll_small hσ hm)
  refine cost_stop f.1 ?_
  have hlit : ∀ y ∈ (wAll σ m).map (gvNd (wLits σ m)), y.kind ≠ 2 := by
    intro y hy
    rw [List.mem_map] at hy
    obtain ⟨z, hz, rfl⟩ := hy
    simp only [wAll, wAllP, List.mem_append, List.mem_map, List.mem_singleton, List.mem_range] at hz
    rcases hz with ⟨i, hi, rfl⟩ | rfl
    · unfold gvNd
      rw [if_pos ⟨rfl, (wLits_mem _).2 ⟨(i : Int) + 1, by omega, by omega, rfl⟩⟩]; simp
    · rw [gvNd_inner (by simp)]; simp
  rcases redL_const (gvL_ok (xs := wLits σ m) hok) hlit with h | h
  · exfalso
    have e := ev_root0 (s := fun _ => decide (σ = 1)) f.1 h
    rw [gvL_ev hok (clash_no hcl)] at e
    have : ev (ovr (wLits σ m) fun _ => decide (σ = 1)) ⟨m, wAll σ m⟩ = true := (evA hσ hm _).2 fun u a b => by
      unfold ovr
      rcases hσ with rfl | rfl
      · rw [if_pos ((wLits_mem _).2 ⟨u, a, b, by omega⟩)]; rfl
      · have hn : u ∉ wLits (-1) m := fun hu => by obtain ⟨v, c, d, e⟩ := (wLits_mem _).1 hu; omega
        rw [if_neg hn, if_pos ((wLits_mem _).2 ⟨u, a, b, by omega⟩)]; rfl
    rw [this] at e; simp at e
  · exact h
theorem cost_d (hσ : σ = 1 ∨ σ = -1) (hm : m ≤ 128) (hm1 : 1 ≤ m) {u : Int} (h1 : 1 ≤ u) (h2 : u ≤ m) : impCost ⟨m, wAny σ m (m - 1)⟩ [σ * u] := fun _ hcl => by
  have f := gvL_fine (xs := [σ * u]) (wAny_ok hσ hm hm1) (wAny_small hσ hm hm1)
  exact cost_stop f.1 ((gvL_ch (wAny_ok hσ hm hm1) (clash_no hcl) (wCh_dist hσ (by omega)) (wAny_ch hσ hm hm1)).1 ⟨σ * u, (wCh_lits hm1 _).2 ⟨u, h1, h2, rfl⟩, by simp⟩)
theorem cost_e (hσ : σ = 1 ∨ σ = -1) (hm : m ≤ 128) (hm1 : 1 ≤ m) {u : Int} (h1 : 1 ≤ u) (_h2 : u ≤ m) : impCost ⟨m, wAny σ m (m - 1)⟩ [-(σ * u)] := fun _ hcl => by
  have f := gvL_fine (xs := [-(σ * u)]) (wAny_ok hσ hm hm1) (wAny_small hσ hm hm1)
  have hd := wCh_dist hσ (show m - 1 < m by omega)
  have c := (gvL_ch (wAny_ok hσ hm hm1) (clash_no hcl) hd (wAny_ch hσ hm hm1)).2 (fun ⟨x, hx, hx2⟩ => by
    obtain ⟨v, a, b, e⟩ := (wCh_lits hm1 x).1 hx
    rw [List.mem_singleton, e] at hx2
    have := sg_neg hσ hx2
    omega)
  have c2 := (gvL_ch (xs := []) f.1 (fun x hx => by simp at hx) (dist_left hd) c).2 (fun ⟨x, _, hx⟩ => by simp at hx)
  have tk := true_ok (n := (m : Int)) (by omega) (by omega) 1 (.inr rfl)
  have := costP_chain (n := m) (by omega) (m : Int).toNat (by omega) _ _ _ (Pre.start tk (true_small 1)) (Pre.start f.1 f.2.1) (true_k m (by omega) (by omega)) (dist_left (dist_left hd)) c2
  simp only at this ⊢
  omega
theorem cost_BA (hσ : σ = 1 ∨ σ = -1) (hm : m ≤ 128) (hm1 : 1 ≤ m) : cntCost ⟨m, wAny σ m (m - 1)⟩ ⟨m, wAll σ m⟩ := fun _ => by
  by_cases h : m = 1
  · have := costP_le m (m : Int).toNat (gvL m [] (wAny σ m (m - 1))) (gvL m [] (wAll σ m))
    rw [show (m : Int).toNat = 1 by omega] at this ⊢
    simp only at this ⊢
    omega
  · have hc := yes_BA hσ hm (show 2 ≤ m by omega)
    have := costP_low (n := m) (by omega) (lastS σ m) (m : Int).toNat (by omega) _ _ (Pre.start (wAny_ok hσ hm hm1) (wAny_small hσ hm hm1)) (Pre.start (wAll_ok hσ hm) (wAll_small hσ hm)) ⟨by rw [ev_gv0 (wAny_ok hσ hm hm1)]; exact hc.1, by rw [ev_gv0 (wAll_ok hσ hm)]; exact hc.2⟩ (fun u _ h => by unfold lastS; rw [if_neg (by omega)])
    simp only at this ⊢
    omega
theorem cost_AB (hσ : σ = 1 ∨ σ = -1) (hm : m ≤ 128) (hm1 : 1 ≤ m) : cntCost ⟨m, wAll σ m⟩ ⟨m, wAny σ m (m - 1)⟩ := fun _ => by
  by_cases h : m = 1
  · have := costP_le m (m : Int).toNat (gvL m [] (wAll σ m)) (gvL m [] (wAny σ m (m - 1)))
    rw [show (m : Int).toNat = 1 by omega] at this ⊢
    simp only at this ⊢
    omega
  · have hopp : ∀ x ∈ wLits σ m, ∀ y ∈ wLits σ m, x ≠ -y := fun x hx y hy e => by
      obtain ⟨u, a, b, rfl⟩ := (wLits_mem _).1 hx
      obtain ⟨v, c, d, rfl⟩ := (wLits_mem _).1 hy
      have := sg_neg hσ e
      omega
    have h2 : ∃ x ∈ wLits σ m, ∃ y ∈ wLits σ m, x ≠ y := ⟨σ * 1, (wLits_mem _).2 ⟨1, by omega, by omega, rfl⟩, σ * 2, (wLits_mem _).2 ⟨2, by omega, by omega, rfl⟩, fun e => by have := sg_eq hσ e; omega⟩
    have fa := gvL_fine (xs := []) (wAll_ok hσ hm) (wAll_small hσ hm)
    have fb := gvL_fine (xs := []) (wAny_ok hσ hm hm1) (wAny_small hσ hm hm1)
    have aa := (gvL_al (xs := []) (wAll_ok hσ hm) (by simp) hopp h2 (wAll_al hσ hm)).2 (by simp)
    have cb := (gvL_ch (xs := []) (wAny_ok hσ hm hm1) (fun x hx => by simp at hx) (wCh_dist hσ (by omega)) (wAny_ch hσ hm hm1)).2 (fun ⟨x, _, hx⟩ => by simp at hx)
    have el : left [] (wCh σ m (m - 1)) = wCh σ m (m - 1) := by unfold left; rw [List.filter_eq_self]; intro x _; simp
    rw [el] at cb
    have s0 : ∀ x : Int, (∃ y ∈ wLits σ m, -y = x) → rootK (gvL m [x] (gvL m [] (wAll σ m))) = 0 := fun x ⟨y, hy, e⟩ =>
      (gvL_al (xs := [x]) fa.1 (fun z hz hz2 => by rw [List.mem_singleton] at hz2; exact hopp z hz y hy (by omega)) hopp h2 aa).1 ⟨y, hy, by rw [e]; simp⟩
    have s1 : ∀ x : Int, x ≠ 0 → x ∈ wCh σ m (m - 1) → rootK (gvL m [x] (gvL m [] (wAny σ m (m - 1)))) = 1 := fun x hx hx2 =>
      (gvL_ch (xs := [x]) fb.1 (noClash1 hx) (wCh_dist hσ (by omega)) cb).1 ⟨x, hx2, by simp⟩
    have key : ∀ x : Int, x = 1 ∨ x = -1 → costP m (m - 1) (gvL m [x] (gvL m [] (wAll σ m))) (gvL m [x] (gvL m [] (wAny σ m (m - 1)))) = 0 := fun x hx => by
      by_cases e : x = σ
      · exact costP_stop (stop_b (s1 x (by omega) ((wCh_lits hm1 _).2 ⟨1, by omega, by omega, by rw [e]; omega⟩)))
      · exact costP_stop (stop_a (s0 x ⟨σ * 1, (wLits_mem _).2 ⟨1, by omega, by omega, rfl⟩, by omega⟩))
    obtain ⟨k, hk⟩ : ∃ k, m = k + 1 := ⟨m - 1, by omega⟩
    have e1 : (m : Int) - ((m - 1 : Nat) : Int) = 1 := by omega
    show costP m (m : Int).toNat _ _ ≤ _
    rw [show (m : Int).toNat = (m - 1) + 1 by omega, costP, e1, key (-1) (.inr rfl), key 1 (.inl rfl)]
    split
    · omega
    · split <;> omega
end
end Go.Proofs.YteoopkogpjhneaaDoor
