/- Part of the proofs that laws of censuslaw38 return true for every input, where the tables that the rows list are laid. Texts: SumQ, R03. -/
import Derived.Test.YtkaojolofaanfaaGreatDoorZA26
import Derived.Test.YtkaojolofaanfaaGreatDoorZA20
import Derived.Test.YtkaojolofaanfaaGreatDoorZA5
import Derived.Test.YtkaojolofaanfaaGreatDoorZA19

/- Plain: the sum of a decomposable and deterministic net is the number of its models. -/
namespace Cen
theorem card_congr {s t : St} (h : ∀ v : Int, 1 ≤ v → v ≤ 128 → s.mem v = t.mem v) : card s = card t := by
  unfold card
  apply List.countP_congr
  intro j hj
  rw [List.mem_range] at hj
  rw [h _ (by omega) (by omega)]
theorem card_none {s : St} (h : ∀ v : Int, 1 ≤ v → s.mem v = false) : card s = 0 := by
  unfold card
  rw [List.countP_eq_zero]
  intro j _ hm
  rw [h _ (by omega)] at hm; simp at hm
theorem count_range {n a : Nat} (h : a < n) : (List.range n).count a = 1 := by
  induction n with
  | zero => omega
  | succ n ih =>
    rw [List.range_succ, List.count_append]
    by_cases e : a = n
    · subst e
      have : (List.range a).count a = 0 := List.count_eq_zero.2 (by simp)
      rw [this]; simp
    · rw [ih (by omega)]
      have : [n].count a = 0 := List.count_eq_zero.2 (by simp; exact e)
      rw [this]
theorem card_one {s : St} {v : Int} (h1 : 1 ≤ v) (h2 : v ≤ 128) (h : ∀ u : Int, 1 ≤ u → s.mem u = decide (u = v)) : card s = 1 := by
  unfold card
  have e : (List.range 128).countP (fun (j : Nat) => s.mem ((j : Int) + 1)) = (List.range 128).count (v - 1).toNat := by
    unfold List.count
    apply List.countP_congr
    intro j _
    rw [h _ (by omega)]
    simp; omega
  rw [e]
  exact count_range (by omega)
theorem vm_own {l : List Nd} {n : Int} (hL : ndsOk l n l.length) {i : Int} (h0 : 0 ≤ i) (h1 : i < (l.length : Int)) {k : Int} (hk : k ∈ (nd l i).ins) (v : Int) (hv : (vm l k).mem v = true) : (vm l i).mem v = true := by
  rw [vm_mem hL h0 h1, Bool.or_eq_true]
  exact .inr (List.any_eq_true.2 ⟨k, hk, hv⟩)
/-- The variables below a node are the net's. -/
theorem vm_bd {l : List Nd} {n : Int} (hL : ndsOk l n l.length) : ∀ (k : Nat) (i : Int), i.toNat = k → 0 ≤ i → i < (l.length : Int) → ∀ v, (vm l i).mem v = true → 1 ≤ v ∧ v ≤ n := by
  intro k
  induction k using Nat.strongRecOn with
  | _ k ih =>
    intro i hk h0 h1 v hv
    have hins := ndOk_ins (nd_ok hL h0 h1)
    rw [vm_mem hL h0 h1, Bool.or_eq_true] at hv
    rcases hv with hv | hv
    · rw [ofL_mem] at hv
      simp only [Bool.and_eq_true, decide_eq_true_eq] at hv
      obtain ⟨⟨a, b⟩, _⟩ := hv
      by_cases h2 : (nd l i).kind = 2
      · have := ndOk_lit (nd_ok hL h0 h1) h2; omega
      · have h3 := nd_ok hL h0 h1
        simp only [ndOk, Bool.and_eq_true] at h3
        have h4 := h3.2
        have hz : (nd l i).lit = 0 := by
          unfold formOk at h4
          by_cases c1 : (nd l i).kind = 0 ∨ (nd l i).kind = 1
          · rw [if_pos c1] at h4; simp at h4; exact h4.1
          · rw [if_neg c1, if_neg h2] at h4
            by_cases c3 : (nd l i).kind = 3 ∨ (nd l i).kind = 4
            · rw [if_pos c3] at h4; simpa using h4
            · rw [if_neg c3] at h4; simp at h4
        rw [hz] at b
        have : litVar 0 = 0 := by unfold litVar; rw [if_neg (by omega), if_neg (by omega)]
        omega
    · obtain ⟨j, hj, hm⟩ := List.any_eq_true.1 hv
      have := hins j hj
      exact ih j.toNat (by omega) j rfl this.1 (by omega) v hm
theorem lit_zero {x : Nd} {n b : Int} (h : ndOk x n b = true) (h2 : x.kind ≠ 2) : x.lit = 0 := by
  simp only [ndOk, Bool.and_eq_true] at h
  have h4 := h.2
  unfold formOk at h4
  by_cases c1 : x.kind = 0 ∨ x.kind = 1
  · rw [if_pos c1] at h4; simp at h4; exact h4.1
  · rw [if_neg c1, if_neg h2] at h4
    by_cases c3 : x.kind = 3 ∨ x.kind = 4
    · rw [if_pos c3] at h4; simpa using h4
    · rw [if_neg c3] at h4; simp at h4
theorem mul_cancel2 {a b N : Nat} (h : a * 2 ^ N = b * 2 ^ N) : a = b := Nat.eq_of_mul_eq_mul_right (Nat.pow_pos (by omega)) h
section
variable {l : List Nd} {N : Nat} {s : Int → Bool}
theorem dep_T {n : Int} (hL : ndsOk l n l.length) {i : Int} (h0 : 0 ≤ i) (h1 : i < (l.length : Int)) : dep (fun s => T s l i) (vm l i).mem := fun s s' hs => T_vars hL (s := s) (s' := s') i.toNat i rfl h0 h1 hs
/-- A conjunction of nodes without common variables. -/
theorem and_fold {n : Int} (hL : ndsOk l n l.length) (S : Int → Nat) : ∀ (ins : List Int) (f : (Int → Bool) → Bool) (U : St) (P : Nat), dep f U.mem → U.ok → cnt f N s * 2 ^ card U = P * 2 ^ N →
    (∀ k ∈ ins, 0 ≤ k ∧ k < (l.length : Int) ∧ cnt (fun s => T s l k) N s * 2 ^ card (vm l k) = S k * 2 ^ N) → sepF (varsL l) U ins = true →
    cnt (fun s => f s && ins.all (T s l)) N s * 2 ^ card (insU (varsL l) U ins) = ins.foldl (fun x k => x * S k) P * 2 ^ N
  | [], f, U, P, _, _, h, _, _ => by
    have e : (fun s => f s && ([] : List Int).all (T s l)) = f := by funext s; simp
    rw [e]; exact h
  | k :: ins, f, U, P, hf, hU, h, hk, hs => by
    obtain ⟨k0, k1, hS⟩ := hk k (by simp)
    rw [sepF] at hs
    by_cases hz : U.cut ((varsL l).getD k.toNat St.zero) = St.zero
    · rw [if_pos hz] at hs
      have hdis : ∀ v, ¬ (U.mem v = true ∧ (vm l k).mem v = true) := fun v ⟨a, b⟩ => by
        have : (U.cut (vm l k)).mem v = true := by rw [St.mem_cut, a, b]; rfl
        have e : U.cut (vm l k) = St.zero := hz
        rw [e, St.mem_zero] at this; simp at this
      have hT := dep_T hL k0 k1
      have hand := cnt_and hf hT hdis N s
      have hcu : card (U.union (vm l k)) = card U + card (vm l k) := card_union hdis
      have hdep : dep (fun s => f s && T s l k) (U.union (vm l k)).mem := fun s s' h => by
        have e1 := hf s s' fun v hv => h v (by rw [St.mem_union, hv]; rfl)
        have e2 := hT s s' fun v hv => h v (by rw [St.mem_union, hv]; simp)
        show (f s && T s l k) = (f s' && T s' l k)
        rw [e1]; simp only at e2; rw [e2]
      have hstep : cnt (fun s => f s && T s l k) N s * 2 ^ card (U.union (vm l k)) = (P * S k) * 2 ^ N := by
        apply mul_cancel2 (N := N)
        rw [hcu, Nat.pow_add]
        calc cnt (fun s => f s && T s l k) N s * (2 ^ card U * 2 ^ card (vm l k)) * 2 ^ N
            = (cnt (fun s => f s && T s l k) N s * 2 ^ N) * (2 ^ card U * 2 ^ card (vm l k)) := by rw [Nat.mul_right_comm]
          _ = (cnt f N s * cnt (fun s => T s l k) N s) * (2 ^ card U * 2 ^ card (vm l k)) := by rw [hand]
          _ = (cnt f N s * 2 ^ card U) * (cnt (fun s => T s l k) N s * 2 ^ card (vm l k)) := by rw [Nat.mul_mul_mul_comm]
          _ = (P * 2 ^ N) * (S k * 2 ^ N) := by rw [h, hS]
          _ = P * S k * 2 ^ N * 2 ^ N := by rw [Nat.mul_mul_mul_comm, Nat.mul_assoc (P * S k)]
      have ih := and_fold hL S ins (fun s => f s && T s l k) (U.union (vm l k)) (P * S k) hdep (St.union_ok hU (varsL_getD_ok l _)) hstep (fun j hj => hk j (by simp [hj])) hs
      have e : (fun s => f s && (k :: ins).all (T s l)) = fun s => (f s && T s l k) && ins.all (T s l) := by funext s; simp [Bool.and_assoc]
      rw [e]; exact ih
    · rw [if_neg hz] at hs; simp at hs
/-- A disjunction of nodes of which at most one is true. -/
theorem or_fold {n : Int} (hL : ndsOk l n l.length) (S d : Int → Nat) (c : Nat) : ∀ (ins : List Int) (f : (Int → Bool) → Bool) (P : Nat), cnt f N s * 2 ^ c = P * 2 ^ N →
    (∀ k ∈ ins, cnt (fun s => T s l k) N s * 2 ^ card (vm l k) = S k * 2 ^ N ∧ c = card (vm l k) + d k ∧ ∀ s', ¬ (f s' = true ∧ T s' l k = true)) → (∀ s', ins.Pairwise fun j k => ¬ (T s' l j = true ∧ T s' l k = true)) →
    cnt (fun s => f s || ins.any (T s l)) N s * 2 ^ c = ins.foldl (fun x k => x + S k * 2 ^ d k) P * 2 ^ N
  | [], f, P, h, _, _ => by
    have e : (fun s => f s || ([] : List Int).any (T s l)) = f := by funext s; simp
    rw [e]; exact h
  | k :: ins, f, P, h, hk, hp => by
    obtain ⟨hS, hc, hx⟩ := hk k (by simp)
    have hstep : cnt (fun s => f s || T s l k) N s * 2 ^ c = (P + S k * 2 ^ d k) * 2 ^ N := by
      rw [cnt_or N s hx, Nat.add_mul, h, Nat.add_mul]
      congr 1
      rw [hc, Nat.pow_add, ← Nat.mul_assoc, hS, Nat.mul_right_comm]
    have ih := or_fold hL S d c ins (fun s => f s || T s l k) (P + S k * 2 ^ d k) hstep (fun j hj => by
      obtain ⟨a, b, e⟩ := hk j (by simp [hj])
      refine ⟨a, b, fun s' ⟨u, v⟩ => ?_⟩
      rw [Bool.or_eq_true] at u
      rcases u with u | u
      · exact e s' ⟨u, v⟩
      · exact (List.pairwise_cons.1 (hp s')).1 j hj ⟨u, v⟩) (fun s' => (List.pairwise_cons.1 (hp s')).2)
    have e : (fun s => f s || (k :: ins).any (T s l)) = fun s => (f s || T s l k) || ins.any (T s l) := by funext s; simp [Bool.or_assoc]
    rw [e]; exact ih
theorem sepF_take (vs : List St) : ∀ (ins : List Int) (U : St) (j : Nat), sepF vs U ins = true → sepF vs U (ins.take j) = true
  | [], _, j, _ => by simp [sepF]
  | k :: ins, U, 0, _ => by simp [sepF]
  | k :: ins, U, j + 1, h => by
    rw [List.take_succ_cons, sepF]
    rw [sepF] at h
    split at h
    · rename_i hz; rw [if_pos hz]; exact sepF_take vs ins _ j h
    · simp at h
theorem decL_at {l : List Nd} (h : decL l = true) {i : Nat} (hi : i < l.length) (hk : (nd l (i : Int)).kind = 3) : sepF (varsL l) St.zero (nd l (i : Int)).ins = true := by
  rw [decL, List.all_eq_true] at h
  have e : nd l (i : Int) = l[i] := by rw [nd_get (by omega) (by omega)]; simp
  have := h l[i] (List.getElem_mem hi)
  rw [e] at hk ⊢
  unfold ndSep at this
  rw [Bool.or_eq_true] at this
  rcases this with h | h
  · simp [hk] at h
  · exact h
theorem cnt_T_true {n : Int} (hL : ndsOk l n l.length) {i : Nat} (hi : i < l.length) (h : (nd l (i : Int)).kind = 1) : cnt (fun s => T s l i) N s = 2 ^ N := by
  rw [← cnt_true N s]
  apply cnt_congr
  intro s' _
  rw [T_nd s' hL (by omega) (by omega)]; unfold evNd; rw [if_pos h]
/-- The sums and the numbers of models. -/
theorem sum_main (_hN : N ≤ 128) (h : netOk ⟨(N : Int), l⟩ = true) (hd : decL l = true) (hdet : detL l) (s : Int → Bool) : ∀ (k i : Nat), i = k → i < l.length → cnt (fun s => T s l i) N s * 2 ^ card (vm l i) = sAt (sumsL l) i * 2 ^ N := by
  have hL : ndsOk l N l.length := by simp [netOk] at h; exact h.2
  intro k
  induction k using Nat.strongRecOn with
  | _ k ih =>
    intro i hik hi
    have h0 : (0 : Int) ≤ (i : Int) := by omega
    have h1 : (i : Int) < (l.length : Int) := by omega
    have hok := nd_ok hL h0 h1
    have hins := ndOk_ins hok
    have ihI : ∀ j ∈ (nd l (i : Int)).ins, 0 ≤ j ∧ j < (l.length : Int) ∧ cnt (fun s => T s l j) N s * 2 ^ card (vm l j) = sAt (sumsL l) j * 2 ^ N := fun j hj => by
      have := hins j hj
      have hh := ih j.toNat (by omega) j.toNat rfl (by omega)
      rw [show ((j.toNat : Nat) : Int) = j by omega] at hh
      exact ⟨this.1, by omega, hh⟩
    rw [sumsL_eq hL hi]
    unfold sumNd
    have hkind := formOk_kind hok
    have hleaf : (nd l (i : Int)).kind ≠ 3 → (nd l (i : Int)).kind ≠ 4 → (nd l (i : Int)).ins = [] := fun a b => (ndOk_leaf hok (by omega)).2
    have hown : (nd l (i : Int)).kind ≠ 2 → ∀ v, (vm l i).mem v = (nd l (i : Int)).ins.any fun k => (vm l k).mem v := fun h2 v => by
      rw [vm_mem hL h0 h1, lit_zero hok h2, ofL_mem, show litVar 0 = 0 by unfold litVar; rw [if_neg (by omega), if_neg (by omega)]]
      simp
    by_cases h2 : (nd l (i : Int)).kind = 2
    · rw [if_pos h2]
      obtain ⟨a, b⟩ := ndOk_lit hok h2
      have hv : 1 ≤ litVar (nd l (i : Int)).lit ∧ litVar (nd l (i : Int)).lit ≤ 128 := by rcases litVar_ne a with h | h <;> omega
      have hc : card (vm l i) = 1 := card_one hv.1 hv.2 fun u hu => by
        rw [vm_mem hL h0 h1, hleaf (by omega) (by omega), ofL_mem, decide_eq_true hv.1, decide_eq_true hv.2]; simp
      have e : cnt (fun s => T s l i) N s = cnt (fun s => s (litVar (nd l (i : Int)).lit) == decide (0 < (nd l (i : Int)).lit)) N s := by
        apply cnt_congr
        intro s' _
        rw [T_lit hL h0 h1 h2]; unfold holds; rw [decide_eq_true a]; simp
      rw [e, hc, Nat.pow_one, cnt_var _ hv.1 N s (by omega)]; omega
    · rw [if_neg h2]
      unfold sumIn
      by_cases h3 : (nd l (i : Int)).kind = 3
      · rw [if_pos (.inr h3)]
        have hz := and_fold (N := N) (s := s) hL (sAt (sumsL l)) (nd l (i : Int)).ins (fun _ => true) St.zero 1 (fun _ _ _ => rfl) St.zero_ok (by rw [cnt_true, card_none (fun v _ => St.mem_zero v)]; simp) ihI (decL_at hd hi h3)
        have e : cnt (fun s => T s l i) N s = cnt (fun s => true && (nd l (i : Int)).ins.all (T s l)) N s := by
          apply cnt_congr
          intro s' _
          rw [T_nd s' hL h0 h1]; unfold evNd; rw [if_neg (by omega), if_neg (by omega), if_pos h3]; simp
        have e2 : card (vm l i) = card (insU (varsL l) St.zero (nd l (i : Int)).ins) := card_congr fun v _ _ => by
          rw [hown h2, insU_mem, St.mem_zero]; rfl
        rw [e, e2]; exact hz
      · by_cases h1k : (nd l (i : Int)).kind = 1
        · have hn := hleaf h3 (by omega)
          rw [if_pos (.inl h1k), hn, cnt_T_true hL hi h1k, card_none (fun v _ => by rw [hown h2, hn]; rfl)]; simp
        · rw [if_neg (by omega)]
          by_cases h4 : (nd l (i : Int)).kind = 4
          · have hz := or_fold (N := N) (s := s) hL (sAt (sumsL l)) (fun k => minus (vm l i) (vm l k)) (card (vm l i)) (nd l (i : Int)).ins (fun _ => false) 0 (by rw [cnt_false]; simp) (fun k hk => ⟨(ihI k hk).2.2, card_minus fun v hv => vm_own hL h0 h1 hk v hv, fun _ ⟨a, _⟩ => by simp at a⟩) (fun s' => hdet s' i hi h4)
            have e : cnt (fun s => T s l i) N s = cnt (fun s => false || (nd l (i : Int)).ins.any (T s l)) N s := by
              apply cnt_congr
              intro s' _
              rw [T_nd s' hL h0 h1]; unfold evNd; rw [if_neg (by omega), if_neg (by omega), if_neg h3, if_pos h4]; simp
            rw [e]; exact hz
          · have h0k : (nd l (i : Int)).kind = 0 := by omega
            have hn := hleaf h3 h4
            have e : cnt (fun s => T s l i) N s = cnt (fun _ => false) N s := by
              apply cnt_congr
              intro s' _
              rw [T_nd s' hL h0 h1]; unfold evNd; rw [if_neg h1k, if_neg h2, if_neg h3, if_neg h4]
            rw [e, cnt_false, hn]; simp
/-- No number on the way is larger than the number of assignments. -/
theorem sum_part (hN : N ≤ 128) (h : netOk ⟨(N : Int), l⟩ = true) (hd : decL l = true) (hdet : detL l) {i : Nat} (hi : i < l.length) (j : Nat) :
    sumIn (sAt (sumsL l)) (fun k => minus (vm l i) (vm l k)) (nd l (i : Int)).kind ((nd l (i : Int)).ins.take j) ≤ 2 ^ N := by
  have hL : ndsOk l N l.length := by simp [netOk] at h; exact h.2
  have h0 : (0 : Int) ≤ (i : Int) := by omega
  have h1 : (i : Int) < (l.length : Int) := by omega
  have hok := nd_ok hL h0 h1
  have hins := ndOk_ins hok
  have s : Int → Bool := fun _ => false
  have ihI : ∀ k ∈ (nd l (i : Int)).ins.take j, k ∈ (nd l (i : Int)).ins ∧ 0 ≤ k ∧ k < (l.length : Int) ∧ cnt (fun s => T s l k) N s * 2 ^ card (vm l k) = sAt (sumsL l) k * 2 ^ N := fun k hk => by
    have hk := List.mem_of_mem_take hk
    have := hins k hk
    have hh := sum_main hN h hd hdet s k.toNat k.toNat rfl (by omega)
    rw [show ((k.toNat : Nat) : Int) = k by omega] at hh
    exact ⟨hk, this.1, by omega, hh⟩
  have fin : ∀ (f : (Int → Bool) → Bool) (c x : Nat), cnt f N s * 2 ^ c = x * 2 ^ N → c ≤ N → x ≤ 2 ^ N := fun f c x he hc => by
    have a : x * 2 ^ N ≤ 2 ^ N * 2 ^ N := by
      rw [← he]; exact Nat.mul_le_mul (cnt_le f N s) (Nat.pow_le_pow_right (by omega) hc)
    exact Nat.le_of_mul_le_mul_right a (Nat.pow_pos (by omega))
  have hkind := formOk_kind hok
  unfold sumIn
  by_cases h3 : (nd l (i : Int)).kind = 3
  · rw [if_pos (.inr h3)]
    have hz := and_fold (N := N) (s := s) hL (sAt (sumsL l)) ((nd l (i : Int)).ins.take j) (fun _ => true) St.zero 1 (fun _ _ _ => rfl) St.zero_ok (by rw [cnt_true, card_none (fun v _ => St.mem_zero v)]; simp) (fun k hk => (ihI k hk).2) (sepF_take _ _ _ j (decL_at hd hi h3))
    refine fin _ _ _ hz (card_le hN fun v _ hv => ?_)
    rw [insU_mem, St.mem_zero, Bool.false_or] at hv
    obtain ⟨k, hk, hm⟩ := List.any_eq_true.1 hv
    have := ihI k hk
    exact (vm_bd hL k.toNat k rfl this.2.1 this.2.2.1 v hm).2
  · by_cases h4 : (nd l (i : Int)).kind = 4
    · rw [if_neg (by omega)]
      have hz := or_fold (N := N) (s := s) hL (sAt (sumsL l)) (fun k => minus (vm l i) (vm l k)) (card (vm l i)) ((nd l (i : Int)).ins.take j) (fun _ => false) 0 (by rw [cnt_false]; simp) (fun k hk => ⟨(ihI k hk).2.2.2, card_minus fun v hv => vm_own hL h0 h1 (ihI k hk).1 v hv, fun _ ⟨a, _⟩ => by simp at a⟩) (fun s' => (hdet s' i hi h4).sublist (List.take_sublist _ _))
      exact fin _ _ _ hz (card_le hN fun v _ hv => (vm_bd hL i i (by simp) h0 h1 v hv).2)
    · have hn : (nd l (i : Int)).ins = [] := (ndOk_leaf hok (by omega)).2
      rw [hn]
      have : 1 ≤ 2 ^ N := Nat.pow_pos (by omega)
      split <;> simp <;> omega
theorem sum_le (hN : N ≤ 128) (h : netOk ⟨(N : Int), l⟩ = true) (hd : decL l = true) (hdet : detL l) {i : Nat} (hi : i < l.length) : sAt (sumsL l) i ≤ 2 ^ N := by
  have hL : ndsOk l N l.length := by simp [netOk] at h; exact h.2
  have hm := sum_main hN h hd hdet (fun _ => false) i i rfl hi
  have hc : card (vm l i) ≤ N := card_le hN fun v _ hv => (vm_bd hL i i (by simp) (by omega) (by omega) v hv).2
  have a : sAt (sumsL l) i * 2 ^ N ≤ 2 ^ N * 2 ^ N := by
    rw [← hm]; exact Nat.mul_le_mul (cnt_le _ N _) (Nat.pow_le_pow_right (by omega) hc)
  exact Nat.le_of_mul_le_mul_right a (Nat.pow_pos (by omega))
/-- The count. -/
theorem sumT_cnt (hN : N ≤ 128) (h : netOk ⟨(N : Int), l⟩ = true) (hd : decL l = true) (hdet : detL l) : sumT N l = cnt (fun s => ev s ⟨N, l⟩) N (fun _ => false) := by
  have hL : ndsOk l N l.length := by simp [netOk] at h; exact h.2
  have h1 := (netOk_head h).2.2.1
  simp only at h1
  have hm := sum_main hN h hd hdet (fun _ => false) (l.length - 1) (l.length - 1) rfl (by omega)
  have hc : card (vm l ((l.length - 1 : Nat) : Int)) ≤ N := card_le hN fun v _ hv => (vm_bd hL (l.length - 1) _ (by simp) (by omega) (by omega) v hv).2
  have e : (fun s => ev s ⟨(N : Int), l⟩) = fun s => T s l ((l.length - 1 : Nat) : Int) := by funext s; exact ev_eq s _ h1
  rw [e]
  unfold sumT
  apply mul_cancel2 (N := card (vm l ((l.length - 1 : Nat) : Int)))
  rw [hm, Nat.mul_assoc, ← Nat.pow_add, show N - card (vm l ((l.length - 1 : Nat) : Int)) + card (vm l ((l.length - 1 : Nat) : Int)) = N by omega]
theorem sumT_pos (hN : N ≤ 128) (h : netOk ⟨(N : Int), l⟩ = true) (hd : decL l = true) (hdet : detL l) : 0 < sumT N l ↔ ∃ s, ev s ⟨N, l⟩ = true := by
  rw [sumT_cnt hN h hd hdet, cnt_pos]
  constructor
  · rintro ⟨s, _, hs⟩; exact ⟨s, hs⟩
  · rintro ⟨s, hs⟩
    refine ⟨fun u => if 1 ≤ u ∧ u ≤ (N : Int) then s u else false, fun u hu => if_neg (by omega), ?_⟩
    rw [← hs]
    refine ev_congr fun y hy hk => ?_
    obtain ⟨a, b⟩ := netOk_lits h y hy hk
    have := (litVar_ne a)
    show (if 1 ≤ litVar y.lit ∧ litVar y.lit ≤ (N : Int) then s (litVar y.lit) else false) = _
    rw [if_pos (by omega)]
theorem sumT_full (hN : N ≤ 128) (h : netOk ⟨(N : Int), l⟩ = true) (hd : decL l = true) (hdet : detL l) : sumT N l = 2 ^ N ↔ ∀ s, ev s ⟨N, l⟩ = true := by
  rw [sumT_cnt hN h hd hdet, cnt_full]
  constructor
  · intro hh s
    have := hh (fun u => if 1 ≤ u ∧ u ≤ (N : Int) then s u else false) (fun u hu => if_neg (by omega))
    rw [← this]
    refine ev_congr fun y hy hk => ?_
    obtain ⟨a, b⟩ := netOk_lits h y hy hk
    have := (litVar_ne a)
    exact (if_pos (by omega)).symm
  · intro hh s _; exact hh s
end
end Cen

/- The walks of censusref03's Has, none, set, List, Of, With. -/
namespace Go.Proofs.YtkaojolofaanfaaGreatDoor
open Go.RowKit Cen
set_option maxHeartbeats 2000000
set_option maxRecDepth 100000
theorem has3_any (s : St) (v : Int) (w : World) (_hs : s.ok) : Calls Tryz.prog 100 #[stv s, .int .i64 v] w fun e w' => e = .returned (.bool (s.mem v)) ∧ Below w.heap.size w w' := by
  by_cases h1 : v < 1
  · have d1 : decide (v < 1) = true := by simpa using h1
    have HR : Hid (s.mem v = false) := by show _ = _; unfold St.mem; rw [if_neg (by omega), if_neg (by omega)]
    clear h1
    go_enter Tryz.func100, Tryz.ntmps100
    go_wp2
    go_ret
    exact ⟨ret_bool HR.out.symm, (Below.refl _ _).alloc (Nat.le_refl _) _⟩
  · have d1 : decide (v < 1) = false := by simpa using h1
    by_cases h2 : 128 < v
    · have d2 : decide (128 < v) = true := by simpa using h2
      have HR : Hid (s.mem v = false) := by show _ = _; unfold St.mem; rw [if_neg (by omega), if_neg (by omega)]
      clear h2 h1
      go_enter Tryz.func100, Tryz.ntmps100
      go_wp2
      go_ret
      exact ⟨ret_bool HR.out.symm, (Below.refl _ _).alloc (Nat.le_refl _) _⟩
    · have d2 : decide (128 < v) = false := by simpa using h2
      have h1' : 1 ≤ v := by omega
      have h2' : v ≤ 128 := by omega
      clear h1 h2
      by_cases hv : v ≤ 64
      · have e1 : (v - 1) / 64 = 0 := by omega
        have e2 : (v - 1) % 64 = v - 1 := by omega
        go_enter Tryz.func100, Tryz.ntmps100
        go_wp2
        go_ret
        exact ⟨ret_bool (mem_lo s h1' hv), (Below.refl _ _).alloc (Nat.le_refl _) _⟩
      · have e1 : (v - 1) / 64 = 1 := by omega
        have e2 : (v - 1) % 64 = v - 65 := by omega
        have hv2 : 65 ≤ v := by omega
        go_enter Tryz.func100, Tryz.ntmps100
        go_wp2
        go_ret
        exact ⟨ret_bool (mem_hi s hv2 h2' _ (by omega)), (Below.refl _ _).alloc (Nat.le_refl _) _⟩
theorem none3_any (w : World) : Calls Tryz.prog 99 #[] w fun e w' => ∃ g, e = .returned (.slice (some ⟨g, 0, none⟩) 129 129) ∧ OwnL bc 4 1 w' w.heap.size (.slice (some ⟨g, 0, none⟩) 129 129) (List.replicate 129 false) ∧ Below w.heap.size w w' := by
  go_enter Tryz.func99, Tryz.ntmps99
  go_wp2_with (at_make; refine mk elemBool rfl _ _ rfl w.heap.size .i64 .i64 _ _ 129 rfl rfl rfl rfl (by omega) (by unfold maxLen; omega) (Nat.le_refl _) bc false rfl ?_)
  intro w2 hown2 hgrow2
  have HO := Lib.hid hown2
  have HB : Hid (Below w.heap.size w w2) := (Below.refl _ _).grown hgrow2 (Nat.le_refl _) (by simp)
  clear hown2 hgrow2
  go_wp2
  go_ret
  exact ⟨_, rfl, HO.out, HB.out⟩
/-- The set of the first k numbers of which f is true. -/
def setB (f : Nat → Bool) : Nat → St
  | 0 => St.zero
  | k + 1 => if f (k + 1) then (setB f k).add ((k : Int) + 1) else setB f k
theorem setB_ok (f : Nat → Bool) : ∀ k, (setB f k).ok
  | 0 => St.zero_ok
  | k + 1 => by unfold setB; split; exact St.add_ok (setB_ok f k) _; exact setB_ok f k
theorem setB_mem (f : Nat → Bool) : ∀ (k : Nat) (v : Int), k ≤ 128 → (setB f k).mem v = (decide (1 ≤ v) && (decide (v ≤ k) && f v.toNat))
  | 0, v, _ => by
    rw [setB, St.mem_zero]
    by_cases h : 1 ≤ v
    · rw [decide_eq_false (show ¬ v ≤ ((0 : Nat) : Int) by omega)]; simp
    · rw [decide_eq_false h]; simp
  | k + 1, v, hk => by
    have ih := setB_mem f k v (by omega)
    by_cases e : v = (k : Int) + 1
    · have e2 : v.toNat = k + 1 := by omega
      rw [decide_eq_true (show 1 ≤ v by omega), decide_eq_true (show v ≤ ((k + 1 : Nat) : Int) by omega), e2]
      rw [decide_eq_false (show ¬ v ≤ (k : Int) by omega)] at ih
      show (if f (k + 1) then (setB f k).add ((k : Int) + 1) else setB f k).mem v = _
      cases hf : f (k + 1) with
      | false => simp only [Bool.false_eq_true, if_false]; rw [ih]; simp
      | true => simp only [if_true]; rw [St.mem_add, e, decide_eq_true (show (1 : Int) ≤ (k : Int) + 1 by omega), decide_eq_true (show (k : Int) + 1 ≤ 128 by omega)]; simp
    · have e3 : decide (v ≤ ((k + 1 : Nat) : Int)) = decide (v ≤ (k : Int)) := by rw [Bool.eq_iff_iff, decide_eq_true_iff, decide_eq_true_iff]; omega
      rw [e3, ← ih]
      show (if f (k + 1) then (setB f k).add ((k : Int) + 1) else setB f k).mem v = _
      split
      · rw [St.mem_add, decide_eq_false e]; simp
      · rfl
theorem or_pow {a k : Nat} (ha : a < U64) (hk : k < 64) : bits .or .u64 (a : Int) (IntKind.u64.wrap ((2 : Int) ^ k)) = ((a ||| 2 ^ k : Nat) : Int) := by
  rw [wrap_pow hk]; exact or64 ha (pow_lt_U64 hk)
theorem setB_next (f : Nat → Bool) {v : Int} (h1 : 1 ≤ v) : setB f v.toNat = if f v.toNat then (setB f (v.toNat - 1)).add v else setB f (v.toNat - 1) := by
  obtain ⟨k, rfl⟩ : ∃ k : Nat, v = (k : Int) + 1 := ⟨(v - 1).toNat, by omega⟩
  rw [show ((k : Int) + 1).toNat = k + 1 by omega]; rfl
theorem set3_any (f : Nat → Bool) (g : Nat) (w : World) (h : ∀ j, j < 129 → w.cell? ⟨g, j, none⟩ = some (.bool (f j))) :
    Calls Tryz.prog 101 #[.slice (some ⟨g, 0, none⟩) 129 129] w fun e w' => e = .returned (stv (setB f 128)) ∧ Below w.heap.size w w' := by
  have HC := Lib.hid h
  have HB0 : Hid (Below w.heap.size w ((w.alloc (.cells (sts St.zero) 54)).alloc (.cells (sts St.zero) 54))) := ((Below.refl _ _).alloc (Nat.le_refl _) _).alloc (by simp) _
  clear h
  go_enter Tryz.func101, Tryz.ntmps101
  go_wp2
  go_loopw [4] (fun i wr => ∃ v : Int, 1 ≤ v ∧ v ≤ 129 ∧ i = .int .i64 v ∧ Blk wr (w.heap.size + 1) (sts (setB f (v.toNat - 1))) 54 ∧ Blk wr w.heap.size (sts St.zero) 54 ∧ Below w.heap.size w wr) (fun i _ => 129 - (intOf i).toNat)
  case atStart => exact ⟨1, by omega, by omega, rfl, Blk.new' (w.alloc _) (by simp) (sts St.zero) 54, (Blk.new w _ _).alloc _, HB0.out⟩
  case round =>
    obtain ⟨v, hv1, hv2, rfl, hs, hz, hbel⟩ := hrel
    obtain ⟨c0, c1, f0, f1⟩ := hs.sc
    obtain ⟨d0, d1, g0, g1⟩ := hz.sc
    have HS := Lib.hid hs
    have HZ := Lib.hid hz
    have HB := Lib.hid hbel
    have HOK := Lib.hid (setB_ok f (v.toNat - 1))
    have hzz : w.heap.size + 1 < wr.heap.size := hs.lt
    clear hs hz hbel
    by_cases hlt : v < 129
    · have hc := cell_keep HB.out (HC.out v.toNat (by omega))
      have HSB := Lib.hid (setB_next f hv1)
      generalize setB f (v.toNat - 1) = s at *
      cases hf : f v.toNat with
      | false =>
        rw [hf] at hc
        rw [hf, if_neg (by simp)] at HSB
        clear hf
        go_wp2
        go_roundw
        case rel => exact ⟨v + 1, by omega, by omega, rfl, by rw [show (v + 1).toNat - 1 = v.toNat by omega, HSB.out]; exact HS.out, HZ.out, HB.out⟩
        case measure => simp [intOf]; omega
      | true =>
        rw [hf] at hc
        rw [hf, if_pos rfl] at HSB
        clear hf
        by_cases h64 : v ≤ 64
        · have e1 : (v - 1) / 64 = 0 := by omega
          have e2 : (v - 1) % 64 = v - 1 := by omega
          obtain ⟨A, hA⟩ : ∃ A : Nat, A = s.a ||| 2 ^ (v.toNat - 1) := ⟨_, rfl⟩
          have HR : Hid (s.add v = ⟨A, s.b⟩) := by
            show _ = _; unfold St.add; rw [if_pos (by omega), show (v - 1).toNat = v.toNat - 1 by omega, hA]
          have hw : bits .or .u64 (s.a : Int) (IntKind.u64.wrap ((2 : Int) ^ (v.toNat - 1))) = (A : Int) := by rw [hA]; exact or_pow HOK.out.1 (by omega)
          clear hA
          go_wp2
          go_roundw
          case rel => exact ⟨v + 1, by omega, by omega, rfl, by rw [show (v + 1).toNat - 1 = v.toNat by omega, HSB.out, HR.out]; exact HS.out.set 0 _, HZ.out.other _ _ (by simp), HB.out.setCell (by simp) _⟩
          case measure => simp [intOf]; omega
        · have e1 : (v - 1) / 64 = 1 := by omega
          have e2 : (v - 1) % 64 = v - 65 := by omega
          have hv65 : 65 ≤ v := by omega
          obtain ⟨A, hA⟩ : ∃ A : Nat, A = s.b ||| 2 ^ (v - 65).toNat := ⟨_, rfl⟩
          have HR : Hid (s.add v = ⟨s.a, A⟩) := by
            show _ = _; unfold St.add; rw [if_neg (by omega), if_pos (by omega), hA]
          have hw : bits .or .u64 (s.b : Int) (IntKind.u64.wrap ((2 : Int) ^ (v - 65).toNat)) = (A : Int) := by rw [hA]; exact or_pow HOK.out.2 (by omega)
          clear hA
          go_wp2
          go_roundw
          case rel => exact ⟨v + 1, by omega, by omega, rfl, by rw [show (v + 1).toNat - 1 = v.toNat by omega, HSB.out, HR.out]; exact HS.out.set 1 _, HZ.out.other _ _ (by simp), HB.out.setCell (by simp) _⟩
          case measure => simp [intOf]; omega
    · have : v = 129 := by omega
      subst this
      have HE : Hid (setB f ((129 : Int).toNat - 1) = setB f 128) := rfl
      go_wp2
      exact bodyPost_ret (v := stv (setB f 128)) (by simp [results, Tryz.results101, go_sem, d0, d1]) rfl ⟨rfl, (HB.out.setCell (Nat.le_refl _) _).setCell (Nat.le_refl _) _⟩
end Go.Proofs.YtkaojolofaanfaaGreatDoor
