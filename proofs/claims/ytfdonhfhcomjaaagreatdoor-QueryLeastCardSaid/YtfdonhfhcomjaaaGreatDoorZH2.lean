/- Part of the proofs that laws of censuslaw38 return true for every input, where the tables that the rows list are laid. Texts: LeastP. -/
import Derived.Test.YtfdonhfhcomjaaaGreatDoorZH1
import Derived.Test.YtfdonhfhcomjaaaGreatDoorZC1
import Derived.Test.YtfdonhfhcomjaaaGreatDoorZG1

/- Plain: the first variable of a set; the order of models; the least counterexample. -/
namespace Go.Proofs.YtfdonhfhcomjaaaGreatDoor
open Cen
theorem offs_mem (wd x : Nat) (v : Int) : v ∈ offs wd x ↔ ∃ i : Nat, i < 64 ∧ x.testBit i = true ∧ v = 64 * (wd : Int) + i + 1 := by
  unfold offs bitsL
  simp only [List.mem_map, List.mem_filter, List.mem_range]
  constructor
  · rintro ⟨i, ⟨h1, h2⟩, rfl⟩; exact ⟨i, h1, h2, rfl⟩
  · rintro ⟨i, h1, h2, rfl⟩; exact ⟨i, ⟨h1, h2⟩, rfl⟩
theorem memS_mem (s : St) (v : Int) : v ∈ memS s ↔ s.mem v = true := by
  unfold memS
  rw [List.mem_append, offs_mem, offs_mem]
  constructor
  · rintro (⟨i, h1, h2, rfl⟩ | ⟨i, h1, h2, rfl⟩)
    · unfold St.mem; rw [if_pos (by omega)]; rw [show (64 * ((0 : Nat) : Int) + i + 1 - 1).toNat = i by omega]; exact h2
    · unfold St.mem; rw [if_neg (by omega), if_pos (by omega)]; rw [show (64 * ((1 : Nat) : Int) + i + 1 - 65).toNat = i by omega]; exact h2
  · intro h
    unfold St.mem at h
    by_cases a : 1 ≤ v ∧ v ≤ 64
    · rw [if_pos a] at h; exact .inl ⟨(v - 1).toNat, by omega, h, by omega⟩
    · rw [if_neg a] at h
      by_cases b : 65 ≤ v ∧ v ≤ 128
      · rw [if_pos b] at h; exact .inr ⟨(v - 65).toNat, by omega, h, by omega⟩
      · rw [if_neg b] at h; simp at h
theorem bitsL_sorted (x : Nat) : (bitsL x).Pairwise (· < ·) := by
  unfold bitsL
  exact List.Pairwise.filter _ List.pairwise_lt_range
theorem memS_sorted (s : St) : (memS s).Pairwise (· < ·) := by
  unfold memS
  rw [List.pairwise_append]
  have h : ∀ wd x, (offs wd x).Pairwise (· < ·) := fun wd x => by
    unfold offs
    rw [List.pairwise_map]
    exact (bitsL_sorted x).imp fun h => by omega
  refine ⟨h 0 _, h 1 _, fun a ha b hb => ?_⟩
  rw [offs_mem] at ha hb
  obtain ⟨i, h1, _, rfl⟩ := ha
  obtain ⟨j, h2, _, rfl⟩ := hb
  omega
theorem mem_range_of {s : St} {v : Int} (h : s.mem v = true) : 1 ≤ v ∧ v ≤ 128 := by
  unfold St.mem at h
  by_cases a : 1 ≤ v ∧ v ≤ 64
  · omega
  · rw [if_neg a] at h
    by_cases b : 65 ≤ v ∧ v ≤ 128
    · omega
    · rw [if_neg b] at h; simp at h
theorem firstS_spec (s : St) : ((∀ v, s.mem v = false) ∧ firstS s = 0) ∨ (1 ≤ firstS s ∧ firstS s ≤ 128 ∧ s.mem (firstS s) = true ∧ ∀ v, v < firstS s → s.mem v = false) := by
  unfold firstS
  cases hm : memS s with
  | nil =>
    left
    refine ⟨fun v => ?_, rfl⟩
    cases h : s.mem v with
    | false => rfl
    | true => have := (memS_mem s v).2 h; rw [hm] at this; simp at this
  | cons x r =>
    right
    have hx : s.mem x = true := (memS_mem s x).1 (by rw [hm]; simp)
    have hr := mem_range_of hx
    refine ⟨hr.1, hr.2, hx, fun v hv => ?_⟩
    cases h : s.mem v with
    | false => rfl
    | true =>
      exfalso
      have h2 := (memS_mem s v).2 h
      have hs := memS_sorted s
      rw [hm] at h2 hs
      rw [List.pairwise_cons] at hs
      rcases List.mem_cons.1 h2 with e | e
      · subst e; simp at hv
      · have := hs.1 v e; simp at hv; omega
theorem diffS_mem {s t : St} (hs : s.ok) (ht : t.ok) (v : Int) : (diffS s t).mem v = (s.mem v != t.mem v) := by
  unfold diffS
  rw [St.mem_union, St.mem_minus ht, St.mem_minus hs]
  cases s.mem v <;> cases t.mem v <;> rfl
/-- Whoever comes before comes so at the first variable at which the two differ. -/
theorem less_lex {s t : St} (hs : s.ok) (ht : t.ok) {n : Int} (hn : ∀ v, n < v → s.mem v = t.mem v) (h : lessS s t = true) : lexLt 1 n s.mem t.mem := by
  unfold lessS at h
  simp only [Bool.and_eq_true, decide_eq_true_eq, Bool.not_eq_true'] at h
  rcases firstS_spec (diffS s t) with ⟨_, h0⟩ | ⟨h1, _, h2, h3⟩
  · omega
  · rw [diffS_mem hs ht] at h2
    refine ⟨firstS (diffS s t), h1, ?_, fun j _ hj => ?_, h.2, ?_⟩
    · apply Classical.byContradiction
      intro hc
      rw [hn _ (by omega)] at h2
      simp at h2
    · have := h3 j hj
      rw [diffS_mem hs ht] at this
      simpa using this
    · rw [h.2] at h2; simpa using h2
theorem sub_zero {s t : St} (hs : s.ok) (ht : t.ok) (h : ∀ v, s.mem v = true → t.mem v = true) : decide (St.minus s t = St.zero) = true := by
  rw [decide_eq_true_iff]
  apply St.ext (St.minus_ok hs) St.zero_ok
  intro v _ _
  rw [St.mem_minus ht, St.mem_zero]
  cases a : s.mem v with
  | false => rfl
  | true => rw [h v a]; rfl
/-- What the law asks of the counterexample that is found. -/
theorem least_found {n : Int} {a b : List Nd} (hn : 0 ≤ n) (sa : Small a) (sb : Small b) (h : chk2 ⟨n, a⟩ ⟨n, b⟩ = 0) (o : St) (ho : o.ok) :
    ((cntR ⟨n, a⟩ ⟨n, b⟩).isSome = false → (ev (o.cut (allSt n)).mem ⟨n, a⟩ && !ev (o.cut (allSt n)).mem ⟨n, b⟩) = false) ∧
    ((cntR ⟨n, a⟩ ⟨n, b⟩).isSome = true → ev (foundOf St.zero (cntR ⟨n, a⟩ ⟨n, b⟩)).mem ⟨n, a⟩ = true ∧ ev (foundOf St.zero (cntR ⟨n, a⟩ ⟨n, b⟩)).mem ⟨n, b⟩ = false ∧
      decide (St.minus (foundOf St.zero (cntR ⟨n, a⟩ ⟨n, b⟩)) (allSt n) = St.zero) = true ∧
      ((ev (o.cut (allSt n)).mem ⟨n, a⟩ && !ev (o.cut (allSt n)).mem ⟨n, b⟩) = true → lessS (o.cut (allSt n)) (foundOf St.zero (cntR ⟨n, a⟩ ⟨n, b⟩)) = false)) := by
  obtain ⟨ha, hb, _, _, _⟩ := chk2_ok h
  obtain ⟨_, hn1, _, _⟩ := netOk_head ha
  simp only at hn1
  obtain ⟨N, rfl⟩ := Int.eq_ofNat_of_zero_le hn
  obtain ⟨h1, h2⟩ := cntL_spec ha hb sa sb
  have hcut : (o.cut (allSt N)).ok := St.cut_ok ho
  unfold cntR
  rw [if_pos h]
  simp only
  cases hc : cntL N a b with
  | none =>
    refine ⟨fun _ => ?_, fun hx => by simp at hx⟩
    rw [Bool.eq_false_iff]
    intro hx
    simp only [Bool.and_eq_true, Bool.not_eq_true'] at hx
    exact h1 hc _ hx
  | some m =>
    have hL := h2 m hc
    have hfm : ∀ v : Int, 1 ≤ v → (foundOf St.zero (some m)).mem v = memL m v := fun v hv => found_bd hL (by omega) v hv
    have hfo := foundOf_ok St.zero_ok (some m)
    have hcx : cex N a b (foundOf St.zero (some m)).mem := (cex_congr ha hb fun v hv1 _ => hfm v hv1).2 hL.is
    have hout : ∀ v : Int, (N : Int) < v → (foundOf St.zero (some m)).mem v = false := fun v hv => by
      by_cases hv1 : 1 ≤ v
      · rw [hfm v hv1, Bool.eq_false_iff]
        intro hx
        have := hL.bd v (by simpa [memL] using hx)
        omega
      · omega
    refine ⟨fun hx => by simp at hx, fun _ => ⟨hcx.1, hcx.2, sub_zero hfo (allSt_ok _) fun v hv => ?_, fun ho2 => ?_⟩⟩
    · have hr := mem_range_of hv
      rw [allSt_mem, decide_eq_true hr.1, decide_eq_true hr.2]
      simp only [Bool.true_and, decide_eq_true_eq]
      apply Classical.byContradiction
      intro hc2
      rw [hout v (by omega)] at hv; simp at hv
    · rw [Bool.eq_false_iff]
      intro hless
      simp only [Bool.and_eq_true, Bool.not_eq_true'] at ho2
      have hlex := less_lex hcut hfo (n := N) (fun v hv => by
        rw [hout v hv, St.mem_cut, allSt_mem, decide_eq_false (show ¬ v ≤ (N : Int) by omega)]; simp) hless
      obtain ⟨u, p, q, r, s', t⟩ := hlex
      exact hL.least _ ho2 ⟨u, p, q, fun v hv1 hv2 => by rw [r v hv1 hv2]; exact hfm v hv1, s', by rw [← hfm u p]; exact t⟩
end Go.Proofs.YtfdonhfhcomjaaaGreatDoor
