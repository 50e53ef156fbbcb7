/- Part of the proofs that laws of censuslaw38 return true for every input, where the tables that the rows list are laid. Texts: Subs, ListP, PairP. -/
import Derived.Test.YtfdonhfhcomjaaaGreatDoorZB1
import Derived.Test.YtfdonhfhcomjaaaGreatDoorZA19
import Derived.Test.YtfdonhfhcomjaaaGreatDoorZA6
import Derived.Test.YtfdonhfhcomjaaaGreatDoorZA20

/- The walk of censusref03's Subsets. -/
namespace Go.Proofs.YtfdonhfhcomjaaaGreatDoor
open Go.RowKit Cen
set_option maxHeartbeats 2000000
set_option maxRecDepth 100000
theorem nthSt_ok {N : Nat} (h : N ≤ 16) (k : Nat) : (nthL N k).ok := ⟨nthA_lt N k N (by omega), by show 0 < U64; unfold U64; omega⟩
/-- The sets after k rounds. -/
def subU (N : Nat) : Nat → List St
  | 0 => [St.zero]
  | k + 1 => subU N k ++ (subU N k).map fun s => s.add ((N : Int) - k)
def subL (N : Nat) : List St := (List.range (2 ^ N)).map (nthL N)
theorem subU_len (N : Nat) : ∀ k, (subU N k).length = 2 ^ k
  | 0 => rfl
  | k + 1 => by
    show (subU N k ++ (subU N k).map fun s => s.add ((N : Int) - k)).length = _
    rw [List.length_append, List.length_map, subU_len N k, Nat.pow_succ]; omega
theorem subU_ok (N : Nat) : ∀ k, ∀ s ∈ subU N k, s.ok
  | 0, s, h => by
    have : s = St.zero := by simpa [subU] using h
    rw [this]; exact St.zero_ok
  | k + 1, s, h => by
    have h' : s ∈ (subU N k ++ (subU N k).map fun s => s.add ((N : Int) - k)) := h
    rw [List.mem_append, List.mem_map] at h'
    rcases h' with h | ⟨t, ht, rfl⟩
    · exact subU_ok N k s h
    · exact St.add_ok (subU_ok N k t ht) _
theorem subU_mem {N : Nat} (hN : N ≤ 16) : ∀ (k : Nat), k ≤ N → ∀ (j : Nat) (hj : j < (subU N k).length) (v : Int), 1 ≤ v → (subU N k)[j].mem v = (decide ((N : Int) - k < v) && (decide (v ≤ N) && j.testBit (N - v.toNat)))
  | 0, _, j, hj, v, h1 => by
    have h0 : j = 0 := by simp [subU] at hj; omega
    subst h0
    show St.zero.mem v = _
    rw [St.mem_zero]
    by_cases h : v ≤ N
    · rw [decide_eq_false (show ¬ (N : Int) - ((0 : Nat) : Int) < v by omega)]; rfl
    · rw [decide_eq_false h]; simp
  | k + 1, hk, j, hj, v, h1 => by
    have hl := subU_len N k
    have hj2 : j < (subU N k ++ (subU N k).map fun s => s.add ((N : Int) - k)).length := hj
    show (subU N k ++ (subU N k).map fun s => s.add ((N : Int) - k))[j].mem v = _
    by_cases hlo : j < (subU N k).length
    · rw [List.getElem_append_left hlo, subU_mem hN k (by omega) j hlo v h1]
      by_cases e : v = (N : Int) - k
      · subst e
        rw [decide_eq_false (show ¬ (N : Int) - k < N - k by omega), show N - ((N : Int) - k).toNat = k by omega, Nat.testBit_lt_two_pow (by omega)]; simp
      · congr 1
        rw [Bool.eq_iff_iff, decide_eq_true_iff, decide_eq_true_iff]; omega
    · rw [List.getElem_append_right (by omega), List.getElem_map, St.mem_add, subU_mem hN k (by omega) _ (by rw [List.length_append, List.length_map] at hj2; omega) v h1]
      rw [List.length_append, List.length_map] at hj2
      rw [decide_eq_true (show 1 ≤ (N : Int) - k by omega), decide_eq_true (show (N : Int) - k ≤ 128 by omega)]
      have hjl : j - (subU N k).length < 2 ^ k := by omega
      have hje : j = 2 ^ k + (j - (subU N k).length) := by omega
      generalize j - (subU N k).length = i at *
      subst hje
      by_cases e : v = (N : Int) - k
      · subst e
        rw [show N - ((N : Int) - k).toNat = k by omega, Nat.testBit_two_pow_add_eq, Nat.testBit_lt_two_pow hjl, decide_eq_true (rfl : (N : Int) - k = (N : Int) - k), decide_eq_true (show (N : Int) - ((k + 1 : Nat) : Int) < N - k by omega), decide_eq_true (show (N : Int) - k ≤ N by omega)]
        simp
      · rw [decide_eq_false e]
        simp only [Bool.false_and, Bool.or_false]
        by_cases hv : v ≤ N
        · by_cases h2 : (N : Int) - k < v
          · rw [decide_eq_true h2, decide_eq_true (show (N : Int) - ((k + 1 : Nat) : Int) < v by omega), Nat.testBit_two_pow_add_gt (by omega)]
          · rw [decide_eq_false h2, decide_eq_false (show ¬ (N : Int) - ((k + 1 : Nat) : Int) < v by omega)]; rfl
        · rw [decide_eq_false hv]; simp
theorem subU_all {N : Nat} (hN : N ≤ 16) : subU N N = subL N := by
  apply List.ext_getElem
  · rw [subU_len]; simp [subL]
  · intro j h1 h2
    have e : (subL N)[j] = nthL N j := by simp [subL]
    rw [e]
    apply St.ext (subU_ok N N _ (List.getElem_mem h1)) (nthSt_ok hN j)
    intro v hv1 hv2
    rw [subU_mem hN N (Nat.le_refl _) j h1 v hv1, decide_eq_true (show (N : Int) - N < v by omega)]
    unfold St.mem nthL
    by_cases h : v ≤ 64
    · rw [if_pos ⟨hv1, h⟩, nthA_bit]
      simp only [Bool.true_and]
      by_cases hn : v ≤ N
      · rw [decide_eq_true hn, decide_eq_true (by omega), show (v - 1).toNat + 1 = v.toNat by omega]
      · rw [decide_eq_false hn, decide_eq_false (by omega)]; simp
    · rw [if_neg (fun x => h x.2), if_pos ⟨by omega, hv2⟩, decide_eq_false (show ¬ v ≤ N by omega)]
      simp
theorem subU_next {N : Nat} {v : Int} (h1 : 1 ≤ v) (h2 : v ≤ N) : subU N (N - (v - 1).toNat) = subU N (N - v.toNat) ++ (subU N (N - v.toNat)).map fun s => s.add v := by
  have e : N - (v - 1).toNat = (N - v.toNat) + 1 := by omega
  rw [e]
  show subU N (N - v.toNat) ++ (subU N (N - v.toNat)).map (fun s => s.add ((N : Int) - ((N - v.toNat : Nat) : Int))) = _
  rw [show (N : Int) - ((N - v.toNat : Nat) : Int) = v by omega]
theorem oneSets (L : List St) : ∀ u ∈ L.flatMap stc, u.oneCell' = true := by
  intro u hu
  rw [List.mem_flatMap] at hu
  obtain ⟨s, _, hs⟩ := hu
  simp only [stc, List.mem_cons, List.not_mem_nil, or_false] at hs
  rcases hs with rfl | rfl <;> rfl
theorem flatStc (L : List St) : (L.flatMap stc).length = L.length * 2 := by
  induction L with
  | nil => rfl
  | cons s L ih => rw [List.flatMap_cons, List.length_append, ih, List.length_cons, stc_len]; omega
theorem setsAt {w : World} {base g cap n : Nat} {L : List St} (hn : n = L.length) (h : OwnSets w base (.slice (some ⟨g, 0, none⟩) n cap) L) : ∀ j u, (L.flatMap stc)[j]? = some u → w.cell? ((⟨g, 0, none⟩ : Addr).add j) = some u := by
  subst hn
  intro j u hj
  have hlt : j < (L.flatMap stc).length := by
    rcases Nat.lt_or_ge j (L.flatMap stc).length with h' | h'
    · exact h'
    · rw [List.getElem?_eq_none h'] at hj; simp at hj
  have e1 : (⟨g, 0, none⟩ : Addr).add j = ⟨g, j, none⟩ := by
    unfold Addr.add; split
    · rename_i hj0; rw [hj0]
    · simp
  rw [e1, World.ownsRow.cellAt h j (by rw [← flatStc]; exact hlt), hj]
theorem subsets_any (N : Nat) (w : World) (hN : N ≤ 16) :
    Calls Tryz.prog 56 #[.int .i64 N] w fun e w' => ∃ v, e = .returned v ∧ OwnSets w' w.heap.size v (subL N) ∧ Below w.heap.size w w' := by
  have HALL := Lib.hid (subU_all hN)
  have H0 : Hid ((w.alloc (.cells #[.int .u64 0, .int .u64 0] 38)).ownsRow w.heap.size 38 2 (.slice (some ⟨w.heap.size, 0, none⟩) 1 1) 1 [.int .u64 0, .int .u64 0]) := World.ownsRow_lit w #[.int .u64 0, .int .u64 0] 1 (Nat.le_refl _) (by unfold maxLen; omega) rfl
  have HB0 : Hid (Below w.heap.size w (w.alloc (.cells #[.int .u64 0, .int .u64 0] 38))) := (Below.refl _ _).alloc (Nat.le_refl _) _
  go_enter Tryz.func56, Tryz.ntmps56
  go_wp2
  go_loopw [3, 4] (fun l i wr => ∃ v : Int, 0 ≤ v ∧ v ≤ N ∧ i = .int .i64 v ∧ OwnSets wr w.heap.size l (subU N (N - v.toNat)) ∧ Below w.heap.size w wr) (fun _ i _ => (intOf i).toNat)
  case atStart => exact ⟨N, by omega, by omega, rfl, by rw [show N - (N : Int).toNat = 0 by omega]; exact H0.out, HB0.out⟩
  case round =>
    obtain ⟨v, hv1, hv2, rfl, hown, hb⟩ := hrel
    have HO := Lib.hid hown
    have HB := Lib.hid hb
    clear hown hb
    by_cases hlt : 1 ≤ v
    · have HNX := Lib.hid (subU_next hlt hv2)
      have HLN := Lib.hid (subU_len N (N - v.toNat))
      have HOK := Lib.hid (subU_ok N (N - v.toNat))
      have HP2 : Hid (2 ^ (N - v.toNat) ≤ 32768) := by
        show _ ≤ _
        exact Nat.le_trans (Nat.pow_le_pow_right (n := 2) (by omega) (show N - v.toNat ≤ 15 by omega)) (by decide)
      generalize subU N (N - v.toNat) = L at *
      have HL1 : Hid (L.length ≤ 32768) := by show _ ≤ _; rw [HLN.out]; exact HP2.out
      have HL0 : Hid (1 ≤ L.length) := by show _ ≤ _; rw [HLN.out]; exact Nat.pow_pos (by omega)
      rcases HO.out.shape with ⟨_, hz⟩ | ⟨g, capl, rfl, hgb, hgz⟩
      · rw [hz] at HL0; exact absurd HL0.out (by simp)
      have HG := Lib.hid hgb
      have HGZ := Lib.hid hgz
      have HC := Lib.hid (setsAt rfl HO.out)
      have HN0 := Lib.hid (OwnL.nil (enc := stc) (e := 38) (k := 2) wr wr.heap.size)
      clear hgb hgz
      go_wp2_with (at_builtin; refine app elemSet rfl _ _ rfl wr.heap.size (.slice none 0 0) 0 [] rfl HN0.out ⟨g, 0, none⟩ L.length capl (L.flatMap stc) rfl (flatStc L) HC.out (oneSets L) (by unfold maxLen; have := HL1.out; omega) (by have := HL1.out; omega) (Nat.le_refl _) ?_)
      intro v' w1 hown1 hgrow1 _
      have HO1 : Hid (OwnSets w1 wr.heap.size v' L) := hown1
      have HB1 : Hid (Below wr.heap.size wr w1) := (Below.refl _ _).grown hgrow1 (Nat.le_refl _) (by simp [Value.ownBlock])
      clear hown1 hgrow1
      go_wp2
      obtain ⟨wo, rfl⟩ : ∃ wo : World, wo = wr := ⟨_, rfl⟩
      go_loopw [5, 6] (fun nx i wi => ∃ m : Nat, m ≤ L.length ∧ i = .int .i64 m ∧ OwnSets wi wo.heap.size nx (L ++ (L.take m).map fun s => s.add v) ∧ Below wo.heap.size wo wi) (fun _ i _ => L.length - (intOf i).toNat)
      case atStart => exact ⟨0, Nat.zero_le _, rfl, by simpa using HO1.out, HB1.out⟩
      case round =>
        obtain ⟨wi, rfl⟩ : ∃ wi : World, wi = wr := ⟨_, rfl⟩
        obtain ⟨m, hm, rfl, hown, hbi⟩ := hrel
        have HOI := Lib.hid hown
        have HBI := Lib.hid hbi
        clear hown hbi
        by_cases hlm : m < L.length
        · have c0' := HO.out.cell rfl stc_len m 0 hlm (by omega)
          have c1' := HO.out.cell rfl stc_len m 1 hlm (by omega)
          have hs := HOK.out L[m] (List.getElem_mem hlm)
          have HTK : Hid ((L.take (m + 1)).map (fun s => s.add v) = (L.take m).map (fun s => s.add v) ++ [L[m].add v]) := by
            show _ = _; rw [List.take_succ_eq_append_getElem hlm, List.map_append]; rfl
          have HLM : Hid ((L ++ (L.take m).map fun s => s.add v).length ≤ 65536) := by show _ ≤ _; have := HL1.out; simp; omega
          generalize L[m] = s at *
          have c0 : wi.cell? ⟨g, m * 2, none⟩ = some (.int .u64 (s.a : Int)) := by
            rw [HBI.out.cell (by exact HGZ.out)]; rw [Nat.add_zero] at c0'; exact c0'
          have c1 : wi.cell? ⟨g, m * 2 + 1, none⟩ = some (.int .u64 (s.b : Int)) := by
            rw [HBI.out.cell (by exact HGZ.out)]; exact c1'
          have HWI := Lib.hid (fun V => with3_any s v V hs)
          obtain ⟨d, hd⟩ : ∃ d, d = s.add v := ⟨_, rfl⟩
          rw [← hd] at HWI HTK
          have hmi : (m : Int) < (L.length : Int) := by omega
          have hm0 : (0 : Int) ≤ (m : Int) := by omega
          have hmb : (m : Int) ≤ 65536 := by have := HL1.out; omega
          clear c0' c1' hs hd
          go_wp2_with fail
          refine (HWI.out _).mono ?_
          rintro e w2 ⟨rfl, hb2⟩
          have HO2 := Lib.hid (HOI.out.later hb2)
          have HB2 := Lib.hid (HBI.out.trans (hb2.mono HBI.out.size))
          clear hb2
          obtain ⟨M, hM⟩ : ∃ M, M = L ++ (L.take m).map fun s => s.add v := ⟨_, rfl⟩
          rw [← hM] at HO2 HLM
          have HM := Lib.hid hM
          clear hM
          go_wp2_with (at_builtin; refine app1 (C := #[.int .u64 (d.a : Int), .int .u64 (d.b : Int)]) elemSet rfl _ _ rfl wo.heap.size _ _ _ rfl HO2.out rfl rfl (by simp [Value.oneCell']) (by unfold maxLen; have := HLM.out; omega) (by have := HLM.out; omega) HB2.out.size ?_)
          intro v3 w3 hown3 hgrow3 _
          have HO3 : Hid (OwnSets w3 wo.heap.size v3 (M ++ [d])) := by
            show OwnL _ _ _ _ _ _ _
            unfold OwnL; rw [List.length_append, List.flatMap_append]; simpa [stc] using hown3
          have HB3 : Hid (Below wo.heap.size wo w3) := HB2.out.grown hgrow3 HB2.out.size (fun q hq => by
            rcases HO2.out.shape with ⟨h, _⟩ | ⟨g', cap'', h, h2, _⟩
            · rw [h] at hq; simp [Value.ownBlock] at hq
            · rw [h] at hq; simp [Value.ownBlock] at hq; omega)
          clear hown3 hgrow3
          go_wp2
          go_roundw
          case rel => exact ⟨m + 1, by omega, by go_num, by rw [HTK.out, ← List.append_assoc, ← HM.out]; exact HO3.out, HB3.out⟩
          case measure => simp [intOf]; omega
        · have : m = L.length := by omega
          subst this
          rw [List.take_length] at HOI
          go_wp2
          go_roundw
          case rel => exact ⟨v - 1, by omega, by omega, rfl, by rw [HNX.out]; exact HOI.out.lower HB.out.size, HB.out.trans (HBI.out.mono HB.out.size)⟩
          case measure => simp [intOf]; omega
    · have : v = 0 := by omega
      subst this
      rw [show N - (0 : Int).toNat = N by omega, HALL.out] at HO
      go_wp2
      go_ret
      exact ⟨_, rfl, HO.out, HB.out⟩
end Go.Proofs.YtfdonhfhcomjaaaGreatDoor

/- Plain: what Entails and Implies answer, said by assignments; that the references answer the same; further literals. -/
namespace Go.Proofs.YtfdonhfhcomjaaaGreatDoor
open Cen
def litsOk (xs : List Int) (n : Int) : Prop := ∀ x ∈ xs, litVar x ≠ 0 ∧ litVar x ≤ n
theorem chkR_lits {xs : List Int} {t : Nt} (h : chkR xs t = 0) : litsOk xs t.n := by
  intro x hx
  have := List.all_eq_true.1 (chkR_ok h).2.1 x hx
  simpa [litOk] using this
theorem litVar_neg (x : Int) : litVar (-x) = litVar x := by
  unfold litVar
  by_cases h1 : 1 ≤ x ∧ x ≤ 128
  · rw [if_pos h1, if_neg (by omega), if_pos (by omega)]; omega
  · rw [if_neg h1]
    by_cases h2 : x ≤ -1 ∧ -128 ≤ x
    · rw [if_pos h2, if_pos (by omega)]
    · rw [if_neg h2, if_neg (by omega), if_neg (by omega)]
theorem holds_neg {s : Int → Bool} {x : Int} (h : litVar x ≠ 0) : holds s (-x) = !holds s x := by
  have hx := litVar_ne h
  unfold holds
  rw [litVar_neg, decide_eq_true h]
  simp only [Bool.true_and]
  by_cases hp : 0 < x
  · rw [decide_eq_true hp, decide_eq_false (show ¬ 0 < -x by omega)]; cases s (litVar x) <;> rfl
  · rw [decide_eq_false hp, decide_eq_true (show 0 < -x by omega)]; cases s (litVar x) <;> rfl
theorem any_not_all {s : Int → Bool} {xs : List Int} (h : ∀ x ∈ xs, litVar x ≠ 0) : anyL s xs = !allL s (xs.map fun x => -x) := by
  unfold anyL allL
  induction xs with
  | nil => rfl
  | cons x xs ih =>
    simp only [List.any_cons, List.map_cons, List.all_cons]
    rw [ih (fun y hy => h y (by simp [hy])), holds_neg (h x (by simp))]
    cases holds s x <;> simp
theorem ovr_of_all {s : Int → Bool} {xs : List Int} (h : ∀ x ∈ xs, litVar x ≠ 0) (ha : allL s xs = true) : ∀ v, 1 ≤ v → ovr xs s v = s v := by
  intro v hv
  have ha' := List.all_eq_true.1 ha
  unfold ovr
  by_cases h1 : v ∈ xs
  · rw [if_pos h1]
    have h2 := ha' v h1
    have h3 := litVar_ne (h v h1)
    have h4 : litVar v = v := by omega
    unfold holds at h2
    rw [h4, decide_eq_true (show (0 : Int) < v by omega)] at h2
    simp at h2; exact h2.2.symm
  · rw [if_neg h1]
    by_cases h5 : -v ∈ xs
    · rw [if_pos h5]
      have h2 := ha' _ h5
      have h3 := litVar_ne (h _ h5)
      have h4 : litVar (-v) = v := by omega
      unfold holds at h2
      rw [h4, decide_eq_false (show ¬ (0 : Int) < -v by omega)] at h2
      simp at h2; exact h2.2.symm
    · rw [if_neg h5]
theorem all_ovr {s : Int → Bool} {xs : List Int} (hc : noClash xs) (h : ∀ x ∈ xs, litVar x ≠ 0) : allL (ovr xs s) xs = true := by
  refine List.all_eq_true.2 fun x hx => ?_
  rw [holds_ovr hc (h x hx), if_pos hx]
theorem clash_no {xs : List Int} (h : clash xs = false) : noClash xs := by
  intro x hx hn
  unfold clash at h
  rw [List.any_eq_false] at h
  have := h x hx
  simp [has] at this
  exact this hn
theorem clash_no_neg {xs : List Int} (h : clash xs = false) : noClash (xs.map fun x => -x) := by
  intro x hx hn
  rw [List.mem_map] at hx hn
  obtain ⟨y, hy, rfl⟩ := hx
  obtain ⟨z, hz, he⟩ := hn
  have : z = -y := by omega
  subst this
  exact clash_no h y hy hz
theorem clash_yes {xs : List Int} (h : clash xs = true) : ∃ x ∈ xs, -x ∈ xs := by
  unfold clash at h
  rw [List.any_eq_true] at h
  obtain ⟨x, hx, hn⟩ := h
  exact ⟨x, hx, by simpa [has] using hn⟩
theorem ent_iff {n : Int} {l : List Nd} {xs : List Int} (h : chkR xs ⟨n, l⟩ = 0) : entR ⟨n, l⟩ xs = true ↔ ∀ s, ev s ⟨n, l⟩ = true → anyL s xs = true := by
  obtain ⟨hok, _, hd⟩ := chkR_ok h
  have hl : ∀ x ∈ xs, litVar x ≠ 0 := fun x hx => (chkR_lits h x hx).1
  have hl' : ∀ x ∈ xs.map (fun x => -x), litVar x ≠ 0 := fun x hx => by
    rw [List.mem_map] at hx
    obtain ⟨y, hy, rfl⟩ := hx
    rw [litVar_neg]; exact hl y hy
  unfold entR
  rw [decide_eq_true h]
  cases hc : clash xs with
  | true =>
    simp only [Bool.true_and, Bool.true_or, true_iff]
    intro s _
    obtain ⟨x, hx, hn⟩ := clash_yes hc
    have e := holds_neg (s := s) (hl x hx)
    unfold anyL
    rw [List.any_eq_true]
    cases hh : holds s x with
    | true => exact ⟨x, hx, hh⟩
    | false => exact ⟨-x, hn, by rw [e, hh]; rfl⟩
  | false =>
    simp only [Bool.true_and, Bool.false_or, decide_eq_true_eq]
    rw [gvL_root hok hd (clash_no_neg hc)]
    constructor
    · intro hr s hs
      rw [any_not_all hl]
      cases ha : allL s (xs.map fun x => -x) with
      | false => rfl
      | true =>
        have := hr s
        rw [ev_pos hok (ovr_of_all hl' ha), hs] at this
        simp at this
    · intro hr s
      cases he : ev (ovr (xs.map fun x => -x) s) ⟨n, l⟩ with
      | false => rfl
      | true =>
        have := hr _ he
        rw [any_not_all hl, all_ovr (clash_no_neg hc) hl'] at this
        simp at this
theorem tok_of {n : Int} {l : List Nd} (hok : netOk ⟨n, l⟩ = true) : netOk ⟨n, [⟨1, 0, []⟩]⟩ = true := by
  obtain ⟨hn0, hn1, _, _⟩ := netOk_head hok
  exact true_ok hn0 hn1 1 (.inr rfl)
theorem imp_iffL {n : Int} {l : List Nd} {xs : List Int} (hs : Small l) (h : chkR xs ⟨n, l⟩ = 0) : impR ⟨n, l⟩ xs = true ↔ ∀ s, allL s xs = true → ev s ⟨n, l⟩ = true := by
  obtain ⟨hok, _, hd⟩ := chkR_ok h
  have hl : ∀ x ∈ xs, litVar x ≠ 0 := fun x hx => (chkR_lits h x hx).1
  unfold impR
  rw [decide_eq_true h]
  cases hc : clash xs with
  | true =>
    simp only [Bool.true_and, Bool.true_or, true_iff]
    intro s ha
    obtain ⟨x, hx, hn⟩ := clash_yes hc
    have e := holds_neg (s := s) (hl x hx)
    have h1 := List.all_eq_true.1 ha x hx
    have h2 := List.all_eq_true.1 ha _ hn
    rw [e, h1] at h2
    simp at h2
  | false =>
    simp only [Bool.true_and, Bool.false_or]
    obtain ⟨f1, f2, _⟩ := gvL_fine (xs := xs) hok hs
    obtain ⟨c1, c2⟩ := cntL_spec (tok_of hok) f1 tsmall f2
    constructor
    · intro hn s ha
      have hn' : cntL n [⟨1, 0, []⟩] (gvL n xs l) = none := by simpa using hn
      cases he : ev s ⟨n, l⟩ with
      | true => rfl
      | false => exact absurd ⟨ev_true _ _, by rw [gvL_ev hok (clash_no hc), ev_pos hok (ovr_of_all hl ha)]; exact he⟩ (c1 hn' s)
    · intro hall
      cases hcn : cntL n [⟨1, 0, []⟩] (gvL n xs l) with
      | none => rfl
      | some m =>
        have := (c2 m hcn).is.2
        rw [gvL_ev hok (clash_no hc), hall _ (all_ovr (clash_no hc) hl)] at this; simp at this
/-- What the references answer. -/
def entRef (N : Nat) (l : List Nd) (xs : List Int) : Bool := (modUp N l (2 ^ N)).all fun s => anyL s.mem xs
def impRef (N : Nat) (l : List Nd) (xs : List Int) : Bool := (subL N).all fun s => !(allL s.mem xs && !ev s.mem ⟨N, l⟩)
theorem holds_congr {s t : Int → Bool} {n x : Int} (h : litVar x ≠ 0 ∧ litVar x ≤ n) (he : ∀ v : Int, 1 ≤ v → v ≤ n → s v = t v) : holds s x = holds t x := by
  unfold holds
  rw [he (litVar x) (litVar_pos h.1).2.1 h.2]
theorem any_congr {s t : Int → Bool} {n : Int} {xs : List Int} (h : litsOk xs n) (he : ∀ v : Int, 1 ≤ v → v ≤ n → s v = t v) : anyL s xs = anyL t xs := by
  unfold anyL
  rw [Bool.eq_iff_iff, List.any_eq_true, List.any_eq_true]
  exact ⟨fun ⟨x, hx, k⟩ => ⟨x, hx, by rw [← holds_congr (h x hx) he]; exact k⟩, fun ⟨x, hx, k⟩ => ⟨x, hx, by rw [holds_congr (h x hx) he]; exact k⟩⟩
theorem all_congr {s t : Int → Bool} {n : Int} {xs : List Int} (h : litsOk xs n) (he : ∀ v : Int, 1 ≤ v → v ≤ n → s v = t v) : allL s xs = allL t xs := by
  unfold allL
  rw [Bool.eq_iff_iff, List.all_eq_true, List.all_eq_true]
  exact ⟨fun k x hx => by rw [← holds_congr (h x hx) he]; exact k x hx, fun k x hx => by rw [holds_congr (h x hx) he]; exact k x hx⟩
theorem ev_cong {N : Nat} {l : List Nd} (hok : netOk ⟨N, l⟩ = true) {s t : Int → Bool} (he : ∀ v : Int, 1 ≤ v → v ≤ N → s v = t v) : ev s ⟨N, l⟩ = ev t ⟨N, l⟩ :=
  ev_congr fun y hy hk => by
    obtain ⟨a, b⟩ := netOk_lits hok y hy hk
    exact he _ (litVar_pos a).2.1 b
theorem ent_ref {N : Nat} {l : List Nd} {xs : List Int} (hN : N ≤ 16) (h : chkR xs ⟨N, l⟩ = 0) : entRef N l xs = entR ⟨N, l⟩ xs := by
  obtain ⟨hok, _, _⟩ := chkR_ok h
  rw [Bool.eq_iff_iff, ent_iff h]
  unfold entRef
  rw [List.all_eq_true]
  constructor
  · intro hr s hs
    obtain ⟨k, h1, h2⟩ := nth_all hN s
    rw [← any_congr (chkR_lits h) h2]
    refine hr _ ?_
    unfold modUp; simp only [List.mem_map, List.mem_filter, List.mem_range]
    exact ⟨k, ⟨h1, by unfold modK; rw [ev_cong hok h2]; exact hs⟩, rfl⟩
  · intro hr s hs
    unfold modUp at hs; simp only [List.mem_map, List.mem_filter, List.mem_range] at hs
    obtain ⟨k, ⟨_, hm⟩, rfl⟩ := hs
    exact hr _ hm
theorem imp_ref {N : Nat} {l : List Nd} {xs : List Int} (hN : N ≤ 16) (hs : Small l) (h : chkR xs ⟨N, l⟩ = 0) : impRef N l xs = impR ⟨N, l⟩ xs := by
  obtain ⟨hok, _, _⟩ := chkR_ok h
  rw [Bool.eq_iff_iff, imp_iffL hs h]
  unfold impRef
  rw [List.all_eq_true]
  constructor
  · intro hr s ha
    obtain ⟨k, h1, h2⟩ := nth_all hN s
    have h3 := hr (nthL N k) (by unfold subL; simp only [List.mem_map, List.mem_range]; exact ⟨k, h1, rfl⟩)
    rw [all_congr (chkR_lits h) h2, ev_cong hok h2, ha] at h3
    simpa using h3
  · intro hr s hs
    unfold subL at hs; simp only [List.mem_map, List.mem_range] at hs
    obtain ⟨k, _, rfl⟩ := hs
    cases ha : allL (nthL N k).mem xs with
    | false => rfl
    | true => rw [hr _ ha]; rfl
/-- Further literals. -/
theorem chkR_left {xs ys : List Int} {t : Nt} (h : chkR (xs ++ ys) t = 0) : chkR xs t = 0 := by
  obtain ⟨h1, h2, h3⟩ := chkR_ok h
  rw [List.all_append, Bool.and_eq_true] at h2
  unfold chkR; rw [h1, h2.1, h3]; rfl
theorem chkR_nil {xs : List Int} {t : Nt} (h : chkR xs t = 0) : chkR [] t = 0 := chkR_left (xs := []) (ys := xs) h
theorem ent_more {n : Int} {l : List Nd} {xs ys : List Int} (h : chkR (xs ++ ys) ⟨n, l⟩ = 0) (he : entR ⟨n, l⟩ xs = true) : entR ⟨n, l⟩ (xs ++ ys) = true := by
  rw [ent_iff h]
  rw [ent_iff (chkR_left h)] at he
  intro s hs
  have := he s hs
  unfold anyL at *
  rw [List.any_append, this]; rfl
theorem imp_more {n : Int} {l : List Nd} {xs ys : List Int} (hs : Small l) (h : chkR (xs ++ ys) ⟨n, l⟩ = 0) (he : impR ⟨n, l⟩ xs = true) : impR ⟨n, l⟩ (xs ++ ys) = true := by
  rw [imp_iffL hs h]
  rw [imp_iffL hs (chkR_left h)] at he
  intro s ha
  refine he s ?_
  unfold allL at *
  rw [List.all_append, Bool.and_eq_true] at ha
  exact ha.1
theorem cons_iff {n : Int} {l : List Nd} (h : chkR [] ⟨n, l⟩ = 0) : consR ⟨n, l⟩ = true ↔ ∃ s, ev s ⟨n, l⟩ = true := by
  obtain ⟨hok, _, hd⟩ := chkR_ok h
  unfold consR
  rw [decide_eq_true h]
  simp only [Bool.true_and, decide_eq_true_eq]
  have hr := gvL_root hok hd (xs := []) (fun x hx => by simp at hx)
  have ho : ∀ s, ovr [] s = s := fun s => by funext v; simp [ovr]
  simp only [ho] at hr
  rw [show (rootK (gvL n [] l) ≠ 0 ↔ ¬ ∀ s, ev s ⟨n, l⟩ = false) from not_congr hr]
  constructor
  · intro hn
    apply Classical.byContradiction
    intro hc
    refine hn fun s => ?_
    cases he : ev s ⟨n, l⟩ with
    | false => rfl
    | true => exact absurd ⟨s, he⟩ hc
  · rintro ⟨s, hs⟩ hn
    rw [hn s] at hs; simp at hs
theorem ent_none {n : Int} {l : List Nd} (h : chkR [] ⟨n, l⟩ = 0) : entR ⟨n, l⟩ [] = !consR ⟨n, l⟩ := by
  rw [Bool.eq_iff_iff, ent_iff h, Bool.not_eq_true', ← Bool.not_eq_true, cons_iff h]
  constructor
  · rintro hr ⟨s, hs⟩
    have := hr s hs
    simp [anyL] at this
  · intro hn s hs
    exact absurd ⟨s, hs⟩ hn
end Go.Proofs.YtfdonhfhcomjaaaGreatDoor

/- Plain: what Counter and Same answer, said by assignments; that the reference answers the same. -/
namespace Go.Proofs.YtfdonhfhcomjaaaGreatDoor
open Cen
theorem lt_bits : ∀ (n j k : Nat), j < k → k < 2 ^ n → ∃ i, i < n ∧ j.testBit i = false ∧ k.testBit i = true ∧ ∀ i', i < i' → j.testBit i' = k.testBit i' := by
  intro n
  induction n with
  | zero => intro j k h1 h2; simp at h2; omega
  | succ n ih =>
    intro j k h1 h2
    have hp : 2 ^ (n + 1) = 2 ^ n + 2 ^ n := by rw [Nat.pow_succ]; omega
    by_cases hk : k < 2 ^ n
    · obtain ⟨i, a, b⟩ := ih j k h1 hk
      exact ⟨i, by omega, b⟩
    · by_cases hj : j < 2 ^ n
      · refine ⟨n, by omega, Nat.testBit_lt_two_pow hj, ?_, fun i' hi => ?_⟩
        · have e : k = 2 ^ n + (k - 2 ^ n) := by omega
          rw [e, Nat.testBit_two_pow_add_eq, Nat.testBit_lt_two_pow (by omega)]; rfl
        · have p : 2 ^ (n + 1) ≤ 2 ^ i' := Nat.pow_le_pow_right (by omega) (by omega)
          rw [Nat.testBit_lt_two_pow (Nat.lt_of_lt_of_le hj (by omega)), Nat.testBit_lt_two_pow (Nat.lt_of_lt_of_le h2 p)]
      · obtain ⟨i, a, b, c, d⟩ := ih (j - 2 ^ n) (k - 2 ^ n) (by omega) (by omega)
        have low : ∀ (x i' : Nat), ¬ x < 2 ^ n → i' < n → x.testBit i' = (x - 2 ^ n).testBit i' := by
          intro x i' hx hi
          have e : x = 2 ^ n + (x - 2 ^ n) := by omega
          have := Nat.testBit_two_pow_add_gt hi (x - 2 ^ n)
          rw [← e] at this; exact this
        refine ⟨i, by omega, by rw [low j i hj a]; exact b, by rw [low k i hk a]; exact c, fun i' hi => ?_⟩
        by_cases h3 : i' < n
        · rw [low j i' hj h3, low k i' hk h3]; exact d i' hi
        · by_cases h4 : i' = n
          · subst h4
            have e1 : j = 2 ^ i' + (j - 2 ^ i') := by omega
            have e2 : k = 2 ^ i' + (k - 2 ^ i') := by omega
            rw [e1, e2, Nat.testBit_two_pow_add_eq, Nat.testBit_two_pow_add_eq, Nat.testBit_lt_two_pow (by omega), Nat.testBit_lt_two_pow (by omega)]
          · have p : 2 ^ (n + 1) ≤ 2 ^ i' := Nat.pow_le_pow_right (by omega) (by omega)
            rw [Nat.testBit_lt_two_pow (by omega), Nat.testBit_lt_two_pow (by omega)]
theorem nth_lex {N j k : Nat} (hN : N ≤ 16) (h : j < k) (hk : k < 2 ^ N) : lexLt 1 N (nthL N j).mem (nthL N k).mem := by
  obtain ⟨i, a, b, c, d⟩ := lt_bits N j k h hk
  refine ⟨((N - i : Nat) : Int), by omega, by omega, fun u h1 h2 => ?_, ?_, ?_⟩
  · rw [nth_mem hN h1 (by omega), nth_mem hN h1 (by omega)]
    exact d _ (by omega)
  · rw [nth_mem hN (by omega) (by omega), show N - ((N - i : Nat) : Int).toNat = i by omega]; exact b
  · rw [nth_mem hN (by omega) (by omega), show N - ((N - i : Nat) : Int).toNat = i by omega]; exact c
theorem nth_out {N k : Nat} (_hN : N ≤ 16) {v : Int} (h2 : (N : Int) < v) : (nthL N k).mem v = false := by
  unfold St.mem nthL
  by_cases h : 1 ≤ v ∧ v ≤ 64
  · rw [if_pos h, nthA_bit, decide_eq_false (by omega)]; rfl
  · rw [if_neg h]; split
    · exact Nat.zero_testBit _
    · rfl
def hit (N : Nat) (a b : List Nd) (s : St) : Bool := ev s.mem ⟨N, a⟩ && !ev s.mem ⟨N, b⟩
def cntRef (N : Nat) (a b : List Nd) : Option St := (subL N).find? (hit N a b)
theorem hit_cex {N : Nat} {a b : List Nd} {s : St} : hit N a b s = true ↔ cex N a b s.mem := by
  unfold hit cex; simp
theorem cex_congr {N : Nat} {a b : List Nd} (ha : netOk ⟨N, a⟩ = true) (hb : netOk ⟨N, b⟩ = true) {s t : Int → Bool} (he : ∀ v : Int, 1 ≤ v → v ≤ N → s v = t v) : cex N a b s ↔ cex N a b t := by
  unfold cex; rw [ev_cong ha he, ev_cong hb he]
/-- The set that is found, of the variables that are found. -/
theorem found_bd {N : Nat} {a b : List Nd} {m : List Int} (h : Least N 1 a b m) (hn : N ≤ 128) (v : Int) (h1 : 1 ≤ v) : (foundOf St.zero (some m)).mem v = memL m v := by
  rw [foundOf_mem, St.mem_zero, decide_eq_true h1]
  unfold memL
  cases hc : m.contains v with
  | false => rfl
  | true =>
    have := h.bd v (by simpa using hc)
    rw [decide_eq_true (by omega)]; rfl
theorem cnt_ref {N : Nat} {a b : List Nd} (hN : N ≤ 16) (sa : Small a) (sb : Small b) (h : chk2 ⟨N, a⟩ ⟨N, b⟩ = 0) : cntRef N a b = (cntR ⟨N, a⟩ ⟨N, b⟩).map fun m => foundOf St.zero (some m) := by
  obtain ⟨ha, hb, _, _, _⟩ := chk2_ok h
  obtain ⟨h1, h2⟩ := cntL_spec ha hb sa sb
  unfold cntR cntRef
  rw [if_pos h]
  simp only
  cases hc : cntL N a b with
  | none =>
    rw [Option.map_none, List.find?_eq_none]
    intro s _ hs
    exact h1 hc s.mem (hit_cex.1 hs)
  | some m =>
    have hL := h2 m hc
    obtain ⟨j, hj, hm⟩ := nth_all hN (memL m)
    have e : foundOf St.zero (some m) = nthL N j := by
      apply St.ext (foundOf_ok St.zero_ok _) (nthL_ok hN j)
      intro v hv1 hv2
      rw [found_bd hL (by omega) v hv1]
      by_cases hv : v ≤ N
      · exact (hm v hv1 hv).symm
      · rw [nth_out hN (by omega), Bool.eq_false_iff]
        intro hx
        have := hL.bd v (by simpa [memL] using hx)
        omega
    rw [Option.map_some, e]
    unfold subL
    rw [List.find?_map]
    have : (List.range (2 ^ N)).find? (hit N a b ∘ nthL N) = some j := by
      rw [List.find?_range_eq_some]
      refine ⟨?_, List.mem_range.2 hj, fun i hi => ?_⟩
      · show hit N a b (nthL N j) = true
        rw [hit_cex, cex_congr ha hb hm]; exact hL.is
      · show (!hit N a b (nthL N i)) = true
        cases hh : hit N a b (nthL N i) with
        | false => rfl
        | true =>
          exfalso
          have hx := hL.least _ (hit_cex.1 hh)
          obtain ⟨u, p, q, r, s, t⟩ := nth_lex hN hi hj
          exact hx ⟨u, p, q, fun v hv1 hv2 => by rw [r v hv1 hv2]; exact hm v hv1 (by omega), s, by rw [← hm u p q]; exact t⟩
    rw [this]; rfl
theorem same_ref {N : Nat} {a b : List Nd} (hN : N ≤ 16) (sa : Small a) (sb : Small b) (h : chk2 ⟨N, a⟩ ⟨N, b⟩ = 0) (h' : chk2 ⟨N, b⟩ ⟨N, a⟩ = 0) : sameR ⟨N, a⟩ ⟨N, b⟩ = (!(cntRef N a b).isSome && !(cntRef N b a).isSome) := by
  rw [cnt_ref hN sa sb h, cnt_ref hN sb sa h']
  unfold sameR cntR
  rw [decide_eq_true h, if_pos h, if_pos h']
  simp only
  cases cntL N a b <;> cases cntL N b a <;> rfl
theorem chk2_symm {s t : Nt} (h : chk2 s t = 0) : chk2 t s = 0 := by
  obtain ⟨a, b, c, d, e⟩ := chk2_ok h
  unfold chk2; rw [a, b, d, e, c]; simp
theorem chk2_self {t u : Nt} (h : chk2 t u = 0) : chk2 t t = 0 := by
  obtain ⟨a, b, c, d, e⟩ := chk2_ok h
  unfold chk2; rw [a, d]; simp
theorem chk2_one {t u : Nt} (h : chk2 t u = 0) : chkR [] t = 0 := by
  obtain ⟨a, b, c, d, e⟩ := chk2_ok h
  unfold chkR; rw [a, d]; simp
theorem flat_dec (k : Int) : decL [⟨k, 0, []⟩] = true := by
  unfold decL
  simp only [List.all_cons, List.all_nil, Bool.and_true]
  unfold ndSep
  simp [sepF]
theorem chk2_flat {n : Int} {l : List Nd} {u : Nt} (h : chk2 ⟨n, l⟩ u = 0) (k : Int) (hk : k = 0 ∨ k = 1) : chk2 ⟨n, l⟩ ⟨n, [⟨k, 0, []⟩]⟩ = 0 ∧ chk2 ⟨n, [⟨k, 0, []⟩]⟩ ⟨n, l⟩ = 0 := by
  obtain ⟨a, b, c, d, e⟩ := chk2_ok h
  obtain ⟨hn0, hn1, _, _⟩ := netOk_head a
  have h1 : chk2 ⟨n, l⟩ ⟨n, [⟨k, 0, []⟩]⟩ = 0 := by
    simp only at d
    unfold chk2; rw [a, true_ok hn0 hn1 k hk]; simp [d, flat_dec]
  exact ⟨h1, chk2_symm h1⟩
theorem ev_false (s : Int → Bool) (n : Int) : ev s ⟨n, [⟨0, 0, []⟩]⟩ = false := by simp [ev, truth, evs, evNd]
theorem cnt_some_iff {n : Int} {a b : List Nd} (sa : Small a) (sb : Small b) (h : chk2 ⟨n, a⟩ ⟨n, b⟩ = 0) : (cntR ⟨n, a⟩ ⟨n, b⟩).isSome = true ↔ ∃ s, cex n a b s := by
  obtain ⟨ha, hb, _, _, _⟩ := chk2_ok h
  obtain ⟨h1, h2⟩ := cntL_spec ha hb sa sb
  unfold cntR
  rw [if_pos h]
  simp only
  cases hc : cntL n a b with
  | none => simp only [Option.isSome_none, Bool.false_eq_true, false_iff]; rintro ⟨s, hs⟩; exact h1 hc s hs
  | some m => simp only [Option.isSome_some, true_iff]; exact ⟨_, (h2 m hc).is⟩
theorem same_sides {s t : Nt} (h : chk2 s t = 0) (h' : chk2 t s = 0) : sameR s t = (!(cntR s t).isSome && !(cntR t s).isSome) := by
  have hn : s.n = t.n := (chk2_ok h).2.2.1
  unfold sameR cntR
  rw [decide_eq_true h, if_pos h, if_pos h', hn]
  cases cntL t.n s.l t.l <;> cases cntL t.n t.l s.l <;> rfl
theorem same_back {s t : Nt} (h : chk2 s t = 0) : sameR t s = sameR s t := by
  rw [same_sides h (chk2_symm h), same_sides (chk2_symm h) h, Bool.and_comm]
theorem same_self {n : Int} {l : List Nd} (sl : Small l) (h : chk2 ⟨n, l⟩ ⟨n, l⟩ = 0) : sameR ⟨n, l⟩ ⟨n, l⟩ = true := by
  rw [same_sides h h]
  cases hc : (cntR ⟨n, l⟩ ⟨n, l⟩).isSome with
  | false => rfl
  | true =>
    obtain ⟨s, h1, h2⟩ := (cnt_some_iff sl sl h).1 hc
    rw [h1] at h2; simp at h2
theorem cons_side {n : Int} {l : List Nd} {u : Nt} (sl : Small l) (h : chk2 ⟨n, l⟩ u = 0) : consR ⟨n, l⟩ = (cntR ⟨n, l⟩ ⟨n, [⟨0, 0, []⟩]⟩).isSome := by
  rw [Bool.eq_iff_iff, cons_iff (chk2_one h), cnt_some_iff sl (true_small 0) (chk2_flat h 0 (.inl rfl)).1]
  exact ⟨fun ⟨s, hs⟩ => ⟨s, hs, ev_false _ _⟩, fun ⟨s, hs, _⟩ => ⟨s, hs⟩⟩
theorem imp_side {n : Int} {l : List Nd} {u : Nt} (sl : Small l) (h : chk2 ⟨n, l⟩ u = 0) : impR ⟨n, l⟩ [] = !(cntR ⟨n, [⟨1, 0, []⟩]⟩ ⟨n, l⟩).isSome := by
  rw [Bool.eq_iff_iff, imp_iffL sl (chk2_one h), Bool.not_eq_true', ← Bool.not_eq_true, cnt_some_iff (true_small 1) sl (chk2_flat h 1 (.inr rfl)).2]
  constructor
  · rintro hr ⟨s, _, hs⟩
    rw [hr s rfl] at hs; simp at hs
  · intro hn s _
    cases he : ev s ⟨n, l⟩ with
    | true => rfl
    | false => exact absurd ⟨s, ev_true _ _, he⟩ hn
end Go.Proofs.YtfdonhfhcomjaaaGreatDoor
