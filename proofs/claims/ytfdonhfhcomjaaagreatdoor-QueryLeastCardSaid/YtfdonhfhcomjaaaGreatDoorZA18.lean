/- Part 18 of 26 of the proof that censuslaw38.QueryFacts returns true for every input, where the tables that the row lists are laid. Texts: Sat, R04, R20, BoolL. -/
import Derived.Test.YtfdonhfhcomjaaaGreatDoorZA14
import Derived.Test.YtfdonhfhcomjaaaGreatDoorZA2
import Derived.Test.YtfdonhfhcomjaaaGreatDoorZA4
import Derived.Outline
import Derived.StillTailTactics
import Derived.Test.YtfdonhfhcomjaaaGreatDoorZA3

/- Plain: a decomposable net that is not reduced to False has a model. -/
namespace Cen
theorem insU_mem (vs : List St) (v : Int) (ins : List Int) : ∀ s : St, (insU vs s ins).mem v = (s.mem v || ins.any fun k => (vs.getD k.toNat St.zero).mem v) := by
  induction ins with
  | nil => intro s; simp [insU]
  | cons k ins ih =>
    intro s
    have e : insU vs s (k :: ins) = insU vs (s.union (vs.getD k.toNat St.zero)) ins := rfl
    rw [e, ih, St.mem_union, List.any_cons, Bool.or_assoc]
/-- The variables below node i. -/
def vm (l : List Nd) (i : Int) : St := (varsL l).getD i.toNat St.zero
theorem varsAcc_prefix (l : List Nd) : ∀ vs : List St, ∃ us, varsAcc l vs = vs ++ us := by
  induction l with
  | nil => intro vs; exact ⟨[], by simp [varsAcc]⟩
  | cons x l ih =>
    intro vs
    obtain ⟨us, h⟩ := ih (vs ++ [insU vs (ofL [litVar x.lit]) x.ins])
    exact ⟨insU vs (ofL [litVar x.lit]) x.ins :: us, by simp [varsAcc, h]⟩
theorem vm_append (l r : List Nd) (i : Int) (h : i < l.length) (h0 : 0 ≤ i) : vm (l ++ r) i = vm l i := by
  obtain ⟨us, hu⟩ := varsAcc_prefix r (varsL l)
  unfold vm
  have e : varsL (l ++ r) = varsL l ++ us := by rw [← hu]; exact varsAcc_append l r []
  rw [e]
  have : i.toNat < (varsL l).length := by rw [varsL_length]; omega
  simp only [List.getD_eq_getElem?_getD, List.getElem?_append_left this]
theorem vm_snoc (l : List Nd) (x : Nd) : vm (l ++ [x]) l.length = insU (varsL l) (ofL [litVar x.lit]) x.ins := by
  unfold vm
  rw [varsL_snoc]
  have := varsL_length l
  simp only [List.getD_eq_getElem?_getD]
  rw [List.getElem?_append_right (by omega)]
  simp [this]
theorem vm_mem {l : List Nd} {n : Int} (hL : ndsOk l n l.length) {i : Int} (h0 : 0 ≤ i) (h1 : i < l.length) (v : Int) :
    (vm l i).mem v = ((ofL [litVar (nd l i).lit]).mem v || (nd l i).ins.any fun k => (vm l k).mem v) := by
  have hi : i.toNat < l.length := by omega
  have e1 : l = l.take i.toNat ++ [l[i.toNat]] ++ l.drop (i.toNat + 1) := by
    rw [List.append_assoc]; simp
  have e2 : nd l i = l[i.toNat] := nd_get h0 h1
  have hlen : (l.take i.toNat).length = i.toNat := by simp; omega
  have h2 : vm l i = vm (l.take i.toNat ++ [l[i.toNat]]) i := by
    conv => lhs; rw [e1]
    exact vm_append _ _ i (by simp; omega) h0
  have h3 : vm (l.take i.toNat ++ [l[i.toNat]]) i = insU (varsL (l.take i.toNat)) (ofL [litVar l[i.toNat].lit]) l[i.toNat].ins := by
    have := vm_snoc (l.take i.toNat) l[i.toNat]
    rw [hlen, show ((i.toNat : Nat) : Int) = i by omega] at this; exact this
  rw [h2, h3, insU_mem, e2]
  congr 1
  have hins := ndOk_ins (nd_ok hL h0 h1)
  rw [e2] at hins
  rw [Bool.eq_iff_iff, List.any_eq_true, List.any_eq_true]
  have key : ∀ k ∈ l[i.toNat].ins, vm l k = (varsL (l.take i.toNat)).getD k.toNat St.zero := fun k hk => by
    obtain ⟨a, b⟩ := hins k hk
    have : vm (l.take i.toNat ++ l.drop i.toNat) k = vm (l.take i.toNat) k := vm_append _ _ k (by rw [hlen]; omega) a
    rw [List.take_append_drop] at this
    exact this
  exact ⟨fun ⟨k, hk, h⟩ => ⟨k, hk, by rw [key k hk]; exact h⟩, fun ⟨k, hk, h⟩ => ⟨k, hk, by rw [← key k hk]; exact h⟩⟩
theorem ofL_mem (x v : Int) : (ofL [x]).mem v = (decide (v = x) && decide (1 ≤ x) && decide (x ≤ 128)) := by
  show (St.zero.add x).mem v = _
  rw [St.mem_add, St.mem_zero]; simp
/-- The truth of a node hangs on its variables alone. -/
theorem T_vars {l : List Nd} {n : Int} (hL : ndsOk l n l.length) {s s' : Int → Bool} : ∀ (k : Nat) (i : Int), i.toNat = k → 0 ≤ i → i < l.length → (∀ v, (vm l i).mem v = true → s v = s' v) → T s l i = T s' l i := by
  intro k
  induction k using Nat.strongRecOn with
  | _ k ih =>
    intro i hk h0 h1 h
    have hins := ndOk_ins (nd_ok hL h0 h1)
    rw [T_nd s hL h0 h1, T_nd s' hL h0 h1]
    have h3 : evNd s (T s l) (nd l i) = evNd s (T s' l) (nd l i) := by
      apply evNd_congr
      intro j hj
      obtain ⟨a, b⟩ := hins j hj
      refine ih j.toNat (by omega) j rfl a (by omega) fun v hv => h v ?_
      rw [vm_mem hL h0 h1, Bool.or_eq_true]
      exact .inr (List.any_eq_true.2 ⟨j, hj, hv⟩)
    rw [h3]
    unfold evNd
    by_cases h2 : (nd l i).kind = 2
    · have h1k : ¬ (nd l i).kind = 1 := by omega
      rw [if_neg h1k, if_neg h1k, if_pos h2, if_pos h2]
      have hv := (ndOk_lit (nd_ok hL h0 h1) h2).1
      have hp := litVar_pos' hv
      unfold holds
      rw [h (litVar (nd l i).lit) (by rw [vm_mem hL h0 h1, ofL_mem]; simp; left; omega)]
    · rw [if_neg h2, if_neg h2]
where
  litVar_pos' {l : Int} (h : litVar l ≠ 0) : 1 ≤ litVar l ∧ litVar l ≤ 128 := by rcases litVar_ne h with h | h <;> omega
theorem sepF_mono {vs ws : List St} (h : ∀ k v, (ws.getD k St.zero).mem v = true → (vs.getD k St.zero).mem v = true) (hv : ∀ k, (vs.getD k St.zero).ok) (hw : ∀ k, (ws.getD k St.zero).ok) (ins : List Int) :
    ∀ s t : St, s.ok → t.ok → (∀ v, t.mem v = true → s.mem v = true) → sepF vs s ins = true → sepF ws t ins = true := by
  induction ins with
  | nil => intro s t _ _ _ _; rfl
  | cons k ins ih =>
    intro s t hs ht hst hsep
    rw [sepF] at hsep ⊢
    split at hsep
    · rename_i hz
      have h2 : t.cut (ws.getD k.toNat St.zero) = St.zero := by
        apply St.ext (St.cut_ok ht) St.zero_ok
        intro v _ _
        rw [St.mem_zero, St.mem_cut, Bool.eq_false_iff]
        intro hc
        rw [Bool.and_eq_true] at hc
        have : (s.cut (vs.getD k.toNat St.zero)).mem v = true := by rw [St.mem_cut, hst v hc.1, h _ v hc.2]; rfl
        rw [hz, St.mem_zero] at this; simp at this
      rw [if_pos h2]
      refine ih _ _ (St.union_ok hs (hv _)) (St.union_ok ht (hw _)) ?_ hsep
      intro v hm
      rw [St.mem_union, Bool.or_eq_true] at hm ⊢
      rcases hm with hm | hm
      · exact .inl (hst v hm)
      · exact .inr (h _ v hm)
    · simp at hsep
theorem varsL_getD_ok (l : List Nd) (k : Nat) : ((varsL l).getD k St.zero).ok := by
  by_cases hk : k < (varsL l).length
  · simp only [List.getD_eq_getElem?_getD, List.getElem?_eq_getElem hk]; exact varsL_ok l _ (List.getElem_mem hk)
  · simp only [List.getD_eq_getElem?_getD, List.getElem?_eq_none (Nat.le_of_not_lt hk)]; exact St.zero_ok
theorem nd_map {xs : List Int} {l : List Nd} {i : Int} (h0 : 0 ≤ i) (h1 : i < l.length) : nd (l.map (gvNd xs)) i = gvNd xs (nd l i) := by
  rw [nd_get h0 (by simpa using h1), nd_get h0 h1]; simp
theorem gvNd_ins (xs : List Int) (x : Nd) : gvNd xs x = x ∨ ((gvNd xs x).ins = [] ∧ (gvNd xs x).lit = 0 ∧ (gvNd xs x).kind ≠ 3) := by
  unfold gvNd; split
  · right; simp
  · split
    · right; simp
    · left; rfl
theorem vm_gv {n : Int} {xs : List Int} {l : List Nd} (h : netOk ⟨n, l⟩ = true) (v : Int) : ∀ (k : Nat) (i : Int), i.toNat = k → 0 ≤ i → i < l.length → (vm (l.map (gvNd xs)) i).mem v = true → (vm l i).mem v = true := by
  have hL : ndsOk l n l.length := by simp [netOk] at h; exact h.2
  have h' := gvL_ok (xs := xs) h
  have hL' : ndsOk (l.map (gvNd xs)) n (l.map (gvNd xs)).length := by simp only [netOk, Bool.and_eq_true, decide_eq_true_eq] at h'; exact h'.2
  intro k
  induction k using Nat.strongRecOn with
  | _ k ih =>
    intro i hk h0 h1 hm
    have hins := ndOk_ins (nd_ok hL h0 h1)
    rw [vm_mem hL' h0 (by simpa using h1), nd_map h0 h1, Bool.or_eq_true] at hm
    rw [vm_mem hL h0 h1, Bool.or_eq_true]
    rcases gvNd_ins xs (nd l i) with e | ⟨e1, e2, _⟩
    · rw [e] at hm
      rcases hm with hm | hm
      · exact .inl hm
      · right
        rw [List.any_eq_true] at hm ⊢
        obtain ⟨j, hj, hm⟩ := hm
        obtain ⟨a, b⟩ := hins j hj
        exact ⟨j, hj, ih j.toNat (by omega) j rfl a (by omega) hm⟩
    · rw [e1, e2, ofL_mem] at hm
      simp [litVar] at hm
theorem decL_gv {n : Int} {xs : List Int} {l : List Nd} (h : netOk ⟨n, l⟩ = true) (hd : decL l = true) : decL (l.map (gvNd xs)) = true := by
  have hL : ndsOk l n l.length := by simp [netOk] at h; exact h.2
  rw [decL, List.all_eq_true] at hd ⊢
  intro y hy
  rw [List.mem_map] at hy
  obtain ⟨x, hx, rfl⟩ := hy
  have h1 := hd x hx
  rcases gvNd_ins xs x with e | ⟨e1, e2, e3⟩
  · rw [e]
    simp only [ndSep, Bool.or_eq_true] at h1 ⊢
    rcases h1 with h1 | h1
    · exact .inl h1
    · right
      obtain ⟨j, hj, hxe⟩ := List.getElem_of_mem hx
      refine sepF_mono ?_ (varsL_getD_ok l) (varsL_getD_ok _) x.ins St.zero St.zero St.zero_ok St.zero_ok (fun _ h => h) h1
      intro k v hm
      by_cases hk : k < l.length
      · have := vm_gv (xs := xs) h v k (k : Int) (by omega) (by omega) (by omega)
        unfold vm at this
        rw [show ((k : Nat) : Int).toNat = k by omega] at this
        exact this hm
      · have : (varsL (l.map (gvNd xs))).getD k St.zero = St.zero := by
          simp only [List.getD_eq_getElem?_getD]
          rw [List.getElem?_eq_none (by rw [varsL_length]; simp; omega)]; rfl
        rw [this, St.mem_zero] at hm; simp at hm
  · unfold ndSep; simp [e3]
/-- Assignments for the inputs of a decomposable And go together. -/
theorem sep_join {l : List Nd} {n : Int} (hL : ndsOk l n l.length) (ins : List Int) :
    ∀ (S : St) (s0 : Int → Bool), S.ok → sepF (varsL l) S ins = true → (∀ i ∈ ins, 0 ≤ i ∧ i < (l.length : Int)) → (∀ i ∈ ins, ∃ s, T s l i = true) →
      ∃ s, (∀ v, S.mem v = true → s v = s0 v) ∧ ∀ i ∈ ins, T s l i = true := by
  induction ins with
  | nil => intro S s0 _ _ _ _; exact ⟨s0, fun _ _ => rfl, by simp⟩
  | cons k ins ih =>
    intro S s0 hS hsep hb hsat
    rw [sepF] at hsep
    split at hsep
    · rename_i hz
      obtain ⟨sk, hsk⟩ := hsat k (by simp)
      obtain ⟨hk0, hk1⟩ := hb k (by simp)
      have hvk : (varsL l).getD k.toNat St.zero = vm l k := rfl
      rw [hvk] at hz hsep
      obtain ⟨s, h1, h2⟩ := ih (S.union (vm l k)) (fun v => if (vm l k).mem v then sk v else s0 v) (St.union_ok hS (varsL_getD_ok l _)) hsep (fun i hi => hb i (by simp [hi])) (fun i hi => hsat i (by simp [hi]))
      refine ⟨s, fun v hv => ?_, fun i hi => ?_⟩
      · rw [h1 v (by rw [St.mem_union, hv]; rfl)]
        have : (vm l k).mem v = false := by
          cases hc : (vm l k).mem v with
          | false => rfl
          | true =>
            have : (S.cut (vm l k)).mem v = true := by rw [St.mem_cut, hv, hc]; rfl
            rw [hz, St.mem_zero] at this; simp at this
        rw [if_neg (by rw [this]; simp)]
      · rcases List.mem_cons.1 hi with e | hi
        · subst e
          rw [← hsk]
          refine T_vars hL i.toNat i rfl hk0 hk1 fun v hv => ?_
          rw [h1 v (by rw [St.mem_union, hv]; simp), if_pos hv]
        · exact h2 i hi
    · simp at hsep
/-- A decomposable net that is not reduced to False has a model. -/
theorem redL_sat {n : Int} {l : List Nd} (h : netOk ⟨n, l⟩ = true) (hd : decL l = true) (h0 : rootK (redL n l) ≠ 0) : ∃ s, ev s ⟨n, l⟩ = true := by
  obtain ⟨hn0, hn1, h1, h2⟩ := netOk_head h
  have hL : ndsOk l n l.length := by simp [netOk] at h; exact h.2
  simp only at h1 h2
  rw [redL_rootK h] at h0
  have key := redSt_images h2 hL (fun j c => c ≠ 0 → ∃ s, T s l j = true) (by
    intro k hk L ats hlt hok hro hq hne
    have e : nd l (k : Int) = l[k] := by rw [nd_get (by omega) (by omega)]; simp
    have hx : ndOk l[k] n k = true := by have := hL k hk; simpa [List.getD_eq_getElem?_getD, hk] using this
    have hxi := ndOk_ins hx
    obtain ⟨a1, a2, a3⟩ := addL_ne hlt hok hro hne
    have a1 : l[k].kind ≠ 0 := a1
    have hT : ∀ s, T s l (k : Int) = evNd s (T s l) l[k] := fun s => by rw [T_nd s hL (by omega) (by omega), e]
    have himg : ∀ i ∈ l[k].ins, (nd L (ats.getD i.toNat 0)).kind ≠ 0 → ∃ s, T s l i = true := fun i hi hne => by
      obtain ⟨b1, b2⟩ := hxi i hi
      have := hq i.toNat (by omega) hne
      rw [show ((i.toNat : Nat) : Int) = i by omega] at this; exact this
    rcases formOk_kind hx with hk0 | hk1 | hk2 | hk3 | hk4
    · exact absurd hk0 a1
    · exact ⟨fun _ => true, by rw [hT]; unfold evNd; rw [if_pos hk1]⟩
    · have hv := (ndOk_lit hx hk2).1
      refine ⟨fun _ => decide (0 < l[k].lit), ?_⟩
      rw [hT]; unfold evNd; rw [if_neg (by omega), if_pos hk2]
      unfold holds; rw [decide_eq_true hv]; simp
    · have hsep : sepF (varsL l) St.zero l[k].ins = true := by
        rw [decL, List.all_eq_true] at hd
        have := hd _ (List.getElem_mem hk)
        simp only [ndSep, Bool.or_eq_true, decide_eq_true_eq] at this
        rcases this with h | h
        · exact absurd hk3 h
        · exact h
      obtain ⟨s, _, h4⟩ := sep_join hL l[k].ins St.zero (fun _ => false) St.zero_ok hsep (fun i hi => by have := hxi i hi; omega) (fun i hi => by
        refine himg i hi (a2 hk3 _ ?_)
        simp only [renum, List.mem_map]
        exact ⟨i, hi, rfl⟩)
      refine ⟨s, ?_⟩
      rw [hT]; unfold evNd; rw [if_neg (by omega), if_neg (by omega), if_pos hk3, List.all_eq_true]; exact h4
    · obtain ⟨i, hi, hne2⟩ := a3 hk4
      simp only [renum, List.mem_map] at hi
      obtain ⟨j, hj, rfl⟩ := hi
      obtain ⟨s, hs⟩ := himg j hj hne2
      refine ⟨s, ?_⟩
      rw [hT]; unfold evNd; rw [if_neg (by omega), if_neg (by omega), if_neg (by omega), if_pos hk4, List.any_eq_true]; exact ⟨j, hj, hs⟩)
    l.length (Nat.le_refl _) (l.length - 1) (by omega) h0
  obtain ⟨s, hs⟩ := key
  exact ⟨s, by rw [ev_eq s _ h1]; exact hs⟩
/-- Of a decomposable net, given literals: reduced to False, or there is a model. -/
theorem gvL_root {n : Int} {xs : List Int} {l : List Nd} (h : netOk ⟨n, l⟩ = true) (hd : decL l = true) (hc : noClash xs) : rootK (gvL n xs l) = 0 ↔ ∀ s, ev (ovr xs s) ⟨n, l⟩ = false := by
  have h2 := gvL_ok (xs := xs) h
  constructor
  · intro h0 s
    rw [← gvL_ev h hc s]
    exact ev_root0 (redL_T h2).1 h0
  · intro hall
    apply Classical.byContradiction
    intro hne
    obtain ⟨s, hs⟩ := redL_sat h2 (decL_gv h hd) hne
    have := hall s
    rw [← gvL_ev h hc s] at this
    unfold gvL at this
    rw [(redL_T h2).2.2 s, hs] at this; simp at this
end Cen

/- The walks of the references' functions on literals and sets. -/
namespace Go.Proofs.YtfdonhfhcomjaaaGreatDoor
open Go.RowKit Cen
set_option maxHeartbeats 1000000
set_option maxRecDepth 100000

theorem rVar_any (l : Int) (w : World) : Calls Tryz.prog 102 #[.int .i64 l] w fun e w' => e = .returned (.int .i64 (litVar l)) ∧ w = w' := by
  by_cases h1 : 1 ≤ l ∧ l ≤ 128
  · obtain ⟨a, b⟩ := h1
    have d1 : decide (1 ≤ l) = true := by simpa using a
    have d2 : decide (l ≤ 128) = true := by simpa using b
    go_enter Tryz.func102, Tryz.ntmps102
    go_wp2
    go_ret
    exact ⟨ret_int (by unfold litVar; rw [if_pos ⟨a, b⟩]), rfl⟩
  · by_cases h2 : l ≤ -1 ∧ -128 ≤ l
    · obtain ⟨a, b⟩ := h2
      have d1 : decide (1 ≤ l) = false := by simp; omega
      have d2 : decide (-128 ≤ l) = true := by simpa using b
      have d3 : decide (l ≤ -1) = true := by simpa using a
      clear h1
      go_enter Tryz.func102, Tryz.ntmps102
      go_wp2
      go_ret
      exact ⟨ret_int (by unfold litVar; rw [if_neg (by omega), if_pos ⟨a, b⟩]), rfl⟩
    · have HR : Hid (litVar l = 0) := by show _ = _; unfold litVar; rw [if_neg h1, if_neg h2]
      by_cases c1 : 1 ≤ l
      · have d1 : decide (1 ≤ l) = true := by simpa using c1
        have d2 : decide (l ≤ 128) = false := by simp; omega
        have d3 : decide (-128 ≤ l) = true := by simp; omega
        have d4 : decide (l ≤ -1) = false := by simp; omega
        clear h1 h2
        go_enter Tryz.func102, Tryz.ntmps102
        go_wp2
        go_ret
        exact ⟨ret_int HR.out.symm, rfl⟩
      · have d1 : decide (1 ≤ l) = false := by simpa using c1
        by_cases c2 : -128 ≤ l
        · have d3 : decide (-128 ≤ l) = true := by simpa using c2
          have d4 : decide (l ≤ -1) = false := by simp; omega
          clear h1 h2
          go_enter Tryz.func102, Tryz.ntmps102
          go_wp2
          go_ret
          exact ⟨ret_int HR.out.symm, rfl⟩
        · have d3 : decide (-128 ≤ l) = false := by simpa using c2
          clear h1 h2
          go_enter Tryz.func102, Tryz.ntmps102
          go_wp2
          go_ret
          exact ⟨ret_int HR.out.symm, rfl⟩
theorem rLitValid_any (l n : Int) (w : World) : Calls Tryz.prog 49 #[.int .i64 l, .int .i64 n] w fun e w' => e = .returned (.bool (litOk l n)) ∧ w = w' := by
  have hb := litVar_bd l
  by_cases h0 : litVar l = 0
  · have h1 : decide (0 < litVar l) = false := by simp [h0]
    have hr : litOk l n = false := by simp [litOk, h0]
    rw [hr]; clear hr h0
    go_enter Tryz.func49, Tryz.ntmps49
    go_wp2_with (go_at_call 102; refine (rVar_any _ _).mono ?_; rintro e w' ⟨rfl, rfl⟩)
    go_ret; exact ⟨rfl, rfl⟩
  · have h1 : decide (0 < litVar l) = true := by simp; omega
    have hr : litOk l n = decide (litVar l ≤ n) := by simp [litOk, h0]
    rw [hr]; clear hr h0
    go_enter Tryz.func49, Tryz.ntmps49
    go_wp2_with (go_at_call 102; refine (rVar_any _ _).mono ?_; rintro e w' ⟨rfl, rfl⟩)
    go_ret; exact ⟨rfl, rfl⟩
theorem tbit (x k : Nat) : (((x : Int) / 2 ^ k).tmod 2 == 1) = x.testBit k := by
  have e : (x : Int) / 2 ^ k = ((x / 2 ^ k : Nat) : Int) := by simp
  rw [e, Int.tmod_eq_emod_of_nonneg (Int.natCast_nonneg _), Nat.testBit_eq_decide_div_mod_eq, Bool.eq_iff_iff]
  simp only [beq_iff_eq, decide_eq_true_eq]; omega
theorem mem_lo (s : St) {v : Int} (h1 : 1 ≤ v) (h2 : v ≤ 64) : (((s.a : Int) / 2 ^ (v.toNat - 1)).tmod 2 == 1) = s.mem v := by
  rw [tbit]; unfold St.mem; rw [if_pos ⟨h1, h2⟩]; congr 1; omega
theorem mem_hi (s : St) {v : Int} (h1 : 65 ≤ v) (h2 : v ≤ 128) (k : Nat) (hk : (k : Int) = v - 65) : (((s.b : Int) / 2 ^ k).tmod 2 == 1) = s.mem v := by
  rw [tbit]; unfold St.mem; rw [if_neg (by omega), if_pos ⟨h1, h2⟩]; congr 1; omega
theorem in_any (s : St) (v : Int) (w : World) (h : 1 ≤ v ∧ v ≤ 128) (_hs : s.ok) : Calls Tryz.prog 161 #[stv s, .int .i64 v] w fun e w' => e = .returned (.bool (s.mem v)) ∧ Below w.heap.size w w' := by
  obtain ⟨h1, h2⟩ := h
  by_cases hv : v ≤ 64
  · have e1 : (v - 1) / 64 = 0 := by omega
    have e2 : (v - 1) % 64 = v - 1 := by omega
    go_enter Tryz.func161, Tryz.ntmps161
    go_wp2
    go_ret
    exact ⟨ret_bool (mem_lo s h1 hv), (Below.refl _ _).alloc (Nat.le_refl _) _⟩
  · have e1 : (v - 1) / 64 = 1 := by omega
    have e2 : (v - 1) % 64 = v - 65 := by omega
    have hv2 : 65 ≤ v := by omega
    go_enter Tryz.func161, Tryz.ntmps161
    go_wp2
    go_ret
    exact ⟨ret_bool (mem_hi s hv2 h2 _ (by omega)), (Below.refl _ _).alloc (Nat.le_refl _) _⟩
theorem rHolds_any (s : St) (l : Int) (w : World) (hs : s.ok) : Calls Tryz.prog 109 #[stv s, .int .i64 l] w fun e w' => e = .returned (.bool (holds s.mem l)) ∧ Below w.heap.size w w' := by
  have hb := litVar_bd l
  have HB0 : Hid (Below w.heap.size w (w.alloc (.cells #[.int .u64 (s.a : Int), .int .u64 (s.b : Int)] 38))) := (Below.refl _ _).alloc (Nat.le_refl _) _
  have HOK := Lib.hid hs
  clear hs
  by_cases h0 : litVar l = 0
  · have h1 : decide (0 < litVar l) = false := by simp [h0]
    have HR : Hid (holds s.mem l = false) := by show _ = _; simp [holds, h0]
    clear h0
    go_enter Tryz.func109, Tryz.ntmps109
    go_wp2_with (go_at_call 102; refine (rVar_any _ _).mono ?_; rintro e w' ⟨rfl, rfl⟩)
    go_ret; exact ⟨ret_bool HR.out.symm, HB0.out⟩
  · have h1 : decide (0 < litVar l) = true := by simp; omega
    have HR : Hid (holds s.mem l = (s.mem (litVar l) == decide (0 < l))) := by show _ = _; simp [holds, h0]
    have HI := Lib.hid (fun W => in_any s (litVar l) W (by omega) HOK.out)
    cases hm : s.mem (litVar l)
    all_goals
      cases hd : decide (0 < l)
      all_goals
        have HI2 := Lib.hid HI.out
        rw [hm] at HR HI2
        rw [hd] at HR
        clear hm h0
        go_enter Tryz.func109, Tryz.ntmps109
        go_wp2_with fail
        refine (rVar_any _ _).mono ?_
        rintro e w' ⟨rfl, rfl⟩
        go_wp2_with fail
        refine (HI2.out _).mono ?_
        rintro e w1 ⟨rfl, hb1⟩
        have HB1 := Lib.hid (HB0.out.trans (hb1.mono HB0.out.size))
        clear hb1
        go_wp2
        go_ret
        exact ⟨ret_bool (by rw [HR.out]; rfl), HB1.out⟩
end Go.Proofs.YtfdonhfhcomjaaaGreatDoor

/- The walks of censusref20's Formed and Valid. -/
namespace Go.Proofs.YtfdonhfhcomjaaaGreatDoor
open Go.RowKit Cen
set_option maxHeartbeats 2000000
set_option maxRecDepth 100000

theorem insOk_of {ins : List Int} {b : Int} (h : ∀ j, j < ins.length → 0 ≤ ins.getD j 0 ∧ ins.getD j 0 < b) : insOk ins b = true := by
  rw [insOk_iff]
  intro i hi
  obtain ⟨j, hj, rfl⟩ := List.getElem_of_mem hi
  have := h j hj
  simpa [List.getD_eq_getElem?_getD, hj] using this
theorem insOk_not {ins : List Int} {b : Int} {j : Nat} (hj : j < ins.length) (h : ins.getD j 0 < 0 ∨ b ≤ ins.getD j 0) : insOk ins b = false := by
  rw [Bool.eq_false_iff]; intro hc
  rw [insOk_iff] at hc
  have := hc ins[j] (List.getElem_mem hj)
  have e : ins.getD j 0 = ins[j] := by simp [List.getD_eq_getElem?_getD, hj]
  omega
theorem rFormed_any (kind lit n before : Int) (a : Option Addr) (cap : Nat) (ins : List Int) (w : World) (hl : ins.length ≤ 1073741824) (hx : IntCells w a ins) :
    Calls Tryz.prog 97 #[.agg #[.int .i64 kind, .int .i64 lit, .slice a ins.length cap], .int .i64 n, .int .i64 before] w
      fun e w' => e = .returned (.bool (ndOk ⟨kind, lit, ins⟩ n before)) ∧ Below w.heap.size w w' := by
  have HB : Hid (Below w.heap.size w (w.alloc (.cells #[.int .i64 kind, .int .i64 lit, .slice a ins.length cap] 73))) := (Below.refl _ _).alloc (Nat.le_refl _) _
  have HX := Lib.hid (hx.keep HB.out)
  have HE : Hid (((ins.length : Int) == 0) = decide (ins = [])) := by show _ = _; rw [Bool.eq_iff_iff]; simp
  clear hx
  go_enter Tryz.func97, Tryz.ntmps97
  go_wp2
  go_loop [7] (fun i => ∃ k : Nat, k ≤ ins.length ∧ i = .int .i64 k ∧ ∀ j, j < k → 0 ≤ ins.getD j 0 ∧ ins.getD j 0 < before) (fun i => ins.length - (intOf i).toNat)
  case atStart => exact ⟨0, Nat.zero_le _, rfl, fun j h => absurd h (Nat.not_lt_zero _)⟩
  case round =>
    obtain ⟨k, hk, rfl, hno⟩ := hrel
    have HN := Lib.hid hno
    clear hno
    by_cases hlt : k < ins.length
    · obtain ⟨b, off, rfl, hc⟩ := HX.out k hlt
      generalize hxe : ins.getD k 0 = x at hc
      have HXE := Lib.hid hxe
      clear hxe
      have hbz := cell_block hc
      by_cases c1 : x < 0
      · have d1 : decide (x < 0) = true := by simpa using c1
        have HR : Hid (ndOk ⟨kind, lit, ins⟩ n before = false) := by show _ = _; unfold ndOk; rw [insOk_not hlt (.inl (by rw [HXE.out]; exact c1))]; rfl
        clear c1
        go_wp2
        go_ret
        exact ⟨ret_bool HR.out.symm, HB.out⟩
      · have d1 : decide (x < 0) = false := by simpa using c1
        by_cases c2 : before ≤ x
        · have d2 : decide (before ≤ x) = true := by simpa using c2
          have HR : Hid (ndOk ⟨kind, lit, ins⟩ n before = false) := by show _ = _; unfold ndOk; rw [insOk_not hlt (.inr (by rw [HXE.out]; exact c2))]; rfl
          clear c1 c2
          go_wp2
          go_ret
          exact ⟨ret_bool HR.out.symm, HB.out⟩
        · have d2 : decide (before ≤ x) = false := by simpa using c2
          have HC : Hid (0 ≤ x ∧ x < before) := ⟨by omega, by omega⟩
          clear c1 c2
          go_wp2
          go_round
          case rel => exact ⟨k + 1, by omega, by go_num, fun j hj => by
            by_cases e : j = k
            · subst e; rw [HXE.out]; exact HC.out
            · exact HN.out j (by omega)⟩
          case measure => simp [intOf]; omega
    · have : k = ins.length := by omega
      subst this
      have HR : Hid (ndOk ⟨kind, lit, ins⟩ n before = formOk ⟨kind, lit, ins⟩ n) := by show _ = _; unfold ndOk; rw [insOk_of HN.out]; rfl
      by_cases k0 : kind = 0 ∨ kind = 1 ∨ kind = 3 ∨ kind = 4
      · by_cases l0 : lit = 0
        · subst l0
          rcases k0 with rfl | rfl | rfl | rfl
          all_goals
            go_wp2
            go_ret
            exact ⟨ret_bool (by rw [HR.out]; simp [formOk]; try exact HE.out), HB.out⟩
        · have hl0 : (lit == 0) = false := by simpa using l0
          have HL0 := Lib.hid l0
          rcases k0 with rfl | rfl | rfl | rfl
          all_goals
            clear l0
            go_wp2
            go_ret
            exact ⟨ret_bool (by rw [HR.out]; simp [formOk, HL0.out]), HB.out⟩
      · have e0 : (kind == 0) = false := by simp; omega
        have e1 : (kind == 1) = false := by simp; omega
        by_cases k2 : kind = 2
        · subst k2
          cases hv : litOk lit n
          all_goals
            have H3 := Lib.hid (fun W => (rLitValid_any lit n W).mono (R' := fun E w' => E = .returned (.bool _) ∧ W = w') (fun E w' ⟨h1, h2⟩ => ⟨by rw [h1, hv], h2⟩))
            have HV := Lib.hid hv
            clear hv k0
            go_wp2_with (go_at_call 49; refine (H3.out _).mono ?_; rintro e w' ⟨rfl, rfl⟩)
            go_ret
            exact ⟨ret_bool (by rw [HR.out]; simp [formOk, HV.out]; try exact HE.out), HB.out⟩
        · have e2 : (kind == 2) = false := by simpa using k2
          have e3 : (kind == 3) = false := by simp; omega
          have e4 : (kind == 4) = false := by simp; omega
          have HF : Hid (formOk ⟨kind, lit, ins⟩ n = false) := by
            show _ = _; unfold formOk; simp only; rw [if_neg (by omega), if_neg (by omega), if_neg (by omega)]
          clear k0 k2
          go_wp2
          go_ret
          exact ⟨ret_bool (by rw [HR.out, HF.out]), HB.out⟩
/-- Whether a net is valid. -/
theorem netOk_iff (t : Nt) : netOk t = true ↔ (0 ≤ t.n ∧ t.n ≤ 128 ∧ 1 ≤ t.l.length ∧ t.l.length ≤ 65536) ∧ ∀ j, j < t.l.length → ndOk (t.l.getD j default) t.n j = true := by
  simp only [netOk, headOk, Bool.and_eq_true, decide_eq_true_eq]
  exact ⟨fun h => ⟨by omega, h.2⟩, fun h => ⟨by omega, h.2⟩⟩
theorem rValid_any (n : Int) (a : Option Addr) (cap : Nat) (l : List Nd) (w : World) (hl : l.length ≤ 1073741824) (hx : NdCells w a l) :
    Calls Tryz.prog 43 #[.agg #[.int .i64 n, .slice a l.length cap]] w fun e w' => e = .returned (.bool (netOk ⟨n, l⟩)) ∧ Below w.heap.size w w' := by
  have HB := Lib.hid ((Below.refl w.heap.size w).alloc (Nat.le_refl _) (.cells #[.int .i64 n, .slice a l.length cap] 24))
  have HBK := Lib.hid (Blk.new w #[.int .i64 n, .slice a l.length cap] 24)
  have HX := Lib.hid (hx.keep HB.out)
  clear hx
  by_cases c1 : n < 0
  · have HR : Hid (netOk ⟨n, l⟩ = false) := by show _ = _; rw [Bool.eq_false_iff]; intro h; have := netOk_head h; simp only at this; omega
    have d1 : decide (n < 0) = true := by simpa using c1
    clear c1
    go_enter Tryz.func43, Tryz.ntmps43
    go_wp2
    go_ret
    exact ⟨ret_bool HR.out.symm, HB.out⟩
  · have d1 : decide (n < 0) = false := by simpa using c1
    by_cases c2 : 128 < n
    · have HR : Hid (netOk ⟨n, l⟩ = false) := by show _ = _; rw [Bool.eq_false_iff]; intro h; have := netOk_head h; simp only at this; omega
      have d2 : decide (128 < n) = true := by simpa using c2
      clear c1 c2
      go_enter Tryz.func43, Tryz.ntmps43
      go_wp2
      go_ret
      exact ⟨ret_bool HR.out.symm, HB.out⟩
    · have d2 : decide (128 < n) = false := by simpa using c2
      by_cases c3 : l.length < 1
      · have HR : Hid (netOk ⟨n, l⟩ = false) := by show _ = _; rw [Bool.eq_false_iff]; intro h; have := netOk_head h; simp only at this; omega
        have d3 : decide ((l.length : Int) < 1) = true := by simp; omega
        clear c1 c2 c3
        go_enter Tryz.func43, Tryz.ntmps43
        go_wp2
        go_ret
        exact ⟨ret_bool HR.out.symm, HB.out⟩
      · have d3 : decide ((l.length : Int) < 1) = false := by simp; omega
        by_cases c4 : 65536 < l.length
        · have HR : Hid (netOk ⟨n, l⟩ = false) := by show _ = _; rw [Bool.eq_false_iff]; intro h; have := netOk_head h; simp only at this; omega
          have d4 : decide ((65536 : Int) < (l.length : Int)) = true := by simp; omega
          clear c1 c2 c3 c4
          go_enter Tryz.func43, Tryz.ntmps43
          go_wp2
          go_ret
          exact ⟨ret_bool HR.out.symm, HB.out⟩
        · have d4 : decide ((65536 : Int) < (l.length : Int)) = false := by simp; omega
          have HH : Hid (0 ≤ n ∧ n ≤ 128 ∧ 1 ≤ l.length ∧ l.length ≤ 65536) := ⟨by omega, by omega, by omega, by omega⟩
          clear c1 c2 c3 c4
          go_enter Tryz.func43, Tryz.ntmps43
          go_wp2
          clear d1 d2 d3 d4
          generalize hW : w.alloc (.cells #[.int .i64 n, .slice a l.length cap] 24) = W at *
          have HZ := Lib.hid HB.out.size
          clear hW
          go_loopw [3] (fun i wr => ∃ k : Nat, k ≤ l.length ∧ i = .int .i64 k ∧ (∀ j, j < k → ndOk (l.getD j default) n j = true) ∧ Below W.heap.size W wr) (fun i _ => l.length - (intOf i).toNat)
          case atStart => exact ⟨0, Nat.zero_le _, rfl, fun j h => absurd h (Nat.not_lt_zero _), Below.refl _ _⟩
          case round =>
            obtain ⟨k, hk, rfl, hno, hb⟩ := hrel
            have HN := Lib.hid hno
            have HBR := Lib.hid hb
            have HBW := Lib.hid (HB.out.trans (hb.mono HZ.out))
            have HKR := Lib.hid (HBK.out.later hb)
            clear hno hb
            have k0 : wr.cell? ⟨w.heap.size, 0, none⟩ = some (.int .i64 n) := HKR.out.cell 0
            have k1 : wr.cell? ⟨w.heap.size, 1, none⟩ = some (.slice a l.length cap) := HKR.out.cell 1
            by_cases hlt : k < l.length
            · obtain ⟨b, off, rfl, c0, c1, av, cv, c2, hin, hil⟩ := (HX.out.keep HBR.out) k hlt
              have HF := Lib.hid (rFormed_any (l.getD k default).kind (l.getD k default).lit n k av cv (l.getD k default).ins wr.drew hil hin)
              have HND : Hid ((⟨(l.getD k default).kind, (l.getD k default).lit, (l.getD k default).ins⟩ : Nd) = l.getD k default) := rfl
              generalize hxd : l.getD k default = x at *
              have HXD := Lib.hid hxd
              clear hxd
              rw [HND.out] at HF
              have hki : (k : Int) < (l.length : Int) := by omega
              clear hin
              cases hok : ndOk x n k
              all_goals
                rw [hok] at HF
                have HOK := Lib.hid hok
                clear hok
              all_goals
                go_wp2_with fail
                refine wp_region_still_tail 8 (by kernel_rfl) (by kernel_rfl) ?_
                simp only [List.take_succ_cons, List.take_zero, List.drop_succ_cons, List.drop_zero]
                change wpStill _ _ (World.drew _) _ _ _
                repeat still_step
                refine wpStill_nil ?_
                go_wp2_with fail
                refine HF.out.mono ?_
                rintro e w1 ⟨rfl, hb1⟩
                have HB1 : Hid (Below W.heap.size W w1) := HBR.out.trans ((Below.drew (Below.refl _ _)).trans (Below.mono hb1 (by have := HBR.out.size; simpa using this)))
                clear hb1
                go_wp2
              · have HR : Hid (netOk ⟨n, l⟩ = false) := by
                  show _ = _; rw [Bool.eq_false_iff]; intro h
                  have := ((netOk_iff _).1 h).2 k hlt
                  simp only at this
                  rw [HXD.out, HOK.out] at this; simp at this
                go_ret
                exact ⟨ret_bool HR.out.symm, HB.out.trans (HB1.out.mono HZ.out)⟩
              · go_roundw
                case rel => exact ⟨k + 1, by omega, by go_num, fun j hj => by
                  by_cases e : j = k
                  · subst e; rw [HXD.out]; exact HOK.out
                  · exact HN.out j (by omega), HB1.out⟩
                case measure => simp [intOf]; omega
            · have : k = l.length := by omega
              subst this
              have HR : Hid (netOk ⟨n, l⟩ = true) := by show _ = _; rw [netOk_iff]; exact ⟨HH.out, HN.out⟩
              go_wp2
              go_ret
              exact ⟨ret_bool HR.out.symm, HBW.out⟩
end Go.Proofs.YtfdonhfhcomjaaaGreatDoor

/- Slices of bools. -/
namespace Go.Proofs.YtfdonhfhcomjaaaGreatDoor
open Go.RowKit Cen
def bc (b : Bool) : List Value := [.bool b]
theorem bc_len (b : Bool) : (bc b).length = 1 := rfl
theorem elemBool : Elem 85 4 1 1 (.bool false) := .mk Tryz.underlying85 (by kernel_rfl) rfl (by decide)
end Go.Proofs.YtfdonhfhcomjaaaGreatDoor
