/- Part of the proofs that laws of censuslaw38 return true for every input, where the tables that the rows list are laid. Texts: Sat, LawQ, QImp. -/
import Derived.Test.YtkaojolofaanfaaGreatDoorZA14
import Derived.Test.YtkaojolofaanfaaGreatDoorZA17

/- Plain: a decomposable net that is not reduced to False has a model. -/
namespace Cen
theorem insU_mem (vs : List St) (v : Int) (ins : List Int) : ∀ s : St, (insU vs s ins).mem v = (s.mem v || ins.any fun k => (vs.getD k.toNat St.zero).mem v) := by
  induction ins with
  | nil => intro s; simp [insU]
  | cons k ins ih =>
    intro s
    have e : insU vs s (k :: ins) = insU vs (s.union (vs.getD k.toNat St.zero)) ins := rfl
    rw [e, ih, St.mem_union, List.any_cons, Bool.or_assoc]
/-- The variables below node i. -/
def vm (l : List Nd) (i : Int) : St := (varsL l).getD i.toNat St.zero
theorem varsAcc_prefix (l : List Nd) : ∀ vs : List St, ∃ us, varsAcc l vs = vs ++ us := by
  induction l with
  | nil => intro vs; exact ⟨[], by simp [varsAcc]⟩
  | cons x l ih =>
    intro vs
    obtain ⟨us, h⟩ := ih (vs ++ [insU vs (ofL [litVar x.lit]) x.ins])
    exact ⟨insU vs (ofL [litVar x.lit]) x.ins :: us, by simp [varsAcc, h]⟩
theorem vm_append (l r : List Nd) (i : Int) (h : i < l.length) (h0 : 0 ≤ i) : vm (l ++ r) i = vm l i := by
  obtain ⟨us, hu⟩ := varsAcc_prefix r (varsL l)
  unfold vm
  have e : varsL (l ++ r) = varsL l ++ us := by rw [← hu]; exact varsAcc_append l r []
  rw [e]
  have : i.toNat < (varsL l).length := by rw [varsL_length]; omega
  simp only [List.getD_eq_getElem?_getD, List.getElem?_append_left this]
theorem vm_snoc (l : List Nd) (x : Nd) : vm (l ++ [x]) l.length = insU (varsL l) (ofL [litVar x.lit]) x.ins := by
  unfold vm
  rw [varsL_snoc]
  have := varsL_length l
  simp only [List.getD_eq_getElem?_getD]
  rw [List.getElem?_append_right (by omega)]
  simp [this]
theorem vm_mem {l : List Nd} {n : Int} (hL : ndsOk l n l.length) {i : Int} (h0 : 0 ≤ i) (h1 : i < l.length) (v : Int) :
    (vm l i).mem v = ((ofL [litVar (nd l i).lit]).mem v || (nd l i).ins.any fun k => (vm l k).mem v) := by
  have hi : i.toNat < l.length := by omega
  have e1 : l = l.take i.toNat ++ [l[i.toNat]] ++ l.drop (i.toNat + 1) := by
    rw [List.append_assoc]; simp
  have e2 : nd l i = l[i.toNat] := nd_get h0 h1
  have hlen : (l.take i.toNat).length = i.toNat := by simp; omega
  have h2 : vm l i = vm (l.take i.toNat ++ [l[i.toNat]]) i := by
    conv => lhs; rw [e1]
    exact vm_append _ _ i (by simp; omega) h0
  have h3 : vm (l.take i.toNat ++ [l[i.toNat]]) i = insU (varsL (l.take i.toNat)) (ofL [litVar l[i.toNat].lit]) l[i.toNat].ins := by
    have := vm_snoc (l.take i.toNat) l[i.toNat]
    rw [hlen, show ((i.toNat : Nat) : Int) = i by omega] at this; exact this
  rw [h2, h3, insU_mem, e2]
  congr 1
  have hins := ndOk_ins (nd_ok hL h0 h1)
  rw [e2] at hins
  rw [Bool.eq_iff_iff, List.any_eq_true, List.any_eq_true]
  have key : ∀ k ∈ l[i.toNat].ins, vm l k = (varsL (l.take i.toNat)).getD k.toNat St.zero := fun k hk => by
    obtain ⟨a, b⟩ := hins k hk
    have : vm (l.take i.toNat ++ l.drop i.toNat) k = vm (l.take i.toNat) k := vm_append _ _ k (by rw [hlen]; omega) a
    rw [List.take_append_drop] at this
    exact this
  exact ⟨fun ⟨k, hk, h⟩ => ⟨k, hk, by rw [key k hk]; exact h⟩, fun ⟨k, hk, h⟩ => ⟨k, hk, by rw [← key k hk]; exact h⟩⟩
theorem ofL_mem (x v : Int) : (ofL [x]).mem v = (decide (v = x) && decide (1 ≤ x) && decide (x ≤ 128)) := by
  show (St.zero.add x).mem v = _
  rw [St.mem_add, St.mem_zero]; simp
/-- The truth of a node hangs on its variables alone. -/
theorem T_vars {l : List Nd} {n : Int} (hL : ndsOk l n l.length) {s s' : Int → Bool} : ∀ (k : Nat) (i : Int), i.toNat = k → 0 ≤ i → i < l.length → (∀ v, (vm l i).mem v = true → s v = s' v) → T s l i = T s' l i := by
  intro k
  induction k using Nat.strongRecOn with
  | _ k ih =>
    intro i hk h0 h1 h
    have hins := ndOk_ins (nd_ok hL h0 h1)
    rw [T_nd s hL h0 h1, T_nd s' hL h0 h1]
    have h3 : evNd s (T s l) (nd l i) = evNd s (T s' l) (nd l i) := by
      apply evNd_congr
      intro j hj
      obtain ⟨a, b⟩ := hins j hj
      refine ih j.toNat (by omega) j rfl a (by omega) fun v hv => h v ?_
      rw [vm_mem hL h0 h1, Bool.or_eq_true]
      exact .inr (List.any_eq_true.2 ⟨j, hj, hv⟩)
    rw [h3]
    unfold evNd
    by_cases h2 : (nd l i).kind = 2
    · have h1k : ¬ (nd l i).kind = 1 := by omega
      rw [if_neg h1k, if_neg h1k, if_pos h2, if_pos h2]
      have hv := (ndOk_lit (nd_ok hL h0 h1) h2).1
      have hp := litVar_pos' hv
      unfold holds
      rw [h (litVar (nd l i).lit) (by rw [vm_mem hL h0 h1, ofL_mem]; simp; left; omega)]
    · rw [if_neg h2, if_neg h2]
where
  litVar_pos' {l : Int} (h : litVar l ≠ 0) : 1 ≤ litVar l ∧ litVar l ≤ 128 := by rcases litVar_ne h with h | h <;> omega
theorem sepF_mono {vs ws : List St} (h : ∀ k v, (ws.getD k St.zero).mem v = true → (vs.getD k St.zero).mem v = true) (hv : ∀ k, (vs.getD k St.zero).ok) (hw : ∀ k, (ws.getD k St.zero).ok) (ins : List Int) :
    ∀ s t : St, s.ok → t.ok → (∀ v, t.mem v = true → s.mem v = true) → sepF vs s ins = true → sepF ws t ins = true := by
  induction ins with
  | nil => intro s t _ _ _ _; rfl
  | cons k ins ih =>
    intro s t hs ht hst hsep
    rw [sepF] at hsep ⊢
    split at hsep
    · rename_i hz
      have h2 : t.cut (ws.getD k.toNat St.zero) = St.zero := by
        apply St.ext (St.cut_ok ht) St.zero_ok
        intro v _ _
        rw [St.mem_zero, St.mem_cut, Bool.eq_false_iff]
        intro hc
        rw [Bool.and_eq_true] at hc
        have : (s.cut (vs.getD k.toNat St.zero)).mem v = true := by rw [St.mem_cut, hst v hc.1, h _ v hc.2]; rfl
        rw [hz, St.mem_zero] at this; simp at this
      rw [if_pos h2]
      refine ih _ _ (St.union_ok hs (hv _)) (St.union_ok ht (hw _)) ?_ hsep
      intro v hm
      rw [St.mem_union, Bool.or_eq_true] at hm ⊢
      rcases hm with hm | hm
      · exact .inl (hst v hm)
      · exact .inr (h _ v hm)
    · simp at hsep
theorem varsL_getD_ok (l : List Nd) (k : Nat) : ((varsL l).getD k St.zero).ok := by
  by_cases hk : k < (varsL l).length
  · simp only [List.getD_eq_getElem?_getD, List.getElem?_eq_getElem hk]; exact varsL_ok l _ (List.getElem_mem hk)
  · simp only [List.getD_eq_getElem?_getD, List.getElem?_eq_none (Nat.le_of_not_lt hk)]; exact St.zero_ok
theorem nd_map {xs : List Int} {l : List Nd} {i : Int} (h0 : 0 ≤ i) (h1 : i < l.length) : nd (l.map (gvNd xs)) i = gvNd xs (nd l i) := by
  rw [nd_get h0 (by simpa using h1), nd_get h0 h1]; simp
theorem gvNd_ins (xs : List Int) (x : Nd) : gvNd xs x = x ∨ ((gvNd xs x).ins = [] ∧ (gvNd xs x).lit = 0 ∧ (gvNd xs x).kind ≠ 3) := by
  unfold gvNd; split
  · right; simp
  · split
    · right; simp
    · left; rfl
theorem vm_gv {n : Int} {xs : List Int} {l : List Nd} (h : netOk ⟨n, l⟩ = true) (v : Int) : ∀ (k : Nat) (i : Int), i.toNat = k → 0 ≤ i → i < l.length → (vm (l.map (gvNd xs)) i).mem v = true → (vm l i).mem v = true := by
  have hL : ndsOk l n l.length := by simp [netOk] at h; exact h.2
  have h' := gvL_ok (xs := xs) h
  have hL' : ndsOk (l.map (gvNd xs)) n (l.map (gvNd xs)).length := by simp only [netOk, Bool.and_eq_true, decide_eq_true_eq] at h'; exact h'.2
  intro k
  induction k using Nat.strongRecOn with
  | _ k ih =>
    intro i hk h0 h1 hm
    have hins := ndOk_ins (nd_ok hL h0 h1)
    rw [vm_mem hL' h0 (by simpa using h1), nd_map h0 h1, Bool.or_eq_true] at hm
    rw [vm_mem hL h0 h1, Bool.or_eq_true]
    rcases gvNd_ins xs (nd l i) with e | ⟨e1, e2, _⟩
    · rw [e] at hm
      rcases hm with hm | hm
      · exact .inl hm
      · right
        rw [List.any_eq_true] at hm ⊢
        obtain ⟨j, hj, hm⟩ := hm
        obtain ⟨a, b⟩ := hins j hj
        exact ⟨j, hj, ih j.toNat (by omega) j rfl a (by omega) hm⟩
    · rw [e1, e2, ofL_mem] at hm
      simp [litVar] at hm
theorem decL_gv {n : Int} {xs : List Int} {l : List Nd} (h : netOk ⟨n, l⟩ = true) (hd : decL l = true) : decL (l.map (gvNd xs)) = true := by
  have hL : ndsOk l n l.length := by simp [netOk] at h; exact h.2
  rw [decL, List.all_eq_true] at hd ⊢
  intro y hy
  rw [List.mem_map] at hy
  obtain ⟨x, hx, rfl⟩ := hy
  have h1 := hd x hx
  rcases gvNd_ins xs x with e | ⟨e1, e2, e3⟩
  · rw [e]
    simp only [ndSep, Bool.or_eq_true] at h1 ⊢
    rcases h1 with h1 | h1
    · exact .inl h1
    · right
      obtain ⟨j, hj, hxe⟩ := List.getElem_of_mem hx
      refine sepF_mono ?_ (varsL_getD_ok l) (varsL_getD_ok _) x.ins St.zero St.zero St.zero_ok St.zero_ok (fun _ h => h) h1
      intro k v hm
      by_cases hk : k < l.length
      · have := vm_gv (xs := xs) h v k (k : Int) (by omega) (by omega) (by omega)
        unfold vm at this
        rw [show ((k : Nat) : Int).toNat = k by omega] at this
        exact this hm
      · have : (varsL (l.map (gvNd xs))).getD k St.zero = St.zero := by
          simp only [List.getD_eq_getElem?_getD]
          rw [List.getElem?_eq_none (by rw [varsL_length]; simp; omega)]; rfl
        rw [this, St.mem_zero] at hm; simp at hm
  · unfold ndSep; simp [e3]
/-- Assignments for the inputs of a decomposable And go together. -/
theorem sep_join {l : List Nd} {n : Int} (hL : ndsOk l n l.length) (ins : List Int) :
    ∀ (S : St) (s0 : Int → Bool), S.ok → sepF (varsL l) S ins = true → (∀ i ∈ ins, 0 ≤ i ∧ i < (l.length : Int)) → (∀ i ∈ ins, ∃ s, T s l i = true) →
      ∃ s, (∀ v, S.mem v = true → s v = s0 v) ∧ ∀ i ∈ ins, T s l i = true := by
  induction ins with
  | nil => intro S s0 _ _ _ _; exact ⟨s0, fun _ _ => rfl, by simp⟩
  | cons k ins ih =>
    intro S s0 hS hsep hb hsat
    rw [sepF] at hsep
    split at hsep
    · rename_i hz
      obtain ⟨sk, hsk⟩ := hsat k (by simp)
      obtain ⟨hk0, hk1⟩ := hb k (by simp)
      have hvk : (varsL l).getD k.toNat St.zero = vm l k := rfl
      rw [hvk] at hz hsep
      obtain ⟨s, h1, h2⟩ := ih (S.union (vm l k)) (fun v => if (vm l k).mem v then sk v else s0 v) (St.union_ok hS (varsL_getD_ok l _)) hsep (fun i hi => hb i (by simp [hi])) (fun i hi => hsat i (by simp [hi]))
      refine ⟨s, fun v hv => ?_, fun i hi => ?_⟩
      · rw [h1 v (by rw [St.mem_union, hv]; rfl)]
        have : (vm l k).mem v = false := by
          cases hc : (vm l k).mem v with
          | false => rfl
          | true =>
            have : (S.cut (vm l k)).mem v = true := by rw [St.mem_cut, hv, hc]; rfl
            rw [hz, St.mem_zero] at this; simp at this
        rw [if_neg (by rw [this]; simp)]
      · rcases List.mem_cons.1 hi with e | hi
        · subst e
          rw [← hsk]
          refine T_vars hL i.toNat i rfl hk0 hk1 fun v hv => ?_
          rw [h1 v (by rw [St.mem_union, hv]; simp), if_pos hv]
        · exact h2 i hi
    · simp at hsep
/-- A decomposable net that is not reduced to False has a model. -/
theorem redL_sat {n : Int} {l : List Nd} (h : netOk ⟨n, l⟩ = true) (hd : decL l = true) (h0 : rootK (redL n l) ≠ 0) : ∃ s, ev s ⟨n, l⟩ = true := by
  obtain ⟨hn0, hn1, h1, h2⟩ := netOk_head h
  have hL : ndsOk l n l.length := by simp [netOk] at h; exact h.2
  simp only at h1 h2
  rw [redL_rootK h] at h0
  have key := redSt_images h2 hL (fun j c => c ≠ 0 → ∃ s, T s l j = true) (by
    intro k hk L ats hlt hok hro hq hne
    have e : nd l (k : Int) = l[k] := by rw [nd_get (by omega) (by omega)]; simp
    have hx : ndOk l[k] n k = true := by have := hL k hk; simpa [List.getD_eq_getElem?_getD, hk] using this
    have hxi := ndOk_ins hx
    obtain ⟨a1, a2, a3⟩ := addL_ne hlt hok hro hne
    have a1 : l[k].kind ≠ 0 := a1
    have hT : ∀ s, T s l (k : Int) = evNd s (T s l) l[k] := fun s => by rw [T_nd s hL (by omega) (by omega), e]
    have himg : ∀ i ∈ l[k].ins, (nd L (ats.getD i.toNat 0)).kind ≠ 0 → ∃ s, T s l i = true := fun i hi hne => by
      obtain ⟨b1, b2⟩ := hxi i hi
      have := hq i.toNat (by omega) hne
      rw [show ((i.toNat : Nat) : Int) = i by omega] at this; exact this
    rcases formOk_kind hx with hk0 | hk1 | hk2 | hk3 | hk4
    · exact absurd hk0 a1
    · exact ⟨fun _ => true, by rw [hT]; unfold evNd; rw [if_pos hk1]⟩
    · have hv := (ndOk_lit hx hk2).1
      refine ⟨fun _ => decide (0 < l[k].lit), ?_⟩
      rw [hT]; unfold evNd; rw [if_neg (by omega), if_pos hk2]
      unfold holds; rw [decide_eq_true hv]; simp
    · have hsep : sepF (varsL l) St.zero l[k].ins = true := by
        rw [decL, List.all_eq_true] at hd
        have := hd _ (List.getElem_mem hk)
        simp only [ndSep, Bool.or_eq_true, decide_eq_true_eq] at this
        rcases this with h | h
        · exact absurd hk3 h
        · exact h
      obtain ⟨s, _, h4⟩ := sep_join hL l[k].ins St.zero (fun _ => false) St.zero_ok hsep (fun i hi => by have := hxi i hi; omega) (fun i hi => by
        refine himg i hi (a2 hk3 _ ?_)
        simp only [renum, List.mem_map]
        exact ⟨i, hi, rfl⟩)
      refine ⟨s, ?_⟩
      rw [hT]; unfold evNd; rw [if_neg (by omega), if_neg (by omega), if_pos hk3, List.all_eq_true]; exact h4
    · obtain ⟨i, hi, hne2⟩ := a3 hk4
      simp only [renum, List.mem_map] at hi
      obtain ⟨j, hj, rfl⟩ := hi
      obtain ⟨s, hs⟩ := himg j hj hne2
      refine ⟨s, ?_⟩
      rw [hT]; unfold evNd; rw [if_neg (by omega), if_neg (by omega), if_neg (by omega), if_pos hk4, List.any_eq_true]; exact ⟨j, hj, hs⟩)
    l.length (Nat.le_refl _) (l.length - 1) (by omega) h0
  obtain ⟨s, hs⟩ := key
  exact ⟨s, by rw [ev_eq s _ h1]; exact hs⟩
/-- Of a decomposable net, given literals: reduced to False, or there is a model. -/
theorem gvL_root {n : Int} {xs : List Int} {l : List Nd} (h : netOk ⟨n, l⟩ = true) (hd : decL l = true) (hc : noClash xs) : rootK (gvL n xs l) = 0 ↔ ∀ s, ev (ovr xs s) ⟨n, l⟩ = false := by
  have h2 := gvL_ok (xs := xs) h
  constructor
  · intro h0 s
    rw [← gvL_ev h hc s]
    exact ev_root0 (redL_T h2).1 h0
  · intro hall
    apply Classical.byContradiction
    intro hne
    obtain ⟨s, hs⟩ := redL_sat h2 (decL_gv h hd) hne
    have := hall s
    rw [← gvL_ev h hc s] at this
    unfold gvL at this
    rw [(redL_T h2).2.2 s, hs] at this; simp at this
end Cen

/- Plain: what the law's own examples answer; what the functions answer, said by assignments. -/
namespace Go.Proofs.YtkaojolofaanfaaGreatDoor
open Cen
def orN : List Nd := [⟨2, 1, []⟩, ⟨2, 2, []⟩, ⟨4, 0, [0, 1]⟩]
def oneN : List Nd := [⟨2, 1, []⟩]
theorem or_ok : netOk ⟨2, orN⟩ = true := by decide +kernel
theorem one_ok : netOk ⟨2, oneN⟩ = true := by decide +kernel
theorem or_dec : decL orN = true := by decide +kernel
theorem one_dec : decL oneN = true := by decide +kernel
theorem or_small : Small orN := ⟨by decide, by intro y hy; simp [orN] at hy; rcases hy with rfl | rfl | rfl <;> decide⟩
theorem one_small : Small oneN := ⟨by decide, by intro y hy; simp [oneN] at hy; subst hy; decide⟩
theorem ev_or (s : Int → Bool) : ev s ⟨2, orN⟩ = (s 1 || s 2) := by
  simp [ev, truth, orN, evs, evNd, at', holds, litVar]
theorem ev_one (s : Int → Bool) : ev s ⟨2, oneN⟩ = s 1 := by
  simp [ev, truth, oneN, evs, evNd, holds, litVar]
theorem ev_true (s : Int → Bool) (n : Int) : ev s ⟨n, [⟨1, 0, []⟩]⟩ = true := by simp [ev, truth, evs, evNd]
theorem chk_or : chkR [] ⟨2, orN⟩ = 0 := by decide +kernel
theorem chk_or12 : chkR [1, 2] ⟨2, orN⟩ = 0 := by decide +kernel
theorem chk_or2 : chkR [2] ⟨2, orN⟩ = 0 := by decide +kernel
theorem chk_oo : chk2 ⟨2, orN⟩ ⟨2, oneN⟩ = 0 := by decide +kernel
theorem chk_oo' : chk2 ⟨2, oneN⟩ ⟨2, orN⟩ = 0 := by decide +kernel
theorem cons_or : consR ⟨2, orN⟩ = true := by
  unfold consR
  rw [decide_eq_true chk_or]
  simp only [Bool.true_and, decide_eq_true_eq]
  intro h
  have := (gvL_root or_ok or_dec (xs := []) (fun x hx => by simp at hx)).1 h (fun _ => true)
  rw [ev_or] at this; simp [ovr] at this
theorem true2_ok : netOk ⟨2, [⟨1, 0, []⟩]⟩ = true := by decide +kernel
theorem tsmall : Small [(⟨1, 0, []⟩ : Nd)] := ⟨by simp, by simp⟩
theorem imp_or : impR ⟨2, orN⟩ [] = false := by
  unfold impR
  rw [decide_eq_true chk_or, show clash [] = false from rfl]
  simp only [Bool.true_and, Bool.false_or]
  cases h : cntL 2 [⟨1, 0, []⟩] (gvL 2 [] orN) with
  | some m => rfl
  | none =>
    have := (cntL_spec true2_ok (gvL_fine (xs := []) or_ok or_small).1 tsmall (gvL_fine (xs := []) or_ok or_small).2.1).1 h (fun _ => false)
    exact absurd ⟨ev_true _ _, by rw [ev_gv0 or_ok, ev_or]; rfl⟩ this
theorem ent_or : entR ⟨2, orN⟩ [1, 2] = true := by
  unfold entR
  rw [decide_eq_true chk_or12]
  simp only [Bool.true_and, Bool.or_eq_true, decide_eq_true_eq]
  right
  refine (gvL_root or_ok or_dec (xs := [-1, -2]) (fun x hx => ?_)).2 fun s => ?_
  · simp at hx ⊢; rcases hx with rfl | rfl <;> decide
  · rw [ev_or]; simp [ovr]
theorem imp_or2 : impR ⟨2, orN⟩ [2] = true := by
  unfold impR
  rw [decide_eq_true chk_or2, show clash [2] = false from rfl]
  simp only [Bool.true_and, Bool.false_or]
  cases h : cntL 2 [⟨1, 0, []⟩] (gvL 2 [2] orN) with
  | none => rfl
  | some m =>
    have := ((cntL_spec true2_ok (gvL_fine (xs := [2]) or_ok or_small).1 tsmall (gvL_fine (xs := [2]) or_ok or_small).2.1).2 m h).is.2
    rw [gvL_ev or_ok (noClash1 (by decide)), ev_or] at this
    simp [ovr] at this
theorem mem_add_list (m : List Int) : ∀ (F : St) (v : Int), (m.foldl St.add F).mem v = (F.mem v || (m.contains v && decide (1 ≤ v) && decide (v ≤ 128))) := by
  induction m with
  | nil => intro F v; simp
  | cons x m ih =>
    intro F v
    rw [List.foldl_cons, ih, St.mem_add, List.contains_cons, show (v == x) = decide (v = x) from rfl]
    by_cases e : v = x
    · subst e
      rw [decide_eq_true (rfl : v = v)]
      generalize F.mem v = p1
      generalize m.contains v = p2
      generalize decide (1 ≤ v) = p3
      generalize decide (v ≤ 128) = p4
      cases p1 <;> cases p2 <;> cases p3 <;> cases p4 <;> rfl
    · rw [decide_eq_false e]
      generalize F.mem v = p1
      generalize m.contains v = p2
      cases p1 <;> cases p2 <;> rfl
theorem foundOf_mem {F : St} {m : List Int} (v : Int) : (foundOf F (some m)).mem v = (F.mem v || (m.contains v && decide (1 ≤ v) && decide (v ≤ 128))) := mem_add_list m F v
theorem foundOf_ok {F : St} (h : F.ok) (o : Option (List Int)) : (foundOf F o).ok := by
  cases o with
  | none => exact h
  | some m =>
    have : ∀ (m : List Int) (F : St), F.ok → (m.foldl St.add F).ok := by
      intro m
      induction m with
      | nil => intro F h; exact h
      | cons x m ih => intro F h; exact ih _ (St.add_ok h x)
    exact this m F h
theorem cnt_or : ∃ m, cntR ⟨2, orN⟩ ⟨2, oneN⟩ = some m ∧ foundOf St.zero (some m) = ⟨2, 0⟩ := by
  unfold cntR
  rw [if_pos chk_oo]
  simp only
  obtain ⟨h1, h2⟩ := cntL_spec or_ok one_ok or_small one_small
  cases h : cntL 2 orN oneN with
  | none =>
    exact absurd ⟨by rw [ev_or]; rfl, by rw [ev_one]; rfl⟩ (h1 h (fun v => decide (v = 2)))
  | some m =>
    refine ⟨m, rfl, ?_⟩
    have hL := h2 m h
    have hi := hL.is
    unfold cex at hi
    rw [ev_or, ev_one] at hi
    apply St.ext (foundOf_ok St.zero_ok _) ⟨by unfold U64; decide, by unfold U64; decide⟩
    intro v hv1 hv2
    rw [foundOf_mem, St.mem_zero, decide_eq_true hv1, decide_eq_true hv2]
    have hm : m.contains v = memL m v := rfl
    rw [hm]
    have e1 : memL m 1 = false := hi.2
    have e2 : memL m 2 = true := by have := hi.1; rw [e1] at this; simpa using this
    by_cases a : v = 1
    · subst a; rw [e1]; rfl
    · by_cases b : v = 2
      · subst b; rw [e2]; rfl
      · have : memL m v = false := by
          rw [Bool.eq_false_iff]; intro hc
          have := hL.bd v (by simpa [memL] using hc)
          omega
        rw [this]
        unfold St.mem
        by_cases c : 1 ≤ v ∧ v ≤ 64
        · rw [if_pos c]
          have : (2 : Nat) = 2 ^ 1 := rfl
          simp only [Bool.or_false, Bool.and_true]
          rw [this, Nat.testBit_two_pow]; simp; omega
        · rw [if_neg c]; split <;> simp
theorem cnt_one : cntR ⟨2, oneN⟩ ⟨2, orN⟩ = none := by
  unfold cntR
  rw [if_pos chk_oo']
  simp only
  cases h : cntL 2 oneN orN with
  | none => rfl
  | some m =>
    have := ((cntL_spec one_ok or_ok one_small or_small).2 m h).is
    unfold cex at this
    rw [ev_or, ev_one] at this
    rw [this.1] at this; simp at this
theorem imp_iff {N : Nat} {l : List Nd} (hs : Small l) (h : chkR [] ⟨N, l⟩ = 0) : impR ⟨N, l⟩ [] = true ↔ ∀ s, ev s ⟨N, l⟩ = true := by
  obtain ⟨hok, _, hd⟩ := chkR_ok h
  unfold impR
  rw [decide_eq_true h, show clash [] = false from rfl]
  simp only [Bool.true_and, Bool.false_or]
  obtain ⟨hn0, hn1, _, _⟩ := netOk_head hok
  simp only at hn0 hn1
  have tok : netOk ⟨(N : Int), [⟨1, 0, []⟩]⟩ = true := by
    have h : ndsOk [⟨1, 0, []⟩] (N : Int) 1 := by
      intro j hj
      have : j = 0 := by omega
      subst this
      exact ndOk_const (.inr rfl)
    simp only [netOk, headOk, Bool.and_eq_true, decide_eq_true_eq]
    exact ⟨⟨⟨⟨hn0, hn1⟩, by simp⟩, by simp⟩, h⟩
  obtain ⟨f1, f2, _⟩ := gvL_fine (xs := []) hok hs
  obtain ⟨c1, c2⟩ := cntL_spec tok f1 tsmall f2
  constructor
  · intro hn s
    have hn' : cntL (N : Int) [⟨1, 0, []⟩] (gvL N [] l) = none := by simpa using hn
    cases he : ev s ⟨N, l⟩ with
    | true => rfl
    | false => exact absurd ⟨ev_true _ _, by rw [ev_gv0 hok]; exact he⟩ (c1 hn' s)
  · intro hall
    cases hc : cntL (N : Int) [⟨1, 0, []⟩] (gvL N [] l) with
    | none => rfl
    | some m =>
      have := (c2 m hc).is.2
      rw [ev_gv0 hok, hall] at this; simp at this
end Go.Proofs.YtkaojolofaanfaaGreatDoor

/- The walks of query.Implies, Valid, Same, Counter. -/
namespace Go.Proofs.YtkaojolofaanfaaGreatDoor
open Go.RowKit Cen
set_option maxHeartbeats 4000000
set_option maxRecDepth 100000
theorem last3 {p q r : Prop} (h : p ∧ q ∧ r) : r := h.2.2
theorem true_ok {n : Int} (h0 : 0 ≤ n) (h1 : n ≤ 128) (k : Int) (hk : k = 0 ∨ k = 1) : netOk ⟨n, [⟨k, 0, []⟩]⟩ = true := by
  have h : ndsOk [⟨k, 0, []⟩] n 1 := by
    intro j hj
    have : j = 0 := by omega
    subst this
    exact ndOk_const hk
  simp only [netOk, headOk, Bool.and_eq_true, decide_eq_true_eq]
  exact ⟨⟨⟨⟨h0, h1⟩, by simp⟩, by simp⟩, h⟩
theorem true_small (k : Int) : Small [⟨k, 0, []⟩] := ⟨by simp, by simp⟩
theorem implies_any (n : Int) (a : Option Addr) (cap : Nat) (l : List Nd) (b : Option Addr) (cap2 : Nat) (xs : List Int) (w : World) (hx : NdCells w a l) (hl : l.length ≤ 1073741824) (hxs : IntCells w b xs) (hxl : xs.length ≤ 1073741824) (hs : netOk ⟨n, l⟩ = true → Small l) (hco : impCost ⟨n, l⟩ xs) (ht : Tab w) :
    Calls Tryz.prog 57 #[.agg #[.int .i64 n, .slice a l.length cap], .slice b xs.length cap2] w fun e w' => e = .returned (.tuple #[.bool (impR ⟨n, l⟩ xs), .int .i64 (chkR xs ⟨n, l⟩)]) ∧ Below w.heap.size w w' := by
  have HX := Lib.hid hx
  have hb0 : Below w.heap.size w ((w.alloc (.cells #[.int .i64 n, .slice a l.length cap] 24)).alloc (.cells #[.int .i64 n, .slice a l.length cap] 24)) := ((Below.refl _ _).alloc (Nat.le_refl _) _).alloc (by simp) _
  have HB0 := Lib.hid hb0
  have HCK := Lib.hid (check1_any b cap2 xs (w.heap.size + 1) n a cap l _ (hxs.keep hb0) hxl (Blk.new' (w.alloc (.cells #[.int .i64 n, .slice a l.length cap] 24)) (World.size_alloc _ _) #[.int .i64 n, .slice a l.length cap] 24) (hx.keep hb0) hl)
  have q0 := Lib.hid ((Blk.new w #[.int .i64 n, .slice a l.length cap] 24).alloc (.cells #[.int .i64 n, .slice a l.length cap] 24))
  have HT := Lib.hid ht
  have HS := Lib.hid hs
  have HXS := Lib.hid hxs
  have HCO := Lib.hid hco
  clear hx hb0 ht hs hxs hco
  by_cases hc : chkR xs ⟨n, l⟩ = 0
  · obtain ⟨h1, h2, h3⟩ := chkR_ok hc
    have HOK := Lib.hid h1
    have HLT : Hid (∀ x ∈ xs, -128 ≤ x ∧ x ≤ 128) := fun x hx => by
      have := List.all_eq_true.1 h2 x hx
      simp only [litOk, Bool.and_eq_true, decide_eq_true_eq] at this
      have := litVar_ne this.1
      omega
    have HC := Lib.hid hc
    have HR : Hid (impR ⟨n, l⟩ xs = (clash xs || (cntL n [⟨1, 0, []⟩] (gvL n xs l)).isNone)) := by show _ = _; unfold impR; rw [decide_eq_true hc]; rfl
    rw [hc] at HCK
    clear hc h1 h2 h3
    cases hcl : clash xs
    · have HCL := Lib.hid hcl
      have HCC := Lib.hid (HCO.out HC.out hcl)
      clear hcl
      go_enter Tryz.func57, Tryz.ntmps57
      go_wp2_with fail
      refine HCK.out.mono ?_
      rintro e w1 ⟨rfl, hb1⟩
      have HB1 := Lib.hid (HB0.out.trans (hb1.mono HB0.out.size))
      have HQ1 := Lib.hid (q0.out.later hb1)
      have HOP := Lib.hid (opposites_any b cap2 xs w1 hxl (HXS.out.keep HB1.out) HLT.out)
      rw [HCL.out] at HOP
      clear hb1
      go_wp2_with fail
      refine HOP.out.mono ?_
      rintro e w2 ⟨v2, rfl, ho2, hb2⟩
      have HB2 := Lib.hid (HB1.out.trans (hb2.mono HB1.out.size))
      have q1 := HQ1.out.later hb2
      have k0 : w2.cell? ⟨w.heap.size, 0, none⟩ = some (.int .i64 n) := q1.cell 0
      have k1 : w2.cell? ⟨w.heap.size, 1, none⟩ = some (.slice a l.length cap) := q1.cell 1
      obtain ⟨hn0, hn1, _, _⟩ := netOk_head HOK.out
      simp only at hn0 hn1
      have HN0 := Lib.hid hn0
      have HN1 := Lib.hid hn1
      have HW2 := Lib.hid (by have := q1.lt; omega : w.heap.size ≤ w2.heap.size)
      clear hb2 q1 ho2 hn0 hn1
      have HKS : Hid (∀ w' : World, Below w2.heap.size w2 w' → w'.cell? ⟨w.heap.size, 0, none⟩ = some (.int .i64 n) ∧ w'.cell? ⟨w.heap.size, 1, none⟩ = some (.slice a l.length cap) ∧ Below w2.heap.size w2 w') := Lib.hid fun w' hb => ⟨cell_keep hb k0, cell_keep hb k1, hb⟩
      have HG : Hid (∀ W : World, Below w2.heap.size w2 W → Calls Tryz.prog 69 #[.agg #[.int .i64 n, .slice a l.length cap], .slice b xs.length cap2] W
          fun e w' => ∃ a' cap', e = .returned (.agg #[.int .i64 n, .slice a' (gvL n xs l).length cap']) ∧ NdAbove W.heap.size w' a' (gvL n xs l) ∧ Below W.heap.size W w') := Lib.hid fun W hb =>
        given_fine n a cap l b cap2 xs W HOK.out (HS.out HOK.out) ((HX.out.keep HB2.out).keep hb) ((HXS.out.keep HB2.out).keep hb) hxl ((HT.out.keep HB2.out).keep hb)
      have HCT : Hid (∀ (W : World) (b1 : Nat) (a6 : Option Addr) (c6 : Nat), NdCells W (some ⟨b1, 0, none⟩) [⟨1, 0, []⟩] → NdCells W a6 (gvL n xs l) → Below w2.heap.size w2 W → Calls Tryz.prog 120 #[.agg #[.int .i64 n, .slice (some ⟨b1, 0, none⟩) 1 1], .agg #[.int .i64 n, .slice a6 (gvL n xs l).length c6]] W
          fun e w' => e = .returned (.tuple #[stv (foundOf St.zero (cntL n [⟨1, 0, []⟩] (gvL n xs l))), .bool (cntL n [⟨1, 0, []⟩] (gvL n xs l)).isSome]) ∧ Below W.heap.size W w') := Lib.hid fun W b1 a6 c6 h1 h2 hb =>
        counter_any n [⟨1, 0, []⟩] (gvL n xs l) (some ⟨b1, 0, none⟩) a6 1 c6 W (true_ok HN0.out HN1.out 1 (.inr rfl)) (gvL_fine HOK.out (HS.out HOK.out)).1 (true_small 1) (gvL_fine HOK.out (HS.out HOK.out)).2.1 h1 h2 HCC.out ((HT.out.keep HB2.out).keep hb)
      go_upto_region 7 with fail
      go_region_held3 (fun w' => w'.cell? ⟨w.heap.size, 0, none⟩ = some (.int .i64 n) ∧ w'.cell? ⟨w.heap.size, 1, none⟩ = some (.slice a l.length cap) ∧ Below w2.heap.size w2 w')
        (first
          | exact HKS.out _ (by first | (with_reducible exact (Below.refl _ _).drew) | (with_reducible exact (last3 (by assumption))))
          | exact HKS.out _ (Below.alloc (last3 (by assumption)) (Below.size (last3 (by assumption))) _)
          | exact HKS.out _ (Below.drew (Below.alloc (Below.refl _ _) (Nat.le_refl _) _))
          | exact HKS.out _ hw7
          | exact HKS.out _ (Below.alloc hw7 hw7.size _)
          | exact HKS.out _ hw6
          | exact HKS.out _ hw5
          | exact HKS.out _ (Below.setCell (Below.setCell (last3 (by assumption)) (by first | exact Nat.le_refl _ | exact hw5.size | exact hw6.size | exact hw7.size) _) (by first | exact Nat.le_refl _ | exact hw5.size | exact hw6.size | exact hw7.size) _))
        (first
          | (go_at_call 121
             refine (flat_any n 1 _).mono ?_
             rintro e w5 ⟨b5, rfl, hf5, hb5⟩
             have hw5 : Below w2.heap.size w2 w5 := Below.trans (by first | (with_reducible exact (Below.refl _ _).drew) | (with_reducible exact (last3 (by assumption)))) (hb5.mono (Below.size (B := w2.heap.size) (w := w2) (by first | (with_reducible exact (Below.refl _ _).drew) | (with_reducible exact (last3 (by assumption))))))
             try (have z5 : Blk w5 w2.heap.size #[.int .u64 0, .int .u64 0] 54 := (Blk.drew (Blk.new _ _ _)).later hb5)
             try (have z5a := z5.cell 0; have z5b := z5.cell 1; have z5c := z5.fr 0; have z5d := z5.fr 1))
          | (go_at_call 69
             refine (HG.out _ (by first | (with_reducible exact (Below.refl _ _).drew) | (with_reducible exact (last3 (by assumption))))).mono ?_
             rintro e w6 ⟨a6, c6, rfl, hn6, hb6⟩
             have hw6 : Below w2.heap.size w2 w6 := Below.trans (by first | (with_reducible exact (Below.refl _ _).drew) | (with_reducible exact (last3 (by assumption)))) (hb6.mono (Below.size (B := w2.heap.size) (w := w2) (by first | (with_reducible exact (Below.refl _ _).drew) | (with_reducible exact (last3 (by assumption))))))
             have hf6 : NdCells w6 (some ⟨b5, 0, none⟩) [⟨1, 0, []⟩] := (by first | exact hf5.keep hb6 | exact hf5.keep (((Below.refl _ _).alloc (Nat.le_refl _) _).trans (hb6.mono (by simp))))
             try (have z6 : Blk w6 w2.heap.size #[.int .u64 0, .int .u64 0] 54 := z5.later hb6)
             try (have z6 : Blk w6 w5.heap.size #[.int .u64 0, .int .u64 0] 54 := (Blk.new _ _ _).later hb6)
             have hc6 := hn6.cells)
          | (go_at_call 120
             refine (HCT.out _ b5 a6 c6 ?_ ?_ (by first | (with_reducible exact (Below.refl _ _).drew) | (with_reducible exact (last3 (by assumption))))).mono ?_
             · first | exact hf6 | exact hf6.keep ((Below.refl _ _).alloc (Nat.le_refl _) _)
             · first | exact hc6 | exact hc6.keep ((Below.refl _ _).alloc (Nat.le_refl _) _)
             rintro e w7 ⟨rfl, hb7⟩
             have hw7 : Below w2.heap.size w2 w7 := Below.trans (by first | (with_reducible exact (Below.refl _ _).drew) | (with_reducible exact (last3 (by assumption)))) (hb7.mono (Below.size (B := w2.heap.size) (w := w2) (by first | (with_reducible exact (Below.refl _ _).drew) | (with_reducible exact (last3 (by assumption))))))
             try (have z7 : Blk w7 w2.heap.size #[.int .u64 0, .int .u64 0] 54 := z6.later hb7)
             try (have z7 : Blk w7 w5.heap.size #[.int .u64 0, .int .u64 0] 54 := z6.later hb7)
             try (have z7 : Blk w7 w6.heap.size #[.int .u64 0, .int .u64 0] 54 := (Blk.new _ _ _).later hb7)
             try (have z7a := z7.cell 0; have z7b := z7.cell 1; have z7c := z7.fr 0; have z7d := z7.fr 1)))
      all_goals
        have HFB := Lib.hid (HB2.out.trans (Below.mono (B := w2.heap.size) (last3 (by assumption)) HB2.out.size))
        go_wp2
        go_ret2
        exact ⟨by rw [HR.out, HC.out, HCL.out]; cases cntL n [⟨1, 0, []⟩] (gvL n xs l) <;> rfl, HFB.out⟩
    · have HCL := Lib.hid hcl
      clear hcl
      go_enter Tryz.func57, Tryz.ntmps57
      go_wp2_with fail
      refine HCK.out.mono ?_
      rintro e w1 ⟨rfl, hb1⟩
      have HB1 := Lib.hid (HB0.out.trans (hb1.mono HB0.out.size))
      have HOP := Lib.hid (opposites_any b cap2 xs w1 hxl (HXS.out.keep HB1.out) HLT.out)
      rw [HCL.out] at HOP
      clear hb1
      go_wp2_with fail
      refine HOP.out.mono ?_
      rintro e w2 ⟨v2, rfl, ho2, hb2⟩
      have HB2 := Lib.hid (HB1.out.trans (hb2.mono HB1.out.size))
      clear hb2 ho2
      go_wp2
      go_ret2
      exact ⟨by rw [HR.out, HC.out, HCL.out]; rfl, HB2.out⟩
  · have HR : Hid (impR ⟨n, l⟩ xs = false) := by show _ = _; unfold impR; rw [decide_eq_false hc]; rfl
    have hcb : (chkR xs ⟨n, l⟩ != 0) = true := by simpa using hc
    clear hc
    go_enter Tryz.func57, Tryz.ntmps57
    go_wp2_with fail
    refine HCK.out.mono ?_
    rintro e w1 ⟨rfl, hb1⟩
    have HB1 := Lib.hid (HB0.out.trans (hb1.mono HB0.out.size))
    clear hb1
    go_wp2
    go_ret2
    exact ⟨by rw [HR.out]; rfl, HB1.out⟩
end Go.Proofs.YtkaojolofaanfaaGreatDoor
