/- Part of the proofs that laws of censuslaw38 return true for every input, where the tables that the rows list are laid. Texts: WideN. -/
import Derived.Test.YteoopkogpjhneaaDoorZB1

/- Plain: chains of decisions and conjunctions of literals in a reduced net, given literals. -/
namespace Cen
theorem redSt_img {n : Int} {l : List Nd} (hl : l.length ≤ 65536) (hL : ndsOk l n l.length) (Q : Nat → List Nd → Int → Prop)
    (mono : ∀ (j : Nat) (L r : List Nd) (i : Int), ndsOk L n L.length → 0 ≤ i → i < (L.length : Int) → Q j L i → Q j (L ++ r) i)
    (step : ∀ (k : Nat) (hk : k < l.length) (L : List Nd) (ats : List Int), L.length < 65536 → ndsOk L n L.length → ndOk (renum ats l[k]) n L.length = true → (∀ j, j < k → Q j L (ats.getD j 0)) → Q k (addL n L (renum ats l[k])).1 (addL n L (renum ats l[k])).2)
    (k : Nat) (hk : k ≤ l.length) : ∀ j, j < k → Q j (redSt n l k).1 ((redSt n l k).2.getD j 0) := by
  induction k with
  | zero => exact fun j hj => absurd hj (Nat.not_lt_zero _)
  | succ k ih =>
    have hi := redSt_ok hl hL k (by omega)
    have hx : ndOk l[k] n k = true := by have := hL k (by omega); simpa [List.getD_eq_getElem?_getD, show k < l.length by omega] using this
    have ih := ih (by omega)
    rw [redSt_succ (by omega)]
    have hlt := Nat.lt_of_le_of_lt hi.le (show k < 65536 by omega)
    have hro := renum_ok hi hx
    obtain ⟨r, hr⟩ := (addL_T hlt hi.nds hro).1
    generalize hst : redSt n l k = st at *
    intro j hj
    have hlen := hi.len
    by_cases e : j = k
    · subst e
      have e3 : (redStep n st l[j]).2.getD j 0 = (addL n st.1 (renum st.2 l[j])).2 := by
        simp only [redStep, List.getD_eq_getElem?_getD]; rw [List.getElem?_append_right (by omega)]; simp [hlen]
      rw [e3]
      exact step j (by omega) st.1 st.2 hlt hi.nds hro ih
    · have e3 : (redStep n st l[k]).2.getD j 0 = st.2.getD j 0 := by
        simp only [redStep, List.getD_eq_getElem?_getD]; rw [List.getElem?_append_left (by omega)]
      rw [e3]
      obtain ⟨a, b⟩ := hi.getD j (by omega)
      show Q j (addL n st.1 (renum st.2 l[k])).1 _
      rw [hr]
      exact mono j _ _ _ hi.nds a b (ih j (by omega))
theorem addL_leaf {n : Int} {L : List Nd} {X : Nd} (hl : L.length < 65536) (hL : ndsOk L n L.length) (hX : ndOk X n L.length = true) (h3 : X.kind ≠ 3) (h4 : X.kind ≠ 4) : nd (addL n L X).1 (addL n L X).2 = ⟨X.kind, X.lit, []⟩ := by
  rcases addL_form hX with ⟨h, e⟩ | ⟨q, hp, _⟩
  · rw [e]; simp only; rw [(putL_T hl hL (ndOk_leaf hX h).1).2.1]
  · rcases hp with ⟨h, _⟩ | ⟨h, _⟩
    · exact absurd h h3
    · exact absurd h h4
theorem ImL.ext {xs : List Int} {L r : List Nd} {x i : Int} (h0 : 0 ≤ i) (h1 : i < (L.length : Int)) (h : ImL xs L x i) : ImL xs (L ++ r) x i := by
  obtain ⟨a, b, c⟩ := h
  unfold ImL
  rw [nd_append h0 h1]
  exact ⟨a, b, fun u v => (c u v).ext h0 h1⟩
theorem ImC.ext {xs : List Int} {L r : List Nd} {n : Int} (hL : ndsOk L n L.length) {ls : List Int} {i : Int} (h0 : 0 ≤ i) (h1 : i < (L.length : Int)) (h : ImC xs L ls i) : ImC xs (L ++ r) ls i := by
  obtain ⟨a, b⟩ := h
  unfold ImC
  rw [nd_append h0 h1]
  exact ⟨a, fun u => (b u).ext hL _ _ h0 h1⟩
theorem ImA.ext {xs : List Int} {L r : List Nd} {n : Int} (hL : ndsOk L n L.length) {ls : List Int} {x i : Int} (h0 : 0 ≤ i) (h1 : i < (L.length : Int)) (h : ImA xs L x ls i) : ImA xs (L ++ r) x ls i := by
  have e := nd_append (r := r) h0 h1
  refine ⟨fun u => ?_, fun u v w => ?_, fun u v w => ?_, fun u v w => ?_, fun u v w z => ?_, fun u v w z => ?_⟩
  · rw [e]; exact h.a u
  · rw [e]; exact h.b u v w
  · exact (h.c u v w).ext h0 h1
  · exact (h.d u v w).ext hL _ _ h0 h1
  · rw [e]; exact h.e u v w z
  · exact (h.f u v w z).ext hL h0 h1
/-- Literals of different variables. -/
def dist (ls : List Int) : Prop := ls.Pairwise fun x y => y ≠ x ∧ y ≠ -x
theorem ImL.one {xs : List Int} {L : List Nd} {x i : Int} (h : ImL xs L x i) : ImC xs L [x] i := by
  by_cases h1 : x ∈ xs
  · exact ⟨fun _ => h.1 h1, fun h2 => absurd ⟨x, by simp, h1⟩ h2⟩
  · refine ⟨fun ⟨y, hy, h2⟩ => by simp only [List.mem_singleton] at hy; subst hy; exact absurd h2 h1, fun _ => ?_⟩
    rw [left_cons]
    by_cases h3 : -x ∈ xs
    · rw [if_pos h3]; exact h.2.1 h1 h3
    · rw [if_neg h3]; exact h.2.2 h1 h3
theorem renum_mem {ats ins : List Int} {p q : Int} (h : ∀ j, j ∈ ins ↔ j = p ∨ j = q) : ∀ j, j ∈ (ins.map fun k => ats.getD k.toNat 0) ↔ j = ats.getD p.toNat 0 ∨ j = ats.getD q.toNat 0 := fun j => by
  rw [List.mem_map]
  constructor
  · rintro ⟨i, hi, rfl⟩
    rcases (h i).1 hi with rfl | rfl
    · exact .inl rfl
    · exact .inr rfl
  · rintro (rfl | rfl)
    · exact ⟨p, (h p).2 (.inl rfl), rfl⟩
    · exact ⟨q, (h q).2 (.inr rfl), rfl⟩
/-- What the image of a node is. -/
def QC (xs : List Int) (l : List Nd) (j : Nat) (L : List Nd) (i : Int) : Prop :=
  (∀ x, SLit l x j → ImL xs L x i) ∧ (∀ ls, Ch l ls j → dist ls → ImC xs L ls i) ∧ ∀ x ls, AndOf l (Ch l ls) x j → dist (x :: ls) → ImA xs L x ls i
theorem gvNd_inner {xs : List Int} {x : Nd} (h : x.kind ≠ 2) : gvNd xs x = x := by unfold gvNd; rw [if_neg (fun e => h e.1), if_neg (fun e => h e.1)]
theorem lit_step {n : Int} {xs : List Int} {L : List Nd} {ats : List Int} {y : Nd} (hl : L.length < 65536) (hL : ndsOk L n L.length) (hX : ndOk (renum ats (gvNd xs y)) n L.length = true) (h2 : y.kind = 2) :
    ImL xs (addL n L (renum ats (gvNd xs y))).1 y.lit (addL n L (renum ats (gvNd xs y))).2 := by
  unfold gvNd at hX ⊢
  by_cases h : y.lit ∈ xs
  · rw [if_pos ⟨h2, h⟩] at hX ⊢
    have e := addL_leaf hl hL hX (by simp [renum]) (by simp [renum])
    refine ⟨fun _ => by rw [e]; rfl, fun a => absurd h a, fun a => absurd h a⟩
  · rw [if_neg (fun e => h e.2)] at hX ⊢
    by_cases h' : -y.lit ∈ xs
    · rw [if_pos ⟨h2, h'⟩] at hX ⊢
      have e := addL_leaf hl hL hX (by simp [renum]) (by simp [renum])
      exact ⟨fun a => absurd a h, fun _ _ => by rw [e]; rfl, fun _ a => absurd h' a⟩
    · rw [if_neg (fun e => h' e.2)] at hX ⊢
      have e := addL_leaf hl hL hX (by simp only [renum]; omega) (by simp only [renum]; omega)
      exact ⟨fun a => absurd a h, fun _ a => absurd a h', fun _ _ => ⟨by rw [e]; exact h2, by rw [e]; rfl⟩⟩
theorem gv_img {n : Int} {l : List Nd} {xs : List Int} (h : netOk ⟨n, l⟩ = true) (hc : noClash xs) : ∀ j, j < l.length → QC xs l j (redSt n (l.map (gvNd xs)) l.length).1 ((redSt n (l.map (gvNd xs)) l.length).2.getD j 0) := by
  have h' := gvL_ok (xs := xs) h
  obtain ⟨_, _, h1, h2⟩ := netOk_head h
  have hLs : ndsOk l n l.length := by simp [netOk] at h; exact h.2
  have hL : ndsOk (l.map (gvNd xs)) n (l.map (gvNd xs)).length := by simp [netOk] at h' ⊢; exact h'.2
  simp only at h1 h2
  have key := redSt_img (n := n) (l := l.map (gvNd xs)) (by simpa using h2) hL (QC xs l) (fun j L r i hL h0 h1 ⟨a, b, c⟩ => ⟨fun x hx => (a x hx).ext h0 h1, fun ls hx hd => (b ls hx hd).ext hL h0 h1, fun x ls hx hd => (c x ls hx hd).ext hL h0 h1⟩) ?_ l.length (by simp)
  · exact key
  intro k hk L ats hlt hok hX ih
  have hkl : k < l.length := by simpa using hk
  rw [List.getElem_map] at hX ⊢
  have e0 : nd l (k : Int) = l[k] := by rw [nd_get (by omega) (by omega)]; simp
  have hin : ∀ i ∈ l[k].ins, 0 ≤ i ∧ i < (k : Int) := netOk_ins h hkl
  have ihI : ∀ i ∈ l[k].ins, QC xs l i.toNat L (ats.getD i.toNat 0) := fun i hi => ih i.toNat (by have := hin i hi; omega)
  have cast : ∀ i ∈ l[k].ins, ((i.toNat : Nat) : Int) = i := fun i hi => by have := hin i hi; omega
  have Q1 : ∀ x, SLit l x k → ImL xs (addL n L (renum ats (gvNd xs l[k]))).1 x (addL n L (renum ats (gvNd xs l[k]))).2 := fun x ⟨a, b⟩ => by
    rw [e0] at a b
    rw [← b]
    exact lit_step hlt hok hX a
  refine ⟨Q1, fun ls hch hd => ?_, fun x ls han hd => ?_⟩
  · match ls, hch, hd with
    | [], hch, _ =>
      have hch : (nd l (k : Int)).kind = 0 := hch
      rw [e0] at hch
      rw [gvNd_inner (by omega)] at hX ⊢
      have e := addL_leaf hlt hok hX (by simp only [renum]; omega) (by simp only [renum]; omega)
      refine ⟨fun ⟨y, hy, _⟩ => by simp at hy, fun _ => ?_⟩
      show (nd _ _).kind = 0
      rw [e]; exact hch
    | [x], hch, _ => exact (Q1 x hch).one
    | x :: y :: t, hch, hd =>
      obtain ⟨k4, p, q, hpq, hp, hq⟩ := hch
      rw [e0] at k4 hpq
      rw [gvNd_inner (by omega)] at hX ⊢
      have mp := (hpq p).2 (.inl rfl)
      have mq := (hpq q).2 (.inr rfl)
      have ip := (ihI p mp).1 x (by rw [cast p mp]; exact hp)
      have iq := (ihI q mq).2.2 x (y :: t) (by rw [cast q mq]; exact hq) hd
      exact add_or hlt hok hX k4 (renum_mem hpq) ip iq
  · obtain ⟨k3, c, m, hcm, hcc, hm⟩ := han
    rw [e0] at k3 hcm
    rw [gvNd_inner (by omega)] at hX ⊢
    have mc := (hcm c).2 (.inl rfl)
    have mm := (hcm m).2 (.inr rfl)
    have hd' := List.pairwise_cons.1 hd
    have ic := (ihI c mc).2.1 ls (by rw [cast c mc]; exact hcc) hd'.2
    have im := (ihI m mm).1 (-x) (by rw [cast m mm]; exact hm)
    exact add_and hlt hok hX k3 (renum_mem hcm) ic im hc hd'.1
/-- Conjunctions. -/
def QA (xs ls : List Int) (l : List Nd) (j : Nat) (L : List Nd) (i : Int) : Prop :=
  (∀ x, SLit l x j → ImL xs L x i) ∧ (Al l ls j → ((∃ x ∈ ls, -x ∈ xs) → (nd L i).kind = 0) ∧ ((∀ x ∈ ls, -x ∉ xs) → Al L ls i))
theorem gv_imgA {n : Int} {l : List Nd} {xs ls : List Int} (h : netOk ⟨n, l⟩ = true) (hno : ∀ x ∈ ls, x ∉ xs) (hopp : ∀ x ∈ ls, ∀ y ∈ ls, x ≠ -y) (h2 : ∃ x ∈ ls, ∃ y ∈ ls, x ≠ y) :
    ∀ j, j < l.length → QA xs ls l j (redSt n (l.map (gvNd xs)) l.length).1 ((redSt n (l.map (gvNd xs)) l.length).2.getD j 0) := by
  have h' := gvL_ok (xs := xs) h
  obtain ⟨_, _, h1, h2'⟩ := netOk_head h
  have hL : ndsOk (l.map (gvNd xs)) n (l.map (gvNd xs)).length := by simp [netOk] at h' ⊢; exact h'.2
  simp only at h1 h2'
  have key := redSt_img (n := n) (l := l.map (gvNd xs)) (by simpa using h2') hL (QA xs ls l) (fun j L r i hL h0 h1 ⟨a, b⟩ => ⟨fun x hx => (a x hx).ext h0 h1, fun hx => ⟨fun u => by rw [nd_append h0 h1]; exact (b hx).1 u, fun u => ((b hx).2 u).ext hL h0 h1⟩⟩) ?_ l.length (by simp)
  · exact key
  intro k hk L ats hlt hok hX ih
  have hkl : k < l.length := by simpa using hk
  rw [List.getElem_map] at hX ⊢
  have e0 : nd l (k : Int) = l[k] := by rw [nd_get (by omega) (by omega)]; simp
  have hin : ∀ i ∈ l[k].ins, 0 ≤ i ∧ i < (k : Int) := netOk_ins h hkl
  have ihI : ∀ i ∈ l[k].ins, QA xs ls l i.toNat L (ats.getD i.toNat 0) := fun i hi => ih i.toNat (by have := hin i hi; omega)
  have cast : ∀ i ∈ l[k].ins, ((i.toNat : Nat) : Int) = i := fun i hi => by have := hin i hi; omega
  refine ⟨fun x ⟨a, b⟩ => by rw [e0] at a b; rw [← b]; exact lit_step hlt hok hX a, fun ⟨k3, s1, s2⟩ => ?_⟩
  rw [e0] at k3 s1 s2
  rw [gvNd_inner (by omega)] at hX ⊢
  refine add_al hlt hok hX k3 hno hopp h2 (fun p hp => ?_) (fun x hx => ?_)
  · simp only [renum, List.mem_map] at hp
    obtain ⟨i, hi, rfl⟩ := hp
    obtain ⟨x, hx, hs⟩ := s1 i hi
    exact ⟨x, hx, (ihI i hi).1 x (by rw [cast i hi]; exact hs)⟩
  · obtain ⟨i, hi, hs⟩ := s2 x hx
    exact ⟨ats.getD i.toNat 0, by simp only [renum, List.mem_map]; exact ⟨i, hi, rfl⟩, (ihI i hi).1 x (by rw [cast i hi]; exact hs)⟩

/-! The net with a root. -/
theorem netInv2 {n : Int} {L : List Nd} (hL : ndsOk L n L.length) {root : Nat} (hr : root < L.length) (k : Nat) (hk : k ≤ root + 1) :
    ∀ j : Nat, j < k → (marks L root).getD j false = true → nd (netSt L ((marks L root).map b2i) k).2 ((netSt L ((marks L root).map b2i) k).1.getD j 0) = ⟨(nd L (j : Int)).kind, (nd L (j : Int)).lit, (nd L (j : Int)).ins.map fun i => (netSt L ((marks L root).map b2i) k).1.getD i.toNat 0⟩ := by
  induction k with
  | zero => exact fun j hj => absurd hj (Nat.not_lt_zero _)
  | succ k ih =>
    have h := netInv hL hr k (by omega)
    have ih := ih (by omega)
    rw [netSt]
    generalize netSt L ((marks L root).map b2i) k = st at h ih ⊢
    have hat := h.later k (Nat.le_refl _)
    rw [getD_b2i] at hat
    unfold netStep
    cases hm : (marks L root).getD k false with
    | false =>
      rw [hm] at hat
      rw [if_pos (by rw [hat]; rfl)]
      intro j hj hmj
      by_cases e : j = k
      · subst e; rw [hm] at hmj; exact absurd hmj (by simp)
      · exact ih j (by omega) hmj
    | true =>
      rw [hm] at hat
      rw [if_neg (by rw [hat]; decide)]
      intro j hj hmj
      have hins := ndOk_ins (nd_ok hL (i := (j : Int)) (by omega) (by omega))
      have hgk : ∀ j, (st.1.set k (st.2.length : Int)).getD j 0 = if j = k then (st.2.length : Int) else st.1.getD j 0 := fun j => by
        simp only [List.getD_eq_getElem?_getD, List.getElem?_set]
        by_cases e : j = k
        · subst e; simp [show j < st.1.length by rw [h.len]; omega]
        · rw [if_neg (fun e2 => e e2.symm), if_neg e]
      have hmap : ((nd L (j : Int)).ins.map fun i => (st.1.set k (st.2.length : Int)).getD i.toNat 0) = (nd L (j : Int)).ins.map fun i => st.1.getD i.toNat 0 := by
        apply List.map_congr_left
        intro i hi
        have := hins i hi
        rw [hgk, if_neg (by omega)]
      simp only [hmap]
      rw [hgk]
      by_cases e : j = k
      · subst e
        rw [if_pos rfl]
        simp [nd, List.getD_eq_getElem?_getD]
      · rw [if_neg e]
        obtain ⟨a, b, _⟩ := h.done j (by omega) hmj
        rw [nd_append a b]
        exact ih j (by omega) hmj
section
variable {n : Int} {L : List Nd} {root : Nat}
/-- Where a node of the list is in the net. -/
def netAt (L : List Nd) (root : Nat) (i : Int) : Int := (netSt L ((marks L root).map b2i) (root + 1)).1.getD i.toNat 0
def Mk (L : List Nd) (root : Nat) (i : Int) : Prop := 0 ≤ i ∧ i ≤ (root : Int) ∧ (marks L root).getD i.toNat false = true
theorem net_nd (hL : ndsOk L n L.length) (hr : root < L.length) {i : Int} (h : Mk L root i) : nd (netL L root) (netAt L root i) = ⟨(nd L i).kind, (nd L i).lit, (nd L i).ins.map (netAt L root)⟩ := by
  obtain ⟨a, b, c⟩ := h
  have := netInv2 hL hr (root + 1) (Nat.le_refl _) i.toNat (by omega) c
  rw [show ((i.toNat : Nat) : Int) = i by omega] at this
  exact this
theorem Mk.ins (hL : ndsOk L n L.length) (hr : root < L.length) {i : Int} (h : Mk L root i) : ∀ j ∈ (nd L i).ins, Mk L root j := by
  intro j hj
  obtain ⟨a, b, c⟩ := h
  have hi := ndOk_ins (nd_ok hL (i := i) a (by omega)) j hj
  have := marks_ins hL hr (i := i.toNat) (by omega) c
  rw [show ((i.toNat : Nat) : Int) = i by omega] at this
  exact ⟨hi.1, by omega, this j hj⟩
theorem SLit.net (hL : ndsOk L n L.length) (hr : root < L.length) {x i : Int} (h : Mk L root i) (hs : SLit L x i) : SLit (netL L root) x (netAt L root i) := by
  unfold SLit at *
  rw [net_nd hL hr h]; exact hs
theorem map_two {ins : List Int} {f : Int → Int} {p q : Int} (h : ∀ j, j ∈ ins ↔ j = p ∨ j = q) : ∀ j, j ∈ ins.map f ↔ j = f p ∨ j = f q := fun j => by
  rw [List.mem_map]
  constructor
  · rintro ⟨i, hi, rfl⟩
    rcases (h i).1 hi with rfl | rfl
    · exact .inl rfl
    · exact .inr rfl
  · rintro (rfl | rfl)
    · exact ⟨p, (h p).2 (.inl rfl), rfl⟩
    · exact ⟨q, (h q).2 (.inr rfl), rfl⟩
theorem Ch.net (hL : ndsOk L n L.length) (hr : root < L.length) : ∀ (ls : List Int) (i : Int), Mk L root i → Ch L ls i → Ch (netL L root) ls (netAt L root i)
  | [], i, hm, h => by unfold Ch at *; rw [net_nd hL hr hm]; exact h
  | [x], i, hm, h => by unfold Ch at *; exact h.net hL hr hm
  | x :: y :: ls, i, hm, h => by
    unfold Ch at h ⊢
    obtain ⟨hk, p, q, hin, hp, hq, c, m, hin2, hc, hm2⟩ := h
    have vi := hm.ins hL hr
    have mp := vi p ((hin p).2 (.inl rfl))
    have mq := vi q ((hin q).2 (.inr rfl))
    have vj := mq.ins hL hr
    have mc := vj c ((hin2 c).2 (.inl rfl))
    have mm := vj m ((hin2 m).2 (.inr rfl))
    rw [net_nd hL hr hm]
    refine ⟨hk, netAt L root p, netAt L root q, map_two hin, hp.net hL hr mp, ?_, netAt L root c, netAt L root m, ?_, Ch.net hL hr (y :: ls) c mc hc, hm2.net hL hr mm⟩
    · rw [net_nd hL hr mq]; exact hq
    · rw [net_nd hL hr mq]; exact map_two hin2
theorem Al.net (hL : ndsOk L n L.length) (hr : root < L.length) {ls : List Int} {i : Int} (hm : Mk L root i) (h : Al L ls i) : Al (netL L root) ls (netAt L root i) := by
  obtain ⟨hk, a, b⟩ := h
  have vi := hm.ins hL hr
  unfold Al
  rw [net_nd hL hr hm]
  refine ⟨hk, fun p hp => ?_, fun x hx => ?_⟩
  · simp only [List.mem_map] at hp
    obtain ⟨j, hj, rfl⟩ := hp
    obtain ⟨x, hx, h⟩ := a j hj
    exact ⟨x, hx, h.net hL hr (vi j hj)⟩
  · obtain ⟨j, hj, h⟩ := b x hx
    exact ⟨netAt L root j, by simp only [List.mem_map]; exact ⟨j, hj, rfl⟩, h.net hL hr (vi j hj)⟩
theorem netAt_root (hL : ndsOk L n L.length) (hr : root < L.length) : Mk L root root ∧ netAt L root root = (((netL L root).length - 1 : Nat) : Int) := by
  have h := netInv hL hr (root + 1) (Nat.le_refl _)
  have hm := marks_root hL hr
  refine ⟨⟨by omega, by omega, by simpa using hm⟩, ?_⟩
  have e := h.last rfl hm
  obtain ⟨a, b, _⟩ := h.done root (by omega) hm
  unfold netAt netL
  rw [show ((root : Nat) : Int).toNat = root by omega, e]
  omega
end
theorem red_at {n : Int} {l : List Nd} (h : netOk ⟨n, l⟩ = true) : ndsOk (redSt n l l.length).1 n (redSt n l l.length).1.length ∧ redRoot n l < (redSt n l l.length).1.length ∧ ((redRoot n l : Nat) : Int) = (redSt n l l.length).2.getD (l.length - 1) 0 := by
  obtain ⟨hn0, hn1, h1, h2⟩ := netOk_head h
  have hL : ndsOk l n l.length := by simp [netOk] at h; exact h.2
  simp only at h1 h2
  have hi := redSt_ok h2 hL l.length (Nat.le_refl _)
  have hg := hi.getD (l.length - 1) (by omega)
  refine ⟨hi.nds, redRoot_lt h2 hL h1, ?_⟩
  unfold redRoot; omega
/-- A chain, given literals. -/
theorem gvL_ch {n : Int} {l : List Nd} {xs ls : List Int} (h : netOk ⟨n, l⟩ = true) (hc : noClash xs) (hd : dist ls) (hch : Ch l ls ((l.length - 1 : Nat) : Int)) :
    (anyIn xs ls → rootK (gvL n xs l) = 1) ∧ (¬ anyIn xs ls → Ch (gvL n xs l) (left xs ls) (((gvL n xs l).length - 1 : Nat) : Int)) := by
  have h' := gvL_ok (xs := xs) h
  have h1 := (netOk_head h).2.2.1
  simp only at h1
  obtain ⟨a, b⟩ := (gv_img h hc (l.length - 1) (by omega)).2.1 ls hch hd
  obtain ⟨r1, r2, r3⟩ := red_at h'
  rw [List.length_map] at r1 r2 r3
  rw [← r3] at a b
  obtain ⟨m1, m2⟩ := netAt_root r1 r2
  have eg : gvL n xs l = netL (redSt n (l.map (gvNd xs)) l.length).1 (redRoot n (l.map (gvNd xs))) := by unfold gvL redL; rw [List.length_map]
  rw [eg, rootK_eq, ← m2]
  refine ⟨fun u => ?_, fun u => Ch.net r1 r2 _ _ m1 (b u)⟩
  rw [net_nd r1 r2 m1]; exact a u
theorem gvL_al {n : Int} {l : List Nd} {xs ls : List Int} (h : netOk ⟨n, l⟩ = true) (hno : ∀ x ∈ ls, x ∉ xs) (hopp : ∀ x ∈ ls, ∀ y ∈ ls, x ≠ -y) (h2 : ∃ x ∈ ls, ∃ y ∈ ls, x ≠ y) (hal : Al l ls ((l.length - 1 : Nat) : Int)) :
    ((∃ x ∈ ls, -x ∈ xs) → rootK (gvL n xs l) = 0) ∧ ((∀ x ∈ ls, -x ∉ xs) → Al (gvL n xs l) ls (((gvL n xs l).length - 1 : Nat) : Int)) := by
  have h' := gvL_ok (xs := xs) h
  have h1 := (netOk_head h).2.2.1
  simp only at h1
  obtain ⟨a, b⟩ := (gv_imgA h hno hopp h2 (l.length - 1) (by omega)).2 hal
  obtain ⟨r1, r2, r3⟩ := red_at h'
  rw [List.length_map] at r1 r2 r3
  rw [← r3] at a b
  obtain ⟨m1, m2⟩ := netAt_root r1 r2
  have eg : gvL n xs l = netL (redSt n (l.map (gvNd xs)) l.length).1 (redRoot n (l.map (gvNd xs))) := by unfold gvL redL; rw [List.length_map]
  rw [eg, rootK_eq, ← m2]
  refine ⟨fun u => ?_, fun u => Al.net r1 r2 m1 (b u)⟩
  rw [net_nd r1 r2 m1]; exact a u
/-- A constant stays one. -/
theorem gvL_k {n : Int} {l : List Nd} {xs : List Int} (h : netOk ⟨n, l⟩ = true) {c : Int} (h0 : c = 0 ∨ c = 1) (hk : rootK l = c) : rootK (gvL n xs l) = c := by
  have h' := gvL_ok (xs := xs) h
  obtain ⟨_, _, h1, h2⟩ := netOk_head h
  have hL : ndsOk (l.map (gvNd xs)) n (l.map (gvNd xs)).length := by simp [netOk] at h' ⊢; exact h'.2
  simp only at h1 h2
  have key := redSt_img (n := n) (l := l.map (gvNd xs)) (by simpa using h2) hL (fun j L i => (nd l (j : Int)).kind = c → (nd L i).kind = c) (fun j L r i hL h0 h1 a u => by rw [nd_append h0 h1]; exact a u) ?_ l.length (by simp) (l.length - 1) (by omega) (by rw [← hk, rootK_eq])
  · obtain ⟨r1, r2, r3⟩ := red_at h'
    rw [List.length_map] at r1 r2 r3
    rw [← r3] at key
    obtain ⟨m1, m2⟩ := netAt_root r1 r2
    have eg : gvL n xs l = netL (redSt n (l.map (gvNd xs)) l.length).1 (redRoot n (l.map (gvNd xs))) := by unfold gvL redL; rw [List.length_map]
    rw [eg, rootK_eq, ← m2, net_nd r1 r2 m1]; exact key
  intro k hk L ats hlt hok hX ih u
  have hkl : k < l.length := by simpa using hk
  rw [List.getElem_map] at hX ⊢
  have e0 : nd l (k : Int) = l[k] := by rw [nd_get (by omega) (by omega)]; simp
  rw [e0] at u
  rw [gvNd_inner (by omega)] at hX ⊢
  have e := addL_leaf hlt hok hX (by simp only [renum]; omega) (by simp only [renum]; omega)
  rw [e]; exact u
end Cen
