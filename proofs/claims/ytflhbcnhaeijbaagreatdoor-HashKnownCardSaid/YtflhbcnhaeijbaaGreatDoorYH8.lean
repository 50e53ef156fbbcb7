/- Part of the proofs that laws return true for every input, where the tables that the rows list are laid. Texts: CqV, CqW, CqX. -/
import Derived.Test.YtflhbcnhaeijbaaGreatDoorYH7
import Derived.Test.YtflhbcnhaeijbaaGreatDoorYH1
set_option maxHeartbeats 8000000
set_option maxRecDepth 100000
set_option linter.unusedSimpArgs false
set_option linter.unusedVariables false
namespace Cen
structure Clm where
 tm : Cl
 at' : List Int
def labs (x : Int) : Int := if x < 0 then -x else x
def tmOk (n : Nat) (tm : Cl) (i : Nat) : Bool := (decide (tm.getD i 0 ≠ 0) && decide (tm.getD i 0 <= n) && decide (-(n : Int) <= tm.getD i 0)) && (List.range i).all fun k => decide (labs (tm.getD k 0) ≠ labs (tm.getD i 0))
def ixOk (m : Nat) (a : List Int) (i : Nat) : Bool := decide (0 <= a.getD i 0) && decide (a.getD i 0 < m) && (decide (i = 0) || decide (a.getD (i - 1) 0 < a.getD i 0))
def zbk (n m : Nat) (c : Clm) : Bool := (List.range c.tm.length).all (tmOk n c.tm) && (List.range c.at'.length).all (ixOk m c.at')
def givT (term : Cl) (t : List Cl) : List Cl := (t.filter fun c => !c.any fun x => term.contains x).map fun c => c.filter fun y => !term.contains (-y)
def pick (t : List Cl) (a : List Int) : List Cl := a.map fun i => t.getD i.toNat []
def resF (n : Nat) (t : List Cl) (c : Clm) : Option (List Cl) := if zbk n t.length c then some (zab n (givT c.tm (pick t c.at'))) else none
structure tOk (n : Nat) (t : List Cl) : Prop where
 len : t.length <= 4096
 cl : ∀ c ∈ t, c.length <= 128 /\ ∀ x ∈ c, litN n x
theorem tOk.rg {n : Nat} {t : List Cl} (h : tOk n t) : ∀ c ∈ t, ∀ x ∈ c, x ≠ 0 /\ -(n : Int) <= x /\ x <= n := fun c hc x hx => (h.cl c hc).2 x hx
theorem zdf {n : Nat} (hn : n <= 128) {c : Cl} (f : Int -> Bool) (hc : ∀ x ∈ c, litN n x) : zaw n (c.filter f) = (zaw n c).filter f :=
 (zej hn ((zei hn c).filter _) (fun x => by
   rw [List.mem_filter, List.mem_filter, zbi]
   exact ⟨fun h => ⟨h.1.1, h.2⟩, fun h => ⟨⟨h.1, hc x h.1⟩, h.2⟩⟩) fun x hx => hc x (List.mem_filter.1 hx).1).symm
theorem zcw {n : Nat} (hn : n <= 128) {c : Cl} (h : gC n c) : zaw n c = c := (zej hn h.so (fun _ => Iff.rfl) h.rg).symm
theorem zi8 {c : Cl} {f : Int -> Bool} (h : taut c = false) : taut (c.filter f) = false := by
 cases e : taut (c.filter f) with
 | false => rfl
 | true =>
   obtain ⟨x, hx, hy⟩ := zcd.1 e;rw [zcd.2 ⟨x, (List.mem_filter.1 hx).1, (List.mem_filter.1 hy).1⟩] at h; simp at h
theorem gC.taut {n : Nat} {c : Cl} (h : gC n c) : taut c = false := by
 cases e : Cen.taut c with
 | false => rfl
 | true => obtain ⟨x, hx, hx'⟩ := zcd.1 e; exact absurd hx' (h.nt x hx)
theorem gC.gT {n : Nat} (hn : n <= 128) {c : Cl} (h : gC n c) : gT n c := ⟨h.rg, (List.Pairwise.imp_of_mem (fun {a b} ha hb hab e => by
 unfold ltL at hab;rw [zcm] at hab;have h1 := h.rg a ha;have h2 := h.rg b hb;rw [zal h1.1 (by omega) (by omega), zal h2.1 (by omega) (by omega)] at e
 rcases zqk e with e' | e'
 ·subst e'; omega
 exact h.nt b hb (e' ▸ ha)) h.so)⟩
theorem gC.len {n : Nat} (hn : n <= 128) {c : Cl} (h : gC n c) : c.length <= 128 := Nat.le_trans ((h.gT hn).len hn) hn
theorem gL.ok {n : Nat} (hn : n <= 128) {l : List Cl} (h : ∀ c ∈ l, gC n c) (hl : l.length <= 4096) : tOk n l := ⟨hl, fun c hc => ⟨(h c hc).len hn, (h c hc).rg⟩⟩
theorem zbp {term : Cl} {t : List Cl} {d : Cl} : d ∈ givT term t ↔ ∃ c ∈ t, (∀ x ∈ c, x ∉ term) /\ d = c.filter fun y => !term.contains (-y) := by
 unfold givT;rw [List.mem_map]
 constructor
 ·rintro ⟨c, hc, rfl⟩;rw [List.mem_filter] at hc
  exact ⟨c, hc.1, fun x hx hm => by
   have h1 := hc.2;rw [Bool.not_eq_true', List.any_eq_false] at h1
   exact h1 x hx (by simpa using hm), rfl⟩
 rintro ⟨c, hc, hx, rfl⟩;refine ⟨c, List.mem_filter.2 ⟨hc, ?_⟩, rfl⟩;rw [Bool.not_eq_true', List.any_eq_false];intro x hxc
 simpa using hx x hxc
theorem zdx (term : Cl) (t : List Cl) : (givT term t).length <= t.length := by unfold givT; rw [List.length_map]; exact List.length_filter_le _ _
theorem zc4 {n : Nat} {t : List Cl} {d : Cl} : d ∈ zab n t ↔ ∃ c ∈ t, taut c = false /\ d = zaw n c := by
 unfold zab;rw [zba, List.mem_map]
 constructor
 ·rintro ⟨c, hc, rfl⟩;rw [List.mem_filter] at hc;exact ⟨c, hc.1, by simpa using hc.2, rfl⟩
 rintro ⟨c, hc, ht, rfl⟩;exact ⟨c, List.mem_filter.2 ⟨hc, by simp [ht]⟩, rfl⟩
theorem zms {n : Nat} (hn : n <= 128) {l : List Cl} (h : gL n l) : zab n l = l := by
 have : ∀ x, x ∈ zab n l ↔ x ∈ l := fun d => by
  rw [zc4]
  constructor
  ·rintro ⟨c, hc, _, rfl⟩; rw [zcw hn (h.gc c hc)]; exact hc
  intro hd; exact ⟨d, hd, (h.gc d hd).taut, (zcw hn (h.gc d hd)).symm⟩
 exact zbq (fun _ _ => zb7) (zax _) h.so this
theorem zva {n : Nat} (hn : n <= 128) {r : List Cl} (h : ∀ c ∈ r, gC n c) (x : Int) : zab n (givT [x] r) = zai r x := by
 refine zbq (fun _ _ => zb7) (zax _) (zax _) fun d => ?_
 show d ∈ zab n (givT [x] r) ↔ d ∈ zai r x
 rw [zc4, zcb]
 have e : ∀ c ∈ r, (c.filter fun y => !([x] : Cl).contains (-y)) = c.filter fun y => decide (y ≠ -x) := fun c _ => by
  apply List.filter_congr
  intro y _
  by_cases h : y = -x
  ·subst h; simp
  have : ¬ (-y = x) := fun h' => h (by omega)
  simp [h, this]
 constructor
 ·rintro ⟨b, hb, _, rfl⟩;obtain ⟨c, hc, hx, rfl⟩ := zbp.1 hb;refine ⟨c, hc, fun hm => hx x hm (by simp), ?_⟩;rw [zdf hn _ (h c hc).rg, zcw hn (h c hc), e c hc]
 rintro ⟨c, hc, hx, rfl⟩;refine ⟨c.filter fun y => decide (y ≠ -x), zbp.2 ⟨c, hc, fun y hy hm => ?_, (e c hc).symm⟩, zi8 (h c hc).taut, ?_⟩
 ·simp at hm; subst hm; exact hx hy
 rw [zdf hn _ (h c hc).rg, zcw hn (h c hc)]
theorem zwr {n : Nat} (hn : n <= 128) {T : Cl} (h : gT n T) : (List.range T.length).all (tmOk n T) = true := by
 rw [List.all_eq_true];intro i hi;rw [List.mem_range] at hi
 have e : ∀ k, k < T.length -> T.getD k 0 ∈ T := fun k hk => by
  rw [List.getD_eq_getElem?_getD, List.getElem?_eq_getElem hk]; exact List.getElem_mem hk
 have hr := h.rg _ (e i hi);unfold tmOk;simp only [Bool.and_eq_true, decide_eq_true_eq, List.all_eq_true, List.mem_range];refine ⟨⟨⟨hr.1, hr.2.2⟩, hr.2.1⟩, fun k hk => ?_⟩;have hp := List.pairwise_iff_getElem.1 h.nd k i (by omega) hi hk;have hk' := h.rg _ (e k (by omega))
 have e1 : T.getD k 0 = T[k]'(by omega) := by rw [List.getD_eq_getElem?_getD, List.getElem?_eq_getElem (by omega)]; rfl
 have e2 : T.getD i 0 = T[i] := by rw [List.getD_eq_getElem?_getD, List.getElem?_eq_getElem hi]; rfl
 rw [e1] at hk' ⊢;rw [e2] at hr ⊢;rw [zal hk'.1 (by have := hk'.2; omega) (by have := hk'.2; omega), zal hr.1 (by have := hr.2; omega) (by have := hr.2; omega)] at hp;exact hp
theorem zul (l : List Int) : (zcu l).Pairwise fun a b => a <= b := by
 have := List.pairwise_mergeSort (le := fun (x y : Int) => decide (x <= y)) (fun a b c h1 h2 => by simp at *; omega) (fun a b => by simp; omega) l
 exact this.imp fun h => by simpa using h
theorem zum {l : List Int} (h : l.Nodup) : (zcu l).Pairwise fun a b => a < b := by
 have h1 := zul l;have h2 : (zcu l).Nodup := ((List.mergeSort_perm l _).nodup_iff).2 h;have h2 : (zcu l).Pairwise (· ≠ ·) := h2
 exact (h1.and h2).imp fun h => by omega
theorem zwd {m : Nat} {a : List Int} (h : a.Pairwise fun x y => x < y) (hr : ∀ i ∈ a, 0 <= i /\ i < m) : (List.range a.length).all (ixOk m a) = true := by
 rw [List.all_eq_true];intro i hi;rw [List.mem_range] at hi
 have e2 : a.getD i 0 = a[i] := by rw [List.getD_eq_getElem?_getD, List.getElem?_eq_getElem hi]; rfl
 have := hr a[i] (List.getElem_mem hi);unfold ixOk;simp only [Bool.and_eq_true, Bool.or_eq_true, decide_eq_true_eq];rw [e2];refine ⟨this, ?_⟩
 by_cases h0 : i = 0
 ·exact .inl h0
 right
 have e1 : a.getD (i - 1) 0 = a[i - 1]'(by omega) := by rw [List.getD_eq_getElem?_getD, List.getElem?_eq_getElem (by omega)]; rfl
 rw [e1];exact List.pairwise_iff_getElem.1 h (i - 1) i (by omega) hi (by omega)
theorem Left1.fun {n : Nat} {t : List Cl} {term : Cl} {i : Int} {c d : Cl} (h : Left1 n t term i c) (k : Left1 n t term i d) : c = d := by
 obtain ⟨j, _, e, _, _, rfl⟩ := h;obtain ⟨j', _, e', _, _, rfl⟩ := k
 have : j = j' := by omega
 subst this; rfl
theorem zxf {n : Nat} (hn : n <= 128) {t : List Cl} (ht : ∀ c ∈ t, ∀ x ∈ c, litN n x) {l : List Cl} {term : Cl} {a : List Int} (hg : gL n l) (hT : gT n term) (h : ClOf n t l term a) : resF n t ⟨term, a⟩ = some l := by
 obtain ⟨m, rfl, rfl, hm⟩ := h
 have hnd : (m.map Prod.fst).Nodup := by
  show List.Pairwise _ _
  rw [List.pairwise_map];have h1 := hg.so;rw [List.pairwise_map] at h1;refine List.Pairwise.imp_of_mem (fun {a b} ha hb hab e => ?_) h1;have ha' := hm a ha;rw [e] at ha';have := ha'.fun (hm b hb);rw [this] at hab;exact zeq _ hab
 have hix : ∀ i ∈ zcu (m.map Prod.fst), ∃ e ∈ m, e.1 = i := fun i hi => by
  rw [zmw, List.mem_map] at hi;exact hi
 have hf : zbk n t.length ⟨term, zcu (m.map Prod.fst)⟩ = true := by
  unfold zbk
  rw [zwr hn hT, zwd (zum hnd) fun i hi => ?_]; · rfl
  obtain ⟨e, he, rfl⟩ := hix i hi;obtain ⟨j, hj, hij, _⟩ := hm e he;omega
 unfold resF;rw [if_pos hf]
 congr 1
 refine zbq (fun _ _ => zb7) (zax _) hg.so fun d => ?_
 show d ∈ zab n _ ↔ _
 rw [zc4]
 have hgd : ∀ j, j < t.length -> t.getD j [] ∈ t := fun j hj => by
  rw [List.getD_eq_getElem?_getD, List.getElem?_eq_getElem hj]; exact List.getElem_mem hj
 constructor
 ·rintro ⟨b, hb, _, rfl⟩;obtain ⟨c, hc, hx, rfl⟩ := zbp.1 hb;unfold pick at hc;obtain ⟨i, hi, rfl⟩ := List.mem_map.1 hc;obtain ⟨e, he, rfl⟩ := hix i hi;obtain ⟨j, hj, hij, h1, h2, h3⟩ := hm e he;rw [hij, Int.toNat_natCast] at *;rw [zdf hn _ (ht _ (hgd j hj))];rw [List.mem_map];exact ⟨e, he, h3⟩
 intro hd;obtain ⟨e, he, rfl⟩ := List.mem_map.1 hd;obtain ⟨j, hj, hij, h1, h2, h3⟩ := hm e he;refine ⟨(t.getD j []).filter fun y => !term.contains (-y), zbp.2 ⟨t.getD j [], ?_, fun x hx hm => ?_, rfl⟩, zi8 h1, ?_⟩
 ·unfold pick;rw [List.mem_map];exact ⟨e.1, by rw [zmw, List.mem_map]; exact ⟨e, he, rfl⟩, by rw [hij, Int.toNat_natCast]⟩
 ·exact h2 x hm (zbi.2 ⟨hx, ht _ (hgd j hj) x hx⟩)
 rw [zdf hn _ (ht _ (hgd j hj))]; exact h3
def hasU (r : List Cl) (x : Int) : Bool := r.any fun c => decide (c = [x])
def zea (r : List Cl) : Bool := r.any fun c => decide (c = [])
def okT (n : Nat) (t : List Cl) : Bool := decide (t.length <= 4096) && t.all fun c => decide (c.length <= 128) && c.all fun x => zas x n
def zbs (n : Nat) (t : List Cl) : St := if okT n t then zaf t else St.zero
def zd6 (n : Nat) (a b : List Cl) : Bool := decide ((zbs n a).cut (zbs n b) ≠ St.zero)
def zcg (a x : List Cl) : List Cl := x.foldl (fun a c => if decide (c ≠ []) || !zea a then a ++ [c] else a) a
structure Prf where
 n : Nat
 t : List Cl
 N : List Nd
 C : List Clm
def Prf.res (p : Prf) (i : Int) : Option (List Cl) := resF p.n p.t (p.C.getD i.toNat ⟨[], []⟩)
structure FS where
 used : List Bool
 r : List Cl
 again : Bool
def Prf.cond (p : Prf) (ins : List Int) (s : FS) (k : Nat) : Bool := (!s.used.getD k true) && (decide ((nd p.N (ins.getD k 0)).kind = 2) && hasU s.r (nd p.N (ins.getD k 0)).lit)
def Prf.fstep (p : Prf) (ins : List Int) (s : FS) (k : Nat) : FS :=
 if p.cond ins s k then ⟨s.used.set k true, zab p.n (givT [(nd p.N (ins.getD k 0)).lit] s.r), true⟩ else s
def Prf.fpass (p : Prf) (ins : List Int) (k : Nat) (s : FS) : FS := (List.range k).foldl (p.fstep ins) ⟨s.used, s.r, false⟩
def Prf.floop (p : Prf) (ins : List Int) : Nat -> FS -> FS
 | 0, s => s
 | f + 1, s => if (p.fpass ins ins.length s).again then p.floop ins f (p.fpass ins ins.length s) else p.fpass ins ins.length s
def Prf.fone (p : Prf) (ins : List Int) (used : List Bool) (all : List Cl) (k : Nat) : Option (List Cl) :=
 if used.getD k true then some all else match p.res (ins.getD k 0) with
  | none => none
  | some x => if decide ((nd p.N (ins.getD k 0)).kind = 2) || zd6 p.n all x then none else some (zcg all x)
def Prf.fall (p : Prf) (ins : List Int) (used : List Bool) (k : Nat) : Option (List Cl) := (List.range k).foldl (fun a k => a.bind fun all => p.fone ins used all k) (some [])
def Prf.fend (p : Prf) (ins : List Int) (s : FS) : Bool := match p.fall ins s.used ins.length with
 | none => false
 | some all => okT p.n all && decide (s.r = zab p.n all)
def Prf.fit (p : Prf) (r : List Cl) (ins : List Int) : Bool := p.fend ins (p.floop ins (ins.length + 1) ⟨List.replicate ins.length false, r, true⟩)
theorem zc2 {n : Nat} (hn : n <= 128) {x : Int} : zas x n = true ↔ litN n x := by
 unfold zas litN;rw [Bool.and_eq_true, decide_eq_true_eq, decide_eq_true_eq];unfold zac
 (repeat' split) <;> omega
theorem zix {n : Nat} (hn : n <= 128) {t : List Cl} : okT n t = true ↔ tOk n t := by
 unfold okT;simp only [Bool.and_eq_true, decide_eq_true_eq, List.all_eq_true]
 constructor
 ·rintro ⟨a, b⟩;exact ⟨a, fun c hc => ⟨(b c hc).1, fun x hx => (zc2 hn).1 ((b c hc).2 x hx)⟩⟩
 rintro ⟨a, b⟩;exact ⟨a, fun c hc => ⟨(b c hc).1, fun x hx => (zc2 hn).2 ((b c hc).2 x hx)⟩⟩
theorem zdm (p : Prf) (ins : List Int) (k : Nat) (s : FS) : p.fpass ins (k + 1) s = p.fstep ins (p.fpass ins k s) k := by
 unfold Prf.fpass; rw [List.range_succ, List.foldl_append]; rfl
theorem zdn (p : Prf) (ins : List Int) (s : FS) : ∀ k, (p.fpass ins k s).used.length = s.used.length
 | 0 => rfl
 | k + 1 => by
   rw [zdm];unfold Prf.fstep
   split
   ·simp [zdn p ins s k]
   exact zdn p ins s k
theorem zif {p : Prf} {ins : List Int} {s : FS} : ∀ k, (p.fpass ins k s).again = false -> p.fpass ins k s = ⟨s.used, s.r, false⟩ /\ ∀ j, j < k -> p.cond ins ⟨s.used, s.r, false⟩ j = false
 | 0, _ => ⟨rfl, fun j h => by omega⟩
 | k + 1, h => by
   rw [zdm] at h ⊢;unfold Prf.fstep at h ⊢
   cases hc : p.cond ins (p.fpass ins k s) k with
   | true => rw [hc, if_pos rfl] at h; simp at h
   | false =>
     rw [hc, if_neg (by simp)] at h;rw [if_neg (by simp)];obtain ⟨a, b⟩ := zif k h;refine ⟨a, fun j hj => ?_⟩
     rcases Nat.lt_or_ge j k with h1 | h1
     ·exact b j h1
     have : j = k := by omega
     subst this; rw [<- a]; exact hc
def zhc (l : List Bool) : Nat := l.countP fun b => !b
theorem zt7 {l : List Bool} {k : Nat} (hk : k < l.length) (h : l.getD k true = false) : zhc (l.set k true) + 1 = zhc l := by
 induction l generalizing k with
 | nil => simp at hk
 | cons b l ih =>
   cases k with
   | zero =>
     simp at h; subst h
     simp [zhc]
   | succ k =>
     have := ih (k := k) (by simpa using hk) (by simpa using h);unfold zhc at *;rw [List.set_cons_succ, List.countP_cons, List.countP_cons];omega
theorem zq4 {l : List Bool} {k : Nat} (h : l.getD k true = false) : k < l.length := by
 rcases Nat.lt_or_ge k l.length with h1 | h1
 ·exact h1
 rw [List.getD_eq_getElem?_getD, List.getElem?_eq_none h1] at h; simp at h
theorem zgf (p : Prf) (ins : List Int) (s : FS) : ∀ k, zhc (p.fpass ins k s).used + (if (p.fpass ins k s).again then 1 else 0) <= zhc s.used
 | 0 => by simp [Prf.fpass]
 | k + 1 => by
   have ih := zgf p ins s k;rw [zdm];unfold Prf.fstep
   cases hc : p.cond ins (p.fpass ins k s) k with
   | true =>
     rw [if_pos rfl];simp only [if_true];unfold Prf.cond at hc;simp only [Bool.and_eq_true, Bool.not_eq_true'] at hc;have := zt7 (zq4 hc.1) hc.1
     split at ih <;> omega
   | false => rw [if_neg (by simp)]; exact ih
theorem zmb {p : Prf} {ins : List Int} (Q : FS -> Prop) (h0 : ∀ s, Q s -> Q ⟨s.used, s.r, false⟩) (hs : ∀ s k, Q s -> k < ins.length -> Q (p.fstep ins s k)) : ∀ (f : Nat) (s : FS), Q s -> zhc s.used < f ->
 ∃ s', p.floop ins f s = s' /\ Q s' /\ s'.again = false /\ ∀ j, j < ins.length -> p.cond ins s' j = false
 | 0, s, _, h => by omega
 | f + 1, s, hq, hf => by
   have hp : ∀ k, k <= ins.length -> Q (p.fpass ins k s) := fun k => by
    induction k with
    | zero => intro _; exact h0 s hq
    | succ k ih => intro hk; rw [zdm]; exact hs _ k (ih (by omega)) (by omega)
   rw [Prf.floop]
   cases ha : (p.fpass ins ins.length s).again with
   | true =>
     rw [if_pos rfl];have := zgf p ins s ins.length;rw [ha, if_pos rfl] at this;exact zmb Q h0 hs f _ (hp _ (Nat.le_refl _)) (by omega)
   | false =>
     rw [if_neg (by simp)];obtain ⟨a, b⟩ := zif _ ha;refine ⟨_, rfl, hp _ (Nat.le_refl _), ha, ?_⟩;rw [a]; exact b
theorem ztj {S S' : Cl} (h : ∀ x, x ∈ S ↔ x ∈ S') (l : List Cl) : ordC (givT S l) = ordC (givT S' l) := zkg fun d => by
 rw [zbp, zbp]
 have e : ∀ c : Cl, (c.filter fun y => !S.contains (-y)) = c.filter fun y => !S'.contains (-y) := fun c => by
  apply List.filter_congr
  intro y _
  have : S.contains (-y) = S'.contains (-y) := by
   rw [Bool.eq_iff_iff, List.contains_iff_mem, List.contains_iff_mem]; exact h _
  rw [this]
 constructor
 ·rintro ⟨c, hc, hx, rfl⟩; exact ⟨c, hc, fun x hxc hm => hx x hxc ((h x).2 hm), e c⟩
 rintro ⟨c, hc, hx, rfl⟩; exact ⟨c, hc, fun x hxc hm => hx x hxc ((h x).1 hm), (e c).symm⟩
theorem zft {S : Cl} {x : Int} (l : List Cl) (h2 : -x ∉ S) : zai (ordC (givT S l)) x = ordC (givT (S ++ [x]) l) := by
 refine zbq (fun _ _ => zb7) (zax _) (zax _) fun d => ?_
 show d ∈ zai _ x ↔ _
 rw [zcb, zba, zbp]
 have e : ∀ c : Cl, ((c.filter fun y => !S.contains (-y)).filter fun y => decide (y ≠ -x)) = c.filter fun y => !(S ++ [x]).contains (-y) := fun c => by
  rw [List.filter_filter]
  apply List.filter_congr
  intro y _
  by_cases h : y = -x
  ·subst h; simp
  have : ¬ (-y = x) := fun h' => h (by omega)
  simp [h, this]
 constructor
 ·rintro ⟨b, hb, hx, rfl⟩;rw [zba, zbp] at hb;obtain ⟨c, hc, hn, rfl⟩ := hb;refine ⟨c, hc, fun y hy hm => ?_, e c⟩
  rcases List.mem_append.1 hm with hm | hm
  ·exact hn y hy hm
  simp at hm; subst hm;exact hx (List.mem_filter.2 ⟨hy, by simpa using h2⟩)
 rintro ⟨c, hc, hn, rfl⟩;refine ⟨c.filter fun y => !S.contains (-y), ?_, fun hm => hn x (List.mem_filter.1 hm).1 (by simp), (e c).symm⟩;rw [zba, zbp];exact ⟨c, hc, fun y hy hm => hn y hy (by simp [hm]), rfl⟩
theorem zen {l : List Cl} (h : l.Pairwise ltC) : ordC (givT [] l) = l := by
 have : givT [] l = l := by
  unfold givT;rw [List.filter_eq_self.2 (fun c _ => by simp)];rw [List.map_congr_left (g := id) (fun c _ => by simp)]
  simp
 rw [this]; exact zr0 h
theorem zwp {α : Type} {P : List α -> Prop} (h0 : P []) (hs : ∀ l x, P l -> P (l ++ [x])) (l : List α) : P l := by
 have : ∀ m : List α, P m.reverse := fun m => by
  induction m with
  | nil => exact h0
  | cons x m ih => rw [List.reverse_cons]; exact hs _ _ ih
 have := this l.reverse
 rwa [List.reverse_reverse] at this
structure Units (st : List Nc) (l : List Cl) (xs : Cl) (js : List Nat) (L : List Cl) : Prop where
 len : js.length = xs.length
 lit : ∀ k, k < xs.length -> isLit st (js.getD k 0) (xs.getD k 0)
 hd : ∀ k, k < xs.length -> [xs.getD k 0] ∈ ordC (givT (xs.take k) l)
 end' : L = ordC (givT xs l)
theorem Fit.units {st : List Nc} {l : List Cl} {ins : List Nat} (h : Fit st l ins) {n : Nat} (hn : n <= 128) : gL n l ->
 ∃ xs js rest L, ins = js ++ rest /\ gT n xs /\ Units st l xs js L /\ gL n L /\ (∀ x ∈ xs, (zaf l).mem (zac x) = true) /\
  ((∃ i L', rest = [i] /\ L = [] :: L' /\ tagged st i L /\ ∃ c, st[i]? = some c /\ c.nd = ⟨0, 0, []⟩) \/
   ((∀ c ∈ L, 2 <= c.length) /\ rest.length = (zaj L).length /\ ∀ k, k < rest.length -> tagged st (rest.getD k 0) ((zaj L).getD k []) /\ ∃ c, st[rest.getD k 0]? = some c /\ c.nd.kind = 4)) := by
 induction h with
 | @unit x l i ins a hf ih =>
   intro hg;obtain ⟨xs, js, rest, L, rfl, hT, hu, hL, hv, hr⟩ := ih (zbl hg.gc x);have hx : litN n x := (hg.gc [x] (by simp)).rg x (by simp);have hx0 := (hx.ok hn).1
   have hne : ∀ y ∈ xs, zac x ≠ zac y := fun y hy e => (zbc hx0 (hv y hy)).2 e.symm
   have hg0 : zai ([x] :: l) x = ordC (givT [x] ([x] :: l)) := by
    have := zft (S := []) (x := x) ([x] :: l) (by simp);rw [zen hg.so] at this;exact this
   have hoff : ∀ y ∈ xs, -y ∉ [x] /\ -x ∉ [y] := fun y hy => by
    have h1 := hne y hy;refine ⟨fun h => ?_, fun h => ?_⟩
    ·simp at h; subst h; rw [zca] at h1; exact h1 rfl
    simp at h; subst h; rw [zca] at h1; exact h1 rfl
   have key : ∀ ys : Cl, (∀ y ∈ ys, y ∈ xs) -> gT n ys -> ordC (givT ys (zai ([x] :: l) x)) = ordC (givT (x :: ys) ([x] :: l)) := fun ys => by
    refine zwp (P := fun ys => (∀ y ∈ ys, y ∈ xs) -> gT n ys -> ordC (givT ys (zai ([x] :: l) x)) = ordC (givT (x :: ys) ([x] :: l))) ?_ ?_ ys
    ·intro _ _;rw [zen (l := zai ([x] :: l) x) (zax _)]; exact hg0
    intro ys y ih hm ht
    have ht' : gT n ys := ⟨fun z hz => ht.rg z (by simp [hz]), (List.pairwise_append.1 ht.nd).1⟩
    have h2 : -y ∉ ys := fun h => ht.nt hn (x := y) (by simp) (by simp [h])
    have h3 : -y ∉ (x :: ys) := fun h => by
     rcases List.mem_cons.1 h with e | e
     ·exact (hoff y (hm y (by simp))).1 (by simp [e])
     exact h2 e
    rw [<- zft _ h2, ih (fun z hz => hm z (by simp [hz])) ht', zft _ h3]
    rfl
   refine ⟨x :: xs, i :: js, rest, L, rfl, ⟨fun y hy => ?_, List.pairwise_cons.2 ⟨hne, hT.nd⟩⟩, ⟨by simp [hu.len], fun k hk => ?_, fun k hk => ?_, ?_⟩, hL, fun y hy => ?_, hr⟩
   ·rcases List.mem_cons.1 hy with rfl | hy
    ·exact hx
    exact hT.rg y hy
   ·cases k with
    | zero => exact a
    | succ k => exact hu.lit k (by simpa using hk)
   ·cases k with
    | zero =>
      show [x] ∈ ordC (givT [] ([x] :: l))
      rw [zen hg.so]; simp
    | succ k =>
      have h1 := hu.hd k (by simpa using hk);rw [key _ (fun y hy => List.mem_of_mem_take hy) ⟨fun y hy => hT.rg y (List.mem_of_mem_take hy), hT.nd.sublist (List.take_sublist _ _)⟩] at h1;exact h1
   ·rw [hu.end']; exact key xs (fun y hy => hy) hT
   rcases List.mem_cons.1 hy with rfl | hy
   ·exact zhh (l := [y] :: l) (c := [y]) (by simp) (x := y) (by simp) hx0
   exact (zbc hx0 (hv y hy)).1
 | @bad l i a b =>
   intro hg;exact ⟨[], [], [i], [] :: l, rfl, gT.nil n, ⟨rfl, fun k hk => by simp at hk, fun k hk => by simp at hk, (zen hg.so).symm⟩, hg, by simp, .inl ⟨i, l, rfl, rfl, a, b⟩⟩
 | @parts l ins a b c =>
   intro hg;exact ⟨[], [], ins, l, rfl, gT.nil n, ⟨rfl, fun k hk => by simp at hk, fun k hk => by simp at hk, (zen hg.so).symm⟩, hg, by simp, .inr ⟨a, b, c⟩⟩
def gLen (gs : List (List Cl × St)) : Nat := (gs.map fun g => g.1.length).sum
theorem znx (gs : List (List Cl × St)) : ∀ (acc : List (List Cl × St) × List Cl × St),
 gLen (gs.foldl (fun acc g => if g.2.cut acc.2.2 ≠ St.zero then (acc.1, acc.2.1 ++ g.1, acc.2.2.union g.2) else (acc.1 ++ [g], acc.2.1, acc.2.2)) acc).1 + (gs.foldl (fun acc g => if g.2.cut acc.2.2 ≠ St.zero then (acc.1, acc.2.1 ++ g.1, acc.2.2.union g.2) else (acc.1 ++ [g], acc.2.1, acc.2.2)) acc).2.1.length = gLen acc.1 + acc.2.1.length + gLen gs := by
 induction gs with
 | nil => intro acc; simp [gLen]
 | cons g gs ih =>
   intro acc;rw [List.foldl_cons, ih]
   split
   ·simp [gLen]; omega
   simp [gLen]; omega
theorem zlh (gs : List (List Cl × St)) (c : Cl) : gLen (za3 gs c) = gLen gs + 1 := by
 have := znx gs ([], [], zcq c);have e0 : gLen [] = 0 := rfl;unfold za3;unfold zdj;generalize gs.foldl (fun acc g => if g.2.cut acc.2.2 ≠ St.zero then (acc.1, acc.2.1 ++ g.1, acc.2.2.union g.2) else (acc.1 ++ [g], acc.2.1, acc.2.2)) ([], [], zcq c) = r at *;simp only [List.length_nil] at this;unfold gLen at *
 simp
 omega
theorem zj3 (l : List Cl) : gLen (zc1 l) = l.length := by
 have : ∀ gs, gLen (l.foldl za3 gs) = gLen gs + l.length := by
  induction l with
  | nil => intro gs; simp
  | cons c l ih => intro gs; rw [List.foldl_cons, ih, zlh]; simp; omega
 have := this [];unfold zc1;rw [this]; simp [gLen]
theorem zr9 (l : List Cl) : (zaj l).flatten.length <= l.length := by
 rw [<- zj3 l];unfold zaj gLen
 induction zc1 l with
 | nil => simp
 | cons g gs ih =>
   rw [List.map_cons, List.flatten_cons, List.length_append, List.map_cons, List.sum_cons];have := za9 g.1;omega
theorem zos {x : List Cl} (h : ∀ c ∈ x, c ≠ []) (a : List Cl) : zcg a x = a ++ x := by
 unfold zcg
 induction x generalizing a with
 | nil => simp
 | cons c x ih =>
   rw [List.foldl_cons, if_pos (by simp [h c (by simp)]), ih (fun d hd => h d (by simp [hd]))]
   simp
theorem zrd {x : List Cl} (h : x.Pairwise ltC) : zcg [] x = x := by
 cases x with
 | nil => rfl
 | cons c x =>
   have h1 : ∀ d ∈ x, d ≠ [] := fun d hd e => by
    have := (List.pairwise_cons.1 h).1 d hd;subst e;have h2 := zrj this;have : c = [] := List.eq_nil_of_length_eq_zero (by simpa using h2);subst this;exact zeq _ ((List.pairwise_cons.1 h).1 [] hd)
   have e : zcg [] (c :: x) = zcg [c] x := by unfold zcg; rw [List.foldl_cons]; simp [zea]
   rw [e, zos h1]; rfl
theorem zm1 {n : Nat} {t : List Cl} {v : Int} (h : (zbs n t).mem v = true) : (zaf t).mem v = true := by
 unfold zbs at h
 split at h
 ·exact h
 rw [St.mem_zero] at h; simp at h
theorem zm0 (l : List Cl) : (zaf l).ok := by
 unfold zaf
 have : ∀ s : St, s.ok -> (l.foldl (fun s c => s.union (zcq c)) s).ok := by
  induction l with
  | nil => intro s h; exact h
  | cons c l ih => intro s h; exact ih _ (St.union_ok h (zhk c))
 exact this _ St.zero_ok
theorem zhl (n : Nat) (l : List Cl) : (zbs n l).ok := by
 unfold zbs
 split
 ·exact zm0 l
 exact St.zero_ok
theorem zmo {n : Nat} {a b : List Cl} (h : ∀ v, ¬ ((zaf a).mem v = true /\ (zaf b).mem v = true)) : zd6 n a b = false := by
 cases e : zd6 n a b with
 | false => rfl
 | true =>
   unfold zd6 at e;rw [decide_eq_true_eq] at e;obtain ⟨v, h1, h2⟩ := zw6 (zhl n a) e;exact absurd ⟨zm1 h1, zm1 h2⟩ (h v)
theorem zwa {n : Nat} {S : Cl} {l : List Cl} (h : ∀ c ∈ l, gC n c) : ∀ d ∈ ordC (givT S l), gC n d := fun d hd => by
 rw [zba, zbp] at hd;obtain ⟨c, hc, _, rfl⟩ := hd;have g := h c hc;exact ⟨g.so.filter _, fun y hy => g.rg y (List.mem_filter.1 hy).1, fun y hy hn => g.nt y (List.mem_filter.1 hy).1 (List.mem_filter.1 hn).1⟩
theorem zeb (p : Prf) (ins : List Int) (used : List Bool) (k : Nat) : p.fall ins used (k + 1) = (p.fall ins used k).bind fun all => p.fone ins used all k := by
 unfold Prf.fall; rw [List.range_succ, List.foldl_append]; rfl
section
variable {p : Prf} {st : List Nc} (hn : p.n <= 128) (hnd : ∀ (i : Nat) (c : Nc), st[i]? = some c -> nd p.N (i : Int) = c.nd) (hres : ∀ (i : Nat) (l : List Cl), tagged st i l -> p.res (i : Int) = some l)
include hn hnd hres
theorem zu9 {l : List Cl} {ins : List Nat} (hF : Fit st l ins) (hg : gL p.n l) (hl : l.length <= 4096) : p.fit l (zag ins) = true := by
 obtain ⟨xs, js, rest, L, rfl, hT, hu, hL, hv, hr⟩ := hF.units hn hg
 have hlen : (zag (js ++ rest)).length = xs.length + rest.length := by simp [zag, hu.len]
 have hget1 : ∀ k, k < xs.length -> (zag (js ++ rest)).getD k 0 = ((js.getD k 0 : Nat) : Int) := fun k hk => by
  have : k < js.length := by rw [hu.len]; exact hk
  simp [zag, List.getD_eq_getElem?_getD, List.getElem?_append_left, this]
 have hget2 : ∀ k, k < rest.length -> (zag (js ++ rest)).getD (xs.length + k) 0 = ((rest.getD k 0 : Nat) : Int) := fun k hk => by
  have e : (js ++ rest)[xs.length + k]? = rest[k]? := by
   rw [List.getElem?_append_right (by rw [hu.len]; omega)]; congr 1; rw [hu.len]; omega
  unfold zag;rw [List.getD_eq_getElem?_getD, List.getElem?_map, e]
  simp [List.getD_eq_getElem?_getD, hk]
 have hlit : ∀ k, k < xs.length -> nd p.N ((zag (js ++ rest)).getD k 0) = ⟨2, xs.getD k 0, []⟩ := fun k hk => by
  rw [hget1 k hk];obtain ⟨c, hc, e⟩ := hu.lit k hk;rw [hnd _ c hc, e]
 have hrk : ∀ k, k < rest.length -> (nd p.N ((zag (js ++ rest)).getD (xs.length + k) 0)).kind ≠ 2 := fun k hk => by
  rw [hget2 k hk]
  rcases hr with ⟨i, L', rfl, _, _, c, hc, e⟩ | ⟨_, _, h⟩
  ·have : k = 0 := by simpa using hk
   subst this;rw [show ([i] : List Nat).getD 0 0 = i from rfl, hnd _ c hc, e]; simp
  obtain ⟨_, c, hc, e⟩ := h k hk;rw [hnd _ c hc, e]; simp
 have hxm : ∀ k, k < xs.length -> xs.getD k 0 ∈ xs := fun k hk => by rw [List.getD_eq_getElem?_getD, List.getElem?_eq_getElem hk]; exact List.getElem_mem hk
 have hxinj : ∀ j k, j < xs.length -> k < xs.length -> xs.getD j 0 = xs.getD k 0 -> j = k := fun j k hj hk e => by
  have key : ∀ a b, a < b -> b < xs.length -> xs.getD a 0 ≠ xs.getD b 0 := fun a b hab hb e => by
   have h1 := List.pairwise_iff_getElem.1 hT.nd a b (by omega) hb hab;rw [List.getD_eq_getElem?_getD, List.getD_eq_getElem?_getD, List.getElem?_eq_getElem (by omega), List.getElem?_eq_getElem hb] at e;simp only [Option.getD_some] at e;rw [e] at h1; exact h1 rfl
  rcases Nat.lt_trichotomy j k with h | h | h
  ·exact absurd e (key j k h hk)
  ·exact h
  exact absurd e.symm (key k j h hj)
 obtain ⟨s, hs, ⟨hsl, S, hS, hSr, hr0⟩, _, hstop⟩ := zmb (p := p) (ins := zag (js ++ rest))
  (fun s => s.used.length = (zag (js ++ rest)).length /\ ∃ S : Cl, (∀ x, x ∈ S ↔ ∃ k, k < xs.length /\ s.used.getD k true = true /\ x = xs.getD k 0) /\ (∀ k, k < rest.length -> s.used.getD (xs.length + k) true = false) /\ s.r = ordC (givT S l))
  (fun s h => h) (fun s k ⟨h1, S, h2, h3, h4⟩ hk => by
    unfold Prf.fstep
    cases hc : p.cond (zag (js ++ rest)) s k with
    | false => rw [if_neg (by simp)]; exact ⟨h1, S, h2, h3, h4⟩
    | true =>
      rw [if_pos rfl];unfold Prf.cond at hc;simp only [Bool.and_eq_true, Bool.not_eq_true', decide_eq_true_eq] at hc
      have hkx : k < xs.length := by
       rcases Nat.lt_or_ge k xs.length with h | h
       ·exact h
       exact absurd hc.2.1 (by have := hrk (k - xs.length) (by omega); rwa [show xs.length + (k - xs.length) = k by omega] at this)
      rw [hlit k hkx];simp only
      have hSx : ∀ x ∈ S, x ∈ xs := fun x hx => by
       obtain ⟨j, hj, _, rfl⟩ := (h2 x).1 hx;exact hxm j hj
      have hneg : -(xs.getD k 0) ∉ S := fun h => hT.nt hn (hxm k hkx) (hSx _ h)
      refine ⟨by simpa using h1, S ++ [xs.getD k 0], fun x => ?_, fun j hj => ?_, ?_⟩
      ·rw [List.mem_append, h2 x];simp only [List.mem_singleton]
       constructor
       ·rintro (⟨j, hj, hu', rfl⟩ | rfl)
        ·refine ⟨j, hj, ?_, rfl⟩;simp only [List.getD_eq_getElem?_getD, List.getElem?_set] at hu' ⊢
         split
         ·split <;> simp
         exact hu'
        refine ⟨k, hkx, ?_, rfl⟩;have := zq4 hc.1
        simp [List.getD_eq_getElem?_getD, List.getElem?_set, this]
       rintro ⟨j, hj, hu', rfl⟩
       by_cases e : k = j
       ·subst e; exact .inr rfl
       left
       refine ⟨j, hj, ?_, rfl⟩;simp only [List.getD_eq_getElem?_getD, List.getElem?_set] at hu' ⊢;rw [if_neg e] at hu'; exact hu'
      ·have := h3 j hj;simp only [List.getD_eq_getElem?_getD, List.getElem?_set] at this ⊢;rw [if_neg (by omega)]; exact this
      rw [h4, zva hn (zwa hg.gc), zft _ hneg]) ((zag (js ++ rest)).length + 1) ⟨List.replicate (zag (js ++ rest)).length false, l, true⟩
  ⟨by simp, [], fun x => by
    constructor
    ·intro h; simp at h
    ·rintro ⟨k, hk, h, _⟩
     have : k < (zag (js ++ rest)).length := by omega
     simp [List.getD_eq_getElem?_getD, List.getElem?_replicate, this] at h, fun k hk => by
    have : xs.length + k < (zag (js ++ rest)).length := by omega
    simp [List.getD_eq_getElem?_getD, List.getElem?_replicate, this], (zen hg.so).symm⟩
  (by have : zhc (List.replicate (zag (js ++ rest)).length false) <= (zag (js ++ rest)).length := by
       have := List.countP_le_length (p := fun b => !b) (l := List.replicate (zag (js ++ rest)).length false)
       simpa [zhc] using this
      simp only; omega)
 have hSx : ∀ x ∈ S, x ∈ xs := fun x hx => by
  obtain ⟨j, hj, _, rfl⟩ := (hS x).1 hx;exact hxm j hj
 have hall : ∀ k, k < xs.length -> s.used.getD k true = true := fun k => by
  induction k using Nat.strongRecOn with
  | _ k ih =>
    intro hk
    cases hu' : s.used.getD k true with
    | true => rfl
    | false =>
      exfalso
      have h1 := hstop k (by omega);unfold Prf.cond at h1;rw [hu', hlit k hk] at h1
      have h2 : hasU s.r (xs.getD k 0) = true := by
       unfold hasU;rw [List.any_eq_true];refine ⟨[xs.getD k 0], ?_, by simp⟩;rw [hr0, zba, zbp];have h3 := hu.hd k hk;rw [zba, zbp] at h3;obtain ⟨c, hc, hx, e⟩ := h3
       have hxk : xs.getD k 0 ∉ S := fun h => by
        obtain ⟨j, hj, hj', e'⟩ := (hS _).1 h;have := hxinj k j hk hj e';subst this; rw [hu'] at hj'; simp at hj'
       have hsub : ∀ y ∈ xs.take k, y ∈ S := fun y hy => by
        obtain ⟨j, hj, rfl⟩ := List.getElem_of_mem hy
        have hj2 : j < k := by rw [List.length_take] at hj; omega
        refine (hS _).2 ⟨j, by omega, ih j hj2 (by omega), ?_⟩;rw [List.getD_eq_getElem?_getD, List.getElem?_eq_getElem (by omega)]; simp
       have e2 : ∀ y ∈ c, y ∈ xs -> y = xs.getD k 0 := fun y hy hyx => by
        have : y ∈ [xs.getD k 0] := by
         rw [e];refine List.mem_filter.2 ⟨hy, ?_⟩
         have : -y ∉ xs.take k := fun h => hT.nt hn hyx (List.mem_of_mem_take h)
         simpa using this
        simpa using this
       refine ⟨c, hc, fun y hy hyS => hxk (e2 y hy (hSx y hyS) ▸ hyS), ?_⟩
       have e3 : (c.filter fun y => !S.contains (-y)) = (c.filter fun y => !(xs.take k).contains (-y)).filter fun y => !S.contains (-y) := by
        rw [List.filter_filter]
        apply List.filter_congr
        intro y _
        cases hm : (xs.take k).contains (-y) with
        | false => simp
        | true =>
          have := hsub _ (List.contains_iff_mem.1 hm)
          simp [this]
       rw [e3, <- e]
       have h4 : -(xs.getD k 0) ∉ S := fun h => hT.nt hn (hxm k hk) (hSx _ h)
       rw [List.filter_cons_of_pos (by simpa using h4)]; rfl
      rw [h2] at h1; simp at h1
 have hrL : s.r = L := by
  rw [hr0, hu.end'];refine ztj (fun x => ?_) l;rw [hS x]
  constructor
  ·rintro ⟨k, hk, _, rfl⟩; exact hxm k hk
  intro hx;obtain ⟨k, hk, rfl⟩ := List.getElem_of_mem hx;exact ⟨k, hk, hall k hk, by rw [List.getD_eq_getElem?_getD, List.getElem?_eq_getElem hk]; rfl⟩
 have hLl : L.length <= 4096 := by
  rw [hu.end'];exact Nat.le_trans (za9 _) (Nat.le_trans (zdx _ _) hl)
 have hf0 : ∀ k, k <= xs.length -> p.fall (zag (js ++ rest)) s.used k = some [] := fun k => by
  induction k with
  | zero => intro _; rfl
  | succ k ih =>
    intro hk;rw [zeb, ih (by omega)]
    show p.fone _ _ _ _ = _
    unfold Prf.fone;rw [hall k (by omega), if_pos rfl]
 unfold Prf.fit;rw [hs];unfold Prf.fend;rw [hlen]
 rcases hr with ⟨i, L', rfl, hL', htag, c, hc, e⟩ | ⟨hL2, hrl, htag⟩
 ·have h1 : p.fall (zag (js ++ [i])) s.used (xs.length + [i].length) = some L := by
   show p.fall (zag (js ++ [i])) s.used (xs.length + 1) = _
   rw [zeb, hf0 _ (Nat.le_refl _)]
   show p.fone _ _ _ _ = _
   unfold Prf.fone;have := hSr 0 (by simp);rw [Nat.add_zero] at this;rw [this, if_neg (by simp)];have hk := hrk 0 (by simp);have hg2 := hget2 0 (by simp);rw [Nat.add_zero] at hk hg2;rw [hg2] at hk ⊢;rw [show ([i] : List Nat).getD 0 0 = i from rfl] at hk ⊢;rw [hres i L htag];simp only
   rw [decide_eq_false hk, zmo (fun v ⟨a, _⟩ => by
    obtain ⟨c, hc, _⟩ := za8.1 a; simp at hc)]
   simp [zrd hL.so]
  rw [h1];simp only;rw [(zix hn).2 (gL.ok hn hL.gc hLl), zms hn hL, hrL]; simp
 have h1 : ∀ k, k <= rest.length -> p.fall (zag (js ++ rest)) s.used (xs.length + k) = some ((zaj L).take k).flatten := fun k => by
  induction k with
  | zero => intro _; rw [Nat.add_zero, hf0 _ (Nat.le_refl _)]; simp
  | succ k ih =>
    intro hk;rw [<- Nat.add_assoc, zeb, ih (by omega)]
    show p.fone _ _ _ _ = _
    unfold Prf.fone;rw [hSr k (by omega), if_neg (by simp)];have hk' := hrk k (by omega);rw [hget2 k (by omega)] at hk' ⊢;rw [hres _ _ (htag k (by omega)).1];simp only
    have hks : k < (zaj L).length := by omega
    have egd : (zaj L).getD k [] = (zaj L)[k] := by rw [List.getD_eq_getElem?_getD, List.getElem?_eq_getElem hks]; rfl
    have hpm : (zaj L)[k] ∈ zaj L := List.getElem_mem hks
    rw [egd, decide_eq_false hk', zmo (fun v ⟨a, b⟩ => by
     obtain ⟨d, hd, hdv⟩ := za8.1 a;obtain ⟨q, hq, hdq⟩ := List.mem_flatten.1 hd;obtain ⟨j, hj, rfl⟩ := List.getElem_of_mem hq;rw [List.length_take] at hj;have h2 := List.pairwise_iff_getElem.1 (zo6 L) j k (by omega) hks (by omega) v;rw [List.getElem_take] at hdq
     exact h2 ⟨za8.2 ⟨d, hdq, hdv⟩, b⟩)]
    simp only [Bool.or_self, Bool.false_eq_true, if_false]
    rw [zos (fun c hc e => by
     have := hL2 c ((zcx hL.gc hpm).2.2 c hc)
     rw [e] at this; simp at this), List.take_succ_eq_append_getElem hks, List.flatten_append]
    simp
 rw [h1 _ (Nat.le_refl _), hrl, List.take_length];simp only
 have hm : ∀ d, d ∈ (zaj L).flatten ↔ d ∈ L := fun d => by
  rw [List.mem_flatten, <- zci (l := L)]
 have hgc : ∀ c ∈ (zaj L).flatten, gC p.n c := fun c hc => hL.gc c ((hm c).1 hc)
 rw [(zix hn).2 (gL.ok hn hgc (Nat.le_trans (zr9 L) hLl)), hrL];simp only [Bool.true_and, decide_eq_true_eq]
 refine zbq (fun _ _ => zb7) hL.so (zax _) fun d => ?_
 show _ ↔ d ∈ zab p.n _
 rw [zc4]
 constructor
 ·intro hd; exact ⟨d, (hm d).2 hd, (hL.gc d hd).taut, (zcw hn (hL.gc d hd)).symm⟩
 rintro ⟨c, hc, _, rfl⟩;rw [zcw hn (hgc c hc)]; exact (hm c).1 hc
end
theorem zjp (gs : List (List Cl × St)) : ∀ (acc : List (List Cl × St) × List Cl × St),
 (gs.foldl (fun acc g => if g.2.cut acc.2.2 ≠ St.zero then (acc.1, acc.2.1 ++ g.1, acc.2.2.union g.2) else (acc.1 ++ [g], acc.2.1, acc.2.2)) acc).1.length <= acc.1.length + gs.length := by
 induction gs with
 | nil => intro acc; simp
 | cons g gs ih =>
   intro acc;rw [List.foldl_cons];refine Nat.le_trans (ih _) ?_
   split
   ·simp
   simp; omega
theorem zg5 (l : List Cl) : (zaj l).length <= l.length := by
 have : ∀ gs, (l.foldl za3 gs).length <= gs.length + l.length := by
  induction l with
  | nil => intro gs; simp
  | cons c l ih =>
    intro gs;rw [List.foldl_cons];refine Nat.le_trans (ih _) ?_;have h := zjp gs ([], [], zcq c);unfold za3 zdj;simp at h ⊢;omega
 have := this [];unfold zaj zc1
 simpa using this
theorem Fit.len {st : List Nc} {l : List Cl} {ins : List Nat} (h : Fit st l ins) {n : Nat} (hn : n <= 128) (hg : gL n l) : ins.length <= n + l.length + 1 := by
 obtain ⟨xs, js, rest, L, rfl, hT, hu, hL, hv, hr⟩ := h.units hn hg;have h1 := hT.len hn;have h2 := hu.len
 have h3 : L.length <= l.length := by
  rw [hu.end'];exact Nat.le_trans (za9 _) (zdx _ _)
 rw [List.length_append]
 rcases hr with ⟨i, L', rfl, _⟩ | ⟨_, h4, _⟩
 ·simp; omega
 have := zg5 L; omega
def Prf.pos (p : Prf) (ins : List Int) (x : Int) : Option Nat := (List.range ins.length).find? fun k => decide ((nd p.N (ins.getD k 0)).kind = 2) && decide ((nd p.N (ins.getD k 0)).lit = x)
def Prf.side (p : Prf) (r : List Cl) (i x : Int) : Bool :=
 if (nd p.N i).kind = 2 then decide ((nd p.N i).lit = x) && decide (zab p.n (givT [x] r) = [])
 else if (nd p.N i).kind = 3 then match p.pos (nd p.N i).ins x with
  | some k => p.fit (zab p.n (givT [x] r)) ((nd p.N i).ins.take k ++ (nd p.N i).ins.drop (k + 1))
  | none => false
 else false
def Prf.onv (p : Prf) (r : List Cl) (a b : Int) (v : Int) : Bool := (zbs p.n r).mem v && ((p.side r a v && p.side r b (-v)) || (p.side r a (-v) && p.side r b v))
def Prf.acc (p : Prf) (i : Int) (r : List Cl) : Bool :=
 if (nd p.N i).kind = 1 then decide (r = []) else if (nd p.N i).kind = 0 then za7 r else if (nd p.N i).kind = 2 then decide (r.length = 1) && hasU r (nd p.N i).lit
 else if (nd p.N i).kind = 3 then p.fit r (nd p.N i).ins
 else decide ((nd p.N i).ins.length = 2) && (List.range p.n).any fun (j : Nat) => p.onv r ((nd p.N i).ins.getD 0 0) ((nd p.N i).ins.getD 1 0) ((j : Int) + 1)
def zbh (N : List Nd) (i k : Int) : Bool := N.any fun x => x.ins.any (fun y => decide (y = i)) && decide (x.kind = k)
def zgm (N : List Nd) (i : Nat) : Bool := decide (i + 1 = N.length) || (decide ((nd N (i : Int)).kind ≠ 2) && zbh N i 3)
structure Prf.node (p : Prf) (i : Nat) : Prop where
 use : zgm p.N i = true \/ (nd p.N (i : Int)).kind = 2 \/ ((nd p.N (i : Int)).kind = 3 /\ zbh p.N i 4 = true)
 acc : zgm p.N i = true -> ∃ r, p.res i = some r /\ p.acc i r = true /\ (i + 1 = p.N.length -> r = zab p.n p.t)
section
variable {p : Prf} {st : List Nc} (hn : p.n <= 128) (hnd : ∀ (i : Nat) (c : Nc), st[i]? = some c -> nd p.N (i : Int) = c.nd) (hres : ∀ (i : Nat) (l : List Cl), tagged st i l -> p.res (i : Int) = some l)
include hn hnd hres
theorem zle {l : List Cl} {x : Int} {i : Nat} (h : Side st l x i) (hg : gL p.n l) (hl : l.length <= 4096) : p.side l i x = true := by
 unfold Prf.side;rw [zva hn hg.gc]
 rcases h with ⟨h1, c, hc, e⟩ | ⟨h1, c, k, ins, hc, e, _, ⟨d, hd, ek⟩, hF, _, _⟩
 ·rw [hnd _ c hc, e]; simp [h1]
 rw [hnd _ c hc, e];simp only [show ¬ ((3 : Int) = 2) by decide, if_false, if_true]
 have hp : p.pos (zag (k :: ins)) x = some 0 := by
  unfold Prf.pos;have e0 : (zag (k :: ins)).getD 0 0 = (k : Int) := rfl
  have : List.range (zag (k :: ins)).length = 0 :: (List.range ins.length).map Nat.succ := by simp [zag, List.range_succ_eq_map]
  rw [this, List.find?_cons_of_pos (by rw [e0, hnd _ d hd, ek]; simp)]
 rw [hp]
 show p.fit _ (List.take 0 (zag (k :: ins)) ++ List.drop 1 (zag (k :: ins))) = true
 have e1 : List.take 0 (zag (k :: ins)) ++ List.drop 1 (zag (k :: ins)) = zag ins := by simp [zag]
 rw [e1];refine zu9 hn hnd hres hF (zbl hg.gc x) ?_;unfold zai;refine Nat.le_trans (za9 _) ?_;rw [List.length_map];exact Nat.le_trans (List.length_filter_le _ _) hl
end
end Cen
