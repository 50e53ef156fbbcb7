/- Part of the proofs that laws of censuslaw24 return true for every input, where the tables that the rows list are laid. Texts: Ea, Eb, R21, Ec, Ed. -/
import Derived.Test.YtfmmhjphopikgaaGreatDoorYC10
import Derived.Test.YtfmmhjphopikgaaGreatDoorYC4
import Derived.Test.YtfmmhjphopikgaaGreatDoorYC5
import Derived.BigQuiet
import Derived.Test.YtfmmhjphopikgaaGreatDoorYC1
set_option maxHeartbeats 8000000
set_option maxRecDepth 100000
set_option linter.unusedSimpArgs false
set_option linter.unusedVariables false
namespace Cen
theorem zkd (c : Cl) (k : Nat) : zaw (k + 1) c = zaw k c ++ ((if -((k : Int) + 1) ∈ c then [-((k : Int) + 1)] else []) ++ (if ((k : Int) + 1) ∈ c then [(k : Int) + 1] else [])) := by
 unfold zaw;rw [List.range_succ, List.flatMap_append]
 simp
theorem zeh (c : Cl) : ∀ k, (zaw k c).length <= 2 * k
 | 0 => by simp [zaw]
 | k + 1 => by
   have := zeh c k;rw [zkd, List.length_append, List.length_append]
   have h1 : (if -((k : Int) + 1) ∈ c then [-((k : Int) + 1)] else []).length <= 1 := by split <;> simp
   have h2 : (if ((k : Int) + 1) ∈ c then [(k : Int) + 1] else []).length <= 1 := by split <;> simp
   omega
def oppR (c : Cl) : Nat -> Bool
 | 0 => false
 | k + 1 => oppR c k || (c.contains ((k : Int) + 1) && c.contains (-((k : Int) + 1)))
theorem zo1 (c : Cl) : ∀ k, oppR c k = true ↔ ∃ j : Nat, j < k /\ (j : Int) + 1 ∈ c /\ -((j : Int) + 1) ∈ c
 | 0 => by simp [oppR]
 | k + 1 => by
   rw [oppR, Bool.or_eq_true, zo1 c k, Bool.and_eq_true];simp only [List.contains_iff_mem]
   constructor
   ·rintro (⟨j, h, h1⟩ | h1)
    ·exact ⟨j, by omega, h1⟩
    exact ⟨k, by omega, h1⟩
   rintro ⟨j, h, h1⟩
   by_cases e : j = k
   ·subst e; exact .inr h1
   exact .inl ⟨j, by omega, h1⟩
theorem zry {n : Nat} {c : Cl} (h : ∀ x ∈ c, litN n x) : oppR c n = taut c := by
 rw [Bool.eq_iff_iff, zo1, zcd]
 constructor
 ·rintro ⟨j, _, h1, h2⟩; exact ⟨_, h1, h2⟩
 rintro ⟨x, hx, hx'⟩;obtain ⟨h0, h1, h2⟩ := h x hx
 by_cases hp : 0 < x
 ·exact ⟨(x - 1).toNat, by omega, by rw [show (((x - 1).toNat : Nat) : Int) + 1 = x by omega]; exact ⟨hx, hx'⟩⟩
 exact ⟨(-x - 1).toNat, by omega, by rw [show (((-x - 1).toNat : Nat) : Int) + 1 = -x by omega, Int.neg_neg]; exact ⟨hx', hx⟩⟩
theorem zow {c d : Cl} {k : Nat} (hl : c.length = d.length) (h : ∀ j, j < k -> c.getD j 0 = d.getD j 0) (hk : k <= c.length) : lexC c d = lexC (c.drop k) (d.drop k) := by
 induction k with
 | zero => rfl
 | succ k ih =>
   rw [ih (fun j hj => h j (by omega)) (by omega)]
   have hk1 : k < c.length := by omega
   have hk2 : k < d.length := by omega
   rw [List.drop_eq_getElem_cons hk1, List.drop_eq_getElem_cons hk2, lexC];have e := h k (by omega)
   simp [List.getD_eq_getElem?_getD, hk1, hk2] at e
   rw [e, if_neg (by simp [zh3])]
theorem zxd {c d : Cl} {k : Nat} (hl : c.length = d.length) (h : ∀ j, j < k -> c.getD j 0 = d.getD j 0) (hk : k < c.length) (hne : c.getD k 0 ≠ d.getD k 0) : lexC c d = cmpL (c.getD k 0) (d.getD k 0) := by
 rw [zow hl h (by omega)]
 have hk2 : k < d.length := by omega
 rw [List.drop_eq_getElem_cons hk, List.drop_eq_getElem_cons hk2, lexC]
 have e1 : c.getD k 0 = c[k] := by simp [List.getD_eq_getElem?_getD, hk]
 have e2 : d.getD k 0 = d[k] := by simp [List.getD_eq_getElem?_getD, hk2]
 rw [e1, e2] at hne ⊢;rw [if_pos (fun e => hne (zkx.1 e))]
theorem zwe {c d : Cl} (hl : c.length = d.length) (h : ∀ j, j < c.length -> c.getD j 0 = d.getD j 0) : lexC c d = 0 := by
 rw [zow hl h (Nat.le_refl _), List.drop_length, hl, List.drop_length]; rfl
def befB (c d : Cl) : Bool := decide (cmpC c d < 0)
theorem zsu {c d : Cl} (h : c.length ≠ d.length) : befB c d = decide ((c.length : Int) < d.length) := by
 unfold befB cmpC;rw [if_pos (by omega), Bool.eq_iff_iff, decide_eq_true_iff, decide_eq_true_iff]; omega
theorem zsv {c d : Cl} (h : c.length = d.length) : befB c d = decide (lexC c d < 0) := by
 unfold befB cmpC; rw [if_neg (by omega)]
theorem zk5 {x : Int} (h : -128 <= x /\ x <= 128) : zac x = labs x := by
 by_cases h0 : x = 0
 ·subst h0; rfl
 rw [zal h0 h.1 h.2]; rfl
theorem zs2 {x y : Int} (hx : -128 <= x /\ x <= 128) (hy : -128 <= y /\ y <= 128) (hne : x ≠ y) : decide (cmpL x y < 0) = (decide (labs x < labs y) || (decide (labs x = labs y) && decide (x < 0))) := by
 rw [Bool.eq_iff_iff, decide_eq_true_iff, zcm, zk5 hx, zk5 hy];simp only [Bool.or_eq_true, Bool.and_eq_true, decide_eq_true_eq];unfold labs
 (repeat' split) <;> omega
def zbe (c : Cl) (s : List Cl × Bool) (x : Cl) : List Cl × Bool :=
 if (!s.2 && !befB x c) = true then ((if befB c x = true then s.1 ++ [c] else s.1) ++ [x], true) else (s.1 ++ [x], s.2)
def zo2 (c : Cl) (s : List Cl × Bool) : List Cl := if s.2 = true then s.1 else s.1 ++ [c]
theorem zlb (c : Cl) : ∀ (l : List Cl) (acc : List Cl), l.foldl (zbe c) (acc, true) = (acc ++ l, true)
 | [], acc => by simp
 | x :: l, acc => by
   rw [List.foldl_cons]
   show l.foldl (zbe c) (if (!true && !befB x c) = true then _ else (acc ++ [x], true)) = _
   rw [if_neg (by simp), zlb c l]; simp
theorem zr3 (c : Cl) : ∀ (l : List Cl) (acc : List Cl), zo2 c (l.foldl (zbe c) (acc, false)) = acc ++ insC c l
 | [], acc => rfl
 | x :: l, acc => by
   rw [List.foldl_cons, insC];have e1 : befB x c = decide (cmpC x c < 0) := rfl;have e2 : befB c x = decide (cmpC c x < 0) := rfl
   by_cases h1 : cmpC x c < 0
   ·have h2 := zjx h1;rw [show zbe c (acc, false) x = (acc ++ [x], false) by unfold zbe; rw [e1, decide_eq_true h1]; rfl, zr3 c l, if_neg (by omega), if_neg (by omega)]; simp
   have h3 : befB x c = false := by rw [e1, decide_eq_false h1]
   by_cases h2 : cmpC c x < 0
   ·rw [show zbe c (acc, false) x = (acc ++ [c] ++ [x], true) by unfold zbe; rw [h3, e2, decide_eq_true h2]; rfl, zlb, if_pos h2]
    simp [zo2]
   have h0 : cmpC c x = 0 := by
    rcases Int.lt_trichotomy (cmpC c x) 0 with h | h | h
    ·exact absurd h h2
    ·exact h
    exact absurd (zge h) h1
   rw [show zbe c (acc, false) x = (acc ++ [x], true) by unfold zbe; rw [h3, e2, decide_eq_false h2]; rfl, zlb, if_neg h2, if_pos h0]
   simp [zo2]
theorem ztl (l : List Cl) : l.foldl (fun acc c => insC c acc) [] = ordC l := by
 have : ∀ (l acc : List Cl), acc.Pairwise ltC -> (l.foldl (fun acc c => insC c acc) acc).Pairwise ltC /\ ∀ x, x ∈ l.foldl (fun acc c => insC c acc) acc ↔ x ∈ acc \/ x ∈ l := by
  intro l
  induction l with
  | nil => intro acc h; exact ⟨h, fun x => by simp⟩
  | cons c l ih =>
    intro acc h;obtain ⟨h1, h2⟩ := ih (insC c acc) (zfd h);refine ⟨h1, fun x => ?_⟩;rw [List.foldl_cons, h2, zfz, List.mem_cons]
    constructor
    ·rintro ((h | h) | h)
     ·exact .inr (.inl h)
     ·exact .inl h
     exact .inr (.inr h)
    rintro (h | h | h)
    ·exact .inl (.inr h)
    ·exact .inl (.inl h)
    exact .inr h
 obtain ⟨h1, h2⟩ := this l [] List.Pairwise.nil
 exact zd0 h1 fun x => by rw [h2]; simp
def zda (n : Nat) (t : List Cl) : Nat -> List Cl
 | 0 => []
 | k + 1 => if taut (t.getD k []) = true then zda n t k else insC (zaw n (t.getD k [])) (zda n t k)
theorem zkf (n : Nat) (t : List Cl) : ∀ k, k <= t.length -> zda n t k = (((t.take k).filter fun c => !taut c).map (zaw n)).foldl (fun acc c => insC c acc) []
 | 0, _ => rfl
 | k + 1, h => by
   have hk : k < t.length := by omega
   have e : t[k] = t.getD k [] := by simp [List.getD_eq_getElem?_getD, hk]
   rw [List.take_succ_eq_append_getElem hk, List.filter_append, List.map_append, List.foldl_append, <- zkf n t k (by omega), zda, e];generalize t.getD k [] = d
   cases ht : taut d with
   | true => rw [if_pos rfl]; simp [ht]
   | false => rw [if_neg (by simp)]; simp [ht]
theorem zrr (n : Nat) (t : List Cl) : zda n t t.length = zab n t := by
 rw [zkf n t _ (Nat.le_refl _), List.take_length, ztl]; rfl
theorem zg1 (n : Nat) (t : List Cl) : ∀ k, (zda n t k).length <= k
 | 0 => by simp [zda]
 | k + 1 => by
   have := zg1 n t k;rw [zda]
   split
   ·omega
   exact Nat.le_trans (zfc _ _) (by omega)
theorem ziw {n : Nat} {t : List Cl} {d : Cl} : ∀ {k : Nat}, k <= t.length -> d ∈ zda n t k -> ∃ c ∈ t, d = zaw n c
 | 0, _, h => by simp [zda] at h
 | k + 1, hk, h => by
   rw [zda] at h
   split at h
   ·exact ziw (by omega) h
   rcases zfz.1 h with rfl | h
   ·exact ⟨_, by rw [List.getD_eq_getElem?_getD, List.getElem?_eq_getElem (show k < t.length by omega)]; exact List.getElem_mem _, rfl⟩
   exact ziw (by omega) h
theorem zq5 (term : Cl) {t : List Cl} {k : Nat} (h : k < t.length) : givT term (t.take (k + 1)) = if ((t.getD k []).any fun x => term.contains x) = true then givT term (t.take k) else givT term (t.take k) ++ [(t.getD k []).filter fun y => !term.contains (-y)] := by
 have e : t[k] = t.getD k [] := by simp [List.getD_eq_getElem?_getD, h]
 unfold givT;rw [List.take_succ_eq_append_getElem h, List.filter_append, List.map_append, e];generalize t.getD k [] = d
 cases hh : d.any fun x => term.contains x with
 | true => rw [if_pos rfl, List.filter_cons, hh]; simp
 | false => rw [if_neg (by simp), List.filter_cons, hh]; simp
theorem zoa {α : Type} (f : α -> Bool) (d : α) {l : List α} {k : Nat} (h : k < l.length) : (l.take (k + 1)).any f = ((l.take k).any f || f (l.getD k d)) := by
 rw [List.take_succ_eq_append_getElem h, List.any_append]
 simp [List.getD_eq_getElem?_getD, h]
theorem zng {α : Type} (f : α -> Bool) (d : α) {l : List α} {k : Nat} (h : k < l.length) : (l.take (k + 1)).filter f = if f (l.getD k d) = true then (l.take k).filter f ++ [l.getD k d] else (l.take k).filter f := by
 rw [List.take_succ_eq_append_getElem h, List.filter_append]
 have e : l.getD k d = l[k] := by simp [List.getD_eq_getElem?_getD, h]
 rw [e]
 cases hf : f l[k] with
 | true => simp [hf]
 | false => simp [hf]
theorem zl2 {xs : Cl} {x : Int} {k : Nat} (hk : k < xs.length) (h : xs.getD k 0 = x) : xs.contains x = true := by
 rw [List.contains_iff_mem]
 have e : xs.getD k 0 = xs[k] := by simp [List.getD_eq_getElem?_getD, hk]
 rw [<- h, e]; exact List.getElem_mem hk
theorem zkz {xs : Cl} {x : Int} (h : ∀ j, j < xs.length -> xs.getD j 0 ≠ x) : xs.contains x = false := by
 rw [Bool.eq_false_iff];intro hc;rw [List.contains_iff_mem] at hc;obtain ⟨j, hj, rfl⟩ := List.getElem_of_mem hc;exact h j hj (by simp [List.getD_eq_getElem?_getD, hj])
def inL (xs : Cl) (x : Int) : Bool := xs.contains x
def zp9 (n : Nat) (l : Cl) : Bool := l.all fun x => zas x n && !l.contains (-x)
theorem zie {n m : Nat} (hn : n <= 128) {c : Clm} (h : zbk n m c = true) : zp9 n c.tm = true /\ (∀ x ∈ c.tm, litN n x) /\ ∀ i ∈ c.at', 0 <= i /\ i < m := by
 unfold zbk at h;rw [Bool.and_eq_true, List.all_eq_true, List.all_eq_true] at h;obtain ⟨h1, h2⟩ := h
 have key : ∀ i, i < c.tm.length -> tmOk n c.tm i = true := fun i hi => h1 i (List.mem_range.2 hi)
 have hl : ∀ x ∈ c.tm, litN n x := fun x hx => by
  obtain ⟨i, hi, rfl⟩ := List.getElem_of_mem hx;have := key i hi;unfold tmOk at this;simp only [List.getD_eq_getElem?_getD, List.getElem?_eq_getElem hi, Option.getD_some, Bool.and_eq_true, decide_eq_true_eq] at this;exact ⟨this.1.1.1, this.1.2, this.1.1.2⟩
 refine ⟨?_, hl, fun i hi => ?_⟩
 ·unfold zp9;rw [List.all_eq_true];intro x hx;rw [Bool.and_eq_true, zc2 hn];refine ⟨hl x hx, ?_⟩;rw [Bool.not_eq_true', Bool.eq_false_iff];intro hc;rw [List.contains_iff_mem] at hc;obtain ⟨i, hi, e⟩ := List.getElem_of_mem hx;obtain ⟨j, hj, e'⟩ := List.getElem_of_mem hc;have hx0 := (hl x hx).1
  have hd : ∀ a b : Nat, a < b -> (ha : a < c.tm.length) -> (hb : b < c.tm.length) -> labs c.tm[a] ≠ labs c.tm[b] := fun a b hab ha hb => by
   have := key b hb;unfold tmOk at this;rw [Bool.and_eq_true, List.all_eq_true] at this;have := this.2 a (List.mem_range.2 hab)
   simpa [List.getD_eq_getElem?_getD, ha, hb] using this
  have hlabs : labs c.tm[i] = labs c.tm[j] := by rw [e, e']; unfold labs; split <;> split <;> omega
  rcases Nat.lt_trichotomy i j with h | h | h
  ·exact hd i j h hi hj hlabs
  ·subst h; omega
  exact hd j i h hj hi hlabs.symm
 obtain ⟨j, hj, rfl⟩ := List.getElem_of_mem hi;have := h2 j (List.mem_range.2 hj);unfold ixOk at this;simp only [List.getD_eq_getElem?_getD, List.getElem?_eq_getElem hj, Option.getD_some, Bool.and_eq_true, decide_eq_true_eq] at this;exact ⟨this.1.1, this.1.2⟩
theorem zj2 {n m : Nat} {c : Clm} (h : zbk n m c = true) : c.at'.length <= m := by
 unfold zbk at h;rw [Bool.and_eq_true, List.all_eq_true, List.all_eq_true] at h
 have key : ∀ i, i < c.at'.length -> ixOk m c.at' i = true := fun i hi => h.2 i (List.mem_range.2 hi)
 have lo : ∀ i, i < c.at'.length -> (i : Int) <= c.at'.getD i 0 := by
  intro i
  induction i with
  | zero =>
    intro hi;have := key 0 hi;unfold ixOk at this;simp only [Bool.and_eq_true, decide_eq_true_eq] at this;exact this.1.1
  | succ i ih =>
    intro hi;have := key (i + 1) hi;have h1 := ih (by omega);unfold ixOk at this;simp only [Bool.and_eq_true, Bool.or_eq_true, decide_eq_true_eq, Nat.add_sub_cancel] at this;have h2 := this.2;simp at h2;omega
 rcases Nat.eq_zero_or_pos c.at'.length with e | e
 ·omega
 have h1 := lo (c.at'.length - 1) (by omega);have := key (c.at'.length - 1) (by omega);unfold ixOk at this;simp only [Bool.and_eq_true, decide_eq_true_eq] at this;have := this.1.2;omega
theorem zr1 {n : Nat} {t : List Cl} (ht : tOk n t) {c : Clm} (h : zbk n t.length c = true) (hn : n <= 128) : tOk n (pick t c.at') := by
 refine ⟨?_, fun d hd => ?_⟩
 ·unfold pick; rw [List.length_map]; exact Nat.le_trans (zj2 h) ht.len
 unfold pick at hd;rw [List.mem_map] at hd;obtain ⟨i, hi, rfl⟩ := hd;obtain ⟨h1, h2⟩ := (zie hn h).2.2 i hi
 have hl : i.toNat < t.length := by omega
 have : t.getD i.toNat [] = t[i.toNat] := by simp [List.getD_eq_getElem?_getD, hl]
 rw [this];exact ht.cl _ (List.getElem_mem hl)
end Cen
namespace Go.Proofs.YtfmmhjphopikgaaGreatDoor
open Go.RowKit Cen
def IntIn (X : Nat -> Prop) (w : World) (a : Option Addr) (xs : Cl) : Prop := IntCells w a xs /\ ∀ p, a = some p -> xs ≠ [] -> X p.block
def LsIn (X : Nat -> Prop) (w : World) (a : Option Addr) (t : List Cl) : Prop :=
 ∀ i, i < t.length -> ∃ b off ai ci, a = some ⟨b, off, none⟩ /\ X b /\ w.cell? ⟨b, off + i, none⟩ = some (.slice ai (t.getD i []).length ci) /\ IntIn X w ai (t.getD i [])
theorem IntIn.mono {X Y : Nat -> Prop} {w : World} {a : Option Addr} {xs : Cl} (h : IntIn X w a xs) (hm : ∀ k, k < w.heap.size -> X k -> Y k) : IntIn Y w a xs := ⟨h.1, fun p hp hn => by
 refine hm _ ?_ (h.2 p hp hn);obtain ⟨b, off, e, hc⟩ := h.1 0 (List.length_pos_iff.2 hn);rw [hp] at e;simp only [Option.some.injEq] at e;subst e
 exact zak hc⟩
theorem IntIn.kept {X M : Nat -> Prop} {w w' : World} {a : Option Addr} {xs : Cl} (h : IntIn X w a xs) (hk : Kp M w w') (hm : ∀ k, X k -> ¬ M k) : IntIn X w' a xs := ⟨fun j hj => by
 obtain ⟨b, off, e, hc⟩ := h.1 j hj
 have hne : xs ≠ [] := fun e => by rw [e] at hj; simp at hj
 exact ⟨b, off, e, hk.cell hc (hm b (h.2 ⟨b, off, none⟩ e hne))⟩, h.2⟩
theorem IntIn.later {X : Nat -> Prop} {w w' : World} {a : Option Addr} {xs : Cl} (h : IntIn X w a xs) (hb : Below w.heap.size w w') : IntIn X w' a xs := h.kept (M := fun _ => False) (Kp.below hb) fun _ _ h => h
theorem IntIn.all {w : World} {a : Option Addr} {xs : Cl} (h : IntCells w a xs) : IntIn (fun _ => True) w a xs := ⟨h, fun _ _ _ => trivial⟩
theorem LsIn.nil (X : Nat -> Prop) (w : World) (a : Option Addr) : LsIn X w a [] := fun i hi => by simp at hi
theorem LsIn.mono {X Y : Nat -> Prop} {w : World} {a : Option Addr} {t : List Cl} (h : LsIn X w a t) (hm : ∀ k, k < w.heap.size -> X k -> Y k) : LsIn Y w a t := fun i hi =>
 let ⟨b, off, ai, ci, h1, h2, h3, h4⟩ := h i hi; ⟨b, off, ai, ci, h1, hm _ (zak h3) h2, h3, h4.mono hm⟩
theorem LsIn.kept {X M : Nat -> Prop} {w w' : World} {a : Option Addr} {t : List Cl} (h : LsIn X w a t) (hk : Kp M w w') (hm : ∀ k, X k -> ¬ M k) : LsIn X w' a t := fun i hi =>
 let ⟨b, off, ai, ci, h1, h2, h3, h4⟩ := h i hi; ⟨b, off, ai, ci, h1, h2, hk.cell h3 (hm _ h2), h4.kept hk hm⟩
theorem LsIn.later {X : Nat -> Prop} {w w' : World} {a : Option Addr} {t : List Cl} (h : LsIn X w a t) (hb : Below w.heap.size w w') : LsIn X w' a t := h.kept (M := fun _ => False) (Kp.below hb) fun _ _ h => h
theorem LsIn.ls {X : Nat -> Prop} {w : World} {a : Option Addr} {t : List Cl} (h : LsIn X w a t) : LsCells w a t := fun i hi =>
 let ⟨b, off, ai, ci, h1, _, h3, h4⟩ := h i hi; ⟨b, off, ai, ci, h1, h3, h4.1⟩
theorem LsIn.all {w : World} {a : Option Addr} {t : List Cl} (h : LsCells w a t) : LsIn (fun _ => True) w a t := fun i hi =>
 let ⟨b, off, ai, ci, h1, h3, h4⟩ := h i hi; ⟨b, off, ai, ci, h1, trivial, h3, IntIn.all h4⟩
theorem LsIn.old {w : World} {a : Option Addr} {t : List Cl} (h : LsCells w a t) : LsIn (fun k => k < w.heap.size) w a t := (LsIn.all h).mono fun k hk _ => hk
theorem IntIn.own {w : World} {base n cap : Nat} {a : Option Addr} {xs : Cl} (h : OwnInts w base (.slice a n cap) xs) : n = xs.length /\ IntIn (fun k => base <= k) w a xs := by
 obtain ⟨av, cv, e, hc, hav⟩ := h.cells;simp only [Value.slice.injEq] at e;obtain ⟨rfl, rfl, rfl⟩ := e;exact ⟨rfl, hc, fun p hp _ => (hav p hp).1⟩
structure Sl where
 a : Option Addr
 c : Nat
 xs : Cl
def sle (e : Sl) : List Value := [.slice e.a e.xs.length e.c]
theorem zwo (e : Sl) : (sle e).length = 1 := rfl
theorem zcp (e : Sl) : ∀ u ∈ sle e, u.oneCell' = true := by intro u hu; simp [sle] at hu; subst hu; rfl
theorem zd5 : Elem 22 25 1 24 (.slice none 0 0) := .mk Tryz.underlying22 (by kernel_rfl) rfl (by decide)
structure OwnS (X : Nat -> Prop) (w : World) (base : Nat) (v : Value) (L : List Sl) : Prop where
 own : OwnL sle 25 1 w base v L
 ic : ∀ e ∈ L, IntIn (fun k => X k /\ ¬ v.ownBlock = some k) w e.a e.xs
theorem OwnS.nil (X : Nat -> Prop) (w : World) (base : Nat) : OwnS X w base (.slice none 0 0) [] := ⟨OwnL.nil _ _, fun e h => by simp at h⟩
theorem OwnS.later {X : Nat -> Prop} {w w' : World} {base : Nat} {v : Value} {L : List Sl} (h : OwnS X w base v L) (hb : Below w.heap.size w w') : OwnS X w' base v L := ⟨h.own.later hb, fun e he => (h.ic e he).later hb⟩
theorem OwnS.kept {X M : Nat -> Prop} {w w' : World} {base : Nat} {v : Value} {L : List Sl} (h : OwnS X w base v L) (hk : Kp M w w') (hm : ∀ k, X k -> ¬ M k) (hv : ∀ k, v.ownBlock = some k -> ¬ M k) : OwnS X w' base v L := ⟨h.own.kept hk hv, fun e he => (h.ic e he).kept hk fun k hk => hm k hk.1⟩
theorem OwnS.ls {X : Nat -> Prop} {w : World} {base n cap : Nat} {a : Option Addr} {L : List Sl} (h : OwnS X w base (.slice a n cap) L) (hX : ∀ k, base <= k -> X k) : n = L.length /\ LsIn X w a (L.map fun e => e.xs) := by
 rcases h.own.shape with ⟨h1, h2⟩ | ⟨g, cp, h1, h2, h3⟩
 ·simp only [Value.slice.injEq] at h1;subst h2;exact ⟨h1.2.1, LsIn.nil _ _ _⟩
 simp only [Value.slice.injEq] at h1;obtain ⟨rfl, rfl, rfl⟩ := h1;refine ⟨rfl, fun i hi => ?_⟩
 have hil : i < L.length := by simpa using hi
 have hcell := h.own.cell rfl zwo i 0 hil (by omega);simp only [Nat.mul_one, Nat.add_zero, sle, List.getElem?_cons_zero] at hcell
 have e1 : (L.map fun e => e.xs).getD i [] = L[i].xs := by simp [List.getD_eq_getElem?_getD, hil]
 exact ⟨g, 0, _, _, rfl, hX _ h2, by rw [e1, Nat.zero_add]; exact hcell, by rw [e1]; exact (h.ic _ (List.getElem_mem hil)).mono fun k _ hk => hk.1⟩
theorem OwnS.push {X : Nat -> Prop} {w w' : World} {base g cap : Nat} {v : Value} {L : List Sl} {e : Sl} (h : OwnS X w base v L) (he : IntIn (fun k => X k /\ ¬ v.ownBlock = some k) w e.a e.xs)
 (ho : OwnL sle 25 1 w' base (.slice (some ⟨g, 0, none⟩) (L.length + 1) cap) (L ++ [e])) (hg : w.grownBy w' v.ownBlock) (hn : v.ownBlock = some g \/ w.heap.size <= g) :
 OwnS X w' base (.slice (some ⟨g, 0, none⟩) (L ++ [e]).length cap) (L ++ [e]) := by
 have hk : Kp (fun k => v.ownBlock = some k) w w' := Kp.grown hg fun k h => h
 refine ⟨by rw [List.length_append]; exact ho, fun x hx => ?_⟩
 have hx' : IntIn (fun k => X k /\ ¬ v.ownBlock = some k) w x.a x.xs := by
  rcases List.mem_append.1 hx with hx | hx
  ·exact h.ic x hx
  simp at hx; subst hx; exact he
 have h2 := (hx'.mono (Y := fun k => k < w.heap.size /\ X k /\ ¬ v.ownBlock = some k) fun k hk hx => ⟨hk, hx⟩).kept hk fun k hk => hk.2.2
 refine h2.mono fun k _ hk => ⟨hk.2.1, fun e => ?_⟩
 simp [Value.ownBlock] at e
 subst e
 rcases hn with hn | hn
 ·exact hk.2.2 hn
 exact absurd hk.1 (by omega)
theorem LsIn.get {X : Nat -> Prop} {w : World} {a : Option Addr} {t : List Cl} (h : LsIn X w a t) {k : Nat} (hk : k < t.length) :
 ∃ b off ai ci, a = some ⟨b, off, none⟩ /\ w.cell? ⟨b, off + k, none⟩ = some (.slice ai (t.getD k []).length ci) /\ IntIn X w ai (t.getD k []) :=
 let ⟨b, off, ai, ci, h1, _, h3, h4⟩ := h k hk; ⟨b, off, ai, ci, h1, h3, h4⟩
theorem zrn {s : St} {v : Int} (h : ¬ (1 <= v /\ v <= 128)) : s.mem v = false := by
 unfold St.mem; rw [if_neg (by omega), if_neg (by omega)]
theorem zk3 (s : St) (v : Int) (w : World) (_hs : s.ok) : Calls Tryz.prog 126 #[stv s, .int .i64 v] w fun e w' => e = .returned (.bool (s.mem v)) /\ Below w.heap.size w w' := by
 by_cases h1 : 1 <= v
 ·have d1 : decide (1 <= v) = true := by simpa using h1
  by_cases h2 : v <= 128
  ·have d2 : decide (v <= 128) = true := by simpa using h2
   by_cases hv : v <= 64
   ·have e1 : (v - 1) / 64 = 0 := by omega
    have e2 : (v - 1) % 64 = v - 1 := by omega
    go_enter Tryz.func126, Tryz.ntmps126;go_wp2;go_ret;exact ⟨zah (zrm s h1 hv), (Below.refl _ _).alloc (Nat.le_refl _) _⟩
   have e1 : (v - 1) / 64 = 1 := by omega
   have e2 : (v - 1) % 64 = v - 65 := by omega
   have hv2 : 65 <= v := by omega
   go_enter Tryz.func126, Tryz.ntmps126;go_wp2;go_ret;exact ⟨zah (zrl s hv2 h2 _ (by omega)), (Below.refl _ _).alloc (Nat.le_refl _) _⟩
  have d2 : decide (v <= 128) = false := by simpa using h2
  have HR : Hid (s.mem v = false) := zrn (by omega);clear h2;go_enter Tryz.func126, Tryz.ntmps126;go_wp2;go_ret;exact ⟨zah HR.o.symm, (Below.refl _ _).alloc (Nat.le_refl _) _⟩
 have d1 : decide (1 <= v) = false := by simpa using h1
 have HR : Hid (s.mem v = false) := zrn (by omega);clear h1;go_enter Tryz.func126, Tryz.ntmps126;go_wp2;go_ret;exact ⟨zah HR.o.symm, (Below.refl _ _).alloc (Nat.le_refl _) _⟩
theorem zqc (l n : Int) (w : World) (hn0 : 0 <= n) (hn1 : n <= 128) (hl : zas l n = true) : Calls Tryz.prog 67 #[.int .i64 l, .int .i64 n] w fun e w' => e = .returned (.bool true) /\ w = w' := by
 simp only [zas, Bool.and_eq_true, decide_eq_true_eq] at hl;have h := zc3 hl.1
 have d1 : (l != 0) = true := by simp; omega
 have d2 : decide (-n <= l) = true := by simp; omega
 have d3 : decide (l <= n) = true := by simp; omega
 clear hl h;go_enter Tryz.func67, Tryz.ntmps67;go_wp2;go_ret;exact ⟨rfl, rfl⟩
theorem zu7 {a k : Nat} (h : a.testBit k = false) : a + 2 ^ k = a ||| 2 ^ k := by
 have h1 : a % 2 ^ (k + 1) < 2 ^ k := by
  rw [Nat.testBit_eq_decide_div_mod_eq, decide_eq_false_iff_not] at h
  have h2 : a % 2 ^ (k + 1) = 2 ^ k * (a / 2 ^ k % 2) + a % 2 ^ k := by rw [Nat.pow_succ, Nat.mod_mul]; omega
  have h3 : a / 2 ^ k % 2 = 0 := by omega
  rw [h2, h3];have := Nat.mod_lt a (show 2 ^ k > 0 from Nat.pow_pos (by omega));omega
 have e : a = 2 ^ (k + 1) * (a / 2 ^ (k + 1)) + a % 2 ^ (k + 1) := (Nat.div_add_mod a (2 ^ (k + 1))).symm;generalize a / 2 ^ (k + 1) = q at e;generalize a % 2 ^ (k + 1) = r at e h1
 have hp : 2 ^ (k + 1) = 2 ^ k + 2 ^ k := by rw [Nat.pow_succ]; omega
 have e2 : 2 ^ k + r = 2 ^ k ||| r := by have := Nat.two_pow_add_eq_or_of_lt h1 1; simpa using this
 have e3 : 2 ^ (k + 1) * q + r = 2 ^ (k + 1) * q ||| r := Nat.two_pow_add_eq_or_of_lt (by omega) q
 have e4 : 2 ^ (k + 1) * q + (2 ^ k + r) = 2 ^ (k + 1) * q ||| (2 ^ k + r) := Nat.two_pow_add_eq_or_of_lt (by omega) q
 rw [e, show 2 ^ (k + 1) * q + r + 2 ^ k = 2 ^ (k + 1) * q + (2 ^ k + r) by omega, e4, e2, e3, Nat.or_assoc, Nat.or_comm r]
theorem zsr {s : St} {v : Int} (hs : s.ok) (h : s.mem v = true) : s.add v = s := by
 apply St.ext (St.add_ok hs v) hs
 intro u _ _;rw [St.mem_add]
 by_cases e : u = v
 ·subst e; rw [h]; rfl
 simp [e]
theorem zo8 {a k : Nat} (ha : a < U64) (hb : a.testBit k = false) (hk : k < 64) : IntKind.u64.wrap ((a : Int) + IntKind.u64.wrap ((2 : Int) ^ k)) = ((a ||| 2 ^ k : Nat) : Int) := by
 have h1 : a + 2 ^ k < U64 := by rw [zu7 hb]; exact zdq ha (zcc hk)
 rw [zhn hk, <- zu7 hb];unfold U64 at h1;generalize 2 ^ k = p at *;rw [show ((a : Int) + (p : Int)) = ((a + p : Nat) : Int) by simp];exact IntWalk.u64_in _ (by omega)
theorem zfk (l n : Int) (w : World) (hn0 : 0 <= n) (hn1 : n <= 128) : Calls Tryz.prog 67 #[.int .i64 l, .int .i64 n] w fun e w' => e = .returned (.bool (zas l n)) /\ w = w' := by
 cases hl : zas l n with
 | true => exact zqc l n w hn0 hn1 hl
 | false =>
   have hl' : l = 0 \/ l < -n \/ n < l := by
    refine Classical.byContradiction fun h => ?_
    have : zas l n = true := by
     unfold zas;rw [zal (by omega) (by omega) (by omega)];simp only [Bool.and_eq_true, decide_eq_true_eq]
     split <;> omega
    rw [hl] at this; simp at this
   by_cases h0 : l = 0
   ·subst h0;clear hl hl';go_enter Tryz.func67, Tryz.ntmps67;go_wp2;go_ret;exact ⟨rfl, rfl⟩
   have d1 : (l != 0) = true := by simpa using h0
   by_cases h1 : l < -n
   ·have d2 : decide (-n <= l) = false := by simp; omega
    have hw : IntKind.i64.wrap (-n) = -n := IntWalk.i64_in _ (by omega);clear hl hl';go_enter Tryz.func67, Tryz.ntmps67;go_wp2;go_ret;exact ⟨rfl, rfl⟩
   have d2 : decide (-n <= l) = true := by simp; omega
   have d3 : decide (l <= n) = false := by simp; omega
   clear hl hl';go_enter Tryz.func67, Tryz.ntmps67;go_wp2;go_ret;exact ⟨rfl, rfl⟩
theorem zcs (a : Option Addr) (cap : Nat) (xs : Cl) (x : Int) (w : World) (hl : xs.length <= 1073741824) (hx : IntCells w a xs) :
 Calls Tryz.prog 84 #[.slice a xs.length cap, .int .i64 x] w fun e w' => e = .returned (.bool (inL xs x)) /\ w = w' := by
 have HX := lh hx;clear hx;go_enter Tryz.func84, Tryz.ntmps84;go_wp2
 go_loop [5] (fun i => ∃ k : Nat, k <= xs.length /\ i = .int .i64 k /\ ∀ j, j < k -> xs.getD j 0 ≠ x) (fun i => xs.length - (intOf i).toNat)
 case atStart => exact ⟨0, Nat.zero_le _, rfl, fun j h => absurd h (Nat.not_lt_zero _)⟩
 obtain ⟨k, hk, rfl, hno⟩ := hrel;have HN := lh hno;clear hno
 by_cases hlt : k < xs.length
 ·obtain ⟨b, off, rfl, hc⟩ := HX.o k hlt
  by_cases he : xs.getD k 0 = x
  ·have HR : Hid (inL xs x = true) := zl2 hlt he;rw [he] at hc;clear he;go_wp2;go_ret;exact ⟨zah HR.o.symm, rfl⟩
  have HE := lh he
  have hd : (xs.getD k 0 == x) = false := by simpa using he
  clear he;generalize xs.getD k 0 = y at hc hd;go_wp2;go_round
  case rel => exact ⟨k + 1, by omega, by go_num, fun j hj => by
   by_cases e : j = k
   ·subst e; exact HE.o
   exact HN.o j (by omega)⟩
  case measure => simp [intOf]; omega
 have hke : k = xs.length := by omega
 subst hke;have HR : Hid (inL xs x = false) := zkz HN.o;go_wp2;go_ret;exact ⟨zah HR.o.symm, rfl⟩
theorem zn8 (x : Int) (w : World) (h : -9223372036854775807 <= x) (h2 : x <= 9223372036854775807) : Calls Tryz.prog 125 #[.int .i64 x] w fun e w' => e = .returned (.int .i64 (labs x)) /\ w = w' := by
 by_cases h0 : x < 0
 ·have HR : Hid (labs x = -x) := by show _ = _; unfold labs; rw [if_pos h0]
  have hw : IntKind.i64.wrap (-x) = -x := IntWalk.i64_in _ (by omega);clear h h2;go_enter Tryz.func125, Tryz.ntmps125;go_wp2;go_ret;exact ⟨zbb HR.o.symm, rfl⟩
 have HR : Hid (labs x = x) := by show _ = _; unfold labs; rw [if_neg h0]
 clear h h2;go_enter Tryz.func125, Tryz.ntmps125;go_wp2;go_ret;exact ⟨zbb HR.o.symm, rfl⟩
theorem zgd (n : Int) (a : Option Addr) (cap : Nat) (t : List Cl) (w : World) (hl : t.length <= 1073741824) (hx : LsCells w a t) :
 Calls Tryz.prog 27 #[.agg #[.int .i64 n, .slice a t.length cap]] w fun e w' => e = .returned (.int .i64 (chkT n t)) /\ Below w.heap.size w w' := by
 have hb0 : Below w.heap.size w (w.alloc (.cells #[.int .i64 n, .slice a t.length cap] 24)) := (Below.refl _ _).alloc (Nat.le_refl _) _;have HB0 := lh hb0
 by_cases hn : n < 0 \/ 128 < n
 ·have HR : Hid (chkT n t = 6) := by show _ = _; unfold chkT; rw [if_pos hn]
  clear hx hb0
  rcases hn with hn | hn
  ·go_enter Tryz.func27, Tryz.ntmps27;go_wp2;go_ret;exact ⟨by rw [HR.o]; rfl, HB0.o⟩
  have hn0 : ¬ n < 0 := by omega
  go_enter Tryz.func27, Tryz.ntmps27;go_wp2;go_ret;exact ⟨by rw [HR.o]; rfl, HB0.o⟩
 have hn0 : 0 <= n := by omega
 have hn1 : n <= 128 := by omega
 by_cases hlt : 4096 < t.length
 ·have HR : Hid (chkT n t = 2) := by show _ = _; unfold chkT; rw [if_neg hn, if_pos hlt]
  have hli : (4096 : Int) < (t.length : Int) := by omega
  clear hx hb0 hn;go_enter Tryz.func27, Tryz.ntmps27;go_wp2;go_ret;exact ⟨by rw [HR.o]; rfl, HB0.o⟩
 have HR : Hid (chkT n t = zd8 n (t.drop 0)) := by show _ = _; unfold chkT; rw [if_neg hn, if_neg hlt]; rfl
 have hli : (t.length : Int) <= 4096 := by omega
 have HX := lh (hx.keep hb0)
 obtain ⟨w0, hw0⟩ : ∃ w0, w0 = w.alloc (.cells #[.int .i64 n, .slice a t.length cap] 24) := ⟨_, rfl⟩
 rw [<- hw0] at HX HB0
 have b0 : w0.cell? ⟨w.heap.size, 0, none⟩ = some (.int .i64 n) := by rw [hw0, World.cell?_alloc_at _ _ _ _ rfl]; rfl
 have b1 : w0.cell? ⟨w.heap.size, 1, none⟩ = some (.slice a t.length cap) := by rw [hw0, World.cell?_alloc_at _ _ _ _ rfl]; rfl
 clear hx hb0 hn;go_enter Tryz.func27, Tryz.ntmps27;go_wp2_with fail;rw [<- hw0];clear hw0;go_wp2_with fail
 go_loopw [3] (fun i wr => ∃ k : Nat, k <= t.length /\ i = .int .i64 k /\ Below w0.heap.size w0 wr /\ chkT n t = zd8 n (t.drop k)) (fun i _ => t.length - (intOf i).toNat)
 case atStart => exact ⟨0, Nat.zero_le _, rfl, Below.refl _ _, HR.o⟩
 obtain ⟨k, hk, rfl, hbr, hch⟩ := hrel;have HC := lh hch;have HBR := lh hbr;have HBW := lh (HB0.o.trans (hbr.mono HB0.o.size));have HXR := lh (HX.o.keep hbr);have r0 := zaa hbr b0;have r1 := zaa hbr b1;clear hch hbr
 by_cases hkt : k < t.length
 ·obtain ⟨b, off, ai, ci, rfl, hc1, hi⟩ := HXR.o k hkt;have HD := lh (zjv (n := n) hkt)
  have hki : (k : Int) < (t.length : Int) := by omega
  have HI := lh hi;clear hi;generalize t.getD k [] = c at *
  by_cases h128 : 128 < c.length
  ·have hci : (128 : Int) < (c.length : Int) := by omega
   have HE : Hid (chkT n t = 2) := by show _ = _; rw [HC.o, HD.o, if_pos h128]
   go_wp2;go_ret;exact ⟨by rw [HE.o]; rfl, HBW.o⟩
  have hci : (c.length : Int) <= 128 := by omega
  have HD2 : Hid (chkT n t = if (c.all fun x => zas x n) = true then zd8 n (t.drop (k + 1)) else 1) := by show _ = _; rw [HC.o, HD.o, if_neg h128]
  have HWZ : Hid (Below wr.heap.size wr wr) := Below.refl _ _;go_wp2_with fail
  go_loopw [4] (fun i wi => ∃ q : Nat, q <= c.length /\ i = .int .i64 q /\ Below wr.heap.size wr wi /\ (c.all fun x => zas x n) = (c.drop q).all fun x => zas x n) (fun i _ => c.length - (intOf i).toNat)
  case atStart => exact ⟨0, Nat.zero_le _, rfl, HWZ.o, rfl⟩
  obtain ⟨q, hq, rfl, hwi, hal⟩ := hrel
  rename World => wi
  have HWI := lh hwi;have HA := lh hal;have c0 := zaa hwi r0;have c1 := zaa hwi r1;have hc2 := zaa hwi hc1;have HI2 := lh (HI.o.keep hwi);clear hal hwi
  by_cases hqc : q < c.length
  ·obtain ⟨b2, off2, rfl, e0⟩ := HI2.o q hqc
   have hqi : (q : Int) < (c.length : Int) := by omega
   have HDQ : Hid (((c.drop q).all fun x => zas x n) = (zas (c.getD q 0) n && (c.drop (q + 1)).all fun x => zas x n)) := by
    show _ = _; rw [List.drop_eq_getElem_cons hqc, List.all_cons]; simp [List.getD_eq_getElem?_getD, hqc]
   generalize c.getD q 0 = y at *;have HV := lh (fun W => zfk y n W hn0 hn1)
   cases hy : zas y n with
   | true =>
     rw [hy] at HV
     have HN : Hid ((c.all fun x => zas x n) = (c.drop (q + 1)).all fun x => zas x n) := by show _ = _; rw [HA.o, HDQ.o, hy, Bool.true_and]
     clear hy;go_wp2_with fail
     go_quiet (first | exact Calls.quiet_of_same ((HV.o _).mono fun _ _ hh => ⟨hh.1, hh.2.symm⟩) | exact (HV.o _).mono fun _ _ hh => ⟨hh.1, _, hh.2.symm⟩)
     go_wp2;go_roundw
     case rel => exact ⟨q + 1, by omega, by go_num, HWI.o.trans (zad _ _), HN.o⟩
     case measure => simp [intOf]; omega
   | false =>
     rw [hy] at HV
     have HE : Hid (chkT n t = 1) := by show _ = _; rw [HD2.o, HA.o, HDQ.o, hy, Bool.false_and, if_neg (by simp)]
     clear hy;go_wp2_with fail
     go_quiet (first | exact Calls.quiet_of_same ((HV.o _).mono fun _ _ hh => ⟨hh.1, hh.2.symm⟩) | exact (HV.o _).mono fun _ _ hh => ⟨hh.1, _, hh.2.symm⟩)
     go_wp2;go_ret;exact ⟨by rw [HE.o]; rfl, HBW.o.trans ((HWI.o.trans (zad _ _)).mono HBW.o.size)⟩
  have hqe : q = c.length := by omega
  subst hqe
  have HN : Hid (chkT n t = zd8 n (t.drop (k + 1))) := by show _ = _; rw [HD2.o, HA.o, List.drop_length]; rfl
  go_wp2;go_roundw
  case rel => exact ⟨k + 1, by omega, by go_num, HBR.o.trans (HWI.o.mono HBR.o.size), HN.o⟩
  case measure => simp [intOf]; omega
 have hke : k = t.length := by omega
 subst hke
 have HE : Hid (chkT n t = 0) := by show _ = _; rw [HC.o, List.drop_length]; rfl
 go_wp2;go_ret;exact ⟨by rw [HE.o]; rfl, HBW.o⟩
theorem zby (n : Int) (a : Option Addr) (cap : Nat) (t : List Cl) (w : World) (hl : t.length <= 1073741824) (_hs : ∀ c ∈ t, c.length <= 1073741824) (hx : LsCells w a t) :
 Calls Tryz.prog 27 #[.agg #[.int .i64 n, .slice a t.length cap]] w fun e w' => e = .returned (.int .i64 (chkT n t)) /\ Below w.heap.size w w' := zgd n a cap t w hl hx
theorem zps (c : Cl) {v : Int} (h1 : 1 <= v) : zaw v.toNat c = zaw (v.toNat - 1) c ++ ((if inL c (-v) = true then [-v] else []) ++ (if inL c v = true then [v] else [])) := by
 obtain ⟨k, rfl⟩ : ∃ k : Nat, v = (k : Int) + 1 := ⟨(v - 1).toNat, by omega⟩
 rw [show ((k : Int) + 1).toNat = k + 1 by omega, zkd];simp only [inL, List.contains_iff_mem, Nat.add_sub_cancel]
theorem zrx (c : Cl) {v : Int} (h1 : 1 <= v) : oppR c v.toNat = (oppR c (v.toNat - 1) || (inL c v && inL c (-v))) := by
 obtain ⟨k, rfl⟩ : ∃ k : Nat, v = (k : Int) + 1 := ⟨(v - 1).toNat, by omega⟩
 rw [show ((k : Int) + 1).toNat = k + 1 by omega]; rfl
theorem znw (a : Option Addr) (cap : Nat) (c : Cl) (n : Nat) (w : World) (hn : n <= 128) (hl : c.length <= 1073741824) (hx : IntCells w a c) :
 Calls Tryz.prog 85 #[.slice a c.length cap, .int .i64 (n : Int)] w fun e w' => ∃ v, e = .returned (.tuple #[v, .bool (oppR c n)]) /\ OwnInts w' w.heap.size v (zaw n c) /\ Below w.heap.size w w' := by
 have HX := lh hx;have HLC := lh hl;have HN := lh hn;clear hx hl hn;go_enter Tryz.func85, Tryz.ntmps85;go_wp2
 go_loopw [6, 7, 8] (fun o al i wr => ∃ v : Int, 1 <= v /\ v <= (n : Int) + 1 /\ i = .int .i64 v /\ al = .bool (oppR c (v.toNat - 1)) /\ OwnInts wr w.heap.size o (zaw (v.toNat - 1) c) /\ Below w.heap.size w wr) (fun _ _ i _ => n + 1 - (intOf i).toNat)
 case atStart => exact ⟨1, by omega, by omega, rfl, rfl, OwnInts.nil _ _, Below.refl _ _⟩
 obtain ⟨v, hv1, hv2, rfl, rfl, hown, hb⟩ := hrel;have HO := lh hown;have HB := lh hb;have HZ : Hid (w.heap.size <= wr.heap.size) := hb.size;clear hown hb
 by_cases hlt : v <= (n : Int)
 ·have NE0 := zps c hv1;have AE0 := zrx c hv1
  have HL : Hid ((zaw (v.toNat - 1) c).length <= 1073741824) := by
   show _ <= _
   have := zeh c (v.toNat - 1);have := HN.o;omega
  have HL2 : Hid ((zaw (v.toNat - 1) c).length <= 512) := by
   show _ <= _
   have := zeh c (v.toNat - 1);have := HN.o;omega
  have hwr : IntKind.i64.wrap (-v) = -v := IntWalk.i64_in _ (by have := HN.o; omega)
  have hv128 : v <= 128 := by have := HN.o; omega
  generalize oppR c (v.toNat - 1) = al at *;generalize zaw (v.toNat - 1) c = ys at *;have HCC := lh (fun W (hW : Below w.heap.size w W) => zcs a cap c v W HLC.o (HX.o.keep hW));have HCM := lh (fun W (hW : Below w.heap.size w W) => zcs a cap c (-v) W HLC.o (HX.o.keep hW));have HCP := lh (HCC.o wr HB.o);have HCN := lh (HCM.o wr HB.o)
  have e1 : (v + 1).toNat - 1 = v.toNat := by omega
  cases CN : inL c (-v)
  case false =>
   rw [CN] at HCN NE0 AE0
   cases CP : inL c v
   case false =>
    rw [CP] at HCP NE0 AE0
    have NE : zaw ((v + 1).toNat - 1) c = zaw v.toNat c := by rw [e1]
    rw [NE0] at NE
    have AE : oppR c ((v + 1).toNat - 1) = oppR c v.toNat := by rw [e1]
    rw [AE0] at AE;have NEH := lh NE;have AEH := lh AE;have CNH := lh CN;have CPH := lh CP;clear NE AE NE0 AE0 CN CP e1;go_wp2_with fail;refine HCN.o.mono ?_;rintro e wq ⟨rfl, hwq⟩;obtain rfl := hwq;go_wp2_with fail;refine HCP.o.mono ?_;rintro e wq ⟨rfl, hwq⟩;obtain rfl := hwq;go_wp2;go_roundw
    case rel => exact ⟨v + 1, by omega, by omega, rfl, by rw [AEH.o]; simp, by rw [NEH.o]; simpa using HO.o, HB.o⟩
    case measure => simp [intOf]; omega
   case true =>
    rw [CP] at HCP NE0 AE0
    have NE : zaw ((v + 1).toNat - 1) c = zaw v.toNat c := by rw [e1]
    rw [NE0] at NE
    have AE : oppR c ((v + 1).toNat - 1) = oppR c v.toNat := by rw [e1]
    rw [AE0] at AE;have NEH := lh NE;have AEH := lh AE;have CNH := lh CN;have CPH := lh CP;clear NE AE NE0 AE0 CN CP e1;go_wp2_with fail;refine HCN.o.mono ?_;rintro e wq ⟨rfl, hwq⟩;obtain rfl := hwq;go_wp2_with fail;refine HCP.o.mono ?_;rintro e wq ⟨rfl, hwq⟩;obtain rfl := hwq;go_wp2_with (at_builtin; refine zhs rfl _ _ rfl w.heap.size u6 ys v rfl HO.o rfl HL.o HZ.o ?_);intro v2 w2 hown2 hgrow2 _;have HO2 := lh hown2;have HB2 : Hid (Below w.heap.size w w2) := HB.o.grown hgrow2 HZ.o (fun q hq => (HO.o.lt q hq).1);have HCN2 := lh (HCM.o w2 HB2.o);rw [CNH.o] at HCN2;clear hown2 hgrow2
    cases al
    case false =>
     go_wp2_with fail;refine (HCN2.o).mono ?_;rintro e wq ⟨rfl, hwq⟩;obtain rfl := hwq;go_wp2;go_roundw
     case rel => exact ⟨v + 1, by omega, by omega, rfl, by rw [AEH.o]; first | rfl | simp, by rw [NEH.o]; simpa using HO2.o, HB2.o⟩
     case measure => simp [intOf]; omega
    case true =>
     go_wp2;go_roundw
     case rel => exact ⟨v + 1, by omega, by omega, rfl, by rw [AEH.o]; first | rfl | simp, by rw [NEH.o]; simpa using HO2.o, HB2.o⟩
     case measure => simp [intOf]; omega
  case true =>
   rw [CN] at HCN NE0 AE0
   cases CP : inL c v
   case false =>
    rw [CP] at HCP NE0 AE0
    have NE : zaw ((v + 1).toNat - 1) c = zaw v.toNat c := by rw [e1]
    rw [NE0] at NE
    have AE : oppR c ((v + 1).toNat - 1) = oppR c v.toNat := by rw [e1]
    rw [AE0] at AE;have NEH := lh NE;have AEH := lh AE;have CNH := lh CN;have CPH := lh CP;clear NE AE NE0 AE0 CN CP e1;go_wp2_with fail;refine HCN.o.mono ?_;rintro e wq ⟨rfl, hwq⟩;obtain rfl := hwq;go_wp2_with (at_builtin; refine zhs rfl _ _ rfl w.heap.size u6 ys (-v) rfl HO.o rfl HL.o HZ.o ?_);intro v1 w1 hown1 hgrow1 _;have HO1 := lh hown1;have HB1 : Hid (Below w.heap.size w w1) := HB.o.grown hgrow1 HZ.o (fun q hq => (HO.o.lt q hq).1);have HZ1 : Hid (w.heap.size <= w1.heap.size) := HB1.o.size;have HCP := lh (HCC.o w1 HB1.o);rw [CPH.o] at HCP;have HCN := lh (HCM.o w1 HB1.o);rw [CNH.o] at HCN
    clear hown1 hgrow1;go_wp2_with fail;refine HCP.o.mono ?_;rintro e wq ⟨rfl, hwq⟩;obtain rfl := hwq;go_wp2;go_roundw
    case rel => exact ⟨v + 1, by omega, by omega, rfl, by rw [AEH.o]; simp, by rw [NEH.o]; simpa using HO1.o, HB1.o⟩
    case measure => simp [intOf]; omega
   case true =>
    rw [CP] at HCP NE0 AE0
    have NE : zaw ((v + 1).toNat - 1) c = zaw v.toNat c := by rw [e1]
    rw [NE0] at NE
    have AE : oppR c ((v + 1).toNat - 1) = oppR c v.toNat := by rw [e1]
    rw [AE0] at AE;have NEH := lh NE;have AEH := lh AE;have CNH := lh CN;have CPH := lh CP;clear NE AE NE0 AE0 CN CP e1;go_wp2_with fail;refine HCN.o.mono ?_;rintro e wq ⟨rfl, hwq⟩;obtain rfl := hwq;go_wp2_with (at_builtin; refine zhs rfl _ _ rfl w.heap.size u6 ys (-v) rfl HO.o rfl HL.o HZ.o ?_);intro v1 w1 hown1 hgrow1 _;have HO1 := lh hown1;have HB1 : Hid (Below w.heap.size w w1) := HB.o.grown hgrow1 HZ.o (fun q hq => (HO.o.lt q hq).1);have HZ1 : Hid (w.heap.size <= w1.heap.size) := HB1.o.size;have HCP := lh (HCC.o w1 HB1.o);rw [CPH.o] at HCP;have HCN := lh (HCM.o w1 HB1.o);rw [CNH.o] at HCN
    clear hown1 hgrow1;go_wp2_with fail;refine HCP.o.mono ?_;rintro e wq ⟨rfl, hwq⟩;obtain rfl := hwq;go_wp2_with (at_builtin; refine zhs rfl _ _ rfl w.heap.size v1 (ys ++ [-v]) v rfl HO1.o rfl (by have := HL2.o; simp; omega) HZ1.o ?_);intro v2 w2 hown2 hgrow2 _;have HO2 := lh hown2;have HB2 : Hid (Below w.heap.size w w2) := HB1.o.grown hgrow2 HZ1.o (fun q hq => (HO1.o.lt q hq).1);have HCN2 := lh (HCM.o w2 HB2.o);rw [CNH.o] at HCN2;clear hown2 hgrow2
    cases al
    case false =>
     go_wp2_with fail;refine (HCN2.o).mono ?_;rintro e wq ⟨rfl, hwq⟩;obtain rfl := hwq;go_wp2;go_roundw
     case rel => exact ⟨v + 1, by omega, by omega, rfl, by rw [AEH.o]; first | rfl | simp, by rw [NEH.o]; simpa using HO2.o, HB2.o⟩
     case measure => simp [intOf]; omega
    case true =>
     go_wp2;go_roundw
     case rel => exact ⟨v + 1, by omega, by omega, rfl, by rw [AEH.o]; first | rfl | simp, by rw [NEH.o]; simpa using HO2.o, HB2.o⟩
     case measure => simp [intOf]; omega
 have hve : v = (n : Int) + 1 := by omega
 subst hve
 have e1 : ((n : Int) + 1).toNat - 1 = n := by omega
 rw [e1] at HO
 have HA : Hid (oppR c (((n : Int) + 1).toNat - 1) = oppR c n) := by show _ = _; rw [e1]
 generalize oppR c (((n : Int) + 1).toNat - 1) = al at *;have hlt2 : ¬ (n : Int) + 1 <= n := hlt;go_wp2;go_ret2;exact ⟨_, by rw [<- HA.o]; rfl, HO.o, HB.o⟩
end Go.Proofs.YtfmmhjphopikgaaGreatDoor
