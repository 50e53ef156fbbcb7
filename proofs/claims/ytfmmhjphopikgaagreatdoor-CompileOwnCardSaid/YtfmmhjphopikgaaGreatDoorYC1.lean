/- Part of the proofs that laws of censuslaw24 return true for every input, where the tables that the rows list are laid. Texts: Tk, Net, Set0, NetVars, CpO, Base, Lit, Sets. -/
import Derived.Deep.RegionHeld3
import Derived.BigRegion
import Derived.Lib.Hide
import Derived.RowKit
import Derived.Test.YtfmmhjphopikgaaGreatDoorProg
import Derived.WalkKit
import Derived.WalkSpells
import Derived.WalkLawsBesides
import Derived.Deep.QuietTactic
import Derived.BigQuiet
import Derived.Laws.ResultCell
set_option maxHeartbeats 8000000
set_option maxRecDepth 100000
set_option linter.unusedSimpArgs false
set_option linter.unusedVariables false
namespace Go.RowKit
theorem Hid.o {p : Prop} (h : Hid p) : p := h
end Go.RowKit
namespace Go.Proofs.YtfmmhjphopikgaaGreatDoor
open Go.RowKit
section
variable {P : Program} {ops : Array Oper} {Q : Exit -> Act -> World -> Prop} {md : Region.Mode} {S : World -> Prop} {oi : Oper} {v : Value} {fuel : Nat} {listed : Array Bool} {a : Act} {w : World}
theorem tkV (i d : Nat) (hi : ops[i]? = some oi) (hd : oi.dst = some d) (h : wpAnyH P md ops Q S fuel (listed.setIfInBounds i true) (a.put (some d) v) w)
 (hs : Region.noSelect ops = true := by kernel_rfl) (hf : Region.free md ops listed i = true := by kernel_rfl) (hr : (Region.ready md ops listed).contains i = true := by kernel_rfl) (hQ : ∀ c a w, Q (.panic c) (a.put oi.dst v) w -> Q (.panic c) a w := by exact fun _ _ _ h => h)
 (hw : Region.wanted oi (yielded ops a.tmps) = true := by rfl) (hy : ∀ w, S w -> (execOp a.eval oi).run P w = .ok (.value v) w := by (intro w hSw; (try dsimp only at hSw); first | (go_simp; done) | (go_simp; with_reducible rfl))) (hS : S w := by assumption) :
 wpAnyH P md ops Q S (fuel + 1) listed a w := wpAnyH_take hi hs hf hr hQ (.inl ⟨hw, hy⟩) hS (by rw [hd]; exact h)
theorem tkO (i d : Nat) (hi : ops[i]? = some oi) (hd : oi.dst = some d) (h : wpAnyH P md ops Q S fuel (listed.setIfInBounds i true) (a.put (some d) undef) w)
 (hs : Region.noSelect ops = true := by kernel_rfl) (hf : Region.free md ops listed i = true := by kernel_rfl) (hr : (Region.ready md ops listed).contains i = true := by kernel_rfl) (hQ : ∀ c a w, Q (.panic c) (a.put oi.dst undef) w -> Q (.panic c) a w := by exact fun _ _ _ h => h)
 (hw : Region.wanted oi (yielded ops a.tmps) = false := by kernel_rfl) (hS : S w := by assumption) :
 wpAnyH P md ops Q S (fuel + 1) listed a w := wpAnyH_take hi hs hf hr hQ (.inr ⟨hw, rfl⟩) hS (by rw [hd]; exact h)
theorem tkR (i : Nat) (h : AllReadyH P md ops Q S fuel listed a w [i]) (hr : Region.ready md ops listed = [i] := by kernel_rfl) : wpAnyH P md ops Q S (fuel + 1) listed a w := wpAnyH_ready hr (by simp) h
end
theorem lh {p : Prop} (h : p) : Hid p := Lib.hid h
theorem tkS : (∀ (a : Act) (d : Tmp) (v : Value), a.put (some d) v = { a with tmps := a.tmps.setIfInBounds d v }) /\ (∀ (α : Type) (l : List α) (i : Nat) (x : α), l.toArray.setIfInBounds i x = (l.set i x).toArray) /\ (∀ (α : Type) (x y : α) (l : List α), (x :: l).set 0 y = y :: l) /\ ∀ (α : Type) (x y : α) (l : List α) (n : Nat), (x :: l).set (n + 1) y = x :: l.set n y :=
 ⟨fun _ _ _ => rfl, fun _ _ _ _ => by simp, fun _ _ _ _ => rfl, fun _ _ _ _ _ => rfl⟩
end Go.Proofs.YtfmmhjphopikgaaGreatDoor
namespace Cen
structure Nd where
 kind : Int
 lit : Int
 ins : List Int
instance : Inhabited Nd := ⟨⟨0, 0, []⟩⟩
instance : DecidableEq Nd := fun a b =>
 decidable_of_iff (a.kind = b.kind /\ a.lit = b.lit /\ a.ins = b.ins) (by cases a; cases b; simp)
structure Nt where
 n : Int
 l : List Nd
def zac (l : Int) : Int := if 1 <= l /\ l <= 128 then l else if l <= -1 /\ -128 <= l then -l else 0
theorem zb6 (l : Int) : 0 <= zac l /\ zac l <= 128 := by unfold zac; (repeat' split) <;> omega
theorem zc3 {l : Int} (h : zac l ≠ 0) : (1 <= l /\ l <= 128 /\ zac l = l) \/ (l <= -1 /\ -128 <= l /\ zac l = -l) := by
 unfold zac at *
 by_cases h1 : 1 <= l /\ l <= 128
 ·rw [if_pos h1] at *; omega
 rw [if_neg h1] at *
 by_cases h2 : l <= -1 /\ -128 <= l
 ·rw [if_pos h2] at *; omega
 rw [if_neg h2] at h; exact absurd rfl h
def zas (l n : Int) : Bool := decide (zac l ≠ 0) && decide (zac l <= n)
def zhb (ins : List Int) (before : Int) : Bool := ins.all fun i => decide (0 <= i) && decide (i < before)
def zcr (x : Nd) (n : Int) : Bool :=
 if x.kind = 0 \/ x.kind = 1 then decide (x.lit = 0) && decide (x.ins.length = 0)
 else if x.kind = 2 then zas x.lit n && decide (x.ins.length = 0)
 else if x.kind = 3 \/ x.kind = 4 then decide (x.lit = 0)
 else false
def ndOk (x : Nd) (n before : Int) : Bool := zhb x.ins before && zcr x n
def zno (l : List Nd) (n : Int) (k : Nat) : Prop := ∀ j, j < k -> ndOk (l.getD j default) n j = true
instance (l : List Nd) (n : Int) (k : Nat) : Decidable (zno l n k) :=
 decidable_of_iff (∀ j, j ∈ List.range k -> ndOk (l.getD j default) n j = true) (by simp [zno])
def zop (t : Nt) : Bool := decide (0 <= t.n) && decide (t.n <= 128) && decide (1 <= t.l.length) && decide (t.l.length <= 65536)
def zdi (t : Nt) : Bool := zop t && decide (zno t.l t.n t.l.length)
theorem ztz {t : Nt} (h : zdi t = true) {k : Nat} (hk : k < t.l.length) : ndOk t.l[k] t.n k = true := by
 simp [zdi] at h
 have := h.2 k hk
 simpa [List.getD_eq_getElem?_getD, hk] using this
theorem netOk_ins {t : Nt} (h : zdi t = true) {k : Nat} (hk : k < t.l.length) : ∀ i ∈ t.l[k].ins, 0 <= i /\ i < k := by
 have := ztz h hk
 simp [ndOk, zhb] at this
 exact this.1
theorem zcv {t : Nt} (h : zdi t = true) : 0 <= t.n /\ t.n <= 128 /\ 1 <= t.l.length /\ t.l.length <= 65536 := by
 simp [zdi, zop] at h; omega
def zbw (s : Int -> Bool) (l : Int) : Bool := decide (zac l ≠ 0) && (s (zac l) == decide (0 < l))
def evNd (s : Int -> Bool) (f : Int -> Bool) (x : Nd) : Bool :=
 if x.kind = 1 then true
 else if x.kind = 2 then zbw s x.lit
 else if x.kind = 3 then x.ins.all f
 else if x.kind = 4 then x.ins.any f
 else false
def at' (vs : List Bool) (i : Int) : Bool := vs.getD i.toNat false
def evs (s : Int -> Bool) : List Nd -> List Bool -> List Bool
 | [], vs => vs
 | x :: l, vs => evs s l (vs ++ [evNd s (at' vs) x])
def zc7 (s : Int -> Bool) (l : List Nd) : List Bool := evs s l []
def ev (s : Int -> Bool) (t : Nt) : Bool := (zc7 s t.l).getD (t.l.length - 1) false
theorem zpk (s : Int -> Bool) (l r : List Nd) (vs : List Bool) : evs s (l ++ r) vs = evs s r (evs s l vs) := by
 induction l generalizing vs with
 | nil => rfl
 | cons y l ih => simp only [List.cons_append, evs]; exact ih _
theorem zg7 (s : Int -> Bool) (l r : List Nd) : zc7 s (l ++ r) = evs s r (zc7 s l) := zpk s l r []
theorem zkp (s : Int -> Bool) (l : List Nd) (x : Nd) : zc7 s (l ++ [x]) = zc7 s l ++ [evNd s (at' (zc7 s l)) x] := zg7 s l [x]
theorem zj0 (s : Int -> Bool) (l : List Nd) (vs : List Bool) : ∃ us, evs s l vs = vs ++ us /\ us.length = l.length := by
 induction l generalizing vs with
 | nil => exact ⟨[], by simp [evs], rfl⟩
 | cons y l ih =>
   obtain ⟨us, h, hl⟩ := ih (vs ++ [evNd s (at' vs) y]);exact ⟨evNd s (at' vs) y :: us, by simp [evs, h], by simp [hl]⟩
theorem zcl (s : Int -> Bool) (l : List Nd) : (zc7 s l).length = l.length := by
 obtain ⟨us, h, hl⟩ := zj0 s l []
 simp [zc7, h, hl]
def T (s : Int -> Bool) (l : List Nd) (i : Int) : Bool := at' (zc7 s l) i
theorem zso (s : Int -> Bool) (l r : List Nd) (i : Int) (h : i < l.length) (h0 : 0 <= i) : T s (l ++ r) i = T s l i := by
 obtain ⟨us, hu, _⟩ := zj0 s r (zc7 s l);unfold T at';rw [zg7, hu]
 have : i.toNat < (zc7 s l).length := by rw [zcl]; omega
 simp [List.getD_eq_getElem?_getD, List.getElem?_append_left this]
theorem zu5 (s : Int -> Bool) (l : List Nd) (k : Nat) (i : Int) (h : i < k) (h0 : 0 <= i) (hk : k <= l.length) : T s l i = T s (l.take k) i := by
 rw [<- zso s (l.take k) (l.drop k) i (by simp; omega) h0, List.take_append_drop]
theorem zpj (s : Int -> Bool) (f g : Int -> Bool) (x : Nd) (h : ∀ i ∈ x.ins, f i = g i) : evNd s f x = evNd s g x := by
 have h1 : x.ins.all f = x.ins.all g := by
  rw [Bool.eq_iff_iff, List.all_eq_true, List.all_eq_true];exact ⟨fun a i hi => by rw [<- h i hi]; exact a i hi, fun a i hi => by rw [h i hi]; exact a i hi⟩
 have h2 : x.ins.any f = x.ins.any g := by
  rw [Bool.eq_iff_iff, List.any_eq_true, List.any_eq_true];exact ⟨fun ⟨i, hi, a⟩ => ⟨i, hi, by rw [<- h i hi]; exact a⟩, fun ⟨i, hi, a⟩ => ⟨i, hi, by rw [h i hi]; exact a⟩⟩
 unfold evNd; rw [h1, h2]
theorem zdo {ins : List Int} {b : Int} : zhb ins b = true ↔ ∀ i ∈ ins, 0 <= i /\ i < b := by simp [zhb]
theorem zu4 (s : Int -> Bool) (l : List Nd) (x : Nd) : T s (l ++ [x]) l.length = evNd s (T s l) x := by
 have h : (zc7 s l).length = l.length := zcl s l;unfold T at';rw [zkp, <- h]
 simp
 rfl
theorem T_eq (s : Int -> Bool) (l : List Nd) (i : Nat) (hi : i < l.length) (hin : zhb (l.getD i default).ins i = true) : T s l i = evNd s (T s l) (l.getD i default) := by
 rw [zdo] at hin
 have e : l.getD i default = l[i] := by simp [List.getD_eq_getElem?_getD, hi]
 rw [e] at hin ⊢;rw [zu5 s l (i + 1) i (by omega) (by omega) (by omega), List.take_succ_eq_append_getElem hi];have := zu4 s (l.take i) l[i];rw [show ((List.take i l).length : Int) = i by simp; omega] at this;rw [this]
 apply zpj
 intro j hj;exact (zu5 s l i j (by have := (hin j hj).2; omega) (hin j hj).1 (by omega)).symm
theorem ev_eq (s : Int -> Bool) (t : Nt) (_h : 1 <= t.l.length) : ev s t = T s t.l (t.l.length - 1 : Nat) := rfl
structure St where
 a : Nat
 b : Nat
instance : Inhabited St := ⟨⟨0, 0⟩⟩
instance : DecidableEq St := fun x y => decidable_of_iff (x.a = y.a /\ x.b = y.b) (by cases x; cases y; simp)
def U64 : Nat := 18446744073709551616
def St.ok (s : St) : Prop := s.a < U64 /\ s.b < U64
def St.zero : St := ⟨0, 0⟩
def St.mem (s : St) (v : Int) : Bool :=
 if 1 <= v /\ v <= 64 then s.a.testBit (v - 1).toNat else if 65 <= v /\ v <= 128 then s.b.testBit (v - 65).toNat else false
def St.add (s : St) (v : Int) : St :=
 if 1 <= v /\ v <= 64 then ⟨s.a ||| 2 ^ (v - 1).toNat, s.b⟩ else if 65 <= v /\ v <= 128 then ⟨s.a, s.b ||| 2 ^ (v - 65).toNat⟩ else s
def St.union (s t : St) : St := ⟨s.a ||| t.a, s.b ||| t.b⟩
def St.cut (s t : St) : St := ⟨s.a &&& t.a, s.b &&& t.b⟩
theorem zm6 : U64 = 2 ^ 64 := rfl
theorem zcc {k : Nat} (h : k < 64) : 2 ^ k < U64 := by rw [zm6]; exact Nat.pow_lt_pow_right (by omega) h
theorem zdq {x y : Nat} (hx : x < U64) (hy : y < U64) : x ||| y < U64 := by rw [zm6] at *; exact Nat.or_lt_two_pow hx hy
theorem zju {x y : Nat} (hx : x < U64) : x &&& y < U64 := Nat.lt_of_le_of_lt Nat.and_le_left hx
theorem St.zero_ok : St.zero.ok := ⟨by unfold U64; decide, by unfold U64; decide⟩
theorem St.union_ok {s t : St} (h : s.ok) (k : t.ok) : (s.union t).ok := ⟨zdq h.1 k.1, zdq h.2 k.2⟩
theorem St.cut_ok {s t : St} (h : s.ok) : (s.cut t).ok := ⟨zju h.1, zju h.2⟩
theorem St.add_ok {s : St} (h : s.ok) (v : Int) : (s.add v).ok := by
 unfold St.add
 (repeat' split)
 ·exact ⟨zdq h.1 (zcc (by omega)), h.2⟩
 ·exact ⟨h.1, zdq h.2 (zcc (by omega))⟩
 exact h
theorem St.mem_zero (v : Int) : St.zero.mem v = false := by unfold St.mem St.zero; (repeat' split) <;> simp
theorem St.mem_union (s t : St) (v : Int) : (s.union t).mem v = (s.mem v || t.mem v) := by
 unfold St.mem St.union; (repeat' split) <;> simp
theorem St.mem_cut (s t : St) (v : Int) : (s.cut t).mem v = (s.mem v && t.mem v) := by
 unfold St.mem St.cut; (repeat' split) <;> simp
theorem St.mem_add (s : St) (u v : Int) : (s.add u).mem v = (s.mem v || (decide (v = u) && decide (1 <= u) && decide (u <= 128))) := by
 unfold St.mem St.add
 by_cases h1 : 1 <= u /\ u <= 64
 ·rw [if_pos h1]
  by_cases k1 : 1 <= v /\ v <= 64
  ·rw [if_pos k1, if_pos k1, Nat.testBit_or, Nat.testBit_two_pow]
   congr 1; rw [Bool.eq_iff_iff]; simp; omega
  rw [if_neg k1, if_neg k1]
  have : decide (v = u) = false := by simp; omega
  simp [this]
 rw [if_neg h1]
 by_cases h2 : 65 <= u /\ u <= 128
 ·rw [if_pos h2]
  by_cases k1 : 1 <= v /\ v <= 64
  ·rw [if_pos k1, if_pos k1]
   have : decide (v = u) = false := by simp; omega
   simp [this]
  rw [if_neg k1, if_neg k1]
  by_cases k2 : 65 <= v /\ v <= 128
  ·rw [if_pos k2, if_pos k2, Nat.testBit_or, Nat.testBit_two_pow]
   congr 1; rw [Bool.eq_iff_iff]; simp; omega
  rw [if_neg k2, if_neg k2]
  have : decide (v = u) = false := by simp; omega
  simp [this]
 rw [if_neg h2]
 have : (decide (1 <= u) && decide (u <= 128)) = false := by simp; omega
 rw [Bool.and_assoc, this]; simp
theorem zf7 {x y : Nat} (hx : x < U64) (hy : y < U64) (h : ∀ i, i < 64 -> x.testBit i = y.testBit i) : x = y := by
 apply Nat.eq_of_testBit_eq
 intro i
 by_cases hi : i < 64
 ·exact h i hi
 rw [zm6] at *;have p : 2 ^ 64 <= 2 ^ i := Nat.pow_le_pow_right (by omega) (by omega);rw [Nat.testBit_lt_two_pow (Nat.lt_of_lt_of_le hx p), Nat.testBit_lt_two_pow (Nat.lt_of_lt_of_le hy p)]
theorem St.ext {s t : St} (hs : s.ok) (ht : t.ok) (h : ∀ v, 1 <= v -> v <= 128 -> s.mem v = t.mem v) : s = t := by
 have h1 : s.a = t.a := zf7 hs.1 ht.1 fun i hi => by
  have := h (i + 1 : Nat) (by omega) (by omega);unfold St.mem at this;rw [if_pos (by omega), if_pos (by omega)] at this;rw [show (((i + 1 : Nat) : Int) - 1).toNat = i by omega] at this; exact this
 have h2 : s.b = t.b := zf7 hs.2 ht.2 fun i hi => by
  have := h (i + 65 : Nat) (by omega) (by omega);unfold St.mem at this
  have n1 : ¬ (1 <= ((i + 65 : Nat) : Int) /\ ((i + 65 : Nat) : Int) <= 64) := by omega
  have n2 : (65 <= ((i + 65 : Nat) : Int) /\ ((i + 65 : Nat) : Int) <= 128) := by omega
  rw [if_neg n1, if_neg n1, if_pos n2, if_pos n2] at this;rw [show (((i + 65 : Nat) : Int) - 65).toNat = i by omega] at this; exact this
 cases s; cases t; simp_all
def ofL (xs : List Int) : St := xs.foldl St.add St.zero
theorem zvg (xs : List Int) : (ofL xs).ok := by
 have : ∀ s : St, s.ok -> (xs.foldl St.add s).ok := by
  induction xs with
  | nil => intro s h; exact h
  | cons x xs ih => intro s h; exact ih _ (St.add_ok h x)
 exact this _ St.zero_ok
def insU (vs : List St) (s : St) (ins : List Int) : St := ins.foldl (fun s k => s.union (vs.getD k.toNat St.zero)) s
def varsAcc : List Nd -> List St -> List St
 | [], vs => vs
 | x :: l, vs => varsAcc l (vs ++ [insU vs (ofL [zac x.lit]) x.ins])
def varsL (l : List Nd) : List St := varsAcc l []
theorem varsAcc_append (l r : List Nd) (vs : List St) : varsAcc (l ++ r) vs = varsAcc r (varsAcc l vs) := by
 induction l generalizing vs with
 | nil => rfl
 | cons y l ih => simp only [List.cons_append, varsAcc]; exact ih _
theorem varsL_snoc (l : List Nd) (x : Nd) : varsL (l ++ [x]) = varsL l ++ [insU (varsL l) (ofL [zac x.lit]) x.ins] := varsAcc_append l [x] []
theorem varsAcc_length (l : List Nd) (vs : List St) : (varsAcc l vs).length = vs.length + l.length := by
 induction l generalizing vs with
 | nil => rfl
 | cons y l ih => simp only [varsAcc, ih]; simp; omega
theorem varsL_length (l : List Nd) : (varsL l).length = l.length := by simp [varsL, varsAcc_length]
theorem insU_ok {vs : List St} (hv : ∀ s ∈ vs, s.ok) (ins : List Int) : ∀ {s : St}, s.ok -> (insU vs s ins).ok := by
 induction ins with
 | nil => intro s h; exact h
 | cons k ins ih =>
   intro s h;refine ih (s := s.union (vs.getD k.toNat St.zero)) (St.union_ok h ?_)
   by_cases hk : k.toNat < vs.length
   ·simp only [List.getD_eq_getElem?_getD, List.getElem?_eq_getElem hk]; exact hv _ (List.getElem_mem hk)
   simp only [List.getD_eq_getElem?_getD, List.getElem?_eq_none (Nat.le_of_not_lt hk)]; exact St.zero_ok
theorem varsAcc_ok (l : List Nd) : ∀ {vs : List St}, (∀ s ∈ vs, s.ok) -> ∀ s ∈ varsAcc l vs, s.ok := by
 induction l with
 | nil => intro vs h; exact h
 | cons y l ih =>
   intro vs h
   refine ih fun s hs => ?_
   rcases List.mem_append.1 hs with h1 | h1
   ·exact h s h1
   simp at h1; subst h1; exact insU_ok h _ (zvg _)
theorem varsL_ok (l : List Nd) : ∀ s ∈ varsL l, s.ok := varsAcc_ok l (by simp)
theorem insU_snoc (vs : List St) (s : St) (ins : List Int) (k : Int) : insU vs s (ins ++ [k]) = (insU vs s ins).union (vs.getD k.toNat St.zero) := by simp [insU]
def sepF (vs : List St) : St -> List Int -> Bool
 | _, [] => true
 | s, k :: r => if s.cut (vs.getD k.toNat St.zero) = St.zero then sepF vs (s.union (vs.getD k.toNat St.zero)) r else false
def ndSep (vs : List St) (x : Nd) : Bool := decide (x.kind ≠ 3) || sepF vs St.zero x.ins
def decL (l : List Nd) : Bool := l.all (ndSep (varsL l))
theorem sepF_drop (vs : List St) (s : St) (ins : List Int) (m : Nat) (h : m < ins.length) :
 sepF vs s (ins.drop m) = if s.cut (vs.getD (ins[m]).toNat St.zero) = St.zero then sepF vs (s.union (vs.getD (ins[m]).toNat St.zero)) (ins.drop (m + 1)) else false := by
 rw [List.drop_eq_getElem_cons h]; rfl
theorem decL_false {l : List Nd} {k : Nat} (hk : k < l.length) (h : ndSep (varsL l) l[k] = false) : decL l = false := by
 rw [Bool.eq_false_iff]; intro h';rw [decL, List.all_eq_true] at h';have := h' l[k] (List.getElem_mem hk);rw [h] at this; exact absurd this (by simp)
theorem decL_true {l : List Nd} (h : ∀ j, j < l.length -> ndSep (varsL l) (l.getD j default) = true) : decL l = true := by
 rw [decL, List.all_eq_true];intro x hx;obtain ⟨j, hj, rfl⟩ := List.getElem_of_mem hx;have := h j hj
 simpa [List.getD_eq_getElem?_getD, hj] using this
abbrev Cl := List Int
def cmpL (a b : Int) : Int := if zac a - zac b ≠ 0 then zac a - zac b else a - b
theorem zh3 (a : Int) : cmpL a a = 0 := by unfold cmpL; rw [if_neg (by omega)]; omega
theorem zkx {a b : Int} : cmpL a b = 0 ↔ a = b := by
 constructor
 ·intro h; unfold cmpL at h; split at h <;> omega
 rintro rfl; exact zh3 a
theorem zcm {a b : Int} : cmpL a b < 0 ↔ zac a < zac b \/ (zac a = zac b /\ a < b) := by unfold cmpL; split <;> omega
theorem zlv {a b : Int} : cmpL b a = - cmpL a b := by unfold cmpL; split <;> split <;> omega
theorem zpf {a b c : Int} (h : cmpL a b < 0) (k : cmpL b c < 0) : cmpL a c < 0 := by rw [zcm] at *; omega
def ltL (a b : Int) : Prop := cmpL a b < 0
def lexC : Cl -> Cl -> Int
 | [], [] => 0
 | [], _ :: _ => -1
 | _ :: _, [] => 1
 | a :: as', b :: bs => if cmpL a b ≠ 0 then cmpL a b else lexC as' bs
theorem zml : ∀ a : Cl, lexC a a = 0
 | [] => rfl
 | x :: a => by rw [lexC, if_neg (by simp [zh3])]; exact zml a
theorem zrg : ∀ {a b : Cl}, lexC a b = 0 -> a = b
 | [], [], _ => rfl
 | [], _ :: _, h => by simp [lexC] at h
 | _ :: _, [], h => by simp [lexC] at h
 | x :: a, y :: b, h => by
   rw [lexC] at h
   by_cases e : cmpL x y = 0
   ·rw [if_neg (by simpa using e)] at h;rw [zkx.1 e, zrg h]
   rw [if_pos e] at h; exact absurd h e
theorem zin : ∀ a b : Cl, (0 < lexC a b -> lexC b a < 0) /\ (lexC a b < 0 -> 0 < lexC b a)
 | [], [] => by simp [lexC]
 | [], _ :: _ => by simp [lexC]
 | _ :: _, [] => by simp [lexC]
 | x :: a, y :: b => by
   have h := zlv (a := x) (b := y);have ih := zin a b;rw [lexC, lexC]
   by_cases e : cmpL x y = 0
   ·rw [if_neg (by simpa using e), if_neg (by simp; omega)]; exact ih
   rw [if_pos e, if_pos (by simp; omega)]; omega
theorem zj7 : ∀ {a b c : Cl}, lexC a b < 0 -> lexC b c < 0 -> lexC a c < 0
 | [], [], _, h, _ => by simp [lexC] at h
 | [], _ :: _, [], _, k => by simp [lexC] at k
 | [], _ :: _, _ :: _, _, _ => by simp [lexC]
 | _ :: _, [], _, h, _ => by simp [lexC] at h
 | _ :: _, _ :: _, [], _, k => by simp [lexC] at k
 | x :: a, y :: b, z :: c, h, k => by
   rw [lexC] at *
   by_cases e : cmpL x y = 0
   ·rw [if_neg (by simpa using e)] at h;have e' := zkx.1 e;subst e'
    by_cases f : cmpL x z = 0
    ·rw [if_neg (by simpa using f)] at *; exact zj7 h k
    rw [if_pos f] at *; exact k
   rw [if_pos e] at h
   by_cases f : cmpL y z = 0
   ·have f' := zkx.1 f;subst f';rw [if_pos e]; exact h
   rw [if_pos f] at k;have := zpf h k;rw [if_pos (by omega)]; exact this
def cmpC (a b : Cl) : Int := if (a.length : Int) - b.length ≠ 0 then (a.length : Int) - b.length else lexC a b
theorem zlu (a : Cl) : cmpC a a = 0 := by unfold cmpC; rw [if_neg (by omega)]; exact zml a
theorem zh2 {a b : Cl} : cmpC a b = 0 ↔ a = b := by
 constructor
 ·intro h; unfold cmpC at h; split at h
  ·omega
  exact zrg h
 rintro rfl; exact zlu a
def ltC (a b : Cl) : Prop := cmpC a b < 0
instance (a b : Cl) : Decidable (ltC a b) := inferInstanceAs (Decidable (cmpC a b < 0))
theorem zge {a b : Cl} (h : 0 < cmpC a b) : ltC b a := by
 unfold ltC cmpC at *
 split at h
 ·rw [if_pos (by omega)]; omega
 rw [if_neg (by omega)]; exact (zin a b).1 h
theorem zjx {a b : Cl} (h : cmpC a b < 0) : 0 < cmpC b a := by
 unfold cmpC at *
 split at h
 ·rw [if_pos (by omega)]; omega
 rw [if_neg (by omega)]; exact (zin a b).2 h
theorem zb7 {a b : Cl} (h : ltC a b) : ¬ ltC b a := by have := zjx h; unfold ltC; omega
theorem zeq (a : Cl) : ¬ ltC a a := by unfold ltC; rw [zlu]; omega
theorem zfy {a b c : Cl} (h : ltC a b) (k : ltC b c) : ltC a c := by
 unfold ltC cmpC at *
 split at h <;> split at k
 ·rw [if_pos (by omega)]; omega
 ·rw [if_pos (by omega)]; omega
 ·rw [if_pos (by omega)]; omega
 rw [if_neg (by omega)]; exact zj7 h k
theorem zrk {a b : Int} (h : ltL a b) : ¬ ltL b a := by unfold ltL at *; rw [zcm] at *; omega
theorem zbq {α : Type} {r : α -> α -> Prop} (as' : ∀ a b, r a b -> ¬ r b a) : ∀ {l m : List α}, l.Pairwise r -> m.Pairwise r -> (∀ x, x ∈ l ↔ x ∈ m) -> l = m
 | [], [], _, _, _ => rfl
 | [], b :: m, _, _, h => by have := (h b).2 (by simp); simp at this
 | a :: l, [], _, _, h => by have := (h a).1 (by simp); simp at this
 | a :: l, b :: m, hl, hm, h => by
   rw [List.pairwise_cons] at hl hm
   have e : a = b := by
    rcases List.mem_cons.1 ((h a).1 (by simp)) with e | ha
    ·exact e
    rcases List.mem_cons.1 ((h b).2 (by simp)) with e | hb
    ·exact e.symm
    exact absurd (hl.1 b hb) (as' _ _ (hm.1 a ha))
   subst e
   have ir : ∀ x, ¬ r x x := fun x hx => as' x x hx hx
   rw [zbq as' hl.2 hm.2 fun x => ?_]
   constructor
   ·intro hx
    rcases List.mem_cons.1 ((h x).1 (by simp [hx])) with e | h2
    ·subst e; exact absurd (hl.1 x hx) (ir x)
    exact h2
   intro hx
   rcases List.mem_cons.1 ((h x).2 (by simp [hx])) with e | h2
   ·subst e; exact absurd (hm.1 x hx) (ir x)
   exact h2
def insC (c : Cl) : List Cl -> List Cl
 | [] => [c]
 | d :: l => if cmpC c d < 0 then c :: d :: l else if cmpC c d = 0 then d :: l else d :: insC c l
theorem zfz {c x : Cl} : ∀ {l : List Cl}, x ∈ insC c l ↔ x = c \/ x ∈ l
 | [] => by simp [insC]
 | d :: l => by
   rw [insC]
   by_cases h : cmpC c d < 0
   ·rw [if_pos h]; simp
   rw [if_neg h]
   by_cases k : cmpC c d = 0
   ·rw [if_pos k, zh2.1 k]; simp
   rw [if_neg k, List.mem_cons, zfz]; simp only [List.mem_cons]; constructor
   ·rintro (h | h | h) <;> simp [h]
   rintro (h | h | h) <;> simp [h]
theorem zfd {c : Cl} : ∀ {l : List Cl}, l.Pairwise ltC -> (insC c l).Pairwise ltC
 | [], _ => by simp [insC]
 | d :: l, h => by
   rw [insC]
   by_cases h1 : cmpC c d < 0
   ·rw [if_pos h1, List.pairwise_cons];refine ⟨fun x hx => ?_, h⟩
    rcases List.mem_cons.1 hx with rfl | hx
    ·exact h1
    exact zfy h1 ((List.pairwise_cons.1 h).1 x hx)
   rw [if_neg h1]
   by_cases k : cmpC c d = 0
   ·rw [if_pos k]; exact h
   rw [if_neg k, List.pairwise_cons];rw [List.pairwise_cons] at h;refine ⟨fun x hx => ?_, zfd h.2⟩
   rcases zfz.1 hx with rfl | hx
   ·exact zge (by omega)
   exact h.1 x hx
def ordC (l : List Cl) : List Cl := l.foldr insC []
theorem zba {x : Cl} : ∀ {l : List Cl}, x ∈ ordC l ↔ x ∈ l
 | [] => by simp [ordC]
 | c :: l => by
   show x ∈ insC c (ordC l) ↔ _
   rw [zfz, zba, List.mem_cons]
theorem zax : ∀ l : List Cl, (ordC l).Pairwise ltC
 | [] => List.Pairwise.nil
 | c :: l => zfd (zax l)
theorem zd0 {l m : List Cl} (h : m.Pairwise ltC) (hm : ∀ x, x ∈ m ↔ x ∈ l) : m = ordC l :=
 zbq (fun _ _ => zb7) h (zax l) fun x => by rw [hm, zba]
theorem zr0 {l : List Cl} (h : l.Pairwise ltC) : ordC l = l := (zd0 h fun _ => Iff.rfl).symm
theorem zkg {l m : List Cl} (h : ∀ x, x ∈ l ↔ x ∈ m) : ordC l = ordC m := zd0 (zax l) fun x => by rw [zba, h]
theorem zfc (c : Cl) : ∀ l : List Cl, (insC c l).length <= l.length + 1
 | [] => by simp [insC]
 | d :: l => by
   rw [insC]; split
   ·simp
   split
   ·simp
   have := zfc c l; simp; omega
theorem za9 : ∀ l : List Cl, (ordC l).length <= l.length
 | [] => by simp [ordC]
 | c :: l => by
   have h1 := zfc c (ordC l);have h2 := za9 l
   show (insC c (ordC l)).length <= _
   simp; omega
theorem zt8 {l : List Cl} : ordC l = [] ↔ l = [] := by
 constructor
 ·intro h
  cases l with
  | nil => rfl
  | cons c l => have : c ∈ ordC (c :: l) := zba.2 (by simp); rw [h] at this; simp at this
 rintro rfl; rfl
def zaw (n : Nat) (c : Cl) : Cl :=
 (List.range n).flatMap fun (j : Nat) => (if -((j : Int) + 1) ∈ c then [-((j : Int) + 1)] else []) ++ (if ((j : Int) + 1) ∈ c then [(j : Int) + 1] else [])
theorem zbi {n : Nat} {c : Cl} {x : Int} : x ∈ zaw n c ↔ x ∈ c /\ x ≠ 0 /\ -(n : Int) <= x /\ x <= n := by
 unfold zaw;rw [List.mem_flatMap]
 constructor
 ·rintro ⟨j, hj, hx⟩;rw [List.mem_range] at hj
  rcases List.mem_append.1 hx with h | h
  ·split at h
   ·simp at h; subst h; exact ⟨‹_›, by omega, by omega, by omega⟩
   simp at h
  split at h
  ·simp at h; subst h; exact ⟨‹_›, by omega, by omega, by omega⟩
  simp at h
 rintro ⟨h1, h2, h3, h4⟩
 rcases Int.lt_or_gt_of_ne h2 with h | h
 ·refine ⟨(-x - 1).toNat, List.mem_range.2 (by omega), List.mem_append_left _ ?_⟩;rw [show -((((-x - 1).toNat : Nat) : Int) + 1) = x by omega, if_pos h1]; simp
 refine ⟨(x - 1).toNat, List.mem_range.2 (by omega), List.mem_append_right _ ?_⟩;rw [show ((((x - 1).toNat : Nat) : Int) + 1) = x by omega, if_pos h1]; simp
theorem zal {x : Int} (h : x ≠ 0) (h1 : -128 <= x) (h2 : x <= 128) : zac x = if x < 0 then -x else x := by
 unfold zac; split
 ·rw [if_neg (by omega)]
 rw [if_pos (by omega), if_pos (by omega)]
theorem zei {n : Nat} (hn : n <= 128) (c : Cl) : (zaw n c).Pairwise ltL := by
 unfold zaw;rw [List.flatMap_def, List.pairwise_flatten]
 have key : ∀ j : Nat, ∀ x ∈ ((if -((j : Int) + 1) ∈ c then [-((j : Int) + 1)] else []) ++ (if ((j : Int) + 1) ∈ c then [(j : Int) + 1] else [])), x = -((j : Int) + 1) \/ x = (j : Int) + 1 := fun j x hx => by
  rcases List.mem_append.1 hx with h | h
  ·split at h <;> simp at h; exact .inl h
  split at h <;> simp at h; exact .inr h
 constructor
 ·intro l hl;rw [List.mem_map] at hl;obtain ⟨j, hj, rfl⟩ := hl;rw [List.mem_range] at hj;rw [List.pairwise_append];refine ⟨by split <;> simp, by split <;> simp, fun a ha b hb => ?_⟩
  split at ha <;> simp at ha
  split at hb <;> simp at hb
  subst ha; subst hb;unfold ltL;rw [zcm, zal (by omega) (by omega) (by omega), zal (by omega) (by omega) (by omega)];rw [if_pos (by omega), if_neg (by omega)]; omega
 rw [List.pairwise_map];refine List.Pairwise.imp_of_mem ?_ (List.pairwise_lt_range (n := n));intro j k hj hk hjk x hx y hy;rw [List.mem_range] at hj hk;have hx := key j x hx;have hy := key k y hy;unfold ltL;rw [zcm, zal (by omega) (by omega) (by omega), zal (by omega) (by omega) (by omega)]
 split <;> split <;> omega
theorem zej {n : Nat} (hn : n <= 128) {c d : Cl} (hd : d.Pairwise ltL) (hm : ∀ x, x ∈ d ↔ x ∈ c) (hc : ∀ x ∈ c, x ≠ 0 /\ -(n : Int) <= x /\ x <= n) : d = zaw n c :=
 zbq (fun _ _ => zrk) hd (zei hn c) fun x => by
  rw [hm, zbi]; exact ⟨fun h => ⟨h, hc x h⟩, fun h => h.1⟩
end Cen
namespace Go.Proofs.YtfmmhjphopikgaaGreatDoor
open Go.RowKit Cen
theorem zbb {k : IntKind} {a b : Int} (h : a = b) : Ending.returned (.int k a) = .returned (.int k b) := by rw [h]
theorem zah {a b : Bool} (h : a = b) : Ending.returned (.bool a) = .returned (.bool b) := by rw [h]
theorem zaa {w w' : World} (h : Below w.heap.size w w') {p : Addr} {v : Value} (hc : w.cell? p = some v) : w'.cell? p = some v := by
 rw [h.cell ?_]; exact hc
 rcases Nat.lt_or_ge p.block w.heap.size with h' | h'
 ·exact h'
 simp [World.cell?, Array.getElem?_eq_none h'] at hc
theorem zak {w : World} {p : Addr} {v : Value} (hc : w.cell? p = some v) : p.block < w.heap.size := by
 rcases Nat.lt_or_ge p.block w.heap.size with h' | h'
 ·exact h'
 simp [World.cell?, Array.getElem?_eq_none h'] at hc
def IntCells (w : World) (a : Option Addr) (xs : List Int) : Prop :=
 ∀ i, i < xs.length -> ∃ b off, a = some ⟨b, off, none⟩ /\ w.cell? ⟨b, off + i, none⟩ = some (.int .i64 (xs.getD i 0))
theorem IntCells.keep {w w' : World} {a : Option Addr} {xs : List Int} (h : IntCells w a xs) (hb : Below w.heap.size w w') : IntCells w' a xs :=
 fun i hi => let ⟨b, off, e, hc⟩ := h i hi; ⟨b, off, e, zaa hb hc⟩
theorem IntCells.nil (w : World) (a : Option Addr) : IntCells w a [] := fun _ h => absurd h (Nat.not_lt_zero _)
def NdCell (w : World) (b o : Nat) (x : Nd) : Prop :=
 w.cell? ⟨b, o, none⟩ = some (.int .i64 x.kind) /\ w.cell? ⟨b, o + 1, none⟩ = some (.int .i64 x.lit) /\
 ∃ a cap, w.cell? ⟨b, o + 2, none⟩ = some (.slice a x.ins.length cap) /\ IntCells w a x.ins /\ x.ins.length <= 1073741824
theorem NdCell.keep {w w' : World} {b o : Nat} {x : Nd} (h : NdCell w b o x) (hb : Below w.heap.size w w') : NdCell w' b o x :=
 let ⟨h1, h2, a, cap, h3, h4, h5⟩ := h; ⟨zaa hb h1, zaa hb h2, a, cap, zaa hb h3, h4.keep hb, h5⟩
def NdCells (w : World) (a : Option Addr) (l : List Nd) : Prop :=
 ∀ i, i < l.length -> ∃ b off, a = some ⟨b, off, none⟩ /\ NdCell w b (off + i * 3) (l.getD i default)
theorem NdCells.keep {w w' : World} {a : Option Addr} {l : List Nd} (h : NdCells w a l) (hb : Below w.heap.size w w') : NdCells w' a l :=
 fun i hi => let ⟨b, off, e, hc⟩ := h i hi; ⟨b, off, e, hc.keep hb⟩
def idx (p : Int -> Bool) (xs : List Int) : Int := match xs.findIdx? p with | some i => i | none => -1
theorem zq9 (p : Int -> Bool) (xs : List Int) (k : Nat) (hk : k < xs.length) (hno : ∀ j, j < k -> p (xs.getD j 0) = false) (h : p xs[k] = true) : idx p xs = k := by
 have : xs.findIdx? p = some k := by
  rw [List.findIdx?_eq_some_iff_getElem];refine ⟨hk, h, fun j hj => ?_⟩;have := hno j hj
  have hj' : j < xs.length := by omega
  simp [List.getD_eq_getElem?_getD, hj'] at this
  simp [this]
 simp [idx, this]
theorem zoq (p : Int -> Bool) (xs : List Int) (hno : ∀ j, j < xs.length -> p (xs.getD j 0) = false) : idx p xs = -1 := by
 have : xs.findIdx? p = none := by
  rw [List.findIdx?_eq_none_iff];intro x hx;obtain ⟨j, hj, rfl⟩ := List.getElem_of_mem hx;have := hno j hj
  simpa [List.getD_eq_getElem?_getD, hj] using this
 simp [idx, this]
theorem zq7 (p : Int -> Bool) (xs : List Int) : decide (0 <= idx p xs) = xs.any p := by
 unfold idx
 cases h : xs.findIdx? p with
 | none => simp [List.findIdx?_eq_none_iff] at h ⊢; intro x hx; simp [h x hx]
 | some i =>
   rw [List.findIdx?_eq_some_iff_getElem] at h;obtain ⟨hi, hpi, _⟩ := h;have : xs.any p = true := List.any_eq_true.2 ⟨_, List.getElem_mem hi, hpi⟩;rw [this]; simp
theorem zbz (l : Int) (w : World) : Calls Tryz.prog 49 #[.int .i64 l] w fun e w' => e = .returned (.int .i64 (zac l)) /\ w = w' := by
 go_enter Tryz.func49, Tryz.ntmps49;go_wp2
 all_goals (go_ret; exact ⟨zbb (by unfold zac; (try simp at *); (repeat' split) <;> omega), rfl⟩)
theorem zde (l n : Int) (w : World) : Calls Tryz.prog 96 #[.int .i64 l, .int .i64 n] w fun e w' => e = .returned (.bool (zas l n)) /\ w = w' := by
 have hb := zb6 l
 by_cases h0 : zac l = 0
 ·have h1 : (zac l != 0) = false := by simp [h0]
  have hr : zas l n = false := by simp [zas, h0]
  rw [hr]; clear hr h0;go_enter Tryz.func96, Tryz.ntmps96;go_wp2_with (go_at_call 49; refine (zbz _ _).mono ?_; rintro e w' ⟨rfl, rfl⟩);go_ret; exact ⟨rfl, rfl⟩
 have h1 : (zac l != 0) = true := by simp [h0]
 have hr : zas l n = decide (zac l <= n) := by simp [zas, h0]
 rw [hr]; clear hr h0;go_enter Tryz.func96, Tryz.ntmps96;go_wp2_with (go_at_call 49; refine (zbz _ _).mono ?_; rintro e w' ⟨rfl, rfl⟩);go_ret; exact ⟨rfl, rfl⟩
def zb0 (g : FuncId) : Prop := ∀ (args : Array Value) (w : World), (callFunc g args).run Tryz.prog w = .ok (.enter g args) w
theorem zdy (a : Option Addr) (cap : Nat) (xs : List Int) (g : FuncId) (cs : Array Value) (p : Int -> Bool) (w : World) (hl : xs.length <= 1073741824)
 (hx : IntCells w a xs) (hp : ∀ x, x ∈ xs -> Calls Tryz.prog g (#[.int .i64 x] ++ cs) w fun e w' => e = .returned (.bool (p x)) /\ w = w') (hcf0 : zb0 g) :
 Calls Tryz.prog 95 #[.slice a xs.length cap, .func (.func g) #[] cs] w fun e w' => e = .returned (.int .i64 (idx p xs)) /\ w = w' := by
 have HX := lh hx;have HP := lh hp;have hcf : ∀ (args : Array Value) (w : World), (callFunc g args).run Tryz.prog w = .ok (.enter g args) w := hcf0;clear hx hp hcf0;go_enter Tryz.func95, Tryz.ntmps95;go_wp2
 go_loop [5, 8] (fun v i => ∃ k : Nat, k <= xs.length /\ i = .int .i64 k /\ (∀ j, j < k -> p (xs.getD j 0) = false)) (fun _ i => xs.length - (intOf i).toNat)
 case atStart => exact ⟨0, Nat.zero_le _, rfl, fun j h => absurd h (Nat.not_lt_zero _)⟩
 obtain ⟨k, hk, rfl, hno⟩ := hrel;have HN := lh hno;clear hno
 by_cases hlt : k < xs.length
 ·obtain ⟨b, off, rfl, hc⟩ := HX.o k hlt
  cases hpk : p xs[k]
  ·have HK := lh hpk;clear hpk;go_wp2_with fail;refine (HP.o xs[k] (List.getElem_mem hlt)).mono ?_;rw [HK.o];rintro e w' ⟨rfl, rfl⟩;go_wp2;go_round
   case rel => exact ⟨k + 1, by omega, by go_num, fun j hj => by
    by_cases e : j = k
    ·subst e; simpa [List.getD_eq_getElem?_getD, hlt] using HK.o
    exact HN.o j (by omega)⟩
   case measure => simp [intOf]; omega
  have HK := lh hpk;clear hpk;go_wp2_with fail;refine (HP.o xs[k] (List.getElem_mem hlt)).mono ?_;rw [HK.o];rintro e w' ⟨rfl, rfl⟩;go_wp2;go_ret;exact ⟨zbb (zq9 p xs k hlt HN.o HK.o).symm, rfl⟩
 have : k = xs.length := by omega
 subst this;go_wp2;go_ret;exact ⟨zbb (zoq p xs HN.o).symm, rfl⟩
theorem zd4 (a : Option Addr) (cap : Nat) (xs : List Int) (g : FuncId) (cs : Array Value) (p : Int -> Bool) (w : World) (hl : xs.length <= 1073741824)
 (hx : IntCells w a xs) (hp : ∀ x, x ∈ xs -> Calls Tryz.prog g (#[.int .i64 x] ++ cs) w fun e w' => e = .returned (.bool (p x)) /\ w = w') (hcf0 : zb0 g) :
 Calls Tryz.prog 57 #[.slice a xs.length cap, .func (.func g) #[] cs] w fun e w' => e = .returned (.bool (xs.any p)) /\ w = w' := by
 have HX := lh hx;have HP := lh hp;have HC := lh hcf0;clear hx hp hcf0;go_enter Tryz.func57, Tryz.ntmps57;go_wp2_with (go_at_call 95; refine (zdy _ _ _ _ _ p _ hl HX.o HP.o HC.o).mono ?_; rintro e w' ⟨rfl, rfl⟩);go_ret;exact ⟨zah (zq7 p xs), rfl⟩
theorem formed1_any (i before : Int) (a : Addr) (w : World) (h : w.cell? a = some (.int .i64 before)) :
 Calls Tryz.prog 127 #[.int .i64 i, .pointer (some a)] w fun e w' => e = .returned (.bool (decide (i < 0) || decide (before <= i))) /\ w = w' := by
 by_cases h0 : i < 0
 ·have h1 : decide (i < 0) = true := by simp [h0]
  rw [h1];go_enter Tryz.func127, Tryz.ntmps127;go_wp2;go_ret; exact ⟨rfl, rfl⟩
 have h1 : decide (i < 0) = false := by simp [h0]
 rw [h1];go_enter Tryz.func127, Tryz.ntmps127;go_wp2;go_ret; exact ⟨rfl, rfl⟩
theorem callable_formed1 : zb0 127 := fun _ _ => by kernel_rfl
abbrev stv (s : St) : Value := .agg #[.int .u64 (s.a : Int), .int .u64 (s.b : Int)]
theorem or64 {x y : Nat} (hx : x < U64) (hy : y < U64) : bits .or .u64 (x : Int) (y : Int) = ((x ||| y : Nat) : Int) := u64_or_nat x y hx hy
theorem zst {x y : Nat} (hx : x < U64) (hy : y < U64) : bits .and .u64 (x : Int) (y : Int) = ((x &&& y : Nat) : Int) := u64_and_nat x y hx hy
theorem zuf (v : Int) (w : World) (h : ¬ (1 <= v /\ v <= 128)) :
 Calls Tryz.prog 51 #[.int .i64 v] w fun e w' => e = .returned (.tuple #[.int .i64 0, .int .u64 0, .bool false]) /\ w = w' := by
 by_cases h1 : v < 1
 ·have hd : decide (v < 1) = true := by simpa using h1
  go_enter Tryz.func51, Tryz.ntmps51;go_wp2;go_ret3;exact ⟨rfl, rfl⟩
 have hd : decide (v < 1) = false := by simpa using h1
 have h2 : 128 < v := by omega
 have hd2 : decide (128 < v) = true := by simpa using h2
 go_enter Tryz.func51, Tryz.ntmps51;go_wp2;go_ret3;exact ⟨rfl, rfl⟩
theorem zhn {k : Nat} (h : k < 64) : IntKind.u64.wrap ((2 : Int) ^ k) = ((2 ^ k : Nat) : Int) := by
 rw [IntKind.wrap_u64, show ((2 : Int) ^ k) = ((2 ^ k : Nat) : Int) from by norm_cast];have h1 := zcc h;have h2 : ((2 ^ k : Nat) : Int) < ((U64 : Nat) : Int) := Int.ofNat_lt.2 h1;exact Int.emod_eq_of_lt (Int.natCast_nonneg _) h2
def zkt (v : Int) : Nat := 2 ^ ((v - 1) % 64).toNat
theorem zob (v : Int) : zkt v < U64 := zcc (by omega)
theorem zue (v : Int) (w : World) (h : 1 <= v /\ v <= 64) :
 Calls Tryz.prog 51 #[.int .i64 v] w fun e w' => e = .returned (.tuple #[.int .i64 0, .int .u64 (zkt v : Int), .bool true]) /\ w = w' := by
 obtain ⟨h1, h2⟩ := h
 have hd : decide (v < 1) = false := by simp; omega
 have hd2 : decide (128 < v) = false := by simp; omega
 go_enter Tryz.func51, Tryz.ntmps51;go_wp2;go_ret3;refine ⟨?_, rfl⟩;rw [zhn (by omega), show (v - 1) / 64 = 0 by omega]; rfl
theorem zud (v : Int) (w : World) (h : 65 <= v /\ v <= 128) :
 Calls Tryz.prog 51 #[.int .i64 v] w fun e w' => e = .returned (.tuple #[.int .i64 1, .int .u64 (zkt v : Int), .bool true]) /\ w = w' := by
 obtain ⟨h1, h2⟩ := h
 have hd : decide (v < 1) = false := by simp; omega
 have hd2 : decide (128 < v) = false := by simp; omega
 go_enter Tryz.func51, Tryz.ntmps51;go_wp2;go_ret3;refine ⟨?_, rfl⟩;rw [zhn (by omega), show (v - 1) / 64 = 1 by omega]; rfl
theorem zhm (s : St) (v : Int) (w : World) (hs : s.ok) :
 Calls Tryz.prog 94 #[stv s, .int .i64 v] w fun e w' => e = .returned (stv (s.add v)) /\ Below w.heap.size w w' := by
 have HB : Hid (∀ o o' : Obj, Below w.heap.size w ((w.alloc o).alloc o')) := fun o o' => ((Below.refl _ _).alloc (Nat.le_refl _) _).alloc (by simp) _
 by_cases h : 1 <= v /\ v <= 64
 ·have e1 := or64 hs.1 (zob v);have H := lh (fun w => zue v w h)
  have HE : Hid (s.add v = ⟨s.a ||| zkt v, s.b⟩) := by show _ = _; unfold St.add zkt; rw [if_pos h, show (v - 1) % 64 = v - 1 by omega]
  clear h;go_enter Tryz.func94, Tryz.ntmps94;go_wp2_with (go_at_call 51; refine (H.o _).mono ?_; rintro e w' ⟨rfl, rfl⟩);rw [HE.o];exact bodyPost_ret (v := stv ⟨s.a ||| zkt v, s.b⟩) (by simp [results, Tryz.results94, go_sem]) rfl ⟨rfl, HB.o _ _⟩
 by_cases h2 : 65 <= v /\ v <= 128
 ·have e1 := or64 hs.2 (zob v);have H := lh (fun w => zud v w h2)
  have HE : Hid (s.add v = ⟨s.a, s.b ||| zkt v⟩) := by show _ = _; unfold St.add zkt; rw [if_neg h, if_pos h2, show (v - 1) % 64 = v - 65 by omega]
  clear h h2;go_enter Tryz.func94, Tryz.ntmps94;go_wp2_with (go_at_call 51; refine (H.o _).mono ?_; rintro e w' ⟨rfl, rfl⟩);rw [HE.o];exact bodyPost_ret (v := stv ⟨s.a, s.b ||| zkt v⟩) (by simp [results, Tryz.results94, go_sem]) rfl ⟨rfl, HB.o _ _⟩
 have H := lh (fun w => zuf v w (by omega))
 have HE : Hid (s.add v = s) := by show _ = _; unfold St.add; rw [if_neg h, if_neg h2]
 clear h h2;go_enter Tryz.func94, Tryz.ntmps94;go_wp2_with (go_at_call 51; refine (H.o _).mono ?_; rintro e w' ⟨rfl, rfl⟩);rw [HE.o];exact bodyPost_ret (v := stv s) (by simp [results, Tryz.results94, go_sem]) rfl ⟨rfl, HB.o _ _⟩
theorem zsh (s t : St) (w : World) (hs : s.ok) (ht : t.ok) :
 Calls Tryz.prog 50 #[stv s, stv t] w fun e w' => e = .returned (stv (s.union t)) /\ Below w.heap.size w w' := by
 have e1 := or64 hs.1 ht.1;have e2 := or64 hs.2 ht.2;go_enter Tryz.func50, Tryz.ntmps50;go_wp2
 exact bodyPost_ret (v := stv (s.union t)) (by simp [results, Tryz.results50, go_sem, St.union]) rfl ⟨rfl, by
  exact ((((Below.refl _ _).alloc (Nat.le_refl _) _).alloc (by simp) _).alloc (by simp; omega) _)⟩
theorem zqw (s t : St) (w : World) (hs : s.ok) (ht : t.ok) :
 Calls Tryz.prog 64 #[stv s, stv t] w fun e w' => e = .returned (stv (s.cut t)) /\ Below w.heap.size w w' := by
 have e1 := zst hs.1 ht.1;have e2 := zst hs.2 ht.2;go_enter Tryz.func64, Tryz.ntmps64;go_wp2
 exact bodyPost_ret (v := stv (s.cut t)) (by simp [results, Tryz.results64, go_sem, St.cut]) rfl ⟨rfl, by
  exact ((((Below.refl _ _).alloc (Nat.le_refl _) _).alloc (by simp) _).alloc (by simp; omega) _)⟩
end Go.Proofs.YtfmmhjphopikgaaGreatDoor
