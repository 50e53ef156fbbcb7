/- Part of the proofs that laws of censuslaw38 return true for every input, where the tables that the rows list are laid. Texts: Net, Base, Lit, Set0, Sets, Flat. -/
import Derived.Test.YtkaojolofaanfaaGreatDoorProg
import Derived.WalkKit
import Derived.WalkSpells
import Derived.WalkLawsBesides
import Derived.Deep.QuietTactic
import Derived.BigQuiet
import Derived.Lib.Hide
import Derived.Laws.ResultCell

/- Plain models: literals, nodes, nets, their truth, and what the builder makes of them. No program in sight. -/
namespace Cen

structure Nd where
  kind : Int
  lit : Int
  ins : List Int

instance : Inhabited Nd := ⟨⟨0, 0, []⟩⟩
instance : DecidableEq Nd := fun a b =>
  decidable_of_iff (a.kind = b.kind ∧ a.lit = b.lit ∧ a.ins = b.ins) (by cases a; cases b; simp)

structure Nt where
  n : Int
  l : List Nd

/-- The variable of a literal, or 0. -/
def litVar (l : Int) : Int := if 1 ≤ l ∧ l ≤ 128 then l else if l ≤ -1 ∧ -128 ≤ l then -l else 0
theorem litVar_bd (l : Int) : 0 ≤ litVar l ∧ litVar l ≤ 128 := by unfold litVar; (repeat' split) <;> omega
theorem litVar_ne {l : Int} (h : litVar l ≠ 0) : (1 ≤ l ∧ l ≤ 128 ∧ litVar l = l) ∨ (l ≤ -1 ∧ -128 ≤ l ∧ litVar l = -l) := by
  unfold litVar at *
  by_cases h1 : 1 ≤ l ∧ l ≤ 128
  · rw [if_pos h1] at *; omega
  · rw [if_neg h1] at *
    by_cases h2 : l ≤ -1 ∧ -128 ≤ l
    · rw [if_pos h2] at *; omega
    · rw [if_neg h2] at h; exact absurd rfl h

def litOk (l n : Int) : Bool := decide (litVar l ≠ 0) && decide (litVar l ≤ n)

/-- Whether a node has one of the forms, for n variables, with so many nodes before it. -/
def insOk (ins : List Int) (before : Int) : Bool := ins.all fun i => decide (0 ≤ i) && decide (i < before)
def formOk (x : Nd) (n : Int) : Bool :=
  if x.kind = 0 ∨ x.kind = 1 then decide (x.lit = 0) && decide (x.ins.length = 0)
  else if x.kind = 2 then litOk x.lit n && decide (x.ins.length = 0)
  else if x.kind = 3 ∨ x.kind = 4 then decide (x.lit = 0)
  else false
def ndOk (x : Nd) (n before : Int) : Bool := insOk x.ins before && formOk x n

/-- The first k nodes are well formed. -/
def ndsOk (l : List Nd) (n : Int) (k : Nat) : Prop := ∀ j, j < k → ndOk (l.getD j default) n j = true
instance (l : List Nd) (n : Int) (k : Nat) : Decidable (ndsOk l n k) :=
  decidable_of_iff (∀ j, j ∈ List.range k → ndOk (l.getD j default) n j = true) (by simp [ndsOk])
def headOk (t : Nt) : Bool := decide (0 ≤ t.n) && decide (t.n ≤ 128) && decide (1 ≤ t.l.length) && decide (t.l.length ≤ 65536)
def netOk (t : Nt) : Bool := headOk t && decide (ndsOk t.l t.n t.l.length)

theorem netOk_nd {t : Nt} (h : netOk t = true) {k : Nat} (hk : k < t.l.length) : ndOk t.l[k] t.n k = true := by
  simp [netOk] at h
  have := h.2 k hk
  simpa [List.getD_eq_getElem?_getD, hk] using this
theorem netOk_ins {t : Nt} (h : netOk t = true) {k : Nat} (hk : k < t.l.length) : ∀ i ∈ t.l[k].ins, 0 ≤ i ∧ i < k := by
  have := netOk_nd h hk
  simp [ndOk, insOk] at this
  exact this.1
theorem netOk_head {t : Nt} (h : netOk t = true) : 0 ≤ t.n ∧ t.n ≤ 128 ∧ 1 ≤ t.l.length ∧ t.l.length ≤ 65536 := by
  simp [netOk, headOk] at h; omega
/-- Literals under an assignment (a set of variables). -/
def holds (s : Int → Bool) (l : Int) : Bool := decide (litVar l ≠ 0) && (s (litVar l) == decide (0 < l))
def anyL (s : Int → Bool) (xs : List Int) : Bool := xs.any (holds s)
def allL (s : Int → Bool) (xs : List Int) : Bool := xs.all (holds s)
def evNd (s : Int → Bool) (f : Int → Bool) (x : Nd) : Bool :=
  if x.kind = 1 then true
  else if x.kind = 2 then holds s x.lit
  else if x.kind = 3 then x.ins.all f
  else if x.kind = 4 then x.ins.any f
  else false
def at' (vs : List Bool) (i : Int) : Bool := vs.getD i.toNat false
def evs (s : Int → Bool) : List Nd → List Bool → List Bool
  | [], vs => vs
  | x :: l, vs => evs s l (vs ++ [evNd s (at' vs) x])
/-- The truth of every node. -/
def truth (s : Int → Bool) (l : List Nd) : List Bool := evs s l []
def ev (s : Int → Bool) (t : Nt) : Bool := (truth s t.l).getD (t.l.length - 1) false

theorem evs_append (s : Int → Bool) (l r : List Nd) (vs : List Bool) : evs s (l ++ r) vs = evs s r (evs s l vs) := by
  induction l generalizing vs with
  | nil => rfl
  | cons y l ih => simp only [List.cons_append, evs]; exact ih _
theorem truth_append (s : Int → Bool) (l r : List Nd) : truth s (l ++ r) = evs s r (truth s l) := evs_append s l r []
theorem truth_snoc (s : Int → Bool) (l : List Nd) (x : Nd) : truth s (l ++ [x]) = truth s l ++ [evNd s (at' (truth s l)) x] := truth_append s l [x]
theorem evs_prefix (s : Int → Bool) (l : List Nd) (vs : List Bool) : ∃ us, evs s l vs = vs ++ us ∧ us.length = l.length := by
  induction l generalizing vs with
  | nil => exact ⟨[], by simp [evs], rfl⟩
  | cons y l ih =>
    obtain ⟨us, h, hl⟩ := ih (vs ++ [evNd s (at' vs) y])
    exact ⟨evNd s (at' vs) y :: us, by simp [evs, h], by simp [hl]⟩
theorem truth_length (s : Int → Bool) (l : List Nd) : (truth s l).length = l.length := by
  obtain ⟨us, h, hl⟩ := evs_prefix s l []
  simp [truth, h, hl]
/-- The truth of node i. -/
def T (s : Int → Bool) (l : List Nd) (i : Int) : Bool := at' (truth s l) i
theorem T_append (s : Int → Bool) (l r : List Nd) (i : Int) (h : i < l.length) (h0 : 0 ≤ i) : T s (l ++ r) i = T s l i := by
  obtain ⟨us, hu, _⟩ := evs_prefix s r (truth s l)
  unfold T at'
  rw [truth_append, hu]
  have : i.toNat < (truth s l).length := by rw [truth_length]; omega
  simp [List.getD_eq_getElem?_getD, List.getElem?_append_left this]
theorem T_take (s : Int → Bool) (l : List Nd) (k : Nat) (i : Int) (h : i < k) (h0 : 0 ≤ i) (hk : k ≤ l.length) : T s l i = T s (l.take k) i := by
  rw [← T_append s (l.take k) (l.drop k) i (by simp; omega) h0, List.take_append_drop]
theorem evNd_congr (s : Int → Bool) (f g : Int → Bool) (x : Nd) (h : ∀ i ∈ x.ins, f i = g i) : evNd s f x = evNd s g x := by
  have h1 : x.ins.all f = x.ins.all g := by
    rw [Bool.eq_iff_iff, List.all_eq_true, List.all_eq_true]
    exact ⟨fun a i hi => by rw [← h i hi]; exact a i hi, fun a i hi => by rw [h i hi]; exact a i hi⟩
  have h2 : x.ins.any f = x.ins.any g := by
    rw [Bool.eq_iff_iff, List.any_eq_true, List.any_eq_true]
    exact ⟨fun ⟨i, hi, a⟩ => ⟨i, hi, by rw [← h i hi]; exact a⟩, fun ⟨i, hi, a⟩ => ⟨i, hi, by rw [h i hi]; exact a⟩⟩
  unfold evNd; rw [h1, h2]
theorem insOk_iff {ins : List Int} {b : Int} : insOk ins b = true ↔ ∀ i ∈ ins, 0 ≤ i ∧ i < b := by simp [insOk]
theorem T_snoc (s : Int → Bool) (l : List Nd) (x : Nd) : T s (l ++ [x]) l.length = evNd s (T s l) x := by
  have h : (truth s l).length = l.length := truth_length s l
  unfold T at'
  rw [truth_snoc, ← h]
  simp
  rfl
/-- The truth of a node by the truths of its inputs. -/
theorem T_eq (s : Int → Bool) (l : List Nd) (i : Nat) (hi : i < l.length) (hin : insOk (l.getD i default).ins i = true) : T s l i = evNd s (T s l) (l.getD i default) := by
  rw [insOk_iff] at hin
  have e : l.getD i default = l[i] := by simp [List.getD_eq_getElem?_getD, hi]
  rw [e] at hin ⊢
  rw [T_take s l (i + 1) i (by omega) (by omega) (by omega), List.take_succ_eq_append_getElem hi]
  have := T_snoc s (l.take i) l[i]
  rw [show ((List.take i l).length : Int) = i by simp; omega] at this
  rw [this]
  apply evNd_congr
  intro j hj
  exact (T_take s l i j (by have := (hin j hj).2; omega) (hin j hj).1 (by omega)).symm
theorem ev_eq (s : Int → Bool) (t : Nt) (_h : 1 ≤ t.l.length) : ev s t = T s t.l (t.l.length - 1 : Nat) := rfl
end Cen

/- Words on memory that all walks share: cells that read as integers, as nodes; what a later world keeps. -/
namespace Go.Proofs.YtkaojolofaanfaaGreatDoor
open Go.RowKit Cen

theorem ret_int {k : IntKind} {a b : Int} (h : a = b) : Ending.returned (.int k a) = .returned (.int k b) := by rw [h]
theorem ret_bool {a b : Bool} (h : a = b) : Ending.returned (.bool a) = .returned (.bool b) := by rw [h]

/-- What was there reads as it did. -/
theorem cell_keep {w w' : World} (h : Below w.heap.size w w') {p : Addr} {v : Value} (hc : w.cell? p = some v) : w'.cell? p = some v := by
  rw [h.cell ?_]; exact hc
  rcases Nat.lt_or_ge p.block w.heap.size with h' | h'
  · exact h'
  · simp [World.cell?, Array.getElem?_eq_none h'] at hc
theorem cell_block {w : World} {p : Addr} {v : Value} (hc : w.cell? p = some v) : p.block < w.heap.size := by
  rcases Nat.lt_or_ge p.block w.heap.size with h' | h'
  · exact h'
  · simp [World.cell?, Array.getElem?_eq_none h'] at hc

/-- A slice of integers that can be read. -/
def IntCells (w : World) (a : Option Addr) (xs : List Int) : Prop :=
  ∀ i, i < xs.length → ∃ b off, a = some ⟨b, off, none⟩ ∧ w.cell? ⟨b, off + i, none⟩ = some (.int .i64 (xs.getD i 0))
theorem IntCells.keep {w w' : World} {a : Option Addr} {xs : List Int} (h : IntCells w a xs) (hb : Below w.heap.size w w') : IntCells w' a xs :=
  fun i hi => let ⟨b, off, e, hc⟩ := h i hi; ⟨b, off, e, cell_keep hb hc⟩
theorem IntCells.nil (w : World) (a : Option Addr) : IntCells w a [] := fun _ h => absurd h (Nat.not_lt_zero _)

/-- A node in three cells. -/
def NdCell (w : World) (b o : Nat) (x : Nd) : Prop :=
  w.cell? ⟨b, o, none⟩ = some (.int .i64 x.kind) ∧ w.cell? ⟨b, o + 1, none⟩ = some (.int .i64 x.lit) ∧
  ∃ a cap, w.cell? ⟨b, o + 2, none⟩ = some (.slice a x.ins.length cap) ∧ IntCells w a x.ins ∧ x.ins.length ≤ 1073741824
theorem NdCell.keep {w w' : World} {b o : Nat} {x : Nd} (h : NdCell w b o x) (hb : Below w.heap.size w w') : NdCell w' b o x :=
  let ⟨h1, h2, a, cap, h3, h4, h5⟩ := h; ⟨cell_keep hb h1, cell_keep hb h2, a, cap, cell_keep hb h3, h4.keep hb, h5⟩
/-- A slice of nodes that can be read. -/
def NdCells (w : World) (a : Option Addr) (l : List Nd) : Prop :=
  ∀ i, i < l.length → ∃ b off, a = some ⟨b, off, none⟩ ∧ NdCell w b (off + i * 3) (l.getD i default)
theorem NdCells.keep {w w' : World} {a : Option Addr} {l : List Nd} (h : NdCells w a l) (hb : Below w.heap.size w w') : NdCells w' a l :=
  fun i hi => let ⟨b, off, e, hc⟩ := h i hi; ⟨b, off, e, hc.keep hb⟩

/-- The place of the first element for which p holds, else -1. -/
def idx (p : Int → Bool) (xs : List Int) : Int := match xs.findIdx? p with | some i => i | none => -1
theorem idx_hit (p : Int → Bool) (xs : List Int) (k : Nat) (hk : k < xs.length) (hno : ∀ j, j < k → p (xs.getD j 0) = false) (h : p xs[k] = true) : idx p xs = k := by
  have : xs.findIdx? p = some k := by
    rw [List.findIdx?_eq_some_iff_getElem]
    refine ⟨hk, h, fun j hj => ?_⟩
    have := hno j hj
    have hj' : j < xs.length := by omega
    simp [List.getD_eq_getElem?_getD, hj'] at this
    simp [this]
  simp [idx, this]
theorem idx_miss (p : Int → Bool) (xs : List Int) (hno : ∀ j, j < xs.length → p (xs.getD j 0) = false) : idx p xs = -1 := by
  have : xs.findIdx? p = none := by
    rw [List.findIdx?_eq_none_iff]
    intro x hx
    obtain ⟨j, hj, rfl⟩ := List.getElem_of_mem hx
    have := hno j hj
    simpa [List.getD_eq_getElem?_getD, hj] using this
  simp [idx, this]
theorem idx_any (p : Int → Bool) (xs : List Int) : decide (0 ≤ idx p xs) = xs.any p := by
  unfold idx
  cases h : xs.findIdx? p with
  | none => simp [List.findIdx?_eq_none_iff] at h ⊢; intro x hx; simp [h x hx]
  | some i =>
    rw [List.findIdx?_eq_some_iff_getElem] at h
    obtain ⟨hi, hpi, _⟩ := h
    have : xs.any p = true := List.any_eq_true.2 ⟨_, List.getElem_mem hi, hpi⟩
    rw [this]; simp
end Go.Proofs.YtkaojolofaanfaaGreatDoor

/- The walks of the small functions on literals and sets, and of ContainsFunc and IndexFunc. -/
namespace Go.Proofs.YtkaojolofaanfaaGreatDoor
open Go.RowKit Cen
set_option maxHeartbeats 400000
set_option maxRecDepth 100000

theorem litVar_any (l : Int) (w : World) : Calls Tryz.prog 95 #[.int .i64 l] w fun e w' => e = .returned (.int .i64 (litVar l)) ∧ w = w' := by
  go_enter Tryz.func95, Tryz.ntmps95
  go_wp2
  all_goals (go_ret; exact ⟨ret_int (by unfold litVar; (try simp at *); (repeat' split) <;> omega), rfl⟩)
theorem litValid_any (l n : Int) (w : World) : Calls Tryz.prog 112 #[.int .i64 l, .int .i64 n] w fun e w' => e = .returned (.bool (litOk l n)) ∧ w = w' := by
  have hb := litVar_bd l
  by_cases h0 : litVar l = 0
  · have h1 : (litVar l != 0) = false := by simp [h0]
    have hr : litOk l n = false := by simp [litOk, h0]
    rw [hr]; clear hr h0
    go_enter Tryz.func112, Tryz.ntmps112
    go_wp2_with (go_at_call 95; refine (litVar_any _ _).mono ?_; rintro e w' ⟨rfl, rfl⟩)
    go_ret; exact ⟨rfl, rfl⟩
  · have h1 : (litVar l != 0) = true := by simp [h0]
    have hr : litOk l n = decide (litVar l ≤ n) := by simp [litOk, h0]
    rw [hr]; clear hr h0
    go_enter Tryz.func112, Tryz.ntmps112
    go_wp2_with (go_at_call 95; refine (litVar_any _ _).mono ?_; rintro e w' ⟨rfl, rfl⟩)
    go_ret; exact ⟨rfl, rfl⟩

/-- What a call of a function value needs: that its function has a body. -/
def Callable (g : FuncId) : Prop := ∀ (args : Array Value) (w : World), (callFunc g args).run Tryz.prog w = .ok (.enter g args) w

theorem indexFunc_any (a : Option Addr) (cap : Nat) (xs : List Int) (g : FuncId) (cs : Array Value) (p : Int → Bool) (w : World) (hl : xs.length ≤ 1073741824)
    (hx : IntCells w a xs) (hp : ∀ x, x ∈ xs → Calls Tryz.prog g (#[.int .i64 x] ++ cs) w fun e w' => e = .returned (.bool (p x)) ∧ w = w') (hcf0 : Callable g) :
    Calls Tryz.prog 164 #[.slice a xs.length cap, .func (.func g) #[] cs] w fun e w' => e = .returned (.int .i64 (idx p xs)) ∧ w = w' := by
  have HX := Lib.hid hx
  have HP := Lib.hid hp
  have hcf : ∀ (args : Array Value) (w : World), (callFunc g args).run Tryz.prog w = .ok (.enter g args) w := hcf0
  clear hx hp hcf0
  go_enter Tryz.func164, Tryz.ntmps164
  go_wp2
  go_loop [5, 8] (fun v i => ∃ k : Nat, k ≤ xs.length ∧ i = .int .i64 k ∧ (∀ j, j < k → p (xs.getD j 0) = false)) (fun _ i => xs.length - (intOf i).toNat)
  case atStart => exact ⟨0, Nat.zero_le _, rfl, fun j h => absurd h (Nat.not_lt_zero _)⟩
  case round =>
    obtain ⟨k, hk, rfl, hno⟩ := hrel
    have HN := Lib.hid hno
    clear hno
    by_cases hlt : k < xs.length
    · obtain ⟨b, off, rfl, hc⟩ := HX.out k hlt
      cases hpk : p xs[k]
      · have HK := Lib.hid hpk
        clear hpk
        go_wp2_with fail
        refine (HP.out xs[k] (List.getElem_mem hlt)).mono ?_
        rw [HK.out]
        rintro e w' ⟨rfl, rfl⟩
        go_wp2
        go_round
        case rel => exact ⟨k + 1, by omega, by go_num, fun j hj => by
          by_cases e : j = k
          · subst e; simpa [List.getD_eq_getElem?_getD, hlt] using HK.out
          · exact HN.out j (by omega)⟩
        case measure => simp [intOf]; omega
      · have HK := Lib.hid hpk
        clear hpk
        go_wp2_with fail
        refine (HP.out xs[k] (List.getElem_mem hlt)).mono ?_
        rw [HK.out]
        rintro e w' ⟨rfl, rfl⟩
        go_wp2
        go_ret
        exact ⟨ret_int (idx_hit p xs k hlt HN.out HK.out).symm, rfl⟩
    · have : k = xs.length := by omega
      subst this
      go_wp2
      go_ret
      exact ⟨ret_int (idx_miss p xs HN.out).symm, rfl⟩
theorem containsFunc_any (a : Option Addr) (cap : Nat) (xs : List Int) (g : FuncId) (cs : Array Value) (p : Int → Bool) (w : World) (hl : xs.length ≤ 1073741824)
    (hx : IntCells w a xs) (hp : ∀ x, x ∈ xs → Calls Tryz.prog g (#[.int .i64 x] ++ cs) w fun e w' => e = .returned (.bool (p x)) ∧ w = w') (hcf0 : Callable g) :
    Calls Tryz.prog 103 #[.slice a xs.length cap, .func (.func g) #[] cs] w fun e w' => e = .returned (.bool (xs.any p)) ∧ w = w' := by
  have HX := Lib.hid hx
  have HP := Lib.hid hp
  have HC := Lib.hid hcf0
  clear hx hp hcf0
  go_enter Tryz.func103, Tryz.ntmps103
  go_wp2_with (go_at_call 164; refine (indexFunc_any _ _ _ _ _ p _ hl HX.out HP.out HC.out).mono ?_; rintro e w' ⟨rfl, rfl⟩)
  go_ret
  exact ⟨ret_bool (idx_any p xs), rfl⟩

theorem formed1_any (i before : Int) (a : Addr) (w : World) (h : w.cell? a = some (.int .i64 before)) :
    Calls Tryz.prog 167 #[.int .i64 i, .pointer (some a)] w fun e w' => e = .returned (.bool (decide (i < 0) || decide (before ≤ i))) ∧ w = w' := by
  by_cases h0 : i < 0
  · have h1 : decide (i < 0) = true := by simp [h0]
    rw [h1]
    go_enter Tryz.func167, Tryz.ntmps167
    go_wp2
    go_ret; exact ⟨rfl, rfl⟩
  · have h1 : decide (i < 0) = false := by simp [h0]
    rw [h1]
    go_enter Tryz.func167, Tryz.ntmps167
    go_wp2
    go_ret; exact ⟨rfl, rfl⟩
theorem callable_formed1 : Callable 167 := fun _ _ => by kernel_rfl
end Go.Proofs.YtkaojolofaanfaaGreatDoor

/- Plain models: sets of variables in two words. No program in sight. -/
namespace Cen
structure St where
  a : Nat
  b : Nat
instance : Inhabited St := ⟨⟨0, 0⟩⟩
instance : DecidableEq St := fun x y => decidable_of_iff (x.a = y.a ∧ x.b = y.b) (by cases x; cases y; simp)
/-- 2 to the 64: behind a name. -/
def U64 : Nat := 18446744073709551616
def St.ok (s : St) : Prop := s.a < U64 ∧ s.b < U64
def St.zero : St := ⟨0, 0⟩
def St.mem (s : St) (v : Int) : Bool :=
  if 1 ≤ v ∧ v ≤ 64 then s.a.testBit (v - 1).toNat else if 65 ≤ v ∧ v ≤ 128 then s.b.testBit (v - 65).toNat else false
def St.add (s : St) (v : Int) : St :=
  if 1 ≤ v ∧ v ≤ 64 then ⟨s.a ||| 2 ^ (v - 1).toNat, s.b⟩ else if 65 ≤ v ∧ v ≤ 128 then ⟨s.a, s.b ||| 2 ^ (v - 65).toNat⟩ else s
def St.union (s t : St) : St := ⟨s.a ||| t.a, s.b ||| t.b⟩
def St.cut (s t : St) : St := ⟨s.a &&& t.a, s.b &&& t.b⟩
theorem U64_pow : U64 = 2 ^ 64 := rfl
theorem pow_lt_U64 {k : Nat} (h : k < 64) : 2 ^ k < U64 := by rw [U64_pow]; exact Nat.pow_lt_pow_right (by omega) h
theorem or_lt_U64 {x y : Nat} (hx : x < U64) (hy : y < U64) : x ||| y < U64 := by rw [U64_pow] at *; exact Nat.or_lt_two_pow hx hy
theorem and_lt_U64 {x y : Nat} (hx : x < U64) : x &&& y < U64 := Nat.lt_of_le_of_lt Nat.and_le_left hx
theorem St.zero_ok : St.zero.ok := ⟨by unfold U64; decide, by unfold U64; decide⟩
theorem St.union_ok {s t : St} (h : s.ok) (k : t.ok) : (s.union t).ok := ⟨or_lt_U64 h.1 k.1, or_lt_U64 h.2 k.2⟩
theorem St.cut_ok {s t : St} (h : s.ok) : (s.cut t).ok := ⟨and_lt_U64 h.1, and_lt_U64 h.2⟩
theorem St.add_ok {s : St} (h : s.ok) (v : Int) : (s.add v).ok := by
  unfold St.add
  (repeat' split)
  · exact ⟨or_lt_U64 h.1 (pow_lt_U64 (by omega)), h.2⟩
  · exact ⟨h.1, or_lt_U64 h.2 (pow_lt_U64 (by omega))⟩
  · exact h
theorem St.mem_zero (v : Int) : St.zero.mem v = false := by unfold St.mem St.zero; (repeat' split) <;> simp
theorem St.mem_union (s t : St) (v : Int) : (s.union t).mem v = (s.mem v || t.mem v) := by
  unfold St.mem St.union; (repeat' split) <;> simp
theorem St.mem_cut (s t : St) (v : Int) : (s.cut t).mem v = (s.mem v && t.mem v) := by
  unfold St.mem St.cut; (repeat' split) <;> simp
theorem St.mem_add (s : St) (u v : Int) : (s.add u).mem v = (s.mem v || (decide (v = u) && decide (1 ≤ u) && decide (u ≤ 128))) := by
  unfold St.mem St.add
  by_cases h1 : 1 ≤ u ∧ u ≤ 64
  · rw [if_pos h1]
    by_cases k1 : 1 ≤ v ∧ v ≤ 64
    · rw [if_pos k1, if_pos k1, Nat.testBit_or, Nat.testBit_two_pow]
      congr 1; rw [Bool.eq_iff_iff]; simp; omega
    · rw [if_neg k1, if_neg k1]
      have : decide (v = u) = false := by simp; omega
      simp [this]
  · rw [if_neg h1]
    by_cases h2 : 65 ≤ u ∧ u ≤ 128
    · rw [if_pos h2]
      by_cases k1 : 1 ≤ v ∧ v ≤ 64
      · rw [if_pos k1, if_pos k1]
        have : decide (v = u) = false := by simp; omega
        simp [this]
      · rw [if_neg k1, if_neg k1]
        by_cases k2 : 65 ≤ v ∧ v ≤ 128
        · rw [if_pos k2, if_pos k2, Nat.testBit_or, Nat.testBit_two_pow]
          congr 1; rw [Bool.eq_iff_iff]; simp; omega
        · rw [if_neg k2, if_neg k2]
          have : decide (v = u) = false := by simp; omega
          simp [this]
    · rw [if_neg h2]
      have : (decide (1 ≤ u) && decide (u ≤ 128)) = false := by simp; omega
      rw [Bool.and_assoc, this]; simp
theorem testBit_ext64 {x y : Nat} (hx : x < U64) (hy : y < U64) (h : ∀ i, i < 64 → x.testBit i = y.testBit i) : x = y := by
  apply Nat.eq_of_testBit_eq
  intro i
  by_cases hi : i < 64
  · exact h i hi
  · rw [U64_pow] at *
    have p : 2 ^ 64 ≤ 2 ^ i := Nat.pow_le_pow_right (by omega) (by omega)
    rw [Nat.testBit_lt_two_pow (Nat.lt_of_lt_of_le hx p), Nat.testBit_lt_two_pow (Nat.lt_of_lt_of_le hy p)]
/-- Two sets with the same variables are equal. -/
theorem St.ext {s t : St} (hs : s.ok) (ht : t.ok) (h : ∀ v, 1 ≤ v → v ≤ 128 → s.mem v = t.mem v) : s = t := by
  have h1 : s.a = t.a := testBit_ext64 hs.1 ht.1 fun i hi => by
    have := h (i + 1 : Nat) (by omega) (by omega)
    unfold St.mem at this
    rw [if_pos (by omega), if_pos (by omega)] at this
    rw [show (((i + 1 : Nat) : Int) - 1).toNat = i by omega] at this; exact this
  have h2 : s.b = t.b := testBit_ext64 hs.2 ht.2 fun i hi => by
    have := h (i + 65 : Nat) (by omega) (by omega)
    unfold St.mem at this
    have n1 : ¬ (1 ≤ ((i + 65 : Nat) : Int) ∧ ((i + 65 : Nat) : Int) ≤ 64) := by omega
    have n2 : (65 ≤ ((i + 65 : Nat) : Int) ∧ ((i + 65 : Nat) : Int) ≤ 128) := by omega
    rw [if_neg n1, if_neg n1, if_pos n2, if_pos n2] at this
    rw [show (((i + 65 : Nat) : Int) - 65).toNat = i by omega] at this; exact this
  cases s; cases t; simp_all
end Cen

/- The walks of package vars. -/
namespace Go.Proofs.YtkaojolofaanfaaGreatDoor
open Go.RowKit Cen
set_option maxHeartbeats 400000
set_option maxRecDepth 100000

/-- A set as a value. -/
abbrev stv (s : St) : Value := .agg #[.int .u64 (s.a : Int), .int .u64 (s.b : Int)]
theorem or64 {x y : Nat} (hx : x < U64) (hy : y < U64) : bits .or .u64 (x : Int) (y : Int) = ((x ||| y : Nat) : Int) := u64_or_nat x y hx hy
theorem and64 {x y : Nat} (hx : x < U64) (hy : y < U64) : bits .and .u64 (x : Int) (y : Int) = ((x &&& y : Nat) : Int) := u64_and_nat x y hx hy

theorem place_no (v : Int) (w : World) (h : ¬ (1 ≤ v ∧ v ≤ 128)) :
    Calls Tryz.prog 97 #[.int .i64 v] w fun e w' => e = .returned (.tuple #[.int .i64 0, .int .u64 0, .bool false]) ∧ w = w' := by
  by_cases h1 : v < 1
  · have hd : decide (v < 1) = true := by simpa using h1
    go_enter Tryz.func97, Tryz.ntmps97
    go_wp2
    go_ret3
    exact ⟨rfl, rfl⟩
  · have hd : decide (v < 1) = false := by simpa using h1
    have h2 : 128 < v := by omega
    have hd2 : decide (128 < v) = true := by simpa using h2
    go_enter Tryz.func97, Tryz.ntmps97
    go_wp2
    go_ret3
    exact ⟨rfl, rfl⟩
theorem wrap_pow {k : Nat} (h : k < 64) : IntKind.u64.wrap ((2 : Int) ^ k) = ((2 ^ k : Nat) : Int) := by
  rw [IntKind.wrap_u64, show ((2 : Int) ^ k) = ((2 ^ k : Nat) : Int) from by norm_cast]
  have h1 := pow_lt_U64 h
  have h2 : ((2 ^ k : Nat) : Int) < ((U64 : Nat) : Int) := Int.ofNat_lt.2 h1
  exact Int.emod_eq_of_lt (Int.natCast_nonneg _) h2
/-- The bit of a variable in its word. -/
def bitOf (v : Int) : Nat := 2 ^ ((v - 1) % 64).toNat
theorem bitOf_lt (v : Int) : bitOf v < U64 := pow_lt_U64 (by omega)
theorem place_lo (v : Int) (w : World) (h : 1 ≤ v ∧ v ≤ 64) :
    Calls Tryz.prog 97 #[.int .i64 v] w fun e w' => e = .returned (.tuple #[.int .i64 0, .int .u64 (bitOf v : Int), .bool true]) ∧ w = w' := by
  obtain ⟨h1, h2⟩ := h
  have hd : decide (v < 1) = false := by simp; omega
  have hd2 : decide (128 < v) = false := by simp; omega
  go_enter Tryz.func97, Tryz.ntmps97
  go_wp2
  go_ret3
  refine ⟨?_, rfl⟩
  rw [wrap_pow (by omega), show (v - 1) / 64 = 0 by omega]; rfl
theorem place_hi (v : Int) (w : World) (h : 65 ≤ v ∧ v ≤ 128) :
    Calls Tryz.prog 97 #[.int .i64 v] w fun e w' => e = .returned (.tuple #[.int .i64 1, .int .u64 (bitOf v : Int), .bool true]) ∧ w = w' := by
  obtain ⟨h1, h2⟩ := h
  have hd : decide (v < 1) = false := by simp; omega
  have hd2 : decide (128 < v) = false := by simp; omega
  go_enter Tryz.func97, Tryz.ntmps97
  go_wp2
  go_ret3
  refine ⟨?_, rfl⟩
  rw [wrap_pow (by omega), show (v - 1) / 64 = 1 by omega]; rfl
theorem with_any (s : St) (v : Int) (w : World) (hs : s.ok) :
    Calls Tryz.prog 114 #[stv s, .int .i64 v] w fun e w' => e = .returned (stv (s.add v)) ∧ Below w.heap.size w w' := by
  have HB : Hid (∀ o o' : Obj, Below w.heap.size w ((w.alloc o).alloc o')) := fun o o' => ((Below.refl _ _).alloc (Nat.le_refl _) _).alloc (by simp) _
  by_cases h : 1 ≤ v ∧ v ≤ 64
  · have e1 := or64 hs.1 (bitOf_lt v)
    have H := Lib.hid (fun w => place_lo v w h)
    have HE : Hid (s.add v = ⟨s.a ||| bitOf v, s.b⟩) := by show _ = _; unfold St.add bitOf; rw [if_pos h, show (v - 1) % 64 = v - 1 by omega]
    clear h
    go_enter Tryz.func114, Tryz.ntmps114
    go_wp2_with (go_at_call 97; refine (H.out _).mono ?_; rintro e w' ⟨rfl, rfl⟩)
    rw [HE.out]
    exact bodyPost_ret (v := stv ⟨s.a ||| bitOf v, s.b⟩) (by simp [results, Tryz.results114, go_sem]) rfl ⟨rfl, HB.out _ _⟩
  · by_cases h2 : 65 ≤ v ∧ v ≤ 128
    · have e1 := or64 hs.2 (bitOf_lt v)
      have H := Lib.hid (fun w => place_hi v w h2)
      have HE : Hid (s.add v = ⟨s.a, s.b ||| bitOf v⟩) := by show _ = _; unfold St.add bitOf; rw [if_neg h, if_pos h2, show (v - 1) % 64 = v - 65 by omega]
      clear h h2
      go_enter Tryz.func114, Tryz.ntmps114
      go_wp2_with (go_at_call 97; refine (H.out _).mono ?_; rintro e w' ⟨rfl, rfl⟩)
      rw [HE.out]
      exact bodyPost_ret (v := stv ⟨s.a, s.b ||| bitOf v⟩) (by simp [results, Tryz.results114, go_sem]) rfl ⟨rfl, HB.out _ _⟩
    · have H := Lib.hid (fun w => place_no v w (by omega))
      have HE : Hid (s.add v = s) := by show _ = _; unfold St.add; rw [if_neg h, if_neg h2]
      clear h h2
      go_enter Tryz.func114, Tryz.ntmps114
      go_wp2_with (go_at_call 97; refine (H.out _).mono ?_; rintro e w' ⟨rfl, rfl⟩)
      rw [HE.out]
      exact bodyPost_ret (v := stv s) (by simp [results, Tryz.results114, go_sem]) rfl ⟨rfl, HB.out _ _⟩
theorem union_any (s t : St) (w : World) (hs : s.ok) (ht : t.ok) :
    Calls Tryz.prog 96 #[stv s, stv t] w fun e w' => e = .returned (stv (s.union t)) ∧ Below w.heap.size w w' := by
  have e1 := or64 hs.1 ht.1
  have e2 := or64 hs.2 ht.2
  go_enter Tryz.func96, Tryz.ntmps96
  go_wp2
  exact bodyPost_ret (v := stv (s.union t)) (by simp [results, Tryz.results96, go_sem, St.union]) rfl ⟨rfl, by
    exact ((((Below.refl _ _).alloc (Nat.le_refl _) _).alloc (by simp) _).alloc (by simp; omega) _)⟩
theorem cut_any (s t : St) (w : World) (hs : s.ok) (ht : t.ok) :
    Calls Tryz.prog 109 #[stv s, stv t] w fun e w' => e = .returned (stv (s.cut t)) ∧ Below w.heap.size w w' := by
  have e1 := and64 hs.1 ht.1
  have e2 := and64 hs.2 ht.2
  go_enter Tryz.func109, Tryz.ntmps109
  go_wp2
  exact bodyPost_ret (v := stv (s.cut t)) (by simp [results, Tryz.results109, go_sem, St.cut]) rfl ⟨rfl, by
    exact ((((Below.refl _ _).alloc (Nat.le_refl _) _).alloc (by simp) _).alloc (by simp; omega) _)⟩
end Go.Proofs.YtkaojolofaanfaaGreatDoor

/- Plain lemmas on lists of rows of equal length. No program in sight. -/
namespace Cen
variable {α β : Type} {enc : α → List β} {k : Nat}
theorem flat_length (hk : ∀ x, (enc x).length = k) (l : List α) : (l.flatMap enc).length = l.length * k := by
  induction l with
  | nil => simp
  | cons x l ih => rw [List.flatMap_cons, List.length_append, ih, hk, List.length_cons, Nat.succ_mul]; omega
theorem flat_get (hk : ∀ x, (enc x).length = k) (l : List α) (i j : Nat) (hi : i < l.length) (hj : j < k) : (l.flatMap enc)[i * k + j]? = (enc l[i])[j]? := by
  induction l generalizing i with
  | nil => simp at hi
  | cons x l ih =>
    rw [List.flatMap_cons]
    cases i with
    | zero => rw [List.getElem?_append_left (by rw [hk]; omega)]; simp
    | succ i =>
      have e : (i + 1) * k + j = (enc x).length + (i * k + j) := by rw [hk, Nat.succ_mul]; omega
      rw [e, List.getElem?_append_right (by omega), Nat.add_sub_cancel_left, ih i (by simpa using hi)]
      simp
theorem flat_set (hk : ∀ x, (enc x).length = k) (l : List α) (i j : Nat) (y : β) (hi : i < l.length) (hj : j < k) :
    (l.flatMap enc).set (i * k + j) y = (l.take i).flatMap enc ++ (enc l[i]).set j y ++ (l.drop (i + 1)).flatMap enc := by
  have h1 : l = l.take i ++ l[i] :: l.drop (i + 1) := by simp
  conv => lhs; rw [h1]
  rw [List.flatMap_append, List.flatMap_cons]
  have hl : ((l.take i).flatMap enc).length = i * k := by rw [flat_length hk]; simp; rw [Nat.min_eq_left (by omega)]
  rw [List.set_append_right _ _ (by rw [hl]; omega), hl, Nat.add_sub_cancel_left, List.set_append_left _ _ (by rw [hk]; exact hj), List.append_assoc]
theorem flat_put (l : List α) (i : Nat) (y : α) (hi : i < l.length) : (l.set i y).flatMap enc = (l.take i).flatMap enc ++ enc y ++ (l.drop (i + 1)).flatMap enc := by
  rw [List.set_eq_take_append_cons_drop, if_pos hi, List.flatMap_append, List.flatMap_cons, List.append_assoc]
/-- Storing all cells of an element, one behind the other. -/
theorem flat_set1 (hk : ∀ x, (enc x).length = 1) (l : List α) (i : Nat) (y : α) (c : β) (hi : i < l.length) (hy : enc y = [c]) :
    (l.flatMap enc).set i c = (l.set i y).flatMap enc := by
  have := flat_set hk l i 0 c hi (by omega)
  simp only [Nat.mul_one, Nat.add_zero] at this
  rw [this, flat_put l i y hi, hy]
  have h := hk l[i]
  match h' : enc l[i], h with
  | [d], _ => rfl
theorem flat_set2 (hk : ∀ x, (enc x).length = 2) (l : List α) (i : Nat) (y : α) (c d : β) (hi : i < l.length) (hy : enc y = [c, d]) :
    ((l.flatMap enc).set (i * 2) c).set (i * 2 + 1) d = (l.set i y).flatMap enc := by
  have h0 := flat_set hk l i 0 c hi (by omega)
  simp only [Nat.add_zero] at h0
  rw [h0, flat_put l i y hi, hy]
  have hl : ((l.take i).flatMap enc).length = i * 2 := by rw [flat_length hk]; simp; rw [Nat.min_eq_left (by omega)]
  have h := hk l[i]
  match h' : enc l[i], h with
  | [d0, d1], _ =>
    rw [List.append_assoc, List.set_append_right _ _ (by omega), hl, Nat.add_sub_cancel_left]
    simp
theorem flat_set3 (hk : ∀ x, (enc x).length = 3) (l : List α) (i : Nat) (y : α) (c d f : β) (hi : i < l.length) (hy : enc y = [c, d, f]) :
    (((l.flatMap enc).set (i * 3) c).set (i * 3 + 1) d).set (i * 3 + 2) f = (l.set i y).flatMap enc := by
  have h0 := flat_set hk l i 0 c hi (by omega)
  simp only [Nat.add_zero] at h0
  rw [h0, flat_put l i y hi, hy]
  have hl : ((l.take i).flatMap enc).length = i * 3 := by rw [flat_length hk]; simp; rw [Nat.min_eq_left (by omega)]
  have h := hk l[i]
  match h' : enc l[i], h with
  | [d0, d1, d2], _ =>
    rw [List.append_assoc, List.set_append_right _ _ (by omega), hl, Nat.add_sub_cancel_left, List.set_append_right _ _ (by omega), hl]
    rw [show i * 3 + 2 - i * 3 = 2 by omega]
    simp
theorem flat_snoc (l : List α) (y : α) : (l ++ [y]).flatMap enc = l.flatMap enc ++ enc y := by simp
theorem flat_replicate (y : α) (n : Nat) : (List.replicate n y).flatMap enc = (List.replicate n (enc y)).flatten := by
  induction n with
  | zero => rfl
  | succ n ih => simp [List.replicate_succ, ih]
end Cen
