/- Part of the proofs that laws of censuslaw38 return true for every input, where the tables that the rows list are laid. Texts: AppAny. -/
import Derived.Test.YtfdonhfhcomjaaaGreatDoorZB1
import Derived.Maps.AppendAt
import Derived.Deep.RegionHeld3

/- append(s, xs...) of integers, s the call's own, the source nil, empty or not; at a step of a region, too. -/
namespace Go.Proofs.YtfdonhfhcomjaaaGreatDoor
open Go.RowKit Cen
set_option maxRecDepth 100000
theorem run_append_nilsrc (w : World) (base : Nat) (ty : TypeId) (v : Value) (ys : List Int) (hown : OwnInts w base v ys) (c : Nat) : (Builtin.append_ #[31, 31] ty #[v, .slice none 0 c]).run Tryz.prog w = .ok v w := by
  obtain ⟨ht, i, hi, hz, hsz, hby, hzs, h0⟩ := elemInt
  rcases hown.2 with ⟨rfl, hn⟩ | ⟨g, cap, cur, rfl, _, _, hnc, _⟩
  · simp [Builtin.append_, run_underlying ht, sizeOf, typeInfo, hi, Builtin.lenOf, Builtin.firstCells]
  · simp [Builtin.append_, run_underlying ht, sizeOf, typeInfo, hi, Builtin.lenOf, Builtin.firstCells, hnc, storeCells]
theorem cells_none {w : World} {b : Option Addr} {xs : List Int} (h : IntCells w b xs) (hb : b = none) : xs = [] := by
  subst hb
  cases xs with
  | nil => rfl
  | cons x xs => obtain ⟨_, _, e, _⟩ := h 0 (by simp); simp at e
theorem run_append_ints (w : World) (base : Nat) (ty : TypeId) (v : Value) (ys : List Int) (hown : OwnInts w base v ys) (b : Option Addr) (c : Nat) (xs : List Int) (hx : IntCells w b xs)
    (h1 : ys.length ≤ 1073741824) (h2 : xs.length ≤ 1073741824) (hbase : base ≤ w.heap.size) :
    ∃ v' w', (Builtin.append_ #[31, 31] ty #[v, .slice b xs.length c]).run Tryz.prog w = .ok v' w' ∧ OwnInts w' base v' (ys ++ xs) ∧ w.grownBy w' v.ownBlock := by
  obtain ⟨ht, i, hi, hz, hsz, hby, hzs, h0⟩ := elemInt
  cases b with
  | none =>
    have hn := cells_none hx rfl
    subst hn
    exact ⟨v, w, run_append_nilsrc w base ty v ys hown c, by simpa using hown, World.grownBy.refl w _⟩
  | some ad =>
    obtain ⟨v', w', hrun, r1, r2, _⟩ := run_append_own (P := Tryz.prog) w base 31 ty 3 i _ 1 8 ht hi hz hsz hby hzs h0 v ys.length (ys.map (Value.int .i64)) hown ad xs.length c (xs.map (Value.int .i64)) (by simp) (cellsOfInts hx) (oneInts xs)
      (by unfold maxLen; omega) (by omega) hbase
    exact ⟨v', w', hrun, by unfold OwnInts; rw [List.length_append, List.map_append]; exact r1, r2⟩
theorem wp_append_ints {o : Oper} {a : Act} {w : World} {K : Act → World → Prop} {Q : Exit → Act → World → Prop} (s x : Operand)
    (ho : o.op = .call { callee := .builtin .append, args := #[s, x], argTypes := #[31, 31] })
    (base : Nat) (v : Value) (ys : List Int) (hs : a.eval s = v) (hown : OwnInts w base v ys) (b : Option Addr) (c : Nat) (xs : List Int) (hx : a.eval x = .slice b xs.length c) (hxc : IntCells w b xs)
    (h1 : ys.length ≤ 1073741824) (h2 : xs.length ≤ 1073741824) (hbase : base ≤ w.heap.size)
    (h : ∀ v' w', OwnInts w' base v' (ys ++ xs) → w.grownBy w' v.ownBlock → K (a.put o.dst v') w') : o.wp Tryz.prog a w K Q := by
  obtain ⟨v', w', hrun, r1, r2⟩ := run_append_ints w base o.type v ys hown b c xs hxc h1 h2 hbase
  unfold Oper.wp execOp
  simp only [ho, resolve, invoke, builtin, Sem.run_bind, Sem.run_pure, Result.andThen_ok, List.map_toArray, List.map_cons, List.map_nil, hs, hx, hrun]
  exact h v' w' r1 r2
theorem wpList_append_ints {ops : Array Oper} {rest : List Oper} {o : Oper} {a : Act} {w : World} {Q : Exit → Act → World → Prop} (hgd : o.guard = none) (s x : Operand)
    (ho : o.op = .call { callee := .builtin .append, args := #[s, x], argTypes := #[31, 31] })
    (base : Nat) (v : Value) (ys : List Int) (hs : a.eval s = v) (hown : OwnInts w base v ys) (b : Option Addr) (c : Nat) (xs : List Int) (hx : a.eval x = .slice b xs.length c) (hxc : IntCells w b xs)
    (h1 : ys.length ≤ 1073741824) (h2 : xs.length ≤ 1073741824) (hbase : base ≤ w.heap.size)
    (h : ∀ v' w', OwnInts w' base v' (ys ++ xs) → w.grownBy w' v.ownBlock → wpList Tryz.prog ops Q rest (a.put o.dst v') w') : wpList Tryz.prog ops Q (o :: rest) a w :=
  wpList_plain hgd fun _ hK => wp_append_ints s x ho base v ys hs hown b c xs hx hxc h1 h2 hbase fun v' w' r1 r2 => hK _ _ (h v' w' r1 r2)
theorem step_append_ints {p E : Prop} [Decidable p] (hp : p) {o : Oper} {a : Act} {w : World} {K : Act → World → Prop} {Q : Exit → Act → World → Prop} (s x : Operand)
    (ho : o.op = .call { callee := .builtin .append, args := #[s, x], argTypes := #[31, 31] })
    (base : Nat) (v : Value) (ys : List Int) (hs : a.eval s = v) (hown : OwnInts w base v ys) (b : Option Addr) (c : Nat) (xs : List Int) (hx : a.eval x = .slice b xs.length c) (hxc : IntCells w b xs)
    (h1 : ys.length ≤ 1073741824) (h2 : xs.length ≤ 1073741824) (hbase : base ≤ w.heap.size)
    (h : ∀ v' w', OwnInts w' base v' (ys ++ xs) → w.grownBy w' v.ownBlock → K (a.put o.dst v') w') : if p then o.wp Tryz.prog a w K Q else E := by
  rw [if_pos hp]; exact wp_append_ints s x ho base v ys hs hown b c xs hx hxc h1 h2 hbase h
end Go.Proofs.YtfdonhfhcomjaaaGreatDoor
