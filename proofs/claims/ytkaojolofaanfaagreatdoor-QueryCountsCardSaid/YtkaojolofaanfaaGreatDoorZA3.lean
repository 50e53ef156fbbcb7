/- Part of the proofs that laws of censuslaw38 return true for every input, where the tables that the rows list are laid. Texts: Mem, Maps, KeyL. -/
import Derived.Test.YtkaojolofaanfaaGreatDoorZA2
import Derived.Deep.RegionWith
import Derived.Maps.OwnOps
import Derived.Maps.OwnSet
import Derived.Lib.ItoaNum

/- Words on memory that is written: what is kept beside what may be written; rows of integers that the call owns; append and make at an element type. -/
namespace Go.Proofs.YtkaojolofaanfaaGreatDoor
open Go.RowKit Cen
set_option maxHeartbeats 400000
set_option maxRecDepth 100000

/-- w' is w with new blocks, and with writes to old blocks of M alone. -/
structure Kp (M : Nat → Prop) (w w' : World) : Prop where
  os : w'.os = w.os
  tape : w'.tape = w.tape
  output : w'.output = w.output
  size : w.heap.size ≤ w'.heap.size
  block : ∀ k, k < w.heap.size → ¬ M k → w'.heap[k]? = w.heap[k]?
theorem Kp.refl (M : Nat → Prop) (w : World) : Kp M w w := ⟨rfl, rfl, rfl, Nat.le_refl _, fun _ _ _ => rfl⟩
theorem Kp.trans {M : Nat → Prop} {a b c : World} (h : Kp M a b) (k : Kp M b c) : Kp M a c :=
  ⟨k.os.trans h.os, k.tape.trans h.tape, k.output.trans h.output, Nat.le_trans h.size k.size, fun i hi hm => (k.block i (Nat.lt_of_lt_of_le hi h.size) hm).trans (h.block i hi hm)⟩
theorem Kp.mono {M M' : Nat → Prop} {w w' : World} (h : Kp M w w') (hm : ∀ k, k < w.heap.size → M k → M' k) : Kp M' w w' :=
  ⟨h.os, h.tape, h.output, h.size, fun k hk hn => h.block k hk fun x => hn (hm k hk x)⟩
theorem Kp.below {M : Nat → Prop} {w w' : World} (h : Below w.heap.size w w') : Kp M w w' := ⟨h.os, h.tape, h.output, h.size, fun k hk _ => h.block k hk⟩
theorem Kp.belowB {B : Nat} {M : Nat → Prop} {w w' : World} (h : Below B w w') (hm : ∀ k, B ≤ k → M k) : Kp M w w' :=
  ⟨h.os, h.tape, h.output, h.size, fun k _ hn => h.block k (Nat.lt_of_not_le fun x => hn (hm k x))⟩
theorem Kp.toBelow {B : Nat} {M : Nat → Prop} {w w' : World} (h : Kp M w w') (hB : B ≤ w.heap.size) (hm : ∀ k, k < B → ¬ M k) : Below B w w' :=
  ⟨h.os, h.tape, h.output, h.size, fun k hk => h.block k (Nat.lt_of_lt_of_le hk hB) (hm k hk)⟩
theorem Kp.grown {M : Nat → Prop} {w w' : World} {row : Option Nat} (h : w.grownBy w' row) (hm : ∀ k, row = some k → M k) : Kp M w w' :=
  ⟨h.os, h.tape, h.output, h.size, fun k hk hn => h.block k hk fun e => hn (hm k e.symm)⟩
theorem Kp.alloc (M : Nat → Prop) (w : World) (o : Obj) : Kp M w (w.alloc o) := .below ((Below.refl _ _).alloc (Nat.le_refl _) o)
theorem Kp.setCell {M : Nat → Prop} (w : World) (a : Addr) (u : Value) (h : M a.block) : Kp M w (w.setCell a u) :=
  ⟨rfl, rfl, rfl, by simp [World.setCell], fun k _ hk => Below.heap_setCell _ _ _ _ fun e => hk (e ▸ h)⟩
theorem Kp.drew (M : Nat → Prop) (w : World) : Kp M w w.drew := .below (Below.refl _ _).drew
theorem Kp.cell {M : Nat → Prop} {w w' : World} (h : Kp M w w') {p : Addr} {v : Value} (hc : w.cell? p = some v) (hm : ¬ M p.block) : w'.cell? p = some v := by
  rw [World.cell?_of_block (w := w) (h.block p.block (cell_block hc) hm)]; exact hc
theorem Kp.heap {M : Nat → Prop} {w w' : World} (h : Kp M w w') {k : Nat} {o : Obj} (hc : w.heap[k]? = some o) (hm : ¬ M k) : w'.heap[k]? = some o := by
  rw [h.block k (lt_of_block hc) hm]; exact hc
theorem IntCells.kept {M : Nat → Prop} {w w' : World} {a : Option Addr} {xs : List Int} (h : IntCells w a xs) (hb : Kp M w w') (hm : ∀ p, a = some p → ¬ M p.block) : IntCells w' a xs :=
  fun i hi => let ⟨b, off, e, hc⟩ := h i hi; ⟨b, off, e, hb.cell hc (hm ⟨b, off, none⟩ e)⟩

/-- A block of the call's own, cell by cell. -/
def Blk (w : World) (b : Nat) (cs : Array Value) (t : TypeId) : Prop := w.heap[b]? = some (.cells cs t (0, 0))
theorem Blk.cell {w : World} {b : Nat} {cs : Array Value} {t : TypeId} (h : Blk w b cs t) (j : Nat) : w.cell? ⟨b, j, none⟩ = cs[j]? := by simp only [World.cell?]; rw [show w.heap[b]? = _ from h]; rfl
theorem Blk.fr {w : World} {b : Nat} {cs : Array Value} {t : TypeId} (h : Blk w b cs t) (j : Nat) : w.frozen? ⟨b, j, none⟩ = false := by simp only [World.frozen?]; rw [show w.heap[b]? = _ from h]; simp
theorem Blk.lt {w : World} {b : Nat} {cs : Array Value} {t : TypeId} (h : Blk w b cs t) : b < w.heap.size := lt_of_block h
theorem Blk.new (w : World) (cs : Array Value) (t : TypeId) : Blk (w.alloc (.cells cs t)) w.heap.size cs t := heap_alloc_new w _
theorem Blk.new' (w : World) {b : Nat} (h : w.heap.size = b) (cs : Array Value) (t : TypeId) : Blk (w.alloc (.cells cs t)) b cs t := h ▸ heap_alloc_new w _
theorem Blk.kept {M : Nat → Prop} {w w' : World} {b : Nat} {cs : Array Value} {t : TypeId} (h : Blk w b cs t) (k : Kp M w w') (hm : ¬ M b) : Blk w' b cs t := k.heap h hm
theorem Blk.alloc {w : World} {b : Nat} {cs : Array Value} {t : TypeId} (h : Blk w b cs t) (o : Obj) : Blk (w.alloc o) b cs t := by
  show (w.alloc o).heap[b]? = _; rw [Below.heap_alloc _ _ _ h.lt]; exact h
theorem Blk.set {w : World} {b : Nat} {cs : Array Value} {t : TypeId} (h : Blk w b cs t) (j : Nat) (v : Value) : Blk (w.setCell ⟨b, j, none⟩ v) b (cs.setIfInBounds j v) t := heap_setCell_same w b j cs t v h
theorem Blk.other {w : World} {b : Nat} {cs : Array Value} {t : TypeId} (h : Blk w b cs t) (p : Addr) (v : Value) (hp : p.block ≠ b) : Blk (w.setCell p v) b cs t := by
  show (w.setCell p v).heap[b]? = _; rw [Below.heap_setCell _ _ _ _ (fun e => hp e.symm)]; exact h
theorem Blk.later {w w' : World} {b : Nat} {cs : Array Value} {t : TypeId} (h : Blk w b cs t) (k : Below w.heap.size w w') : Blk w' b cs t := by
  show w'.heap[b]? = _; rw [k.block b h.lt]; exact h
theorem Blk.laterB {B : Nat} {w w' : World} {b : Nat} {cs : Array Value} {t : TypeId} (h : Blk w b cs t) (k : Below B w w') (hb : b < B) : Blk w' b cs t := by
  show w'.heap[b]? = _; rw [k.block b hb]; exact h
theorem World.size_setCell' (w : World) (p : Addr) (v : Value) : (w.setCell p v).heap.size = w.heap.size := by simp [World.setCell]

/-- What append and make need to know of a slice type and its element type. -/
def Elem (t e : TypeId) (size bytes : Nat) (z : Value) : Prop :=
  Tryz.prog.underlying t = some (.slice e) ∧ ∃ i, Tryz.prog.info? e = some i ∧ i.zero = some z ∧ i.size = size ∧ i.bytes = bytes ∧ z.cells.size = size ∧ 0 < size
theorem Elem.mk {t e : TypeId} {size bytes : Nat} {z : Value} (h : Tryz.prog.underlying t = some (.slice e)) (k : (Tryz.prog.info? e).map (fun i => (i.zero, i.size, i.bytes)) = some (some z, size, bytes))
    (hz : z.cells.size = size) (h0 : 0 < size) : Elem t e size bytes z := by
  refine ⟨h, ?_⟩
  cases hi : Tryz.prog.info? e with
  | none => rw [hi] at k; simp at k
  | some i =>
    rw [hi] at k; simp at k
    exact ⟨i, rfl, k.1, k.2.1, k.2.2, hz, h0⟩

section
variable {ops : Array Oper} {rest : List Oper} {o : Oper} {a : Act} {Q : Exit → Act → World → Prop} {t e : TypeId} {size bytes : Nat} {z : Value}

/-- append(s, x...): s is the call's own (or nil), x can be read and is not nil. -/
theorem app {w : World} (E : Elem t e size bytes z) (hgd : o.guard = none) (s x : Operand) (ho : o.op = .call { callee := .builtin .append, args := #[s, x], argTypes := #[t, t] })
    (base : Nat) (v : Value) (n : Nat) (xs : List Value) (hs : a.eval s = v) (hown : w.ownsRow base e size v n xs)
    (ad : Addr) (m c : Nat) (news : List Value) (hx : a.eval x = .slice (some ad) m c) (hl : news.length = m * size) (hnews : ∀ j u, news[j]? = some u → w.cell? (ad.add j) = some u) (h1 : ∀ u ∈ news, u.oneCell' = true)
    (h63 : n + m ≤ maxLen) (hbytes : (n + m) * bytes ≤ 140737488355328) (hbase : base ≤ w.heap.size)
    (h : ∀ v' w', w'.ownsRow base e size v' (n + m) (xs ++ news) → w.grownBy w' v.ownBlock → (v' = .slice none 0 0 ↔ v = .slice none 0 0 ∧ m = 0) → wpList Tryz.prog ops Q rest (a.put o.dst v') w') :
    wpList Tryz.prog ops Q (o :: rest) a w := by
  obtain ⟨ht, i, hi, hz, hsz, hby, hzs, h0⟩ := E
  exact wpList_append_own w hgd s x t ho base e i z size bytes ht hi hz hsz hby hzs h0 v n xs hs hown ad m c news hx hl hnews h1 h63 hbytes hbase h

theorem grownBy_step {W w' : World} {ob : Obj} {row : Option Nat} (h : (W.alloc ob).grownBy w' row) : W.grownBy w' row :=
  ⟨h.os, h.tape, h.output, Nat.le_trans (by simp) h.size, fun k hk hn => by rw [h.block k (by simp; omega) hn, Below.heap_alloc _ _ _ hk]⟩

/-- append(s, x): one element, which has just been laid in a block of its own. -/
theorem app1 {W : World} {C : Array Value} (E : Elem t e size bytes z) (hgd : o.guard = none) (s x : Operand) (ho : o.op = .call { callee := .builtin .append, args := #[s, x], argTypes := #[t, t] })
    (base : Nat) (v : Value) (n : Nat) (xs : List Value) (hs : a.eval s = v) (hown : W.ownsRow base e size v n xs)
    (hx : a.eval x = .slice (some ⟨W.heap.size, 0, none⟩) 1 1) (hC : C.size = size) (h1 : ∀ u ∈ C.toList, u.oneCell' = true)
    (h63 : n + 1 ≤ maxLen) (hbytes : (n + 1) * bytes ≤ 140737488355328) (hbase : base ≤ W.heap.size)
    (h : ∀ v' w', w'.ownsRow base e size v' (n + 1) (xs ++ C.toList) → W.grownBy w' v.ownBlock → v' ≠ .slice none 0 0 → wpList Tryz.prog ops Q rest (a.put o.dst v') w') :
    wpList Tryz.prog ops Q (o :: rest) a (W.alloc (.cells C e)) := by
  refine app E hgd s x ho base v n xs hs (hown.alloc _) ⟨W.heap.size, 0, none⟩ 1 1 C.toList hx (by simpa using hC) ?_ h1 h63 hbytes (by simp; omega) ?_
  · intro j u hj
    have hlt : j < C.size := by
      rcases Nat.lt_or_ge j C.size with h' | h'
      · exact h'
      · rw [List.getElem?_eq_none (by simpa using h')] at hj; simp at hj
    have e1 : (⟨W.heap.size, 0, none⟩ : Addr).add j = ⟨W.heap.size, j, none⟩ := by
      unfold Addr.add; split
      · rename_i hj0; rw [hj0]
      · simp
    rw [e1, World.cell?_alloc_at _ _ _ _ rfl]
    simpa using hj
  · intro v' w' h2 h3 h4
    exact h v' w' h2 (grownBy_step h3) (fun hv => by have := h4.1 hv; omega)
end

/-- A slice of elements of k cells that the call owns. -/
def OwnL {α : Type} (enc : α → List Value) (e k : Nat) (w : World) (base : Nat) (v : Value) (l : List α) : Prop := w.ownsRow base e k v l.length (l.flatMap enc)
section
variable {α : Type} {enc : α → List Value} {e k : Nat} {w : World} {base : Nat} {l : List α}
theorem OwnL.nil (w : World) (base : Nat) : OwnL enc e k w base (.slice none 0 0) [] := World.ownsRow_nil _ _ _ _
theorem OwnL.shape {v : Value} (h : OwnL enc e k w base v l) : (v = .slice none 0 0 ∧ l = []) ∨ ∃ g cap, v = .slice (some ⟨g, 0, none⟩) l.length cap ∧ base ≤ g ∧ g < w.heap.size := by
  rcases h.2 with ⟨h1, h2⟩ | ⟨g, cap, cur, hv, hb, hh, _⟩
  · exact .inl ⟨h1, List.eq_nil_of_length_eq_zero h2⟩
  · exact .inr ⟨g, cap, hv, hb, lt_of_block hh⟩
theorem OwnL.kept {M : Nat → Prop} {w' : World} {v : Value} (h : OwnL enc e k w base v l) (hb : Kp M w w') (hm : ∀ g, v.ownBlock = some g → ¬ M g) : OwnL enc e k w' base v l := by
  refine ⟨h.1, ?_⟩
  rcases h.2 with h1 | ⟨g, cap, cur, hv, hg, hh, r⟩
  · exact .inl h1
  · exact .inr ⟨g, cap, cur, hv, hg, hb.heap hh (hm g (by rw [hv]; rfl)), r⟩
theorem OwnL.later {w' : World} {v : Value} (h : OwnL enc e k w base v l) (hb : Below w.heap.size w w') : OwnL enc e k w' base v l := h.kept (Kp.below (M := fun _ => False) hb) (fun _ _ x => x)
theorem OwnL.lower {B : Nat} {v : Value} (h : OwnL enc e k w base v l) (hB : B ≤ base) : OwnL enc e k w B v l := by
  refine ⟨h.1, ?_⟩
  rcases h.2 with h1 | ⟨g, cap, cur, hv, hg, r⟩
  · exact .inl h1
  · exact .inr ⟨g, cap, cur, hv, Nat.le_trans hB hg, r⟩
theorem OwnL.lt {g cap n : Nat} (h : OwnL enc e k w base (.slice (some ⟨g, 0, none⟩) n cap) l) : g < w.heap.size ∧ base ≤ g := by
  rcases h.shape with ⟨h1, _⟩ | ⟨g', cap', h1, h2, h3⟩
  · simp at h1
  · simp only [Value.slice.injEq, Option.some.injEq, Addr.mk.injEq, and_true] at h1
    rw [h1.1]; exact ⟨h3, h2⟩
theorem OwnL.cell {g cap : Nat} {n : Nat} (hn : n = l.length) (h : OwnL enc e k w base (.slice (some ⟨g, 0, none⟩) n cap) l) (hk : ∀ x, (enc x).length = k) (i j : Nat) (hi : i < l.length) (hj : j < k) :
    w.cell? ⟨g, i * k + j, none⟩ = (enc l[i])[j]? := by
  subst hn
  rw [← flat_get hk l i j hi hj]
  exact World.ownsRow.cellAt h _ (by have := Nat.mul_le_mul_right k (show i + 1 ≤ l.length from hi); rw [Nat.succ_mul] at this; omega)
theorem OwnL.fr {g cap : Nat} {n : Nat} (hn : n = l.length) (h : OwnL enc e k w base (.slice (some ⟨g, 0, none⟩) n cap) l) (j : Nat) : w.frozen? ⟨g, j, none⟩ = false := by subst hn; exact World.ownsRow.frozenAt h j
theorem OwnL.put1 {g cap : Nat} {n : Nat} (hn : n = l.length) (h : OwnL enc e 1 w base (.slice (some ⟨g, 0, none⟩) n cap) l) (hk : ∀ x, (enc x).length = 1) (i : Nat) (hi : i < l.length) (y : α) (c : Value) (hy : enc y = [c]) :
    OwnL enc e 1 (w.setCell ⟨g, i, none⟩ c) base (.slice (some ⟨g, 0, none⟩) n cap) (l.set i y) := by
  subst hn
  have := (World.ownsRow.stored h i c).1
  rw [flat_set1 hk l i y c hi hy] at this
  show World.ownsRow _ _ _ _ _ _ _
  simpa using this
theorem OwnL.put2 {g cap : Nat} {n : Nat} (hn : n = l.length) (h : OwnL enc e 2 w base (.slice (some ⟨g, 0, none⟩) n cap) l) (hk : ∀ x, (enc x).length = 2) (i : Nat) (hi : i < l.length) (y : α) (c d : Value) (hy : enc y = [c, d]) :
    OwnL enc e 2 ((w.setCell ⟨g, i * 2, none⟩ c).setCell ⟨g, i * 2 + 1, none⟩ d) base (.slice (some ⟨g, 0, none⟩) n cap) (l.set i y) := by
  subst hn
  have := (World.ownsRow.stored (World.ownsRow.stored h (i * 2) c).1 (i * 2 + 1) d).1
  rw [flat_set2 hk l i y c d hi hy] at this
  show World.ownsRow _ _ _ _ _ _ _
  simpa using this
theorem OwnL.put3 {g cap : Nat} {n : Nat} (hn : n = l.length) (h : OwnL enc e 3 w base (.slice (some ⟨g, 0, none⟩) n cap) l) (hk : ∀ x, (enc x).length = 3) (i : Nat) (hi : i < l.length) (y : α) (c d f : Value) (hy : enc y = [c, d, f]) :
    OwnL enc e 3 (((w.setCell ⟨g, i * 3, none⟩ c).setCell ⟨g, i * 3 + 1, none⟩ d).setCell ⟨g, i * 3 + 2, none⟩ f) base (.slice (some ⟨g, 0, none⟩) n cap) (l.set i y) := by
  subst hn
  have := (World.ownsRow.stored (World.ownsRow.stored (World.ownsRow.stored h (i * 3) c).1 (i * 3 + 1) d).1 (i * 3 + 2) f).1
  rw [flat_set3 hk l i y c d f hi hy] at this
  show World.ownsRow _ _ _ _ _ _ _
  simpa using this
end
section
variable {α : Type} {enc : α → List Value} {e k : Nat} {w : World} {base : Nat} {vs zs : List α} {c : α} {g cap n i : Nat}
theorem OwnL.mid (h : OwnL enc e k w base (.slice (some ⟨g, 0, none⟩) n cap) (vs ++ c :: zs)) (hi : i = vs.length) (hn : n = (vs ++ c :: zs).length) (hk : ∀ x, (enc x).length = k) (j : Nat) (hj : j < k) :
    w.cell? ⟨g, i * k + j, none⟩ = (enc c)[j]? := by
  subst hi
  rw [h.cell hn hk vs.length j (by simp) hj]; simp
theorem OwnL.left (h : OwnL enc e k w base (.slice (some ⟨g, 0, none⟩) n cap) (vs ++ c :: zs)) (hi : i < vs.length) (hn : n = (vs ++ c :: zs).length) (hk : ∀ x, (enc x).length = k) (j : Nat) (hj : j < k) :
    w.cell? ⟨g, i * k + j, none⟩ = (enc vs[i])[j]? := by
  rw [h.cell hn hk i j (by simp; omega) hj, List.getElem_append_left hi]
theorem OwnL.midput1 (h : OwnL enc e 1 w base (.slice (some ⟨g, 0, none⟩) n cap) (vs ++ c :: zs)) (hi : i = vs.length) (hn : n = (vs ++ c :: zs).length) (hk : ∀ x, (enc x).length = 1) (y : α) (c0 : Value) (hy : enc y = [c0]) :
    OwnL enc e 1 (w.setCell ⟨g, i, none⟩ c0) base (.slice (some ⟨g, 0, none⟩) n cap) (vs ++ y :: zs) := by
  subst hi
  have := h.put1 hn hk vs.length (by simp) y c0 hy
  rwa [List.set_append_right _ _ (Nat.le_refl _), Nat.sub_self] at this
theorem OwnL.midput2 (h : OwnL enc e 2 w base (.slice (some ⟨g, 0, none⟩) n cap) (vs ++ c :: zs)) (hi : i = vs.length) (hn : n = (vs ++ c :: zs).length) (hk : ∀ x, (enc x).length = 2) (y : α) (c0 c1 : Value) (hy : enc y = [c0, c1]) :
    OwnL enc e 2 ((w.setCell ⟨g, i * 2, none⟩ c0).setCell ⟨g, i * 2 + 1, none⟩ c1) base (.slice (some ⟨g, 0, none⟩) n cap) (vs ++ y :: zs) := by
  subst hi
  have := h.put2 hn hk vs.length (by simp) y c0 c1 hy
  rwa [List.set_append_right _ _ (Nat.le_refl _), Nat.sub_self] at this
theorem OwnL.midput3 (h : OwnL enc e 3 w base (.slice (some ⟨g, 0, none⟩) n cap) (vs ++ c :: zs)) (hi : i = vs.length) (hn : n = (vs ++ c :: zs).length) (hk : ∀ x, (enc x).length = 3) (y : α) (c0 c1 c2 : Value) (hy : enc y = [c0, c1, c2]) :
    OwnL enc e 3 (((w.setCell ⟨g, i * 3, none⟩ c0).setCell ⟨g, i * 3 + 1, none⟩ c1).setCell ⟨g, i * 3 + 2, none⟩ c2) base (.slice (some ⟨g, 0, none⟩) n cap) (vs ++ y :: zs) := by
  subst hi
  have := h.put3 hn hk vs.length (by simp) y c0 c1 c2 hy
  rwa [List.set_append_right _ _ (Nat.le_refl _), Nat.sub_self] at this
end
section
variable {ops : Array Oper} {rest : List Oper} {o : Oper} {a : Act} {Q : Exit → Act → World → Prop}
theorem madeCells_flat {α : Type} {enc : α → List Value} {k n : Nat} {z : Array Value} {y : α} (hk : z.size = k) (h0 : 0 < k) (hy : enc y = z.toList) :
    (madeCells z (n * k)).toList = (List.replicate n y).flatMap enc := by
  rw [flat_replicate, hy]
  have hl : ((List.replicate n z.toList).flatten).length = n * k := by simp [hk]
  apply List.ext_getElem?
  intro i
  by_cases hi : i < n * k
  · have e : i = (i / k) * k + i % k := by rw [Nat.mul_comm]; exact (Nat.div_add_mod i k).symm
    have hm : i % k < k := Nat.mod_lt _ h0
    have hd : i / k < n := by rw [Nat.div_lt_iff_lt_mul h0]; exact hi
    have h1 : (madeCells z (n * k)).toList[i]? = some z[i % k]! := by
      have hs : i < (madeCells z (n * k)).size := by rw [size_madeCells]; exact hi
      rw [Array.getElem?_toList, Array.getElem?_eq_getElem hs]
      simp [madeCells, hk]
    have h2 := flat_get (enc := fun x : List Value => x) (k := k) (l := List.replicate n z.toList)
    rw [h1]
    have hz : z[i % k]! = z[i % k] := getElem!_pos z (i % k) (by omega)
    rw [hz]
    have gen : ∀ (m q : Nat), q < m → ((List.replicate m z.toList).flatten)[q * k + i % k]? = z.toList[i % k]? := by
      intro m
      induction m with
      | zero => intro q hq; omega
      | succ m ih =>
        intro q hq
        rw [List.replicate_succ, List.flatten_cons]
        cases q with
        | zero => rw [List.getElem?_append_left (by simp [hk]; omega)]; simp
        | succ q =>
          have e2 : (q + 1) * k + i % k = z.toList.length + (q * k + i % k) := by rw [Array.length_toList, hk, Nat.succ_mul]; omega
          rw [e2, List.getElem?_append_right (by omega), Nat.add_sub_cancel_left, ih q (by omega)]
    have := gen n (i / k) hd
    rw [← e] at this
    rw [this, Array.getElem?_toList, Array.getElem?_eq_getElem (by omega)]
  · rw [List.getElem?_eq_none (by rw [Array.length_toList, size_madeCells]; omega), List.getElem?_eq_none (by omega)]
/-- make([]T, n). -/
theorem mk {w : World} {t e k bytes : Nat} {z : Value} (E : Elem t e k bytes z) (hg : o.guard = none) (l c : Operand) (hop : o.op = Op.makeSlice t l c) (base : Nat) (kl kc : IntKind) (L C : Int) (n : Nat)
    (hl : a.eval l = .int kl L) (hc : a.eval c = .int kc C) (hL : L = (n : Int)) (hC : C = (n : Int)) (b2 : bytes * n ≤ 281474976710656) (b3 : n ≤ maxLen) (b4 : base ≤ w.heap.size)
    {α : Type} (enc : α → List Value) (y : α) (hy : enc y = z.cells.toList)
    (h : ∀ w', OwnL enc e k w' base (.slice (some ⟨w.heap.size, 0, none⟩) n n) (List.replicate n y) → w.grownBy w' none → wpList Tryz.prog ops Q rest (a.put o.dst (.slice (some ⟨w.heap.size, 0, none⟩) n n)) w') :
    wpList Tryz.prog ops Q (o :: rest) a w := by
  obtain ⟨ht, i, hi, hzz, hsz, hby, hzs, h0⟩ := E
  refine wpList_make_full w hg l c t hop base e i z k ht hi hzz hsz kl kc L C n hl hc hL hC (by rw [hby]; exact b2) b3 b4 fun w' h1 h2 => h w' ?_ h2
  unfold OwnL; rw [← madeCells_flat (z := z.cells) (k := k) (n := n) hzs h0 hy]; simpa using h1
end
/-- A slice of integers that the call owns. -/
def OwnInts (w : World) (base : Nat) (v : Value) (xs : List Int) : Prop := w.ownsRow base 3 1 v xs.length (xs.map (Value.int .i64))
theorem elemInt : Elem 40 3 1 8 (.int .i64 0) := .mk Tryz.underlying40 (by kernel_rfl) rfl (by decide)
theorem OwnInts.nil (w : World) (base : Nat) : OwnInts w base (.slice none 0 0) [] := World.ownsRow_nil _ _ _ _
theorem OwnInts.cells {w : World} {base : Nat} {v : Value} {xs : List Int} (h : OwnInts w base v xs) :
    ∃ a cap, v = .slice a xs.length cap ∧ IntCells w a xs ∧ (∀ p, a = some p → base ≤ p.block ∧ p.off = 0 ∧ p.spot = none) := by
  rcases h.2 with ⟨h1, h2⟩ | ⟨g, cap, cur, hv, hb, hh, hn, hm, hs, ht⟩
  · refine ⟨none, 0, by rw [h1, h2], ?_, by simp⟩
    intro i hi; omega
  · refine ⟨some ⟨g, 0, none⟩, cap, hv, ?_, by simp; exact hb⟩
    intro i hi
    refine ⟨g, 0, rfl, ?_⟩
    subst hv
    have := World.ownsRow.cellAt h i (by omega)
    rw [Nat.zero_add, this]
    simp [List.getD_eq_getElem?_getD, hi]
theorem OwnInts.kept {M : Nat → Prop} {w w' : World} {base : Nat} {v : Value} {xs : List Int} (h : OwnInts w base v xs) (hb : Kp M w w') (hm : ∀ k, v.ownBlock = some k → ¬ M k) : OwnInts w' base v xs := by
  refine ⟨h.1, ?_⟩
  rcases h.2 with h1 | ⟨g, cap, cur, hv, hg, hh, r⟩
  · exact .inl h1
  · exact .inr ⟨g, cap, cur, hv, hg, hb.heap hh (hm g (by rw [hv]; rfl)), r⟩
section
variable {ops : Array Oper} {rest : List Oper} {o : Oper} {a : Act} {Q : Exit → Act → World → Prop}
/-- append(s, y) of integers, s the call's own. -/
theorem appInt {W : World} (hgd : o.guard = none) (s x : Operand) (ho : o.op = .call { callee := .builtin .append, args := #[s, x], argTypes := #[40, 40] })
    (base : Nat) (v : Value) (ys : List Int) (y : Int) (hs : a.eval s = v) (hown : OwnInts W base v ys) (hx : a.eval x = .slice (some ⟨W.heap.size, 0, none⟩) 1 1)
    (hl : ys.length ≤ 1073741824) (hbase : base ≤ W.heap.size)
    (h : ∀ v' w', OwnInts w' base v' (ys ++ [y]) → W.grownBy w' v.ownBlock → v' ≠ .slice none 0 0 → wpList Tryz.prog ops Q rest (a.put o.dst v') w') :
    wpList Tryz.prog ops Q (o :: rest) a (W.alloc (.cells #[.int .i64 y] 3)) :=
  app1 elemInt hgd s x ho base v ys.length (ys.map (Value.int .i64)) hs hown hx rfl (by simp [Value.oneCell']) (by unfold maxLen; omega) (by omega) hbase
    fun v' w' h2 h3 h4 => h v' w' (by unfold OwnInts; simpa using h2) h3 h4
end
end Go.Proofs.YtkaojolofaanfaaGreatDoor

/- Maps of the call's own, as functions from keys to values: strings and integers to integers and bools. -/
namespace Go.Proofs.YtkaojolofaanfaaGreatDoor
open Go.RowKit Cen
open Go.Maps (Keyed string_keyed int_keyed)
set_option maxHeartbeats 400000
set_option maxRecDepth 100000

/-- Block b is a map of at most n entries that reads as f. -/
def MapL (k e : TypeId) (w : World) (b n : Nat) (f : Lit → Option Lit) : Prop :=
  ∃ D : DataW Unit, w.ownsMap Tryz.prog k (plainElem Tryz.prog e) b n D ∧ (∀ x, Maps.has D x = (f x).isSome) ∧ ∀ x y, f x = some y → ∀ z, D.atKey x z = .lit y
section
variable {k e : TypeId} {w : World} {b n : Nat} {f : Lit → Option Lit}
theorem MapL.made (w : World) : MapL k e (w.alloc (.map #[] 0)) w.heap.size 0 (fun _ => none) :=
  ⟨.map [], World.ownsMap_made w _ _ _, fun _ => rfl, fun _ _ h => by simp at h⟩
theorem MapL.lt (h : MapL k e w b n f) : b < w.heap.size := let ⟨_, h1, _⟩ := h; h1.lt
theorem MapL.kept {M : Nat → Prop} {w' : World} (h : MapL k e w b n f) (hk : Kp M w w') (hm : ¬ M b) : MapL k e w' b n f := by
  obtain ⟨D, ⟨es, clock, h1, h2⟩, h3, h4⟩ := h
  exact ⟨D, ⟨es, clock, hk.heap h1 hm, h2⟩, h3, h4⟩
theorem MapL.later {w' : World} (h : MapL k e w b n f) (hb : Below w.heap.size w w') : MapL k e w' b n f := h.kept (Kp.below (M := fun _ => False) hb) id
theorem sameKey_refl {x : Lit} (h : WideAt.IsKeyLit x) : x.sameKey x = true := by cases x <;> simp [Lit.sameKey, WideAt.IsKeyLit] at *
theorem MapL.put {w' : World} (D : DataW Unit) (h : w.ownsMap Tryz.prog k (plainElem Tryz.prog e) b n D) (h3 : ∀ x, Maps.has D x = (f x).isSome) (h4 : ∀ x y, f x = some y → ∀ z, D.atKey x z = .lit y)
    {x y : Lit} (hx : WideAt.IsKeyLit x) (hw : w'.ownsMap Tryz.prog k (plainElem Tryz.prog e) b (n + 1) (D.put x (.lit y))) : MapL k e w' b (n + 1) (fun x' => if x'.sameKey x then some y else f x') := by
  refine ⟨_, hw, fun x' => ?_, fun x' y' hy z => ?_⟩
  · by_cases e : x' = x
    · subst e; simp [Maps.has_put_same h.isMap hx, sameKey_refl hx]
    · rw [Maps.has_put_other e, h3]; simp [Maps.sameKey_ne e]
  · by_cases e : x' = x
    · subst e; simp [sameKey_refl hx] at hy; subst hy; exact Maps.atKey_put_same h.isMap hx _ _
    · simp [Maps.sameKey_ne e] at hy; rw [Maps.atKey_put_other e]; exact h4 _ _ hy z
end
section
variable {ops : Array Oper} {rest : List Oper} {o : Oper} {a : Act} {Q : Exit → Act → World → Prop} {w : World} {b n : Nat} {f : Lit → Option Lit} {t k e : TypeId}
def intVal : Option Lit → Int | some (.int _ c) => c | _ => 0
def boolVal : Option Lit → Bool | some (.bool c) => c | _ => false

theorem look_okInt (hg : o.guard = none) (m x : Operand) (hop : o.op = Op.lookup t m x true) (K : Keyed Tryz.prog k) (ht : Tryz.prog.underlying t = some (.map k e)) (he : Tryz.prog.underlying e = some (.int .i64)) (hz : ∀ w, (zeroValue e).run Tryz.prog w = .ok (.int .i64 0) w)
    (hm : a.eval m = .map (some b)) (hown : MapL k e w b n f) (key : Value) (kl : Lit) (hx : a.eval x = key) (hkey : keyOf Tryz.prog k key = some kl)
    (hK : wpList Tryz.prog ops Q rest (a.put o.dst (.tuple #[.int .i64 (intVal (f kl)), .bool (f kl).isSome])) w) : wpList Tryz.prog ops Q (o :: rest) a w := by
  obtain ⟨D, h1, h3, h4⟩ := hown
  refine wpList_lookup_own_ok_int w hg m x t hop k e .i64 K ht he (hz w) b n D hm h1 key kl hx hkey fun c hc _ => ?_
  have e2 : c = intVal (f kl) := by
    cases hf : f kl with
    | none =>
      have := Maps.atKey_of_not_has (D := D) (k := kl) (by rw [h3, hf]; rfl) (.lit (.int .i64 0))
      rw [this] at hc; simp at hc; rw [← hc]; rfl
    | some y =>
      rw [h4 _ _ hf] at hc; simp at hc; rw [hc]; rfl
  rw [h3, e2]; exact hK

theorem store_lit (hg : o.guard = none) (m x v : Operand) (hop : o.op = Op.mapUpdate t m x v) (K : Keyed Tryz.prog k) (ht : Tryz.prog.underlying t = some (.map k e))
    (hm : a.eval m = .map (some b)) (hown : MapL k e w b n f) (hn : n ≤ 1073741824) (key val : Value) (kl y : Lit) (hx : a.eval x = key) (hv : a.eval v = val) (hkey : keyOf Tryz.prog k key = some kl) (hi : WideAt.IsKeyLit kl)
    (hval : plainElem (H := Unit) Tryz.prog e val = some (.lit y, []))
    (hK : ∀ w', MapL k e w' b (n + 1) (fun x' => if x'.sameKey kl then some y else f x') → w.grownBy w' (some b) → wpList Tryz.prog ops Q rest (a.put o.dst undef) w') : wpList Tryz.prog ops Q (o :: rest) a w := by
  obtain ⟨D, h1, h3, h4⟩ := hown
  exact wpList_mapUpdate_own w hg m x v t hop k e K ht _ b n D hm h1 (by unfold maxLen; omega) key val kl hx hv hkey (.lit y) [] hval
    fun w' h5 h6 => hK w' (MapL.put D h1 h3 h4 hi h5) h6
end
/-- 'm[k]' at bools, as a run of the operation. -/
theorem MapL.look_bool {k e t : TypeId} {w : World} {b n : Nat} {f : Lit → Option Lit} (h : MapL k e w b n f) (K : Keyed Tryz.prog k) (ht : Tryz.prog.underlying t = some (.map k e)) (he : Tryz.prog.underlying e = some .bool) (hz : ∀ w, (zeroValue e).run Tryz.prog w = .ok (.bool false) w)
    {key : Value} {kl : Lit} (hkey : keyOf Tryz.prog k key = some kl) : (Instr.lookup t (.map (some b)) key false).run Tryz.prog w = .ok (.bool (boolVal (f kl))) w := by
  obtain ⟨D, h1, h3, h4⟩ := h
  obtain ⟨v, ps, hrun, hv⟩ := h1.lookup K ht (hz w) (plainElem_bool he false) hkey
  rw [hrun]
  cases hf : f kl with
  | none =>
    rw [Maps.atKey_of_not_has (D := D) (k := kl) (by rw [h3, hf]; rfl)] at hv
    have : v = .bool false := by
      unfold plainElem at hv; rw [he] at hv
      cases v <;> simp at hv
      simp [hv]
    rw [this]; rfl
  | some y =>
    rw [h4 _ _ hf] at hv
    unfold plainElem at hv; rw [he] at hv
    cases v <;> simp at hv
    rename_i x
    rw [← hv.1]; rfl
end Go.Proofs.YtkaojolofaanfaaGreatDoor

/- Plain: the string by which nodes are told apart, and that it tells them apart. -/
namespace Cen
open Go
def itoaS (n : Int) : List UInt8 := Lib.itoa n ++ [32]
def keyL (x : Nd) : List UInt8 := itoaS x.kind ++ itoaS x.lit ++ x.ins.flatMap itoaS
theorem itoa_len (n : Int) (h0 : -65536 ≤ n) (h1 : n ≤ 65536) : (Lib.itoa n).length ≤ 20 := by
  have key : ∀ k : Nat, k < 10 ^ 7 → (Lib.decDigits k).length ≤ 8 := fun k hk => by
    rw [Lib.decDigits_length]
    have h2 : ∀ (f m : Nat), m < 10 ^ f → Lib.nDigits m ≤ f + 1 := by
      intro f
      induction f with
      | zero => intro m hm; rw [Lib.nDigits_small (by omega)]; omega
      | succ f ih =>
        intro m hm
        by_cases h10 : m < 10
        · rw [Lib.nDigits_small h10]; omega
        · rw [Lib.nDigits_big h10]
          have := ih (m / 10) (by rw [Nat.pow_succ] at hm; omega)
          omega
    exact h2 7 k hk
  unfold Lib.itoa
  split
  · simp; have := key n.natAbs (by omega); omega
  · have := key n.toNat (by omega); omega
theorem itoaS_len (n : Int) (h0 : -65536 ≤ n) (h1 : n ≤ 65536) : (itoaS n).length ≤ 21 := by have := itoa_len n h0 h1; simp [itoaS]; omega

/-! Digits. -/
def numOf : List UInt8 → Nat := List.foldl (fun a c => 10 * a + (c.toNat - 48)) 0
theorem numOf_snoc (l : List UInt8) (c : UInt8) : numOf (l ++ [c]) = 10 * numOf l + (c.toNat - 48) := by simp [numOf]
theorem digit_toNat {k : Nat} (h : k < 10) : (UInt8.ofNat (48 + k)).toNat = 48 + k := by
  simp [UInt8.toNat_ofNat']; omega
theorem decDigits_num (u : Nat) : numOf (Lib.decDigits u) = u := by
  induction u using Nat.strongRecOn with
  | _ u ih =>
    rw [Lib.decDigits]
    split
    · rename_i h; show 10 * 0 + ((UInt8.ofNat (48 + u)).toNat - 48) = u; rw [digit_toNat h]; omega
    · rename_i h
      rw [numOf_snoc, ih (u / 10) (by omega), digit_toNat (by omega)]
      omega
theorem decDigits_digit (u : Nat) : ∀ c ∈ Lib.decDigits u, 48 ≤ c.toNat ∧ c.toNat ≤ 57 := by
  induction u using Nat.strongRecOn with
  | _ u ih =>
    rw [Lib.decDigits]
    split
    · rename_i h; intro c hc; rw [List.mem_singleton.1 hc, digit_toNat h]; omega
    · rename_i h
      intro c hc
      rcases List.mem_append.1 hc with h1 | h1
      · exact ih (u / 10) (by omega) c h1
      · rw [List.mem_singleton.1 h1, digit_toNat (by omega)]; omega
theorem decDigits_inj {u v : Nat} (h : Lib.decDigits u = Lib.decDigits v) : u = v := by rw [← decDigits_num u, h, decDigits_num]
theorem decDigits_ne (u : Nat) : Lib.decDigits u ≠ [] := by
  rw [Lib.decDigits]; split <;> simp
theorem itoa_inj {m n : Int} (h : Lib.itoa m = Lib.itoa n) : m = n := by
  unfold Lib.itoa at h
  by_cases h1 : m < 0 <;> by_cases h2 : n < 0
  · rw [if_pos h1, if_pos h2] at h
    have := decDigits_inj (List.cons.inj h).2
    omega
  · rw [if_pos h1, if_neg h2] at h
    have := decDigits_digit n.toNat 45 (by rw [← h]; simp)
    exact absurd this.1 (by decide)
  · rw [if_neg h1, if_pos h2] at h
    have := decDigits_digit m.toNat 45 (by rw [h]; simp)
    exact absurd this.1 (by decide)
  · rw [if_neg h1, if_neg h2] at h
    have := decDigits_inj h
    omega
theorem itoa_no32 (n : Int) : (32 : UInt8) ∉ Lib.itoa n := by
  unfold Lib.itoa
  split
  · intro h
    rcases List.mem_cons.1 h with h1 | h1
    · exact absurd h1 (by decide)
    · have := (decDigits_digit _ _ h1).1; exact absurd this (by decide)
  · intro h
    have := (decDigits_digit _ _ h).1; exact absurd this (by decide)
/-- A list up to its first blank. -/
theorem cut32 {a b r s : List UInt8} (ha : (32 : UInt8) ∉ a) (hb : (32 : UInt8) ∉ b) (h : a ++ 32 :: r = b ++ 32 :: s) : a = b ∧ r = s := by
  induction a generalizing b with
  | nil =>
    cases b with
    | nil => simpa using h
    | cons y b => simp at h hb; exact absurd h.1 hb.1
  | cons x a ih =>
    cases b with
    | nil => simp at h ha; exact absurd h.1.symm ha.1
    | cons y b =>
      simp only [List.cons_append, List.cons.injEq] at h
      simp at ha hb
      obtain ⟨h1, h2⟩ := ih ha.2 hb.2 h.2
      exact ⟨by rw [h.1, h1], h2⟩
theorem itoaS_cut {m n : Int} {r s : List UInt8} (h : itoaS m ++ r = itoaS n ++ s) : m = n ∧ r = s := by
  unfold itoaS at h
  simp only [List.append_assoc, List.singleton_append] at h
  obtain ⟨h1, h2⟩ := cut32 (itoa_no32 m) (itoa_no32 n) h
  exact ⟨itoa_inj h1, h2⟩
theorem itoaS_ne (n : Int) : itoaS n ≠ [] := by unfold itoaS; simp
theorem flat_itoaS_inj {l m : List Int} (h : l.flatMap itoaS = m.flatMap itoaS) : l = m := by
  induction l generalizing m with
  | nil =>
    cases m with
    | nil => rfl
    | cons y m => simp only [List.flatMap_nil, List.flatMap_cons] at h; exact absurd (List.append_eq_nil_iff.1 h.symm).1 (itoaS_ne y)
  | cons x l ih =>
    cases m with
    | nil => simp only [List.flatMap_nil, List.flatMap_cons] at h; exact absurd (List.append_eq_nil_iff.1 h).1 (itoaS_ne x)
    | cons y m =>
      simp only [List.flatMap_cons] at h
      obtain ⟨h1, h2⟩ := itoaS_cut h
      rw [h1, ih h2]
theorem keyL_inj {x y : Nd} (h : keyL x = keyL y) : x = y := by
  unfold keyL at h
  simp only [List.append_assoc] at h
  obtain ⟨h1, h⟩ := itoaS_cut h
  obtain ⟨h2, h⟩ := itoaS_cut h
  have h3 := flat_itoaS_inj h
  cases x; cases y; simp_all
theorem flat_len (l : List Int) (h : ∀ x ∈ l, -65536 ≤ x ∧ x ≤ 65536) : (l.flatMap itoaS).length ≤ 21 * l.length := by
  induction l with
  | nil => simp
  | cons x l ih =>
    have h1 := itoaS_len x (h x (by simp)).1 (h x (by simp)).2
    have h2 := ih fun y hy => h y (by simp [hy])
    simp only [List.flatMap_cons, List.length_append, List.length_cons]; omega
end Cen
