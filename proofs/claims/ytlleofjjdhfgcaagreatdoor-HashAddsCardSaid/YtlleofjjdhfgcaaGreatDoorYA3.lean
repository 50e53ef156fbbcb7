/- Parts of the proofs of laws. Texts: Mem, Slices, KeyL, Shelf. -/
import Derived.Test.YtlleofjjdhfgcaaGreatDoorYA2
import Derived.Shelf.Small.Bits
import Derived.Shelf.Strings.BuilderK
import Derived.Shelf.Sort.Plain
import Derived.Shelf.Strconv.AppendIntPublic10
import Derived.Shelf.Slices.Equal
import Derived.Shelf.Slices.CompactI
set_option maxHeartbeats 8000000
set_option maxRecDepth 100000
set_option linter.all false
namespace Go.Proofs.YtlleofjjdhfgcaaGreatDoor
open Go.RowKit Cen
structure Kp (M : Nat -> Prop) (w w' : World) : Prop where
 os : w'.os = w.os
 tape : w'.tape = w.tape
 output : w'.output = w.output
 size : w.heap.size <= w'.heap.size
 block : ∀ k, k < w.heap.size -> ¬ M k -> w'.heap[k]? = w.heap[k]?
theorem Kp.refl (M : Nat -> Prop) (w : World) : Kp M w w := ⟨rfl, rfl, rfl, Nat.le_refl _, fun _ _ _ => rfl⟩
theorem Kp.trans {M : Nat -> Prop} {a b c : World} (h : Kp M a b) (k : Kp M b c) : Kp M a c :=
 ⟨k.os.trans h.os, k.tape.trans h.tape, k.output.trans h.output, Nat.le_trans h.size k.size, fun i hi hm => (k.block i (Nat.lt_of_lt_of_le hi h.size) hm).trans (h.block i hi hm)⟩
theorem Kp.mono {M M' : Nat -> Prop} {w w' : World} (h : Kp M w w') (hm : ∀ k, k < w.heap.size -> M k -> M' k) : Kp M' w w' :=
 ⟨h.os, h.tape, h.output, h.size, fun k hk hn => h.block k hk fun x => hn (hm k hk x)⟩
theorem Kp.below {M : Nat -> Prop} {w w' : World} (h : Below w.heap.size w w') : Kp M w w' := ⟨h.os, h.tape, h.output, h.size, fun k hk _ => h.block k hk⟩
theorem Kp.belowB {B : Nat} {M : Nat -> Prop} {w w' : World} (h : Below B w w') (hm : ∀ k, B <= k -> M k) : Kp M w w' :=
 ⟨h.os, h.tape, h.output, h.size, fun k _ hn => h.block k (Nat.lt_of_not_le fun x => hn (hm k x))⟩
theorem Kp.toBelow {B : Nat} {M : Nat -> Prop} {w w' : World} (h : Kp M w w') (hB : B <= w.heap.size) (hm : ∀ k, k < B -> ¬ M k) : Below B w w' :=
 ⟨h.os, h.tape, h.output, h.size, fun k hk => h.block k (Nat.lt_of_lt_of_le hk hB) (hm k hk)⟩
theorem Kp.grown {M : Nat -> Prop} {w w' : World} {row : Option Nat} (h : w.grownBy w' row) (hm : ∀ k, row = some k -> M k) : Kp M w w' :=
 ⟨h.os, h.tape, h.output, h.size, fun k hk hn => h.block k hk fun e => hn (hm k e.symm)⟩
theorem Kp.alloc (M : Nat -> Prop) (w : World) (o : Obj) : Kp M w (w.alloc o) := .below ((Below.refl _ _).alloc (Nat.le_refl _) o)
theorem Kp.setCell {M : Nat -> Prop} (w : World) (a : Addr) (u : Value) (h : M a.block) : Kp M w (w.setCell a u) :=
 ⟨rfl, rfl, rfl, by simp [World.setCell], fun k _ hk => Below.heap_setCell _ _ _ _ fun e => hk (e ▸ h)⟩
theorem Kp.drew (M : Nat -> Prop) (w : World) : Kp M w w.drew := .below (Below.refl _ _).drew
theorem Kp.cell {M : Nat -> Prop} {w w' : World} (h : Kp M w w') {p : Addr} {v : Value} (hc : w.cell? p = some v) (hm : ¬ M p.block) : w'.cell? p = some v := by
 rw [World.cell?_of_block (w := w) (h.block p.block (zai hc) hm)]; exact hc
theorem Kp.heap {M : Nat -> Prop} {w w' : World} (h : Kp M w w') {k : Nat} {o : Obj} (hc : w.heap[k]? = some o) (hm : ¬ M k) : w'.heap[k]? = some o := by
 rw [h.block k (lt_of_block hc) hm]; exact hc
theorem IntCells.kept {M : Nat -> Prop} {w w' : World} {a : Option Addr} {xs : List Int} (h : IntCells w a xs) (hb : Kp M w w') (hm : ∀ p, a = some p -> ¬ M p.block) : IntCells w' a xs :=
 fun i hi => let ⟨b, off, e, hc⟩ := h i hi; ⟨b, off, e, hb.cell hc (hm ⟨b, off, none⟩ e)⟩
def Blk (w : World) (b : Nat) (cs : Array Value) (t : TypeId) : Prop := w.heap[b]? = some (.cells cs t (0, 0))
theorem Blk.cell {w : World} {b : Nat} {cs : Array Value} {t : TypeId} (h : Blk w b cs t) (j : Nat) : w.cell? ⟨b, j, none⟩ = cs[j]? := by simp only [World.cell?]; rw [show w.heap[b]? = _ from h]; rfl
theorem Blk.fr {w : World} {b : Nat} {cs : Array Value} {t : TypeId} (h : Blk w b cs t) (j : Nat) : w.frozen? ⟨b, j, none⟩ = false := by simp only [World.frozen?]; rw [show w.heap[b]? = _ from h]; simp
theorem Blk.lt {w : World} {b : Nat} {cs : Array Value} {t : TypeId} (h : Blk w b cs t) : b < w.heap.size := lt_of_block h
theorem Blk.new (w : World) (cs : Array Value) (t : TypeId) : Blk (w.alloc (.cells cs t)) w.heap.size cs t := heap_alloc_new w _
theorem Blk.new' (w : World) {b : Nat} (h : w.heap.size = b) (cs : Array Value) (t : TypeId) : Blk (w.alloc (.cells cs t)) b cs t := h ▸ heap_alloc_new w _
theorem Blk.kept {M : Nat -> Prop} {w w' : World} {b : Nat} {cs : Array Value} {t : TypeId} (h : Blk w b cs t) (k : Kp M w w') (hm : ¬ M b) : Blk w' b cs t := k.heap h hm
theorem Blk.alloc {w : World} {b : Nat} {cs : Array Value} {t : TypeId} (h : Blk w b cs t) (o : Obj) : Blk (w.alloc o) b cs t := by
 show (w.alloc o).heap[b]? = _; rw [Below.heap_alloc _ _ _ h.lt]; exact h
theorem Blk.set {w : World} {b : Nat} {cs : Array Value} {t : TypeId} (h : Blk w b cs t) (j : Nat) (v : Value) : Blk (w.setCell ⟨b, j, none⟩ v) b (cs.setIfInBounds j v) t := heap_setCell_same w b j cs t v h
theorem Blk.other {w : World} {b : Nat} {cs : Array Value} {t : TypeId} (h : Blk w b cs t) (p : Addr) (v : Value) (hp : p.block ≠ b) : Blk (w.setCell p v) b cs t := by
 show (w.setCell p v).heap[b]? = _; rw [Below.heap_setCell _ _ _ _ (fun e => hp e.symm)]; exact h
theorem Blk.later {w w' : World} {b : Nat} {cs : Array Value} {t : TypeId} (h : Blk w b cs t) (k : Below w.heap.size w w') : Blk w' b cs t := by
 show w'.heap[b]? = _; rw [k.block b h.lt]; exact h
theorem Blk.laterB {B : Nat} {w w' : World} {b : Nat} {cs : Array Value} {t : TypeId} (h : Blk w b cs t) (k : Below B w w') (hb : b < B) : Blk w' b cs t := by
 show w'.heap[b]? = _; rw [k.block b hb]; exact h
theorem World.size_setCell' (w : World) (p : Addr) (v : Value) : (w.setCell p v).heap.size = w.heap.size := by simp [World.setCell]
def Elem (t e : TypeId) (size bytes : Nat) (z : Value) : Prop :=
 Tryz.prog.underlying t = some (.slice e) /\ ∃ i, Tryz.prog.info? e = some i /\ i.zero = some z /\ i.size = size /\ i.bytes = bytes /\ z.cells.size = size /\ 0 < size
theorem Elem.mk {t e : TypeId} {size bytes : Nat} {z : Value} (h : Tryz.prog.underlying t = some (.slice e)) (k : (Tryz.prog.info? e).map (fun i => (i.zero, i.size, i.bytes)) = some (some z, size, bytes))
 (hz : z.cells.size = size) (h0 : 0 < size) : Elem t e size bytes z := by
 refine ⟨h, ?_⟩
 cases hi : Tryz.prog.info? e with
 | none => rw [hi] at k; simp at k
 | some i =>
   rw [hi] at k; simp at k;exact ⟨i, rfl, k.1, k.2.1, k.2.2, hz, h0⟩
section
variable {ops : Array Oper} {rest : List Oper} {o : Oper} {a : Act} {Q : Exit -> Act -> World -> Prop} {t e : TypeId} {size bytes : Nat} {z : Value}
theorem app {w : World} (E : Elem t e size bytes z) (hgd : o.guard = none) (s x : Operand) (ho : o.op = .call { callee := .builtin .append, args := #[s, x], argTypes := #[t, t] })
 (base : Nat) (v : Value) (n : Nat) (xs : List Value) (hs : a.eval s = v) (hown : w.ownsRow base e size v n xs)
 (ad : Addr) (m c : Nat) (news : List Value) (hx : a.eval x = .slice (some ad) m c) (hl : news.length = m * size) (hnews : ∀ j u, news[j]? = some u -> w.cell? (ad.add j) = some u) (h1 : ∀ u ∈ news, u.oneCell' = true)
 (h63 : n + m <= maxLen) (hbytes : (n + m) * bytes <= 140737488355328) (hbase : base <= w.heap.size)
 (h : ∀ v' w', w'.ownsRow base e size v' (n + m) (xs ++ news) -> w.grownBy w' v.ownBlock -> (v' = .slice none 0 0 ↔ v = .slice none 0 0 /\ m = 0) -> wpList Tryz.prog ops Q rest (a.put o.dst v') w') :
 wpList Tryz.prog ops Q (o :: rest) a w := by
 obtain ⟨ht, i, hi, hz, hsz, hby, hzs, h0⟩ := E;exact wpList_append_own w hgd s x t ho base e i z size bytes ht hi hz hsz hby hzs h0 v n xs hs hown ad m c news hx hl hnews h1 h63 hbytes hbase h
theorem zb6 {W w' : World} {ob : Obj} {row : Option Nat} (h : (W.alloc ob).grownBy w' row) : W.grownBy w' row :=
 ⟨h.os, h.tape, h.output, Nat.le_trans (by simp) h.size, fun k hk hn => by rw [h.block k (by simp; omega) hn, Below.heap_alloc _ _ _ hk]⟩
theorem app1 {W : World} {C : Array Value} (E : Elem t e size bytes z) (hgd : o.guard = none) (s x : Operand) (ho : o.op = .call { callee := .builtin .append, args := #[s, x], argTypes := #[t, t] })
 (base : Nat) (v : Value) (n : Nat) (xs : List Value) (hs : a.eval s = v) (hown : W.ownsRow base e size v n xs)
 (hx : a.eval x = .slice (some ⟨W.heap.size, 0, none⟩) 1 1) (hC : C.size = size) (h1 : ∀ u ∈ C.toList, u.oneCell' = true)
 (h63 : n + 1 <= maxLen) (hbytes : (n + 1) * bytes <= 140737488355328) (hbase : base <= W.heap.size)
 (h : ∀ v' w', w'.ownsRow base e size v' (n + 1) (xs ++ C.toList) -> W.grownBy w' v.ownBlock -> v' ≠ .slice none 0 0 -> wpList Tryz.prog ops Q rest (a.put o.dst v') w') :
 wpList Tryz.prog ops Q (o :: rest) a (W.alloc (.cells C e)) := by
 refine app E hgd s x ho base v n xs hs (hown.alloc _) ⟨W.heap.size, 0, none⟩ 1 1 C.toList hx (by simpa using hC) ?_ h1 h63 hbytes (by simp; omega) ?_
 ·intro j u hj
  have hlt : j < C.size := by
   rcases Nat.lt_or_ge j C.size with h' | h'
   ·exact h'
   rw [List.getElem?_eq_none (by simpa using h')] at hj; simp at hj
  have e1 : (⟨W.heap.size, 0, none⟩ : Addr).add j = ⟨W.heap.size, j, none⟩ := by
   unfold Addr.add; split
   ·rename_i hj0; rw [hj0]
   simp
  rw [e1, World.cell?_alloc_at _ _ _ _ rfl]
  simpa using hj
 intro v' w' h2 h3 h4;exact h v' w' h2 (zb6 h3) (fun hv => by have := h4.1 hv; omega)
end
def OwnL {α : Type} (enc : α -> List Value) (e k : Nat) (w : World) (base : Nat) (v : Value) (l : List α) : Prop := w.ownsRow base e k v l.length (l.flatMap enc)
section
variable {α : Type} {enc : α -> List Value} {e k : Nat} {w : World} {base : Nat} {l : List α}
theorem OwnL.nil (w : World) (base : Nat) : OwnL enc e k w base (.slice none 0 0) [] := World.ownsRow_nil _ _ _ _
theorem OwnL.shape {v : Value} (h : OwnL enc e k w base v l) : (v = .slice none 0 0 /\ l = []) \/ ∃ g cap, v = .slice (some ⟨g, 0, none⟩) l.length cap /\ base <= g /\ g < w.heap.size := by
 rcases h.2 with ⟨h1, h2⟩ | ⟨g, cap, cur, hv, hb, hh, _⟩
 ·exact .inl ⟨h1, List.eq_nil_of_length_eq_zero h2⟩
 exact .inr ⟨g, cap, hv, hb, lt_of_block hh⟩
theorem OwnL.kept {M : Nat -> Prop} {w' : World} {v : Value} (h : OwnL enc e k w base v l) (hb : Kp M w w') (hm : ∀ g, v.ownBlock = some g -> ¬ M g) : OwnL enc e k w' base v l := by
 refine ⟨h.1, ?_⟩
 rcases h.2 with h1 | ⟨g, cap, cur, hv, hg, hh, r⟩
 ·exact .inl h1
 exact .inr ⟨g, cap, cur, hv, hg, hb.heap hh (hm g (by rw [hv]; rfl)), r⟩
theorem OwnL.later {w' : World} {v : Value} (h : OwnL enc e k w base v l) (hb : Below w.heap.size w w') : OwnL enc e k w' base v l := h.kept (Kp.below (M := fun _ => False) hb) (fun _ _ x => x)
theorem OwnL.lower {B : Nat} {v : Value} (h : OwnL enc e k w base v l) (hB : B <= base) : OwnL enc e k w B v l := by
 refine ⟨h.1, ?_⟩
 rcases h.2 with h1 | ⟨g, cap, cur, hv, hg, r⟩
 ·exact .inl h1
 exact .inr ⟨g, cap, cur, hv, Nat.le_trans hB hg, r⟩
theorem OwnL.lt {g cap n : Nat} (h : OwnL enc e k w base (.slice (some ⟨g, 0, none⟩) n cap) l) : g < w.heap.size /\ base <= g := by
 rcases h.shape with ⟨h1, _⟩ | ⟨g', cap', h1, h2, h3⟩
 ·simp at h1
 simp only [Value.slice.injEq, Option.some.injEq, Addr.mk.injEq, and_true] at h1;rw [h1.1]; exact ⟨h3, h2⟩
theorem OwnL.cell {g cap : Nat} {n : Nat} (hn : n = l.length) (h : OwnL enc e k w base (.slice (some ⟨g, 0, none⟩) n cap) l) (hk : ∀ x, (enc x).length = k) (i j : Nat) (hi : i < l.length) (hj : j < k) :
 w.cell? ⟨g, i * k + j, none⟩ = (enc l[i])[j]? := by
 subst hn;rw [<- zmc hk l i j hi hj];exact World.ownsRow.cellAt h _ (by have := Nat.mul_le_mul_right k (show i + 1 <= l.length from hi); rw [Nat.succ_mul] at this; omega)
theorem OwnL.fr {g cap : Nat} {n : Nat} (hn : n = l.length) (h : OwnL enc e k w base (.slice (some ⟨g, 0, none⟩) n cap) l) (j : Nat) : w.frozen? ⟨g, j, none⟩ = false := by subst hn; exact World.ownsRow.frozenAt h j
theorem OwnL.put1 {g cap : Nat} {n : Nat} (hn : n = l.length) (h : OwnL enc e 1 w base (.slice (some ⟨g, 0, none⟩) n cap) l) (hk : ∀ x, (enc x).length = 1) (i : Nat) (hi : i < l.length) (y : α) (c : Value) (hy : enc y = [c]) :
 OwnL enc e 1 (w.setCell ⟨g, i, none⟩ c) base (.slice (some ⟨g, 0, none⟩) n cap) (l.set i y) := by
 subst hn;have := (World.ownsRow.stored h i c).1;rw [zur hk l i y c hi hy] at this
 show World.ownsRow _ _ _ _ _ _ _
 simpa using this
theorem OwnL.put2 {g cap : Nat} {n : Nat} (hn : n = l.length) (h : OwnL enc e 2 w base (.slice (some ⟨g, 0, none⟩) n cap) l) (hk : ∀ x, (enc x).length = 2) (i : Nat) (hi : i < l.length) (y : α) (c d : Value) (hy : enc y = [c, d]) :
 OwnL enc e 2 ((w.setCell ⟨g, i * 2, none⟩ c).setCell ⟨g, i * 2 + 1, none⟩ d) base (.slice (some ⟨g, 0, none⟩) n cap) (l.set i y) := by
 subst hn;have := (World.ownsRow.stored (World.ownsRow.stored h (i * 2) c).1 (i * 2 + 1) d).1;rw [zus hk l i y c d hi hy] at this
 show World.ownsRow _ _ _ _ _ _ _
 simpa using this
theorem OwnL.put3 {g cap : Nat} {n : Nat} (hn : n = l.length) (h : OwnL enc e 3 w base (.slice (some ⟨g, 0, none⟩) n cap) l) (hk : ∀ x, (enc x).length = 3) (i : Nat) (hi : i < l.length) (y : α) (c d f : Value) (hy : enc y = [c, d, f]) :
 OwnL enc e 3 (((w.setCell ⟨g, i * 3, none⟩ c).setCell ⟨g, i * 3 + 1, none⟩ d).setCell ⟨g, i * 3 + 2, none⟩ f) base (.slice (some ⟨g, 0, none⟩) n cap) (l.set i y) := by
 subst hn;have := (World.ownsRow.stored (World.ownsRow.stored (World.ownsRow.stored h (i * 3) c).1 (i * 3 + 1) d).1 (i * 3 + 2) f).1;rw [zut hk l i y c d f hi hy] at this
 show World.ownsRow _ _ _ _ _ _ _
 simpa using this
end
section
variable {α : Type} {enc : α -> List Value} {e k : Nat} {w : World} {base : Nat} {vs zs : List α} {c : α} {g cap n i : Nat}
theorem OwnL.mid (h : OwnL enc e k w base (.slice (some ⟨g, 0, none⟩) n cap) (vs ++ c :: zs)) (hi : i = vs.length) (hn : n = (vs ++ c :: zs).length) (hk : ∀ x, (enc x).length = k) (j : Nat) (hj : j < k) :
 w.cell? ⟨g, i * k + j, none⟩ = (enc c)[j]? := by
 subst hi;rw [h.cell hn hk vs.length j (by simp) hj]; simp
theorem OwnL.left (h : OwnL enc e k w base (.slice (some ⟨g, 0, none⟩) n cap) (vs ++ c :: zs)) (hi : i < vs.length) (hn : n = (vs ++ c :: zs).length) (hk : ∀ x, (enc x).length = k) (j : Nat) (hj : j < k) :
 w.cell? ⟨g, i * k + j, none⟩ = (enc vs[i])[j]? := by
 rw [h.cell hn hk i j (by simp; omega) hj, List.getElem_append_left hi]
theorem OwnL.midput2 (h : OwnL enc e 2 w base (.slice (some ⟨g, 0, none⟩) n cap) (vs ++ c :: zs)) (hi : i = vs.length) (hn : n = (vs ++ c :: zs).length) (hk : ∀ x, (enc x).length = 2) (y : α) (c0 c1 : Value) (hy : enc y = [c0, c1]) :
 OwnL enc e 2 ((w.setCell ⟨g, i * 2, none⟩ c0).setCell ⟨g, i * 2 + 1, none⟩ c1) base (.slice (some ⟨g, 0, none⟩) n cap) (vs ++ y :: zs) := by
 subst hi;have := h.put2 hn hk vs.length (by simp) y c0 c1 hy
 rwa [List.set_append_right _ _ (Nat.le_refl _), Nat.sub_self] at this
theorem OwnL.midput3 (h : OwnL enc e 3 w base (.slice (some ⟨g, 0, none⟩) n cap) (vs ++ c :: zs)) (hi : i = vs.length) (hn : n = (vs ++ c :: zs).length) (hk : ∀ x, (enc x).length = 3) (y : α) (c0 c1 c2 : Value) (hy : enc y = [c0, c1, c2]) :
 OwnL enc e 3 (((w.setCell ⟨g, i * 3, none⟩ c0).setCell ⟨g, i * 3 + 1, none⟩ c1).setCell ⟨g, i * 3 + 2, none⟩ c2) base (.slice (some ⟨g, 0, none⟩) n cap) (vs ++ y :: zs) := by
 subst hi;have := h.put3 hn hk vs.length (by simp) y c0 c1 c2 hy
 rwa [List.set_append_right _ _ (Nat.le_refl _), Nat.sub_self] at this
end
section
variable {ops : Array Oper} {rest : List Oper} {o : Oper} {a : Act} {Q : Exit -> Act -> World -> Prop}
theorem zkk {α : Type} {enc : α -> List Value} {k n : Nat} {z : Array Value} {y : α} (hk : z.size = k) (h0 : 0 < k) (hy : enc y = z.toList) :
 (madeCells z (n * k)).toList = (List.replicate n y).flatMap enc := by
 rw [zkf, hy]
 have hl : ((List.replicate n z.toList).flatten).length = n * k := by simp [hk]
 apply List.ext_getElem?
 intro i
 by_cases hi : i < n * k
 ·have e : i = (i / k) * k + i % k := by rw [Nat.mul_comm]; exact (Nat.div_add_mod i k).symm
  have hm : i % k < k := Nat.mod_lt _ h0
  have hd : i / k < n := by rw [Nat.div_lt_iff_lt_mul h0]; exact hi
  have h1 : (madeCells z (n * k)).toList[i]? = some z[i % k]! := by
   have hs : i < (madeCells z (n * k)).size := by rw [size_madeCells]; exact hi
   rw [Array.getElem?_toList, Array.getElem?_eq_getElem hs]
   simp [madeCells, hk]
  have h2 := zmc (enc := fun x : List Value => x) (k := k) (l := List.replicate n z.toList);rw [h1];have hz : z[i % k]! = z[i % k] := getElem!_pos z (i % k) (by omega);rw [hz]
  have gen : ∀ (m q : Nat), q < m -> ((List.replicate m z.toList).flatten)[q * k + i % k]? = z.toList[i % k]? := by
   intro m
   induction m with
   | zero => intro q hq; omega
   | succ m ih =>
     intro q hq;rw [List.replicate_succ, List.flatten_cons]
     cases q with
     | zero => rw [List.getElem?_append_left (by simp [hk]; omega)]; simp
     | succ q =>
       have e2 : (q + 1) * k + i % k = z.toList.length + (q * k + i % k) := by rw [Array.length_toList, hk, Nat.succ_mul]; omega
       rw [e2, List.getElem?_append_right (by omega), Nat.add_sub_cancel_left, ih q (by omega)]
  have := gen n (i / k) hd;rw [<- e] at this;rw [this, Array.getElem?_toList, Array.getElem?_eq_getElem (by omega)]
 rw [List.getElem?_eq_none (by rw [Array.length_toList, size_madeCells]; omega), List.getElem?_eq_none (by omega)]
theorem mk {w : World} {t e k bytes : Nat} {z : Value} (E : Elem t e k bytes z) (hg : o.guard = none) (l c : Operand) (hop : o.op = Op.makeSlice t l c) (base : Nat) (kl kc : IntKind) (L C : Int) (n : Nat)
 (hl : a.eval l = .int kl L) (hc : a.eval c = .int kc C) (hL : L = (n : Int)) (hC : C = (n : Int)) (b2 : bytes * n <= 281474976710656) (b3 : n <= maxLen) (b4 : base <= w.heap.size)
 {α : Type} (enc : α -> List Value) (y : α) (hy : enc y = z.cells.toList)
 (h : ∀ w', OwnL enc e k w' base (.slice (some ⟨w.heap.size, 0, none⟩) n n) (List.replicate n y) -> w.grownBy w' none -> wpList Tryz.prog ops Q rest (a.put o.dst (.slice (some ⟨w.heap.size, 0, none⟩) n n)) w') :
 wpList Tryz.prog ops Q (o :: rest) a w := by
 obtain ⟨ht, i, hi, hzz, hsz, hby, hzs, h0⟩ := E
 refine wpList_make_full w hg l c t hop base e i z k ht hi hzz hsz kl kc L C n hl hc hL hC (by rw [hby]; exact b2) b3 b4 fun w' h1 h2 => h w' ?_ h2
 unfold OwnL; rw [<- zkk (z := z.cells) (k := k) (n := n) hzs h0 hy]; simpa using h1
end
def OwnInts (w : World) (base : Nat) (v : Value) (xs : List Int) : Prop := w.ownsRow base 3 1 v xs.length (xs.map (Value.int .i64))
theorem ziz : Elem 67 3 1 8 (.int .i64 0) := .mk Tryz.underlying67 (by kernel_rfl) rfl (by decide)
theorem OwnInts.nil (w : World) (base : Nat) : OwnInts w base (.slice none 0 0) [] := World.ownsRow_nil _ _ _ _
theorem OwnInts.cells {w : World} {base : Nat} {v : Value} {xs : List Int} (h : OwnInts w base v xs) :
 ∃ a cap, v = .slice a xs.length cap /\ IntCells w a xs /\ (∀ p, a = some p -> base <= p.block /\ p.off = 0 /\ p.spot = none) := by
 rcases h.2 with ⟨h1, h2⟩ | ⟨g, cap, cur, hv, hb, hh, hn, hm, hs, ht⟩
 ·refine ⟨none, 0, by rw [h1, h2], ?_, by simp⟩;intro i hi; omega
 refine ⟨some ⟨g, 0, none⟩, cap, hv, ?_, by simp; exact hb⟩;intro i hi;refine ⟨g, 0, rfl, ?_⟩;subst hv;have := World.ownsRow.cellAt h i (by omega);rw [Nat.zero_add, this]
 simp [List.getD_eq_getElem?_getD, hi]
section
variable {ops : Array Oper} {rest : List Oper} {o : Oper} {a : Act} {Q : Exit -> Act -> World -> Prop}
end
theorem zu0 (a : Option Addr) (cap : Nat) (xs : List Int) (x : Int) (w : World) (hl : xs.length <= 1073741824) (hx : IntCells w a xs) :
 Calls Tryz.prog 165 #[.slice a xs.length cap, .int .i64 x] w fun e w' => e = .returned (.int .i64 (idx (fun y => x == y) xs)) /\ w = w' := by
 have HX := lh hx;clear hx;go_enter Tryz.func165, Tryz.ntmps165;go_wp2
 go_loop [5, 8] (fun v i => ∃ k : Nat, k <= xs.length /\ i = .int .i64 k /\ (∀ j, j < k -> (x == xs.getD j 0) = false)) (fun _ i => xs.length - (intOf i).toNat)
 case atStart => exact ⟨0, Nat.zero_le _, rfl, fun j h => absurd h (Nat.not_lt_zero _)⟩
 obtain ⟨k, hk, rfl, hno⟩ := hrel;have HN := lh hno;clear hno
 by_cases hlt : k < xs.length
 ·obtain ⟨b, off, rfl, hc⟩ := HX.o k hlt
  cases hpk : (x == xs[k])
  ·go_wp2;go_round
   case rel => exact ⟨k + 1, by omega, by go_num, fun j hj => by
    by_cases e : j = k
    ·subst e; simpa [List.getD_eq_getElem?_getD, hlt] using hpk
    exact HN.o j (by omega)⟩
   case measure => simp [intOf]; omega
  have HK := lh hpk;go_wp2;go_ret;exact ⟨zbu (zpt _ xs k hlt HN.o HK.o).symm, rfl⟩
 have : k = xs.length := by omega
 subst this;go_wp2;go_ret;exact ⟨zbu (zmi _ xs HN.o).symm, rfl⟩
def has (xs : List Int) (x : Int) : Bool := xs.any fun y => x == y
theorem ya8 {xs : List Int} {x : Int} : has xs x = true ↔ x ∈ xs := by simp [has]
theorem znq (a : Option Addr) (cap : Nat) (xs : List Int) (x : Int) (w : World) (hl : xs.length <= 1073741824) (hx : IntCells w a xs) :
 Calls Tryz.prog 143 #[.slice a xs.length cap, .int .i64 x] w fun e w' => e = .returned (.bool (has xs x)) /\ w = w' := by
 have HX := lh hx;clear hx;go_enter Tryz.func143, Tryz.ntmps143;go_wp2_with (go_at_call 165; refine (zu0 _ _ _ _ _ hl HX.o).mono ?_; rintro e w' ⟨rfl, rfl⟩);go_ret;exact ⟨zbg (zps _ xs), rfl⟩
theorem zir {w : World} {ad : Addr} {xs : List Int} (h : IntCells w (some ad) xs) :
 ∀ j u, (xs.map (Value.int .i64))[j]? = some u -> w.cell? (ad.add j) = some u := by
 intro j u hj
 have hlt : j < xs.length := by
  rcases Nat.lt_or_ge j xs.length with h' | h'
  ·exact h'
  rw [List.getElem?_eq_none (by simpa using h')] at hj; simp at hj
 obtain ⟨b, off, e, hc⟩ := h j hlt;simp only [Option.some.injEq] at e;subst e
 have e1 : (⟨b, off, none⟩ : Addr).add j = ⟨b, off + j, none⟩ := by
  unfold Addr.add; split
  ·rename_i hj0; rw [hj0]; rfl
  simp
 rw [e1, hc]
 simp [hlt] at hj
 simp [List.getD_eq_getElem?_getD, hlt, hj]
theorem zvo (xs : List Int) : ∀ u ∈ xs.map (Value.int .i64), u.oneCell' = true := by
 intro u hu; simp at hu; obtain ⟨x, _, rfl⟩ := hu; rfl
theorem zaz (a : Option Addr) (cap : Nat) (xs : List Int) (w : World) (hl : xs.length <= 1073741824) (hx : IntCells w a xs) :
 Calls Tryz.prog 106 #[.slice a xs.length cap] w fun e w' => ∃ v, e = .returned v /\ OwnInts w' w.heap.size v xs /\ Below w.heap.size w w' := by
 have hsl := fun (w : World) (a : Option Addr) (l c n1 c1 : Nat) => Lib.run_eql_slice_nil w 67 3 a l c n1 c1 Tryz.underlying67
 have HX := lh hx;clear hx
 cases a with
 | none =>
   have hz : xs = [] := by
    cases xs with
    | nil => rfl
    | cons x xs => obtain ⟨b, off, e, _⟩ := HX.o 0 (by simp); simp at e
   subst hz;go_enter Tryz.func106, Tryz.ntmps106;go_wp2;go_ret;exact ⟨_, rfl, OwnInts.nil _ _, Below.refl _ _⟩
 | some ad =>
   have H0 : Hid ((w.alloc (.cells #[] 3)).ownsRow w.heap.size 3 1 (.slice (some ⟨w.heap.size, 0, none⟩) 0 0) 0 []) := World.ownsRow_lit w #[] 0 (Nat.le_refl _) (by unfold maxLen; omega) rfl;have HC := lh (zir (HX.o.keep ((Below.refl _ _).alloc (Nat.le_refl _) (.cells #[] 3))))
   have hb2 : (0 + xs.length) * 8 <= 140737488355328 := by omega
   have hb1 : 0 + xs.length <= maxLen := by unfold maxLen; omega
   have H1 := lh hb1;have H2 := lh hb2;clear hb1 hb2;go_enter Tryz.func106, Tryz.ntmps106;go_wp2_with (at_builtin; refine app ziz rfl _ _ rfl w.heap.size _ _ _ rfl H0.o ad xs.length cap (xs.map (Value.int .i64)) rfl (by simp) HC.o (zvo xs) H1.o H2.o (by simp) ?_);intro v' w1 hown hgrow _;have HO := lh hown;have HG := lh hgrow;clear hown hgrow;go_wp2;go_ret;exact ⟨_, rfl, HO.o, (ba _ _).grown HG.o (by simp) (by simp [Value.ownBlock])⟩
end Go.Proofs.YtlleofjjdhfgcaaGreatDoor
namespace Cen
open Go
def zdl (n : Int) : List UInt8 := Lib.itoa n ++ [32]
theorem zra (n : Int) (h0 : -65536 <= n) (h1 : n <= 65536) : (Lib.itoa n).length <= 20 := by
 have key : ∀ k : Nat, k < 10 ^ 7 -> (Lib.decDigits k).length <= 8 := fun k hk => by
  rw [Lib.decDigits_length]
  have h2 : ∀ (f m : Nat), m < 10 ^ f -> Lib.nDigits m <= f + 1 := by
   intro f
   induction f with
   | zero => intro m hm; rw [Lib.nDigits_small (by omega)]; omega
   | succ f ih =>
     intro m hm
     by_cases h10 : m < 10
     ·rw [Lib.nDigits_small h10]; omega
     rw [Lib.nDigits_big h10];have := ih (m / 10) (by rw [Nat.pow_succ] at hm; omega);omega
  exact h2 7 k hk
 unfold Lib.itoa
 split
 ·simp; have := key n.natAbs (by omega); omega
 have := key n.toNat (by omega); omega
theorem zu5 (n : Int) (h0 : -65536 <= n) (h1 : n <= 65536) : (zdl n).length <= 21 := by have := zra n h0 h1; simp [zdl]; omega
def zx4 : List UInt8 -> Nat := List.foldl (fun a c => 10 * a + (c.toNat - 48)) 0
theorem zsw (l : List UInt8) (c : UInt8) : zx4 (l ++ [c]) = 10 * zx4 l + (c.toNat - 48) := by simp [zx4]
theorem zdf {k : Nat} (h : k < 10) : (UInt8.ofNat (48 + k)).toNat = 48 + k := by
 simp [UInt8.toNat_ofNat']; omega
theorem zf5 (u : Nat) : zx4 (Lib.decDigits u) = u := by
 induction u using Nat.strongRecOn with
 | _ u ih =>
   rw [Lib.decDigits]
   split
   ·rename_i h; show 10 * 0 + ((UInt8.ofNat (48 + u)).toNat - 48) = u; rw [zdf h]; omega
   rename_i h
   rw [zsw, ih (u / 10) (by omega), zdf (by omega)];omega
theorem zca (u : Nat) : ∀ c ∈ Lib.decDigits u, 48 <= c.toNat /\ c.toNat <= 57 := by
 induction u using Nat.strongRecOn with
 | _ u ih =>
   rw [Lib.decDigits]
   split
   ·rename_i h; intro c hc; rw [List.mem_singleton.1 hc, zdf h]; omega
   rename_i h
   intro c hc
   rcases List.mem_append.1 hc with h1 | h1
   ·exact ih (u / 10) (by omega) c h1
   rw [List.mem_singleton.1 h1, zdf (by omega)]; omega
theorem zf4 {u v : Nat} (h : Lib.decDigits u = Lib.decDigits v) : u = v := by rw [<- zf5 u, h, zf5]
theorem zhm (u : Nat) : Lib.decDigits u ≠ [] := by
 rw [Lib.decDigits]; split <;> simp
theorem zxn {m n : Int} (h : Lib.itoa m = Lib.itoa n) : m = n := by
 unfold Lib.itoa at h
 by_cases h1 : m < 0 <;> by_cases h2 : n < 0
 ·rw [if_pos h1, if_pos h2] at h;have := zf4 (List.cons.inj h).2;omega
 ·rw [if_pos h1, if_neg h2] at h;have := zca n.toNat 45 (by rw [<- h]; simp);exact absurd this.1 (by decide)
 ·rw [if_neg h1, if_pos h2] at h;have := zca m.toNat 45 (by rw [h]; simp);exact absurd this.1 (by decide)
 rw [if_neg h1, if_neg h2] at h;have := zf4 h;omega
theorem zn1 (n : Int) : (32 : UInt8) ∉ Lib.itoa n := by
 unfold Lib.itoa
 split
 ·intro h
  rcases List.mem_cons.1 h with h1 | h1
  ·exact absurd h1 (by decide)
  have := (zca _ _ h1).1; exact absurd this (by decide)
 intro h;have := (zca _ _ h).1; exact absurd this (by decide)
theorem cut32 {a b r s : List UInt8} (ha : (32 : UInt8) ∉ a) (hb : (32 : UInt8) ∉ b) (h : a ++ 32 :: r = b ++ 32 :: s) : a = b /\ r = s := by
 induction a generalizing b with
 | nil =>
   cases b with
   | nil => simpa using h
   | cons y b => simp at h hb; exact absurd h.1 hb.1
 | cons x a ih =>
   cases b with
   | nil => simp at h ha; exact absurd h.1.symm ha.1
   | cons y b =>
     simp only [List.cons_append, List.cons.injEq] at h;simp at ha hb;obtain ⟨h1, h2⟩ := ih ha.2 hb.2 h.2;exact ⟨by rw [h.1, h1], h2⟩
theorem zu4 {m n : Int} {r s : List UInt8} (h : zdl m ++ r = zdl n ++ s) : m = n /\ r = s := by
 unfold zdl at h;simp only [List.append_assoc, List.singleton_append] at h;obtain ⟨h1, h2⟩ := cut32 (zn1 m) (zn1 n) h;exact ⟨zxn h1, h2⟩
theorem zxh (l : List Int) (h : ∀ x ∈ l, -65536 <= x /\ x <= 65536) : (l.flatMap zdl).length <= 21 * l.length := by
 induction l with
 | nil => simp
 | cons x l ih =>
   have h1 := zu5 x (h x (by simp)).1 (h x (by simp)).2
   have h2 := ih fun y hy => h y (by simp [hy])
   simp only [List.flatMap_cons, List.length_append, List.length_cons]; omega
end Cen
namespace Go.Proofs
open Go.Shelf
open Go.RowKit in
open Go.RowKit in
open Go.RowKit in
def Tryz.lays125_ren : Go.Shelf.Ren := ⟨fun | 125 => 98 | 128 => 118 | 129 => 131 | n => n, fun | 46 => 35 | 3 => 3 | 51 => 104 | 53 => 30 | 4 => 4 | 5 => 5 | 9 => 9 | n => n, fun | n => n⟩
theorem Tryz.lays125 : Go.Proofs.Lays.n125 Tryz.prog Tryz.lays125_ren := {
 mixed := by kernel_rfl
 f125 := Tryz.func98.trans (congrArg some (by kernel_rfl))
 f128 := Tryz.func118.trans (congrArg some (by kernel_rfl))
 f129 := Tryz.func131.trans (congrArg some (by kernel_rfl))
 t3 := Tryz.underlying3
 a3 := Tryz.isAgg3
 z3 := Tryz.sizeOf3
 v3 := Tryz.zeroValue3
 t4 := Tryz.underlying4
 a4 := Tryz.isAgg4
 z4 := Tryz.sizeOf4
 v4 := Tryz.zeroValue4
 t5 := Tryz.underlying5
 a5 := Tryz.isAgg5
 z5 := Tryz.sizeOf5
 v5 := Tryz.zeroValue5
 t9 := Tryz.underlying9
 a9 := Tryz.isAgg9
 z9 := Tryz.sizeOf9
 v9 := Tryz.zeroValue9
 t46 := Tryz.underlying35
 a46 := Tryz.isAgg35
 z46 := Tryz.sizeOf35
 v46 := Tryz.zeroValue35
 t51 := Tryz.underlying104
 a51 := Tryz.isAgg104
 z51 := Tryz.sizeOf104
 v51 := Tryz.zeroValue104
 t53 := Tryz.underlying30
 a53 := Tryz.isAgg30
 z53 := Tryz.sizeOf30
 v53 := Tryz.zeroValue30 }
theorem Tryz.bits_Len (x : Int) (w : World) (h0 : 0 <= x) (h1 : x <= 18446744073709551615) :
 Calls Tryz.prog 98 #[.int .u64 x] w fun e w' => e = .returned (.int .i64 (Lib.bitLen x.toNat)) /\ w' = w := Any.bits_Len Tryz.lays125 x w h0 h1
open Go.RowKit in
open Go.RowKit in
open Go.RowKit in
open Go.RowKit in
open Go.RowKit in
open Go.RowKit in
open Go.Lib in
open Go.Lib in
open Go.Lib in
open Go.Lib in
open Go.RowKit Go.Sort Go.Lib in
def Tryz.lays189_ren : Go.Shelf.Ren := ⟨fun | 189 => 113 | 125 => 98 | 257 => 149 | 128 => 118 | 129 => 131 | 294 => 168 | 295 => 169 | 296 => 170 | 297 => 171 | 298 => 172 | 299 => 173 | 216 => 174 | 300 => 175 | 301 => 176 | 328 => 183 | 329 => 155 | 330 => 156 | 331 => 184 | 332 => 185 | 215 => 186 | 343 => 199 | n => n, fun | 28 => 67 | 3 => 3 | 46 => 35 | 0 => 0 | 51 => 104 | 53 => 30 | 4 => 4 | 183 => 198 | 182 => 197 | 131 => 202 | 5 => 5 | 9 => 9 | 218 => 217 | 222 => 221 | 228 => 234 | 229 => 235 | n => n, fun | n => n⟩
theorem Tryz.lays189 : Go.Proofs.Lays.n189 Tryz.prog Tryz.lays189_ren := {
 mixed := by kernel_rfl
 f125 := Tryz.func98.trans (congrArg some (by kernel_rfl))
 f128 := Tryz.func118.trans (congrArg some (by kernel_rfl))
 f129 := Tryz.func131.trans (congrArg some (by kernel_rfl))
 f189 := Tryz.func113.trans (congrArg some (by kernel_rfl))
 f215 := Tryz.func186.trans (congrArg some (by kernel_rfl))
 f216 := Tryz.func174.trans (congrArg some (by kernel_rfl))
 f257 := Tryz.func149.trans (congrArg some (by kernel_rfl))
 f294 := Tryz.func168.trans (congrArg some (by kernel_rfl))
 f295 := Tryz.func169.trans (congrArg some (by kernel_rfl))
 f296 := Tryz.func170.trans (congrArg some (by kernel_rfl))
 f297 := Tryz.func171.trans (congrArg some (by kernel_rfl))
 f298 := Tryz.func172.trans (congrArg some (by kernel_rfl))
 f299 := Tryz.func173.trans (congrArg some (by kernel_rfl))
 f300 := Tryz.func175.trans (congrArg some (by kernel_rfl))
 f301 := Tryz.func176.trans (congrArg some (by kernel_rfl))
 f328 := Tryz.func183.trans (congrArg some (by kernel_rfl))
 f329 := Tryz.func155.trans (congrArg some (by kernel_rfl))
 f330 := Tryz.func156.trans (congrArg some (by kernel_rfl))
 f331 := Tryz.func184.trans (congrArg some (by kernel_rfl))
 f332 := Tryz.func185.trans (congrArg some (by kernel_rfl))
 f343 := Tryz.func199.trans (congrArg some (by kernel_rfl))
 t0 := Tryz.underlying0
 a0 := Tryz.isAgg0
 z0 := Tryz.sizeOf0
 v0 := Tryz.zeroValue0
 t3 := Tryz.underlying3
 a3 := Tryz.isAgg3
 z3 := Tryz.sizeOf3
 v3 := Tryz.zeroValue3
 t4 := Tryz.underlying4
 a4 := Tryz.isAgg4
 z4 := Tryz.sizeOf4
 v4 := Tryz.zeroValue4
 t5 := Tryz.underlying5
 a5 := Tryz.isAgg5
 z5 := Tryz.sizeOf5
 v5 := Tryz.zeroValue5
 t9 := Tryz.underlying9
 a9 := Tryz.isAgg9
 z9 := Tryz.sizeOf9
 v9 := Tryz.zeroValue9
 t28 := Tryz.underlying67
 a28 := Tryz.isAgg67
 z28 := Tryz.sizeOf67
 v28 := Tryz.zeroValue67
 t46 := Tryz.underlying35
 a46 := Tryz.isAgg35
 z46 := Tryz.sizeOf35
 v46 := Tryz.zeroValue35
 t51 := Tryz.underlying104
 a51 := Tryz.isAgg104
 z51 := Tryz.sizeOf104
 v51 := Tryz.zeroValue104
 t53 := Tryz.underlying30
 a53 := Tryz.isAgg30
 z53 := Tryz.sizeOf30
 v53 := Tryz.zeroValue30
 t131 := Tryz.underlying202
 a131 := Tryz.isAgg202
 z131 := Tryz.sizeOf202
 v131 := Tryz.zeroValue202
 t182 := Tryz.underlying197
 a182 := Tryz.isAgg197
 z182 := Tryz.sizeOf197
 v182 := Tryz.zeroValue197
 t183 := Tryz.underlying198
 a183 := Tryz.isAgg198
 z183 := Tryz.sizeOf198
 v183 := Tryz.zeroValue198
 t218 := Tryz.underlying217
 a218 := Tryz.isAgg217
 z218 := Tryz.sizeOf217
 v218 := Tryz.zeroValue217
 t222 := Tryz.underlying221
 a222 := Tryz.isAgg221
 z222 := Tryz.sizeOf221
 v222 := Tryz.zeroValue221
 t228 := Tryz.underlying234
 a228 := Tryz.isAgg234
 z228 := Tryz.sizeOf234
 v228 := Tryz.zeroValue234
 t229 := Tryz.underlying235
 a229 := Tryz.isAgg235
 z229 := Tryz.sizeOf235
 v229 := Tryz.zeroValue235 }
open Go.Sort Go.RowKit in
theorem Tryz.slices_Sort_int (blk off cap : Nat) (zs : List Int) (w : World) (hH : Holds (Value.int .i64) w blk off zs.toArray) (hblk : blk < w.heap.size) (hsz : zs.length < 4611686018427387904) :
 Calls Tryz.prog 113 #[.slice (some ⟨blk, off, none⟩) zs.length cap] w fun e w' =>
  e = .returned (.tuple #[]) /\ ∃ n os, w' = grow (putRow (Value.int .i64) (Sort.ahead w n) blk off (zs.mergeSort fun x y => decide (x <= y)).toArray) os := Any.slices_Sort_int Tryz.lays189 blk off cap zs w hH hblk hsz
def Tryz.laysM288_ren : Go.Shelf.Ren := ⟨fun | 288 => 196 | 283 => 204 | 284 => 205 | 285 => 206 | 286 => 207 | 129 => 131 | 317 => 213 | 318 => 214 | 319 => 215 | 320 => 216 | 337 => 218 | 338 => 151 | n => n, fun | 37 => 59 | 53 => 30 | 3 => 3 | 4 => 4 | 9 => 9 | 171 => 259 | 0 => 0 | 173 => 261 | 212 => 270 | 51 => 104 | 5 => 5 | 20 => 20 | 213 => 271 | 46 => 35 | 232 => 273 | 233 => 233 | n => n, fun | 17 => 2 | 18 => 3 | 19 => 1 | n => n⟩
open Go.RowKit Go.Sort Go.Lib in
open Go.RowKit Go.Sort Go.Lib in
open Go.RowKit Go.Sort Go.Lib in
def Tryz.laysM249_ren : Go.Shelf.Ren := ⟨fun | 249 => 181 | 288 => 196 | 283 => 204 | 284 => 205 | 285 => 206 | 286 => 207 | 129 => 131 | 317 => 213 | 318 => 214 | 319 => 215 | 320 => 216 | 337 => 218 | 338 => 151 | n => n, fun | 37 => 59 | 2 => 2 | 3 => 3 | 53 => 30 | 4 => 4 | 9 => 9 | 171 => 259 | 0 => 0 | 173 => 261 | 212 => 270 | 51 => 104 | 5 => 5 | 20 => 20 | 213 => 271 | 46 => 35 | 232 => 273 | 233 => 233 | n => n, fun | 17 => 2 | 18 => 3 | 19 => 1 | n => n⟩
open Go.RowKit Go.Sort Go.Lib in
def Tryz.laysM176_ren : Go.Shelf.Ren := ⟨fun | 176 => 166 | 249 => 181 | 288 => 196 | 283 => 204 | 284 => 205 | 285 => 206 | 286 => 207 | 129 => 131 | 317 => 213 | 318 => 214 | 319 => 215 | 320 => 216 | 337 => 218 | 338 => 151 | n => n, fun | 37 => 59 | 2 => 2 | 3 => 3 | 53 => 30 | 4 => 4 | 9 => 9 | 171 => 259 | 0 => 0 | 173 => 261 | 212 => 270 | 51 => 104 | 5 => 5 | 20 => 20 | 213 => 271 | 46 => 35 | 232 => 273 | 233 => 233 | n => n, fun | 17 => 2 | 18 => 3 | 19 => 1 | n => n⟩
theorem Tryz.laysM176 : Go.Proofs.LaysM.n176 Tryz.prog Tryz.laysM176_ren := {
 mixed := by kernel_rfl
 f129 := Tryz.func131.trans (congrArg some (by kernel_rfl))
 f176 := Tryz.func166.trans (congrArg some (by kernel_rfl))
 f249 := Tryz.func181.trans (congrArg some (by kernel_rfl))
 f283 := Tryz.func204.trans (congrArg some (by kernel_rfl))
 f284 := Tryz.func205.trans (congrArg some (by kernel_rfl))
 f285 := Tryz.func206.trans (congrArg some (by kernel_rfl))
 f286 := Tryz.func207.trans (congrArg some (by kernel_rfl))
 f288 := Tryz.func196.trans (congrArg some (by kernel_rfl))
 f317 := Tryz.func213.trans (congrArg some (by kernel_rfl))
 f318 := Tryz.func214.trans (congrArg some (by kernel_rfl))
 f319 := Tryz.func215.trans (congrArg some (by kernel_rfl))
 f320 := Tryz.func216.trans (congrArg some (by kernel_rfl))
 f337 := Tryz.func218.trans (congrArg some (by kernel_rfl))
 f338 := Tryz.func151.trans (congrArg some (by kernel_rfl))
 t0 := Tryz.underlying0
 a0 := Tryz.isAgg0
 z0 := Tryz.sizeOf0
 v0 := Tryz.zeroValue0
 t2 := Tryz.underlying2
 a2 := Tryz.isAgg2
 z2 := Tryz.sizeOf2
 v2 := Tryz.zeroValue2
 t3 := Tryz.underlying3
 a3 := Tryz.isAgg3
 z3 := Tryz.sizeOf3
 v3 := Tryz.zeroValue3
 t4 := Tryz.underlying4
 a4 := Tryz.isAgg4
 z4 := Tryz.sizeOf4
 v4 := Tryz.zeroValue4
 t5 := Tryz.underlying5
 a5 := Tryz.isAgg5
 z5 := Tryz.sizeOf5
 v5 := Tryz.zeroValue5
 t9 := Tryz.underlying9
 a9 := Tryz.isAgg9
 z9 := Tryz.sizeOf9
 v9 := Tryz.zeroValue9
 t20 := Tryz.underlying20
 a20 := Tryz.isAgg20
 z20 := Tryz.sizeOf20
 v20 := Tryz.zeroValue20
 t37 := Tryz.underlying59
 a37 := Tryz.isAgg59
 z37 := Tryz.sizeOf59
 v37 := Tryz.zeroValue59
 t46 := Tryz.underlying35
 a46 := Tryz.isAgg35
 z46 := Tryz.sizeOf35
 v46 := Tryz.zeroValue35
 t51 := Tryz.underlying104
 a51 := Tryz.isAgg104
 z51 := Tryz.sizeOf104
 v51 := Tryz.zeroValue104
 t53 := Tryz.underlying30
 a53 := Tryz.isAgg30
 z53 := Tryz.sizeOf30
 v53 := Tryz.zeroValue30
 t171 := Tryz.underlying259
 a171 := Tryz.isAgg259
 z171 := Tryz.sizeOf259
 v171 := Tryz.zeroValue259
 t173 := Tryz.underlying261
 a173 := Tryz.isAgg261
 z173 := Tryz.sizeOf261
 v173 := Tryz.zeroValue261
 t212 := Tryz.underlying270
 a212 := Tryz.isAgg270
 z212 := Tryz.sizeOf270
 v212 := Tryz.zeroValue270
 t213 := Tryz.underlying271
 a213 := Tryz.isAgg271
 z213 := Tryz.sizeOf271
 t232 := Tryz.underlying273
 a232 := Tryz.isAgg273
 z232 := Tryz.sizeOf273
 v232 := Tryz.zeroValue273
 t233 := Tryz.underlying233
 a233 := Tryz.isAgg233
 z233 := Tryz.sizeOf233
 v233 := Tryz.zeroValue233
 g17 := by kernel_rfl
 g18 := by kernel_rfl
 g19 := by kernel_rfl
 i0 := by kernel_rfl
 i2 := by kernel_rfl
 i3 := by kernel_rfl
 i4 := by kernel_rfl
 i5 := by kernel_rfl
 i9 := by kernel_rfl
 i20 := by kernel_rfl
 i37 := by kernel_rfl
 i46 := by kernel_rfl
 i51 := by kernel_rfl
 i53 := by kernel_rfl
 i171 := by kernel_rfl
 i173 := by kernel_rfl
 i212 := by kernel_rfl
 i232 := by kernel_rfl
 i233 := by kernel_rfl
 m17 := by kernel_rfl
 m18 := by kernel_rfl
 m19 := by kernel_rfl }
open Go.RowKit Go.Sort Go.Lib in
theorem Tryz.strconv_AppendInt_10 (B n : Nat) (i : Int) (h0 : -9223372036854775808 <= i) (h1 : i <= 9223372036854775807) (sv : Value) (xs : List Value) (w : World) (hown : w.ownsRow B 5 1 sv n xs) (hBw : B <= w.heap.size) (hlim : n + 21 <= 140737488355328) (htab : Lib.TabBelow Tryz.prog B w "internal/strconv.uint64pow10" .u64 Lib.pow10Tab) :
 Calls Tryz.prog 166 #[sv, .int .i64 i, .int .i64 10] w fun e w' => ∃ v', e = .returned v' /\ w'.ownsRow B 5 1 v' (n + (Lib.itoa i).length) (xs ++ Lib.byteCells (Lib.itoa i)) /\ Below B w w' /\ Lib.OthersKept 5 none w w' := Any.strconv_AppendInt_10 Tryz.laysM176 B n i h0 h1 sv xs w hown hBw hlim htab
open Go.RowKit Go.Lib in
open Go.RowKit Go.Lib in
def Tryz.laysNm220_ren : Go.Shelf.Ren := ⟨fun | 20 => 163 | n => n, fun | 22 => 67 | 3 => 3 | 4 => 4 | 0 => 0 | n => n, fun | n => n⟩
theorem Tryz.laysNm220 : Go.Proofs.Lays2.n20 Tryz.prog Tryz.laysNm220_ren := {
 mixed := by kernel_rfl
 f20 := Tryz.func163.trans (congrArg some (by kernel_rfl))
 t0 := Tryz.underlying0
 a0 := Tryz.isAgg0
 z0 := Tryz.sizeOf0
 v0 := Tryz.zeroValue0
 t3 := Tryz.underlying3
 a3 := Tryz.isAgg3
 z3 := Tryz.sizeOf3
 v3 := Tryz.zeroValue3
 t4 := Tryz.underlying4
 a4 := Tryz.isAgg4
 z4 := Tryz.sizeOf4
 v4 := Tryz.zeroValue4
 t22 := Tryz.underlying67
 a22 := Tryz.isAgg67
 z22 := Tryz.sizeOf67
 v22 := Tryz.zeroValue67
 i3 := by kernel_rfl }
open Go.RowKit Go.Lib Go.Sort in
open Go.RowKit Go.Lib Go.Sort in
theorem Tryz.slices_Compact_int (blk off cap : Nat) (zs : List Int) (w : World) (hH : Holds (Value.int .i64) w blk off zs.toArray) (hsz : zs.length <= 9223372036854775807) (hcap : zs.length <= cap) :
 Calls Tryz.prog 163 #[.slice (some ⟨blk, off, none⟩) zs.length cap] w fun e w' => e = .returned (.slice (some ⟨blk, off, none⟩) (Lib.compact zs).length cap) /\ ∃ q, w' = putRow (Value.int .i64) (Sort.ahead w q) blk off (Lib.compact zs ++ List.replicate (zs.length - (Lib.compact zs).length) 0).toArray := Any.slices_Compact_int Tryz.laysNm220 blk off cap zs w hH hsz hcap
open Go.RowKit Go.Lib Go.Sort in
theorem Tryz.slices_Compact_int_empty (a : Option Addr) (cap : Nat) (w : World) :
 Calls Tryz.prog 163 #[.slice a 0 cap] w fun e w' => e = .returned (.slice a 0 cap) /\ w' = w := Any.slices_Compact_int_empty Tryz.laysNm220 a cap w
end Go.Proofs
