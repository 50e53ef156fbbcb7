/- Part of the proofs that laws return true for every input, where the tables that the rows list are laid. Texts: Mem, BoolL, Slices, NetVars, SetOf, R03, R03W, R03A, Node1, Node2. -/
import Derived.Test.YtflhbcnhaeijbaaGreatDoorYH1
import Derived.Deep.RegionWith
import Derived.Outline
set_option maxHeartbeats 8000000
set_option maxRecDepth 100000
set_option linter.unusedSimpArgs false
set_option linter.unusedVariables false
namespace Go.Proofs.YtflhbcnhaeijbaaGreatDoor
open Go.RowKit Cen
structure Kp (M : Nat -> Prop) (w w' : World) : Prop where
 os : w'.os = w.os
 tape : w'.tape = w.tape
 output : w'.output = w.output
 size : w.heap.size <= w'.heap.size
 block : ∀ k, k < w.heap.size -> ¬ M k -> w'.heap[k]? = w.heap[k]?
theorem Kp.refl (M : Nat -> Prop) (w : World) : Kp M w w := ⟨rfl, rfl, rfl, Nat.le_refl _, fun _ _ _ => rfl⟩
theorem Kp.trans {M : Nat -> Prop} {a b c : World} (h : Kp M a b) (k : Kp M b c) : Kp M a c :=
 ⟨k.os.trans h.os, k.tape.trans h.tape, k.output.trans h.output, Nat.le_trans h.size k.size, fun i hi hm => (k.block i (Nat.lt_of_lt_of_le hi h.size) hm).trans (h.block i hi hm)⟩
theorem Kp.mono {M M' : Nat -> Prop} {w w' : World} (h : Kp M w w') (hm : ∀ k, k < w.heap.size -> M k -> M' k) : Kp M' w w' :=
 ⟨h.os, h.tape, h.output, h.size, fun k hk hn => h.block k hk fun x => hn (hm k hk x)⟩
theorem Kp.below {M : Nat -> Prop} {w w' : World} (h : Below w.heap.size w w') : Kp M w w' := ⟨h.os, h.tape, h.output, h.size, fun k hk _ => h.block k hk⟩
theorem Kp.belowB {B : Nat} {M : Nat -> Prop} {w w' : World} (h : Below B w w') (hm : ∀ k, B <= k -> M k) : Kp M w w' :=
 ⟨h.os, h.tape, h.output, h.size, fun k _ hn => h.block k (Nat.lt_of_not_le fun x => hn (hm k x))⟩
theorem Kp.toBelow {B : Nat} {M : Nat -> Prop} {w w' : World} (h : Kp M w w') (hB : B <= w.heap.size) (hm : ∀ k, k < B -> ¬ M k) : Below B w w' :=
 ⟨h.os, h.tape, h.output, h.size, fun k hk => h.block k (Nat.lt_of_lt_of_le hk hB) (hm k hk)⟩
theorem Kp.grown {M : Nat -> Prop} {w w' : World} {row : Option Nat} (h : w.grownBy w' row) (hm : ∀ k, row = some k -> M k) : Kp M w w' :=
 ⟨h.os, h.tape, h.output, h.size, fun k hk hn => h.block k hk fun e => hn (hm k e.symm)⟩
theorem Kp.alloc (M : Nat -> Prop) (w : World) (o : Obj) : Kp M w (w.alloc o) := .below ((Below.refl _ _).alloc (Nat.le_refl _) o)
theorem Kp.setCell {M : Nat -> Prop} (w : World) (a : Addr) (u : Value) (h : M a.block) : Kp M w (w.setCell a u) :=
 ⟨rfl, rfl, rfl, by simp [World.setCell], fun k _ hk => Below.heap_setCell _ _ _ _ fun e => hk (e ▸ h)⟩
theorem Kp.drew (M : Nat -> Prop) (w : World) : Kp M w w.drew := .below (Below.refl _ _).drew
theorem Kp.cell {M : Nat -> Prop} {w w' : World} (h : Kp M w w') {p : Addr} {v : Value} (hc : w.cell? p = some v) (hm : ¬ M p.block) : w'.cell? p = some v := by
 rw [World.cell?_of_block (w := w) (h.block p.block (zak hc) hm)]; exact hc
theorem Kp.heap {M : Nat -> Prop} {w w' : World} (h : Kp M w w') {k : Nat} {o : Obj} (hc : w.heap[k]? = some o) (hm : ¬ M k) : w'.heap[k]? = some o := by
 rw [h.block k (lt_of_block hc) hm]; exact hc
theorem IntCells.kept {M : Nat -> Prop} {w w' : World} {a : Option Addr} {xs : List Int} (h : IntCells w a xs) (hb : Kp M w w') (hm : ∀ p, a = some p -> ¬ M p.block) : IntCells w' a xs :=
 fun i hi => let ⟨b, off, e, hc⟩ := h i hi; ⟨b, off, e, hb.cell hc (hm ⟨b, off, none⟩ e)⟩
def Blk (w : World) (b : Nat) (cs : Array Value) (t : TypeId) : Prop := w.heap[b]? = some (.cells cs t (0, 0))
theorem Blk.cell {w : World} {b : Nat} {cs : Array Value} {t : TypeId} (h : Blk w b cs t) (j : Nat) : w.cell? ⟨b, j, none⟩ = cs[j]? := by simp only [World.cell?]; rw [show w.heap[b]? = _ from h]; rfl
theorem Blk.fr {w : World} {b : Nat} {cs : Array Value} {t : TypeId} (h : Blk w b cs t) (j : Nat) : w.frozen? ⟨b, j, none⟩ = false := by simp only [World.frozen?]; rw [show w.heap[b]? = _ from h]; simp
theorem Blk.lt {w : World} {b : Nat} {cs : Array Value} {t : TypeId} (h : Blk w b cs t) : b < w.heap.size := lt_of_block h
theorem Blk.new (w : World) (cs : Array Value) (t : TypeId) : Blk (w.alloc (.cells cs t)) w.heap.size cs t := heap_alloc_new w _
theorem Blk.new' (w : World) {b : Nat} (h : w.heap.size = b) (cs : Array Value) (t : TypeId) : Blk (w.alloc (.cells cs t)) b cs t := h ▸ heap_alloc_new w _
theorem Blk.kept {M : Nat -> Prop} {w w' : World} {b : Nat} {cs : Array Value} {t : TypeId} (h : Blk w b cs t) (k : Kp M w w') (hm : ¬ M b) : Blk w' b cs t := k.heap h hm
theorem Blk.alloc {w : World} {b : Nat} {cs : Array Value} {t : TypeId} (h : Blk w b cs t) (o : Obj) : Blk (w.alloc o) b cs t := by
 show (w.alloc o).heap[b]? = _; rw [Below.heap_alloc _ _ _ h.lt]; exact h
theorem Blk.set {w : World} {b : Nat} {cs : Array Value} {t : TypeId} (h : Blk w b cs t) (j : Nat) (v : Value) : Blk (w.setCell ⟨b, j, none⟩ v) b (cs.setIfInBounds j v) t := heap_setCell_same w b j cs t v h
theorem Blk.other {w : World} {b : Nat} {cs : Array Value} {t : TypeId} (h : Blk w b cs t) (p : Addr) (v : Value) (hp : p.block ≠ b) : Blk (w.setCell p v) b cs t := by
 show (w.setCell p v).heap[b]? = _; rw [Below.heap_setCell _ _ _ _ (fun e => hp e.symm)]; exact h
theorem Blk.later {w w' : World} {b : Nat} {cs : Array Value} {t : TypeId} (h : Blk w b cs t) (k : Below w.heap.size w w') : Blk w' b cs t := by
 show w'.heap[b]? = _; rw [k.block b h.lt]; exact h
theorem Blk.laterB {B : Nat} {w w' : World} {b : Nat} {cs : Array Value} {t : TypeId} (h : Blk w b cs t) (k : Below B w w') (hb : b < B) : Blk w' b cs t := by
 show w'.heap[b]? = _; rw [k.block b hb]; exact h
theorem World.size_setCell' (w : World) (p : Addr) (v : Value) : (w.setCell p v).heap.size = w.heap.size := by simp [World.setCell]
def Elem (t e : TypeId) (size bytes : Nat) (z : Value) : Prop :=
 Tryz.prog.underlying t = some (.slice e) /\ ∃ i, Tryz.prog.info? e = some i /\ i.zero = some z /\ i.size = size /\ i.bytes = bytes /\ z.cells.size = size /\ 0 < size
theorem Elem.mk {t e : TypeId} {size bytes : Nat} {z : Value} (h : Tryz.prog.underlying t = some (.slice e)) (k : (Tryz.prog.info? e).map (fun i => (i.zero, i.size, i.bytes)) = some (some z, size, bytes))
 (hz : z.cells.size = size) (h0 : 0 < size) : Elem t e size bytes z := by
 refine ⟨h, ?_⟩
 cases hi : Tryz.prog.info? e with
 | none => rw [hi] at k; simp at k
 | some i =>
   rw [hi] at k; simp at k;exact ⟨i, rfl, k.1, k.2.1, k.2.2, hz, h0⟩
section
variable {ops : Array Oper} {rest : List Oper} {o : Oper} {a : Act} {Q : Exit -> Act -> World -> Prop} {t e : TypeId} {size bytes : Nat} {z : Value}
theorem app {w : World} (E : Elem t e size bytes z) (hgd : o.guard = none) (s x : Operand) (ho : o.op = .call { callee := .builtin .append, args := #[s, x], argTypes := #[t, t] })
 (base : Nat) (v : Value) (n : Nat) (xs : List Value) (hs : a.eval s = v) (hown : w.ownsRow base e size v n xs)
 (ad : Addr) (m c : Nat) (news : List Value) (hx : a.eval x = .slice (some ad) m c) (hl : news.length = m * size) (hnews : ∀ j u, news[j]? = some u -> w.cell? (ad.add j) = some u) (h1 : ∀ u ∈ news, u.oneCell' = true)
 (h63 : n + m <= maxLen) (hbytes : (n + m) * bytes <= 140737488355328) (hbase : base <= w.heap.size)
 (h : ∀ v' w', w'.ownsRow base e size v' (n + m) (xs ++ news) -> w.grownBy w' v.ownBlock -> (v' = .slice none 0 0 ↔ v = .slice none 0 0 /\ m = 0) -> wpList Tryz.prog ops Q rest (a.put o.dst v') w') :
 wpList Tryz.prog ops Q (o :: rest) a w := by
 obtain ⟨ht, i, hi, hz, hsz, hby, hzs, h0⟩ := E;exact wpList_append_own w hgd s x t ho base e i z size bytes ht hi hz hsz hby hzs h0 v n xs hs hown ad m c news hx hl hnews h1 h63 hbytes hbase h
theorem za1 {W w' : World} {ob : Obj} {row : Option Nat} (h : (W.alloc ob).grownBy w' row) : W.grownBy w' row :=
 ⟨h.os, h.tape, h.output, Nat.le_trans (by simp) h.size, fun k hk hn => by rw [h.block k (by simp; omega) hn, Below.heap_alloc _ _ _ hk]⟩
theorem app1 {W : World} {C : Array Value} (E : Elem t e size bytes z) (hgd : o.guard = none) (s x : Operand) (ho : o.op = .call { callee := .builtin .append, args := #[s, x], argTypes := #[t, t] })
 (base : Nat) (v : Value) (n : Nat) (xs : List Value) (hs : a.eval s = v) (hown : W.ownsRow base e size v n xs)
 (hx : a.eval x = .slice (some ⟨W.heap.size, 0, none⟩) 1 1) (hC : C.size = size) (h1 : ∀ u ∈ C.toList, u.oneCell' = true)
 (h63 : n + 1 <= maxLen) (hbytes : (n + 1) * bytes <= 140737488355328) (hbase : base <= W.heap.size)
 (h : ∀ v' w', w'.ownsRow base e size v' (n + 1) (xs ++ C.toList) -> W.grownBy w' v.ownBlock -> v' ≠ .slice none 0 0 -> wpList Tryz.prog ops Q rest (a.put o.dst v') w') :
 wpList Tryz.prog ops Q (o :: rest) a (W.alloc (.cells C e)) := by
 refine app E hgd s x ho base v n xs hs (hown.alloc _) ⟨W.heap.size, 0, none⟩ 1 1 C.toList hx (by simpa using hC) ?_ h1 h63 hbytes (by simp; omega) ?_
 ·intro j u hj
  have hlt : j < C.size := by
   rcases Nat.lt_or_ge j C.size with h' | h'
   ·exact h'
   rw [List.getElem?_eq_none (by simpa using h')] at hj; simp at hj
  have e1 : (⟨W.heap.size, 0, none⟩ : Addr).add j = ⟨W.heap.size, j, none⟩ := by
   unfold Addr.add; split
   ·rename_i hj0; rw [hj0]
   simp
  rw [e1, World.cell?_alloc_at _ _ _ _ rfl]
  simpa using hj
 intro v' w' h2 h3 h4;exact h v' w' h2 (za1 h3) (fun hv => by have := h4.1 hv; omega)
end
def OwnL {α : Type} (enc : α -> List Value) (e k : Nat) (w : World) (base : Nat) (v : Value) (l : List α) : Prop := w.ownsRow base e k v l.length (l.flatMap enc)
section
variable {α : Type} {enc : α -> List Value} {e k : Nat} {w : World} {base : Nat} {l : List α}
theorem OwnL.nil (w : World) (base : Nat) : OwnL enc e k w base (.slice none 0 0) [] := World.ownsRow_nil _ _ _ _
theorem OwnL.shape {v : Value} (h : OwnL enc e k w base v l) : (v = .slice none 0 0 /\ l = []) \/ ∃ g cap, v = .slice (some ⟨g, 0, none⟩) l.length cap /\ base <= g /\ g < w.heap.size := by
 rcases h.2 with ⟨h1, h2⟩ | ⟨g, cap, cur, hv, hb, hh, _⟩
 ·exact .inl ⟨h1, List.eq_nil_of_length_eq_zero h2⟩
 exact .inr ⟨g, cap, hv, hb, lt_of_block hh⟩
theorem OwnL.kept {M : Nat -> Prop} {w' : World} {v : Value} (h : OwnL enc e k w base v l) (hb : Kp M w w') (hm : ∀ g, v.ownBlock = some g -> ¬ M g) : OwnL enc e k w' base v l := by
 refine ⟨h.1, ?_⟩
 rcases h.2 with h1 | ⟨g, cap, cur, hv, hg, hh, r⟩
 ·exact .inl h1
 exact .inr ⟨g, cap, cur, hv, hg, hb.heap hh (hm g (by rw [hv]; rfl)), r⟩
theorem OwnL.later {w' : World} {v : Value} (h : OwnL enc e k w base v l) (hb : Below w.heap.size w w') : OwnL enc e k w' base v l := h.kept (Kp.below (M := fun _ => False) hb) (fun _ _ x => x)
theorem OwnL.lower {B : Nat} {v : Value} (h : OwnL enc e k w base v l) (hB : B <= base) : OwnL enc e k w B v l := by
 refine ⟨h.1, ?_⟩
 rcases h.2 with h1 | ⟨g, cap, cur, hv, hg, r⟩
 ·exact .inl h1
 exact .inr ⟨g, cap, cur, hv, Nat.le_trans hB hg, r⟩
theorem OwnL.lt {g cap n : Nat} (h : OwnL enc e k w base (.slice (some ⟨g, 0, none⟩) n cap) l) : g < w.heap.size /\ base <= g := by
 rcases h.shape with ⟨h1, _⟩ | ⟨g', cap', h1, h2, h3⟩
 ·simp at h1
 simp only [Value.slice.injEq, Option.some.injEq, Addr.mk.injEq, and_true] at h1;rw [h1.1]; exact ⟨h3, h2⟩
theorem OwnL.cell {g cap : Nat} {n : Nat} (hn : n = l.length) (h : OwnL enc e k w base (.slice (some ⟨g, 0, none⟩) n cap) l) (hk : ∀ x, (enc x).length = k) (i j : Nat) (hi : i < l.length) (hj : j < k) :
 w.cell? ⟨g, i * k + j, none⟩ = (enc l[i])[j]? := by
 subst hn;rw [<- zoj hk l i j hi hj];exact World.ownsRow.cellAt h _ (by have := Nat.mul_le_mul_right k (show i + 1 <= l.length from hi); rw [Nat.succ_mul] at this; omega)
theorem OwnL.fr {g cap : Nat} {n : Nat} (hn : n = l.length) (h : OwnL enc e k w base (.slice (some ⟨g, 0, none⟩) n cap) l) (j : Nat) : w.frozen? ⟨g, j, none⟩ = false := by subst hn; exact World.ownsRow.frozenAt h j
theorem OwnL.put1 {g cap : Nat} {n : Nat} (hn : n = l.length) (h : OwnL enc e 1 w base (.slice (some ⟨g, 0, none⟩) n cap) l) (hk : ∀ x, (enc x).length = 1) (i : Nat) (hi : i < l.length) (y : α) (c : Value) (hy : enc y = [c]) :
 OwnL enc e 1 (w.setCell ⟨g, i, none⟩ c) base (.slice (some ⟨g, 0, none⟩) n cap) (l.set i y) := by
 subst hn;have := (World.ownsRow.stored h i c).1;rw [zq2 hk l i y c hi hy] at this
 show World.ownsRow _ _ _ _ _ _ _
 simpa using this
theorem OwnL.put2 {g cap : Nat} {n : Nat} (hn : n = l.length) (h : OwnL enc e 2 w base (.slice (some ⟨g, 0, none⟩) n cap) l) (hk : ∀ x, (enc x).length = 2) (i : Nat) (hi : i < l.length) (y : α) (c d : Value) (hy : enc y = [c, d]) :
 OwnL enc e 2 ((w.setCell ⟨g, i * 2, none⟩ c).setCell ⟨g, i * 2 + 1, none⟩ d) base (.slice (some ⟨g, 0, none⟩) n cap) (l.set i y) := by
 subst hn;have := (World.ownsRow.stored (World.ownsRow.stored h (i * 2) c).1 (i * 2 + 1) d).1;rw [zq3 hk l i y c d hi hy] at this
 show World.ownsRow _ _ _ _ _ _ _
 simpa using this
theorem OwnL.put3 {g cap : Nat} {n : Nat} (hn : n = l.length) (h : OwnL enc e 3 w base (.slice (some ⟨g, 0, none⟩) n cap) l) (hk : ∀ x, (enc x).length = 3) (i : Nat) (hi : i < l.length) (y : α) (c d f : Value) (hy : enc y = [c, d, f]) :
 OwnL enc e 3 (((w.setCell ⟨g, i * 3, none⟩ c).setCell ⟨g, i * 3 + 1, none⟩ d).setCell ⟨g, i * 3 + 2, none⟩ f) base (.slice (some ⟨g, 0, none⟩) n cap) (l.set i y) := by
 subst hn;have := (World.ownsRow.stored (World.ownsRow.stored (World.ownsRow.stored h (i * 3) c).1 (i * 3 + 1) d).1 (i * 3 + 2) f).1;rw [flat_set3 hk l i y c d f hi hy] at this
 show World.ownsRow _ _ _ _ _ _ _
 simpa using this
end
section
variable {α : Type} {enc : α -> List Value} {e k : Nat} {w : World} {base : Nat} {vs zs : List α} {c : α} {g cap n i : Nat}
theorem OwnL.mid (h : OwnL enc e k w base (.slice (some ⟨g, 0, none⟩) n cap) (vs ++ c :: zs)) (hi : i = vs.length) (hn : n = (vs ++ c :: zs).length) (hk : ∀ x, (enc x).length = k) (j : Nat) (hj : j < k) :
 w.cell? ⟨g, i * k + j, none⟩ = (enc c)[j]? := by
 subst hi;rw [h.cell hn hk vs.length j (by simp) hj]; simp
theorem OwnL.left (h : OwnL enc e k w base (.slice (some ⟨g, 0, none⟩) n cap) (vs ++ c :: zs)) (hi : i < vs.length) (hn : n = (vs ++ c :: zs).length) (hk : ∀ x, (enc x).length = k) (j : Nat) (hj : j < k) :
 w.cell? ⟨g, i * k + j, none⟩ = (enc vs[i])[j]? := by
 rw [h.cell hn hk i j (by simp; omega) hj, List.getElem_append_left hi]
theorem OwnL.midput2 (h : OwnL enc e 2 w base (.slice (some ⟨g, 0, none⟩) n cap) (vs ++ c :: zs)) (hi : i = vs.length) (hn : n = (vs ++ c :: zs).length) (hk : ∀ x, (enc x).length = 2) (y : α) (c0 c1 : Value) (hy : enc y = [c0, c1]) :
 OwnL enc e 2 ((w.setCell ⟨g, i * 2, none⟩ c0).setCell ⟨g, i * 2 + 1, none⟩ c1) base (.slice (some ⟨g, 0, none⟩) n cap) (vs ++ y :: zs) := by
 subst hi;have := h.put2 hn hk vs.length (by simp) y c0 c1 hy
 rwa [List.set_append_right _ _ (Nat.le_refl _), Nat.sub_self] at this
theorem OwnL.midput3 (h : OwnL enc e 3 w base (.slice (some ⟨g, 0, none⟩) n cap) (vs ++ c :: zs)) (hi : i = vs.length) (hn : n = (vs ++ c :: zs).length) (hk : ∀ x, (enc x).length = 3) (y : α) (c0 c1 c2 : Value) (hy : enc y = [c0, c1, c2]) :
 OwnL enc e 3 (((w.setCell ⟨g, i * 3, none⟩ c0).setCell ⟨g, i * 3 + 1, none⟩ c1).setCell ⟨g, i * 3 + 2, none⟩ c2) base (.slice (some ⟨g, 0, none⟩) n cap) (vs ++ y :: zs) := by
 subst hi;have := h.put3 hn hk vs.length (by simp) y c0 c1 c2 hy
 rwa [List.set_append_right _ _ (Nat.le_refl _), Nat.sub_self] at this
end
section
variable {ops : Array Oper} {rest : List Oper} {o : Oper} {a : Act} {Q : Exit -> Act -> World -> Prop}
theorem zjm {α : Type} {enc : α -> List Value} {k n : Nat} {z : Array Value} {y : α} (hk : z.size = k) (h0 : 0 < k) (hy : enc y = z.toList) :
 (madeCells z (n * k)).toList = (List.replicate n y).flatMap enc := by
 rw [zjk, hy]
 have hl : ((List.replicate n z.toList).flatten).length = n * k := by simp [hk]
 apply List.ext_getElem?
 intro i
 by_cases hi : i < n * k
 ·have e : i = (i / k) * k + i % k := by rw [Nat.mul_comm]; exact (Nat.div_add_mod i k).symm
  have hm : i % k < k := Nat.mod_lt _ h0
  have hd : i / k < n := by rw [Nat.div_lt_iff_lt_mul h0]; exact hi
  have h1 : (madeCells z (n * k)).toList[i]? = some z[i % k]! := by
   have hs : i < (madeCells z (n * k)).size := by rw [size_madeCells]; exact hi
   rw [Array.getElem?_toList, Array.getElem?_eq_getElem hs]
   simp [madeCells, hk]
  have h2 := zoj (enc := fun x : List Value => x) (k := k) (l := List.replicate n z.toList);rw [h1];have hz : z[i % k]! = z[i % k] := getElem!_pos z (i % k) (by omega);rw [hz]
  have gen : ∀ (m q : Nat), q < m -> ((List.replicate m z.toList).flatten)[q * k + i % k]? = z.toList[i % k]? := by
   intro m
   induction m with
   | zero => intro q hq; omega
   | succ m ih =>
     intro q hq;rw [List.replicate_succ, List.flatten_cons]
     cases q with
     | zero => rw [List.getElem?_append_left (by simp [hk]; omega)]; simp
     | succ q =>
       have e2 : (q + 1) * k + i % k = z.toList.length + (q * k + i % k) := by rw [Array.length_toList, hk, Nat.succ_mul]; omega
       rw [e2, List.getElem?_append_right (by omega), Nat.add_sub_cancel_left, ih q (by omega)]
  have := gen n (i / k) hd;rw [<- e] at this;rw [this, Array.getElem?_toList, Array.getElem?_eq_getElem (by omega)]
 rw [List.getElem?_eq_none (by rw [Array.length_toList, size_madeCells]; omega), List.getElem?_eq_none (by omega)]
theorem mk {w : World} {t e k bytes : Nat} {z : Value} (E : Elem t e k bytes z) (hg : o.guard = none) (l c : Operand) (hop : o.op = Op.makeSlice t l c) (base : Nat) (kl kc : IntKind) (L C : Int) (n : Nat)
 (hl : a.eval l = .int kl L) (hc : a.eval c = .int kc C) (hL : L = (n : Int)) (hC : C = (n : Int)) (b2 : bytes * n <= 281474976710656) (b3 : n <= maxLen) (b4 : base <= w.heap.size)
 {α : Type} (enc : α -> List Value) (y : α) (hy : enc y = z.cells.toList)
 (h : ∀ w', OwnL enc e k w' base (.slice (some ⟨w.heap.size, 0, none⟩) n n) (List.replicate n y) -> w.grownBy w' none -> wpList Tryz.prog ops Q rest (a.put o.dst (.slice (some ⟨w.heap.size, 0, none⟩) n n)) w') :
 wpList Tryz.prog ops Q (o :: rest) a w := by
 obtain ⟨ht, i, hi, hzz, hsz, hby, hzs, h0⟩ := E
 refine wpList_make_full w hg l c t hop base e i z k ht hi hzz hsz kl kc L C n hl hc hL hC (by rw [hby]; exact b2) b3 b4 fun w' h1 h2 => h w' ?_ h2
 unfold OwnL; rw [<- zjm (z := z.cells) (k := k) (n := n) hzs h0 hy]; simpa using h1
end
def OwnInts (w : World) (base : Nat) (v : Value) (xs : List Int) : Prop := w.ownsRow base 3 1 v xs.length (xs.map (Value.int .i64))
theorem ze8 : Elem 54 3 1 8 (.int .i64 0) := .mk Tryz.underlying54 (by kernel_rfl) rfl (by decide)
theorem OwnInts.nil (w : World) (base : Nat) : OwnInts w base (.slice none 0 0) [] := World.ownsRow_nil _ _ _ _
theorem OwnInts.cells {w : World} {base : Nat} {v : Value} {xs : List Int} (h : OwnInts w base v xs) :
 ∃ a cap, v = .slice a xs.length cap /\ IntCells w a xs /\ (∀ p, a = some p -> base <= p.block /\ p.off = 0 /\ p.spot = none) := by
 rcases h.2 with ⟨h1, h2⟩ | ⟨g, cap, cur, hv, hb, hh, hn, hm, hs, ht⟩
 ·refine ⟨none, 0, by rw [h1, h2], ?_, by simp⟩;intro i hi; omega
 refine ⟨some ⟨g, 0, none⟩, cap, hv, ?_, by simp; exact hb⟩;intro i hi;refine ⟨g, 0, rfl, ?_⟩;subst hv;have := World.ownsRow.cellAt h i (by omega);rw [Nat.zero_add, this]
 simp [List.getD_eq_getElem?_getD, hi]
section
variable {ops : Array Oper} {rest : List Oper} {o : Oper} {a : Act} {Q : Exit -> Act -> World -> Prop}
end
def bc (b : Bool) : List Value := [.bool b]
theorem zra (a : Option Addr) (cap : Nat) (xs : List Int) (x : Int) (w : World) (hl : xs.length <= 1073741824) (hx : IntCells w a xs) :
 Calls Tryz.prog 124 #[.slice a xs.length cap, .int .i64 x] w fun e w' => e = .returned (.int .i64 (idx (fun y => x == y) xs)) /\ w = w' := by
 have HX := lh hx;clear hx;go_enter Tryz.func124, Tryz.ntmps124;go_wp2
 go_loop [5, 8] (fun v i => ∃ k : Nat, k <= xs.length /\ i = .int .i64 k /\ (∀ j, j < k -> (x == xs.getD j 0) = false)) (fun _ i => xs.length - (intOf i).toNat)
 case atStart => exact ⟨0, Nat.zero_le _, rfl, fun j h => absurd h (Nat.not_lt_zero _)⟩
 obtain ⟨k, hk, rfl, hno⟩ := hrel;have HN := lh hno;clear hno
 by_cases hlt : k < xs.length
 ·obtain ⟨b, off, rfl, hc⟩ := HX.o k hlt
  cases hpk : (x == xs[k])
  ·go_wp2;go_round
   case rel => exact ⟨k + 1, by omega, by go_num, fun j hj => by
    by_cases e : j = k
    ·subst e; simpa [List.getD_eq_getElem?_getD, hlt] using hpk
    exact HN.o j (by omega)⟩
   case measure => simp [intOf]; omega
  have HK := lh hpk;go_wp2;go_ret;exact ⟨zbb (zq9 _ xs k hlt HN.o HK.o).symm, rfl⟩
 have : k = xs.length := by omega
 subst this;go_wp2;go_ret;exact ⟨zbb (zoq _ xs HN.o).symm, rfl⟩
def has (xs : List Int) (x : Int) : Bool := xs.any fun y => x == y
theorem zwb {xs : List Int} {x : Int} : has xs x = true ↔ x ∈ xs := by simp [has]
theorem zl1 (a : Option Addr) (cap : Nat) (xs : List Int) (x : Int) (w : World) (hl : xs.length <= 1073741824) (hx : IntCells w a xs) :
 Calls Tryz.prog 101 #[.slice a xs.length cap, .int .i64 x] w fun e w' => e = .returned (.bool (has xs x)) /\ w = w' := by
 have HX := lh hx;clear hx;go_enter Tryz.func101, Tryz.ntmps101;go_wp2_with (go_at_call 124; refine (zra _ _ _ _ _ hl HX.o).mono ?_; rintro e w' ⟨rfl, rfl⟩);go_ret;exact ⟨zah (zq7 _ xs), rfl⟩
theorem ze2 {w : World} {ad : Addr} {xs : List Int} (h : IntCells w (some ad) xs) :
 ∀ j u, (xs.map (Value.int .i64))[j]? = some u -> w.cell? (ad.add j) = some u := by
 intro j u hj
 have hlt : j < xs.length := by
  rcases Nat.lt_or_ge j xs.length with h' | h'
  ·exact h'
  rw [List.getElem?_eq_none (by simpa using h')] at hj; simp at hj
 obtain ⟨b, off, e, hc⟩ := h j hlt;simp only [Option.some.injEq] at e;subst e
 have e1 : (⟨b, off, none⟩ : Addr).add j = ⟨b, off + j, none⟩ := by
  unfold Addr.add; split
  ·rename_i hj0; rw [hj0]; rfl
  simp
 rw [e1, hc]
 simp [hlt] at hj
 simp [List.getD_eq_getElem?_getD, hlt, hj]
theorem znq (xs : List Int) : ∀ u ∈ xs.map (Value.int .i64), u.oneCell' = true := by
 intro u hu; simp at hu; obtain ⟨x, _, rfl⟩ := hu; rfl
theorem zav (a : Option Addr) (cap : Nat) (xs : List Int) (w : World) (hl : xs.length <= 1073741824) (hx : IntCells w a xs) :
 Calls Tryz.prog 67 #[.slice a xs.length cap] w fun e w' => ∃ v, e = .returned v /\ OwnInts w' w.heap.size v xs /\ Below w.heap.size w w' := by
 have hsl := fun (w : World) (a : Option Addr) (l c n1 c1 : Nat) => Lib.run_eql_slice_nil w 54 3 a l c n1 c1 Tryz.underlying54
 have HX := lh hx;clear hx
 cases a with
 | none =>
   have hz : xs = [] := by
    cases xs with
    | nil => rfl
    | cons x xs => obtain ⟨b, off, e, _⟩ := HX.o 0 (by simp); simp at e
   subst hz;go_enter Tryz.func67, Tryz.ntmps67;go_wp2;go_ret;exact ⟨_, rfl, OwnInts.nil _ _, Below.refl _ _⟩
 | some ad =>
   have H0 : Hid ((w.alloc (.cells #[] 3)).ownsRow w.heap.size 3 1 (.slice (some ⟨w.heap.size, 0, none⟩) 0 0) 0 []) := World.ownsRow_lit w #[] 0 (Nat.le_refl _) (by unfold maxLen; omega) rfl;have HC := lh (ze2 (HX.o.keep ((Below.refl _ _).alloc (Nat.le_refl _) (.cells #[] 3))))
   have hb2 : (0 + xs.length) * 8 <= 140737488355328 := by omega
   have hb1 : 0 + xs.length <= maxLen := by unfold maxLen; omega
   have H1 := lh hb1;have H2 := lh hb2;clear hb1 hb2;go_enter Tryz.func67, Tryz.ntmps67;go_wp2_with (at_builtin; refine app ze8 rfl _ _ rfl w.heap.size _ _ _ rfl H0.o ad xs.length cap (xs.map (Value.int .i64)) rfl (by simp) HC.o (znq xs) H1.o H2.o (by simp) ?_);intro v' w1 hown hgrow _;have HO := lh hown;have HG := lh hgrow;clear hown hgrow;go_wp2;go_ret;exact ⟨_, rfl, HO.o, ((Below.refl _ _).alloc (Nat.le_refl _) _).grown HG.o (by simp) (by simp [Value.ownBlock])⟩
end Go.Proofs.YtflhbcnhaeijbaaGreatDoor
namespace Cen
def ofL (xs : List Int) : St := xs.foldl St.add St.zero
theorem zvg (xs : List Int) : (ofL xs).ok := by
 have : ∀ s : St, s.ok -> (xs.foldl St.add s).ok := by
  induction xs with
  | nil => intro s h; exact h
  | cons x xs ih => intro s h; exact ih _ (St.add_ok h x)
 exact this _ St.zero_ok
def insU (vs : List St) (s : St) (ins : List Int) : St := ins.foldl (fun s k => s.union (vs.getD k.toNat St.zero)) s
def varsAcc : List Nd -> List St -> List St
 | [], vs => vs
 | x :: l, vs => varsAcc l (vs ++ [insU vs (ofL [zac x.lit]) x.ins])
def varsL (l : List Nd) : List St := varsAcc l []
theorem varsAcc_append (l r : List Nd) (vs : List St) : varsAcc (l ++ r) vs = varsAcc r (varsAcc l vs) := by
 induction l generalizing vs with
 | nil => rfl
 | cons y l ih => simp only [List.cons_append, varsAcc]; exact ih _
theorem varsL_snoc (l : List Nd) (x : Nd) : varsL (l ++ [x]) = varsL l ++ [insU (varsL l) (ofL [zac x.lit]) x.ins] := varsAcc_append l [x] []
theorem varsAcc_length (l : List Nd) (vs : List St) : (varsAcc l vs).length = vs.length + l.length := by
 induction l generalizing vs with
 | nil => rfl
 | cons y l ih => simp only [varsAcc, ih]; simp; omega
theorem varsL_length (l : List Nd) : (varsL l).length = l.length := by simp [varsL, varsAcc_length]
theorem insU_ok {vs : List St} (hv : ∀ s ∈ vs, s.ok) (ins : List Int) : ∀ {s : St}, s.ok -> (insU vs s ins).ok := by
 induction ins with
 | nil => intro s h; exact h
 | cons k ins ih =>
   intro s h;refine ih (s := s.union (vs.getD k.toNat St.zero)) (St.union_ok h ?_)
   by_cases hk : k.toNat < vs.length
   ·simp only [List.getD_eq_getElem?_getD, List.getElem?_eq_getElem hk]; exact hv _ (List.getElem_mem hk)
   simp only [List.getD_eq_getElem?_getD, List.getElem?_eq_none (Nat.le_of_not_lt hk)]; exact St.zero_ok
theorem varsAcc_ok (l : List Nd) : ∀ {vs : List St}, (∀ s ∈ vs, s.ok) -> ∀ s ∈ varsAcc l vs, s.ok := by
 induction l with
 | nil => intro vs h; exact h
 | cons y l ih =>
   intro vs h
   refine ih fun s hs => ?_
   rcases List.mem_append.1 hs with h1 | h1
   ·exact h s h1
   simp at h1; subst h1; exact insU_ok h _ (zvg _)
theorem varsL_ok (l : List Nd) : ∀ s ∈ varsL l, s.ok := varsAcc_ok l (by simp)
theorem insU_snoc (vs : List St) (s : St) (ins : List Int) (k : Int) : insU vs s (ins ++ [k]) = (insU vs s ins).union (vs.getD k.toNat St.zero) := by simp [insU]
end Cen
namespace Go.Proofs.YtflhbcnhaeijbaaGreatDoor
open Go.RowKit Cen
abbrev sts (s : St) : Array Value := #[.int .u64 (s.a : Int), .int .u64 (s.b : Int)]
theorem Blk.putSet {w : World} {b : Nat} {s : St} (h : Blk w b (sts s) 34) (t : St) :
 Blk ((w.setCell ⟨b, 0, none⟩ (.int .u64 (t.a : Int))).setCell ⟨b, 1, none⟩ (.int .u64 (t.b : Int))) b (sts t) 34 := (h.set 0 _).set 1 _
theorem Blk.sc {w : World} {b : Nat} {s : St} {t : TypeId} (h : Blk w b (sts s) t) :
 w.cell? ⟨b, 0, none⟩ = some (.int .u64 (s.a : Int)) /\ w.cell? ⟨b, 1, none⟩ = some (.int .u64 (s.b : Int)) /\ w.frozen? ⟨b, 0, none⟩ = false /\ w.frozen? ⟨b, 1, none⟩ = false :=
 ⟨h.cell 0, h.cell 1, h.fr 0, h.fr 1⟩
theorem zay {w w' : World} (h : Below w.drew.heap.size w.drew w') : Below w.heap.size w w' := (Below.refl w.heap.size w).drew.trans (h.mono (Nat.le_refl w.heap.size))
theorem Blk.drewCall {w w' : World} {b : Nat} {s : St} {t : TypeId} (h : Blk w b (sts s) t) (hb : Below w.drew.heap.size w.drew w') :
 w'.cell? ⟨b, 0, none⟩ = some (.int .u64 (s.a : Int)) /\ w'.cell? ⟨b, 1, none⟩ = some (.int .u64 (s.b : Int)) /\ w'.frozen? ⟨b, 0, none⟩ = false /\ w'.frozen? ⟨b, 1, none⟩ = false :=
 (h.later (zay hb)).sc
theorem zr7 (a : Option Addr) (cap : Nat) (xs : List Int) (w : World) (hl : xs.length <= 1073741824) (hx : IntCells w a xs) :
 Calls Tryz.prog 52 #[.slice a xs.length cap] w fun e w' => e = .returned (stv (ofL xs)) /\ Below w.heap.size w w' := by
 have HX := lh hx;clear hx;go_enter Tryz.func52, Tryz.ntmps52;go_wp2
 go_loopw [8] (fun i wr => ∃ k : Nat, k <= xs.length /\ i = .int .i64 k /\ Blk wr (w.heap.size + 1) (sts (ofL (xs.take k))) 34 /\ Blk wr w.heap.size (sts St.zero) 34 /\ Below w.heap.size w wr) (fun i _ => xs.length - (intOf i).toNat)
 case atStart => exact ⟨0, Nat.zero_le _, rfl, Blk.new' (w.alloc _) (by simp) (sts St.zero) 34, (Blk.new w _ _).alloc _, ((Below.refl _ _).alloc (Nat.le_refl _) _).alloc (by simp) _⟩
 obtain ⟨k, hk, rfl, hs, hz, hbel⟩ := hrel;obtain ⟨c0, c1, f0, f1⟩ := hs.sc;obtain ⟨d0, d1, e0, e1⟩ := hz.sc;have HS := lh hs;have HZ := lh hz;have HB := lh hbel;have HOK := lh (zvg (xs.take k));clear hs hz hbel
 by_cases hlt : k < xs.length
 ·obtain ⟨b, off, rfl, hc0⟩ := HX.o k hlt;have hc := zaa HB.o hc0;clear hc0;generalize hxe : xs.getD k 0 = x at hc
  have HXE : Hid (ofL (xs.take (k + 1)) = (ofL (xs.take k)).add x) := by
   show _ = _; rw [List.take_succ_eq_append_getElem hlt]; unfold ofL; rw [List.foldl_append]; rw [<- hxe]; simp [List.getD_eq_getElem?_getD, hlt]
  clear hxe;generalize ofL (xs.take k) = s at *;go_wp2_with fail;refine (zhm s x _ HOK.o).mono ?_;rintro e w1 ⟨rfl, hb1⟩;have hs1 := HS.o.later hb1;have hz1 := HZ.o.later hb1;obtain ⟨g0, g1, k0, k1⟩ := hs1.sc;have HS1 := lh hs1;have HZ1 := lh hz1;have HB1 := lh hb1;clear hs1 hz1 hb1;go_wp2;go_roundw
  case rel => 
   refine ⟨k + 1, by omega, by go_num, ?_, ?_, ?_⟩
   ·rw [HXE.o]; exact HS1.o.putSet _
   ·exact (HZ1.o.other _ _ (by simp)).other _ _ (by simp)
   exact ((HB.o.trans (HB1.o.mono HB.o.size)).setCell (by simp) _).setCell (by simp) _
  case measure => simp [intOf]; omega
 have : k = xs.length := by omega
 subst this;rw [List.take_length] at *;go_wp2;exact bodyPost_ret (v := stv (ofL xs)) (by simp [results, Tryz.results52, go_sem, d0, d1]) rfl ⟨rfl, (HB.o.setCell (Nat.le_refl _) _).setCell (Nat.le_refl _) _⟩
def setB (f : Nat -> Bool) : Nat -> St
 | 0 => St.zero
 | k + 1 => if f (k + 1) then (setB f k).add ((k : Int) + 1) else setB f k
theorem zi7 (f : Nat -> Bool) : ∀ k, (setB f k).ok
 | 0 => St.zero_ok
 | k + 1 => by unfold setB; split; exact St.add_ok (zi7 f k) _; exact zi7 f k
theorem zld (f : Nat -> Bool) : ∀ (k : Nat) (v : Int), k <= 128 -> (setB f k).mem v = (decide (1 <= v) && (decide (v <= k) && f v.toNat))
 | 0, v, _ => by
   rw [setB, St.mem_zero]
   by_cases h : 1 <= v
   ·rw [decide_eq_false (show ¬ v <= ((0 : Nat) : Int) by omega)]; simp
   rw [decide_eq_false h]; simp
 | k + 1, v, hk => by
   have ih := zld f k v (by omega)
   by_cases e : v = (k : Int) + 1
   ·have e2 : v.toNat = k + 1 := by omega
    rw [decide_eq_true (show 1 <= v by omega), decide_eq_true (show v <= ((k + 1 : Nat) : Int) by omega), e2];rw [decide_eq_false (show ¬ v <= (k : Int) by omega)] at ih
    show (if f (k + 1) then (setB f k).add ((k : Int) + 1) else setB f k).mem v = _
    cases hf : f (k + 1) with
    | false => simp only [Bool.false_eq_true, if_false]; rw [ih]; simp
    | true => simp only [if_true]; rw [St.mem_add, e, decide_eq_true (show (1 : Int) <= (k : Int) + 1 by omega), decide_eq_true (show (k : Int) + 1 <= 128 by omega)]; simp
   have e3 : decide (v <= ((k + 1 : Nat) : Int)) = decide (v <= (k : Int)) := by rw [Bool.eq_iff_iff, decide_eq_true_iff, decide_eq_true_iff]; omega
   rw [e3, <- ih]
   show (if f (k + 1) then (setB f k).add ((k : Int) + 1) else setB f k).mem v = _
   split
   ·rw [St.mem_add, decide_eq_false e]; simp
   rfl
theorem zi6 (f : Nat -> Bool) {v : Int} (h1 : 1 <= v) : setB f v.toNat = if f v.toNat then (setB f (v.toNat - 1)).add v else setB f (v.toNat - 1) := by
 obtain ⟨k, rfl⟩ : ∃ k : Nat, v = (k : Int) + 1 := ⟨(v - 1).toNat, by omega⟩
 rw [show ((k : Int) + 1).toNat = k + 1 by omega]; rfl
def bl (ys : List Int) : List Bool := (List.range 129).map fun j : Nat => decide (1 <= j) && ys.contains (j : Int)
def zcy (n : Int) : St := setB (fun j : Nat => decide ((j : Int) <= n)) 128
theorem allSt_ok (n : Int) : (zcy n).ok := zi7 _ _
theorem zqn (n v : Int) : (zcy n).mem v = (decide (1 <= v) && (decide (v <= 128) && decide (v <= n))) := by
 unfold zcy;rw [zld _ _ _ (Nat.le_refl _)]
 by_cases h : 1 <= v
 ·rw [show ((v.toNat : Nat) : Int) = v by omega]; rfl
 rw [decide_eq_false h]; rfl
theorem insOk_any (ins : List Int) (b : Int) : zhb ins b = !(ins.any fun i => decide (i < 0) || decide (b <= i)) := by
 rw [zhb, List.not_any_eq_all_not]
 congr 1; funext i
 rw [Bool.eq_iff_iff]; simp
theorem formed_any (kind lit n before : Int) (a : Option Addr) (cap : Nat) (ins : List Int) (w : World) (hl : ins.length <= 1073741824) (hx : IntCells w a ins) :
 Calls Tryz.prog 76 #[.agg #[.int .i64 kind, .int .i64 lit, .slice a ins.length cap], .int .i64 n, .int .i64 before] w
  fun e w' => e = .returned (.bool (ndOk ⟨kind, lit, ins⟩ n before)) /\ Below w.heap.size w w' := by
 have HI := lh (insOk_any ins before);have HX := lh hx
 have HE : Hid (((ins.length : Int) == 0) = decide (ins = [])) := by show _ = _; rw [Bool.eq_iff_iff]; simp
 have HF := fun (e : Bool) (h : (ins.any fun i => decide (i < 0) || decide (before <= i)) = e) =>
  fun (W : World) (hb : Below w.heap.size w W) (q : Addr) (hq : W.cell? q = some (.int .i64 before)) =>
   (zd4 a cap ins 111 #[.pointer (some q)] (fun i => decide (i < 0) || decide (before <= i)) W hl (hx.keep hb)
     (fun x _ => formed1_any x before q W hq) callable_formed1).mono (R' := fun E w' => E = .returned (.bool e) /\ W = w') (fun E w' ⟨h1, h2⟩ => ⟨by rw [h1, h], h2⟩)
 clear hx
 have hB : Below w.heap.size w ((w.alloc (.cells #[.int .i64 kind, .int .i64 lit, .slice a ins.length cap] 110)).alloc (.cells #[.int .i64 before] 3)) :=
  ((Below.refl _ _).alloc (Nat.le_refl _) _).alloc (by simp) _
 have HB := lh hB;clear hB
 have HQ : Hid (((w.alloc (.cells #[.int .i64 kind, .int .i64 lit, .slice a ins.length cap] 110)).alloc (.cells #[.int .i64 before] 3)).cell? ⟨w.heap.size + 1, 0, none⟩ = some (.int .i64 before)) := by
  show _ = _
  rw [World.cell?_alloc_at _ _ _ _ (by simp)]; rfl
 cases hany : (ins.any fun i => decide (i < 0) || decide (before <= i))
 ·have H2 := lh (HF false hany)
  have hr : ndOk ⟨kind, lit, ins⟩ n before = zcr ⟨kind, lit, ins⟩ n := by simp [ndOk, HI.o, hany]
  rw [hr]; clear hr hany HF
  by_cases k2 : kind = 2
  ·subst k2
   cases hv : zas lit n
   all_goals
    have H3 := lh (fun W => (zde lit n W).mono (R' := fun E w' => E = .returned (.bool _) /\ W = w') (fun E w' ⟨h1, h2⟩ => ⟨by rw [h1, hv], h2⟩));have HV := lh hv;clear hv;go_enter Tryz.func76, Tryz.ntmps76;go_wp2_with (first | (go_at_call 110; refine (H2.o _ HB.o _ HQ.o).mono ?_; rintro e w' ⟨rfl, rfl⟩) | (go_at_call 37; refine (H3.o _).mono ?_; rintro e w' ⟨rfl, rfl⟩));go_ret;exact ⟨zah (by simp [zcr, HV.o]; try exact HE.o), HB.o⟩
  have hk2 : (kind == 2) = false := by simpa using k2
  by_cases k0 : kind = 0 \/ kind = 1 \/ kind = 3 \/ kind = 4
  ·by_cases l0 : lit = 0
   ·subst l0
    rcases k0 with rfl | rfl | rfl | rfl
    all_goals
     clear k2 hk2;go_enter Tryz.func76, Tryz.ntmps76;go_wp2_with (go_at_call 110; refine (H2.o _ HB.o _ HQ.o).mono ?_; rintro e w' ⟨rfl, rfl⟩);go_ret;exact ⟨zah (by simp [zcr]; try exact HE.o), HB.o⟩
   have hl0 : (lit == 0) = false := by simpa using l0
   rcases k0 with rfl | rfl | rfl | rfl
   all_goals
    clear k2 hk2 l0;go_enter Tryz.func76, Tryz.ntmps76;go_wp2_with (go_at_call 110; refine (H2.o _ HB.o _ HQ.o).mono ?_; rintro e w' ⟨rfl, rfl⟩);go_ret;exact ⟨zah (by simp [zcr]; intro h; simp [h] at hl0), HB.o⟩
  have h0 : (kind == 0) = false := by simp; omega
  have h1 : (kind == 1) = false := by simp; omega
  have h3 : (kind == 3) = false := by simp; omega
  have h4 : (kind == 4) = false := by simp; omega
  have hr : zcr ⟨kind, lit, ins⟩ n = false := by
   unfold zcr; simp only; rw [if_neg (by omega), if_neg (by omega), if_neg (by omega)]
  rw [hr];clear k2 k0 hr;go_enter Tryz.func76, Tryz.ntmps76;go_wp2_with (go_at_call 110; refine (H2.o _ HB.o _ HQ.o).mono ?_; rintro e w' ⟨rfl, rfl⟩);go_ret;exact ⟨rfl, HB.o⟩
 have H2 := lh (HF true hany)
 have hr : ndOk ⟨kind, lit, ins⟩ n before = false := by simp [ndOk, HI.o, hany]
 rw [hr]; clear hr hany HF;go_enter Tryz.func76, Tryz.ntmps76;go_wp2_with (go_at_call 110; refine (H2.o _ HB.o _ HQ.o).mono ?_; rintro e w' ⟨rfl, rfl⟩);go_ret;exact ⟨rfl, HB.o⟩
def chk (t : Nt) : Int := if zdi t then 0 else 1
theorem chk_bad {t : Nt} (h : zop t = false) : chk t = 1 := by simp [chk, zdi, h]
theorem chk_node {t : Nt} {k : Nat} (hk : k < t.l.length) (h : ndOk (t.l.getD k default) t.n k = false) : chk t = 1 := by
 have : zdi t = false := by
  rw [Bool.eq_false_iff]; intro h'
  simp [zdi] at h'
  have := h'.2 k hk;rw [h] at this; exact absurd this (by simp)
 simp [chk, this]
theorem chk_good {t : Nt} (h : zop t = true) (h' : zno t.l t.n t.l.length) : chk t = 0 := by simp [chk, zdi, h, h']
theorem check_any (n : Int) (a : Option Addr) (cap : Nat) (l : List Nd) (w : World) (hl : l.length <= 1073741824) (hx : NdCells w a l) :
 Calls Tryz.prog 51 #[.agg #[.int .i64 n, .slice a l.length cap]] w fun e w' => e = .returned (.int .i64 (chk ⟨n, l⟩)) /\ Below w.heap.size w w' := by
 have HB := lh ((Below.refl w.heap.size w).alloc (Nat.le_refl _) (.cells #[.int .i64 n, .slice a l.length cap] 62))
 by_cases hh : zop ⟨n, l⟩ = true
 ·have HH := lh hh
  simp [zop] at hh
  obtain ⟨⟨⟨h1, h2⟩, h3⟩, h4⟩ := hh
  have h1' : decide (n < 0) = false := by simp; omega
  have h2' : decide (128 < n) = false := by simp; omega
  have h3' : decide ((l.length : Int) < 1) = false := by simp; omega
  have h4' : decide ((65536 : Int) < (l.length : Int)) = false := by simp; omega
  have HX := lh hx;clear hx;go_enter Tryz.func51, Tryz.ntmps51;go_wp2
  go_loopw [28] (fun i wr => ∃ k : Nat, k <= l.length /\ i = .int .i64 k /\ zno l n k /\ Below (w.heap.size + 1) (w.alloc (.cells #[.int .i64 n, .slice a l.length cap] 62)) wr) (fun i _ => l.length - (intOf i).toNat)
  case atStart => exact ⟨0, Nat.zero_le _, rfl, fun j h => absurd h (Nat.not_lt_zero _), Below.refl _ _⟩
  obtain ⟨k, hk, rfl, hno, hb⟩ := hrel;have HN := lh hno;have HBr := lh hb;clear hno hb
  by_cases hlt : k < l.length
  ·obtain ⟨b, off, rfl, hc⟩ := (HX.o.keep HB.o) k hlt;generalize hxe : l.getD k default = x at hc;have HXE := lh hxe;clear hxe
   have hbk : Below (w.alloc (.cells #[.int .i64 n, .slice (some ⟨b, off, none⟩) l.length cap] 62)).heap.size (w.alloc (.cells #[.int .i64 n, .slice (some ⟨b, off, none⟩) l.length cap] 62)) wr := by simpa using HBr.o
   have g0 : wr.cell? ⟨w.heap.size, 0, none⟩ = some (.int .i64 n) := zaa hbk (by rw [World.cell?_alloc_at _ _ _ _ rfl]; rfl);obtain ⟨c1, c2, a', cap', c3, ci, cl⟩ := hc.keep hbk;have hsz : w.heap.size < wr.heap.size := zak g0;have hbz : b < wr.heap.size := zak c1;have HCI := lh ci;clear ci hbk hc
   cases hnd : ndOk x n k
   all_goals
    have HND := lh hnd;clear hnd;go_wp2_with fail;refine (formed_any _ _ _ _ _ _ _ _ cl (HCI.o.keep ((Below.refl _ _).alloc (Nat.le_refl _) _))).mono ?_;rw [show (⟨x.kind, x.lit, x.ins⟩ : Nd) = x from rfl, HND.o];rintro e w1 ⟨rfl, hb1⟩
   ·go_wp2;go_ret;refine ⟨zbb (chk_node (k := k) hlt (by show ndOk (l.getD k default) n k = false; rw [HXE.o]; exact HND.o)).symm, ?_⟩;exact (HB.o.trans (HBr.o.mono (by omega))).trans ((((Below.refl _ _).alloc (Nat.le_refl _) _).trans (hb1.mono (by simp))).mono (by omega))
   go_wp2;go_roundw
   case rel =>
    refine ⟨k + 1, by omega, by go_num, fun j hj => ?_, ?_⟩
    ·by_cases e : j = k
     ·subst e; rw [HXE.o]; exact HND.o
     exact HN.o j (by omega)
    exact HBr.o.trans ((((Below.refl _ _).alloc (Nat.le_refl _) _).trans (hb1.mono (by simp))).mono (by omega))
   case measure => simp [intOf]; omega
  have : k = l.length := by omega
  subst this;go_wp2;go_ret;exact ⟨zbb (chk_good HH.o HN.o).symm, HB.o.trans (HBr.o.mono (by omega))⟩
 have hr : chk ⟨n, l⟩ = 1 := chk_bad (by simpa using hh);rw [hr]
 have hd : ¬ (0 <= n /\ n <= 128 /\ 1 <= l.length /\ l.length <= 65536) := by intro h; apply hh; simp [zop]; omega
 clear hh hr hx
 by_cases h1 : n < 0
 ·have h1' : decide (n < 0) = true := by simpa using h1
  go_enter Tryz.func51, Tryz.ntmps51;go_wp2;go_ret;exact ⟨rfl, HB.o⟩
 have h1' : decide (n < 0) = false := by simpa using h1
 by_cases h2 : 128 < n
 ·have h2' : decide (128 < n) = true := by simpa using h2
  go_enter Tryz.func51, Tryz.ntmps51;go_wp2;go_ret;exact ⟨rfl, HB.o⟩
 have h2' : decide (128 < n) = false := by simpa using h2
 by_cases h3 : (l.length : Int) < 1
 ·have h3' : decide ((l.length : Int) < 1) = true := by simpa using h3
  go_enter Tryz.func51, Tryz.ntmps51;go_wp2;go_ret;exact ⟨rfl, HB.o⟩
 have h3' : decide ((l.length : Int) < 1) = false := by simpa using h3
 have h4' : decide ((65536 : Int) < (l.length : Int)) = true := by simp; omega
 go_enter Tryz.func51, Tryz.ntmps51;go_wp2;go_ret;exact ⟨rfl, HB.o⟩
end Go.Proofs.YtflhbcnhaeijbaaGreatDoor
