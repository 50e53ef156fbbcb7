/- Part of the proofs that laws of censuslaw24 return true for every input, where the tables that the rows list are laid. Texts: Flat, Mem, Slices, Cp1, CpX, SetOf. -/
import Derived.Test.YtfmmhjphopikgaaGreatDoorYC1
import Derived.Deep.RegionWith
set_option maxHeartbeats 8000000
set_option maxRecDepth 100000
set_option linter.unusedSimpArgs false
set_option linter.unusedVariables false
namespace Cen
variable {α β : Type} {enc : α -> List β} {k : Nat}
theorem zib (hk : ∀ x, (enc x).length = k) (l : List α) : (l.flatMap enc).length = l.length * k := by
 induction l with
 | nil => simp
 | cons x l ih => rw [List.flatMap_cons, List.length_append, ih, hk, List.length_cons, Nat.succ_mul]; omega
theorem zoj (hk : ∀ x, (enc x).length = k) (l : List α) (i j : Nat) (hi : i < l.length) (hj : j < k) : (l.flatMap enc)[i * k + j]? = (enc l[i])[j]? := by
 induction l generalizing i with
 | nil => simp at hi
 | cons x l ih =>
   rw [List.flatMap_cons]
   cases i with
   | zero => rw [List.getElem?_append_left (by rw [hk]; omega)]; simp
   | succ i =>
     have e : (i + 1) * k + j = (enc x).length + (i * k + j) := by rw [hk, Nat.succ_mul]; omega
     rw [e, List.getElem?_append_right (by omega), Nat.add_sub_cancel_left, ih i (by simpa using hi)]
     simp
theorem zol (hk : ∀ x, (enc x).length = k) (l : List α) (i j : Nat) (y : β) (hi : i < l.length) (hj : j < k) :
 (l.flatMap enc).set (i * k + j) y = (l.take i).flatMap enc ++ (enc l[i]).set j y ++ (l.drop (i + 1)).flatMap enc := by
 have h1 : l = l.take i ++ l[i] :: l.drop (i + 1) := by simp
 conv => lhs; rw [h1]
 rw [List.flatMap_append, List.flatMap_cons]
 have hl : ((l.take i).flatMap enc).length = i * k := by rw [zib hk]; simp; rw [Nat.min_eq_left (by omega)]
 rw [List.set_append_right _ _ (by rw [hl]; omega), hl, Nat.add_sub_cancel_left, List.set_append_left _ _ (by rw [hk]; exact hj), List.append_assoc]
theorem zok (l : List α) (i : Nat) (y : α) (hi : i < l.length) : (l.set i y).flatMap enc = (l.take i).flatMap enc ++ enc y ++ (l.drop (i + 1)).flatMap enc := by
 rw [List.set_eq_take_append_cons_drop, if_pos hi, List.flatMap_append, List.flatMap_cons, List.append_assoc]
theorem zq2 (hk : ∀ x, (enc x).length = 1) (l : List α) (i : Nat) (y : α) (c : β) (hi : i < l.length) (hy : enc y = [c]) :
 (l.flatMap enc).set i c = (l.set i y).flatMap enc := by
 have := zol hk l i 0 c hi (by omega);simp only [Nat.mul_one, Nat.add_zero] at this;rw [this, zok l i y hi, hy];have h := hk l[i]
 match h' : enc l[i], h with
 | [d], _ => rfl
theorem zq3 (hk : ∀ x, (enc x).length = 2) (l : List α) (i : Nat) (y : α) (c d : β) (hi : i < l.length) (hy : enc y = [c, d]) :
 ((l.flatMap enc).set (i * 2) c).set (i * 2 + 1) d = (l.set i y).flatMap enc := by
 have h0 := zol hk l i 0 c hi (by omega);simp only [Nat.add_zero] at h0;rw [h0, zok l i y hi, hy]
 have hl : ((l.take i).flatMap enc).length = i * 2 := by rw [zib hk]; simp; rw [Nat.min_eq_left (by omega)]
 have h := hk l[i]
 match h' : enc l[i], h with
 | [d0, d1], _ =>
   rw [List.append_assoc, List.set_append_right _ _ (by omega), hl, Nat.add_sub_cancel_left]
   simp
theorem zjk (y : α) (n : Nat) : (List.replicate n y).flatMap enc = (List.replicate n (enc y)).flatten := by
 induction n with
 | zero => rfl
 | succ n ih => simp [List.replicate_succ, ih]
end Cen
namespace Go.Proofs.YtfmmhjphopikgaaGreatDoor
open Go.RowKit Cen
structure Kp (M : Nat -> Prop) (w w' : World) : Prop where
 os : w'.os = w.os
 tape : w'.tape = w.tape
 output : w'.output = w.output
 size : w.heap.size <= w'.heap.size
 block : ∀ k, k < w.heap.size -> ¬ M k -> w'.heap[k]? = w.heap[k]?
theorem Kp.refl (M : Nat -> Prop) (w : World) : Kp M w w := ⟨rfl, rfl, rfl, Nat.le_refl _, fun _ _ _ => rfl⟩
theorem Kp.trans {M : Nat -> Prop} {a b c : World} (h : Kp M a b) (k : Kp M b c) : Kp M a c :=
 ⟨k.os.trans h.os, k.tape.trans h.tape, k.output.trans h.output, Nat.le_trans h.size k.size, fun i hi hm => (k.block i (Nat.lt_of_lt_of_le hi h.size) hm).trans (h.block i hi hm)⟩
theorem Kp.mono {M M' : Nat -> Prop} {w w' : World} (h : Kp M w w') (hm : ∀ k, k < w.heap.size -> M k -> M' k) : Kp M' w w' :=
 ⟨h.os, h.tape, h.output, h.size, fun k hk hn => h.block k hk fun x => hn (hm k hk x)⟩
theorem Kp.below {M : Nat -> Prop} {w w' : World} (h : Below w.heap.size w w') : Kp M w w' := ⟨h.os, h.tape, h.output, h.size, fun k hk _ => h.block k hk⟩
theorem Kp.toBelow {B : Nat} {M : Nat -> Prop} {w w' : World} (h : Kp M w w') (hB : B <= w.heap.size) (hm : ∀ k, k < B -> ¬ M k) : Below B w w' :=
 ⟨h.os, h.tape, h.output, h.size, fun k hk => h.block k (Nat.lt_of_lt_of_le hk hB) (hm k hk)⟩
theorem Kp.grown {M : Nat -> Prop} {w w' : World} {row : Option Nat} (h : w.grownBy w' row) (hm : ∀ k, row = some k -> M k) : Kp M w w' :=
 ⟨h.os, h.tape, h.output, h.size, fun k hk hn => h.block k hk fun e => hn (hm k e.symm)⟩
theorem Kp.alloc (M : Nat -> Prop) (w : World) (o : Obj) : Kp M w (w.alloc o) := .below ((Below.refl _ _).alloc (Nat.le_refl _) o)
theorem Kp.setCell {M : Nat -> Prop} (w : World) (a : Addr) (u : Value) (h : M a.block) : Kp M w (w.setCell a u) :=
 ⟨rfl, rfl, rfl, by simp [World.setCell], fun k _ hk => Below.heap_setCell _ _ _ _ fun e => hk (e ▸ h)⟩
theorem Kp.drew (M : Nat -> Prop) (w : World) : Kp M w w.drew := .below (Below.refl _ _).drew
theorem Kp.cell {M : Nat -> Prop} {w w' : World} (h : Kp M w w') {p : Addr} {v : Value} (hc : w.cell? p = some v) (hm : ¬ M p.block) : w'.cell? p = some v := by
 rw [World.cell?_of_block (w := w) (h.block p.block (zak hc) hm)]; exact hc
theorem Kp.heap {M : Nat -> Prop} {w w' : World} (h : Kp M w w') {k : Nat} {o : Obj} (hc : w.heap[k]? = some o) (hm : ¬ M k) : w'.heap[k]? = some o := by
 rw [h.block k (lt_of_block hc) hm]; exact hc
theorem IntCells.kept {M : Nat -> Prop} {w w' : World} {a : Option Addr} {xs : List Int} (h : IntCells w a xs) (hb : Kp M w w') (hm : ∀ p, a = some p -> ¬ M p.block) : IntCells w' a xs :=
 fun i hi => let ⟨b, off, e, hc⟩ := h i hi; ⟨b, off, e, hb.cell hc (hm ⟨b, off, none⟩ e)⟩
def Blk (w : World) (b : Nat) (cs : Array Value) (t : TypeId) : Prop := w.heap[b]? = some (.cells cs t (0, 0))
theorem Blk.cell {w : World} {b : Nat} {cs : Array Value} {t : TypeId} (h : Blk w b cs t) (j : Nat) : w.cell? ⟨b, j, none⟩ = cs[j]? := by simp only [World.cell?]; rw [show w.heap[b]? = _ from h]; rfl
theorem Blk.fr {w : World} {b : Nat} {cs : Array Value} {t : TypeId} (h : Blk w b cs t) (j : Nat) : w.frozen? ⟨b, j, none⟩ = false := by simp only [World.frozen?]; rw [show w.heap[b]? = _ from h]; simp
theorem Blk.lt {w : World} {b : Nat} {cs : Array Value} {t : TypeId} (h : Blk w b cs t) : b < w.heap.size := lt_of_block h
theorem Blk.new (w : World) (cs : Array Value) (t : TypeId) : Blk (w.alloc (.cells cs t)) w.heap.size cs t := heap_alloc_new w _
theorem Blk.new' (w : World) {b : Nat} (h : w.heap.size = b) (cs : Array Value) (t : TypeId) : Blk (w.alloc (.cells cs t)) b cs t := h ▸ heap_alloc_new w _
theorem Blk.kept {M : Nat -> Prop} {w w' : World} {b : Nat} {cs : Array Value} {t : TypeId} (h : Blk w b cs t) (k : Kp M w w') (hm : ¬ M b) : Blk w' b cs t := k.heap h hm
theorem Blk.alloc {w : World} {b : Nat} {cs : Array Value} {t : TypeId} (h : Blk w b cs t) (o : Obj) : Blk (w.alloc o) b cs t := by
 show (w.alloc o).heap[b]? = _; rw [Below.heap_alloc _ _ _ h.lt]; exact h
theorem Blk.set {w : World} {b : Nat} {cs : Array Value} {t : TypeId} (h : Blk w b cs t) (j : Nat) (v : Value) : Blk (w.setCell ⟨b, j, none⟩ v) b (cs.setIfInBounds j v) t := heap_setCell_same w b j cs t v h
theorem Blk.other {w : World} {b : Nat} {cs : Array Value} {t : TypeId} (h : Blk w b cs t) (p : Addr) (v : Value) (hp : p.block ≠ b) : Blk (w.setCell p v) b cs t := by
 show (w.setCell p v).heap[b]? = _; rw [Below.heap_setCell _ _ _ _ (fun e => hp e.symm)]; exact h
theorem Blk.later {w w' : World} {b : Nat} {cs : Array Value} {t : TypeId} (h : Blk w b cs t) (k : Below w.heap.size w w') : Blk w' b cs t := by
 show w'.heap[b]? = _; rw [k.block b h.lt]; exact h
theorem Blk.laterB {B : Nat} {w w' : World} {b : Nat} {cs : Array Value} {t : TypeId} (h : Blk w b cs t) (k : Below B w w') (hb : b < B) : Blk w' b cs t := by
 show w'.heap[b]? = _; rw [k.block b hb]; exact h
theorem World.size_setCell' (w : World) (p : Addr) (v : Value) : (w.setCell p v).heap.size = w.heap.size := by simp [World.setCell]
def Elem (t e : TypeId) (size bytes : Nat) (z : Value) : Prop :=
 Tryz.prog.underlying t = some (.slice e) /\ ∃ i, Tryz.prog.info? e = some i /\ i.zero = some z /\ i.size = size /\ i.bytes = bytes /\ z.cells.size = size /\ 0 < size
theorem Elem.mk {t e : TypeId} {size bytes : Nat} {z : Value} (h : Tryz.prog.underlying t = some (.slice e)) (k : (Tryz.prog.info? e).map (fun i => (i.zero, i.size, i.bytes)) = some (some z, size, bytes))
 (hz : z.cells.size = size) (h0 : 0 < size) : Elem t e size bytes z := by
 refine ⟨h, ?_⟩
 cases hi : Tryz.prog.info? e with
 | none => rw [hi] at k; simp at k
 | some i =>
   rw [hi] at k; simp at k;exact ⟨i, rfl, k.1, k.2.1, k.2.2, hz, h0⟩
section
variable {ops : Array Oper} {rest : List Oper} {o : Oper} {a : Act} {Q : Exit -> Act -> World -> Prop} {t e : TypeId} {size bytes : Nat} {z : Value}
theorem app {w : World} (E : Elem t e size bytes z) (hgd : o.guard = none) (s x : Operand) (ho : o.op = .call { callee := .builtin .append, args := #[s, x], argTypes := #[t, t] })
 (base : Nat) (v : Value) (n : Nat) (xs : List Value) (hs : a.eval s = v) (hown : w.ownsRow base e size v n xs)
 (ad : Addr) (m c : Nat) (news : List Value) (hx : a.eval x = .slice (some ad) m c) (hl : news.length = m * size) (hnews : ∀ j u, news[j]? = some u -> w.cell? (ad.add j) = some u) (h1 : ∀ u ∈ news, u.oneCell' = true)
 (h63 : n + m <= maxLen) (hbytes : (n + m) * bytes <= 140737488355328) (hbase : base <= w.heap.size)
 (h : ∀ v' w', w'.ownsRow base e size v' (n + m) (xs ++ news) -> w.grownBy w' v.ownBlock -> (v' = .slice none 0 0 ↔ v = .slice none 0 0 /\ m = 0) -> wpList Tryz.prog ops Q rest (a.put o.dst v') w') :
 wpList Tryz.prog ops Q (o :: rest) a w := by
 obtain ⟨ht, i, hi, hz, hsz, hby, hzs, h0⟩ := E;exact wpList_append_own w hgd s x t ho base e i z size bytes ht hi hz hsz hby hzs h0 v n xs hs hown ad m c news hx hl hnews h1 h63 hbytes hbase h
theorem za1 {W w' : World} {ob : Obj} {row : Option Nat} (h : (W.alloc ob).grownBy w' row) : W.grownBy w' row :=
 ⟨h.os, h.tape, h.output, Nat.le_trans (by simp) h.size, fun k hk hn => by rw [h.block k (by simp; omega) hn, Below.heap_alloc _ _ _ hk]⟩
theorem app1 {W : World} {C : Array Value} (E : Elem t e size bytes z) (hgd : o.guard = none) (s x : Operand) (ho : o.op = .call { callee := .builtin .append, args := #[s, x], argTypes := #[t, t] })
 (base : Nat) (v : Value) (n : Nat) (xs : List Value) (hs : a.eval s = v) (hown : W.ownsRow base e size v n xs)
 (hx : a.eval x = .slice (some ⟨W.heap.size, 0, none⟩) 1 1) (hC : C.size = size) (h1 : ∀ u ∈ C.toList, u.oneCell' = true)
 (h63 : n + 1 <= maxLen) (hbytes : (n + 1) * bytes <= 140737488355328) (hbase : base <= W.heap.size)
 (h : ∀ v' w', w'.ownsRow base e size v' (n + 1) (xs ++ C.toList) -> W.grownBy w' v.ownBlock -> v' ≠ .slice none 0 0 -> wpList Tryz.prog ops Q rest (a.put o.dst v') w') :
 wpList Tryz.prog ops Q (o :: rest) a (W.alloc (.cells C e)) := by
 refine app E hgd s x ho base v n xs hs (hown.alloc _) ⟨W.heap.size, 0, none⟩ 1 1 C.toList hx (by simpa using hC) ?_ h1 h63 hbytes (by simp; omega) ?_
 ·intro j u hj
  have hlt : j < C.size := by
   rcases Nat.lt_or_ge j C.size with h' | h'
   ·exact h'
   rw [List.getElem?_eq_none (by simpa using h')] at hj; simp at hj
  have e1 : (⟨W.heap.size, 0, none⟩ : Addr).add j = ⟨W.heap.size, j, none⟩ := by
   unfold Addr.add; split
   ·rename_i hj0; rw [hj0]
   simp
  rw [e1, World.cell?_alloc_at _ _ _ _ rfl]
  simpa using hj
 intro v' w' h2 h3 h4;exact h v' w' h2 (za1 h3) (fun hv => by have := h4.1 hv; omega)
end
def OwnL {α : Type} (enc : α -> List Value) (e k : Nat) (w : World) (base : Nat) (v : Value) (l : List α) : Prop := w.ownsRow base e k v l.length (l.flatMap enc)
section
variable {α : Type} {enc : α -> List Value} {e k : Nat} {w : World} {base : Nat} {l : List α}
theorem OwnL.nil (w : World) (base : Nat) : OwnL enc e k w base (.slice none 0 0) [] := World.ownsRow_nil _ _ _ _
theorem OwnL.shape {v : Value} (h : OwnL enc e k w base v l) : (v = .slice none 0 0 /\ l = []) \/ ∃ g cap, v = .slice (some ⟨g, 0, none⟩) l.length cap /\ base <= g /\ g < w.heap.size := by
 rcases h.2 with ⟨h1, h2⟩ | ⟨g, cap, cur, hv, hb, hh, _⟩
 ·exact .inl ⟨h1, List.eq_nil_of_length_eq_zero h2⟩
 exact .inr ⟨g, cap, hv, hb, lt_of_block hh⟩
theorem OwnL.kept {M : Nat -> Prop} {w' : World} {v : Value} (h : OwnL enc e k w base v l) (hb : Kp M w w') (hm : ∀ g, v.ownBlock = some g -> ¬ M g) : OwnL enc e k w' base v l := by
 refine ⟨h.1, ?_⟩
 rcases h.2 with h1 | ⟨g, cap, cur, hv, hg, hh, r⟩
 ·exact .inl h1
 exact .inr ⟨g, cap, cur, hv, hg, hb.heap hh (hm g (by rw [hv]; rfl)), r⟩
theorem OwnL.later {w' : World} {v : Value} (h : OwnL enc e k w base v l) (hb : Below w.heap.size w w') : OwnL enc e k w' base v l := h.kept (Kp.below (M := fun _ => False) hb) (fun _ _ x => x)
theorem OwnL.lower {B : Nat} {v : Value} (h : OwnL enc e k w base v l) (hB : B <= base) : OwnL enc e k w B v l := by
 refine ⟨h.1, ?_⟩
 rcases h.2 with h1 | ⟨g, cap, cur, hv, hg, r⟩
 ·exact .inl h1
 exact .inr ⟨g, cap, cur, hv, Nat.le_trans hB hg, r⟩
theorem OwnL.lt {g cap n : Nat} (h : OwnL enc e k w base (.slice (some ⟨g, 0, none⟩) n cap) l) : g < w.heap.size /\ base <= g := by
 rcases h.shape with ⟨h1, _⟩ | ⟨g', cap', h1, h2, h3⟩
 ·simp at h1
 simp only [Value.slice.injEq, Option.some.injEq, Addr.mk.injEq, and_true] at h1;rw [h1.1]; exact ⟨h3, h2⟩
theorem OwnL.cell {g cap : Nat} {n : Nat} (hn : n = l.length) (h : OwnL enc e k w base (.slice (some ⟨g, 0, none⟩) n cap) l) (hk : ∀ x, (enc x).length = k) (i j : Nat) (hi : i < l.length) (hj : j < k) :
 w.cell? ⟨g, i * k + j, none⟩ = (enc l[i])[j]? := by
 subst hn;rw [<- zoj hk l i j hi hj];exact World.ownsRow.cellAt h _ (by have := Nat.mul_le_mul_right k (show i + 1 <= l.length from hi); rw [Nat.succ_mul] at this; omega)
theorem OwnL.fr {g cap : Nat} {n : Nat} (hn : n = l.length) (h : OwnL enc e k w base (.slice (some ⟨g, 0, none⟩) n cap) l) (j : Nat) : w.frozen? ⟨g, j, none⟩ = false := by subst hn; exact World.ownsRow.frozenAt h j
theorem OwnL.put1 {g cap : Nat} {n : Nat} (hn : n = l.length) (h : OwnL enc e 1 w base (.slice (some ⟨g, 0, none⟩) n cap) l) (hk : ∀ x, (enc x).length = 1) (i : Nat) (hi : i < l.length) (y : α) (c : Value) (hy : enc y = [c]) :
 OwnL enc e 1 (w.setCell ⟨g, i, none⟩ c) base (.slice (some ⟨g, 0, none⟩) n cap) (l.set i y) := by
 subst hn;have := (World.ownsRow.stored h i c).1;rw [zq2 hk l i y c hi hy] at this
 show World.ownsRow _ _ _ _ _ _ _
 simpa using this
theorem OwnL.put2 {g cap : Nat} {n : Nat} (hn : n = l.length) (h : OwnL enc e 2 w base (.slice (some ⟨g, 0, none⟩) n cap) l) (hk : ∀ x, (enc x).length = 2) (i : Nat) (hi : i < l.length) (y : α) (c d : Value) (hy : enc y = [c, d]) :
 OwnL enc e 2 ((w.setCell ⟨g, i * 2, none⟩ c).setCell ⟨g, i * 2 + 1, none⟩ d) base (.slice (some ⟨g, 0, none⟩) n cap) (l.set i y) := by
 subst hn;have := (World.ownsRow.stored (World.ownsRow.stored h (i * 2) c).1 (i * 2 + 1) d).1;rw [zq3 hk l i y c d hi hy] at this
 show World.ownsRow _ _ _ _ _ _ _
 simpa using this
end
section
variable {α : Type} {enc : α -> List Value} {e k : Nat} {w : World} {base : Nat} {vs zs : List α} {c : α} {g cap n i : Nat}
theorem OwnL.mid (h : OwnL enc e k w base (.slice (some ⟨g, 0, none⟩) n cap) (vs ++ c :: zs)) (hi : i = vs.length) (hn : n = (vs ++ c :: zs).length) (hk : ∀ x, (enc x).length = k) (j : Nat) (hj : j < k) :
 w.cell? ⟨g, i * k + j, none⟩ = (enc c)[j]? := by
 subst hi;rw [h.cell hn hk vs.length j (by simp) hj]; simp
theorem OwnL.left (h : OwnL enc e k w base (.slice (some ⟨g, 0, none⟩) n cap) (vs ++ c :: zs)) (hi : i < vs.length) (hn : n = (vs ++ c :: zs).length) (hk : ∀ x, (enc x).length = k) (j : Nat) (hj : j < k) :
 w.cell? ⟨g, i * k + j, none⟩ = (enc vs[i])[j]? := by
 rw [h.cell hn hk i j (by simp; omega) hj, List.getElem_append_left hi]
theorem OwnL.midput1 (h : OwnL enc e 1 w base (.slice (some ⟨g, 0, none⟩) n cap) (vs ++ c :: zs)) (hi : i = vs.length) (hn : n = (vs ++ c :: zs).length) (hk : ∀ x, (enc x).length = 1) (y : α) (c0 : Value) (hy : enc y = [c0]) :
 OwnL enc e 1 (w.setCell ⟨g, i, none⟩ c0) base (.slice (some ⟨g, 0, none⟩) n cap) (vs ++ y :: zs) := by
 subst hi;have := h.put1 hn hk vs.length (by simp) y c0 hy
 rwa [List.set_append_right _ _ (Nat.le_refl _), Nat.sub_self] at this
theorem OwnL.midput2 (h : OwnL enc e 2 w base (.slice (some ⟨g, 0, none⟩) n cap) (vs ++ c :: zs)) (hi : i = vs.length) (hn : n = (vs ++ c :: zs).length) (hk : ∀ x, (enc x).length = 2) (y : α) (c0 c1 : Value) (hy : enc y = [c0, c1]) :
 OwnL enc e 2 ((w.setCell ⟨g, i * 2, none⟩ c0).setCell ⟨g, i * 2 + 1, none⟩ c1) base (.slice (some ⟨g, 0, none⟩) n cap) (vs ++ y :: zs) := by
 subst hi;have := h.put2 hn hk vs.length (by simp) y c0 c1 hy
 rwa [List.set_append_right _ _ (Nat.le_refl _), Nat.sub_self] at this
end
section
variable {ops : Array Oper} {rest : List Oper} {o : Oper} {a : Act} {Q : Exit -> Act -> World -> Prop}
theorem zjm {α : Type} {enc : α -> List Value} {k n : Nat} {z : Array Value} {y : α} (hk : z.size = k) (h0 : 0 < k) (hy : enc y = z.toList) :
 (madeCells z (n * k)).toList = (List.replicate n y).flatMap enc := by
 rw [zjk, hy]
 have hl : ((List.replicate n z.toList).flatten).length = n * k := by simp [hk]
 apply List.ext_getElem?
 intro i
 by_cases hi : i < n * k
 ·have e : i = (i / k) * k + i % k := by rw [Nat.mul_comm]; exact (Nat.div_add_mod i k).symm
  have hm : i % k < k := Nat.mod_lt _ h0
  have hd : i / k < n := by rw [Nat.div_lt_iff_lt_mul h0]; exact hi
  have h1 : (madeCells z (n * k)).toList[i]? = some z[i % k]! := by
   have hs : i < (madeCells z (n * k)).size := by rw [size_madeCells]; exact hi
   rw [Array.getElem?_toList, Array.getElem?_eq_getElem hs]
   simp [madeCells, hk]
  have h2 := zoj (enc := fun x : List Value => x) (k := k) (l := List.replicate n z.toList);rw [h1];have hz : z[i % k]! = z[i % k] := getElem!_pos z (i % k) (by omega);rw [hz]
  have gen : ∀ (m q : Nat), q < m -> ((List.replicate m z.toList).flatten)[q * k + i % k]? = z.toList[i % k]? := by
   intro m
   induction m with
   | zero => intro q hq; omega
   | succ m ih =>
     intro q hq;rw [List.replicate_succ, List.flatten_cons]
     cases q with
     | zero => rw [List.getElem?_append_left (by simp [hk]; omega)]; simp
     | succ q =>
       have e2 : (q + 1) * k + i % k = z.toList.length + (q * k + i % k) := by rw [Array.length_toList, hk, Nat.succ_mul]; omega
       rw [e2, List.getElem?_append_right (by omega), Nat.add_sub_cancel_left, ih q (by omega)]
  have := gen n (i / k) hd;rw [<- e] at this;rw [this, Array.getElem?_toList, Array.getElem?_eq_getElem (by omega)]
 rw [List.getElem?_eq_none (by rw [Array.length_toList, size_madeCells]; omega), List.getElem?_eq_none (by omega)]
theorem mk {w : World} {t e k bytes : Nat} {z : Value} (E : Elem t e k bytes z) (hg : o.guard = none) (l c : Operand) (hop : o.op = Op.makeSlice t l c) (base : Nat) (kl kc : IntKind) (L C : Int) (n : Nat)
 (hl : a.eval l = .int kl L) (hc : a.eval c = .int kc C) (hL : L = (n : Int)) (hC : C = (n : Int)) (b2 : bytes * n <= 281474976710656) (b3 : n <= maxLen) (b4 : base <= w.heap.size)
 {α : Type} (enc : α -> List Value) (y : α) (hy : enc y = z.cells.toList)
 (h : ∀ w', OwnL enc e k w' base (.slice (some ⟨w.heap.size, 0, none⟩) n n) (List.replicate n y) -> w.grownBy w' none -> wpList Tryz.prog ops Q rest (a.put o.dst (.slice (some ⟨w.heap.size, 0, none⟩) n n)) w') :
 wpList Tryz.prog ops Q (o :: rest) a w := by
 obtain ⟨ht, i, hi, hzz, hsz, hby, hzs, h0⟩ := E
 refine wpList_make_full w hg l c t hop base e i z k ht hi hzz hsz kl kc L C n hl hc hL hC (by rw [hby]; exact b2) b3 b4 fun w' h1 h2 => h w' ?_ h2
 unfold OwnL; rw [<- zjm (z := z.cells) (k := k) (n := n) hzs h0 hy]; simpa using h1
end
def OwnInts (w : World) (base : Nat) (v : Value) (xs : List Int) : Prop := w.ownsRow base 3 1 v xs.length (xs.map (Value.int .i64))
theorem ze8 : Elem 25 3 1 8 (.int .i64 0) := .mk Tryz.underlying25 (by kernel_rfl) rfl (by decide)
theorem OwnInts.nil (w : World) (base : Nat) : OwnInts w base (.slice none 0 0) [] := World.ownsRow_nil _ _ _ _
theorem OwnInts.cells {w : World} {base : Nat} {v : Value} {xs : List Int} (h : OwnInts w base v xs) :
 ∃ a cap, v = .slice a xs.length cap /\ IntCells w a xs /\ (∀ p, a = some p -> base <= p.block /\ p.off = 0 /\ p.spot = none) := by
 rcases h.2 with ⟨h1, h2⟩ | ⟨g, cap, cur, hv, hb, hh, hn, hm, hs, ht⟩
 ·refine ⟨none, 0, by rw [h1, h2], ?_, by simp⟩;intro i hi; omega
 refine ⟨some ⟨g, 0, none⟩, cap, hv, ?_, by simp; exact hb⟩;intro i hi;refine ⟨g, 0, rfl, ?_⟩;subst hv;have := World.ownsRow.cellAt h i (by omega);rw [Nat.zero_add, this]
 simp [List.getD_eq_getElem?_getD, hi]
section
variable {ops : Array Oper} {rest : List Oper} {o : Oper} {a : Act} {Q : Exit -> Act -> World -> Prop}
theorem zhs {W : World} (hgd : o.guard = none) (s x : Operand) (ho : o.op = .call { callee := .builtin .append, args := #[s, x], argTypes := #[25, 25] })
 (base : Nat) (v : Value) (ys : List Int) (y : Int) (hs : a.eval s = v) (hown : OwnInts W base v ys) (hx : a.eval x = .slice (some ⟨W.heap.size, 0, none⟩) 1 1)
 (hl : ys.length <= 1073741824) (hbase : base <= W.heap.size)
 (h : ∀ v' w', OwnInts w' base v' (ys ++ [y]) -> W.grownBy w' v.ownBlock -> v' ≠ .slice none 0 0 -> wpList Tryz.prog ops Q rest (a.put o.dst v') w') :
 wpList Tryz.prog ops Q (o :: rest) a (W.alloc (.cells #[.int .i64 y] 3)) :=
 app1 ze8 hgd s x ho base v ys.length (ys.map (Value.int .i64)) hs hown hx rfl (by simp [Value.oneCell']) (by unfold maxLen; omega) (by omega) hbase
  fun v' w' h2 h3 h4 => h v' w' (by unfold OwnInts; simpa using h2) h3 h4
end
theorem zra (a : Option Addr) (cap : Nat) (xs : List Int) (x : Int) (w : World) (hl : xs.length <= 1073741824) (hx : IntCells w a xs) :
 Calls Tryz.prog 134 #[.slice a xs.length cap, .int .i64 x] w fun e w' => e = .returned (.int .i64 (idx (fun y => x == y) xs)) /\ w = w' := by
 have HX := lh hx;clear hx;go_enter Tryz.func134, Tryz.ntmps134;go_wp2
 go_loop [5, 8] (fun v i => ∃ k : Nat, k <= xs.length /\ i = .int .i64 k /\ (∀ j, j < k -> (x == xs.getD j 0) = false)) (fun _ i => xs.length - (intOf i).toNat)
 case atStart => exact ⟨0, Nat.zero_le _, rfl, fun j h => absurd h (Nat.not_lt_zero _)⟩
 obtain ⟨k, hk, rfl, hno⟩ := hrel;have HN := lh hno;clear hno
 by_cases hlt : k < xs.length
 ·obtain ⟨b, off, rfl, hc⟩ := HX.o k hlt
  cases hpk : (x == xs[k])
  ·go_wp2;go_round
   case rel => exact ⟨k + 1, by omega, by go_num, fun j hj => by
    by_cases e : j = k
    ·subst e; simpa [List.getD_eq_getElem?_getD, hlt] using hpk
    exact HN.o j (by omega)⟩
   case measure => simp [intOf]; omega
  have HK := lh hpk;go_wp2;go_ret;exact ⟨zbb (zq9 _ xs k hlt HN.o HK.o).symm, rfl⟩
 have : k = xs.length := by omega
 subst this;go_wp2;go_ret;exact ⟨zbb (zoq _ xs HN.o).symm, rfl⟩
def has (xs : List Int) (x : Int) : Bool := xs.any fun y => x == y
theorem zwb {xs : List Int} {x : Int} : has xs x = true ↔ x ∈ xs := by simp [has]
theorem zl1 (a : Option Addr) (cap : Nat) (xs : List Int) (x : Int) (w : World) (hl : xs.length <= 1073741824) (hx : IntCells w a xs) :
 Calls Tryz.prog 112 #[.slice a xs.length cap, .int .i64 x] w fun e w' => e = .returned (.bool (has xs x)) /\ w = w' := by
 have HX := lh hx;clear hx;go_enter Tryz.func112, Tryz.ntmps112;go_wp2_with (go_at_call 134; refine (zra _ _ _ _ _ hl HX.o).mono ?_; rintro e w' ⟨rfl, rfl⟩);go_ret;exact ⟨zah (zq7 _ xs), rfl⟩
theorem ze2 {w : World} {ad : Addr} {xs : List Int} (h : IntCells w (some ad) xs) :
 ∀ j u, (xs.map (Value.int .i64))[j]? = some u -> w.cell? (ad.add j) = some u := by
 intro j u hj
 have hlt : j < xs.length := by
  rcases Nat.lt_or_ge j xs.length with h' | h'
  ·exact h'
  rw [List.getElem?_eq_none (by simpa using h')] at hj; simp at hj
 obtain ⟨b, off, e, hc⟩ := h j hlt;simp only [Option.some.injEq] at e;subst e
 have e1 : (⟨b, off, none⟩ : Addr).add j = ⟨b, off + j, none⟩ := by
  unfold Addr.add; split
  ·rename_i hj0; rw [hj0]; rfl
  simp
 rw [e1, hc]
 simp [hlt] at hj
 simp [List.getD_eq_getElem?_getD, hlt, hj]
theorem znq (xs : List Int) : ∀ u ∈ xs.map (Value.int .i64), u.oneCell' = true := by
 intro u hu; simp at hu; obtain ⟨x, _, rfl⟩ := hu; rfl
theorem zav (a : Option Addr) (cap : Nat) (xs : List Int) (w : World) (hl : xs.length <= 1073741824) (hx : IntCells w a xs) :
 Calls Tryz.prog 73 #[.slice a xs.length cap] w fun e w' => ∃ v, e = .returned v /\ OwnInts w' w.heap.size v xs /\ Below w.heap.size w w' := by
 have hsl := fun (w : World) (a : Option Addr) (l c n1 c1 : Nat) => Lib.run_eql_slice_nil w 25 3 a l c n1 c1 Tryz.underlying25
 have HX := lh hx;clear hx
 cases a with
 | none =>
   have hz : xs = [] := by
    cases xs with
    | nil => rfl
    | cons x xs => obtain ⟨b, off, e, _⟩ := HX.o 0 (by simp); simp at e
   subst hz;go_enter Tryz.func73, Tryz.ntmps73;go_wp2;go_ret;exact ⟨_, rfl, OwnInts.nil _ _, Below.refl _ _⟩
 | some ad =>
   have H0 : Hid ((w.alloc (.cells #[] 3)).ownsRow w.heap.size 3 1 (.slice (some ⟨w.heap.size, 0, none⟩) 0 0) 0 []) := World.ownsRow_lit w #[] 0 (Nat.le_refl _) (by unfold maxLen; omega) rfl;have HC := lh (ze2 (HX.o.keep ((Below.refl _ _).alloc (Nat.le_refl _) (.cells #[] 3))))
   have hb2 : (0 + xs.length) * 8 <= 140737488355328 := by omega
   have hb1 : 0 + xs.length <= maxLen := by unfold maxLen; omega
   have H1 := lh hb1;have H2 := lh hb2;clear hb1 hb2;go_enter Tryz.func73, Tryz.ntmps73;go_wp2_with (at_builtin; refine app ze8 rfl _ _ rfl w.heap.size _ _ _ rfl H0.o ad xs.length cap (xs.map (Value.int .i64)) rfl (by simp) HC.o (znq xs) H1.o H2.o (by simp) ?_);intro v' w1 hown hgrow _;have HO := lh hown;have HG := lh hgrow;clear hown hgrow;go_wp2;go_ret;exact ⟨_, rfl, HO.o, ((Below.refl _ _).alloc (Nat.le_refl _) _).grown HG.o (by simp) (by simp [Value.ownBlock])⟩
theorem zmk (a b : Int) (ha1 : -128 <= a) (ha2 : a <= 128) (hb1 : -128 <= b) (hb2 : b <= 128) (w : World) :
 Calls Tryz.prog 131 #[.int .i64 a, .int .i64 b] w fun e w' => e = .returned (.int .i64 (cmpL a b)) /\ w = w' := by
 obtain ⟨x1, x2⟩ := zb6 a;obtain ⟨y1, y2⟩ := zb6 b;have HA := lh (fun V => zbz a V);have HB := lh (fun V => zbz b V)
 by_cases hv : zac a = zac b
 ·have HC : Hid (cmpL a b = a - b) := by show _ = _; unfold cmpL; rw [if_neg (by omega)]
  have hvb : (zac a != zac b) = false := by simp [hv]
  clear hv;generalize zac a = x at *;generalize zac b = y at *;go_enter Tryz.func131, Tryz.ntmps131;go_wp2_with fail;refine (HA.o _).mono ?_;rintro e w' ⟨rfl, rfl⟩;go_wp2_with fail;refine (HB.o _).mono ?_;rintro e w' ⟨rfl, rfl⟩;go_wp2;go_ret;exact ⟨zbb HC.o.symm, rfl⟩
 have HC : Hid (cmpL a b = zac a - zac b) := by show _ = _; unfold cmpL; rw [if_pos (by omega)]
 have hvb : (zac a != zac b) = true := by simp [hv]
 clear hv;generalize zac a = x at *;generalize zac b = y at *;go_enter Tryz.func131, Tryz.ntmps131;go_wp2_with fail;refine (HA.o _).mono ?_;rintro e w' ⟨rfl, rfl⟩;go_wp2_with fail;refine (HB.o _).mono ?_;rintro e w' ⟨rfl, rfl⟩;go_wp2;go_ret;exact ⟨zbb HC.o.symm, rfl⟩
theorem znl (a b : Int) (ha1 : -128 <= a) (ha2 : a <= 128) (hb1 : -128 <= b) (hb2 : b <= 128) (w : World) :
 Calls Tryz.prog 130 #[.int .i64 a, .int .i64 b] w fun e w' => e = .returned (.int .i64 (cmpL a b)) /\ w = w' := by
 have HC := lh (fun V => zmk a b ha1 ha2 hb1 hb2 V);go_enter Tryz.func130, Tryz.ntmps130;go_wp2_with fail;refine (HC.o _).mono ?_;rintro e w' ⟨rfl, rfl⟩;go_wp2;go_ret;exact ⟨rfl, rfl⟩
theorem zlr (a b : Int) (ha1 : -128 <= a) (ha2 : a <= 128) (hb1 : -128 <= b) (hb2 : b <= 128) (w : World) :
 Calls Tryz.prog 108 #[.int .i64 a, .int .i64 b] w fun e w' => e = .returned (.int .i64 (cmpL a b)) /\ w = w' := by
 obtain ⟨x1, x2⟩ := zb6 a;obtain ⟨y1, y2⟩ := zb6 b;have HA := lh (fun V => zbz a V);have HB := lh (fun V => zbz b V)
 by_cases hv : zac a = zac b
 ·have HC : Hid (cmpL a b = a - b) := by show _ = _; unfold cmpL; rw [if_neg (by omega)]
  have hvb : (zac a - zac b != 0) = false := by simp [hv]
  clear hv;generalize zac a = x at *;generalize zac b = y at *;go_enter Tryz.func108, Tryz.ntmps108;go_wp2_with fail;refine (HA.o _).mono ?_;rintro e w' ⟨rfl, rfl⟩;go_wp2_with fail;refine (HB.o _).mono ?_;rintro e w' ⟨rfl, rfl⟩;go_wp2;go_ret;exact ⟨zbb HC.o.symm, rfl⟩
 have HC : Hid (cmpL a b = zac a - zac b) := by show _ = _; unfold cmpL; rw [if_pos (by omega)]
 have hvb : (zac a - zac b != 0) = true := by simp; omega
 clear hv;generalize zac a = x at *;generalize zac b = y at *;go_enter Tryz.func108, Tryz.ntmps108;go_wp2_with fail;refine (HA.o _).mono ?_;rintro e w' ⟨rfl, rfl⟩;go_wp2_with fail;refine (HB.o _).mono ?_;rintro e w' ⟨rfl, rfl⟩;go_wp2;go_ret;exact ⟨zbb HC.o.symm, rfl⟩
theorem zio : ∀ (xs ys : Cl) (k : Nat), k <= xs.length -> xs.length = ys.length -> (∀ j, j < k -> cmpL (xs.getD j 0) (ys.getD j 0) = 0) -> lexC xs ys = lexC (xs.drop k) (ys.drop k)
 | _, _, 0, _, _, _ => by simp
 | [], _, k + 1, h, _, _ => by simp at h
 | _ :: _, [], k + 1, _, h, _ => by simp at h
 | x :: xs, y :: ys, k + 1, h, hl, hz => by
   have h0 := hz 0 (by omega);simp at h0;rw [lexC, if_neg (by simpa using h0), List.drop_succ_cons, List.drop_succ_cons]
   exact zio xs ys k (by simpa using h) (by simpa using hl) fun j hj => by have := hz (j + 1) (by omega); simpa using this
theorem zts {xs ys : Cl} {k : Nat} (hk : k < xs.length) (hl : xs.length = ys.length) (hz : ∀ j, j < k -> cmpL (xs.getD j 0) (ys.getD j 0) = 0) (hn : cmpL (xs.getD k 0) (ys.getD k 0) ≠ 0) : lexC xs ys = cmpL (xs.getD k 0) (ys.getD k 0) := by
 have hk2 : k < ys.length := by omega
 rw [zio xs ys k (by omega) hl hz, List.drop_eq_getElem_cons hk, List.drop_eq_getElem_cons hk2, lexC]
 have e1 : xs.getD k 0 = xs[k] := by simp [List.getD_eq_getElem?_getD, hk]
 have e2 : ys.getD k 0 = ys[k] := by simp [List.getD_eq_getElem?_getD, hk2]
 rw [e1, e2] at hn ⊢;rw [if_pos hn]
theorem ztr {xs ys : Cl} (hl : xs.length = ys.length) (hz : ∀ j, j < xs.length -> cmpL (xs.getD j 0) (ys.getD j 0) = 0) : lexC xs ys = 0 := by
 rw [zio xs ys xs.length (Nat.le_refl _) hl hz, List.drop_length, hl, List.drop_length]; rfl
theorem zm8 : ∀ (args : Array Value) (w : World), (callFunc 108 args).run Tryz.prog w = .ok (.enter 108 args) w := fun _ _ => by kernel_rfl
def litB (xs : Cl) : Prop := ∀ x ∈ xs, -128 <= x /\ x <= 128
theorem zh5 (a b : Option Addr) (c d : Nat) (xs ys : Cl) (w : World) (hl : xs.length = ys.length) (hm : xs.length <= 1073741824) (hx : IntCells w a xs) (hy : IntCells w b ys) (bx : litB xs) (bY : litB ys) :
 Calls Tryz.prog 107 #[.slice a xs.length c, .slice b ys.length d, .func (.func 108) #[] #[]] w fun e w' => e = .returned (.int .i64 (lexC xs ys)) /\ w = w' := by
 have HX := lh hx;have HY := lh hy;have HBX := lh bx;have HBY := lh bY;have hcc := zm8;have HL := lh hl;rw [<- hl];clear hx hy bx bY hl;go_enter Tryz.func107, Tryz.ntmps107;go_wp2
 go_loop [7, 8, 9, 10, 13] (fun _ _ _ _ i => ∃ k : Nat, k <= xs.length /\ i = .int .i64 k /\ ∀ j, j < k -> cmpL (xs.getD j 0) (ys.getD j 0) = 0) (fun _ _ _ _ i => xs.length - (intOf i).toNat)
 case atStart => exact ⟨0, Nat.zero_le _, rfl, fun j h => absurd h (Nat.not_lt_zero _)⟩
 obtain ⟨k, hk, rfl, hz⟩ := hrel;have HZ := lh hz;clear hz
 by_cases hlt : k < xs.length
 ·obtain ⟨b1, o1, rfl, e1⟩ := HX.o k hlt;obtain ⟨b2, o2, rfl, e2⟩ := HY.o k (by have := HL.o; omega)
  have g1 : xs.getD k 0 = xs[k] := by simp [List.getD_eq_getElem?_getD, hlt]
  have hlt2 : k < ys.length := by have := HL.o; omega
  have g2 : ys.getD k 0 = ys[k] := by simp [List.getD_eq_getElem?_getD, hlt2]
  have m1 := HBX.o xs[k] (List.getElem_mem hlt);have m2 := HBY.o ys[k] (List.getElem_mem hlt2);rw [<- g1] at m1;rw [<- g2] at m2;have HH := lh (zts hlt HL.o HZ.o)
  have HST : Hid (cmpL (xs.getD k 0) (ys.getD k 0) = 0 -> ∀ j, j < k + 1 -> cmpL (xs.getD j 0) (ys.getD j 0) = 0) := fun h j hj => by
   rcases Nat.lt_or_ge j k with h' | h'
   ·exact HZ.o j h'
   rw [show j = k by omega]; exact h
  clear g1 g2 hlt2;generalize xs.getD k 0 = x at *;generalize ys.getD k 0 = y at *;have HC := lh (fun V => zlr x y m1.1 m1.2 m2.1 m2.2 V)
  have hki : (k : Int) < (xs.length : Int) := by omega
  clear m1 m2
  by_cases hc : cmpL x y = 0
  ·have hcb : (cmpL x y != 0) = false := by simp [hc]
   have HS2 := lh (HST.o hc);clear hc;generalize cmpL x y = cv at *;go_wp2_with fail;refine (HC.o _).mono ?_;rintro e w' ⟨rfl, rfl⟩;go_wp2;go_round
   case rel => exact ⟨k + 1, by omega, by go_num, HS2.o⟩
   case measure => simp [intOf]; omega
  have hcb : (cmpL x y != 0) = true := by simp [hc]
  have HH2 := lh (HH.o hc);clear hc;generalize cmpL x y = cv at *;go_wp2_with fail;refine (HC.o _).mono ?_;rintro e w' ⟨rfl, rfl⟩;go_wp2;go_ret;exact ⟨zbb HH2.o.symm, rfl⟩
 have : k = xs.length := by omega
 subst this;have HE := lh (ztr HL.o HZ.o);go_wp2;go_ret;exact ⟨zbb HE.o.symm, rfl⟩
abbrev clv (a : Option Addr) (n c : Nat) (i : Int) : Value := .agg #[.slice a n c, .int .i64 i]
theorem zpw (a b : Option Addr) (c d : Nat) (i j : Int) (xs ys : Cl) (w : World) (hm : xs.length <= 1073741824) (hm2 : ys.length <= 1073741824) (hx : IntCells w a xs) (hy : IntCells w b ys) (bx : litB xs) (bY : litB ys) :
 Calls Tryz.prog 106 #[clv a xs.length c i, clv b ys.length d j] w fun e w' => e = .returned (.int .i64 (cmpC xs ys)) /\ Below w.heap.size w w' := by
 have hb0 : Below w.heap.size w ((w.alloc (.cells #[.slice a xs.length c, .int .i64 i] 110)).alloc (.cells #[.slice b ys.length d, .int .i64 j] 110)) := ((Below.refl _ _).alloc (Nat.le_refl _) _).alloc (by simp) _;have HB0 := lh hb0
 by_cases hl : xs.length = ys.length
 ·have HCF := lh (zh5 a b c d xs ys _ hl hm (hx.keep hb0) (hy.keep hb0) bx bY)
  have HC : Hid (cmpC xs ys = lexC xs ys) := by show _ = _; unfold cmpC; rw [if_neg (by omega)]
  have hd0 : ((xs.length : Int) - (ys.length : Int) != 0) = false := by simp; omega
  clear hb0 hx hy bx bY hl;go_enter Tryz.func106, Tryz.ntmps106;go_wp2_with fail;refine HCF.o.mono ?_;rintro e w' ⟨rfl, rfl⟩;go_wp2;go_ret;exact ⟨zbb HC.o.symm, HB0.o⟩
 have HC : Hid (cmpC xs ys = (xs.length : Int) - (ys.length : Int)) := by show _ = _; unfold cmpC; rw [if_pos (by omega)]
 have hd0 : ((xs.length : Int) - (ys.length : Int) != 0) = true := by simp; omega
 clear hb0 hx hy bx bY hl;go_enter Tryz.func106, Tryz.ntmps106;go_wp2;go_ret;exact ⟨zbb HC.o.symm, HB0.o⟩
end Go.Proofs.YtfmmhjphopikgaaGreatDoor
namespace Cen
theorem zf3 {α : Type} {l : List α} {i : Nat} (h : i < l.length) (x : α) : (l[i] :: l.set i x).Perm (x :: l) := by
 have h1 : l = l.take i ++ l[i] :: l.drop (i + 1) := by rw [List.getElem_cons_drop, List.take_append_drop]
 have h2 : l.set i x = l.take i ++ x :: l.drop (i + 1) := List.set_eq_take_append_cons_drop.trans (by rw [if_pos h]);rw [h2]
 conv => rhs; rw [h1]
 refine (List.Perm.cons _ List.perm_middle).trans ?_;refine (List.Perm.swap _ _ _).trans ?_;exact (List.Perm.cons _ List.perm_middle.symm)
section
variable {α : Type} [Inhabited α]
def gd (l : List α) (i : Nat) : α := l.getD i default
theorem zat {l : List α} {i : Nat} (h : i < l.length) : gd l i = l[i] := by unfold gd; simp [List.getD_eq_getElem?_getD, h]
theorem ztt {l m : List α} (hl : l.length = m.length) (h : ∀ i, i < l.length -> gd l i = gd m i) : l = m := by
 apply List.ext_getElem hl
 intro i h1 h2;have := h i h1
 rwa [zat h1, zat h2] at this
def swp (l : List α) (i j : Nat) : List α := (l.set i (gd l j)).set j (gd l i)
theorem zeu (l : List α) (i j : Nat) : (swp l i j).length = l.length := by simp [swp]
theorem zom {l : List α} {i j : Nat} (hi : i < l.length) (hj : j < l.length) (t : Nat) : gd (swp l i j) t = if t = j then gd l i else if t = i then gd l j else gd l t := by
 unfold swp
 by_cases h2 : t = j
 ·subst h2; rw [if_pos rfl]
  show ((l.set i (gd l t)).set t (gd l i)).getD t default = _
  simp [List.getD_eq_getElem?_getD, hj]
 rw [if_neg h2]
 by_cases h1 : t = i
 ·subst h1; rw [if_pos rfl]
  show ((l.set t (gd l j)).set j (gd l t)).getD t default = _
  rw [List.getD_eq_getElem?_getD, List.getElem?_set_ne (show j ≠ t from fun e => h2 e.symm), List.getElem?_set_self hi]; rfl
 rw [if_neg h1]
 show ((l.set i (gd l j)).set j (gd l i)).getD t default = l.getD t default
 simp [List.getD_eq_getElem?_getD, List.getElem?_set_ne (show j ≠ t from fun e => h2 e.symm), List.getElem?_set_ne (show i ≠ t from fun e => h1 e.symm)]
theorem zuq {l : List α} {i : Nat} (hi : i < l.length) : swp l i i = l := ztt (zeu _ _ _) fun t _ => by
 rw [zom hi hi]; split
 ·rename_i h; rw [h]
 rfl
theorem zf6 {l : List α} {i j : Nat} (hi : i < l.length) (hj : j < l.length) : (swp l i j).Perm l := by
 by_cases e : i = j
 ·subst e; rw [zuq hi]
 have h1 := zf3 (l := l) hi (gd l j)
 have hj' : j < (l.set i (gd l j)).length := by simpa using hj
 have h2 := zf3 (l := l.set i (gd l j)) hj' (gd l i)
 have ej : (l.set i (gd l j))[j] = gd l j := by
  rw [List.getElem_set_ne e]; exact (zat hj).symm
 rw [ej] at h2;rw [<- zat hi] at h1;have h3 := h2.trans h1;exact (List.perm_cons _).1 h3
def zdb (l : List α) (a b : Nat) : Nat -> List α
 | 0 => l
 | k + 1 => swp (zdb l a b k) (a + k) (b + k)
theorem zbo (l : List α) (a b : Nat) : ∀ k, (zdb l a b k).length = l.length
 | 0 => rfl
 | k + 1 => by rw [zdb, zeu, zbo]
theorem zet {l : List α} {a b : Nat} : ∀ k, a + k <= l.length -> b + k <= l.length -> (zdb l a b k).Perm l
 | 0, _, _ => List.Perm.refl _
 | k + 1, h1, h2 => by
   rw [zdb];exact (zf6 (by rw [zbo]; omega) (by rw [zbo]; omega)).trans (zet k (by omega) (by omega))
theorem zhe {l : List α} {a b : Nat} : ∀ k, a + k <= b -> b + k <= l.length -> ∀ t, gd (zdb l a b k) t = gd l (if a <= t /\ t < a + k then t - a + b else if b <= t /\ t < b + k then t - b + a else t)
 | 0, _, _, t => by rw [zdb, if_neg (by omega), if_neg (by omega)]
 | k + 1, h1, h2, t => by
   rw [zdb, zom (by rw [zbo]; omega) (by rw [zbo]; omega)];have ih := zhe (l := l) (a := a) (b := b) k (by omega) (by omega)
   by_cases e1 : t = b + k
   ·rw [if_pos e1, ih, if_neg (by omega), if_neg (by omega), if_neg (by omega), if_pos (by omega)]; congr 1; omega
   rw [if_neg e1]
   by_cases e2 : t = a + k
   ·rw [if_pos e2, ih, if_neg (by omega), if_neg (by omega), if_pos (by omega)]; congr 1; omega
   rw [if_neg e2, ih]
   congr 1
   (repeat' split) <;> omega
def rot (p i j t : Nat) : Nat := if t < p then t else if t < p + j then t + i else if t < p + i + j then t - j else t
def IsRot (l' l : List α) (p i j : Nat) : Prop := l'.length = l.length /\ ∀ t, gd l' t = gd l (rot p i j t)
end
end Cen
namespace Go.Proofs.YtfmmhjphopikgaaGreatDoor
open Go.RowKit Cen
abbrev sts (s : St) : Array Value := #[.int .u64 (s.a : Int), .int .u64 (s.b : Int)]
theorem Blk.putSet {w : World} {b : Nat} {s : St} (h : Blk w b (sts s) 56) (t : St) :
 Blk ((w.setCell ⟨b, 0, none⟩ (.int .u64 (t.a : Int))).setCell ⟨b, 1, none⟩ (.int .u64 (t.b : Int))) b (sts t) 56 := (h.set 0 _).set 1 _
theorem Blk.sc {w : World} {b : Nat} {s : St} {t : TypeId} (h : Blk w b (sts s) t) :
 w.cell? ⟨b, 0, none⟩ = some (.int .u64 (s.a : Int)) /\ w.cell? ⟨b, 1, none⟩ = some (.int .u64 (s.b : Int)) /\ w.frozen? ⟨b, 0, none⟩ = false /\ w.frozen? ⟨b, 1, none⟩ = false :=
 ⟨h.cell 0, h.cell 1, h.fr 0, h.fr 1⟩
theorem zay {w w' : World} (h : Below w.drew.heap.size w.drew w') : Below w.heap.size w w' := (Below.refl w.heap.size w).drew.trans (h.mono (Nat.le_refl w.heap.size))
theorem Blk.drewCall {w w' : World} {b : Nat} {s : St} {t : TypeId} (h : Blk w b (sts s) t) (hb : Below w.drew.heap.size w.drew w') :
 w'.cell? ⟨b, 0, none⟩ = some (.int .u64 (s.a : Int)) /\ w'.cell? ⟨b, 1, none⟩ = some (.int .u64 (s.b : Int)) /\ w'.frozen? ⟨b, 0, none⟩ = false /\ w'.frozen? ⟨b, 1, none⟩ = false :=
 (h.later (zay hb)).sc
theorem zr7 (a : Option Addr) (cap : Nat) (xs : List Int) (w : World) (hl : xs.length <= 1073741824) (hx : IntCells w a xs) :
 Calls Tryz.prog 48 #[.slice a xs.length cap] w fun e w' => e = .returned (stv (ofL xs)) /\ Below w.heap.size w w' := by
 have HX := lh hx;clear hx;go_enter Tryz.func48, Tryz.ntmps48;go_wp2
 go_loopw [8] (fun i wr => ∃ k : Nat, k <= xs.length /\ i = .int .i64 k /\ Blk wr (w.heap.size + 1) (sts (ofL (xs.take k))) 56 /\ Blk wr w.heap.size (sts St.zero) 56 /\ Below w.heap.size w wr) (fun i _ => xs.length - (intOf i).toNat)
 case atStart => exact ⟨0, Nat.zero_le _, rfl, Blk.new' (w.alloc _) (by simp) (sts St.zero) 56, (Blk.new w _ _).alloc _, ((Below.refl _ _).alloc (Nat.le_refl _) _).alloc (by simp) _⟩
 obtain ⟨k, hk, rfl, hs, hz, hbel⟩ := hrel;obtain ⟨c0, c1, f0, f1⟩ := hs.sc;obtain ⟨d0, d1, e0, e1⟩ := hz.sc;have HS := lh hs;have HZ := lh hz;have HB := lh hbel;have HOK := lh (zvg (xs.take k));clear hs hz hbel
 by_cases hlt : k < xs.length
 ·obtain ⟨b, off, rfl, hc0⟩ := HX.o k hlt;have hc := zaa HB.o hc0;clear hc0;generalize hxe : xs.getD k 0 = x at hc
  have HXE : Hid (ofL (xs.take (k + 1)) = (ofL (xs.take k)).add x) := by
   show _ = _; rw [List.take_succ_eq_append_getElem hlt]; unfold ofL; rw [List.foldl_append]; rw [<- hxe]; simp [List.getD_eq_getElem?_getD, hlt]
  clear hxe;generalize ofL (xs.take k) = s at *;go_wp2_with fail;refine (zhm s x _ HOK.o).mono ?_;rintro e w1 ⟨rfl, hb1⟩;have hs1 := HS.o.later hb1;have hz1 := HZ.o.later hb1;obtain ⟨g0, g1, k0, k1⟩ := hs1.sc;have HS1 := lh hs1;have HZ1 := lh hz1;have HB1 := lh hb1;clear hs1 hz1 hb1;go_wp2;go_roundw
  case rel => 
   refine ⟨k + 1, by omega, by go_num, ?_, ?_, ?_⟩
   ·rw [HXE.o]; exact HS1.o.putSet _
   ·exact (HZ1.o.other _ _ (by simp)).other _ _ (by simp)
   exact ((HB.o.trans (HB1.o.mono HB.o.size)).setCell (by simp) _).setCell (by simp) _
  case measure => simp [intOf]; omega
 have : k = xs.length := by omega
 subst this;rw [List.take_length] at *;go_wp2;exact bodyPost_ret (v := stv (ofL xs)) (by simp [results, Tryz.results48, go_sem, d0, d1]) rfl ⟨rfl, (HB.o.setCell (Nat.le_refl _) _).setCell (Nat.le_refl _) _⟩
end Go.Proofs.YtfmmhjphopikgaaGreatDoor
