/- Part of the proofs that laws of censuslaw38 return true for every input, where the tables that the rows list are laid. Texts: WideW. -/
import Derived.Test.YteoopkogpjhneaaDoorZA11
import Derived.Test.YteoopkogpjhneaaDoorZB4

/- QueryWide: its two nets in memory while they are built. -/
namespace Go.Proofs.YteoopkogpjhneaaDoor
open Go.RowKit Cen
set_option maxHeartbeats 1000000
set_option maxRecDepth 100000
section
variable {ops : Array Oper} {rest : List Oper} {o : Oper} {a : Act} {Q : Exit → Act → World → Prop}
/-- append(s, ys...): the elements lie in a block. -/
theorem appNL {α : Type} {enc : α → List Value} {t e k bytes : Nat} {z : Value} {W : World} (E : Elem t e k bytes z) (hgd : o.guard = none) (s x : Operand) (ho : o.op = .call { callee := .builtin .append, args := #[s, x], argTypes := #[t, t] })
    (base : Nat) (v : Value) (l ys : List α) (hs : a.eval s = v) (hown : OwnL enc e k W base v l) (bc m : Nat) (hx : a.eval x = .slice (some ⟨bc, 0, none⟩) m m) (hm : ys.length = m) (h0 : 0 < m) (hk : ∀ y, (enc y).length = k)
    (hC : ∀ j u, (ys.flatMap enc)[j]? = some u → W.cell? ⟨bc, j, none⟩ = some u) (h1 : ∀ u ∈ ys.flatMap enc, u.oneCell' = true) (hl : l.length + m ≤ 1073741824) (hby : bytes ≤ 1000) (hbase : base ≤ W.heap.size)
    (h : ∀ g cap w', OwnL enc e k w' base (.slice (some ⟨g, 0, none⟩) (l.length + m) cap) (l ++ ys) → W.grownBy w' v.ownBlock → (v.ownBlock = some g ∨ g = W.heap.size) → wpList Tryd.prog ops Q rest (a.put o.dst (.slice (some ⟨g, 0, none⟩) (l.length + m) cap)) w') :
    wpList Tryd.prog ops Q (o :: rest) a W := by
  obtain ⟨ht, i, hi, hz, hsz, hby', hzs, hk0⟩ := E
  refine wpList_append_lies _ hgd s x t ho base e i z k bytes ht hi hz hsz hby' hzs hk0 v l.length (l.flatMap enc) hs hown ⟨bc, 0, none⟩ m m (ys.flatMap enc) hx (by rw [flat_length hk, hm]) ?_ h1 h0 (by unfold maxLen; omega) ?_ hbase W.heap.size rfl ?_
  · intro j u hj
    have e1 : (⟨bc, 0, none⟩ : Addr).add j = ⟨bc, j, none⟩ := by
      unfold Addr.add; split
      · rename_i hj0; rw [hj0]
      · simp
    rw [e1]; exact hC j u hj
  · have := Nat.mul_le_mul hl hby; omega
  · intro g cap w' h2 h3 h4 _
    exact h g cap w' (by unfold OwnL; rw [List.length_append, List.flatMap_append, hm]; exact h2) h3 h4
end
/-- The net of all literals while it is built, with the inputs and the literals. -/
structure W1 (w : World) (B : Nat) (m : Int) (lv iv ll : Value) (LL : List (Nd × Value)) (is ls : List Int) : Prop where
  box : Blk w B #[.int .i64 m, lv] 25
  nds : OwnL ndc 28 3 w (B + 1) lv LL
  ins : OwnL I1 3 1 w (B + 1) iv is
  lit : OwnL I1 3 1 w (B + 1) ll ls
  ni : ∀ g, lv.ownBlock = some g → iv.ownBlock ≠ some g
  nl : ∀ g, lv.ownBlock = some g → ll.ownBlock ≠ some g
  il : ∀ g, iv.ownBlock = some g → ll.ownBlock ≠ some g
theorem OwnL.ownlt {α : Type} {enc : α → List Value} {e k : Nat} {w : World} {base : Nat} {v : Value} {l : List α} (h : OwnL enc e k w base v l) {g : Nat} (hg : v.ownBlock = some g) : base ≤ g ∧ g < w.heap.size := by
  rcases h.shape with ⟨rfl, _⟩ | ⟨g', cap, rfl, h1, h2⟩
  · simp [Value.ownBlock] at hg
  · simp only [Value.ownBlock, Option.some.injEq] at hg; omega
section
variable {w U w' : World} {B : Nat} {m : Int} {lv iv ll : Value} {LL : List (Nd × Value)} {is ls : List Int} {g n cap : Nat}
theorem W1.start (w : World) (m : Int) : W1 (w.alloc (.cells #[.int .i64 m, .slice none 0 0] 25)) w.heap.size m (.slice none 0 0) (.slice none 0 0) (.slice none 0 0) [] [] [] :=
  ⟨Blk.new _ _ _, OwnL.nil _ _, OwnL.nil _ _, OwnL.nil _ _, by simp [Value.ownBlock], by simp [Value.ownBlock], by simp [Value.ownBlock]⟩
theorem W1.later (h : W1 w B m lv iv ll LL is ls) (hb : Below w.heap.size w w') : W1 w' B m lv iv ll LL is ls :=
  ⟨h.box.later hb, h.nds.later hb, h.ins.later hb, h.lit.later hb, h.ni, h.nl, h.il⟩
theorem W1.app_in {x : Int} (h : W1 w B m lv iv ll LL is ls) (hb : Below w.heap.size w U) (hg : U.grownBy w' iv.ownBlock) (hf : iv.ownBlock = some g ∨ w.heap.size ≤ g) (ho : OwnL I1 3 1 w' (B + 1) (.slice (some ⟨g, 0, none⟩) n cap) (is ++ [x])) :
    W1 w' B m lv (.slice (some ⟨g, 0, none⟩) n cap) ll LL (is ++ [x]) ls := by
  have hU := h.later hb
  have hk : Kp (fun y => iv.ownBlock = some y) U w' := Kp.grown hg fun y hy => hy
  have hz := hb.size
  have hB := h.box.lt
  refine ⟨hU.box.kept hk (fun e => by have := (h.ins.ownlt e).1; omega), hU.nds.kept hk (fun y hy e => h.ni y hy e), ho, hU.lit.kept hk (fun y hy e => h.il y e hy), fun y hy e => ?_, h.nl, fun y hy e => ?_⟩
  · simp only [Value.ownBlock, Option.some.injEq] at e
    subst e
    rcases hf with hf | hf
    · exact h.ni _ hy hf
    · have := (h.nds.ownlt hy).2; omega
  · simp only [Value.ownBlock, Option.some.injEq] at hy
    subst hy
    rcases hf with hf | hf
    · exact h.il _ hf e
    · have := (h.lit.ownlt e).2; omega
theorem W1.app_lit {x : Int} (h : W1 w B m lv iv ll LL is ls) (hb : Below w.heap.size w U) (hg : U.grownBy w' ll.ownBlock) (hf : ll.ownBlock = some g ∨ w.heap.size ≤ g) (ho : OwnL I1 3 1 w' (B + 1) (.slice (some ⟨g, 0, none⟩) n cap) (ls ++ [x])) :
    W1 w' B m lv iv (.slice (some ⟨g, 0, none⟩) n cap) LL is (ls ++ [x]) := by
  have hU := h.later hb
  have hk : Kp (fun y => ll.ownBlock = some y) U w' := Kp.grown hg fun y hy => hy
  have hz := hb.size
  refine ⟨hU.box.kept hk (fun e => by have := (h.lit.ownlt e).1; omega), hU.nds.kept hk (fun y hy e => h.nl y hy e), hU.ins.kept hk (fun y hy e => h.il y hy e), ho, h.ni, fun y hy e => ?_, fun y hy e => ?_⟩
  · simp only [Value.ownBlock, Option.some.injEq] at e
    subst e
    rcases hf with hf | hf
    · exact h.nl _ hy hf
    · have := (h.nds.ownlt hy).2; omega
  · simp only [Value.ownBlock, Option.some.injEq] at e
    subst e
    rcases hf with hf | hf
    · exact h.il _ hy hf
    · have := (h.ins.ownlt hy).2; omega
theorem W1.app_nd {x : Nd × Value} (h : W1 w B m lv iv ll LL is ls) (hb : Below w.heap.size w U) (hg : U.grownBy w' lv.ownBlock) (hf : lv.ownBlock = some g ∨ w.heap.size ≤ g) (ho : OwnL ndc 28 3 w' (B + 1) (.slice (some ⟨g, 0, none⟩) n cap) (LL ++ [x])) :
    W1 (w'.setCell ⟨B, 1, none⟩ (.slice (some ⟨g, 0, none⟩) n cap)) B m (.slice (some ⟨g, 0, none⟩) n cap) iv ll (LL ++ [x]) is ls := by
  have hU := h.later hb
  have hk : Kp (fun y => lv.ownBlock = some y) U w' := Kp.grown hg fun y hy => hy
  have hz := hb.size
  have hs : Kp (fun y => y = B) w' (w'.setCell ⟨B, 1, none⟩ (.slice (some ⟨g, 0, none⟩) n cap)) := Kp.setCell _ _ _ rfl
  have hgB : B + 1 ≤ g := (ho.ownlt (by simp [Value.ownBlock])).1
  refine ⟨(hU.box.kept hk (fun e => by have := (h.nds.ownlt e).1; omega)).set 1 _, ho.kept hs (fun y hy e => ?_), (hU.ins.kept hk (fun y hy e => h.ni y e hy)).kept hs (fun y hy e => ?_), (hU.lit.kept hk (fun y hy e => h.nl y e hy)).kept hs (fun y hy e => ?_), fun y hy e => ?_, fun y hy e => ?_, h.il⟩
  · simp only [Value.ownBlock, Option.some.injEq] at hy; omega
  · have := (h.ins.ownlt hy).1; omega
  · have := (h.lit.ownlt hy).1; omega
  · simp only [Value.ownBlock, Option.some.injEq] at hy
    subst hy
    rcases hf with hf | hf
    · exact h.ni _ hf e
    · have := (h.ins.ownlt e).2; omega
  · simp only [Value.ownBlock, Option.some.injEq] at hy
    subst hy
    rcases hf with hf | hf
    · exact h.nl _ hf e
    · have := (h.lit.ownlt e).2; omega
theorem W1.box_nd (h : W1 w B m lv iv ll LL is ls) (hb : Below w.heap.size w U) (hg : U.grownBy w' lv.ownBlock) : Blk w' B #[.int .i64 m, lv] 25 :=
  (h.later hb).box.kept (Kp.grown (M := fun y => lv.ownBlock = some y) hg fun y hy => hy) (fun e => by have := (h.nds.ownlt e).1; omega)
theorem below_nd {W : World} (h : Below B W U) (hz : B ≤ U.heap.size) (hg : U.grownBy w' lv.ownBlock) (ho : ∀ g, lv.ownBlock = some g → B ≤ g) (v : Value) : Below B W (w'.setCell ⟨B, 1, none⟩ v) :=
  (h.grown hg hz ho).setCell (Nat.le_refl _) v
end
/-- The chain while it is built. -/
structure W2 (w : World) (N : Nat) (m : Int) (lv : Value) (LL : List (Nd × Value)) : Prop where
  box : Blk w (N + 1) #[.int .i64 m, lv] 25
  nds : OwnL ndc 28 3 w N lv LL
  nb : lv.ownBlock ≠ some (N + 1)
  rd : ∀ x ∈ LL, InsAt (fun k => k < N ∨ k = N + 1 ∨ lv.ownBlock = some k) w x.2 x.1.ins
section
variable {w U w' : World} {N : Nat} {m : Int} {lv : Value} {LL : List (Nd × Value)} {g n cap : Nat}
theorem W2.later (h : W2 w N m lv LL) (hb : Below w.heap.size w w') : W2 w' N m lv LL :=
  ⟨h.box.later hb, h.nds.later hb, h.nb, fun x hx => (h.rd x hx).kept (Kp.below (M := fun _ => False) hb) (fun _ e => e.elim) (fun _ _ e => e)⟩
theorem W2.start (w : World) (m x : Int) : W2 ((w.alloc (.cells #[.int .i64 2, .int .i64 x, .slice none 0 0] 28)).alloc (.cells #[.int .i64 m, .slice (some ⟨w.heap.size, 0, none⟩) 1 1] 25)) w.heap.size m (.slice (some ⟨w.heap.size, 0, none⟩) 1 1) [(⟨2, x, []⟩, .slice none 0 0)] := by
  refine ⟨Blk.new' _ (by simp) _ _, OwnL.alloc ?_ _, by simp [Value.ownBlock], ?_⟩
  · exact World.ownsRow_lit w #[.int .i64 2, .int .i64 x, .slice none 0 0] 1 (Nat.le_refl _) (by unfold maxLen; omega) rfl
  · intro y hy
    rw [List.mem_singleton] at hy
    subst hy
    exact ⟨none, 0, rfl, IntCells.nil _ _, by simp⟩
theorem W2.app {ys : List (Nd × Value)} (h : W2 w N m lv LL) (hb : Below w.heap.size w U) (hg : U.grownBy w' lv.ownBlock) (hf : lv.ownBlock = some g ∨ g = U.heap.size) (ho : OwnL ndc 28 3 w' N (.slice (some ⟨g, 0, none⟩) n cap) (LL ++ ys))
    (hy : ∀ x ∈ ys, InsAt (fun k => k < w.heap.size ∨ U.heap.size ≤ k) U x.2 x.1.ins) :
    W2 (w'.setCell ⟨N + 1, 1, none⟩ (.slice (some ⟨g, 0, none⟩) n cap)) N m (.slice (some ⟨g, 0, none⟩) n cap) (LL ++ ys) := by
  have hU := h.later hb
  have hk : Kp (fun y => lv.ownBlock = some y) U w' := Kp.grown hg fun y hy => hy
  have hz := hb.size
  have hB := h.box.lt
  have hs : Kp (fun y => y = N + 1) w' (w'.setCell ⟨N + 1, 1, none⟩ (.slice (some ⟨g, 0, none⟩) n cap)) := Kp.setCell _ _ _ rfl
  have hgN : g ≠ N + 1 := by
    rcases hf with hf | hf
    · intro e; subst e; exact h.nb hf
    · omega
  have hks : Kp (fun y => y = N + 1 ∨ lv.ownBlock = some y) U (w'.setCell ⟨N + 1, 1, none⟩ (.slice (some ⟨g, 0, none⟩) n cap)) := (hk.mono fun _ _ e => .inr e).trans (hs.mono fun _ _ e => .inl e)
  have hgN0 : N ≤ g := (ho.ownlt (by simp [Value.ownBlock])).1
  refine ⟨(hU.box.kept hk h.nb).set 1 _, ho.kept hs (fun y hy e => ?_), by simp [Value.ownBlock]; exact hgN, fun x hx => ?_⟩
  · simp only [Value.ownBlock, Option.some.injEq] at hy; omega
  · rcases List.mem_append.1 hx with hx | hx
    · refine (h.rd x hx).kept (Kp.trans (Kp.below hb) hks) (fun _ e => .inr e) (fun k hkl e => ?_)
      rcases e with e | e | e
      · exact .inl e
      · exact .inr (.inl e)
      · simp only [Value.ownBlock, Option.some.injEq] at e
        subst e
        rcases hf with hf | hf
        · exact .inr (.inr hf)
        · omega
    · refine ((hy x hx).kept hks (fun k e => ?_) (fun k hkl e => ?_))
      · rcases e with e | e
        · left; omega
        · left; exact (h.nds.ownlt e).2
      · rcases e with e | e | e
        · left; omega
        · left; omega
        · simp only [Value.ownBlock, Option.some.injEq] at e
          subst e
          rcases hf with hf | hf
          · left; exact (h.nds.ownlt hf).2
          · right; omega
theorem W2.kept {F : Nat → Prop} (h : W2 w N m lv LL) (hk : Kp F w w') (hF : ∀ k, F k → k < N) : W2 w' N m lv LL :=
  ⟨h.box.kept hk (fun e => by have := hF _ e; omega), h.nds.kept hk (fun y hy e => by have := hF _ e; have := (h.nds.ownlt hy).1; omega), h.nb, fun x hx => (h.rd x hx).kept hk (fun k e => .inl (hF k e)) (fun _ _ e => e)⟩
end
/-- The four nodes of a step of the chain. -/
def ys4 (x : Int) (j : Nat) (h : Nat) : List (Nd × Value) := [(⟨2, x, []⟩, .slice none 0 0), (⟨2, -x, []⟩, .slice none 0 0), (⟨3, 0, [4 * (j : Int), 4 * (j : Int) + 2]⟩, .slice (some ⟨h, 0, none⟩) 2 2), (⟨4, 0, [4 * (j : Int) + 1, 4 * (j : Int) + 3]⟩, .slice (some ⟨h + 1, 0, none⟩) 2 2)]
theorem ints2 {W : World} {b : Nat} {x y x' y' : Int} (hk : Blk W b #[.int .i64 x', .int .i64 y'] 3) (hx : x' = x) (hy : y' = y) : IntCells W (some ⟨b, 0, none⟩) [x, y] := by
  subst hx; subst hy
  intro j hj
  have h2 : j = 0 ∨ j = 1 := by simp at hj; omega
  rcases h2 with rfl | rfl
  · exact ⟨_, _, rfl, hk.cell 0⟩
  · exact ⟨_, _, rfl, hk.cell 1⟩
theorem ys4_ins {w : World} {a b c d x : Int} {j : Nat} {cs : Array Value} (ha : a = 4 * (j : Int)) (hb : b = 4 * (j : Int) + 2) (hc : c = 4 * (j : Int) + 1) (hd : d = 4 * (j : Int) + 3) :
    ∀ y ∈ ys4 x j w.heap.size, InsAt (fun k => k < w.heap.size ∨ (((w.alloc (.cells #[.int .i64 a, .int .i64 b] 3)).alloc (.cells #[.int .i64 c, .int .i64 d] 3)).alloc (.cells cs 28)).heap.size ≤ k)
      (((w.alloc (.cells #[.int .i64 a, .int .i64 b] 3)).alloc (.cells #[.int .i64 c, .int .i64 d] 3)).alloc (.cells cs 28)) y.2 y.1.ins := by
  intro y hy
  simp only [ys4, List.mem_cons, List.not_mem_nil, or_false] at hy
  rcases hy with rfl | rfl | rfl | rfl
  · exact ⟨none, 0, rfl, IntCells.nil _ _, by simp⟩
  · exact ⟨none, 0, rfl, IntCells.nil _ _, by simp⟩
  · refine ⟨some ⟨w.heap.size, 0, none⟩, 2, rfl, ints2 (((Blk.new w _ _).alloc _).alloc _) ha hb, fun _ q hq => ?_⟩
    obtain rfl := Option.some.inj hq
    simp only [World.size_alloc]; omega
  · refine ⟨some ⟨w.heap.size + 1, 0, none⟩, 2, rfl, ints2 ((Blk.new' (w.alloc _) (World.size_alloc _ _) _ _).alloc _) hc hd, fun _ q hq => ?_⟩
    obtain rfl := Option.some.inj hq
    simp only [World.size_alloc]; omega
theorem wAny_step {σ : Int} {M j h : Nat} {LL : List (Nd × Value)} {x : Int} (hl : LL.map Prod.fst = wAny σ M j) (hx : σ * ((M : Int) - 1 - j) = x) : (LL ++ ys4 x j h).map Prod.fst = wAny σ M (j + 1) := by
  rw [List.map_append, hl, wAny, hx]; rfl
theorem W2.box_nd {w U w' : World} {N : Nat} {m : Int} {lv : Value} {LL : List (Nd × Value)} (h : W2 w N m lv LL) (hb : Below w.heap.size w U) (hg : U.grownBy w' lv.ownBlock) : Blk w' (N + 1) #[.int .i64 m, lv] 25 :=
  (h.later hb).box.kept (Kp.grown (M := fun y => lv.ownBlock = some y) hg fun _ hy => hy) h.nb
theorem InsAt.rd {F : Nat → Prop} {w : World} {x : Nd × Value} (h : InsAt F w x.2 x.1.ins) (hl : x.1.ins.length ≤ 1073741824) : InsRd w x := by
  obtain ⟨a, cap, h1, h2, _⟩ := h
  exact ⟨a, cap, h1, h2, hl⟩
/-- The nodes so far, with their inputs' slices. -/
def leafs (l : List Nd) : List (Nd × Value) := l.map fun x => (x, .slice none 0 0)
theorem leafs_fst (l : List Nd) : (leafs l).map Prod.fst = l := by simp [leafs, Function.comp_def]
theorem leafs_rd (w : World) (l : List Nd) (hl : ∀ x ∈ l, x.ins = []) : ∀ x ∈ leafs l, InsRd w x := by
  intro x hx
  simp only [leafs, List.mem_map] at hx
  obtain ⟨y, hy, rfl⟩ := hx
  exact ⟨none, 0, by simp [hl y hy], by simp only [hl y hy]; exact IntCells.nil _ _, by simp [hl y hy]⟩
theorem wAllP_ins (σ : Int) (m : Nat) : ∀ x ∈ wAllP σ m, x.ins = [] := by
  intro x hx
  simp only [wAllP, List.mem_map] at hx
  obtain ⟨i, _, rfl⟩ := hx
  rfl
/-- The nets of the law can be read. -/
theorem W1.read {w : World} {B : Nat} {m : Int} {M : Nat} {σ : Int} {g NA cap : Nat} {iv ll : Value} (hM : M ≤ 128) (hN : (wAll σ M).length = NA) (h : W1 w B m (.slice (some ⟨g, 0, none⟩) NA cap) iv ll (leafs (wAllP σ M) ++ [(⟨3, 0, wIn M⟩, iv)]) (wIn M) (wLits σ M)) : NdCells w (some ⟨g, 0, none⟩) (wAll σ M) := by
  have e : (leafs (wAllP σ M) ++ [((⟨3, 0, wIn M⟩ : Nd), iv)]).map Prod.fst = wAll σ M := by rw [List.map_append, leafs_fst]; rfl
  rw [← e]
  refine OwnL.nds (by rw [← hN, ← e, List.length_map]) h.nds fun x hx => ?_
  rcases List.mem_append.1 hx with hx | hx
  · exact leafs_rd w _ (wAllP_ins σ M) x hx
  · rw [List.mem_singleton] at hx
    subst hx
    obtain ⟨a, c, hv, hc, _⟩ := (ownInts_I1.2 h.ins).cells
    exact ⟨a, c, hv, hc, by simp [wIn]; omega⟩
theorem W2.read {w : World} {N : Nat} {m : Int} {M n : Nat} {σ : Int} {g cap : Nat} {LL : List (Nd × Value)} (hσ : σ = 1 ∨ σ = -1) (hM : M ≤ 128) (hM1 : 1 ≤ M) (hL : LL.map Prod.fst = wAny σ M (M - 1)) (hn : LL.length = n) (h : W2 w N m (.slice (some ⟨g, 0, none⟩) n cap) LL) : NdCells w (some ⟨g, 0, none⟩) (wAny σ M (M - 1)) := by
  rw [← hL]
  refine OwnL.nds hn.symm h.nds fun x hx => (h.rd x hx).rd ?_
  have : x.1 ∈ wAny σ M (M - 1) := by rw [← hL]; exact List.mem_map.2 ⟨x, hx, rfl⟩
  have := (wAny_inv hσ hM (show M - 1 < M by omega)).few _ this
  omega
theorem wAllP_succ (σ : Int) (k : Nat) : wAllP σ (k + 1) = wAllP σ k ++ [⟨2, σ * ((k : Int) + 1), []⟩] := by simp [wAllP, List.range_succ]
theorem wIn_succ (k : Nat) : wIn (k + 1) = wIn k ++ [(k : Int)] := by simp [wIn, List.range_succ]
theorem wLits_succ (σ : Int) (k : Nat) : wLits σ (k + 1) = wLits σ k ++ [σ * ((k : Int) + 1)] := by simp [wLits, List.range_succ]
theorem own_ints {w : World} {base n cl : Nat} {al : Option Addr} {ls : List Int} (h : OwnL I1 3 1 w base (.slice al n cl) ls) : IntCells w al ls := by
  obtain ⟨a, c, e, hc, _⟩ := (ownInts_I1.2 h).cells
  simp only [Value.slice.injEq] at e
  rw [e.1]; exact hc
theorem leafs_snoc (l : List Nd) (x : Nd) : leafs (l ++ [x]) = leafs l ++ [(x, .slice none 0 0)] := by simp [leafs]
end Go.Proofs.YteoopkogpjhneaaDoor
