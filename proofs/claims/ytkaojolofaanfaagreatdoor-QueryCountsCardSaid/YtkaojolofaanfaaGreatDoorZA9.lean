/- Part of the proofs that laws of censuslaw38 return true for every input, where the tables that the rows list are laid. Texts: NetOf. -/
import Derived.Test.YtkaojolofaanfaaGreatDoorZA8

/- The walk of (*Builder).Net. -/
namespace Go.Proofs.YtkaojolofaanfaaGreatDoor
open Go.RowKit Cen
set_option maxHeartbeats 4000000
set_option maxRecDepth 100000

def I1 (x : Int) : List Value := [.int .i64 x]
theorem I1_len (x : Int) : (I1 x).length = 1 := rfl
theorem ownInts_I1 {w : World} {base : Nat} {v : Value} {xs : List Int} : OwnInts w base v xs ↔ OwnL I1 3 1 w base v xs := by
  have e : xs.map (Value.int .i64) = xs.flatMap I1 := by
    induction xs with
    | nil => rfl
    | cons x xs ih => simp [I1] at *; exact ih
  unfold OwnInts OwnL; rw [e]
theorem OwnL.cell1 {w : World} {base : Nat} {xs : List Int} {g cap n : Nat} (hn : n = xs.length) (h : OwnL I1 3 1 w base (.slice (some ⟨g, 0, none⟩) n cap) xs) (i : Nat) (hi : i < xs.length) :
    w.cell? ⟨g, i, none⟩ = some (.int .i64 xs[i]) := by
  have := h.cell hn I1_len i 0 hi (by omega)
  simpa [I1] using this
theorem b2i_or (a b : Bool) : bits .or .i64 (b2i a) (b2i b) = b2i (a || b) := by cases a <;> cases b <;> decide
def B1 (b : Bool) : List Value := [.int .i64 (b2i b)]
theorem elemI1 : Elem 40 3 1 8 (.int .i64 0) := elemInt
theorem OwnL.cellB {w : World} {base : Nat} {xs : List Bool} {g cap n : Nat} (hn : n = xs.length) (h : OwnL B1 3 1 w base (.slice (some ⟨g, 0, none⟩) n cap) xs) (i : Nat) (hi : i < xs.length) :
    w.cell? ⟨g, i, none⟩ = some (.int .i64 (b2i xs[i])) := by
  have := h.cell hn (enc := B1) (fun _ => rfl) i 0 hi (by omega)
  simpa [B1] using this
theorem ownB_I {w : World} {base : Nat} {v : Value} {xs : List Bool} (h : OwnL B1 3 1 w base v xs) : OwnL I1 3 1 w base v (xs.map b2i) := by
  have e : ∀ xs : List Bool, xs.flatMap B1 = (xs.map b2i).flatMap I1 := by
    intro xs
    induction xs with
    | nil => rfl
    | cons x xs ih => simp [I1, B1] at *; exact ih
  have e := e xs
  have h' := h
  unfold OwnL at h' ⊢; rw [List.length_map, ← e]; exact h'

section
variable {ops : Array Oper} {rest : List Oper} {o : Oper} {a : Act} {Q : Exit → Act → World → Prop}
/-- append(s, y): y lies in a block of its own. -/
theorem app1L {α : Type} {enc : α → List Value} {t e k bytes : Nat} {z : Value} {W : World} {C : Array Value} (E : Elem t e k bytes z) (hgd : o.guard = none) (s x : Operand) (ho : o.op = .call { callee := .builtin .append, args := #[s, x], argTypes := #[t, t] })
    (base : Nat) (v : Value) (l : List α) (y : α) (hs : a.eval s = v) (hown : OwnL enc e k W base v l) (hx : a.eval x = .slice (some ⟨W.heap.size, 0, none⟩) 1 1) (hk : (enc y).length = k)
    (hC : enc y = C.toList) (h1 : ∀ u ∈ enc y, u.oneCell' = true) (hl : l.length ≤ 1073741824) (hby : bytes ≤ 1000) (hbase : base ≤ W.heap.size)
    (h : ∀ g cap w', OwnL enc e k w' base (.slice (some ⟨g, 0, none⟩) (l.length + 1) cap) (l ++ [y]) → W.grownBy w' v.ownBlock → (v.ownBlock = some g ∨ W.heap.size ≤ g) → wpList Tryz.prog ops Q rest (a.put o.dst (.slice (some ⟨g, 0, none⟩) (l.length + 1) cap)) w') :
    wpList Tryz.prog ops Q (o :: rest) a (W.alloc (.cells C e)) := by
  obtain ⟨ht, i, hi, hz, hsz, hby', hzs, h0⟩ := E
  refine wpList_append_lies _ hgd s x t ho base e i z k bytes ht hi hz hsz hby' hzs h0 v l.length (l.flatMap enc) hs (World.ownsRow.alloc hown _) ⟨W.heap.size, 0, none⟩ 1 1 (enc y) hx (by rw [hk]; omega) ?_ h1 (by omega) (by unfold maxLen; omega) ?_ (by simp; omega) (W.heap.size + 1) (by simp) ?_
  · intro j u hj
    have e1 : (⟨W.heap.size, 0, none⟩ : Addr).add j = ⟨W.heap.size, j, none⟩ := by
      unfold Addr.add; split
      · rename_i hj0; rw [hj0]
      · simp
    rw [e1, World.cell?_alloc_at _ _ _ _ rfl, ← Array.getElem?_toList, ← hC]; exact hj
  · have := Nat.mul_le_mul (show l.length + 1 ≤ 1073741825 by omega) hby; omega
  · intro g cap w' h2 h3 h4 _
    exact h g cap w' (by unfold OwnL; rw [List.length_append, List.flatMap_append]; simpa using h2) (grownBy_step h3) (h4.imp id (fun e => by omega))
end
/-- All nodes of the builder, in memory. -/
theorem Bld.row {A F : Nat → Prop} {w : World} {p : Nat} {n : Int} {L : List Nd} (h : Bld A F w p n L) (h0 : 0 < L.length) :
    ∃ g cap, w.cell? ⟨p, 1, none⟩ = some (.slice (some ⟨g, 0, none⟩) L.length cap) ∧ L.length ≤ cap ∧ ∀ q (hq : q < L.length), w.cell? ⟨g, q * 3, none⟩ = some (.int .i64 L[q].kind) ∧ w.cell? ⟨g, q * 3 + 1, none⟩ = some (.int .i64 L[q].lit) ∧
      ∃ av cv, w.cell? ⟨g, q * 3 + 2, none⟩ = some (.slice av L[q].ins.length cv) ∧ IntCells w av L[q].ins ∧ ndOk L[q] n q = true ∧ L[q].ins.length ≤ 1048576 := by
  obtain ⟨mb, lv, LL, HAt, rfl, hF⟩ := h
  rw [List.length_map] at h0
  obtain ⟨g, cap, rfl, hcap⟩ : ∃ g cap, lv = .slice (some ⟨g, 0, none⟩) LL.length cap ∧ LL.length ≤ cap := by
    rcases HAt.row.2 with ⟨_, h2⟩ | ⟨g, cap, cur, h1, h2, h3, h4, h5, _⟩
    · omega
    · exact ⟨g, cap, h1, by first | exact h4 | exact h5⟩
  refine ⟨g, cap, by rw [List.length_map]; exact HAt.blk.cell 1, by rw [List.length_map]; exact hcap, ?_⟩
  intro q hq
  rw [List.length_map] at hq
  have e : (LL.map Prod.fst)[q]'(by simpa using hq) = (LL[q]).1 := by simp
  obtain ⟨av, cv, h1, h2, h3⟩ := HAt.ins _ (List.getElem_mem hq)
  refine ⟨?_, ?_, av, cv, ?_, by rw [e]; exact h2, ?_, by rw [e]; exact HAt.len _ (List.getElem_mem hq)⟩
  · rw [e]; exact HAt.row.cell rfl ndc_len q 0 hq (by omega)
  · rw [e]; exact HAt.row.cell rfl ndc_len q 1 hq (by omega)
  · rw [e, ← h1]; exact HAt.row.cell rfl ndc_len q 2 hq (by omega)
  · have := HAt.ok q hq
    simpa [List.getD_eq_getElem?_getD, hq] using this
/-- Nodes that can be read, all in blocks from B on. -/
def NdAbove (B : Nat) (w : World) (a : Option Addr) (l : List Nd) : Prop :=
  ∀ i, i < l.length → ∃ b off, a = some ⟨b, off, none⟩ ∧ B ≤ b ∧ w.cell? ⟨b, off + i * 3, none⟩ = some (.int .i64 (l.getD i default).kind) ∧ w.cell? ⟨b, off + i * 3 + 1, none⟩ = some (.int .i64 (l.getD i default).lit) ∧
    ∃ av cv, w.cell? ⟨b, off + i * 3 + 2, none⟩ = some (.slice av (l.getD i default).ins.length cv) ∧ IntCells w av (l.getD i default).ins ∧ ((l.getD i default).ins ≠ [] → ∀ q, av = some q → B ≤ q.block) ∧ (l.getD i default).ins.length ≤ 1048576
theorem NdAbove.cells {B : Nat} {w : World} {a : Option Addr} {l : List Nd} (h : NdAbove B w a l) : NdCells w a l := by
  intro i hi
  obtain ⟨b, off, e, _, c0, c1, av, cv, c2, c3, _, c5⟩ := h i hi
  exact ⟨b, off, e, c0, c1, av, cv, c2, c3, by omega⟩
theorem NdAbove.lower {B B' : Nat} {w : World} {a : Option Addr} {l : List Nd} (h : NdAbove B w a l) (hB : B' ≤ B) : NdAbove B' w a l := by
  intro i hi
  obtain ⟨b, off, e, c, c0, c1, av, cv, c2, c3, c4, c5⟩ := h i hi
  exact ⟨b, off, e, Nat.le_trans hB c, c0, c1, av, cv, c2, c3, fun hne q hq => Nat.le_trans hB (c4 hne q hq), c5⟩
theorem NdAbove.kept {M : Nat → Prop} {B : Nat} {w w' : World} {a : Option Addr} {l : List Nd} (h : NdAbove B w a l) (hk : Kp M w w') (hM : ∀ k, M k → k < B) : NdAbove B w' a l := by
  intro i hi
  obtain ⟨b, off, e, c, c0, c1, av, cv, c2, c3, c4, c5⟩ := h i hi
  have hb : ¬ M b := fun hm => by have := hM b hm; omega
  refine ⟨b, off, e, c, hk.cell c0 hb, hk.cell c1 hb, av, cv, hk.cell c2 hb, ?_, c4, c5⟩
  by_cases hne : (l.getD i default).ins = []
  · rw [hne]; exact IntCells.nil _ _
  · exact c3.kept hk fun q hq hm => by have := hM _ hm; have := c4 hne q hq; omega
/-- The state while the nodes are taken over. -/
structure NetI (w : World) (B bo : Nat) (n : Int) (m : Nat) (ats : List Int) (lv : Value) (LL : List (Nd × Value)) : Prop where
  row : OwnL I1 3 1 w B (.slice (some ⟨B, 0, none⟩) m m) ats
  out : Blk w bo #[.int .i64 n, lv] 24
  own : OwnL ndc 67 3 w (bo + 1) lv LL
  ins : ∀ x ∈ LL, InsAt (fun k => k ≤ B ∨ k = bo ∨ lv.ownBlock = some k) w x.2 x.1.ins
  lt : B < bo
  len : m = ats.length
  lens : ∀ x ∈ LL, x.1.ins.length ≤ 1048576
section
variable {w w' : World} {B bo : Nat} {n : Int} {m : Nat} {ats : List Int} {lv : Value} {LL : List (Nd × Value)}
theorem NetI.later (h : NetI w B bo n m ats lv LL) (hb : Below w.heap.size w w') : NetI w' B bo n m ats lv LL :=
  ⟨h.row.later hb, h.out.later hb, h.own.later hb, fun x hx => (h.ins x hx).kept (Kp.below (M := fun _ => False) hb) (fun _ hf => hf.elim) (fun _ _ hf => hf), h.lt, h.len, h.lens⟩
theorem NetI.ob (h : NetI w B bo n m ats lv LL) (k : Nat) (hk : lv.ownBlock = some k) : bo < k ∧ k < w.heap.size := by
  have := World.ownsRow.lt h.own k hk; omega
theorem NetI.setAt (h : NetI w B bo n m ats lv LL) (i : Nat) (hi : i < m) (y : Int) : NetI (w.setCell ⟨B, i, none⟩ (.int .i64 y)) B bo n m (ats.set i y) lv LL := by
  have hk : Kp (fun k => k = B) w (w.setCell ⟨B, i, none⟩ (.int .i64 y)) := Kp.setCell _ _ _ rfl
  refine ⟨h.row.put1 h.len I1_len i (by have := h.len; omega) y _ rfl, h.out.other _ _ (by have := h.lt; simp; omega), h.own.kept hk (fun k hk' e => by have := h.ob k hk'; have := h.lt; omega), fun x hx => (h.ins x hx).kept hk (fun k hk' => .inl (Nat.le_of_eq hk')) (fun _ _ hf => hf), h.lt, by rw [List.length_set]; exact h.len, h.lens⟩
theorem NetI.push {g cap : Nat} {x : Nd} {v : Value} (h : NetI w B bo n m ats lv LL) (ho : OwnL ndc 67 3 w' (bo + 1) (.slice (some ⟨g, 0, none⟩) (LL.length + 1) cap) (LL ++ [(x, v)])) (hg : w.grownBy w' lv.ownBlock)
    (hx : InsAt (fun k => k ≤ B ∨ k = bo ∨ lv.ownBlock = some k) w v x.ins) (hgg : lv.ownBlock = some g ∨ w.heap.size ≤ g) (hil : x.ins.length ≤ 1048576) :
    NetI (w'.setCell ⟨bo, 1, none⟩ (.slice (some ⟨g, 0, none⟩) (LL.length + 1) cap)) B bo n m ats (.slice (some ⟨g, 0, none⟩) (LL.length + 1) cap) (LL ++ [(x, v)]) := by
  have hk : Kp (fun k => lv.ownBlock = some k) w w' := Kp.grown hg fun k hk => hk
  have hlt := h.lt
  have hz : bo < w.heap.size := h.out.lt
  have hgb : bo + 1 ≤ g := ho.lt.2
  have hk2 : Kp (fun k => k = bo) w' (w'.setCell ⟨bo, 1, none⟩ (.slice (some ⟨g, 0, none⟩) (LL.length + 1) cap)) := Kp.setCell _ _ _ rfl
  have hk3 : Kp (fun k => k ≤ B ∨ k = bo ∨ lv.ownBlock = some k) w (w'.setCell ⟨bo, 1, none⟩ (.slice (some ⟨g, 0, none⟩) (LL.length + 1) cap)) := (hk.mono fun k _ hk => .inr (.inr hk)).trans (hk2.mono fun k _ hk => .inr (.inl hk))
  have hF : ∀ k, k < w.heap.size → (k ≤ B ∨ k = bo ∨ (Value.slice (some ⟨g, 0, none⟩) (LL.length + 1) cap).ownBlock = some k) → (k ≤ B ∨ k = bo ∨ lv.ownBlock = some k) := by
    intro k hkw hk'
    rcases hk' with h1 | h1 | h1
    · exact .inl h1
    · exact .inr (.inl h1)
    · simp [Value.ownBlock] at h1; subst h1
      rcases hgg with h2 | h2
      · exact .inr (.inr h2)
      · omega
  refine ⟨(h.row.kept hk (fun k hk' e => by simp [Value.ownBlock] at hk'; have := h.ob k e; omega)).kept hk2 (fun k hk' e => by simp [Value.ownBlock] at hk'; omega),
    (h.out.kept hk (fun e => by have := h.ob _ e; omega)).set 1 _, ho.kept hk2 (fun k hk' e => by simp [Value.ownBlock] at hk'; omega), ?_, hlt, h.len, fun y hy => by
      rcases List.mem_append.1 hy with hy | hy
      · exact h.lens y hy
      · simp at hy; subst hy; exact hil⟩
  intro y hy
  rcases List.mem_append.1 hy with hy | hy
  · exact (h.ins y hy).kept hk3 (fun _ hk' => hk') hF
  · simp at hy; subst hy
    exact hx.kept hk3 (fun _ hk' => hk') hF
theorem NetI.under {M : Nat → Prop} (h : NetI w B bo n m ats lv LL) (hk : Kp M w w') (hM : ∀ k, M k → k < B) : NetI w' B bo n m ats lv LL := by
  have hlt := h.lt
  exact ⟨h.row.kept hk (fun k hk' e => by have := hM k e; simp [Value.ownBlock] at hk'; omega), h.out.kept hk (fun e => by have := hM _ e; omega), h.own.kept hk (fun k hk' e => by have := hM k e; have := h.ob k hk'; omega),
    fun x hx => (h.ins x hx).kept hk (fun k hk' => .inl (by have := hM k hk'; omega)) (fun _ _ hf => hf), h.lt, h.len, h.lens⟩
theorem NetI.cells {la : Option Addr} {lcap : Nat} (h : NetI w B bo n m ats (.slice la LL.length lcap) LL) : NdAbove (B + 1) w la (LL.map Prod.fst) := by
  intro i hi
  rw [List.length_map] at hi
  obtain ⟨g, rfl⟩ : ∃ g, la = some ⟨g, 0, none⟩ := by
    rcases h.own.shape with ⟨_, h2⟩ | ⟨g, cap', h1, _⟩
    · rw [h2] at hi; simp at hi
    · simp only [Value.slice.injEq, true_and] at h1; exact ⟨g, h1.1⟩
  have e : (LL.map Prod.fst).getD i default = (LL[i]).1 := by simp [List.getD_eq_getElem?_getD, hi]
  obtain ⟨av, cv, h1, h2, h3⟩ := h.ins _ (List.getElem_mem hi)
  refine ⟨g, 0, rfl, by have := h.own.lt.2; have := h.lt; omega, ?_, ?_, av, cv, ?_, by rw [e]; exact h2, ?_, by rw [e]; have := h.lens _ (List.getElem_mem hi); omega⟩
  · rw [e, Nat.zero_add]; exact h.own.cell rfl ndc_len i 0 hi (by omega)
  · rw [e, Nat.zero_add]; exact h.own.cell rfl ndc_len i 1 hi (by omega)
  · rw [e, Nat.zero_add, ← h1]; exact h.own.cell rfl ndc_len i 2 hi (by omega)
  · rw [e]; intro hne q hq
    have := (h3 hne q hq).1
    exact Nat.lt_of_not_le fun hle => this (.inl hle)
end

theorem net_any (A F : Nat → Prop) (p : Nat) (n : Int) (L : List Nd) (root : Nat) (w : World) (hb : Bld A F w p n L) (hr : root < L.length) :
    Calls Tryz.prog 178 #[.pointer (some ⟨p, 0, none⟩), .int .i64 root] w
      fun e w' => ∃ a cap, e = .returned (.tuple #[.agg #[.int .i64 n, .slice a (netL L root).length cap], .int .i64 0]) ∧ NdAbove w.heap.size w' a (netL L root) ∧ Below w.heap.size w w' := by
  obtain ⟨_, _, mb, c0, _, c2⟩ := hb.cells
  obtain ⟨gb, capb, c1, hcap, hrow⟩ := hb.row (by omega)
  have hmn := fun (w : World) (r : Option Nat) => run_eql_map_nil (P := Tryz.prog) w 108 9 3 r Tryz.underlying108
  have HBD := Lib.hid hb
  have hLb : L.length ≤ 65536 := hb.bd.1
  have d1 : decide ((root : Int) < 0) = false := by simp
  have d2 : ¬ (L.length ≤ root) := by omega
  have hzp := hb.plt
  have HR := Lib.hid hr
  have HLB := Lib.hid hLb
  have HROW := Lib.hid (And.intro c1 hrow)
  have HC0 := Lib.hid c0
  have HM1 : Hid (root + 1 ≤ maxLen) := by show _ ≤ _; unfold maxLen; omega
  have hB0 : Below w.heap.size w (w.alloc (.cells #[.int .i64 0, .slice none 0 0] 24)) := (Below.refl _ _).alloc (Nat.le_refl _) _
  have HB0 := Lib.hid hB0
  have HSZ0 : Hid (w.heap.size + 1 ≤ (w.alloc (.cells #[.int .i64 0, .slice none 0 0] 24)).heap.size) := by show _ ≤ _; simp
  have hr2 : (root : Int) ≤ 1073741824 := by omega
  have hr3 : root ≤ 1073741824 := by omega
  clear hb hr hLb hB0 hrow
  go_enter Tryz.func178, Tryz.ntmps178
  go_wp2_with (at_make; go_loud (refine mk elemInt rfl _ _ rfl (w.heap.size + 1) .i64 .i64 _ _ (root + 1) rfl rfl (by omega) (by omega) (by omega) HM1.out HSZ0.out B1 false rfl ?_))
  intro w1 ho1 hg1
  have hb1 : Below (w.heap.size + 1) (w.alloc (.cells #[.int .i64 0, .slice none 0 0] 24)) w1 := (Below.refl _ _).grown hg1 (by simp) (by simp)
  have HB1 := Lib.hid hb1
  have hb01 : Below w.heap.size w w1 := HB0.out.trans (hb1.mono (by omega))
  have HB01 := Lib.hid hb01
  have k0 := cell_keep hb01 c0
  have k1 := cell_keep hb01 c1
  have k2 := cell_keep hb01 c2
  have f1 := ho1.fr (by simp) root
  have v1 : w1.cell? ⟨w.heap.size + 1, root, none⟩ = some (.int .i64 0) := by
    have := ho1.cellB (by simp) root (by simp)
    simpa [b2i] using this
  have HO1 := Lib.hid ho1
  have hz1 : w.heap.size + 1 < w1.heap.size := ho1.lt.1
  have HBR1 : Hid (Blk w1 w.heap.size #[.int .i64 0, .slice none 0 0] 24) := (Blk.new w _ _).laterB hb1 (by omega)
  clear hg1 hb1 hb01 ho1 c0 c1 c2
  go_wp2
  have HO2 : Hid (OwnL B1 3 1 (w1.setCell ⟨w.heap.size + 1, root, none⟩ (.int .i64 1)) (w.heap.size + 1) (.slice (some ⟨w.heap.size + 1, 0, none⟩) (root + 1) (root + 1)) ((List.replicate (root + 1) false).set root true)) :=
    HO1.out.put1 (by simp) (fun _ => rfl) root (by simp) true _ rfl
  go_loopw [7] (fun i wr => ∃ (j : Nat) (z : Int) (m : List Bool), z = (j : Int) - 1 ∧ j ≤ root + 1 ∧ i = .int .i64 z ∧ root + 1 = m.length ∧ markR L j m = marks L root ∧ OwnL B1 3 1 wr (w.heap.size + 1) (.slice (some ⟨w.heap.size + 1, 0, none⟩) (root + 1) (root + 1)) m ∧ Below (w.heap.size + 1) w1 wr) (fun i _ => (intOf i + 1).toNat)
  case atStart =>
    exact ⟨root + 1, root, _, by omega, Nat.le_refl _, rfl, by simp, rfl, HO2.out, (Below.refl _ _).setCell (by simp) _⟩
  case round =>
    obtain ⟨j, z, m, hz, hj, rfl, hml, hmk, hown, hbel⟩ := hrel
    have HO := Lib.hid hown
    have HB := Lib.hid hbel
    have HML := Lib.hid hml
    have HMK := Lib.hid hmk
    clear hown hbel hml hmk
    cases j with
    | succ j =>
      have : z = (j : Int) := by omega
      subst this
      clear hz
      have hjr : j ≤ root := by omega
      clear hj
      have hjL : j < L.length := by have := HR.out; omega
      have hji : (j : Int) < (L.length : Int) := by omega
      obtain ⟨_, _, av, cv, r3, pi, pk, pl⟩ := HROW.out.2 j hjL
      have hxe : nd L (j : Int) = L[j] := by simp [nd, List.getD_eq_getElem?_getD, hjL]
      have hstep : markR L (j + 1) m = markR L j (markIn L[j].ins (m.getD j false) m) := by rw [markR, hxe]
      generalize L[j] = x at *
      clear hxe
      have hin : ∀ i ∈ x.ins, 0 ≤ i ∧ i < (j : Int) := by
        simp only [ndOk, Bool.and_eq_true] at pk
        exact insOk_iff.1 pk.1
      have HIN := Lib.hid hin
      have HST := Lib.hid hstep
      have hbw : Below w.heap.size w wr := HB01.out.trans (HB.out.mono (by omega))
      have HBW := Lib.hid hbw
      have q1 := cell_keep hbw (HROW.out.1 : w.cell? ⟨p, 1, none⟩ = _)
      have q3 := cell_keep hbw r3
      have HPI := Lib.hid pi
      have hgz : gb < w.heap.size := cell_block r3
      clear hin hstep hbw r3 pi pk
      go_wp2
      obtain ⟨wo, rfl⟩ : ∃ wo : World, wo = wr := ⟨_, rfl⟩
      generalize hbv : m.getD j false = bv at *
      have HBV := Lib.hid hbv
      clear hbv
      go_loopw [56] (fun c wi => ∃ q : Nat, q ≤ x.ins.length ∧ c = .int .i64 q ∧ OwnL B1 3 1 wi (w.heap.size + 1) (.slice (some ⟨w.heap.size + 1, 0, none⟩) (root + 1) (root + 1)) (markIn (x.ins.take q) bv m) ∧ Below (w.heap.size + 1) w1 wi) (fun c _ => x.ins.length - (intOf c).toNat)
      case atStart => exact ⟨0, Nat.zero_le _, rfl, by simpa [markIn] using HO.out, HB.out⟩
      case round =>
        obtain ⟨q, hq, rfl, hown, hbel⟩ := hrel
        have HOI := Lib.hid hown
        have HBI := Lib.hid hbel
        clear hown hbel
        by_cases hlt : q < x.ins.length
        · have HPW := Lib.hid (HPI.out.keep (HB01.out.trans (HBI.out.mono (by omega))))
          obtain ⟨b', off', rfl, hc⟩ := HPW.out q hlt
          obtain ⟨hk0, hk1⟩ := HIN.out _ (List.getElem_mem hlt)
          have hgd : x.ins.getD q 0 = x.ins[q] := by simp [List.getD_eq_getElem?_getD, hlt]
          have HNX : Hid (markIn (x.ins.take (q + 1)) bv m = (markIn (x.ins.take q) bv m).set x.ins[q].toNat ((markIn (x.ins.take q) bv m).getD x.ins[q].toNat false || bv)) := by
            show _ = _; rw [List.take_succ_eq_append_getElem hlt, markIn_snoc]
          have hbvj : (markIn (x.ins.take q) bv m).getD j false = bv := by
            rw [markIn_other _ _ _ _ (fun k hk => HIN.out k (List.mem_of_mem_take hk))]; exact HBV.out
          have hmil : root + 1 = (markIn (x.ins.take q) bv m).length := by rw [markIn_length]; exact HML.out
          rw [hgd] at hc
          generalize x.ins[q] = kz at *
          clear hgd
          obtain ⟨kn, rfl⟩ := Int.eq_ofNat_of_zero_le hk0
          rw [Int.toNat_natCast] at HNX
          generalize markIn (x.ins.take q) bv m = mi at *
          have hkn : kn < root + 1 := by omega
          have hjn : j < root + 1 := by omega
          have hknm : kn < mi.length := by omega
          have hjnm : j < mi.length := by omega
          have g1 : wr.cell? ⟨w.heap.size + 1, kn, none⟩ = some (.int .i64 (b2i (mi.getD kn false))) := by
            rw [HOI.out.cellB hmil kn hknm]; simp [List.getD_eq_getElem?_getD, hknm]
          have g2 : wr.cell? ⟨w.heap.size + 1, j, none⟩ = some (.int .i64 (b2i bv)) := by
            rw [HOI.out.cellB hmil j hjnm, ← hbvj]; simp [List.getD_eq_getElem?_getD, hjnm]
          have g3 := HOI.out.fr hmil kn
          have g4 := b2i_or (mi.getD kn false) bv
          have HMIL := Lib.hid hmil
          have HPUT : Hid (OwnL B1 3 1 (wr.setCell ⟨w.heap.size + 1, kn, none⟩ (.int .i64 (b2i (mi.getD kn false || bv)))) (w.heap.size + 1) (.slice (some ⟨w.heap.size + 1, 0, none⟩) (root + 1) (root + 1)) (mi.set kn (mi.getD kn false || bv))) :=
            HOI.out.put1 hmil (fun _ => rfl) kn hknm _ _ rfl
          generalize mi.getD kn false = bk at *
          generalize hov : b2i (bk || bv) = ov at *
          have hkn1 : (kn : Int) < (root : Int) + 1 := by omega
          have hjn1 : (j : Int) < (root : Int) + 1 := by omega
          have hb'z : b' < wr.heap.size := cell_block hc
          have hBz : w.heap.size + 1 < wr.heap.size := HOI.out.lt.1
          clear hbvj hmil hknm hjnm hk0 hov
          go_wp2_with fail
          refine wp_region_still_tail 10 (by kernel_rfl) (by kernel_rfl) ?_
          simp only [List.take_succ_cons, List.take_zero, List.drop_succ_cons, List.drop_zero]
          change wpStill _ _ (World.drew _) _ _ _
          repeat still_step
          refine wpStill_nil ?_
          go_wp2
          go_roundw
          case rel => exact ⟨q + 1, by omega, by go_num, by rw [HNX.out]; exact HPUT.out, (HBI.out.trans ((Below.refl _ _).drew.setCell (show w.heap.size + 1 ≤ (⟨w.heap.size + 1, kn, none⟩ : Addr).block from Nat.le_refl _) _))⟩
          case measure => simp [intOf]; omega
        · have : q = x.ins.length := by omega
          subst this
          go_wp2
          go_roundw
          case rel => exact ⟨j, (j : Int) - 1, markIn x.ins bv m, rfl, by omega, rfl, by rw [markIn_length]; exact HML.out, by rw [← HMK.out, HST.out], by simpa using HOI.out, HBI.out⟩
          case measure => simp [intOf] <;> omega
    | zero =>
      have : z = -1 := by omega
      subst this
      clear hz hj
      have hmk : m = marks L root := HMK.out
      have HO9 : Hid (OwnL I1 3 1 wr (w.heap.size + 1) (.slice (some ⟨w.heap.size + 1, 0, none⟩) (root + 1) (root + 1)) ((marks L root).map b2i)) := by rw [← hmk]; exact ownB_I HO.out
      have hbw : Below w.heap.size w wr := HB01.out.trans (HB.out.mono (by omega))
      have HBW := Lib.hid hbw
      have q0 := cell_keep hbw HC0.out
      have q1 := cell_keep hbw HROW.out.1
      have hwz : w.heap.size < wr.heap.size := by have := HO9.out.lt.1; omega
      have hpw : p < wr.heap.size := by omega
      clear hmk hbw
      go_wp2
      obtain ⟨wo, rfl⟩ : ∃ wo : World, wo = wr := ⟨_, rfl⟩
      have HA0 : Hid (NetI (wo.alloc (.cells #[.int .i64 n, .slice none 0 0] 24)) (w.heap.size + 1) wo.heap.size n (root + 1) (netSt L ((marks L root).map b2i) 0).1 (.slice none 0 0) []) :=
        ⟨HO9.out.later ((Below.refl _ _).alloc (Nat.le_refl _) _), Blk.new _ _ _, OwnL.nil _ _, by simp, HO9.out.lt.1, by simp [netSt, marks_length], by simp⟩
      go_loopw [84] (fun i wk => ∃ (k : Nat) (lv : Value) (LL : List (Nd × Value)), k ≤ root + 1 ∧ i = .int .i64 k ∧ NetI wk (w.heap.size + 1) wo.heap.size n (root + 1) (netSt L ((marks L root).map b2i) k).1 lv LL ∧ LL.map Prod.fst = (netSt L ((marks L root).map b2i) k).2 ∧ Below (w.heap.size + 1) w1 wk) (fun i _ => root + 1 - (intOf i).toNat)
      case atStart => exact ⟨0, _, [], Nat.zero_le _, rfl, HA0.out, rfl, HB.out.trans ((Below.refl _ _).alloc (by have := HO9.out.lt.1; omega) _)⟩
      case round =>
        obtain ⟨k, lv, LL, hk, rfl, hni, hll, hbel⟩ := hrel
        have HNI := Lib.hid hni
        have HLL := Lib.hid hll
        have HBK := Lib.hid hbel
        clear hni hll hbel
        have hatl : (netSt L ((marks L root).map b2i) k).1.length = root + 1 := by rw [netSt_length, List.length_map, marks_length]
        by_cases hlt : k < root + 1
        · have hkL : k < L.length := by have := HR.out; omega
          obtain ⟨n0, n1, av, cv, n2, pi, pk, pl⟩ := HROW.out.2 k hkL
          have hxe : nd L (k : Int) = L[k] := by simp [nd, List.getD_eq_getElem?_getD, hkL]
          have hin : ∀ i ∈ L[k].ins, 0 ≤ i ∧ i < (k : Int) := by
            simp only [ndOk, Bool.and_eq_true] at pk
            exact insOk_iff.1 pk.1
          have HSTEP : Hid (netSt L ((marks L root).map b2i) (k + 1) = if (netSt L ((marks L root).map b2i) k).1.getD k 0 = 0 then netSt L ((marks L root).map b2i) k
              else ((netSt L ((marks L root).map b2i) k).1.set k ((netSt L ((marks L root).map b2i) k).2.length : Int), (netSt L ((marks L root).map b2i) k).2 ++ [⟨L[k].kind, L[k].lit, L[k].ins.map fun k' => (netSt L ((marks L root).map b2i) k).1.getD k'.toNat 0⟩])) := by
            show _ = _; rw [netSt, netStep, hxe]
          generalize L[k] = x at *
          have HSTL : Hid ((netSt L ((marks L root).map b2i) k).2.length ≤ 1073741824) := by
            show _ ≤ _; have := netSt_out L ((marks L root).map b2i) k; omega
          generalize netSt L ((marks L root).map b2i) k = st at *
          have hbw : Below w.heap.size w wr := HB01.out.trans (HBK.out.mono (by omega))
          have p0 := cell_keep hbw n0
          have p1 := cell_keep hbw n1
          have p2 := cell_keep hbw n2
          have a0 : wr.cell? ⟨w.heap.size + 1, k, none⟩ = some (.int .i64 (st.1.getD k 0)) := by
            have := HNI.out.row.cell1 hatl.symm k (by omega)
            rw [this]; simp [List.getD_eq_getElem?_getD, show k < st.1.length by omega]
          have hgz : gb < w.heap.size := cell_block n0
          have hgz2 : gb < wr.heap.size := cell_block p0
          have hBz : w.heap.size + 1 < wr.heap.size := HNI.out.row.lt.1
          have hki : (k : Int) < (root : Int) + 1 := by omega
          have HIN := Lib.hid hin
          have HPI := Lib.hid (pi.keep hbw)
          have HPL := Lib.hid pl
          have HBW := Lib.hid hbw
          have HATL := Lib.hid hatl
          clear hbw n0 n1 n2 pi pk hin hatl hxe pl
          by_cases hz0 : st.1.getD k 0 = 0
          · have HEQ : Hid (netSt L ((marks L root).map b2i) (k + 1) = st) := by show _ = _; rw [HSTEP.out, if_pos hz0]
            rw [hz0] at a0
            clear hz0
            go_wp2
            go_roundw
            case rel => exact ⟨k + 1, lv, LL, by omega, by go_num, by rw [HEQ.out]; exact HNI.out.later ((Below.refl _ _).alloc (Nat.le_refl _) _), by rw [HEQ.out]; exact HLL.out, HBK.out.trans ((Below.refl _ _).alloc (by omega) _)⟩
            case measure => simp [intOf]; omega
          · have HEQ := HSTEP.out
            rw [if_neg hz0] at HEQ
            have HEQ := Lib.hid HEQ
            obtain ⟨az, haz⟩ : ∃ az, az = st.1.getD k 0 := ⟨_, rfl⟩
            rw [← haz] at a0
            have hz1 : (az == 0) = false := beq_eq_false_iff_ne.2 (by rw [haz]; exact hz0)
            have HCL := Lib.hid (cloneInts_any av cv x.ins (wr.alloc (.cells #[.int .i64 x.kind, .int .i64 x.lit, .slice av x.ins.length cv] 67)) (by have := HPL.out; omega) (HPI.out.keep ((Below.refl _ _).alloc (Nat.le_refl _) _)))
            clear hz0 haz
            go_wp2_with fail
            refine HCL.out.mono ?_
            rintro e w4 ⟨v, rfl, hov, hb4⟩
            have hblk4 := (Blk.new wr #[.int .i64 x.kind, .int .i64 x.lit, .slice av x.ins.length cv] 67).later hb4
            have hb4r : Below wr.heap.size wr w4 := ((Below.refl _ _).alloc (Nat.le_refl _) _).trans (hb4.mono (by simp))
            obtain ⟨vb, vcap, rfl, hvc, hvb⟩ := hov.cells
            have s0 : w4.cell? ⟨wr.heap.size, 0, none⟩ = some (.int .i64 x.kind) := hblk4.cell 0
            have s1 : w4.cell? ⟨wr.heap.size, 1, none⟩ = some (.int .i64 x.lit) := hblk4.cell 1
            have s2 : w4.cell? ⟨wr.heap.size, 2, none⟩ = some (.slice av x.ins.length cv) := hblk4.cell 2
            have s3 := hblk4.fr 2
            have hw4 : wr.heap.size < w4.heap.size := hblk4.lt
            have HOV : Hid (OwnL I1 3 1 w4 (wr.heap.size + 1) (.slice vb x.ins.length vcap) x.ins) := by
              have := ownInts_I1.1 hov; rw [World.size_alloc] at this; exact this
            have HB4 := Lib.hid hb4r
            have HBL := Lib.hid hblk4
            clear hov hb4 hblk4 hb4r hvc hvb
            have hpl : x.ins.length ≤ 1073741824 := by have := HPL.out; omega
            go_wp2
            have HO5 : Hid (OwnL I1 3 1 (w4.setCell ⟨wr.heap.size, 2, none⟩ (.slice vb x.ins.length vcap)) (wr.heap.size + 1) (.slice vb x.ins.length vcap) x.ins) :=
              HOV.out.kept (Kp.setCell (M := fun k => k = wr.heap.size) _ _ _ rfl) (fun k hk e => by have := (World.ownsRow.lt HOV.out k hk).1; omega)
            have HBL5 : Hid (Blk (w4.setCell ⟨wr.heap.size, 2, none⟩ (.slice vb x.ins.length vcap)) wr.heap.size #[.int .i64 x.kind, .int .i64 x.lit, .slice vb x.ins.length vcap] 67) := HBL.out.set 2 _
            have HB5 : Hid (Below wr.heap.size wr (w4.setCell ⟨wr.heap.size, 2, none⟩ (.slice vb x.ins.length vcap))) := HB4.out.setCell (Nat.le_refl _) _
            have hz5 : (w4.setCell ⟨wr.heap.size, 2, none⟩ (.slice vb x.ins.length vcap)).heap.size = w4.heap.size := World.size_setCell' _ _ _
            generalize hw5 : w4.setCell ⟨wr.heap.size, 2, none⟩ (.slice vb x.ins.length vcap) = w5 at *
            clear hw5 s0 s1 s2 s3
            obtain ⟨wv, rfl⟩ : ∃ wv : World, wv = wr := ⟨_, rfl⟩
            go_loopw [101] (fun c wi => ∃ q : Nat, q ≤ x.ins.length ∧ c = .int .i64 q ∧ OwnL I1 3 1 wi (wv.heap.size + 1) (.slice vb x.ins.length vcap) ((x.ins.take q).map (fun k' => st.1.getD k'.toNat 0) ++ x.ins.drop q) ∧ Below (wv.heap.size + 1) w5 wi) (fun c _ => x.ins.length - (intOf c).toNat)
            case atStart => exact ⟨0, Nat.zero_le _, rfl, by simpa using HO5.out, Below.refl _ _⟩
            case round =>
              obtain ⟨q, hq, rfl, hown, hbel⟩ := hrel
              have HOQ := Lib.hid hown
              have HBQ := Lib.hid hbel
              clear hown hbel
              have HBV := Lib.hid (HB5.out.trans (HBQ.out.mono (by omega)))
              have hni := HNI.out.later HBV.out
              have hbl := HBL5.out.laterB HBQ.out (by omega)
              have t2 : wr.cell? ⟨wv.heap.size, 2, none⟩ = some (.slice vb x.ins.length vcap) := hbl.cell 2
              have t3 : wv.heap.size < wr.heap.size := hbl.lt
              have HNQ := Lib.hid hni
              have HBLQ := Lib.hid hbl
              clear hni hbl
              by_cases hql : q < x.ins.length
              · obtain ⟨g, rfl⟩ : ∃ g, vb = some ⟨g, 0, none⟩ := by
                  rcases HOQ.out.shape with ⟨h1, _⟩ | ⟨g, cap, h1, _⟩
                  · simp only [Value.slice.injEq] at h1; omega
                  · simp only [Value.slice.injEq] at h1; exact ⟨g, h1.1⟩
                obtain ⟨hk0, hk1⟩ := HIN.out _ (List.getElem_mem hql)
                have hdr : x.ins.drop q = x.ins[q] :: x.ins.drop (q + 1) := List.drop_eq_getElem_cons hql
                have hnx : (x.ins.take (q + 1)).map (fun k' => st.1.getD k'.toNat 0) = (x.ins.take q).map (fun k' => st.1.getD k'.toNat 0) ++ [st.1.getD x.ins[q].toNat 0] := by
                  rw [List.take_succ_eq_append_getElem hql, List.map_append]; rfl
                have hown := HOQ.out
                rw [hdr] at hown
                generalize x.ins[q] = kz at *
                obtain ⟨kn, rfl⟩ := Int.eq_ofNat_of_zero_le hk0
                rw [Int.toNat_natCast] at hnx
                have HNX := Lib.hid hnx
                have hvl : q = ((x.ins.take q).map (fun k' => st.1.getD k'.toNat 0)).length := by rw [List.length_map, List.length_take]; omega
                have hvn : ∀ y : Int, x.ins.length = ((x.ins.take q).map (fun k' => st.1.getD k'.toNat 0) ++ y :: x.ins.drop (q + 1)).length := fun y => by
                  rw [List.length_append, ← hvl, List.length_cons, List.length_drop]; omega
                have c1 : wr.cell? ⟨g, q, none⟩ = some (.int .i64 kn) := by
                  have := hown.mid hvl (hvn _) I1_len 0 (by omega)
                  simpa [I1] using this
                have c2 := hown.fr (hvn _) q
                have HPUT : Hid (OwnL I1 3 1 (wr.setCell ⟨g, q, none⟩ (.int .i64 (st.1.getD kn 0))) (wv.heap.size + 1) (.slice (some ⟨g, 0, none⟩) x.ins.length vcap) ((x.ins.take q).map (fun k' => st.1.getD k'.toNat 0) ++ st.1.getD kn 0 :: x.ins.drop (q + 1))) :=
                  hown.midput1 hvl (hvn _) I1_len _ _ rfl
                have c3 : wr.cell? ⟨w.heap.size + 1, kn, none⟩ = some (.int .i64 (st.1.getD kn 0)) := by
                  have := HNQ.out.row.cell1 HATL.out.symm kn (by have := HATL.out; omega)
                  rw [this]; simp [List.getD_eq_getElem?_getD, show kn < st.1.length by have := HATL.out; omega]
                have HGB : Hid (wv.heap.size + 1 ≤ g) := hown.lt.2
                have hkn1 : (kn : Int) < (root : Int) + 1 := by omega
                have hgz' : g < wr.heap.size := hown.lt.1
                have hBz' : w.heap.size + 1 < wr.heap.size := HNQ.out.row.lt.1
                have hqi : (q : Int) < (x.ins.length : Int) := by omega
                clear hown hdr hnx hvl hvn hk0
                obtain ⟨av', hav'⟩ : ∃ av', av' = st.1.getD kn 0 := ⟨_, rfl⟩
                rw [← hav'] at c3 HPUT HNX
                have HAV := Lib.hid hav'
                clear hav'
                go_wp2_with fail
                refine wp_region_still_tail 12 (by kernel_rfl) (by kernel_rfl) ?_
                simp only [List.take_succ_cons, List.take_zero, List.drop_succ_cons, List.drop_zero]
                change wpStill _ _ (World.drew _) _ _ _
                repeat still_step
                refine wpStill_nil ?_
                go_wp2
                go_roundw
                case rel => exact ⟨q + 1, by omega, by go_num, by rw [HNX.out, List.append_assoc]; exact HPUT.out, HBQ.out.trans ((Below.refl _ _).drew.setCell (show wv.heap.size + 1 ≤ (⟨g, q, none⟩ : Addr).block from HGB.out) _)⟩
                case measure => simp [intOf]; omega
              · have : q = x.ins.length := by omega
                subst this
                have hrw := HOQ.out
                rw [List.take_length, List.drop_length, List.append_nil] at hrw
                obtain ⟨la, lcap, rfl⟩ := HNQ.out.own.sliced
                have b1 : wr.cell? ⟨wo.heap.size, 1, none⟩ = some (.slice la LL.length lcap) := HNQ.out.out.cell 1
                have a1 : wr.cell? ⟨w.heap.size + 1, k, none⟩ = some (.int .i64 (st.1.getD k 0)) := by
                  have := HNQ.out.row.cell1 HATL.out.symm k (by have := HATL.out; omega)
                  rw [this]; simp [List.getD_eq_getElem?_getD, show k < st.1.length by have := HATL.out; omega]
                have a2 := HNQ.out.row.fr HATL.out.symm k
                have t0 : wr.cell? ⟨wv.heap.size, 0, none⟩ = some (.int .i64 x.kind) := HBLQ.out.cell 0
                have t1 : wr.cell? ⟨wv.heap.size, 1, none⟩ = some (.int .i64 x.lit) := HBLQ.out.cell 1
                have hz8 : wo.heap.size < wr.heap.size := HNQ.out.out.lt
                have hz9 : w.heap.size < wo.heap.size := hwz
                have hz6 : w.heap.size + 1 < wo.heap.size := HNQ.out.lt
                have hz10 : wo.heap.size < wv.heap.size := HNI.out.out.lt
                have HROW4 := Lib.hid hrw
                obtain ⟨ak, hak⟩ : ∃ ak, ak = st.1.getD k 0 := ⟨_, rfl⟩
                rw [← hak] at a1
                have HNS := Lib.hid (HNQ.out.setAt k hlt (LL.length : Int))
                have HLLB : Hid (LL.length ≤ 1073741824) := by
                  have h1 := congrArg List.length HLL.out
                  show _ ≤ _
                  rw [List.length_map] at h1
                  have := HSTL.out
                  omega
                obtain ⟨ys, hys⟩ : ∃ ys, ys = x.ins.map fun k' => st.1.getD k'.toNat 0 := ⟨_, rfl⟩
                have HEQ2 := HEQ.out
                rw [← hys] at hrw HEQ2
                have hyl : ys.length = x.ins.length := by rw [hys, List.length_map]
                have HYL := Lib.hid hyl
                have HEQ2 := Lib.hid HEQ2
                have HRW4 := Lib.hid hrw
                clear hrw hak hys hyl
                go_wp2_with (at_builtin; go_loud (refine app1L elemNd rfl _ _ rfl (wo.heap.size + 1) (.slice la LL.length lcap) LL (⟨x.kind, x.lit, ys⟩, .slice vb x.ins.length vcap) rfl HNS.out.own (by rw [World.size_setCell']; rfl) rfl rfl (by intro u hu; simp [ndc] at hu; rcases hu with rfl | rfl | rfl <;> rfl) HLLB.out (by decide) (by rw [World.size_setCell']; omega) ?_))
                intro g8 cap8 w8 ho8 hg8 hl8
                have HNO : Hid (∀ b, b ≤ wo.heap.size → ¬ ((Value.slice la LL.length lcap).ownBlock = some b)) := fun b hb e => by have := HNS.out.ob b e; omega
                have hk8 := Kp.grown (M := fun k => (Value.slice la LL.length lcap).ownBlock = some k) hg8 (fun k hk => hk)
                have hb8 := HNS.out.out.kept hk8 (HNO.out _ (Nat.le_refl _))
                have o1 : w8.cell? ⟨wo.heap.size, 1, none⟩ = some (.slice la LL.length lcap) := hb8.cell 1
                have o2 := hb8.fr 1
                have HO8 := Lib.hid ho8
                have HG8 := Lib.hid hg8
                have HL8 := Lib.hid hl8
                have hz88 : wo.heap.size < w8.heap.size := hb8.lt
                clear ho8 hg8 hk8 hb8 hl8
                go_wp2
                go_roundw
                case rel =>
                  have hbelow : Below (w.heap.size + 1) wr w8 := ((Below.refl _ _).setCell (show w.heap.size + 1 ≤ (⟨w.heap.size + 1, k, none⟩ : Addr).block from Nat.le_refl _) _).grown HG8.out (by rw [World.size_setCell']; omega) (fun k' hk' => by have := (HNS.out.ob k' hk').1; omega)
                  refine ⟨k + 1, .slice (some ⟨g8, 0, none⟩) (LL.length + 1) cap8, LL ++ [(⟨x.kind, x.lit, ys⟩, .slice vb x.ins.length vcap)], by omega, by go_num, ?_, ?_, ?_⟩
                  · rw [HEQ2.out]
                    have hl2 : st.2.length = LL.length := by rw [← HLL.out, List.length_map]
                    show NetI _ _ _ _ _ (st.1.set k (st.2.length : Int)) _ _
                    rw [hl2]
                    refine HNS.out.push HO8.out HG8.out ?_ (HL8.out.imp id (fun h => by rw [World.size_setCell']; exact h)) (by show ys.length ≤ _; rw [HYL.out]; exact HPL.out)
                    refine ⟨vb, vcap, by rw [HYL.out], ?_, ?_⟩
                    · have hoi : OwnInts wr (wv.heap.size + 1) (.slice vb x.ins.length vcap) ys := ownInts_I1.2 HRW4.out
                      obtain ⟨a', cap', e1, e2, _⟩ := hoi.cells
                      simp only [Value.slice.injEq] at e1
                      rw [← e1.1] at e2
                      refine IntCells.kept e2 (Kp.setCell (M := fun k => k = w.heap.size + 1) _ _ _ rfl) ?_
                      intro q hq e
                      subst hq
                      have := World.ownsRow.lt HRW4.out
                      have h9 := e1.1
                      rcases HRW4.out.shape with ⟨h1, h2⟩ | ⟨g, cap, h1, h2, h3⟩
                      · simp at h1
                      · simp only [Value.slice.injEq, Option.some.injEq] at h1
                        rw [h1.1] at e; simp at e; omega
                    · intro hne q hq
                      rcases HRW4.out.shape with ⟨h1, h2⟩ | ⟨g, cap, h1, h2, h3⟩
                      · exact absurd h2 hne
                      · simp only [Value.slice.injEq] at h1
                        rw [h1.1] at hq
                        simp only [Option.some.injEq] at hq
                        subst hq
                        refine ⟨?_, by rw [World.size_setCell']; exact h3⟩
                        intro hF
                        rcases hF with e | e | e
                        · simp only at e; omega
                        · simp only at e; omega
                        · have := (HNI.out.ob g e).2; omega
                  · rw [HEQ2.out, List.map_append, HLL.out]; rfl
                  · exact (HBK.out.trans ((HB5.out.mono (by omega)).trans ((HBQ.out.mono (by omega)).trans (hbelow.setCell (show w.heap.size + 1 ≤ (⟨wo.heap.size, 1, none⟩ : Addr).block by show _ ≤ wo.heap.size; omega) _))))
                case measure => simp [intOf]; omega
        · have : k = root + 1 := by omega
          subst this
          have hbr := ((HBR1.out.laterB HBK.out (by omega)))
          obtain ⟨la, lcap, rfl⟩ := HNI.out.own.sliced
          have b0 : wr.cell? ⟨wo.heap.size, 0, none⟩ = some (.int .i64 n) := HNI.out.out.cell 0
          have b1 : wr.cell? ⟨wo.heap.size, 1, none⟩ = some (.slice la LL.length lcap) := HNI.out.out.cell 1
          have r0 : wr.cell? ⟨w.heap.size, 0, none⟩ = some (.int .i64 0) := hbr.cell 0
          have r1 : wr.cell? ⟨w.heap.size, 1, none⟩ = some (.slice none 0 0) := hbr.cell 1
          have f0 := hbr.fr 0
          have f1' := hbr.fr 1
          have hz7 : w.heap.size < wr.heap.size := hbr.lt
          have hz8 : wo.heap.size < wr.heap.size := HNI.out.out.lt
          have hz9 : w.heap.size < wo.heap.size := hwz
          have HBR := Lib.hid hbr
          clear hbr hatl
          go_wp2
          have hbr2 := (HBR.out.set 0 (.int .i64 n)).set 1 (.slice la LL.length lcap)
          have e0 : ((wr.setCell ⟨w.heap.size, 0, none⟩ (.int .i64 n)).setCell ⟨w.heap.size, 1, none⟩ (.slice la LL.length lcap)).cell? ⟨w.heap.size, 0, none⟩ = some (.int .i64 n) := hbr2.cell 0
          have e1 : ((wr.setCell ⟨w.heap.size, 0, none⟩ (.int .i64 n)).setCell ⟨w.heap.size, 1, none⟩ (.slice la LL.length lcap)).cell? ⟨w.heap.size, 1, none⟩ = some (.slice la LL.length lcap) := hbr2.cell 1
          have hll : LL.map Prod.fst = netL L root := HLL.out
          have hl3 : (netL L root).length = LL.length := by rw [← hll, List.length_map]
          rw [hl3, ← hll]
          have HK9 : Hid (Kp (fun k => k = w.heap.size) wr ((wr.setCell ⟨w.heap.size, 0, none⟩ (.int .i64 n)).setCell ⟨w.heap.size, 1, none⟩ (.slice la LL.length lcap))) := (Kp.setCell (M := fun k => k = w.heap.size) wr ⟨w.heap.size, 0, none⟩ (.int .i64 n) rfl).trans (Kp.setCell (M := fun k => k = w.heap.size) _ ⟨w.heap.size, 1, none⟩ (.slice la LL.length lcap) rfl)
          exact bodyPost_ret (v := .tuple #[.agg #[.int .i64 n, .slice la LL.length lcap], .int .i64 0]) (by simp [results, Tryz.results178, go_sem, e0, e1]) rfl ⟨la, lcap, rfl, (HNI.out.under HK9.out (fun k hk => by omega)).cells.lower (by omega), ((HB01.out.trans (HBK.out.mono (by omega))).setCell (Nat.le_refl _) _).setCell (Nat.le_refl _) _⟩
end Go.Proofs.YtkaojolofaanfaaGreatDoor
