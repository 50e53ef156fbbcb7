/- Part of the proofs that laws of censuslaw24 return true for every input, where the tables that the rows list are laid. Texts: CqB, CqK. -/
import Derived.Test.YtfmmhjphopikgaaGreatDoorYC20
import Derived.Test.YtfmmhjphopikgaaGreatDoorYC10
import Derived.Test.YtfmmhjphopikgaaGreatDoorYC18
import Derived.Test.YtfmmhjphopikgaaGreatDoorYC1
set_option maxHeartbeats 8000000
set_option maxRecDepth 100000
set_option linter.unusedSimpArgs false
set_option linter.unusedVariables false
namespace Go.Proofs.YtfmmhjphopikgaaGreatDoor
open Go.RowKit Cen
section
variable {ops : Array Oper} {rest : List Oper} {o : Oper} {a : Act} {w : World} {K : Act -> World -> Prop} {Q : Exit -> Act -> World -> Prop} {EE : Prop}
theorem zsk (s x : Operand) (ho : o.op = .call { callee := .builtin .append, args := #[s, x], argTypes := #[25, 25] })
 (base : Nat) (v : Value) (ys : List Int) (hs : a.eval s = v) (hown : OwnI w base v ys) (ad : Addr) (c : Nat) (xs : List Int) (hx : a.eval x = .slice (some ad) xs.length c) (hxc : IntCells w (some ad) xs)
 (h0 : 0 < xs.length) (h1 : ys.length <= 1073741824) (h2 : xs.length <= 1073741824) (hbase : base <= w.heap.size)
 (h : ∀ g cap w', OwnI w' base (.slice (some ⟨g, 0, none⟩) (ys.length + xs.length) cap) (ys ++ xs) -> w.grownBy w' v.ownBlock -> (v.ownBlock = some g \/ g = w.heap.size) -> K (a.put o.dst (.slice (some ⟨g, 0, none⟩) (ys.length + xs.length) cap)) w') : o.wp Tryz.prog a w K Q := by
 obtain ⟨ht, i, hi, hz, hsz, hby, hzs, hk⟩ := ze8;refine wp_append_lies w s x 25 ho base 3 i _ 1 8 ht hi hz hsz hby hzs hk v ys.length (ys.map (Value.int .i64)) hs (zaq.2 hown) ad xs.length c (xs.map (Value.int .i64)) hx (by simp) (ze2 hxc) (znq xs) h0 (by unfold maxLen; omega) (by omega) hbase w.heap.size rfl ?_;intro g cap w' r1 r2 r3 _;refine h g cap w' (zaq.1 ?_) r2 r3;unfold OwnInts;rw [List.length_append, List.map_append];exact r1
theorem zc8 (hgd : o.guard = none) (s x : Operand) (ho : o.op = .call { callee := .builtin .append, args := #[s, x], argTypes := #[25, 25] })
 (base : Nat) (v : Value) (ys : List Int) (hs : a.eval s = v) (hown : OwnI w base v ys) (ad : Addr) (c : Nat) (xs : List Int) (hx : a.eval x = .slice (some ad) xs.length c) (hxc : IntCells w (some ad) xs)
 (h0 : 0 < xs.length) (h1 : ys.length <= 1073741824) (h2 : xs.length <= 1073741824) (hbase : base <= w.heap.size)
 (h : ∀ g cap w', OwnI w' base (.slice (some ⟨g, 0, none⟩) (ys.length + xs.length) cap) (ys ++ xs) -> w.grownBy w' v.ownBlock -> (v.ownBlock = some g \/ g = w.heap.size) -> wpList Tryz.prog ops Q rest (a.put o.dst (.slice (some ⟨g, 0, none⟩) (ys.length + xs.length) cap)) w') : wpList Tryz.prog ops Q (o :: rest) a w :=
 wpList_plain hgd fun _ hK => zsk s x ho base v ys hs hown ad c xs hx hxc h0 h1 h2 hbase fun g cap w' r1 r2 r3 => hK _ _ (h g cap w' r1 r2 r3)
theorem zar (hgd : o.guard = none) (s x : Operand) (ho : o.op = .call { callee := .builtin .append, args := #[s, x], argTypes := #[25, 25] })
 (base : Nat) (v : Value) (ys : List Int) (hs : a.eval s = v) (hown : OwnI w base v ys) (ad : Addr) (c : Nat) (xs : List Int) (hx : a.eval x = .slice (some ad) xs.length c) (hxc : IntCells w (some ad) xs)
 (h0 : 0 < xs.length) (h1 : ys.length <= 1073741824) (h2 : xs.length <= 1073741824) (hbase : base <= w.heap.size)
 (h : ∀ g cap w', OwnI w' base (.slice (some ⟨g, 0, none⟩) (ys.length + xs.length) cap) (ys ++ xs) -> w.grownBy w' v.ownBlock -> (v.ownBlock = some g \/ g = w.heap.size) -> K (a.put o.dst (.slice (some ⟨g, 0, none⟩) (ys.length + xs.length) cap)) w') : if Region.wanted o (yielded ops a.tmps) = true then Oper.wp Tryz.prog o a w K Q else EE := by
 have hw : Region.wanted o (yielded ops a.tmps) = true := by simp [Region.wanted, hgd]
 rw [if_pos hw];exact zsk s x ho base v ys hs hown ad c xs hx hxc h0 h1 h2 hbase h
end
theorem ClsIn.mono {g : Cfg} {F F' : Nat -> Prop} {w : World} {a : Option Addr} {l : List Ce} {term : Cl} (h : ClsIn g F' w a l term) (hs : ∀ k, F k -> F' k) : ClsIn g F w a l term :=
 ⟨h.cc, fun q hq => ⟨fun hf => (h.aF q hq).1 (hs _ hf), (h.aF q hq).2⟩, fun e he q hq => ⟨fun hf => (h.eF e he q hq).1 (hs _ hf), (h.eF e he q hq).2⟩, h.len, h.xs, h.left⟩
theorem TrmIn.mono {F F' : Nat -> Prop} {w : World} {a : Option Addr} {term : Cl} (h : TrmIn F' w a term) (hs : ∀ k, F k -> F' k) : TrmIn F w a term :=
 ⟨h.ic, fun q hq => ⟨fun hf => (h.aF q hq).1 (hs _ hf), (h.aF q hq).2⟩, h.len⟩
theorem Kp.then {F : Nat -> Prop} {w V V' : World} (h : Kp F w V) (k : Below w.heap.size V V') : Kp F w V' :=
 ⟨k.os.trans h.os, k.tape.trans h.tape, k.output.trans h.output, Nat.le_trans h.size k.size, fun i hi hf => (k.block i hi).trans (h.block i hi hf)⟩
theorem Cmp.kept {g : Cfg} {ch : List Cl -> Int} {F M : Nat -> Prop} {w w' : World} {p : Nat} {L : List Me} (hx : Fx g ch) (h : Cmp g ch F w p L) (hk : Kp M w w') (hM : ∀ k, M k -> ¬ F k) (hB : ∀ k, M k -> g.B <= k) : Cmp g ch F w' p L :=
 ⟨h.cc.kept hk hM, h.inv, h.tab.kp hk fun k hk => Nat.lt_of_lt_of_le hx.gb (hB k hk), Nat.le_trans h.lo hk.size, h.ord.kept0 hk fun q hq hne hf => by have h1 := hx.ob q hq hne; have h2 := hB _ hf; omega⟩
theorem zlt {g : Cfg} {ch : List Cl -> Int} (hx : Fx g ch) {F : Nat -> Prop} {w w' : World} {a : Option Addr} {l m : List Ce} {term : Cl} {x : Int} {v : Value} (hci : ClsIn g F w a l term) (hgd : gL g.n (l.map fun e => e.xs)) (hrt : RT g.n g.t (l.map fun e => e.xs) term)
 (hl : litN g.n x) (hv : (zaf (l.map fun e => e.xs)).mem (zac x) = true)
 (hF : ∀ k, F k -> k < w.heap.size) (ho : OwnC w' w.heap.size v m) (hc : CsIn w' w.heap.size v m) (hg : GvAt x l m) (he : (m.map fun e => e.xs) = zai (l.map fun e => e.xs) x) :
 ∃ b cap, v = .slice b m.length cap /\ ClsIn g F w' b m (term ++ [x]) /\ gL g.n (m.map fun e => e.xs) /\ RT g.n g.t (m.map fun e => e.xs) (term ++ [x]) /\ (∀ q, b = some q -> w.heap.size <= q.block) /\ ∀ e ∈ m, ∀ q, e.a = some q -> w.heap.size <= q.block := by
 obtain ⟨b, cap, rfl⟩ := ho.sliced;have hoff := hrt.off hx.n hgd.gc hl hv
 have hlen : m.length <= l.length := by
  have h1 := congrArg List.length he;rw [List.length_map] at h1;rw [h1];unfold zai;refine Nat.le_trans (za9 _) ?_;rw [List.length_map];refine Nat.le_trans (List.length_filter_le _ _) ?_;rw [List.length_map]; exact Nat.le_refl _
 have hb1 : ∀ q, b = some q -> w.heap.size <= q.block /\ q.block < w'.heap.size := fun q hq => by
  rcases ho.shape with ⟨h1, h2⟩ | ⟨g0, cp, h1, h2, h3⟩
  ·simp only [Value.slice.injEq] at h1;rw [h1.1] at hq; simp at hq
  simp only [Value.slice.injEq] at h1;rw [h1.1] at hq;simp only [Option.some.injEq] at hq;subst hq;exact ⟨h2, h3⟩
 have hb2 : ∀ e ∈ m, ∀ q, e.a = some q -> w.heap.size <= q.block /\ q.block < w'.heap.size := fun e he' q hq => by
  obtain ⟨k1, k2, _⟩ := (hc e he').2.2.2 q hq;exact ⟨k1, k2⟩
 refine ⟨b, cap, rfl, ⟨fun i hi => ?_, fun q hq => ⟨fun hf => by have := hF _ hf; have := (hb1 q hq).1; omega, (hb1 q hq).2⟩, fun e he' q hq => ⟨fun hf => by have := hF _ hf; have := (hb2 e he' q hq).1; omega, (hb2 e he' q hq).2⟩, Nat.le_trans hlen hci.len, fun e he' => ?_, fun e he' => ?_⟩, ?_, ?_, fun q hq => (hb1 q hq).1, fun e he' q hq => (hb2 e he' q hq).1⟩
 ·rcases ho.shape with ⟨h1, h2⟩ | ⟨g0, cp, h1, h2, h3⟩
  ·subst h2; simp at hi
  simp only [Value.slice.injEq] at h1;obtain ⟨rfl, _, rfl⟩ := h1;refine ⟨g0, 0, rfl, ?_, ?_, (hc (gd m i) (by rw [zat hi]; exact List.getElem_mem hi)).2.2.1⟩
  ·have := ho.c0 rfl hi; simpa using this
  have := ho.c1 rfl hi; simpa using this
 ·obtain ⟨f, hf, e1, e2, e3⟩ := hg e he';obtain ⟨x1, x2, x3⟩ := hci.xs f hf;rw [e3];exact ⟨Nat.le_trans (List.length_filter_le _ _) x1, fun y hy => x2 y (List.mem_filter.1 hy).1, fun h0 => x3 (List.mem_filter.1 h0).1⟩
 ·obtain ⟨f, hf, e1, e2, e3⟩ := hg e he';rw [e1, e3];exact (hci.left f hf).given e2 hoff.2
 ·rw [he]; exact zbl hgd.gc x
 rw [he]; exact (zbt hx.n g.t).given _ _ _ hrt hgd hl hv
structure SA (g : Cfg) (ch : List Cl -> Int) (F : Nat -> Prop) (p : Nat) (L : List Me) (wS : World) (b : Option Addr) (m : List Ce) (at' : Option Addr) (term : Cl) (x : Int) (V : World) (oX : Option Nat) : Prop where
 kp : Kp F wS V
 cmp : Cmp g ch F V p L
 cls : ClsIn g F V b m (term ++ [x])
 trm : TrmIn F V at' term
 X : ∀ q, oX = some q -> OwnO F V wS.heap.size (.slice (some ⟨q, 0, none⟩) 1 1) [x]
section
variable {g : Cfg} {ch : List Cl -> Int} {F : Nat -> Prop} {p : Nat} {L : List Me} {wS : World} {b : Option Addr} {m : List Ce} {at' : Option Addr} {term : Cl} {x : Int} {V V' : World} {oX : Option Nat}
theorem SA.later (h : SA g ch F p L wS b m at' term x V oX) (hb : Below V.heap.size V V') : SA g ch F p L wS b m at' term x V' oX :=
 ⟨h.kp.trans (Kp.below hb), h.cmp.later hb, h.cls.kept (Kp.below hb) fun _ h => .inl h, h.trm.kept (Kp.below hb) fun _ h => .inl h, fun q hq => (h.X q hq).later hb⟩
theorem SA.allocX {q0 : Nat} (h : SA g ch F p L wS b m at' term x V none) (e0 : V.heap.size = q0) : SA g ch F p L wS b m at' term x (V.alloc (.cells #[.int .i64 x] 3)) (some q0) := by
 subst e0
 exact
  let h1 := h.later ((Below.refl _ _).alloc (Nat.le_refl _) (.cells #[.int .i64 x] 3))
  ⟨h1.kp, h1.cmp, h1.cls, h1.trm, fun q hq => by
    simp only [Option.some.injEq] at hq; subst hq
    exact OwnO.new x (fun k hk => (h.cmp.cc.low hk).2) h.kp.size⟩
end
structure SB (g : Cfg) (ch : List Cl -> Int) (F F1 : Nat -> Prop) (p : Nat) (L1 : List Me) (wS : World) (b : Option Addr) (m : List Ce) (at' : Option Addr) (term : Cl) (x : Int) (i : Nat) (V : World) (oX oL : Option Nat) (oT : Option (Value × Cl)) : Prop where
 kp : Kp F wS V
 sub : ∀ k, F1 k -> F k \/ wS.heap.size <= k
 cmp : Cmp g ch F1 V p L1
 cls : ClsIn g (fun k => F1 k \/ ∃ v l, oT = some (v, l) /\ v.ownBlock = some k) V b m (term ++ [x])
 trm : TrmIn (fun k => F1 k \/ ∃ v l, oT = some (v, l) /\ v.ownBlock = some k) V at' term
 X : ∀ q, oX = some q -> OwnO F1 V wS.heap.size (.slice (some ⟨q, 0, none⟩) 1 1) [x]
 Lt : ∀ q, oL = some q -> OwnO F1 V wS.heap.size (.slice (some ⟨q, 0, none⟩) 1 1) [(i : Int)]
 T : ∀ v l, oT = some (v, l) -> OwnO F1 V wS.heap.size v l /\ (∀ q, oX = some q -> v.ownBlock ≠ some q) /\ ∀ q, oL = some q -> v.ownBlock ≠ some q
section
variable {g : Cfg} {ch : List Cl -> Int} {F F1 : Nat -> Prop} {p : Nat} {L L1 : List Me} {wS : World} {b : Option Addr} {m : List Ce} {at' : Option Addr} {term : Cl} {x : Int} {i : Nat} {V V' : World} {oX oL : Option Nat} {oT : Option (Value × Cl)} {st : List Nc}
theorem SA.lit (hx : Fx g ch) (h : SA g ch F p L wS b m at' term x V oX) (ha : Aft g F p st V V' F1) (hi : InvR ch (RT g.n g.t) g.cache g.n st) (i : Nat) :
 ∃ L1 : List Me, (L1.map fun e => e.c) = st /\ SB g ch F F1 p L1 wS b m at' term x i V' oX none none := by
 obtain ⟨L1, h1, h2⟩ := h.cmp.aft hx ha hi;refine ⟨L1, h1, h.kp.trans ha.2.1, fun k hk => (ha.2.2 k hk).imp id fun h' => Nat.le_trans h.kp.size h', h2, (h.cls.kept ha.2.1 ha.2.2).mono (F := fun k => F1 k \/ ∃ v l, (none : Option (Value × Cl)) = some (v, l) /\ v.ownBlock = some k) ?_, (h.trm.kept ha.2.1 ha.2.2).mono (F := fun k => F1 k \/ ∃ v l, (none : Option (Value × Cl)) = some (v, l) /\ v.ownBlock = some k) ?_, fun q hq => (h.X q hq).aft ha, fun q hq => by simp at hq, fun v l hv => by simp at hv⟩
 ·rintro k (hk | ⟨v, l, e, _⟩)
  ·exact hk
  simp at e
 rintro k (hk | ⟨v, l, e, _⟩)
 ·exact hk
 simp at e
theorem SB.later (h : SB g ch F F1 p L1 wS b m at' term x i V oX oL oT) (hb : Below V.heap.size V V') : SB g ch F F1 p L1 wS b m at' term x i V' oX oL oT :=
 ⟨h.kp.trans (Kp.below hb), h.sub, h.cmp.later hb, h.cls.kept (Kp.below hb) fun _ h => .inl h, h.trm.kept (Kp.below hb) fun _ h => .inl h, fun q hq => (h.X q hq).later hb, fun q hq => (h.Lt q hq).later hb, fun v l hv => ⟨(h.T v l hv).1.later hb, (h.T v l hv).2⟩⟩
theorem SB.allocX {q0 : Nat} (h : SB g ch F F1 p L1 wS b m at' term x i V none oL oT) (e0 : V.heap.size = q0) : SB g ch F F1 p L1 wS b m at' term x i (V.alloc (.cells #[.int .i64 x] 3)) (some q0) oL oT := by
 subst e0
 exact
  let h1 := h.later ((Below.refl _ _).alloc (Nat.le_refl _) (.cells #[.int .i64 x] 3))
  ⟨h1.kp, h1.sub, h1.cmp, h1.cls, h1.trm, fun q hq => by
    simp only [Option.some.injEq] at hq; subst hq
    exact OwnO.new x (fun k hk => (h.cmp.cc.low hk).2) h.kp.size, h1.Lt, fun v l hv => ⟨(h1.T v l hv).1, fun q hq e => by
     simp only [Option.some.injEq] at hq; subst hq
     have := ((h.T v l hv).1.1.blk e).2; omega, (h1.T v l hv).2.2⟩⟩
theorem SB.allocL {q0 : Nat} (h : SB g ch F F1 p L1 wS b m at' term x i V oX none oT) (e0 : V.heap.size = q0) : SB g ch F F1 p L1 wS b m at' term x i (V.alloc (.cells #[.int .i64 (i : Int)] 3)) oX (some q0) oT := by
 subst e0
 exact
  let h1 := h.later ((Below.refl _ _).alloc (Nat.le_refl _) (.cells #[.int .i64 (i : Int)] 3))
  ⟨h1.kp, h1.sub, h1.cmp, h1.cls, h1.trm, h1.X, fun q hq => by
    simp only [Option.some.injEq] at hq; subst hq
    exact OwnO.new (i : Int) (fun k hk => (h.cmp.cc.low hk).2) h.kp.size, fun v l hv => ⟨(h1.T v l hv).1, (h1.T v l hv).2.1, fun q hq e => by
     simp only [Option.some.injEq] at hq; subst hq
     have := ((h.T v l hv).1.1.blk e).2; omega⟩⟩
theorem SB.clone {v : Value} (h : SB g ch F F1 p L1 wS b m at' term x i V oX oL none) (ho : OwnInts V' V.heap.size v term) (hb : Below V.heap.size V V') : SB g ch F F1 p L1 wS b m at' term x i V' oX oL (some (v, term)) := by
 have h1 := h.later hb;have ho' : OwnI V' V.heap.size v term := zaq.1 ho
 have hlt : ∀ k, v.ownBlock = some k -> V.heap.size <= k := fun k hk => (ho'.blk hk).1
 refine ⟨h1.kp, h1.sub, h1.cmp, h.cls.kept (Kp.below hb) ?_, h.trm.kept (Kp.below hb) ?_, h1.X, h1.Lt, fun v' l hv => ?_⟩
 ·rintro k (hk | ⟨v', l, e, hk⟩)
  ·exact .inl (.inl hk)
  simp only [Option.some.injEq, Prod.mk.injEq] at e;obtain ⟨rfl, rfl⟩ := e;exact .inr (hlt k hk)
 ·rintro k (hk | ⟨v', l, e, hk⟩)
  ·exact .inl (.inl hk)
  simp only [Option.some.injEq, Prod.mk.injEq] at e;obtain ⟨rfl, rfl⟩ := e;exact .inr (hlt k hk)
 simp only [Option.some.injEq, Prod.mk.injEq] at hv;obtain ⟨rfl, rfl⟩ := hv;refine ⟨⟨ho'.lower h.kp.size, fun k hk hf => ?_⟩, fun q hq e => ?_, fun q hq e => ?_⟩
 ·have := (h.cmp.cc.low hf).2; have := hlt k hk; omega
 ·have := ((h.X q hq).1.blk (k := q) rfl).2; have := hlt q e; omega
 have := ((h.Lt q hq).1.blk (k := q) rfl).2; have := hlt q e; omega
theorem SB.app {v : Value} {q gg cap : Nat} (hx : Fx g ch) (h : SB g ch F F1 p L1 wS b m at' term x i V (some q) oL (some (v, term))) (hB : g.B <= wS.heap.size) (hF : ∀ k, F k -> k < wS.heap.size)
 (ho : OwnI V' wS.heap.size (.slice (some ⟨gg, 0, none⟩) (term.length + 1) cap) (term ++ [x])) (hg : V.grownBy V' v.ownBlock) (hn : v.ownBlock = some gg \/ gg = V.heap.size) :
 SB g ch F F1 p L1 wS b m at' term x i V' none oL (some (.slice (some ⟨gg, 0, none⟩) (term.length + 1) cap, term ++ [x])) := by
 have hT := h.T v term rfl
 have hk : Kp (fun k => v.ownBlock = some k) V V' := Kp.grown hg fun k hk => hk
 have hsz := h.kp.size
 have hbk : ∀ k, v.ownBlock = some k -> wS.heap.size <= k /\ k < V.heap.size := fun k hk => hT.1.1.blk hk
 have hnF : ∀ k, v.ownBlock = some k -> ¬ F1 k := hT.1.2
 have hstep : ∀ k, (F1 k \/ ∃ v' l, (some (Value.slice (some ⟨gg, 0, none⟩) (term.length + 1) cap, term ++ [x]) : Option (Value × Cl)) = some (v', l) /\ v'.ownBlock = some k) -> (F1 k \/ ∃ v' l, (some (v, term) : Option (Value × Cl)) = some (v', l) /\ v'.ownBlock = some k) \/ V.heap.size <= k := by
  rintro k (hk | ⟨v', l, e, hk⟩)
  ·exact .inl (.inl hk)
  simp only [Option.some.injEq, Prod.mk.injEq] at e;obtain ⟨rfl, rfl⟩ := e
  have : gg = k := by simpa [Value.ownBlock] using hk
  subst this
  rcases hn with hn | hn
  ·exact .inl (.inr ⟨v, term, rfl, hn⟩)
  exact .inr (by omega)
 have hst : ∀ q, v.ownBlock ≠ some q -> q < V.heap.size -> ∀ k, (Value.slice (some ⟨gg, 0, none⟩) (term.length + 1) cap).ownBlock = some k -> k ≠ q := fun q hq hlt k hk e => by
  have : gg = k := by simpa [Value.ownBlock] using hk
  subst this; subst e
  rcases hn with hn | hn
  ·exact hq hn
  omega
 refine ⟨h.kp.then (Kp.toBelow hk hsz fun k hk' e => by have := (hbk k e).1; omega), h.sub, h.cmp.kept hx hk hnF (fun k hk => Nat.le_trans hB (hbk k hk).1), h.cls.kept (hk.mono fun k _ hk => .inr ⟨v, term, rfl, hk⟩) hstep, h.trm.kept (hk.mono fun k _ hk => .inr ⟨v, term, rfl, hk⟩) hstep, fun q hq => by simp at hq, fun q' hq' => ⟨(h.Lt q' hq').1.kept hk fun k hk e => hT.2.2 q' hq' (by rw [e]; simpa [Value.ownBlock] using hk.symm), (h.Lt q' hq').2⟩, fun v' l hv => ?_⟩;simp only [Option.some.injEq, Prod.mk.injEq] at hv;obtain ⟨rfl, rfl⟩ := hv;refine ⟨⟨ho, fun k hk hf => ?_⟩, fun q hq => by simp at hq, fun q' hq' e => ?_⟩
 ·have : gg = k := by simpa [Value.ownBlock] using hk
  subst this
  rcases hn with hn | hn
  ·exact hnF _ hn hf
  have := (h.cmp.cc.low hf).2; omega
 exact hst q' (hT.2.2 q' hq') ((h.Lt q' hq').1.blk (k := q') rfl).2 q' e rfl
structure SC (g : Cfg) (ch : List Cl -> Int) (F F2 : Nat -> Prop) (p : Nat) (L2 : List Me) (wS : World) (i : Nat) (V : World) (oL : Option Nat) (vR : Value) (ids : List Int) : Prop where
 kp : Kp F wS V
 sub : ∀ k, F2 k -> F k \/ wS.heap.size <= k
 cmp : Cmp g ch F2 V p L2
 Lt : ∀ q, oL = some q -> OwnO F2 V wS.heap.size (.slice (some ⟨q, 0, none⟩) 1 1) [(i : Int)]
 R : OwnO F2 V wS.heap.size vR ids
 ne : ∀ q, oL = some q -> vR.ownBlock ≠ some q
theorem SB.fit {F2 : Nat -> Prop} {vR : Value} {ids : List Int} (hx : Fx g ch) (h : SB g ch F F1 p L1 wS b m at' term x i V none oL oT) (ha : Aft g F1 p st V V' F2) (hi : InvR ch (RT g.n g.t) g.cache g.n st) (hr : OwnO F2 V' V.heap.size vR ids) (hF : ∀ k, F k -> k < wS.heap.size) :
 ∃ L2 : List Me, (L2.map fun e => e.c) = st /\ SC g ch F F2 p L2 wS i V' oL vR ids := by
 obtain ⟨L2, h1, h2⟩ := h.cmp.aft hx ha hi;have hsz := h.kp.size;refine ⟨L2, h1, h.kp.trans' ha.2.1 h.sub, fun k hk => (ha.2.2 k hk).elim (h.sub k) fun h' => .inr (Nat.le_trans hsz h'), h2, fun q hq => (h.Lt q hq).aft ha, ⟨hr.1.lower hsz, hr.2⟩, fun q hq e => ?_⟩;have h3 := ((h.Lt q hq).1.blk (k := q) rfl).2;have h4 := (hr.1.blk e).1;omega
end
section
variable {g : Cfg} {ch : List Cl -> Int} {F F2 : Nat -> Prop} {p : Nat} {L2 : List Me} {wS : World} {i : Nat} {V V' : World} {oL : Option Nat} {vR : Value} {ids : List Int}
theorem SC.later (h : SC g ch F F2 p L2 wS i V oL vR ids) (hb : Below V.heap.size V V') : SC g ch F F2 p L2 wS i V' oL vR ids :=
 ⟨h.kp.trans (Kp.below hb), h.sub, h.cmp.later hb, fun q hq => (h.Lt q hq).later hb, h.R.later hb, h.ne⟩
theorem SC.allocL {q0 : Nat} (h : SC g ch F F2 p L2 wS i V none vR ids) (e0 : V.heap.size = q0) : SC g ch F F2 p L2 wS i (V.alloc (.cells #[.int .i64 (i : Int)] 3)) (some q0) vR ids := by
 subst e0
 exact
  let h1 := h.later ((Below.refl _ _).alloc (Nat.le_refl _) (.cells #[.int .i64 (i : Int)] 3))
  ⟨h1.kp, h1.sub, h1.cmp, fun q hq => by
    simp only [Option.some.injEq] at hq; subst hq
    exact OwnO.new (i : Int) (fun k hk => (h.cmp.cc.low hk).2) h.kp.size, h1.R, fun q hq e => by
     simp only [Option.some.injEq] at hq; subst hq
     have := (h.R.1.blk e).2; omega⟩
structure SD (g : Cfg) (ch : List Cl -> Int) (F F2 : Nat -> Prop) (p : Nat) (L2 : List Me) (wS : World) (V : World) (v : Value) (l : List Int) : Prop where
 kp : Kp F wS V
 sub : ∀ k, F2 k -> F k \/ wS.heap.size <= k
 cmp : Cmp g ch F2 V p L2
 R : OwnO F2 V wS.heap.size v l
theorem SC.app {q gg cap n : Nat} (hx : Fx g ch) (h : SC g ch F F2 p L2 wS i V (some q) vR ids) (hB : g.B <= wS.heap.size)
 (ho : OwnI V' wS.heap.size (.slice (some ⟨gg, 0, none⟩) n cap) ((i : Int) :: ids)) (hg : V.grownBy V' (some q)) (hn : some q = some gg \/ gg = V.heap.size) : SD g ch F F2 p L2 wS V' (.slice (some ⟨gg, 0, none⟩) n cap) ((i : Int) :: ids) := by
 have hq := h.Lt q rfl;have hqb := hq.1.blk (k := q) rfl;have hqF := hq.2 q rfl
 have hk : Kp (fun k => k = q) V V' := Kp.grown hg fun k hk => by simpa using hk.symm
 refine ⟨h.kp.then (Kp.toBelow hk h.kp.size fun k hk' e => by omega), h.sub, h.cmp.kept hx hk (fun k e => by rw [e]; exact hqF) (fun k e => by omega), ⟨ho, fun k hk hf => ?_⟩⟩
 have : gg = k := by simpa [Value.ownBlock] using hk
 subst this
 rcases hn with hn | hn
 ·simp only [Option.some.injEq] at hn; subst hn; exact hqF hf
 have := (h.cmp.cc.low hf).2; omega
end
theorem zpp (n : Nat) (hn : n <= 128) (a : Option Addr) (cap : Nat) (c : List Int) (w : World) (hl : c.length <= 12) (hx : IntCells w a c) (hc : gT n c) :
 Calls Tryz.prog 170 #[.slice a c.length cap, .int .i64 n] w fun e w' => (∃ v, e = .returned (.tuple #[v, .bool true])) /\ Below w.heap.size w w' := by
 have hcr : ∀ x ∈ c, x ≠ 0 /\ -(n : Int) <= x /\ x <= n := hc.rg;have htt : taut c = false := hc.taut hn
 have hlb : litB c := fun x hx => by have := hcr x hx; omega
 have hok : (c.all fun x => zas x n) = true := by
  rw [List.all_eq_true];intro x hx;obtain ⟨h1, h2, h3⟩ := hcr x hx;have := zal h1 (by omega) (by omega);unfold zas
  split at this <;> simp <;> omega
 have HV := lh (zj9 a cap c n w (by omega) hx);rw [hok] at HV;have HO := lh (fun (V : World) (h : Below w.heap.size w V) => zj8 a cap c V hl (hx.keep h) hlb);have HC := lh hcr;have HTT := lh htt;clear hx hok hlb hc hcr htt;go_enter Tryz.func170, Tryz.ntmps170;go_wp2_with fail;refine HV.o.mono ?_;rintro e w1 ⟨rfl, hb1⟩;have H1 := lh (HO.o w1 hb1);have HB1 := lh hb1;clear hb1;go_wp2_with fail;refine H1.o.mono ?_;rintro e w2 ⟨v, d, rfl, hown, hpw, hmem, hdc, hb2⟩;obtain ⟨av, cv, rfl, hcells, _⟩ := (zaq.2 hown).cells;have hdl : d.length <= 12 := Nat.le_trans hdc hl
 have hdv : ∀ x ∈ d, x ≠ 0 /\ -128 <= x /\ x <= 128 := fun x hx => by have := HC.o x ((hmem x).1 hx); omega
 have hop := zg2 av cv d w2 (by omega) hcells fun x hx => (hdv x hx).2
 have hno : ¬ oppT d d.length := fun h => by
  have h1 := (zmu hpw hdv).1 h;rw [zkm hmem, HTT.o] at h1; simp at h1
 have hop2 : Calls Tryz.prog 104 #[.slice av d.length cv] w2 fun e w' => e = .returned (.bool false) /\ Below w2.heap.size w2 w' := hop.mono fun e w' h => by
  obtain ⟨⟨r, h1, h2⟩, h3⟩ := h
  cases r with
  | true => exact absurd (h2.1 rfl) hno
  | false => exact ⟨h1, h3⟩
 have HOP := lh hop2;have HB2 := lh (HB1.o.trans (hb2.mono HB1.o.size));clear hop hop2 hno hown hpw hmem hdc hb2 hcells hdv;go_wp2_with fail;refine HOP.o.mono ?_;rintro e w3 ⟨rfl, hb3⟩;have HB3 := lh (HB2.o.trans (hb3.mono HB2.o.size));clear hb3;go_wp2;go_ret2;exact ⟨⟨_, rfl⟩, HB3.o⟩
theorem znc (n : Nat) (hn : n <= 12) (a : Option Addr) (cap : Nat) (t : List Cl) (ad : Option Addr) (cd : Nat) (d : Int) (w : World) (hx : LsCells w a t) (ht : t.length <= 4096) (hc : ∀ c ∈ t, c.length <= 128 /\ ∀ x ∈ c, litN n x) (hd : litN n d) (hi : IntCells w ad [d]) :
 Calls Tryz.prog 152 #[.agg #[.int .i64 n, .slice a t.length cap], .slice ad 1 cd] w fun e w' => (∃ v, e = .returned (.tuple #[v, .bool (!zbv n t d)])) /\ Below w.heap.size w w' := by
 obtain ⟨w0, hw0⟩ : ∃ w0, w0 = w.alloc (.cells #[.int .i64 n, .slice a t.length cap] 24) := ⟨_, rfl⟩
 have hb0 : Below w.heap.size w w0 := by rw [hw0]; exact (Below.refl _ _).alloc (Nat.le_refl _) _
 have q0 : Blk w0 w.heap.size #[.int .i64 n, .slice a t.length cap] 24 := by rw [hw0]; exact Blk.new w _ _
 have HTR := lh (zsg n (by omega) a cap t ad cd d w0 (hx.keep hb0) ht hc hd (hi.keep hb0));have Q0 := lh q0;have HB0 := lh hb0;clear hx hi q0 hc hd hb0;go_enter Tryz.func152, Tryz.ntmps152;go_wp2_with fail;rw [<- hw0];clear hw0;refine HTR.o.mono ?_;rintro e w1 ⟨v, i, er, rfl, hb1, hcase⟩;have hbw := HB0.o.trans (hb1.mono HB0.o.size);have HBW := lh hbw;have q1 := Q0.o.later hb1
 rcases hcase with ⟨rfl, hi0, hf⟩ | ⟨rfl, hf⟩ | ⟨rfl, hi0, hf, S, hown, hg⟩
 ·have HF := lh hf;clear hf hb1 hbw q1;go_wp2;go_ret2;exact ⟨⟨_, by rw [HF.o]; rfl⟩, HBW.o⟩
 ·have HF := lh hf;clear hf hb1 hbw q1;go_wp2;go_ret2;exact ⟨⟨_, by rw [HF.o]; rfl⟩, HBW.o⟩
 have HF := lh hf
 have hni : ¬ (0 <= i) := by omega
 have hSl : S.length <= 12 := by have := hg.len (by omega); rw [List.length_map] at this; omega
 obtain ⟨av, cv, rfl⟩ := hown.sliced;have HOW := lh hown;have HG := lh hg;have Q1 := lh q1;clear hf hb1 hbw q1 hown hg;go_wp2_with fail
 go_loopw [9, 27] (fun ov i wr => ∃ k : Nat, k <= S.length /\ i = .int .i64 k /\ Below w1.heap.size w1 wr /\ ∃ (M : List Int) (va : Option Addr) (vc : Nat), Hid (M = (S.map fun e => e.l).take k) /\ ov = .slice va M.length vc /\ OwnI wr w1.heap.size (.slice va M.length vc) M) (fun _ i _ => S.length - (intOf i).toNat)
 case atStart => exact ⟨0, Nat.zero_le _, rfl, Below.refl _ _, [], none, 0, rfl, rfl, OwnL.nil _ _⟩
 obtain ⟨k, hk, rfl, hb, M, va, vc, HM, rfl, hov⟩ := hrel;have HB := lh hb;have HOV := lh hov
 by_cases hlt : k < S.length
 ·have hki : (k : Int) < (S.length : Int) := by omega
  have how := HOW.o.later hb
  obtain ⟨g0, rfl⟩ : ∃ g0, av = some ⟨g0, 0, none⟩ := by
   rcases how.shape with ⟨_, h2⟩ | ⟨g0, cp, h1, _⟩
   ·rw [h2] at hlt; simp at hlt
   simp only [Value.slice.injEq, true_and] at h1; exact ⟨g0, h1.1⟩
  have c0 : wr.cell? ⟨g0, k * 3, none⟩ = some (.int .i64 S[k].l) := how.cell rfl znz k 0 hlt (by omega);have c1 : wr.cell? ⟨g0, k * 3 + 1, none⟩ = some (.int .i64 S[k].from') := how.cell rfl znz k 1 hlt (by omega);have c2 : wr.cell? ⟨g0, k * 3 + 2, none⟩ = some (.int .i64 S[k].lev) := how.cell rfl znz k 2 hlt (by omega);have hbA : Below wr.heap.size wr ((wr.alloc (.cells #[.int .i64 S[k].l, .int .i64 S[k].from', .int .i64 S[k].lev] 181)).alloc (.cells #[.int .i64 S[k].l] 3)) := ((Below.refl _ _).alloc (Nat.le_refl _) _).alloc (by simp) _;have HOA := lh (hov.later hbA)
  have HIC : Hid (IntCells ((wr.alloc (.cells #[.int .i64 S[k].l, .int .i64 S[k].from', .int .i64 S[k].lev] 181)).alloc (.cells #[.int .i64 S[k].l] 3)) (some ⟨wr.heap.size + 1, 0, none⟩) [S[k].l]) := fun j hj => by
   have : j = 0 := by simpa using hj
   subst this;exact ⟨_, _, rfl, by rw [World.cell?_alloc_at _ _ _ _ (by simp)]; rfl⟩
  have HBA := lh hbA
  have hln : M.length = k := by rw [HM.o]; simp; omega
  have HM2 : Hid (M ++ [S[k].l] = (S.map fun e => e.l).take (k + 1)) := by
   show _ = _
   rw [HM.o, List.take_succ_eq_append_getElem (by simpa using hlt)]; simp
  have HLN := lh hln;have hz : w1.heap.size <= wr.heap.size := HB.o.size;generalize S[k].l = y at *;generalize S[k].from' = y2 at *;generalize S[k].lev = y3 at *;clear hb hov how hbA hln;go_wp2_with (at_builtin; go_loud (refine zc8 rfl _ _ rfl w1.heap.size (.slice va M.length vc) M rfl HOA.o ⟨wr.heap.size + 1, 0, none⟩ 1 [y] rfl HIC.o (by simp) (by have := HLN.o; omega) (by simp) (by simp; omega) ?_));intro gg cg w2 ho hg hnw
  have hb2 : Below w1.heap.size w1 w2 := HB.o.trans ((HBA.o.mono HB.o.size).trans (Kp.toBelow (M := fun j => (Value.slice va M.length vc).ownBlock = some j) (Kp.grown hg fun j hj => hj) (by simp; omega) fun j hj e => by
   have := (OwnI.blk HOV.o e).1; omega))
  have HB2 := lh hb2;have HO2 := lh ho;clear ho hg hnw hb2;go_wp2;go_roundw
  case rel =>
   refine ⟨k + 1, by omega, by go_num, HB2.o, M ++ [y], some ⟨gg, 0, none⟩, cg, HM2.o, by simp, ?_⟩;rw [List.length_append]; exact HO2.o
  case measure => simp [intOf]; omega
 have hke : k = S.length := by omega
 have hMS : M = S.map fun e => e.l := by rw [HM.o, hke, List.take_of_length_le (by simp)]
 have hki : ¬ ((k : Int) < (S.length : Int)) := by omega
 have hMl : M.length <= 12 := by rw [hMS]; simp; omega
 have hgM : gT n M := by rw [hMS]; exact HG.o
 have HLT := lh (zpp n (by omega) va vc M wr hMl (by
  obtain ⟨a', c', h1, h2, _⟩ := (zaq.2 hov).cells;simp only [Value.slice.injEq, true_and] at h1
  obtain ⟨rfl, _⟩ := h1; exact h2) hgM)
 clear hMS hgM;have q2 := Q1.o.later hb;have k0 := q2.cell 0;clear hb hov q2;go_wp2_with fail;refine HLT.o.mono ?_;rintro e w2 ⟨⟨v2, rfl⟩, hb2⟩;have HB2 := lh (HBW.o.trans ((HB.o.trans (hb2.mono HB.o.size)).mono HBW.o.size));clear hb2;go_wp2;go_ret2;exact ⟨⟨_, by rw [HF.o]; rfl⟩, HB2.o⟩
theorem zl8 (n : Nat) (hn : n <= 12) (a : Option Addr) (cap : Nat) (t : List Cl) (d : Int) (w : World) (hx : LsCells w a t) (ht : t.length <= 4096) (hc : ∀ c ∈ t, c.length <= 128 /\ ∀ x ∈ c, litN n x) (hd : litN n d) :
 Calls Tryz.prog 136 #[.agg #[.int .i64 n, .slice a t.length cap], .int .i64 d] w fun e w' => e = .returned (.bool (zbv n t d)) /\ Below w.heap.size w w' := by
 have hb0 : Below w.heap.size w ((w.alloc (.cells #[.int .i64 n, .slice a t.length cap] 24)).alloc (.cells #[.int .i64 d] 3)) := ((Below.refl _ _).alloc (Nat.le_refl _) _).alloc (by simp) _
 have HCL := lh (znc n hn a cap t (some ⟨w.heap.size + 1, 0, none⟩) 1 d _ (hx.keep hb0) ht hc hd (fun j hj => by
  have : j = 0 := by simpa using hj
  subst this
  exact ⟨_, _, rfl, by rw [World.cell?_alloc_at _ _ _ _ (by simp)]; rfl⟩))
 have HB0 := lh hb0;clear hx hc hd hb0;go_enter Tryz.func136, Tryz.ntmps136;go_wp2_with fail;refine HCL.o.mono ?_;rintro e w1 ⟨⟨v, rfl⟩, hb1⟩;have HB1 := lh (HB0.o.trans (hb1.mono HB0.o.size));clear hb1;go_wp2;go_ret;exact ⟨by cases zbv n t d <;> rfl, HB1.o⟩
end Go.Proofs.YtfmmhjphopikgaaGreatDoor
