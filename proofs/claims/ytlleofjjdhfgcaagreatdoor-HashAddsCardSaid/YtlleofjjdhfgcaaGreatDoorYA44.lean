/- Parts of the proofs of laws. Texts: Ph, Jk0, Jm0. -/
import Derived.Test.YtlleofjjdhfgcaaGreatDoorYA43
import Derived.Test.YtlleofjjdhfgcaaGreatDoorYA41
set_option maxHeartbeats 8000000
set_option maxRecDepth 100000
set_option linter.all false
namespace Go.Proofs.YtlleofjjdhfgcaaGreatDoor
open Go.RowKit Cen
theorem zyc {n : Nat} {p : Pr} (hp : p.ok) : outP n p = false ↔ ∀ v, p.v.mem v = true -> v <= n := by
 unfold outP;rw [Bool.not_eq_false', decide_eq_true_eq]
 constructor
 ·intro h v hv;have hr := zg8 hv
  have : (St.minus p.v (zbq n)).mem v = false := by rw [h, St.mem_zero]
  rw [St.mem_minus (zdo _), hv, zdc, decide_eq_true hr.1, decide_eq_true hr.2] at this
  simpa using this
 intro h
 refine St.ext (St.minus_ok hp) St.zero_ok fun v h1 h2 => ?_
 rw [St.mem_minus (zdo _), St.mem_zero, zdc, decide_eq_true h1, decide_eq_true h2]
 cases hv : p.v.mem v
 ·rfl
 rw [decide_eq_true (h v hv)]; rfl
theorem zvs {n : Nat} {l : List Pr} (hok : ∀ p ∈ l, p.ok) (h : ∀ p ∈ l, ∀ v, p.v.mem v = true -> v <= n) : l.any (outP n) = false := by
 rw [List.any_eq_false];intro p hp;rw [(zyc (hok p hp)).2 (h p hp)]; simp
theorem run_append_prs (w : World) (base : Nat) (ty : TypeId) (v : Value) (ys : List Pr) (hown : OwnP w base v ys) (b : Option Addr) (c : Nat) (xs : List Pr) (hx : PrCells w b xs)
 (h1 : ys.length <= 65536) (h2 : xs.length <= 65536) (hbase : base <= w.heap.size) :
 ∃ v' w', (Builtin.append_ #[38, 38] ty #[v, .slice b xs.length c]).run Tryz.prog w = .ok v' w' /\ OwnP w' base v' (ys ++ xs) /\ w.grownBy w' v.ownBlock /\ (∀ j, j < w.heap.size -> v.ownBlock ≠ some j -> v'.ownBlock ≠ some j) := by
 obtain ⟨ht, i, hi, hz, hsz, hby, hzs, h0⟩ := zq2
 cases b with
 | none =>
   have hn : xs = [] := by
    cases xs with
    | nil => rfl
    | cons x xs => obtain ⟨_, _, e, _⟩ := hx 0 (by simp); simp at e
   subst hn;refine ⟨v, w, ?_, by simpa using hown, World.grownBy.refl w _, fun _ _ h => h⟩
   rcases hown.2 with ⟨rfl, hn⟩ | ⟨g, cap, cur, rfl, _, _, hnc, _⟩
   ·simp [Builtin.append_, run_underlying ht, sizeOf, typeInfo, hi, Builtin.lenOf, Builtin.firstCells]
   simp [Builtin.append_, run_underlying ht, sizeOf, typeInfo, hi, Builtin.lenOf, Builtin.firstCells, hnc, storeCells]
 | some ad =>
   obtain ⟨v', w', hrun, r1, r2, _, r4⟩ := run_append_own_at (P := Tryz.prog) w base 38 ty 42 i _ 3 24 ht hi hz hsz hby hzs h0 v ys.length (ys.flatMap prc) hown ad xs.length c (xs.flatMap prc)
    (zbl zax xs) (zvw hx) (zyg xs) (by unfold maxLen; omega) (by omega) hbase
   refine ⟨v', w', hrun, by unfold OwnP OwnL; rw [List.length_append, List.flatMap_append]; exact r1, r2, fun j hj hv => ?_⟩
   rcases r4 with h | h
   ·rw [h]; exact hv
   rw [h]; simp only [ne_eq, Option.some.injEq]; omega
theorem step_append_prs {p E : Prop} [Decidable p] (hp : p) {o : Oper} {a : Act} {w : World} {K : Act -> World -> Prop} {Q : Exit -> Act -> World -> Prop} (s x : Operand)
 (ho : o.op = .call { callee := .builtin .append, args := #[s, x], argTypes := #[38, 38] })
 (base : Nat) (v : Value) (ys : List Pr) (hs : a.eval s = v) (hown : OwnP w base v ys) (b : Option Addr) (c : Nat) (xs : List Pr) (hx : a.eval x = .slice b xs.length c) (hxc : PrCells w b xs)
 (h1 : ys.length <= 65536) (h2 : xs.length <= 65536) (hbase : base <= w.heap.size)
 (h : ∀ v' w', OwnP w' base v' (ys ++ xs) -> w.grownBy w' v.ownBlock -> (∀ j, j < w.heap.size -> v.ownBlock ≠ some j -> v'.ownBlock ≠ some j) -> K (a.put o.dst v') w') : if p then o.wp Tryz.prog a w K Q else E := by
 rw [if_pos hp];obtain ⟨v', w', hrun, r1, r2, r3⟩ := run_append_prs w base o.type v ys hown b c xs hxc h1 h2 hbase;unfold Oper.wp execOp;simp only [ho, resolve, invoke, builtin, Sem.run_bind, Sem.run_pure, Result.andThen_ok, List.map_toArray, List.map_cons, List.map_nil, hs, hx, hrun];exact h v' w' r1 r2 r3
def InP (n : Nat) (l : List Pr) : Prop := ∀ p ∈ l, p.ok /\ ∀ v, p.v.mem v = true -> v <= n
theorem InP.append {n : Nat} {l m : List Pr} (h : InP n l) (k : InP n m) : InP n (l ++ m) := fun p hp => by
 rcases List.mem_append.1 hp with h1 | h1
 ·exact h p h1
 exact k p h1
def cellT (n : Nat) (t : List Cl) (l : List Pr) : Nat := cellN n (fun x => evL x t) l
theorem cellT_any {n : Nat} {t : List Cl} (hg : Gdt n t []) (h8 : n <= 8) (ta : Option Addr) (tc : Nat) (la : Option Addr) (lc : Nat) (l : List Pr) (w : World) (hx : LsCells w ta t) (hl : l.length <= 16) (hp : PrCells w la l) (hin : InP n l) (htab : Tab w) (hdt : Dtab w) :
 Calls Tryz.prog 15 #[.agg #[.int .i64 (n : Int), .slice ta t.length tc], .slice la l.length lc] w (zls (cellT n t l) 0 w) :=
 zqs n ta tc t la lc l (cellT n t l) w hg hx hl hp (fun p h => (hin p h).1) (zvs (fun p h => (hin p h).1) fun p h => (hin p h).2) (zr7 hg h8 l (fun p h => (hin p h).1) (fun p h => (hin p h).2) _) htab hdt
structure AEnv (w : World) (n : Nat) (ta : Option Addr) (tc : Nat) (t : List Cl) (tb ob : Nat) (oa : Option Addr) (oc : Nat) (own : List Pr) : Prop where
 tt : Blk w tb #[.int .i64 (n : Int), .slice ta t.length tc] 24
 tx : LsCells w ta t
 oo : Blk w ob #[.slice oa own.length oc] 38
 ox : PrCells w oa own
 tab : Tab w
 dt : Dtab w
theorem AEnv.later {w w' : World} {n : Nat} {ta : Option Addr} {tc : Nat} {t : List Cl} {tb ob : Nat} {oa : Option Addr} {oc : Nat} {own : List Pr} (h : AEnv w n ta tc t tb ob oa oc own) (hb : Below w.heap.size w w') : AEnv w' n ta tc t tb ob oa oc own :=
 ⟨h.tt.later hb, h.tx.keep hb, h.oo.later hb, h.ox.keep hb, h.tab.keep hb, h.dt.keep hb⟩
def mskP (n : Nat) (p : Pr) : Pr := ⟨⟨p.v.a &&& (2 ^ n - 1), 0⟩, p.odd⟩
theorem msk_in {n : Nat} (hn : n <= 8) {p : Pr} (hp : p.ok) : (mskP n p).ok /\ ∀ v, (mskP n p).v.mem v = true -> v <= n := by
 refine ⟨⟨zc7 hp.1, by show (0 : Nat) < U64; unfold U64; decide⟩, fun v hv => ?_⟩;unfold mskP St.mem at hv
 split at hv
 ·rename_i h
  simp only [Nat.testBit_and, Nat.testBit_two_pow_sub_one, Bool.and_eq_true, decide_eq_true_eq] at hv;omega
 split at hv <;> simp at hv
theorem msk_all {n : Nat} (hn : n <= 8) {l : List Pr} (h : ∀ p ∈ l, p.ok) : InP n (l.map (mskP n)) := by
 intro q hq;obtain ⟨p, hp, rfl⟩ := List.mem_map.1 hq;exact msk_in hn (h p hp)
theorem InP.nil (n : Nat) : InP n [] := fun _ h => by simp at h
theorem InP.cons {n : Nat} {p : Pr} {l : List Pr} (h : p.ok /\ ∀ v, p.v.mem v = true -> v <= n) (k : InP n l) : InP n (p :: l) := fun q hq => by
 rcases List.mem_cons.1 hq with rfl | hq
 ·exact h
 exact k q hq
theorem InP.sum {n : Nat} {p q : Pr} (h : p.ok /\ ∀ v, p.v.mem v = true -> v <= n) (k : q.ok /\ ∀ v, q.v.mem v = true -> v <= n) : (sumP p q).ok /\ ∀ v, (sumP p q).v.mem v = true -> v <= n := by
 refine ⟨zv7 h.1 k.1, fun v hv => ?_⟩
 by_cases h1 : p.v.mem v = true
 ·exact h.2 v h1
 by_cases h2 : q.v.mem v = true
 ·exact k.2 v h2
 exfalso
 rw [Bool.not_eq_true] at h1 h2
 have : (sumP p q).v.mem v = false := by
  unfold St.mem at h1 h2 ⊢;unfold sumP xorS
  (repeat' split) <;> simp_all
 rw [this] at hv; simp at hv
theorem cellT_nil (n : Nat) (t : List Cl) : cellT n t [] = cnt (fun x => evL x t) n fun _ => false := cellN_nil _ _
theorem cellT_le {n : Nat} (h8 : n <= 8) (t : List Cl) (l : List Pr) : cellT n t l <= 256 := Nat.le_trans (zfh _ _ _) (Nat.le_trans (Nat.pow_le_pow_right (by omega) h8) (by decide))
theorem cellT_add (n : Nat) (t : List Cl) (l : List Pr) (v : St) : cellT n t (l ++ [⟨v, false⟩]) + cellT n t (l ++ [⟨v, true⟩]) = cellT n t l := cellN_add _ _ _ _
theorem cellT_twice (n : Nat) (t : List Cl) {l : List Pr} {p q : Pr} (hp : p ∈ l) (hq : q ∈ l) : cellT n t (l ++ [p, p, q]) = cellT n t l := cellN_twice _ _ hp hq
theorem cellT_sum (n : Nat) (t : List Cl) {l : List Pr} {p q : Pr} (hp : p ∈ l) (hq : q ∈ l) : cellT n t (l ++ [sumP p q]) = cellT n t l := cellN_sum _ _ hp hq
theorem cellT_rev (n : Nat) (t : List Cl) (l : List Pr) : cellT n t l.reverse = cellT n t l := cellN_rev _ _ _
theorem rev_take {l : List Pr} {k : Nat} (h : k < l.length) : l.reverse.take (k + 1) = l.reverse.take k ++ [l.getD (l.length - 1 - k) default] := by
 rw [List.take_succ_eq_append_getElem (by simpa using h), List.getElem_reverse, List.getD_eq_getElem?_getD, List.getElem?_eq_getElem (by omega)]
 rfl
theorem pr_blk1 {w : World} {b : Nat} {p : Pr} (h : Blk w b #[.int .u64 (p.v.a : Int), .int .u64 (p.v.b : Int), .bool p.odd] 42) : PrCells w (some ⟨b, 0, none⟩) [p] := by
 intro i hi
 obtain rfl : i = 0 := by simpa using hi
 exact ⟨b, 0, rfl, h.cell 0, h.cell 1, h.cell 2⟩
theorem pr_blk3 {w : World} {b : Nat} {p q r : Pr} (h : Blk w b #[.int .u64 (p.v.a : Int), .int .u64 (p.v.b : Int), .bool p.odd, .int .u64 (q.v.a : Int), .int .u64 (q.v.b : Int), .bool q.odd, .int .u64 (r.v.a : Int), .int .u64 (r.v.b : Int), .bool r.odd] 42) : PrCells w (some ⟨b, 0, none⟩) [p, q, r] := by
 intro i hi
 have hi3 : i = 0 \/ i = 1 \/ i = 2 := by simp at hi; omega
 rcases hi3 with rfl | rfl | rfl
 ·exact ⟨b, 0, rfl, h.cell 0, h.cell 1, h.cell 2⟩
 ·exact ⟨b, 0, rfl, h.cell 3, h.cell 4, h.cell 5⟩
 exact ⟨b, 0, rfl, h.cell 6, h.cell 7, h.cell 8⟩
end Go.Proofs.YtlleofjjdhfgcaaGreatDoor
