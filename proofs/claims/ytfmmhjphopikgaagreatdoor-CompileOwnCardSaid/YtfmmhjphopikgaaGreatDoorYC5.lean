/- Part of the proofs that laws of censuslaw24 return true for every input, where the tables that the rows list are laid. Texts: NetOf, CpF, BoolL, R04, R03, R03W. -/
import Derived.Test.YtfmmhjphopikgaaGreatDoorYC4
import Derived.Test.YtfmmhjphopikgaaGreatDoorYC1
import Derived.Test.YtfmmhjphopikgaaGreatDoorYC2
import Derived.Outline
set_option maxHeartbeats 8000000
set_option maxRecDepth 100000
set_option linter.unusedSimpArgs false
set_option linter.unusedVariables false
namespace Go.Proofs.YtfmmhjphopikgaaGreatDoor
open Go.RowKit Cen
def I1 (x : Int) : List Value := [.int .i64 x]
theorem zlm (x : Int) : (I1 x).length = 1 := rfl
theorem zaq {w : World} {base : Nat} {v : Value} {xs : List Int} : OwnInts w base v xs ↔ OwnL I1 3 1 w base v xs := by
 have e : xs.map (Value.int .i64) = xs.flatMap I1 := by
  induction xs with
  | nil => rfl
  | cons x xs ih => simp [I1] at *; exact ih
 unfold OwnInts OwnL; rw [e]
theorem OwnL.cell1 {w : World} {base : Nat} {xs : List Int} {g cap n : Nat} (hn : n = xs.length) (h : OwnL I1 3 1 w base (.slice (some ⟨g, 0, none⟩) n cap) xs) (i : Nat) (hi : i < xs.length) :
 w.cell? ⟨g, i, none⟩ = some (.int .i64 xs[i]) := by
 have := h.cell hn zlm i 0 hi (by omega)
 simpa [I1] using this
def B1 (b : Bool) : List Value := [.int .i64 (b2i b)]
section
variable {ops : Array Oper} {rest : List Oper} {o : Oper} {a : Act} {Q : Exit -> Act -> World -> Prop}
theorem zjf {α : Type} {enc : α -> List Value} {t e k bytes : Nat} {z : Value} {W : World} {C : Array Value} (E : Elem t e k bytes z) (hgd : o.guard = none) (s x : Operand) (ho : o.op = .call { callee := .builtin .append, args := #[s, x], argTypes := #[t, t] })
 (base : Nat) (v : Value) (l : List α) (y : α) (hs : a.eval s = v) (hown : OwnL enc e k W base v l) (hx : a.eval x = .slice (some ⟨W.heap.size, 0, none⟩) 1 1) (hk : (enc y).length = k)
 (hC : enc y = C.toList) (h1 : ∀ u ∈ enc y, u.oneCell' = true) (hl : l.length <= 1073741824) (hby : bytes <= 1000) (hbase : base <= W.heap.size)
 (h : ∀ g cap w', OwnL enc e k w' base (.slice (some ⟨g, 0, none⟩) (l.length + 1) cap) (l ++ [y]) -> W.grownBy w' v.ownBlock -> (v.ownBlock = some g \/ W.heap.size <= g) -> wpList Tryz.prog ops Q rest (a.put o.dst (.slice (some ⟨g, 0, none⟩) (l.length + 1) cap)) w') :
 wpList Tryz.prog ops Q (o :: rest) a (W.alloc (.cells C e)) := by
 obtain ⟨ht, i, hi, hz, hsz, hby', hzs, h0⟩ := E;refine wpList_append_lies _ hgd s x t ho base e i z k bytes ht hi hz hsz hby' hzs h0 v l.length (l.flatMap enc) hs (World.ownsRow.alloc hown _) ⟨W.heap.size, 0, none⟩ 1 1 (enc y) hx (by rw [hk]; omega) ?_ h1 (by omega) (by unfold maxLen; omega) ?_ (by simp; omega) (W.heap.size + 1) (by simp) ?_
 ·intro j u hj
  have e1 : (⟨W.heap.size, 0, none⟩ : Addr).add j = ⟨W.heap.size, j, none⟩ := by
   unfold Addr.add; split
   ·rename_i hj0; rw [hj0]
   simp
  rw [e1, World.cell?_alloc_at _ _ _ _ rfl, <- Array.getElem?_toList, <- hC]; exact hj
 ·have := Nat.mul_le_mul (show l.length + 1 <= 1073741825 by omega) hby; omega
 intro g cap w' h2 h3 h4 _;exact h g cap w' (by unfold OwnL; rw [List.length_append, List.flatMap_append]; simpa using h2) (za1 h3) (h4.imp id (fun e => by omega))
end
section
variable {w w' : World} {B bo : Nat} {n : Int} {m : Nat} {ats : List Int} {lv : Value} {LL : List (Nd × Value)}
end
end Go.Proofs.YtfmmhjphopikgaaGreatDoor
namespace Cen
def taut (c : Cl) : Bool := c.any fun x => c.contains (-x)
structure gC (n : Nat) (c : Cl) : Prop where
 so : c.Pairwise ltL
 rg : ∀ x ∈ c, x ≠ 0 /\ -(n : Int) <= x /\ x <= n
 nt : ∀ x ∈ c, -x ∉ c
structure gL (n : Nat) (l : List Cl) : Prop where
 so : l.Pairwise ltC
 gc : ∀ c ∈ l, gC n c
def zab (n : Nat) (t : List Cl) : List Cl := ordC ((t.filter fun c => !taut c).map (zaw n))
def zai (l : List Cl) (x : Int) : List Cl := ordC ((l.filter fun c => !c.contains x).map fun c => c.filter fun y => decide (y ≠ -x))
def zcq (c : Cl) : St := c.foldl (fun s x => s.add (zac x)) St.zero
def zdj (c : Cl) (gs : List (List Cl × St)) : List (List Cl × St) × List Cl × St :=
 gs.foldl (fun acc g => if g.2.cut acc.2.2 ≠ St.zero then (acc.1, acc.2.1 ++ g.1, acc.2.2.union g.2) else (acc.1 ++ [g], acc.2.1, acc.2.2)) ([], [], zcq c)
def za3 (gs : List (List Cl × St)) (c : Cl) : List (List Cl × St) :=
 (zdj c gs).1 ++ [((zdj c gs).2.1 ++ [c], (zdj c gs).2.2)]
def zc1 (l : List Cl) : List (List Cl × St) := l.foldl za3 []
def zaj (l : List Cl) : List (List Cl) := (zc1 l).map fun g => ordC g.1
structure Nc where
 nd : Nd
 tag : Option (List Cl × Cl)
def zdd (x : Int) (c : Nc) : Bool := decide (c.nd.kind = 2) && decide (c.nd.lit = x)
def zbm (l : List Cl) (c : Nc) : Bool := match c.tag with | some t => decide (t.1 = l) | none => false
def litF (st : List Nc) (x : Int) : List Nc × Nat :=
 match st.findIdx? (zdd x) with
 | some i => (st, i)
 | none => (st ++ [⟨⟨2, x, []⟩, none⟩], st.length)
def zam (cache : Bool) (st : List Nc) (l : List Cl) (term : Cl) (mk : List Nc -> List Nc × Nd) : List Nc × Nat :=
 match (if cache then st.findIdx? (zbm l) else none) with
 | some i => (st, i)
 | none => ((mk st).1 ++ [⟨(mk st).2, some (l, term)⟩], (mk st).1.length)
structure Us where
 st : List Nc
 l : List Cl
 term : Cl
 ins : List Nat
def zap : Nat -> Us -> Us
 | 0, u => u
 | f + 1, u => match u.l with
   | [x] :: _ => zap f ⟨(litF u.st x).1, zai u.l x, u.term ++ [x], u.ins ++ [(litF u.st x).2]⟩
   | _ => u
def zco (fit : List Nc -> List Cl -> Cl -> List Nc × List Nat) (st : List Nc) (l : List Cl) (term : Cl) (x : Int) : List Nc × Nat :=
 if zai l x = [] then litF st x
 else ((fit (litF st x).1 (zai l x) (term ++ [x])).1 ++ [⟨⟨3, 0, ((litF st x).2 : Int) :: (fit (litF st x).1 (zai l x) (term ++ [x])).2.map fun (i : Nat) => (i : Int)⟩, none⟩],
  (fit (litF st x).1 (zai l x) (term ++ [x])).1.length)
def zau (fit : List Nc -> List Cl -> Cl -> List Nc × List Nat) (ch : List Cl -> Int) (st : List Nc) (l : List Cl) (term : Cl) : List Nc × Nd :=
 ((zco fit (zco fit st l term (-ch l)).1 l term (ch l)).1, ⟨4, 0, [((zco fit st l term (-ch l)).2 : Int), ((zco fit (zco fit st l term (-ch l)).1 l term (ch l)).2 : Int)]⟩)
def za6 (cache : Bool) (dec : List Nc -> List Cl -> List Nc × Nd) (term : Cl) (ps : List (List Cl)) (acc : List Nc × List Nat) : List Nc × List Nat :=
 ps.foldl (fun acc part => ((zam cache acc.1 part term (fun s => dec s part)).1, acc.2 ++ [(zam cache acc.1 part term (fun s => dec s part)).2])) acc
def za7 : List Cl -> Bool | [] :: _ => true | _ => false
def fitF (ch : List Cl -> Int) (cache : Bool) : Nat -> List Nc -> List Cl -> Cl -> List Nc × List Nat
 | 0, st, _, _ => (st, [])
 | f + 1, st, l, term =>
   let u := zap l.length ⟨st, l, term, []⟩
   if za7 u.l then ((zam cache u.st u.l u.term fun s => (s, ⟨0, 0, []⟩)).1, u.ins ++ [(zam cache u.st u.l u.term fun s => (s, ⟨0, 0, []⟩)).2])
   else za6 cache (fun s part => zau (fitF ch cache f) ch s part u.term) u.term (zaj u.l) (u.st, u.ins)
def evC (s : Int -> Bool) (c : Cl) : Bool := c.any (zbw s)
def evL (s : Int -> Bool) (l : List Cl) : Bool := l.all (evC s)
theorem zqx {s : Int -> Bool} {l m : List Cl} (h : ∀ x, x ∈ l ↔ x ∈ m) : evL s l = evL s m := by
 rw [Bool.eq_iff_iff]; unfold evL; rw [List.all_eq_true, List.all_eq_true];exact ⟨fun k x hx => k x ((h x).2 hx), fun k x hx => k x ((h x).1 hx)⟩
theorem zv8 (s : Int -> Bool) (l : List Cl) : evL s (ordC l) = evL s l := zqx fun _ => zba
theorem zl6 {s : Int -> Bool} {c d : Cl} (h : ∀ x, x ∈ c ↔ x ∈ d) : evC s c = evC s d := by
 rw [Bool.eq_iff_iff]; unfold evC; rw [List.any_eq_true, List.any_eq_true];exact ⟨fun ⟨x, hx, k⟩ => ⟨x, (h x).1 hx, k⟩, fun ⟨x, hx, k⟩ => ⟨x, (h x).2 hx, k⟩⟩
theorem zca (x : Int) : zac (-x) = zac x := by unfold zac; (repeat' split) <;> omega
theorem zih {s : Int -> Bool} {x : Int} (h : zac x ≠ 0) : zbw s (-x) = !zbw s x := by
 unfold zbw;rw [zca, show decide (zac x ≠ 0) = true by simpa using h]
 have : decide (0 < -x) = !decide (0 < x) := by
  rcases zc3 h with h | h
  ·rw [decide_eq_false (by omega), decide_eq_true (by omega)]; rfl
  rw [decide_eq_true (by omega), decide_eq_false (by omega)]; rfl
 rw [this]
 cases s (zac x) <;> cases decide (0 < x) <;> rfl
theorem gC.lv {n : Nat} (hn : n <= 128) {c : Cl} (h : gC n c) {x : Int} (hx : x ∈ c) : zac x ≠ 0 := by
 have := h.rg x hx
 rw [zal this.1 (by omega) (by omega)]; split <;> omega
theorem zcb {l : List Cl} {x : Int} {d : Cl} : d ∈ zai l x ↔ ∃ c ∈ l, x ∉ c /\ d = c.filter fun y => decide (y ≠ -x) := by
 unfold zai;rw [zba, List.mem_map]
 constructor
 ·rintro ⟨c, hc, rfl⟩;rw [List.mem_filter] at hc;exact ⟨c, hc.1, by simpa using hc.2, rfl⟩
 rintro ⟨c, hc, hx, rfl⟩;exact ⟨c, List.mem_filter.2 ⟨hc, by simpa using hx⟩, rfl⟩
theorem zbl {n : Nat} {l : List Cl} (h : ∀ c ∈ l, gC n c) (x : Int) : gL n (zai l x) :=
 ⟨zax _, fun d hd => by
   obtain ⟨c, hc, _, rfl⟩ := zcb.1 hd;have g := h c hc
   exact ⟨g.so.filter _, fun y hy => g.rg y (List.mem_filter.1 hy).1, fun y hy hn => g.nt y (List.mem_filter.1 hy).1 (List.mem_filter.1 hn).1⟩⟩
theorem zh7 {n : Nat} (hn : n <= 128) {l : List Cl} (h : ∀ c ∈ l, gC n c) {s : Int -> Bool} {x : Int} (hx : zbw s x = true) (hl : zac x ≠ 0) : evL s (zai l x) = evL s l := by
 rw [Bool.eq_iff_iff]; unfold evL; rw [List.all_eq_true, List.all_eq_true]
 have hne : zbw s (-x) = false := by rw [zih hl, hx]; rfl
 constructor
 ·intro k c hc
  by_cases m : x ∈ c
  ·exact List.any_eq_true.2 ⟨x, m, hx⟩
  have := k _ (zcb.2 ⟨c, hc, m, rfl⟩);obtain ⟨y, hy, hs⟩ := List.any_eq_true.1 this;exact List.any_eq_true.2 ⟨y, (List.mem_filter.1 hy).1, hs⟩
 intro k d hd;obtain ⟨c, hc, m, rfl⟩ := zcb.1 hd;obtain ⟨y, hy, hs⟩ := List.any_eq_true.1 (k c hc);refine List.any_eq_true.2 ⟨y, List.mem_filter.2 ⟨hy, ?_⟩, hs⟩;simp only [decide_eq_true_eq];rintro rfl;rw [hne] at hs; simp at hs
theorem zke {n : Nat} {c : Cl} (hc : ∀ x ∈ c, x ≠ 0 /\ -(n : Int) <= x /\ x <= n) (x : Int) : x ∈ zaw n c ↔ x ∈ c := by
 rw [zbi]; exact ⟨fun h => h.1, fun h => ⟨h, hc x h⟩⟩
theorem zcd {c : Cl} : taut c = true ↔ ∃ x ∈ c, -x ∈ c := by
 unfold taut; rw [List.any_eq_true];exact ⟨fun ⟨x, hx, h⟩ => ⟨x, hx, by simpa using h⟩, fun ⟨x, hx, h⟩ => ⟨x, hx, by simpa using h⟩⟩
theorem za2 {n : Nat} (hn : n <= 128) {t : List Cl} (ht : ∀ c ∈ t, ∀ x ∈ c, x ≠ 0 /\ -(n : Int) <= x /\ x <= n) : gL n (zab n t) :=
 ⟨zax _, fun d hd => by
   unfold zab at hd;rw [zba, List.mem_map] at hd;obtain ⟨c, hc, rfl⟩ := hd;rw [List.mem_filter] at hc;refine ⟨zei hn c, fun x hx => (zbi.1 hx).2, fun x hx hnx => ?_⟩;have : taut c = true := zcd.2 ⟨x, (zbi.1 hx).1, (zbi.1 hnx).1⟩
   rw [this] at hc; simp at hc⟩
theorem zwq {n : Nat} (hn : n <= 128) {c : Cl} (hc : ∀ x ∈ c, x ≠ 0 /\ -(n : Int) <= x /\ x <= n) (h : taut c = true) (s : Int -> Bool) : evC s c = true := by
 obtain ⟨x, hx, hnx⟩ := zcd.1 h
 have hl : zac x ≠ 0 := by have := hc x hx; rw [zal this.1 (by omega) (by omega)]; split <;> omega
 cases hs : zbw s x with
 | true => exact List.any_eq_true.2 ⟨x, hx, hs⟩
 | false => exact List.any_eq_true.2 ⟨-x, hnx, by rw [zih hl, hs]; rfl⟩
theorem zpi {n : Nat} (hn : n <= 128) {t : List Cl} (ht : ∀ c ∈ t, ∀ x ∈ c, x ≠ 0 /\ -(n : Int) <= x /\ x <= n) (s : Int -> Bool) : evL s (zab n t) = evL s t := by
 unfold zab;rw [zv8, Bool.eq_iff_iff]; unfold evL; rw [List.all_eq_true, List.all_eq_true]
 constructor
 ·intro k c hc
  cases h : taut c with
  | true => exact zwq hn (ht c hc) h s
  | false =>
    have := k (zaw n c) (List.mem_map.2 ⟨c, List.mem_filter.2 ⟨hc, by rw [h]; rfl⟩, rfl⟩)
    rwa [zl6 (zke (ht c hc))] at this
 intro k d hd;obtain ⟨c, hc, rfl⟩ := List.mem_map.1 hd;have hc := (List.mem_filter.1 hc).1;rw [zl6 (zke (ht c hc))]; exact k c hc
theorem zfl (c : Cl) : ∀ (s : St) (v : Int), (c.foldl (fun s x => s.add (zac x)) s).mem v = (s.mem v || c.any fun x => decide (v = zac x) && decide (1 <= zac x)) := by
 induction c with
 | nil => intro s v; simp
 | cons x c ih =>
   intro s v;rw [List.foldl_cons, ih, St.mem_add, List.any_cons, Bool.or_assoc];have := zb6 x;rw [show decide (zac x <= 128) = true by simpa using this.2, Bool.and_true]
theorem zdr {c : Cl} {v : Int} : (zcq c).mem v = true ↔ 1 <= v /\ ∃ x ∈ c, zac x = v := by
 unfold zcq;rw [zfl, St.mem_zero, Bool.false_or, List.any_eq_true]
 constructor
 ·rintro ⟨x, hx, h⟩;simp only [Bool.and_eq_true, decide_eq_true_eq] at h;exact ⟨by omega, x, hx, h.1.symm⟩
 rintro ⟨h, x, hx, rfl⟩;exact ⟨x, hx, by simp; exact h⟩
theorem zhk (c : Cl) : (zcq c).ok := by
 unfold zcq
 have : ∀ s : St, s.ok -> (c.foldl (fun s x => s.add (zac x)) s).ok := by
  induction c with
  | nil => intro s h; exact h
  | cons x c ih => intro s h; exact ih _ (St.add_ok h _)
 exact this _ St.zero_ok
def grps (gs : List (List Cl × St)) : List Cl := gs.flatMap fun g => g.1
structure gGs (gs : List (List Cl × St)) : Prop where
 ok : ∀ g ∈ gs, g.2.ok
 ne : ∀ g ∈ gs, g.1 ≠ []
 vs : ∀ g ∈ gs, ∀ v, g.2.mem v = true ↔ ∃ c ∈ g.1, (zcq c).mem v = true
 dj : gs.Pairwise fun g h => ∀ v, ¬ (g.2.mem v = true /\ h.2.mem v = true)
theorem zw6 {s t : St} (hs : s.ok) (h : s.cut t ≠ St.zero) : ∃ v, s.mem v = true /\ t.mem v = true := by
 by_cases e : ∃ v, s.mem v = true /\ t.mem v = true
 ·exact e
 refine absurd (St.ext (St.cut_ok hs) St.zero_ok fun v _ _ => ?_) h;rw [St.mem_cut, St.mem_zero]
 cases hs : s.mem v <;> cases ht : t.mem v <;> simp
 exact e ⟨v, hs, ht⟩
theorem zw5 {s t : St} (h : s.cut t = St.zero) (v : Int) : ¬ (s.mem v = true /\ t.mem v = true) := fun ⟨a, b⟩ => by
 have : (s.cut t).mem v = true := by rw [St.mem_cut, a, b]; rfl
 rw [h, St.mem_zero] at this; simp at this
theorem zhg {gs : List (List Cl × St)} {d : Cl} : d ∈ grps gs ↔ ∃ g ∈ gs, d ∈ g.1 := List.mem_flatMap
structure sIn (c : Cl) (gs0 : List (List Cl × St)) (acc : List (List Cl × St) × List Cl × St) (rest : List (List Cl × St)) : Prop where
 gg : gGs (acc.1 ++ rest)
 dj : ∀ g ∈ acc.1, ∀ v, ¬ (g.2.mem v = true /\ acc.2.2.mem v = true)
 vs : ∀ v, acc.2.2.mem v = true ↔ (zcq c).mem v = true \/ ∃ d ∈ acc.2.1, (zcq d).mem v = true
 ok : acc.2.2.ok
 al : ∀ d, (d ∈ grps acc.1 \/ d ∈ acc.2.1 \/ d ∈ grps rest) ↔ d ∈ grps gs0
theorem zg4 (c : Cl) (gs0 : List (List Cl × St)) : ∀ (rest : List (List Cl × St)) (acc : List (List Cl × St) × List Cl × St), sIn c gs0 acc rest ->
 sIn c gs0 (rest.foldl (fun acc g => if g.2.cut acc.2.2 ≠ St.zero then (acc.1, acc.2.1 ++ g.1, acc.2.2.union g.2) else (acc.1 ++ [g], acc.2.1, acc.2.2)) acc) []
 | [], acc, h => h
 | g :: rest, acc, h => by
   rw [List.foldl_cons];refine zg4 c gs0 rest _ ?_;have gg := h.gg
   by_cases hz : g.2.cut acc.2.2 = St.zero
   ·rw [if_neg (by simpa using hz)];refine ⟨by simpa [List.append_assoc] using gg, fun k hk v => ?_, h.vs, h.ok, fun d => ?_⟩
    ·rcases List.mem_append.1 hk with hk | hk
     ·exact h.dj k hk v
     simp at hk; subst hk; exact zw5 hz v
    rw [<- h.al d];simp only [zhg, List.mem_append, List.mem_cons, List.not_mem_nil, or_false]
    constructor
    ·rintro (⟨k, hk | rfl, hd⟩ | hd | ⟨k, hk, hd⟩)
     ·exact .inl ⟨k, hk, hd⟩
     ·exact .inr (.inr ⟨k, .inl rfl, hd⟩)
     ·exact .inr (.inl hd)
     exact .inr (.inr ⟨k, .inr hk, hd⟩)
    rintro (⟨k, hk, hd⟩ | hd | ⟨k, rfl | hk, hd⟩)
    ·exact .inl ⟨k, .inl hk, hd⟩
    ·exact .inr (.inl hd)
    ·exact .inl ⟨k, .inr rfl, hd⟩
    exact .inr (.inr ⟨k, hk, hd⟩)
   rw [if_pos hz];have sub : (acc.1 ++ rest).Sublist (acc.1 ++ g :: rest) := List.Sublist.append_left (List.sublist_cons_self g rest) acc.1
   have hg : g ∈ acc.1 ++ g :: rest := by simp
   refine ⟨⟨fun k hk => gg.ok k (sub.mem hk), fun k hk => gg.ne k (sub.mem hk), fun k hk => gg.vs k (sub.mem hk), gg.dj.sublist sub⟩, fun k hk v => ?_, fun v => ?_, St.union_ok h.ok (gg.ok g hg), fun d => ?_⟩
   ·rintro ⟨a, b⟩;rw [St.mem_union, Bool.or_eq_true] at b
    rcases b with b | b
    ·exact h.dj k hk v ⟨a, b⟩
    exact (List.pairwise_append.1 gg.dj).2.2 k hk g (by simp) v ⟨a, b⟩
   ·show (acc.2.2.union g.2).mem v = true ↔ _
    rw [St.mem_union, Bool.or_eq_true, h.vs v, gg.vs g hg v];simp only [List.mem_append]
    constructor
    ·rintro ((h1 | ⟨d, hd, h1⟩) | ⟨d, hd, h1⟩)
     ·exact .inl h1
     ·exact .inr ⟨d, .inl hd, h1⟩
     exact .inr ⟨d, .inr hd, h1⟩
    rintro (h1 | ⟨d, hd | hd, h1⟩)
    ·exact .inl (.inl h1)
    ·exact .inl (.inr ⟨d, hd, h1⟩)
    exact .inr ⟨d, hd, h1⟩
   rw [<- h.al d];simp only [zhg, List.mem_append, List.mem_cons]
   constructor
   ·rintro (h1 | (hd | hd) | ⟨k, hk, hd⟩)
    ·exact .inl h1
    ·exact .inr (.inl hd)
    ·exact .inr (.inr ⟨g, .inl rfl, hd⟩)
    exact .inr (.inr ⟨k, .inr hk, hd⟩)
   rintro (h1 | hd | ⟨k, rfl | hk, hd⟩)
   ·exact .inl h1
   ·exact .inr (.inl (.inl hd))
   ·exact .inr (.inl (.inr hd))
   exact .inr (.inr ⟨k, hk, hd⟩)
theorem zjq {gs : List (List Cl × St)} (h : gGs gs) (c : Cl) : gGs (za3 gs c) /\ ∀ d, d ∈ grps (za3 gs c) ↔ d ∈ grps gs \/ d = c := by
 have k : sIn c gs (zdj c gs) [] := by
  unfold zdj;refine zg4 c gs gs _ ⟨by simpa using h, by simp, by simp, zhk c, fun d => by simp [grps]⟩
 unfold za3;generalize zdj c gs = r at k;have gg := k.gg;rw [List.append_nil] at gg;refine ⟨⟨fun g hg => ?_, fun g hg => ?_, fun g hg v => ?_, ?_⟩, fun d => ?_⟩
 ·rcases List.mem_append.1 hg with hg | hg
  ·exact gg.ok g hg
  simp at hg; subst hg; exact k.ok
 ·rcases List.mem_append.1 hg with hg | hg
  ·exact gg.ne g hg
  simp at hg; subst hg; simp
 ·rcases List.mem_append.1 hg with hg | hg
  ·exact gg.vs g hg v
  simp at hg; subst hg;simp only;rw [k.vs v];simp only [List.mem_append, List.mem_cons, List.not_mem_nil, or_false]
  constructor
  ·rintro (h1 | ⟨d, hd, h1⟩)
   ·exact ⟨c, .inr rfl, h1⟩
   exact ⟨d, .inl hd, h1⟩
  rintro ⟨d, hd | rfl, h1⟩
  ·exact .inr ⟨d, hd, h1⟩
  exact .inl h1
 ·rw [List.pairwise_append];refine ⟨gg.dj, by simp, fun g hg x hx v => ?_⟩;simp at hx; subst hx;exact k.dj g hg v
 have := k.al d;rw [<- this];simp only [zhg, List.mem_append, List.mem_cons, List.not_mem_nil, or_false]
 constructor
 ·rintro ⟨g, hg | rfl, hd⟩
  ·exact .inl (.inl ⟨g, hg, hd⟩)
  simp only [List.mem_append, List.mem_cons, List.not_mem_nil, or_false] at hd
  rcases hd with hd | rfl
  ·exact .inl (.inr (.inl hd))
  exact .inr rfl
 rintro ((⟨g, hg, hd⟩ | hd | ⟨g, hg, hd⟩) | rfl)
 ·exact ⟨g, .inl hg, hd⟩
 ·exact ⟨_, .inr rfl, by simp [hd]⟩
 ·simp at hg
 exact ⟨_, .inr rfl, by simp⟩
theorem znh (l : List Cl) : ∀ gs, gGs gs -> gGs (l.foldl za3 gs) /\ ∀ d, d ∈ grps (l.foldl za3 gs) ↔ d ∈ grps gs \/ d ∈ l := by
 induction l with
 | nil => intro gs h; exact ⟨h, fun d => by simp⟩
 | cons c l ih =>
   intro gs h;obtain ⟨h1, h2⟩ := zjq h c;obtain ⟨h3, h4⟩ := ih _ h1;refine ⟨h3, fun d => ?_⟩;rw [List.foldl_cons, h4, h2, List.mem_cons, or_assoc]
theorem zfb (l : List Cl) : gGs (zc1 l) /\ ∀ d, d ∈ grps (zc1 l) ↔ d ∈ l := by
 obtain ⟨h1, h2⟩ := znh l [] ⟨by simp, by simp, by simp, by simp⟩;exact ⟨h1, fun d => by rw [show zc1 l = l.foldl za3 [] from rfl, h2]; simp [grps]⟩
theorem zci {l : List Cl} {d : Cl} : (∃ p ∈ zaj l, d ∈ p) ↔ d ∈ l := by
 rw [<- (zfb l).2 d, zhg];unfold zaj
 constructor
 ·rintro ⟨p, hp, hd⟩;obtain ⟨g, hg, rfl⟩ := List.mem_map.1 hp;exact ⟨g, hg, zba.1 hd⟩
 rintro ⟨g, hg, hd⟩;exact ⟨_, List.mem_map.2 ⟨g, hg, rfl⟩, zba.2 hd⟩
theorem zcx {n : Nat} {l : List Cl} (h : ∀ c ∈ l, gC n c) {p : List Cl} (hp : p ∈ zaj l) : gL n p /\ p ≠ [] /\ ∀ d ∈ p, d ∈ l := by
 have hm : ∀ d ∈ p, d ∈ l := fun d hd => zci.1 ⟨p, hp, hd⟩
 unfold zaj at hp;obtain ⟨g, hg, rfl⟩ := List.mem_map.1 hp;exact ⟨⟨zax _, fun c hc => h c (hm c hc)⟩, fun e => (zfb l).1.ne g hg (zt8.1 e), hm⟩
theorem zqy (s : Int -> Bool) (l : List Cl) : evL s l = (zaj l).all (evL s) := by
 rw [Bool.eq_iff_iff]; unfold evL; rw [List.all_eq_true, List.all_eq_true]
 constructor
 ·intro k p hp;rw [List.all_eq_true]
  exact fun d hd => k d (zci.1 ⟨p, hp, hd⟩)
 intro k d hd;obtain ⟨p, hp, hdp⟩ := zci.2 hd;exact (List.all_eq_true.1 (k p hp)) d hdp
def zaf (l : List Cl) : St := l.foldl (fun s c => s.union (zcq c)) St.zero
theorem za8 {l : List Cl} {v : Int} : (zaf l).mem v = true ↔ ∃ c ∈ l, (zcq c).mem v = true := by
 have : ∀ s : St, (l.foldl (fun s c => s.union (zcq c)) s).mem v = true ↔ s.mem v = true \/ ∃ c ∈ l, (zcq c).mem v = true := by
  induction l with
  | nil => intro s; simp
  | cons c l ih =>
    intro s;rw [List.foldl_cons, ih, St.mem_union, Bool.or_eq_true];simp only [List.mem_cons]
    constructor
    ·rintro ((h | h) | ⟨d, hd, h⟩)
     ·exact .inl h
     ·exact .inr ⟨c, .inl rfl, h⟩
     exact .inr ⟨d, .inr hd, h⟩
    rintro (h | ⟨d, rfl | hd, h⟩)
    ·exact .inl (.inl h)
    ·exact .inl (.inr h)
    exact .inr ⟨d, hd, h⟩
 unfold zaf;rw [this, St.mem_zero]; simp
theorem zo6 (l : List Cl) : (zaj l).Pairwise fun p q => ∀ v, ¬ ((zaf p).mem v = true /\ (zaf q).mem v = true) := by
 unfold zaj;rw [List.pairwise_map];have gg := (zfb l).1;refine gg.dj.imp_of_mem ?_;intro g h hg hh hd v ⟨a, b⟩;rw [za8] at a b;refine hd v ⟨(gg.vs g hg v).2 ?_, (gg.vs h hh v).2 ?_⟩
 ·obtain ⟨c, hc, k⟩ := a; exact ⟨c, zba.1 hc, k⟩
 obtain ⟨c, hc, k⟩ := b; exact ⟨c, zba.1 hc, k⟩
end Cen
namespace Go.Proofs.YtfmmhjphopikgaaGreatDoor
open Go.RowKit Cen
def bc (b : Bool) : List Value := [.bool b]
theorem zht (b : Bool) : (bc b).length = 1 := rfl
theorem zk0 : Elem 96 4 1 1 (.bool false) := .mk Tryz.underlying96 (by kernel_rfl) rfl (by decide)
theorem zhi (l : Int) (w : World) : Calls Tryz.prog 120 #[.int .i64 l] w fun e w' => e = .returned (.int .i64 (zac l)) /\ w = w' := by
 by_cases h1 : 1 <= l /\ l <= 128
 ·obtain ⟨a, b⟩ := h1
  have d1 : decide (1 <= l) = true := by simpa using a
  have d2 : decide (l <= 128) = true := by simpa using b
  go_enter Tryz.func120, Tryz.ntmps120;go_wp2;go_ret;exact ⟨zbb (by unfold zac; rw [if_pos ⟨a, b⟩]), rfl⟩
 by_cases h2 : l <= -1 /\ -128 <= l
 ·obtain ⟨a, b⟩ := h2
  have d1 : decide (1 <= l) = false := by simp; omega
  have d2 : decide (-128 <= l) = true := by simpa using b
  have d3 : decide (l <= -1) = true := by simpa using a
  clear h1;go_enter Tryz.func120, Tryz.ntmps120;go_wp2;go_ret;exact ⟨zbb (by unfold zac; rw [if_neg (by omega), if_pos ⟨a, b⟩]), rfl⟩
 have HR : Hid (zac l = 0) := by show _ = _; unfold zac; rw [if_neg h1, if_neg h2]
 by_cases c1 : 1 <= l
 ·have d1 : decide (1 <= l) = true := by simpa using c1
  have d2 : decide (l <= 128) = false := by simp; omega
  have d3 : decide (-128 <= l) = true := by simp; omega
  have d4 : decide (l <= -1) = false := by simp; omega
  clear h1 h2;go_enter Tryz.func120, Tryz.ntmps120;go_wp2;go_ret;exact ⟨zbb HR.o.symm, rfl⟩
 have d1 : decide (1 <= l) = false := by simpa using c1
 by_cases c2 : -128 <= l
 ·have d3 : decide (-128 <= l) = true := by simpa using c2
  have d4 : decide (l <= -1) = false := by simp; omega
  clear h1 h2;go_enter Tryz.func120, Tryz.ntmps120;go_wp2;go_ret;exact ⟨zbb HR.o.symm, rfl⟩
 have d3 : decide (-128 <= l) = false := by simpa using c2
 clear h1 h2;go_enter Tryz.func120, Tryz.ntmps120;go_wp2;go_ret;exact ⟨zbb HR.o.symm, rfl⟩
theorem zlc (l n : Int) (w : World) : Calls Tryz.prog 81 #[.int .i64 l, .int .i64 n] w fun e w' => e = .returned (.bool (zas l n)) /\ w = w' := by
 have hb := zb6 l
 by_cases h0 : zac l = 0
 ·have h1 : decide (0 < zac l) = false := by simp [h0]
  have hr : zas l n = false := by simp [zas, h0]
  rw [hr]; clear hr h0;go_enter Tryz.func81, Tryz.ntmps81;go_wp2_with (go_at_call 120; refine (zhi _ _).mono ?_; rintro e w' ⟨rfl, rfl⟩);go_ret; exact ⟨rfl, rfl⟩
 have h1 : decide (0 < zac l) = true := by simp; omega
 have hr : zas l n = decide (zac l <= n) := by simp [zas, h0]
 rw [hr]; clear hr h0;go_enter Tryz.func81, Tryz.ntmps81;go_wp2_with (go_at_call 120; refine (zhi _ _).mono ?_; rintro e w' ⟨rfl, rfl⟩);go_ret; exact ⟨rfl, rfl⟩
theorem tbit (x k : Nat) : (((x : Int) / 2 ^ k).tmod 2 == 1) = x.testBit k := by
 have e : (x : Int) / 2 ^ k = ((x / 2 ^ k : Nat) : Int) := by simp
 rw [e, Int.tmod_eq_emod_of_nonneg (Int.natCast_nonneg _), Nat.testBit_eq_decide_div_mod_eq, Bool.eq_iff_iff];simp only [beq_iff_eq, decide_eq_true_eq]; omega
theorem zrm (s : St) {v : Int} (h1 : 1 <= v) (h2 : v <= 64) : (((s.a : Int) / 2 ^ (v.toNat - 1)).tmod 2 == 1) = s.mem v := by
 rw [tbit]; unfold St.mem; rw [if_pos ⟨h1, h2⟩]; congr 1; omega
theorem zrl (s : St) {v : Int} (h1 : 65 <= v) (h2 : v <= 128) (k : Nat) (hk : (k : Int) = v - 65) : (((s.b : Int) / 2 ^ k).tmod 2 == 1) = s.mem v := by
 rw [tbit]; unfold St.mem; rw [if_neg (by omega), if_pos ⟨h1, h2⟩]; congr 1; omega
theorem zvb (s : St) (v : Int) (w : World) (h : 1 <= v /\ v <= 128) (_hs : s.ok) : Calls Tryz.prog 90 #[stv s, .int .i64 v] w fun e w' => e = .returned (.bool (s.mem v)) /\ Below w.heap.size w w' := by
 obtain ⟨h1, h2⟩ := h
 by_cases hv : v <= 64
 ·have e1 : (v - 1) / 64 = 0 := by omega
  have e2 : (v - 1) % 64 = v - 1 := by omega
  go_enter Tryz.func90, Tryz.ntmps90;go_wp2;go_ret;exact ⟨zah (zrm s h1 hv), (Below.refl _ _).alloc (Nat.le_refl _) _⟩
 have e1 : (v - 1) / 64 = 1 := by omega
 have e2 : (v - 1) % 64 = v - 65 := by omega
 have hv2 : 65 <= v := by omega
 go_enter Tryz.func90, Tryz.ntmps90;go_wp2;go_ret;exact ⟨zah (zrl s hv2 h2 _ (by omega)), (Below.refl _ _).alloc (Nat.le_refl _) _⟩
theorem zpz (s : St) (l : Int) (w : World) (hs : s.ok) : Calls Tryz.prog 101 #[stv s, .int .i64 l] w fun e w' => e = .returned (.bool (zbw s.mem l)) /\ Below w.heap.size w w' := by
 have hb := zb6 l;have HB0 : Hid (Below w.heap.size w (w.alloc (.cells #[.int .u64 (s.a : Int), .int .u64 (s.b : Int)] 56))) := (Below.refl _ _).alloc (Nat.le_refl _) _;have HOK := lh hs;clear hs
 by_cases h0 : zac l = 0
 ·have h1 : decide (0 < zac l) = false := by simp [h0]
  have HR : Hid (zbw s.mem l = false) := by show _ = _; simp [zbw, h0]
  clear h0;go_enter Tryz.func101, Tryz.ntmps101;go_wp2_with (go_at_call 120; refine (zhi _ _).mono ?_; rintro e w' ⟨rfl, rfl⟩);go_ret; exact ⟨zah HR.o.symm, HB0.o⟩
 have h1 : decide (0 < zac l) = true := by simp; omega
 have HR : Hid (zbw s.mem l = (s.mem (zac l) == decide (0 < l))) := by show _ = _; simp [zbw, h0]
 have HI := lh (fun W => zvb s (zac l) W (by omega) HOK.o)
 cases hm : s.mem (zac l)
 all_goals
  cases hd : decide (0 < l)
  all_goals
   have HI2 := lh HI.o;rw [hm] at HR HI2;rw [hd] at HR;clear hm h0;go_enter Tryz.func101, Tryz.ntmps101;go_wp2_with fail;refine (zhi _ _).mono ?_;rintro e w' ⟨rfl, rfl⟩;go_wp2_with fail;refine (HI2.o _).mono ?_;rintro e w1 ⟨rfl, hb1⟩;have HB1 := lh (HB0.o.trans (hb1.mono HB0.o.size));clear hb1;go_wp2;go_ret;exact ⟨zah (by rw [HR.o]; rfl), HB1.o⟩
theorem ztk (s : St) (v : Int) (w : World) (_hs : s.ok) : Calls Tryz.prog 54 #[stv s, .int .i64 v] w fun e w' => e = .returned (.bool (s.mem v)) /\ Below w.heap.size w w' := by
 by_cases h1 : v < 1
 ·have d1 : decide (v < 1) = true := by simpa using h1
  have HR : Hid (s.mem v = false) := by show _ = _; unfold St.mem; rw [if_neg (by omega), if_neg (by omega)]
  clear h1;go_enter Tryz.func54, Tryz.ntmps54;go_wp2;go_ret;exact ⟨zah HR.o.symm, (Below.refl _ _).alloc (Nat.le_refl _) _⟩
 have d1 : decide (v < 1) = false := by simpa using h1
 by_cases h2 : 128 < v
 ·have d2 : decide (128 < v) = true := by simpa using h2
  have HR : Hid (s.mem v = false) := by show _ = _; unfold St.mem; rw [if_neg (by omega), if_neg (by omega)]
  clear h2 h1;go_enter Tryz.func54, Tryz.ntmps54;go_wp2;go_ret;exact ⟨zah HR.o.symm, (Below.refl _ _).alloc (Nat.le_refl _) _⟩
 have d2 : decide (128 < v) = false := by simpa using h2
 have h1' : 1 <= v := by omega
 have h2' : v <= 128 := by omega
 clear h1 h2
 by_cases hv : v <= 64
 ·have e1 : (v - 1) / 64 = 0 := by omega
  have e2 : (v - 1) % 64 = v - 1 := by omega
  go_enter Tryz.func54, Tryz.ntmps54;go_wp2;go_ret;exact ⟨zah (zrm s h1' hv), (Below.refl _ _).alloc (Nat.le_refl _) _⟩
 have e1 : (v - 1) / 64 = 1 := by omega
 have e2 : (v - 1) % 64 = v - 65 := by omega
 have hv2 : 65 <= v := by omega
 go_enter Tryz.func54, Tryz.ntmps54;go_wp2;go_ret;exact ⟨zah (zrl s hv2 h2' _ (by omega)), (Below.refl _ _).alloc (Nat.le_refl _) _⟩
theorem zmr (w : World) : Calls Tryz.prog 53 #[] w fun e w' => ∃ g, e = .returned (.slice (some ⟨g, 0, none⟩) 129 129) /\ OwnL bc 4 1 w' w.heap.size (.slice (some ⟨g, 0, none⟩) 129 129) (List.replicate 129 false) /\ Below w.heap.size w w' := by
 go_enter Tryz.func53, Tryz.ntmps53;go_wp2_with (at_make; refine mk zk0 rfl _ _ rfl w.heap.size .i64 .i64 _ _ 129 rfl rfl rfl rfl (by omega) (by unfold maxLen; omega) (Nat.le_refl _) bc false rfl ?_);intro w2 hown2 hgrow2;have HO := lh hown2;have HB : Hid (Below w.heap.size w w2) := (Below.refl _ _).grown hgrow2 (Nat.le_refl _) (by simp);clear hown2 hgrow2;go_wp2;go_ret;exact ⟨_, rfl, HO.o, HB.o⟩
def setB (f : Nat -> Bool) : Nat -> St
 | 0 => St.zero
 | k + 1 => if f (k + 1) then (setB f k).add ((k : Int) + 1) else setB f k
theorem zi7 (f : Nat -> Bool) : ∀ k, (setB f k).ok
 | 0 => St.zero_ok
 | k + 1 => by unfold setB; split; exact St.add_ok (zi7 f k) _; exact zi7 f k
theorem zld (f : Nat -> Bool) : ∀ (k : Nat) (v : Int), k <= 128 -> (setB f k).mem v = (decide (1 <= v) && (decide (v <= k) && f v.toNat))
 | 0, v, _ => by
   rw [setB, St.mem_zero]
   by_cases h : 1 <= v
   ·rw [decide_eq_false (show ¬ v <= ((0 : Nat) : Int) by omega)]; simp
   rw [decide_eq_false h]; simp
 | k + 1, v, hk => by
   have ih := zld f k v (by omega)
   by_cases e : v = (k : Int) + 1
   ·have e2 : v.toNat = k + 1 := by omega
    rw [decide_eq_true (show 1 <= v by omega), decide_eq_true (show v <= ((k + 1 : Nat) : Int) by omega), e2];rw [decide_eq_false (show ¬ v <= (k : Int) by omega)] at ih
    show (if f (k + 1) then (setB f k).add ((k : Int) + 1) else setB f k).mem v = _
    cases hf : f (k + 1) with
    | false => simp only [Bool.false_eq_true, if_false]; rw [ih]; simp
    | true => simp only [if_true]; rw [St.mem_add, e, decide_eq_true (show (1 : Int) <= (k : Int) + 1 by omega), decide_eq_true (show (k : Int) + 1 <= 128 by omega)]; simp
   have e3 : decide (v <= ((k + 1 : Nat) : Int)) = decide (v <= (k : Int)) := by rw [Bool.eq_iff_iff, decide_eq_true_iff, decide_eq_true_iff]; omega
   rw [e3, <- ih]
   show (if f (k + 1) then (setB f k).add ((k : Int) + 1) else setB f k).mem v = _
   split
   ·rw [St.mem_add, decide_eq_false e]; simp
   rfl
theorem zvh {a k : Nat} (ha : a < U64) (hk : k < 64) : bits .or .u64 (a : Int) (IntKind.u64.wrap ((2 : Int) ^ k)) = ((a ||| 2 ^ k : Nat) : Int) := by
 rw [zhn hk]; exact or64 ha (zcc hk)
theorem zi6 (f : Nat -> Bool) {v : Int} (h1 : 1 <= v) : setB f v.toNat = if f v.toNat then (setB f (v.toNat - 1)).add v else setB f (v.toNat - 1) := by
 obtain ⟨k, rfl⟩ : ∃ k : Nat, v = (k : Int) + 1 := ⟨(v - 1).toNat, by omega⟩
 rw [show ((k : Int) + 1).toNat = k + 1 by omega]; rfl
theorem zo3 (f : Nat -> Bool) (g : Nat) (w : World) (h : ∀ j, j < 129 -> w.cell? ⟨g, j, none⟩ = some (.bool (f j))) :
 Calls Tryz.prog 55 #[.slice (some ⟨g, 0, none⟩) 129 129] w fun e w' => e = .returned (stv (setB f 128)) /\ Below w.heap.size w w' := by
 have HC := lh h;have HB0 : Hid (Below w.heap.size w ((w.alloc (.cells (sts St.zero) 56)).alloc (.cells (sts St.zero) 56))) := ((Below.refl _ _).alloc (Nat.le_refl _) _).alloc (by simp) _;clear h;go_enter Tryz.func55, Tryz.ntmps55;go_wp2
 go_loopw [4] (fun i wr => ∃ v : Int, 1 <= v /\ v <= 129 /\ i = .int .i64 v /\ Blk wr (w.heap.size + 1) (sts (setB f (v.toNat - 1))) 56 /\ Blk wr w.heap.size (sts St.zero) 56 /\ Below w.heap.size w wr) (fun i _ => 129 - (intOf i).toNat)
 case atStart => exact ⟨1, by omega, by omega, rfl, Blk.new' (w.alloc _) (by simp) (sts St.zero) 56, (Blk.new w _ _).alloc _, HB0.o⟩
 obtain ⟨v, hv1, hv2, rfl, hs, hz, hbel⟩ := hrel;obtain ⟨c0, c1, f0, f1⟩ := hs.sc;obtain ⟨d0, d1, g0, g1⟩ := hz.sc;have HS := lh hs;have HZ := lh hz;have HB := lh hbel;have HOK := lh (zi7 f (v.toNat - 1));have hzz : w.heap.size + 1 < wr.heap.size := hs.lt;clear hs hz hbel
 by_cases hlt : v < 129
 ·have hc := zaa HB.o (HC.o v.toNat (by omega));have HSB := lh (zi6 f hv1);generalize setB f (v.toNat - 1) = s at *
  cases hf : f v.toNat with
  | false =>
    rw [hf] at hc;rw [hf, if_neg (by simp)] at HSB;clear hf;go_wp2;go_roundw
    case rel => exact ⟨v + 1, by omega, by omega, rfl, by rw [show (v + 1).toNat - 1 = v.toNat by omega, HSB.o]; exact HS.o, HZ.o, HB.o⟩
    case measure => simp [intOf]; omega
  | true =>
    rw [hf] at hc;rw [hf, if_pos rfl] at HSB;clear hf
    by_cases h64 : v <= 64
    ·have e1 : (v - 1) / 64 = 0 := by omega
     have e2 : (v - 1) % 64 = v - 1 := by omega
     obtain ⟨A, hA⟩ : ∃ A : Nat, A = s.a ||| 2 ^ (v.toNat - 1) := ⟨_, rfl⟩
     have HR : Hid (s.add v = ⟨A, s.b⟩) := by
      show _ = _; unfold St.add; rw [if_pos (by omega), show (v - 1).toNat = v.toNat - 1 by omega, hA]
     have hw : bits .or .u64 (s.a : Int) (IntKind.u64.wrap ((2 : Int) ^ (v.toNat - 1))) = (A : Int) := by rw [hA]; exact zvh HOK.o.1 (by omega)
     clear hA;go_wp2;go_roundw
     case rel => exact ⟨v + 1, by omega, by omega, rfl, by rw [show (v + 1).toNat - 1 = v.toNat by omega, HSB.o, HR.o]; exact HS.o.set 0 _, HZ.o.other _ _ (by simp), HB.o.setCell (by simp) _⟩
     case measure => simp [intOf]; omega
    have e1 : (v - 1) / 64 = 1 := by omega
    have e2 : (v - 1) % 64 = v - 65 := by omega
    have hv65 : 65 <= v := by omega
    obtain ⟨A, hA⟩ : ∃ A : Nat, A = s.b ||| 2 ^ (v - 65).toNat := ⟨_, rfl⟩
    have HR : Hid (s.add v = ⟨s.a, A⟩) := by
     show _ = _; unfold St.add; rw [if_neg (by omega), if_pos (by omega), hA]
    have hw : bits .or .u64 (s.b : Int) (IntKind.u64.wrap ((2 : Int) ^ (v - 65).toNat)) = (A : Int) := by rw [hA]; exact zvh HOK.o.2 (by omega)
    clear hA;go_wp2;go_roundw
    case rel => exact ⟨v + 1, by omega, by omega, rfl, by rw [show (v + 1).toNat - 1 = v.toNat by omega, HSB.o, HR.o]; exact HS.o.set 1 _, HZ.o.other _ _ (by simp), HB.o.setCell (by simp) _⟩
    case measure => simp [intOf]; omega
 have : v = 129 := by omega
 subst this;have HE : Hid (setB f ((129 : Int).toNat - 1) = setB f 128) := rfl;go_wp2;exact bodyPost_ret (v := stv (setB f 128)) (by simp [results, Tryz.results55, go_sem, d0, d1]) rfl ⟨rfl, (HB.o.setCell (Nat.le_refl _) _).setCell (Nat.le_refl _) _⟩
def bl (ys : List Int) : List Bool := (List.range 129).map fun j : Nat => decide (1 <= j) && ys.contains (j : Int)
def ofB (ys : List Int) : St := setB (fun j : Nat => decide (1 <= j) && ys.contains (j : Int)) 128
theorem zgv (ys : List Int) : (bl ys).length = 129 := by unfold bl; rw [List.length_map, List.length_range]
theorem zlo (ys : List Int) (j : Nat) (h : j < (bl ys).length) : (bl ys)[j] = (decide (1 <= j) && ys.contains (j : Int)) := by
 simp only [bl, List.getElem_map, List.getElem_range]
theorem zw4 : bl [] = List.replicate 129 false := by
 apply List.ext_getElem
 ·rw [zgv, List.length_replicate]
 intro i h1 h2; rw [zlo, List.getElem_replicate]; simp
theorem zfp (ys : List Int) (y v : Int) : (ys ++ [y]).contains v = (ys.contains v || decide (v = y)) := by
 rw [Bool.eq_iff_iff]; simp
theorem zvw (ys : List Int) (y : Int) : bl (ys ++ [y]) = if 1 <= y /\ y <= 128 then (bl ys).set y.toNat true else bl ys := by
 apply List.ext_getElem
 ·split
  ·rw [zgv, List.length_set, zgv]
  rw [zgv, zgv]
 intro i h1 h2
 have hi : i < 129 := by rw [zgv] at h1; exact h1
 rw [zlo, zfp]
 by_cases h : 1 <= y /\ y <= 128
 ·simp only [if_pos h, List.getElem_set]
  by_cases e : y.toNat = i
  ·rw [if_pos e, decide_eq_true (show (i : Int) = y by omega), decide_eq_true (show 1 <= i by omega)]; simp
  rw [if_neg e, decide_eq_false (show ¬ (i : Int) = y by omega), zlo]; simp
 simp only [if_neg h];rw [zlo]
 by_cases e : (i : Int) = y
 ·have : i = 0 := by omega
  subst this; simp
 rw [decide_eq_false e]; simp
theorem zru (ys : List Int) (v : Int) : (ofB ys).mem v = (decide (1 <= v) && (decide (v <= 128) && ys.contains v)) := by
 unfold ofB;rw [zld _ _ _ (Nat.le_refl _)]
 by_cases h : 1 <= v
 ·rw [decide_eq_true h, decide_eq_true (show 1 <= v.toNat by omega), show ((v.toNat : Nat) : Int) = v by omega]; simp
 rw [decide_eq_false h]; rfl
theorem zvf (ys : List Int) : (ofB ys).ok := zi7 _ _
theorem zrt (b : Option Addr) (cap2 : Nat) (xs : List Int) (w : World) (hxs : IntCells w b xs) (hxl : xs.length <= 1073741824) :
 Calls Tryz.prog 100 #[.slice b xs.length cap2] w fun e w' => e = .returned (stv (ofB xs)) /\ Below w.heap.size w w' := by
 have hb0 := (Below.refl w.heap.size w).alloc (Nat.le_refl _) (.cells #[.int .u64 0, .int .u64 0] 56);have HB0 := lh hb0;have q0 := lh (Blk.new w #[.int .u64 0, .int .u64 0] 56);have HXS := lh hxs
 have HZ0 : Hid ((w.alloc (.cells #[.int .u64 0, .int .u64 0] 56)).heap.size = w.heap.size + 1) := by show _ = _; simp
 clear hb0 hxs;go_enter Tryz.func100, Tryz.ntmps100;go_wp2_with fail;refine (zmr _).mono ?_;rintro e w1 ⟨g, rfl, hown1, hb1⟩;have HO1 := lh hown1;rw [HZ0.o] at HO1
 have HB1 : Hid (Below (w.heap.size + 1) (w.alloc (.cells #[.int .u64 0, .int .u64 0] 56)) w1) := by have h := hb1; rw [HZ0.o] at h; exact h
 clear hown1 hb1;go_wp2
 go_loopw [4] (fun i wr => ∃ k : Nat, k <= xs.length /\ i = .int .i64 k /\ OwnL bc 4 1 wr (w.heap.size + 1) (.slice (some ⟨g, 0, none⟩) 129 129) (bl (xs.take k)) /\ Below (w.heap.size + 1) (w.alloc (.cells #[.int .u64 0, .int .u64 0] 56)) wr) (fun i _ => xs.length - (intOf i).toNat)
 case atStart => exact ⟨0, Nat.zero_le _, rfl, by rw [List.take_zero, zw4]; exact HO1.o, HB1.o⟩
 obtain ⟨k, hk, rfl, hown, hb⟩ := hrel;have HO := lh hown;have HB := lh hb;have HBA := lh (HB0.o.trans (hb.mono (by omega)));have R := lh (q0.out.laterB hb (by omega));have HG := lh hown.lt;clear hown hb
 by_cases hlt : k < xs.length
 ·obtain ⟨b2, off2, rfl, c0⟩ := (HXS.o.keep HBA.o) k hlt;have HBL := lh (zvw (xs.take k) xs[k]);rw [<- List.take_succ_eq_append_getElem hlt] at HBL
  have hgd : xs.getD k 0 = xs[k] := by simp [List.getD_eq_getElem?_getD, hlt]
  rw [hgd] at c0;generalize xs[k] = x at *
  have HLN : Hid (129 = (bl (xs.take k)).length) := by show _ = _; rw [zgv]
  have hki : (k : Int) < (xs.length : Int) := by omega
  have hk0 : (0 : Int) <= (k : Int) := by omega
  clear hgd
  by_cases h1 : 1 <= x
  ·have d1 : decide (1 <= x) = true := by simpa using h1
   by_cases h2 : x <= 128
   ·have d2 : decide (x <= 128) = true := by simpa using h2
    have h3 : x < 129 := by omega
    have h0 : 0 <= x := by omega
    have fr := HO.o.fr HLN.o x.toNat
    have HS : Hid (OwnL bc 4 1 (wr.setCell ⟨g, x.toNat, none⟩ (.bool true)) (w.heap.size + 1) (.slice (some ⟨g, 0, none⟩) 129 129) (bl (xs.take (k + 1)))) := by
     rw [HBL.o, if_pos ⟨h1, h2⟩];exact HO.o.put1 HLN.o zht x.toNat (by rw [<- HLN.o]; omega) true (.bool true) rfl
    have cg : ∃ u, wr.cell? ⟨g, x.toNat, none⟩ = some u := ⟨_, by have h := HO.o.cell HLN.o zht x.toNat 0 (by rw [<- HLN.o]; omega) (by omega); rw [Nat.mul_one, Nat.add_zero] at h; rw [h]; rfl⟩
    obtain ⟨u, hu⟩ := cg;clear h1;go_wp2;go_roundw
    case rel => exact ⟨k + 1, by omega, by go_num, HS.o, HB.o.setCell (by dsimp only; exact HG.o.2) _⟩
    case measure => simp [intOf]; omega
   have d2 : decide (x <= 128) = false := by simpa using h2
   rw [if_neg (fun h => h2 h.2)] at HBL;clear h1 h2;go_wp2;go_roundw
   case rel => exact ⟨k + 1, by omega, by go_num, by rw [HBL.o]; exact HO.o, HB.o⟩
   case measure => simp [intOf]; omega
  have d1 : decide (1 <= x) = false := by simpa using h1
  rw [if_neg (fun h => h1 h.1)] at HBL;clear h1;go_wp2;go_roundw
  case rel => exact ⟨k + 1, by omega, by go_num, by rw [HBL.o]; exact HO.o, HB.o⟩
  case measure => simp [intOf]; omega
 have : k = xs.length := by omega
 subst this;rw [List.take_length] at HO
 have HLN : Hid (129 = (bl xs).length) := by show _ = _; rw [zgv]
 have HST := lh (zo3 (fun j => decide (1 <= j) && xs.contains (j : Int)) g wr (fun j hj => by
  have h := HO.o.cell HLN.o zht j 0 (by rw [<- HLN.o]; exact hj) (by omega);rw [Nat.mul_one, Nat.add_zero, zlo] at h
  exact h))
 go_wp2_with fail;refine HST.o.mono ?_;rintro e w2 ⟨rfl, hb2⟩;have R2 := R.o.later hb2;have HB2 := lh (HBA.o.trans (hb2.mono HBA.o.size));have f0 := R2.fr 0;have f1 := R2.fr 1;have j0 : w2.cell? ⟨w.heap.size, 0, none⟩ = some (.int .u64 0) := R2.cell 0;have j1 : w2.cell? ⟨w.heap.size, 1, none⟩ = some (.int .u64 0) := R2.cell 1;have hz : w.heap.size < w2.heap.size := R2.lt;clear hb2;have HE : Hid (setB (fun j => decide (1 <= j) && xs.contains (j : Int)) 128 = ofB xs) := rfl
 obtain ⟨d, hd⟩ : ∃ d, d = ofB xs := ⟨_, rfl⟩
 rw [HE.o, <- hd];have HD := lh hd;clear hd;go_wp2;have hbr := (R2.set 0 (.int .u64 (d.a : Int))).set 1 (.int .u64 (d.b : Int));have e0 : ((w2.setCell ⟨w.heap.size, 0, none⟩ (.int .u64 (d.a : Int))).setCell ⟨w.heap.size, 1, none⟩ (.int .u64 (d.b : Int))).cell? ⟨w.heap.size, 0, none⟩ = some (.int .u64 (d.a : Int)) := hbr.cell 0;have e1 : ((w2.setCell ⟨w.heap.size, 0, none⟩ (.int .u64 (d.a : Int))).setCell ⟨w.heap.size, 1, none⟩ (.int .u64 (d.b : Int))).cell? ⟨w.heap.size, 1, none⟩ = some (.int .u64 (d.b : Int)) := hbr.cell 1;exact bodyPost_ret (v := stv d) (by simp [results, Tryz.results100, go_sem, e0, e1]) rfl ⟨by rw [HD.o], (HB2.o.setCell (Nat.le_refl _) _).setCell (Nat.le_refl _) _⟩
end Go.Proofs.YtfmmhjphopikgaaGreatDoor
