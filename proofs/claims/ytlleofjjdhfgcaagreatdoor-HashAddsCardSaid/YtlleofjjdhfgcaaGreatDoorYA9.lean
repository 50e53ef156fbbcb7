/- Parts of the proofs of laws. Texts: RedS, Cex, Sat, SumP, Bld, InAdd, Sort, NetOf, CpO. -/
import Derived.Test.YtlleofjjdhfgcaaGreatDoorYA8
import Derived.Test.YtlleofjjdhfgcaaGreatDoorYA4
import Derived.StillTailTactics
import Derived.Sort.OwnSortedInts
set_option maxHeartbeats 8000000
set_option maxRecDepth 100000
set_option linter.all false
namespace Cen
theorem zb7 {l : List Int} (h : l.Nodup) {b : Nat} (hb : ∀ i ∈ l, 0 <= i /\ i < (b : Int)) : l.length <= b := by
 induction b generalizing l with
 | zero =>
   match l with
   | [] => simp
   | x :: l => have := hb x (by simp); omega
 | succ b ih =>
   have h2 := ih (l := l.filter fun x => decide (x ≠ (b : Int))) (h.filter _) (by
    intro i hi;simp only [List.mem_filter, decide_eq_true_eq] at hi;have := hb i hi.1
    omega)
   have h3 : l.length <= (l.filter fun x => decide (x ≠ (b : Int))).length + 1 := by
    clear h2 ih hb
    induction l with
    | nil => simp
    | cons x l ih =>
      rw [List.nodup_cons] at h
      by_cases e : x = (b : Int)
      ·have : (l.filter fun x => decide (x ≠ (b : Int))) = l := by
        rw [List.filter_eq_self];intro a ha;simp only [decide_eq_true_eq];intro e2; exact h.1 (by rw [e, <- e2]; exact ha)
       rw [List.filter_cons_of_neg (by simp [e]), this]; simp
      rw [List.filter_cons_of_pos (by simp [e])];have := ih h.2;simp only [List.length_cons]; omega
   omega
theorem zi2 {x : Nd} {n b : Int} (h : ndOk x n b = true) : x.kind = 0 \/ x.kind = 1 \/ x.kind = 2 \/ x.kind = 3 \/ x.kind = 4 := by
 simp only [ndOk, Bool.and_eq_true] at h;have h2 := h.2;unfold zch at h2
 by_cases h0 : x.kind = 0 \/ x.kind = 1
 ·omega
 rw [if_neg h0] at h2
 by_cases h1 : x.kind = 2
 ·omega
 rw [if_neg h1] at h2
 by_cases h3 : x.kind = 3 \/ x.kind = 4
 ·omega
 rw [if_neg h3] at h2; simp at h2
theorem zq9 (vs : List St) (v : Int) (ins : List Int) : ∀ s : St, (insU vs s ins).mem v = (s.mem v || ins.any fun k => (vs.getD k.toNat St.zero).mem v) := by
 induction ins with
 | nil => intro s; simp [insU]
 | cons k ins ih =>
   intro s;have e : insU vs s (k :: ins) = insU vs (s.union (vs.getD k.toNat St.zero)) ins := rfl;rw [e, ih, St.mem_union, List.any_cons, Bool.or_assoc]
def vm (l : List Nd) (i : Int) : St := (zau l).getD i.toNat St.zero
theorem zfk (l : List Nd) : ∀ vs : List St, ∃ us, zcn l vs = vs ++ us := by
 induction l with
 | nil => intro vs; exact ⟨[], by simp [zcn]⟩
 | cons x l ih =>
   intro vs;obtain ⟨us, h⟩ := ih (vs ++ [insU vs (ofL [zac x.lit]) x.ins]);exact ⟨insU vs (ofL [zac x.lit]) x.ins :: us, by simp [zcn, h]⟩
theorem zow (l r : List Nd) (i : Int) (h : i < l.length) (h0 : 0 <= i) : vm (l ++ r) i = vm l i := by
 obtain ⟨us, hu⟩ := zfk r (zau l);unfold vm
 have e : zau (l ++ r) = zau l ++ us := by rw [<- hu]; exact zdu l r []
 rw [e]
 have : i.toNat < (zau l).length := by rw [zba]; omega
 simp only [List.getD_eq_getElem?_getD, List.getElem?_append_left this]
theorem ybx (l : List Nd) (x : Nd) : vm (l ++ [x]) l.length = insU (zau l) (ofL [zac x.lit]) x.ins := by
 unfold vm;rw [zhh];have := zba l;simp only [List.getD_eq_getElem?_getD];rw [List.getElem?_append_right (by omega)]
 simp [this]
theorem zlq {l : List Nd} {n : Int} (hL : zds l n l.length) {i : Int} (h0 : 0 <= i) (h1 : i < l.length) (v : Int) :
 (vm l i).mem v = ((ofL [zac (nd l i).lit]).mem v || (nd l i).ins.any fun k => (vm l k).mem v) := by
 have hi : i.toNat < l.length := by omega
 have e1 : l = l.take i.toNat ++ [l[i.toNat]] ++ l.drop (i.toNat + 1) := by
  rw [List.append_assoc]; simp
 have e2 : nd l i = l[i.toNat] := zvg h0 h1
 have hlen : (l.take i.toNat).length = i.toNat := by simp; omega
 have h2 : vm l i = vm (l.take i.toNat ++ [l[i.toNat]]) i := by
  conv => lhs; rw [e1]
  exact zow _ _ i (by simp; omega) h0
 have h3 : vm (l.take i.toNat ++ [l[i.toNat]]) i = insU (zau (l.take i.toNat)) (ofL [zac l[i.toNat].lit]) l[i.toNat].ins := by
  have := ybx (l.take i.toNat) l[i.toNat];rw [hlen, show ((i.toNat : Nat) : Int) = i by omega] at this; exact this
 rw [h2, h3, zq9, e2]
 congr 1
 have hins := zd9 (zoa hL h0 h1);rw [e2] at hins;rw [Bool.eq_iff_iff, List.any_eq_true, List.any_eq_true]
 have key : ∀ k ∈ l[i.toNat].ins, vm l k = (zau (l.take i.toNat)).getD k.toNat St.zero := fun k hk => by
  obtain ⟨a, b⟩ := hins k hk;have : vm (l.take i.toNat ++ l.drop i.toNat) k = vm (l.take i.toNat) k := zow _ _ k (by rw [hlen]; omega) a;rw [List.take_append_drop] at this;exact this
 exact ⟨fun ⟨k, hk, h⟩ => ⟨k, hk, by rw [key k hk]; exact h⟩, fun ⟨k, hk, h⟩ => ⟨k, hk, by rw [<- key k hk]; exact h⟩⟩
theorem zmq (x v : Int) : (ofL [x]).mem v = (decide (v = x) && decide (1 <= x) && decide (x <= 128)) := by
 show (St.zero.add x).mem v = _
 rw [St.mem_add, St.mem_zero]; simp
theorem yb9 {l : List Nd} {n : Int} (hL : zds l n l.length) {s s' : Int -> Bool} : ∀ (k : Nat) (i : Int), i.toNat = k -> 0 <= i -> i < l.length -> (∀ v, (vm l i).mem v = true -> s v = s' v) -> T s l i = T s' l i := by
 intro k
 induction k using Nat.strongRecOn with
 | _ k ih =>
   intro i hk h0 h1 h;have hins := zd9 (zoa hL h0 h1);rw [T_nd s hL h0 h1, T_nd s' hL h0 h1]
   have h3 : evNd s (T s l) (nd l i) = evNd s (T s' l) (nd l i) := by
    apply zky
    intro j hj;obtain ⟨a, b⟩ := hins j hj
    refine ih j.toNat (by omega) j rfl a (by omega) fun v hv => h v ?_
    rw [zlq hL h0 h1, Bool.or_eq_true];exact .inr (List.any_eq_true.2 ⟨j, hj, hv⟩)
   rw [h3];unfold evNd
   by_cases h2 : (nd l i).kind = 2
   ·have h1k : ¬ (nd l i).kind = 1 := by omega
    rw [if_neg h1k, if_neg h1k, if_pos h2, if_pos h2];have hv := (zmp (zoa hL h0 h1) h2).1;have hp := litVar_pos' hv;unfold zcj;rw [h (zac (nd l i).lit) (by rw [zlq hL h0 h1, zmq]; simp; left; omega)]
   rw [if_neg h2, if_neg h2]
where
 litVar_pos' {l : Int} (h : zac l ≠ 0) : 1 <= zac l /\ zac l <= 128 := by rcases zes h with h | h <;> omega
theorem zc6 (l : List Nd) (k : Nat) : ((zau l).getD k St.zero).ok := by
 by_cases hk : k < (zau l).length
 ·simp only [List.getD_eq_getElem?_getD, List.getElem?_eq_getElem hk]; exact zfe l _ (List.getElem_mem hk)
 simp only [List.getD_eq_getElem?_getD, List.getElem?_eq_none (Nat.le_of_not_lt hk)]; exact St.zero_ok
def setV (s : Int -> Bool) (v : Int) (b : Bool) : Int -> Bool := fun u => if u = v then b else s u
def cnt (f : (Int -> Bool) -> Bool) : Nat -> (Int -> Bool) -> Nat
 | 0, s => if f s = true then 1 else 0
 | n + 1, s => cnt f n (setV s ((n : Int) + 1) false) + cnt f n (setV s ((n : Int) + 1) true)
def zok (n : Nat) (s s' : Int -> Bool) : Prop := ∀ u : Int, u < 1 \/ (n : Int) < u -> s' u = s u
theorem zc9 {n : Nat} {s s' : Int -> Bool} {b : Bool} (h : zok n (setV s ((n : Int) + 1) b) s') : zok (n + 1) s s' := by
 intro u hu;rw [h u (by omega)];unfold setV; rw [if_neg (by omega)]
theorem zrr {n : Nat} {s s' : Int -> Bool} (h : zok (n + 1) s s') : zok n (setV s ((n : Int) + 1) (s' ((n : Int) + 1))) s' := by
 intro u hu;unfold setV
 by_cases e : u = (n : Int) + 1
 ·rw [if_pos e, e]
 rw [if_neg e]; exact h u (by omega)
theorem zag {f g : (Int -> Bool) -> Bool} : ∀ (n : Nat) (s : Int -> Bool), (∀ s', zok n s s' -> f s' = g s') -> cnt f n s = cnt g n s
 | 0, s, h => by
   unfold cnt; rw [h s fun _ _ => rfl]
 | n + 1, s, h => by
   unfold cnt;rw [zag n _ fun s' hs => h s' (zc9 hs), zag n _ fun s' hs => h s' (zc9 hs)]
theorem zfh (f : (Int -> Bool) -> Bool) : ∀ (n : Nat) (s : Int -> Bool), cnt f n s <= 2 ^ n
 | 0, s => by unfold cnt; split <;> simp
 | n + 1, s => by
   unfold cnt;have h1 := zfh f n (setV s ((n : Int) + 1) false);have h2 := zfh f n (setV s ((n : Int) + 1) true);rw [Nat.pow_succ]; omega
theorem zpc (f : (Int -> Bool) -> Bool) : ∀ (n : Nat) (s : Int -> Bool), 0 < cnt f n s ↔ ∃ s', zok n s s' /\ f s' = true
 | 0, s => by
   unfold cnt
   constructor
   ·intro h
    by_cases e : f s = true
    ·exact ⟨s, fun _ _ => rfl, e⟩
    rw [if_neg e] at h; omega
   rintro ⟨s', h1, h2⟩
   have : s' = s := funext fun u => h1 u (by omega)
   rw [this] at h2;rw [if_pos h2]; omega
 | n + 1, s => by
   unfold cnt;have h1 := zpc f n (setV s ((n : Int) + 1) false);have h2 := zpc f n (setV s ((n : Int) + 1) true)
   constructor
   ·intro h
    by_cases e : 0 < cnt f n (setV s ((n : Int) + 1) false)
    ·obtain ⟨s', a, b⟩ := h1.1 e;exact ⟨s', zc9 a, b⟩
    obtain ⟨s', a, b⟩ := h2.1 (by omega);exact ⟨s', zc9 a, b⟩
   rintro ⟨s', a, b⟩;have c := zrr a
   cases hb : s' ((n : Int) + 1) with
   | false => rw [hb] at c; have := h1.2 ⟨s', c, b⟩; omega
   | true => rw [hb] at c; have := h2.2 ⟨s', c, b⟩; omega
theorem zl5 (f : (Int -> Bool) -> Bool) : ∀ (n : Nat) (s : Int -> Bool), cnt f n s = 2 ^ n ↔ ∀ s', zok n s s' -> f s' = true
 | 0, s => by
   unfold cnt
   constructor
   ·intro h s' hs
    have : s' = s := funext fun u => hs u (by omega)
    rw [this]
    by_cases e : f s = true
    ·exact e
    rw [if_neg e] at h; simp at h
   intro h;rw [if_pos (h s fun _ _ => rfl)]
 | n + 1, s => by
   unfold cnt;have h1 := zl5 f n (setV s ((n : Int) + 1) false);have h2 := zl5 f n (setV s ((n : Int) + 1) true);have l1 := zfh f n (setV s ((n : Int) + 1) false);have l2 := zfh f n (setV s ((n : Int) + 1) true);rw [Nat.pow_succ]
   constructor
   ·intro h s' hs;have c := zrr hs
    cases hb : s' ((n : Int) + 1) with
    | false => rw [hb] at c; exact h1.1 (by omega) s' c
    | true => rw [hb] at c; exact h2.1 (by omega) s' c
   intro h
   have a := h1.2 fun s' hs => h s' (zc9 hs)
   have b := h2.2 fun s' hs => h s' (zc9 hs)
   omega
theorem zl6 (n : Nat) (s : Int -> Bool) : cnt (fun _ => true) n s = 2 ^ n := (zl5 _ n s).2 fun _ _ => rfl
theorem zem (n : Nat) (s : Int -> Bool) : cnt (fun _ => false) n s = 0 := by
 rcases Nat.eq_zero_or_pos (cnt (fun _ => false) n s) with h | h
 ·exact h
 obtain ⟨_, _, h⟩ := (zpc _ n s).1 h;simp at h
theorem ziv {f g : (Int -> Bool) -> Bool} : ∀ (n : Nat) (s : Int -> Bool), (∀ s', ¬ (f s' = true /\ g s' = true)) -> cnt (fun s => f s || g s) n s = cnt f n s + cnt g n s
 | 0, s, h => by
   unfold cnt;have := h s
   cases hf : f s <;> cases hg : g s <;> simp_all
 | n + 1, s, h => by
   unfold cnt;rw [ziv n _ h, ziv n _ h]; omega
def dep (f : (Int -> Bool) -> Bool) (A : Int -> Bool) : Prop := ∀ s s' : Int -> Bool, (∀ v, A v = true -> s v = s' v) -> f s = f s'
theorem zpa {f : (Int -> Bool) -> Bool} {A : Int -> Bool} (h : dep f A) : ∀ (n : Nat) (s s' : Int -> Bool), (∀ v, A v = true -> s v = s' v) -> cnt f n s = cnt f n s'
 | 0, s, s', hs => by unfold cnt; rw [h s s' hs]
 | n + 1, s, s', hs => by
   unfold cnt
   have key : ∀ b, ∀ v, A v = true -> setV s ((n : Int) + 1) b v = setV s' ((n : Int) + 1) b v := fun b v hv => by
    unfold setV; split
    ·rfl
    exact hs v hv
   rw [zpa h n _ _ (key false), zpa h n _ _ (key true)]
theorem zpb {f : (Int -> Bool) -> Bool} {A : Int -> Bool} (h : dep f A) {n : Nat} {s : Int -> Bool} {v : Int} (hv : A v = false) (b c : Bool) : cnt f n (setV s v b) = cnt f n (setV s v c) := by
 refine zpa h n _ _ fun u hu => ?_
 unfold setV
 by_cases e : u = v
 ·rw [e, hv] at hu; simp at hu
 rw [if_neg e, if_neg e]
theorem zo8 {f g : (Int -> Bool) -> Bool} {A B : Int -> Bool} (hf : dep f A) (hg : dep g B) (hd : ∀ v, ¬ (A v = true /\ B v = true)) : ∀ (n : Nat) (s : Int -> Bool), cnt (fun s => f s && g s) n s * 2 ^ n = cnt f n s * cnt g n s
 | 0, s => by
   unfold cnt
   cases hf : f s <;> cases hg : g s <;> simp_all
 | n + 1, s => by
   unfold cnt;have h0 := zo8 hf hg hd n (setV s ((n : Int) + 1) false);have h1 := zo8 hf hg hd n (setV s ((n : Int) + 1) true);rw [Nat.pow_succ]
   cases hA : A ((n : Int) + 1) with
   | false =>
     have e := zpb hf (n := n) (s := s) hA true false;rw [e] at h1 ⊢;generalize cnt f n (setV s ((n : Int) + 1) false) = a at *;generalize cnt g n (setV s ((n : Int) + 1) false) = x at *;generalize cnt g n (setV s ((n : Int) + 1) true) = y at *;rw [<- Nat.mul_assoc, Nat.add_mul, h0, h1, <- Nat.mul_add, show a + a = a * 2 by omega, Nat.mul_assoc, Nat.mul_assoc, Nat.mul_comm (x + y) 2]
   | true =>
     have hB : B ((n : Int) + 1) = false := by
      cases hB : B ((n : Int) + 1) with
      | false => rfl
      | true => exact absurd ⟨hA, hB⟩ (hd _)
     have e := zpb hg (n := n) (s := s) hB true false;rw [e] at h1 ⊢;generalize cnt g n (setV s ((n : Int) + 1) false) = b at *;generalize cnt f n (setV s ((n : Int) + 1) false) = x at *;generalize cnt f n (setV s ((n : Int) + 1) true) = y at *;rw [<- Nat.mul_assoc, Nat.add_mul, h0, h1, <- Nat.add_mul, show b + b = b * 2 by omega, Nat.mul_assoc]
theorem zpd (b : Bool) {v : Int} (h1 : 1 <= v) : ∀ (n : Nat) (s : Int -> Bool), v <= n -> cnt (fun s => s v == b) n s * 2 = 2 ^ n
 | 0, s, h => by omega
 | n + 1, s, h => by
   unfold cnt
   by_cases e : v = (n : Int) + 1
   ·have key : ∀ c : Bool, cnt (fun s => s v == b) n (setV s ((n : Int) + 1) c) = if c = b then 2 ^ n else 0 := fun c => by
     rw [zag (g := fun _ => c == b) n _ fun s' hs => by
      have := hs v (by omega)
      simp only [this, setV, if_pos e]]
     by_cases hc : c = b
     ·rw [if_pos hc, show (fun _ : Int -> Bool => c == b) = fun _ => true by funext _; simp [hc]]; exact zl6 n _
     rw [if_neg hc, show (fun _ : Int -> Bool => c == b) = fun _ => false by funext _; simp [hc]]; exact zem n _
    rw [key, key, Nat.pow_succ]
    cases b <;> simp
   have i1 := zpd b h1 n (setV s ((n : Int) + 1) false) (by omega);have i2 := zpd b h1 n (setV s ((n : Int) + 1) true) (by omega);rw [Nat.pow_succ]; omega
def card (s : St) : Nat := (List.range 128).countP fun (j : Nat) => s.mem ((j : Int) + 1)
theorem ziy {p q : Nat -> Bool} (h : ∀ j, ¬ (p j = true /\ q j = true)) (l : List Nat) : l.countP (fun j => p j || q j) = l.countP p + l.countP q := by
 induction l with
 | nil => rfl
 | cons x l ih =>
   simp only [List.countP_cons, ih];have := h x
   cases hp : p x <;> cases hq : q x <;> simp_all <;> omega
theorem zks {s t : St} (h : ∀ v, ¬ (s.mem v = true /\ t.mem v = true)) : card (s.union t) = card s + card t := by
 unfold card;rw [<- ziy (fun j => h _)]
 congr 1
 funext j
 rw [St.mem_union]
theorem zo3 {s : St} {n : Nat} (hn : n <= 128) (h : ∀ v : Int, 1 <= v -> s.mem v = true -> v <= n) : card s <= n := by
 unfold card
 have e : List.range 128 = List.range n ++ (List.range (128 - n)).map (n + ·) := by
  rw [<- List.range_add]; congr 1; omega
 rw [e, List.countP_append]
 have h1 : (List.range n).countP (fun (j : Nat) => s.mem ((j : Int) + 1)) <= n := by
  have := List.countP_le_length (p := fun j => s.mem (((j : Nat) : Int) + 1)) (l := List.range n)
  simpa using this
 have h2 : ((List.range (128 - n)).map (n + ·)).countP (fun (j : Nat) => s.mem ((j : Int) + 1)) = 0 := by
  rw [List.countP_eq_zero];intro j hj;simp only [List.mem_map, List.mem_range] at hj;obtain ⟨i, _, rfl⟩ := hj;intro hm;have := h _ (by omega) hm;omega
 omega
def detL (l : List Nd) : Prop := ∀ (s : Int -> Bool) (i : Nat), i < l.length -> (nd l (i : Int)).kind = 4 -> (nd l (i : Int)).ins.Pairwise fun j k => ¬ (T s l j = true /\ T s l k = true)
end Cen
namespace Go.Proofs.YtlleofjjdhfgcaaGreatDoor
open Go.RowKit Cen
open Go.Maps (Keyed string_keyed int_keyed)
theorem OwnL.alloc {α : Type} {enc : α -> List Value} {e k : Nat} {w : World} {base : Nat} {v : Value} {l : List α} (h : OwnL enc e k w base v l) (o : Obj) : OwnL enc e k (w.alloc o) base v l := World.ownsRow.alloc h o
theorem OwnL.drew {α : Type} {enc : α -> List Value} {e k : Nat} {w : World} {base : Nat} {v : Value} {l : List α} (h : OwnL enc e k w base v l) : OwnL enc e k w.drew base v l := h
section
variable {P : Program} {ops : Array Oper} {o : Oper} {a : Act} {w : World} {K : Act -> World -> Prop} {Q : Exit -> Act -> World -> Prop} {EE : Prop}
theorem zd1 {α : Type} {enc : α -> List Value} {t e k bytes : Nat} {z : Value} (E : Elem t e k bytes z) (hgd : o.guard = none) (s x : Operand) (ho : o.op = .call { callee := .builtin .append, args := #[s, x], argTypes := #[t, t] })
 (base : Nat) (v : Value) (l : List α) (y : α) (hs : a.eval s = v) (hown : OwnL enc e k w base v l) (bc : Nat) (hx : a.eval x = .slice (some ⟨bc, 0, none⟩) 1 1) (hk : (enc y).length = k)
 (hnews : ∀ j u, (enc y)[j]? = some u -> w.cell? ⟨bc, j, none⟩ = some u) (h1 : ∀ u ∈ enc y, u.oneCell' = true) (hl : l.length <= 1073741824) (hby : bytes <= 1000) (hbase : base <= w.heap.size)
 (h : ∀ g cap w', OwnL enc e k w' base (.slice (some ⟨g, 0, none⟩) (l.length + 1) cap) (l ++ [y]) -> w.grownBy w' v.ownBlock -> (v.ownBlock = some g \/ g = w.heap.size) -> K (a.put o.dst (.slice (some ⟨g, 0, none⟩) (l.length + 1) cap)) w') :
 if Region.wanted o (yielded ops a.tmps) = true then Oper.wp Tryz.prog o a w K Q else EE := by
 obtain ⟨ht, i, hi, hz, hsz, hby', hzs, h0⟩ := E;refine step_append_lies w hgd s x t ho base e i z k bytes ht hi hz hsz hby' hzs h0 v l.length (l.flatMap enc) hs hown ⟨bc, 0, none⟩ 1 1 (enc y) hx (by rw [hk]; omega) ?_ h1 (by omega) (by unfold maxLen; omega) ?_ hbase w.heap.size rfl ?_
 ·intro j u hj
  have e1 : (⟨bc, 0, none⟩ : Addr).add j = ⟨bc, j, none⟩ := by
   unfold Addr.add; split
   ·rename_i hj0; rw [hj0]
   simp
  rw [e1]; exact hnews j u hj
 ·have := Nat.mul_le_mul (show l.length + 1 <= 1073741825 by omega) hby; omega
 intro g cap w' h2 h3 h4 _;exact h g cap w' (by unfold OwnL; rw [List.length_append, List.flatMap_append]; simpa using h2) h3 h4
end
theorem zcb {W w' : World} {ob : Obj} {row : Option Nat} (h : ((W.alloc ob).drew).grownBy w' row) : W.grownBy w' row :=
 ⟨h.os, h.tape, h.output, Nat.le_trans (by simp [World.drew]) h.size, fun k hk hn => (h.block k (by simp [World.drew]; omega) hn).trans (Below.heap_alloc W ob k hk)⟩
theorem ycj : Elem 80 147 3 40 (.agg #[.int .i64 0, .int .i64 0, .slice none 0 0]) := .mk Tryz.underlying80 (by kernel_rfl) rfl (by decide)
theorem OwnL.sliced {α : Type} {enc : α -> List Value} {e k : Nat} {w : World} {base : Nat} {v : Value} {l : List α} (h : OwnL enc e k w base v l) : ∃ a cap, v = .slice a l.length cap := by
 rcases h.shape with ⟨h1, h2⟩ | ⟨g, cap, h1, _⟩
 ·exact ⟨none, 0, by rw [h1, h2]; rfl⟩
 exact ⟨_, _, h1⟩
theorem zjc : Keyed Tryz.prog 9 := string_keyed Tryz.underlying9
theorem zgt (w : World) : (zeroValue 3).run Tryz.prog w = .ok (.int .i64 0) w := by kernel_rfl
theorem zjb : Keyed Tryz.prog 3 := int_keyed Tryz.underlying3
theorem OwnInts.lt {w : World} {base : Nat} {v : Value} {xs : List Int} (h : OwnInts w base v xs) : ∀ k, v.ownBlock = some k -> base <= k /\ k < w.heap.size := World.ownsRow.lt h
end Go.Proofs.YtlleofjjdhfgcaaGreatDoor
namespace Go.Proofs.YtlleofjjdhfgcaaGreatDoor
open Go.RowKit Cen
theorem zmj (w : World) : Calls Tryz.prog 168 #[.slice none 0 0, .int .i64 0, .int .i64 0] w fun e w' => e = .returned (.tuple #[]) /\ w = w' := by
 go_enter Tryz.func168, Tryz.ntmps168;go_wp2;refine wp_loop_rounds 1 ?_;rw [rounds_succ];go_wp2
 go_end0
 exact ⟨rfl, rfl⟩
theorem ybg (l : Int) (w : World) : Calls Tryz.prog 149 #[.slice none 0 0, .int .i64 0, .int .i64 0, .int .i64 l] w fun e w' => e = .returned (.tuple #[]) /\ w = w' := by
 go_enter Tryz.func149, Tryz.ntmps149;go_wp2;refine wp_loop_rounds 1 ?_;rw [rounds_succ];go_wp2_with fail;refine (zmj _).mono ?_;rintro e w1 ⟨rfl, rfl⟩;go_wp2;exact bodyPost_ret (v := .tuple #[]) (by simp [results, Tryz.results149, go_sem]) rfl ⟨rfl, rfl⟩
theorem zyp (w : World) : Calls Tryz.prog 113 #[.slice none 0 0] w fun e w' => e = .returned (.tuple #[]) /\ w = w' := by
 go_enter Tryz.func113, Tryz.ntmps113;go_wp2_with fail;refine (Tryz.bits_Len 0 w (by omega) (by omega)).mono ?_;rintro e w1 ⟨rfl, rfl⟩;go_wp2_with fail;refine (ybg _ _).mono ?_;rintro e w1 ⟨rfl, rfl⟩;go_wp2
 go_end0
 exact ⟨rfl, rfl⟩
theorem zyo (base : Nat) (v : Value) (xs : List Int) (w : World) (h : OwnInts w base v xs) (hl : xs.length <= 1073741824) :
 Calls Tryz.prog 113 #[v] w fun e w' => e = .returned (.tuple #[]) /\ OwnInts w' base v (zc4 xs) /\ w.grownBy w' v.ownBlock := by
 have hsl : (zc4 xs).length = xs.length := by unfold zc4; exact List.length_mergeSort _
 rcases h.2 with ⟨hv, h0⟩ | ⟨g, cap, cur, hv, hg, hh, hn, hm, hs, ht⟩
 ·have : xs = [] := List.eq_nil_of_length_eq_zero h0;subst this; subst hv
  refine (zyp w).mono fun e w' ⟨h1, h2⟩ => ⟨h1, ?_, ?_⟩
  ·subst h2; unfold zc4; simpa using h
  subst h2; exact ⟨rfl, rfl, rfl, Nat.le_refl _, fun _ _ _ => rfl⟩
 subst hv;rw [Nat.mul_one] at ht
 refine (Tryz.slices_Sort_int g 0 cap xs w (Go.holds_of_blockI hh ht) (lt_of_block hh) (by omega)).mono fun e w' ⟨h1, n, os, h2⟩ => ⟨h1, ?_, ?_⟩
 ·rw [h2]
  show World.ownsRow _ _ _ _ _ _ _
  rw [hsl];exact Go.ownsRow_sortedI hsl hg hh hn hm hs
 rw [h2]; exact Go.grownBy_sortedI _
def I1 (x : Int) : List Value := [.int .i64 x]
theorem ztk (x : Int) : (I1 x).length = 1 := rfl
theorem zao {w : World} {base : Nat} {v : Value} {xs : List Int} : OwnInts w base v xs ↔ OwnL I1 3 1 w base v xs := by
 have e : xs.map (Value.int .i64) = xs.flatMap I1 := by
  induction xs with
  | nil => rfl
  | cons x xs ih => simp [I1] at *; exact ih
 unfold OwnInts OwnL; rw [e]
theorem OwnL.cell1 {w : World} {base : Nat} {xs : List Int} {g cap n : Nat} (hn : n = xs.length) (h : OwnL I1 3 1 w base (.slice (some ⟨g, 0, none⟩) n cap) xs) (i : Nat) (hi : i < xs.length) :
 w.cell? ⟨g, i, none⟩ = some (.int .i64 xs[i]) := by
 have := h.cell hn ztk i 0 hi (by omega)
 simpa [I1] using this
def B1 (b : Bool) : List Value := [.int .i64 (b2i b)]
section
variable {ops : Array Oper} {rest : List Oper} {o : Oper} {a : Act} {Q : Exit -> Act -> World -> Prop}
theorem zlx {α : Type} {enc : α -> List Value} {t e k bytes : Nat} {z : Value} {W : World} {C : Array Value} (E : Elem t e k bytes z) (hgd : o.guard = none) (s x : Operand) (ho : o.op = .call { callee := .builtin .append, args := #[s, x], argTypes := #[t, t] })
 (base : Nat) (v : Value) (l : List α) (y : α) (hs : a.eval s = v) (hown : OwnL enc e k W base v l) (hx : a.eval x = .slice (some ⟨W.heap.size, 0, none⟩) 1 1) (hk : (enc y).length = k)
 (hC : enc y = C.toList) (h1 : ∀ u ∈ enc y, u.oneCell' = true) (hl : l.length <= 1073741824) (hby : bytes <= 1000) (hbase : base <= W.heap.size)
 (h : ∀ g cap w', OwnL enc e k w' base (.slice (some ⟨g, 0, none⟩) (l.length + 1) cap) (l ++ [y]) -> W.grownBy w' v.ownBlock -> (v.ownBlock = some g \/ W.heap.size <= g) -> wpList Tryz.prog ops Q rest (a.put o.dst (.slice (some ⟨g, 0, none⟩) (l.length + 1) cap)) w') :
 wpList Tryz.prog ops Q (o :: rest) a (W.alloc (.cells C e)) := by
 obtain ⟨ht, i, hi, hz, hsz, hby', hzs, h0⟩ := E;refine wpList_append_lies _ hgd s x t ho base e i z k bytes ht hi hz hsz hby' hzs h0 v l.length (l.flatMap enc) hs (World.ownsRow.alloc hown _) ⟨W.heap.size, 0, none⟩ 1 1 (enc y) hx (by rw [hk]; omega) ?_ h1 (by omega) (by unfold maxLen; omega) ?_ (by simp; omega) (W.heap.size + 1) (by simp) ?_
 ·intro j u hj
  have e1 : (⟨W.heap.size, 0, none⟩ : Addr).add j = ⟨W.heap.size, j, none⟩ := by
   unfold Addr.add; split
   ·rename_i hj0; rw [hj0]
   simp
  rw [e1, World.cell?_alloc_at _ _ _ _ rfl, <- Array.getElem?_toList, <- hC]; exact hj
 ·have := Nat.mul_le_mul (show l.length + 1 <= 1073741825 by omega) hby; omega
 intro g cap w' h2 h3 h4 _;exact h g cap w' (by unfold OwnL; rw [List.length_append, List.flatMap_append]; simpa using h2) (zb6 h3) (h4.imp id (fun e => by omega))
end
section
variable {w w' : World} {B bo : Nat} {n : Int} {m : Nat} {ats : List Int} {lv : Value} {LL : List (Nd × Value)}
end
end Go.Proofs.YtlleofjjdhfgcaaGreatDoor
namespace Cen
abbrev Cl := List Int
def cmpL (a b : Int) : Int := if zac a - zac b ≠ 0 then zac a - zac b else a - b
theorem znk (a : Int) : cmpL a a = 0 := by unfold cmpL; rw [if_neg (by omega)]; omega
theorem zo7 {a b : Int} : cmpL a b = 0 ↔ a = b := by
 constructor
 ·intro h; unfold cmpL at h; split at h <;> omega
 rintro rfl; exact znk a
theorem zde {a b : Int} : cmpL a b < 0 ↔ zac a < zac b \/ (zac a = zac b /\ a < b) := by unfold cmpL; split <;> omega
theorem zt5 {a b : Int} : cmpL b a = - cmpL a b := by unfold cmpL; split <;> split <;> omega
theorem zsc {a b c : Int} (h : cmpL a b < 0) (k : cmpL b c < 0) : cmpL a c < 0 := by rw [zde] at *; omega
def ltL (a b : Int) : Prop := cmpL a b < 0
def lexC : Cl -> Cl -> Int
 | [], [] => 0
 | [], _ :: _ => -1
 | _ :: _, [] => 1
 | a :: as', b :: bs => if cmpL a b ≠ 0 then cmpL a b else lexC as' bs
theorem zn4 : ∀ a : Cl, lexC a a = 0
 | [] => rfl
 | x :: a => by rw [lexC, if_neg (by simp [znk])]; exact zn4 a
theorem zva : ∀ {a b : Cl}, lexC a b = 0 -> a = b
 | [], [], _ => rfl
 | [], _ :: _, h => by simp [lexC] at h
 | _ :: _, [], h => by simp [lexC] at h
 | x :: a, y :: b, h => by
   rw [lexC] at h
   by_cases e : cmpL x y = 0
   ·rw [if_neg (by simpa using e)] at h;rw [zo7.1 e, zva h]
   rw [if_pos e] at h; exact absurd h e
theorem zjf : ∀ a b : Cl, (0 < lexC a b -> lexC b a < 0) /\ (lexC a b < 0 -> 0 < lexC b a)
 | [], [] => by simp [lexC]
 | [], _ :: _ => by simp [lexC]
 | _ :: _, [] => by simp [lexC]
 | x :: a, y :: b => by
   have h := zt5 (a := x) (b := y);have ih := zjf a b;rw [lexC, lexC]
   by_cases e : cmpL x y = 0
   ·rw [if_neg (by simpa using e), if_neg (by simp; omega)]; exact ih
   rw [if_pos e, if_pos (by simp; omega)]; omega
theorem zk9 : ∀ {a b c : Cl}, lexC a b < 0 -> lexC b c < 0 -> lexC a c < 0
 | [], [], _, h, _ => by simp [lexC] at h
 | [], _ :: _, [], _, k => by simp [lexC] at k
 | [], _ :: _, _ :: _, _, _ => by simp [lexC]
 | _ :: _, [], _, h, _ => by simp [lexC] at h
 | _ :: _, _ :: _, [], _, k => by simp [lexC] at k
 | x :: a, y :: b, z :: c, h, k => by
   rw [lexC] at *
   by_cases e : cmpL x y = 0
   ·rw [if_neg (by simpa using e)] at h;have e' := zo7.1 e;subst e'
    by_cases f : cmpL x z = 0
    ·rw [if_neg (by simpa using f)] at *; exact zk9 h k
    rw [if_pos f] at *; exact k
   rw [if_pos e] at h
   by_cases f : cmpL y z = 0
   ·have f' := zo7.1 f;subst f';rw [if_pos e]; exact h
   rw [if_pos f] at k;have := zsc h k;rw [if_pos (by omega)]; exact this
def cmpC (a b : Cl) : Int := if (a.length : Int) - b.length ≠ 0 then (a.length : Int) - b.length else lexC a b
theorem znj (a : Cl) : cmpC a a = 0 := by unfold cmpC; rw [if_neg (by omega)]; exact zn4 a
theorem zit {a b : Cl} : cmpC a b = 0 ↔ a = b := by
 constructor
 ·intro h; unfold cmpC at h; split at h
  ·omega
  exact zva h
 rintro rfl; exact znj a
def ltC (a b : Cl) : Prop := cmpC a b < 0
instance (a b : Cl) : Decidable (ltC a b) := inferInstanceAs (Decidable (cmpC a b < 0))
theorem ziu {a b : Cl} (h : 0 < cmpC a b) : ltC b a := by
 unfold ltC cmpC at *
 split at h
 ·rw [if_pos (by omega)]; omega
 rw [if_neg (by omega)]; exact (zjf a b).1 h
theorem zsb {a b : Cl} (h : cmpC a b < 0) : 0 < cmpC b a := by
 unfold cmpC at *
 split at h
 ·rw [if_pos (by omega)]; omega
 rw [if_neg (by omega)]; exact (zjf a b).2 h
theorem zce {a b : Cl} (h : ltC a b) : ¬ ltC b a := by have := zsb h; unfold ltC; omega
theorem ze5 (a : Cl) : ¬ ltC a a := by unfold ltC; rw [znj]; omega
theorem zgd {a b c : Cl} (h : ltC a b) (k : ltC b c) : ltC a c := by
 unfold ltC cmpC at *
 split at h <;> split at k
 ·rw [if_pos (by omega)]; omega
 ·rw [if_pos (by omega)]; omega
 ·rw [if_pos (by omega)]; omega
 rw [if_neg (by omega)]; exact zk9 h k
theorem zve {a b : Int} (h : ltL a b) : ¬ ltL b a := by unfold ltL at *; rw [zde] at *; omega
theorem zbx {α : Type} {r : α -> α -> Prop} (as' : ∀ a b, r a b -> ¬ r b a) : ∀ {l m : List α}, l.Pairwise r -> m.Pairwise r -> (∀ x, x ∈ l ↔ x ∈ m) -> l = m
 | [], [], _, _, _ => rfl
 | [], b :: m, _, _, h => by have := (h b).2 (by simp); simp at this
 | a :: l, [], _, _, h => by have := (h a).1 (by simp); simp at this
 | a :: l, b :: m, hl, hm, h => by
   rw [List.pairwise_cons] at hl hm
   have e : a = b := by
    rcases List.mem_cons.1 ((h a).1 (by simp)) with e | ha
    ·exact e
    rcases List.mem_cons.1 ((h b).2 (by simp)) with e | hb
    ·exact e.symm
    exact absurd (hl.1 b hb) (as' _ _ (hm.1 a ha))
   subst e
   have ir : ∀ x, ¬ r x x := fun x hx => as' x x hx hx
   rw [zbx as' hl.2 hm.2 fun x => ?_]
   constructor
   ·intro hx
    rcases List.mem_cons.1 ((h x).1 (by simp [hx])) with e | h2
    ·subst e; exact absurd (hl.1 x hx) (ir x)
    exact h2
   intro hx
   rcases List.mem_cons.1 ((h x).2 (by simp [hx])) with e | h2
   ·subst e; exact absurd (hm.1 x hx) (ir x)
   exact h2
def insC (c : Cl) : List Cl -> List Cl
 | [] => [c]
 | d :: l => if cmpC c d < 0 then c :: d :: l else if cmpC c d = 0 then d :: l else d :: insC c l
theorem zml {c x : Cl} : ∀ {l : List Cl}, x ∈ insC c l ↔ x = c \/ x ∈ l
 | [] => by simp [insC]
 | d :: l => by
   rw [insC]
   by_cases h : cmpC c d < 0
   ·rw [if_pos h]; simp
   rw [if_neg h]
   by_cases k : cmpC c d = 0
   ·rw [if_pos k, zit.1 k]; simp
   rw [if_neg k, List.mem_cons, zml]; simp only [List.mem_cons]; constructor
   ·rintro (h | h | h) <;> simp [h]
   rintro (h | h | h) <;> simp [h]
theorem zi9 {c : Cl} : ∀ {l : List Cl}, l.Pairwise ltC -> (insC c l).Pairwise ltC
 | [], _ => by simp [insC]
 | d :: l, h => by
   rw [insC]
   by_cases h1 : cmpC c d < 0
   ·rw [if_pos h1, List.pairwise_cons];refine ⟨fun x hx => ?_, h⟩
    rcases List.mem_cons.1 hx with rfl | hx
    ·exact h1
    exact zgd h1 ((List.pairwise_cons.1 h).1 x hx)
   rw [if_neg h1]
   by_cases k : cmpC c d = 0
   ·rw [if_pos k]; exact h
   rw [if_neg k, List.pairwise_cons];rw [List.pairwise_cons] at h;refine ⟨fun x hx => ?_, zi9 h.2⟩
   rcases zml.1 hx with rfl | hx
   ·exact ziu (by omega)
   exact h.1 x hx
def ordC (l : List Cl) : List Cl := l.foldr insC []
theorem zbd {x : Cl} : ∀ {l : List Cl}, x ∈ ordC l ↔ x ∈ l
 | [] => by simp [ordC]
 | c :: l => by
   show x ∈ insC c (ordC l) ↔ _
   rw [zml, zbd, List.mem_cons]
theorem za0 : ∀ l : List Cl, (ordC l).Pairwise ltC
 | [] => List.Pairwise.nil
 | c :: l => zi9 (za0 l)
theorem zfv {l m : List Cl} (h : m.Pairwise ltC) (hm : ∀ x, x ∈ m ↔ x ∈ l) : m = ordC l :=
 zbx (fun _ _ => zce) h (za0 l) fun x => by rw [hm, zbd]
theorem zvr {l : List Cl} (h : l.Pairwise ltC) : ordC l = l := (zfv h fun _ => Iff.rfl).symm
theorem zlh {l m : List Cl} (h : ∀ x, x ∈ l ↔ x ∈ m) : ordC l = ordC m := zfv (za0 l) fun x => by rw [zbd, h]
theorem zi8 (c : Cl) : ∀ l : List Cl, (insC c l).length <= l.length + 1
 | [] => by simp [insC]
 | d :: l => by
   rw [insC]; split
   ·simp
   split
   ·simp
   have := zi8 c l; simp; omega
theorem zbc : ∀ l : List Cl, (ordC l).length <= l.length
 | [] => by simp [ordC]
 | c :: l => by
   have h1 := zi8 c (ordC l);have h2 := zbc l
   show (insC c (ordC l)).length <= _
   simp; omega
theorem zx9 {l : List Cl} : ordC l = [] ↔ l = [] := by
 constructor
 ·intro h
  cases l with
  | nil => rfl
  | cons c l => have : c ∈ ordC (c :: l) := zbd.2 (by simp); rw [h] at this; simp at this
 rintro rfl; rfl
def zcg (n : Nat) (c : Cl) : Cl :=
 (List.range n).flatMap fun (j : Nat) => (if -((j : Int) + 1) ∈ c then [-((j : Int) + 1)] else []) ++ (if ((j : Int) + 1) ∈ c then [(j : Int) + 1] else [])
theorem zb4 {n : Nat} {c : Cl} {x : Int} : x ∈ zcg n c ↔ x ∈ c /\ x ≠ 0 /\ -(n : Int) <= x /\ x <= n := by
 unfold zcg;rw [List.mem_flatMap]
 constructor
 ·rintro ⟨j, hj, hx⟩;rw [List.mem_range] at hj
  rcases List.mem_append.1 hx with h | h
  ·split at h
   ·simp at h; subst h; exact ⟨‹_›, by omega, by omega, by omega⟩
   simp at h
  split at h
  ·simp at h; subst h; exact ⟨‹_›, by omega, by omega, by omega⟩
  simp at h
 rintro ⟨h1, h2, h3, h4⟩
 rcases Int.lt_or_gt_of_ne h2 with h | h
 ·refine ⟨(-x - 1).toNat, List.mem_range.2 (by omega), List.mem_append_left _ ?_⟩;rw [show -((((-x - 1).toNat : Nat) : Int) + 1) = x by omega, if_pos h1]; simp
 refine ⟨(x - 1).toNat, List.mem_range.2 (by omega), List.mem_append_right _ ?_⟩;rw [show ((((x - 1).toNat : Nat) : Int) + 1) = x by omega, if_pos h1]; simp
theorem zam {x : Int} (h : x ≠ 0) (h1 : -128 <= x) (h2 : x <= 128) : zac x = if x < 0 then -x else x := by
 unfold zac; split
 ·rw [if_neg (by omega)]
 rw [if_pos (by omega), if_pos (by omega)]
theorem zex {n : Nat} (hn : n <= 128) (c : Cl) : (zcg n c).Pairwise ltL := by
 unfold zcg;rw [List.flatMap_def, List.pairwise_flatten]
 have key : ∀ j : Nat, ∀ x ∈ ((if -((j : Int) + 1) ∈ c then [-((j : Int) + 1)] else []) ++ (if ((j : Int) + 1) ∈ c then [(j : Int) + 1] else [])), x = -((j : Int) + 1) \/ x = (j : Int) + 1 := fun j x hx => by
  rcases List.mem_append.1 hx with h | h
  ·split at h <;> simp at h; exact .inl h
  split at h <;> simp at h; exact .inr h
 constructor
 ·intro l hl;rw [List.mem_map] at hl;obtain ⟨j, hj, rfl⟩ := hl;rw [List.mem_range] at hj;rw [List.pairwise_append];refine ⟨by split <;> simp, by split <;> simp, fun a ha b hb => ?_⟩
  split at ha <;> simp at ha
  split at hb <;> simp at hb
  subst ha; subst hb;unfold ltL;rw [zde, zam (by omega) (by omega) (by omega), zam (by omega) (by omega) (by omega)];rw [if_pos (by omega), if_neg (by omega)]; omega
 rw [List.pairwise_map];refine List.Pairwise.imp_of_mem ?_ (List.pairwise_lt_range (n := n));intro j k hj hk hjk x hx y hy;rw [List.mem_range] at hj hk;have hx := key j x hx;have hy := key k y hy;unfold ltL;rw [zde, zam (by omega) (by omega) (by omega), zam (by omega) (by omega) (by omega)]
 split <;> split <;> omega
theorem zey {n : Nat} (hn : n <= 128) {c d : Cl} (hd : d.Pairwise ltL) (hm : ∀ x, x ∈ d ↔ x ∈ c) (hc : ∀ x ∈ c, x ≠ 0 /\ -(n : Int) <= x /\ x <= n) : d = zcg n c :=
 zbx (fun _ _ => zve) hd (zex hn c) fun x => by
  rw [hm, zb4]; exact ⟨fun h => ⟨h, hc x h⟩, fun h => h.1⟩
end Cen
