/- Parts of the proofs of laws. Texts: Eb, R20, Eg, R20T, SumQ, Eo, Er, Fd, R20E, Fe, Ho. -/
import Derived.Test.YtlleofjjdhfgcaaGreatDoorYA34
import Derived.Test.YtlleofjjdhfgcaaGreatDoorYA39
set_option maxHeartbeats 8000000
set_option maxRecDepth 100000
set_option linter.all false
namespace Go.Proofs.YtlleofjjdhfgcaaGreatDoor
open Go.RowKit Cen
def IntIn (X : Nat -> Prop) (w : World) (a : Option Addr) (xs : Cl) : Prop := IntCells w a xs /\ ∀ p, a = some p -> xs ≠ [] -> X p.block
def LsIn (X : Nat -> Prop) (w : World) (a : Option Addr) (t : List Cl) : Prop :=
 ∀ i, i < t.length -> ∃ b off ai ci, a = some ⟨b, off, none⟩ /\ X b /\ w.cell? ⟨b, off + i, none⟩ = some (.slice ai (t.getD i []).length ci) /\ IntIn X w ai (t.getD i [])
theorem IntIn.mono {X Y : Nat -> Prop} {w : World} {a : Option Addr} {xs : Cl} (h : IntIn X w a xs) (hm : ∀ k, k < w.heap.size -> X k -> Y k) : IntIn Y w a xs := ⟨h.1, fun p hp hn => by
 refine hm _ ?_ (h.2 p hp hn);obtain ⟨b, off, e, hc⟩ := h.1 0 (List.length_pos_iff.2 hn);rw [hp] at e;simp only [Option.some.injEq] at e;subst e
 exact zai hc⟩
theorem IntIn.kept {X M : Nat -> Prop} {w w' : World} {a : Option Addr} {xs : Cl} (h : IntIn X w a xs) (hk : Kp M w w') (hm : ∀ k, X k -> ¬ M k) : IntIn X w' a xs := ⟨fun j hj => by
 obtain ⟨b, off, e, hc⟩ := h.1 j hj
 have hne : xs ≠ [] := fun e => by rw [e] at hj; simp at hj
 exact ⟨b, off, e, hk.cell hc (hm b (h.2 ⟨b, off, none⟩ e hne))⟩, h.2⟩
theorem IntIn.later {X : Nat -> Prop} {w w' : World} {a : Option Addr} {xs : Cl} (h : IntIn X w a xs) (hb : Below w.heap.size w w') : IntIn X w' a xs := h.kept (M := fun _ => False) (Kp.below hb) fun _ _ h => h
theorem LsIn.nil (X : Nat -> Prop) (w : World) (a : Option Addr) : LsIn X w a [] := fun i hi => by simp at hi
theorem LsIn.mono {X Y : Nat -> Prop} {w : World} {a : Option Addr} {t : List Cl} (h : LsIn X w a t) (hm : ∀ k, k < w.heap.size -> X k -> Y k) : LsIn Y w a t := fun i hi =>
 let ⟨b, off, ai, ci, h1, h2, h3, h4⟩ := h i hi; ⟨b, off, ai, ci, h1, hm _ (zai h3) h2, h3, h4.mono hm⟩
theorem LsIn.kept {X M : Nat -> Prop} {w w' : World} {a : Option Addr} {t : List Cl} (h : LsIn X w a t) (hk : Kp M w w') (hm : ∀ k, X k -> ¬ M k) : LsIn X w' a t := fun i hi =>
 let ⟨b, off, ai, ci, h1, h2, h3, h4⟩ := h i hi; ⟨b, off, ai, ci, h1, h2, hk.cell h3 (hm _ h2), h4.kept hk hm⟩
theorem LsIn.ls {X : Nat -> Prop} {w : World} {a : Option Addr} {t : List Cl} (h : LsIn X w a t) : LsCells w a t := fun i hi =>
 let ⟨b, off, ai, ci, h1, _, h3, h4⟩ := h i hi; ⟨b, off, ai, ci, h1, h3, h4.1⟩
theorem IntIn.own {w : World} {base n cap : Nat} {a : Option Addr} {xs : Cl} (h : OwnInts w base (.slice a n cap) xs) : n = xs.length /\ IntIn (fun k => base <= k) w a xs := by
 obtain ⟨av, cv, e, hc, hav⟩ := h.cells;simp only [Value.slice.injEq] at e;obtain ⟨rfl, rfl, rfl⟩ := e;exact ⟨rfl, hc, fun p hp _ => (hav p hp).1⟩
structure Sl where
 a : Option Addr
 c : Nat
 xs : Cl
def sle (e : Sl) : List Value := [.slice e.a e.xs.length e.c]
theorem ybp (e : Sl) : (sle e).length = 1 := rfl
theorem ybq (e : Sl) : ∀ u ∈ sle e, u.oneCell' = true := by intro u hu; simp [sle] at hu; subst hu; rfl
theorem yck : Elem 22 67 1 24 (.slice none 0 0) := .mk Tryz.underlying22 (by kernel_rfl) rfl (by decide)
structure OwnS (X : Nat -> Prop) (w : World) (base : Nat) (v : Value) (L : List Sl) : Prop where
 own : OwnL sle 67 1 w base v L
 ic : ∀ e ∈ L, IntIn (fun k => X k /\ ¬ v.ownBlock = some k) w e.a e.xs
theorem OwnS.nil (X : Nat -> Prop) (w : World) (base : Nat) : OwnS X w base (.slice none 0 0) [] := ⟨OwnL.nil _ _, fun e h => by simp at h⟩
theorem OwnS.later {X : Nat -> Prop} {w w' : World} {base : Nat} {v : Value} {L : List Sl} (h : OwnS X w base v L) (hb : Below w.heap.size w w') : OwnS X w' base v L := ⟨h.own.later hb, fun e he => (h.ic e he).later hb⟩
theorem OwnS.kept {X M : Nat -> Prop} {w w' : World} {base : Nat} {v : Value} {L : List Sl} (h : OwnS X w base v L) (hk : Kp M w w') (hm : ∀ k, X k -> ¬ M k) (hv : ∀ k, v.ownBlock = some k -> ¬ M k) : OwnS X w' base v L := ⟨h.own.kept hk hv, fun e he => (h.ic e he).kept hk fun k hk => hm k hk.1⟩
theorem OwnS.ls {X : Nat -> Prop} {w : World} {base n cap : Nat} {a : Option Addr} {L : List Sl} (h : OwnS X w base (.slice a n cap) L) (hX : ∀ k, base <= k -> X k) : n = L.length /\ LsIn X w a (L.map fun e => e.xs) := by
 rcases h.own.shape with ⟨h1, h2⟩ | ⟨g, cp, h1, h2, h3⟩
 ·simp only [Value.slice.injEq] at h1;subst h2;exact ⟨h1.2.1, LsIn.nil _ _ _⟩
 simp only [Value.slice.injEq] at h1;obtain ⟨rfl, rfl, rfl⟩ := h1;refine ⟨rfl, fun i hi => ?_⟩
 have hil : i < L.length := by simpa using hi
 have hcell := h.own.cell rfl ybp i 0 hil (by omega);simp only [Nat.mul_one, Nat.add_zero, sle, List.getElem?_cons_zero] at hcell
 have e1 : (L.map fun e => e.xs).getD i [] = L[i].xs := by simp [List.getD_eq_getElem?_getD, hil]
 exact ⟨g, 0, _, _, rfl, hX _ h2, by rw [e1, Nat.zero_add]; exact hcell, by rw [e1]; exact (h.ic _ (List.getElem_mem hil)).mono fun k _ hk => hk.1⟩
theorem OwnS.push {X : Nat -> Prop} {w w' : World} {base g cap : Nat} {v : Value} {L : List Sl} {e : Sl} (h : OwnS X w base v L) (he : IntIn (fun k => X k /\ ¬ v.ownBlock = some k) w e.a e.xs)
 (ho : OwnL sle 67 1 w' base (.slice (some ⟨g, 0, none⟩) (L.length + 1) cap) (L ++ [e])) (hg : w.grownBy w' v.ownBlock) (hn : v.ownBlock = some g \/ w.heap.size <= g) :
 OwnS X w' base (.slice (some ⟨g, 0, none⟩) (L ++ [e]).length cap) (L ++ [e]) := by
 have hk : Kp (fun k => v.ownBlock = some k) w w' := Kp.grown hg fun k h => h
 refine ⟨by rw [List.length_append]; exact ho, fun x hx => ?_⟩
 have hx' : IntIn (fun k => X k /\ ¬ v.ownBlock = some k) w x.a x.xs := by
  rcases List.mem_append.1 hx with hx | hx
  ·exact h.ic x hx
  simp at hx; subst hx; exact he
 have h2 := (hx'.mono (Y := fun k => k < w.heap.size /\ X k /\ ¬ v.ownBlock = some k) fun k hk hx => ⟨hk, hx⟩).kept hk fun k hk => hk.2.2
 refine h2.mono fun k _ hk => ⟨hk.2.1, fun e => ?_⟩
 simp [Value.ownBlock] at e
 subst e
 rcases hn with hn | hn
 ·exact hk.2.2 hn
 exact absurd hk.1 (by omega)
theorem zvh (t : Nt) : zcv t = true ↔ (0 <= t.n /\ t.n <= 128 /\ 1 <= t.l.length /\ t.l.length <= 65536) /\ ∀ j, j < t.l.length -> ndOk (t.l.getD j default) t.n j = true := by
 simp only [zcv, zf7, Bool.and_eq_true, decide_eq_true_eq];exact ⟨fun h => ⟨by omega, h.2⟩, fun h => ⟨by omega, h.2⟩⟩
theorem zkt {n : Nat} (hn : n <= 128) : ∀ {t : List Cl}, zg0 n t = 0 ↔ ∀ c ∈ t, c.length <= 128 /\ ∀ x ∈ c, litN n x
 | [] => by simp [zg0]
 | c :: t => by
   rw [zg0]
   have hall : (c.all fun x => zbn x n) = true ↔ ∀ x ∈ c, litN n x := by
    rw [List.all_eq_true];exact ⟨fun h x hx => (zgc hn).1 (h x hx), fun h x hx => (zgc hn).2 (h x hx)⟩
   by_cases h1 : 128 < c.length
   ·rw [if_pos h1]
    constructor
    ·intro h; simp at h
    intro h; have := (h c (by simp)).1; omega
   rw [if_neg h1]
   by_cases h2 : (c.all fun x => zbn x n) = true
   ·rw [if_pos h2, zkt hn]
    constructor
    ·intro h d hd
     rcases List.mem_cons.1 hd with rfl | hd
     ·exact ⟨by omega, hall.1 h2⟩
     exact h d hd
    intro h d hd; exact h d (List.mem_cons_of_mem _ hd)
   rw [if_neg h2]
   constructor
   ·intro h; simp at h
   intro h; exact absurd (hall.2 (h c (by simp)).2) h2
theorem zng {n : Nat} (hn : n <= 128) {t : List Cl} : chkT n t = 0 ↔ tOk n t := by
 unfold chkT;rw [if_neg (by omega)]
 by_cases h : 4096 < t.length
 ·rw [if_pos h]
  constructor
  ·intro h; simp at h
  intro ht; have := ht.len; omega
 rw [if_neg h, zkt hn];exact ⟨fun k => ⟨by omega, k⟩, fun k => k.cl⟩
def acc (s f : Int -> Bool) (x : Nd) (m : Nat) : Bool := evNd s f ⟨x.kind, x.lit, x.ins.take m⟩
end Go.Proofs.YtlleofjjdhfgcaaGreatDoor
namespace Cen
theorem zr5 {s t : St} (h : ∀ v : Int, 1 <= v -> v <= 128 -> s.mem v = t.mem v) : card s = card t := by
 unfold card
 apply List.countP_congr
 intro j hj;rw [List.mem_range] at hj;rw [h _ (by omega) (by omega)]
theorem ztz {s : St} (h : ∀ v : Int, 1 <= v -> s.mem v = false) : card s = 0 := by
 unfold card;rw [List.countP_eq_zero];intro j _ hm;rw [h _ (by omega)] at hm; simp at hm
theorem zpg {n a : Nat} (h : a < n) : (List.range n).count a = 1 := by
 induction n with
 | zero => omega
 | succ n ih =>
   rw [List.range_succ, List.count_append]
   by_cases e : a = n
   ·subst e;have : (List.range a).count a = 0 := List.count_eq_zero.2 (by simp);rw [this]; simp
   rw [ih (by omega)];have : [n].count a = 0 := List.count_eq_zero.2 (by simp; exact e);rw [this]
theorem zws {s : St} {v : Int} (h1 : 1 <= v) (h2 : v <= 128) (h : ∀ u : Int, 1 <= u -> s.mem u = decide (u = v)) : card s = 1 := by
 unfold card
 have e : (List.range 128).countP (fun (j : Nat) => s.mem ((j : Int) + 1)) = (List.range 128).count (v - 1).toNat := by
  unfold List.count
  apply List.countP_congr
  intro j _;rw [h _ (by omega)]
  simp; omega
 rw [e];exact zpg (by omega)
theorem ydl {l : List Nd} {n : Int} (hL : zds l n l.length) {i : Int} (h0 : 0 <= i) (h1 : i < (l.length : Int)) {k : Int} (hk : k ∈ (nd l i).ins) (v : Int) (hv : (vm l k).mem v = true) : (vm l i).mem v = true := by
 rw [zlq hL h0 h1, Bool.or_eq_true];exact .inr (List.any_eq_true.2 ⟨k, hk, hv⟩)
theorem zy4 {l : List Nd} {n : Int} (hL : zds l n l.length) : ∀ (k : Nat) (i : Int), i.toNat = k -> 0 <= i -> i < (l.length : Int) -> ∀ v, (vm l i).mem v = true -> 1 <= v /\ v <= n := by
 intro k
 induction k using Nat.strongRecOn with
 | _ k ih =>
   intro i hk h0 h1 v hv;have hins := zd9 (zoa hL h0 h1);rw [zlq hL h0 h1, Bool.or_eq_true] at hv
   rcases hv with hv | hv
   ·rw [zmq] at hv;simp only [Bool.and_eq_true, decide_eq_true_eq] at hv;obtain ⟨⟨a, b⟩, _⟩ := hv
    by_cases h2 : (nd l i).kind = 2
    ·have := zmp (zoa hL h0 h1) h2; omega
    have h3 := zoa hL h0 h1;simp only [ndOk, Bool.and_eq_true] at h3;have h4 := h3.2
    have hz : (nd l i).lit = 0 := by
     unfold zch at h4
     by_cases c1 : (nd l i).kind = 0 \/ (nd l i).kind = 1
     ·rw [if_pos c1] at h4; simp at h4; exact h4.1
     rw [if_neg c1, if_neg h2] at h4
     by_cases c3 : (nd l i).kind = 3 \/ (nd l i).kind = 4
     ·rw [if_pos c3] at h4; simpa using h4
     rw [if_neg c3] at h4; simp at h4
    rw [hz] at b
    have : zac 0 = 0 := by unfold zac; rw [if_neg (by omega), if_neg (by omega)]
    omega
   obtain ⟨j, hj, hm⟩ := List.any_eq_true.1 hv;have := hins j hj;exact ih j.toNat (by omega) j rfl this.1 (by omega) v hm
theorem zxt {x : Nd} {n b : Int} (h : ndOk x n b = true) (h2 : x.kind ≠ 2) : x.lit = 0 := by
 simp only [ndOk, Bool.and_eq_true] at h;have h4 := h.2;unfold zch at h4
 by_cases c1 : x.kind = 0 \/ x.kind = 1
 ·rw [if_pos c1] at h4; simp at h4; exact h4.1
 rw [if_neg c1, if_neg h2] at h4
 by_cases c3 : x.kind = 3 \/ x.kind = 4
 ·rw [if_pos c3] at h4; simpa using h4
 rw [if_neg c3] at h4; simp at h4
theorem zjn {a b N : Nat} (h : a * 2 ^ N = b * 2 ^ N) : a = b := Nat.eq_of_mul_eq_mul_right (Nat.pow_pos (by omega)) h
section
variable {l : List Nd} {N : Nat} {s : Int -> Bool}
theorem yaq {n : Int} (hL : zds l n l.length) {i : Int} (h0 : 0 <= i) (h1 : i < (l.length : Int)) : dep (fun s => T s l i) (vm l i).mem := fun s s' hs => yb9 hL (s := s) (s' := s') i.toNat i rfl h0 h1 hs
theorem yao {l : List Nd} (h : decL l = true) {i : Nat} (hi : i < l.length) (hk : (nd l (i : Int)).kind = 3) : sepF (zau l) St.zero (nd l (i : Int)).ins = true := by
 rw [decL, List.all_eq_true] at h
 have e : nd l (i : Int) = l[i] := by rw [zvg (by omega) (by omega)]; simp
 have := h l[i] (List.getElem_mem hi);rw [e] at hk ⊢;unfold zst at this;rw [Bool.or_eq_true] at this
 rcases this with h | h
 ·simp [hk] at h
 exact h
end
end Cen
namespace Go.Proofs.YtlleofjjdhfgcaaGreatDoor
open Go.RowKit Cen
structure PfOk (p : Prf) : Prop where
 n : p.n <= 128
 t : tOk p.n p.t
 N : zcv ⟨p.n, p.N⟩ = true
 C : p.C.length = p.N.length
 cl : ∀ c ∈ p.C, c.tm.length <= 1073741824 /\ c.at'.length <= 1073741824
structure TB (w0 V : World) (o : Option Nat) : Prop where
 bl : Below w0.heap.size w0 V
 x : ∀ b, o = some b -> w0.heap.size <= b /\ Blk V b #[.int .i64 0, .slice none 0 0] 24
theorem TB.alloc {w0 V : World} {q : Nat} (h : TB w0 V none) (hq : q = V.heap.size) : TB w0 (V.alloc (.cells #[.int .i64 0, .slice none 0 0] 24)) (some q) := by
 subst hq;refine ⟨h.bl.alloc h.bl.size _, fun b e => ?_⟩;simp only [Option.some.injEq] at e;subst e;exact ⟨h.bl.size, Blk.new _ _ _⟩
structure PfB (p : Prf) : Prop where
 ok : PfOk p
 il : ∀ x ∈ p.N, x.ins.length <= 8192
theorem PfB.ins {p : Prf} (h : PfB p) {j : Nat} (hj : j < p.N.length) : (p.N.getD j default).ins.length <= 8192 /\ ∀ i ∈ (p.N.getD j default).ins, 0 <= i /\ i < p.N.length := by
 have hm : p.N.getD j default ∈ p.N := by rw [List.getD_eq_getElem?_getD, List.getElem?_eq_getElem hj]; exact List.getElem_mem hj
 refine ⟨h.il _ hm, fun i hi => ?_⟩;have h1 := ((zvh _).1 h.ok.N).2 j hj;unfold ndOk at h1;rw [Bool.and_eq_true] at h1;have := (zer.1 h1.1) i hi;omega
theorem ycq {n : Nat} {T : Cl} (h : gT n T) : T.length <= 129 := by
 have := zb7 (l := T.map zac) (b := 129) (by show List.Pairwise _ _; rw [List.pairwise_map]; exact h.nd) (fun i hi => by
  obtain ⟨x, _, rfl⟩ := List.mem_map.1 hi;unfold zac
  split
  ·omega
  split <;> omega)
 simpa using this
theorem zw6 {ch : List Cl -> Int} {n : Nat} {t : List Cl} {cache : Bool} (hn : n <= 128) (hch : Chooses ch n) (ht : tOk n t) {i : Nat} {c : Nc} {l : List Cl} {term : Cl} (hc : (zad ch cache n t)[i]? = some c) (htag : c.tag = some (l, term)) : gT n term /\ l.length <= 4096 := by
 have hal : (zaa n t).length <= 4096 := Nat.le_trans (zco n t) ht.len
 by_cases h0 : zaa n t = []
 ·rw [za9 h0] at hc;have := List.mem_of_getElem? hc;simp only [List.mem_singleton] at this;subst this;simp only [Option.some.injEq, Prod.mk.injEq] at htag;obtain ⟨rfl, rfl⟩ := htag;exact ⟨gT.nil n, by simp⟩
 have hC := core hn hch ht cache
 have hcore : ∀ (i : Nat) (c : Nc), (zak ch cache (zaa n t)).1[i]? = some c -> c.tag = some (l, term) -> gT n term /\ l.length <= 4096 := fun i c hc htag => ⟨(hC.inv.tg i c l term hc htag).1, zwb hn hch ht ⟨c, term, hc, htag⟩⟩
 cases hr : zcl (zak ch cache (zaa n t)) (zaa n t) with
 | true =>
   rw [zcp h0 hr, List.getElem?_append] at hc
   split at hc
   ·exact hcore i c hc htag
   have := List.mem_of_getElem? hc;simp only [List.mem_singleton] at this;subst this;simp only [Option.some.injEq, Prod.mk.injEq] at htag;obtain ⟨rfl, rfl⟩ := htag;exact ⟨gT.nil n, hal⟩
 | false =>
   rw [zcq h0 hr, List.getElem?_set] at hc
   split at hc
   ·split at hc
    ·obtain rfl := (Option.some.inj hc).symm;simp only [Option.some.injEq, Prod.mk.injEq] at htag;obtain ⟨rfl, rfl⟩ := htag;exact ⟨gT.nil n, hal⟩
    simp at hc
   exact hcore i c hc htag
theorem zw4 {ch : List Cl -> Int} {n : Nat} {t : List Cl} {cache : Bool} (hn : n <= 12) (hch : Chooses ch n) (ht : tOk n t) : (zad ch cache n t).length <= 20000 := by
 have h1 := (zh8 (cache := cache) (show n <= 128 by omega) hch ht).1;have hg := za2 (show n <= 128 by omega) ht.rg
 have h3 := zj8 (show n <= 128 by omega) (l := zaa n t) fun c hc x hx => (hg.gc c hc).rg x hx
 have h4 := yb5 (show card (zae (zaa n t)) <= 12 by omega);have h5 : FB 12 = 16381 := rfl;omega
def yb1 (ch : List Cl -> Int) (cache : Bool) (n : Nat) (t : List Cl) (C : List Clm) : Prop :=
 ∀ (i : Nat) (c : Nc), (zad ch cache n t)[i]? = some c -> match c.tag with | none => C.getD i ⟨[], []⟩ = ⟨[], []⟩ | some (l, term) => ∃ a, C.getD i ⟨[], []⟩ = ⟨term, a⟩ /\ ClOf n t l term a
theorem yal {ch : List Cl -> Int} {n : Nat} {t : List Cl} {cache : Bool} (hn : n <= 12) (hch : Chooses ch n) (ht : tOk n t) {C : List Clm} (hC : C.length = (zad ch cache n t).length) (hcl : yb1 ch cache n t C) :
 PfB ⟨n, t, nds (zad ch cache n t), C⟩ /\ ∀ i, i < (nds (zad ch cache n t)).length -> Prf.node ⟨n, t, nds (zad ch cache n t), C⟩ i := by
 have hn2 : n <= 128 := by omega
 have hfew := zw4 (cache := cache) hn hch ht;refine ⟨⟨⟨hn2, ht, zqx (n := n) (t := t) (cache := cache) hn2 hch ht (by omega), by simp only [zat]; exact hC, fun c hc => ?_⟩, zqv hn2 hch ht⟩, ?_⟩
 ·obtain ⟨i, hi, rfl⟩ := List.getElem_of_mem hc;simp only at hi ⊢
  have hgd : C[i] = C.getD i ⟨[], []⟩ := by simp [List.getD_eq_getElem?_getD, hi]
  have hci : (zad ch cache n t)[i]? = some ((zad ch cache n t)[i]'(by omega)) := List.getElem?_eq_getElem (by omega);have h1 := hcl i _ hci;rw [hgd]
  split at h1
  ·rw [h1]; simp
  rename_i l term htag
  obtain ⟨a, e, hcl2⟩ := h1;have h2 := zw6 hn2 hch ht hci htag;rw [e];obtain ⟨m, h3, h4, _⟩ := hcl2
  have h5 : a.length = l.length := by
   rw [h3, <- h4]; simp [zc4]
  have := ycq h2.1;exact ⟨by simp only; omega, by simp only; omega⟩
 exact zub (p := ⟨n, t, nds (zad ch cache n t), C⟩) hn2 hch ht rfl rfl rfl fun i c l term hci htag => by
  have h1 := hcl i c hci;rw [htag] at h1;exact h1
theorem zpx {p q r s t : Prop} (h : p /\ q /\ r /\ s /\ t) : t := h.2.2.2.2
structure Gdt (n : Nat) (t : List Cl) (order : List Int) : Prop where
 n9 : n <= 9
 tl : t.length <= 4096
 cl : ∀ c ∈ t, c.length <= 128
 ck : zc3 n t order = 0
theorem Gdt.ct {n : Nat} {t : List Cl} {order : List Int} (h : Gdt n t order) : chkT n t = 0 := by
 have := h.ck;unfold zc3 at this
 split at this
 ·exact absurd this (by assumption)
 rename_i h; simpa using h
theorem Gdt.tok {n : Nat} {t : List Cl} {order : List Int} (h : Gdt n t order) : tOk n t := (zng (by have := h.n9; omega)).1 h.ct
theorem Gdt.ol {n : Nat} {t : List Cl} {order : List Int} (h : Gdt n t order) : order.length <= n := by
 have := h.ck;unfold zc3 at this
 split at this
 ·exact absurd this (by assumption)
 split at this
 ·simp at this
 rename_i h2
 refine Classical.byContradiction fun h3 => h2 ⟨by omega, .inl ?_⟩
 omega
structure CRes (n : Nat) (t : List Cl) (order : List Int) (o1 o2 : Bool) (B : Nat) (w : World) (na : Option Addr) (nc : Nat) (ca : Option Addr) (cc : Nat) (N : List Nd) (C : List Clm) : Prop where
 eqN : N = nds (zad (chF order o1 n) o2 n t)
 cl : yb1 (chF order o1 n) o2 n t C
 len : C.length = N.length
 n : NdCells w na N
 cp : zz1 w na N
 c : zox w ca C
 mem : ∃ L : List Me, CpMem w B (.slice na L.length nc) (.slice ca L.length cc) L /\ nds (L.map fun e => e.c) = N /\ clms L = C
section
variable {n : Nat} {t : List Cl} {order : List Int} {o1 o2 : Bool} {B : Nat} {w : World} {na : Option Addr} {nc : Nat} {ca : Option Addr} {cc : Nat} {N : List Nd} {C : List Clm}
theorem CRes.pf (h : CRes n t order o1 o2 B w na nc ca cc N C) (hg : Gdt n t order) : PfB ⟨n, t, N, C⟩ /\ ∀ i, i < N.length -> Prf.node ⟨n, t, N, C⟩ i := by
 have h9 := hg.n9;have := yal (ch := chF order o1 n) (cache := o2) (show n <= 12 by omega) (zfm (by omega)) hg.tok (by have := h.len; rw [h.eqN, zat] at this; exact this) h.cl;rw [<- h.eqN] at this;exact this
theorem CRes.ok (h : CRes n t order o1 o2 B w na nc ca cc N C) (hg : Gdt n t order) : zcv ⟨n, N⟩ = true := (h.pf hg).1.ok.N
end
def yb0 (n : Nat) (t : List Cl) (order : List Int) (o1 o2 : Bool) (w : World) (e : Ending) (w' : World) : Prop :=
 ∃ (na : Option Addr) (nc : Nat) (ca : Option Addr) (cc : Nat) (N : List Nd) (C : List Clm), e = .returned (.tuple #[.agg #[.int .i64 (n : Int), .slice na N.length nc], .slice ca N.length cc, .int .i64 0]) /\ CRes n t order o1 o2 w.heap.size w' na nc ca cc N C /\ Below w.heap.size w w'
theorem ydi {w : World} (h : Tab w) : 2 < w.heap.size := by
 have := h.cell (g := 2) (by kernel_rfl) 0 (by decide +kernel);exact zai this
theorem zw1 (n : Nat) (a : Option Addr) (cap : Nat) (t : List Cl) (oa : Option Addr) (oc : Nat) (order : List Int) (o1 o2 : Bool) (w : World) (hg : Gdt n t order) (hx : LsCells w a t) (ho : IntCells w oa order) (htab : Tab w) :
 Calls Tryz.prog 37 #[.agg #[.int .i64 (n : Int), .slice a t.length cap], .agg #[.slice oa order.length oc, .bool o1, .bool o2]] w (yb0 n t order o1 o2 w) := by
 have h9 := hg.n9;have htl := hg.tl;have hol := hg.ol;refine (zua n (by omega) a cap t oa oc order o1 o2 w (by omega) (fun c hc => ⟨by have := hg.cl c hc; omega, hg.tok.rg c hc⟩) hx (by omega) ho hg.ck hg.tok htab (ydi htab)).mono ?_;rintro e w' ⟨na, nc, ca, cc, C, L, rfl, hC, hN, hcap, hcm, hmem, hL1, hL2, hb, hcl⟩;refine ⟨na, nc, ca, cc, nds (zad (chF order o1 n) o2 n t), C, by rw [zat], ⟨rfl, hcl, by rw [zat]; exact hC, hN, hcap, hcm, L, hmem, hL1, hL2⟩, hb⟩
def subK (rows : List Pr) (s : Nat) : Nat -> Pr
 | 0 => Pr.zero
 | k + 1 => if s / 2 ^ k % 2 = 1 then sumP (subK rows s k) (rows.getD k Pr.zero) else subK rows s k
def zhe (o : Bool) (c : Ct) : Ct := if o then ⟨c.o, c.e⟩ else c
def zh3 (N : Nat) (L : List Nd) (rows : List Pr) : Nat -> Option Ct
 | 0 => some ⟨0, 0⟩
 | t + 1 => (zh3 N L rows t).bind fun a => (zkv N L (subK rows t rows.length).v).bind fun y =>
   if a.e + (zhe (subK rows t rows.length).odd y).e < 65536 /\ a.o + (zhe (subK rows t rows.length).odd y).o < 65536 then some ⟨a.e + (zhe (subK rows t rows.length).odd y).e, a.o + (zhe (subK rows t rows.length).odd y).o⟩ else none
def zfl (N : Nat) (L : List Nd) (l : List Pr) : Option Nat :=
 if (zay l).2 = true then (zh3 N L (zay l).1 (2 ^ (zay l).1.length)).bind fun a => if a.o <= a.e /\ (zay l).1.length <= 8 then some ((a.e - a.o) / 2 ^ (zay l).1.length) else none
 else some 0
theorem zzr : ∀ (f : Nat) (rest out : List Pr), (∀ q ∈ rest, q.ok) -> (∀ q ∈ out, q.ok) -> ∀ q ∈ (rdF f rest out).1, q.ok
 | 0, _, _, _, h => by rw [rdF]; exact h
 | f + 1, [], out, _, h => by rw [rdF]; exact h
 | f + 1, p :: rest, out, h1, h2 => by
   rw [rdF]
   split
   ·intro q hq; simp at hq
   refine zzr f _ _ (zoi (h1 p (by simp)) fun q hq => h1 q (by simp [hq])) ?_
   split
   ·intro q hq
    rcases List.mem_append.1 hq with hq | hq
    ·exact h2 q hq
    simp at hq; subst hq; exact h1 q (by simp)
   exact h2
theorem zjv (l : List Pr) (h : ∀ q ∈ l, q.ok) : ∀ q ∈ (zay l).1, q.ok := zzr _ _ _ h fun q hq => by simp at hq
theorem zj0 (rows : List Pr) (s : Nat) (h : ∀ q ∈ rows, q.ok) : ∀ k, k <= rows.length -> (subK rows s k).ok
 | 0, _ => Pr.zero_ok
 | k + 1, hk => by
   rw [subK]
   have hr : (rows.getD k Pr.zero).ok := by
    rw [List.getD_eq_getElem?_getD, List.getElem?_eq_getElem (by omega)]; exact h _ (List.getElem_mem _)
   split
   ·exact zv7 (zj0 rows s h k (by omega)) hr
   exact zj0 rows s h k (by omega)
theorem zgz {N : Nat} {L : List Nd} {rows : List Pr} : ∀ (T : Nat) (c : Ct), zh3 N L rows T = some c -> ∀ t, t < T -> ∃ a y, zh3 N L rows t = some a /\ zkv N L (subK rows t rows.length).v = some y /\ a.e + (zhe (subK rows t rows.length).odd y).e < 65536 /\ a.o + (zhe (subK rows t rows.length).odd y).o < 65536 /\
 zh3 N L rows (t + 1) = some ⟨a.e + (zhe (subK rows t rows.length).odd y).e, a.o + (zhe (subK rows t rows.length).odd y).o⟩
 | 0, _, _, _, ht => absurd ht (Nat.not_lt_zero _)
 | T + 1, c, h, t, ht => by
   have h0 := h;rw [zh3] at h;obtain ⟨a, ha, h1⟩ := bind_some h;obtain ⟨y, hy, h2⟩ := bind_some h1
   by_cases hlt : t < T
   ·exact zgz T a ha t hlt
   obtain rfl : t = T := by omega
   split at h2
   ·rename_i hc
    refine ⟨a, y, ha, hy, hc.1, hc.2, ?_⟩;rw [h0]; exact h2.symm
   simp at h2
theorem zwu {N : Nat} {L : List Nd} {rows : List Pr} {T : Nat} {c : Ct} (h : zh3 N L rows T = some c) : c.e < 65536 /\ c.o < 65536 := by
 cases T with
 | zero => simp [zh3] at h; subst h; exact ⟨by decide, by decide⟩
 | succ T =>
   obtain ⟨a, y, _, _, h1, h2, h3⟩ := zgz _ _ h T (Nat.lt_succ_self _);rw [h] at h3
   cases h3
   exact ⟨h1, h2⟩
def samT : List Cl := [[1, 2], [-1, 3]]
def samN : List Nd := nds (zad (chF [] false 3) false 3 samT)
theorem zzs : Gdt 3 samT [] := ⟨by decide, by decide, by decide, by decide +kernel⟩
theorem sam_w : zfl 3 samN [⟨⟨3, 0⟩, true⟩, ⟨⟨4, 0⟩, true⟩] = some 2 := by decide +kernel
theorem sam_p : zbr [193] 3 2 = [⟨⟨3, 0⟩, false⟩, ⟨St.zero, true⟩] := by decide +kernel
theorem ydb : zfl 3 samN (zbr [192] 3 1) = some 1 := by decide +kernel
theorem ydc : zfl 3 samN (zbr [208] 3 1) = some 3 := by decide +kernel
theorem ydd : zfl 3 samN (zbr [16] 3 1) = some 0 := by decide +kernel
end Go.Proofs.YtlleofjjdhfgcaaGreatDoor
