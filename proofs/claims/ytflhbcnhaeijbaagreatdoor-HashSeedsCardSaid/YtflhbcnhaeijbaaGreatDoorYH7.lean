/- Part of the proofs that laws return true for every input, where the tables that the rows list are laid. Texts: CpK, CpV, CpT, CpJ, CqU. -/
import Derived.Test.YtflhbcnhaeijbaaGreatDoorYH4
import Derived.Test.YtflhbcnhaeijbaaGreatDoorYH3
import Derived.Test.YtflhbcnhaeijbaaGreatDoorYH6
import Derived.Maps.OwnOps
import Derived.Test.YtflhbcnhaeijbaaGreatDoorYH5
import Derived.Test.YtflhbcnhaeijbaaGreatDoorYH1
set_option maxHeartbeats 8000000
set_option maxRecDepth 100000
set_option linter.unusedSimpArgs false
set_option linter.unusedVariables false
namespace Cen
def zb4 (c : Cl) : List UInt8 := c.flatMap zc9 ++ [48]
def keyC (l : List Cl) : List UInt8 := l.flatMap zb4
theorem zjh (u : Nat) : u ≠ 0 -> (Go.Lib.decDigits u).head? ≠ some 48 := by
 induction u using Nat.strongRecOn with
 | _ u ih =>
   intro hu;rw [Go.Lib.decDigits]
   split
   ·rename_i h
    intro e;simp only [List.head?_cons, Option.some.injEq] at e;have := congrArg UInt8.toNat e;rw [zc0 h] at this;have h48 : (48 : UInt8).toNat = 48 := rfl;omega
   rename_i h
   have h2 := ih (u / 10) (by omega) (by omega);have h3 := zgx (u / 10)
   cases hd : Go.Lib.decDigits (u / 10) with
   | nil => exact absurd hd h3
   | cons y t => rw [hd] at h2; simpa using h2
theorem zmh {x : Int} (h : x ≠ 0) (r : List UInt8) : (zc9 x ++ r).head? ≠ some 48 := by
 unfold zc9 Go.Lib.itoa
 split
 ·simp
 have h2 := zjh x.toNat (by omega);have h3 := zgx x.toNat
 cases hd : Go.Lib.decDigits x.toNat with
 | nil => exact absurd hd h3
 | cons y t => rw [hd] at h2; simpa using h2
theorem zmj : ∀ {c d : Cl} {r s : List UInt8}, (0 ∉ c) -> (0 ∉ d) -> zb4 c ++ r = zb4 d ++ s -> c = d /\ r = s
 | [], [], r, s, _, _, h => by simpa [zb4] using h
 | [], y :: d, r, s, _, hd, h => by
   have h1 := congrArg List.head? h;simp only [zb4, List.flatMap_nil, List.nil_append, List.flatMap_cons, List.append_assoc, List.singleton_append, List.head?_cons] at h1;exact absurd h1.symm (zmh (fun e => hd (by simp [e])) _)
 | x :: c, [], r, s, hc, _, h => by
   have h1 := congrArg List.head? h;simp only [zb4, List.flatMap_nil, List.nil_append, List.flatMap_cons, List.append_assoc, List.singleton_append, List.head?_cons] at h1;exact absurd h1 (zmh (fun e => hc (by simp [e])) _)
 | x :: c, y :: d, r, s, hc, hd, h => by
   have h' : zc9 x ++ (zb4 c ++ r) = zc9 y ++ (zb4 d ++ s) := by simpa [zb4] using h
   obtain ⟨h1, h2⟩ := zrb h';simp only [List.mem_cons, not_or] at hc hd;obtain ⟨h3, h4⟩ := zmj hc.2 hd.2 h2;exact ⟨by rw [h1, h3], h4⟩
theorem zou (c : Cl) : zb4 c ≠ [] := by simp [zb4]
theorem zot : ∀ {l m : List Cl}, (∀ c ∈ l, 0 ∉ c) -> (∀ c ∈ m, 0 ∉ c) -> keyC l = keyC m -> l = m
 | [], [], _, _, _ => rfl
 | [], d :: m, _, _, h => by
   simp only [keyC, List.flatMap_nil, List.flatMap_cons] at h;exact absurd (List.append_eq_nil_iff.1 h.symm).1 (zou d)
 | c :: l, [], _, _, h => by
   simp only [keyC, List.flatMap_nil, List.flatMap_cons] at h;exact absurd (List.append_eq_nil_iff.1 h).1 (zou c)
 | c :: l, d :: m, hl, hm, h => by
   simp only [keyC, List.flatMap_cons] at h;obtain ⟨h1, h2⟩ := zmj (hl c (by simp)) (hm d (by simp)) h;rw [h1, zot (fun x hx => hl x (by simp [hx])) (fun x hx => hm x (by simp [hx])) h2]
theorem zrf {c : Cl} (h : ∀ x ∈ c, -65536 <= x /\ x <= 65536) : (zb4 c).length <= 21 * c.length + 1 := by
 have := zti c h;unfold zb4; simp only [List.length_append, List.length_singleton]; omega
def Left1 (n : Nat) (t : List Cl) (term : Cl) (i : Int) (c : Cl) : Prop :=
 ∃ j : Nat, j < t.length /\ i = j /\ taut (t.getD j []) = false /\ (∀ x ∈ term, x ∉ zaw n (t.getD j [])) /\ c = (zaw n (t.getD j [])).filter fun y => !term.contains (-y)
theorem Left1.given {n : Nat} {t : List Cl} {term : Cl} {i : Int} {c : Cl} (h : Left1 n t term i c) {x : Int} (hx : x ∉ c) (h2 : -x ∉ term) : Left1 n t (term ++ [x]) i (c.filter fun y => decide (y ≠ -x)) := by
 obtain ⟨j, hj, hi, ht, h3, rfl⟩ := h;refine ⟨j, hj, hi, ht, fun y hy => ?_, ?_⟩
 ·rcases List.mem_append.1 hy with hy | hy
  ·exact h3 y hy
  simp at hy; subst hy;intro hm;exact hx (List.mem_filter.2 ⟨hm, by simpa using h2⟩)
 rw [List.filter_filter]
 apply List.filter_congr
 intro y _
 by_cases e : y = -x
 ·subst e; simp
 have e2 : ¬ (-y = x) := fun h => e (by omega)
 simp [e, e2]
theorem Left1.off {n : Nat} {t : List Cl} {term : Cl} {i : Int} {c : Cl} (h : Left1 n t term i c) {y : Int} (hy : y ∈ c) : y ∉ term /\ -y ∉ term := by
 obtain ⟨j, hj, hi, ht, h3, rfl⟩ := h;obtain ⟨h4, h5⟩ := List.mem_filter.1 hy;exact ⟨fun h => h3 y h h4, by simpa using h5⟩
def ClOf (n : Nat) (t : List Cl) (l : List Cl) (term : Cl) (at' : List Int) : Prop :=
 ∃ m : List (Int × Cl), at' = zcu (m.map Prod.fst) /\ m.map Prod.snd = l /\ ∀ e ∈ m, Left1 n t term e.1 e.2
def lmap (st : List Nc) : Go.Lit -> Option Go.Lit
 | .int .i64 x => (st.findIdx? (zdd x)).map fun (i : Nat) => Go.Lit.int .i64 (i : Int)
 | _ => none
def dok (cache : Bool) (st : List Nc) (d : Go.Lit -> Option Go.Lit) : Prop :=
 (∀ s y, d (.string s) = some y -> ∃ i : Nat, y = .int .i64 (i : Int) /\ i < st.length) /\
 (cache = true -> ∀ l : List Cl, (∀ c ∈ l, 0 ∉ c) -> d (.string (keyC l)) = (st.findIdx? (zbm l)).map fun (i : Nat) => Go.Lit.int .i64 (i : Int))
theorem ztw : lmap [] = fun _ => none := by
 funext y
 cases y with
 | int k x => cases k <;> rfl
 | _ => rfl
theorem zgl (st : List Nc) (x : Int) : lmap st (.int .i64 x) = (st.findIdx? (zdd x)).map fun (i : Nat) => Go.Lit.int .i64 (i : Int) := rfl
theorem zmn {st : List Nc} {c : Nc} (h : c.nd.kind ≠ 2) : lmap (st ++ [c]) = lmap st := by
 funext y
 cases y with
 | int k x =>
   cases k with
   | i64 =>
     rw [zgl, zgl, List.findIdx?_append]
     have : List.findIdx? (zdd x) [c] = none := by simp [zdd, h]
     rw [this]; cases st.findIdx? (zdd x) <;> rfl
   | _ => rfl
 | _ => rfl
theorem ztv {st : List Nc} {x : Int} (h : st.findIdx? (zdd x) = none) : lmap (st ++ [⟨⟨2, x, []⟩, none⟩]) = fun y => if y.sameKey (.int .i64 x) then some (.int .i64 (st.length : Int)) else lmap st y := by
 funext y
 cases y with
 | int k z =>
   cases k with
   | i64 =>
     rw [zgl, zgl, List.findIdx?_append]
     by_cases e : z = x
     ·subst e;rw [h]; simp [zdd, Go.Lit.sameKey]
     have e2 : ¬ (x = z) := fun h => e h.symm
     have : List.findIdx? (zdd z) [(⟨⟨2, x, []⟩, none⟩ : Nc)] = none := by simp [zdd, e2]
     rw [this]; simp [Go.Lit.sameKey, e]; 
   | _ => simp [lmap, Go.Lit.sameKey]
 | _ => simp [lmap, Go.Lit.sameKey]
theorem zof {cache : Bool} {st : List Nc} {c : Nc} {d : Go.Lit -> Option Go.Lit} (h : dok cache st d) (ht : c.tag = none) : dok cache (st ++ [c]) d := by
 refine ⟨fun s y hy => ?_, fun hc l hl => ?_⟩
 ·obtain ⟨i, h1, h2⟩ := h.1 s y hy;exact ⟨i, h1, by simp; omega⟩
 rw [h.2 hc l hl, List.findIdx?_append]
 have : List.findIdx? (zbm l) [c] = none := by simp [zbm, ht]
 rw [this]; cases st.findIdx? (zbm l) <;> rfl
theorem zv4 {cache : Bool} {st : List Nc} {c : Nc} {l : List Cl} {term : Cl} {d : Go.Lit -> Option Go.Lit} (h : dok cache st d) (ht : c.tag = some (l, term)) (hl : ∀ x ∈ l, 0 ∉ x) (hn : cache = true -> st.findIdx? (zbm l) = none) :
 dok cache (st ++ [c]) (fun y => if y.sameKey (.string (keyC l)) then some (.int .i64 (st.length : Int)) else d y) := by
 refine ⟨fun s y hy => ?_, fun hc m hm => ?_⟩
 ·simp only at hy
  split at hy
  ·simp at hy; exact ⟨st.length, hy.symm, by simp⟩
  obtain ⟨i, h1, h2⟩ := h.1 s y hy;exact ⟨i, h1, by simp; omega⟩
 rw [List.findIdx?_append]
 by_cases e : m = l
 ·subst e;rw [hn hc]; simp [Go.Lit.sameKey, zbm, ht]
 have e1 : ¬ (keyC m = keyC l) := fun h => e (zot hm hl h)
 have e2 : ¬ (l = m) := fun h => e h.symm
 have : List.findIdx? (zbm m) [c] = none := by simp [zbm, ht, e2]
 rw [this]
 have e3 : (Go.Lit.string (keyC m)).sameKey (Go.Lit.string (keyC l)) = false := by simp [Go.Lit.sameKey, e1]
 show (if (Go.Lit.string (keyC m)).sameKey (Go.Lit.string (keyC l)) = true then some (Go.Lit.int Go.IntKind.i64 (st.length : Int)) else d (Go.Lit.string (keyC m))) = _
 rw [e3, if_neg (by simp), h.2 hc m hm]
 cases st.findIdx? (zbm m) <;> rfl
def FB (v : Nat) : Nat := 2 ^ (v + 2) - 3
theorem zk2 (v : Nat) : 4 <= 2 ^ (v + 2) := by
 have : 2 ^ 2 <= 2 ^ (v + 2) := Nat.pow_le_pow_right (by omega) (by omega)
 simpa using this
theorem zm3 {a b : Nat} (h : a <= b) : FB a <= FB b := by
 unfold FB;have : 2 ^ (a + 2) <= 2 ^ (b + 2) := Nat.pow_le_pow_right (by omega) (by omega);omega
theorem zvn {c : Nat} : 2 * (FB c + 1) + 1 = FB (c + 1) := by
 unfold FB;have := zk2 c
 have e : 2 ^ (c + 1 + 2) = 2 ^ (c + 2) * 2 := by rw [<- Nat.pow_succ]
 rw [e];generalize 2 ^ (c + 2) = x at *;omega
theorem zwy {a b : Nat} (ha : 1 <= a) (hb : 1 <= b) : FB a + FB b <= FB (a + b) := by
 unfold FB
 obtain ⟨a, rfl⟩ : ∃ k, a = k + 1 := ⟨a - 1, by omega⟩
 have h1 := zk2 (a + 1);have h2 := zk2 b
 have e : 2 ^ (a + 1 + b + 2) = 2 ^ (a + 1) * 2 ^ (b + 2) := by rw [<- Nat.pow_add]; congr 1
 have e2 : 2 ^ (a + 1 + 2) = 2 ^ (a + 1) * 4 := by rw [Nat.pow_add]
 have h3 : 2 <= 2 ^ (a + 1) := by rw [Nat.pow_succ]; have : 1 <= 2 ^ a := Nat.one_le_two_pow; omega
 have h4 : 8 <= 2 ^ (b + 2) := by
  have : 2 ^ 3 <= 2 ^ (b + 2) := Nat.pow_le_pow_right (by omega) (by omega)
  simpa using this
 rw [e, e2];generalize 2 ^ (a + 1) = x at *;generalize 2 ^ (b + 2) = y at *
 obtain ⟨p, rfl⟩ : ∃ p, x = p + 2 := ⟨x - 2, by omega⟩
 obtain ⟨q, rfl⟩ : ∃ q, y = q + 8 := ⟨y - 8, by omega⟩
 have : (p + 2) * (q + 8) = p * q + 8 * p + 2 * q + 16 := by
  rw [Nat.add_mul, Nat.mul_add, Nat.mul_add, Nat.mul_comm p 8]; omega
 rw [this];have : 0 <= p * q := Nat.zero_le _;omega
theorem zuy : ∀ cs : List Nat, (∀ c ∈ cs, 1 <= c) -> (cs.map FB).sum <= FB cs.sum
 | [], _ => by simp
 | [c], _ => by simp
 | c :: d :: cs, h => by
   have ih := zuy (d :: cs) fun x hx => h x (by simp [hx])
   have h1 := h c (by simp)
   have h2 : 1 <= (d :: cs).sum := by have := h d (by simp); simp; omega
   rw [List.map_cons, List.sum_cons, List.sum_cons];exact Nat.le_trans (Nat.add_le_add_left ih _) (zwy h1 h2)
theorem zjz {l : List Nat} : ∀ (ps : List (Nat -> Bool)) (q : Nat -> Bool), (ps.Pairwise fun f g => ∀ j, ¬ (f j = true /\ g j = true)) -> (∀ f ∈ ps, ∀ j, f j = true -> q j = true) -> (ps.map fun f => l.countP f).sum <= l.countP q
 | [], _, _, _ => by simp
 | f :: ps, q, hd, hs => by
   rw [List.pairwise_cons] at hd
   have e : l.countP q = l.countP f + l.countP (fun j => q j && !f j) := by
    rw [<- zl3 (fun j => by rintro ⟨a, b⟩; rw [a] at b; simp at b)]
    congr 1; funext j
    cases hf : f j with
    | true => simp [hs f (by simp) j hf]
    | false => simp
   have ih := zjz (l := l) ps (fun j => q j && !f j) hd.2 fun g hg j hj => by
    rw [hs g (by simp [hg]) j hj]
    cases hf : f j with
    | false => rfl
    | true => exact absurd ⟨hf, hj⟩ (hd.1 g hg j)
   rw [List.map_cons, List.sum_cons, e];omega
theorem zp4 (l : List Cl) : ((zaj l).map fun p => card (zaf p)).sum <= card (zaf l) := by
 have h := zjz (l := List.range 128) ((zaj l).map fun p => fun (j : Nat) => (zaf p).mem ((j : Int) + 1)) (fun (j : Nat) => (zaf l).mem ((j : Int) + 1)) (by
  rw [List.pairwise_map]
  exact (zo6 l).imp fun h j => h _) (fun f hf j hj => by
  obtain ⟨p, hp, rfl⟩ := List.mem_map.1 hf
  exact zgs hp hj)
 rw [List.map_map] at h;exact h
theorem zf4 {l p : List Cl} (hp : p ∈ zaj l) : card (zaf p) <= card (zaf l) := zhx fun _ h => zgs hp h
theorem zoc {n : Nat} (hn : n <= 128) {l : List Cl} (hg : gL n l) (hne : l ≠ []) (h2 : ∀ c ∈ l, 2 <= c.length) : 1 <= card (zaf l) := by
 match l, hne with
 | c :: l, _ =>
   have hl := h2 c (by simp)
   match c, hl with
   | x :: c, _ =>
     have hx := (hg.gc (x :: c) (by simp)).lv hn (x := x) (by simp);have hm := zhh (l := (x :: c) :: l) (c := x :: c) (by simp) (x := x) (by simp) hx;have hr := znn hm;have := zna (s := zaf ((x :: c) :: l)) (t := St.zero) (fun v h => by rw [St.mem_zero] at h; simp at h) hm (St.mem_zero _) hr.1 hr.2;omega
section
variable {ch : List Cl -> Int} {R : List Cl -> Cl -> Prop} {cache : Bool} {n : Nat}
def zm4 (ch : List Cl -> Int) (R : List Cl -> Cl -> Prop) (cache : Bool) (n : Nat) (f : Nat) (fit : List Nc -> List Cl -> Cl -> List Nc × List Nat) : Prop :=
 ∀ st l term, InvR ch R cache n st -> gL n l -> R l term -> card (zaf l) < f ->
  ∃ r, (fit st l term).1 = st ++ r /\ InvR ch R cache n (st ++ r) /\ Fit (st ++ r) l (fit st l term).2 /\ r.countP zbg <= FB (card (zaf l)) /\ Under st r l
theorem zes (hn : n <= 128) (hC : Closed R n) {f : Nat} {fit : List Nc -> List Cl -> Cl -> List Nc × List Nat} (hf : zm4 ch R cache n f fit) {st : List Nc} {l : List Cl} {term : Cl} {x : Int}
 (h : InvR ch R cache n st) (hg : gL n l) (hR : R l term) (hx : litN n x) (hv : (zaf l).mem (zac x) = true) (hc : card (zaf l) <= f) :
 ∃ r, (zco fit st l term x).1 = st ++ r /\ InvR ch R cache n (st ++ r) /\ Side (st ++ r) l x (zco fit st l term x).2 /\ (zco fit st l term x).2 < (st ++ r).length /\ r.countP zbg <= FB (card (zaf l) - 1) + 1 /\ Under st r (zai l x) := by
 have hx0 := (hx.ok hn).1;have hrg := znn hv
 have hlt : card (zaf (zai l x)) < card (zaf l) := zna (fun v hv => (zbc hx0 hv).1) hv (by
  cases e : (zaf (zai l x)).mem (zac x) with
  | false => rfl
  | true => exact absurd rfl (zbc hx0 e).2) hrg.1 hrg.2
 obtain ⟨r, h1, h2, h3, h4, h5⟩ := zfx h hx;unfold zco
 by_cases hz : zai l x = []
 ·rw [if_pos hz];exact ⟨r, h1, h2, .inl ⟨hz, h3⟩, h3.lt, by rw [h4]; omega, h5 _⟩
 rw [if_neg hz];obtain ⟨q, k1, k2, k3, k4, k5⟩ := hf (litF st x).1 (zai l x) (term ++ [x]) (by rw [h1]; exact h2) (zbl hg.gc x) (hC.given _ _ _ hR hg hx hv) (by omega);generalize fit (litF st x).1 (zai l x) (term ++ [x]) = F at *;rw [h1] at k1 k2 k3 k5
 have e : F.1 ++ [(⟨⟨3, 0, ((litF st x).2 : Int) :: F.2.map fun (i : Nat) => (i : Int)⟩, none⟩ : Nc)] = st ++ (r ++ q ++ [⟨⟨3, 0, zag ((litF st x).2 :: F.2)⟩, none⟩]) := by rw [k1]; simp [zag]
 have e2 : F.1.length = (st ++ (r ++ q)).length := by rw [k1, List.append_assoc]
 have e3 : st ++ (r ++ q ++ [(⟨⟨3, 0, zag ((litF st x).2 :: F.2)⟩, none⟩ : Nc)]) = (st ++ (r ++ q)) ++ [⟨⟨3, 0, zag ((litF st x).2 :: F.2)⟩, none⟩] := by simp
 rw [List.append_assoc] at k2 k3
 have hl2 : isLit (st ++ (r ++ q)) (litF st x).2 x := by rw [<- List.append_assoc]; exact h3.more
 refine ⟨r ++ q ++ [⟨⟨3, 0, zag ((litF st x).2 :: F.2)⟩, none⟩], e, ?_, ?_, ?_, ?_, ?_⟩
 ·rw [e3];exact k2.snoc (.and hl2.lt k3.lt hg hl2 hz k3) (fun l t e => by simp at e) (fun y e => by simp at e) (fun _ l t e => by simp at e)
 ·rw [e3];refine .inr ⟨hz, ⟨⟨3, 0, zag ((litF st x).2 :: F.2)⟩, none⟩, (litF st x).2, F.2, by rw [e2]; simp, rfl, rfl, hl2.more, k3.more, by rw [e2]; exact hl2.lt, by rw [e2]; exact k3.lt⟩
 ·rw [e3, e2]; simp
 ·rw [List.countP_append, List.countP_append, h4];have : FB (card (zaf (zai l x))) <= FB (card (zaf l) - 1) := zm3 (by omega);have : List.countP zbg [(⟨⟨3, 0, zag ((litF st x).2 :: F.2)⟩, none⟩ : Nc)] <= 1 := List.countP_le_length;omega
 exact ((h5 _).app k5).app (Under.one fun l' t e => by simp at e)
theorem zf1 {x : Int} (h : litN n x) : litN n (-x) := ⟨by have := h.1; omega, by have := h.2; omega, by have := h.2; omega⟩
theorem zgy (hn : n <= 128) (hC : Closed R n) (hch : Chooses ch n) {f : Nat} {fit : List Nc -> List Cl -> Cl -> List Nc × List Nat} (hf : zm4 ch R cache n f fit) {st : List Nc} {l : List Cl} {term : Cl}
 (h : InvR ch R cache n st) (hg : gL n l) (hR : R l term) (hne : l ≠ []) (h2 : ∀ c ∈ l, 2 <= c.length) (hc : card (zaf l) <= f) :
 ∃ r, (zau fit ch st l term).1 = st ++ r /\ InvR ch R cache n (st ++ r) /\ r.countP zbg + 1 <= FB (card (zaf l)) /\ Under st r l /\ (∀ i, st.length <= i -> ¬ tagged (st ++ r) i l) /\
  Form ch n (st ++ r) (st ++ r).length ⟨(zau fit ch st l term).2, some (l, term)⟩ /\ (zau fit ch st l term).2.kind = 4 := by
 obtain ⟨c1, c2, c3⟩ := hch.ch l hg hne h2
 have hx : litN n (ch l) := ⟨by omega, by omega, c2⟩
 have hlv : zac (ch l) = ch l := by rw [zal (by omega) (by omega) (by omega), if_neg (by omega)]
 have hx0 := (hx.ok hn).1;have hnx0 := ((zf1 hx).ok hn).1;obtain ⟨r, a1, a2, a3, a4, a5, a6⟩ := zes hn hC hf h hg hR (zf1 hx) (by rw [zca, hlv]; exact c3) hc;unfold zau;generalize zco fit st l term (-ch l) = A at *
 have a2' : InvR ch R cache n A.1 := by rw [a1]; exact a2
 obtain ⟨q, b1, b2, b3, b4, b5, b6⟩ := zes hn hC hf a2' hg hR hx (by rw [hlv]; exact c3) hc;generalize zco fit A.1 l term (ch l) = B at *;rw [a1, List.append_assoc] at b1 b2 b3 b4;rw [a1] at b6
 have hu1 := a6.mono fun v hv => (zbc hnx0 hv).1
 have hu2 := b6.mono fun v hv => (zbc hx0 hv).1
 refine ⟨r ++ q, b1, b2, ?_, hu1.app hu2, fun i hi ht => ?_, ?_, rfl⟩
 ·rw [List.countP_append];have hp := zoc hn hg hne h2
  have : FB (card (zaf l)) = 2 * (FB (card (zaf l) - 1) + 1) + 1 := by rw [zvn]; congr 1; omega
  omega
 ·rw [<- List.append_assoc] at ht
  rcases Nat.lt_or_ge i (st ++ r).length with hj | hj
  ·obtain ⟨c, t, p, s⟩ := ht;rw [List.getElem?_append_left hj] at p;have := zbc hnx0 (a6 i l hi ⟨c, t, p, s⟩ (ch l) c3);rw [zca, hlv] at this; exact this.2 rfl
  have := zbc hx0 (b6 i l hj ht (ch l) c3);rw [hlv] at this; exact this.2 rfl
 refine .dec hg hne h2 c1 c2 c3 ?_ b4 ?_ b3
 ·rw [<- List.append_assoc, List.length_append]; omega
 rw [<- List.append_assoc]; exact a3.more
theorem zo7 {st : List Nc} (h : Inv ch n st) {l : List Cl} (hne : l ≠ []) (h2 : ∀ c ∈ l, 2 <= c.length) (i : Nat) (c : Nc) (t : Cl) (hc : st[i]? = some c) (ht : c.tag = some (l, t)) : c.nd.kind = 4 := by
 have hf := h i c hc
 cases hf with
 | lit a b => rw [b] at ht; simp at ht
 | bad a => simp at ht; have := h2 [] (by rw [<- ht.1]; simp); simp at this
 | dec => rfl
 | and => simp at ht
theorem zsc {st : List Nc} (h : Inv ch n st) {l : List Cl} (i : Nat) (c : Nc) (t : Cl) (hc : st[i]? = some c) (ht : c.tag = some ([] :: l, t)) : c.nd = ⟨0, 0, []⟩ := by
 have hf := h i c hc
 cases hf with
 | lit a b => rw [b] at ht; simp at ht
 | bad a => rfl
 | dec g _ g2 => simp at ht; have := g2 [] (by rw [ht.1]; simp); simp at this
 | and => simp at ht
theorem zi1 (f : Nat) (dec : List Nc -> List Cl -> List Nc × Nd) (term : Cl)
 (hd : ∀ st p, InvR ch R cache n st -> gL n p -> R p term -> p ≠ [] -> (∀ c ∈ p, 2 <= c.length) -> card (zaf p) <= f ->
   ∃ r, (dec st p).1 = st ++ r /\ InvR ch R cache n (st ++ r) /\ r.countP zbg + 1 <= FB (card (zaf p)) /\ Under st r p /\ (∀ i, st.length <= i -> ¬ tagged (st ++ r) i p) /\ Form ch n (st ++ r) (st ++ r).length ⟨(dec st p).2, some (p, term)⟩ /\ (dec st p).2.kind = 4) :
 ∀ (ps : List (List Cl)) (acc : List Nc × List Nat), InvR ch R cache n acc.1 -> (∀ p ∈ ps, gL n p /\ R p term /\ p ≠ [] /\ (∀ c ∈ p, 2 <= c.length) /\ card (zaf p) <= f) ->
 ∃ r i', (za6 cache dec term ps acc).1 = acc.1 ++ r /\ InvR ch R cache n (acc.1 ++ r) /\ (za6 cache dec term ps acc).2 = acc.2 ++ i' /\ i'.length = ps.length /\
  (∀ k, k < i'.length -> tagged (acc.1 ++ r) (i'.getD k 0) (ps.getD k []) /\ ∃ c, (acc.1 ++ r)[i'.getD k 0]? = some c /\ c.nd.kind = 4) /\ r.countP zbg <= (ps.map fun p => FB (card (zaf p))).sum /\
  (∀ m, (∀ p ∈ ps, ∀ v, (zaf p).mem v = true -> (zaf m).mem v = true) -> Under acc.1 r m)
 | [], acc, h, _ => ⟨[], [], by simp [za6], by simpa using h, by simp [za6], rfl, fun k hk => by simp at hk, by simp, fun m _ => Under.nil _ _⟩
 | p :: ps, acc, h, hp => by
   obtain ⟨g1, g2, g3, g4, g5⟩ := hp p (by simp);obtain ⟨r, d1, d2, d3, d4, d5, d6, d7⟩ := hd acc.1 p h g1 g2 g3 g4 g5;obtain ⟨q, a1, a2, a3, a4, a5, a6⟩ := zef h p term g2 (fun s => dec s p) (FB (card (zaf p))) (fun x => x.kind = 4) (fun i c t hc ht => zo7 h.inv g3 g4 i c t hc ht) ⟨r, d1, d2, d3, d4, d5, d6, d7, by rw [d7]; omega⟩;have e : za6 cache dec term (p :: ps) acc = za6 cache dec term ps ((zam cache acc.1 p term fun s => dec s p).1, acc.2 ++ [(zam cache acc.1 p term fun s => dec s p).2]) := rfl;rw [e];generalize zam cache acc.1 p term (fun s => dec s p) = Z at *;obtain ⟨r', i', b1, b2, b3, b4, b5, b6, b7⟩ := zi1 f dec term hd ps (Z.1, acc.2 ++ [Z.2]) (by rw [a1]; exact a2) (fun p' hp' => hp p' (by simp [hp']))
   simp only at b1 b2 b3 b5 b6 b7;generalize za6 cache dec term ps (Z.1, acc.2 ++ [Z.2]) = Y at *;rw [a1] at b1 b2 b5 b7;rw [List.append_assoc] at b1 b2 b5;refine ⟨q ++ r', Z.2 :: i', b1, b2, by rw [b3]; simp, by simp [b4], fun k hk => ?_, ?_, fun m hm => ?_⟩
   ·cases k with
    | zero =>
      refine ⟨by rw [<- List.append_assoc]; exact a3.more, ?_⟩;obtain ⟨c, hc, hk⟩ := a4;exact ⟨c, by rw [<- List.append_assoc]; exact zdw hc, hk⟩
    | succ k => exact b5 k (by simpa using hk)
   ·rw [List.countP_append, List.map_cons, List.sum_cons]; omega
   exact (a6.mono (hm p (by simp))).app (b7 m fun p' hp' => hm p' (by simp [hp']))
theorem zdl (hn : n <= 128) (hC : Closed R n) (hch : Chooses ch n) : ∀ f, zm4 ch R cache n f (fitF ch cache f)
 | 0 => fun st l term _ _ _ hc => absurd hc (by omega)
 | f + 1 => fun st l term h hg hR hc => by
   obtain ⟨r, i', u1, u2, u3, u4, u5, u6, u7, u8, u9, u10⟩ := zi9 hn hC l.length ⟨st, l, term, []⟩ h hg hR;simp only at u1 u2 u5 u7 u8 u9 u10;rw [fitF];generalize zap l.length ⟨st, l, term, []⟩ = U at *
   have hu1 : InvR ch R cache n U.st := by rw [u1]; exact u2
   have hcu : card (zaf U.l) <= card (zaf l) := zhx u8;have hfb : FB (card (zaf U.l)) <= FB (card (zaf l)) := zm3 hcu
   have h1 : 1 <= FB (card (zaf l)) := by unfold FB; have := zk2 (card (zaf l)); omega
   by_cases he : za7 U.l = true
   ·rw [if_pos he]
    obtain ⟨L, hL⟩ : ∃ L, U.l = [] :: L := by
     match hh : U.l with
     | [] => rw [hh] at he; simp [za7] at he
     | [] :: L => exact ⟨L, rfl⟩
     | (x :: c) :: L => rw [hh] at he; simp [za7] at he
    obtain ⟨q, a1, a2, a3, a4, a5, a6⟩ := zef hu1 U.l U.term u4 (fun s => (s, ⟨0, 0, []⟩)) 1 (fun x => x = ⟨0, 0, []⟩) (fun i c t hc ht => zsc hu1.inv i c t hc (by rw [ht, hL]))
     ⟨[], by simp, by simpa using hu1, by simp, Under.nil _ _, fun i hi ht => by have := ht.lt; simp at this; omega, by rw [hL]; exact .bad (by rw [<- hL]; exact u3), rfl, by simp⟩
    generalize zam cache U.st U.l U.term (fun s => (s, ⟨0, 0, []⟩)) = Z at *;rw [u1] at a1 a2 a3 a4 a6;rw [List.append_assoc] at a1 a2 a3 a4;refine ⟨r ++ q, a1, a2, ?_, by rw [List.countP_append]; omega, (u7 l).app (a6.mono u8)⟩;rw [u5, List.nil_append]
    have := u9 q [Z.2] (by
     rw [hL, List.append_assoc]
     refine .bad (by rw [<- hL]; exact a3) a4)
    rw [List.append_assoc] at this; exact this
   rw [if_neg he];have h2 := znk u3.so;have hnu := u10 (Nat.le_refl _);have hl2 := znk u3.so hnu (by simpa using he)
   obtain ⟨q, j', a1, a2, a3, a4, a5, a6, a7⟩ := zi1 (R := R) f (fun s part => zau (fitF ch cache f) ch s part U.term) U.term
    (fun st p hi hg hR hne h2 hc => zgy hn hC hch (zdl hn hC hch f) hi hg hR hne h2 hc) (zaj U.l) (U.st, U.ins) hu1 (fun p hp => by
      obtain ⟨g1, g2, g3⟩ := zcx u3.gc hp
      exact ⟨g1, hC.split _ _ _ u4 u3 hp, g2, fun c hc => hl2 c (g3 c hc), by have := zf4 hp; omega⟩)
   simp only at a1 a2 a3 a5 a7;generalize za6 cache (fun s part => zau (fitF ch cache f) ch s part U.term) U.term (zaj U.l) (U.st, U.ins) = Z at *;rw [u1] at a1 a2 a5 a7;rw [List.append_assoc] at a1 a2 a5;refine ⟨r ++ q, a1, a2, ?_, ?_, (u7 l).app (a7 l fun p hp v hv => u8 v (zgs hp hv))⟩
   ·rw [a3, u5, List.nil_append]
    have := u9 q j' (by
     rw [List.append_assoc]
     exact .parts hl2 a4 a5)
    rw [List.append_assoc] at this; exact this
   rw [List.countP_append, u6]
   have hs := zuy ((zaj U.l).map fun p => card (zaf p)) (fun c hc => by
    obtain ⟨p, hp, rfl⟩ := List.mem_map.1 hc;obtain ⟨g1, g2, g3⟩ := zcx u3.gc hp
    exact zoc hn g1 g2 fun c hc => hl2 c (g3 c hc))
   rw [List.map_map] at hs;have hs2 : ((zaj U.l).map fun p => FB (card (zaf p))).sum <= FB ((zaj U.l).map fun p => card (zaf p)).sum := hs;have := zm3 (zp4 U.l);omega
end
def RT (n : Nat) (t : List Cl) (l : List Cl) (term : Cl) : Prop := gT n term /\ ∀ c ∈ l, ∃ i, Left1 n t term i c
theorem RT.off {n : Nat} (hn : n <= 128) {t l : List Cl} {term : Cl} (h : RT n t l term) (hg : ∀ c ∈ l, gC n c) {x : Int} (hx : litN n x) (hv : (zaf l).mem (zac x) = true) : x ∉ term /\ -x ∉ term := by
 obtain ⟨c, hc, hm⟩ := za8.1 hv;obtain ⟨_, y, hy, e⟩ := zdr.1 hm;have hr := (hg c hc).rg y hy;have h0 := hx.1;have h2 := hx.2
 have e2 : y = x \/ y = -x := by
  rw [zal hr.1 (by omega) (by omega), zal h0 (by omega) (by omega)] at e;exact zqk e
 obtain ⟨i, hi⟩ := h.2 c hc;obtain ⟨a, b⟩ := hi.off hy
 rcases e2 with rfl | rfl
 ·exact ⟨a, b⟩
 exact ⟨by simpa using b, a⟩
theorem zbt {n : Nat} (hn : n <= 128) (t : List Cl) : Closed (RT n t) n := ⟨fun l term x h hg hx hv => by
 obtain ⟨h1, h2⟩ := h.off hn hg.gc hx hv;refine ⟨h.1.snoc hx hn h1 h2, fun d hd => ?_⟩;obtain ⟨c, hc, hxc, rfl⟩ := zcb.1 hd;obtain ⟨i, hi⟩ := h.2 c hc
 exact ⟨i, hi.given hxc h2⟩,
 fun l term p h _ hp => ⟨h.1, fun c hc => h.2 c (zci.1 ⟨p, hp, hc⟩)⟩⟩
theorem zfw (st : List Nc) (x : Int) : st.length <= (litF st x).1.length := by
 unfold litF
 split
 ·exact Nat.le_refl _
 simp
theorem zee (cache : Bool) (st : List Nc) (l : List Cl) (term : Cl) (mk : List Nc -> List Nc × Nd) (h : st.length <= (mk st).1.length) : st.length <= (zam cache st l term mk).1.length := by
 unfold zam
 split
 ·exact Nat.le_refl _
 simp; omega
theorem zfj : ∀ (f : Nat) (u : Us), u.st.length <= (zap f u).st.length
 | 0, u => Nat.le_refl _
 | f + 1, ⟨st, l, term, ins⟩ => by
   match l with
   | [x] :: l => exact Nat.le_trans (zfw st x) (zfj f ⟨(litF st x).1, zai ([x] :: l) x, term ++ [x], ins ++ [(litF st x).2]⟩)
   | [] => exact Nat.le_refl _
   | [] :: l => exact Nat.le_refl _
   | (x :: y :: c) :: l => exact Nat.le_refl _
section
variable {fit : List Nc -> List Cl -> Cl -> List Nc × List Nat} (hf : ∀ st l term, st.length <= (fit st l term).1.length)
include hf
theorem zgr (st : List Nc) (l : List Cl) (term : Cl) (x : Int) : st.length <= (zco fit st l term x).1.length := by
 unfold zco
 split
 ·exact zfw st x
 have h1 := zfw st x;have h2 := hf (litF st x).1 (zai l x) (term ++ [x]);simp only [List.length_append, List.length_cons, List.length_nil];omega
theorem zd9 (ch : List Cl -> Int) (st : List Nc) (l : List Cl) (term : Cl) : st.length <= (zau fit ch st l term).1.length :=
 Nat.le_trans (zgr hf st l term (-ch l)) (zgr hf _ l term (ch l))
end
theorem zd1 (cache : Bool) (dec : List Nc -> List Cl -> List Nc × Nd) (hd : ∀ st p, st.length <= (dec st p).1.length) (term : Cl) : ∀ (ps : List (List Cl)) (acc : List Nc × List Nat), acc.1.length <= (za6 cache dec term ps acc).1.length
 | [], acc => Nat.le_refl _
 | p :: ps, acc => Nat.le_trans (zee cache acc.1 p term (fun s => dec s p) (hd acc.1 p)) (zd1 cache dec hd term ps ((zam cache acc.1 p term fun s => dec s p).1, acc.2 ++ [(zam cache acc.1 p term fun s => dec s p).2]))
theorem zec (ch : List Cl -> Int) (cache : Bool) : ∀ (f : Nat) (st : List Nc) (l : List Cl) (term : Cl), st.length <= (fitF ch cache f st l term).1.length
 | 0, st, l, term => Nat.le_refl _
 | f + 1, st, l, term => by
   have h : st.length <= (zap l.length ⟨st, l, term, []⟩).st.length := zfj l.length ⟨st, l, term, []⟩;rw [fitF];generalize zap l.length ⟨st, l, term, []⟩ = U at *
   split
   ·exact Nat.le_trans h (zee _ _ _ _ _ (Nat.le_refl _))
   exact Nat.le_trans h (zd1 cache (fun s p => zau (fitF ch cache f) ch s p U.term) (fun s p => zd9 (zec ch cache f) ch s p U.term) U.term (zaj U.l) (U.st, U.ins))
theorem zns (cache : Bool) (dec : List Nc -> List Cl -> List Nc × Nd) (term : Cl) (ps : List (List Cl)) (acc : List Nc × List Nat) (k : Nat) : za6 cache dec term (ps.drop k) (za6 cache dec term (ps.take k) acc) = za6 cache dec term ps acc := by
 unfold za6;rw [<- List.foldl_append, List.take_append_drop]
theorem znt (cache : Bool) (dec : List Nc -> List Cl -> List Nc × Nd) (term : Cl) (ps : List (List Cl)) (acc : List Nc × List Nat) {k : Nat} (hk : k < ps.length) :
 za6 cache dec term (ps.take (k + 1)) acc = ((zam cache (za6 cache dec term (ps.take k) acc).1 ps[k] term fun s => dec s ps[k]).1, (za6 cache dec term (ps.take k) acc).2 ++ [(zam cache (za6 cache dec term (ps.take k) acc).1 ps[k] term fun s => dec s ps[k]).2]) := by
 rw [List.take_succ_eq_append_getElem hk];unfold za6;rw [List.foldl_append]
 rfl
theorem zuu {cache : Bool} {st r : List Nc} {l : List Cl} (h : st.findIdx? (zbm l) = none) (hr : ∀ i, st.length <= i -> ¬ tagged (st ++ r) i l) : (st ++ r).findIdx? (zbm l) = none := by
 rw [List.findIdx?_eq_none_iff] at h ⊢;intro c hc
 rcases List.mem_append.1 hc with hc | hc
 ·exact h c hc
 cases e : zbm l c with
 | false => rfl
 | true =>
   obtain ⟨t, ht⟩ := zgi.1 e;obtain ⟨i, hi, rfl⟩ := List.getElem_of_mem hc;exact absurd ⟨r[i], t, by rw [List.getElem?_append_right (by omega), show st.length + i - st.length = i by omega, List.getElem?_eq_getElem hi], ht⟩ (hr (st.length + i) (by omega))
def usedBy (st : List Nc) (i : Nat) (k : Int) : Prop := ∃ c ∈ st, (i : Int) ∈ c.nd.ins /\ c.nd.kind = k
def UsdC (st : List Nc) (i : Nat) (c : Nc) : Prop := c.nd.kind = 2 \/ (c.nd.kind = 3 /\ usedBy st i 4) \/ usedBy st i 3
theorem usedBy.more {st r : List Nc} {i : Nat} {k : Int} (h : usedBy st i k) : usedBy (st ++ r) i k :=
 let ⟨c, h1, h2⟩ := h; ⟨c, List.mem_append_left _ h1, h2⟩
theorem UsdC.more {st r : List Nc} {i : Nat} {c : Nc} (h : UsdC st i c) : UsdC (st ++ r) i c := by
 rcases h with h | ⟨h1, h2⟩ | h
 ·exact .inl h
 ·exact .inr (.inl ⟨h1, h2.more⟩)
 exact .inr (.inr h.more)
def NewU (st st' : List Nc) (P : Nat -> Nc -> Prop) : Prop := ∃ r, st' = st ++ r /\ ∀ i c, st.length <= i -> (st ++ r)[i]? = some c -> UsdC (st ++ r) i c \/ P i c
theorem NewU.refl (st : List Nc) (P : Nat -> Nc -> Prop) : NewU st st P := ⟨[], by simp, fun i c h1 h2 => by
 have := zb8 h2; simp at this; omega⟩
theorem NewU.trans {st st1 st2 : List Nc} {P Q R : Nat -> Nc -> Prop} (h : NewU st st1 P) (k : NewU st1 st2 Q) (hP : ∀ i c, P i c -> R i c) (hQ : ∀ i c, Q i c -> R i c) : NewU st st2 R := by
 obtain ⟨r, rfl, h2⟩ := h;obtain ⟨q, rfl, k2⟩ := k;refine ⟨r ++ q, by simp, fun i c hi hc => ?_⟩;rw [<- List.append_assoc] at hc ⊢
 rcases Nat.lt_or_ge i (st ++ r).length with hj | hj
 ·rw [List.getElem?_append_left hj] at hc;exact (h2 i c hi hc).imp (fun u => u.more) (hP i c)
 exact (k2 i c hj hc).imp id (hQ i c)
theorem NewU.snoc {st st1 : List Nc} {P R : Nat -> Nc -> Prop} (h : NewU st st1 P) (c : Nc) (hP : ∀ i d, P i d -> UsdC (st1 ++ [c]) i d) (hc : R st1.length c) : NewU st (st1 ++ [c]) R := by
 obtain ⟨r, rfl, h2⟩ := h;refine ⟨r ++ [c], by simp, fun i d hi hd => ?_⟩;rw [<- List.append_assoc] at hd ⊢
 rcases Nat.lt_or_ge i (st ++ r).length with hj | hj
 ·rw [List.getElem?_append_left hj] at hd
  rcases h2 i d hi hd with u | u
  ·exact .inl u.more
  exact .inl (hP i d u)
 have e : i = (st ++ r).length := by have := zb8 hd; simp at this; simp at hj; simp; omega
 subst e;rw [List.getElem?_append_right (Nat.le_refl _)] at hd;simp at hd; subst hd;exact .inr hc
theorem zir (st : List Nc) (x : Int) (P : Nat -> Nc -> Prop) : NewU st (litF st x).1 P := by
 unfold litF
 split
 ·exact NewU.refl _ _
 refine ⟨[⟨⟨2, x, []⟩, none⟩], rfl, fun i c hi hc => .inl (.inl ?_)⟩
 have e : i = st.length := by have := zb8 hc; simp at this; omega
 subst e; simp at hc; subst hc; rfl
theorem zg0 (cache : Bool) (st : List Nc) (l : List Cl) (term : Cl) (mk : List Nc -> List Nc × Nd)
 (hm : NewU st (mk st).1 fun i c => c.nd.kind = 3 /\ (mk st).2.kind = 4 /\ (i : Int) ∈ (mk st).2.ins) (hk : (mk st).2.kind ≠ 3) :
 NewU st (zam cache st l term mk).1 fun i c => i = (zam cache st l term mk).2 /\ c.nd.kind ≠ 3 := by
 unfold zam
 split
 ·exact NewU.refl _ _
 exact hm.snoc _ (fun i d hd => .inr (.inl ⟨hd.1, ⟨⟨(mk st).2, some (l, term)⟩, by simp, hd.2.2, hd.2.1⟩⟩)) ⟨rfl, hk⟩
theorem zja : ∀ (f : Nat) (u : Us) (P : Nat -> Nc -> Prop), NewU u.st (zap f u).st P
 | 0, u, P => NewU.refl _ _
 | f + 1, ⟨st, l, term, ins⟩, P => by
   match l with
   | [x] :: l => exact (zir st x P).trans (zja f ⟨(litF st x).1, zai ([x] :: l) x, term ++ [x], ins ++ [(litF st x).2]⟩ P) (fun _ _ h => h) fun _ _ h => h
   | [] => exact NewU.refl _ _
   | [] :: l => exact NewU.refl _ _
   | (x :: y :: c) :: l => exact NewU.refl _ _
section
variable {fit : List Nc -> List Cl -> Cl -> List Nc × List Nat} (hf : ∀ st l term, NewU st (fit st l term).1 fun i c => i ∈ (fit st l term).2 /\ c.nd.kind ≠ 3)
include hf
theorem zkk (st : List Nc) (l : List Cl) (term : Cl) (x : Int) : NewU st (zco fit st l term x).1 fun i c => i = (zco fit st l term x).2 /\ c.nd.kind = 3 := by
 unfold zco
 split
 ·exact zir st x _
 refine ((zir st x (fun _ _ => False)).trans (hf (litF st x).1 (zai l x) (term ++ [x])) (fun _ _ h => h.elim) fun _ _ h => h).snoc ⟨⟨3, 0, ((litF st x).2 : Int) :: (fit (litF st x).1 (zai l x) (term ++ [x])).2.map fun (i : Nat) => (i : Int)⟩, none⟩ (fun i d hd => .inr (.inr ⟨_, List.mem_append_right _ (List.mem_singleton.2 rfl), ?_, rfl⟩)) ⟨rfl, rfl⟩;simp only [List.mem_cons, List.mem_map];exact .inr ⟨i, hd.1, rfl⟩
theorem zl4 (ch : List Cl -> Int) (st : List Nc) (l : List Cl) (term : Cl) : NewU st (zau fit ch st l term).1 fun i c => c.nd.kind = 3 /\ (zau fit ch st l term).2.kind = 4 /\ (i : Int) ∈ (zau fit ch st l term).2.ins := by
 refine (zkk hf st l term (-ch l)).trans (zkk hf (zco fit st l term (-ch l)).1 l term (ch l)) (fun i c h => ?_) fun i c h => ?_
 ·exact ⟨h.2, rfl, by rw [h.1]; simp [zau]⟩
 exact ⟨h.2, rfl, by rw [h.1]; simp [zau]⟩
end
theorem zi2 (cache : Bool) (dec : List Nc -> List Cl -> List Nc × Nd) (hd : ∀ st p, NewU st (dec st p).1 fun i c => c.nd.kind = 3 /\ (dec st p).2.kind = 4 /\ (i : Int) ∈ (dec st p).2.ins) (hk : ∀ st p, (dec st p).2.kind ≠ 3) (term : Cl) :
 ∀ (ps : List (List Cl)) (acc : List Nc × List Nat), (∀ i ∈ acc.2, i ∈ (za6 cache dec term ps acc).2) /\ NewU acc.1 (za6 cache dec term ps acc).1 fun i c => i ∈ (za6 cache dec term ps acc).2 /\ c.nd.kind ≠ 3
 | [], acc => ⟨fun i h => h, NewU.refl _ _⟩
 | p :: ps, acc => by
   have e : za6 cache dec term (p :: ps) acc = za6 cache dec term ps ((zam cache acc.1 p term fun s => dec s p).1, acc.2 ++ [(zam cache acc.1 p term fun s => dec s p).2]) := rfl;rw [e];have h1 := zg0 cache acc.1 p term (fun s => dec s p) (hd acc.1 p) (hk acc.1 p);obtain ⟨h2, h3⟩ := zi2 cache dec hd hk term ps ((zam cache acc.1 p term fun s => dec s p).1, acc.2 ++ [(zam cache acc.1 p term fun s => dec s p).2]);refine ⟨fun i hi => h2 i (by simp [hi]), h1.trans h3 (fun i c h => ⟨h2 i (by simp [h.1]), h.2⟩) fun i c h => h⟩
theorem zma (ch : List Cl -> Int) (cache : Bool) : ∀ (f : Nat) (st : List Nc) (l : List Cl) (term : Cl), NewU st (fitF ch cache f st l term).1 fun i c => i ∈ (fitF ch cache f st l term).2 /\ c.nd.kind ≠ 3
 | 0, st, l, term => NewU.refl _ _
 | f + 1, st, l, term => by
   have h := zja l.length ⟨st, l, term, []⟩ (fun _ _ => False);rw [fitF];generalize zap l.length ⟨st, l, term, []⟩ = U at *
   split
   ·exact h.trans (zg0 cache U.st U.l U.term (fun s => (s, ⟨0, 0, []⟩)) (NewU.refl _ _) (by simp)) (fun _ _ h => h.elim) fun i c h => ⟨by simp [h.1], h.2⟩
   have k := zi2 cache (fun s part => zau (fitF ch cache f) ch s part U.term) (fun s p => zl4 (zma ch cache f) ch s p U.term) (fun s p => by simp [zau]) U.term (zaj U.l) (U.st, U.ins)
   exact h.trans k.2 (fun _ _ h => h.elim) fun i c h => h
end Cen
