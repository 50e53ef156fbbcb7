/- Parts of the proofs of laws. Texts: CpS, Cp1, CpX, Cp2. -/
import Derived.Test.YtlleofjjdhfgcaaGreatDoorYA10
set_option maxHeartbeats 8000000
set_option maxRecDepth 100000
set_option linter.all false
namespace Cen
structure InvR (ch : List Cl -> Int) (R : List Cl -> Cl -> Prop) (cache : Bool) (n : Nat) (st : List Nc) : Prop where
 inv : Inv ch n st
 tg : ∀ (i : Nat) (c : Nc) (l : List Cl) (t : Cl), st[i]? = some c -> c.tag = some (l, t) -> R l t
 dl : ∀ i j x, isLit st i x -> isLit st j x -> i = j
 sh : cache = true -> ∀ i j l, tagged st i l -> tagged st j l -> i = j
structure Closed (R : List Cl -> Cl -> Prop) (n : Nat) : Prop where
 given : ∀ l t x, R l t -> gL n l -> litN n x -> (zae l).mem (zac x) = true -> R (zah l x) (t ++ [x])
 split : ∀ l t p, R l t -> gL n l -> p ∈ zaj l -> R p t
structure Chooses (ch : List Cl -> Int) (n : Nat) : Prop where
 ch : ∀ l, gL n l -> l ≠ [] -> (∀ c ∈ l, 2 <= c.length) -> 1 <= ch l /\ ch l <= n /\ (zae l).mem (ch l) = true
section
variable {ch : List Cl -> Int} {R : List Cl -> Cl -> Prop} {cache : Bool} {n : Nat}
def zbk (c : Nc) : Bool := decide (c.nd.kind ≠ 2)
def Under (st r : List Nc) (l : List Cl) : Prop := ∀ i l', st.length <= i -> tagged (st ++ r) i l' -> ∀ v, (zae l').mem v = true -> (zae l).mem v = true
theorem Under.nil (st : List Nc) (l : List Cl) : Under st [] l := fun i l' hi ht => by
 have := ht.lt; simp at this; omega
theorem Under.app {st r q : List Nc} {l : List Cl} (h : Under st r l) (k : Under (st ++ r) q l) : Under st (r ++ q) l := fun i l' hi ht v hv => by
 rw [<- List.append_assoc] at ht
 rcases Nat.lt_or_ge i (st ++ r).length with hj | hj
 ·obtain ⟨c, t, a, b⟩ := ht;rw [List.getElem?_append_left hj] at a;exact h i l' hi ⟨c, t, a, b⟩ v hv
 exact k i l' hj ht v hv
theorem Under.mono {st r : List Nc} {l m : List Cl} (h : Under st r l) (k : ∀ v, (zae l).mem v = true -> (zae m).mem v = true) : Under st r m := fun i l' hi ht v hv => k v (h i l' hi ht v hv)
theorem Under.one {st : List Nc} {c : Nc} {l : List Cl} (h : ∀ l' t, c.tag = some (l', t) -> ∀ v, (zae l').mem v = true -> (zae l).mem v = true) : Under st [c] l := fun i l' hi ⟨d, t, a, b⟩ v hv => by
 have e : i = st.length := by
  have := zb3 a; simp at this; omega
 subst e;simp at a; subst a;exact h _ _ b v hv
theorem InvR.snoc {st : List Nc} {c : Nc} (h : InvR ch R cache n st) (hf : Form ch n st st.length c) (ht : ∀ l t, c.tag = some (l, t) -> R l t)
 (hd : ∀ x, c.nd = ⟨2, x, []⟩ -> ∀ i, ¬ isLit st i x) (hs : cache = true -> ∀ l t, c.tag = some (l, t) -> ∀ i, ¬ tagged st i l) : InvR ch R cache n (st ++ [c]) := by
 have key : ∀ i d, (st ++ [c])[i]? = some d -> (i < st.length /\ st[i]? = some d) \/ (i = st.length /\ d = c) := fun i d hi => by
  rcases Nat.lt_or_ge i st.length with hj | hj
  ·rw [List.getElem?_append_left hj] at hi; exact .inl ⟨hj, hi⟩
  have e : i = st.length := by have := zb3 hi; simp at this; omega
  subst e; simp at hi; exact .inr ⟨rfl, hi.symm⟩
 refine ⟨h.inv.snoc hf, fun i d l t hi hd' => ?_, fun i j x ⟨d, hi, he⟩ ⟨d', hj, he'⟩ => ?_, fun hc i j l ⟨d, t, hi, he⟩ ⟨d', t', hj, he'⟩ => ?_⟩
 ·rcases key i d hi with ⟨_, h1⟩ | ⟨_, rfl⟩
  ·exact h.tg i d l t h1 hd'
  exact ht l t hd'
 ·rcases key i d hi with ⟨_, h1⟩ | ⟨h0, rfl⟩ <;> rcases key j d' hj with ⟨_, h2⟩ | ⟨h0', e⟩
  ·exact h.dl i j x ⟨d, h1, he⟩ ⟨d', h2, he'⟩
  ·subst e; exact absurd ⟨d, h1, he⟩ (hd x he' i)
  ·exact absurd ⟨d', h2, he'⟩ (hd x he j)
  omega
 rcases key i d hi with ⟨_, h1⟩ | ⟨h0, rfl⟩ <;> rcases key j d' hj with ⟨_, h2⟩ | ⟨h0', e⟩
 ·exact h.sh hc i j l ⟨d, t, h1, he⟩ ⟨d', t', h2, he'⟩
 ·subst e; exact absurd ⟨d, t, h1, he⟩ (hs hc l t' he' i)
 ·exact absurd ⟨d', t', h2, he'⟩ (hs hc l t he j)
 omega
theorem zk5 {n : Nat} {st : List Nc} (h : Inv ch n st) {i : Nat} {c : Nc} (hc : st[i]? = some c) {x : Int} : zdq x c = true ↔ c.nd = ⟨2, x, []⟩ := by
 have hf := h i c hc;unfold zdq;rw [Bool.and_eq_true, decide_eq_true_eq, decide_eq_true_eq]
 constructor
 ·rintro ⟨h1, h2⟩
  cases hf <;> simp at h1 h2
  subst h2; rfl
 intro e; rw [e]; simp
theorem zgb {st : List Nc} (h : InvR ch R cache n st) {x : Int} (hx : litN n x) :
 ∃ r, (litF st x).1 = st ++ r /\ InvR ch R cache n (st ++ r) /\ isLit (st ++ r) (litF st x).2 x /\ r.countP zbk = 0 /\ (∀ l, Under st r l) := by
 unfold litF
 cases hf : st.findIdx? (zdq x) with
 | some i =>
   rw [List.findIdx?_eq_some_iff_getElem] at hf;obtain ⟨hi, h1, _⟩ := hf;have hc : st[i]? = some st[i] := List.getElem?_eq_getElem hi;refine ⟨[], by simp, by simpa using h, ?_, rfl, fun l => Under.nil _ _⟩;rw [List.append_nil];exact ⟨_, hc, (zk5 h.inv hc).1 h1⟩
 | none =>
   rw [List.findIdx?_eq_none_iff] at hf;refine ⟨[⟨⟨2, x, []⟩, none⟩], rfl, ?_, ⟨⟨⟨2, x, []⟩, none⟩, by simp, rfl⟩, rfl, fun l => Under.one fun l' t e => by simp at e⟩;refine h.snoc (.lit hx rfl) (fun l t e => by simp at e) (fun y hy i ⟨c, hc, e⟩ => ?_) (fun _ l t e => by simp at e);simp at hy; subst hy;have := hf c (List.mem_of_getElem? hc);rw [(zk5 h.inv hc).2 e] at this; simp at this
theorem zg5 {l : List Cl} {c : Nc} : zbt l c = true ↔ ∃ t, c.tag = some (l, t) := by
 unfold zbt
 cases c.tag with
 | none => simp
 | some t => simp; constructor
             ·rintro rfl; exact ⟨t.2, rfl⟩
             rintro ⟨t', e⟩; rw [e]
theorem zew {st : List Nc} (h : InvR ch R cache n st) (l : List Cl) (term : Cl) (hR : R l term) (mk : List Nc -> List Nc × Nd) (W : Nat) (P : Nd -> Prop)
 (hp : ∀ (i : Nat) (c : Nc) (t : Cl), st[i]? = some c -> c.tag = some (l, t) -> P c.nd)
 (hm : ∃ r, (mk st).1 = st ++ r /\ InvR ch R cache n (st ++ r) /\ r.countP zbk + 1 <= W /\ Under st r l /\ (∀ i, st.length <= i -> ¬ tagged (st ++ r) i l) /\ Form ch n (st ++ r) (st ++ r).length ⟨(mk st).2, some (l, term)⟩ /\ P (mk st).2 /\ (mk st).2.kind ≠ 2) :
 ∃ r, (zan cache st l term mk).1 = st ++ r /\ InvR ch R cache n (st ++ r) /\ tagged (st ++ r) (zan cache st l term mk).2 l /\ (∃ c, (st ++ r)[(zan cache st l term mk).2]? = some c /\ P c.nd) /\ r.countP zbk <= W /\ Under st r l := by
 unfold zan
 cases hf : (if cache then st.findIdx? (zbt l) else none) with
 | some i =>
   have hcc : cache = true := by cases cache <;> simp at hf ⊢
   rw [hcc, if_pos rfl, List.findIdx?_eq_some_iff_getElem] at hf;obtain ⟨hi, h1, _⟩ := hf;obtain ⟨t, ht⟩ := zg5.1 h1;have hc : st[i]? = some st[i] := List.getElem?_eq_getElem hi;refine ⟨[], by simp, by simpa using h, ⟨_, t, by rw [List.append_nil]; exact hc, ht⟩, ⟨st[i], by rw [List.append_nil]; exact hc, hp i _ t hc ht⟩, by simp, Under.nil _ _⟩
 | none =>
   obtain ⟨r, h1, h2, h3, h4, h5, h6, h7, h8⟩ := hm;refine ⟨r ++ [⟨(mk st).2, some (l, term)⟩], by simp [h1], ?_, ⟨⟨(mk st).2, some (l, term)⟩, term, by simp [h1], rfl⟩, ⟨⟨(mk st).2, some (l, term)⟩, by simp [h1], h7⟩, ?_, ?_⟩
   ·rw [<- List.append_assoc];refine h2.snoc h6 (fun l' t e => ?_) (fun x e => ?_) (fun hc l' t e i ht => ?_)
    ·simp at e; rw [<- e.1, <- e.2]; exact hR
    ·simp only at e; rw [e] at h8; simp at h8
    simp at e; rw [<- e.1] at ht
    rcases Nat.lt_or_ge i st.length with hi | hi
    ·obtain ⟨c, t, a, b⟩ := ht;rw [List.getElem?_append_left hi] at a;rw [hc, if_pos rfl, List.findIdx?_eq_none_iff] at hf;have := hf c (List.mem_of_getElem? a);rw [zg5.2 ⟨t, b⟩] at this; simp at this
    exact h5 i hi ht
   ·rw [List.countP_append];have : List.countP zbk [(⟨(mk st).2, some (l, term)⟩ : Nc)] <= 1 := List.countP_le_length;omega
   exact h4.app (Under.one fun l' t e => by simp at e; rw [<- e.1]; exact fun v hv => hv)
theorem za1 {l : List Cl} {x v : Int} (hx : zac x ≠ 0) (h : (zae (zah l x)).mem v = true) : (zae l).mem v = true /\ v ≠ zac x := by
 obtain ⟨d, hd, hv⟩ := zbf.1 h;obtain ⟨c, hc, hxc, rfl⟩ := zck.1 hd;obtain ⟨h1, y, hy, rfl⟩ := zd3.1 hv;obtain ⟨hyc, hyx⟩ := List.mem_filter.1 hy;simp only [decide_eq_true_eq] at hyx;refine ⟨zbf.2 ⟨c, hc, zd3.2 ⟨h1, y, hyc, rfl⟩⟩, fun e => ?_⟩
 have hyx' : y ≠ x := fun e => hxc (e ▸ hyc)
 rcases zes hx with ⟨a, b, c⟩ | ⟨a, b, c⟩ <;> rcases zes (show zac y ≠ 0 by omega) with ⟨a', b', c'⟩ | ⟨a', b', c'⟩ <;> omega
theorem zo4 {s t : St} (h : ∀ v : Int, t.mem v = true -> s.mem v = true) {v : Int} (h1 : s.mem v = true) (h2 : t.mem v = false) (hv : 1 <= v) (hv' : v <= 128) : card t < card s := by
 unfold card
 have e : (List.range 128).countP (fun (j : Nat) => s.mem ((j : Int) + 1)) = (List.range 128).countP (fun (j : Nat) => t.mem ((j : Int) + 1)) + (List.range 128).countP (fun (j : Nat) => s.mem ((j : Int) + 1) && !t.mem ((j : Int) + 1)) := by
  rw [<- ziy (fun j => by rintro ⟨a, b⟩; rw [a] at b; simp at b)]
  congr 1; funext j
  cases ht : t.mem ((j : Int) + 1) with
  | true => simp [h _ ht]
  | false => simp
 rw [e]
 have : 0 < (List.range 128).countP (fun (j : Nat) => s.mem ((j : Int) + 1) && !t.mem ((j : Int) + 1)) := by
  rw [List.countP_pos_iff];exact ⟨(v - 1).toNat, List.mem_range.2 (by omega), by rw [show (((v - 1).toNat : Nat) : Int) + 1 = v by omega, h1, h2]; rfl⟩
 omega
theorem zip {s t : St} (h : ∀ v : Int, t.mem v = true -> s.mem v = true) : card t <= card s := by
 unfold card; exact List.countP_mono_left fun x _ hx => h _ hx
theorem zg8 {s : St} {v : Int} (h : s.mem v = true) : 1 <= v /\ v <= 128 := by
 unfold St.mem at h
 by_cases a : 1 <= v /\ v <= 64
 ·omega
 rw [if_neg a] at h
 by_cases b : 65 <= v /\ v <= 128
 ·omega
 rw [if_neg b] at h; simp at h
theorem ze9 {l p : List Cl} (hp : p ∈ zaj l) {v : Int} (h : (zae p).mem v = true) : (zae l).mem v = true := by
 obtain ⟨c, hc, hv⟩ := zbf.1 h;exact zbf.2 ⟨c, zct.1 ⟨p, hp, hc⟩, hv⟩
theorem zge {l : List Cl} {c : Cl} {x : Int} (hc : c ∈ l) (hx : x ∈ c) (h : zac x ≠ 0) : (zae l).mem (zac x) = true :=
 zbf.2 ⟨c, hc, zd3.2 ⟨by have := zcd x; omega, x, hx, rfl⟩⟩
theorem znz {x : Int} {l : List Cl} : (zah ([x] :: l) x).length <= l.length := by
 unfold zah;refine Nat.le_trans (zbc _) ?_;rw [List.length_map, List.filter_cons_of_neg (by simp)];exact List.length_filter_le _ _
def zez : List Cl -> Bool | [_] :: _ => false | _ => true
theorem zj6 (hn : n <= 128) (hC : Closed R n) : ∀ (f : Nat) (u : Us), InvR ch R cache n u.st -> gL n u.l -> R u.l u.term ->
 ∃ r i', (zaq f u).st = u.st ++ r /\ InvR ch R cache n (u.st ++ r) /\ gL n (zaq f u).l /\ R (zaq f u).l (zaq f u).term /\ (zaq f u).ins = u.ins ++ i' /\ r.countP zbk = 0 /\ (∀ l, Under u.st r l) /\
  (∀ v, (zae (zaq f u).l).mem v = true -> (zae u.l).mem v = true) /\ (∀ st' rest, Fit (u.st ++ r ++ st') (zaq f u).l rest -> Fit (u.st ++ r ++ st') u.l (i' ++ rest)) /\ (u.l.length <= f -> zez (zaq f u).l = true)
 | 0, u, h, hg, hR => ⟨[], [], by simp [zaq], by simpa using h, hg, hR, by simp [zaq], rfl, fun l => Under.nil _ _, fun v hv => hv, fun st' rest hf => by simpa [zaq] using hf, fun hl => by
    have : u.l = [] := List.eq_nil_of_length_eq_zero (by omega)
    simp [zaq, this, zez]⟩
 | f + 1, u, h, hg, hR => by
   obtain ⟨st, l, term, ins⟩ := u
   match l, hg, hR with
   | [x] :: l, hg, hR =>
     have hx : litN n x := (hg.gc [x] (by simp)).rg x (by simp);obtain ⟨r, h1, h2, h3, h4, h5⟩ := zgb h hx;have hxv := zge (l := [x] :: l) (c := [x]) (by simp) (x := x) (by simp) (hx.ok hn).1;obtain ⟨r', i', k1, k2, k3, k4, k5, k6, k7, k8, k9, k10⟩ := zj6 hn hC f ⟨(litF st x).1, zah ([x] :: l) x, term ++ [x], ins ++ [(litF st x).2]⟩ (by rw [h1]; exact h2) (zbh hg.gc x) (hC.given _ _ _ hR hg hx hxv);simp only at k1 k2 k3 k4 k5 k6 k7 k8 k9 k10;have eu : zaq (f + 1) ⟨st, [x] :: l, term, ins⟩ = zaq f ⟨(litF st x).1, zah ([x] :: l) x, term ++ [x], ins ++ [(litF st x).2]⟩ := rfl;rw [eu];generalize zaq f ⟨(litF st x).1, zah ([x] :: l) x, term ++ [x], ins ++ [(litF st x).2]⟩ = U at *
     rw [h1] at k2 k7 k9;refine ⟨r ++ r', (litF st x).2 :: i', by rw [k1, h1, List.append_assoc], by rw [<- List.append_assoc]; exact k2, k3, k4, by rw [k5]; simp, by rw [List.countP_append, h4, k6], fun m => (h5 m).app (k7 m), fun v hv => (za1 (hx.ok hn).1 (k8 v hv)).1, fun st' rest hf => ?_, fun hl => ?_⟩
     ·rw [<- List.append_assoc] at hf ⊢;have := k9 st' rest hf;refine .unit ?_ this;rw [List.append_assoc];exact h3.more
     simp only [List.length_cons] at hl;exact k10 (Nat.le_trans znz (by omega))
   | [], hg, hR => exact ⟨[], [], by simp [zaq], by simpa using h, hg, hR, by simp [zaq], rfl, fun l => Under.nil _ _, fun v hv => hv, fun st' rest hf => by simpa [zaq] using hf, fun _ => rfl⟩
   | [] :: l, hg, hR => exact ⟨[], [], by simp [zaq], by simpa using h, hg, hR, by simp [zaq], rfl, fun l => Under.nil _ _, fun v hv => hv, fun st' rest hf => by simpa [zaq] using hf, fun _ => rfl⟩
   | (x :: y :: c) :: l, hg, hR => exact ⟨[], [], by simp [zaq], by simpa using h, hg, hR, by simp [zaq], rfl, fun l => Under.nil _ _, fun v hv => hv, fun st' rest hf => by simpa [zaq] using hf, fun _ => rfl⟩
theorem zvd {a b : Cl} (h : ltC a b) : a.length <= b.length := by
 unfold ltC cmpC at h
 split at h <;> omega
theorem zpy {l : List Cl} (hs : l.Pairwise ltC) (h1 : zez l = true) (h2 : zbm l = false) : ∀ c ∈ l, 2 <= c.length := by
 match l, hs, h1, h2 with
 | [], _, _, _ => simp
 | [] :: _, _, _, h2 => simp [zbm] at h2
 | [_] :: _, _, h1, _ => simp [zez] at h1
 | (x :: y :: c) :: l, hs, _, _ =>
   intro d hd
   rcases List.mem_cons.1 hd with rfl | hd
   ·simp
   have := zvd ((List.pairwise_cons.1 hs).1 d hd);simp at this; omega
end
end Cen
namespace Go.Proofs.YtlleofjjdhfgcaaGreatDoor
open Go.RowKit Cen
theorem zn3 (a b : Int) (ha1 : -128 <= a) (ha2 : a <= 128) (hb1 : -128 <= b) (hb2 : b <= 128) (w : World) :
 Calls Tryz.prog 162 #[.int .i64 a, .int .i64 b] w fun e w' => e = .returned (.int .i64 (cmpL a b)) /\ w = w' := by
 obtain ⟨x1, x2⟩ := zcd a;obtain ⟨y1, y2⟩ := zcd b;have HA := lh (fun V => zbe a V);have HB := lh (fun V => zbe b V)
 by_cases hv : zac a = zac b
 ·have HC : Hid (cmpL a b = a - b) := by show _ = _; unfold cmpL; rw [if_neg (by omega)]
  have hvb : (zac a != zac b) = false := by simp [hv]
  clear hv;generalize zac a = x at *;generalize zac b = y at *;go_enter Tryz.func162, Tryz.ntmps162;go_wp2_with fail;refine (HA.o _).mono ?_;rintro e w' ⟨rfl, rfl⟩;go_wp2_with fail;refine (HB.o _).mono ?_;rintro e w' ⟨rfl, rfl⟩;go_wp2;go_ret;exact ⟨zbu HC.o.symm, rfl⟩
 have HC : Hid (cmpL a b = zac a - zac b) := by show _ = _; unfold cmpL; rw [if_pos (by omega)]
 have hvb : (zac a != zac b) = true := by simp [hv]
 clear hv;generalize zac a = x at *;generalize zac b = y at *;go_enter Tryz.func162, Tryz.ntmps162;go_wp2_with fail;refine (HA.o _).mono ?_;rintro e w' ⟨rfl, rfl⟩;go_wp2_with fail;refine (HB.o _).mono ?_;rintro e w' ⟨rfl, rfl⟩;go_wp2;go_ret;exact ⟨zbu HC.o.symm, rfl⟩
theorem zpz (a b : Int) (ha1 : -128 <= a) (ha2 : a <= 128) (hb1 : -128 <= b) (hb2 : b <= 128) (w : World) :
 Calls Tryz.prog 161 #[.int .i64 a, .int .i64 b] w fun e w' => e = .returned (.int .i64 (cmpL a b)) /\ w = w' := by
 have HC := lh (fun V => zn3 a b ha1 ha2 hb1 hb2 V);go_enter Tryz.func161, Tryz.ntmps161;go_wp2_with fail;refine (HC.o _).mono ?_;rintro e w' ⟨rfl, rfl⟩;go_wp2;go_ret;exact ⟨rfl, rfl⟩
theorem znf (a b : Int) (ha1 : -128 <= a) (ha2 : a <= 128) (hb1 : -128 <= b) (hb2 : b <= 128) (w : World) :
 Calls Tryz.prog 139 #[.int .i64 a, .int .i64 b] w fun e w' => e = .returned (.int .i64 (cmpL a b)) /\ w = w' := by
 obtain ⟨x1, x2⟩ := zcd a;obtain ⟨y1, y2⟩ := zcd b;have HA := lh (fun V => zbe a V);have HB := lh (fun V => zbe b V)
 by_cases hv : zac a = zac b
 ·have HC : Hid (cmpL a b = a - b) := by show _ = _; unfold cmpL; rw [if_neg (by omega)]
  have hvb : (zac a - zac b != 0) = false := by simp [hv]
  clear hv;generalize zac a = x at *;generalize zac b = y at *;go_enter Tryz.func139, Tryz.ntmps139;go_wp2_with fail;refine (HA.o _).mono ?_;rintro e w' ⟨rfl, rfl⟩;go_wp2_with fail;refine (HB.o _).mono ?_;rintro e w' ⟨rfl, rfl⟩;go_wp2;go_ret;exact ⟨zbu HC.o.symm, rfl⟩
 have HC : Hid (cmpL a b = zac a - zac b) := by show _ = _; unfold cmpL; rw [if_pos (by omega)]
 have hvb : (zac a - zac b != 0) = true := by simp; omega
 clear hv;generalize zac a = x at *;generalize zac b = y at *;go_enter Tryz.func139, Tryz.ntmps139;go_wp2_with fail;refine (HA.o _).mono ?_;rintro e w' ⟨rfl, rfl⟩;go_wp2_with fail;refine (HB.o _).mono ?_;rintro e w' ⟨rfl, rfl⟩;go_wp2;go_ret;exact ⟨zbu HC.o.symm, rfl⟩
theorem zjg : ∀ (xs ys : Cl) (k : Nat), k <= xs.length -> xs.length = ys.length -> (∀ j, j < k -> cmpL (xs.getD j 0) (ys.getD j 0) = 0) -> lexC xs ys = lexC (xs.drop k) (ys.drop k)
 | _, _, 0, _, _, _ => by simp
 | [], _, k + 1, h, _, _ => by simp at h
 | _ :: _, [], k + 1, _, h, _ => by simp at h
 | x :: xs, y :: ys, k + 1, h, hl, hz => by
   have h0 := hz 0 (by omega);simp at h0;rw [lexC, if_neg (by simpa using h0), List.drop_succ_cons, List.drop_succ_cons]
   exact zjg xs ys k (by simpa using h) (by simpa using hl) fun j hj => by have := hz (j + 1) (by omega); simpa using this
theorem zxq {xs ys : Cl} {k : Nat} (hk : k < xs.length) (hl : xs.length = ys.length) (hz : ∀ j, j < k -> cmpL (xs.getD j 0) (ys.getD j 0) = 0) (hn : cmpL (xs.getD k 0) (ys.getD k 0) ≠ 0) : lexC xs ys = cmpL (xs.getD k 0) (ys.getD k 0) := by
 have hk2 : k < ys.length := by omega
 rw [zjg xs ys k (by omega) hl hz, List.drop_eq_getElem_cons hk, List.drop_eq_getElem_cons hk2, lexC]
 have e1 : xs.getD k 0 = xs[k] := by simp [List.getD_eq_getElem?_getD, hk]
 have e2 : ys.getD k 0 = ys[k] := by simp [List.getD_eq_getElem?_getD, hk2]
 rw [e1, e2] at hn ⊢;rw [if_pos hn]
theorem zxp {xs ys : Cl} (hl : xs.length = ys.length) (hz : ∀ j, j < xs.length -> cmpL (xs.getD j 0) (ys.getD j 0) = 0) : lexC xs ys = 0 := by
 rw [zjg xs ys xs.length (Nat.le_refl _) hl hz, List.drop_length, hl, List.drop_length]; rfl
theorem zo1 : ∀ (args : Array Value) (w : World), (callFunc 139 args).run Tryz.prog w = .ok (.enter 139 args) w := fun _ _ => by kernel_rfl
def litB (xs : Cl) : Prop := ∀ x ∈ xs, -128 <= x /\ x <= 128
theorem zix (a b : Option Addr) (c d : Nat) (xs ys : Cl) (w : World) (hl : xs.length = ys.length) (hm : xs.length <= 1073741824) (hx : IntCells w a xs) (hy : IntCells w b ys) (bx : litB xs) (bY : litB ys) :
 Calls Tryz.prog 138 #[.slice a xs.length c, .slice b ys.length d, .func (.func 139) #[] #[]] w fun e w' => e = .returned (.int .i64 (lexC xs ys)) /\ w = w' := by
 have HX := lh hx;have HY := lh hy;have HBX := lh bx;have HBY := lh bY;have hcc := zo1;have HL := lh hl;rw [<- hl];clear hx hy bx bY hl;go_enter Tryz.func138, Tryz.ntmps138;go_wp2
 go_loop [7, 8, 9, 10, 13] (fun _ _ _ _ i => ∃ k : Nat, k <= xs.length /\ i = .int .i64 k /\ ∀ j, j < k -> cmpL (xs.getD j 0) (ys.getD j 0) = 0) (fun _ _ _ _ i => xs.length - (intOf i).toNat)
 case atStart => exact ⟨0, Nat.zero_le _, rfl, fun j h => absurd h (Nat.not_lt_zero _)⟩
 obtain ⟨k, hk, rfl, hz⟩ := hrel;have HZ := lh hz;clear hz
 by_cases hlt : k < xs.length
 ·obtain ⟨b1, o1, rfl, e1⟩ := HX.o k hlt;obtain ⟨b2, o2, rfl, e2⟩ := HY.o k (by have := HL.o; omega)
  have g1 : xs.getD k 0 = xs[k] := by simp [List.getD_eq_getElem?_getD, hlt]
  have hlt2 : k < ys.length := by have := HL.o; omega
  have g2 : ys.getD k 0 = ys[k] := by simp [List.getD_eq_getElem?_getD, hlt2]
  have m1 := HBX.o xs[k] (List.getElem_mem hlt);have m2 := HBY.o ys[k] (List.getElem_mem hlt2);rw [<- g1] at m1;rw [<- g2] at m2;have HH := lh (zxq hlt HL.o HZ.o)
  have HST : Hid (cmpL (xs.getD k 0) (ys.getD k 0) = 0 -> ∀ j, j < k + 1 -> cmpL (xs.getD j 0) (ys.getD j 0) = 0) := fun h j hj => by
   rcases Nat.lt_or_ge j k with h' | h'
   ·exact HZ.o j h'
   rw [show j = k by omega]; exact h
  clear g1 g2 hlt2;generalize xs.getD k 0 = x at *;generalize ys.getD k 0 = y at *;have HC := lh (fun V => znf x y m1.1 m1.2 m2.1 m2.2 V)
  have hki : (k : Int) < (xs.length : Int) := by omega
  clear m1 m2
  by_cases hc : cmpL x y = 0
  ·have hcb : (cmpL x y != 0) = false := by simp [hc]
   have HS2 := lh (HST.o hc);clear hc;generalize cmpL x y = cv at *;go_wp2_with fail;refine (HC.o _).mono ?_;rintro e w' ⟨rfl, rfl⟩;go_wp2;go_round
   case rel => exact ⟨k + 1, by omega, by go_num, HS2.o⟩
   case measure => simp [intOf]; omega
  have hcb : (cmpL x y != 0) = true := by simp [hc]
  have HH2 := lh (HH.o hc);clear hc;generalize cmpL x y = cv at *;go_wp2_with fail;refine (HC.o _).mono ?_;rintro e w' ⟨rfl, rfl⟩;go_wp2;go_ret;exact ⟨zbu HH2.o.symm, rfl⟩
 have : k = xs.length := by omega
 subst this;have HE := lh (zxp HL.o HZ.o);go_wp2;go_ret;exact ⟨zbu HE.o.symm, rfl⟩
abbrev clv (a : Option Addr) (n c : Nat) (i : Int) : Value := .agg #[.slice a n c, .int .i64 i]
theorem zsy (a b : Option Addr) (c d : Nat) (i j : Int) (xs ys : Cl) (w : World) (hm : xs.length <= 1073741824) (hm2 : ys.length <= 1073741824) (hx : IntCells w a xs) (hy : IntCells w b ys) (bx : litB xs) (bY : litB ys) :
 Calls Tryz.prog 137 #[clv a xs.length c i, clv b ys.length d j] w fun e w' => e = .returned (.int .i64 (cmpC xs ys)) /\ Below w.heap.size w w' := by
 have hb0 : Below w.heap.size w ((w.alloc (.cells #[.slice a xs.length c, .int .i64 i] 178)).alloc (.cells #[.slice b ys.length d, .int .i64 j] 178)) := (ba _ _).alloc (by simp) _;have HB0 := lh hb0
 by_cases hl : xs.length = ys.length
 ·have HCF := lh (zix a b c d xs ys _ hl hm (hx.keep hb0) (hy.keep hb0) bx bY)
  have HC : Hid (cmpC xs ys = lexC xs ys) := by show _ = _; unfold cmpC; rw [if_neg (by omega)]
  have hd0 : ((xs.length : Int) - (ys.length : Int) != 0) = false := by simp; omega
  clear hb0 hx hy bx bY hl;go_enter Tryz.func137, Tryz.ntmps137;go_wp2_with fail;refine HCF.o.mono ?_;rintro e w' ⟨rfl, rfl⟩;go_wp2;go_ret;exact ⟨zbu HC.o.symm, HB0.o⟩
 have HC : Hid (cmpC xs ys = (xs.length : Int) - (ys.length : Int)) := by show _ = _; unfold cmpC; rw [if_pos (by omega)]
 have hd0 : ((xs.length : Int) - (ys.length : Int) != 0) = true := by simp; omega
 clear hb0 hx hy bx bY hl;go_enter Tryz.func137, Tryz.ntmps137;go_wp2;go_ret;exact ⟨zbu HC.o.symm, HB0.o⟩
end Go.Proofs.YtlleofjjdhfgcaaGreatDoor
namespace Cen
theorem zgk {α : Type} {l : List α} {i : Nat} (h : i < l.length) (x : α) : (l[i] :: l.set i x).Perm (x :: l) := by
 have h1 : l = l.take i ++ l[i] :: l.drop (i + 1) := by rw [List.getElem_cons_drop, List.take_append_drop]
 have h2 : l.set i x = l.take i ++ x :: l.drop (i + 1) := List.set_eq_take_append_cons_drop.trans (by rw [if_pos h]);rw [h2]
 conv => rhs; rw [h1]
 refine (List.Perm.cons _ List.perm_middle).trans ?_;refine (List.Perm.swap _ _ _).trans ?_;exact (List.Perm.cons _ List.perm_middle.symm)
section
variable {α : Type} [Inhabited α]
def gd (l : List α) (i : Nat) : α := l.getD i default
theorem zar {l : List α} {i : Nat} (h : i < l.length) : gd l i = l[i] := by unfold gd; simp [List.getD_eq_getElem?_getD, h]
theorem zxr {l m : List α} (hl : l.length = m.length) (h : ∀ i, i < l.length -> gd l i = gd m i) : l = m := by
 apply List.ext_getElem hl
 intro i h1 h2;have := h i h1
 rwa [zar h1, zar h2] at this
def swp (l : List α) (i j : Nat) : List α := (l.set i (gd l j)).set j (gd l i)
theorem zfd (l : List α) (i j : Nat) : (swp l i j).length = l.length := by simp [swp]
theorem zq8 {l : List α} {i j : Nat} (hi : i < l.length) (hj : j < l.length) (t : Nat) : gd (swp l i j) t = if t = j then gd l i else if t = i then gd l j else gd l t := by
 unfold swp
 by_cases h2 : t = j
 ·subst h2; rw [if_pos rfl]
  show ((l.set i (gd l t)).set t (gd l i)).getD t default = _
  simp [List.getD_eq_getElem?_getD, hj]
 rw [if_neg h2]
 by_cases h1 : t = i
 ·subst h1; rw [if_pos rfl]
  show ((l.set t (gd l j)).set j (gd l t)).getD t default = _
  rw [List.getD_eq_getElem?_getD, List.getElem?_set_ne (show j ≠ t from fun e => h2 e.symm), List.getElem?_set_self hi]; rfl
 rw [if_neg h1]
 show ((l.set i (gd l j)).set j (gd l i)).getD t default = l.getD t default
 simp [List.getD_eq_getElem?_getD, List.getElem?_set_ne (show j ≠ t from fun e => h2 e.symm), List.getElem?_set_ne (show i ≠ t from fun e => h1 e.symm)]
theorem zyt {l : List α} {i : Nat} (hi : i < l.length) : swp l i i = l := zxr (zfd _ _ _) fun t _ => by
 rw [zq8 hi hi]; split
 ·rename_i h; rw [h]
 rfl
theorem zgp {l : List α} {i j : Nat} (hi : i < l.length) (hj : j < l.length) : (swp l i j).Perm l := by
 by_cases e : i = j
 ·subst e; rw [zyt hi]
 have h1 := zgk (l := l) hi (gd l j)
 have hj' : j < (l.set i (gd l j)).length := by simpa using hj
 have h2 := zgk (l := l.set i (gd l j)) hj' (gd l i)
 have ej : (l.set i (gd l j))[j] = gd l j := by
  rw [List.getElem_set_ne e]; exact (zar hj).symm
 rw [ej] at h2;rw [<- zar hi] at h1;have h3 := h2.trans h1;exact (List.perm_cons _).1 h3
def zdm (l : List α) (a b : Nat) : Nat -> List α
 | 0 => l
 | k + 1 => swp (zdm l a b k) (a + k) (b + k)
theorem zbv (l : List α) (a b : Nat) : ∀ k, (zdm l a b k).length = l.length
 | 0 => rfl
 | k + 1 => by rw [zdm, zfd, zbv]
theorem zfc {l : List α} {a b : Nat} : ∀ k, a + k <= l.length -> b + k <= l.length -> (zdm l a b k).Perm l
 | 0, _, _ => List.Perm.refl _
 | k + 1, h1, h2 => by
   rw [zdm];exact (zgp (by rw [zbv]; omega) (by rw [zbv]; omega)).trans (zfc k (by omega) (by omega))
theorem zh9 {l : List α} {a b : Nat} : ∀ k, a + k <= b -> b + k <= l.length -> ∀ t, gd (zdm l a b k) t = gd l (if a <= t /\ t < a + k then t - a + b else if b <= t /\ t < b + k then t - b + a else t)
 | 0, _, _, t => by rw [zdm, if_neg (by omega), if_neg (by omega)]
 | k + 1, h1, h2, t => by
   rw [zdm, zq8 (by rw [zbv]; omega) (by rw [zbv]; omega)];have ih := zh9 (l := l) (a := a) (b := b) k (by omega) (by omega)
   by_cases e1 : t = b + k
   ·rw [if_pos e1, ih, if_neg (by omega), if_neg (by omega), if_neg (by omega), if_pos (by omega)]; congr 1; omega
   rw [if_neg e1]
   by_cases e2 : t = a + k
   ·rw [if_pos e2, ih, if_neg (by omega), if_neg (by omega), if_pos (by omega)]; congr 1; omega
   rw [if_neg e2, ih]
   congr 1
   (repeat' split) <;> omega
def rot (p i j t : Nat) : Nat := if t < p then t else if t < p + j then t + i else if t < p + i + j then t - j else t
def IsRot (l' l : List α) (p i j : Nat) : Prop := l'.length = l.length /\ ∀ t, gd l' t = gd l (rot p i j t)
end
end Cen
namespace Go.Proofs.YtlleofjjdhfgcaaGreatDoor
open Go.RowKit Cen
structure Ce where
 a : Option Addr
 c : Nat
 xs : Cl
 i : Int
instance : Inhabited Ce := ⟨⟨none, 0, [], 0⟩⟩
def ce (e : Ce) : List Value := [.slice e.a e.xs.length e.c, .int .i64 e.i]
theorem ziq (e : Ce) : (ce e).length = 2 := rfl
abbrev OwnC (w : World) (base : Nat) (v : Value) (l : List Ce) : Prop := OwnL ce 178 2 w base v l
theorem OwnC.c0 {w : World} {base g cap n : Nat} {l : List Ce} (h : OwnC w base (.slice (some ⟨g, 0, none⟩) n cap) l) (hn : n = l.length) {i : Nat} (hi : i < l.length) : w.cell? ⟨g, i * 2, none⟩ = some (.slice (gd l i).a (gd l i).xs.length (gd l i).c) := by
 have := h.cell hn ziq i 0 hi (by omega);rw [zar hi]; simpa [ce] using this
theorem OwnC.c1 {w : World} {base g cap n : Nat} {l : List Ce} (h : OwnC w base (.slice (some ⟨g, 0, none⟩) n cap) l) (hn : n = l.length) {i : Nat} (hi : i < l.length) : w.cell? ⟨g, i * 2 + 1, none⟩ = some (.int .i64 (gd l i).i) := by
 have := h.cell hn ziq i 1 hi (by omega);rw [zar hi]; simpa [ce] using this
theorem OwnC.swp {w : World} {base g cap n : Nat} {l : List Ce} (h : OwnC w base (.slice (some ⟨g, 0, none⟩) n cap) l) (hn : n = l.length) {i j : Nat} (hi : i < l.length) (hj : j < l.length) :
 OwnC ((((w.setCell ⟨g, i * 2, none⟩ (.slice (gd l j).a (gd l j).xs.length (gd l j).c)).setCell ⟨g, i * 2 + 1, none⟩ (.int .i64 (gd l j).i)).setCell ⟨g, j * 2, none⟩ (.slice (gd l i).a (gd l i).xs.length (gd l i).c)).setCell ⟨g, j * 2 + 1, none⟩ (.int .i64 (gd l i).i)) base (.slice (some ⟨g, 0, none⟩) n cap) (swp l i j) := by
 have h1 := h.put2 hn ziq i hi (gd l j) _ _ rfl;exact h1.put2 (by simpa using hn) ziq j (by simpa using hj) (gd l i) _ _ rfl
theorem zee (g cap base a b n : Nat) (l : List Ce) (fv : Value) (w : World) (ho : OwnC w base (.slice (some ⟨g, 0, none⟩) l.length cap) l) (h1 : a + n <= b) (h2 : b + n <= l.length) (hm : l.length <= 1073741824) :
 Calls Tryz.prog 203 #[.slice (some ⟨g, 0, none⟩) l.length cap, .int .i64 (a : Int), .int .i64 (b : Int), .int .i64 (n : Int), fv] w fun e w' => e = .returned (.tuple #[]) /\ OwnC w' base (.slice (some ⟨g, 0, none⟩) l.length cap) (zdm l a b n) /\ Kp (fun y => y = g) w w' := by
 have HO := lh ho;clear ho;go_enter Tryz.func203, Tryz.ntmps203;go_wp2
 go_loopw [10] (fun i wr => ∃ k : Nat, k <= n /\ i = .int .i64 k /\ OwnC wr base (.slice (some ⟨g, 0, none⟩) l.length cap) (zdm l a b k) /\ Kp (fun y => y = g) w wr) (fun i _ => n - (intOf i).toNat)
 case atStart => exact ⟨0, Nat.zero_le _, rfl, HO.o, Kp.refl _ _⟩
 obtain ⟨k, hk, rfl, hown, hkp⟩ := hrel
 by_cases hlt : k < n
 ·have hl := zbv l a b k
  have hia : a + k < (zdm l a b k).length := by omega
  have hib : b + k < (zdm l a b k).length := by omega
  have HS : Hid (zdm l a b (k + 1) = swp (zdm l a b k) (a + k) (b + k)) := rfl;have HN : Hid (l.length = (zdm l a b k).length) := hl.symm;generalize zdm l a b k = m at *;have HOW := lh (hown.swp HN.o hia hib);have HKP := lh hkp;have a0 := hown.c0 HN.o hia;have a1 := hown.c1 HN.o hia;have b0 := hown.c0 HN.o hib;have b1 := hown.c1 HN.o hib;have f1 := hown.fr HN.o ((a + k) * 2);have f2 := hown.fr HN.o ((a + k) * 2 + 1);have f3 := hown.fr HN.o ((b + k) * 2);have f4 := hown.fr HN.o ((b + k) * 2 + 1);have gl := hown.lt.1
  have HKS : Hid (∀ c d e f, Kp (fun y => y = g) w ((((wr.setCell ⟨g, (a + k) * 2, none⟩ c).setCell ⟨g, (a + k) * 2 + 1, none⟩ d).setCell ⟨g, (b + k) * 2, none⟩ e).setCell ⟨g, (b + k) * 2 + 1, none⟩ f)) := fun c d e f => by
   have M := Kp.setCell (M := fun y => y = g);exact Kp.trans (M := fun y => y = g) (Kp.trans (M := fun y => y = g) (Kp.trans (M := fun y => y = g) (Kp.trans (M := fun y => y = g) HKP.o (M _ _ _ rfl)) (M _ _ _ rfl)) (M _ _ _ rfl)) (M _ _ _ rfl)
  have e1 : IntKind.i64.wrap ((a : Int) + (k : Int)) = ((a + k : Nat) : Int) := by rw [IntWalk.i64_in _ (by omega)]; omega
  have e2 : IntKind.i64.wrap ((b : Int) + (k : Int)) = ((b + k : Nat) : Int) := by rw [IntWalk.i64_in _ (by omega)]; omega
  have hka : ((a + k : Nat) : Int) < (l.length : Int) := by omega
  have hkb : ((b + k : Nat) : Int) < (l.length : Int) := by omega
  have hka' : a + k < l.length := by omega
  have hkb' : b + k < l.length := by omega
  have E1 := lh e1;have E2 := lh e2
  have hkn : k + 1 <= n := by omega
  generalize (gd m (a + k)).a = xa at *;generalize (gd m (a + k)).xs.length = xl at *;generalize (gd m (a + k)).c = xc at *;generalize (gd m (a + k)).i = xi at *;generalize (gd m (b + k)).a = ya at *;generalize (gd m (b + k)).xs.length = yl at *;generalize (gd m (b + k)).c = yc at *;generalize (gd m (b + k)).i = yi at *;clear hl hia hib hown hkp e1 e2;go_wp2_with fail;have e1 := E1.o;have e2 := E2.o;go_region
  all_goals
   clear e1 e2;go_wp2;go_roundw
   case rel => exact ⟨k + 1, hkn, by go_num, by rw [HS.o]; exact HOW.o.later (Below.refl _ _).drew, Kp.trans (M := fun y => y = g) (HKS.o _ _ _ _) (Kp.below (Below.refl _ _).drew)⟩
   case measure => simp [intOf]; omega
 have : k = n := by omega
 subst this;have HOE := lh hown;have HKE := lh hkp;clear hown hkp;go_wp2
 go_end0
 exact ⟨rfl, HOE.o, HKE.o⟩
theorem ival {k : IntKind} {a b : Int} (h : a = b) : Value.int k a = .int k b := by rw [h]
def ztn (g cap base : Nat) (l : List Ce) (a i j : Nat) (w : World) (e : Ending) (w' : World) : Prop :=
 ∃ l', IsRot l' l a i j /\ l'.Perm l /\ e = .returned (.tuple #[]) /\ OwnC w' base (.slice (some ⟨g, 0, none⟩) l.length cap) l' /\ Kp (fun y => y = g) w w'
def yb7 (g cap base : Nat) (l : List Ce) (a m b p q : Nat) (w wr : World) : Prop :=
 ∃ cur, OwnC wr base (.slice (some ⟨g, 0, none⟩) l.length cap) cur /\ cur.Perm l /\ (∀ t, gd l (rot a (m - a) (b - m) t) = gd cur (rot (m - p) p q t)) /\ Kp (fun y => y = g) w wr
theorem zs1 (g cap base a m b : Nat) (l : List Ce) (fv : Value) (w : World) (ho : OwnC w base (.slice (some ⟨g, 0, none⟩) l.length cap) l) (h1 : a < m) (h2 : m < b) (h3 : b <= l.length) (hm : l.length <= 1073741824) :
 Calls Tryz.prog 195 #[.slice (some ⟨g, 0, none⟩) l.length cap, .int .i64 (a : Int), .int .i64 (m : Int), .int .i64 (b : Int), fv] w (ztn g cap base l a (m - a) (b - m) w) := by
 have HR : Hid (yb7 g cap base l a m b (m - a) (b - m) w w) := ⟨l, ho, List.Perm.refl _, fun t => by rw [show m - (m - a) = a by omega], Kp.refl _ _⟩
 clear ho;go_enter Tryz.func195, Tryz.ntmps195;go_wp2
 go_loopw [10, 11] (fun i j wr => ∃ p q : Nat, 1 <= p /\ 1 <= q /\ p <= m - a /\ q <= b - m /\ i = .int .i64 p /\ j = .int .i64 q /\ yb7 g cap base l a m b p q w wr) (fun i j _ => (intOf i).toNat + (intOf j).toNat)
 case atStart => exact ⟨m - a, b - m, by omega, by omega, Nat.le_refl _, Nat.le_refl _, ival (by omega), ival (by omega), HR.o⟩
 obtain ⟨p, q, hp1, hq1, hp, hq, rfl, rfl, cur, hown, hperm, hpt, hkp⟩ := hrel;have hln := hperm.length_eq;have HP := lh hperm;have HT := lh hpt;have HK := lh hkp;have HO := lh hown;clear hperm hpt hkp hown
 rcases Nat.lt_trichotomy p q with hlt | heq | hgt
 ·have hne : ((p : Int) != (q : Int)) = true := by simp; omega
  have hne2 : decide ((q : Int) < (p : Int)) = false := by simp; omega
  have hne3 : decide (q < p) = false := by simp; omega
  have HC : Hid (∀ V, OwnC V base (.slice (some ⟨g, 0, none⟩) cur.length cap) cur -> Calls Tryz.prog 203 #[.slice (some ⟨g, 0, none⟩) l.length cap, .int .i64 ((m : Int) - (p : Int)), .int .i64 ((m : Int) + (q : Int) - (p : Int)), .int .i64 (p : Int), fv] V fun e w' => e = .returned (.tuple #[]) /\ OwnC w' base (.slice (some ⟨g, 0, none⟩) cur.length cap) (zdm cur (m - p) (m + q - p) p) /\ Kp (fun y => y = g) V w') := lh fun V h => by
   have h9 := zee g cap base (m - p) (m + q - p) p cur fv V h (by omega) (by omega) (by omega);rw [show ((m - p : Nat) : Int) = (m : Int) - (p : Int) by omega, show ((m + q - p : Nat) : Int) = (m : Int) + (q : Int) - (p : Int) by omega, hln] at h9;rw [hln]; exact h9
  rw [<- hln] at HO;go_wp2_with fail;refine Calls.mono (HC.o _ HO.o) ?_;rintro e w' ⟨rfl, hown, hkp⟩;have HO2 := lh hown;have HK2 := lh hkp;clear hown hkp;go_wp2;go_roundw
  case rel =>
   refine ⟨p, q - p, hp1, by omega, hp, by omega, rfl, ival (by omega), zdm cur (m - p) (m + q - p) p, by rw [<- hln]; exact HO2.o, (zfc p (by omega) (by omega)).trans HP.o, fun t => ?_, Kp.trans (M := fun y => y = g) HK.o HK2.o⟩;rw [HT.o t, zh9 p (by omega) (by omega)]
   congr 1
   unfold rot
   (repeat' split) <;> omega
  case measure => simp [intOf]; omega
 ·subst heq
  have hne : ((p : Int) != (p : Int)) = false := by simp
  have HC : Hid (∀ V, OwnC V base (.slice (some ⟨g, 0, none⟩) cur.length cap) cur -> Calls Tryz.prog 203 #[.slice (some ⟨g, 0, none⟩) l.length cap, .int .i64 ((m : Int) - (p : Int)), .int .i64 (m : Int), .int .i64 (p : Int), fv] V fun e w' => e = .returned (.tuple #[]) /\ OwnC w' base (.slice (some ⟨g, 0, none⟩) cur.length cap) (zdm cur (m - p) m p) /\ Kp (fun y => y = g) V w') := lh fun V h => by
   have h9 := zee g cap base (m - p) m p cur fv V h (by omega) (by omega) (by omega);rw [show ((m - p : Nat) : Int) = (m : Int) - (p : Int) by omega, hln] at h9;rw [hln]; exact h9
  rw [<- hln] at HO;go_wp2_with fail;refine Calls.mono (HC.o _ HO.o) ?_;rintro e w' ⟨rfl, hown, hkp⟩;have HO2 := lh hown;have HK2 := lh hkp;clear hown hkp;go_wp2
  go_end0
  refine ⟨zdm cur (m - p) m p, ⟨by rw [zbv, hln], fun t => ?_⟩, (zfc p (by omega) (by omega)).trans HP.o, rfl, by rw [<- hln]; exact HO2.o, Kp.trans (M := fun y => y = g) HK.o HK2.o⟩;rw [HT.o t, zh9 p (by omega) (by omega)]
  congr 1
  unfold rot
  (repeat' split) <;> omega
 have hne : ((p : Int) != (q : Int)) = true := by simp; omega
 have hne2 : decide ((q : Int) < (p : Int)) = true := by simp; omega
 have hne3 : decide (q < p) = true := by simp; omega
 have HC : Hid (∀ V, OwnC V base (.slice (some ⟨g, 0, none⟩) cur.length cap) cur -> Calls Tryz.prog 203 #[.slice (some ⟨g, 0, none⟩) l.length cap, .int .i64 ((m : Int) - (p : Int)), .int .i64 (m : Int), .int .i64 (q : Int), fv] V fun e w' => e = .returned (.tuple #[]) /\ OwnC w' base (.slice (some ⟨g, 0, none⟩) cur.length cap) (zdm cur (m - p) m q) /\ Kp (fun y => y = g) V w') := lh fun V h => by
  have h9 := zee g cap base (m - p) m q cur fv V h (by omega) (by omega) (by omega);rw [show ((m - p : Nat) : Int) = (m : Int) - (p : Int) by omega, hln] at h9;rw [hln]; exact h9
 rw [<- hln] at HO;go_wp2_with fail;refine Calls.mono (HC.o _ HO.o) ?_;rintro e w' ⟨rfl, hown, hkp⟩;have HO2 := lh hown;have HK2 := lh hkp;clear hown hkp;go_wp2;go_roundw
 case rel =>
  refine ⟨p - q, q, by omega, hq1, by omega, hq, ival (by omega), rfl, zdm cur (m - p) m q, by rw [<- hln]; exact HO2.o, (zfc q (by omega) (by omega)).trans HP.o, fun t => ?_, Kp.trans (M := fun y => y = g) HK.o HK2.o⟩;rw [HT.o t, zh9 q (by omega) (by omega)]
  congr 1
  unfold rot
  (repeat' split) <;> omega
 case measure => simp [intOf]; omega
end Go.Proofs.YtlleofjjdhfgcaaGreatDoor
