/- Parts of the proofs of laws. Texts: Pc, Pg, Pd, Ga, Pe, Pf0, Pf. -/
import Derived.Test.YtlleofjjdhfgcaaGreatDoorYA42
set_option maxHeartbeats 8000000
set_option maxRecDepth 100000
set_option linter.all false
namespace Go.Proofs.YtlleofjjdhfgcaaGreatDoor
open Go.RowKit Cen
theorem zmm (s t : St) (v : Int) : (xorS s t).mem v = (s.mem v != t.mem v) := by
 unfold St.mem xorS
 split
 ·rw [Nat.testBit_xor]
 split
 ·rw [Nat.testBit_xor]
 rfl
def gP (N : Nat) (p : Pr) (x : Int -> Bool) : Bool := par p.v.mem N x != p.odd
theorem zuv (N : Nat) (p q : Pr) (x : Int -> Bool) : gP N (sumP p q) x = (gP N p x != gP N q x) := by
 unfold gP sumP;rw [zp5 (A := p.v.mem) (B := q.v.mem) N fun v _ _ => by rw [zmm]; cases p.v.mem v <;> cases q.v.mem v <;> cases x v <;> rfl]
 cases par p.v.mem N x <;> cases par q.v.mem N x <;> cases p.odd <;> cases q.odd <;> rfl
theorem zuw (N : Nat) (x : Int -> Bool) : gP N Pr.zero x = false := by
 unfold gP;rw [zie N fun v _ _ => by rw [show Pr.zero.v = St.zero from rfl, St.mem_zero]; rfl]
 rfl
def satP (N : Nat) (l : List Pr) (x : Int -> Bool) : Bool := l.all fun p => !gP N p x
theorem yad {k s j : Nat} (hj : j < k) : (2 ^ k + s) / 2 ^ j % 2 = s / 2 ^ j % 2 := by
 have e : 2 ^ k = 2 ^ j * (2 * 2 ^ (k - j - 1)) := by
  rw [<- Nat.pow_succ', <- Nat.pow_add]; congr 1; omega
 rw [e, Nat.mul_add_div (Nat.pow_pos (by omega))];rw [Nat.add_mod, Nat.mul_mod_right, Nat.zero_add, Nat.mod_mod]
theorem zrw (rows : List Pr) {k s : Nat} : ∀ j, j <= k -> subK rows (2 ^ k + s) j = subK rows s j
 | 0, _ => rfl
 | j + 1, h => by rw [subK, subK, yad (show j < k by omega), zrw rows j (by omega)]
theorem zyr (rows : List Pr) {k s : Nat} (h : s < 2 ^ k) : subK rows s (k + 1) = subK rows s k := by
 rw [subK, if_neg];rw [Nat.div_eq_of_lt h]; omega
theorem zys (rows : List Pr) {k s : Nat} (h : s < 2 ^ k) : subK rows (2 ^ k + s) (k + 1) = sumP (subK rows s k) (rows.getD k Pr.zero) := by
 have e : (2 ^ k + s) / 2 ^ k = 1 := by
  rw [Nat.add_comm, Nat.add_div_right _ (Nat.pow_pos (by omega)), Nat.div_eq_of_lt h]
 rw [subK, e, if_pos rfl, zrw rows k (Nat.le_refl _)]
section
variable {N : Nat} {rows : List Pr} {z : Int -> Bool}
def evE (N : Nat) (rows : List Pr) (z : Int -> Bool) (f : (Int -> Bool) -> Bool) (k : Nat) (s : Nat) : Nat := cnt (fun x => f x && !gP N (subK rows s k) x) N z
def odE (N : Nat) (rows : List Pr) (z : Int -> Bool) (f : (Int -> Bool) -> Bool) (k : Nat) (s : Nat) : Nat := cnt (fun x => f x && gP N (subK rows s k) x) N z
theorem zb1 (f g : (Int -> Bool) -> Bool) : cnt f N z = cnt (fun x => f x && !g x) N z + cnt (fun x => f x && g x) N z := by
 rw [<- ziv N z fun x h => by
  have h1 := h.1; have h2 := h.2;simp only [Bool.and_eq_true, Bool.not_eq_true'] at h1 h2
  rw [h1.2] at h2; simp at h2]
 refine zag N z fun x _ => ?_
 cases f x <;> cases g x <;> rfl
theorem ycl (f : (Int -> Bool) -> Bool) (k : Nat) : ∀ t, sumE (evE N rows z f k) t + sumE (odE N rows z f k) t = t * cnt f N z := fun t => by
 rw [<- zfa, <- zd2]
 refine za3 t fun s _ => ?_
 exact (zb1 f fun x => gP N (subK rows s k) x).symm
theorem zvz {k : Nat} (h : k < rows.length) (x : Int -> Bool) : satP N (rows.take (k + 1)) x = (satP N (rows.take k) x && !gP N (rows.getD k Pr.zero) x) := by
 unfold satP;rw [List.take_succ_eq_append_getElem h, List.all_append]
 simp [List.getD_eq_getElem?_getD, h]
theorem zzh : ∀ (k : Nat) (f : (Int -> Bool) -> Bool), k <= rows.length -> 2 * sumE (evE N rows z f k) (2 ^ k) = 2 ^ k * (cnt f N z + cnt (fun x => f x && satP N (rows.take k) x) N z)
 | 0, f, _ => by
   have e : evE N rows z f 0 0 = cnt f N z := zag N z fun x _ => by
    show (f x && !gP N (subK rows 0 0) x) = f x
    rw [show subK rows 0 0 = Pr.zero from rfl, zuw]; simp
   have e2 : cnt (fun x => f x && satP N (rows.take 0) x) N z = cnt f N z := zag N z fun x _ => by simp [satP]
   rw [show sumE (evE N rows z f 0) (2 ^ 0) = 0 + evE N rows z f 0 0 from rfl, e, e2]; omega
 | k + 1, f, hk => by
   obtain ⟨gk, hgk⟩ : ∃ g : (Int -> Bool) -> Bool, g = gP N (rows.getD k Pr.zero) := ⟨_, rfl⟩
   have h1 : sumE (evE N rows z f (k + 1)) (2 ^ (k + 1)) = 2 * sumE (evE N rows z (fun x => f x && !gk x) k) (2 ^ k) + 2 ^ k * cnt (fun x => f x && gk x) N z := by
    rw [show 2 ^ (k + 1) = 2 ^ k + 2 ^ k by rw [Nat.pow_succ]; omega, zfb, <- zfa, <- zm4, <- zd2, <- zfa]
    refine za3 _ fun s hs => ?_
    unfold evE;rw [zyr rows hs, zys rows hs];have a1 := zb1 (N := N) (z := z) (fun x => f x && !gP N (subK rows s k) x) gk;have a2 := zb1 (N := N) (z := z) (fun x => f x && !gP N (sumP (subK rows s k) (rows.getD k Pr.zero)) x) gk;have a3 := zb1 (N := N) (z := z) (fun x => f x && gk x) (gP N (subK rows s k))
    have b1 : cnt (fun x => (f x && !gP N (subK rows s k) x) && !gk x) N z = cnt (fun x => (f x && !gk x) && !gP N (subK rows s k) x) N z := zag N z fun x _ => by
     cases f x <;> cases gk x <;> cases gP N (subK rows s k) x <;> rfl
    have b2 : cnt (fun x => (f x && !gP N (sumP (subK rows s k) (rows.getD k Pr.zero)) x) && !gk x) N z = cnt (fun x => (f x && !gk x) && !gP N (subK rows s k) x) N z := zag N z fun x _ => by
     rw [zuv, <- hgk]
     cases f x <;> cases gk x <;> cases gP N (subK rows s k) x <;> rfl
    have b3 : cnt (fun x => (f x && !gP N (subK rows s k) x) && gk x) N z = cnt (fun x => (f x && gk x) && !gP N (subK rows s k) x) N z := zag N z fun x _ => by
     cases f x <;> cases gk x <;> cases gP N (subK rows s k) x <;> rfl
    have b4 : cnt (fun x => (f x && !gP N (sumP (subK rows s k) (rows.getD k Pr.zero)) x) && gk x) N z = cnt (fun x => (f x && gk x) && gP N (subK rows s k) x) N z := zag N z fun x _ => by
     rw [zuv, <- hgk]
     cases f x <;> cases gk x <;> cases gP N (subK rows s k) x <;> rfl
    dsimp only at a1 a2 a3 ⊢;omega
   have ih := zzh k (fun x => f x && !gk x) (by omega);have h2 := zb1 (N := N) (z := z) f gk
   have h3 : cnt (fun x => f x && satP N (rows.take (k + 1)) x) N z = cnt (fun x => (f x && !gk x) && satP N (rows.take k) x) N z := zag N z fun x _ => by
    rw [zvz (by omega), hgk]
    cases f x <;> cases satP N (rows.take k) x <;> cases gP N (rows.getD k Pr.zero) x <;> rfl
   rw [h1, h2, h3, Nat.pow_succ];generalize sumE (evE N rows z (fun x => f x && !gk x) k) (2 ^ k) = A at *;generalize cnt (fun x => f x && !gk x) N z = B at *;generalize cnt (fun x => (f x && !gk x) && satP N (rows.take k) x) N z = C at *;generalize cnt (fun x => f x && gk x) N z = G at *;generalize 2 ^ k = P at *;have e1 : P * (B + C) = P * B + P * C := Nat.mul_add _ _ _
   have e2 : P * 2 * (B + G + C) = 2 * (P * B + P * G + P * C) := by rw [Nat.mul_comm P 2, Nat.mul_assoc, Nat.mul_add P (B + G) C, Nat.mul_add P B G]
   rw [e2];rw [e1] at ih;omega
theorem zzg (f : (Int -> Bool) -> Bool) : 2 * sumE (evE N rows z f rows.length) (2 ^ rows.length) = 2 ^ rows.length * (cnt f N z + cnt (fun x => f x && satP N rows x) N z) := by
 have h := zzh (N := N) (z := z) rows.length f (Nat.le_refl _)
 rwa [List.take_length] at h
theorem yaw (f : (Int -> Bool) -> Bool) : sumE (odE N rows z f rows.length) (2 ^ rows.length) <= sumE (evE N rows z f rows.length) (2 ^ rows.length) /\
 (sumE (evE N rows z f rows.length) (2 ^ rows.length) - sumE (odE N rows z f rows.length) (2 ^ rows.length)) / 2 ^ rows.length = cnt (fun x => f x && satP N rows x) N z := by
 have h1 := zzg (N := N) (rows := rows) (z := z) f;have h2 := ycl (N := N) (rows := rows) (z := z) f rows.length (2 ^ rows.length);have hp : 0 < 2 ^ rows.length := Nat.pow_pos (by omega);rw [Nat.mul_add] at h1;generalize sumE (evE N rows z f rows.length) (2 ^ rows.length) = A at *;generalize sumE (odE N rows z f rows.length) (2 ^ rows.length) = B at *;generalize 2 ^ rows.length = P at *;generalize cnt (fun x => f x && satP N rows x) N z = C at *
 have h3 : A - B = P * C := by omega
 exact ⟨by omega, by rw [h3]; exact Nat.mul_div_cancel_left _ hp⟩
end
theorem ze0 {s : St} (h : 0 < za4 s) : s.mem (za4 s) = true := by
 unfold za4 at h ⊢
 cases hm : memS s with
 | nil => rw [hm] at h; simp at h
 | cons v l => exact (zd8 s v).1 (by rw [hm]; simp)
theorem zpl {s : St} (h : ¬ 0 < za4 s) (v : Int) : s.mem v = false := by
 rw [Bool.eq_false_iff];intro hv;have h1 := (zd8 s v).2 hv;unfold za4 at h
 cases hm : memS s with
 | nil => rw [hm] at h1; simp at h1
 | cons u l =>
   rw [hm] at h;have h2 : s.mem u = true := (zd8 s u).1 (by rw [hm]; simp);have := (zg8 h2).1;simp at h; omega
theorem zuu {N : Nat} {p : Pr} (h : ¬ 0 < za4 p.v) (x : Int -> Bool) : gP N p x = p.odd := by
 unfold gP;rw [zie N fun v _ _ => by rw [zpl h v]; rfl]
 cases p.odd <;> rfl
theorem zrs {N : Nat} {p : Pr} {x : Int -> Bool} (h : gP N p x = false) : ∀ l : List Pr, satP N (zbs p l) x = satP N l x
 | [] => rfl
 | q :: l => by
   have ih := zrs h l;unfold satP zbs at ih ⊢;rw [List.map_cons, List.all_cons, List.all_cons, ih]
   congr 2
   split
   ·rw [zuv, h]; simp
   rfl
theorem zjx {N : Nat} {x : Int -> Bool} : ∀ l : List Pr, satP N (l.filter fun q => !decide (q = Pr.zero)) x = satP N l x
 | [] => rfl
 | q :: l => by
   have ih := zjx (N := N) (x := x) l;unfold satP at ih ⊢
   by_cases hq : q = Pr.zero
   ·rw [List.filter_cons_of_neg (by simpa using hq), ih, List.all_cons, hq, zuw]; rfl
   rw [List.filter_cons_of_pos (by simpa using hq), List.all_cons, List.all_cons, ih]
theorem zol {N : Nat} {x : Int -> Bool} {p : Pr} {l : List Pr} : satP N (p :: l) x = (!gP N p x && satP N (zbo p l) x) := by
 unfold zbo;rw [zjx]
 cases h : gP N p x with
 | true => unfold satP; rw [List.all_cons, h]; rfl
 | false => rw [zrs h]; unfold satP; rw [List.all_cons, h]
theorem zqd {N : Nat} {x : Int -> Bool} {l m : List Pr} : satP N (l ++ m) x = (satP N l x && satP N m x) := by unfold satP; rw [List.all_append]
structure RdI (N : Nat) (out rest : List Pr) : Prop where
 pos : ∀ p ∈ out, 0 < za4 p.v
 pw : out.Pairwise fun p q => q.v.mem (za4 p.v) = false
 off : ∀ p ∈ out, ∀ q ∈ rest, q.v.mem (za4 p.v) = false
 ino : ∀ p ∈ out, ∀ v, p.v.mem v = true -> v <= N
 inr : ∀ p ∈ rest, ∀ v, p.v.mem v = true -> v <= N
theorem zju {p q : Pr} {l : List Pr} (h : q ∈ zbo p l) : ∃ r ∈ l, q = if r.v.mem (za4 p.v) = true then sumP p r else r := by
 unfold zbo zbs at h;obtain ⟨r, hr, e⟩ := List.mem_map.1 (List.mem_filter.1 h).1;exact ⟨r, hr, e.symm⟩
theorem RdI.step {N : Nat} {out rest : List Pr} {p : Pr} (h : RdI N out (p :: rest)) : RdI N (if 0 < za4 p.v then out ++ [p] else out) (zbo p rest) := by
 have hst : ∀ u, p.v.mem u = false -> (∀ r ∈ rest, r.v.mem u = false) -> ∀ q ∈ zbo p rest, q.v.mem u = false := fun u hp hr q hq => by
  obtain ⟨r, hr1, rfl⟩ := zju hq
  split
  ·show (xorS p.v r.v).mem u = false
   rw [zmm, hp, hr r hr1]; rfl
  exact hr r hr1
 have hold : ∀ a ∈ out, ∀ q ∈ zbo p rest, q.v.mem (za4 a.v) = false := fun a ha => hst _ (h.off a ha p (by simp)) fun r hr => h.off a ha r (by simp [hr])
 have hin : ∀ q ∈ zbo p rest, ∀ v, q.v.mem v = true -> v <= N := fun q hq v hv => by
  obtain ⟨r, hr1, rfl⟩ := zju hq
  split at hv
  ·have hv2 : (xorS p.v r.v).mem v = true := hv;rw [zmm] at hv2
   cases hp : p.v.mem v with
   | true => exact h.inr p (by simp) v hp
   | false => rw [hp] at hv2; exact h.inr r (by simp [hr1]) v (by simpa using hv2)
  exact h.inr r (by simp [hr1]) v hv
 split
 ·rename_i hv
  refine ⟨fun a ha => ?_, ?_, fun a ha q hq => ?_, fun a ha v hvv => ?_, hin⟩
  ·rcases List.mem_append.1 ha with ha | ha
   ·exact h.pos a ha
   simp at ha; subst ha; exact hv
  ·rw [List.pairwise_append];exact ⟨h.pw, List.pairwise_singleton _ _, fun a ha b hb => by simp at hb; subst hb; exact h.off a ha _ (by simp)⟩
  ·rcases List.mem_append.1 ha with ha | ha
   ·exact hold a ha q hq
   simp at ha;subst ha;obtain ⟨r, hr1, rfl⟩ := zju hq
   split
   ·rename_i hr
    show (xorS a.v r.v).mem _ = false
    rw [zmm, ze0 hv, hr]; rfl
   rename_i hr; simpa using hr
  rcases List.mem_append.1 ha with ha | ha
  ·exact h.ino a ha v hvv
  simp at ha; subst ha; exact h.inr a (by simp) v hvv
 exact ⟨h.pos, h.pw, hold, h.ino, hin⟩
theorem zvx {N : Nat} : ∀ (f : Nat) (rest out : List Pr), rest.length < f -> RdI N out rest ->
 ((rdF f rest out).2 = true -> RdI N (rdF f rest out).1 [] /\ ∀ x, satP N (rdF f rest out).1 x = (satP N out x && satP N rest x)) /\ ((rdF f rest out).2 = false -> ∀ x, (satP N out x && satP N rest x) = false)
 | 0, _, _, h, _ => absurd h (Nat.not_lt_zero _)
 | f + 1, [], out, _, h => by
   rw [rdF];exact ⟨fun _ => ⟨h, fun x => by unfold satP; simp⟩, fun h => by simp at h⟩
 | f + 1, p :: rest, out, hl, h => by
   rw [rdF]
   by_cases hc : za4 p.v = 0 /\ p.odd = true
   ·rw [if_pos hc];refine ⟨fun h => by simp at h, fun _ x => ?_⟩;rw [zol, zuu (by omega), hc.2]; simp
   rw [if_neg hc];have hl2 := zec p rest;simp only [List.length_cons] at hl;obtain ⟨h1, h2⟩ := zvx f (zbo p rest) (if 0 < za4 p.v then out ++ [p] else out) (by omega) h.step
   have e : ∀ x, (satP N (if 0 < za4 p.v then out ++ [p] else out) x && satP N (zbo p rest) x) = (satP N out x && satP N (p :: rest) x) := fun x => by
    rw [zol]
    split
    ·rw [zqd, show satP N [p] x = !gP N p x by unfold satP; simp]
     cases satP N out x <;> cases gP N p x <;> rfl
    rename_i hv
    have ho : p.odd = false := by
     have hz : za4 p.v = 0 := by
      have := znv p.v; omega
     cases ho : p.odd with
     | false => rfl
     | true => exact absurd ⟨hz, ho⟩ hc
    rw [zuu hv, ho]; simp
   exact ⟨fun hh => ⟨(h1 hh).1, fun x => by rw [(h1 hh).2 x, e x]⟩, fun hh x => by rw [<- e x]; exact h2 hh x⟩
theorem RdI.len {N : Nat} {out rest : List Pr} (h : RdI N out rest) : out.length <= N := by
 have hn : (out.map fun p => za4 p.v - 1).Nodup := by
  rw [List.nodup_iff_pairwise_ne, List.pairwise_map];refine (List.Pairwise.imp_of_mem (R := fun p q => q.v.mem (za4 p.v) = false) ?_ h.pw);intro a b _ hb hab e;have := ze0 (h.pos b hb);rw [show za4 b.v = za4 a.v by omega] at this;rw [hab] at this; simp at this
 have := zb7 (b := N) hn fun i hi => by
  obtain ⟨p, hp, rfl⟩ := List.mem_map.1 hi;have h1 := h.pos p hp;have h2 := h.ino p hp _ (ze0 h1);omega
 simpa using this
def cellN (n : Nat) (f : (Int -> Bool) -> Bool) (l : List Pr) : Nat := cnt (fun x => f x && satP n l x) n fun _ => false
theorem cellN_nil (n : Nat) (f : (Int -> Bool) -> Bool) : cellN n f [] = cnt f n fun _ => false := zag n _ fun x _ => by simp [satP]
theorem satP_one (n : Nat) (p : Pr) (x : Int -> Bool) : satP n [p] x = !gP n p x := by simp [satP]
theorem gP_not (n : Nat) (v : St) (x : Int -> Bool) : gP n ⟨v, true⟩ x = !gP n ⟨v, false⟩ x := by
 unfold gP; cases par v.mem n x <;> rfl
theorem cellN_add (n : Nat) (f : (Int -> Bool) -> Bool) (l : List Pr) (v : St) : cellN n f (l ++ [⟨v, false⟩]) + cellN n f (l ++ [⟨v, true⟩]) = cellN n f l := by
 unfold cellN;rw [zb1 (N := n) (z := fun _ => false) (fun x => f x && satP n l x) fun x => gP n ⟨v, false⟩ x]
 congr 1
 ·exact zag n _ fun x _ => by rw [zqd, satP_one, Bool.and_assoc]
 exact zag n _ fun x _ => by rw [zqd, satP_one, gP_not, Bool.not_not, Bool.and_assoc]
theorem satP_mem {n : Nat} {l : List Pr} {p : Pr} {x : Int -> Bool} (hp : p ∈ l) (h : satP n l x = true) : gP n p x = false := by
 unfold satP at h;rw [List.all_eq_true] at h
 simpa using h p hp
theorem cellN_more (n : Nat) (f : (Int -> Bool) -> Bool) (l m : List Pr) (h : ∀ x, satP n l x = true -> satP n m x = true) : cellN n f (l ++ m) = cellN n f l := zag n _ fun x _ => by
 rw [zqd]
 cases hl : satP n l x with
 | false => simp
 | true => rw [h x hl]; simp
theorem cellN_twice (n : Nat) (f : (Int -> Bool) -> Bool) {l : List Pr} {p q : Pr} (hp : p ∈ l) (hq : q ∈ l) : cellN n f (l ++ [p, p, q]) = cellN n f l := cellN_more n f l _ fun x hx => by
 have h1 := satP_mem hp hx;have h2 := satP_mem hq hx
 simp [satP, h1, h2]
theorem cellN_sum (n : Nat) (f : (Int -> Bool) -> Bool) {l : List Pr} {p q : Pr} (hp : p ∈ l) (hq : q ∈ l) : cellN n f (l ++ [sumP p q]) = cellN n f l := cellN_more n f l _ fun x hx => by
 rw [satP_one, zuv, satP_mem hp hx, satP_mem hq hx]; rfl
theorem cellN_rev (n : Nat) (f : (Int -> Bool) -> Bool) (l : List Pr) : cellN n f l.reverse = cellN n f l := zag n _ fun x _ => by
 unfold satP; rw [List.all_reverse]
section
variable {N : Nat} {L : List Nd} {z : Int -> Bool}
theorem ybt (o : Bool) (y : Ct) (f : (Int -> Bool) -> Bool) (v : St) (h : ∀ b, cnt (fun x => f x && (par v.mem N x == b)) N z = if b then y.o else y.e) :
 (zhe o y).e = cnt (fun x => f x && !gP N ⟨v, o⟩ x) N z /\ (zhe o y).o = cnt (fun x => f x && gP N ⟨v, o⟩ x) N z := by
 have h0 := h false;have h1 := h true;simp only [Bool.false_eq_true, if_false, if_true] at h0 h1
 cases o with
 | false =>
   constructor
   ·show y.e = _
    rw [<- h0]
    exact zag N z fun x _ => by unfold gP; cases f x <;> cases par v.mem N x <;> rfl
   show y.o = _
   rw [<- h1]
   exact zag N z fun x _ => by unfold gP; cases f x <;> cases par v.mem N x <;> rfl
 | true =>
   constructor
   ·show y.o = _
    rw [<- h1]
    exact zag N z fun x _ => by unfold gP; cases f x <;> cases par v.mem N x <;> rfl
   show y.e = _
   rw [<- h0]
   exact zag N z fun x _ => by unfold gP; cases f x <;> cases par v.mem N x <;> rfl
theorem zqr (hN : N <= 8) (h : zcv ⟨(N : Int), L⟩ = true) (hd : decL L = true) (hdet : detL L) {rows : List Pr} (hok : ∀ p ∈ rows, p.ok) (T : Nat)
 (hbd : sumE (evE N rows z (fun x => ev x ⟨(N : Int), L⟩) rows.length) T < 65536 /\ sumE (odE N rows z (fun x => ev x ⟨(N : Int), L⟩) rows.length) T < 65536) :
 ∀ t, t <= T -> zh3 N L rows t = some ⟨sumE (evE N rows z (fun x => ev x ⟨(N : Int), L⟩) rows.length) t, sumE (odE N rows z (fun x => ev x ⟨(N : Int), L⟩) rows.length) t⟩
 | 0, _ => rfl
 | t + 1, ht => by
   have ih := zqr hN h hd hdet hok T hbd t (by omega);obtain ⟨c, hc1, hc2⟩ := zuc (s := z) hN (zj0 rows t hok rows.length (Nat.le_refl _)) h hd hdet;obtain ⟨e1, e2⟩ := ybt (z := z) (subK rows t rows.length).odd c _ (subK rows t rows.length).v hc2;have m1 := zj1 (evE N rows z (fun x => ev x ⟨(N : Int), L⟩) rows.length) (t + 1) T ht;have m2 := zj1 (odE N rows z (fun x => ev x ⟨(N : Int), L⟩) rows.length) (t + 1) T ht;have f1 : (zhe (subK rows t rows.length).odd c).e = evE N rows z (fun x => ev x ⟨(N : Int), L⟩) rows.length t := e1;have f2 : (zhe (subK rows t rows.length).odd c).o = odE N rows z (fun x => ev x ⟨(N : Int), L⟩) rows.length t := e2
   rw [zh3, ih]
   show (zkv N L (subK rows t rows.length).v).bind _ = _
   rw [hc1]
   show (if _ then some _ else none) = _
   rw [f1, f2];rw [sumE] at m1 m2;rw [if_pos ⟨by show sumE _ t + _ < 65536; omega, by show sumE _ t + _ < 65536; omega⟩]
   rfl
theorem zwv (hN : N <= 8) (h : zcv ⟨(N : Int), L⟩ = true) (hd : decL L = true) (hdet : detL L) (l : List Pr) (hok : ∀ p ∈ l, p.ok) (hin : ∀ p ∈ l, ∀ v, p.v.mem v = true -> v <= N) :
 zfl N L l = some (cnt (fun x => ev x ⟨(N : Int), L⟩ && satP N l x) N z) := by
 have hI : RdI N [] l := ⟨by simp, List.Pairwise.nil, by simp, by simp, hin⟩
 obtain ⟨h1, h2⟩ := zvx (l.length + 1) l [] (Nat.lt_succ_self _) hI;have hrows := zjv l hok;unfold zfl
 cases hr : (zay l).2 with
 | false =>
   rw [if_neg (by simp)]
   congr 1
   have : cnt (fun x => ev x ⟨(N : Int), L⟩ && satP N l x) N z = cnt (fun _ => false) N z := zag N z fun x _ => by
    have := h2 hr x;unfold satP at this ⊢;simp only [List.all_nil, Bool.true_and] at this;rw [this, Bool.and_false]
   rw [this, zem]
 | true =>
   rw [if_pos rfl];obtain ⟨hR, hsat⟩ := h1 hr;have hlen : (zay l).1.length <= N := hR.len
   have hs : ∀ x, satP N l x = satP N (zay l).1 x := fun x => by
    have := hsat x;rw [show satP N [] x = true from rfl, Bool.true_and] at this;exact this.symm
   have he : cnt (fun x => ev x ⟨(N : Int), L⟩ && satP N l x) N z = cnt (fun x => ev x ⟨(N : Int), L⟩ && satP N (zay l).1 x) N z := zag N z fun x _ => by rw [hs x]
   rw [he];have hR0 : RdI N (zay l).1 [] := hR;generalize (zay l).1 = rows at *
   have hd1 := yaw (N := N) (rows := rows) (z := z) fun x => ev x ⟨(N : Int), L⟩
   have ha := zzg (N := N) (rows := rows) (z := z) fun x => ev x ⟨(N : Int), L⟩
   have hM : cnt (fun x => ev x ⟨(N : Int), L⟩) N z <= 256 := Nat.le_trans (zfh _ N z) (Nat.le_trans (Nat.pow_le_pow_right (by omega) hN) (by decide));have hP : 2 ^ rows.length <= 256 := Nat.le_trans (Nat.pow_le_pow_right (by omega) (Nat.le_trans hlen hN)) (by decide)
   have hC : cnt (fun x => ev x ⟨(N : Int), L⟩ && satP N rows x) N z <= 255 \/ 2 ^ rows.length = 1 := by
    cases hrw : rows with
    | nil => right; rfl
    | cons p rs =>
      left
      have hp := hR0.pos p (by rw [hrw]; simp);have hm := ze0 hp;have hb := hR0.ino p (by rw [hrw]; simp) _ hm;have hhalf := zid (D := p.v.mem) N z p.odd (za4 p.v) (by omega) hb hm
      have hle : cnt (fun x => ev x ⟨(N : Int), L⟩ && satP N (p :: rs) x) N z <= cnt (fun x => par p.v.mem N x == p.odd) N z := by
       have hs := zb1 (N := N) (z := z) (fun x => par p.v.mem N x == p.odd) (fun x => ev x ⟨(N : Int), L⟩ && satP N (p :: rs) x)
       have e : cnt (fun x => (par p.v.mem N x == p.odd) && (ev x ⟨(N : Int), L⟩ && satP N (p :: rs) x)) N z = cnt (fun x => ev x ⟨(N : Int), L⟩ && satP N (p :: rs) x) N z := zag N z fun x _ => by
        unfold satP gP;rw [List.all_cons]
        cases par p.v.mem N x <;> cases p.odd <;> simp
       omega
      have h8 : 2 ^ N <= 256 := Nat.le_trans (Nat.pow_le_pow_right (by omega) hN) (by decide);omega
   obtain ⟨hd2, hd3⟩ := hd1;have hCle : cnt (fun x => ev x ⟨(N : Int), L⟩ && satP N rows x) N z <= 256 := Nat.le_trans (zfh _ N z) (Nat.le_trans (Nat.pow_le_pow_right (by omega) hN) (by decide))
   have hb : sumE (evE N rows z (fun x => ev x ⟨(N : Int), L⟩) rows.length) (2 ^ rows.length) < 65536 := by
    generalize sumE (evE N rows z (fun x => ev x ⟨(N : Int), L⟩) rows.length) (2 ^ rows.length) = A at *;generalize cnt (fun x => ev x ⟨(N : Int), L⟩) N z = M at *;generalize cnt (fun x => ev x ⟨(N : Int), L⟩ && satP N rows x) N z = C at *;generalize 2 ^ rows.length = P at *
    rcases hC with hC | hC
    ·have : P * (M + C) <= 256 * 511 := Nat.mul_le_mul hP (by omega);omega
    have hP1 : P * (M + C) = M + C := by rw [hC, Nat.one_mul]
    omega
   have hA := zqr (z := z) hN h hd hdet hrows (2 ^ rows.length) ⟨hb, Nat.lt_of_le_of_lt hd2 hb⟩ (2 ^ rows.length) (Nat.le_refl _);rw [hA]
   show (if _ then some _ else none) = _
   rw [if_pos ⟨hd2, Nat.le_trans hlen hN⟩]
   show some ((_ - _) / 2 ^ rows.length) = _
   rw [hd3]
end
end Go.Proofs.YtlleofjjdhfgcaaGreatDoor
namespace Cen
def BV (N : List Nd) (i : Int) (v : Int) : Prop := ((zau N).getD i.toNat St.zero).mem v = true
theorem zef {l r : List Nd} {i : Nat} (h : i < l.length) : (zau (l ++ r)).getD i St.zero = (zau l).getD i St.zero := by
 obtain ⟨us, hu⟩ := zfk r (zau l)
 have e : zau (l ++ r) = zau l ++ us := by rw [<- hu]; exact zdu l r []
 rw [e, List.getD_eq_getElem?_getD, List.getD_eq_getElem?_getD, List.getElem?_append_left (by rw [zba]; exact h)]
theorem ya9 (vs : List St) (ins : List Int) (v : Int) : ∀ s : St, (insU vs s ins).mem v = true ↔ s.mem v = true \/ ∃ k ∈ ins, (vs.getD k.toNat St.zero).mem v = true := by
 induction ins with
 | nil => intro s; simp [insU]
 | cons k ins ih =>
   intro s;rw [show insU vs s (k :: ins) = insU vs (s.union (vs.getD k.toNat St.zero)) ins from rfl, ih, St.mem_union, Bool.or_eq_true];simp only [List.mem_cons]
   constructor
   ·rintro ((h | h) | ⟨j, hj, h⟩)
    ·exact .inl h
    ·exact .inr ⟨k, .inl rfl, h⟩
    exact .inr ⟨j, .inr hj, h⟩
   rintro (h | ⟨j, rfl | hj, h⟩)
   ·exact .inl (.inl h)
   ·exact .inl (.inr h)
   exact .inr ⟨j, hj, h⟩
theorem ybe (x v : Int) : (ofL [x]).mem v = true ↔ v = x /\ 1 <= x /\ x <= 128 := by
 unfold ofL;simp only [List.foldl_cons, List.foldl_nil, St.mem_add, St.mem_zero, Bool.false_or, Bool.and_eq_true, decide_eq_true_eq, and_assoc]
theorem BV_eq {N : List Nd} {i : Nat} (hi : i < N.length) (hin : zeg (nd N i).ins i = true) {v : Int} : BV N i v ↔ (v = zac (nd N i).lit /\ 1 <= v) \/ ∃ k ∈ (nd N i).ins, BV N k v := by
 rw [zer] at hin
 have e : nd N i = N[i] := by unfold nd; simp [List.getD_eq_getElem?_getD, hi]
 rw [e] at hin ⊢;have h1 : N = N.take (i + 1) ++ N.drop (i + 1) := (List.take_append_drop _ _).symm
 have h2 : (zau N).getD i St.zero = insU (zau (N.take i)) (ofL [zac N[i].lit]) N[i].ins := by
  have hl : (zau (N.take i)).length = i := by rw [zba, List.length_take]; omega
  have h3 := zef (l := N.take (i + 1)) (r := N.drop (i + 1)) (i := i) (by rw [List.length_take]; omega);rw [<- h1, List.take_succ_eq_append_getElem hi, zhh, List.getD_eq_getElem?_getD (l := _ ++ _), List.getElem?_append_right (by omega), hl] at h3;rw [h3]; simp
 have h4 : ∀ k ∈ N[i].ins, (zau (N.take i)).getD k.toNat St.zero = (zau N).getD k.toNat St.zero := fun k hk => by
  have := hin k hk;have h5 := zef (l := N.take i) (r := N.drop i) (i := k.toNat) (by rw [List.length_take]; omega);rw [List.take_append_drop] at h5;exact h5.symm
 unfold BV;rw [Int.toNat_natCast, h2, ya9, ybe];have hb := zcd N[i].lit
 constructor
 ·rintro (⟨a, b, _⟩ | ⟨k, hk, a⟩)
  ·exact .inl ⟨a, by omega⟩
  rw [h4 k hk] at a; exact .inr ⟨k, hk, a⟩
 rintro (⟨a, b⟩ | ⟨k, hk, a⟩)
 ·exact .inl ⟨a, by omega, by omega⟩
 rw [<- h4 k hk] at a; exact .inr ⟨k, hk, a⟩
def Nod (st : List Nc) (N : List Nd) : Prop := ∀ (i : Nat) (c : Nc), st[i]? = some c -> i < N.length /\ nd N i = c.nd /\ zeg c.nd.ins i = true
def Bel (st : List Nc) (N : List Nd) (i : Nat) : Prop := ∀ c, st[i]? = some c -> (∀ x, c.nd = ⟨2, x, []⟩ -> ∀ v, BV N i v -> v = zac x) /\ (c.nd.kind = 0 -> ∀ v, ¬ BV N i v) /\ (c.nd.kind = 4 -> ∀ l t, c.tag = some (l, t) -> ∀ v, BV N i v -> (zae l).mem v = true)
section
variable {st : List Nc} {N : List Nd} {n : Nat} {ch : List Cl -> Int}
theorem Nod.eq (h : Nod st N) {i : Nat} {c : Nc} (hc : st[i]? = some c) {v : Int} : BV N i v ↔ (v = zac c.nd.lit /\ 1 <= v) \/ ∃ k ∈ c.nd.ins, BV N k v := by
 obtain ⟨h1, h2, h3⟩ := h i c hc;have := BV_eq (v := v) h1 (by rw [h2]; exact h3)
 rwa [h2] at this
theorem zet : zac 0 = 0 := by unfold zac; simp
theorem Fit.sep (hn : n <= 128) {m : List Cl} {ins : List Nat} (h : Fit st m ins) (hg : ∀ c ∈ m, gC n c) (hB : ∀ j ∈ ins, Bel st N j) :
 (ins.Pairwise fun (i j : Nat) => ∀ v, ¬ (BV N i v /\ BV N j v)) /\ ∀ j ∈ ins, ∀ v, BV N (j : Nat) v -> (zae m).mem v = true := by
 induction h with
 | @unit x l i ins a hf ih =>
   have hl := (hg [x] (by simp)).lv hn (x := x) (by simp)
   obtain ⟨ih1, ih2⟩ := ih (zbh hg x).gc fun j hj => hB j (by simp [hj])
   obtain ⟨c, hc, e⟩ := a;have hi := (hB i (by simp) c hc).1 x e;refine ⟨List.pairwise_cons.2 ⟨fun j hj v ⟨h1, h2⟩ => ?_, ih1⟩, fun j hj v hv => ?_⟩
   ·exact (za1 hl (ih2 j hj v h2)).2 (hi v h1)
   rcases List.mem_cons.1 hj with rfl | hj
   ·rw [hi v hv]; exact zge (c := [x]) (by simp) (by simp) hl
   exact (za1 hl (ih2 j hj v hv)).1
 | @bad l i a b =>
   obtain ⟨c, hc, e⟩ := b;refine ⟨by simp, fun j hj v hv => ?_⟩;simp at hj; subst hj;exact absurd hv ((hB j (by simp) c hc).2.1 (by rw [e]) v)
 | @parts l ins a b c =>
   have key : ∀ k (h1 : k < ins.length) (h2 : k < (zaj l).length) v, BV N (ins[k] : Nat) v -> (zae (zaj l)[k]).mem v = true := fun k h1 h2 v hv => by
    obtain ⟨⟨c', t, hc, ht⟩, d, hd, hk⟩ := c k h1
    have e1 : ins.getD k 0 = ins[k] := by simp [List.getD_eq_getElem?_getD, h1]
    have e2 : (zaj l).getD k [] = (zaj l)[k] := by simp [List.getD_eq_getElem?_getD, h2]
    rw [e1] at hc hd; rw [e2] at ht;rw [hc] at hd; simp at hd; subst hd;exact (hB _ (List.getElem_mem h1) c' hc).2.2 hk _ t ht v hv
   refine ⟨?_, fun j hj v hv => ?_⟩
   ·rw [List.pairwise_iff_getElem];intro i j hi hj hij v ⟨h1, h2⟩;have := List.pairwise_iff_getElem.1 (zm3 l) i j (by omega) (by omega) hij v;exact this ⟨key i hi (by omega) v h1, key j hj (by omega) v h2⟩
   obtain ⟨k, hk, rfl⟩ := List.getElem_of_mem hj;exact ze9 (List.getElem_mem (by omega)) (key k hk (by omega) v hv)
theorem Nod.lit (hN : Nod st N) {i : Nat} {x : Int} (h : isLit st i x) (hx : zac x ≠ 0) (v : Int) : BV N i v ↔ v = zac x := by
 obtain ⟨c, hc, e⟩ := h;rw [hN.eq hc, e];have := zcd x
 constructor
 ·rintro (⟨a, _⟩ | ⟨k, hk, _⟩)
  ·exact a
  simp at hk
 intro a; exact .inl ⟨a, by omega⟩
theorem Nod.and (hn : n <= 128) (hN : Nod st N) {l : List Cl} {x : Int} {k : Nat} {ins : List Nat} (hg : ∀ c ∈ l, gC n c) (hx : zac x ≠ 0) (hk : isLit st k x) (hf : Fit st (zah l x) ins) (hB : ∀ j ∈ ins, Bel st N j) :
 ((k :: ins).Pairwise fun (i j : Nat) => ∀ v, ¬ (BV N i v /\ BV N j v)) /\ ∀ j ∈ k :: ins, ∀ v, BV N (j : Nat) v -> v = zac x \/ (zae l).mem v = true := by
 obtain ⟨h1, h2⟩ := hf.sep hn (zbh hg x).gc hB;have hl := hN.lit hk hx;refine ⟨List.pairwise_cons.2 ⟨fun j hj v ⟨a, b⟩ => ?_, h1⟩, fun j hj v hv => ?_⟩
 ·exact (za1 hx (h2 j hj v b)).2 ((hl v).1 a)
 rcases List.mem_cons.1 hj with rfl | hj
 ·exact .inl ((hl v).1 hv)
 exact .inr (za1 hx (h2 j hj v hv)).1
theorem zjj {l : List Nat} {k : Int} : k ∈ zaf l ↔ ∃ j ∈ l, (j : Int) = k := by simp [zaf]
theorem Side.bel (hn : n <= 128) (hN : Nod st N) {l : List Cl} {x : Int} {i : Nat} (h : Side st l x i) (hg : ∀ c ∈ l, gC n c) (hx : zac x ≠ 0) (hv : (zae l).mem (zac x) = true) (hB : ∀ j, j < i -> Bel st N j) :
 (∀ v, BV N i v -> (zae l).mem v = true) /\ BV N i (zac x) := by
 rcases h with ⟨a, b⟩ | ⟨a, c, k, ins, d, e, f, g, h1, h2, h3⟩
 ·have hl := hN.lit b hx;exact ⟨fun v h => by rw [(hl v).1 h]; exact hv, (hl _).2 rfl⟩
 have h4 := (hN.and hn hg hx g h1 fun j hj => hB j (h3 j hj)).2
 have hq := fun v => hN.eq (v := v) d
 rw [e] at hq;refine ⟨fun v h => ?_, (hq _).2 (.inr ⟨k, zjj.2 ⟨k, by simp, rfl⟩, (hN.lit g hx _).2 rfl⟩)⟩
 rcases (hq v).1 h with ⟨a1, a2⟩ | ⟨j, hj, a1⟩
 ·simp only [zet] at a1; omega
 obtain ⟨j', hj', rfl⟩ := zjj.1 hj
 rcases h4 j' hj' v a1 with rfl | h5
 ·exact hv
 exact h5
theorem zo0 (hn : n <= 128) (hi : Inv ch n st) (hN : Nod st N) : ∀ i, Bel st N i := by
 intro i
 induction i using Nat.strongRecOn with
 | _ i ih =>
   intro c hc
   have hq := fun v => hN.eq (v := v) hc
   have hf := hi i c hc
   cases hf with
   | @lit x t a b =>
     refine ⟨fun y e v h => ?_, fun h => by simp at h, fun h => by simp at h⟩;simp at e; subst e
     rcases (hq v).1 h with ⟨a1, _⟩ | ⟨j, hj, _⟩
     ·exact a1
     simp at hj
   | bad a =>
     refine ⟨fun y e => by simp at e, fun _ v h => ?_, fun h => by simp at h⟩
     rcases (hq v).1 h with ⟨a1, a2⟩ | ⟨j, hj, _⟩
     ·simp only [zet] at a1; omega
     simp at hj
   | @dec l t a b g1 g2 g3 g4 g5 g6 g7 g8 s1 s2 =>
     refine ⟨fun y e => by simp at e, fun h => by simp at h, fun _ l' t' e v h => ?_⟩;simp only [Option.some.injEq, Prod.mk.injEq] at e;obtain ⟨rfl, _⟩ := e
     have hv0 : zac (ch l) = ch l := by rw [zam (by omega) (by omega) (by omega), if_neg (by omega)]
     have b1 := (s1.bel hn hN g1.gc (by rw [zbw, hv0]; omega) (by rw [zbw, hv0]; exact g6) fun j hj => ih j (by omega)).1;have b2 := (s2.bel hn hN g1.gc (by rw [hv0]; omega) (by rw [hv0]; exact g6) fun j hj => ih j (by omega)).1
     rcases (hq v).1 h with ⟨a1, a2⟩ | ⟨j, hj, h2⟩
     ·simp only [zet] at a1; omega
     simp only [List.mem_cons, List.not_mem_nil, or_false] at hj
     rcases hj with rfl | rfl
     ·exact b1 v h2
     exact b2 v h2
   | and => exact ⟨fun y e => by simp at e, fun h => by simp at h, fun h => by simp at h⟩
theorem zv1 : ∀ (ins : List Nat) (s : St), s.ok -> (ins.Pairwise fun (i j : Nat) => ∀ v, ¬ (BV N i v /\ BV N j v)) -> (∀ j ∈ ins, ∀ v, ¬ (s.mem v = true /\ BV N (j : Nat) v)) -> sepF (zau N) s (zaf ins) = true
 | [], s, _, _, _ => rfl
 | k :: ins, s, hs, hp, hd => by
   rw [show zaf (k :: ins) = (k : Int) :: zaf ins from rfl];unfold sepF
   have hz : s.cut ((zau N).getD (k : Int).toNat St.zero) = St.zero := Classical.byContradiction fun h => by
    obtain ⟨v, h1, h2⟩ := zze hs h;exact hd k (by simp) v ⟨h1, h2⟩
   rw [if_pos hz];rw [List.pairwise_cons] at hp
   refine zv1 ins _ (St.union_ok hs ?_) hp.2 fun j hj v ⟨h1, h2⟩ => ?_
   ·rw [List.getD_eq_getElem?_getD]
    cases h : (zau N)[(k : Int).toNat]? with
    | none => exact St.zero_ok
    | some x => exact zfe N x (List.mem_of_getElem? h)
   rw [St.mem_union, Bool.or_eq_true] at h1
   rcases h1 with h1 | h1
   ·exact hd j (by simp [hj]) v ⟨h1, h2⟩
   exact hp.1 j hj v ⟨h1, h2⟩
theorem zrt {ins : List Nat} (hp : ins.Pairwise fun (i j : Nat) => ∀ v, ¬ (BV N i v /\ BV N j v)) : sepF (zau N) St.zero (zaf ins) = true := zv1 ins _ St.zero_ok hp fun j _ v h => by
 rw [St.mem_zero] at h; simp at h
def hasL (N : List Nd) (i : Int) (x : Int) : Prop := nd N i = ⟨2, x, []⟩ \/ ((nd N i).kind = 3 /\ ∃ k ∈ (nd N i).ins, nd N k = ⟨2, x, []⟩)
theorem Side.has (hN : Nod st N) {l : List Cl} {x : Int} {i : Nat} (h : Side st l x i) : hasL N i x := by
 rcases h with ⟨a, c, hc, e⟩ | ⟨a, c, k, ins, d, e, f, ⟨c', hc, e'⟩, h1, h2, h3⟩
 ·exact .inl (by rw [(hN i c hc).2.1, e])
 refine .inr ⟨by rw [(hN i c d).2.1, e], k, ?_, by rw [(hN k c' hc).2.1, e']⟩;rw [(hN i c d).2.1, e]; exact zjj.2 ⟨k, by simp, rfl⟩
structure OrN (ch : List Cl -> Int) (n : Nat) (N : List Nd) (i : Int) (l : List Cl) (a b : Nat) : Prop where
 gl : gL n l
 ne : l ≠ []
 two : ∀ c ∈ l, 2 <= c.length
 ins : (nd N i).ins = [(a : Int), (b : Int)]
 lo : 1 <= ch l
 hi : ch l <= n
 la : a < i
 lb : b < i
 ha : hasL N a (-ch l)
 hb : hasL N b (ch l)
 bv : BV N i (ch l)
 vs : ∀ v, BV N i v -> (zae l).mem v = true
theorem ybd (hn : n <= 128) (hi : Inv ch n st) (hN : Nod st N) {i : Nat} {c : Nc} (hc : st[i]? = some c) (h4 : c.nd.kind = 4) : ∃ l a b, OrN ch n N i l a b := by
 have hb := zo0 hn hi hN;have hf := hi i c hc;have hbi := (hb i c hc).2.2 h4
 have hq := fun v => hN.eq (v := v) hc
 have hnd := (hN i c hc).2.1
 cases hf with
 | lit => simp at h4
 | bad => simp at h4
 | and => simp at h4
 | @dec l t a b g1 g2 g3 g4 g5 g6 g7 g8 s1 s2 =>
   have hv0 : zac (ch l) = ch l := by rw [zam (by omega) (by omega) (by omega), if_neg (by omega)]
   have b2 := (s2.bel hn hN g1.gc (by rw [hv0]; omega) (by rw [hv0]; exact g6) fun j hj => hb j).2;rw [hv0] at b2;exact ⟨l, a, b, g1, g2, g3, by rw [hnd], g4, g5, by omega, by omega, s1.has hN, s2.has hN, (hq _).2 (.inr ⟨b, by simp, b2⟩), hbi l t rfl⟩
theorem zx2 (hn : n <= 128) (hi : Inv ch n st) (hN : Nod st N) {i : Nat} {c : Nc} (hc : st[i]? = some c) : zst (zau N) c.nd = true := by
 have hb := zo0 hn hi hN;have hf := hi i c hc;unfold zst
 cases hf with
 | lit => simp
 | bad => simp
 | dec => simp
 | @and l x k ins a b g hk c' hf =>
   have hx : zac x ≠ 0 := by
    obtain ⟨d, hd, e⟩ := hk;have hf' := hi k d hd
    have : litN n x := by
     cases hf' with
     | lit a b => simp at e; subst e; exact a
     | bad => simp at e
     | dec => simp at e
     | and => simp at e
    exact (this.ok hn).1
   rw [zrt (hN.and hn g.gc hx hk hf fun j _ => hb j).1]; simp
end
section
variable {ch : List Cl -> Int} {n : Nat} {t : List Cl} {cache : Bool}
theorem Inv.ins {st : List Nc} (hn : n <= 128) (h : Inv ch n st) {i : Nat} {c : Nc} (hc : st[i]? = some c) : zeg c.nd.ins i = true := by
 have := (h i c hc).ok hn;unfold ndOk at this;simp only [Bool.and_eq_true] at this;exact this.1
theorem zqy (hn : n <= 128) (hch : Chooses ch n) (ht : tOk n t) (h0 : zaa n t ≠ []) : Nod (zak ch cache (zaa n t)).1 (nds (zad ch cache n t)) := by
 have hC := core hn hch ht cache;intro i c hc;have hl := zb3 hc
 cases hr : zcl (zak ch cache (zaa n t)) (zaa n t) with
 | true =>
   rw [zft h0 hr];exact ⟨by simp [zat]; omega, by rw [zn9 (by omega) (by rw [zat]; omega), zc0 hc], hC.inv.inv.ins hn hc⟩
 | false =>
   rw [zfu h0 hr];exact ⟨by rw [zat]; exact hl, zc0 hc, hC.inv.inv.ins hn hc⟩
theorem zw2 (hn : n <= 128) (hch : Chooses ch n) (ht : tOk n t) : decL (nds (zad ch cache n t)) = true := by
 by_cases h0 : zaa n t = []
 ·rw [za9 h0]; rfl
 have hC := core hn hch ht cache;have hN := zqy (cache := cache) hn hch ht h0;have hg := za2 hn ht.rg
 refine zud fun j hj => ?_
 by_cases hl : j < (zak ch cache (zaa n t)).1.length
 ·have hc : (zak ch cache (zaa n t)).1[j]? = some (zak ch cache (zaa n t)).1[j] := List.getElem?_eq_getElem hl;have := zx2 hn hC.inv.inv hN hc;rw [<- (hN j _ hc).2.1] at this;exact this
 cases hr : zcl (zak ch cache (zaa n t)) (zaa n t) with
 | false => rw [zfu h0 hr, zat] at hj; exact absurd hj hl
 | true =>
   have hs := zrt (hC.fit.sep hn hg.gc fun j _ => zo0 hn hC.inv.inv hN j).1;rw [zft h0 hr] at hj hs ⊢
   have e : j = (nds (zak ch cache (zaa n t)).1).length := by simp [zat] at hj ⊢; omega
   subst e;rw [List.getD_eq_getElem?_getD, List.getElem?_append_right (Nat.le_refl _)];simp only [Nat.sub_self, List.getElem?_cons_zero, Option.getD_some];unfold zst;rw [hs]; simp
theorem yak (hn : n <= 128) (hch : Chooses ch n) (ht : tOk n t) {i : Nat} (hi : i < (nds (zad ch cache n t)).length) (hk : (nd (nds (zad ch cache n t)) i).kind = 4) : ∃ l a b, OrN ch n (nds (zad ch cache n t)) i l a b := by
 by_cases h0 : zaa n t = []
 ·rw [za9 h0] at hi hk
  have : i = 0 := by simpa [nds] using hi
  subst this
  simp [nd, nds] at hk
 have hC := core hn hch ht cache;have hN := zqy (cache := cache) hn hch ht h0
 by_cases hl : i < (zak ch cache (zaa n t)).1.length
 ·have hc : (zak ch cache (zaa n t)).1[i]? = some (zak ch cache (zaa n t)).1[i] := List.getElem?_eq_getElem hl;refine ybd hn hC.inv.inv hN hc ?_;rw [<- (hN i _ hc).2.1]; exact hk
 exfalso
 cases hr : zcl (zak ch cache (zaa n t)) (zaa n t) with
 | false => rw [zfu h0 hr, zat] at hi; exact hl hi
 | true =>
   rw [zft h0 hr] at hi hk
   have e : i = (nds (zak ch cache (zaa n t)).1).length := by simp [zat] at hi ⊢; omega
   subst e;unfold nd at hk;rw [List.getD_eq_getElem?_getD, Int.toNat_natCast, List.getElem?_append_right (Nat.le_refl _)] at hk;simp at hk
end
end Cen
namespace Go.Proofs.YtlleofjjdhfgcaaGreatDoor
open Go.RowKit Cen
theorem zzn {s : Int -> Bool} {N : List Nd} {n : Int} (hL : zds N n N.length) {i x : Int} (h0 : 0 <= i) (h1 : i < N.length) (h : hasL N i x) (ht : T s N i = true) : zcj s x = true := by
 rcases h with h | ⟨h3, k, hk, hkl⟩
 ·rw [zz7 hL h0 h1 (by rw [h]), h] at ht;exact ht
 have hin := zd9 (zoa hL h0 h1) k hk;rw [T_nd s hL h0 h1] at ht;unfold evNd at ht;rw [if_neg (by omega), if_neg (by omega), if_pos h3, List.all_eq_true] at ht;have := ht k hk;rw [zz7 hL hin.1 (by omega) (by rw [hkl]), hkl] at this;exact this
theorem zw3 {ch : List Cl -> Int} {cache : Bool} {n : Nat} {t : List Cl} (hn : n <= 128) (hch : Chooses ch n) (ht : tOk n t) : detL (nds (zad ch cache n t)) := by
 intro s i hi hk;have hL := zqw (cache := cache) hn hch ht;obtain ⟨l, a, b, h⟩ := yak (cache := cache) hn hch ht hi hk;rw [h.ins];refine List.pairwise_cons.2 ⟨fun k hkm => ?_, List.pairwise_singleton _ _⟩;simp at hkm;subst hkm;rintro ⟨h1, h2⟩;have la := h.la;have lb := h.lb;have lo := h.lo;have hi2 := h.hi;have e1 := zzn hL (by omega) (by omega) h.ha h1;have e2 := zzn hL (by omega) (by omega) h.hb h2;rw [zf8 (by unfold zac; rw [if_pos (by omega)]; omega), e2] at e1;simp at e1
theorem zr7 {n : Nat} {t : List Cl} (hg : Gdt n t []) (h8 : n <= 8) (l : List Pr) (hok : ∀ p ∈ l, p.ok) (hin : ∀ p ∈ l, ∀ v, p.v.mem v = true -> v <= n) (z : Int -> Bool) :
 zfl n (nds (zad (chF [] false n) false n t)) l = some (cnt (fun x => evL x t && satP n l x) n z) := by
 have hch : Chooses (chF [] false n) n := zfm (by omega);have htk := hg.tok
 have hlen : (zad (chF [] false n) false n t).length <= 65536 := by
  have h1 := (zh8 (cache := false) (show n <= 128 by omega) hch htk).1
  have h2 : card (zae (zaa n t)) <= n := zj8 (by omega) fun c hc x hx => (((za2 (by omega) htk.rg).gc) c hc).rg x hx
  have h3 := zlv (Nat.le_trans h2 h8)
  have h4 : FB 8 = 1021 := by decide
  omega
 have hnet := zqx (cache := false) (show n <= 128 by omega) hch htk hlen;rw [zwv (z := z) h8 hnet (zw2 (by omega) hch htk) (zw3 (by omega) hch htk) l hok hin]
 congr 1
 exact zag n z fun x _ => by rw [yaj (by omega) hch htk]
def fewV (n : Nat) (l : Int) : Int := if l < 0 then -(1 + (((-(l + 1)).toNat % n : Nat) : Int)) else 1 + ((l.toNat % n : Nat) : Int)
def fewG (n : Nat) : List Int -> List Int -> List Int
 | d, [] => d
 | d, l :: c => if 0 < n /\ l ≠ 0 /\ d.length < 20 then fewG n (d ++ [fewV n l]) c else fewG n d c
def fewT (n : Nat) (t : List Cl) : List Cl := t.map fun c => fewG n [] c
theorem yaz {n : Nat} (hn : 0 < n) (hn2 : n <= 128) (l : Int) : litN n (fewV n l) := by
 unfold litN fewV;have h1 := Nat.mod_lt (-(l + 1)).toNat hn;have h2 := Nat.mod_lt l.toNat hn
 split <;> omega
theorem zpk {n : Nat} (hn2 : n <= 128) : ∀ (c d : List Int), d.length <= 20 -> (∀ x ∈ d, litN n x) -> (fewG n d c).length <= 20 /\ ∀ x ∈ fewG n d c, litN n x
 | [], d, h1, h2 => ⟨h1, h2⟩
 | l :: c, d, h1, h2 => by
   rw [fewG]
   split
   ·rename_i h
    exact zpk hn2 c _ (by simp; omega) fun x hx => by
     rcases List.mem_append.1 hx with hx | hx
     ·exact h2 x hx
     simp at hx; subst hx; exact yaz h.1 hn2 l
   exact zpk hn2 c d h1 h2
theorem zzi {n : Nat} (hn : n <= 9) {t : List Cl} (ht : t.length <= 4096) : Gdt n (fewT n t) [] := by
 have hc : ∀ c ∈ fewT n t, c.length <= 128 /\ ∀ x ∈ c, litN n x := fun c hc => by
  obtain ⟨d, _, rfl⟩ := List.mem_map.1 hc;have := zpk (n := n) (by omega) d [] (by simp) (by simp);exact ⟨by omega, this.2⟩
 have hl : (fewT n t).length <= 4096 := by simpa [fewT] using ht
 refine ⟨hn, hl, fun c h => (hc c h).1, ?_⟩;have := zt2 (show n <= 128 by omega) hl hc;unfold zc3;rw [if_neg (by rw [this]; simp), if_neg (by simp)]
end Go.Proofs.YtlleofjjdhfgcaaGreatDoor
