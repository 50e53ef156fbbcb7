/- Part of the proofs that laws return true for every input, where the tables that the rows list are laid. Texts: Pm, Pn, Jf0. -/
import Derived.Test.YtlleofjjdhfgcaaGreatDoorYM47
import Derived.Test.YtlleofjjdhfgcaaGreatDoorYM46
set_option maxHeartbeats 8000000
set_option maxRecDepth 100000
set_option linter.unusedSimpArgs false
set_option linter.unusedVariables false
namespace Go.Proofs.YtlleofjjdhfgcaaGreatDoor
open Go.RowKit Cen
def DW (n : Nat) (D : Nat) (v : Int) : Bool := decide (1 <= v /\ v <= n) && D / 2 ^ (n - v.toNat) % 2 == 1
theorem yb2 {n D : Nat} {v : Int} (h : v <= n) : DW (n + 1) D v = DW n (D / 2) v := by
 unfold DW
 by_cases h1 : 1 <= v
 ·rw [decide_eq_true (show 1 <= v /\ v <= ((n + 1 : Nat) : Int) by omega), decide_eq_true (show 1 <= v /\ v <= (n : Int) by omega)];rw [show n + 1 - v.toNat = (n - v.toNat) + 1 by omega, Nat.pow_succ', <- Nat.div_div_eq_div_mul]
 rw [decide_eq_false (fun h => h1 h.1), decide_eq_false (fun h => h1 h.1)]; rfl
theorem yb3 (n D : Nat) : DW (n + 1) D ((n : Int) + 1) = (D % 2 == 1) := by
 unfold DW;rw [decide_eq_true (show 1 <= (n : Int) + 1 /\ (n : Int) + 1 <= ((n + 1 : Nat) : Int) by omega), show n + 1 - ((n : Int) + 1).toNat = 0 by omega]
 simp
theorem ycz (n D : Nat) (x : Int -> Bool) : par (DW (n + 1) D) (n + 1) x = (par (DW n (D / 2)) n x != ((D % 2 == 1) && x ((n : Int) + 1))) := by
 rw [par, yb3, zcx (D' := DW n (D / 2)) (s' := x) n fun v _ h => by rw [yb2 h]]
def ws (f : (Int -> Bool) -> Bool) : Nat -> (Int -> Bool) -> Nat -> Int
 | 0, z, _ => if f z then 1 else 0
 | n + 1, z, D => ws f n (setV z ((n : Int) + 1) false) (D / 2) + (if D % 2 = 1 then -1 else 1) * ws f n (setV z ((n : Int) + 1) true) (D / 2)
theorem zr3 (f : (Int -> Bool) -> Bool) : ∀ (n : Nat) (z : Int -> Bool) (D : Nat), ws f n z D = (cnt (fun x => f x && !par (DW n D) n x) n z : Int) - (cnt (fun x => f x && par (DW n D) n x) n z : Int)
 | 0, z, D => by
   rw [ws, cnt, cnt]
   show _ = ((if (f z && !par (DW 0 D) 0 z) = true then 1 else 0 : Nat) : Int) - ((if (f z && par (DW 0 D) 0 z) = true then 1 else 0 : Nat) : Int)
   rw [show par (DW 0 D) 0 z = false from rfl]
   cases f z <;> rfl
 | n + 1, z, D => by
   rw [ws, cnt, cnt, zr3 f n, zr3 f n]
   have key : ∀ (c b : Bool), cnt (fun x => f x && (par (DW (n + 1) D) (n + 1) x == b)) n (setV z ((n : Int) + 1) c) = cnt (fun x => f x && (par (DW n (D / 2)) n x == (b != ((D % 2 == 1) && c)))) n (setV z ((n : Int) + 1) c) := fun c b => zag n _ fun x hx => by
    have e : x ((n : Int) + 1) = c := by rw [hx _ (.inr (by omega))]; unfold setV; rw [if_pos rfl]
    rw [ycz, e]
    cases par (DW n (D / 2)) n x <;> cases (D % 2 == 1) <;> cases c <;> cases b <;> rfl
   have e0 : ∀ (k : Nat) (E : Nat) (y : Int -> Bool), cnt (fun x => f x && !par (DW k E) k x) n y = cnt (fun x => f x && (par (DW k E) k x == false)) n y := fun k E y => zag n _ fun x _ => by cases par (DW k E) k x <;> rfl
   have e1 : ∀ (k : Nat) (E : Nat) (y : Int -> Bool), cnt (fun x => f x && par (DW k E) k x) n y = cnt (fun x => f x && (par (DW k E) k x == true)) n y := fun k E y => zag n _ fun x _ => by cases par (DW k E) k x <;> rfl
   rw [e0, e0, e0, e0, e1, e1, e1, e1, key, key, key, key]
   by_cases hd : D % 2 = 1
   ·have hb : (D % 2 == 1) = true := by simpa using hd
    rw [if_pos hd, hb];simp only [Bool.true_and, Bool.bne_false, Bool.bne_true, Bool.not_false, Bool.not_true]
    push_cast
    omega
   have hb : (D % 2 == 1) = false := by simpa using hd
   rw [if_neg hd, hb];simp only [Bool.false_and, Bool.bne_false]
   push_cast
   omega
def sumI (h : Nat -> Int) : Nat -> Int
 | 0 => 0
 | t + 1 => sumI h t + h t
theorem zdb {h h' : Nat -> Int} : ∀ t, (∀ s, s < t -> h s = h' s) -> sumI h t = sumI h' t
 | 0, _ => rfl
 | t + 1, e => by rw [sumI, sumI, zdb t fun s hs => e s (by omega), e t (by omega)]
theorem zgo (h : Nat -> Int) : ∀ t, sumI h (2 * t) = sumI (fun s => h (2 * s) + h (2 * s + 1)) t
 | 0 => rfl
 | t + 1 => by
   rw [show 2 * (t + 1) = 2 * t + 1 + 1 by omega, sumI, sumI, zgo h t, sumI]; omega
theorem zih (h h' : Nat -> Int) : ∀ t, sumI (fun s => h s + h' s) t = sumI h t + sumI h' t
 | 0 => rfl
 | t + 1 => by rw [sumI, sumI, sumI, zih h h' t]; omega
theorem zed (c : Int) (h : Nat -> Int) : ∀ t, sumI (fun s => c * h s) t = c * sumI h t
 | 0 => by rw [sumI, sumI, Int.mul_zero]
 | t + 1 => by rw [sumI, sumI, zed c h t, Int.mul_add]
theorem zhd (c : Int) : ∀ t : Nat, sumI (fun _ => c) t = t * c
 | 0 => by rw [sumI]; simp
 | t + 1 => by rw [sumI, zhd c t]; push_cast; rw [Int.add_mul]; omega
theorem zrx (h : Nat -> Nat) : ∀ t, sumI (fun s => (h s : Int)) t = (sumE h t : Int)
 | 0 => rfl
 | t + 1 => by rw [sumI, sumE, zrx h t]; push_cast; rfl
theorem zmv (f h : (Int -> Bool) -> Bool) : ∀ (n : Nat) (z : Int -> Bool), sumI (fun D => ws f n z D * ws h n z D) (2 ^ n) = 2 ^ n * (cnt (fun x => f x && h x) n z : Int)
 | 0, z => by
   show 0 + (if f z then (1 : Int) else 0) * (if h z then 1 else 0) = 2 ^ 0 * ((if (f z && h z) = true then 1 else 0 : Nat) : Int)
   cases f z <;> cases h z <;> rfl
 | n + 1, z => by
   rw [Nat.pow_succ, Nat.mul_comm, zgo]
   have e : ∀ D, ws f (n + 1) z (2 * D) * ws h (n + 1) z (2 * D) + ws f (n + 1) z (2 * D + 1) * ws h (n + 1) z (2 * D + 1) = 2 * (ws f n (setV z ((n : Int) + 1) false) D * ws h n (setV z ((n : Int) + 1) false) D) + 2 * (ws f n (setV z ((n : Int) + 1) true) D * ws h n (setV z ((n : Int) + 1) true) D) := fun D => by
    have d0 : 2 * D / 2 = D := by omega
    have d1 : (2 * D + 1) / 2 = D := by omega
    have m0 : ¬ (2 * D % 2 = 1) := by omega
    have m1 : (2 * D + 1) % 2 = 1 := by omega
    simp only [ws, d0, d1, if_neg m0, if_pos m1];generalize ws f n (setV z ((n : Int) + 1) false) D = a;generalize ws f n (setV z ((n : Int) + 1) true) D = b;generalize ws h n (setV z ((n : Int) + 1) false) D = c;generalize ws h n (setV z ((n : Int) + 1) true) D = d;rw [Int.one_mul, Int.one_mul, show (-1 : Int) * b = -b by omega, show (-1 : Int) * d = -d by omega];simp only [Int.add_mul, Int.mul_add, Int.neg_mul, Int.mul_neg, Int.neg_neg];omega
   rw [zdb _ fun D _ => e D, zih, zed, zed, zmv f h n, zmv f h n, cnt, Int.pow_succ]
   push_cast
   rw [Int.mul_add, Int.mul_comm (2 ^ n) 2, Int.mul_assoc, Int.mul_assoc]
theorem zx6 (f h : (Int -> Bool) -> Bool) (n : Nat) (z : Int -> Bool) :
 2 * sumI (fun D => (cnt (fun x => f x && !par (DW n D) n x) n z : Int) * (cnt (fun x => h x && !par (DW n D) n x) n z : Int) + (cnt (fun x => f x && par (DW n D) n x) n z : Int) * (cnt (fun x => h x && par (DW n D) n x) n z : Int)) (2 ^ n)
  = 2 ^ n * ((cnt f n z : Int) * (cnt h n z : Int) + (cnt (fun x => f x && h x) n z : Int)) := by
 rw [Int.mul_add, <- zmv f h n z, <- zed, show (2 : Int) ^ n = ((2 ^ n : Nat) : Int) by push_cast; rfl, <- zhd, <- zih]
 refine zdb _ fun D _ => ?_
 rw [zr3, zr3]
 have a1 := zb1 (N := n) (z := z) f fun x => par (DW n D) n x
 have a2 := zb1 (N := n) (z := z) h fun x => par (DW n D) n x
 rw [a1, a2]
 push_cast
 generalize (cnt (fun x => f x && !par (DW n D) n x) n z : Int) = a;generalize (cnt (fun x => f x && par (DW n D) n x) n z : Int) = b;generalize (cnt (fun x => h x && !par (DW n D) n x) n z : Int) = c;generalize (cnt (fun x => h x && par (DW n D) n x) n z : Int) = d;simp only [Int.add_mul, Int.mul_add, Int.sub_mul, Int.mul_sub];omega
def rowW (n w : Nat) : Pr := ⟨setB (fun v => w / 2 / 2 ^ (n - v) % 2 == 1) n, w % 2 == 1⟩
def zei (n : Nat) : Nat -> Nat -> List Pr
 | 0, _ => []
 | m + 1, s => rowW n (s / 2 ^ (m * (n + 1))) :: zei n m (s % 2 ^ (m * (n + 1)))
theorem zzl {n : Nat} (hn : n <= 128) (w : Nat) (x : Int -> Bool) : gP n (rowW n w) x = (par (DW n (w / 2)) n x != (w % 2 == 1)) := by
 unfold gP rowW
 rw [zcx (D' := DW n (w / 2)) (s' := x) n fun v h1 h2 => by
  dsimp only;rw [zig _ _ _ hn, decide_eq_true h1, decide_eq_true h2];unfold DW
  rw [decide_eq_true (show 1 <= v /\ v <= (n : Int) from ⟨h1, h2⟩), Bool.true_and]]
theorem zmw {n : Nat} (hn : n <= 128) (f : (Int -> Bool) -> Bool) (z : Int -> Bool) (D : Nat) :
 cnt (fun x => f x && !gP n (rowW n (2 * D)) x) n z = cnt (fun x => f x && !par (DW n D) n x) n z /\ cnt (fun x => f x && !gP n (rowW n (2 * D + 1)) x) n z = cnt (fun x => f x && par (DW n D) n x) n z := by
 constructor
 ·refine zag n z fun x _ => ?_
  rw [zzl hn, show 2 * D / 2 = D by omega, show (2 * D % 2 == 1) = false by simp]; simp
 refine zag n z fun x _ => ?_
 rw [zzl hn, show (2 * D + 1) / 2 = D by omega, show ((2 * D + 1) % 2 == 1) = true by simp]; simp
theorem zj2 (h : Nat -> Nat) (b : Nat) : ∀ a, sumE h (a * b) = sumE (fun i => sumE (fun j => h (i * b + j)) b) a
 | 0 => by rw [Nat.zero_mul]; rfl
 | a + 1 => by rw [Nat.succ_mul, zfb, zj2 h b a, sumE]
theorem zgn (c : Nat) (h : Nat -> Nat) : ∀ t, sumE (fun s => c * h s) t = c * sumE h t
 | 0 => rfl
 | t + 1 => by rw [sumE, sumE, zgn c h t, Nat.mul_add]
theorem zlj (n m : Nat) {i j : Nat} (hj : j < 2 ^ (m * (n + 1))) : zei n (m + 1) (i * 2 ^ (m * (n + 1)) + j) = rowW n i :: zei n m j := by
 have hp : 0 < 2 ^ (m * (n + 1)) := Nat.pow_pos (by omega);rw [zei, Nat.mul_comm i, Nat.mul_add_div hp, Nat.div_eq_of_lt hj, Nat.add_zero, Nat.mul_add_mod, Nat.mod_eq_of_lt hj]
theorem zmx (n : Nat) (p : Pr) (l : List Pr) (f : (Int -> Bool) -> Bool) (z : Int -> Bool) : cnt (fun x => f x && satP n (p :: l) x) n z = cnt (fun x => (f x && !gP n p x) && satP n l x) n z := zag n z fun x _ => by
 unfold satP; rw [List.all_cons]; cases f x <;> rfl
theorem zv8 {n : Nat} (hn : n <= 128) (z : Int -> Bool) : ∀ (m : Nat) (f : (Int -> Bool) -> Bool), sumE (fun s => cnt (fun x => f x && satP n (zei n m s) x) n z) (2 ^ (m * (n + 1))) = 2 ^ (m * n) * cnt f n z
 | 0, f => by
   rw [Nat.zero_mul, Nat.zero_mul]
   show 0 + cnt (fun x => f x && satP n [] x) n z = 1 * cnt f n z
   rw [zag (g := f) n z fun x _ => by simp [satP]]; omega
 | m + 1, f => by
   have e : (m + 1) * (n + 1) = (n + 1) + m * (n + 1) := by rw [Nat.succ_mul, Nat.add_comm]
   rw [e, Nat.pow_add, zj2]
   rw [za3 (h' := fun i => 2 ^ (m * n) * cnt (fun x => f x && !gP n (rowW n i) x) n z) _ fun i _ => by
    rw [<- zv8 hn z m]
    exact za3 _ fun j hj => by rw [zlj n m hj, zmx]]
   rw [zgn, Nat.pow_succ, Nat.mul_comm (2 ^ n) 2]
   have hpair : ∀ (h : Nat -> Nat) (t : Nat), sumE h (2 * t) = sumE (fun s => h (2 * s) + h (2 * s + 1)) t := fun h t => by
    induction t with
    | zero => rfl
    | succ t ih => rw [show 2 * (t + 1) = 2 * t + 1 + 1 by omega, sumE, sumE, ih, sumE]; omega
   rw [hpair, za3 (h' := fun _ => cnt f n z) _ fun D _ => by
    obtain ⟨e1, e2⟩ := zmw hn f z D;rw [e1, e2]
    exact (zb1 f fun x => par (DW n D) n x).symm]
   rw [zd2, <- Nat.mul_assoc, <- Nat.pow_add, show m * n + n = (m + 1) * n by rw [Nat.succ_mul]]
theorem zv9 {n : Nat} (hn : n <= 128) (z : Int -> Bool) : ∀ (m : Nat) (f h : (Int -> Bool) -> Bool),
 2 ^ m * (sumE (fun s => cnt (fun x => f x && satP n (zei n m s) x) n z * cnt (fun x => h x && satP n (zei n m s) x) n z) (2 ^ (m * (n + 1))) : Int) = 2 ^ (m * n) * ((cnt f n z : Int) * (cnt h n z : Int) + (2 ^ m - 1) * (cnt (fun x => f x && h x) n z : Int))
 | 0, f, h => by
   rw [Nat.zero_mul, Nat.zero_mul]
   show (1 : Int) * ((0 + cnt (fun x => f x && satP n [] x) n z * cnt (fun x => h x && satP n [] x) n z : Nat) : Int) = 1 * (_ + (1 - 1) * _)
   rw [zag (f := fun x => f x && satP n [] x) (g := f) n z fun x _ => by simp [satP], zag (f := fun x => h x && satP n [] x) (g := h) n z fun x _ => by simp [satP]]
   push_cast; omega
 | m + 1, f, h => by
   have e : (m + 1) * (n + 1) = (n + 1) + m * (n + 1) := by rw [Nat.succ_mul, Nat.add_comm]
   rw [e, Nat.pow_add, zj2]
   have ih : ∀ i, 2 ^ m * (sumE (fun j => cnt (fun x => f x && satP n (zei n (m + 1) (i * 2 ^ (m * (n + 1)) + j)) x) n z * cnt (fun x => h x && satP n (zei n (m + 1) (i * 2 ^ (m * (n + 1)) + j)) x) n z) (2 ^ (m * (n + 1))) : Int)
    = 2 ^ (m * n) * ((cnt (fun x => f x && !gP n (rowW n i) x) n z : Int) * (cnt (fun x => h x && !gP n (rowW n i) x) n z : Int) + (2 ^ m - 1) * (cnt (fun x => (f x && h x) && !gP n (rowW n i) x) n z : Int)) := fun i => by
    have := zv9 hn z m (fun x => f x && !gP n (rowW n i) x) fun x => h x && !gP n (rowW n i) x
    rw [zag (f := fun x => (f x && !gP n (rowW n i) x) && (h x && !gP n (rowW n i) x)) (g := fun x => (f x && h x) && !gP n (rowW n i) x) n z fun x _ => by cases f x <;> cases h x <;> cases gP n (rowW n i) x <;> rfl] at this;rw [<- this]
    congr 2
    exact za3 _ fun j hj => by rw [zlj n m hj, zmx, zmx]
   rw [<- zrx]
   have h1 : 2 ^ (m + 1) * sumI (fun i => (sumE (fun j => cnt (fun x => f x && satP n (zei n (m + 1) (i * 2 ^ (m * (n + 1)) + j)) x) n z * cnt (fun x => h x && satP n (zei n (m + 1) (i * 2 ^ (m * (n + 1)) + j)) x) n z) (2 ^ (m * (n + 1))) : Int)) (2 ^ (n + 1))
    = 2 ^ (m * n) * (2 * sumI (fun i => (cnt (fun x => f x && !gP n (rowW n i) x) n z : Int) * (cnt (fun x => h x && !gP n (rowW n i) x) n z : Int)) (2 ^ (n + 1)) + (2 ^ m - 1) * (2 * sumI (fun i => (cnt (fun x => (f x && h x) && !gP n (rowW n i) x) n z : Int)) (2 ^ (n + 1)))) := by
    rw [show (2 : Int) ^ (m + 1) = 2 * 2 ^ m by rw [Int.pow_succ, Int.mul_comm], Int.mul_assoc, <- zed, zdb _ fun i _ => ih i, zed, zih, zed];generalize sumI (fun i => (cnt (fun x => f x && !gP n (rowW n i) x) n z : Int) * (cnt (fun x => h x && !gP n (rowW n i) x) n z : Int)) (2 ^ (n + 1)) = A;generalize sumI (fun i => (cnt (fun x => (f x && h x) && !gP n (rowW n i) x) n z : Int)) (2 ^ (n + 1)) = B;generalize (2 : Int) ^ (m * n) = P;generalize (2 : Int) ^ m - 1 = Q;rw [Int.mul_left_comm 2 P, Int.mul_add 2, Int.mul_left_comm 2 Q]
   rw [h1, Nat.pow_succ, Nat.mul_comm (2 ^ n) 2, zgo, zgo]
   have h2 : 2 * sumI (fun s => (cnt (fun x => f x && !gP n (rowW n (2 * s)) x) n z : Int) * (cnt (fun x => h x && !gP n (rowW n (2 * s)) x) n z : Int) + (cnt (fun x => f x && !gP n (rowW n (2 * s + 1)) x) n z : Int) * (cnt (fun x => h x && !gP n (rowW n (2 * s + 1)) x) n z : Int)) (2 ^ n)
    = 2 ^ n * ((cnt f n z : Int) * (cnt h n z : Int) + (cnt (fun x => f x && h x) n z : Int)) := by
    rw [<- zx6]
    congr 1
    refine zdb _ fun D _ => ?_
    obtain ⟨e1, e2⟩ := zmw hn f z D;obtain ⟨e3, e4⟩ := zmw hn h z D;rw [e1, e2, e3, e4]
   have h3 : sumI (fun s => (cnt (fun x => (f x && h x) && !gP n (rowW n (2 * s)) x) n z : Int) + (cnt (fun x => (f x && h x) && !gP n (rowW n (2 * s + 1)) x) n z : Int)) (2 ^ n) = 2 ^ n * (cnt (fun x => f x && h x) n z : Int) := by
    rw [show (2 : Int) ^ n = ((2 ^ n : Nat) : Int) by push_cast; rfl, <- zhd]
    refine zdb _ fun D _ => ?_
    obtain ⟨e1, e2⟩ := zmw hn (fun x => f x && h x) z D;rw [e1, e2, zb1 (N := n) (z := z) (fun x => f x && h x) fun x => par (DW n D) n x]
    push_cast; rfl
   rw [h2, h3, show (m + 1) * n = m * n + n by rw [Nat.succ_mul], Int.pow_add, Int.pow_succ];generalize (cnt f n z : Int) * (cnt h n z : Int) = X;generalize (cnt (fun x => f x && h x) n z : Int) = Y;generalize (2 : Int) ^ (m * n) = P;generalize (2 : Int) ^ n = R;generalize (2 : Int) ^ m = Q;rw [Int.mul_assoc]
   congr 1
   simp only [Int.mul_add, Int.sub_mul, Int.one_mul, Int.mul_sub];rw [show Q * (2 * (R * Y)) = R * (Q * 2 * Y) by rw [Int.mul_left_comm 2 R Y, Int.mul_left_comm Q R, Int.mul_assoc Q 2 Y]];omega
theorem zvv : ∀ p ∈ sizesL, ∀ s, s < 2 ^ (p.2 * (p.1 + 1)) -> zbr [s * 2 ^ (8 - p.2 * (p.1 + 1))] p.1 p.2 = zei p.1 p.2 s := by decide +kernel
theorem zxw {p : Nat × Nat} (hp : p ∈ sizesL) (f : (Int -> Bool) -> Bool) (z : Int -> Bool) (q : Nat -> Nat) (hq : ∀ s, s < 2 ^ (p.2 * (p.1 + 1)) -> q s = cnt (fun x => f x && satP p.1 (zbr [s * 2 ^ (8 - p.2 * (p.1 + 1))] p.1 p.2) x) p.1 z) :
 sumE (fun s => q s * 2 ^ p.2) (2 ^ (p.2 * (p.1 + 1))) = 2 ^ (p.2 * (p.1 + 1)) * cnt f p.1 z /\
 sumE (fun s => (q s * 2 ^ p.2) * (q s * 2 ^ p.2)) (2 ^ (p.2 * (p.1 + 1))) = 2 ^ (p.2 * (p.1 + 1)) * (cnt f p.1 z * cnt f p.1 z + cnt f p.1 z * (2 ^ p.2 - 1)) := by
 obtain ⟨n, m⟩ := p;have hs := zcm _ hp;dsimp only at hs hq ⊢
 have hpow : 2 ^ m * 2 ^ (m * n) = 2 ^ (m * (n + 1)) := by rw [<- Nat.pow_add]; congr 1; rw [Nat.mul_add]; omega
 have h1 := zv8 (show n <= 128 by omega) z m f;have h2 := zv9 (show n <= 128 by omega) z m f f
 have hq2 : ∀ s, s < 2 ^ (m * (n + 1)) -> q s = cnt (fun x => f x && satP n (zei n m s) x) n z := fun s hs => by rw [hq s hs, zvv _ hp s hs]
 constructor
 ·rw [za3 (h' := fun s => 2 ^ m * cnt (fun x => f x && satP n (zei n m s) x) n z) _ fun s hs => by rw [hq2 s hs, Nat.mul_comm], zgn, h1, <- Nat.mul_assoc, hpow]
 rw [za3 (h' := fun s => (2 ^ m * 2 ^ m) * (cnt (fun x => f x && satP n (zei n m s) x) n z * cnt (fun x => f x && satP n (zei n m s) x) n z)) _ fun s hs => by rw [hq2 s hs, Nat.mul_mul_mul_comm, Nat.mul_comm (2 ^ m * 2 ^ m)], zgn]
 have e : cnt (fun x => f x && f x) n z = cnt f n z := zag n z fun x _ => by cases f x <;> rfl
 rw [e] at h2
 have hm : ((2 ^ m - 1 : Nat) : Int) = 2 ^ m - 1 := by have := Nat.one_le_two_pow (n := m); push_cast [Int.natCast_sub this]; rfl
 have h3 : ((2 ^ m * sumE (fun s => cnt (fun x => f x && satP n (zei n m s) x) n z * cnt (fun x => f x && satP n (zei n m s) x) n z) (2 ^ (m * (n + 1))) : Nat) : Int) = ((2 ^ (m * n) * (cnt f n z * cnt f n z + cnt f n z * (2 ^ m - 1)) : Nat) : Int) := by
  rw [Int.natCast_mul, Int.natCast_mul, Int.natCast_add, Int.natCast_mul, Int.natCast_mul, hm, Int.natCast_pow, Int.natCast_pow];rw [Int.mul_comm (cnt f n z : Int) (2 ^ m - 1)];exact h2
 have h4 := Int.ofNat.inj h3;rw [Nat.mul_assoc, h4, <- Nat.mul_assoc, hpow]
theorem yay (x : Nat -> Nat) (c K T p q : Nat) (h1 : sumE x T = T * c) (h2 : sumE (fun s => x s * x s) T = T * (c * c + c * K)) (hc : c ≠ 0) :
 sumE (fun s => if c * p <= q * (max (x s) c - min (x s) c) then 1 else 0) T * p * p * c <= T * K * q * q := by
 have hd : ∀ a b : Nat, (max a b - min a b) * (max a b - min a b) + 2 * (a * b) = a * a + b * b := fun a b => by
  rcases Nat.le_total a b with h | h
  ·rw [Nat.max_eq_right h, Nat.min_eq_left h];obtain ⟨d, rfl⟩ := Nat.le.dest h;rw [Nat.add_sub_cancel_left];simp only [Nat.add_mul, Nat.mul_add];rw [Nat.mul_comm d a]; omega
  rw [Nat.max_eq_left h, Nat.min_eq_right h];obtain ⟨d, rfl⟩ := Nat.le.dest h;rw [Nat.add_sub_cancel_left];simp only [Nat.add_mul, Nat.mul_add];rw [Nat.mul_comm d b]; omega
 have hv : sumE (fun s => (max (x s) c - min (x s) c) * (max (x s) c - min (x s) c)) T = T * (c * K) := by
  have e1 : sumE (fun s => (max (x s) c - min (x s) c) * (max (x s) c - min (x s) c) + 2 * (c * x s)) T = sumE (fun s => x s * x s + c * c) T := za3 T fun s _ => by rw [Nat.mul_comm c (x s)]; exact hd (x s) c
  rw [zfa, zfa, zd2, zm4, zgn, h1, h2] at e1;rw [Nat.mul_add, Nat.mul_left_comm c T c] at e1;omega
 have hle : ∀ t, sumE (fun s => if c * p <= q * (max (x s) c - min (x s) c) then 1 else 0) t * ((c * p) * (c * p)) <= (q * q) * sumE (fun s => (max (x s) c - min (x s) c) * (max (x s) c - min (x s) c)) t := fun t => by
  induction t with
  | zero => simp [sumE]
  | succ t ih =>
    rw [sumE, sumE, Nat.add_mul, Nat.mul_add];refine Nat.add_le_add ih ?_
    split
    ·rename_i h
     rw [Nat.one_mul, Nat.mul_mul_mul_comm q q];exact Nat.mul_le_mul h h
    rw [Nat.zero_mul]; exact Nat.zero_le _
 have h := hle T;rw [hv] at h;generalize sumE (fun s => if c * p <= q * (max (x s) c - min (x s) c) then 1 else 0) T = F at *;refine Nat.le_of_mul_le_mul_left (c := c) ?_ (Nat.pos_of_ne_zero hc)
 calc c * (F * p * p * c) = F * (c * p * (c * p)) := by ac_rfl
  _ <= q * q * (T * (c * K)) := h
  _ = c * (T * K * q * q) := by ac_rfl
def fewC (t : List Cl) (n : Nat) : Nat := cnt (fun x => evL x (fewT n t)) n fun _ => false
def fewQ (t : List Cl) (n m s : Nat) : Nat := cnt (fun x => evL x (fewT n t) && satP n (zbr [s * 2 ^ (8 - m * (n + 1))] n m) x) n fun _ => false
def fewX (t : List Cl) (n m s : Nat) : Nat := if s < 2 ^ (m * (n + 1)) then fewQ t n m s * 2 ^ m else 0
theorem zsi {n : Nat} (hn : n <= 8) (t : List Cl) (ht : t.length <= 60) (w : World) (a : Option Addr) (cap : Nat) (hx : LsCells w a (fewT n t)) :
 Calls Tryz.prog 12 #[.agg #[.int .i64 (n : Int), .slice a t.length cap]] w fun e w' => e = .returned (.int .u64 (fewC t n : Int)) /\ Below w.heap.size w w' := by
 have h := zsr n hn a cap (fewT n t) w (zzi (by omega) (by omega)).tok hx;rw [show (fewT n t).length = t.length by simp [fewT]] at h;exact h
theorem zui {t : List Cl} {n m : Nat} (h : n + m <= 8) (s : Nat) : fewX t n m s <= 256 := by
 unfold fewX
 split
 ·have h1 : fewQ t n m s <= 2 ^ n := zfh _ _ _;have h2 : fewQ t n m s * 2 ^ m <= 2 ^ n * 2 ^ m := Nat.mul_le_mul_right _ h1;rw [<- Nat.pow_add] at h2;exact Nat.le_trans h2 (Nat.le_trans (Nat.pow_le_pow_right (by omega) h) (by decide))
 omega
theorem zxc {n m : Nat} (hp : (n, m) ∈ sizesL) (t : List Cl) (ht : t.length <= 60) (w : World) (a : Option Addr) (cap : Nat) (hx : LsCells w a (fewT n t)) (htab : Tab w) (hdt : Dtab w) :
 Calls Tryz.prog 13 #[.agg #[.int .i64 (n : Int), .slice a t.length cap], .int .i64 (m : Int)] w (zlu (fewX t n m) (2 ^ (m * (n + 1))) w) := by
 have hs := zcm _ hp;dsimp only at hs
 have hfl : (fewT n t).length = t.length := by simp [fewT]
 have hg := zzi (n := n) (by omega) (t := t) (by omega)
 refine zmb n m a t.length cap w (fewX t n m) (by omega) (by omega) hs.2.2.2.1 (fun s _ => Nat.lt_of_le_of_lt (zui hs.2.2.2.2 s) (by decide)) fun s hsl V hV b hb => ?_
 have hb8 : s * 2 ^ (8 - m * (n + 1)) < 256 := by
  have h1 : s * 2 ^ (8 - m * (n + 1)) < 2 ^ (m * (n + 1)) * 2 ^ (8 - m * (n + 1)) := Nat.mul_lt_mul_of_pos_right hsl (Nat.pow_pos (by decide));rw [<- Nat.pow_add, show m * (n + 1) + (8 - m * (n + 1)) = 8 by omega] at h1;exact h1
 have hq : fewQ t n m s <= 255 := Nat.le_trans (zfh _ _ _) (Nat.le_trans (Nat.pow_le_pow_right (by omega) hs.1) (by decide))
 have h := zuf n a cap (fewT n t) (some ⟨b, 0, none⟩) 1 [s * 2 ^ (8 - m * (n + 1))] m (fewQ t n m s) V hg (hx.keep hV) (zot hb hb8) (by show 1 <= 1073741824; decide) (by omega) (by simp only [List.length_cons, List.length_nil]; omega)
  (zvs (zvu _ n m) (zvt (by omega))) (zv0 hg (by omega) _ m) hq (htab.keep hV) (hdt.keep hV)
 rw [hfl] at h;rw [show fewX t n m s = fewQ t n m s * 2 ^ m by unfold fewX; rw [if_pos hsl]];exact h
theorem zuk (t : List Cl) (ht : t.length <= 60) (w : World) (htab : Tab w) (hdt : Dtab w) : MEnv t (fewC t) (fewX t) w := by
 have hsum : ∀ p ∈ sizesL, _ := fun p hp => zxw hp (fun x => evL x (fewT p.1 t)) (fun _ => false) (fewQ t p.1 p.2) fun s _ => rfl
 refine ⟨fun n hn V hV a cap hx => zsi hn t ht V a cap hx, fun p hp V hV a cap hx => zxc hp t ht V a cap hx (htab.keep hV) (hdt.keep hV), fun V hV => zfz V (htab.keep hV) (hdt.keep hV), fun p hp => ⟨?_, zui (zcm p hp).2.2.2.2⟩, fun p hp => ?_, fun p hp => ?_⟩
 ·exact Nat.le_trans (zfh _ _ _) (Nat.le_trans (Nat.pow_le_pow_right (by omega) (zcm p hp).1) (by decide))
 ·rw [za3 (h' := fun s => fewQ t p.1 p.2 s * 2 ^ p.2) _ fun s hs => by unfold fewX; rw [if_pos hs]];exact (hsum p hp).1
 rw [za3 (h' := fun s => (fewQ t p.1 p.2 s * 2 ^ p.2) * (fewQ t p.1 p.2 s * 2 ^ p.2)) _ fun s hs => by unfold fewX; rw [if_pos hs]];exact (hsum p hp).2
theorem zlb {t : List Cl} (h : zdz t = true) : t.length <= 60 := by
 unfold zdz at h;simp only [Bool.and_eq_true, List.all_eq_true, decide_eq_true_eq] at h;exact h.2
end Go.Proofs.YtlleofjjdhfgcaaGreatDoor
