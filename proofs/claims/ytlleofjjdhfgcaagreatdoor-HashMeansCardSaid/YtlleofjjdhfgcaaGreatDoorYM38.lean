/- Part of the proofs that laws return true for every input, where the tables that the rows list are laid. Texts: Hj, Hm, Hw, He, Hf. -/
import Derived.Test.YtlleofjjdhfgcaaGreatDoorYM37
import Derived.Test.YtlleofjjdhfgcaaGreatDoorYM17
import Derived.Test.YtlleofjjdhfgcaaGreatDoorYM6
set_option maxHeartbeats 8000000
set_option maxRecDepth 100000
set_option linter.unusedSimpArgs false
set_option linter.unusedVariables false
namespace Go.Proofs.YtlleofjjdhfgcaaGreatDoor
open Go.RowKit Cen
theorem zrm (a : Option Addr) (cap : Nat) (bs : List Nat) (n m : Nat) (w : World) (hl : bs.length <= 1073741824) (hx : U8Cells w a bs) (hn : n <= 128) (hm : m <= 16) (h8 : m * (n + 1) <= 8 * bs.length) :
 Calls Tryz.prog 27 #[.slice a bs.length cap, .int .i64 (n : Int), .int .i64 (m : Int)] w fun e w' => ∃ g, e = .returned (.tuple #[.slice (some ⟨g, 0, none⟩) m m, .int .i64 0]) /\ OwnP w' w.heap.size (.slice (some ⟨g, 0, none⟩) m m) (zbr bs n m) /\ Below w.heap.size w w' := by
 have HX := lh hx;have HB0 : Hid (Below w.heap.size w (w.alloc (.cells #[.slice a bs.length cap] 59))) := (Below.refl _ _).alloc (Nat.le_refl _) _;have HSE := lh (fun V => zom (n : Int) (m : Int) V)
 have hsF : zjy (n : Int) (m : Int) = ((m * (n + 1) : Nat) : Int) := by unfold zjy; rw [if_neg (by omega)]; push_cast; rfl
 rw [hsF] at HSE;have H8 := lh h8
 have h8i : ¬ (8 * (bs.length : Int) < ((m * (n + 1) : Nat) : Int)) := by omega
 have HWP : Hid (IntKind.i64.wrap (8 * (bs.length : Int)) = 8 * (bs.length : Int)) := IntWalk.i64_in _ (by omega);have hcf : ∀ (args : Array Value) (w : World), (callFunc 61 args).run Tryz.prog w = .ok (.enter 61 args) w := zl4
 have h1 : ¬ ((n : Int) < 0) := by omega
 have h2 : ¬ (128 < (n : Int)) := by omega
 have h3 : ¬ ((m : Int) < 0) := by omega
 have h4 : ¬ (16 < (m : Int)) := by omega
 clear hsF hx h8;generalize ((m * (n + 1) : Nat) : Int) = s at *;go_enter Tryz.func27, Tryz.ntmps27;go_wp2_with fail;have hwp := HWP.o
 go_quiet (exact Calls.quiet_of_same ((HSE.o _).mono fun _ _ hh => ⟨hh.1, hh.2.symm⟩))
 clear hwp
 obtain ⟨w1, hw1⟩ : ∃ W, W = (w.alloc (.cells #[.slice a bs.length cap] 59)).drewN nq := ⟨_, rfl⟩
 have hb1 : Below w.heap.size w w1 := by rw [hw1]; exact HB0.o.trans (zl9 _ _)
 have qS : Blk w1 w.heap.size #[.slice a bs.length cap] 59 := by rw [hw1]; exact Blk.new w _ _
 have hz1 : w1.heap.size = w.heap.size + 1 := by rw [hw1]; exact World.size_alloc _ _
 rw [<- hw1];clear hw1
 have HM1 : Hid (m <= maxLen) := by show _ <= _; unfold maxLen; omega
 obtain ⟨w2, hw2⟩ : ∃ W, W = w1.alloc (.cells #[.int .i64 (-1)] 3) := ⟨_, rfl⟩
 have hb2 : Below w.heap.size w w2 := by rw [hw2]; exact hb1.alloc (by omega) _
 have qS2 : Blk w2 w.heap.size #[.slice a bs.length cap] 59 := by rw [hw2]; exact qS.alloc _
 have qA2 : Blk w2 (w.heap.size + 1) #[.int .i64 (-1)] 3 := by rw [hw2]; exact Blk.new' _ hz1 _ _
 have hz2 : w2.heap.size = w.heap.size + 1 + 1 := by rw [hw2, World.size_alloc, hz1]
 go_wp2_with (at_make; go_loud (refine mk zq2 rfl _ _ rfl w2.heap.size .i64 .i64 _ _ m rfl rfl rfl rfl (by omega) HM1.o (by rw [hw2]; exact Nat.le_refl _) prc Pr.zero rfl ?_));intro w3 hown3 hgrow3;rw [<- hw2] at hgrow3;have HB3 : Hid (Below w2.heap.size w2 w3) := (Below.refl _ _).grown hgrow3 (Nat.le_refl _) (by simp)
 have hown4 : OwnP w3 w.heap.size (.slice (some ⟨w.heap.size + 1 + 1, 0, none⟩) m m) (List.replicate m Pr.zero) := by
  have h := OwnL.lower hown3 (show w.heap.size <= w.heap.size + 1 + 1 by omega);exact h
 have HO3 := lh hown4
 have HA3 : Hid (Blk w3 (w.heap.size + 1) #[.int .i64 (((0 * (n + 1) : Nat) : Int) - 1)] 3) := by rw [Nat.zero_mul]; exact qA2.later HB3.o
 have HS3 := lh (qS2.later HB3.o);have HBW3 : Hid (Below w.heap.size w w3) := hb2.trans (HB3.o.mono hb2.size)
 have HAB : Hid (∀ q, a = some q -> bs ≠ [] -> q.block < w.heap.size) := fun q hq hne => by
  obtain ⟨b, off, e, c0, _⟩ := HX.o 0 (List.length_pos_iff.2 hne);rw [hq] at e;simp only [Option.some.injEq] at e;subst e;exact zai c0
 clear hown3 hgrow3 hown4 hw2 hb1 hb2 qS qS2 qA2 hz1 hz2 HB3 HB0 HSE h8i HWP;go_wp2_with fail
 go_loopw [41] (fun i wr => ∃ k : Nat, k <= m /\ i = .int .i64 k /\ OwnP wr w.heap.size (.slice (some ⟨w.heap.size + 1 + 1, 0, none⟩) m m) ((zbr bs n m).take k ++ List.replicate (m - k) Pr.zero) /\ Blk wr (w.heap.size + 1) #[.int .i64 (((k * (n + 1) : Nat) : Int) - 1)] 3 /\ Blk wr w.heap.size #[.slice a bs.length cap] 59 /\ Below w.heap.size w wr) (fun i _ => m - (intOf i).toNat)
 case atStart => exact ⟨0, Nat.zero_le _, rfl, by simpa using HO3.o, HA3.o, HS3.o, HBW3.o⟩
 obtain ⟨wo, rfl⟩ : ∃ wo : World, wo = wr := ⟨_, rfl⟩
 obtain ⟨k, hk, rfl, hown, hA, hS, hb⟩ := hrel
 by_cases hlt : k < m
 ·have hkm : (k : Int) < (m : Int) := by omega
  have hrp : List.replicate (m - k) Pr.zero = Pr.zero :: List.replicate (m - (k + 1)) Pr.zero := by rw [<- List.replicate_succ]; congr 1; omega
  obtain ⟨Z, hZ⟩ : ∃ Z, Z = List.replicate (m - (k + 1)) Pr.zero := ⟨_, rfl⟩
  have HZ := lh hZ
  have htl : ((zbr bs n m).take k).length = k := by rw [List.length_take, zb8]; omega
  have HTL : Hid (k = ((zbr bs n m).take k).length) := htl.symm
  have HNL : Hid (∀ c : Pr, m = ((zbr bs n m).take k ++ c :: Z).length) := fun c => by rw [List.length_append, htl, List.length_cons, hZ, List.length_replicate]; omega
  rw [hrp, <- hZ] at hown
  obtain ⟨f, hf⟩ : ∃ f : Nat -> Bool, f = fun v => bitN bs (k * (n + 1) + (v - 1)) := ⟨_, rfl⟩
  have HF := lh hf;have HO : Hid (OwnP wo w.heap.size (.slice (some ⟨w.heap.size + 1 + 1, 0, none⟩) m m) ((zbr bs n m).take k ++ ⟨setB f 0, false⟩ :: Z)) := hown;have HA := lh hA;have HS := lh hS;have HB := lh hb
  have HML : Hid (k * (n + 1) + n < 8 * bs.length) := by
   have h1 : (k + 1) * (n + 1) <= m * (n + 1) := Nat.mul_le_mul_right _ hlt;have h2 := H8.o;rw [Nat.succ_mul] at h1
   show _ < _; omega
  clear hrp hZ htl hown hA hS hb hf;go_wp2_with fail
  go_loopw [12] (fun v wi => ∃ j : Nat, j <= n /\ v = .int .i64 ((j : Int) + 1) /\ OwnP wi w.heap.size (.slice (some ⟨w.heap.size + 1 + 1, 0, none⟩) m m) ((zbr bs n m).take k ++ ⟨setB f j, false⟩ :: Z) /\ Blk wi (w.heap.size + 1) #[.int .i64 (((k * (n + 1) + j : Nat) : Int) - 1)] 3 /\ Blk wi w.heap.size #[.slice a bs.length cap] 59 /\ Below w.heap.size w wi) (fun v _ => n + 2 - (intOf v).toNat)
  case atStart => exact ⟨0, Nat.zero_le _, rfl, HO.o, HA.o, HS.o, HB.o⟩
  obtain ⟨wi, rfl⟩ : ∃ wi : World, wi = wr := ⟨_, rfl⟩
  obtain ⟨j, hj, rfl, hown, hA, hS, hb⟩ := hrel;have HOI := lh hown;have HBI := lh hb;have HSI := lh hS
  have hne : bs ≠ [] := fun h => by have := HML.o; rw [h] at this; simp at this
  have HNX := lh (fun (hi : (k * (n + 1) + j) / 8 < bs.length) => zx1 (w.heap.size + 1) w.heap.size a cap bs (k * (n + 1) + j) wi hl (HX.o.keep hb) hi hA hS (by omega) (fun q hq => by have := HAB.o q hq hne; omega));have HNX2 := lh (HNX.o (by have := HML.o; omega));have hzi := hb.size;clear HNX hown hA hS hb
  by_cases hjn : j < n
  ·have hji : ¬ (n : Int) < (j : Int) + 1 := by omega
   have hjj : (j : Int) + 1 <= (n : Int) := by omega
   go_wp2_with fail;refine HNX2.o.mono ?_;rintro e w5 ⟨rfl, hA5, hk5⟩;have HO5 := lh (HOI.o.kept hk5 (fun y hy h => by simp [Value.ownBlock] at hy; omega));have HS5 := lh (HSI.o.kept hk5 (by omega));have HB5 : Hid (Below w.heap.size w w5) := HBI.o.trans (hk5.toBelow hzi (fun y hy e => by omega))
   have HA5 : Hid (Blk w5 (w.heap.size + 1) #[.int .i64 (((k * (n + 1) + (j + 1) : Nat) : Int) - 1)] 3) := by
    have e : (((k * (n + 1) + (j + 1) : Nat) : Int) - 1) = ((k * (n + 1) + j : Nat) : Int) := by push_cast; omega
    rw [e]; exact hA5
   have hsb : setB f (j + 1) = if f (j + 1) then (setB f j).add ((j : Int) + 1) else setB f j := rfl
   have hfj : f (j + 1) = bitN bs (k * (n + 1) + j) := by rw [HF.o]; rfl
   rw [hfj] at hsb;clear hA5 hk5 hfj hzi
   cases hbit : bitN bs (k * (n + 1) + j) with
   | false =>
     rw [hbit] at hsb;have HSB : Hid (setB f (j + 1) = setB f j) := hsb;clear hbit hsb;go_wp2;go_roundw
     case rel => exact ⟨j + 1, by omega, by go_num, by rw [HSB.o]; exact HO5.o, HA5.o, HS5.o, HB5.o⟩
     case measure => simp [intOf]; omega
   | true =>
     rw [hbit] at hsb;have HSB : Hid (setB f (j + 1) = (setB f j).add ((j : Int) + 1)) := hsb;have e0 := HO5.o.mid HTL.o (HNL.o _) zax 0 (by omega);have e1 := HO5.o.mid HTL.o (HNL.o _) zax 1 (by omega);simp only [prc, List.getElem?_cons_zero, List.getElem?_cons_succ, Nat.add_zero] at e0 e1;have gl := HO5.o.lt.1;have HWT := lh (fun V => zgs (setB f j) ((j : Int) + 1) V (zfw f j));clear hbit hsb;go_wp2_with fail;refine (HWT.o _).mono ?_;rintro e w6 ⟨rfl, hb6⟩;have HO6 := lh (HO5.o.later hb6);have HS6 := lh (HS5.o.later hb6);have HA6 := lh (HA5.o.later hb6);have HB6 := lh (HB5.o.trans (hb6.mono HB5.o.size))
     have d0 := HO6.o.mid HTL.o (HNL.o _) zax 0 (by omega);have d1 := HO6.o.mid HTL.o (HNL.o _) zax 1 (by omega);simp only [prc, List.getElem?_cons_zero, List.getElem?_cons_succ, Nat.add_zero] at d0 d1;have f0 := HO6.o.fr (HNL.o _) (k * 3);have f1 := HO6.o.fr (HNL.o _) (k * 3 + 1);have dl := HO6.o.lt.1;have HPU := lh (ybj HO6.o HTL.o (HNL.o _) ((setB f j).add ((j : Int) + 1)).a ((setB f j).add ((j : Int) + 1)).b);have hkq : Kp (fun y => y = w.heap.size + 1 + 1) w6 _ := Kp.trans (M := fun y => y = w.heap.size + 1 + 1) (Kp.setCell (M := fun y => y = w.heap.size + 1 + 1) w6 ⟨w.heap.size + 1 + 1, k * 3, none⟩ (.int .u64 (((setB f j).add ((j : Int) + 1)).a : Int)) rfl) (Kp.setCell (M := fun y => y = w.heap.size + 1 + 1) _ ⟨w.heap.size + 1 + 1, k * 3 + 1, none⟩ (.int .u64 (((setB f j).add ((j : Int) + 1)).b : Int)) rfl)
     have HKQ := lh hkq;clear hb6 e0 e1 gl hkq;go_wp2;go_roundw
     case rel =>
      refine ⟨j + 1, by omega, by go_num, ?_, HA6.o.kept HKQ.o (by omega), HS6.o.kept HKQ.o (by omega), HB6.o.trans (HKQ.o.toBelow HB6.o.size (fun y hy e => by omega))⟩;rw [HSB.o]; exact HPU.o
     case measure => simp [intOf]; omega
  have hje : j = n := by omega
  have hji : (n : Int) < (j : Int) + 1 := by omega
  have HJE : Hid (j = n) := hje;clear hje;go_wp2_with fail;refine HNX2.o.mono ?_;rintro e w5 ⟨rfl, hA5, hk5⟩;have HO5 := lh (HOI.o.kept hk5 (fun y hy h => by simp [Value.ownBlock] at hy; omega));have HS5 := lh (HSI.o.kept hk5 (by omega));have HB5 : Hid (Below w.heap.size w w5) := HBI.o.trans (hk5.toBelow hzi (fun y hy e => by omega))
  have HA5 : Hid (Blk w5 (w.heap.size + 1) #[.int .i64 ((((k + 1) * (n + 1) : Nat) : Int) - 1)] 3) := by
   have e : ((((k + 1) * (n + 1) : Nat) : Int) - 1) = ((k * (n + 1) + j : Nat) : Int) := by rw [Nat.succ_mul]; have := HJE.o; push_cast; omega
   rw [e]; exact hA5
  have HP5 : Hid (prAt bs n k = ⟨setB f j, bitN bs (k * (n + 1) + j)⟩) := by
   show _ = _; rw [ybh, HJE.o, HF.o]
  generalize bitN bs (k * (n + 1) + j) = x at *;have d2 := HO5.o.mid HTL.o (HNL.o _) zax 2 (by omega);simp only [prc, List.getElem?_cons_zero, List.getElem?_cons_succ] at d2;have f2 := HO5.o.fr (HNL.o _) (k * 3 + 2);have dl := HO5.o.lt.1;have HPU := lh (ybi HO5.o HTL.o (HNL.o _) x);have HKQ : Hid (Kp (fun y => y = w.heap.size + 1 + 1) w5 (w5.setCell ⟨w.heap.size + 1 + 1, k * 3 + 2, none⟩ (.bool x))) := Kp.setCell _ _ _ rfl;clear hA5 hk5 hzi;go_wp2;go_roundw
  case rel =>
   refine ⟨k + 1, by omega, by go_num, ?_, HA5.o.kept HKQ.o (by omega), HS5.o.kept HKQ.o (by omega), HB5.o.trans (HKQ.o.toBelow HB5.o.size (fun y hy e => by omega))⟩;rw [zs0 bs n m k hlt, List.append_assoc, HP5.o, <- HZ.o]; exact HPU.o
  case measure => simp [intOf]; omega
 have hke : k = m := by omega
 subst hke;rw [List.take_of_length_le (by rw [zb8]; exact Nat.le_refl _), Nat.sub_self, List.replicate_zero, List.append_nil] at hown;have HO := lh hown;have HB := lh hb;clear hown hA hS hb;go_wp2;go_ret2;exact ⟨_, rfl, HO.o, HB.o⟩
def yb6 (B : Bool) (w : World) (e : Ending) (w' : World) : Prop := ∃ r : Int, e = .returned (.int .i64 r) /\ decide (0 <= r) = B /\ Below w.heap.size w w'
theorem yaa {p : Pr -> Bool} {xs : List Pr} {k : Nat} (hk : k < xs.length) (h : p xs[k] = true) : xs.any p = true := List.any_eq_true.2 ⟨_, List.getElem_mem hk, h⟩
theorem zwp {p : Pr -> Bool} {xs : List Pr} (h : ∀ j (hj : j < xs.length), p xs[j] = false) : xs.any p = false := by
 rw [Bool.eq_false_iff];intro hx;obtain ⟨x, hm, hp⟩ := List.any_eq_true.1 hx;obtain ⟨j, hj, rfl⟩ := List.getElem_of_mem hm;rw [h j hj] at hp;exact absurd hp (by simp)
theorem zki (a : Option Addr) (cap : Nat) (xs : List Pr) (g : FuncId) (cs : Array Value) (p : Pr -> Bool) (w : World) (hl : xs.length <= 1073741824)
 (hx : PrCells w a xs) (hp : ∀ x W, x ∈ xs -> Below w.heap.size w W -> Calls Tryz.prog g (#[prv x] ++ cs) W fun e w' => e = .returned (.bool (p x)) /\ Below W.heap.size W w') (hcf0 : za8 g) :
 Calls Tryz.prog 65 #[.slice a xs.length cap, .func (.func g) #[] cs] w (yb6 (xs.any p) w) := by
 have HX := lh hx;have HP := lh hp;have hcf : ∀ (args : Array Value) (w : World), (callFunc g args).run Tryz.prog w = .ok (.enter g args) w := hcf0;clear hx hp hcf0;unfold prv at HP;go_enter Tryz.func65, Tryz.ntmps65;go_wp2
 go_loopw [5, 8] (fun v i wr => ∃ k : Nat, k <= xs.length /\ i = .int .i64 k /\ (∀ j (hj : j < xs.length), j < k -> p xs[j] = false) /\ Below w.heap.size w wr) (fun _ i _ => xs.length - (intOf i).toNat)
 case atStart => exact ⟨0, Nat.zero_le _, rfl, fun j _ h => absurd h (Nat.not_lt_zero _), Below.refl _ _⟩
 obtain ⟨k, hk, rfl, hno, hb⟩ := hrel;have HN := lh hno;have HB := lh hb;have HXR := lh (HX.o.keep hb);clear hno hb
 by_cases hlt : k < xs.length
 ·obtain ⟨b, off, rfl, c0, c1, c2⟩ := HXR.o.at hlt
  have hki : (k : Int) < (xs.length : Int) := by omega
  have HAT : Hid (p xs[k] = true -> xs.any p = true) := yaa hlt
  have HNN : Hid (p xs[k] = false -> ∀ j (hj : j < xs.length), j < k + 1 -> p xs[j] = false) := fun h j hj hjk => by
   by_cases e : j = k
   ·subst e; exact h
   exact HN.o j hj (by omega)
  have HC := lh (fun W h => HP.o xs[k] W (List.getElem_mem hlt) h);generalize xs[k] = q at *
  cases hpk : p q
  ·have HK := lh (HNN.o hpk);rw [hpk] at HC;clear hpk HNN HAT;go_wp2_with fail;refine (HC.o _ HB.o).mono ?_;rintro e w1 ⟨rfl, hb1⟩;have HB1 := lh (HB.o.trans (hb1.mono HB.o.size));clear hb1 c0 c1 c2;go_wp2;go_roundw
   case rel => exact ⟨k + 1, by omega, by go_num, HK.o, HB1.o⟩
   case measure => simp [intOf]; omega
  have HK := lh (HAT.o hpk);rw [hpk] at HC;clear hpk HNN HAT;go_wp2_with fail;refine (HC.o _ HB.o).mono ?_;rintro e w1 ⟨rfl, hb1⟩;have HB1 := lh (HB.o.trans (hb1.mono HB.o.size));clear hb1 c0 c1 c2;go_wp2;go_ret;exact ⟨(k : Int), rfl, by rw [HK.o]; simp, HB1.o⟩
 have hke : k = xs.length := by omega
 have HK : Hid (xs.any p = false) := zwp fun j hj => HN.o j hj (by omega)
 subst hke;go_wp2;go_ret;exact ⟨-1, rfl, by rw [HK.o]; rfl, HB.o⟩
theorem zg2 (a : Option Addr) (cap : Nat) (xs : List Pr) (g : FuncId) (cs : Array Value) (p : Pr -> Bool) (w : World) (hl : xs.length <= 1073741824)
 (hx : PrCells w a xs) (hp : ∀ x W, x ∈ xs -> Below w.heap.size w W -> Calls Tryz.prog g (#[prv x] ++ cs) W fun e w' => e = .returned (.bool (p x)) /\ Below W.heap.size W w') (hcf0 : za8 g) :
 Calls Tryz.prog 33 #[.slice a xs.length cap, .func (.func g) #[] cs] w fun e w' => e = .returned (.bool (xs.any p)) /\ Below w.heap.size w w' := by
 have HI := lh (zki a cap xs g cs p w hl hx hp hcf0);clear hx hp hcf0;generalize xs.any p = B at *;go_enter Tryz.func33, Tryz.ntmps33;go_wp2_with fail;refine HI.o.mono ?_;rintro e w1 ⟨r, rfl, hr, hb1⟩;have HB1 := lh hb1;have HR := lh hr;clear hb1 hr;go_wp2;go_ret;exact ⟨by rw [<- HR.o]; rfl, HB1.o⟩
def outP (n : Int) (q : Pr) : Bool := !decide (St.minus q.v (zbq n) = St.zero)
theorem zt0 (q : Pr) (T : Nat) (n : Int) (v : Value) (w : World) (hq : q.ok) (hT : Blk w T #[.int .i64 n, v] 24) :
 Calls Tryz.prog 34 #[prv q, .pointer (some ⟨T, 0, none⟩)] w fun e w' => e = .returned (.bool (outP n q)) /\ Below w.heap.size w w' := by
 have HAL := lh (fun V => zlw n V);have HSU := lh (fun V => zv6 q.v (zbq n) V hq (zdo _));have HR : Hid (outP n q = !decide (St.minus q.v (zbq n) = St.zero)) := rfl;generalize decide (St.minus q.v (zbq n) = St.zero) = B at *;generalize zbq n = al at *;unfold stv at HAL HSU
 obtain ⟨W, hW⟩ : ∃ W, W = w.alloc (.cells #[.int .u64 (q.v.a : Int), .int .u64 (q.v.b : Int), .bool q.odd] 42) := ⟨_, rfl⟩
 have hbw : Below w.heap.size w W := by rw [hW]; exact (Below.refl _ _).alloc (Nat.le_refl _) _
 have q0 : Blk W w.heap.size #[.int .u64 (q.v.a : Int), .int .u64 (q.v.b : Int), .bool q.odd] 42 := by rw [hW]; exact Blk.new _ _ _
 have hTW := hT.later hbw;have HBW := lh hbw;have k0 := q0.cell 0;have k1 := q0.cell 1;have t0 := hTW.cell 0;have kz := q0.lt;have tz := hTW.lt
 have HKS : Hid (∀ w' : World, Below W.heap.size W w' -> (fun w' => w'.cell? ⟨w.heap.size, 0, none⟩ = some (.int .u64 (q.v.a : Int)) /\ w'.cell? ⟨w.heap.size, 1, none⟩ = some (.int .u64 (q.v.b : Int)) /\ w'.cell? ⟨T, 0, none⟩ = some (.int .i64 n)) w') := lh fun w' hb => ⟨zab hb k0, zab hb k1, zab hb t0⟩
 clear hbw q0 hT hTW hq;unfold prv;go_enter Tryz.func34, Tryz.ntmps34;go_wp2_with fail;rw [<- hW];clear hW
 refine wp_region_held_drew (S := (fun w' => w'.cell? ⟨w.heap.size, 0, none⟩ = some (.int .u64 (q.v.a : Int)) /\ w'.cell? ⟨w.heap.size, 1, none⟩ = some (.int .u64 (q.v.b : Int)) /\ w'.cell? ⟨T, 0, none⟩ = some (.int .i64 n))) (by kernel_rfl) (by exact HKS.o _ (Below.refl W.heap.size W).drew) fun hH => ?_
 refine tkV 0 4 rfl rfl ?_; try simp only [tkS]
 refine tkV 1 5 rfl rfl ?_; try simp only [tkS]
 refine tkV 2 6 rfl rfl ?_; try simp only [tkS]
 refine tkV 3 7 rfl rfl ?_; try simp only [tkS]
 refine tkR 4 (.cons rfl (fun K hK => ?_) .nil);go_simp;go_at_call 36
 with_reducible refine Calls.mono (HAL.o _) ?_
 rintro e w5 ⟨rfl, hb5⟩;have hw5 : Below W.heap.size W w5 := Below.trans (Below.refl W.heap.size W).drew (Below.mono hb5 (Below.size (Below.refl W.heap.size W).drew));clear hb5;go_wp2_with fail
 refine hK.out _ _ (by exact HKS.o _ hw5) fun hH => ?_
 clear hK K
 try simp only [tkS]
 refine tkR 5 (.cons rfl (fun K hK => ?_) .nil);go_simp;go_at_call 35
 with_reducible refine Calls.mono (HSU.o _) ?_
 rintro e w6 ⟨rfl, hb6⟩;have hw6 : Below W.heap.size W w6 := Below.trans hw5 (Below.mono hb6 (Below.size hw5));clear hb6;go_wp2_with fail
 refine hK.out _ _ (by exact HKS.o _ hw6) fun hH => ?_
 clear hK K
 try simp only [tkS]
 refine tkV 6 10 rfl rfl ?_; try simp only [tkS]
 refine tkV 7 3 rfl rfl ?_; try simp only [tkS]
 refine wpAnyH_done (by kernel_rfl) ?_ _;go_wp2;go_ret;exact ⟨by rw [HR.o]; rfl, HBW.o.trans (hw6.mono HBW.o.size)⟩
theorem zka : za8 34 := fun _ _ => by kernel_rfl
def zls (q : Nat) (c : Int) (w : World) (e : Ending) (w' : World) : Prop := e = .returned (.tuple #[.agg #[.string (natB q)], .int .i64 c]) /\ Below w.heap.size w w'
def ctv (c : Ct) : Value := .agg #[.string (natB c.e), .string (natB c.o)]
def ctc (c : Ct) : List Value := [.string (natB c.e), .string (natB c.o)]
theorem zaw (c : Ct) : (ctc c).length = 2 := rfl
theorem zcr {a b c d x : Nat} (h1 : a <= c) (h2 : b <= d) (h : c * d < x) : a * b < x := Nat.lt_of_le_of_lt (Nat.mul_le_mul h1 h2) h
theorem zi6 (a b : Ct) (w : World) (ha : a.s < 65536) (hb : b.s < 65536) (hab : a.s * b.s < 65536) :
 Calls Tryz.prog 82 #[ctv a, ctv b] w fun e w' => e = .returned (ctv (zj9 a b)) /\ Below w.heap.size w w' := by
 have hS := yae a b;unfold Ct.s at hS ha hb hab;have HM1 := lh (fun V => zjm a.e b.e (by omega) (by omega) (zcr (by omega) (by omega) hab) V);have HM2 := lh (fun V => zjm a.o b.o (by omega) (by omega) (zcr (by omega) (by omega) hab) V);have HM3 := lh (fun V => zjm a.e b.o (by omega) (by omega) (zcr (by omega) (by omega) hab) V);have HM4 := lh (fun V => zjm a.o b.e (by omega) (by omega) (zcr (by omega) (by omega) hab) V);have HA1 := lh (fun V => ze6 (a.e * b.e) (a.o * b.o) (zcr (by omega) (by omega) hab) (zcr (by omega) (by omega) hab) (by simp only [zj9] at hS; omega) V);have HA2 := lh (fun V => ze6 (a.e * b.o) (a.o * b.e) (zcr (by omega) (by omega) hab) (zcr (by omega) (by omega) hab) (by simp only [zj9] at hS; omega) V)
 have HR : Hid (ctv (zj9 a b) = .agg #[.string (natB (a.e * b.e + a.o * b.o)), .string (natB (a.e * b.o + a.o * b.e))]) := rfl;clear hS ha hb hab;unfold ctv natv at *;generalize natB (a.e * b.e + a.o * b.o) = t1 at *;generalize natB (a.e * b.o + a.o * b.e) = t2 at *;generalize natB (a.e * b.e) = s1 at *;generalize natB (a.o * b.o) = s2 at *;generalize natB (a.e * b.o) = s3 at *;generalize natB (a.o * b.e) = s4 at *;generalize natB a.e = ae at *;generalize natB a.o = ao at *;generalize natB b.e = be at *;generalize natB b.o = bo at *
 obtain ⟨W, hW⟩ : ∃ W, W = ((w.alloc (.cells #[.string ae, .string ao] 97)).alloc (.cells #[.string be, .string bo] 97)).alloc (.cells #[.string ⟨#[]⟩, .string ⟨#[]⟩] 97) := ⟨_, rfl⟩
 have hbw : Below w.heap.size w W := by rw [hW]; exact (((Below.refl _ _).alloc (Nat.le_refl _) _).alloc (by simp only [World.size_alloc]; omega) _).alloc (by simp only [World.size_alloc]; omega) _
 have q0 : Blk W w.heap.size #[.string ae, .string ao] 97 := by rw [hW]; exact ((Blk.new _ _ _).alloc _).alloc _
 have q1 : Blk W (w.heap.size + 1) #[.string be, .string bo] 97 := by rw [hW]; exact (Blk.new' _ (by simp only [World.size_alloc]) _ _).alloc _
 have q2 : Blk W (w.heap.size + 2) #[.string ⟨#[]⟩, .string ⟨#[]⟩] 97 := by rw [hW]; exact Blk.new' _ (by simp only [World.size_alloc]) _ _
 have HBW := lh hbw;have Q2 := lh q2;have k0 := q0.cell 0;have k1 := q0.cell 1;have k2 := q1.cell 0;have k3 := q1.cell 1
 have HKS : Hid (∀ w' : World, Kp (fun y => y = w.heap.size + 2) W w' -> (fun w' => w'.cell? ⟨w.heap.size, 0, none⟩ = some (.string ae) /\ w'.cell? ⟨w.heap.size, 1, none⟩ = some (.string ao) /\ w'.cell? ⟨w.heap.size + 1, 0, none⟩ = some (.string be) /\ w'.cell? ⟨w.heap.size + 1, 1, none⟩ = some (.string bo)) w') := lh fun w' hb => ⟨hb.cell k0 (by simp), hb.cell k1 (by simp), hb.cell k2 (by simp), hb.cell k3 (by simp)⟩
 clear hbw q0 q1 q2 k0 k1 k2 k3;go_enter Tryz.func82, Tryz.ntmps82;go_wp2_with fail;rw [<- hW];clear hW
 refine wp_region_held_drew (S := (fun w' => w'.cell? ⟨w.heap.size, 0, none⟩ = some (.string ae) /\ w'.cell? ⟨w.heap.size, 1, none⟩ = some (.string ao) /\ w'.cell? ⟨w.heap.size + 1, 0, none⟩ = some (.string be) /\ w'.cell? ⟨w.heap.size + 1, 1, none⟩ = some (.string bo))) (by kernel_rfl) (by exact HKS.o _ (Kp.below (Below.refl _ _).drew)) fun hH => ?_
 refine tkV 0 5 rfl rfl ?_; try simp only [tkS]
 refine tkV 1 6 rfl rfl ?_; try simp only [tkS]
 refine tkV 2 7 rfl rfl ?_; try simp only [tkS]
 refine tkV 3 8 rfl rfl ?_; try simp only [tkS]
 refine tkV 5 10 rfl rfl ?_; try simp only [tkS]
 refine tkV 6 11 rfl rfl ?_; try simp only [tkS]
 refine tkV 7 12 rfl rfl ?_; try simp only [tkS]
 refine tkV 8 13 rfl rfl ?_; try simp only [tkS]
 refine tkV 11 16 rfl rfl ?_; try simp only [tkS]
 refine tkV 12 17 rfl rfl ?_; try simp only [tkS]
 refine tkV 13 18 rfl rfl ?_; try simp only [tkS]
 refine tkV 14 19 rfl rfl ?_; try simp only [tkS]
 refine tkV 16 21 rfl rfl ?_; try simp only [tkS]
 refine tkV 17 22 rfl rfl ?_; try simp only [tkS]
 refine tkV 18 23 rfl rfl ?_; try simp only [tkS]
 refine tkV 19 24 rfl rfl ?_; try simp only [tkS]
 refine tkR 4 (.cons rfl (fun K hK => ?_) .nil);go_simp;go_at_call 54
 with_reducible refine Calls.mono (HM1.o _) ?_
 rintro e w5 ⟨rfl, hb5⟩;have hw5 : Below W.heap.size W w5 := Below.trans (Below.refl W.heap.size W).drew (Below.mono hb5 (Below.size (Below.refl W.heap.size W).drew));clear hb5;go_wp2_with fail
 refine hK.out _ _ (by exact HKS.o _ (Kp.below hw5)) fun hH => ?_
 clear hK K
 try simp only [tkS]
 refine tkR 9 (.cons rfl (fun K hK => ?_) .nil);go_simp;go_at_call 54
 with_reducible refine Calls.mono (HM2.o _) ?_
 rintro e w6 ⟨rfl, hb6⟩;have hw6 : Below W.heap.size W w6 := Below.trans hw5 (Below.mono hb6 (Below.size hw5));clear hb6;go_wp2_with fail
 refine hK.out _ _ (by exact HKS.o _ (Kp.below hw6)) fun hH => ?_
 clear hK K
 try simp only [tkS]
 refine tkR 10 (.cons rfl (fun K hK => ?_) .nil);go_simp;go_at_call 17
 with_reducible refine Calls.mono (HA1.o _) ?_
 rintro e w7 ⟨rfl, hb7⟩;have hw7 : Below W.heap.size W w7 := Below.trans hw6 (Below.mono hb7 (Below.size hw6));clear hb7;go_wp2_with fail
 refine hK.out _ _ (by exact HKS.o _ (Kp.below hw7)) fun hH => ?_
 clear hK K
 try simp only [tkS]
 refine tkR 15 (.cons rfl (fun K hK => ?_) .nil);go_simp;go_at_call 54
 with_reducible refine Calls.mono (HM3.o _) ?_
 rintro e w8 ⟨rfl, hb8⟩;have hw8 : Below W.heap.size W w8 := Below.trans hw7 (Below.mono hb8 (Below.size hw7));clear hb8;go_wp2_with fail
 refine hK.out _ _ (by exact HKS.o _ (Kp.below hw8)) fun hH => ?_
 clear hK K
 try simp only [tkS]
 refine tkR 20 (.cons rfl (fun K hK => ?_) .nil);go_simp;go_at_call 54
 with_reducible refine Calls.mono (HM4.o _) ?_
 rintro e w9 ⟨rfl, hb9⟩;have hw9 : Below W.heap.size W w9 := Below.trans hw8 (Below.mono hb9 (Below.size hw8));clear hb9;go_wp2_with fail
 refine hK.out _ _ (by exact HKS.o _ (Kp.below hw9)) fun hH => ?_
 clear hK K
 try simp only [tkS]
 refine tkR 21 (.cons rfl (fun K hK => ?_) .nil);go_simp;go_at_call 17
 with_reducible refine Calls.mono (HA2.o _) ?_
 rintro e w10 ⟨rfl, hb10⟩;have hw10 : Below W.heap.size W w10 := Below.trans hw9 (Below.mono hb10 (Below.size hw9));clear hb10;go_wp2_with fail
 refine hK.out _ _ (by exact HKS.o _ (Kp.below hw10)) fun hH => ?_
 clear hK K
 try simp only [tkS]
 refine tkV 22 27 rfl rfl ?_; try simp only [tkS]
 have q9 := Q2.o.later hw10;have e0 := q9.cell 0;have e1 := q9.cell 1;have f0 := q9.fr 0;have f1 := q9.fr 1;have ez := q9.lt;have hk10 : Kp (fun y => y = w.heap.size + 2) W w10 := Kp.below hw10;refine tkR 23 (.cons rfl (fun K hK => ?_) .nil);go_simp
 refine hK.out _ _ (by exact HKS.o _ ((hk10.trans (Kp.setCell _ _ _ rfl)).trans (Kp.setCell _ _ _ rfl))) fun hH => ?_
 clear hK K
 try simp only [tkS]
 refine wpAnyH_done (by kernel_rfl) ?_ _;go_wp2_with fail;have q10 := (q9.set 0 (.string t1)).set 1 (.string t2);have g0 := q10.cell 0;have g1 := q10.cell 1;rw [show w.heap.size + 2 = w.heap.size + 1 + 1 from rfl] at g0 g1;exact bodyPost_ret (v := .agg #[.string t1, .string t2]) (by simp [results, Tryz.results82, go_sem, g0, g1]) rfl ⟨by rw [HR.o], ((HBW.o.trans (hw10.mono HBW.o.size)).setCell (show w.heap.size <= w.heap.size + 2 by omega) _).setCell (show w.heap.size <= w.heap.size + 2 by omega) _⟩
theorem zq7 (all odd : St) (w : World) (hs : all.ok) (ht : odd.ok) (ha : all.a < 256) (hb : all.b = 0) (h8 : lenA all <= 8) (hk : all.cut odd ≠ St.zero -> 1 <= lenA all) :
 Calls Tryz.prog 83 #[stv all, stv odd] w fun e w' => e = .returned (ctv (zmg (lenA all) (!eqSt (all.cut odd) St.zero))) /\ Below w.heap.size w w' := by
 have HLN := lh (fun V => zy3 all V ha hb);have HCU := lh (fun V => zph all odd V hs ht)
 have hq : ∀ w : World, (binOp .eql 40 (.agg #[.int .u64 ((all.cut odd).a : Int), .int .u64 ((all.cut odd).b : Int)]) (.agg #[.int .u64 0, .int .u64 0])).run Tryz.prog w = .ok (.bool (eqSt (all.cut odd) St.zero)) w := fun w => zqb _ St.zero w
 have hgd := zfp;have HP := lh (fun V => zif (lenA all) h8 V)
 have HQ : Hid (1 <= lenA all -> ∀ V : World, Calls Tryz.prog 16 #[.int .i64 ((lenA all : Int) - 1)] V fun e w' => e = .returned (natv (2 ^ (lenA all - 1))) /\ Below V.heap.size V w') := fun h V => by
  have h1 := zif (lenA all - 1) (by omega) V;rw [show ((lenA all - 1 : Nat) : Int) = (lenA all : Int) - 1 by omega] at h1;exact h1
 have HK : Hid (eqSt (all.cut odd) St.zero = false -> 1 <= lenA all) := fun h => hk (by simpa [eqSt] using h)
 have HF : Hid (∀ m, zmg (lenA all) m = if m then ⟨2 ^ (lenA all - 1), 2 ^ (lenA all - 1)⟩ else ⟨2 ^ lenA all, 0⟩) := fun _ => rfl
 have e0 : natB 0 = ⟨#[]⟩ := rfl;have h8' := h8;have HBW : Hid (Below w.heap.size w (((w.alloc (.cells #[.int .u64 (all.a : Int), .int .u64 (all.b : Int)] 40)).alloc (.cells #[.int .u64 (odd.a : Int), .int .u64 (odd.b : Int)] 40)).alloc (.cells #[.string ⟨#[]⟩, .string ⟨#[]⟩] 97))) := (((Below.refl _ _).alloc (Nat.le_refl _) _).alloc (by simp) _).alloc (by simp; omega) _
 obtain ⟨W, hW⟩ : ∃ W, W = (((w.alloc (.cells #[.int .u64 (all.a : Int), .int .u64 (all.b : Int)] 40)).alloc (.cells #[.int .u64 (odd.a : Int), .int .u64 (odd.b : Int)] 40)).alloc (.cells #[.string ⟨#[]⟩, .string ⟨#[]⟩] 97)) := ⟨_, rfl⟩
 have q0 : Blk W w.heap.size #[.int .u64 (all.a : Int), .int .u64 (all.b : Int)] 40 := by rw [hW]; exact ((Blk.new _ _ _).alloc _).alloc _
 have q1 : Blk W (w.heap.size + 1) #[.int .u64 (odd.a : Int), .int .u64 (odd.b : Int)] 40 := by rw [hW]; exact (Blk.new' _ (by simp only [World.size_alloc]) _ _).alloc _
 have q2 : Blk W (w.heap.size + 1 + 1) #[.string ⟨#[]⟩, .string ⟨#[]⟩] 97 := by rw [hW]; exact Blk.new' _ (by simp only [World.size_alloc]) _ _
 have Q0 := lh q0;have Q1 := lh q1;have Q2 := lh q2;rw [<- hW] at HBW;clear hs ht ha hb h8 hk q0 q1 q2;have HK8 := lh h8';clear h8';generalize lenA all = k at *;generalize hst : all.cut odd = st at *
 have hz : eqSt st St.zero = true \/ eqSt st St.zero = false := by cases eqSt st St.zero <;> simp
 rcases hz with hz | hz
 case' inl =>
  rw [hz] at hq ⊢;have HR : Hid (zmg k (!true) = ⟨2 ^ k, 0⟩) := HF.o _;have HR2 := lh hz;unfold natv at HP;rw [HR.o];unfold ctv;simp only;rw [e0];generalize natB (2 ^ k) = s1 at *;clear e0 HQ HK HF HR hst hz;go_enter Tryz.func83, Tryz.ntmps83;go_wp2_with fail;rw [<- hW];clear hW;refine (HLN.o _).mono ?_;rintro e w4 ⟨rfl, hb4⟩;have p0 := (Q0.o.later hb4).cell 0;have p1 := (Q0.o.later hb4).cell 1;have p2 := (Q1.o.later hb4).cell 0;have p3 := (Q1.o.later hb4).cell 1;have pl := (Q1.o.later hb4).lt;go_wp2_with fail;refine (HCU.o _).mono ?_;rintro e w5 ⟨rfl, hb5⟩;have hb45 := hb4.trans (hb5.mono hb4.size)
  clear hb4 hb5 p0 p1 p2 p3 pl;go_wp2_with fail;refine (HP.o _).mono ?_;rintro e w6 ⟨rfl, hb6⟩;have hb46 := hb45.trans (hb6.mono hb45.size);have q6 := Q2.o.later hb46;have d0 := q6.cell 0;have d1 := q6.cell 1;have f0 := q6.fr 0;have f1 := q6.fr 1;have ez := q6.lt;clear hb45 hb6;go_wp2_with fail;have g0 := ((q6.set 0 (.string s1)).set 1 (.string ⟨#[]⟩)).cell 0;have g1 := ((q6.set 0 (.string s1)).set 1 (.string ⟨#[]⟩)).cell 1;exact bodyPost_ret (v := .agg #[.string s1, .string ⟨#[]⟩]) (by simp [results, Tryz.results83, go_sem, g0, g1]) rfl ⟨rfl, ((HBW.o.trans (hb46.mono HBW.o.size)).setCell (show w.heap.size <= w.heap.size + 1 + 1 by omega) _).setCell (show w.heap.size <= w.heap.size + 1 + 1 by omega) _⟩
 case' inr =>
  rw [hz] at hq ⊢;have HR : Hid (zmg k (!false) = ⟨2 ^ (k - 1), 2 ^ (k - 1)⟩) := HF.o _;have HP := lh (HQ.o (HK.o hz));unfold natv at HP;rw [HR.o];unfold ctv;simp only;generalize natB (2 ^ (k - 1)) = s1 at *;have HKB : Hid (1 <= k) := HK.o hz;clear e0 HQ HK HF HR hst hz;go_enter Tryz.func83, Tryz.ntmps83;go_wp2_with fail;rw [<- hW];clear hW;refine (HLN.o _).mono ?_;rintro e w4 ⟨rfl, hb4⟩;have p0 := (Q0.o.later hb4).cell 0;have p1 := (Q0.o.later hb4).cell 1;have p2 := (Q1.o.later hb4).cell 0;have p3 := (Q1.o.later hb4).cell 1;have pl := (Q1.o.later hb4).lt;go_wp2_with fail;refine (HCU.o _).mono ?_
  rintro e w5 ⟨rfl, hb5⟩;have hb45 := hb4.trans (hb5.mono hb4.size);clear hb4 hb5 p0 p1 p2 p3 pl;have hk1 := HKB.o;have hk8 := HK8.o;go_wp2_with fail;refine (HP.o _).mono ?_;rintro e w6 ⟨rfl, hb6⟩;have hb46 := hb45.trans (hb6.mono hb45.size);clear hb45 hb6;go_wp2_with fail;refine (HP.o _).mono ?_;rintro e w7 ⟨rfl, hb7⟩;have hb47 := hb46.trans (hb7.mono hb46.size);have q6 := Q2.o.later hb47;have d0 := q6.cell 0;have d1 := q6.cell 1;have f0 := q6.fr 0;have f1 := q6.fr 1;have ez := q6.lt;clear hb46 hb7;go_wp2_with fail;have g0 := ((q6.set 0 (.string s1)).set 1 (.string s1)).cell 0;have g1 := ((q6.set 0 (.string s1)).set 1 (.string s1)).cell 1
  exact bodyPost_ret (v := .agg #[.string s1, .string s1]) (by simp [results, Tryz.results83, go_sem, g0, g1]) rfl ⟨rfl, ((HBW.o.trans (hb47.mono HBW.o.size)).setCell (show w.heap.size <= w.heap.size + 1 + 1 by omega) _).setCell (show w.heap.size <= w.heap.size + 1 + 1 by omega) _⟩
end Go.Proofs.YtlleofjjdhfgcaaGreatDoor
