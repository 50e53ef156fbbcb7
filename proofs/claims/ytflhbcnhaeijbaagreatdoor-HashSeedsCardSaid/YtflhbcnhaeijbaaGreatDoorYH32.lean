/- Part of the proofs that laws return true for every input, where the tables that the rows list are laid. Texts: Hi, Hj, Hk, Hl, Hs. -/
import Derived.Test.YtflhbcnhaeijbaaGreatDoorYH30
import Derived.Test.YtflhbcnhaeijbaaGreatDoorYH31
import Derived.Test.YtflhbcnhaeijbaaGreatDoorYH1
set_option maxHeartbeats 8000000
set_option maxRecDepth 100000
set_option linter.unusedSimpArgs false
set_option linter.unusedVariables false
namespace Go.Proofs.YtflhbcnhaeijbaaGreatDoor
open Go.RowKit Cen
def prAt (bs : List Nat) (n i : Nat) : Pr := ⟨setB (fun v => bitN bs (i * (n + 1) + (v - 1))) n, bitN bs (i * (n + 1) + n)⟩
def parsF (bs : List Nat) (n m : Nat) : List Pr := (List.range m).map (prAt bs n)
def parsBad (n m : Int) (len : Nat) : Prop := n < 0 \/ 128 < n \/ m < 0 \/ 16 < m \/ 8 * (len : Int) < m * (n + 1)
theorem flat_prv (vs zs : List Pr) (c : Pr) (a b : Nat) : (((vs ++ c :: zs).flatMap prc).set (vs.length * 3) (.int .u64 (a : Int))).set (vs.length * 3 + 1) (.int .u64 (b : Int)) = (vs ++ ⟨⟨a, b⟩, c.odd⟩ :: zs).flatMap prc := by
 have hl := zib prc_len vs;rw [List.flatMap_append, List.flatMap_append, List.set_append_right _ _ (by omega), hl, Nat.sub_self, List.set_append_right _ _ (by omega), hl, show vs.length * 3 + 1 - vs.length * 3 = 1 by omega]
 rfl
theorem flat_pro (vs zs : List Pr) (c : Pr) (x : Bool) : ((vs ++ c :: zs).flatMap prc).set (vs.length * 3 + 2) (.bool x) = (vs ++ ⟨c.v, x⟩ :: zs).flatMap prc := by
 have hl := zib prc_len vs;rw [List.flatMap_append, List.flatMap_append, List.set_append_right _ _ (by omega), hl, show vs.length * 3 + 2 - vs.length * 3 = 2 by omega]
 rfl
theorem pr_putv {w : World} {base g cap n i : Nat} {vs zs : List Pr} {c : Pr} (h : OwnP w base (.slice (some ⟨g, 0, none⟩) n cap) (vs ++ c :: zs)) (hi : i = vs.length) (hn : n = (vs ++ c :: zs).length) (a b : Nat) :
 OwnP ((w.setCell ⟨g, i * 3, none⟩ (.int .u64 (a : Int))).setCell ⟨g, i * 3 + 1, none⟩ (.int .u64 (b : Int))) base (.slice (some ⟨g, 0, none⟩) n cap) (vs ++ ⟨⟨a, b⟩, c.odd⟩ :: zs) := by
 subst hi;subst hn;have := (World.ownsRow.stored (World.ownsRow.stored h (vs.length * 3) (.int .u64 (a : Int))).1 (vs.length * 3 + 1) (.int .u64 (b : Int))).1;rw [flat_prv] at this
 show World.ownsRow _ _ _ _ _ _ _
 simpa using this
theorem pr_puto {w : World} {base g cap n i : Nat} {vs zs : List Pr} {c : Pr} (h : OwnP w base (.slice (some ⟨g, 0, none⟩) n cap) (vs ++ c :: zs)) (hi : i = vs.length) (hn : n = (vs ++ c :: zs).length) (x : Bool) :
 OwnP (w.setCell ⟨g, i * 3 + 2, none⟩ (.bool x)) base (.slice (some ⟨g, 0, none⟩) n cap) (vs ++ ⟨c.v, x⟩ :: zs) := by
 subst hi;subst hn;have := (World.ownsRow.stored h (vs.length * 3 + 2) (.bool x)).1;rw [flat_pro] at this
 show World.ownsRow _ _ _ _ _ _ _
 simpa using this
theorem callable_next : zb0 15 := fun _ _ => by kernel_rfl
theorem pars_bad (a : Option Addr) (cap : Nat) (bs : List Nat) (n m : Int) (w : World) (hl : bs.length <= 1073741824) (hb : parsBad n m bs.length) :
 Calls Tryz.prog 6 #[.slice a bs.length cap, .int .i64 n, .int .i64 m] w fun e w' => e = .returned (.tuple #[.slice none 0 0, .int .i64 1]) /\ Below w.heap.size w w' := by
 unfold parsBad at hb;have HB0 : Hid (Below w.heap.size w (w.alloc (.cells #[.slice a bs.length cap] 22))) := (Below.refl _ _).alloc (Nat.le_refl _) _
 have h1 : n < 0 \/ ¬ n < 0 := by omega
 rcases h1 with h1 | h1
 ·clear hb;go_enter Tryz.func6, Tryz.ntmps6;go_wp2_with fail
  go_quiet (fail)
  go_wp2;go_ret2;exact ⟨rfl, HB0.o.trans (drewN_b _ _)⟩
 have h2 : 128 < n \/ ¬ 128 < n := by omega
 rcases h2 with h2 | h2
 ·clear hb;go_enter Tryz.func6, Tryz.ntmps6;go_wp2_with fail
  go_quiet (fail)
  go_wp2;go_ret2;exact ⟨rfl, HB0.o.trans (drewN_b _ _)⟩
 have h3 : m < 0 \/ ¬ m < 0 := by omega
 rcases h3 with h3 | h3
 ·clear hb;go_enter Tryz.func6, Tryz.ntmps6;go_wp2_with fail
  go_quiet (fail)
  go_wp2;go_ret2;exact ⟨rfl, HB0.o.trans (drewN_b _ _)⟩
 have h4 : 16 < m \/ ¬ 16 < m := by omega
 rcases h4 with h4 | h4
 ·clear hb;go_enter Tryz.func6, Tryz.ntmps6;go_wp2_with fail
  go_quiet (fail)
  go_wp2;go_ret2;exact ⟨rfl, HB0.o.trans (drewN_b _ _)⟩
 have h5 : 8 * (bs.length : Int) < m * (n + 1) := by omega
 have HSE := lh (fun V => seeds_any n m V);rw [show seedsF n m = m * (n + 1) by unfold seedsF; rw [if_neg (by omega)]] at HSE;clear hb;generalize m * (n + 1) = s at *;have HWP : Hid (IntKind.i64.wrap (8 * (bs.length : Int)) = 8 * (bs.length : Int)) := IntWalk.i64_in _ (by omega);go_enter Tryz.func6, Tryz.ntmps6;go_wp2_with fail;have hwp := HWP.o
 go_quiet (exact Calls.quiet_of_same ((HSE.o _).mono fun _ _ hh => ⟨hh.1, hh.2.symm⟩))
 clear hwp;go_wp2;go_ret2;exact ⟨rfl, HB0.o.trans (drewN_b _ _)⟩
theorem prAt_eq (bs : List Nat) (n i : Nat) : prAt bs n i = ⟨setB (fun v => bitN bs (i * (n + 1) + (v - 1))) n, bitN bs (i * (n + 1) + n)⟩ := rfl
theorem parsF_length (bs : List Nat) (n m : Nat) : (parsF bs n m).length = m := by simp [parsF]
theorem parsF_take (bs : List Nat) (n m k : Nat) (h : k < m) : (parsF bs n m).take (k + 1) = (parsF bs n m).take k ++ [prAt bs n k] := by
 rw [List.take_succ_eq_append_getElem (by rw [parsF_length]; exact h)]
 simp [parsF]
theorem pars_any (a : Option Addr) (cap : Nat) (bs : List Nat) (n m : Nat) (w : World) (hl : bs.length <= 1073741824) (hx : U8Cells w a bs) (hn : n <= 128) (hm : m <= 16) (h8 : m * (n + 1) <= 8 * bs.length) :
 Calls Tryz.prog 6 #[.slice a bs.length cap, .int .i64 (n : Int), .int .i64 (m : Int)] w fun e w' => ∃ g, e = .returned (.tuple #[.slice (some ⟨g, 0, none⟩) m m, .int .i64 0]) /\ OwnP w' w.heap.size (.slice (some ⟨g, 0, none⟩) m m) (parsF bs n m) /\ Below w.heap.size w w' := by
 have HX := lh hx;have HB0 : Hid (Below w.heap.size w (w.alloc (.cells #[.slice a bs.length cap] 22))) := (Below.refl _ _).alloc (Nat.le_refl _) _;have HSE := lh (fun V => seeds_any (n : Int) (m : Int) V)
 have hsF : seedsF (n : Int) (m : Int) = ((m * (n + 1) : Nat) : Int) := by unfold seedsF; rw [if_neg (by omega)]; push_cast; rfl
 rw [hsF] at HSE;have H8 := lh h8
 have h8i : ¬ (8 * (bs.length : Int) < ((m * (n + 1) : Nat) : Int)) := by omega
 have HWP : Hid (IntKind.i64.wrap (8 * (bs.length : Int)) = 8 * (bs.length : Int)) := IntWalk.i64_in _ (by omega);have hcf : ∀ (args : Array Value) (w : World), (callFunc 15 args).run Tryz.prog w = .ok (.enter 15 args) w := callable_next
 have h1 : ¬ ((n : Int) < 0) := by omega
 have h2 : ¬ (128 < (n : Int)) := by omega
 have h3 : ¬ ((m : Int) < 0) := by omega
 have h4 : ¬ (16 < (m : Int)) := by omega
 clear hsF hx h8;generalize ((m * (n + 1) : Nat) : Int) = s at *;go_enter Tryz.func6, Tryz.ntmps6;go_wp2_with fail;have hwp := HWP.o
 go_quiet (exact Calls.quiet_of_same ((HSE.o _).mono fun _ _ hh => ⟨hh.1, hh.2.symm⟩))
 clear hwp
 obtain ⟨w1, hw1⟩ : ∃ W, W = (w.alloc (.cells #[.slice a bs.length cap] 22)).drewN nq := ⟨_, rfl⟩
 have hb1 : Below w.heap.size w w1 := by rw [hw1]; exact HB0.o.trans (drewN_b _ _)
 have qS : Blk w1 w.heap.size #[.slice a bs.length cap] 22 := by rw [hw1]; exact Blk.new w _ _
 have hz1 : w1.heap.size = w.heap.size + 1 := by rw [hw1]; exact World.size_alloc _ _
 rw [<- hw1];clear hw1
 have HM1 : Hid (m <= maxLen) := by show _ <= _; unfold maxLen; omega
 obtain ⟨w2, hw2⟩ : ∃ W, W = w1.alloc (.cells #[.int .i64 (-1)] 3) := ⟨_, rfl⟩
 have hb2 : Below w.heap.size w w2 := by rw [hw2]; exact hb1.alloc (by omega) _
 have qS2 : Blk w2 w.heap.size #[.slice a bs.length cap] 22 := by rw [hw2]; exact qS.alloc _
 have qA2 : Blk w2 (w.heap.size + 1) #[.int .i64 (-1)] 3 := by rw [hw2]; exact Blk.new' _ hz1 _ _
 have hz2 : w2.heap.size = w.heap.size + 1 + 1 := by rw [hw2, World.size_alloc, hz1]
 go_wp2_with (at_make; go_loud (refine mk elemPr rfl _ _ rfl w2.heap.size .i64 .i64 _ _ m rfl rfl rfl rfl (by omega) HM1.o (by rw [hw2]; exact Nat.le_refl _) prc Pr.zero rfl ?_));intro w3 hown3 hgrow3;rw [<- hw2] at hgrow3;have HB3 : Hid (Below w2.heap.size w2 w3) := (Below.refl _ _).grown hgrow3 (Nat.le_refl _) (by simp)
 have hown4 : OwnP w3 w.heap.size (.slice (some ⟨w.heap.size + 1 + 1, 0, none⟩) m m) (List.replicate m Pr.zero) := by
  have h := OwnL.lower hown3 (show w.heap.size <= w.heap.size + 1 + 1 by omega);exact h
 have HO3 := lh hown4
 have HA3 : Hid (Blk w3 (w.heap.size + 1) #[.int .i64 (((0 * (n + 1) : Nat) : Int) - 1)] 3) := by rw [Nat.zero_mul]; exact qA2.later HB3.o
 have HS3 := lh (qS2.later HB3.o);have HBW3 : Hid (Below w.heap.size w w3) := hb2.trans (HB3.o.mono hb2.size)
 have HAB : Hid (∀ q, a = some q -> bs ≠ [] -> q.block < w.heap.size) := fun q hq hne => by
  obtain ⟨b, off, e, c0, _⟩ := HX.o 0 (List.length_pos_iff.2 hne);rw [hq] at e;simp only [Option.some.injEq] at e;subst e;exact zak c0
 clear hown3 hgrow3 hown4 hw2 hb1 hb2 qS qS2 qA2 hz1 hz2 HB3 HB0 HSE h8i HWP;go_wp2_with fail
 go_loopw [41] (fun i wr => ∃ k : Nat, k <= m /\ i = .int .i64 k /\ OwnP wr w.heap.size (.slice (some ⟨w.heap.size + 1 + 1, 0, none⟩) m m) ((parsF bs n m).take k ++ List.replicate (m - k) Pr.zero) /\ Blk wr (w.heap.size + 1) #[.int .i64 (((k * (n + 1) : Nat) : Int) - 1)] 3 /\ Blk wr w.heap.size #[.slice a bs.length cap] 22 /\ Below w.heap.size w wr) (fun i _ => m - (intOf i).toNat)
 case atStart => exact ⟨0, Nat.zero_le _, rfl, by simpa using HO3.o, HA3.o, HS3.o, HBW3.o⟩
 obtain ⟨wo, rfl⟩ : ∃ wo : World, wo = wr := ⟨_, rfl⟩
 obtain ⟨k, hk, rfl, hown, hA, hS, hb⟩ := hrel
 by_cases hlt : k < m
 ·have hkm : (k : Int) < (m : Int) := by omega
  have hrp : List.replicate (m - k) Pr.zero = Pr.zero :: List.replicate (m - (k + 1)) Pr.zero := by rw [<- List.replicate_succ]; congr 1; omega
  obtain ⟨Z, hZ⟩ : ∃ Z, Z = List.replicate (m - (k + 1)) Pr.zero := ⟨_, rfl⟩
  have HZ := lh hZ
  have htl : ((parsF bs n m).take k).length = k := by rw [List.length_take, parsF_length]; omega
  have HTL : Hid (k = ((parsF bs n m).take k).length) := htl.symm
  have HNL : Hid (∀ c : Pr, m = ((parsF bs n m).take k ++ c :: Z).length) := fun c => by rw [List.length_append, htl, List.length_cons, hZ, List.length_replicate]; omega
  rw [hrp, <- hZ] at hown
  obtain ⟨f, hf⟩ : ∃ f : Nat -> Bool, f = fun v => bitN bs (k * (n + 1) + (v - 1)) := ⟨_, rfl⟩
  have HF := lh hf;have HO : Hid (OwnP wo w.heap.size (.slice (some ⟨w.heap.size + 1 + 1, 0, none⟩) m m) ((parsF bs n m).take k ++ ⟨setB f 0, false⟩ :: Z)) := hown;have HA := lh hA;have HS := lh hS;have HB := lh hb
  have HML : Hid (k * (n + 1) + n < 8 * bs.length) := by
   have h1 : (k + 1) * (n + 1) <= m * (n + 1) := Nat.mul_le_mul_right _ hlt;have h2 := H8.o;rw [Nat.succ_mul] at h1
   show _ < _; omega
  clear hrp hZ htl hown hA hS hb hf;go_wp2_with fail
  go_loopw [12] (fun v wi => ∃ j : Nat, j <= n /\ v = .int .i64 ((j : Int) + 1) /\ OwnP wi w.heap.size (.slice (some ⟨w.heap.size + 1 + 1, 0, none⟩) m m) ((parsF bs n m).take k ++ ⟨setB f j, false⟩ :: Z) /\ Blk wi (w.heap.size + 1) #[.int .i64 (((k * (n + 1) + j : Nat) : Int) - 1)] 3 /\ Blk wi w.heap.size #[.slice a bs.length cap] 22 /\ Below w.heap.size w wi) (fun v _ => n + 2 - (intOf v).toNat)
  case atStart => exact ⟨0, Nat.zero_le _, rfl, HO.o, HA.o, HS.o, HB.o⟩
  obtain ⟨wi, rfl⟩ : ∃ wi : World, wi = wr := ⟨_, rfl⟩
  obtain ⟨j, hj, rfl, hown, hA, hS, hb⟩ := hrel;have HOI := lh hown;have HBI := lh hb;have HSI := lh hS
  have hne : bs ≠ [] := fun h => by have := HML.o; rw [h] at this; simp at this
  have HNX := lh (fun (hi : (k * (n + 1) + j) / 8 < bs.length) => next_any (w.heap.size + 1) w.heap.size a cap bs (k * (n + 1) + j) wi hl (HX.o.keep hb) hi hA hS (by omega) (fun q hq => by have := HAB.o q hq hne; omega));have HNX2 := lh (HNX.o (by have := HML.o; omega));have hzi := hb.size;clear HNX hown hA hS hb
  by_cases hjn : j < n
  ·have hji : ¬ (n : Int) < (j : Int) + 1 := by omega
   have hjj : (j : Int) + 1 <= (n : Int) := by omega
   go_wp2_with fail;refine HNX2.o.mono ?_;rintro e w5 ⟨rfl, hA5, hk5⟩;have HO5 := lh (HOI.o.kept hk5 (fun y hy h => by simp [Value.ownBlock] at hy; omega));have HS5 := lh (HSI.o.kept hk5 (by omega));have HB5 : Hid (Below w.heap.size w w5) := HBI.o.trans (hk5.toBelow hzi (fun y hy e => by omega))
   have HA5 : Hid (Blk w5 (w.heap.size + 1) #[.int .i64 (((k * (n + 1) + (j + 1) : Nat) : Int) - 1)] 3) := by
    have e : (((k * (n + 1) + (j + 1) : Nat) : Int) - 1) = ((k * (n + 1) + j : Nat) : Int) := by push_cast; omega
    rw [e]; exact hA5
   have hsb : setB f (j + 1) = if f (j + 1) then (setB f j).add ((j : Int) + 1) else setB f j := rfl
   have hfj : f (j + 1) = bitN bs (k * (n + 1) + j) := by rw [HF.o]; rfl
   rw [hfj] at hsb;clear hA5 hk5 hfj hzi
   cases hbit : bitN bs (k * (n + 1) + j) with
   | false =>
     rw [hbit] at hsb;have HSB : Hid (setB f (j + 1) = setB f j) := hsb;clear hbit hsb;go_wp2;go_roundw
     case rel => exact ⟨j + 1, by omega, by go_num, by rw [HSB.o]; exact HO5.o, HA5.o, HS5.o, HB5.o⟩
     case measure => simp [intOf]; omega
   | true =>
     rw [hbit] at hsb;have HSB : Hid (setB f (j + 1) = (setB f j).add ((j : Int) + 1)) := hsb;have e0 := HO5.o.mid HTL.o (HNL.o _) prc_len 0 (by omega);have e1 := HO5.o.mid HTL.o (HNL.o _) prc_len 1 (by omega);simp only [prc, List.getElem?_cons_zero, List.getElem?_cons_succ, Nat.add_zero] at e0 e1;have gl := HO5.o.lt.1;have HWT := lh (fun V => zhm (setB f j) ((j : Int) + 1) V (zi7 f j));clear hbit hsb;go_wp2_with fail;refine (HWT.o _).mono ?_;rintro e w6 ⟨rfl, hb6⟩;have HO6 := lh (HO5.o.later hb6);have HS6 := lh (HS5.o.later hb6);have HA6 := lh (HA5.o.later hb6);have HB6 := lh (HB5.o.trans (hb6.mono HB5.o.size))
     have d0 := HO6.o.mid HTL.o (HNL.o _) prc_len 0 (by omega);have d1 := HO6.o.mid HTL.o (HNL.o _) prc_len 1 (by omega);simp only [prc, List.getElem?_cons_zero, List.getElem?_cons_succ, Nat.add_zero] at d0 d1;have f0 := HO6.o.fr (HNL.o _) (k * 3);have f1 := HO6.o.fr (HNL.o _) (k * 3 + 1);have dl := HO6.o.lt.1;have HPU := lh (pr_putv HO6.o HTL.o (HNL.o _) ((setB f j).add ((j : Int) + 1)).a ((setB f j).add ((j : Int) + 1)).b);have hkq : Kp (fun y => y = w.heap.size + 1 + 1) w6 _ := Kp.trans (M := fun y => y = w.heap.size + 1 + 1) (Kp.setCell (M := fun y => y = w.heap.size + 1 + 1) w6 ⟨w.heap.size + 1 + 1, k * 3, none⟩ (.int .u64 (((setB f j).add ((j : Int) + 1)).a : Int)) rfl) (Kp.setCell (M := fun y => y = w.heap.size + 1 + 1) _ ⟨w.heap.size + 1 + 1, k * 3 + 1, none⟩ (.int .u64 (((setB f j).add ((j : Int) + 1)).b : Int)) rfl)
     have HKQ := lh hkq;clear hb6 e0 e1 gl hkq;go_wp2;go_roundw
     case rel =>
      refine ⟨j + 1, by omega, by go_num, ?_, HA6.o.kept HKQ.o (by omega), HS6.o.kept HKQ.o (by omega), HB6.o.trans (HKQ.o.toBelow HB6.o.size (fun y hy e => by omega))⟩;rw [HSB.o]; exact HPU.o
     case measure => simp [intOf]; omega
  have hje : j = n := by omega
  have hji : (n : Int) < (j : Int) + 1 := by omega
  have HJE : Hid (j = n) := hje;clear hje;go_wp2_with fail;refine HNX2.o.mono ?_;rintro e w5 ⟨rfl, hA5, hk5⟩;have HO5 := lh (HOI.o.kept hk5 (fun y hy h => by simp [Value.ownBlock] at hy; omega));have HS5 := lh (HSI.o.kept hk5 (by omega));have HB5 : Hid (Below w.heap.size w w5) := HBI.o.trans (hk5.toBelow hzi (fun y hy e => by omega))
  have HA5 : Hid (Blk w5 (w.heap.size + 1) #[.int .i64 ((((k + 1) * (n + 1) : Nat) : Int) - 1)] 3) := by
   have e : ((((k + 1) * (n + 1) : Nat) : Int) - 1) = ((k * (n + 1) + j : Nat) : Int) := by rw [Nat.succ_mul]; have := HJE.o; push_cast; omega
   rw [e]; exact hA5
  have HP5 : Hid (prAt bs n k = ⟨setB f j, bitN bs (k * (n + 1) + j)⟩) := by
   show _ = _; rw [prAt_eq, HJE.o, HF.o]
  generalize bitN bs (k * (n + 1) + j) = x at *;have d2 := HO5.o.mid HTL.o (HNL.o _) prc_len 2 (by omega);simp only [prc, List.getElem?_cons_zero, List.getElem?_cons_succ] at d2;have f2 := HO5.o.fr (HNL.o _) (k * 3 + 2);have dl := HO5.o.lt.1;have HPU := lh (pr_puto HO5.o HTL.o (HNL.o _) x);have HKQ : Hid (Kp (fun y => y = w.heap.size + 1 + 1) w5 (w5.setCell ⟨w.heap.size + 1 + 1, k * 3 + 2, none⟩ (.bool x))) := Kp.setCell _ _ _ rfl;clear hA5 hk5 hzi;go_wp2;go_roundw
  case rel =>
   refine ⟨k + 1, by omega, by go_num, ?_, HA5.o.kept HKQ.o (by omega), HS5.o.kept HKQ.o (by omega), HB5.o.trans (HKQ.o.toBelow HB5.o.size (fun y hy e => by omega))⟩;rw [parsF_take bs n m k hlt, List.append_assoc, HP5.o, <- HZ.o]; exact HPU.o
  case measure => simp [intOf]; omega
 have hke : k = m := by omega
 subst hke;rw [List.take_of_length_le (by rw [parsF_length]; exact Nat.le_refl _), Nat.sub_self, List.replicate_zero, List.append_nil] at hown;have HO := lh hown;have HB := lh hb;clear hown hA hS hb;go_wp2;go_ret2;exact ⟨_, rfl, HO.o, HB.o⟩
theorem elemPr5 : Elem 28 37 3 24 (prv Pr.zero) := .mk Tryz.underlying28 (by kernel_rfl) rfl (by decide)
abbrev OwnP5 := OwnL prc 37 3
theorem seeds5_any (n m : Int) (w : World) : Calls Tryz.prog 9 #[.int .i64 n, .int .i64 m] w fun e w' => e = .returned (.int .i64 (seedsF n m)) /\ w = w' := by
 have HS : Hid (seedsF n m = if n < 0 \/ 128 < n \/ m < 0 \/ 16 < m then 0 else m * (n + 1)) := rfl
 by_cases h : n < 0 \/ 128 < n \/ m < 0 \/ 16 < m
 ·have HE : Hid (seedsF n m = 0) := by show _ = _; rw [HS.o, if_pos h]
  clear HS
  have h1 : n < 0 \/ ¬ n < 0 := by omega
  rcases h1 with h1 | h1
  ·go_enter Tryz.func9, Tryz.ntmps9;go_wp2;go_ret;exact ⟨by rw [HE.o]; rfl, rfl⟩
  have h2 : 128 < n \/ ¬ 128 < n := by omega
  rcases h2 with h2 | h2
  ·go_enter Tryz.func9, Tryz.ntmps9;go_wp2;go_ret;exact ⟨by rw [HE.o]; rfl, rfl⟩
  have h3 : m < 0 \/ ¬ m < 0 := by omega
  rcases h3 with h3 | h3
  ·go_enter Tryz.func9, Tryz.ntmps9;go_wp2;go_ret;exact ⟨by rw [HE.o]; rfl, rfl⟩
  have h4 : 16 < m := by omega
  go_enter Tryz.func9, Tryz.ntmps9;go_wp2;go_ret;exact ⟨by rw [HE.o]; rfl, rfl⟩
 have HE : Hid (seedsF n m = m * (n + 1)) := by show _ = _; rw [HS.o, if_neg h]
 have h1 : ¬ n < 0 := by omega
 have h2 : ¬ 128 < n := by omega
 have h3 : ¬ m < 0 := by omega
 have h4 : ¬ 16 < m := by omega
 have h5 : m * (n + 1) <= 2064 := by
  have a1 : m * (n + 1) <= 16 * (n + 1) := Int.mul_le_mul_of_nonneg_right (by omega) (by omega);omega
 have h6 : 0 <= m * (n + 1) := Int.mul_nonneg (by omega) (by omega);clear h HS;go_enter Tryz.func9, Tryz.ntmps9;go_wp2;go_ret;exact ⟨by rw [HE.o]; rfl, rfl⟩
theorem setB_a_lt (f : Nat -> Bool) : ∀ k, k <= 64 -> (setB f k).a < 2 ^ k
 | 0, _ => by simp [setB, St.zero]
 | k + 1, h => by
   have ih := setB_a_lt f k (by omega);have h2 : (setB f k).a < 2 ^ (k + 1) := Nat.lt_trans ih (Nat.pow_lt_pow_right (by omega) (Nat.lt_succ_self _));rw [setB]
   split
   ·unfold St.add;rw [if_pos (by omega)];exact Nat.or_lt_two_pow h2 (by rw [show ((k : Int) + 1 - 1).toNat = k by omega]; exact Nat.pow_lt_pow_right (by omega) (Nat.lt_succ_self _))
   exact h2
theorem setB_b_lt (f : Nat -> Bool) : ∀ k, k <= 128 -> (setB f k).b < 2 ^ (k - 64)
 | 0, _ => by simp [setB, St.zero]
 | k + 1, h => by
   have ih := setB_b_lt f k (by omega);have h2 : (setB f k).b < 2 ^ (k + 1 - 64) := Nat.lt_of_lt_of_le ih (Nat.pow_le_pow_right (by omega) (by omega));rw [setB]
   split
   ·unfold St.add
    by_cases h64 : k < 64
    ·rw [if_pos (by omega)]; exact h2
    rw [if_neg (by omega), if_pos (by omega)];exact Nat.or_lt_two_pow h2 (Nat.pow_lt_pow_right (by omega) (by omega))
   exact h2
theorem or_add {x i : Nat} (h : x < 2 ^ i) : x ||| 2 ^ i = x + 2 ^ i := by
 have := Nat.two_pow_add_eq_or_of_lt h 1;rw [Nat.mul_one] at this;rw [Nat.or_comm, <- this, Nat.add_comm]
theorem pars5_bad (a : Option Addr) (cap : Nat) (bs : List Nat) (n m : Int) (w : World) (hl : bs.length <= 1073741824) (hb : parsBad n m bs.length) :
 Calls Tryz.prog 7 #[.slice a bs.length cap, .int .i64 n, .int .i64 m] w fun e w' => e = .returned (.tuple #[.slice none 0 0, .int .i64 1]) /\ w = w' := by
 unfold parsBad at hb
 have h1 : n < 0 \/ ¬ n < 0 := by omega
 rcases h1 with h1 | h1
 ·clear hb;go_enter Tryz.func7, Tryz.ntmps7;go_wp2;go_ret2;exact ⟨rfl, rfl⟩
 have h2 : 128 < n \/ ¬ 128 < n := by omega
 rcases h2 with h2 | h2
 ·clear hb;go_enter Tryz.func7, Tryz.ntmps7;go_wp2;go_ret2;exact ⟨rfl, rfl⟩
 have h3 : m < 0 \/ ¬ m < 0 := by omega
 rcases h3 with h3 | h3
 ·clear hb;go_enter Tryz.func7, Tryz.ntmps7;go_wp2;go_ret2;exact ⟨rfl, rfl⟩
 have h4 : 16 < m \/ ¬ 16 < m := by omega
 rcases h4 with h4 | h4
 ·clear hb;go_enter Tryz.func7, Tryz.ntmps7;go_wp2;go_ret2;exact ⟨rfl, rfl⟩
 have h5 : 8 * (bs.length : Int) < m * (n + 1) := by omega
 have HSE := lh (fun V => seeds5_any n m V);rw [show seedsF n m = m * (n + 1) by unfold seedsF; rw [if_neg (by omega)]] at HSE;clear hb;generalize m * (n + 1) = s at *;go_enter Tryz.func7, Tryz.ntmps7;go_wp2_with fail;refine (HSE.o _).mono ?_;rintro e w' ⟨rfl, rfl⟩;go_wp2;go_ret2;exact ⟨rfl, rfl⟩
theorem add_pow {a k : Nat} (ha : a < 2 ^ k) (hk : k < 64) : IntKind.u64.wrap ((a : Int) + IntKind.u64.wrap ((2 : Int) ^ k)) = ((a ||| 2 ^ k : Nat) : Int) := by
 rw [zhn hk, or_add ha];have h1 : 2 ^ (k + 1) <= 2 ^ 64 := Nat.pow_le_pow_right (by omega) (by omega);rw [Nat.pow_succ] at h1;generalize 2 ^ k = P at *;rw [<- Int.natCast_add];exact IntWalk.u64_in _ ⟨by omega, by omega⟩
def Pars5Post (L : List Pr) (w : World) (e : Ending) (w' : World) : Prop := ∃ (a : Option Addr) (c : Nat), e = .returned (.tuple #[.slice a L.length c, .int .i64 0]) /\ OwnP5 w' w.heap.size (.slice a L.length c) L /\ Below w.heap.size w w'
theorem pars5_any (a : Option Addr) (cap : Nat) (bs : List Nat) (n m : Nat) (w : World) (hl : bs.length <= 1073741824) (hx : U8Cells w a bs) (hn : n <= 128) (hm : m <= 16) (h8 : m * (n + 1) <= 8 * bs.length) :
 Calls Tryz.prog 7 #[.slice a bs.length cap, .int .i64 (n : Int), .int .i64 (m : Int)] w (Pars5Post (parsF bs n m) w) := by
 have HX := lh hx;have HSE := lh (fun V => seeds5_any (n : Int) (m : Int) V)
 have hsF : seedsF (n : Int) (m : Int) = ((m * (n + 1) : Nat) : Int) := by unfold seedsF; rw [if_neg (by omega)]; push_cast; rfl
 rw [hsF] at HSE;have H8 := lh h8
 have h8i : ¬ (8 * (bs.length : Int) < ((m * (n + 1) : Nat) : Int)) := by omega
 have h1 : ¬ ((n : Int) < 0) := by omega
 have h2 : ¬ (128 < (n : Int)) := by omega
 have h3 : ¬ ((m : Int) < 0) := by omega
 have h4 : ¬ (16 < (m : Int)) := by omega
 clear hsF hx h8;generalize ((m * (n + 1) : Nat) : Int) = s at *;go_enter Tryz.func7, Tryz.ntmps7;go_wp2_with fail;refine (HSE.o _).mono ?_;rintro e w' ⟨rfl, rfl⟩;go_wp2_with fail
 go_loopw [8, 9] (fun v i wr => ∃ (k : Nat) (va : Option Addr) (vc : Nat), k <= m /\ i = .int .i64 k /\ v = .slice va k vc /\ OwnP5 wr w.heap.size (.slice va k vc) ((parsF bs n m).take k) /\ Below w.heap.size w wr) (fun _ i _ => m - (intOf i).toNat)
 case atStart => exact ⟨0, none, 0, Nat.zero_le _, rfl, rfl, OwnL.nil _ _, Below.refl _ _⟩
 obtain ⟨wo, rfl⟩ : ∃ wo : World, wo = wr := ⟨_, rfl⟩
 obtain ⟨k, va, vc, hk, rfl, rfl, hown, hb⟩ := hrel
 by_cases hlt : k < m
 ·have hkm : (k : Int) < (m : Int) := by omega
  obtain ⟨f, hf⟩ : ∃ f : Nat -> Bool, f = fun v => bitN bs (k * (n + 1) + (v - 1)) := ⟨_, rfl⟩
  have HF := lh hf;have HO := lh hown;have HB := lh hb
  have HML : Hid (k * (n + 1) + n < 8 * bs.length) := by
   have h1 : (k + 1) * (n + 1) <= m * (n + 1) := Nat.mul_le_mul_right _ hlt;have h2 := H8.o;rw [Nat.succ_mul] at h1
   show _ < _; omega
  obtain ⟨bp, hbp⟩ : ∃ bp, bp = wo.heap.size := ⟨_, rfl⟩
  obtain ⟨wx, hwx⟩ : ∃ W, W = wo.alloc (.cells #[.int .u64 0, .int .u64 0, .bool false] 37) := ⟨_, rfl⟩
  have HBX : Hid (Below wo.heap.size wo wx) := by rw [hwx]; exact (Below.refl _ _).alloc (Nat.le_refl _) _
  have HQX : Hid (Blk wx bp #[.int .u64 ((setB f 0).a : Int), .int .u64 ((setB f 0).b : Int), .bool false] 37) := by rw [hwx, hbp]; exact Blk.new _ _ _
  have HBP : Hid (w.heap.size <= bp) := by rw [hbp]; exact hb.size
  clear hown hb hf;go_wp2_with fail;rw [<- hwx, <- hbp];have HBE := lh hbp;clear hwx hbp
  go_loopw [11] (fun v wi => ∃ z : Int, 1 <= z /\ z <= (n : Int) + 1 /\ v = .int .i64 z /\ Blk wi bp #[.int .u64 ((setB f (z.toNat - 1)).a : Int), .int .u64 ((setB f (z.toNat - 1)).b : Int), .bool false] 37 /\ Kp (fun y => y = bp) wx wi) (fun v _ => n + 2 - (intOf v).toNat)
  case atStart => exact ⟨1, by omega, by omega, rfl, HQX.o, Kp.refl _ _⟩
  obtain ⟨wi, rfl⟩ : ∃ wi : World, wi = wr := ⟨_, rfl⟩
  obtain ⟨z, hz1, hz2, rfl, hq, hkp⟩ := hrel;have HKP := lh hkp;have HQ := lh hq;have HBI : Hid (Below w.heap.size w wi) := (HB.o.trans (HBX.o.mono HB.o.size)).trans (hkp.toBelow (HB.o.trans (HBX.o.mono HB.o.size)).size (fun y hy e => by have := HBP.o; omega));clear hq hkp
  by_cases hzn : z <= (n : Int)
  ·obtain ⟨pk, hpk⟩ : ∃ pk : Nat, pk = k * (n + 1) := ⟨_, rfl⟩
   have hpi : (k : Int) * ((n : Int) + 1) = (pk : Int) := by rw [hpk]; push_cast; rfl
   have hpb : pk + n < 8 * bs.length := by rw [hpk]; exact HML.o
   have hpb2 : pk <= 2064 := by
    rw [hpk];have h1 : k * (n + 1) <= 16 * (n + 1) := Nat.mul_le_mul_right _ (by omega);omega
   have hprod : IntKind.i64.wrap ((k : Int) * ((n : Int) + 1)) = (pk : Int) := by rw [hpi]; exact IntWalk.i64_in _ (by omega)
   have HPK := lh hpk;have HPI := lh hpi;have HBT := lh (bit_any a cap bs (pk + (z.toNat - 1)) wi hl (HX.o.keep HBI.o) (by omega));rw [show ((pk + (z.toNat - 1) : Nat) : Int) = (pk : Int) + z - 1 by omega] at HBT;have HSN := lh (zi6 f hz1)
   have hfz : f z.toNat = bitN bs (pk + (z.toNat - 1)) := by rw [HF.o, hpk]
   rw [hfz] at HSN;have HALT := lh (fun (h : z <= 64) => setB_a_lt f (z.toNat - 1) (by omega));have HBLT := lh (fun (h : 65 <= z) => setB_b_lt f (z.toNat - 1) (by omega));have HOK := lh (zi7 f (z.toNat - 1));clear hpk hpi hfz;generalize bitN bs (pk + (z.toNat - 1)) = x at *;generalize setB f (z.toNat - 1) = st at *;go_wp2_with fail;clear hprod;refine HBT.o.mono ?_;rintro e w' ⟨rfl, rfl⟩;have q0 := HQ.o.cell 0;have q1 := HQ.o.cell 1;have q2 := HQ.o.cell 2;have qf0 := HQ.o.fr 0;have qf1 := HQ.o.fr 1;have ql := HQ.o.lt
   cases x with
   | false =>
     have HS2 : Hid (setB f z.toNat = st) := by show _ = _; rw [HSN.o, if_neg (by simp)]
     clear HSN;go_wp2;go_roundw
     case rel => exact ⟨z + 1, by omega, by omega, rfl, by rw [show (z + 1).toNat - 1 = z.toNat by omega, HS2.o]; exact HQ.o, HKP.o⟩
     case measure => simp [intOf]; omega
   | true =>
     have HS2 : Hid (setB f z.toNat = st.add z) := by show _ = _; rw [HSN.o, if_pos rfl]
     clear HSN
     by_cases h64 : z <= 64
     ·have e1 : (z - 1) / 64 = 0 := by omega
      have e2 : (z - 1) % 64 = z - 1 := by omega
      obtain ⟨A, hA⟩ : ∃ A : Nat, A = st.a ||| 2 ^ (z.toNat - 1) := ⟨_, rfl⟩
      have HR : Hid (st.add z = ⟨A, st.b⟩) := by
       show _ = _; unfold St.add; rw [if_pos (by omega), show (z - 1).toNat = z.toNat - 1 by omega, hA]
      have hw : IntKind.u64.wrap ((st.a : Int) + IntKind.u64.wrap ((2 : Int) ^ (z.toNat - 1))) = (A : Int) := by rw [hA]; exact add_pow (HALT.o h64) (by omega)
      have HW := lh hw;clear hA hw;go_wp2_with fail;rw [HW.o];refine ⟨⟨z + 1, by omega, by omega, rfl, by rw [show (z + 1).toNat - 1 = z.toNat by omega, HS2.o, HR.o]; exact HQ.o.set 0 _, HKP.o.trans (Kp.setCell _ _ _ rfl)⟩, by simp [intOf]; omega⟩
     have e1 : (z - 1) / 64 = 1 := by omega
     have e2 : (z - 1) % 64 = z - 65 := by omega
     have hz65 : 65 <= z := by omega
     obtain ⟨A, hA⟩ : ∃ A : Nat, A = st.b ||| 2 ^ (z - 65).toNat := ⟨_, rfl⟩
     have HR : Hid (st.add z = ⟨st.a, A⟩) := by
      show _ = _; unfold St.add; rw [if_neg (by omega), if_pos (by omega), hA]
     have hw : IntKind.u64.wrap ((st.b : Int) + IntKind.u64.wrap ((2 : Int) ^ (z - 65).toNat)) = (A : Int) := by
      rw [hA]; refine add_pow ?_ (by omega);have := HBLT.o hz65
      rwa [show z.toNat - 1 - 64 = (z - 65).toNat by omega] at this
     have HW := lh hw;clear hA hw;go_wp2_with fail;rw [HW.o];refine ⟨⟨z + 1, by omega, by omega, rfl, by rw [show (z + 1).toNat - 1 = z.toNat by omega, HS2.o, HR.o]; exact HQ.o.set 1 _, HKP.o.trans (Kp.setCell _ _ _ rfl)⟩, by simp [intOf]; omega⟩
  have hze : z = (n : Int) + 1 := by omega
  subst hze
  obtain ⟨pk, hpk⟩ : ∃ pk : Nat, pk = k * (n + 1) := ⟨_, rfl⟩
  have hpi : (k : Int) * ((n : Int) + 1) = (pk : Int) := by rw [hpk]; push_cast; rfl
  have hpb : pk + n < 8 * bs.length := by rw [hpk]; exact HML.o
  have hpb2 : pk <= 2064 := by
   rw [hpk];have h1 : k * (n + 1) <= 16 * (n + 1) := Nat.mul_le_mul_right _ (by omega);omega
  have hprod : IntKind.i64.wrap ((k : Int) * ((n : Int) + 1)) = (pk : Int) := by rw [hpi]; exact IntWalk.i64_in _ (by omega)
  have HBT := lh (bit_any a cap bs (pk + n) wi hl (HX.o.keep HBI.o) (by omega));rw [show ((pk + n : Nat) : Int) = (pk : Int) + (n : Int) by omega] at HBT;have hq := HQ.o;rw [show ((n : Int) + 1).toNat - 1 = n by omega] at hq;have HQ2 := lh hq
  have HP5 : Hid (prAt bs n k = ⟨setB f n, bitN bs (pk + n)⟩) := by show _ = _; rw [prAt_eq, HF.o, hpk]
  have hLk : ((parsF bs n m).take k).length = k := by rw [List.length_take, parsF_length]; omega
  have HLK := lh hLk;have HTK := lh (parsF_take bs n m k hlt);have HOI : Hid (OwnP5 wi w.heap.size (.slice va k vc) ((parsF bs n m).take k)) := (HO.o.later HBX.o).kept HKP.o (fun y hy e => by have := (World.ownsRow.lt HO.o y hy).2; have := HBE.o; omega);clear hpk hpi hq hLk;generalize bitN bs (pk + n) = x at *;generalize prAt bs n k = P at *;generalize (parsF bs n m).take k = L at *;generalize setB f n = st at *;go_wp2_with fail;clear hprod;refine HBT.o.mono ?_;rintro e w' ⟨rfl, rfl⟩;have q2 := HQ2.o.cell 2;have qf2 := HQ2.o.fr 2;have ql := HQ2.o.lt;have hq7 : Blk (wi.setCell ⟨bp, 2, none⟩ (.bool x)) bp #[.int .u64 (st.a : Int), .int .u64 (st.b : Int), .bool x] 37 := HQ2.o.set 2 _
  have hk7 : Kp (fun y => y = bp) wi (wi.setCell ⟨bp, 2, none⟩ (.bool x)) := Kp.setCell _ _ _ rfl;have HO7 := lh (HOI.o.kept hk7 (fun y hy e => by have := (World.ownsRow.lt HO.o y hy).2; have := HBE.o; omega));have HB7 : Hid (Below w.heap.size w (wi.setCell ⟨bp, 2, none⟩ (.bool x))) := HBI.o.trans (hk7.toBelow HBI.o.size (fun y hy e => by have := HBP.o; omega));have d0 := hq7.cell 0;have d1 := hq7.cell 1;have d2 := hq7.cell 2;have dz := hq7.lt;have HPE : Hid (P = ⟨st, x⟩) := HP5.o
  have HLN : Hid (L.length <= 1073741824) := by show _ <= _; rw [HLK.o]; omega
  have HZ7 : Hid (w.heap.size <= (wi.setCell ⟨bp, 2, none⟩ (.bool x)).heap.size) := HB7.o.size;clear hq7 hk7
  go_upto_region 14 with fail
  clear q2 qf2 ql;generalize wi.setCell ⟨bp, 2, none⟩ (.bool x) = w7 at *;go_wp2_with (at_builtin; go_loud (refine zjf (C := #[.int .u64 (st.a : Int), .int .u64 (st.b : Int), .bool x]) elemPr5 rfl _ _ rfl w.heap.size (.slice va k vc) L ⟨st, x⟩ rfl HO7.o rfl rfl rfl (prc_one ⟨st, x⟩) HLN.o (by decide) HZ7.o ?_));intro g9 cap9 w9 ho9 hg9 _;have HB9 : Hid (Below w.heap.size w w9) := HB7.o.grown hg9 HZ7.o (fun q hq => (World.ownsRow.lt HO7.o q hq).1);rw [HLK.o] at ho9 ⊢;have HO9 := lh ho9;clear ho9 hg9 d0 d1 d2 dz;go_wp2;go_roundw
  case rel => exact ⟨k + 1, some ⟨g9, 0, none⟩, cap9, by omega, by go_num, rfl, by rw [HTK.o, HPE.o]; exact HO9.o, HB9.o⟩
  case measure => simp [intOf]; omega
 have hke : k = m := by omega
 subst hke;have HO := lh hown;have HB := lh hb;rw [List.take_of_length_le (by rw [parsF_length]; exact Nat.le_refl _)] at HO;clear hown hb;go_wp2;go_ret2;unfold Pars5Post;rw [parsF_length];exact ⟨_, _, rfl, HO.o, HB.o⟩
theorem hseeds_any (a : Option Addr) (cap : Nat) (bs : List Nat) (n m : Int) (w : World) (hl : bs.length <= 9223372036854775807) (hx : U8Cells w a bs)
 (hw : ∀ V, Below w.heap.size w V -> Calls Tryz.prog 5 #[] V fun e w' => e = .returned (.bool true) /\ Below V.heap.size V w') :
 Calls Tryz.prog 3 #[.slice a bs.length cap, .int .i64 n, .int .i64 m] w fun e w' => e = .returned (.bool true) /\ Below w.heap.size w w' := by
 have HW := lh hw;have HX := lh hx;clear hw hx
 by_cases h300 : 300 < bs.length
 ·have h3 : (300 : Int) < (bs.length : Int) := by omega
  go_enter Tryz.func3, Tryz.ntmps3;go_wp2_with fail;refine (HW.o _ (Below.refl _ _)).mono ?_;rintro e w1 ⟨rfl, hb1⟩;go_wp2;go_ret;exact ⟨rfl, hb1⟩
 have h3 : ¬ (300 : Int) < (bs.length : Int) := by omega
 have h30 : bs.length <= 1073741824 := by omega
 have HS1 := lh (fun V => seeds_any n m V);have HS2 := lh (fun V => seeds5_any n m V);generalize seedsF n m = sf at *
 by_cases hbad : parsBad n m bs.length
 ·have HP1 := lh (fun V => pars_bad a cap bs n m V h30 hbad);have HP2 := lh (fun V => pars5_bad a cap bs n m V h30 hbad);clear hbad;go_enter Tryz.func3, Tryz.ntmps3;go_wp2_with fail;refine (HP1.o _).mono ?_;rintro e w1 ⟨rfl, hb1⟩;go_wp2_with fail;refine (HP2.o _).mono ?_;rintro e w' ⟨rfl, rfl⟩;go_wp2_with fail;refine (HS1.o _).mono ?_;rintro e w' ⟨rfl, rfl⟩;go_wp2_with fail;refine (HS2.o _).mono ?_;rintro e w' ⟨rfl, rfl⟩;go_wp2_with fail;refine wp_loop_rounds 1 ?_;rw [rounds_succ];go_wp2_with fail;refine (HW.o _ hb1).mono ?_;rintro e w2 ⟨rfl, hb2⟩;go_wp2;go_ret;exact ⟨rfl, hb1.trans (hb2.mono hb1.size)⟩
 have hnb : 0 <= n /\ n <= 128 /\ 0 <= m /\ m <= 16 /\ m * (n + 1) <= 8 * (bs.length : Int) := by unfold parsBad at hbad; omega
 obtain ⟨g1, g2, g3, g4, g5⟩ := hnb;obtain ⟨N, rfl⟩ := Int.eq_ofNat_of_zero_le g1;obtain ⟨M, rfl⟩ := Int.eq_ofNat_of_zero_le g3
 have g6 : M * (N + 1) <= 8 * bs.length := by
  have e : ((M * (N + 1) : Nat) : Int) = (M : Int) * ((N : Int) + 1) := by push_cast; rfl
  omega
 have HP1 := lh (fun V (hV : Below w.heap.size w V) => pars_any a cap bs N M V h30 (HX.o.keep hV) (by omega) (by omega) g6);have HP2 := lh (fun V (hV : Below w.heap.size w V) => pars5_any a cap bs N M V h30 (HX.o.keep hV) (by omega) (by omega) g6);have HLM : Hid ((parsF bs N M).length = M) := parsF_length bs N M
 have hM : M <= 16 := by omega
 clear hbad g5 g6 g1 g2 g3 g4;generalize parsF bs N M = L at *;go_enter Tryz.func3, Tryz.ntmps3;go_wp2_with fail;refine (HP1.o _ (Below.refl _ _)).mono ?_;rintro e w1 ⟨g, rfl, ho1, hb1⟩;have HO1 := lh ho1;have HB1 := lh hb1;clear ho1 hb1;go_wp2_with fail;refine (HP2.o _ HB1.o).mono ?_;rintro e w2 ⟨ra, rc, rfl, ho2, hb2⟩;rw [HLM.o] at ho2 ⊢;have HO2 := lh ho2;have HO1' := lh (HO1.o.later hb2);have HB2 := lh (HB1.o.trans (hb2.mono HB1.o.size));clear ho2 hb2;go_wp2_with fail;refine (HS1.o _).mono ?_;rintro e w' ⟨rfl, rfl⟩;go_wp2_with fail;refine (HS2.o _).mono ?_;rintro e w' ⟨rfl, rfl⟩;go_wp2_with fail
 go_loopw [51] (fun i wr => ∃ k : Nat, k <= M /\ i = .int .i64 k /\ Below w2.heap.size w2 wr) (fun i _ => M - (intOf i).toNat)
 case atStart => exact ⟨0, Nat.zero_le _, rfl, Below.refl _ _⟩
 obtain ⟨k, hk, rfl, hb⟩ := hrel
 rename World => wo
 have HB := lh hb;clear hb
 by_cases hlt : k < M
 ·have hkL : k < L.length := by rw [HLM.o]; exact hlt
  have hki : (k : Int) < (M : Int) := by omega
  obtain ⟨rb, rcap, hsh⟩ : ∃ rb rcap, (Value.slice ra M rc) = .slice (some ⟨rb, 0, none⟩) M rcap := by
   rcases HO2.o.shape with ⟨_, h2⟩ | ⟨g', gc, h1, _⟩
   ·rw [h2] at hkL; simp at hkL
   rw [HLM.o] at h1; exact ⟨g', gc, h1⟩
  simp only [Value.slice.injEq, true_and] at hsh;obtain ⟨rfl, rfl⟩ := hsh;have A := HO1'.out.later HB.o;have B := HO2.o.later HB.o;have c0 := A.cell HLM.o.symm prc_len k 0 hkL (by omega);have c1 := A.cell HLM.o.symm prc_len k 1 hkL (by omega);have c2 := A.cell HLM.o.symm prc_len k 2 hkL (by omega);have d0 := B.cell HLM.o.symm prc_len k 0 hkL (by omega);have d1 := B.cell HLM.o.symm prc_len k 1 hkL (by omega);have d2 := B.cell HLM.o.symm prc_len k 2 hkL (by omega);simp only [prc, List.getElem?_cons_zero, List.getElem?_cons_succ, Nat.add_zero] at c0 c1 c2 d0 d1 d2;have al := A.lt.1;have bl := B.lt.1
  clear A B;generalize L[k] = P at *;have hgd := ze9
  have hnq : ∀ w : World, (binOp .neq 34 (.agg #[.int .u64 (P.v.a : Int), .int .u64 (P.v.b : Int)]) (.agg #[.int .u64 (P.v.a : Int), .int .u64 (P.v.b : Int)])).run Tryz.prog w = .ok (.bool false) w := fun w => by
   have := zi4 P.v P.v w;rw [show eqSt P.v P.v = true by simp [eqSt]] at this;exact this
  go_wp2_with fail
  go_quiet (fail)
  go_wp2;go_roundw
  case rel => exact ⟨k + 1, by omega, by go_num, HB.o.trans (drewN_b _ _)⟩
  case measure => simp [intOf]; omega
 have hke : k = M := by omega
 subst hke;have HBW := lh (HB2.o.trans (HB.o.mono HB2.o.size));go_wp2_with fail;refine (HW.o _ HBW.o).mono ?_;rintro e w9 ⟨rfl, hb9⟩;go_wp2;go_ret;exact ⟨rfl, HBW.o.trans (hb9.mono HBW.o.size)⟩
end Go.Proofs.YtflhbcnhaeijbaaGreatDoor
