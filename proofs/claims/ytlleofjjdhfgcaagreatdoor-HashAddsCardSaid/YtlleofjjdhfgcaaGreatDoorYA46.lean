/- Parts of the proofs of laws. Texts: Hj, Ht, Short, Hn, Hu, Hr. -/
import Derived.Test.YtlleofjjdhfgcaaGreatDoorYA41
import Derived.Laws.EntriesVeiled
import Derived.Test.YtlleofjjdhfgcaaGreatDoorYA42
set_option maxHeartbeats 8000000
set_option maxRecDepth 100000
set_option linter.all false
namespace Go.Proofs.YtlleofjjdhfgcaaGreatDoor
open Go.RowKit Cen
theorem zrm (a : Option Addr) (cap : Nat) (bs : List Nat) (n m : Nat) (w : World) (hl : bs.length <= 1073741824) (hx : U8Cells w a bs) (hn : n <= 128) (hm : m <= 16) (h8 : m * (n + 1) <= 8 * bs.length) :
 Calls Tryz.prog 27 #[.slice a bs.length cap, .int .i64 (n : Int), .int .i64 (m : Int)] w fun e w' => ∃ g, e = .returned (.tuple #[.slice (some ⟨g, 0, none⟩) m m, .int .i64 0]) /\ OwnP w' w.heap.size (.slice (some ⟨g, 0, none⟩) m m) (zbr bs n m) /\ Below w.heap.size w w' := by
 have HX := lh hx;have HB0 : Hid (Below w.heap.size w (w.alloc (.cells #[.slice a bs.length cap] 59))) := ba _ _;have HSE := lh (fun V => zom (n : Int) (m : Int) V)
 have hsF : zjy (n : Int) (m : Int) = ((m * (n + 1) : Nat) : Int) := by unfold zjy; rw [if_neg (by omega)]; push_cast; rfl
 rw [hsF] at HSE;have H8 := lh h8
 have h8i : ¬ (8 * (bs.length : Int) < ((m * (n + 1) : Nat) : Int)) := by omega
 have HWP : Hid (IntKind.i64.wrap (8 * (bs.length : Int)) = 8 * (bs.length : Int)) := IntWalk.i64_in _ (by omega);have hcf : ∀ (args : Array Value) (w : World), (callFunc 61 args).run Tryz.prog w = .ok (.enter 61 args) w := zl4
 have h1 : ¬ ((n : Int) < 0) := by omega
 have h2 : ¬ (128 < (n : Int)) := by omega
 have h3 : ¬ ((m : Int) < 0) := by omega
 have h4 : ¬ (16 < (m : Int)) := by omega
 clear hsF hx h8;generalize ((m * (n + 1) : Nat) : Int) = s at *;go_enter Tryz.func27, Tryz.ntmps27;go_wp2_with fail;have hwp := HWP.o
 go_quiet (exact Calls.quiet_of_same ((HSE.o _).mono fun _ _ hh => ⟨hh.1, hh.2.symm⟩))
 clear hwp;obtain ⟨w1, hw1⟩ := nm ((w.alloc (.cells #[.slice a bs.length cap] 59)).drewN nq)
 have hb1 : Below w.heap.size w w1 := by rw [hw1]; exact HB0.o.trans (zl9 _ _)
 have qS : Blk w1 w.heap.size #[.slice a bs.length cap] 59 := by rw [hw1]; exact Blk.new w _ _
 have hz1 : w1.heap.size = w.heap.size + 1 := by rw [hw1]; exact World.size_alloc _ _
 rw [<- hw1];clear hw1
 have HM1 : Hid (m <= maxLen) := by show _ <= _; unfold maxLen; omega
 obtain ⟨w2, hw2⟩ := nm (w1.alloc (.cells #[.int .i64 (-1)] 3))
 have hb2 : Below w.heap.size w w2 := by rw [hw2]; exact hb1.alloc (by omega) _
 have qS2 : Blk w2 w.heap.size #[.slice a bs.length cap] 59 := by rw [hw2]; exact qS.alloc _
 have qA2 : Blk w2 (w.heap.size + 1) #[.int .i64 (-1)] 3 := by rw [hw2]; exact Blk.new' _ hz1 _ _
 have hz2 : w2.heap.size = w.heap.size + 1 + 1 := by rw [hw2, World.size_alloc, hz1]
 go_wp2_with (at_make; go_loud (refine mk zq2 rfl _ _ rfl w2.heap.size .i64 .i64 _ _ m rfl rfl rfl rfl (by omega) HM1.o (by rw [hw2]; exact Nat.le_refl _) prc Pr.zero rfl ?_));intro w3 hown3 hgrow3;rw [<- hw2] at hgrow3;have HB3 : Hid (Below w2.heap.size w2 w3) := (Below.refl _ _).grown hgrow3 (Nat.le_refl _) (by simp)
 have hown4 : OwnP w3 w.heap.size (.slice (some ⟨w.heap.size + 1 + 1, 0, none⟩) m m) (List.replicate m Pr.zero) := by
  have h := OwnL.lower hown3 (show w.heap.size <= w.heap.size + 1 + 1 by omega);exact h
 have HO3 := lh hown4
 have HA3 : Hid (Blk w3 (w.heap.size + 1) #[.int .i64 (((0 * (n + 1) : Nat) : Int) - 1)] 3) := by rw [Nat.zero_mul]; exact qA2.later HB3.o
 have HS3 := lh (qS2.later HB3.o);have HBW3 : Hid (Below w.heap.size w w3) := hb2.trans (HB3.o.mono hb2.size)
 have HAB : Hid (∀ q, a = some q -> bs ≠ [] -> q.block < w.heap.size) := fun q hq hne => by
  obtain ⟨b, off, e, c0, _⟩ := HX.o 0 (List.length_pos_iff.2 hne);rw [hq] at e;simp only [Option.some.injEq] at e;subst e;exact zai c0
 clear hown3 hgrow3 hown4 hw2 hb1 hb2 qS qS2 qA2 hz1 hz2 HB3 HB0 HSE h8i HWP;go_wp2_with fail
 go_loopw [41] (fun i wr => ∃ k : Nat, k <= m /\ i = .int .i64 k /\ OwnP wr w.heap.size (.slice (some ⟨w.heap.size + 1 + 1, 0, none⟩) m m) ((zbr bs n m).take k ++ List.replicate (m - k) Pr.zero) /\ Blk wr (w.heap.size + 1) #[.int .i64 (((k * (n + 1) : Nat) : Int) - 1)] 3 /\ Blk wr w.heap.size #[.slice a bs.length cap] 59 /\ Below w.heap.size w wr) (fun i _ => m - (intOf i).toNat)
 case atStart => exact ⟨0, Nat.zero_le _, rfl, by simpa using HO3.o, HA3.o, HS3.o, HBW3.o⟩
 obtain ⟨wo, rfl⟩ : ∃ wo : World, wo = wr := ⟨_, rfl⟩
 obtain ⟨k, hk, rfl, hown, hA, hS, hb⟩ := hrel
 by_cases hlt : k < m
 ·have hkm : (k : Int) < (m : Int) := by omega
  have hrp : List.replicate (m - k) Pr.zero = Pr.zero :: List.replicate (m - (k + 1)) Pr.zero := by rw [<- List.replicate_succ]; congr 1; omega
  obtain ⟨Z, hZ⟩ := nm (List.replicate (m - (k + 1)) Pr.zero);have HZ := lh hZ
  have htl : ((zbr bs n m).take k).length = k := by rw [List.length_take, zb8]; omega
  have HTL : Hid (k = ((zbr bs n m).take k).length) := htl.symm
  have HNL : Hid (∀ c : Pr, m = ((zbr bs n m).take k ++ c :: Z).length) := fun c => by rw [List.length_append, htl, List.length_cons, hZ, List.length_replicate]; omega
  rw [hrp, <- hZ] at hown
  obtain ⟨f, hf⟩ : ∃ f : Nat -> Bool, f = fun v => bitN bs (k * (n + 1) + (v - 1)) := ⟨_, rfl⟩
  have HF := lh hf;have HO : Hid (OwnP wo w.heap.size (.slice (some ⟨w.heap.size + 1 + 1, 0, none⟩) m m) ((zbr bs n m).take k ++ ⟨setB f 0, false⟩ :: Z)) := hown;have HA := lh hA;have HS := lh hS;have HB := lh hb
  have HML : Hid (k * (n + 1) + n < 8 * bs.length) := by
   have h1 : (k + 1) * (n + 1) <= m * (n + 1) := Nat.mul_le_mul_right _ hlt;have h2 := H8.o;rw [Nat.succ_mul] at h1
   show _ < _; omega
  clear hrp hZ htl hown hA hS hb hf;go_wp2_with fail
  go_loopw [12] (fun v wi => ∃ j : Nat, j <= n /\ v = .int .i64 ((j : Int) + 1) /\ OwnP wi w.heap.size (.slice (some ⟨w.heap.size + 1 + 1, 0, none⟩) m m) ((zbr bs n m).take k ++ ⟨setB f j, false⟩ :: Z) /\ Blk wi (w.heap.size + 1) #[.int .i64 (((k * (n + 1) + j : Nat) : Int) - 1)] 3 /\ Blk wi w.heap.size #[.slice a bs.length cap] 59 /\ Below w.heap.size w wi) (fun v _ => n + 2 - (intOf v).toNat)
  case atStart => exact ⟨0, Nat.zero_le _, rfl, HO.o, HA.o, HS.o, HB.o⟩
  obtain ⟨wi, rfl⟩ : ∃ wi : World, wi = wr := ⟨_, rfl⟩
  obtain ⟨j, hj, rfl, hown, hA, hS, hb⟩ := hrel;have HOI := lh hown;have HBI := lh hb;have HSI := lh hS
  have hne : bs ≠ [] := fun h => by have := HML.o; rw [h] at this; simp at this
  have HNX := lh (fun (hi : (k * (n + 1) + j) / 8 < bs.length) => zx1 (w.heap.size + 1) w.heap.size a cap bs (k * (n + 1) + j) wi hl (HX.o.keep hb) hi hA hS (by omega) (fun q hq => by have := HAB.o q hq hne; omega));have HNX2 := lh (HNX.o (by have := HML.o; omega));have hzi := hb.size;clear HNX hown hA hS hb
  by_cases hjn : j < n
  ·have hji : ¬ (n : Int) < (j : Int) + 1 := by omega
   have hjj : (j : Int) + 1 <= (n : Int) := by omega
   go_wp2_with fail;refine HNX2.o.mono ?_;rintro e w5 ⟨rfl, hA5, hk5⟩;have HO5 := lh (HOI.o.kept hk5 (fun y hy h => by simp [Value.ownBlock] at hy; omega));have HS5 := lh (HSI.o.kept hk5 (by omega));have HB5 : Hid (Below w.heap.size w w5) := HBI.o.trans (hk5.toBelow hzi (fun y hy e => by omega))
   have HA5 : Hid (Blk w5 (w.heap.size + 1) #[.int .i64 (((k * (n + 1) + (j + 1) : Nat) : Int) - 1)] 3) := by
    have e : (((k * (n + 1) + (j + 1) : Nat) : Int) - 1) = ((k * (n + 1) + j : Nat) : Int) := by push_cast; omega
    rw [e]; exact hA5
   have hsb : setB f (j + 1) = if f (j + 1) then (setB f j).add ((j : Int) + 1) else setB f j := rfl
   have hfj : f (j + 1) = bitN bs (k * (n + 1) + j) := by rw [HF.o]; rfl
   rw [hfj] at hsb;clear hA5 hk5 hfj hzi
   cases hbit : bitN bs (k * (n + 1) + j) with
   | false =>
     rw [hbit] at hsb;have HSB : Hid (setB f (j + 1) = setB f j) := hsb;clear hbit hsb;go_wp2;go_roundw
     case rel => exact ⟨j + 1, by omega, by go_num, by rw [HSB.o]; exact HO5.o, HA5.o, HS5.o, HB5.o⟩
     case measure => simp [intOf]; omega
   | true =>
     rw [hbit] at hsb;have HSB : Hid (setB f (j + 1) = (setB f j).add ((j : Int) + 1)) := hsb;have e0 := HO5.o.mid HTL.o (HNL.o _) zax 0 (by omega);have e1 := HO5.o.mid HTL.o (HNL.o _) zax 1 (by omega);simp only [prc, List.getElem?_cons_zero, List.getElem?_cons_succ, Nat.add_zero] at e0 e1;have gl := HO5.o.lt.1;have HWT := lh (fun V => zgs (setB f j) ((j : Int) + 1) V (zfw f j));clear hbit hsb;go_wp2_with fail;refine (HWT.o _).mono ?_;rintro e w6 ⟨rfl, hb6⟩;have HO6 := lh (HO5.o.later hb6);have HS6 := lh (HS5.o.later hb6);have HA6 := lh (HA5.o.later hb6);have HB6 := bt HB5 hb6;have d0 := HO6.o.mid HTL.o (HNL.o _) zax 0 (by omega)
     have d1 := HO6.o.mid HTL.o (HNL.o _) zax 1 (by omega);simp only [prc, List.getElem?_cons_zero, List.getElem?_cons_succ, Nat.add_zero] at d0 d1;have f0 := HO6.o.fr (HNL.o _) (k * 3);have f1 := HO6.o.fr (HNL.o _) (k * 3 + 1);have dl := HO6.o.lt.1;have HPU := lh (ybj HO6.o HTL.o (HNL.o _) ((setB f j).add ((j : Int) + 1)).a ((setB f j).add ((j : Int) + 1)).b);have hkq : Kp (fun y => y = w.heap.size + 1 + 1) w6 _ := Kp.trans (M := fun y => y = w.heap.size + 1 + 1) (Kp.setCell (M := fun y => y = w.heap.size + 1 + 1) w6 ⟨w.heap.size + 1 + 1, k * 3, none⟩ (.int .u64 (((setB f j).add ((j : Int) + 1)).a : Int)) rfl) (Kp.setCell (M := fun y => y = w.heap.size + 1 + 1) _ ⟨w.heap.size + 1 + 1, k * 3 + 1, none⟩ (.int .u64 (((setB f j).add ((j : Int) + 1)).b : Int)) rfl)
     have HKQ := lh hkq;clear hb6 e0 e1 gl hkq;go_wp2;go_roundw
     case rel =>
      refine ⟨j + 1, by omega, by go_num, ?_, HA6.o.kept HKQ.o (by omega), HS6.o.kept HKQ.o (by omega), HB6.o.trans (HKQ.o.toBelow HB6.o.size (fun y hy e => by omega))⟩;rw [HSB.o]; exact HPU.o
     case measure => simp [intOf]; omega
  have hje : j = n := by omega
  have hji : (n : Int) < (j : Int) + 1 := by omega
  have HJE : Hid (j = n) := hje;clear hje;go_wp2_with fail;refine HNX2.o.mono ?_;rintro e w5 ⟨rfl, hA5, hk5⟩;have HO5 := lh (HOI.o.kept hk5 (fun y hy h => by simp [Value.ownBlock] at hy; omega));have HS5 := lh (HSI.o.kept hk5 (by omega));have HB5 : Hid (Below w.heap.size w w5) := HBI.o.trans (hk5.toBelow hzi (fun y hy e => by omega))
  have HA5 : Hid (Blk w5 (w.heap.size + 1) #[.int .i64 ((((k + 1) * (n + 1) : Nat) : Int) - 1)] 3) := by
   have e : ((((k + 1) * (n + 1) : Nat) : Int) - 1) = ((k * (n + 1) + j : Nat) : Int) := by rw [Nat.succ_mul]; have := HJE.o; push_cast; omega
   rw [e]; exact hA5
  have HP5 : Hid (prAt bs n k = ⟨setB f j, bitN bs (k * (n + 1) + j)⟩) := by
   show _ = _; rw [ybh, HJE.o, HF.o]
  generalize bitN bs (k * (n + 1) + j) = x at *;have d2 := HO5.o.mid HTL.o (HNL.o _) zax 2 (by omega);simp only [prc, List.getElem?_cons_zero, List.getElem?_cons_succ] at d2;have f2 := HO5.o.fr (HNL.o _) (k * 3 + 2);have dl := HO5.o.lt.1;have HPU := lh (ybi HO5.o HTL.o (HNL.o _) x);have HKQ : Hid (Kp (fun y => y = w.heap.size + 1 + 1) w5 (w5.setCell ⟨w.heap.size + 1 + 1, k * 3 + 2, none⟩ (.bool x))) := Kp.setCell _ _ _ rfl;clear hA5 hk5 hzi;go_wp2;go_roundw
  case rel =>
   refine ⟨k + 1, by omega, by go_num, ?_, HA5.o.kept HKQ.o (by omega), HS5.o.kept HKQ.o (by omega), HB5.o.trans (HKQ.o.toBelow HB5.o.size (fun y hy e => by omega))⟩;rw [zs0 bs n m k hlt, List.append_assoc, HP5.o, <- HZ.o]; exact HPU.o
  case measure => simp [intOf]; omega
 have hke : k = m := by omega
 subst hke;rw [List.take_of_length_le (by rw [zb8]; exact Nat.le_refl _), Nat.sub_self, List.replicate_zero, List.append_nil] at hown;have HO := lh hown;have HB := lh hb;clear hown hA hS hb;go_wp2;go_ret2;exact ⟨_, rfl, HO.o, HB.o⟩
theorem zyd (bs : List Nat) (n m : Nat) : ∀ p ∈ zbr bs n m, p.ok := by
 intro p hp;obtain ⟨i, _, rfl⟩ := List.mem_map.1 hp;exact zfw _ _
theorem zuf (n : Nat) (ta : Option Addr) (tc : Nat) (t : List Cl) (sa : Option Addr) (sc : Nat) (bs : List Nat) (m q : Nat) (w : World) (hg : Gdt n t []) (hx : LsCells w ta t) (hs : U8Cells w sa bs) (hbl : bs.length <= 1073741824) (hm8 : m <= 8) (h8 : m * (n + 1) <= 8 * bs.length)
 (hin : (zbr bs n m).any (outP n) = false) (hcell : zfl n (nds (zad (chF [] false n) false n t)) (zbr bs n m) = some q) (hq : q <= 255) (htab : Tab w) (hdt : Dtab w) :
 Calls Tryz.prog 23 #[.agg #[.int .i64 (n : Int), .slice ta t.length tc], .slice sa bs.length sc, .int .i64 (m : Int)] w (zls (q * 2 ^ m) 0 w) := by
 obtain ⟨w0, hw0⟩ := nm ((w.alloc (.cells #[.int .i64 (n : Int), .slice ta t.length tc] 24)).alloc (.cells #[.string ⟨#[]⟩] 44))
 have hb0 : Below w.heap.size w w0 := by rw [hw0]; exact (ba _ _).alloc (by simp) _
 have q0 : Blk w0 w.heap.size #[.int .i64 (n : Int), .slice ta t.length tc] 24 := by rw [hw0]; exact (Blk.new _ _ _).alloc _
 have q1 : Blk w0 (w.heap.size + 1) #[.string ⟨#[]⟩] 44 := by rw [hw0]; exact Blk.new' _ (by simp) _ _
 have h40 : t.length <= 1073741824 := by have := hg.tl; omega
 have hn128 : n <= 128 := by have := hg.n9; omega
 have HCK := lh (fun V (hV : Below w.heap.size w V) => zbj (n : Int) ta tc t V h40 (fun c hc => by have := hg.cl c hc; omega) (hx.keep hV));rw [hg.ct] at HCK;have HPA := lh (fun V (hV : Below w.heap.size w V) => zrm sa sc bs n m V hbl (hs.keep hV) hn128 (by omega) h8);have HCE := lh (fun V (hV : Below w.heap.size w V) a c (hp : PrCells V a (zbr bs n m)) => zqs n ta tc t a c (zbr bs n m) q V hg (hx.keep hV) (by rw [zb8]; omega) hp (zyd bs n m) hin hcell (htab.keep hV) (hdt.keep hV));rw [zb8] at HCE;have h2m : 2 ^ m <= 256 := Nat.le_trans (Nat.pow_le_pow_right (by omega) hm8) (by decide : 2 ^ 8 <= 256)
 have HPW := lh (fun V => zif m hm8 V);have HML := lh (fun V => zjm q (2 ^ m) (by omega) (by omega) (Nat.lt_of_le_of_lt (Nat.mul_le_mul hq h2m) (by omega)) V);generalize q * 2 ^ m = z at *;generalize 2 ^ m = P at *;unfold natv at HPW HML;have HPL := lh (zb8 bs n m);have HB0 := lh hb0;have HQ0 := lh q0;have HQ1 := lh q1;have k0 := q0.cell 0;have k1 := q0.cell 1;have kz := q0.lt;clear hb0 q0 q1 hx hin hcell htab hdt hg h40 hn128 hs hbl h8 h2m hq hm8;go_enter Tryz.func23, Tryz.ntmps23;go_wp2_with fail;rw [<- hw0];clear hw0;refine (HCK.o _ HB0.o).mono ?_;rintro e w1 ⟨rfl, hb1⟩;have HB1 := bt HB0 hb1
 have HT1 := lh (HQ0.o.later hb1);have HA1 := lh (HQ1.o.later hb1);clear hb1 k0 k1 kz HCK;have k0 := HT1.o.cell 0;have k1 := HT1.o.cell 1;have kz := HT1.o.lt;go_wp2_with fail;refine (HPA.o _ HB1.o).mono ?_;rintro e w2 ⟨g, rfl, hown, hb2⟩;obtain ⟨a2, c2, hv2, hpc⟩ := OwnP.pc hown;rw [HPL.o] at hv2;simp only [Value.slice.injEq, true_and] at hv2;obtain ⟨rfl, rfl⟩ := hv2;have HPC := lh hpc;have HB2 := bt HB1 hb2;have HT2 := lh (HT1.o.later hb2);have HA2 := lh (HA1.o.later hb2);clear hb2 k0 k1 kz HPA hown hpc;have k0 := HT2.o.cell 0;have k1 := HT2.o.cell 1;have kz := HT2.o.lt;go_wp2_with fail;refine (HCE.o _ HB2.o _ _ HPC.o).mono ?_
 rintro e w3 ⟨rfl, hb3⟩;have HB3 := bt HB2 hb3;have HA3 := lh (HA2.o.later hb3);clear hb3 k0 k1 kz HCE;obtain ⟨B, hB⟩ := nm w3.heap.size;obtain ⟨w4, hw4⟩ := nm (w3.alloc (.cells #[.string (natB q)] 44))
 have hb4 : Below w3.heap.size w3 w4 := by rw [hw4]; exact ba _ _
 have q4 : Blk w4 B #[.string (natB q)] 44 := by rw [hw4, hB]; exact Blk.new _ _ _
 have HB4 := bt HB3 hb4;have HA4 := lh (HA3.o.later hb4);have HQ4 := lh q4
 have hBA : w.heap.size + 1 < B := by rw [hB]; exact HA3.o.lt
 have hqc := q4.cell 0;have hqz := q4.lt;clear hb4 q4
 go_upto_region 8 with fail
 rw [<- hw4, <- hB];clear hw4 hB
 have HKS : Hid (∀ w' : World, Kp (fun y => y = w.heap.size + 1) w4 w' -> w'.cell? ⟨B, 0, none⟩ = some (.string (natB q))) := fun w' hb => hb.cell hqc (by dsimp only; omega)
 refine wp_region_held_drew (S := (fun w' => w'.cell? ⟨B, 0, none⟩ = some (.string (natB q)))) (by kernel_rfl) (by exact HKS.o _ (Kp.below (Below.refl w4.heap.size w4).drew)) fun hH => ?_
 refine tkV 0 36 rfl rfl ?_; try simp only [tkS]
 refine tkV 1 37 rfl rfl ?_; try simp only [tkS]
 refine tkV 4 40 rfl rfl ?_; try simp only [tkS]
 refine tkR 2 (.cons rfl (fun K hK => ?_) .nil);go_simp;go_at_call 16;refine Calls.mono (HPW.o _) ?_;rintro e V5 ⟨rfl, hb5⟩;have hv5 : Below w4.heap.size w4 V5 := Below.trans (Below.refl w4.heap.size w4).drew (Below.mono hb5 (Below.size (Below.refl w4.heap.size w4).drew));clear hb5;go_wp2_with fail
 refine hK.out _ _ (by exact HKS.o _ (Kp.below hv5)) fun hH => ?_
 clear hK K
 try simp only [tkS]
 refine tkR 3 (.cons rfl (fun K hK => ?_) .nil);go_simp;go_at_call 54;refine Calls.mono (HML.o _) ?_;rintro e V6 ⟨rfl, hb6⟩;have hv6 : Below w4.heap.size w4 V6 := Below.trans hv5 (Below.mono hb6 (Below.size hv5));clear hb6;go_wp2_with fail
 refine hK.out _ _ (by exact HKS.o _ (Kp.below hv6)) fun hH => ?_
 clear hK K
 try simp only [tkS]
 have q6 := HA4.o.later hv6;have e0 := q6.cell 0;have ef := q6.fr 0;have ez := q6.lt;refine tkR 5 (.cons rfl (fun K hK => ?_) .nil);go_simp
 refine hK.out _ _ (by exact HKS.o _ ((Kp.below hv6).trans (Kp.setCell _ _ _ rfl))) fun hH => ?_
 clear hK K
 try simp only [tkS]
 refine tkV 6 7 rfl rfl ?_; try simp only [tkS]
 refine wpAnyH_done (by kernel_rfl) ?_ _;go_wp2_with fail;have g0 := (q6.set 0 (.string (natB z))).cell 0;exact bodyPost_ret (v := .tuple #[.agg #[.string (natB z)], .int .i64 0]) (by simp [results, Tryz.results23, go_sem, g0]) rfl ⟨rfl, (HB4.o.trans (hv6.mono HB4.o.size)).setCell (show w.heap.size <= w.heap.size + 1 by omega) _⟩
def natc (x : Nat) : List Value := [.string (natB x)]
theorem zmo (x : Nat) : (natc x).length = 1 := rfl
theorem yau : Elem 123 44 1 16 (natv 0) := .mk Tryz.underlying123 (by kernel_rfl) rfl (by decide)
abbrev zby (w : World) (base : Nat) (v : Value) (l : List Nat) : Prop := OwnL natc 44 1 w base v l
def cmp3 (x y : Nat) : Int := if x = y then 0 else if x < y then -1 else 1
theorem zt4 {x y : Nat} : cmp3 x y < 0 ↔ x < y := by unfold cmp3; (repeat' split) <;> omega
def leN (x y : Nat) : Prop := x <= y
theorem zya : Ord leN := ⟨fun x y => by unfold leN; omega, fun x y z h1 h2 => by unfold leN at *; omega⟩
theorem OwnN.c0 {w : World} {base g cap n : Nat} {l : List Nat} (h : zby w base (.slice (some ⟨g, 0, none⟩) n cap) l) (hn : n = l.length) {i : Nat} (hi : i < l.length) : w.cell? ⟨g, i, none⟩ = some (.string (natB (gd l i))) := by
 have := h.cell hn zmo i 0 hi (by omega);rw [zar hi]; simpa [natc] using this
theorem OwnN.swp {w : World} {base g cap n : Nat} {l : List Nat} (h : zby w base (.slice (some ⟨g, 0, none⟩) n cap) l) (hn : n = l.length) {i j : Nat} (hi : i < l.length) (hj : j < l.length) :
 zby ((w.setCell ⟨g, i, none⟩ (.string (natB (gd l j)))).setCell ⟨g, j, none⟩ (.string (natB (gd l i)))) base (.slice (some ⟨g, 0, none⟩) n cap) (swp l i j) := by
 have h1 := h.put1 hn zmo i hi (gd l j) _ rfl;exact h1.put1 (by simpa using hn) zmo j (by simpa using hj) (gd l i) _ rfl
theorem zl3 : ∀ (args : Array Value) (w : World), (callFunc 59 args).run Tryz.prog w = .ok (.enter 59 args) w := fun _ _ => by kernel_rfl
abbrev FNN : Value := .func (.func 59) #[] #[]
def bN (l : List Nat) : Prop := ∀ x ∈ l, x <= 256
theorem bN.gd {l : List Nat} (h : bN l) {i : Nat} (hi : i < l.length) : gd l i <= 256 := by rw [zar hi]; exact h _ (List.getElem_mem hi)
theorem zx0 (x y : Nat) (hx : x <= 256) (hy : y <= 256) (w : World) : Calls Tryz.prog 59 #[.agg #[.string (natB x)], .agg #[.string (natB y)]] w fun e w' => e = .returned (.int .i64 (cmp3 x y)) /\ Below w.heap.size w w' := zt6 x y hx hy w
def zh6 (g cap base : Nat) (l : List Nat) (w : World) (e : Ending) (w' : World) : Prop :=
 ∃ l' : List Nat, l'.Perm l /\ Sd leN l' 0 l.length /\ e = .returned (.tuple #[]) /\ zby w' base (.slice (some ⟨g, 0, none⟩) l.length cap) l' /\ Kp (fun y => y = g) w w'
theorem zxm (g cap base : Nat) (l : List Nat) (w : World) (ho : zby w base (.slice (some ⟨g, 0, none⟩) l.length cap) l) (hc : bN l) (hm : l.length <= 1073741824) :
 Calls Tryz.prog 123 #[.slice (some ⟨g, 0, none⟩) l.length cap, .int .i64 0, .int .i64 (l.length : Int), FNN] w (zh6 g cap base l w) := by
 have HO := lh ho;have HC := lh hc;have hcf := zl3;clear ho hc;go_enter Tryz.func123, Tryz.ntmps123;go_wp2
 go_loopw [8] (fun i wr => ∃ k : Nat, 1 <= k /\ (k <= l.length \/ k = 1) /\ i = .int .i64 k /\ ∃ cur, zby wr base (.slice (some ⟨g, 0, none⟩) l.length cap) cur /\ cur.Perm l /\ Sd leN cur 0 k /\ Kp (fun y => y = g) w wr) (fun i _ => l.length - (intOf i).toNat)
 case atStart => exact ⟨1, Nat.le_refl _, .inr rfl, rfl, l, HO.o, List.Perm.refl _, fun i j h1 h2 h3 => by omega, Kp.refl _ _⟩
 obtain ⟨wo, rfl⟩ : ∃ wo : World, wo = wr := ⟨_, rfl⟩
 obtain ⟨k, hk1, hk2, rfl, cur, hown, hperm, hsd, hkp⟩ := hrel;have hlen : cur.length = l.length := hperm.length_eq;have HOW := lh hown;have HPR := lh hperm;have HSD := lh hsd;have HKO := lh hkp
 have HLB : Hid (bN cur) := fun x hx => HC.o x (hperm.mem_iff.1 hx)
 clear hown hperm hsd hkp
 by_cases hlt : k < l.length
 ·go_wp2_with fail
  go_loopw [9] (fun j wr => ∃ p : Nat, p <= k /\ j = .int .i64 p /\ (∀ t, p <= t -> t < k -> leN (gd cur k) (gd cur t)) /\ ∃ m, zby wr base (.slice (some ⟨g, 0, none⟩) l.length cap) m /\ m.Perm cur /\ Ins cur m k p /\ Kp (fun y => y = g) wo wr) (fun j _ => (intOf j).toNat)
  case atStart => exact ⟨k, Nat.le_refl _, rfl, fun t h1 h2 => by omega, cur, HOW.o, List.Perm.refl _, Ins.start _ _, Kp.refl _ _⟩
  obtain ⟨wi, rfl⟩ : ∃ wi : World, wi = wr := ⟨_, rfl⟩
  obtain ⟨p, hp2, rfl, hle, m, hown, hperm, hins, hkp⟩ := hrel;have HLE := lh hle;have HOI := lh hown;have HPE := lh hperm;have HIN := lh hins;have HKP := lh hkp;have hml : m.length = l.length := hperm.length_eq.trans hlen;have HML : Hid (l.length = m.length) := hml.symm;clear hle hperm hins hkp
  have HEND : Hid (p = 0 \/ leN (gd cur (p - 1)) (gd cur k) -> ∀ V : World, zby V base (.slice (some ⟨g, 0, none⟩) l.length cap) m -> Kp (fun y => y = g) wi V -> (zby V base (.slice (some ⟨g, 0, none⟩) l.length cap) m /\ m.Perm l /\ Sd leN m 0 (k + 1) /\ Kp (fun y => y = g) w V)) := fun h V hV hkV =>
   ⟨hV, HPE.o.trans HPR.o, HIN.o.sorted zya HSD.o (Nat.zero_le _) hp2 h HLE.o, Kp.trans (M := fun y => y = g) HKO.o (Kp.trans (M := fun y => y = g) HKP.o hkV)⟩
  by_cases hpa : 0 < p
  ·have hpl : p < m.length := by omega
   have hpl2 : p - 1 < m.length := by omega
   have epk : gd m p = gd cur k := by rw [HIN.o.2 p]; congr 1; unfold insI; (repeat' split) <;> omega
   have epj : gd m (p - 1) = gd cur (p - 1) := by rw [HIN.o.2 (p - 1)]; congr 1; unfold insI; (repeat' split) <;> omega
   have a0 := OwnN.c0 hown HML.o hpl;have b0 := OwnN.c0 hown HML.o hpl2;have f1 := hown.fr HML.o p;have f2 := hown.fr HML.o (p - 1);have gl := hown.lt.1;have HOS := lh (fun (V : World) (h : zby V base (.slice (some ⟨g, 0, none⟩) l.length cap) m) => OwnN.swp h HML.o hpl hpl2);rw [epk, epj] at HOS;rw [epk] at a0;rw [epj] at b0
   have hlk : k < cur.length := by omega
   have hlp : p - 1 < cur.length := by omega
   have x1 := HLB.o.gd hlk;have y1 := HLB.o.gd hlp;have HCA := lh (fun V => zx0 (gd cur k) (gd cur (p - 1)) x1 y1 V)
   have e1 : IntKind.i64.wrap ((p : Int) - 1) = ((p - 1 : Nat) : Int) := by rw [IntWalk.i64_in _ (by omega)]; omega
   have E1 := lh e1
   have hpi : ((p - 1 : Nat) : Int) < (l.length : Int) := by omega
   have hpi2 : (p : Int) < (l.length : Int) := by omega
   have hpi3 : p - 1 < l.length := by omega
   have hpi4 : p < l.length := by omega
   have hgd : decide ((0 : Int) < (p : Int)) = true := by simp; omega
   have hgd2 : decide (0 < p) = true := by simp; omega
   have HST : Hid (cmp3 (gd cur k) (gd cur (p - 1)) < 0 -> ∀ t, p - 1 <= t -> t < k -> leN (gd cur k) (gd cur t)) := fun h t h1 h2 => by
    by_cases c : p <= t
    ·exact HLE.o t c h2
    rw [show t = p - 1 by omega]; rw [zt4] at h; exact Nat.le_of_lt h
   have HNO : Hid (¬ cmp3 (gd cur k) (gd cur (p - 1)) < 0 -> leN (gd cur (p - 1)) (gd cur k)) := fun h => by rw [zt4] at h; unfold leN; omega
   clear hown epk epj e1 x1 y1;generalize hcv : cmp3 (gd cur k) (gd cur (p - 1)) = cv at *;generalize hx : natB (gd cur k) = x at *;generalize hy : natB (gd cur (p - 1)) = y at *;clear hx hy hcv
   have HKS : Hid (∀ w' : World, Below wi.heap.size wi w' -> w'.cell? ⟨g, p, none⟩ = some (.string x) /\ w'.cell? ⟨g, p - 1, none⟩ = some (.string y)) := lh fun w' h => ⟨zab h a0, zab h b0⟩
   by_cases hneg : cv < 0
   ·have hd1 : decide (cv < 0) = true := by simpa using hneg
    have HS2 := lh (HST.o hneg);clear hneg;go_wp2_with fail;have e1 := E1.o
    go_region_held3 (fun w' => w'.cell? ⟨g, p, none⟩ = some (.string x) /\ w'.cell? ⟨g, p - 1, none⟩ = some (.string y))
     (first
       | exact HKS.o _ (Below.refl _ _).drew
       | exact HKS.o _ hv5)
     (first
       | (go_at_call 59
          refine Calls.mono (HCA.o _) ?_;rintro e v5 ⟨rfl, hw⟩;have hv5 : Below wi.heap.size wi v5 := (Below.refl wi.heap.size wi).drew.trans (Below.mono hw (Nat.le_refl _))
          clear hw))
    all_goals
     go_wp2_with fail;obtain ⟨z0, z1⟩ := HKS.o v5 hv5;have HO5 := lh (HOI.o.later hv5);have h1 := HO5.o.fr HML.o p;have h2 := HO5.o.fr HML.o (p - 1);have gl5 := HO5.o.lt.1
     have HKK : Hid (∀ c d, Kp (fun y => y = g) wo ((v5.setCell ⟨g, p, none⟩ c).setCell ⟨g, p - 1, none⟩ d)) := fun c d => by
      have M := Kp.setCell (M := fun y => y = g);exact Kp.trans (M := fun y => y = g) (Kp.trans (M := fun y => y = g) (Kp.trans (M := fun y => y = g) HKP.o (Kp.below hv5)) (M _ _ _ rfl)) (M _ _ _ rfl)
     have HOS2 := lh (HOS.o v5 HO5.o);clear a0 b0 f1 f2 hv5;go_region
     all_goals
      clear e1;go_wp2;go_roundw
      case rel => exact ⟨p - 1, by omega, ival (by omega), HS2.o, swp m p (p - 1), HOS2.o.later (Below.refl _ _).drew, (zgp hpl hpl2).trans HPE.o, HIN.o.step (by omega) hp2 (by omega), Kp.trans (M := fun y => y = g) (HKK.o _ _) (Kp.below (Below.refl _ _).drew)⟩
      case measure => simp [intOf]; omega
   have hd1 : decide (cv < 0) = false := by simpa using hneg
   have HS2 := lh (HNO.o hneg);clear hneg;go_wp2_with fail;have e1 := E1.o
   go_region_held3 (fun w' => w'.cell? ⟨g, p, none⟩ = some (.string x) /\ w'.cell? ⟨g, p - 1, none⟩ = some (.string y))
    (first
      | exact HKS.o _ (Below.refl _ _).drew
      | exact HKS.o _ hv5)
    (first
      | (go_at_call 59
         refine Calls.mono (HCA.o _) ?_;rintro e v5 ⟨rfl, hw⟩;have hv5 : Below wi.heap.size wi v5 := (Below.refl wi.heap.size wi).drew.trans (Below.mono hw (Nat.le_refl _))
         clear hw))
   all_goals
    have HE5 := lh (fun V h1 h2 => HEND.o (.inr HS2.o) V h1 h2);clear e1 a0 b0;go_wp2;go_roundw
    case rel => exact ⟨k + 1, by omega, .inl (by omega), ival (by omega), m, HE5.o _ (HOI.o.later hv5) (Kp.below hv5)⟩
    case measure => simp [intOf]; omega
  have hpe : p = 0 := by omega
  have hgd : decide ((0 : Int) < (p : Int)) = false := by simp; omega
  have hgd2 : decide (0 < p) = false := by simp; omega
  have HE5 := lh (fun V h1 h2 => HEND.o (.inl hpe) V h1 h2);clear hown hpe hpa;go_wp2_with fail
  go_quiet (fail)
  all_goals
   go_wp2;go_roundw
   case rel => exact ⟨k + 1, by omega, .inl (by omega), ival (by omega), m, HE5.o _ (HOI.o.later (zal _ _)) (Kp.below (zal _ _))⟩
   case measure => simp [intOf]; omega
 have HE : Hid (Sd leN cur 0 l.length) := fun i j h1 h2 h3 => HSD.o i j h1 h2 (by omega)
 go_wp2
 go_end0
 exact ⟨cur, HPR.o, HE.o, rfl, HOW.o, HKO.o⟩
theorem zyf (g cap base : Nat) (d : Int) (l : List Nat) (w : World) (ho : zby w base (.slice (some ⟨g, 0, none⟩) l.length cap) l) (hc : bN l) (hm : l.length <= 12) :
 Calls Tryz.prog 97 #[.slice (some ⟨g, 0, none⟩) l.length cap, .int .i64 0, .int .i64 (l.length : Int), .int .i64 d, FNN] w (zh6 g cap base l w) := by
 have HS := lh (zxm g cap base l w ho hc (by omega));clear ho hc
 have hd : decide ((l.length : Int) <= 12) = true := by simp; omega
 have hd2 : decide (l.length <= 12) = true := by simp; omega
 go_enter Tryz.func97, Tryz.ntmps97;go_wp2;refine wp_loop_rounds 1 ?_;rw [rounds_succ];go_wp2_with fail;refine HS.o.mono ?_;rintro e w1 ⟨l', h1, h2, rfl, h3, h4⟩;have H := lh (And.intro h1 (And.intro h2 (And.intro h3 h4)));clear h1 h2 h3 h4;go_wp2;exact bodyPost_ret (v := .tuple #[]) (by simp [results, Tryz.results97, go_sem]) rfl ⟨l', H.o.1, H.o.2.1, rfl, H.o.2.2.1, H.o.2.2.2⟩
theorem zm1 (g cap base : Nat) (l : List Nat) (w : World) (ho : zby w base (.slice (some ⟨g, 0, none⟩) l.length cap) l) (hc : bN l) (hm : l.length <= 12) :
 Calls Tryz.prog 58 #[.slice (some ⟨g, 0, none⟩) l.length cap, FNN] w (zh6 g cap base l w) := by
 have HS := lh (fun d => zyf g cap base d l w ho hc hm);clear ho hc;go_enter Tryz.func58, Tryz.ntmps58;go_wp2_with fail;refine (Tryz.bits_Len l.length w (by omega) (by omega)).mono ?_;rintro e w1 ⟨rfl, rfl⟩;go_wp2_with fail;refine (HS.o _).mono ?_;rintro e w1 ⟨l', h1, h2, rfl, h3, h4⟩;have H := lh (And.intro h1 (And.intro h2 (And.intro h3 h4)));clear h1 h2 h3 h4;go_wp2
 go_end0
 exact ⟨l', H.o.1, H.o.2.1, rfl, H.o.2.2.1, H.o.2.2.2⟩
def SdCells (w : World) (a : Option Addr) (S : List (List Nat)) : Prop := ∀ i, i < S.length -> ∃ b off sa sc, a = some ⟨b, off, none⟩ /\ w.cell? ⟨b, off + i, none⟩ = some (.slice sa (S.getD i []).length sc) /\ U8Cells w sa (S.getD i [])
theorem SdCells.keep {w w' : World} {a : Option Addr} {S : List (List Nat)} (h : SdCells w a S) (hb : Below w.heap.size w w') : SdCells w' a S := fun i hi =>
 let ⟨b, off, sa, sc, e, h0, h1⟩ := h i hi; ⟨b, off, sa, sc, e, zab hb h0, h1.keep hb⟩
structure EstOk (n : Nat) (t : List Cl) (m : Nat) (bs : List Nat) (q : Nat) : Prop where
 bl : bs.length <= 1073741824
 h8 : m * (n + 1) <= 8 * bs.length
 inn : (zbr bs n m).any (outP n) = false
 cl : zfl n (nds (zad (chF [] false n) false n t)) (zbr bs n m) = some q
 q8 : q * 2 ^ m <= 255
def zy6 (l : List Nat) (w : World) (e : Ending) (w' : World) : Prop := ∃ l' : List Nat, l'.Perm l /\ Sd leN l' 0 l.length /\ e = .returned (.tuple #[.agg #[.string (natB (gd l' ((l.length - 1) / 2)))], .int .i64 0]) /\ Below w.heap.size w w'
theorem zsq (n : Nat) (ta : Option Addr) (tc : Nat) (t : List Cl) (sa : Option Addr) (sc : Nat) (S : List (List Nat)) (m : Nat) (qs : List Nat) (w : World) (hg : Gdt n t []) (hx : LsCells w ta t) (hs : SdCells w sa S) (hm8 : m <= 8)
 (h0 : 1 <= S.length) (h12 : S.length <= 12) (hq : qs.length = S.length) (hes : ∀ i, i < S.length -> EstOk n t m (S.getD i []) (qs.getD i 0)) (htab : Tab w) (hdt : Dtab w) :
 Calls Tryz.prog 25 #[.agg #[.int .i64 (n : Int), .slice ta t.length tc], .slice sa S.length sc, .int .i64 (m : Int)] w (zy6 (qs.map fun q => q * 2 ^ m) w) := by
 obtain ⟨w0, hw0⟩ := nm ((w.alloc (.cells #[.int .i64 (n : Int), .slice ta t.length tc] 24)).alloc (.cells #[.string ⟨#[]⟩] 44))
 have hb0 : Below w.heap.size w w0 := by rw [hw0]; exact (ba _ _).alloc (by simp) _
 have q0 : Blk w0 w.heap.size #[.int .i64 (n : Int), .slice ta t.length tc] 24 := by rw [hw0]; exact (Blk.new _ _ _).alloc _
 have q1 : Blk w0 (w.heap.size + 1) #[.string ⟨#[]⟩] 44 := by rw [hw0]; exact Blk.new' _ (by simp) _ _
 have h40 : t.length <= 1073741824 := by have := hg.tl; omega
 have HCK := lh (fun V (hV : Below w.heap.size w V) => zbj (n : Int) ta tc t V h40 (fun c hc => by have := hg.cl c hc; omega) (hx.keep hV));rw [hg.ct] at HCK;have h2m : 1 <= 2 ^ m := Nat.one_le_two_pow
 have HES := lh (fun V (hV : Below w.heap.size w V) (k : Nat) (hk : k < S.length) (ka : Option Addr) (kc : Nat) (hc : U8Cells V ka (S.getD k [])) =>
  have h := hes k hk
  zuf n ta tc t ka kc (S.getD k []) m (qs.getD k 0) V hg (hx.keep hV) hc h.bl hm8 h.h8 h.inn h.cl (Nat.le_trans (Nat.le_mul_of_pos_right _ h2m) h.q8) (htab.keep hV) (hdt.keep hV))
 have HSD := lh (fun V (hV : Below w.heap.size w V) => hs.keep hV)
 obtain ⟨xs, hxs⟩ : ∃ xs : List Nat, xs = qs.map fun q => q * 2 ^ m := ⟨_, rfl⟩
 have hxl : xs.length = S.length := by rw [hxs, List.length_map, hq]
 have hxg : ∀ k, k < S.length -> qs.getD k 0 * 2 ^ m = gd xs k /\ gd xs k <= 255 := fun k hk => by
  have e : qs.getD k 0 * 2 ^ m = gd xs k := by
   rw [zar (by omega : k < xs.length)]
   simp [hxs, List.getD_eq_getElem?_getD, List.getElem?_eq_getElem (show k < qs.length by omega)]
  exact ⟨e, by rw [<- e]; exact (hes k hk).q8⟩
 have HXG := lh hxg;have HXL := lh hxl
 have hbn : bN xs := by
  intro x hx;obtain ⟨i, hi, rfl⟩ := List.getElem_of_mem hx;have := (hxg i (by omega)).2;rw [zar hi] at this; omega
 have HBN := lh hbn;rw [<- hxs];obtain ⟨N, hN⟩ := nm S.length;rw [<- hN] at h0 h12 HXG HXL HES ⊢;have HNL := lh hN
 have hS1 : ¬ ((N : Int) = 0) := by omega
 have HB0 := lh hb0;have HQ0 := lh q0;have HQ1 := lh q1;have k0 := q0.cell 0;have k1 := q0.cell 1;have kz := q0.lt;clear hb0 q0 q1 hx htab hdt hg h40 hs h2m hm8 hes hq hxs hxl hxg hbn hN;go_enter Tryz.func25, Tryz.ntmps25;go_wp2_with fail;rw [<- hw0];clear hw0;refine (HCK.o _ HB0.o).mono ?_;rintro e w1 ⟨rfl, hb1⟩;have HB1 := bt HB0 hb1;have HT1 := lh (HQ0.o.later hb1);have HA1 := lh (HQ1.o.later hb1);clear hb1 k0 k1 kz HCK;go_wp2_with fail;rw [show ((N : Int) == 0) = false by simpa using hS1]
 go_loopw [9, 26] (fun v i wr => ∃ (k : Nat) (oa : Option Addr) (oc : Nat), k <= N /\ i = .int .i64 k /\ v = .slice oa k oc /\ zby wr (w.heap.size + 1 + 1) (.slice oa k oc) (xs.take k) /\ Blk wr w.heap.size #[.int .i64 (n : Int), .slice ta t.length tc] 24 /\ Blk wr (w.heap.size + 1) #[.string ⟨#[]⟩] 44 /\ Below w.heap.size w wr) (fun _ i _ => N - (intOf i).toNat)
 case atStart => exact ⟨0, none, 0, Nat.zero_le _, rfl, rfl, OwnL.nil _ _, HT1.o, HA1.o, HB1.o⟩
 obtain ⟨k, oa, oc, hk, rfl, rfl, ho, ht, ha, hb⟩ := hrel;have HO := lh ho;have HT := lh ht;have HA := lh ha;have HB := lh hb;have k0 := ht.cell 0;have k1 := ht.cell 1;have kz := ht.lt;clear ho ht ha hb
 by_cases hlt : k < N
 ·have hki : (k : Int) < (N : Int) := by omega
  obtain ⟨b, off, ka, kc, rfl, c0, hu⟩ := HSD.o _ HB.o k (by have := HNL.o; omega);have cz := zai c0;have HEK := lh (fun V (hV : Below wr.heap.size wr V) => HES.o V (HB.o.trans (hV.mono HB.o.size)) k hlt ka kc (hu.keep hV));obtain ⟨hxg, hx255⟩ := HXG.o k hlt;rw [hxg] at HEK
  have hkx : k < xs.length := by rw [HXL.o]; exact hlt
  have HTK : Hid (xs.take (k + 1) = xs.take k ++ [gd xs k]) := by show _ = _; rw [zar hkx]; exact List.take_succ_eq_append_getElem hkx
  have HLN : Hid ((xs.take k).length = k) := by show _ = _; rw [List.length_take]; omega
  have HKM : Hid (k <= 1073741824) := by show k <= _; omega
  generalize gd xs k = x at *;generalize (S.getD k []).length = sl at *;clear hu hxg hx255 hkx hk hlt;go_wp2_with fail;refine (HEK.o _ (Below.refl _ _)).mono ?_;rintro e w2 ⟨rfl, hb2⟩;obtain ⟨B, hB⟩ := nm w2.heap.size;obtain ⟨w3, hw3⟩ := nm (w2.alloc (.cells #[.string (natB x)] 44))
  have hb3 : Below w2.heap.size w2 w3 := by rw [hw3]; exact ba _ _
  have q3 : Blk w3 B #[.string (natB x)] 44 := by rw [hw3, hB]; exact Blk.new _ _ _
  have hb23 := hb2.trans (hb3.mono hb2.size);have HO3 := lh (HO.o.later hb23);have HT3 := lh (HT.o.later hb23);have HA3 := lh (HA.o.later hb23);have HB3 := bt HB hb23;have x0 := q3.cell 0;have xz := q3.lt;clear hb2 q3 hb23 hb3 HO HT HA HB k0 k1 kz c0 cz HEK
  go_upto_region 13 with fail
  rw [<- hw3, <- hB];clear hw3 hB
  have hwz : w.heap.size + 1 + 1 <= w3.heap.size := by have := HA3.o.lt; omega
  have HO4 : Hid (zby w3 (w.heap.size + 1 + 1) (.slice oa (xs.take k).length oc) (xs.take k)) := by show zby _ _ _ _; rw [HLN.o]; exact HO3.o
  have HLN3 : Hid ((xs.take k).length <= 1073741824) := by show _ <= _; rw [HLN.o]; exact HKM.o
  obtain ⟨l0, hl0⟩ := nm (xs.take k);rw [<- hl0] at HO3 HO4 HLN HLN3 HTK;clear hl0;go_wp2_with (at_builtin; go_loud (refine zlx (C := #[.string (natB x)]) yau rfl _ _ rfl (w.heap.size + 1 + 1) (.slice oa k oc) l0 x rfl HO3.o rfl rfl rfl (by intro u hu; simp [natc] at hu; subst hu; rfl) HLN3.o (by decide) hwz ?_));intro g5 cap5 w5 ho5 hg5 hgn5
  have hkp : Kp (fun y => (Value.slice oa k oc).ownBlock = some y) w3 w5 := Kp.grown hg5 fun k h => h
  have hge : ∀ y, (Value.slice oa k oc).ownBlock = some y -> w.heap.size + 1 + 1 <= y := fun y hy => (World.ownsRow.lt HO3.o y hy).1
  have HT5 := lh (HT3.o.kept hkp fun h => by have := hge _ h; omega);have HA5 := lh (HA3.o.kept hkp fun h => by have := hge _ h; omega);have HB5 : Hid (Below w.heap.size w w5) := HB3.o.grown hg5 (by omega) (fun q hq => by have := hge q hq; omega);rw [HLN.o] at ho5 ⊢;rw [<- HTK.o] at ho5;have HO5 := lh ho5;clear ho5 hg5 hgn5 hkp hge HO3 HO4 HT3 HA3 HB3 x0 xz hwz;go_wp2;go_roundw
  case rel => exact ⟨k + 1, _, _, by omega, by go_num, rfl, HO5.o, HT5.o, HA5.o, HB5.o⟩
  case measure => simp [intOf]; omega
 obtain rfl : k = N := by omega
 have hkk : ¬ ((k : Int) < (k : Int)) := by omega
 have hxt : xs.take k = xs := by rw [<- HXL.o]; exact List.take_length
 have hoo := HO.o;rw [hxt] at hoo
 obtain ⟨g, gc, hsh⟩ : ∃ g gc, (Value.slice oa xs.length oc) = .slice (some ⟨g, 0, none⟩) xs.length gc := by
  have ho2 : zby wr (w.heap.size + 1 + 1) (.slice oa xs.length oc) xs := by rw [HXL.o]; exact hoo
  rcases ho2.shape with ⟨_, h2⟩ | ⟨g, gc, h1, _⟩
  ·have := HXL.o; rw [h2] at this; simp at this; omega
  exact ⟨g, gc, h1⟩
 simp only [Value.slice.injEq, true_and] at hsh;obtain ⟨rfl, rfl⟩ := hsh;have hso : Calls Tryz.prog 58 #[.slice (some ⟨g, 0, none⟩) xs.length oc, FNN] wr (zh6 g oc (w.heap.size + 1 + 1) xs wr) := zm1 g oc (w.heap.size + 1 + 1) xs wr (by rw [HXL.o]; exact hoo) HBN.o (by rw [HXL.o]; exact h12);rw [HXL.o] at hso;have HSO := lh hso
 have HGZ : Hid (w.heap.size + 1 + 1 <= g) := by show _ <= g; have := hoo.lt; omega
 clear hxt hoo hso HO hk hlt;go_wp2_with fail;refine HSO.o.mono ?_;rintro e w2 ⟨l', hpm, hsd, rfl, ho2, hkp⟩;have HPM := lh hpm;have HSD2 := lh hsd
 have hll : l'.length = k := by rw [hpm.length_eq, HXL.o]
 have hMl : (k - 1) / 2 < l'.length := by omega
 have hgz := HGZ.o;have c0 := OwnN.c0 ho2 (by rw [HXL.o, hll]) hMl;have gl := ho2.lt.1;have HA2 := lh (HA.o.kept hkp (by omega));have HB2 : Hid (Below w.heap.size w w2) := HB.o.trans (hkp.toBelow HB.o.size (by intro y hy e; omega));have a0 := HA2.o.cell 0;have af := HA2.o.fr 0;have al := HA2.o.lt;have HLL := lh hll;clear hpm hsd ho2 hkp k0 k1 kz HA HT HSO hll hMl hgz;go_wp2_with fail;have g0 := (HA2.o.set 0 (.string (natB (gd l' ((k - 1) / 2))))).cell 0;exact bodyPost_ret (v := .tuple #[.agg #[.string (natB (gd l' ((k - 1) / 2)))], .int .i64 0]) (by simp [results, Tryz.results25, go_sem, g0]) rfl ⟨l', HPM.o, by rw [HXL.o]; rw [HXL.o] at HSD2; exact HSD2.o, by rw [HXL.o], HB2.o.setCell (show w.heap.size <= w.heap.size + 1 by omega) _⟩
def yb8 (w : World) (e : Ending) (w' : World) : Prop := ∃ a cap, e = .returned (.agg #[.int .i64 3, .slice a 2 cap]) /\ LsCells w' a samT /\ Below w.heap.size w w'
theorem zs3 (w : World) : Calls Tryz.prog 28 #[] w (yb8 w) := by
 obtain ⟨W, hW⟩ : ∃ W, W = (((w.alloc (.cells #[.int .i64 3, .slice (some ⟨w.heap.size + 1 + 1 + 1, 0, none⟩) 2 2] 24)).alloc (.cells #[.int .i64 1, .int .i64 2] 3)).alloc (.cells #[.int .i64 (-1), .int .i64 3] 3)).alloc
  (.cells #[.slice (some ⟨w.heap.size + 1, 0, none⟩) 2 2, .slice (some ⟨w.heap.size + 1 + 1, 0, none⟩) 2 2] 67) := ⟨_, rfl⟩
 have b0 : Blk W w.heap.size #[.int .i64 3, .slice (some ⟨w.heap.size + 1 + 1 + 1, 0, none⟩) 2 2] 24 := by rw [hW]; exact (((Blk.new w _ _).alloc _).alloc _).alloc _
 have b1 : Blk W (w.heap.size + 1) #[.int .i64 1, .int .i64 2] 3 := by rw [hW]; exact ((Blk.new' _ (by simp) _ _).alloc _).alloc _
 have b2 : Blk W (w.heap.size + 1 + 1) #[.int .i64 (-1), .int .i64 3] 3 := by rw [hW]; exact (Blk.new' _ (by simp) _ _).alloc _
 have b3 : Blk W (w.heap.size + 1 + 1 + 1) #[.slice (some ⟨w.heap.size + 1, 0, none⟩) 2 2, .slice (some ⟨w.heap.size + 1 + 1, 0, none⟩) 2 2] 67 := by rw [hW]; exact Blk.new' _ (by simp) _ _
 have hb : Below w.heap.size w W := by rw [hW]; exact (((ba _ _).alloc (by simp) _).alloc (by simp; omega) _).alloc (by simp; omega) _
 have hl : LsCells W (some ⟨w.heap.size + 1 + 1 + 1, 0, none⟩) samT := by
  intro i hi
  have : i = 0 \/ i = 1 := by simp [samT] at hi; omega
  rcases this with rfl | rfl
  ·refine ⟨_, _, _, _, rfl, b3.cell 0, fun j hj => ?_⟩
   have : j = 0 \/ j = 1 := by simp [samT] at hj; omega
   rcases this with rfl | rfl
   ·exact ⟨_, _, rfl, b1.cell 0⟩
   exact ⟨_, _, rfl, b1.cell 1⟩
  refine ⟨_, _, _, _, rfl, b3.cell 1, fun j hj => ?_⟩
  have : j = 0 \/ j = 1 := by simp [samT] at hj; omega
  rcases this with rfl | rfl
  ·exact ⟨_, _, rfl, b2.cell 0⟩
  exact ⟨_, _, rfl, b2.cell 1⟩
 have c0 := b0.cell 0;have c1 := b0.cell 1;go_enter Tryz.func28, Tryz.ntmps28;go_wp2;rw [<- hW];exact bodyPost_ret (v := .agg #[.int .i64 3, .slice (some ⟨w.heap.size + 1 + 1 + 1, 0, none⟩) 2 2]) (by simp [results, Tryz.results28, go_sem, c0, c1]) rfl ⟨_, _, rfl, hl, hb⟩
end Go.Proofs.YtlleofjjdhfgcaaGreatDoor
