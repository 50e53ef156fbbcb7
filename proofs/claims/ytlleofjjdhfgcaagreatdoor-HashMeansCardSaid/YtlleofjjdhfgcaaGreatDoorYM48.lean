/- Part of the proofs that laws return true for every input, where the tables that the rows list are laid. Texts: Je. -/
import Derived.Test.YtlleofjjdhfgcaaGreatDoorYM47
set_option maxHeartbeats 8000000
set_option maxRecDepth 100000
set_option linter.unusedSimpArgs false
set_option linter.unusedVariables false
namespace Go.Proofs.YtlleofjjdhfgcaaGreatDoor
open Go.RowKit Cen
theorem zxx {k c m : Nat} (hk : k <= 256) (hc : c <= 256) (hm : m <= 4) : IntKind.u64.wrap ((k : Int) * (c : Int)) = ((k * c : Nat) : Int) /\
 IntKind.u64.wrap ((k : Int) * IntKind.u64.wrap (IntKind.u64.wrap ((c : Int) * (c : Int)) + IntKind.u64.wrap ((c : Int) * IntKind.u64.wrap (IntKind.u64.wrap ((2 : Int) ^ m) - 1)))) = ((k * (c * c + c * (2 ^ m - 1)) : Nat) : Int) := by
 have h1 : k * c <= 256 * 256 := Nat.mul_le_mul hk hc;have h2 : c * c <= 256 * 256 := Nat.mul_le_mul hc hc;have hp : 2 ^ m <= 2 ^ 4 := Nat.pow_le_pow_right (by omega) hm;have hp1 : 1 <= 2 ^ m := Nat.one_le_two_pow
 have e0 : (2 : Int) ^ m = ((2 ^ m : Nat) : Int) := by push_cast; rfl
 rw [e0];generalize 2 ^ m = P at *;have h3 : c * (P - 1) <= 256 * 16 := Nat.mul_le_mul hc (by omega);have h4 : k * (c * c + c * (P - 1)) <= 256 * 70000 := Nat.mul_le_mul hk (by omega)
 constructor
 ·rw [show (k : Int) * (c : Int) = ((k * c : Nat) : Int) by push_cast; rfl];exact zej _ (by omega)
 rw [zej P (by omega), show (P : Int) - 1 = ((P - 1 : Nat) : Int) by omega, zej (P - 1) (by omega), show (c : Int) * ((P - 1 : Nat) : Int) = ((c * (P - 1) : Nat) : Int) by rw [Int.natCast_mul], zej (c * (P - 1)) (by omega),
  show (c : Int) * (c : Int) = ((c * c : Nat) : Int) by push_cast; rfl, zej (c * c) (by omega), show ((c * c : Nat) : Int) + ((c * (P - 1) : Nat) : Int) = ((c * c + c * (P - 1) : Nat) : Int) by rw [Int.natCast_add], zej (c * c + c * (P - 1)) (by omega),
  show (k : Int) * ((c * c + c * (P - 1) : Nat) : Int) = ((k * (c * c + c * (P - 1)) : Nat) : Int) by rw [Int.natCast_mul]]
 exact zej _ (by omega)
theorem zsn (z : Int) (a : Option Addr) (cap : Nat) (t : List Cl) (wh : Nat) (C : Nat -> Nat) (X : Nat -> Nat -> Nat -> Nat) (w : World) (hwh : wh < 256) (hl : t.length <= 9223372036854775807) (hx : LsCells w a t) (hxi : ∀ c ∈ t, ∀ x ∈ c, -9223372036854775808 <= x /\ x <= 9223372036854775807)
 (hst : Stab w) (hE : zdz t = true -> MEnv t C X w) (hW : ∀ V, Below w.heap.size w V -> Calls Tryz.prog 10 #[] V fun e w' => e = .returned (.bool true) /\ Below V.heap.size V w') :
 Calls Tryz.prog 3 #[.agg #[.int .i64 z, .slice a t.length cap], .int .u8 (wh : Int)] w fun e w' => e = .returned (.bool true) /\ Below w.heap.size w w' := by
 obtain ⟨w0, hw0⟩ : ∃ W, W = w.alloc (.cells #[.int .i64 z, .slice a t.length cap] 24) := ⟨_, rfl⟩
 have hb0 : Below w.heap.size w w0 := by rw [hw0]; exact (Below.refl _ _).alloc (Nat.le_refl _) _
 have q0 : Blk w0 w.heap.size #[.int .i64 z, .slice a t.length cap] 24 := by rw [hw0]; exact Blk.new _ _ _
 have HLI := lh (fun V (hV : Below w.heap.size w V) => zla z a cap t V hl (hx.keep hV));have HB0 := lh hb0;have HQ0 := lh q0;have HWK := lh hW;have k0 := q0.cell 0;have k1 := q0.cell 1;have kz := q0.lt
 cases hlt : zdz t with
 | false =>
   rw [hlt] at HLI;clear hb0 q0 hx hl hxi hst hE hW hlt;go_enter Tryz.func3, Tryz.ntmps3;go_wp2_with fail;rw [<- hw0];clear hw0;refine (HLI.o _ HB0.o).mono ?_;rintro e w1 ⟨rfl, hb1⟩;have HB1 := lh (HB0.o.trans (hb1.mono HB0.o.size));clear hb1 k0 k1 kz;go_wp2_with fail;refine (HWK.o _ HB1.o).mono ?_;rintro e w2 ⟨rfl, hb2⟩;go_wp2;go_ret;exact ⟨rfl, HB1.o.trans (hb2.mono HB1.o.size)⟩
 | true =>
   rw [hlt] at HLI;have hE := hE hlt
   have h60 : t.length <= 60 /\ ∀ c ∈ t, c.length <= 140 := by
    unfold zdz at hlt;simp only [Bool.and_eq_true, List.all_eq_true, decide_eq_true_eq] at hlt;exact ⟨hlt.2, hlt.1⟩
   obtain ⟨i, hi⟩ : ∃ i, i = wh % 12 := ⟨_, rfl⟩
   have hi12 : i < 12 := by omega
   obtain ⟨p, hp⟩ : ∃ p, p = sizesL.getD i (0, 0) := ⟨_, rfl⟩
   have hpm : p ∈ sizesL := by
    have hlen : sizesL.length = 12 := by decide
    rw [hp, List.getD_eq_getElem?_getD, List.getElem?_eq_getElem (by omega)];exact List.getElem_mem _
   have hss := zcm p hpm;have HS0 := lh (fun V (hV : Below w.heap.size w V) => (hst.keep hV) i hi12);rw [<- hp] at HS0;obtain ⟨n, m⟩ := p;dsimp only at hss HS0;have HFW := lh (fun V (hV : Below w.heap.size w V) => zuj z n a cap t V (hx.keep hV) (by omega) (fun c hc => ⟨by have := h60.2 c hc; omega, hxi c hc⟩) (by omega));have HMO := lh (hE.mod n (by omega));have HES := lh (hE.est (n, m) hpm);have HBD := lh (hE.bd (n, m) hpm);have HS1 := lh (hE.s1 (n, m) hpm);have HS2 := lh (hE.s2 (n, m) hpm);dsimp only at HES HBD HS1 HS2;have HI := lh hi
   have hmod : ((wh : Int) % 12) = (i : Int) := by omega
   have hmod2 : ((wh : Int).tmod 12) = (i : Int) := by rw [hi]; exact (Int.ofNat_tmod wh 12).symm
   have hi12i : (i : Int) < 12 := by omega
   clear hb0 q0 hx hl hxi hst hE hW hlt hi hp;go_enter Tryz.func3, Tryz.ntmps3;go_wp2_with fail;rw [<- hw0];clear hw0;refine (HLI.o _ HB0.o).mono ?_;rintro e w1 ⟨rfl, hb1⟩;have HB1 := lh (HB0.o.trans (hb1.mono HB0.o.size));have HQ1 := lh (HQ0.o.later hb1);clear hb1 k0 k1 kz HLI HQ0 HB0;obtain ⟨s0, s1⟩ := HS0.o _ HB1.o;have sz := zai s0;have k0 := HQ1.o.cell 0;have k1 := HQ1.o.cell 1;have kz := HQ1.o.lt
   go_upto_region 3 with fail
   go_quiet (fail)
   obtain ⟨w2, hw2⟩ : ∃ W, W = w1.drewN nq := ⟨_, rfl⟩
   have hb2 : Below w1.heap.size w1 w2 := by rw [hw2]; exact let h := Below.refl w1.heap.size w1; ⟨h.os, h.tape, h.output, h.size, h.block⟩
   have HB2 := lh (HB1.o.trans (hb2.mono HB1.o.size));have HQ2 := lh (HQ1.o.later hb2);rw [<- hw2];clear hw2 hb2 s0 s1 sz k0 k1 kz hmod hmod2 HQ1 HB1 HS0;have k0 := HQ2.o.cell 0;have k1 := HQ2.o.cell 1;have kz := HQ2.o.lt;go_wp2_with fail;refine (HFW.o _ HB2.o).mono ?_;rintro e w3 ⟨a3, c3, rfl, hls, hb3⟩;have hq3 := HQ2.o.later hb3;have HB3 := lh (HB2.o.trans (hb3.mono HB2.o.size));have hz2 := HQ2.o.lt;clear k0 k1 kz HQ2;have k0 := hq3.cell 0;have k1 := hq3.cell 1;have f0 := hq3.fr 0;have f1 := hq3.fr 1;have kz := hq3.lt
   obtain ⟨w4, hw4⟩ : ∃ W, W = (w3.setCell ⟨w.heap.size, 0, none⟩ (.int .i64 (n : Int))).setCell ⟨w.heap.size, 1, none⟩ (.slice a3 t.length c3) := ⟨_, rfl⟩
   have hq4 : Blk w4 w.heap.size #[.int .i64 (n : Int), .slice a3 t.length c3] 24 := by rw [hw4]; exact (hq3.set 0 _).set 1 _
   have hls4 : LsIn (fun k => w2.heap.size <= k) w4 a3 (fewT n t) := by
    rw [hw4];exact (hls.kept (M := fun y => y = w.heap.size) (Kp.setCell _ _ _ rfl) (fun y hy e => by omega)).kept (M := fun y => y = w.heap.size) (Kp.setCell _ _ _ rfl) (fun y hy e => by omega)
   have HB4 : Hid (Below w.heap.size w w4) := by show Below _ _ _; rw [hw4]; exact (HB3.o.setCell (Nat.le_refl _) _).setCell (Nat.le_refl _) _
   have HL4 := lh hls4.ls;have HQ4 := lh hq4;clear hq4 hls4 hls hb3 hq3 hz2 HB3 HFW;go_wp2_with fail;rw [<- hw4];clear hw4 k0 k1 f0 f1 kz;refine (HMO.o _ HB4.o _ _ HL4.o).mono ?_;rintro e w5 ⟨rfl, hb5⟩;have HB5 := lh (HB4.o.trans (hb5.mono HB4.o.size));have HL5 := lh (HL4.o.keep hb5);have HQ5 := lh (HQ4.o.later hb5);clear hb5 HB4 HL4 HQ4 HMO;have k0 := HQ5.o.cell 0;have k1 := HQ5.o.cell 1;have kz := HQ5.o.lt;go_wp2_with fail;refine (HES.o _ HB5.o _ _ HL5.o).mono ?_;rintro e w6 ⟨oa, oc, rfl, hou, hb6⟩;have HB6 := lh (HB5.o.trans (hb6.mono HB5.o.size))
   obtain ⟨T, hT⟩ : ∃ T, T = 2 ^ (m * (n + 1)) := ⟨_, rfl⟩
   rw [<- hT] at hou HS1 HS2 ⊢
   have hT256 : T <= 256 := by rw [hT]; exact Nat.le_trans (Nat.pow_le_pow_right (by omega) hss.2.2.2.1) (by decide)
   generalize C n = c at *;generalize X n m = x at *;obtain ⟨hc256, hx256⟩ := HBD.o
   have hT1 : 1 <= T := by rw [hT]; exact Nat.one_le_two_pow
   have hxl : ((List.range T).map x).length = T := by simp
   obtain ⟨g, gc, hsh⟩ : ∃ g gc, (Value.slice oa T oc) = .slice (some ⟨g, 0, none⟩) T gc := by
    rcases hou.shape with ⟨_, h2⟩ | ⟨g, gc, h1, _⟩
    ·rw [h2] at hxl; simp at hxl; omega
    rw [hxl] at h1; exact ⟨g, gc, h1⟩
   simp only [Value.slice.injEq, true_and] at hsh;obtain ⟨rfl, rfl⟩ := hsh;have HX256 := lh hx256;have HOU := lh hou;have HXL := lh hxl;have HTT := lh hT;clear k0 k1 kz hou hb6 hxl HB5 HL5 HQ5 HES HBD hx256 hT;go_wp2_with fail
   obtain ⟨wq, rfl⟩ : ∃ wq : World, wq = w6 := ⟨_, rfl⟩
   have HSB : Hid (∀ k, sumE x k <= k * 256 /\ sumE (fun s => x s * x s) k <= k * 65536) := fun k => by
    induction k with
    | zero => exact ⟨Nat.le_refl _, Nat.le_refl _⟩
    | succ k ih =>
      rw [sumE, sumE];have h1 := HX256.o k;have h2 : x k * x k <= 256 * 256 := Nat.mul_le_mul h1 h1;omega
   go_loopw [10, 11, 44] (fun s q i wr => ∃ k : Nat, k <= T /\ i = .int .i64 k /\ s = .int .u64 (sumE x k : Int) /\ q = .int .u64 (sumE (fun s => x s * x s) k : Int) /\ wr = wq) (fun _ _ i _ => T - (intOf i).toNat)
   case atStart => exact ⟨0, Nat.zero_le _, rfl, rfl, rfl, rfl⟩
   obtain ⟨k, hk, rfl, rfl, rfl, rfl⟩ := hrel
   by_cases hlt2 : k < T
   ·have hki : (k : Int) < (T : Int) := by omega
    have x0 := HOU.o.cell HXL.o.symm zzb k 0 (by rw [HXL.o]; exact hlt2) (by omega);simp only [U1, List.getElem_map, List.getElem_range, List.getElem?_cons_zero, Nat.mul_one, Nat.add_zero] at x0;have xz := zai x0;have HSK : Hid (sumE x (k + 1) = sumE x k + x k) := rfl;have HQK : Hid (sumE (fun s => x s * x s) (k + 1) = sumE (fun s => x s * x s) k + x k * x k) := rfl;have HB1 := lh (HSB.o k);have HX1 := lh (HX256.o k);have HM1 : Hid (x k * x k <= 65536) := Nat.mul_le_mul HX1.o HX1.o;generalize sumE x k = S at *;generalize sumE (fun s => x s * x s) k = Q at *;generalize x k = y at *
    have HA1 : Hid (IntKind.u64.wrap ((S : Int) + (y : Int)) = ((S + y : Nat) : Int)) := by
     have h1 := HB1.o; have h2 := HX1.o
     show _ = _
     simp [IntKind.wrap, IntKind.bits, IntKind.signed]; omega
    have HA2 : Hid (IntKind.u64.wrap ((Q : Int) + IntKind.u64.wrap ((y : Int) * (y : Int))) = ((Q + y * y : Nat) : Int)) := by
     have h1 := HB1.o; have h2 := HM1.o
     have hm : IntKind.u64.wrap ((y : Int) * (y : Int)) = ((y * y : Nat) : Int) := by
      rw [show (y : Int) * (y : Int) = ((y * y : Nat) : Int) by push_cast; rfl];generalize y * y = v at *
      simp [IntKind.wrap, IntKind.bits, IntKind.signed]; omega
     show _ = _
     rw [hm];generalize y * y = v at *
     simp [IntKind.wrap, IntKind.bits, IntKind.signed]; omega
    go_wp2_with fail;refine ⟨⟨k + 1, by omega, by go_num, by rw [HSK.o, HA1.o], by rw [HQK.o, HA2.o], by first | rfl | trivial⟩, by simp [intOf]; omega⟩
   obtain rfl : k = T := by omega
   have hkn : ¬ ((k : Int) < (k : Int)) := by omega
   obtain ⟨e1, e2⟩ := zxx hT256 hc256 hss.2.2.1
   have hc1 : ((sumE x k : Nat) : Int) = IntKind.u64.wrap ((k : Int) * (c : Int)) := by rw [HS1.o, e1]
   have hc2 : ((sumE (fun s => x s * x s) k : Nat) : Int) = IntKind.u64.wrap ((k : Int) * IntKind.u64.wrap (IntKind.u64.wrap ((c : Int) * (c : Int)) + IntKind.u64.wrap ((c : Int) * IntKind.u64.wrap (IntKind.u64.wrap ((2 : Int) ^ m) - 1)))) := by rw [HS2.o, e2]
   have hm64 : (m : Int) < 64 := by omega
   clear e1 e2;go_wp2_with fail;refine (HWK.o _ HB6.o).mono ?_;rintro e w9 ⟨rfl, hb9⟩;go_wp2;go_ret;exact ⟨rfl, HB6.o.trans (hb9.mono HB6.o.size)⟩
end Go.Proofs.YtlleofjjdhfgcaaGreatDoor
