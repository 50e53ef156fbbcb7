/- Parts of the proofs of laws. Texts: Nat5, Nat6. -/
import Derived.Test.YtlleofjjdhfgcaaGreatDoorYA5
set_option maxHeartbeats 8000000
set_option maxRecDepth 100000
set_option linter.all false
namespace Go.Proofs.YtlleofjjdhfgcaaGreatDoor
open Go.RowKit Cen
theorem zjm (x y : Nat) (hx : x < 65536) (hy : y < 65536) (hxy : x * y < 65536) (w : World) : Calls Tryz.prog 54 #[natv x, natv y] w fun e w' => e = .returned (natv (x * y)) /\ Below w.heap.size w w' := by
 have HX := lh hx;have HY := lh hy;have hwx := zcy x hx;have hwy := zcy y hy;clear hx hy;unfold natv at hwx hwy ⊢;generalize natB x = s at *;generalize natB y = t at *;have HWX := lh hwx;have HWY := lh hwy;clear hwx hwy;go_enter Tryz.func54, Tryz.ntmps54;go_wp2_with fail
 have k0 := (((Blk.new w #[.string s] 44).alloc (.cells #[.string t] 44)).alloc (.cells #[.string ⟨#[]⟩] 44))
 have k1 := ((Blk.new' (w.alloc (.cells #[.string s] 44)) (b := w.heap.size + 1) (by simp) #[.string t] 44).alloc (.cells #[.string ⟨#[]⟩] 44))
 have k2 := Blk.new' ((w.alloc (.cells #[.string s] 44)).alloc (.cells #[.string t] 44)) (b := w.heap.size + 1 + 1) (by simp) #[.string ⟨#[]⟩] 44;have hb : Below w.heap.size w (((w.alloc (.cells #[.string s] 44)).alloc (.cells #[.string t] 44)).alloc (.cells #[.string ⟨#[]⟩] 44)) := (((Below.refl _ w).alloc (Nat.le_refl _) _).alloc (by simp) _).alloc (by simp; omega) _;generalize (((w.alloc (.cells #[.string s] 44)).alloc (.cells #[.string t] 44)).alloc (.cells #[.string ⟨#[]⟩] 44)) = W at *;have HK2 := lh k2;have HB := lh hb;have c0 : W.cell? ⟨w.heap.size, 0, none⟩ = some (.string s) := k0.cell 0
 have c1 : W.cell? ⟨w.heap.size + 1, 0, none⟩ = some (.string t) := k1.cell 0
 have HKS : Hid (∀ w' : World, Below W.heap.size W w' -> w'.cell? ⟨w.heap.size, 0, none⟩ = some (.string s) /\ w'.cell? ⟨w.heap.size + 1, 0, none⟩ = some (.string t) /\ Below W.heap.size W w') := lh fun w' hb => ⟨zab hb c0, zab hb c1, hb⟩
 clear k0 k1 k2 hb
 go_upto_region 2 with fail
 go_cut [5, 6] (fun sx sy wx => WC W x y sx sy wx)
 case first =>
  go_region_with (go_at_call 45
                  first
                   | (with_reducible refine Calls.mono (HWX.o W.drew) ?_
                      rintro e v5 ⟨rfl, hk5, hb5⟩;have hv5 : Below W.heap.size W v5 := (Below.refl W.heap.size W).drew.trans (hb5.mono (Nat.le_refl _));have d0 := zab hv5 c0
                      have d1 := zab hv5 c1)
                   | (with_reducible refine Calls.mono (HWY.o _) ?_
                      rintro e v6 ⟨rfl, hk6, hb6⟩))
  all_goals (go_wp2_with fail; go_meet; exact WC.one hk5 hv5 hk6 hb6)
 obtain ⟨bx, bz, rfl, rfl, hX, hZ, hbw⟩ := hcut.ex;have hK := HK2.o.later hbw;have HK := lh hK;have rc := hK.cell 0;have rf := hK.fr 0;have rl := hK.lt;have HBW := bt HB hbw;clear hcut hbw hK HKS c0 c1 HWX HWY HK2 HB;have hx := HX.o;have hy := HY.o;have lx := hX.lt;have lz := hZ.lt;have HXY := lh hxy
 rcases Nat.eq_zero_or_pos x with rfl | hx0
 ·have e1 : wl 0 = 0 := rfl
  rcases Nat.eq_zero_or_pos y with rfl | hx0
  ·rw [e1];have hmk := mkw0;clear e1 hX hZ;go_wp2_with fail;refine wp_loop_rounds 1 ?_;rw [rounds_succ];go_wp2_with fail;have kb := True.intro;refine Calls.mono (zzk _ _ _) ?_;rintro e w1 ⟨rfl, hb1⟩;have hbc : Below wc.heap.size wc w1 := ((Below.refl _ wc).alloc (Nat.le_refl _) _).trans (hb1.mono (by simp));have k1 := HK.o.later hbc;have HK1 := lh k1;have HB1 := bt HBW hbc;have rc := k1.cell 0;have rf := k1.fr 0;have rl := k1.lt;clear k1 hb1 hbc kb;unfold natv;go_wp2;have e0 : (w1.setCell ⟨w.heap.size + 1 + 1, 0, none⟩ (.string (natB (0)))).cell? ⟨w.heap.size + 1 + 1, 0, none⟩ = some (.string (natB (0))) := (HK1.o.set 0 _).cell 0
   exact bodyPost_ret (v := .agg #[.string (natB (0))]) (by simp [results, Tryz.results54, go_sem, e0]) rfl ⟨rfl, HB1.o.setCell (show w.heap.size <= (⟨w.heap.size + 1 + 1, 0, none⟩ : Addr).block by simp; omega) _⟩
  have e2 : wl y = 1 := if_neg (by omega);rw [e1, e2];have hmk1 := mkw1;clear e1 e2 hX hZ;go_wp2_with fail;refine wp_loop_rounds 1 ?_;rw [rounds_succ];go_wp2_with fail;have kb := Blk.new wc #[.int .u32 (((0 : Nat) : Int))] 104;refine Calls.mono (zbb (0) (by omega) wc.heap.size _ kb) ?_;rintro e w1 ⟨rfl, hb1⟩;have hbc : Below wc.heap.size wc w1 := ((Below.refl _ wc).alloc (Nat.le_refl _) _).trans (hb1.mono (by simp));have k1 := HK.o.later hbc;have HK1 := lh k1;have HB1 := bt HBW hbc;have rc := k1.cell 0;have rf := k1.fr 0;have rl := k1.lt;clear k1 hb1 hbc kb;unfold natv;go_wp2;have e0 : (w1.setCell ⟨w.heap.size + 1 + 1, 0, none⟩ (.string (natB (0)))).cell? ⟨w.heap.size + 1 + 1, 0, none⟩ = some (.string (natB (0))) := (HK1.o.set 0 _).cell 0
  exact bodyPost_ret (v := .agg #[.string (natB (0))]) (by simp [results, Tryz.results54, go_sem, e0]) rfl ⟨by rw [Nat.zero_mul], HB1.o.setCell (show w.heap.size <= (⟨w.heap.size + 1 + 1, 0, none⟩ : Addr).block by simp; omega) _⟩
 have e2 : wl x = 1 := if_neg (by omega);have e3 : zb9 x = #[.int .u32 (x : Int)] := if_neg (by omega);rw [e3] at hX;have cx := hX.cell 0
 rcases Nat.eq_zero_or_pos y with rfl | hy0
 ·have e1 : wl 0 = 0 := rfl;rw [e1, e2];have hmk1 := mkw1;clear e1 e2 e3 hX hZ hx0;go_wp2_with fail;refine wp_loop_rounds 2 ?_;rw [rounds_succ];go_wp2;refine wp_loop_rounds 1 ?_;rw [rounds_succ];go_wp2;rw [rounds_succ];go_wp2_with fail;have kb := Blk.new wc #[.int .u32 (((0 : Nat) : Int))] 104;refine Calls.mono (zbb (0) (by omega) wc.heap.size _ kb) ?_;rintro e w1 ⟨rfl, hb1⟩;have hbc : Below wc.heap.size wc w1 := ((Below.refl _ wc).alloc (Nat.le_refl _) _).trans (hb1.mono (by simp));have k1 := HK.o.later hbc;have HK1 := lh k1;have HB1 := bt HBW hbc;have rc := k1.cell 0;have rf := k1.fr 0;have rl := k1.lt
  clear k1 hb1 hbc kb;unfold natv;go_wp2;have e0 : (w1.setCell ⟨w.heap.size + 1 + 1, 0, none⟩ (.string (natB (0)))).cell? ⟨w.heap.size + 1 + 1, 0, none⟩ = some (.string (natB (0))) := (HK1.o.set 0 _).cell 0;exact bodyPost_ret (v := .agg #[.string (natB (0))]) (by simp [results, Tryz.results54, go_sem, e0]) rfl ⟨by rw [Nat.mul_zero], HB1.o.setCell (show w.heap.size <= (⟨w.heap.size + 1 + 1, 0, none⟩ : Addr).block by simp; omega) _⟩
 have e1 : wl y = 1 := if_neg (by omega);have e4 : zb9 y = #[.int .u32 (y : Int)] := if_neg (by omega);rw [e1, e2];rw [e4] at hZ;have cy := hZ.cell 0;have hmk2 := mkw2;have a9 : (x : Int) * (y : Int) = ((x * y : Nat) : Int) := (Int.natCast_mul x y).symm
 have a0 : 0 <= (x : Int) * (y : Int) := by omega
 have a1 : ((x : Int) * (y : Int)) % 4294967296 = ((x : Int) * (y : Int)) := by omega
 have a2 : ((x : Int) * (y : Int)) / 4294967296 = 0 := by omega
 have a3 : ((x : Int) * (y : Int)) % 18446744073709551616 = ((x : Int) * (y : Int)) := by omega
 clear e1 e2 e3 e4 hX hZ hx0 hy0 a9;go_wp2_with fail;refine wp_loop_rounds 2 ?_;rw [rounds_succ];go_wp2;refine wp_loop_rounds 2 ?_;rw [rounds_succ];go_wp2;go_region;go_wp2;rw [rounds_succ];go_wp2;rw [rounds_succ];go_wp2_with fail
 have ek : (x : Int) * (y : Int) = ((x * y : Nat) : Int) := by omega
 have kb : Blk (wc.alloc (.cells #[.int .u32 ((x : Int) * (y : Int)), .int .u32 0] 104)) wc.heap.size #[.int .u32 ((x * y : Nat) : Int), .int .u32 0] 104 := by rw [<- ek]; exact Blk.new _ _ _
 clear ek;refine Calls.mono (zep (x * y) (by omega) wc.heap.size _ kb) ?_;rintro e w1 ⟨rfl, hb1⟩;have hbc : Below wc.heap.size wc w1 := ((Below.refl _ wc).alloc (Nat.le_refl _) _).drew.trans (hb1.mono (by simp));have k1 := HK.o.later hbc;have HK1 := lh k1;have HB1 := bt HBW hbc;have rc := k1.cell 0;have rf := k1.fr 0;have rl := k1.lt;clear k1 hb1 hbc kb;unfold natv;go_wp2;have e0 : (w1.setCell ⟨w.heap.size + 1 + 1, 0, none⟩ (.string (natB (x * y)))).cell? ⟨w.heap.size + 1 + 1, 0, none⟩ = some (.string (natB (x * y))) := (HK1.o.set 0 _).cell 0;exact bodyPost_ret (v := .agg #[.string (natB (x * y))]) (by simp [results, Tryz.results54, go_sem, e0]) rfl ⟨rfl, HB1.o.setCell (show w.heap.size <= (⟨w.heap.size + 1 + 1, 0, none⟩ : Addr).block by simp; omega) _⟩
structure WD (W : World) (x y : Nat) (sx sy : Value) (wx : World) : Prop where
 ex : ∃ bx bz, sx = .slice (some ⟨bx, 0, none⟩) (wl x) (wl x) /\ sy = .slice (some ⟨bz, 0, none⟩) (wl y) (wl y) /\ W.heap.size <= bx /\ bx ≠ bz /\ Blk wx bx (zb9 x) 104 /\ Blk wx bz (zb9 y) 104 /\ Below W.heap.size W wx
theorem WD.one {W v5 v6 : World} {x y : Nat} (h5 : Blk v5 (W.heap.size + 1) (zb9 x) 104) (hb5 : Below W.heap.size W v5) (h6 : Blk v6 (v5.heap.size + 1) (zb9 y) 104) (hb6 : Below v5.heap.size v5 v6) :
 WD W x y (.slice (some ⟨W.heap.size + 1, 0, none⟩) (wl x) (wl x)) (.slice (some ⟨v5.heap.size + 1, 0, none⟩) (wl y) (wl y)) v6 :=
 ⟨_, _, rfl, rfl, by omega, by have := h5.lt; omega, h5.later hb6, h6, hb5.trans (hb6.mono hb5.size)⟩
theorem zqe (x y : Nat) (hx : x < 65536) (hy : 1 <= y) (hy2 : y < 65536) (b : Nat) (w : World) (hb : Blk w b #[.int .u32 (x : Int)] 104) :
 Calls Tryz.prog 51 #[.slice (some ⟨b, 0, none⟩) 1 1, .int .u32 (y : Int)] w fun e w' => e = .returned (.int .u32 ((x % y : Nat) : Int)) /\ w' = w.setCell ⟨b, 0, none⟩ (.int .u32 ((x / y : Nat) : Int)) := by
 have c0 := hb.cell 0;have f0 := hb.fr 0;have z0 := hb.lt
 have hor : bits .or .u64 (0 : Int) (x : Int) = (x : Int) := by
  have := u64_or_nat 0 x (by omega) (by omega)
  rwa [Nat.zero_or] at this
 have d1 : ((x / y : Nat) : Int) = (x : Int) / (y : Int) := by simp
 have d2 : ((x % y : Nat) : Int) = (x : Int) % (y : Int) := by simp
 have hy0 : ¬ (y : Int) = 0 := by omega
 have p1 : 0 <= (x : Int) / (y : Int) := Int.ediv_nonneg (by omega) (by omega);have p2 : 0 <= (x : Int) % (y : Int) := Int.emod_nonneg _ hy0
 have p3 : (x : Int) / (y : Int) < 65536 := by have := Int.ediv_le_self (b := (y : Int)) (a := (x : Int)) (by omega); omega
 have p4 : (x : Int) % (y : Int) < 65536 := by have := Int.emod_lt_of_pos (x : Int) (b := (y : Int)) (by omega); omega
 have a1 : ((x : Int) / (y : Int)) % 4294967296 = (x : Int) / (y : Int) := Int.emod_eq_of_lt p1 (by omega);have a2 : ((x : Int) % (y : Int)) % 4294967296 = (x : Int) % (y : Int) := Int.emod_eq_of_lt p2 (by omega)
 have a3 : (x : Int) % 4294967296 = x := by omega
 have a4 : (y : Int) % 4294967296 = y := by omega
 rw [d1, d2];clear d1 d2;go_enter Tryz.func51, Tryz.ntmps51;go_wp2_with fail;refine wp_loop_rounds 2 ?_;rw [rounds_succ];go_wp2;rw [rounds_succ];go_wp2;go_ret;exact ⟨rfl, rfl⟩
end Go.Proofs.YtlleofjjdhfgcaaGreatDoor
