/- Part of the proofs that laws return true for every input, where the tables that the rows list are laid. Texts: Nat6, He, Hf. -/
import Derived.Test.YtflhbcnhaeijbaaGreatDoorYH34
import Derived.Test.YtflhbcnhaeijbaaGreatDoorYH30
import Derived.BigQuiet
import Derived.Test.YtflhbcnhaeijbaaGreatDoorYH1
set_option maxHeartbeats 8000000
set_option maxRecDepth 100000
set_option linter.unusedSimpArgs false
set_option linter.unusedVariables false
namespace Go.Proofs.YtflhbcnhaeijbaaGreatDoor
open Go.RowKit Cen
structure WD (W : World) (x y : Nat) (sx sy : Value) (wx : World) : Prop where
 ex : ∃ bx bz, sx = .slice (some ⟨bx, 0, none⟩) (wl x) (wl x) /\ sy = .slice (some ⟨bz, 0, none⟩) (wl y) (wl y) /\ W.heap.size <= bx /\ bx ≠ bz /\ Blk wx bx (wcells x) 86 /\ Blk wx bz (wcells y) 86 /\ Below W.heap.size W wx
theorem WD.one {W v5 v6 : World} {x y : Nat} (h5 : Blk v5 (W.heap.size + 1) (wcells x) 86) (hb5 : Below W.heap.size W v5) (h6 : Blk v6 (v5.heap.size + 1) (wcells y) 86) (hb6 : Below v5.heap.size v5 v6) :
 WD W x y (.slice (some ⟨W.heap.size + 1, 0, none⟩) (wl x) (wl x)) (.slice (some ⟨v5.heap.size + 1, 0, none⟩) (wl y) (wl y)) v6 :=
 ⟨_, _, rfl, rfl, by omega, by have := h5.lt; omega, h5.later hb6, h6, hb5.trans (hb6.mono hb5.size)⟩
theorem sub_any' (x y : Nat) (hx : x <= 256) (hyx : y <= x) (w : World) : Calls Tryz.prog 29 #[natv x, natv y] w fun e w' => e = .returned (.tuple #[natv (x - y), .bool true]) /\ Below w.heap.size w w' := by
 have hwx := words_any x (by omega);have hwy := words_any y (by omega)
 have hcm : ∀ W, Calls Tryz.prog 35 #[natv x, natv y] W fun e w' => (∃ z : Int, e = .returned (.int .i64 z) /\ 0 <= z) /\ Below W.heap.size W w' := fun W =>
  (cmp_any x y hx (by omega) W).mono fun e w' h => ⟨⟨_, h.1, by split <;> (try split) <;> omega⟩, h.2⟩
 have HX := lh hx;have HY := lh hyx;clear hx hyx;unfold natv at hwx hwy hcm ⊢;generalize natB x = s at *;generalize natB y = t at *;have HWX := lh hwx;have HWY := lh hwy;have HCM := lh hcm;clear hwx hwy hcm;go_enter Tryz.func29, Tryz.ntmps29;go_wp2_with fail
 obtain ⟨W, hW⟩ : ∃ W, W = (((w.alloc (.cells #[.string s] 44)).alloc (.cells #[.string t] 44)).alloc (.cells #[.string ⟨#[]⟩] 44)) := ⟨_, rfl⟩
 have k0 : Blk W w.heap.size #[.string s] 44 := by rw [hW]; exact (((Blk.new w #[.string s] 44).alloc _).alloc _)
 have k1 : Blk W (w.heap.size + 1) #[.string t] 44 := by rw [hW]; exact ((Blk.new' (w.alloc (.cells #[.string s] 44)) (b := w.heap.size + 1) (by simp) #[.string t] 44).alloc _)
 have k2 : Blk W (w.heap.size + 1 + 1) #[.string ⟨#[]⟩] 44 := by rw [hW]; exact Blk.new' ((w.alloc (.cells #[.string s] 44)).alloc (.cells #[.string t] 44)) (b := w.heap.size + 1 + 1) (by simp) #[.string ⟨#[]⟩] 44
 have hb : Below w.heap.size w W := by rw [hW]; exact (((Below.refl _ w).alloc (Nat.le_refl _) _).alloc (by simp) _).alloc (by simp; omega) _
 rw [<- hW];clear hW;refine (HCM.o _).mono ?_;rintro e W1 ⟨⟨z, rfl, hz⟩, hb1⟩
 have hz' : ¬ z < 0 := by omega
 have k0 := k0.later hb1;have k1 := k1.later hb1;have k2 := k2.later hb1;have HB := lh (hb.trans (hb1.mono hb.size));have HK2 := lh k2;have c0 : W1.cell? ⟨w.heap.size, 0, none⟩ = some (.string s) := k0.cell 0;have c1 : W1.cell? ⟨w.heap.size + 1, 0, none⟩ = some (.string t) := k1.cell 0;have z0 := k0.lt;have z1 := k1.lt;clear k0 k1 k2 hb hb1 hz HCM
 go_upto_region 3 with fail
 go_cut [6, 7] (fun sx sy wx => WD W1 x y sx sy wx)
 case first =>
  go_region_with (go_at_call 57
                  first
                   | (with_reducible refine Calls.mono (HWX.o W1.drew) ?_
                      rintro e v5 ⟨rfl, hk5, hb5⟩;have hv5 : Below W1.heap.size W1 v5 := (Below.refl W1.heap.size W1).drew.trans (hb5.mono (Nat.le_refl _));have d0 := zaa hv5 c0
                      have d1 := zaa hv5 c1)
                   | (with_reducible refine Calls.mono (HWY.o _) ?_
                      rintro e v6 ⟨rfl, hk6, hb6⟩))
  all_goals (go_wp2_with fail; go_meet; exact WD.one hk5 hv5 hk6 hb6)
 obtain ⟨bx, bz, rfl, rfl, hlo, hxz, hX, hZ, hbw⟩ := hcut.ex;have HLO : Hid (w.heap.size <= bx) := Nat.le_trans HB.o.size hlo
 have HNE : Hid (bx ≠ w.heap.size + 1 + 1) := by have := HK2.o.lt; show bx ≠ _; omega
 have hK := HK2.o.later hbw;have HK := lh hK;have rc := hK.cell 0;have rf := hK.fr 0;have rl := hK.lt;have HBW := lh (HB.o.trans (hbw.mono HB.o.size));have hZB := hbw.size;clear hcut c0 c1 z0 z1 HWX HWY HK2 HB;have hx := HX.o;have hy := HY.o;have lx := hX.lt;have lz := hZ.lt
 rcases Nat.eq_zero_or_pos x with rfl | hx0
 ·have hy0 : y = 0 := by omega
  subst hy0;rw [show wl 0 = 0 from rfl];clear hX hZ;go_wp2_with fail;refine wp_loop_rounds 1 ?_;rw [rounds_succ];go_wp2_with fail;refine Calls.mono (from_0 _ _ _) ?_;rintro e w1 ⟨rfl, hb1⟩;have k1 := HK.o.later hb1;have HK1 := lh k1;have HB1 := lh (HBW.o.trans (hb1.mono HBW.o.size));have rc := k1.cell 0;have rf := k1.fr 0;have rl := k1.lt;clear k1 hb1;unfold natv;go_wp2;have e0 : (w1.setCell ⟨w.heap.size + 1 + 1, 0, none⟩ (.string (natB 0))).cell? ⟨w.heap.size + 1 + 1, 0, none⟩ = some (.string (natB 0)) := (HK1.o.set 0 _).cell 0;exact bodyPost_ret (v := .tuple #[.agg #[.string (natB 0)], .bool true]) (by simp [results, Tryz.results29, go_sem, e0]) rfl ⟨rfl, HB1.o.setCell (show w.heap.size <= (⟨w.heap.size + 1 + 1, 0, none⟩ : Addr).block by simp; omega) _⟩
 have e1 : wl x = 1 := if_neg (by omega);have e3 : wcells x = #[.int .u32 (x : Int)] := if_neg (by omega);rw [e3] at hX;have cx := hX.cell 0;have fx := hX.fr 0;have HXB := lh hX
 rcases Nat.eq_zero_or_pos y with rfl | hy0
 ·rw [e1, show wl 0 = 0 from rfl]
  have a1 : (x : Int) % 4294967296 = x := by omega
  have a2 : (x : Int) / 9223372036854775808 = 0 := by omega
  clear e1 e3 hX hZ hx0;go_wp2_with fail;refine wp_loop_rounds 2 ?_;rw [rounds_succ];go_wp2;rw [rounds_succ];go_wp2_with fail;clear cx fx;have kb : Blk (wc.setCell ⟨bx, 0, none⟩ (.int .u32 ((x : Nat) : Int))) bx #[.int .u32 ((x : Nat) : Int)] 86 := HXB.o.set 0 _;have hk2 := HK.o.other ⟨bx, 0, none⟩ (.int .u32 ((x : Nat) : Int)) HNE.o;have HBS := lh (HBW.o.setCell (p := ⟨bx, 0, none⟩) HLO.o (.int .u32 ((x : Nat) : Int)))
  skip
  generalize wc.setCell ⟨bx, 0, none⟩ (.int .u32 ((x : Nat) : Int)) = wd at *;refine Calls.mono (from1_any (x) (by have := HX.o; omega) bx _ kb) ?_;rintro e w1 ⟨rfl, hb1⟩;have k1 := hk2.later hb1;have HK1 := lh k1;have HB1 := lh (HBS.o.trans (hb1.mono HBS.o.size));have rc := k1.cell 0;have rf := k1.fr 0;have rl := k1.lt;clear k1 hb1 kb hk2;unfold natv;go_wp2;have e0 : (w1.setCell ⟨w.heap.size + 1 + 1, 0, none⟩ (.string (natB (x)))).cell? ⟨w.heap.size + 1 + 1, 0, none⟩ = some (.string (natB (x))) := (HK1.o.set 0 _).cell 0;exact bodyPost_ret (v := .tuple #[.agg #[.string (natB (x))], .bool true]) (by simp [results, Tryz.results29, go_sem, e0]) rfl ⟨by first | rfl | rw [Nat.sub_zero], HB1.o.setCell (show w.heap.size <= (⟨w.heap.size + 1 + 1, 0, none⟩ : Addr).block by simp; omega) _⟩
 rw [e1, show wl y = 1 from if_neg (by omega)];have e4 : wcells y = #[.int .u32 (y : Int)] := if_neg (by omega);rw [e4] at hZ;have cy := hZ.cell 0
 have hsub : ((x - y : Nat) : Int) = (x : Int) - (y : Int) := by omega
 have a1 : ((x : Int) - (y : Int)) % 4294967296 = (x : Int) - (y : Int) := by omega
 have a2 : ((x : Int) - (y : Int)) / 9223372036854775808 = 0 := by omega
 have HSB := lh hsub;clear e1 e3 e4 hX hZ hx0 hy0 hsub;go_wp2_with fail;refine wp_loop_rounds 2 ?_;rw [rounds_succ];go_wp2;rw [rounds_succ];go_wp2_with fail;clear cx fx cy;have kb : Blk (wc.setCell ⟨bx, 0, none⟩ (.int .u32 ((x - y : Nat) : Int))) bx #[.int .u32 ((x - y : Nat) : Int)] 86 := HXB.o.set 0 _;have hk2 := HK.o.other ⟨bx, 0, none⟩ (.int .u32 ((x - y : Nat) : Int)) HNE.o;have HBS := lh (HBW.o.setCell (p := ⟨bx, 0, none⟩) HLO.o (.int .u32 ((x - y : Nat) : Int)));rw [<- HSB.o];generalize wc.setCell ⟨bx, 0, none⟩ (.int .u32 ((x - y : Nat) : Int)) = wd at *;refine Calls.mono (from1_any (x - y) (by have := HX.o; omega) bx _ kb) ?_
 rintro e w1 ⟨rfl, hb1⟩;have k1 := hk2.later hb1;have HK1 := lh k1;have HB1 := lh (HBS.o.trans (hb1.mono HBS.o.size));have rc := k1.cell 0;have rf := k1.fr 0;have rl := k1.lt;clear k1 hb1 kb hk2;unfold natv;go_wp2;have e0 : (w1.setCell ⟨w.heap.size + 1 + 1, 0, none⟩ (.string (natB (x - y)))).cell? ⟨w.heap.size + 1 + 1, 0, none⟩ = some (.string (natB (x - y))) := (HK1.o.set 0 _).cell 0;exact bodyPost_ret (v := .tuple #[.agg #[.string (natB (x - y))], .bool true]) (by simp [results, Tryz.results29, go_sem, e0]) rfl ⟨by first | rfl | rw [Nat.sub_zero], HB1.o.setCell (show w.heap.size <= (⟨w.heap.size + 1 + 1, 0, none⟩ : Addr).block by simp; omega) _⟩
theorem shrink1_any (x y : Nat) (hx : x < 65536) (hy : 1 <= y) (hy2 : y < 65536) (b : Nat) (w : World) (hb : Blk w b #[.int .u32 (x : Int)] 86) :
 Calls Tryz.prog 58 #[.slice (some ⟨b, 0, none⟩) 1 1, .int .u32 (y : Int)] w fun e w' => e = .returned (.int .u32 ((x % y : Nat) : Int)) /\ w' = w.setCell ⟨b, 0, none⟩ (.int .u32 ((x / y : Nat) : Int)) := by
 have c0 := hb.cell 0;have f0 := hb.fr 0;have z0 := hb.lt
 have hor : bits .or .u64 (0 : Int) (x : Int) = (x : Int) := by
  have := u64_or_nat 0 x (by omega) (by omega)
  rwa [Nat.zero_or] at this
 have d1 : ((x / y : Nat) : Int) = (x : Int) / (y : Int) := by simp
 have d2 : ((x % y : Nat) : Int) = (x : Int) % (y : Int) := by simp
 have hy0 : ¬ (y : Int) = 0 := by omega
 have p1 : 0 <= (x : Int) / (y : Int) := Int.ediv_nonneg (by omega) (by omega);have p2 : 0 <= (x : Int) % (y : Int) := Int.emod_nonneg _ hy0
 have p3 : (x : Int) / (y : Int) < 65536 := by have := Int.ediv_le_self (b := (y : Int)) (a := (x : Int)) (by omega); omega
 have p4 : (x : Int) % (y : Int) < 65536 := by have := Int.emod_lt_of_pos (x : Int) (b := (y : Int)) (by omega); omega
 have a1 : ((x : Int) / (y : Int)) % 4294967296 = (x : Int) / (y : Int) := Int.emod_eq_of_lt p1 (by omega);have a2 : ((x : Int) % (y : Int)) % 4294967296 = (x : Int) % (y : Int) := Int.emod_eq_of_lt p2 (by omega)
 have a3 : (x : Int) % 4294967296 = x := by omega
 have a4 : (y : Int) % 4294967296 = y := by omega
 rw [d1, d2];clear d1 d2;go_enter Tryz.func58, Tryz.ntmps58;go_wp2_with fail;refine wp_loop_rounds 2 ?_;rw [rounds_succ];go_wp2;rw [rounds_succ];go_wp2;go_ret;exact ⟨rfl, rfl⟩
theorem div_any (x y : Nat) (hx : x <= 256) (hy : 1 <= y) (hy2 : y <= 256) (w : World) : Calls Tryz.prog 30 #[natv x, natv y] w fun e w' => e = .returned (.tuple #[natv (x / y), natv (x % y), .bool true]) /\ Below w.heap.size w w' := by
 have hwx := words_any x (by omega);have hwy := words_any y (by omega)
 have hcm : ∀ W, Calls Tryz.prog 35 #[natv x, natv y] W fun e w' => e = .returned (.int .i64 (if x = y then 0 else if x < y then -1 else 1)) /\ Below W.heap.size W w' := fun W => cmp_any x y hx hy2 W
 have hof : ∀ W, Calls Tryz.prog 13 #[.int .u64 ((x % y : Nat) : Int)] W fun e w' => e = .returned (natv (x % y)) /\ Below W.heap.size W w' := fun W => of_any (x % y) (by have := Nat.mod_le x y; omega) W
 have HX := lh hx;have HY := lh hy;have HY2 := lh hy2;have HNX : Hid (natB 0 = ⟨#[]⟩) := rfl
 have HLT : Hid (x < y -> x / y = 0 /\ x % y = x) := fun h => ⟨Nat.div_eq_of_lt h, Nat.mod_eq_of_lt h⟩
 have hws : wl y = 1 := if_neg (by omega);have hwc : wcells y = #[.int .u32 (y : Int)] := if_neg (by omega);have HWS := lh hws;have HWC := lh hwc;clear hx hy hy2 hws hwc;unfold natv at hwx hwy hcm hof ⊢;generalize hs : natB x = s at *;generalize natB y = t at *;have HS := lh hs;have HWX := lh hwx;have HWY := lh hwy;have HCM := lh hcm;have HOF := lh hof;clear hwx hwy hcm hof hs;go_enter Tryz.func30, Tryz.ntmps30;go_wp2_with fail
 obtain ⟨W, hW⟩ : ∃ W, W = ((((w.alloc (.cells #[.string s] 44)).alloc (.cells #[.string t] 44)).alloc (.cells #[.string ⟨#[]⟩] 44)).alloc (.cells #[.string ⟨#[]⟩] 44)) := ⟨_, rfl⟩
 have k0 : Blk W w.heap.size #[.string s] 44 := by rw [hW]; exact ((((Blk.new w #[.string s] 44).alloc _).alloc _).alloc _)
 have k1 : Blk W (w.heap.size + 1) #[.string t] 44 := by rw [hW]; exact (((Blk.new' (w.alloc (.cells #[.string s] 44)) (b := w.heap.size + 1) (by simp) #[.string t] 44).alloc _).alloc _)
 have k2 : Blk W (w.heap.size + 1 + 1) #[.string ⟨#[]⟩] 44 := by rw [hW]; exact (Blk.new' ((w.alloc (.cells #[.string s] 44)).alloc (.cells #[.string t] 44)) (b := w.heap.size + 1 + 1) (by simp) #[.string ⟨#[]⟩] 44).alloc _
 have k3 : Blk W (w.heap.size + 1 + 1 + 1) #[.string ⟨#[]⟩] 44 := by rw [hW]; exact Blk.new' (((w.alloc (.cells #[.string s] 44)).alloc (.cells #[.string t] 44)).alloc (.cells #[.string ⟨#[]⟩] 44)) (b := w.heap.size + 1 + 1 + 1) (by simp) #[.string ⟨#[]⟩] 44
 have hb : Below w.heap.size w W := by rw [hW]; exact ((((Below.refl _ w).alloc (Nat.le_refl _) _).alloc (by simp) _).alloc (by simp; omega) _).alloc (by simp; omega) _
 rw [<- hW];clear hW;have HB := lh hb;have HK0 := lh k0;have HK1 := lh k1;have HK2 := lh k2;have HK3 := lh k3;have c0 : W.cell? ⟨w.heap.size, 0, none⟩ = some (.string s) := k0.cell 0;have c1 : W.cell? ⟨w.heap.size + 1, 0, none⟩ = some (.string t) := k1.cell 0;have z0 := k0.lt;have z1 := k1.lt;clear k0 k1 k2 k3 hb
 go_upto_region 1 with fail
 go_cut [7, 8] (fun sx sy wx => WD W x y sx sy wx)
 case first =>
  go_region_with (go_at_call 57
                  first
                   | (with_reducible refine Calls.mono (HWX.o W.drew) ?_
                      rintro e v5 ⟨rfl, hk5, hb5⟩;have hv5 : Below W.heap.size W v5 := (Below.refl W.heap.size W).drew.trans (hb5.mono (Nat.le_refl _));have d0 := zaa hv5 c0
                      have d1 := zaa hv5 c1)
                   | (with_reducible refine Calls.mono (HWY.o _) ?_
                      rintro e v6 ⟨rfl, hk6, hb6⟩))
  all_goals (go_wp2_with fail; go_meet; exact WD.one hk5 hv5 hk6 hb6)
 obtain ⟨bx, bz, rfl, rfl, hlo, hxz, hX, hZ, hbw⟩ := hcut.ex;have HLO : Hid (w.heap.size <= bx) := Nat.le_trans HB.o.size hlo
 have HNE2 : Hid (bx ≠ w.heap.size + 1 + 1) := by have := HK2.o.lt; show bx ≠ _; omega
 have HNE3 : Hid (bx ≠ w.heap.size + 1 + 1 + 1) := by have := HK3.o.lt; show bx ≠ _; omega
 have k0 := HK0.o.later hbw;have k1 := HK1.o.later hbw;have k2 := HK2.o.later hbw;have k3 := HK3.o.later hbw;have HBW := lh (HB.o.trans (hbw.mono HB.o.size));have c0 : wc.cell? ⟨w.heap.size, 0, none⟩ = some (.string s) := k0.cell 0;have c1 : wc.cell? ⟨w.heap.size + 1, 0, none⟩ = some (.string t) := k1.cell 0;have z0 := k0.lt;have z1 := k1.lt;have HZX := lh hX;rw [HWC.o] at hZ;have HZZ := lh hZ;have K0 := lh k0;have K2 := lh k2;have K3 := lh k3;rw [HWS.o];clear hcut hbw hlo hxz hX hZ k0 k1 k2 k3 HWX HWY HK0 HK1 HK2 HK3 HB;go_wp2_with fail;refine (HCM.o _).mono ?_;rintro e w1 ⟨rfl, hb1⟩;have q0 := K0.o.later hb1
 have q2 := K2.o.later hb1;have q3 := K3.o.later hb1;have qx := HZX.o.later hb1;have qz := HZZ.o.later hb1;have HB1 := lh (HBW.o.trans (hb1.mono HBW.o.size));clear hb1 c0 c1 z0 z1 HCM
 by_cases hlt : x < y
 ·rw [if_neg (by omega), if_pos hlt];have c0 : w1.cell? ⟨w.heap.size, 0, none⟩ = some (.string s) := q0.cell 0;have z0 := q0.lt;have r2 := q2.cell 0;have f2 := q2.fr 0;have z2 := q2.lt;have r3 := q3.cell 0;have f3 := q3.fr 0;have z3 := q3.lt;have HQ2 := lh q2;have HQ3 := lh q3;have HL := lh (HLT.o hlt);clear hlt q0 q2 q3 qx qz;go_wp2_with fail;go_region
  obtain ⟨V, hV⟩ : ∃ V, V = ((w1.setCell ⟨w.heap.size + 1 + 1, 0, none⟩ (.string ⟨#[]⟩)).setCell ⟨w.heap.size + 1 + 1 + 1, 0, none⟩ (.string s)).drew := ⟨_, rfl⟩
  have hbd : ∀ {a b : World}, Below a.heap.size a a.drew := fun {a b} => (Below.refl _ _).drew
  have V2 : Blk V (w.heap.size + 1 + 1) #[.string ⟨#[]⟩] 44 := by rw [hV]; exact ((HQ2.o.set 0 _).other _ _ (by simp)).later (Below.refl _ _).drew
  have V3 : Blk V (w.heap.size + 1 + 1 + 1) #[.string s] 44 := by rw [hV]; exact ((HQ3.o.other _ _ (by simp)).set 0 _).later (Below.refl _ _).drew
  have HV : Hid (Below w.heap.size w V) := by show Below _ _ _; rw [hV]; exact ((HB1.o.setCell (by show w.heap.size <= w.heap.size + 1 + 1; omega) _).setCell (by show w.heap.size <= w.heap.size + 1 + 1 + 1; omega) _).drew
  rw [<- hV];have e2 := V2.cell 0;have e3 := V3.cell 0;clear hV hbd V2 V3;go_wp2;exact bodyPost_ret (v := .tuple #[.agg #[.string ⟨#[]⟩], .agg #[.string s], .bool true]) (by simp [results, Tryz.results30, go_sem, e2, e3]) rfl ⟨by rw [HL.o.1, HL.o.2, HS.o, HNX.o], HV.o⟩
 have hcm : ∀ z : Int, z = (if x = y then 0 else if x < y then -1 else 1) -> 0 <= z := fun z hz => by rw [hz]; split <;> (try split) <;> omega
 have hcm := hcm _ rfl;generalize (if x = y then (0 : Int) else if x < y then -1 else 1) = z at *
 have hz' : ¬ z < 0 := by omega
 have hx1 : wl x = 1 := if_neg (by have := HY.o; omega);have hx2 : wcells x = #[.int .u32 (x : Int)] := if_neg (by have := HY.o; omega);rw [hx2] at qx;have HQX := lh qx;have HQ2 := lh q2;have HQ3 := lh q3;rw [hx1];have cz := qz.cell 0;have zz := qz.lt;clear hcm hlt hx1 hx2 qx q0 q2 q3 qz;go_wp2_with fail;refine (shrink1_any x y (by have := HX.o; omega) HY.o (by have := HY2.o; omega) bx w1 HQX.o).mono ?_;rintro e w2 ⟨rfl, hw2⟩
 have kb : Blk w2 bx #[.int .u32 ((x / y : Nat) : Int)] 86 := by rw [hw2]; exact HQX.o.set 0 _
 have k2 : Blk w2 (w.heap.size + 1 + 1) #[.string ⟨#[]⟩] 44 := by rw [hw2]; exact HQ2.o.other _ _ HNE2.o
 have k3 : Blk w2 (w.heap.size + 1 + 1 + 1) #[.string ⟨#[]⟩] 44 := by rw [hw2]; exact HQ3.o.other _ _ HNE3.o
 have HB2 : Hid (Below w.heap.size w w2) := by show Below _ _ _; rw [hw2]; exact HB1.o.setCell HLO.o _
 have hmo : ((x % y : Nat) : Int) % 4294967296 = ((x % y : Nat) : Int) := by have := Nat.mod_le x y; have := HX.o; omega
 have hmo1 : 0 <= ((x % y : Nat) : Int) := by omega
 have hmo2 : ((x % y : Nat) : Int) < 65536 := by have := Nat.mod_le x y; have := HX.o; omega
 have HFR : Hid (∀ W, Below w2.heap.size w2 W -> Calls Tryz.prog 33 #[.slice (some ⟨bx, 0, none⟩) 1 1] W fun e w' => e = .returned (.agg #[.string (natB (x / y))]) /\ Below W.heap.size W w') := fun W hW => from1_any (x / y) (by have := Nat.div_le_self x y; have := HX.o; omega) bx W (kb.later hW)
 generalize ((x % y : Nat) : Int) = rm at *;have HK2 := lh k2;have HK3 := lh k3;clear hw2 kb k2 k3 cz zz;go_wp2_with fail;refine (HFR.o _ (Below.refl _ _)).mono ?_;rintro e w3 ⟨rfl, hb3⟩;have HK2' := lh (HK2.o.later hb3);have HK3' := lh (HK3.o.later hb3);have HB3 := lh (HB2.o.trans (hb3.mono HB2.o.size));clear hb3;go_wp2_with fail;refine (HOF.o _).mono ?_;rintro e w4 ⟨rfl, hb4⟩;have k2 := HK2'.out.later hb4;have k3 := HK3'.out.later hb4;have HB4 := lh (HB3.o.trans (hb4.mono HB3.o.size));have r2 := k2.cell 0;have f2 := k2.fr 0;have z2 := k2.lt;have r3 := k3.cell 0;have f3 := k3.fr 0;have z3 := k3.lt
 generalize hd1 : natB (x / y) = d1 at *;generalize hd2 : natB (x % y) = d2 at *;have HD1 := lh hd1;have HD2 := lh hd2;clear hd1 hd2
 obtain ⟨V, hV⟩ : ∃ V, V = ((w4.setCell ⟨w.heap.size + 1 + 1, 0, none⟩ (.string d1)).setCell ⟨w.heap.size + 1 + 1 + 1, 0, none⟩ (.string d2)) := ⟨_, rfl⟩
 have V2 : Blk V (w.heap.size + 1 + 1) #[.string d1] 44 := by rw [hV]; exact (k2.set 0 _).other _ _ (by simp)
 have V3 : Blk V (w.heap.size + 1 + 1 + 1) #[.string d2] 44 := by rw [hV]; exact (k3.other _ _ (by simp)).set 0 _
 have HV : Hid (Below w.heap.size w V) := by show Below _ _ _; rw [hV]; exact (HB4.o.setCell (by show w.heap.size <= w.heap.size + 1 + 1; omega) _).setCell (by show w.heap.size <= w.heap.size + 1 + 1 + 1; omega) _
 have HVV := lh hV;have e2 := V2.cell 0;have e3 := V3.cell 0;clear hb4 k2 k3 V2 V3 hV;go_wp2;rw [<- HVV.o];exact bodyPost_ret (v := .tuple #[.agg #[.string d1], .agg #[.string d2], .bool true]) (by simp [results, Tryz.results30, go_sem, e2, e3]) rfl ⟨by rw [HD1.o, HD2.o], HV.o⟩
def ctv (c : Ct) : Value := .agg #[.string (natB c.e), .string (natB c.o)]
def ctc (c : Ct) : List Value := [.string (natB c.e), .string (natB c.o)]
theorem ctc_len (c : Ct) : (ctc c).length = 2 := rfl
theorem le_mul_lt {a b c d x : Nat} (h1 : a <= c) (h2 : b <= d) (h : c * d < x) : a * b < x := Nat.lt_of_le_of_lt (Nat.mul_le_mul h1 h2) h
theorem hboth_any (a b : Ct) (w : World) (ha : a.s < 65536) (hb : b.s < 65536) (hab : a.s * b.s < 65536) :
 Calls Tryz.prog 55 #[ctv a, ctv b] w fun e w' => e = .returned (ctv (bothN a b)) /\ Below w.heap.size w w' := by
 have hS := bothN_s a b;unfold Ct.s at hS ha hb hab;have HM1 := lh (fun V => mul_any a.e b.e (by omega) (by omega) (le_mul_lt (by omega) (by omega) hab) V);have HM2 := lh (fun V => mul_any a.o b.o (by omega) (by omega) (le_mul_lt (by omega) (by omega) hab) V);have HM3 := lh (fun V => mul_any a.e b.o (by omega) (by omega) (le_mul_lt (by omega) (by omega) hab) V);have HM4 := lh (fun V => mul_any a.o b.e (by omega) (by omega) (le_mul_lt (by omega) (by omega) hab) V);have HA1 := lh (fun V => nadd_any (a.e * b.e) (a.o * b.o) (le_mul_lt (by omega) (by omega) hab) (le_mul_lt (by omega) (by omega) hab) (by simp only [bothN] at hS; omega) V)
 have HA2 := lh (fun V => nadd_any (a.e * b.o) (a.o * b.e) (le_mul_lt (by omega) (by omega) hab) (le_mul_lt (by omega) (by omega) hab) (by simp only [bothN] at hS; omega) V);have HR : Hid (ctv (bothN a b) = .agg #[.string (natB (a.e * b.e + a.o * b.o)), .string (natB (a.e * b.o + a.o * b.e))]) := rfl;clear hS ha hb hab;unfold ctv natv at *;generalize natB (a.e * b.e + a.o * b.o) = t1 at *;generalize natB (a.e * b.o + a.o * b.e) = t2 at *;generalize natB (a.e * b.e) = s1 at *;generalize natB (a.o * b.o) = s2 at *;generalize natB (a.e * b.o) = s3 at *;generalize natB (a.o * b.e) = s4 at *;generalize natB a.e = ae at *
 generalize natB a.o = ao at *;generalize natB b.e = be at *;generalize natB b.o = bo at *
 obtain ⟨W, hW⟩ : ∃ W, W = ((w.alloc (.cells #[.string ae, .string ao] 77)).alloc (.cells #[.string be, .string bo] 77)).alloc (.cells #[.string ⟨#[]⟩, .string ⟨#[]⟩] 77) := ⟨_, rfl⟩
 have hbw : Below w.heap.size w W := by rw [hW]; exact (((Below.refl _ _).alloc (Nat.le_refl _) _).alloc (by simp only [World.size_alloc]; omega) _).alloc (by simp only [World.size_alloc]; omega) _
 have q0 : Blk W w.heap.size #[.string ae, .string ao] 77 := by rw [hW]; exact ((Blk.new _ _ _).alloc _).alloc _
 have q1 : Blk W (w.heap.size + 1) #[.string be, .string bo] 77 := by rw [hW]; exact (Blk.new' _ (by simp only [World.size_alloc]) _ _).alloc _
 have q2 : Blk W (w.heap.size + 2) #[.string ⟨#[]⟩, .string ⟨#[]⟩] 77 := by rw [hW]; exact Blk.new' _ (by simp only [World.size_alloc]) _ _
 have HBW := lh hbw;have Q2 := lh q2;have k0 := q0.cell 0;have k1 := q0.cell 1;have k2 := q1.cell 0;have k3 := q1.cell 1
 have HKS : Hid (∀ w' : World, Kp (fun y => y = w.heap.size + 2) W w' -> (fun w' => w'.cell? ⟨w.heap.size, 0, none⟩ = some (.string ae) /\ w'.cell? ⟨w.heap.size, 1, none⟩ = some (.string ao) /\ w'.cell? ⟨w.heap.size + 1, 0, none⟩ = some (.string be) /\ w'.cell? ⟨w.heap.size + 1, 1, none⟩ = some (.string bo)) w') := lh fun w' hb => ⟨hb.cell k0 (by simp), hb.cell k1 (by simp), hb.cell k2 (by simp), hb.cell k3 (by simp)⟩
 clear hbw q0 q1 q2 k0 k1 k2 k3;go_enter Tryz.func55, Tryz.ntmps55;go_wp2_with fail;rw [<- hW];clear hW;refine wp_region_held_drew (S := (fun w' => w'.cell? ⟨w.heap.size, 0, none⟩ = some (.string ae) /\ w'.cell? ⟨w.heap.size, 1, none⟩ = some (.string ao) /\ w'.cell? ⟨w.heap.size + 1, 0, none⟩ = some (.string be) /\ w'.cell? ⟨w.heap.size + 1, 1, none⟩ = some (.string bo))) (by kernel_rfl) ?_ (fun hHeld => ?_)
 ·try dsimp only
  exact HKS.o _ (Kp.below (Below.refl _ _).drew)
 refine tkV 0 5 rfl rfl ?_; try simp only [tkS]
 refine tkV 1 6 rfl rfl ?_; try simp only [tkS]
 refine tkV 2 7 rfl rfl ?_; try simp only [tkS]
 refine tkV 3 8 rfl rfl ?_; try simp only [tkS]
 refine tkV 5 10 rfl rfl ?_; try simp only [tkS]
 refine tkV 6 11 rfl rfl ?_; try simp only [tkS]
 refine tkV 7 12 rfl rfl ?_; try simp only [tkS]
 refine tkV 8 13 rfl rfl ?_; try simp only [tkS]
 refine tkV 11 16 rfl rfl ?_; try simp only [tkS]
 refine tkV 12 17 rfl rfl ?_; try simp only [tkS]
 refine tkV 13 18 rfl rfl ?_; try simp only [tkS]
 refine tkV 14 19 rfl rfl ?_; try simp only [tkS]
 refine tkV 16 21 rfl rfl ?_; try simp only [tkS]
 refine tkV 17 22 rfl rfl ?_; try simp only [tkS]
 refine tkV 18 23 rfl rfl ?_; try simp only [tkS]
 refine tkV 19 24 rfl rfl ?_; try simp only [tkS]
 refine tkR 4 (.cons rfl (fun K hK => ?_) .nil);go_simp;go_at_call 32
 with_reducible refine Calls.mono (HM1.o _) ?_
 rintro e w5 ⟨rfl, hb5⟩;have hw5 : Below W.heap.size W w5 := Below.trans (Below.refl W.heap.size W).drew (Below.mono hb5 (Below.size (Below.refl W.heap.size W).drew));clear hb5;go_wp2_with fail;refine hK.out _ _ ?_ (fun hHeld => ?_)
 ·try dsimp only
  exact HKS.o _ (Kp.below hw5)
 clear hK K
 try simp only [tkS]
 refine tkR 9 (.cons rfl (fun K hK => ?_) .nil);go_simp;go_at_call 32
 with_reducible refine Calls.mono (HM2.o _) ?_
 rintro e w6 ⟨rfl, hb6⟩;have hw6 : Below W.heap.size W w6 := Below.trans hw5 (Below.mono hb6 (Below.size hw5));clear hb6;go_wp2_with fail;refine hK.out _ _ ?_ (fun hHeld => ?_)
 ·try dsimp only
  exact HKS.o _ (Kp.below hw6)
 clear hK K
 try simp only [tkS]
 refine tkR 10 (.cons rfl (fun K hK => ?_) .nil);go_simp;go_at_call 28
 with_reducible refine Calls.mono (HA1.o _) ?_
 rintro e w7 ⟨rfl, hb7⟩;have hw7 : Below W.heap.size W w7 := Below.trans hw6 (Below.mono hb7 (Below.size hw6));clear hb7;go_wp2_with fail;refine hK.out _ _ ?_ (fun hHeld => ?_)
 ·try dsimp only
  exact HKS.o _ (Kp.below hw7)
 clear hK K
 try simp only [tkS]
 refine tkR 15 (.cons rfl (fun K hK => ?_) .nil);go_simp;go_at_call 32
 with_reducible refine Calls.mono (HM3.o _) ?_
 rintro e w8 ⟨rfl, hb8⟩;have hw8 : Below W.heap.size W w8 := Below.trans hw7 (Below.mono hb8 (Below.size hw7));clear hb8;go_wp2_with fail;refine hK.out _ _ ?_ (fun hHeld => ?_)
 ·try dsimp only
  exact HKS.o _ (Kp.below hw8)
 clear hK K
 try simp only [tkS]
 refine tkR 20 (.cons rfl (fun K hK => ?_) .nil);go_simp;go_at_call 32
 with_reducible refine Calls.mono (HM4.o _) ?_
 rintro e w9 ⟨rfl, hb9⟩;have hw9 : Below W.heap.size W w9 := Below.trans hw8 (Below.mono hb9 (Below.size hw8));clear hb9;go_wp2_with fail;refine hK.out _ _ ?_ (fun hHeld => ?_)
 ·try dsimp only
  exact HKS.o _ (Kp.below hw9)
 clear hK K
 try simp only [tkS]
 refine tkR 21 (.cons rfl (fun K hK => ?_) .nil);go_simp;go_at_call 28
 with_reducible refine Calls.mono (HA2.o _) ?_
 rintro e w10 ⟨rfl, hb10⟩;have hw10 : Below W.heap.size W w10 := Below.trans hw9 (Below.mono hb10 (Below.size hw9));clear hb10;go_wp2_with fail;refine hK.out _ _ ?_ (fun hHeld => ?_)
 ·try dsimp only
  exact HKS.o _ (Kp.below hw10)
 clear hK K
 try simp only [tkS]
 refine tkV 22 27 rfl rfl ?_; try simp only [tkS]
 have q9 := Q2.o.later hw10;have e0 := q9.cell 0;have e1 := q9.cell 1;have f0 := q9.fr 0;have f1 := q9.fr 1;have ez := q9.lt;have hk10 : Kp (fun y => y = w.heap.size + 2) W w10 := Kp.below hw10;refine tkR 23 (.cons rfl (fun K hK => ?_) .nil);go_simp;refine hK.out _ _ ?_ (fun hHeld => ?_)
 ·try dsimp only
  exact HKS.o _ ((hk10.trans (Kp.setCell _ _ _ rfl)).trans (Kp.setCell _ _ _ rfl))
 clear hK K
 try simp only [tkS]
 refine wpAnyH_done (by kernel_rfl) ?_ _;go_wp2_with fail;have q10 := (q9.set 0 (.string t1)).set 1 (.string t2);have g0 := q10.cell 0;have g1 := q10.cell 1;rw [show w.heap.size + 2 = w.heap.size + 1 + 1 from rfl] at g0 g1;exact bodyPost_ret (v := .agg #[.string t1, .string t2]) (by simp [results, Tryz.results55, go_sem, g0, g1]) rfl ⟨by rw [HR.o], ((HBW.o.trans (hw10.mono HBW.o.size)).setCell (show w.heap.size <= w.heap.size + 2 by omega) _).setCell (show w.heap.size <= w.heap.size + 2 by omega) _⟩
theorem free_any (all odd : St) (w : World) (hs : all.ok) (ht : odd.ok) (ha : all.a < 256) (hb : all.b = 0) (h8 : lenA all <= 8) (hk : all.cut odd ≠ St.zero -> 1 <= lenA all) :
 Calls Tryz.prog 56 #[stv all, stv odd] w fun e w' => e = .returned (ctv (freeN (lenA all) (!eqSt (all.cut odd) St.zero))) /\ Below w.heap.size w w' := by
 have HLN := lh (fun V => vlen_any all V ha hb);have HCU := lh (fun V => zqw all odd V hs ht)
 have hq : ∀ w : World, (binOp .eql 34 (.agg #[.int .u64 ((all.cut odd).a : Int), .int .u64 ((all.cut odd).b : Int)]) (.agg #[.int .u64 0, .int .u64 0])).run Tryz.prog w = .ok (.bool (eqSt (all.cut odd) St.zero)) w := fun w => znv _ St.zero w
 have hgd := ze9;have HP := lh (fun V => pow2_any (lenA all) h8 V)
 have HQ : Hid (1 <= lenA all -> ∀ V : World, Calls Tryz.prog 31 #[.int .i64 ((lenA all : Int) - 1)] V fun e w' => e = .returned (natv (2 ^ (lenA all - 1))) /\ Below V.heap.size V w') := fun h V => by
  have h1 := pow2_any (lenA all - 1) (by omega) V;rw [show ((lenA all - 1 : Nat) : Int) = (lenA all : Int) - 1 by omega] at h1;exact h1
 have HK : Hid (eqSt (all.cut odd) St.zero = false -> 1 <= lenA all) := fun h => hk (by simpa [eqSt] using h)
 have HF : Hid (∀ m, freeN (lenA all) m = if m then ⟨2 ^ (lenA all - 1), 2 ^ (lenA all - 1)⟩ else ⟨2 ^ lenA all, 0⟩) := fun _ => rfl
 have e0 : natB 0 = ⟨#[]⟩ := rfl;have h8' := h8;have HBW : Hid (Below w.heap.size w (((w.alloc (.cells #[.int .u64 (all.a : Int), .int .u64 (all.b : Int)] 34)).alloc (.cells #[.int .u64 (odd.a : Int), .int .u64 (odd.b : Int)] 34)).alloc (.cells #[.string ⟨#[]⟩, .string ⟨#[]⟩] 77))) := (((Below.refl _ _).alloc (Nat.le_refl _) _).alloc (by simp) _).alloc (by simp; omega) _
 obtain ⟨W, hW⟩ : ∃ W, W = (((w.alloc (.cells #[.int .u64 (all.a : Int), .int .u64 (all.b : Int)] 34)).alloc (.cells #[.int .u64 (odd.a : Int), .int .u64 (odd.b : Int)] 34)).alloc (.cells #[.string ⟨#[]⟩, .string ⟨#[]⟩] 77)) := ⟨_, rfl⟩
 have q0 : Blk W w.heap.size #[.int .u64 (all.a : Int), .int .u64 (all.b : Int)] 34 := by rw [hW]; exact ((Blk.new _ _ _).alloc _).alloc _
 have q1 : Blk W (w.heap.size + 1) #[.int .u64 (odd.a : Int), .int .u64 (odd.b : Int)] 34 := by rw [hW]; exact (Blk.new' _ (by simp only [World.size_alloc]) _ _).alloc _
 have q2 : Blk W (w.heap.size + 1 + 1) #[.string ⟨#[]⟩, .string ⟨#[]⟩] 77 := by rw [hW]; exact Blk.new' _ (by simp only [World.size_alloc]) _ _
 have Q0 := lh q0;have Q1 := lh q1;have Q2 := lh q2;rw [<- hW] at HBW;clear hs ht ha hb h8 hk q0 q1 q2;have HK8 := lh h8';clear h8';generalize lenA all = k at *;generalize hst : all.cut odd = st at *
 have hz : eqSt st St.zero = true \/ eqSt st St.zero = false := by cases eqSt st St.zero <;> simp
 rcases hz with hz | hz
 case' inl =>
  rw [hz] at hq ⊢;have HR : Hid (freeN k (!true) = ⟨2 ^ k, 0⟩) := HF.o _;have HR2 := lh hz;unfold natv at HP;rw [HR.o];unfold ctv;simp only;rw [e0];generalize natB (2 ^ k) = s1 at *;clear e0 HQ HK HF HR hst hz;go_enter Tryz.func56, Tryz.ntmps56;go_wp2_with fail;rw [<- hW];clear hW;refine (HLN.o _).mono ?_;rintro e w4 ⟨rfl, hb4⟩;have p0 := (Q0.o.later hb4).cell 0;have p1 := (Q0.o.later hb4).cell 1;have p2 := (Q1.o.later hb4).cell 0;have p3 := (Q1.o.later hb4).cell 1;have pl := (Q1.o.later hb4).lt;go_wp2_with fail;refine (HCU.o _).mono ?_;rintro e w5 ⟨rfl, hb5⟩;have hb45 := hb4.trans (hb5.mono hb4.size)
  clear hb4 hb5 p0 p1 p2 p3 pl;go_wp2_with fail;refine (HP.o _).mono ?_;rintro e w6 ⟨rfl, hb6⟩;have hb46 := hb45.trans (hb6.mono hb45.size);have q6 := Q2.o.later hb46;have d0 := q6.cell 0;have d1 := q6.cell 1;have f0 := q6.fr 0;have f1 := q6.fr 1;have ez := q6.lt;clear hb45 hb6;go_wp2_with fail;have g0 := ((q6.set 0 (.string s1)).set 1 (.string ⟨#[]⟩)).cell 0;have g1 := ((q6.set 0 (.string s1)).set 1 (.string ⟨#[]⟩)).cell 1;exact bodyPost_ret (v := .agg #[.string s1, .string ⟨#[]⟩]) (by simp [results, Tryz.results56, go_sem, g0, g1]) rfl ⟨rfl, ((HBW.o.trans (hb46.mono HBW.o.size)).setCell (show w.heap.size <= w.heap.size + 1 + 1 by omega) _).setCell (show w.heap.size <= w.heap.size + 1 + 1 by omega) _⟩
 case' inr =>
  rw [hz] at hq ⊢;have HR : Hid (freeN k (!false) = ⟨2 ^ (k - 1), 2 ^ (k - 1)⟩) := HF.o _;have HP := lh (HQ.o (HK.o hz));unfold natv at HP;rw [HR.o];unfold ctv;simp only;generalize natB (2 ^ (k - 1)) = s1 at *;have HKB : Hid (1 <= k) := HK.o hz;clear e0 HQ HK HF HR hst hz;go_enter Tryz.func56, Tryz.ntmps56;go_wp2_with fail;rw [<- hW];clear hW;refine (HLN.o _).mono ?_;rintro e w4 ⟨rfl, hb4⟩;have p0 := (Q0.o.later hb4).cell 0;have p1 := (Q0.o.later hb4).cell 1;have p2 := (Q1.o.later hb4).cell 0;have p3 := (Q1.o.later hb4).cell 1;have pl := (Q1.o.later hb4).lt;go_wp2_with fail;refine (HCU.o _).mono ?_
  rintro e w5 ⟨rfl, hb5⟩;have hb45 := hb4.trans (hb5.mono hb4.size);clear hb4 hb5 p0 p1 p2 p3 pl;have hk1 := HKB.o;have hk8 := HK8.o;go_wp2_with fail;refine (HP.o _).mono ?_;rintro e w6 ⟨rfl, hb6⟩;have hb46 := hb45.trans (hb6.mono hb45.size);clear hb45 hb6;go_wp2_with fail;refine (HP.o _).mono ?_;rintro e w7 ⟨rfl, hb7⟩;have hb47 := hb46.trans (hb7.mono hb46.size);have q6 := Q2.o.later hb47;have d0 := q6.cell 0;have d1 := q6.cell 1;have f0 := q6.fr 0;have f1 := q6.fr 1;have ez := q6.lt;clear hb46 hb7;go_wp2_with fail;have g0 := ((q6.set 0 (.string s1)).set 1 (.string s1)).cell 0;have g1 := ((q6.set 0 (.string s1)).set 1 (.string s1)).cell 1
  exact bodyPost_ret (v := .agg #[.string s1, .string s1]) (by simp [results, Tryz.results56, go_sem, g0, g1]) rfl ⟨rfl, ((HBW.o.trans (hb47.mono HBW.o.size)).setCell (show w.heap.size <= w.heap.size + 1 + 1 by omega) _).setCell (show w.heap.size <= w.heap.size + 1 + 1 by omega) _⟩
end Go.Proofs.YtflhbcnhaeijbaaGreatDoor
