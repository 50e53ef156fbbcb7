/- Parts of the proofs of laws. Texts: Nat7. -/
import Derived.Test.YtlleofjjdhfgcaaGreatDoorYA6
set_option maxHeartbeats 8000000
set_option maxRecDepth 100000
set_option linter.all false
namespace Go.Proofs.YtlleofjjdhfgcaaGreatDoor
open Go.RowKit Cen
theorem ycb (a c b d : UInt8) (h : ¬ (a = b /\ c = d)) (w : World) : Calls Tryz.prog 59 #[.agg #[.string ⟨#[a, c]⟩], .agg #[.string ⟨#[b, d]⟩]] w fun e w' => e = .returned (.int .i64 (if c.toNat < d.toNat \/ (c = d /\ a.toNat < b.toNat) then -1 else 1)) /\ Below w.heap.size w w' := by
 have h1 : ((⟨#[a, c]⟩ : ByteArray).toList == (⟨#[b, d]⟩ : ByteArray).toList) = false := by
  rw [beq_eq_false_iff_ne];intro h2;rw [ByteArray.toList_eq, ByteArray.toList_eq] at h2;simp at h2;exact h h2
 rcases Nat.lt_trichotomy c.toNat d.toNat with hcd | hcd | hcd
 ·rw [if_pos (.inl hcd)]
  have hne : ¬ c = d := fun e => by rw [e] at hcd; exact Nat.lt_irrefl _ hcd
  have hb2 : (c == d) = false := by simpa using hne
  clear h;go_enter Tryz.func59, Tryz.ntmps59;go_wp2_with fail;refine wp_loop_rounds 1 ?_;rw [rounds_succ];go_wp2_with fail;go_region;go_wp2_with fail;go_ret;exact ⟨rfl, (((Below.refl _ w).alloc (Nat.le_refl _) _).alloc (by simp) _).drew⟩
 ·have hcd2 : c = d := UInt8.toNat_inj.1 hcd;subst hcd2;have hni : ¬ c.toNat < c.toNat := Nat.lt_irrefl _
  have hab : a.toNat ≠ b.toNat := fun e => h ⟨UInt8.toNat_inj.1 e, rfl⟩
  have hne : ¬ a = b := fun e => h ⟨e, rfl⟩
  have hb2 : (a == b) = false := by simpa using hne
  clear h
  rcases Nat.lt_or_ge a.toNat b.toNat with hab2 | hab2
  ·rw [if_pos (.inr ⟨rfl, hab2⟩)];go_enter Tryz.func59, Tryz.ntmps59;go_wp2_with fail;refine wp_loop_rounds 2 ?_;rw [rounds_succ];go_wp2_with fail;go_region;go_wp2_with fail;go_region;go_wp2_with fail;rw [rounds_succ];go_wp2_with fail;go_region;go_wp2_with fail;go_ret;exact ⟨rfl, (((Below.refl _ w).alloc (Nat.le_refl _) _).alloc (by simp) _).drew.drew.drew⟩
  have hab3 : b.toNat < a.toNat := by omega
  have hab4 : ¬ a.toNat < b.toNat := by omega
  rw [if_neg (by rintro (h | ⟨_, h⟩) <;> omega)];go_enter Tryz.func59, Tryz.ntmps59;go_wp2_with fail;refine wp_loop_rounds 2 ?_;rw [rounds_succ];go_wp2_with fail;go_region;go_wp2_with fail;go_region;go_wp2_with fail;rw [rounds_succ];go_wp2_with fail;go_region;go_wp2_with fail;go_region;go_wp2_with fail;go_ret;exact ⟨rfl, (((Below.refl _ w).alloc (Nat.le_refl _) _).alloc (by simp) _).drew.drew.drew.drew⟩
 have hcd2 : ¬ c.toNat < d.toNat := by omega
 rw [if_neg (by rintro (h | ⟨h, _⟩) <;> first | omega | (rw [h] at hcd; exact absurd hcd (Nat.lt_irrefl _)))]
 have hne : ¬ c = d := fun e => by rw [e] at hcd; exact Nat.lt_irrefl _ hcd
 have hb2 : (c == d) = false := by simpa using hne
 clear h;go_enter Tryz.func59, Tryz.ntmps59;go_wp2_with fail;refine wp_loop_rounds 1 ?_;rw [rounds_succ];go_wp2_with fail;go_region;go_wp2_with fail;go_region;go_wp2_with fail;go_ret;exact ⟨rfl, (((Below.refl _ w).alloc (Nat.le_refl _) _).alloc (by simp) _).drew.drew⟩
theorem zqt (x y : Nat) (hx : x < 65536) (hy : y < 65536) (w : World) : Calls Tryz.prog 59 #[natv x, natv y] w fun e w' => e = .returned (.int .i64 (if x = y then 0 else if x < y then -1 else 1)) /\ Below w.heap.size w w' := by
 rcases Nat.decEq x y with hne | rfl
 ·rw [if_neg hne]
  by_cases hs : (natB x).size = (natB y).size
  ·have h1 := zcu x (by omega);have h2 := zcu y (by omega)
   by_cases h256 : x <= 256 /\ y <= 256
   ·have := zt6 x y h256.1 h256.2 w
    rwa [if_neg hne] at this
   have hx1 : 256 <= x /\ 256 <= y := by
    rw [h1, h2] at hs
    (repeat' split at hs) <;> first | omega | (exfalso; omega)
   have e1 : (UInt8.ofNat (x % 256)).toNat = x % 256 := by simp
   have e2 : (UInt8.ofNat (y % 256)).toNat = y % 256 := by simp
   have e3 : (UInt8.ofNat (x / 256)).toNat = x / 256 := by simp; omega
   have e4 : (UInt8.ofNat (y / 256)).toNat = y / 256 := by simp; omega
   have h := ycb (UInt8.ofNat (x % 256)) (UInt8.ofNat (x / 256)) (UInt8.ofNat (y % 256)) (UInt8.ofNat (y / 256)) (fun ⟨a, b⟩ => by
    have a' := congrArg UInt8.toNat a;have b' := congrArg UInt8.toNat b;rw [e1, e2] at a';rw [e3, e4] at b'
    omega) w
   have e5 : UInt8.ofNat (x / 256) = UInt8.ofNat (y / 256) ↔ x / 256 = y / 256 := ⟨fun e => by have := congrArg UInt8.toNat e; rwa [e3, e4] at this, fun e => by rw [e]⟩
   rw [e1, e2, e3, e4] at h;simp only [e5] at h
   have e6 : (x / 256 < y / 256 \/ x / 256 = y / 256 /\ x % 256 < y % 256) ↔ x < y := by omega
   simp only [e6] at h;unfold natv natB
   rwa [if_neg (by omega), if_neg (by omega), if_neg (by omega), if_neg (by omega)]
  have h := ycd (natB x) (natB y) hs w
  have e : ((natB x).size < (natB y).size) ↔ x < y := by
   have h1 := zcu x (by omega);have h2 := zcu y (by omega);rw [h1, h2] at hs ⊢
   (repeat' split at hs) <;> (repeat' split) <;> omega
  simp only [e] at h;exact h
 rw [if_pos rfl];exact ycc (natB x) w
theorem zyq (x y : Nat) (hx : x < 65536) (hyx : y <= x) (w : World) : Calls Tryz.prog 42 #[natv x, natv y] w fun e w' => e = .returned (.tuple #[natv (x - y), .bool true]) /\ Below w.heap.size w w' := by
 have hwx := zcy x (by omega);have hwy := zcy y (by omega)
 have hcm : ∀ W, Calls Tryz.prog 59 #[natv x, natv y] W fun e w' => (∃ z : Int, e = .returned (.int .i64 z) /\ 0 <= z) /\ Below W.heap.size W w' := fun W =>
  (zqt x y hx (by omega) W).mono fun e w' h => ⟨⟨_, h.1, by split <;> (try split) <;> omega⟩, h.2⟩
 have HX := lh hx;have HY := lh hyx;clear hx hyx;unfold natv at hwx hwy hcm ⊢;generalize natB x = s at *;generalize natB y = t at *;have HWX := lh hwx;have HWY := lh hwy;have HCM := lh hcm;clear hwx hwy hcm;go_enter Tryz.func42, Tryz.ntmps42;go_wp2_with fail;obtain ⟨W, hW⟩ := nm ((((w.alloc (.cells #[.string s] 44)).alloc (.cells #[.string t] 44)).alloc (.cells #[.string ⟨#[]⟩] 44)))
 have k0 : Blk W w.heap.size #[.string s] 44 := by rw [hW]; exact (((Blk.new w #[.string s] 44).alloc _).alloc _)
 have k1 : Blk W (w.heap.size + 1) #[.string t] 44 := by rw [hW]; exact ((Blk.new' (w.alloc (.cells #[.string s] 44)) (b := w.heap.size + 1) (by simp) #[.string t] 44).alloc _)
 have k2 : Blk W (w.heap.size + 1 + 1) #[.string ⟨#[]⟩] 44 := by rw [hW]; exact Blk.new' ((w.alloc (.cells #[.string s] 44)).alloc (.cells #[.string t] 44)) (b := w.heap.size + 1 + 1) (by simp) #[.string ⟨#[]⟩] 44
 have hb : Below w.heap.size w W := by rw [hW]; exact (((Below.refl _ w).alloc (Nat.le_refl _) _).alloc (by simp) _).alloc (by simp; omega) _
 rw [<- hW];clear hW;refine (HCM.o _).mono ?_;rintro e W1 ⟨⟨z, rfl, hz⟩, hb1⟩
 have hz' : ¬ z < 0 := by omega
 have k0 := k0.later hb1;have k1 := k1.later hb1;have k2 := k2.later hb1;have HB := lh (hb.trans (hb1.mono hb.size));have HK2 := lh k2;have c0 : W1.cell? ⟨w.heap.size, 0, none⟩ = some (.string s) := k0.cell 0;have c1 : W1.cell? ⟨w.heap.size + 1, 0, none⟩ = some (.string t) := k1.cell 0;have z0 := k0.lt;have z1 := k1.lt;clear k0 k1 k2 hb hb1 hz HCM
 go_upto_region 3 with fail
 go_cut [6, 7] (fun sx sy wx => WD W1 x y sx sy wx)
 case first =>
  go_region_with (go_at_call 45
                  first
                   | (with_reducible refine Calls.mono (HWX.o W1.drew) ?_
                      rintro e v5 ⟨rfl, hk5, hb5⟩;have hv5 : Below W1.heap.size W1 v5 := (Below.refl W1.heap.size W1).drew.trans (hb5.mono (Nat.le_refl _));have d0 := zab hv5 c0
                      have d1 := zab hv5 c1)
                   | (with_reducible refine Calls.mono (HWY.o _) ?_
                      rintro e v6 ⟨rfl, hk6, hb6⟩))
  all_goals (go_wp2_with fail; go_meet; exact WD.one hk5 hv5 hk6 hb6)
 obtain ⟨bx, bz, rfl, rfl, hlo, hxz, hX, hZ, hbw⟩ := hcut.ex;have HLO : Hid (w.heap.size <= bx) := Nat.le_trans HB.o.size hlo
 have HNE : Hid (bx ≠ w.heap.size + 1 + 1) := by have := HK2.o.lt; show bx ≠ _; omega
 have hK := HK2.o.later hbw;have HK := lh hK;have rc := hK.cell 0;have rf := hK.fr 0;have rl := hK.lt;have HBW := bt HB hbw;have hZB := hbw.size;clear hcut c0 c1 z0 z1 HWX HWY HK2 HB;have hx := HX.o;have hy := HY.o;have lx := hX.lt;have lz := hZ.lt
 rcases Nat.eq_zero_or_pos x with rfl | hx0
 ·have hy0 : y = 0 := by omega
  subst hy0;rw [show wl 0 = 0 from rfl];clear hX hZ;go_wp2_with fail;refine wp_loop_rounds 1 ?_;rw [rounds_succ];go_wp2_with fail;refine Calls.mono (zzk _ _ _) ?_;rintro e w1 ⟨rfl, hb1⟩;have k1 := HK.o.later hb1;have HK1 := lh k1;have HB1 := bt HBW hb1;have rc := k1.cell 0;have rf := k1.fr 0;have rl := k1.lt;clear k1 hb1;unfold natv;go_wp2;have e0 : (w1.setCell ⟨w.heap.size + 1 + 1, 0, none⟩ (.string (natB 0))).cell? ⟨w.heap.size + 1 + 1, 0, none⟩ = some (.string (natB 0)) := (HK1.o.set 0 _).cell 0;exact bodyPost_ret (v := .tuple #[.agg #[.string (natB 0)], .bool true]) (by simp [results, Tryz.results42, go_sem, e0]) rfl ⟨rfl, HB1.o.setCell (show w.heap.size <= (⟨w.heap.size + 1 + 1, 0, none⟩ : Addr).block by simp; omega) _⟩
 have e1 : wl x = 1 := if_neg (by omega);have e3 : zb9 x = #[.int .u32 (x : Int)] := if_neg (by omega);rw [e3] at hX;have cx := hX.cell 0;have fx := hX.fr 0;have HXB := lh hX
 rcases Nat.eq_zero_or_pos y with rfl | hy0
 ·rw [e1, show wl 0 = 0 from rfl]
  have a1 : (x : Int) % 4294967296 = x := by omega
  have a2 : (x : Int) / 9223372036854775808 = 0 := by omega
  clear e1 e3 hX hZ hx0;go_wp2_with fail;refine wp_loop_rounds 2 ?_;rw [rounds_succ];go_wp2;rw [rounds_succ];go_wp2_with fail;clear cx fx;have kb : Blk (wc.setCell ⟨bx, 0, none⟩ (.int .u32 ((x : Nat) : Int))) bx #[.int .u32 ((x : Nat) : Int)] 104 := HXB.o.set 0 _;have hk2 := HK.o.other ⟨bx, 0, none⟩ (.int .u32 ((x : Nat) : Int)) HNE.o;have HBS := lh (HBW.o.setCell (p := ⟨bx, 0, none⟩) HLO.o (.int .u32 ((x : Nat) : Int)))
  skip
  generalize wc.setCell ⟨bx, 0, none⟩ (.int .u32 ((x : Nat) : Int)) = wd at *;refine Calls.mono (zbb (x) (by have := HX.o; omega) bx _ kb) ?_;rintro e w1 ⟨rfl, hb1⟩;have k1 := hk2.later hb1;have HK1 := lh k1;have HB1 := bt HBS hb1;have rc := k1.cell 0;have rf := k1.fr 0;have rl := k1.lt;clear k1 hb1 kb hk2;unfold natv;go_wp2;have e0 : (w1.setCell ⟨w.heap.size + 1 + 1, 0, none⟩ (.string (natB (x)))).cell? ⟨w.heap.size + 1 + 1, 0, none⟩ = some (.string (natB (x))) := (HK1.o.set 0 _).cell 0;exact bodyPost_ret (v := .tuple #[.agg #[.string (natB (x))], .bool true]) (by simp [results, Tryz.results42, go_sem, e0]) rfl ⟨by first | rfl | rw [Nat.sub_zero], HB1.o.setCell (show w.heap.size <= (⟨w.heap.size + 1 + 1, 0, none⟩ : Addr).block by simp; omega) _⟩
 rw [e1, show wl y = 1 from if_neg (by omega)];have e4 : zb9 y = #[.int .u32 (y : Int)] := if_neg (by omega);rw [e4] at hZ;have cy := hZ.cell 0
 have hsub : ((x - y : Nat) : Int) = (x : Int) - (y : Int) := by omega
 have a1 : ((x : Int) - (y : Int)) % 4294967296 = (x : Int) - (y : Int) := by omega
 have a2 : ((x : Int) - (y : Int)) / 9223372036854775808 = 0 := by omega
 have HSB := lh hsub;clear e1 e3 e4 hX hZ hx0 hy0 hsub;go_wp2_with fail;refine wp_loop_rounds 2 ?_;rw [rounds_succ];go_wp2;rw [rounds_succ];go_wp2_with fail;clear cx fx cy;have kb : Blk (wc.setCell ⟨bx, 0, none⟩ (.int .u32 ((x - y : Nat) : Int))) bx #[.int .u32 ((x - y : Nat) : Int)] 104 := HXB.o.set 0 _;have hk2 := HK.o.other ⟨bx, 0, none⟩ (.int .u32 ((x - y : Nat) : Int)) HNE.o;have HBS := lh (HBW.o.setCell (p := ⟨bx, 0, none⟩) HLO.o (.int .u32 ((x - y : Nat) : Int)));rw [<- HSB.o];generalize wc.setCell ⟨bx, 0, none⟩ (.int .u32 ((x - y : Nat) : Int)) = wd at *;refine Calls.mono (zbb (x - y) (by have := HX.o; omega) bx _ kb) ?_
 rintro e w1 ⟨rfl, hb1⟩;have k1 := hk2.later hb1;have HK1 := lh k1;have HB1 := bt HBS hb1;have rc := k1.cell 0;have rf := k1.fr 0;have rl := k1.lt;clear k1 hb1 kb hk2;unfold natv;go_wp2;have e0 : (w1.setCell ⟨w.heap.size + 1 + 1, 0, none⟩ (.string (natB (x - y)))).cell? ⟨w.heap.size + 1 + 1, 0, none⟩ = some (.string (natB (x - y))) := (HK1.o.set 0 _).cell 0;exact bodyPost_ret (v := .tuple #[.agg #[.string (natB (x - y))], .bool true]) (by simp [results, Tryz.results42, go_sem, e0]) rfl ⟨by first | rfl | rw [Nat.sub_zero], HB1.o.setCell (show w.heap.size <= (⟨w.heap.size + 1 + 1, 0, none⟩ : Addr).block by simp; omega) _⟩
theorem zxa (x y : Nat) (hx : x < 65536) (hy : 1 <= y) (hy2 : y <= 256) (w : World) : Calls Tryz.prog 43 #[natv x, natv y] w fun e w' => e = .returned (.tuple #[natv (x / y), natv (x % y), .bool true]) /\ Below w.heap.size w w' := by
 have hwx := zcy x (by omega);have hwy := zcy y (by omega)
 have hcm : ∀ W, Calls Tryz.prog 59 #[natv x, natv y] W fun e w' => e = .returned (.int .i64 (if x = y then 0 else if x < y then -1 else 1)) /\ Below W.heap.size W w' := fun W => zqt x y hx (by omega) W
 have hof : ∀ W, Calls Tryz.prog 18 #[.int .u64 ((x % y : Nat) : Int)] W fun e w' => e = .returned (natv (x % y)) /\ Below W.heap.size W w' := fun W => zvn (x % y) (by have := Nat.mod_le x y; omega) W
 have HX := lh hx;have HY := lh hy;have HY2 := lh hy2;have HNX : Hid (natB 0 = ⟨#[]⟩) := rfl
 have HLT : Hid (x < y -> x / y = 0 /\ x % y = x) := fun h => ⟨Nat.div_eq_of_lt h, Nat.mod_eq_of_lt h⟩
 have hws : wl y = 1 := if_neg (by omega);have hwc : zb9 y = #[.int .u32 (y : Int)] := if_neg (by omega);have HWS := lh hws;have HWC := lh hwc;clear hx hy hy2 hws hwc;unfold natv at hwx hwy hcm hof ⊢;generalize hs : natB x = s at *;generalize natB y = t at *;have HS := lh hs;have HWX := lh hwx;have HWY := lh hwy;have HCM := lh hcm;have HOF := lh hof;clear hwx hwy hcm hof hs;go_enter Tryz.func43, Tryz.ntmps43;go_wp2_with fail;obtain ⟨W, hW⟩ := nm (((((w.alloc (.cells #[.string s] 44)).alloc (.cells #[.string t] 44)).alloc (.cells #[.string ⟨#[]⟩] 44)).alloc (.cells #[.string ⟨#[]⟩] 44)))
 have k0 : Blk W w.heap.size #[.string s] 44 := by rw [hW]; exact ((((Blk.new w #[.string s] 44).alloc _).alloc _).alloc _)
 have k1 : Blk W (w.heap.size + 1) #[.string t] 44 := by rw [hW]; exact (((Blk.new' (w.alloc (.cells #[.string s] 44)) (b := w.heap.size + 1) (by simp) #[.string t] 44).alloc _).alloc _)
 have k2 : Blk W (w.heap.size + 1 + 1) #[.string ⟨#[]⟩] 44 := by rw [hW]; exact (Blk.new' ((w.alloc (.cells #[.string s] 44)).alloc (.cells #[.string t] 44)) (b := w.heap.size + 1 + 1) (by simp) #[.string ⟨#[]⟩] 44).alloc _
 have k3 : Blk W (w.heap.size + 1 + 1 + 1) #[.string ⟨#[]⟩] 44 := by rw [hW]; exact Blk.new' (((w.alloc (.cells #[.string s] 44)).alloc (.cells #[.string t] 44)).alloc (.cells #[.string ⟨#[]⟩] 44)) (b := w.heap.size + 1 + 1 + 1) (by simp) #[.string ⟨#[]⟩] 44
 have hb : Below w.heap.size w W := by rw [hW]; exact ((((Below.refl _ w).alloc (Nat.le_refl _) _).alloc (by simp) _).alloc (by simp; omega) _).alloc (by simp; omega) _
 rw [<- hW];clear hW;have HB := lh hb;have HK0 := lh k0;have HK1 := lh k1;have HK2 := lh k2;have HK3 := lh k3;have c0 : W.cell? ⟨w.heap.size, 0, none⟩ = some (.string s) := k0.cell 0;have c1 : W.cell? ⟨w.heap.size + 1, 0, none⟩ = some (.string t) := k1.cell 0;have z0 := k0.lt;have z1 := k1.lt;clear k0 k1 k2 k3 hb
 go_upto_region 1 with fail
 go_cut [7, 8] (fun sx sy wx => WD W x y sx sy wx)
 case first =>
  go_region_with (go_at_call 45
                  first
                   | (with_reducible refine Calls.mono (HWX.o W.drew) ?_
                      rintro e v5 ⟨rfl, hk5, hb5⟩;have hv5 : Below W.heap.size W v5 := (Below.refl W.heap.size W).drew.trans (hb5.mono (Nat.le_refl _));have d0 := zab hv5 c0
                      have d1 := zab hv5 c1)
                   | (with_reducible refine Calls.mono (HWY.o _) ?_
                      rintro e v6 ⟨rfl, hk6, hb6⟩))
  all_goals (go_wp2_with fail; go_meet; exact WD.one hk5 hv5 hk6 hb6)
 obtain ⟨bx, bz, rfl, rfl, hlo, hxz, hX, hZ, hbw⟩ := hcut.ex;have HLO : Hid (w.heap.size <= bx) := Nat.le_trans HB.o.size hlo
 have HNE2 : Hid (bx ≠ w.heap.size + 1 + 1) := by have := HK2.o.lt; show bx ≠ _; omega
 have HNE3 : Hid (bx ≠ w.heap.size + 1 + 1 + 1) := by have := HK3.o.lt; show bx ≠ _; omega
 have k0 := HK0.o.later hbw;have k1 := HK1.o.later hbw;have k2 := HK2.o.later hbw;have k3 := HK3.o.later hbw;have HBW := bt HB hbw;have c0 : wc.cell? ⟨w.heap.size, 0, none⟩ = some (.string s) := k0.cell 0;have c1 : wc.cell? ⟨w.heap.size + 1, 0, none⟩ = some (.string t) := k1.cell 0;have z0 := k0.lt;have z1 := k1.lt;have HZX := lh hX;rw [HWC.o] at hZ;have HZZ := lh hZ;have K0 := lh k0;have K2 := lh k2;have K3 := lh k3;rw [HWS.o];clear hcut hbw hlo hxz hX hZ k0 k1 k2 k3 HWX HWY HK0 HK1 HK2 HK3 HB;go_wp2_with fail;refine (HCM.o _).mono ?_;rintro e w1 ⟨rfl, hb1⟩;have q0 := K0.o.later hb1;have q2 := K2.o.later hb1
 have q3 := K3.o.later hb1;have qx := HZX.o.later hb1;have qz := HZZ.o.later hb1;have HB1 := bt HBW hb1;clear hb1 c0 c1 z0 z1 HCM
 by_cases hlt : x < y
 ·rw [if_neg (by omega), if_pos hlt];have c0 : w1.cell? ⟨w.heap.size, 0, none⟩ = some (.string s) := q0.cell 0;have z0 := q0.lt;have r2 := q2.cell 0;have f2 := q2.fr 0;have z2 := q2.lt;have r3 := q3.cell 0;have f3 := q3.fr 0;have z3 := q3.lt;have HQ2 := lh q2;have HQ3 := lh q3;have HL := lh (HLT.o hlt);clear hlt q0 q2 q3 qx qz;go_wp2_with fail;go_region;obtain ⟨V, hV⟩ := nm (((w1.setCell ⟨w.heap.size + 1 + 1, 0, none⟩ (.string ⟨#[]⟩)).setCell ⟨w.heap.size + 1 + 1 + 1, 0, none⟩ (.string s)).drew)
  have hbd : ∀ {a b : World}, Below a.heap.size a a.drew := fun {a b} => (Below.refl _ _).drew
  have V2 : Blk V (w.heap.size + 1 + 1) #[.string ⟨#[]⟩] 44 := by rw [hV]; exact ((HQ2.o.set 0 _).other _ _ (by simp)).later (Below.refl _ _).drew
  have V3 : Blk V (w.heap.size + 1 + 1 + 1) #[.string s] 44 := by rw [hV]; exact ((HQ3.o.other _ _ (by simp)).set 0 _).later (Below.refl _ _).drew
  have HV : Hid (Below w.heap.size w V) := by show Below _ _ _; rw [hV]; exact ((HB1.o.setCell (by show w.heap.size <= w.heap.size + 1 + 1; omega) _).setCell (by show w.heap.size <= w.heap.size + 1 + 1 + 1; omega) _).drew
  rw [<- hV];have e2 := V2.cell 0;have e3 := V3.cell 0;clear hV hbd V2 V3;go_wp2;exact bodyPost_ret (v := .tuple #[.agg #[.string ⟨#[]⟩], .agg #[.string s], .bool true]) (by simp [results, Tryz.results43, go_sem, e2, e3]) rfl ⟨by rw [HL.o.1, HL.o.2, HS.o, HNX.o], HV.o⟩
 have hcm : ∀ z : Int, z = (if x = y then 0 else if x < y then -1 else 1) -> 0 <= z := fun z hz => by rw [hz]; split <;> (try split) <;> omega
 have hcm := hcm _ rfl;generalize (if x = y then (0 : Int) else if x < y then -1 else 1) = z at *
 have hz' : ¬ z < 0 := by omega
 have hx1 : wl x = 1 := if_neg (by have := HY.o; omega);have hx2 : zb9 x = #[.int .u32 (x : Int)] := if_neg (by have := HY.o; omega);rw [hx2] at qx;have HQX := lh qx;have HQ2 := lh q2;have HQ3 := lh q3;rw [hx1];have cz := qz.cell 0;have zz := qz.lt;clear hcm hlt hx1 hx2 qx q0 q2 q3 qz;go_wp2_with fail;refine (zqe x y (by have := HX.o; omega) HY.o (by have := HY2.o; omega) bx w1 HQX.o).mono ?_;rintro e w2 ⟨rfl, hw2⟩
 have kb : Blk w2 bx #[.int .u32 ((x / y : Nat) : Int)] 104 := by rw [hw2]; exact HQX.o.set 0 _
 have k2 : Blk w2 (w.heap.size + 1 + 1) #[.string ⟨#[]⟩] 44 := by rw [hw2]; exact HQ2.o.other _ _ HNE2.o
 have k3 : Blk w2 (w.heap.size + 1 + 1 + 1) #[.string ⟨#[]⟩] 44 := by rw [hw2]; exact HQ3.o.other _ _ HNE3.o
 have HB2 : Hid (Below w.heap.size w w2) := by show Below _ _ _; rw [hw2]; exact HB1.o.setCell HLO.o _
 have hmo : ((x % y : Nat) : Int) % 4294967296 = ((x % y : Nat) : Int) := by have := Nat.mod_le x y; have := HX.o; omega
 have hmo1 : 0 <= ((x % y : Nat) : Int) := by omega
 have hmo2 : ((x % y : Nat) : Int) < 65536 := by have := Nat.mod_le x y; have := HX.o; omega
 have HFR : Hid (∀ W, Below w2.heap.size w2 W -> Calls Tryz.prog 44 #[.slice (some ⟨bx, 0, none⟩) 1 1] W fun e w' => e = .returned (.agg #[.string (natB (x / y))]) /\ Below W.heap.size W w') := fun W hW => zbb (x / y) (by have := Nat.div_le_self x y; have := HX.o; omega) bx W (kb.later hW)
 generalize ((x % y : Nat) : Int) = rm at *;have HK2 := lh k2;have HK3 := lh k3;clear hw2 kb k2 k3 cz zz;go_wp2_with fail;refine (HFR.o _ (Below.refl _ _)).mono ?_;rintro e w3 ⟨rfl, hb3⟩;have HK2' := lh (HK2.o.later hb3);have HK3' := lh (HK3.o.later hb3);have HB3 := bt HB2 hb3;clear hb3;go_wp2_with fail;refine (HOF.o _).mono ?_;rintro e w4 ⟨rfl, hb4⟩;have k2 := HK2'.out.later hb4;have k3 := HK3'.out.later hb4;have HB4 := bt HB3 hb4;have r2 := k2.cell 0;have f2 := k2.fr 0;have z2 := k2.lt;have r3 := k3.cell 0;have f3 := k3.fr 0;have z3 := k3.lt;generalize hd1 : natB (x / y) = d1 at *;generalize hd2 : natB (x % y) = d2 at *
 have HD1 := lh hd1;have HD2 := lh hd2;clear hd1 hd2;obtain ⟨V, hV⟩ := nm (((w4.setCell ⟨w.heap.size + 1 + 1, 0, none⟩ (.string d1)).setCell ⟨w.heap.size + 1 + 1 + 1, 0, none⟩ (.string d2)))
 have V2 : Blk V (w.heap.size + 1 + 1) #[.string d1] 44 := by rw [hV]; exact (k2.set 0 _).other _ _ (by simp)
 have V3 : Blk V (w.heap.size + 1 + 1 + 1) #[.string d2] 44 := by rw [hV]; exact (k3.other _ _ (by simp)).set 0 _
 have HV : Hid (Below w.heap.size w V) := by show Below _ _ _; rw [hV]; exact (HB4.o.setCell (by show w.heap.size <= w.heap.size + 1 + 1; omega) _).setCell (by show w.heap.size <= w.heap.size + 1 + 1 + 1; omega) _
 have HVV := lh hV;have e2 := V2.cell 0;have e3 := V3.cell 0;clear hb4 k2 k3 V2 V3 hV;go_wp2;rw [<- HVV.o];exact bodyPost_ret (v := .tuple #[.agg #[.string d1], .agg #[.string d2], .bool true]) (by simp [results, Tryz.results43, go_sem, e2, e3]) rfl ⟨by rw [HD1.o, HD2.o], HV.o⟩
end Go.Proofs.YtlleofjjdhfgcaaGreatDoor
