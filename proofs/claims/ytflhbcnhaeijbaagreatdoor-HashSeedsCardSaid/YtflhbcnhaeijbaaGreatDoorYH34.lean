/- Part of the proofs that laws return true for every input, where the tables that the rows list are laid. Texts: Nat3, Nat4, Nat5. -/
import Derived.Test.YtflhbcnhaeijbaaGreatDoorYH33
import Derived.Laws.BitsAllLaws
import Derived.Deep.RegionHeld3
import Derived.Deep.DeepCutAuto
import Derived.Deep.CutRange
import Derived.Laws.IdiomCopy
import Derived.Test.YtflhbcnhaeijbaaGreatDoorYH1
set_option maxHeartbeats 8000000
set_option maxRecDepth 100000
set_option linter.unusedSimpArgs false
set_option linter.unusedVariables false
namespace Go.Proofs.YtflhbcnhaeijbaaGreatDoor
open Go.RowKit Cen
theorem of_any (x : Nat) (hx : x < 65536) (w : World) : Calls Tryz.prog 13 #[.int .u64 (x : Int)] w fun e w' => e = .returned (natv x) /\ Below w.heap.size w w' := by
 have e1 : (x : Int) % 4294967296 = x := by omega
 have e2 : (x : Int) / 4294967296 = 0 := by omega
 go_enter Tryz.func13, Tryz.ntmps13;go_wp2_with fail;refine (from2_any x hx (w.heap.size + 1) _ (Blk.new' _ (by simp) _ _)).mono ?_;rintro e w1 ⟨rfl, hb1⟩;have k : Blk w1 w.heap.size #[.string ⟨#[]⟩] 44 := ((Blk.new w _ _).alloc _).later hb1;have HK := lh k;have hc := k.cell 0;have hf := k.fr 0;have hl := k.lt;have HB := lh hb1;clear k hb1;unfold natv;go_wp2;have e0 : (w1.setCell ⟨w.heap.size, 0, none⟩ (.string (natB x))).cell? ⟨w.heap.size, 0, none⟩ = some (.string (natB x)) := (HK.o.set 0 _).cell 0;exact bodyPost_ret (v := .agg #[.string (natB x)]) (by simp [results, Tryz.results13, go_sem, e0]) rfl ⟨rfl, ((((Below.refl w.heap.size w).alloc (Nat.le_refl _) _).alloc (by simp) _).trans (HB.o.mono (by simp; omega))).setCell (show w.heap.size <= (⟨w.heap.size, 0, none⟩ : Addr).block from Nat.le_refl _) _⟩
theorem pow2_0 (w : World) : Calls Tryz.prog 31 #[.int .i64 0] w fun e w' => e = .returned (natv 1) /\ Below w.heap.size w w' := by
 have hmk1 := mkw1;go_enter Tryz.func31, Tryz.ntmps31;go_wp2_with fail;refine (from1_any 1 (by omega) (w.heap.size + 1) _ (Blk.new' _ (by simp) _ _)).mono ?_;rintro e w1 ⟨rfl, hb1⟩;have k : Blk w1 w.heap.size #[.string ⟨#[]⟩] 44 := ((Blk.new w _ _).alloc _).later hb1;have HK := lh k;have hc := k.cell 0;have hf := k.fr 0;have hl := k.lt;have HB := lh hb1;clear k hb1;unfold natv;go_wp2;have e0 : (w1.setCell ⟨w.heap.size, 0, none⟩ (.string (natB 1))).cell? ⟨w.heap.size, 0, none⟩ = some (.string (natB 1)) := (HK.o.set 0 _).cell 0;exact bodyPost_ret (v := .agg #[.string (natB 1)]) (by simp [results, Tryz.results31, go_sem, e0]) rfl ⟨rfl, ((((Below.refl w.heap.size w).alloc (Nat.le_refl _) _).alloc (by simp) _).trans (HB.o.mono (by simp; omega))).setCell (show w.heap.size <= (⟨w.heap.size, 0, none⟩ : Addr).block from Nat.le_refl _) _⟩
theorem pow2_1 (w : World) : Calls Tryz.prog 31 #[.int .i64 1] w fun e w' => e = .returned (natv 2) /\ Below w.heap.size w w' := by
 have hmk1 := mkw1;go_enter Tryz.func31, Tryz.ntmps31;go_wp2_with fail;refine (from1_any 2 (by omega) (w.heap.size + 1) _ (Blk.new' _ (by simp) _ _)).mono ?_;rintro e w1 ⟨rfl, hb1⟩;have k : Blk w1 w.heap.size #[.string ⟨#[]⟩] 44 := ((Blk.new w _ _).alloc _).later hb1;have HK := lh k;have hc := k.cell 0;have hf := k.fr 0;have hl := k.lt;have HB := lh hb1;clear k hb1;unfold natv;go_wp2;have e0 : (w1.setCell ⟨w.heap.size, 0, none⟩ (.string (natB 2))).cell? ⟨w.heap.size, 0, none⟩ = some (.string (natB 2)) := (HK.o.set 0 _).cell 0;exact bodyPost_ret (v := .agg #[.string (natB 2)]) (by simp [results, Tryz.results31, go_sem, e0]) rfl ⟨rfl, ((((Below.refl w.heap.size w).alloc (Nat.le_refl _) _).alloc (by simp) _).trans (HB.o.mono (by simp; omega))).setCell (show w.heap.size <= (⟨w.heap.size, 0, none⟩ : Addr).block from Nat.le_refl _) _⟩
theorem pow2_2 (w : World) : Calls Tryz.prog 31 #[.int .i64 2] w fun e w' => e = .returned (natv 4) /\ Below w.heap.size w w' := by
 have hmk1 := mkw1;go_enter Tryz.func31, Tryz.ntmps31;go_wp2_with fail;refine (from1_any 4 (by omega) (w.heap.size + 1) _ (Blk.new' _ (by simp) _ _)).mono ?_;rintro e w1 ⟨rfl, hb1⟩;have k : Blk w1 w.heap.size #[.string ⟨#[]⟩] 44 := ((Blk.new w _ _).alloc _).later hb1;have HK := lh k;have hc := k.cell 0;have hf := k.fr 0;have hl := k.lt;have HB := lh hb1;clear k hb1;unfold natv;go_wp2;have e0 : (w1.setCell ⟨w.heap.size, 0, none⟩ (.string (natB 4))).cell? ⟨w.heap.size, 0, none⟩ = some (.string (natB 4)) := (HK.o.set 0 _).cell 0;exact bodyPost_ret (v := .agg #[.string (natB 4)]) (by simp [results, Tryz.results31, go_sem, e0]) rfl ⟨rfl, ((((Below.refl w.heap.size w).alloc (Nat.le_refl _) _).alloc (by simp) _).trans (HB.o.mono (by simp; omega))).setCell (show w.heap.size <= (⟨w.heap.size, 0, none⟩ : Addr).block from Nat.le_refl _) _⟩
theorem pow2_3 (w : World) : Calls Tryz.prog 31 #[.int .i64 3] w fun e w' => e = .returned (natv 8) /\ Below w.heap.size w w' := by
 have hmk1 := mkw1;go_enter Tryz.func31, Tryz.ntmps31;go_wp2_with fail;refine (from1_any 8 (by omega) (w.heap.size + 1) _ (Blk.new' _ (by simp) _ _)).mono ?_;rintro e w1 ⟨rfl, hb1⟩;have k : Blk w1 w.heap.size #[.string ⟨#[]⟩] 44 := ((Blk.new w _ _).alloc _).later hb1;have HK := lh k;have hc := k.cell 0;have hf := k.fr 0;have hl := k.lt;have HB := lh hb1;clear k hb1;unfold natv;go_wp2;have e0 : (w1.setCell ⟨w.heap.size, 0, none⟩ (.string (natB 8))).cell? ⟨w.heap.size, 0, none⟩ = some (.string (natB 8)) := (HK.o.set 0 _).cell 0;exact bodyPost_ret (v := .agg #[.string (natB 8)]) (by simp [results, Tryz.results31, go_sem, e0]) rfl ⟨rfl, ((((Below.refl w.heap.size w).alloc (Nat.le_refl _) _).alloc (by simp) _).trans (HB.o.mono (by simp; omega))).setCell (show w.heap.size <= (⟨w.heap.size, 0, none⟩ : Addr).block from Nat.le_refl _) _⟩
theorem pow2_4 (w : World) : Calls Tryz.prog 31 #[.int .i64 4] w fun e w' => e = .returned (natv 16) /\ Below w.heap.size w w' := by
 have hmk1 := mkw1;go_enter Tryz.func31, Tryz.ntmps31;go_wp2_with fail;refine (from1_any 16 (by omega) (w.heap.size + 1) _ (Blk.new' _ (by simp) _ _)).mono ?_;rintro e w1 ⟨rfl, hb1⟩;have k : Blk w1 w.heap.size #[.string ⟨#[]⟩] 44 := ((Blk.new w _ _).alloc _).later hb1;have HK := lh k;have hc := k.cell 0;have hf := k.fr 0;have hl := k.lt;have HB := lh hb1;clear k hb1;unfold natv;go_wp2;have e0 : (w1.setCell ⟨w.heap.size, 0, none⟩ (.string (natB 16))).cell? ⟨w.heap.size, 0, none⟩ = some (.string (natB 16)) := (HK.o.set 0 _).cell 0;exact bodyPost_ret (v := .agg #[.string (natB 16)]) (by simp [results, Tryz.results31, go_sem, e0]) rfl ⟨rfl, ((((Below.refl w.heap.size w).alloc (Nat.le_refl _) _).alloc (by simp) _).trans (HB.o.mono (by simp; omega))).setCell (show w.heap.size <= (⟨w.heap.size, 0, none⟩ : Addr).block from Nat.le_refl _) _⟩
theorem pow2_5 (w : World) : Calls Tryz.prog 31 #[.int .i64 5] w fun e w' => e = .returned (natv 32) /\ Below w.heap.size w w' := by
 have hmk1 := mkw1;go_enter Tryz.func31, Tryz.ntmps31;go_wp2_with fail;refine (from1_any 32 (by omega) (w.heap.size + 1) _ (Blk.new' _ (by simp) _ _)).mono ?_;rintro e w1 ⟨rfl, hb1⟩;have k : Blk w1 w.heap.size #[.string ⟨#[]⟩] 44 := ((Blk.new w _ _).alloc _).later hb1;have HK := lh k;have hc := k.cell 0;have hf := k.fr 0;have hl := k.lt;have HB := lh hb1;clear k hb1;unfold natv;go_wp2;have e0 : (w1.setCell ⟨w.heap.size, 0, none⟩ (.string (natB 32))).cell? ⟨w.heap.size, 0, none⟩ = some (.string (natB 32)) := (HK.o.set 0 _).cell 0;exact bodyPost_ret (v := .agg #[.string (natB 32)]) (by simp [results, Tryz.results31, go_sem, e0]) rfl ⟨rfl, ((((Below.refl w.heap.size w).alloc (Nat.le_refl _) _).alloc (by simp) _).trans (HB.o.mono (by simp; omega))).setCell (show w.heap.size <= (⟨w.heap.size, 0, none⟩ : Addr).block from Nat.le_refl _) _⟩
theorem pow2_6 (w : World) : Calls Tryz.prog 31 #[.int .i64 6] w fun e w' => e = .returned (natv 64) /\ Below w.heap.size w w' := by
 have hmk1 := mkw1;go_enter Tryz.func31, Tryz.ntmps31;go_wp2_with fail;refine (from1_any 64 (by omega) (w.heap.size + 1) _ (Blk.new' _ (by simp) _ _)).mono ?_;rintro e w1 ⟨rfl, hb1⟩;have k : Blk w1 w.heap.size #[.string ⟨#[]⟩] 44 := ((Blk.new w _ _).alloc _).later hb1;have HK := lh k;have hc := k.cell 0;have hf := k.fr 0;have hl := k.lt;have HB := lh hb1;clear k hb1;unfold natv;go_wp2;have e0 : (w1.setCell ⟨w.heap.size, 0, none⟩ (.string (natB 64))).cell? ⟨w.heap.size, 0, none⟩ = some (.string (natB 64)) := (HK.o.set 0 _).cell 0;exact bodyPost_ret (v := .agg #[.string (natB 64)]) (by simp [results, Tryz.results31, go_sem, e0]) rfl ⟨rfl, ((((Below.refl w.heap.size w).alloc (Nat.le_refl _) _).alloc (by simp) _).trans (HB.o.mono (by simp; omega))).setCell (show w.heap.size <= (⟨w.heap.size, 0, none⟩ : Addr).block from Nat.le_refl _) _⟩
theorem pow2_7 (w : World) : Calls Tryz.prog 31 #[.int .i64 7] w fun e w' => e = .returned (natv 128) /\ Below w.heap.size w w' := by
 have hmk1 := mkw1;go_enter Tryz.func31, Tryz.ntmps31;go_wp2_with fail;refine (from1_any 128 (by omega) (w.heap.size + 1) _ (Blk.new' _ (by simp) _ _)).mono ?_;rintro e w1 ⟨rfl, hb1⟩;have k : Blk w1 w.heap.size #[.string ⟨#[]⟩] 44 := ((Blk.new w _ _).alloc _).later hb1;have HK := lh k;have hc := k.cell 0;have hf := k.fr 0;have hl := k.lt;have HB := lh hb1;clear k hb1;unfold natv;go_wp2;have e0 : (w1.setCell ⟨w.heap.size, 0, none⟩ (.string (natB 128))).cell? ⟨w.heap.size, 0, none⟩ = some (.string (natB 128)) := (HK.o.set 0 _).cell 0;exact bodyPost_ret (v := .agg #[.string (natB 128)]) (by simp [results, Tryz.results31, go_sem, e0]) rfl ⟨rfl, ((((Below.refl w.heap.size w).alloc (Nat.le_refl _) _).alloc (by simp) _).trans (HB.o.mono (by simp; omega))).setCell (show w.heap.size <= (⟨w.heap.size, 0, none⟩ : Addr).block from Nat.le_refl _) _⟩
theorem pow2_8 (w : World) : Calls Tryz.prog 31 #[.int .i64 8] w fun e w' => e = .returned (natv 256) /\ Below w.heap.size w w' := by
 have hmk1 := mkw1;go_enter Tryz.func31, Tryz.ntmps31;go_wp2_with fail;refine (from1_any 256 (by omega) (w.heap.size + 1) _ (Blk.new' _ (by simp) _ _)).mono ?_;rintro e w1 ⟨rfl, hb1⟩;have k : Blk w1 w.heap.size #[.string ⟨#[]⟩] 44 := ((Blk.new w _ _).alloc _).later hb1;have HK := lh k;have hc := k.cell 0;have hf := k.fr 0;have hl := k.lt;have HB := lh hb1;clear k hb1;unfold natv;go_wp2;have e0 : (w1.setCell ⟨w.heap.size, 0, none⟩ (.string (natB 256))).cell? ⟨w.heap.size, 0, none⟩ = some (.string (natB 256)) := (HK.o.set 0 _).cell 0;exact bodyPost_ret (v := .agg #[.string (natB 256)]) (by simp [results, Tryz.results31, go_sem, e0]) rfl ⟨rfl, ((((Below.refl w.heap.size w).alloc (Nat.le_refl _) _).alloc (by simp) _).trans (HB.o.mono (by simp; omega))).setCell (show w.heap.size <= (⟨w.heap.size, 0, none⟩ : Addr).block from Nat.le_refl _) _⟩
theorem pow2_any (k : Nat) (hk : k <= 8) (w : World) : Calls Tryz.prog 31 #[.int .i64 (k : Int)] w fun e w' => e = .returned (natv (2 ^ k)) /\ Below w.heap.size w w' := by
 rcases (show k = 0 \/ k = 1 \/ k = 2 \/ k = 3 \/ k = 4 \/ k = 5 \/ k = 6 \/ k = 7 \/ k = 8 by omega) with rfl | rfl | rfl | rfl | rfl | rfl | rfl | rfl | rfl
 ·exact pow2_0 w
 ·exact pow2_1 w
 ·exact pow2_2 w
 ·exact pow2_3 w
 ·exact pow2_4 w
 ·exact pow2_5 w
 ·exact pow2_6 w
 ·exact pow2_7 w
 exact pow2_8 w
theorem cmp_e (s : ByteArray) (w : World) : Calls Tryz.prog 35 #[.agg #[.string s], .agg #[.string s]] w fun e w' => e = .returned (.int .i64 0) /\ Below w.heap.size w w' := by
 go_enter Tryz.func35, Tryz.ntmps35;go_wp2;go_ret;exact ⟨rfl, ((Below.refl _ w).alloc (Nat.le_refl _) _).alloc (by simp) _⟩
theorem cmp_l (s t : ByteArray) (h : s.size ≠ t.size) (w : World) : Calls Tryz.prog 35 #[.agg #[.string s], .agg #[.string t]] w fun e w' => e = .returned (.int .i64 (if s.size < t.size then -1 else 1)) /\ Below w.heap.size w w' := by
 have h1 : (s.toList == t.toList) = false := by
  rw [beq_eq_false_iff_ne];intro h2;rw [ByteArray.toList_eq, ByteArray.toList_eq] at h2;have h3 := congrArg List.length h2;rw [Array.length_toList, Array.length_toList] at h3;exact h h3
 have h3 : ((s.size : Int) != (t.size : Int)) = true := by rw [bne_iff_ne]; omega
 clear h;go_enter Tryz.func35, Tryz.ntmps35;go_wp2
 ·go_ret;exact ⟨rfl, ((Below.refl _ w).alloc (Nat.le_refl _) _).alloc (by simp) _⟩
 go_ret;exact ⟨rfl, ((Below.refl _ w).alloc (Nat.le_refl _) _).alloc (by simp) _⟩
theorem cmp_b (a b : UInt8) (h : a ≠ b) (w : World) : Calls Tryz.prog 35 #[.agg #[.string ⟨#[a]⟩], .agg #[.string ⟨#[b]⟩]] w fun e w' => e = .returned (.int .i64 (if a.toNat < b.toNat then -1 else 1)) /\ Below w.heap.size w w' := by
 have h1 : ((⟨#[a]⟩ : ByteArray).toList == (⟨#[b]⟩ : ByteArray).toList) = false := by
  rw [beq_eq_false_iff_ne];intro h2;rw [ByteArray.toList_eq, ByteArray.toList_eq] at h2;simp at h2;exact h h2
 have hne : a.toNat ≠ b.toNat := fun e => h (UInt8.toNat_inj.1 e)
 rcases Nat.lt_or_ge a.toNat b.toNat with hab | hab
 ·rw [if_pos hab];have HAB := lh hab;clear hne hab;go_enter Tryz.func35, Tryz.ntmps35;go_wp2;refine wp_loop_rounds 1 ?_;rw [rounds_succ];go_wp2;go_region;go_wp2
  ·go_ret;exact ⟨rfl, (((Below.refl _ w).alloc (Nat.le_refl _) _).alloc (by simp) _).drew⟩
 rw [if_neg (by omega)];have HAB := lh (show b.toNat < a.toNat by omega);clear hne hab;go_enter Tryz.func35, Tryz.ntmps35;go_wp2;refine wp_loop_rounds 1 ?_;rw [rounds_succ];go_wp2;go_region;go_wp2
 ·rename_i hh
  exact absurd hh (Nat.lt_asymm HAB.o)
 go_region;go_wp2
 ·go_ret;exact ⟨rfl, (((Below.refl _ w).alloc (Nat.le_refl _) _).alloc (by simp) _).drew.drew⟩
theorem natB_size (x : Nat) (_hx : x < 65536) : (natB x).size = if x = 0 then 0 else if x < 256 then 1 else 2 := by
 unfold natB
 split
 ·rfl
 split <;> rfl
theorem cmp_any (x y : Nat) (hx : x <= 256) (hy : y <= 256) (w : World) : Calls Tryz.prog 35 #[natv x, natv y] w fun e w' => e = .returned (.int .i64 (if x = y then 0 else if x < y then -1 else 1)) /\ Below w.heap.size w w' := by
 rcases Nat.decEq x y with hne | rfl
 ·rw [if_neg hne]
  by_cases hs : (natB x).size = (natB y).size
  ·have h1 := natB_size x (by omega);have h2 := natB_size y (by omega)
   have hx1 : x ≠ 0 /\ x < 256 /\ y ≠ 0 /\ y < 256 := by
    rw [h1, h2] at hs
    (repeat' split at hs) <;> first | omega | (exfalso; omega)
   have h := cmp_b (UInt8.ofNat x) (UInt8.ofNat y) (fun e => hne (by have := congrArg UInt8.toNat e; simp at this; omega)) w
   have e1 : (UInt8.ofNat x).toNat = x := by simp; omega
   have e2 : (UInt8.ofNat y).toNat = y := by simp; omega
   rw [e1, e2] at h;unfold natv natB
   rwa [if_neg hx1.1, if_neg hx1.2.2.1, if_pos hx1.2.1, if_pos hx1.2.2.2]
  have h := cmp_l (natB x) (natB y) hs w
  have e : ((natB x).size < (natB y).size) ↔ x < y := by
   have h1 := natB_size x (by omega);have h2 := natB_size y (by omega);rw [h1, h2] at hs ⊢
   (repeat' split at hs) <;> (repeat' split) <;> omega
  simp only [e] at h;exact h
 rw [if_pos rfl];exact cmp_e (natB x) w
structure WC (W : World) (x y : Nat) (sx sy : Value) (wx : World) : Prop where
 ex : ∃ bx bz, sx = .slice (some ⟨bx, 0, none⟩) (wl x) (wl x) /\ sy = .slice (some ⟨bz, 0, none⟩) (wl y) (wl y) /\ Blk wx bx (wcells x) 86 /\ Blk wx bz (wcells y) 86 /\ Below W.heap.size W wx
theorem WC.one {W v5 v6 : World} {x y : Nat} (h5 : Blk v5 (W.heap.size + 1) (wcells x) 86) (hb5 : Below W.heap.size W v5) (h6 : Blk v6 (v5.heap.size + 1) (wcells y) 86) (hb6 : Below v5.heap.size v5 v6) :
 WC W x y (.slice (some ⟨W.heap.size + 1, 0, none⟩) (wl x) (wl x)) (.slice (some ⟨v5.heap.size + 1, 0, none⟩) (wl y) (wl y)) v6 :=
 ⟨_, _, rfl, rfl, h5.later hb6, h6, hb5.trans (hb6.mono hb5.size)⟩
theorem mkw2 (w : World) : (Instr.makeSlice 87 (.int .i64 2) (.int .i64 2)).run Tryz.prog w = .ok (.slice (some ⟨w.heap.size, 0, none⟩) 2 2) (w.alloc (.cells #[.int .u32 0, .int .u32 0] 86)) := by kernel_rfl
theorem cp0 (w : World) (d a : Option Addr) (n c k : Nat) : (Builtin.copy_ #[87, 87] 3 #[.slice d n c, .slice a 0 k]).run Tryz.prog w = .ok (.int .i64 0) w :=
 run_copy_none w _ _ _ 86 d a n c 0 k rfl rfl (by simp)
theorem cp1 (w : World) (b : Nat) (v : Int) (k : Nat) (hb : Blk w b #[.int .u32 v] 86) : (Builtin.copy_ #[87, 87] 3 #[.slice (some ⟨w.heap.size, 0, none⟩) 2 2, .slice (some ⟨b, 0, none⟩) 1 k]).run Tryz.prog (w.alloc (.cells #[.int .u32 0, .int .u32 0] 86)) = .ok (.int .i64 1) ((w.alloc (.cells #[.int .u32 0, .int .u32 0] 86)).setCell ⟨w.heap.size, 0, none⟩ (.int .u32 v)) := by
 have kn := Blk.new w #[.int .u32 0, .int .u32 0] 86
 have h := run_copy_cells (P := Tryz.prog) (w.alloc (.cells #[.int .u32 0, .int .u32 0] 86)) 87 87 3 86 w.heap.size 0 2 2 ⟨b, 0, none⟩ 1 k [.int .u32 v] rfl rfl rfl
  (fun j u hj => by
    have hj0 : j = 0 := by rcases j with _ | j <;> simp at hj ⊢
    subst hj0;simp at hj;subst hj
    exact (hb.alloc _).cell 0)
  (fun j hj => by
    have hj0 : j = 0 := by simpa using hj
    subst hj0
    exact Option.isSome_iff_exists.2 ⟨_, kn.cell 0⟩)
  (fun j hj => by
    have hj0 : j = 0 := by simpa using hj
    subst hj0
    exact kn.fr 0)
  (fun u hu => by simp at hu; subst hu; rfl)
 exact h
theorem nadd_any (x y : Nat) (hx : x < 65536) (hy : y < 65536) (hxy : x + y < 65536) (w : World) : Calls Tryz.prog 28 #[natv x, natv y] w fun e w' => e = .returned (natv (x + y)) /\ Below w.heap.size w w' := by
 have HX := lh hx;have HY := lh hy;have hwx := words_any x hx;have hwy := words_any y hy;clear hx hy;unfold natv at hwx hwy ⊢;generalize natB x = s at *;generalize natB y = t at *;have HWX := lh hwx;have HWY := lh hwy;clear hwx hwy;go_enter Tryz.func28, Tryz.ntmps28;go_wp2_with fail
 have k0 := (((Blk.new w #[.string s] 44).alloc (.cells #[.string t] 44)).alloc (.cells #[.string ⟨#[]⟩] 44))
 have k1 := ((Blk.new' (w.alloc (.cells #[.string s] 44)) (b := w.heap.size + 1) (by simp) #[.string t] 44).alloc (.cells #[.string ⟨#[]⟩] 44))
 have k2 := Blk.new' ((w.alloc (.cells #[.string s] 44)).alloc (.cells #[.string t] 44)) (b := w.heap.size + 1 + 1) (by simp) #[.string ⟨#[]⟩] 44;have hb : Below w.heap.size w (((w.alloc (.cells #[.string s] 44)).alloc (.cells #[.string t] 44)).alloc (.cells #[.string ⟨#[]⟩] 44)) := (((Below.refl _ w).alloc (Nat.le_refl _) _).alloc (by simp) _).alloc (by simp; omega) _;generalize (((w.alloc (.cells #[.string s] 44)).alloc (.cells #[.string t] 44)).alloc (.cells #[.string ⟨#[]⟩] 44)) = W at *;have HK2 := lh k2;have HB := lh hb;have c0 : W.cell? ⟨w.heap.size, 0, none⟩ = some (.string s) := k0.cell 0
 have c1 : W.cell? ⟨w.heap.size + 1, 0, none⟩ = some (.string t) := k1.cell 0
 have HKS : Hid (∀ w' : World, Below W.heap.size W w' -> w'.cell? ⟨w.heap.size, 0, none⟩ = some (.string s) /\ w'.cell? ⟨w.heap.size + 1, 0, none⟩ = some (.string t) /\ Below W.heap.size W w') := lh fun w' hb => ⟨zaa hb c0, zaa hb c1, hb⟩
 clear k0 k1 k2 hb
 go_upto_region 2 with fail
 go_cut [5, 6] (fun sx sy wx => WC W x y sx sy wx)
 case first =>
  go_region_with (go_at_call 57
                  first
                   | (with_reducible refine Calls.mono (HWX.o W.drew) ?_
                      rintro e v5 ⟨rfl, hk5, hb5⟩;have hv5 : Below W.heap.size W v5 := (Below.refl W.heap.size W).drew.trans (hb5.mono (Nat.le_refl _));have d0 := zaa hv5 c0
                      have d1 := zaa hv5 c1)
                   | (with_reducible refine Calls.mono (HWY.o _) ?_
                      rintro e v6 ⟨rfl, hk6, hb6⟩))
  all_goals (go_wp2_with fail; go_meet; exact WC.one hk5 hv5 hk6 hb6)
 obtain ⟨bx, bz, rfl, rfl, hX, hZ, hbw⟩ := hcut.ex;have hK := HK2.o.later hbw;have HK := lh hK;have rc := hK.cell 0;have rf := hK.fr 0;have rl := hK.lt;have HBW := lh (HB.o.trans (hbw.mono HB.o.size));clear hcut hbw hK HKS c0 c1 HWX HWY HK2 HB;have hx := HX.o;have hy := HY.o;have lx := hX.lt;have lz := hZ.lt;have HXY := lh hxy
 rcases Nat.eq_zero_or_pos x with rfl | hx0
 ·have e1 : wl 0 = 0 := rfl
  rcases Nat.eq_zero_or_pos y with rfl | hx0
  ·rw [e1];have cp := cp0;have hmk1 := mkw1;clear e1 hX hZ;go_wp2_with fail;refine wp_loop_rounds 1 ?_;rw [rounds_succ];go_wp2_with fail;have kb := Blk.new wc #[.int .u32 (((0 : Nat) : Int))] 86;refine Calls.mono (from1_any (0) (by omega) wc.heap.size _ kb) ?_;rintro e w1 ⟨rfl, hb1⟩;have hbc : Below wc.heap.size wc w1 := ((Below.refl _ wc).alloc (Nat.le_refl _) _).trans (hb1.mono (by simp));have k1 := HK.o.later hbc;have HK1 := lh k1;have HB1 := lh (HBW.o.trans (hbc.mono HBW.o.size));have rc := k1.cell 0;have rf := k1.fr 0;have rl := k1.lt;clear k1 hb1 hbc kb;unfold natv;go_wp2;have e0 : (w1.setCell ⟨w.heap.size + 1 + 1, 0, none⟩ (.string (natB (0)))).cell? ⟨w.heap.size + 1 + 1, 0, none⟩ = some (.string (natB (0))) := (HK1.o.set 0 _).cell 0
   exact bodyPost_ret (v := .agg #[.string (natB (0))]) (by simp [results, Tryz.results28, go_sem, e0]) rfl ⟨rfl, HB1.o.setCell (show w.heap.size <= (⟨w.heap.size + 1 + 1, 0, none⟩ : Addr).block by simp; omega) _⟩
  have e2 : wl y = 1 := if_neg (by omega);have e4 : wcells y = #[.int .u32 (y : Int)] := if_neg (by omega);rw [e1, e2];rw [e4] at hZ;have cx := hZ.cell 0;have cp := cp0;have hmk2 := mkw2
  have a1 : (y : Int) % 4294967296 = y := by omega
  have a2 : (y : Int) / 4294967296 = 0 := by omega
  clear e1 e2 e4 hX hZ hx0;go_wp2_with fail;refine wp_loop_rounds 2 ?_;rw [rounds_succ];go_wp2;go_region;go_wp2;rw [rounds_succ];go_wp2_with fail;have kb := Blk.new wc #[.int .u32 ((y : Int)), .int .u32 0] 86;refine Calls.mono (from2_any (y) (by omega) wc.heap.size _ kb) ?_;rintro e w1 ⟨rfl, hb1⟩;have hbc : Below wc.heap.size wc w1 := ((Below.refl _ wc).alloc (Nat.le_refl _) _).drew.trans (hb1.mono (by simp));have k1 := HK.o.later hbc;have HK1 := lh k1;have HB1 := lh (HBW.o.trans (hbc.mono HBW.o.size));have rc := k1.cell 0;have rf := k1.fr 0;have rl := k1.lt;clear k1 hb1 hbc kb;unfold natv;go_wp2
  have e0 : (w1.setCell ⟨w.heap.size + 1 + 1, 0, none⟩ (.string (natB (y)))).cell? ⟨w.heap.size + 1 + 1, 0, none⟩ = some (.string (natB (y))) := (HK1.o.set 0 _).cell 0;exact bodyPost_ret (v := .agg #[.string (natB (y))]) (by simp [results, Tryz.results28, go_sem, e0]) rfl ⟨by rw [Nat.zero_add], HB1.o.setCell (show w.heap.size <= (⟨w.heap.size + 1 + 1, 0, none⟩ : Addr).block by simp; omega) _⟩
 rcases Nat.eq_zero_or_pos y with rfl | hy0
 ·have e1 : wl 0 = 0 := rfl;have e2 : wl x = 1 := if_neg (by omega);have e4 : wcells x = #[.int .u32 (x : Int)] := if_neg (by omega);rw [e1, e2];rw [e4] at hX;have cx := hX.cell 0;have cp := cp0;have hmk2 := mkw2
  have a1 : (x : Int) % 4294967296 = x := by omega
  have a2 : (x : Int) / 4294967296 = 0 := by omega
  clear e1 e2 e4 hX hZ hx0;go_wp2_with fail;refine wp_loop_rounds 2 ?_;rw [rounds_succ];go_wp2;go_region;go_wp2;rw [rounds_succ];go_wp2_with fail;have kb := Blk.new wc #[.int .u32 ((x : Int)), .int .u32 0] 86;refine Calls.mono (from2_any (x) (by omega) wc.heap.size _ kb) ?_;rintro e w1 ⟨rfl, hb1⟩;have hbc : Below wc.heap.size wc w1 := ((Below.refl _ wc).alloc (Nat.le_refl _) _).drew.trans (hb1.mono (by simp));have k1 := HK.o.later hbc;have HK1 := lh k1;have HB1 := lh (HBW.o.trans (hbc.mono HBW.o.size));have rc := k1.cell 0;have rf := k1.fr 0;have rl := k1.lt;clear k1 hb1 hbc kb;unfold natv;go_wp2
  have e0 : (w1.setCell ⟨w.heap.size + 1 + 1, 0, none⟩ (.string (natB (x)))).cell? ⟨w.heap.size + 1 + 1, 0, none⟩ = some (.string (natB (x))) := (HK1.o.set 0 _).cell 0;exact bodyPost_ret (v := .agg #[.string (natB (x))]) (by simp [results, Tryz.results28, go_sem, e0]) rfl ⟨rfl, HB1.o.setCell (show w.heap.size <= (⟨w.heap.size + 1 + 1, 0, none⟩ : Addr).block by simp; omega) _⟩
 have e1 : wl x = 1 := if_neg (by omega);have e2 : wl y = 1 := if_neg (by omega);have e3 : wcells x = #[.int .u32 (x : Int)] := if_neg (by omega);have e4 : wcells y = #[.int .u32 (y : Int)] := if_neg (by omega);rw [e1, e2];rw [e3] at hX;rw [e4] at hZ;have cx := hX.cell 0;have cp := cp1 wc bz y 1 hZ;have hmk2 := mkw2
 have a0 : (0 : Int) + ((y : Int) + (x : Int)) = ((y : Int) + (x : Int)) := by omega
 have a1 : ((y : Int) + (x : Int)) % 4294967296 = ((y : Int) + (x : Int)) := by omega
 have a2 : ((y : Int) + (x : Int)) / 4294967296 = 0 := by omega
 clear e1 e2 e3 e4 hX hZ hx0 hy0;go_wp2_with fail;refine wp_loop_rounds 2 ?_;rw [rounds_succ];go_wp2;go_region;go_wp2;rw [rounds_succ];go_wp2_with fail
 have ek : (y : Int) + (x : Int) = ((x + y : Nat) : Int) := by omega
 have kb : Blk (wc.alloc (.cells #[.int .u32 ((y : Int) + (x : Int)), .int .u32 0] 86)) wc.heap.size #[.int .u32 ((x + y : Nat) : Int), .int .u32 0] 86 := by rw [<- ek]; exact Blk.new _ _ _
 clear ek;refine Calls.mono (from2_any (x + y) (by omega) wc.heap.size _ kb) ?_;rintro e w1 ⟨rfl, hb1⟩;have hbc : Below wc.heap.size wc w1 := ((Below.refl _ wc).alloc (Nat.le_refl _) _).drew.trans (hb1.mono (by simp));have k1 := HK.o.later hbc;have HK1 := lh k1;have HB1 := lh (HBW.o.trans (hbc.mono HBW.o.size));have rc := k1.cell 0;have rf := k1.fr 0;have rl := k1.lt;clear k1 hb1 hbc kb;unfold natv;go_wp2;have e0 : (w1.setCell ⟨w.heap.size + 1 + 1, 0, none⟩ (.string (natB (x + y)))).cell? ⟨w.heap.size + 1 + 1, 0, none⟩ = some (.string (natB (x + y))) := (HK1.o.set 0 _).cell 0;exact bodyPost_ret (v := .agg #[.string (natB (x + y))]) (by simp [results, Tryz.results28, go_sem, e0]) rfl ⟨rfl, HB1.o.setCell (show w.heap.size <= (⟨w.heap.size + 1 + 1, 0, none⟩ : Addr).block by simp; omega) _⟩
theorem mul_any (x y : Nat) (hx : x < 65536) (hy : y < 65536) (hxy : x * y < 65536) (w : World) : Calls Tryz.prog 32 #[natv x, natv y] w fun e w' => e = .returned (natv (x * y)) /\ Below w.heap.size w w' := by
 have HX := lh hx;have HY := lh hy;have hwx := words_any x hx;have hwy := words_any y hy;clear hx hy;unfold natv at hwx hwy ⊢;generalize natB x = s at *;generalize natB y = t at *;have HWX := lh hwx;have HWY := lh hwy;clear hwx hwy;go_enter Tryz.func32, Tryz.ntmps32;go_wp2_with fail
 have k0 := (((Blk.new w #[.string s] 44).alloc (.cells #[.string t] 44)).alloc (.cells #[.string ⟨#[]⟩] 44))
 have k1 := ((Blk.new' (w.alloc (.cells #[.string s] 44)) (b := w.heap.size + 1) (by simp) #[.string t] 44).alloc (.cells #[.string ⟨#[]⟩] 44))
 have k2 := Blk.new' ((w.alloc (.cells #[.string s] 44)).alloc (.cells #[.string t] 44)) (b := w.heap.size + 1 + 1) (by simp) #[.string ⟨#[]⟩] 44;have hb : Below w.heap.size w (((w.alloc (.cells #[.string s] 44)).alloc (.cells #[.string t] 44)).alloc (.cells #[.string ⟨#[]⟩] 44)) := (((Below.refl _ w).alloc (Nat.le_refl _) _).alloc (by simp) _).alloc (by simp; omega) _;generalize (((w.alloc (.cells #[.string s] 44)).alloc (.cells #[.string t] 44)).alloc (.cells #[.string ⟨#[]⟩] 44)) = W at *;have HK2 := lh k2;have HB := lh hb;have c0 : W.cell? ⟨w.heap.size, 0, none⟩ = some (.string s) := k0.cell 0
 have c1 : W.cell? ⟨w.heap.size + 1, 0, none⟩ = some (.string t) := k1.cell 0
 have HKS : Hid (∀ w' : World, Below W.heap.size W w' -> w'.cell? ⟨w.heap.size, 0, none⟩ = some (.string s) /\ w'.cell? ⟨w.heap.size + 1, 0, none⟩ = some (.string t) /\ Below W.heap.size W w') := lh fun w' hb => ⟨zaa hb c0, zaa hb c1, hb⟩
 clear k0 k1 k2 hb
 go_upto_region 2 with fail
 go_cut [5, 6] (fun sx sy wx => WC W x y sx sy wx)
 case first =>
  go_region_with (go_at_call 57
                  first
                   | (with_reducible refine Calls.mono (HWX.o W.drew) ?_
                      rintro e v5 ⟨rfl, hk5, hb5⟩;have hv5 : Below W.heap.size W v5 := (Below.refl W.heap.size W).drew.trans (hb5.mono (Nat.le_refl _));have d0 := zaa hv5 c0
                      have d1 := zaa hv5 c1)
                   | (with_reducible refine Calls.mono (HWY.o _) ?_
                      rintro e v6 ⟨rfl, hk6, hb6⟩))
  all_goals (go_wp2_with fail; go_meet; exact WC.one hk5 hv5 hk6 hb6)
 obtain ⟨bx, bz, rfl, rfl, hX, hZ, hbw⟩ := hcut.ex;have hK := HK2.o.later hbw;have HK := lh hK;have rc := hK.cell 0;have rf := hK.fr 0;have rl := hK.lt;have HBW := lh (HB.o.trans (hbw.mono HB.o.size));clear hcut hbw hK HKS c0 c1 HWX HWY HK2 HB;have hx := HX.o;have hy := HY.o;have lx := hX.lt;have lz := hZ.lt;have HXY := lh hxy
 rcases Nat.eq_zero_or_pos x with rfl | hx0
 ·have e1 : wl 0 = 0 := rfl
  rcases Nat.eq_zero_or_pos y with rfl | hx0
  ·rw [e1];have hmk := mkw0;clear e1 hX hZ;go_wp2_with fail;refine wp_loop_rounds 1 ?_;rw [rounds_succ];go_wp2_with fail;have kb := True.intro;refine Calls.mono (from_0 _ _ _) ?_;rintro e w1 ⟨rfl, hb1⟩;have hbc : Below wc.heap.size wc w1 := ((Below.refl _ wc).alloc (Nat.le_refl _) _).trans (hb1.mono (by simp));have k1 := HK.o.later hbc;have HK1 := lh k1;have HB1 := lh (HBW.o.trans (hbc.mono HBW.o.size));have rc := k1.cell 0;have rf := k1.fr 0;have rl := k1.lt;clear k1 hb1 hbc kb;unfold natv;go_wp2;have e0 : (w1.setCell ⟨w.heap.size + 1 + 1, 0, none⟩ (.string (natB (0)))).cell? ⟨w.heap.size + 1 + 1, 0, none⟩ = some (.string (natB (0))) := (HK1.o.set 0 _).cell 0
   exact bodyPost_ret (v := .agg #[.string (natB (0))]) (by simp [results, Tryz.results32, go_sem, e0]) rfl ⟨rfl, HB1.o.setCell (show w.heap.size <= (⟨w.heap.size + 1 + 1, 0, none⟩ : Addr).block by simp; omega) _⟩
  have e2 : wl y = 1 := if_neg (by omega);rw [e1, e2];have hmk1 := mkw1;clear e1 e2 hX hZ;go_wp2_with fail;refine wp_loop_rounds 1 ?_;rw [rounds_succ];go_wp2_with fail;have kb := Blk.new wc #[.int .u32 (((0 : Nat) : Int))] 86;refine Calls.mono (from1_any (0) (by omega) wc.heap.size _ kb) ?_;rintro e w1 ⟨rfl, hb1⟩;have hbc : Below wc.heap.size wc w1 := ((Below.refl _ wc).alloc (Nat.le_refl _) _).trans (hb1.mono (by simp));have k1 := HK.o.later hbc;have HK1 := lh k1;have HB1 := lh (HBW.o.trans (hbc.mono HBW.o.size));have rc := k1.cell 0;have rf := k1.fr 0;have rl := k1.lt;clear k1 hb1 hbc kb;unfold natv
  go_wp2;have e0 : (w1.setCell ⟨w.heap.size + 1 + 1, 0, none⟩ (.string (natB (0)))).cell? ⟨w.heap.size + 1 + 1, 0, none⟩ = some (.string (natB (0))) := (HK1.o.set 0 _).cell 0;exact bodyPost_ret (v := .agg #[.string (natB (0))]) (by simp [results, Tryz.results32, go_sem, e0]) rfl ⟨by rw [Nat.zero_mul], HB1.o.setCell (show w.heap.size <= (⟨w.heap.size + 1 + 1, 0, none⟩ : Addr).block by simp; omega) _⟩
 have e2 : wl x = 1 := if_neg (by omega);have e3 : wcells x = #[.int .u32 (x : Int)] := if_neg (by omega);rw [e3] at hX;have cx := hX.cell 0
 rcases Nat.eq_zero_or_pos y with rfl | hy0
 ·have e1 : wl 0 = 0 := rfl;rw [e1, e2];have hmk1 := mkw1;clear e1 e2 e3 hX hZ hx0;go_wp2_with fail;refine wp_loop_rounds 2 ?_;rw [rounds_succ];go_wp2;refine wp_loop_rounds 1 ?_;rw [rounds_succ];go_wp2;rw [rounds_succ];go_wp2_with fail;have kb := Blk.new wc #[.int .u32 (((0 : Nat) : Int))] 86;refine Calls.mono (from1_any (0) (by omega) wc.heap.size _ kb) ?_;rintro e w1 ⟨rfl, hb1⟩;have hbc : Below wc.heap.size wc w1 := ((Below.refl _ wc).alloc (Nat.le_refl _) _).trans (hb1.mono (by simp));have k1 := HK.o.later hbc;have HK1 := lh k1;have HB1 := lh (HBW.o.trans (hbc.mono HBW.o.size));have rc := k1.cell 0
  have rf := k1.fr 0;have rl := k1.lt;clear k1 hb1 hbc kb;unfold natv;go_wp2;have e0 : (w1.setCell ⟨w.heap.size + 1 + 1, 0, none⟩ (.string (natB (0)))).cell? ⟨w.heap.size + 1 + 1, 0, none⟩ = some (.string (natB (0))) := (HK1.o.set 0 _).cell 0;exact bodyPost_ret (v := .agg #[.string (natB (0))]) (by simp [results, Tryz.results32, go_sem, e0]) rfl ⟨by rw [Nat.mul_zero], HB1.o.setCell (show w.heap.size <= (⟨w.heap.size + 1 + 1, 0, none⟩ : Addr).block by simp; omega) _⟩
 have e1 : wl y = 1 := if_neg (by omega);have e4 : wcells y = #[.int .u32 (y : Int)] := if_neg (by omega);rw [e1, e2];rw [e4] at hZ;have cy := hZ.cell 0;have hmk2 := mkw2;have a9 : (x : Int) * (y : Int) = ((x * y : Nat) : Int) := (Int.natCast_mul x y).symm
 have a0 : 0 <= (x : Int) * (y : Int) := by omega
 have a1 : ((x : Int) * (y : Int)) % 4294967296 = ((x : Int) * (y : Int)) := by omega
 have a2 : ((x : Int) * (y : Int)) / 4294967296 = 0 := by omega
 have a3 : ((x : Int) * (y : Int)) % 18446744073709551616 = ((x : Int) * (y : Int)) := by omega
 clear e1 e2 e3 e4 hX hZ hx0 hy0 a9;go_wp2_with fail;refine wp_loop_rounds 2 ?_;rw [rounds_succ];go_wp2;refine wp_loop_rounds 2 ?_;rw [rounds_succ];go_wp2;go_region;go_wp2;rw [rounds_succ];go_wp2;rw [rounds_succ];go_wp2_with fail
 have ek : (x : Int) * (y : Int) = ((x * y : Nat) : Int) := by omega
 have kb : Blk (wc.alloc (.cells #[.int .u32 ((x : Int) * (y : Int)), .int .u32 0] 86)) wc.heap.size #[.int .u32 ((x * y : Nat) : Int), .int .u32 0] 86 := by rw [<- ek]; exact Blk.new _ _ _
 clear ek;refine Calls.mono (from2_any (x * y) (by omega) wc.heap.size _ kb) ?_;rintro e w1 ⟨rfl, hb1⟩;have hbc : Below wc.heap.size wc w1 := ((Below.refl _ wc).alloc (Nat.le_refl _) _).drew.trans (hb1.mono (by simp));have k1 := HK.o.later hbc;have HK1 := lh k1;have HB1 := lh (HBW.o.trans (hbc.mono HBW.o.size));have rc := k1.cell 0;have rf := k1.fr 0;have rl := k1.lt;clear k1 hb1 hbc kb;unfold natv;go_wp2;have e0 : (w1.setCell ⟨w.heap.size + 1 + 1, 0, none⟩ (.string (natB (x * y)))).cell? ⟨w.heap.size + 1 + 1, 0, none⟩ = some (.string (natB (x * y))) := (HK1.o.set 0 _).cell 0;exact bodyPost_ret (v := .agg #[.string (natB (x * y))]) (by simp [results, Tryz.results32, go_sem, e0]) rfl ⟨rfl, HB1.o.setCell (show w.heap.size <= (⟨w.heap.size + 1 + 1, 0, none⟩ : Addr).block by simp; omega) _⟩
end Go.Proofs.YtflhbcnhaeijbaaGreatDoor
