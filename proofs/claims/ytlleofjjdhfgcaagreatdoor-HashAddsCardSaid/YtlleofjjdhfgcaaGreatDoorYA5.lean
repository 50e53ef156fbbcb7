/- Parts of the proofs of laws. Texts: Nat1, Nat2, Nat3, Nat4. -/
import Derived.Test.YtlleofjjdhfgcaaGreatDoorYA4
import Derived.Handy
import Derived.Deep.DeepCutAuto
set_option maxHeartbeats 8000000
set_option maxRecDepth 100000
set_option linter.all false
namespace Go.Proofs.YtlleofjjdhfgcaaGreatDoor
open Go.RowKit Cen
def natB (x : Nat) : ByteArray := if x = 0 then ⟨#[]⟩ else if x < 256 then ⟨#[UInt8.ofNat x]⟩ else ⟨#[UInt8.ofNat (x % 256), UInt8.ofNat (x / 256)]⟩
def natv (x : Nat) : Value := .agg #[.string (natB x)]
def wl (x : Nat) : Nat := if x = 0 then 0 else 1
def zb9 (x : Nat) : Array Value := if x = 0 then #[] else #[.int .u32 (x : Int)]
theorem mkw0 (w : World) : (Instr.makeSlice 103 (.int .i64 0) (.int .i64 0)).run Tryz.prog w = .ok (.slice (some ⟨w.heap.size, 0, none⟩) 0 0) (w.alloc (.cells #[] 104)) := by kernel_rfl
theorem mkw1 (w : World) : (Instr.makeSlice 103 (.int .i64 1) (.int .i64 1)).run Tryz.prog w = .ok (.slice (some ⟨w.heap.size, 0, none⟩) 1 1) (w.alloc (.cells #[.int .u32 0] 104)) := by kernel_rfl
theorem mkb0 (w : World) : (Instr.makeSlice 59 (.int .i64 0) (.int .i64 0)).run Tryz.prog w = .ok (.slice (some ⟨w.heap.size, 0, none⟩) 0 0) (w.alloc (.cells #[] 5)) := by kernel_rfl
theorem mkb4 (w : World) : (Instr.makeSlice 59 (.int .i64 4) (.int .i64 4)).run Tryz.prog w = .ok (.slice (some ⟨w.heap.size, 0, none⟩) 4 4) (w.alloc (.cells #[.int .u8 0, .int .u8 0, .int .u8 0, .int .u8 0] 5)) := by kernel_rfl
theorem mkb8 (w : World) : (Instr.makeSlice 59 (.int .i64 8) (.int .i64 8)).run Tryz.prog w = .ok (.slice (some ⟨w.heap.size, 0, none⟩) 8 8) (w.alloc (.cells #[.int .u8 0, .int .u8 0, .int .u8 0, .int .u8 0, .int .u8 0, .int .u8 0, .int .u8 0, .int .u8 0] 5)) := by kernel_rfl
theorem or0 (x : Nat) (h : x < 256) : bits .or .u32 0 ((x : Int) % 4294967296) = x := by
 rw [Int.emod_eq_of_lt (by omega) (by omega), show (0 : Int) = ((0 : Nat) : Int) from rfl, u32_or_nat 0 x (by decide) (by omega), Nat.zero_or]
theorem or1 (x y : Nat) (h : x < 256) (hy : y < 256) : bits .or .u32 (x : Int) ((y : Int) % 4294967296 * 256 % 4294967296) = ((x + 256 * y : Nat) : Int) := by
 rw [Int.emod_eq_of_lt (a := (y : Int)) (by omega) (by omega), Int.emod_eq_of_lt (by omega) (by omega), show (y : Int) * 256 = ((y * 256 : Nat) : Int) from by omega, u32_or_nat x (y * 256) (by omega) (by omega)];have := Nat.shiftLeft_add_eq_or_of_lt (i := 8) h y;rw [Nat.or_comm, show y * 256 = y <<< 8 from by rw [Nat.shiftLeft_eq], <- this, Nat.shiftLeft_eq];omega
theorem ztf (w : World) : Calls Tryz.prog 45 #[.agg #[.string ⟨#[]⟩]] w fun e w' => e = .returned (.slice (some ⟨w.heap.size + 1, 0, none⟩) 0 0) /\ Blk w' (w.heap.size + 1) #[] 104 /\ Below w.heap.size w w' := by
 have hmk := mkw0;go_enter Tryz.func45, Tryz.ntmps45;go_wp2;refine wp_loop_rounds 1 ?_;rw [rounds_succ];go_wp2;go_ret;exact ⟨rfl, Blk.new' (w.alloc _) (by simp) _ _, (((Below.refl _ w).alloc (Nat.le_refl _) _).alloc (by simp) _)⟩
theorem ztg (b : UInt8) (w : World) : Calls Tryz.prog 45 #[.agg #[.string ⟨#[b]⟩]] w fun e w' => e = .returned (.slice (some ⟨w.heap.size + 1, 0, none⟩) 1 1) /\ Blk w' (w.heap.size + 1) #[.int .u32 (b.toNat : Int)] 104 /\ Below w.heap.size w w' := by
 have hmk1 := mkw1;go_enter Tryz.func45, Tryz.ntmps45;go_wp2;refine wp_loop_rounds 2 ?_;rw [rounds_succ];go_wp2;go_region;go_wp2;rw [rounds_succ];go_wp2;go_ret;refine ⟨rfl, ?_, (((Below.refl _ w).alloc (Nat.le_refl _) _).alloc (by simp) _).drew⟩;have e := or0 b.toNat b.toNat_lt;have h := Blk.new' (w.alloc (.cells #[.string ⟨#[b]⟩] 44)) (b := w.heap.size + 1) (by simp) #[.int .u32 (bits .or .u32 0 ((b.toNat : Int) % 4294967296))] 104;rw [<- e];exact h
theorem zth (b c : UInt8) (w : World) : Calls Tryz.prog 45 #[.agg #[.string ⟨#[b, c]⟩]] w fun e w' => e = .returned (.slice (some ⟨w.heap.size + 1, 0, none⟩) 1 1) /\ Blk w' (w.heap.size + 1) #[.int .u32 ((b.toNat + 256 * c.toNat : Nat) : Int)] 104 /\ Below w.heap.size w w' := by
 have hmk1 := mkw1;go_enter Tryz.func45, Tryz.ntmps45;go_wp2;refine wp_loop_rounds 3 ?_;rw [rounds_succ];go_wp2;go_region;go_wp2;rw [rounds_succ];go_wp2;go_region;go_wp2;rw [rounds_succ];go_wp2;go_ret;refine ⟨rfl, ?_, (((Below.refl _ w).alloc (Nat.le_refl _) _).alloc (by simp) _).drew.drew⟩;have h := Blk.new' (w.alloc (.cells #[.string ⟨#[b, c]⟩] 44)) (b := w.heap.size + 1) (by simp) #[.int .u32 (bits .or .u32 (bits .or .u32 0 ((b.toNat : Int) % 4294967296)) ((c.toNat : Int) % 4294967296 * 256 % 4294967296))] 104;rw [<- or1 _ _ b.toNat_lt c.toNat_lt, <- or0 _ b.toNat_lt];exact h
theorem zcy (x : Nat) (hx : x < 65536) (w : World) : Calls Tryz.prog 45 #[natv x] w fun e w' => e = .returned (.slice (some ⟨w.heap.size + 1, 0, none⟩) (wl x) (wl x)) /\ Blk w' (w.heap.size + 1) (zb9 x) 104 /\ Below w.heap.size w w' := by
 unfold natv natB wl zb9
 split
 ·exact ztf w
 split
 ·have h := ztg (UInt8.ofNat x) w
  rwa [show ((UInt8.ofNat x).toNat : Int) = (x : Int) from by simp; omega] at h
 have h := zth (UInt8.ofNat (x % 256)) (UInt8.ofNat (x / 256)) w
 rwa [show (UInt8.ofNat (x % 256)).toNat + 256 * (UInt8.ofNat (x / 256)).toNat = x from by simp; omega] at h
theorem yan (w : World) (o : Obj) (l : List Value) (xs : List Int) (n cap : Nat) (hn : xs.length = n) (h : ∀ i, i < n -> l[i]? = some (.int .u8 (xs.getD i 0))) :
 (convert 59 9 (.slice (some ⟨w.heap.size + 1, 0, none⟩) n cap)).run Tryz.prog ((w.alloc o).alloc (.cells l.toArray 5)) = .ok (.string (strOfNums xs)) ((w.alloc o).alloc (.cells l.toArray 5)) := by
 refine run_convert_bytes_arg _ 59 5 rfl rfl _ _ _ _ xs hn (fun i hi => ?_) _ rfl;have k := Blk.new' (w.alloc o) (b := w.heap.size + 1) (by simp) l.toArray 5;rw [show (0 : Nat) + i = i from by omega, k.cell i]
 simpa using h i hi
theorem yam (w : World) (o : Obj) (l : List Value) (cap : Nat) :
 (convert 59 9 (.slice (some ⟨w.heap.size + 1, 0, none⟩) 0 cap)).run Tryz.prog ((w.alloc o).alloc (.cells l.toArray 5)) = .ok (.string ⟨#[]⟩) ((w.alloc o).alloc (.cells l.toArray 5)) :=
 yan w o l [] 0 cap rfl (fun i hi => absurd hi (by omega))
theorem yce (w : World) (o : Obj) (a : Int) (l : List Value) (cap : Nat) :
 (convert 59 9 (.slice (some ⟨w.heap.size + 1, 0, none⟩) 1 cap)).run Tryz.prog ((w.alloc o).alloc (.cells (List.toArray (.int .u8 a :: l)) 5)) = .ok (.string (strOfNums [a])) ((w.alloc o).alloc (.cells (List.toArray (.int .u8 a :: l)) 5)) :=
 yan w o _ [a] 1 cap rfl (fun i hi => by obtain rfl := (show i = 0 by omega); rfl)
theorem ycf (w : World) (o : Obj) (a b : Int) (l : List Value) (cap : Nat) :
 (convert 59 9 (.slice (some ⟨w.heap.size + 1, 0, none⟩) 2 cap)).run Tryz.prog ((w.alloc o).alloc (.cells (List.toArray (.int .u8 a :: .int .u8 b :: l)) 5)) = .ok (.string (strOfNums [a, b])) ((w.alloc o).alloc (.cells (List.toArray (.int .u8 a :: .int .u8 b :: l)) 5)) :=
 yan w o _ [a, b] 2 cap rfl (fun i hi => by rcases (show i = 0 \/ i = 1 by omega) with rfl | rfl <;> rfl)
theorem ycw (x : Nat) (h : 256 <= x) (h2 : x < 65536) : Value.agg #[.string (strOfNums [(x : Int) % 256, (x : Int) / 256])] = natv x := by
 unfold natv natB;rw [if_neg (by omega), if_neg (by omega)]
 have h3 : ((x : Int) % 256).toNat = x % 256 := by omega
 have h4 : ((x : Int) / 256).toNat = x / 256 := by omega
 simp only [strOfNums, List.map_cons, List.map_nil, h3, h4]
theorem ycv (x : Nat) (h : x ≠ 0) (h2 : x < 256) : Value.agg #[.string (strOfNums [(x : Int)])] = natv x := by
 unfold natv natB;rw [if_neg (by omega), if_pos (by omega)]
 simp [strOfNums]
theorem zzk (a : Option Addr) (c : Nat) (w : World) : Calls Tryz.prog 44 #[.slice a 0 c] w fun e w' => e = .returned (natv 0) /\ Below w.heap.size w w' := by
 have hmk := mkb0;have hcv := yam;go_enter Tryz.func44, Tryz.ntmps44;go_wp2;refine wp_loop_rounds 1 ?_;rw [rounds_succ];go_wp2;refine wp_loop_rounds 1 ?_;rw [rounds_succ];go_wp2;exact bodyPost_ret (v := .agg #[.string ⟨#[]⟩]) (by simp [results, Tryz.results44, go_sem]) rfl ⟨rfl, ((Below.refl _ w).alloc (Nat.le_refl _) _).alloc (by simp) _⟩
theorem ya1 (b : Nat) (w : World) (hb : Blk w b #[.int .u32 0] 104) : Calls Tryz.prog 44 #[.slice (some ⟨b, 0, none⟩) 1 1] w fun e w' => e = .returned (natv 0) /\ Below w.heap.size w w' := by
 have hmk := mkb4;have hcv := yam;have hc := hb.cell 0;have hlt := hb.lt;clear hb;go_enter Tryz.func44, Tryz.ntmps44;go_wp2;refine wp_loop_rounds 5 ?_
 iterate 5 (rw [rounds_succ]; go_wp2)
 refine wp_loop_rounds 5 ?_
 iterate 5 (rw [rounds_succ]; go_wp2)
 exact bodyPost_ret (v := .agg #[.string (⟨#[]⟩)]) (by simp [results, Tryz.results44, go_sem]) rfl ⟨rfl, ((Below.refl _ w).alloc (Nat.le_refl _) _).alloc (by simp) _⟩
theorem ya2 (x : Nat) (hx : x ≠ 0) (hx2 : x < 256) (b : Nat) (w : World) (hb : Blk w b #[.int .u32 (x : Int)] 104) : Calls Tryz.prog 44 #[.slice (some ⟨b, 0, none⟩) 1 1] w fun e w' => e = .returned (natv x) /\ Below w.heap.size w w' := by
 have hmk := mkb4;have hcv := yce;have hc := hb.cell 0;have hlt := hb.lt
 have e3 : (x : Int) / 16777216 = 0 := by omega
 have e2 : (x : Int) / 65536 = 0 := by omega
 have e1 : (x : Int) / 256 = 0 := by omega
 have e0 : (x : Int) % 256 = x := by omega
 have e4 : decide ((x : Int) = 0) = false := by simp; omega
 clear hb;go_enter Tryz.func44, Tryz.ntmps44;go_wp2;refine wp_loop_rounds 5 ?_
 iterate 5 (rw [rounds_succ]; go_wp2)
 refine wp_loop_rounds 4 ?_
 iterate 4 (rw [rounds_succ]; go_wp2)
 exact bodyPost_ret (v := .agg #[.string (strOfNums [(x : Int)])]) (by simp [results, Tryz.results44, go_sem]) rfl ⟨by rw [ycv x hx hx2], ((Below.refl _ w).alloc (Nat.le_refl _) _).alloc (by simp) _⟩
theorem ya3 (x : Nat) (hx : 256 <= x) (hx2 : x < 65536) (b : Nat) (w : World) (hb : Blk w b #[.int .u32 (x : Int)] 104) : Calls Tryz.prog 44 #[.slice (some ⟨b, 0, none⟩) 1 1] w fun e w' => e = .returned (natv x) /\ Below w.heap.size w w' := by
 have hmk := mkb4;have hcv := ycf;have hc := hb.cell 0;have hlt := hb.lt
 have e3 : (x : Int) / 16777216 = 0 := by omega
 have e2 : (x : Int) / 65536 = 0 := by omega
 have e1 : decide ((x : Int) / 256 = 0) = false := by simp; omega
 clear hb;go_enter Tryz.func44, Tryz.ntmps44;go_wp2;refine wp_loop_rounds 5 ?_
 iterate 5 (rw [rounds_succ]; go_wp2)
 refine wp_loop_rounds 3 ?_
 iterate 3 (rw [rounds_succ]; go_wp2)
 exact bodyPost_ret (v := .agg #[.string (strOfNums [(x : Int) % 256, (x : Int) / 256])]) (by simp [results, Tryz.results44, go_sem]) rfl ⟨by rw [ycw x hx hx2], ((Below.refl _ w).alloc (Nat.le_refl _) _).alloc (by simp) _⟩
theorem ya4 (b : Nat) (w : World) (hb : Blk w b #[.int .u32 0, .int .u32 0] 104) : Calls Tryz.prog 44 #[.slice (some ⟨b, 0, none⟩) 2 2] w fun e w' => e = .returned (natv 0) /\ Below w.heap.size w w' := by
 have hmk := mkb8;have hcv := yam;have hc := hb.cell 0;have hc1 := hb.cell 1;have hlt := hb.lt;clear hb;go_enter Tryz.func44, Tryz.ntmps44;go_wp2;refine wp_loop_rounds 9 ?_
 iterate 9 (rw [rounds_succ]; go_wp2)
 refine wp_loop_rounds 9 ?_
 iterate 9 (rw [rounds_succ]; go_wp2)
 exact bodyPost_ret (v := .agg #[.string (⟨#[]⟩)]) (by simp [results, Tryz.results44, go_sem]) rfl ⟨rfl, ((Below.refl _ w).alloc (Nat.le_refl _) _).alloc (by simp) _⟩
theorem ya5 (x : Nat) (hx : x ≠ 0) (hx2 : x < 256) (b : Nat) (w : World) (hb : Blk w b #[.int .u32 (x : Int), .int .u32 0] 104) : Calls Tryz.prog 44 #[.slice (some ⟨b, 0, none⟩) 2 2] w fun e w' => e = .returned (natv x) /\ Below w.heap.size w w' := by
 have hmk := mkb8;have hcv := yce;have hc := hb.cell 0;have hc1 := hb.cell 1;have hlt := hb.lt
 have e3 : (x : Int) / 16777216 = 0 := by omega
 have e2 : (x : Int) / 65536 = 0 := by omega
 have e1 : (x : Int) / 256 = 0 := by omega
 have e0 : (x : Int) % 256 = x := by omega
 have e4 : decide ((x : Int) = 0) = false := by simp; omega
 clear hb;go_enter Tryz.func44, Tryz.ntmps44;go_wp2;refine wp_loop_rounds 9 ?_
 iterate 9 (rw [rounds_succ]; go_wp2)
 refine wp_loop_rounds 8 ?_
 iterate 8 (rw [rounds_succ]; go_wp2)
 exact bodyPost_ret (v := .agg #[.string (strOfNums [(x : Int)])]) (by simp [results, Tryz.results44, go_sem]) rfl ⟨by rw [ycv x hx hx2], ((Below.refl _ w).alloc (Nat.le_refl _) _).alloc (by simp) _⟩
theorem ya6 (x : Nat) (hx : 256 <= x) (hx2 : x < 65536) (b : Nat) (w : World) (hb : Blk w b #[.int .u32 (x : Int), .int .u32 0] 104) : Calls Tryz.prog 44 #[.slice (some ⟨b, 0, none⟩) 2 2] w fun e w' => e = .returned (natv x) /\ Below w.heap.size w w' := by
 have hmk := mkb8;have hcv := ycf;have hc := hb.cell 0;have hc1 := hb.cell 1;have hlt := hb.lt
 have e3 : (x : Int) / 16777216 = 0 := by omega
 have e2 : (x : Int) / 65536 = 0 := by omega
 have e1 : decide ((x : Int) / 256 = 0) = false := by simp; omega
 clear hb;go_enter Tryz.func44, Tryz.ntmps44;go_wp2;refine wp_loop_rounds 9 ?_
 iterate 9 (rw [rounds_succ]; go_wp2)
 refine wp_loop_rounds 7 ?_
 iterate 7 (rw [rounds_succ]; go_wp2)
 exact bodyPost_ret (v := .agg #[.string (strOfNums [(x : Int) % 256, (x : Int) / 256])]) (by simp [results, Tryz.results44, go_sem]) rfl ⟨by rw [ycw x hx hx2], ((Below.refl _ w).alloc (Nat.le_refl _) _).alloc (by simp) _⟩
theorem zbb (x : Nat) (hx : x < 65536) (b : Nat) (w : World) (hb : Blk w b #[.int .u32 (x : Int)] 104) : Calls Tryz.prog 44 #[.slice (some ⟨b, 0, none⟩) 1 1] w fun e w' => e = .returned (natv x) /\ Below w.heap.size w w' := by
 rcases Nat.lt_or_ge x 256 with h | h
 ·rcases Nat.eq_zero_or_pos x with rfl | h0
  ·exact ya1 b w hb
  exact ya2 x (by omega) h b w hb
 exact ya3 x h hx b w hb
theorem zep (x : Nat) (hx : x < 65536) (b : Nat) (w : World) (hb : Blk w b #[.int .u32 (x : Int), .int .u32 0] 104) : Calls Tryz.prog 44 #[.slice (some ⟨b, 0, none⟩) 2 2] w fun e w' => e = .returned (natv x) /\ Below w.heap.size w w' := by
 rcases Nat.lt_or_ge x 256 with h | h
 ·rcases Nat.eq_zero_or_pos x with rfl | h0
  ·exact ya4 b w hb
  exact ya5 x (by omega) h b w hb
 exact ya6 x h hx b w hb
theorem zvn (x : Nat) (hx : x < 65536) (w : World) : Calls Tryz.prog 18 #[.int .u64 (x : Int)] w fun e w' => e = .returned (natv x) /\ Below w.heap.size w w' := by
 have e1 : (x : Int) % 4294967296 = x := by omega
 have e2 : (x : Int) / 4294967296 = 0 := by omega
 go_enter Tryz.func18, Tryz.ntmps18;go_wp2_with fail;refine (zep x hx (w.heap.size + 1) _ (Blk.new' _ (by simp) _ _)).mono ?_;rintro e w1 ⟨rfl, hb1⟩;have k : Blk w1 w.heap.size #[.string ⟨#[]⟩] 44 := ((Blk.new w _ _).alloc _).later hb1;have HK := lh k;have hc := k.cell 0;have hf := k.fr 0;have hl := k.lt;have HB := lh hb1;clear k hb1;unfold natv;go_wp2;have e0 : (w1.setCell ⟨w.heap.size, 0, none⟩ (.string (natB x))).cell? ⟨w.heap.size, 0, none⟩ = some (.string (natB x)) := (HK.o.set 0 _).cell 0;exact bodyPost_ret (v := .agg #[.string (natB x)]) (by simp [results, Tryz.results18, go_sem, e0]) rfl ⟨rfl, ((((Below.refl w.heap.size w).alloc (Nat.le_refl _) _).alloc (by simp) _).trans (HB.o.mono (by simp; omega))).setCell (show w.heap.size <= (⟨w.heap.size, 0, none⟩ : Addr).block from Nat.le_refl _) _⟩
theorem yc0 (w : World) : Calls Tryz.prog 16 #[.int .i64 0] w fun e w' => e = .returned (natv 1) /\ Below w.heap.size w w' := by
 have hmk1 := mkw1;go_enter Tryz.func16, Tryz.ntmps16;go_wp2_with fail;refine (zbb 1 (by omega) (w.heap.size + 1) _ (Blk.new' _ (by simp) _ _)).mono ?_;rintro e w1 ⟨rfl, hb1⟩;have k : Blk w1 w.heap.size #[.string ⟨#[]⟩] 44 := ((Blk.new w _ _).alloc _).later hb1;have HK := lh k;have hc := k.cell 0;have hf := k.fr 0;have hl := k.lt;have HB := lh hb1;clear k hb1;unfold natv;go_wp2;have e0 : (w1.setCell ⟨w.heap.size, 0, none⟩ (.string (natB 1))).cell? ⟨w.heap.size, 0, none⟩ = some (.string (natB 1)) := (HK.o.set 0 _).cell 0;exact bodyPost_ret (v := .agg #[.string (natB 1)]) (by simp [results, Tryz.results16, go_sem, e0]) rfl ⟨rfl, ((((Below.refl w.heap.size w).alloc (Nat.le_refl _) _).alloc (by simp) _).trans (HB.o.mono (by simp; omega))).setCell (show w.heap.size <= (⟨w.heap.size, 0, none⟩ : Addr).block from Nat.le_refl _) _⟩
theorem yc1 (w : World) : Calls Tryz.prog 16 #[.int .i64 1] w fun e w' => e = .returned (natv 2) /\ Below w.heap.size w w' := by
 have hmk1 := mkw1;go_enter Tryz.func16, Tryz.ntmps16;go_wp2_with fail;refine (zbb 2 (by omega) (w.heap.size + 1) _ (Blk.new' _ (by simp) _ _)).mono ?_;rintro e w1 ⟨rfl, hb1⟩;have k : Blk w1 w.heap.size #[.string ⟨#[]⟩] 44 := ((Blk.new w _ _).alloc _).later hb1;have HK := lh k;have hc := k.cell 0;have hf := k.fr 0;have hl := k.lt;have HB := lh hb1;clear k hb1;unfold natv;go_wp2;have e0 : (w1.setCell ⟨w.heap.size, 0, none⟩ (.string (natB 2))).cell? ⟨w.heap.size, 0, none⟩ = some (.string (natB 2)) := (HK.o.set 0 _).cell 0;exact bodyPost_ret (v := .agg #[.string (natB 2)]) (by simp [results, Tryz.results16, go_sem, e0]) rfl ⟨rfl, ((((Below.refl w.heap.size w).alloc (Nat.le_refl _) _).alloc (by simp) _).trans (HB.o.mono (by simp; omega))).setCell (show w.heap.size <= (⟨w.heap.size, 0, none⟩ : Addr).block from Nat.le_refl _) _⟩
theorem yc2 (w : World) : Calls Tryz.prog 16 #[.int .i64 2] w fun e w' => e = .returned (natv 4) /\ Below w.heap.size w w' := by
 have hmk1 := mkw1;go_enter Tryz.func16, Tryz.ntmps16;go_wp2_with fail;refine (zbb 4 (by omega) (w.heap.size + 1) _ (Blk.new' _ (by simp) _ _)).mono ?_;rintro e w1 ⟨rfl, hb1⟩;have k : Blk w1 w.heap.size #[.string ⟨#[]⟩] 44 := ((Blk.new w _ _).alloc _).later hb1;have HK := lh k;have hc := k.cell 0;have hf := k.fr 0;have hl := k.lt;have HB := lh hb1;clear k hb1;unfold natv;go_wp2;have e0 : (w1.setCell ⟨w.heap.size, 0, none⟩ (.string (natB 4))).cell? ⟨w.heap.size, 0, none⟩ = some (.string (natB 4)) := (HK.o.set 0 _).cell 0;exact bodyPost_ret (v := .agg #[.string (natB 4)]) (by simp [results, Tryz.results16, go_sem, e0]) rfl ⟨rfl, ((((Below.refl w.heap.size w).alloc (Nat.le_refl _) _).alloc (by simp) _).trans (HB.o.mono (by simp; omega))).setCell (show w.heap.size <= (⟨w.heap.size, 0, none⟩ : Addr).block from Nat.le_refl _) _⟩
theorem yc3 (w : World) : Calls Tryz.prog 16 #[.int .i64 3] w fun e w' => e = .returned (natv 8) /\ Below w.heap.size w w' := by
 have hmk1 := mkw1;go_enter Tryz.func16, Tryz.ntmps16;go_wp2_with fail;refine (zbb 8 (by omega) (w.heap.size + 1) _ (Blk.new' _ (by simp) _ _)).mono ?_;rintro e w1 ⟨rfl, hb1⟩;have k : Blk w1 w.heap.size #[.string ⟨#[]⟩] 44 := ((Blk.new w _ _).alloc _).later hb1;have HK := lh k;have hc := k.cell 0;have hf := k.fr 0;have hl := k.lt;have HB := lh hb1;clear k hb1;unfold natv;go_wp2;have e0 : (w1.setCell ⟨w.heap.size, 0, none⟩ (.string (natB 8))).cell? ⟨w.heap.size, 0, none⟩ = some (.string (natB 8)) := (HK.o.set 0 _).cell 0;exact bodyPost_ret (v := .agg #[.string (natB 8)]) (by simp [results, Tryz.results16, go_sem, e0]) rfl ⟨rfl, ((((Below.refl w.heap.size w).alloc (Nat.le_refl _) _).alloc (by simp) _).trans (HB.o.mono (by simp; omega))).setCell (show w.heap.size <= (⟨w.heap.size, 0, none⟩ : Addr).block from Nat.le_refl _) _⟩
theorem yc4 (w : World) : Calls Tryz.prog 16 #[.int .i64 4] w fun e w' => e = .returned (natv 16) /\ Below w.heap.size w w' := by
 have hmk1 := mkw1;go_enter Tryz.func16, Tryz.ntmps16;go_wp2_with fail;refine (zbb 16 (by omega) (w.heap.size + 1) _ (Blk.new' _ (by simp) _ _)).mono ?_;rintro e w1 ⟨rfl, hb1⟩;have k : Blk w1 w.heap.size #[.string ⟨#[]⟩] 44 := ((Blk.new w _ _).alloc _).later hb1;have HK := lh k;have hc := k.cell 0;have hf := k.fr 0;have hl := k.lt;have HB := lh hb1;clear k hb1;unfold natv;go_wp2;have e0 : (w1.setCell ⟨w.heap.size, 0, none⟩ (.string (natB 16))).cell? ⟨w.heap.size, 0, none⟩ = some (.string (natB 16)) := (HK.o.set 0 _).cell 0;exact bodyPost_ret (v := .agg #[.string (natB 16)]) (by simp [results, Tryz.results16, go_sem, e0]) rfl ⟨rfl, ((((Below.refl w.heap.size w).alloc (Nat.le_refl _) _).alloc (by simp) _).trans (HB.o.mono (by simp; omega))).setCell (show w.heap.size <= (⟨w.heap.size, 0, none⟩ : Addr).block from Nat.le_refl _) _⟩
theorem yc5 (w : World) : Calls Tryz.prog 16 #[.int .i64 5] w fun e w' => e = .returned (natv 32) /\ Below w.heap.size w w' := by
 have hmk1 := mkw1;go_enter Tryz.func16, Tryz.ntmps16;go_wp2_with fail;refine (zbb 32 (by omega) (w.heap.size + 1) _ (Blk.new' _ (by simp) _ _)).mono ?_;rintro e w1 ⟨rfl, hb1⟩;have k : Blk w1 w.heap.size #[.string ⟨#[]⟩] 44 := ((Blk.new w _ _).alloc _).later hb1;have HK := lh k;have hc := k.cell 0;have hf := k.fr 0;have hl := k.lt;have HB := lh hb1;clear k hb1;unfold natv;go_wp2;have e0 : (w1.setCell ⟨w.heap.size, 0, none⟩ (.string (natB 32))).cell? ⟨w.heap.size, 0, none⟩ = some (.string (natB 32)) := (HK.o.set 0 _).cell 0;exact bodyPost_ret (v := .agg #[.string (natB 32)]) (by simp [results, Tryz.results16, go_sem, e0]) rfl ⟨rfl, ((((Below.refl w.heap.size w).alloc (Nat.le_refl _) _).alloc (by simp) _).trans (HB.o.mono (by simp; omega))).setCell (show w.heap.size <= (⟨w.heap.size, 0, none⟩ : Addr).block from Nat.le_refl _) _⟩
theorem yc6 (w : World) : Calls Tryz.prog 16 #[.int .i64 6] w fun e w' => e = .returned (natv 64) /\ Below w.heap.size w w' := by
 have hmk1 := mkw1;go_enter Tryz.func16, Tryz.ntmps16;go_wp2_with fail;refine (zbb 64 (by omega) (w.heap.size + 1) _ (Blk.new' _ (by simp) _ _)).mono ?_;rintro e w1 ⟨rfl, hb1⟩;have k : Blk w1 w.heap.size #[.string ⟨#[]⟩] 44 := ((Blk.new w _ _).alloc _).later hb1;have HK := lh k;have hc := k.cell 0;have hf := k.fr 0;have hl := k.lt;have HB := lh hb1;clear k hb1;unfold natv;go_wp2;have e0 : (w1.setCell ⟨w.heap.size, 0, none⟩ (.string (natB 64))).cell? ⟨w.heap.size, 0, none⟩ = some (.string (natB 64)) := (HK.o.set 0 _).cell 0;exact bodyPost_ret (v := .agg #[.string (natB 64)]) (by simp [results, Tryz.results16, go_sem, e0]) rfl ⟨rfl, ((((Below.refl w.heap.size w).alloc (Nat.le_refl _) _).alloc (by simp) _).trans (HB.o.mono (by simp; omega))).setCell (show w.heap.size <= (⟨w.heap.size, 0, none⟩ : Addr).block from Nat.le_refl _) _⟩
theorem yc7 (w : World) : Calls Tryz.prog 16 #[.int .i64 7] w fun e w' => e = .returned (natv 128) /\ Below w.heap.size w w' := by
 have hmk1 := mkw1;go_enter Tryz.func16, Tryz.ntmps16;go_wp2_with fail;refine (zbb 128 (by omega) (w.heap.size + 1) _ (Blk.new' _ (by simp) _ _)).mono ?_;rintro e w1 ⟨rfl, hb1⟩;have k : Blk w1 w.heap.size #[.string ⟨#[]⟩] 44 := ((Blk.new w _ _).alloc _).later hb1;have HK := lh k;have hc := k.cell 0;have hf := k.fr 0;have hl := k.lt;have HB := lh hb1;clear k hb1;unfold natv;go_wp2;have e0 : (w1.setCell ⟨w.heap.size, 0, none⟩ (.string (natB 128))).cell? ⟨w.heap.size, 0, none⟩ = some (.string (natB 128)) := (HK.o.set 0 _).cell 0;exact bodyPost_ret (v := .agg #[.string (natB 128)]) (by simp [results, Tryz.results16, go_sem, e0]) rfl ⟨rfl, ((((Below.refl w.heap.size w).alloc (Nat.le_refl _) _).alloc (by simp) _).trans (HB.o.mono (by simp; omega))).setCell (show w.heap.size <= (⟨w.heap.size, 0, none⟩ : Addr).block from Nat.le_refl _) _⟩
theorem yc8 (w : World) : Calls Tryz.prog 16 #[.int .i64 8] w fun e w' => e = .returned (natv 256) /\ Below w.heap.size w w' := by
 have hmk1 := mkw1;go_enter Tryz.func16, Tryz.ntmps16;go_wp2_with fail;refine (zbb 256 (by omega) (w.heap.size + 1) _ (Blk.new' _ (by simp) _ _)).mono ?_;rintro e w1 ⟨rfl, hb1⟩;have k : Blk w1 w.heap.size #[.string ⟨#[]⟩] 44 := ((Blk.new w _ _).alloc _).later hb1;have HK := lh k;have hc := k.cell 0;have hf := k.fr 0;have hl := k.lt;have HB := lh hb1;clear k hb1;unfold natv;go_wp2;have e0 : (w1.setCell ⟨w.heap.size, 0, none⟩ (.string (natB 256))).cell? ⟨w.heap.size, 0, none⟩ = some (.string (natB 256)) := (HK.o.set 0 _).cell 0;exact bodyPost_ret (v := .agg #[.string (natB 256)]) (by simp [results, Tryz.results16, go_sem, e0]) rfl ⟨rfl, ((((Below.refl w.heap.size w).alloc (Nat.le_refl _) _).alloc (by simp) _).trans (HB.o.mono (by simp; omega))).setCell (show w.heap.size <= (⟨w.heap.size, 0, none⟩ : Addr).block from Nat.le_refl _) _⟩
theorem zif (k : Nat) (hk : k <= 8) (w : World) : Calls Tryz.prog 16 #[.int .i64 (k : Int)] w fun e w' => e = .returned (natv (2 ^ k)) /\ Below w.heap.size w w' := by
 rcases (show k = 0 \/ k = 1 \/ k = 2 \/ k = 3 \/ k = 4 \/ k = 5 \/ k = 6 \/ k = 7 \/ k = 8 by omega) with rfl | rfl | rfl | rfl | rfl | rfl | rfl | rfl | rfl
 ·exact yc0 w
 ·exact yc1 w
 ·exact yc2 w
 ·exact yc3 w
 ·exact yc4 w
 ·exact yc5 w
 ·exact yc6 w
 ·exact yc7 w
 exact yc8 w
theorem ycc (s : ByteArray) (w : World) : Calls Tryz.prog 59 #[.agg #[.string s], .agg #[.string s]] w fun e w' => e = .returned (.int .i64 0) /\ Below w.heap.size w w' := by
 go_enter Tryz.func59, Tryz.ntmps59;go_wp2;go_ret;exact ⟨rfl, ((Below.refl _ w).alloc (Nat.le_refl _) _).alloc (by simp) _⟩
theorem ycd (s t : ByteArray) (h : s.size ≠ t.size) (w : World) : Calls Tryz.prog 59 #[.agg #[.string s], .agg #[.string t]] w fun e w' => e = .returned (.int .i64 (if s.size < t.size then -1 else 1)) /\ Below w.heap.size w w' := by
 have h1 : (s.toList == t.toList) = false := by
  rw [beq_eq_false_iff_ne];intro h2;rw [ByteArray.toList_eq, ByteArray.toList_eq] at h2;have h3 := congrArg List.length h2;rw [Array.length_toList, Array.length_toList] at h3;exact h h3
 have h3 : ((s.size : Int) != (t.size : Int)) = true := by rw [bne_iff_ne]; omega
 clear h;go_enter Tryz.func59, Tryz.ntmps59;go_wp2
 ·go_ret;exact ⟨rfl, ((Below.refl _ w).alloc (Nat.le_refl _) _).alloc (by simp) _⟩
 go_ret;exact ⟨rfl, ((Below.refl _ w).alloc (Nat.le_refl _) _).alloc (by simp) _⟩
theorem cmp_b (a b : UInt8) (h : a ≠ b) (w : World) : Calls Tryz.prog 59 #[.agg #[.string ⟨#[a]⟩], .agg #[.string ⟨#[b]⟩]] w fun e w' => e = .returned (.int .i64 (if a.toNat < b.toNat then -1 else 1)) /\ Below w.heap.size w w' := by
 have h1 : ((⟨#[a]⟩ : ByteArray).toList == (⟨#[b]⟩ : ByteArray).toList) = false := by
  rw [beq_eq_false_iff_ne];intro h2;rw [ByteArray.toList_eq, ByteArray.toList_eq] at h2;simp at h2;exact h h2
 have hne : a.toNat ≠ b.toNat := fun e => h (UInt8.toNat_inj.1 e)
 rcases Nat.lt_or_ge a.toNat b.toNat with hab | hab
 ·rw [if_pos hab];have HAB := lh hab;clear hne hab;go_enter Tryz.func59, Tryz.ntmps59;go_wp2;refine wp_loop_rounds 1 ?_;rw [rounds_succ];go_wp2;go_region;go_wp2
  ·go_ret;exact ⟨rfl, (((Below.refl _ w).alloc (Nat.le_refl _) _).alloc (by simp) _).drew⟩
 rw [if_neg (by omega)];have HAB := lh (show b.toNat < a.toNat by omega);clear hne hab;go_enter Tryz.func59, Tryz.ntmps59;go_wp2;refine wp_loop_rounds 1 ?_;rw [rounds_succ];go_wp2;go_region;go_wp2
 ·rename_i hh
  exact absurd hh (Nat.lt_asymm HAB.o)
 go_region;go_wp2
 ·go_ret;exact ⟨rfl, (((Below.refl _ w).alloc (Nat.le_refl _) _).alloc (by simp) _).drew.drew⟩
theorem zcu (x : Nat) (_hx : x < 65536) : (natB x).size = if x = 0 then 0 else if x < 256 then 1 else 2 := by
 unfold natB
 split
 ·rfl
 split <;> rfl
theorem zt6 (x y : Nat) (hx : x <= 256) (hy : y <= 256) (w : World) : Calls Tryz.prog 59 #[natv x, natv y] w fun e w' => e = .returned (.int .i64 (if x = y then 0 else if x < y then -1 else 1)) /\ Below w.heap.size w w' := by
 rcases Nat.decEq x y with hne | rfl
 ·rw [if_neg hne]
  by_cases hs : (natB x).size = (natB y).size
  ·have h1 := zcu x (by omega);have h2 := zcu y (by omega)
   have hx1 : x ≠ 0 /\ x < 256 /\ y ≠ 0 /\ y < 256 := by
    rw [h1, h2] at hs
    (repeat' split at hs) <;> first | omega | (exfalso; omega)
   have h := cmp_b (UInt8.ofNat x) (UInt8.ofNat y) (fun e => hne (by have := congrArg UInt8.toNat e; simp at this; omega)) w
   have e1 : (UInt8.ofNat x).toNat = x := by simp; omega
   have e2 : (UInt8.ofNat y).toNat = y := by simp; omega
   rw [e1, e2] at h;unfold natv natB
   rwa [if_neg hx1.1, if_neg hx1.2.2.1, if_pos hx1.2.1, if_pos hx1.2.2.2]
  have h := ycd (natB x) (natB y) hs w
  have e : ((natB x).size < (natB y).size) ↔ x < y := by
   have h1 := zcu x (by omega);have h2 := zcu y (by omega);rw [h1, h2] at hs ⊢
   (repeat' split at hs) <;> (repeat' split) <;> omega
  simp only [e] at h;exact h
 rw [if_pos rfl];exact ycc (natB x) w
structure WC (W : World) (x y : Nat) (sx sy : Value) (wx : World) : Prop where
 ex : ∃ bx bz, sx = .slice (some ⟨bx, 0, none⟩) (wl x) (wl x) /\ sy = .slice (some ⟨bz, 0, none⟩) (wl y) (wl y) /\ Blk wx bx (zb9 x) 104 /\ Blk wx bz (zb9 y) 104 /\ Below W.heap.size W wx
theorem WC.one {W v5 v6 : World} {x y : Nat} (h5 : Blk v5 (W.heap.size + 1) (zb9 x) 104) (hb5 : Below W.heap.size W v5) (h6 : Blk v6 (v5.heap.size + 1) (zb9 y) 104) (hb6 : Below v5.heap.size v5 v6) :
 WC W x y (.slice (some ⟨W.heap.size + 1, 0, none⟩) (wl x) (wl x)) (.slice (some ⟨v5.heap.size + 1, 0, none⟩) (wl y) (wl y)) v6 :=
 ⟨_, _, rfl, rfl, h5.later hb6, h6, hb5.trans (hb6.mono hb5.size)⟩
theorem mkw2 (w : World) : (Instr.makeSlice 103 (.int .i64 2) (.int .i64 2)).run Tryz.prog w = .ok (.slice (some ⟨w.heap.size, 0, none⟩) 2 2) (w.alloc (.cells #[.int .u32 0, .int .u32 0] 104)) := by kernel_rfl
theorem cp0 (w : World) (d a : Option Addr) (n c k : Nat) : (Builtin.copy_ #[103, 103] 3 #[.slice d n c, .slice a 0 k]).run Tryz.prog w = .ok (.int .i64 0) w :=
 run_copy_none w _ _ _ 104 d a n c 0 k rfl rfl (by simp)
theorem cp1 (w : World) (b : Nat) (v : Int) (k : Nat) (hb : Blk w b #[.int .u32 v] 104) : (Builtin.copy_ #[103, 103] 3 #[.slice (some ⟨w.heap.size, 0, none⟩) 2 2, .slice (some ⟨b, 0, none⟩) 1 k]).run Tryz.prog (w.alloc (.cells #[.int .u32 0, .int .u32 0] 104)) = .ok (.int .i64 1) ((w.alloc (.cells #[.int .u32 0, .int .u32 0] 104)).setCell ⟨w.heap.size, 0, none⟩ (.int .u32 v)) := by
 have kn := Blk.new w #[.int .u32 0, .int .u32 0] 104
 have h := run_copy_cells (P := Tryz.prog) (w.alloc (.cells #[.int .u32 0, .int .u32 0] 104)) 103 103 3 104 w.heap.size 0 2 2 ⟨b, 0, none⟩ 1 k [.int .u32 v] rfl rfl rfl
  (fun j u hj => by
    have hj0 : j = 0 := by rcases j with _ | j <;> simp at hj ⊢
    subst hj0;simp at hj;subst hj
    exact (hb.alloc _).cell 0)
  (fun j hj => by
    have hj0 : j = 0 := by simpa using hj
    subst hj0
    exact Option.isSome_iff_exists.2 ⟨_, kn.cell 0⟩)
  (fun j hj => by
    have hj0 : j = 0 := by simpa using hj
    subst hj0
    exact kn.fr 0)
  (fun u hu => by simp at hu; subst hu; rfl)
 exact h
theorem ze6 (x y : Nat) (hx : x < 65536) (hy : y < 65536) (hxy : x + y < 65536) (w : World) : Calls Tryz.prog 17 #[natv x, natv y] w fun e w' => e = .returned (natv (x + y)) /\ Below w.heap.size w w' := by
 have HX := lh hx;have HY := lh hy;have hwx := zcy x hx;have hwy := zcy y hy;clear hx hy;unfold natv at hwx hwy ⊢;generalize natB x = s at *;generalize natB y = t at *;have HWX := lh hwx;have HWY := lh hwy;clear hwx hwy;go_enter Tryz.func17, Tryz.ntmps17;go_wp2_with fail
 have k0 := (((Blk.new w #[.string s] 44).alloc (.cells #[.string t] 44)).alloc (.cells #[.string ⟨#[]⟩] 44))
 have k1 := ((Blk.new' (w.alloc (.cells #[.string s] 44)) (b := w.heap.size + 1) (by simp) #[.string t] 44).alloc (.cells #[.string ⟨#[]⟩] 44))
 have k2 := Blk.new' ((w.alloc (.cells #[.string s] 44)).alloc (.cells #[.string t] 44)) (b := w.heap.size + 1 + 1) (by simp) #[.string ⟨#[]⟩] 44;have hb : Below w.heap.size w (((w.alloc (.cells #[.string s] 44)).alloc (.cells #[.string t] 44)).alloc (.cells #[.string ⟨#[]⟩] 44)) := (((Below.refl _ w).alloc (Nat.le_refl _) _).alloc (by simp) _).alloc (by simp; omega) _;generalize (((w.alloc (.cells #[.string s] 44)).alloc (.cells #[.string t] 44)).alloc (.cells #[.string ⟨#[]⟩] 44)) = W at *;have HK2 := lh k2;have HB := lh hb;have c0 : W.cell? ⟨w.heap.size, 0, none⟩ = some (.string s) := k0.cell 0
 have c1 : W.cell? ⟨w.heap.size + 1, 0, none⟩ = some (.string t) := k1.cell 0
 have HKS : Hid (∀ w' : World, Below W.heap.size W w' -> w'.cell? ⟨w.heap.size, 0, none⟩ = some (.string s) /\ w'.cell? ⟨w.heap.size + 1, 0, none⟩ = some (.string t) /\ Below W.heap.size W w') := lh fun w' hb => ⟨zab hb c0, zab hb c1, hb⟩
 clear k0 k1 k2 hb
 go_upto_region 2 with fail
 go_cut [5, 6] (fun sx sy wx => WC W x y sx sy wx)
 case first =>
  go_region_with (go_at_call 45
                  first
                   | (with_reducible refine Calls.mono (HWX.o W.drew) ?_
                      rintro e v5 ⟨rfl, hk5, hb5⟩;have hv5 : Below W.heap.size W v5 := (Below.refl W.heap.size W).drew.trans (hb5.mono (Nat.le_refl _));have d0 := zab hv5 c0
                      have d1 := zab hv5 c1)
                   | (with_reducible refine Calls.mono (HWY.o _) ?_
                      rintro e v6 ⟨rfl, hk6, hb6⟩))
  all_goals (go_wp2_with fail; go_meet; exact WC.one hk5 hv5 hk6 hb6)
 obtain ⟨bx, bz, rfl, rfl, hX, hZ, hbw⟩ := hcut.ex;have hK := HK2.o.later hbw;have HK := lh hK;have rc := hK.cell 0;have rf := hK.fr 0;have rl := hK.lt;have HBW := bt HB hbw;clear hcut hbw hK HKS c0 c1 HWX HWY HK2 HB;have hx := HX.o;have hy := HY.o;have lx := hX.lt;have lz := hZ.lt;have HXY := lh hxy
 rcases Nat.eq_zero_or_pos x with rfl | hx0
 ·have e1 : wl 0 = 0 := rfl
  rcases Nat.eq_zero_or_pos y with rfl | hx0
  ·rw [e1];have cp := cp0;have hmk1 := mkw1;clear e1 hX hZ;go_wp2_with fail;refine wp_loop_rounds 1 ?_;rw [rounds_succ];go_wp2_with fail;have kb := Blk.new wc #[.int .u32 (((0 : Nat) : Int))] 104;refine Calls.mono (zbb (0) (by omega) wc.heap.size _ kb) ?_;rintro e w1 ⟨rfl, hb1⟩;have hbc : Below wc.heap.size wc w1 := ((Below.refl _ wc).alloc (Nat.le_refl _) _).trans (hb1.mono (by simp));have k1 := HK.o.later hbc;have HK1 := lh k1;have HB1 := bt HBW hbc;have rc := k1.cell 0;have rf := k1.fr 0;have rl := k1.lt;clear k1 hb1 hbc kb;unfold natv;go_wp2;have e0 : (w1.setCell ⟨w.heap.size + 1 + 1, 0, none⟩ (.string (natB (0)))).cell? ⟨w.heap.size + 1 + 1, 0, none⟩ = some (.string (natB (0))) := (HK1.o.set 0 _).cell 0
   exact bodyPost_ret (v := .agg #[.string (natB (0))]) (by simp [results, Tryz.results17, go_sem, e0]) rfl ⟨rfl, HB1.o.setCell (show w.heap.size <= (⟨w.heap.size + 1 + 1, 0, none⟩ : Addr).block by simp; omega) _⟩
  have e2 : wl y = 1 := if_neg (by omega);have e4 : zb9 y = #[.int .u32 (y : Int)] := if_neg (by omega);rw [e1, e2];rw [e4] at hZ;have cx := hZ.cell 0;have cp := cp0;have hmk2 := mkw2
  have a1 : (y : Int) % 4294967296 = y := by omega
  have a2 : (y : Int) / 4294967296 = 0 := by omega
  clear e1 e2 e4 hX hZ hx0;go_wp2_with fail;refine wp_loop_rounds 2 ?_;rw [rounds_succ];go_wp2;go_region;go_wp2;rw [rounds_succ];go_wp2_with fail;have kb := Blk.new wc #[.int .u32 ((y : Int)), .int .u32 0] 104;refine Calls.mono (zep (y) (by omega) wc.heap.size _ kb) ?_;rintro e w1 ⟨rfl, hb1⟩;have hbc : Below wc.heap.size wc w1 := ((Below.refl _ wc).alloc (Nat.le_refl _) _).drew.trans (hb1.mono (by simp));have k1 := HK.o.later hbc;have HK1 := lh k1;have HB1 := bt HBW hbc;have rc := k1.cell 0;have rf := k1.fr 0;have rl := k1.lt;clear k1 hb1 hbc kb;unfold natv;go_wp2;have e0 : (w1.setCell ⟨w.heap.size + 1 + 1, 0, none⟩ (.string (natB (y)))).cell? ⟨w.heap.size + 1 + 1, 0, none⟩ = some (.string (natB (y))) := (HK1.o.set 0 _).cell 0
  exact bodyPost_ret (v := .agg #[.string (natB (y))]) (by simp [results, Tryz.results17, go_sem, e0]) rfl ⟨by rw [Nat.zero_add], HB1.o.setCell (show w.heap.size <= (⟨w.heap.size + 1 + 1, 0, none⟩ : Addr).block by simp; omega) _⟩
 rcases Nat.eq_zero_or_pos y with rfl | hy0
 ·have e1 : wl 0 = 0 := rfl;have e2 : wl x = 1 := if_neg (by omega);have e4 : zb9 x = #[.int .u32 (x : Int)] := if_neg (by omega);rw [e1, e2];rw [e4] at hX;have cx := hX.cell 0;have cp := cp0;have hmk2 := mkw2
  have a1 : (x : Int) % 4294967296 = x := by omega
  have a2 : (x : Int) / 4294967296 = 0 := by omega
  clear e1 e2 e4 hX hZ hx0;go_wp2_with fail;refine wp_loop_rounds 2 ?_;rw [rounds_succ];go_wp2;go_region;go_wp2;rw [rounds_succ];go_wp2_with fail;have kb := Blk.new wc #[.int .u32 ((x : Int)), .int .u32 0] 104;refine Calls.mono (zep (x) (by omega) wc.heap.size _ kb) ?_;rintro e w1 ⟨rfl, hb1⟩;have hbc : Below wc.heap.size wc w1 := ((Below.refl _ wc).alloc (Nat.le_refl _) _).drew.trans (hb1.mono (by simp));have k1 := HK.o.later hbc;have HK1 := lh k1;have HB1 := bt HBW hbc;have rc := k1.cell 0;have rf := k1.fr 0;have rl := k1.lt;clear k1 hb1 hbc kb;unfold natv;go_wp2;have e0 : (w1.setCell ⟨w.heap.size + 1 + 1, 0, none⟩ (.string (natB (x)))).cell? ⟨w.heap.size + 1 + 1, 0, none⟩ = some (.string (natB (x))) := (HK1.o.set 0 _).cell 0
  exact bodyPost_ret (v := .agg #[.string (natB (x))]) (by simp [results, Tryz.results17, go_sem, e0]) rfl ⟨rfl, HB1.o.setCell (show w.heap.size <= (⟨w.heap.size + 1 + 1, 0, none⟩ : Addr).block by simp; omega) _⟩
 have e1 : wl x = 1 := if_neg (by omega);have e2 : wl y = 1 := if_neg (by omega);have e3 : zb9 x = #[.int .u32 (x : Int)] := if_neg (by omega);have e4 : zb9 y = #[.int .u32 (y : Int)] := if_neg (by omega);rw [e1, e2];rw [e3] at hX;rw [e4] at hZ;have cx := hX.cell 0;have cp := cp1 wc bz y 1 hZ;have hmk2 := mkw2
 have a0 : (0 : Int) + ((y : Int) + (x : Int)) = ((y : Int) + (x : Int)) := by omega
 have a1 : ((y : Int) + (x : Int)) % 4294967296 = ((y : Int) + (x : Int)) := by omega
 have a2 : ((y : Int) + (x : Int)) / 4294967296 = 0 := by omega
 clear e1 e2 e3 e4 hX hZ hx0 hy0;go_wp2_with fail;refine wp_loop_rounds 2 ?_;rw [rounds_succ];go_wp2;go_region;go_wp2;rw [rounds_succ];go_wp2_with fail
 have ek : (y : Int) + (x : Int) = ((x + y : Nat) : Int) := by omega
 have kb : Blk (wc.alloc (.cells #[.int .u32 ((y : Int) + (x : Int)), .int .u32 0] 104)) wc.heap.size #[.int .u32 ((x + y : Nat) : Int), .int .u32 0] 104 := by rw [<- ek]; exact Blk.new _ _ _
 clear ek;refine Calls.mono (zep (x + y) (by omega) wc.heap.size _ kb) ?_;rintro e w1 ⟨rfl, hb1⟩;have hbc : Below wc.heap.size wc w1 := ((Below.refl _ wc).alloc (Nat.le_refl _) _).drew.trans (hb1.mono (by simp));have k1 := HK.o.later hbc;have HK1 := lh k1;have HB1 := bt HBW hbc;have rc := k1.cell 0;have rf := k1.fr 0;have rl := k1.lt;clear k1 hb1 hbc kb;unfold natv;go_wp2;have e0 : (w1.setCell ⟨w.heap.size + 1 + 1, 0, none⟩ (.string (natB (x + y)))).cell? ⟨w.heap.size + 1 + 1, 0, none⟩ = some (.string (natB (x + y))) := (HK1.o.set 0 _).cell 0;exact bodyPost_ret (v := .agg #[.string (natB (x + y))]) (by simp [results, Tryz.results17, go_sem, e0]) rfl ⟨rfl, HB1.o.setCell (show w.heap.size <= (⟨w.heap.size + 1 + 1, 0, none⟩ : Addr).block by simp; omega) _⟩
end Go.Proofs.YtlleofjjdhfgcaaGreatDoor
