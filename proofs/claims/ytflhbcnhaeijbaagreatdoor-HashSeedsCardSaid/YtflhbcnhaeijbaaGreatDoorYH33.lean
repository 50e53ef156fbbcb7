/- Part of the proofs that laws return true for every input, where the tables that the rows list are laid. Texts: Hm, Nat1, Hw, Nat2. -/
import Derived.Test.YtflhbcnhaeijbaaGreatDoorYH30
import Derived.Test.YtflhbcnhaeijbaaGreatDoorYH1
import Derived.Test.YtflhbcnhaeijbaaGreatDoorYH14
import Derived.LoopN
import Derived.Handy
import Derived.BigRegion
import Derived.Test.YtflhbcnhaeijbaaGreatDoorYH32
import Derived.Laws.BytesArg
set_option maxHeartbeats 8000000
set_option maxRecDepth 100000
set_option linter.unusedSimpArgs false
set_option linter.unusedVariables false
namespace Go.Proofs.YtflhbcnhaeijbaaGreatDoor
open Go.RowKit Cen
def IfPost (B : Bool) (w : World) (e : Ending) (w' : World) : Prop := ∃ r : Int, e = .returned (.int .i64 r) /\ decide (0 <= r) = B /\ Below w.heap.size w w'
theorem any_hit {p : Pr -> Bool} {xs : List Pr} {k : Nat} (hk : k < xs.length) (h : p xs[k] = true) : xs.any p = true := List.any_eq_true.2 ⟨_, List.getElem_mem hk, h⟩
theorem any_miss {p : Pr -> Bool} {xs : List Pr} (h : ∀ j (hj : j < xs.length), p xs[j] = false) : xs.any p = false := by
 rw [Bool.eq_false_iff];intro hx;obtain ⟨x, hm, hp⟩ := List.any_eq_true.1 hx;obtain ⟨j, hj, rfl⟩ := List.getElem_of_mem hm;rw [h j hj] at hp;exact absurd hp (by simp)
theorem indexFuncP_any (a : Option Addr) (cap : Nat) (xs : List Pr) (g : FuncId) (cs : Array Value) (p : Pr -> Bool) (w : World) (hl : xs.length <= 1073741824)
 (hx : PrCells w a xs) (hp : ∀ x W, x ∈ xs -> Below w.heap.size w W -> Calls Tryz.prog g (#[prv x] ++ cs) W fun e w' => e = .returned (.bool (p x)) /\ Below W.heap.size W w') (hcf0 : zb0 g) :
 Calls Tryz.prog 38 #[.slice a xs.length cap, .func (.func g) #[] cs] w (IfPost (xs.any p) w) := by
 have HX := lh hx;have HP := lh hp;have hcf : ∀ (args : Array Value) (w : World), (callFunc g args).run Tryz.prog w = .ok (.enter g args) w := hcf0;clear hx hp hcf0;unfold prv at HP;go_enter Tryz.func38, Tryz.ntmps38;go_wp2
 go_loopw [5, 8] (fun v i wr => ∃ k : Nat, k <= xs.length /\ i = .int .i64 k /\ (∀ j (hj : j < xs.length), j < k -> p xs[j] = false) /\ Below w.heap.size w wr) (fun _ i _ => xs.length - (intOf i).toNat)
 case atStart => exact ⟨0, Nat.zero_le _, rfl, fun j _ h => absurd h (Nat.not_lt_zero _), Below.refl _ _⟩
 obtain ⟨k, hk, rfl, hno, hb⟩ := hrel;have HN := lh hno;have HB := lh hb;have HXR := lh (HX.o.keep hb);clear hno hb
 by_cases hlt : k < xs.length
 ·obtain ⟨b, off, rfl, c0, c1, c2⟩ := HXR.o.at hlt
  have hki : (k : Int) < (xs.length : Int) := by omega
  have HAT : Hid (p xs[k] = true -> xs.any p = true) := any_hit hlt
  have HNN : Hid (p xs[k] = false -> ∀ j (hj : j < xs.length), j < k + 1 -> p xs[j] = false) := fun h j hj hjk => by
   by_cases e : j = k
   ·subst e; exact h
   exact HN.o j hj (by omega)
  have HC := lh (fun W h => HP.o xs[k] W (List.getElem_mem hlt) h);generalize xs[k] = q at *
  cases hpk : p q
  ·have HK := lh (HNN.o hpk);rw [hpk] at HC;clear hpk HNN HAT;go_wp2_with fail;refine (HC.o _ HB.o).mono ?_;rintro e w1 ⟨rfl, hb1⟩;have HB1 := lh (HB.o.trans (hb1.mono HB.o.size));clear hb1 c0 c1 c2;go_wp2;go_roundw
   case rel => exact ⟨k + 1, by omega, by go_num, HK.o, HB1.o⟩
   case measure => simp [intOf]; omega
  have HK := lh (HAT.o hpk);rw [hpk] at HC;clear hpk HNN HAT;go_wp2_with fail;refine (HC.o _ HB.o).mono ?_;rintro e w1 ⟨rfl, hb1⟩;have HB1 := lh (HB.o.trans (hb1.mono HB.o.size));clear hb1 c0 c1 c2;go_wp2;go_ret;exact ⟨(k : Int), rfl, by rw [HK.o]; simp, HB1.o⟩
 have hke : k = xs.length := by omega
 have HK : Hid (xs.any p = false) := any_miss fun j hj => HN.o j hj (by omega)
 subst hke;go_wp2;go_ret;exact ⟨-1, rfl, by rw [HK.o]; rfl, HB.o⟩
theorem containsFuncP_any (a : Option Addr) (cap : Nat) (xs : List Pr) (g : FuncId) (cs : Array Value) (p : Pr -> Bool) (w : World) (hl : xs.length <= 1073741824)
 (hx : PrCells w a xs) (hp : ∀ x W, x ∈ xs -> Below w.heap.size w W -> Calls Tryz.prog g (#[prv x] ++ cs) W fun e w' => e = .returned (.bool (p x)) /\ Below W.heap.size W w') (hcf0 : zb0 g) :
 Calls Tryz.prog 19 #[.slice a xs.length cap, .func (.func g) #[] cs] w fun e w' => e = .returned (.bool (xs.any p)) /\ Below w.heap.size w w' := by
 have HI := lh (indexFuncP_any a cap xs g cs p w hl hx hp hcf0);clear hx hp hcf0;generalize xs.any p = B at *;go_enter Tryz.func19, Tryz.ntmps19;go_wp2_with fail;refine HI.o.mono ?_;rintro e w1 ⟨r, rfl, hr, hb1⟩;have HB1 := lh hb1;have HR := lh hr;clear hb1 hr;go_wp2;go_ret;exact ⟨by rw [<- HR.o]; rfl, HB1.o⟩
def outP (n : Int) (q : Pr) : Bool := !decide (St.minus q.v (zcy n) = St.zero)
theorem cell1_any (q : Pr) (T : Nat) (n : Int) (v : Value) (w : World) (hq : q.ok) (hT : Blk w T #[.int .i64 n, v] 41) :
 Calls Tryz.prog 20 #[prv q, .pointer (some ⟨T, 0, none⟩)] w fun e w' => e = .returned (.bool (outP n q)) /\ Below w.heap.size w w' := by
 have HAL := lh (fun V => zvv n V);have HSU := lh (fun V => sub_any q.v (zcy n) V hq (allSt_ok _));have HR : Hid (outP n q = !decide (St.minus q.v (zcy n) = St.zero)) := rfl;generalize decide (St.minus q.v (zcy n) = St.zero) = B at *;generalize zcy n = al at *;unfold stv at HAL HSU
 obtain ⟨W, hW⟩ : ∃ W, W = w.alloc (.cells #[.int .u64 (q.v.a : Int), .int .u64 (q.v.b : Int), .bool q.odd] 36) := ⟨_, rfl⟩
 have hbw : Below w.heap.size w W := by rw [hW]; exact (Below.refl _ _).alloc (Nat.le_refl _) _
 have q0 : Blk W w.heap.size #[.int .u64 (q.v.a : Int), .int .u64 (q.v.b : Int), .bool q.odd] 36 := by rw [hW]; exact Blk.new _ _ _
 have hTW := hT.later hbw;have HBW := lh hbw;have k0 := q0.cell 0;have k1 := q0.cell 1;have t0 := hTW.cell 0;have kz := q0.lt;have tz := hTW.lt
 have HKS : Hid (∀ w' : World, Below W.heap.size W w' -> (fun w' => w'.cell? ⟨w.heap.size, 0, none⟩ = some (.int .u64 (q.v.a : Int)) /\ w'.cell? ⟨w.heap.size, 1, none⟩ = some (.int .u64 (q.v.b : Int)) /\ w'.cell? ⟨T, 0, none⟩ = some (.int .i64 n)) w') := lh fun w' hb => ⟨zaa hb k0, zaa hb k1, zaa hb t0⟩
 clear hbw q0 hT hTW hq;unfold prv;go_enter Tryz.func20, Tryz.ntmps20;go_wp2_with fail;rw [<- hW];clear hW;refine wp_region_held_drew (S := (fun w' => w'.cell? ⟨w.heap.size, 0, none⟩ = some (.int .u64 (q.v.a : Int)) /\ w'.cell? ⟨w.heap.size, 1, none⟩ = some (.int .u64 (q.v.b : Int)) /\ w'.cell? ⟨T, 0, none⟩ = some (.int .i64 n))) (by kernel_rfl) ?_ (fun hHeld => ?_)
 ·try dsimp only
  exact HKS.o _ (Below.refl W.heap.size W).drew
 refine tkV 0 4 rfl rfl ?_; try simp only [tkS]
 refine tkV 1 5 rfl rfl ?_; try simp only [tkS]
 refine tkV 2 6 rfl rfl ?_; try simp only [tkS]
 refine tkV 3 7 rfl rfl ?_; try simp only [tkS]
 refine tkR 4 (.cons rfl (fun K hK => ?_) .nil);go_simp;go_at_call 22
 with_reducible refine Calls.mono (HAL.o _) ?_
 rintro e w5 ⟨rfl, hb5⟩;have hw5 : Below W.heap.size W w5 := Below.trans (Below.refl W.heap.size W).drew (Below.mono hb5 (Below.size (Below.refl W.heap.size W).drew));clear hb5;go_wp2_with fail;refine hK.out _ _ ?_ (fun hHeld => ?_)
 ·try dsimp only
  exact HKS.o _ hw5
 clear hK K
 try simp only [tkS]
 refine tkR 5 (.cons rfl (fun K hK => ?_) .nil);go_simp;go_at_call 21
 with_reducible refine Calls.mono (HSU.o _) ?_
 rintro e w6 ⟨rfl, hb6⟩;have hw6 : Below W.heap.size W w6 := Below.trans hw5 (Below.mono hb6 (Below.size hw5));clear hb6;go_wp2_with fail;refine hK.out _ _ ?_ (fun hHeld => ?_)
 ·try dsimp only
  exact HKS.o _ hw6
 clear hK K
 try simp only [tkS]
 refine tkV 6 10 rfl rfl ?_; try simp only [tkS]
 refine tkV 7 3 rfl rfl ?_; try simp only [tkS]
 refine wpAnyH_done (by kernel_rfl) ?_ _;go_wp2;go_ret;exact ⟨by rw [HR.o]; rfl, HBW.o.trans (hw6.mono HBW.o.size)⟩
theorem callable_cell1 : zb0 20 := fun _ _ => by kernel_rfl
def natB (x : Nat) : ByteArray := if x = 0 then ⟨#[]⟩ else if x < 256 then ⟨#[UInt8.ofNat x]⟩ else ⟨#[UInt8.ofNat (x % 256), UInt8.ofNat (x / 256)]⟩
def natv (x : Nat) : Value := .agg #[.string (natB x)]
def wl (x : Nat) : Nat := if x = 0 then 0 else 1
def wcells (x : Nat) : Array Value := if x = 0 then #[] else #[.int .u32 (x : Int)]
theorem mkw0 (w : World) : (Instr.makeSlice 87 (.int .i64 0) (.int .i64 0)).run Tryz.prog w = .ok (.slice (some ⟨w.heap.size, 0, none⟩) 0 0) (w.alloc (.cells #[] 86)) := by kernel_rfl
theorem mkw1 (w : World) : (Instr.makeSlice 87 (.int .i64 1) (.int .i64 1)).run Tryz.prog w = .ok (.slice (some ⟨w.heap.size, 0, none⟩) 1 1) (w.alloc (.cells #[.int .u32 0] 86)) := by kernel_rfl
theorem mkb0 (w : World) : (Instr.makeSlice 22 (.int .i64 0) (.int .i64 0)).run Tryz.prog w = .ok (.slice (some ⟨w.heap.size, 0, none⟩) 0 0) (w.alloc (.cells #[] 5)) := by kernel_rfl
theorem mkb4 (w : World) : (Instr.makeSlice 22 (.int .i64 4) (.int .i64 4)).run Tryz.prog w = .ok (.slice (some ⟨w.heap.size, 0, none⟩) 4 4) (w.alloc (.cells #[.int .u8 0, .int .u8 0, .int .u8 0, .int .u8 0] 5)) := by kernel_rfl
theorem mkb8 (w : World) : (Instr.makeSlice 22 (.int .i64 8) (.int .i64 8)).run Tryz.prog w = .ok (.slice (some ⟨w.heap.size, 0, none⟩) 8 8) (w.alloc (.cells #[.int .u8 0, .int .u8 0, .int .u8 0, .int .u8 0, .int .u8 0, .int .u8 0, .int .u8 0, .int .u8 0] 5)) := by kernel_rfl
theorem or0 (x : Nat) (h : x < 256) : bits .or .u32 0 ((x : Int) % 4294967296) = x := by
 rw [Int.emod_eq_of_lt (by omega) (by omega), show (0 : Int) = ((0 : Nat) : Int) from rfl, u32_or_nat 0 x (by decide) (by omega), Nat.zero_or]
theorem or1 (x y : Nat) (h : x < 256) (hy : y < 256) : bits .or .u32 (x : Int) ((y : Int) % 4294967296 * 256 % 4294967296) = ((x + 256 * y : Nat) : Int) := by
 rw [Int.emod_eq_of_lt (a := (y : Int)) (by omega) (by omega), Int.emod_eq_of_lt (by omega) (by omega), show (y : Int) * 256 = ((y * 256 : Nat) : Int) from by omega, u32_or_nat x (y * 256) (by omega) (by omega)];have := Nat.shiftLeft_add_eq_or_of_lt (i := 8) h y;rw [Nat.or_comm, show y * 256 = y <<< 8 from by rw [Nat.shiftLeft_eq], <- this, Nat.shiftLeft_eq];omega
theorem words0_any (w : World) : Calls Tryz.prog 57 #[.agg #[.string ⟨#[]⟩]] w fun e w' => e = .returned (.slice (some ⟨w.heap.size + 1, 0, none⟩) 0 0) /\ Blk w' (w.heap.size + 1) #[] 86 /\ Below w.heap.size w w' := by
 have hmk := mkw0;go_enter Tryz.func57, Tryz.ntmps57;go_wp2;refine wp_loop_rounds 1 ?_;rw [rounds_succ];go_wp2;go_ret;exact ⟨rfl, Blk.new' (w.alloc _) (by simp) _ _, (((Below.refl _ w).alloc (Nat.le_refl _) _).alloc (by simp) _)⟩
theorem words1_any (b : UInt8) (w : World) : Calls Tryz.prog 57 #[.agg #[.string ⟨#[b]⟩]] w fun e w' => e = .returned (.slice (some ⟨w.heap.size + 1, 0, none⟩) 1 1) /\ Blk w' (w.heap.size + 1) #[.int .u32 (b.toNat : Int)] 86 /\ Below w.heap.size w w' := by
 have hmk1 := mkw1;go_enter Tryz.func57, Tryz.ntmps57;go_wp2;refine wp_loop_rounds 2 ?_;rw [rounds_succ];go_wp2;go_region;go_wp2;rw [rounds_succ];go_wp2;go_ret;refine ⟨rfl, ?_, (((Below.refl _ w).alloc (Nat.le_refl _) _).alloc (by simp) _).drew⟩;have e := or0 b.toNat b.toNat_lt;have h := Blk.new' (w.alloc (.cells #[.string ⟨#[b]⟩] 44)) (b := w.heap.size + 1) (by simp) #[.int .u32 (bits .or .u32 0 ((b.toNat : Int) % 4294967296))] 86;rw [<- e];exact h
theorem words2_any (b c : UInt8) (w : World) : Calls Tryz.prog 57 #[.agg #[.string ⟨#[b, c]⟩]] w fun e w' => e = .returned (.slice (some ⟨w.heap.size + 1, 0, none⟩) 1 1) /\ Blk w' (w.heap.size + 1) #[.int .u32 ((b.toNat + 256 * c.toNat : Nat) : Int)] 86 /\ Below w.heap.size w w' := by
 have hmk1 := mkw1;go_enter Tryz.func57, Tryz.ntmps57;go_wp2;refine wp_loop_rounds 3 ?_;rw [rounds_succ];go_wp2;go_region;go_wp2;rw [rounds_succ];go_wp2;go_region;go_wp2;rw [rounds_succ];go_wp2;go_ret;refine ⟨rfl, ?_, (((Below.refl _ w).alloc (Nat.le_refl _) _).alloc (by simp) _).drew.drew⟩;have h := Blk.new' (w.alloc (.cells #[.string ⟨#[b, c]⟩] 44)) (b := w.heap.size + 1) (by simp) #[.int .u32 (bits .or .u32 (bits .or .u32 0 ((b.toNat : Int) % 4294967296)) ((c.toNat : Int) % 4294967296 * 256 % 4294967296))] 86;rw [<- or1 _ _ b.toNat_lt c.toNat_lt, <- or0 _ b.toNat_lt];exact h
theorem words_any (x : Nat) (hx : x < 65536) (w : World) : Calls Tryz.prog 57 #[natv x] w fun e w' => e = .returned (.slice (some ⟨w.heap.size + 1, 0, none⟩) (wl x) (wl x)) /\ Blk w' (w.heap.size + 1) (wcells x) 86 /\ Below w.heap.size w w' := by
 unfold natv natB wl wcells
 split
 ·exact words0_any w
 split
 ·have h := words1_any (UInt8.ofNat x) w
  rwa [show ((UInt8.ofNat x).toNat : Int) = (x : Int) from by simp; omega] at h
 have h := words2_any (UInt8.ofNat (x % 256)) (UInt8.ofNat (x / 256)) w
 rwa [show (UInt8.ofNat (x % 256)).toNat + 256 * (UInt8.ofNat (x / 256)).toNat = x from by simp; omega] at h
def CellPost (q : Nat) (c : Int) (w : World) (e : Ending) (w' : World) : Prop := e = .returned (.tuple #[.agg #[.string (natB q)], .int .i64 c]) /\ Below w.heap.size w w'
theorem cell_bad (n : Int) (ta : Option Addr) (tc : Nat) (t : List Cl) (la : Option Addr) (lc ll : Nat) (c : Int) (w : World) (hx : LsCells w ta t) (ht : t.length <= 1073741824) (htl : ∀ c ∈ t, c.length <= 1073741824) (hc : chkT n t = c) (h0 : c ≠ 0) :
 Calls Tryz.prog 11 #[.agg #[.int .i64 n, .slice ta t.length tc], .slice la ll lc] w (CellPost 0 c w) := by
 obtain ⟨w0, hw0⟩ : ∃ W, W = (w.alloc (.cells #[.int .i64 n, .slice ta t.length tc] 41)).alloc (.cells #[.string ⟨#[]⟩] 44) := ⟨_, rfl⟩
 have hb0 : Below w.heap.size w w0 := by rw [hw0]; exact ((Below.refl _ _).alloc (Nat.le_refl _) _).alloc (by simp) _
 have q1 : Blk w0 (w.heap.size + 1) #[.string ⟨#[]⟩] 44 := by rw [hw0]; exact Blk.new' _ (by simp) _ _
 have HCK := lh (fun V (hV : Below w.heap.size w V) => zem n ta tc t V ht htl (hx.keep hV));rw [hc] at HCK;have HB0 := lh hb0;have HQ1 := lh q1;clear hb0 q1 hx ht htl hc;go_enter Tryz.func11, Tryz.ntmps11;go_wp2_with fail;rw [<- hw0];clear hw0;refine (HCK.o _ HB0.o).mono ?_;rintro e w1 ⟨rfl, hb1⟩;have HB1 := lh (HB0.o.trans (hb1.mono HB0.o.size));have HA1 := lh (HQ1.o.later hb1);clear hb1 HCK;have a0 := HA1.o.cell 0;have af := HA1.o.fr 0;have al := HA1.o.lt;go_wp2_with fail;have g0 := (HA1.o.set 0 (.string ⟨#[]⟩)).cell 0;exact bodyPost_ret (v := .tuple #[.agg #[.string ⟨#[]⟩], .int .i64 c]) (by simp [results, Tryz.results11, go_sem, g0]) rfl ⟨rfl, HB1.o.setCell (show w.heap.size <= w.heap.size + 1 by omega) _⟩
theorem cell_out (n : Int) (ta : Option Addr) (tc : Nat) (t : List Cl) (la : Option Addr) (lc : Nat) (l : List Pr) (w : World) (hx : LsCells w ta t) (ht : t.length <= 1073741824) (htl : ∀ c ∈ t, c.length <= 1073741824) (hc : chkT n t = 0) (hl : l.length <= 16) (hp : PrCells w la l) (hok : ∀ p ∈ l, p.ok) (hin : l.any (outP n) = true) :
 Calls Tryz.prog 11 #[.agg #[.int .i64 n, .slice ta t.length tc], .slice la l.length lc] w (CellPost 0 1 w) := by
 obtain ⟨w0, hw0⟩ : ∃ W, W = (w.alloc (.cells #[.int .i64 n, .slice ta t.length tc] 41)).alloc (.cells #[.string ⟨#[]⟩] 44) := ⟨_, rfl⟩
 have hb0 : Below w.heap.size w w0 := by rw [hw0]; exact ((Below.refl _ _).alloc (Nat.le_refl _) _).alloc (by simp) _
 have q0 : Blk w0 w.heap.size #[.int .i64 n, .slice ta t.length tc] 41 := by rw [hw0]; exact (Blk.new _ _ _).alloc _
 have q1 : Blk w0 (w.heap.size + 1) #[.string ⟨#[]⟩] 44 := by rw [hw0]; exact Blk.new' _ (by simp) _ _
 have HCK := lh (fun V (hV : Below w.heap.size w V) => zem n ta tc t V ht htl (hx.keep hV));rw [hc] at HCK;have HCF := lh (fun V (hV : Below w.heap.size w V) (hT : Blk V w.heap.size #[.int .i64 n, .slice ta t.length tc] 41) => containsFuncP_any la lc l 20 #[.pointer (some ⟨w.heap.size, 0, none⟩)] (outP n) V (by omega) (hp.keep hV) (fun x W hm hb => cell1_any x w.heap.size n _ W (hok x hm) (hT.later hb)) callable_cell1);rw [hin] at HCF;have HB0 := lh hb0;have HQ0 := lh q0;have HQ1 := lh q1
 have hl16 : (l.length : Int) <= 16 := by omega
 have k0 := q0.cell 0;have k1 := q0.cell 1;have kz := q0.lt;clear hb0 q0 q1 hx hp hok hin ht htl hc;go_enter Tryz.func11, Tryz.ntmps11;go_wp2_with fail;rw [<- hw0];clear hw0;refine (HCK.o _ HB0.o).mono ?_;rintro e w1 ⟨rfl, hb1⟩;have HB1 := lh (HB0.o.trans (hb1.mono HB0.o.size));have HT1 := lh (HQ0.o.later hb1);have HA1 := lh (HQ1.o.later hb1);clear hb1 k0 k1 kz HCK;go_wp2_with fail;refine (HCF.o _ HB1.o HT1.o).mono ?_;rintro e w2 ⟨rfl, hb2⟩;have HB2 := lh (HB1.o.trans (hb2.mono HB1.o.size));have HA2 := lh (HA1.o.later hb2);clear hb2 HCF;have a0 := HA2.o.cell 0;have af := HA2.o.fr 0;have al := HA2.o.lt
 go_wp2_with fail;have g0 := (HA2.o.set 0 (.string ⟨#[]⟩)).cell 0;exact bodyPost_ret (v := .tuple #[.agg #[.string ⟨#[]⟩], .int .i64 1]) (by simp [results, Tryz.results11, go_sem, g0]) rfl ⟨rfl, HB2.o.setCell (show w.heap.size <= w.heap.size + 1 by omega) _⟩
theorem est_refuse (n : Int) (ta : Option Addr) (tc : Nat) (t : List Cl) (sa : Option Addr) (sc : Nat) (bs : List Nat) (m : Int) (w : World) (hx : LsCells w ta t) (ht : t.length <= 1073741824) (htl : ∀ c ∈ t, c.length <= 1073741824) (hc : chkT n t = 0) (hl : bs.length <= 1073741824) (hb : parsBad n m bs.length) :
 Calls Tryz.prog 12 #[.agg #[.int .i64 n, .slice ta t.length tc], .slice sa bs.length sc, .int .i64 m] w (CellPost 0 1 w) := by
 obtain ⟨w0, hw0⟩ : ∃ W, W = (w.alloc (.cells #[.int .i64 n, .slice ta t.length tc] 41)).alloc (.cells #[.string ⟨#[]⟩] 44) := ⟨_, rfl⟩
 have hb0 : Below w.heap.size w w0 := by rw [hw0]; exact ((Below.refl _ _).alloc (Nat.le_refl _) _).alloc (by simp) _
 have q0 : Blk w0 w.heap.size #[.int .i64 n, .slice ta t.length tc] 41 := by rw [hw0]; exact (Blk.new _ _ _).alloc _
 have q1 : Blk w0 (w.heap.size + 1) #[.string ⟨#[]⟩] 44 := by rw [hw0]; exact Blk.new' _ (by simp) _ _
 have HCK := lh (fun V (hV : Below w.heap.size w V) => zem n ta tc t V ht htl (hx.keep hV));rw [hc] at HCK;have HPB := lh (fun V => pars_bad sa sc bs n m V hl hb);have HB0 := lh hb0;have HQ0 := lh q0;have HQ1 := lh q1;have k0 := q0.cell 0;have k1 := q0.cell 1;have kz := q0.lt;clear hb0 q0 q1 hx ht htl hc hb hl;go_enter Tryz.func12, Tryz.ntmps12;go_wp2_with fail;rw [<- hw0];clear hw0;refine (HCK.o _ HB0.o).mono ?_;rintro e w1 ⟨rfl, hb1⟩;have HB1 := lh (HB0.o.trans (hb1.mono HB0.o.size));have HT1 := lh (HQ0.o.later hb1);have HA1 := lh (HQ1.o.later hb1);clear hb1 k0 k1 kz HCK;have k0 := HT1.o.cell 0
 have k1 := HT1.o.cell 1;have kz := HT1.o.lt;go_wp2_with fail;refine (HPB.o _).mono ?_;rintro e w2 ⟨rfl, hb2⟩;have HB2 := lh (HB1.o.trans (hb2.mono HB1.o.size));have HA2 := lh (HA1.o.later hb2);clear hb2 HPB k0 k1 kz;have a0 := HA2.o.cell 0;have af := HA2.o.fr 0;have al := HA2.o.lt;go_wp2_with fail;have g0 := (HA2.o.set 0 (.string ⟨#[]⟩)).cell 0;exact bodyPost_ret (v := .tuple #[.agg #[.string ⟨#[]⟩], .int .i64 1]) (by simp [results, Tryz.results12, go_sem, g0]) rfl ⟨rfl, HB2.o.setCell (show w.heap.size <= w.heap.size + 1 by omega) _⟩
theorem med_bad (n : Int) (ta : Option Addr) (tc : Nat) (t : List Cl) (sa : Option Addr) (sc sl : Nat) (m : Int) (c : Int) (w : World) (hx : LsCells w ta t) (ht : t.length <= 1073741824) (htl : ∀ c ∈ t, c.length <= 1073741824) (hc : chkT n t = c) (h0 : c ≠ 0) :
 Calls Tryz.prog 14 #[.agg #[.int .i64 n, .slice ta t.length tc], .slice sa sl sc, .int .i64 m] w (CellPost 0 c w) := by
 obtain ⟨w0, hw0⟩ : ∃ W, W = (w.alloc (.cells #[.int .i64 n, .slice ta t.length tc] 41)).alloc (.cells #[.string ⟨#[]⟩] 44) := ⟨_, rfl⟩
 have hb0 : Below w.heap.size w w0 := by rw [hw0]; exact ((Below.refl _ _).alloc (Nat.le_refl _) _).alloc (by simp) _
 have q1 : Blk w0 (w.heap.size + 1) #[.string ⟨#[]⟩] 44 := by rw [hw0]; exact Blk.new' _ (by simp) _ _
 have HCK := lh (fun V (hV : Below w.heap.size w V) => zem n ta tc t V ht htl (hx.keep hV));rw [hc] at HCK;have HB0 := lh hb0;have HQ1 := lh q1;clear hb0 q1 hx ht htl hc;go_enter Tryz.func14, Tryz.ntmps14;go_wp2_with fail;rw [<- hw0];clear hw0;refine (HCK.o _ HB0.o).mono ?_;rintro e w1 ⟨rfl, hb1⟩;have HB1 := lh (HB0.o.trans (hb1.mono HB0.o.size));have HA1 := lh (HQ1.o.later hb1);clear hb1 HCK;have a0 := HA1.o.cell 0;have af := HA1.o.fr 0;have al := HA1.o.lt;go_wp2_with fail;have g0 := (HA1.o.set 0 (.string ⟨#[]⟩)).cell 0;exact bodyPost_ret (v := .tuple #[.agg #[.string ⟨#[]⟩], .int .i64 c]) (by simp [results, Tryz.results14, go_sem, g0]) rfl ⟨rfl, HB1.o.setCell (show w.heap.size <= w.heap.size + 1 by omega) _⟩
theorem med_none (n : Int) (ta : Option Addr) (tc : Nat) (t : List Cl) (sa : Option Addr) (sc : Nat) (m : Int) (w : World) (hx : LsCells w ta t) (ht : t.length <= 1073741824) (htl : ∀ c ∈ t, c.length <= 1073741824) (hc : chkT n t = 0) :
 Calls Tryz.prog 14 #[.agg #[.int .i64 n, .slice ta t.length tc], .slice sa 0 sc, .int .i64 m] w (CellPost 0 1 w) := by
 obtain ⟨w0, hw0⟩ : ∃ W, W = (w.alloc (.cells #[.int .i64 n, .slice ta t.length tc] 41)).alloc (.cells #[.string ⟨#[]⟩] 44) := ⟨_, rfl⟩
 have hb0 : Below w.heap.size w w0 := by rw [hw0]; exact ((Below.refl _ _).alloc (Nat.le_refl _) _).alloc (by simp) _
 have q1 : Blk w0 (w.heap.size + 1) #[.string ⟨#[]⟩] 44 := by rw [hw0]; exact Blk.new' _ (by simp) _ _
 have HCK := lh (fun V (hV : Below w.heap.size w V) => zem n ta tc t V ht htl (hx.keep hV));rw [hc] at HCK;have HB0 := lh hb0;have HQ1 := lh q1;clear hb0 q1 hx ht htl hc;go_enter Tryz.func14, Tryz.ntmps14;go_wp2_with fail;rw [<- hw0];clear hw0;refine (HCK.o _ HB0.o).mono ?_;rintro e w1 ⟨rfl, hb1⟩;have HB1 := lh (HB0.o.trans (hb1.mono HB0.o.size));have HA1 := lh (HQ1.o.later hb1);clear hb1 HCK;have a0 := HA1.o.cell 0;have af := HA1.o.fr 0;have al := HA1.o.lt;go_wp2_with fail;have g0 := (HA1.o.set 0 (.string ⟨#[]⟩)).cell 0;exact bodyPost_ret (v := .tuple #[.agg #[.string ⟨#[]⟩], .int .i64 1]) (by simp [results, Tryz.results14, go_sem, g0]) rfl ⟨rfl, HB1.o.setCell (show w.heap.size <= w.heap.size + 1 by omega) _⟩
theorem convK (w : World) (o : Obj) (l : List Value) (xs : List Int) (n cap : Nat) (hn : xs.length = n) (h : ∀ i, i < n -> l[i]? = some (.int .u8 (xs.getD i 0))) :
 (convert 22 9 (.slice (some ⟨w.heap.size + 1, 0, none⟩) n cap)).run Tryz.prog ((w.alloc o).alloc (.cells l.toArray 5)) = .ok (.string (strOfNums xs)) ((w.alloc o).alloc (.cells l.toArray 5)) := by
 refine run_convert_bytes_arg _ 22 5 rfl rfl _ _ _ _ xs hn (fun i hi => ?_) _ rfl;have k := Blk.new' (w.alloc o) (b := w.heap.size + 1) (by simp) l.toArray 5;rw [show (0 : Nat) + i = i from by omega, k.cell i]
 simpa using h i hi
theorem conv0 (w : World) (o : Obj) (l : List Value) (cap : Nat) :
 (convert 22 9 (.slice (some ⟨w.heap.size + 1, 0, none⟩) 0 cap)).run Tryz.prog ((w.alloc o).alloc (.cells l.toArray 5)) = .ok (.string ⟨#[]⟩) ((w.alloc o).alloc (.cells l.toArray 5)) :=
 convK w o l [] 0 cap rfl (fun i hi => absurd hi (by omega))
theorem conv1 (w : World) (o : Obj) (a : Int) (l : List Value) (cap : Nat) :
 (convert 22 9 (.slice (some ⟨w.heap.size + 1, 0, none⟩) 1 cap)).run Tryz.prog ((w.alloc o).alloc (.cells (List.toArray (.int .u8 a :: l)) 5)) = .ok (.string (strOfNums [a])) ((w.alloc o).alloc (.cells (List.toArray (.int .u8 a :: l)) 5)) :=
 convK w o _ [a] 1 cap rfl (fun i hi => by obtain rfl : i = 0 := by omega
                                           rfl)
theorem conv2 (w : World) (o : Obj) (a b : Int) (l : List Value) (cap : Nat) :
 (convert 22 9 (.slice (some ⟨w.heap.size + 1, 0, none⟩) 2 cap)).run Tryz.prog ((w.alloc o).alloc (.cells (List.toArray (.int .u8 a :: .int .u8 b :: l)) 5)) = .ok (.string (strOfNums [a, b])) ((w.alloc o).alloc (.cells (List.toArray (.int .u8 a :: .int .u8 b :: l)) 5)) :=
 convK w o _ [a, b] 2 cap rfl (fun i hi => by rcases (show i = 0 \/ i = 1 by omega) with rfl | rfl <;> rfl)
theorem natv2 (x : Nat) (h : 256 <= x) (h2 : x < 65536) : Value.agg #[.string (strOfNums [(x : Int) % 256, (x : Int) / 256])] = natv x := by
 unfold natv natB;rw [if_neg (by omega), if_neg (by omega)]
 have h3 : ((x : Int) % 256).toNat = x % 256 := by omega
 have h4 : ((x : Int) / 256).toNat = x / 256 := by omega
 simp only [strOfNums, List.map_cons, List.map_nil, h3, h4]
theorem natv1 (x : Nat) (h : x ≠ 0) (h2 : x < 256) : Value.agg #[.string (strOfNums [(x : Int)])] = natv x := by
 unfold natv natB;rw [if_neg (by omega), if_pos (by omega)]
 simp [strOfNums]
theorem from_0 (a : Option Addr) (c : Nat) (w : World) : Calls Tryz.prog 33 #[.slice a 0 c] w fun e w' => e = .returned (natv 0) /\ Below w.heap.size w w' := by
 have hmk := mkb0;have hcv := conv0;go_enter Tryz.func33, Tryz.ntmps33;go_wp2;refine wp_loop_rounds 1 ?_;rw [rounds_succ];go_wp2;refine wp_loop_rounds 1 ?_;rw [rounds_succ];go_wp2;exact bodyPost_ret (v := .agg #[.string ⟨#[]⟩]) (by simp [results, Tryz.results33, go_sem]) rfl ⟨rfl, ((Below.refl _ w).alloc (Nat.le_refl _) _).alloc (by simp) _⟩
theorem from_10 (b : Nat) (w : World) (hb : Blk w b #[.int .u32 0] 86) : Calls Tryz.prog 33 #[.slice (some ⟨b, 0, none⟩) 1 1] w fun e w' => e = .returned (natv 0) /\ Below w.heap.size w w' := by
 have hmk := mkb4;have hcv := conv0;have hc := hb.cell 0;have hlt := hb.lt;clear hb;go_enter Tryz.func33, Tryz.ntmps33;go_wp2;refine wp_loop_rounds 5 ?_
 iterate 5 (rw [rounds_succ]; go_wp2)
 refine wp_loop_rounds 5 ?_
 iterate 5 (rw [rounds_succ]; go_wp2)
 exact bodyPost_ret (v := .agg #[.string (⟨#[]⟩)]) (by simp [results, Tryz.results33, go_sem]) rfl ⟨rfl, ((Below.refl _ w).alloc (Nat.le_refl _) _).alloc (by simp) _⟩
theorem from_11 (x : Nat) (hx : x ≠ 0) (hx2 : x < 256) (b : Nat) (w : World) (hb : Blk w b #[.int .u32 (x : Int)] 86) : Calls Tryz.prog 33 #[.slice (some ⟨b, 0, none⟩) 1 1] w fun e w' => e = .returned (natv x) /\ Below w.heap.size w w' := by
 have hmk := mkb4;have hcv := conv1;have hc := hb.cell 0;have hlt := hb.lt
 have e3 : (x : Int) / 16777216 = 0 := by omega
 have e2 : (x : Int) / 65536 = 0 := by omega
 have e1 : (x : Int) / 256 = 0 := by omega
 have e0 : (x : Int) % 256 = x := by omega
 have e4 : decide ((x : Int) = 0) = false := by simp; omega
 clear hb;go_enter Tryz.func33, Tryz.ntmps33;go_wp2;refine wp_loop_rounds 5 ?_
 iterate 5 (rw [rounds_succ]; go_wp2)
 refine wp_loop_rounds 4 ?_
 iterate 4 (rw [rounds_succ]; go_wp2)
 exact bodyPost_ret (v := .agg #[.string (strOfNums [(x : Int)])]) (by simp [results, Tryz.results33, go_sem]) rfl ⟨by rw [natv1 x hx hx2], ((Below.refl _ w).alloc (Nat.le_refl _) _).alloc (by simp) _⟩
theorem from_12 (x : Nat) (hx : 256 <= x) (hx2 : x < 65536) (b : Nat) (w : World) (hb : Blk w b #[.int .u32 (x : Int)] 86) : Calls Tryz.prog 33 #[.slice (some ⟨b, 0, none⟩) 1 1] w fun e w' => e = .returned (natv x) /\ Below w.heap.size w w' := by
 have hmk := mkb4;have hcv := conv2;have hc := hb.cell 0;have hlt := hb.lt
 have e3 : (x : Int) / 16777216 = 0 := by omega
 have e2 : (x : Int) / 65536 = 0 := by omega
 have e1 : decide ((x : Int) / 256 = 0) = false := by simp; omega
 clear hb;go_enter Tryz.func33, Tryz.ntmps33;go_wp2;refine wp_loop_rounds 5 ?_
 iterate 5 (rw [rounds_succ]; go_wp2)
 refine wp_loop_rounds 3 ?_
 iterate 3 (rw [rounds_succ]; go_wp2)
 exact bodyPost_ret (v := .agg #[.string (strOfNums [(x : Int) % 256, (x : Int) / 256])]) (by simp [results, Tryz.results33, go_sem]) rfl ⟨by rw [natv2 x hx hx2], ((Below.refl _ w).alloc (Nat.le_refl _) _).alloc (by simp) _⟩
theorem from_20 (b : Nat) (w : World) (hb : Blk w b #[.int .u32 0, .int .u32 0] 86) : Calls Tryz.prog 33 #[.slice (some ⟨b, 0, none⟩) 2 2] w fun e w' => e = .returned (natv 0) /\ Below w.heap.size w w' := by
 have hmk := mkb8;have hcv := conv0;have hc := hb.cell 0;have hc1 := hb.cell 1;have hlt := hb.lt;clear hb;go_enter Tryz.func33, Tryz.ntmps33;go_wp2;refine wp_loop_rounds 9 ?_
 iterate 9 (rw [rounds_succ]; go_wp2)
 refine wp_loop_rounds 9 ?_
 iterate 9 (rw [rounds_succ]; go_wp2)
 exact bodyPost_ret (v := .agg #[.string (⟨#[]⟩)]) (by simp [results, Tryz.results33, go_sem]) rfl ⟨rfl, ((Below.refl _ w).alloc (Nat.le_refl _) _).alloc (by simp) _⟩
theorem from_21 (x : Nat) (hx : x ≠ 0) (hx2 : x < 256) (b : Nat) (w : World) (hb : Blk w b #[.int .u32 (x : Int), .int .u32 0] 86) : Calls Tryz.prog 33 #[.slice (some ⟨b, 0, none⟩) 2 2] w fun e w' => e = .returned (natv x) /\ Below w.heap.size w w' := by
 have hmk := mkb8;have hcv := conv1;have hc := hb.cell 0;have hc1 := hb.cell 1;have hlt := hb.lt
 have e3 : (x : Int) / 16777216 = 0 := by omega
 have e2 : (x : Int) / 65536 = 0 := by omega
 have e1 : (x : Int) / 256 = 0 := by omega
 have e0 : (x : Int) % 256 = x := by omega
 have e4 : decide ((x : Int) = 0) = false := by simp; omega
 clear hb;go_enter Tryz.func33, Tryz.ntmps33;go_wp2;refine wp_loop_rounds 9 ?_
 iterate 9 (rw [rounds_succ]; go_wp2)
 refine wp_loop_rounds 8 ?_
 iterate 8 (rw [rounds_succ]; go_wp2)
 exact bodyPost_ret (v := .agg #[.string (strOfNums [(x : Int)])]) (by simp [results, Tryz.results33, go_sem]) rfl ⟨by rw [natv1 x hx hx2], ((Below.refl _ w).alloc (Nat.le_refl _) _).alloc (by simp) _⟩
theorem from_22 (x : Nat) (hx : 256 <= x) (hx2 : x < 65536) (b : Nat) (w : World) (hb : Blk w b #[.int .u32 (x : Int), .int .u32 0] 86) : Calls Tryz.prog 33 #[.slice (some ⟨b, 0, none⟩) 2 2] w fun e w' => e = .returned (natv x) /\ Below w.heap.size w w' := by
 have hmk := mkb8;have hcv := conv2;have hc := hb.cell 0;have hc1 := hb.cell 1;have hlt := hb.lt
 have e3 : (x : Int) / 16777216 = 0 := by omega
 have e2 : (x : Int) / 65536 = 0 := by omega
 have e1 : decide ((x : Int) / 256 = 0) = false := by simp; omega
 clear hb;go_enter Tryz.func33, Tryz.ntmps33;go_wp2;refine wp_loop_rounds 9 ?_
 iterate 9 (rw [rounds_succ]; go_wp2)
 refine wp_loop_rounds 7 ?_
 iterate 7 (rw [rounds_succ]; go_wp2)
 exact bodyPost_ret (v := .agg #[.string (strOfNums [(x : Int) % 256, (x : Int) / 256])]) (by simp [results, Tryz.results33, go_sem]) rfl ⟨by rw [natv2 x hx hx2], ((Below.refl _ w).alloc (Nat.le_refl _) _).alloc (by simp) _⟩
theorem from1_any (x : Nat) (hx : x < 65536) (b : Nat) (w : World) (hb : Blk w b #[.int .u32 (x : Int)] 86) : Calls Tryz.prog 33 #[.slice (some ⟨b, 0, none⟩) 1 1] w fun e w' => e = .returned (natv x) /\ Below w.heap.size w w' := by
 rcases Nat.lt_or_ge x 256 with h | h
 ·rcases Nat.eq_zero_or_pos x with rfl | h0
  ·exact from_10 b w hb
  exact from_11 x (by omega) h b w hb
 exact from_12 x h hx b w hb
theorem from2_any (x : Nat) (hx : x < 65536) (b : Nat) (w : World) (hb : Blk w b #[.int .u32 (x : Int), .int .u32 0] 86) : Calls Tryz.prog 33 #[.slice (some ⟨b, 0, none⟩) 2 2] w fun e w' => e = .returned (natv x) /\ Below w.heap.size w w' := by
 rcases Nat.lt_or_ge x 256 with h | h
 ·rcases Nat.eq_zero_or_pos x with rfl | h0
  ·exact from_20 b w hb
  exact from_21 x (by omega) h b w hb
 exact from_22 x h hx b w hb
end Go.Proofs.YtflhbcnhaeijbaaGreatDoor
