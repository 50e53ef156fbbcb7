/- Part of the proofs that laws return true for every input, where the tables that the rows list are laid. Texts: Jc, Jd, Je0. -/
import Derived.Test.YtlleofjjdhfgcaaGreatDoorYM44
set_option maxHeartbeats 8000000
set_option maxRecDepth 100000
set_option linter.unusedSimpArgs false
set_option linter.unusedVariables false
namespace Go.Proofs.YtlleofjjdhfgcaaGreatDoor
open Go.RowKit Cen
theorem or0q (x : Nat) (h : x < 256) : bits .or .u64 0 (x : Int) = x := by
 rw [show (0 : Int) = ((0 : Nat) : Int) from rfl, u64_or_nat 0 x (by decide) (by omega), Nat.zero_or]
theorem or1q (x y : Nat) (h : x < 256) (hy : y < 256) : bits .or .u64 (x : Int) ((y : Int) * 256) = ((x + 256 * y : Nat) : Int) := by
 rw [show (y : Int) * 256 = ((y * 256 : Nat) : Int) from by omega, u64_or_nat x (y * 256) (by omega) (by omega)];have := Nat.shiftLeft_add_eq_or_of_lt (i := 8) h y;rw [Nat.or_comm, show y * 256 = y <<< 8 from by rw [Nat.shiftLeft_eq], <- this, Nat.shiftLeft_eq];omega
theorem zti (x : Int) (h0 : 0 <= x) (h : x < 65536) : IntKind.u64.wrap x = x := by simp [IntKind.wrap, IntKind.bits, IntKind.signed]; omega
def zh7 (x : Nat) (w : World) (e : Ending) (w' : World) : Prop := e = .returned (.tuple #[.int .u64 (x : Int), .bool true]) /\ Below w.heap.size w w'
theorem zwf (w : World) : Calls Tryz.prog 31 #[.agg #[.string ⟨#[]⟩]] w (zh7 0 w) := by
 go_enter Tryz.func31, Tryz.ntmps31;go_wp2;refine wp_loop_rounds 1 ?_;rw [rounds_succ];go_wp2;go_ret2;exact ⟨rfl, (Below.refl _ w).alloc (Nat.le_refl _) _⟩
theorem zwg (b : UInt8) (w : World) : Calls Tryz.prog 31 #[.agg #[.string ⟨#[b]⟩]] w (zh7 b.toNat w) := by
 have hb := b.toNat_lt
 have e0 : bits .or .u64 0 (IntKind.u64.wrap (IntKind.u64.wrap (b.toNat : Int))) = (b.toNat : Int) := by rw [zti (b.toNat : Int) (by omega) (by omega), zti (b.toNat : Int) (by omega) (by omega)]; exact or0q b.toNat hb
 have HE := lh e0;clear e0 hb;go_enter Tryz.func31, Tryz.ntmps31;go_wp2;refine wp_loop_rounds 2 ?_;rw [rounds_succ];go_wp2;rw [rounds_succ];go_wp2;go_ret2;exact ⟨congrArg (fun z => Ending.returned (.tuple #[.int .u64 z, .bool true])) HE.o, (Below.refl _ w).alloc (Nat.le_refl _) _⟩
theorem zwh (b c : UInt8) (w : World) : Calls Tryz.prog 31 #[.agg #[.string ⟨#[b, c]⟩]] w (zh7 (b.toNat + 256 * c.toNat) w) := by
 have hb := b.toNat_lt;have hc := c.toNat_lt
 have e0 : bits .or .u64 (bits .or .u64 0 (IntKind.u64.wrap (IntKind.u64.wrap (b.toNat : Int)))) (IntKind.u64.wrap (IntKind.u64.wrap (c.toNat : Int) * 256)) = ((b.toNat + 256 * c.toNat : Nat) : Int) := by
  rw [zti (b.toNat : Int) (by omega) (by omega), zti (b.toNat : Int) (by omega) (by omega), or0q b.toNat hb, zti (c.toNat : Int) (by omega) (by omega), zti _ (by omega) (by omega)];exact or1q b.toNat c.toNat hb hc
 have HE := lh e0;clear e0 hb hc;go_enter Tryz.func31, Tryz.ntmps31;go_wp2;refine wp_loop_rounds 3 ?_;rw [rounds_succ];go_wp2;rw [rounds_succ];go_wp2;rw [rounds_succ];go_wp2;go_ret2;exact ⟨congrArg (fun z => Ending.returned (.tuple #[.int .u64 z, .bool true])) HE.o, (Below.refl _ w).alloc (Nat.le_refl _) _⟩
theorem zy0 (x : Nat) (hx : x < 65536) (w : World) : Calls Tryz.prog 31 #[natv x] w (zh7 x w) := by
 unfold natv natB
 split
 ·rename_i h; subst h; exact zwf w
 split
 ·have h := zwg (UInt8.ofNat x) w
  rwa [show (UInt8.ofNat x).toNat = x from by simp; omega] at h
 have h := zwh (UInt8.ofNat (x % 256)) (UInt8.ofNat (x / 256)) w
 rwa [show (UInt8.ofNat (x % 256)).toNat + 256 * (UInt8.ofNat (x / 256)).toNat = x from by simp; omega] at h
def U1 (x : Nat) : List Value := [.int .u64 (x : Int)]
theorem zzb (x : Nat) : (U1 x).length = 1 := rfl
theorem elemU : Elem 32 30 1 8 (.int .u64 0) := .mk Tryz.underlying32 (by kernel_rfl) rfl (by decide)
abbrev OwnU (w : World) (base : Nat) (v : Value) (l : List Nat) : Prop := OwnL U1 30 1 w base v l
def zzx (q : Nat) (w : World) (e : Ending) (w' : World) : Prop := e = .returned (.tuple #[.agg #[.string (natB q)], .int .i64 0]) /\ Below w.heap.size w w'
def zlu (x : Nat -> Nat) (T : Nat) (w : World) (e : Ending) (w' : World) : Prop := ∃ a cap, e = .returned (.tuple #[.slice a T cap, .bool true]) /\ OwnU w' w.heap.size (.slice a T cap) ((List.range T).map x) /\ Below w.heap.size w w'
theorem zmb (n m : Nat) (a : Option Addr) (tl cap : Nat) (w : World) (x : Nat -> Nat) (hn : n <= 128) (hm : m <= 16) (hB : m * (n + 1) <= 8) (hx : ∀ s, s < 2 ^ (m * (n + 1)) -> x s < 65536)
 (hest : ∀ s, s < 2 ^ (m * (n + 1)) -> ∀ V, Below w.heap.size w V -> ∀ b, Blk V b #[.int .u8 ((s * 2 ^ (8 - m * (n + 1)) : Nat) : Int)] 5 -> Calls Tryz.prog 23 #[.agg #[.int .i64 (n : Int), .slice a tl cap], .slice (some ⟨b, 0, none⟩) 1 1, .int .i64 (m : Int)] V (zzx (x s) V)) :
 Calls Tryz.prog 13 #[.agg #[.int .i64 (n : Int), .slice a tl cap], .int .i64 (m : Int)] w (zlu x (2 ^ (m * (n + 1))) w) := by
 obtain ⟨w0, hw0⟩ : ∃ W, W = w.alloc (.cells #[.int .i64 (n : Int), .slice a tl cap] 24) := ⟨_, rfl⟩
 have hb0 : Below w.heap.size w w0 := by rw [hw0]; exact (Below.refl _ _).alloc (Nat.le_refl _) _
 have q0 : Blk w0 w.heap.size #[.int .i64 (n : Int), .slice a tl cap] 24 := by rw [hw0]; exact Blk.new _ _ _
 have HSE : Hid (∀ V : World, Calls Tryz.prog 30 #[.int .i64 (n : Int), .int .i64 (m : Int)] V fun e w' => e = .returned (.int .i64 ((m * (n + 1) : Nat) : Int)) /\ V = w') := fun V => by
  have h := zom (n : Int) (m : Int) V;unfold zjy at h;rw [if_neg (by omega)] at h
  push_cast
  exact h
 have HES := lh hest;have HX := lh hx
 obtain ⟨B, hBe⟩ : ∃ B, B = m * (n + 1) := ⟨_, rfl⟩
 rw [<- hBe] at HSE HES HX hB ⊢
 obtain ⟨P, hP⟩ : ∃ P : Nat, P = 2 ^ B := ⟨_, rfl⟩
 have hP256 : P <= 256 := by rw [hP]; exact Nat.le_trans (Nat.pow_le_pow_right (by omega) hB) (by decide)
 have HPB := lh hP
 have hshl : wrap64 ((2 : Int) ^ B) = (P : Int) := by
  rw [show ((2 : Int) ^ B) = ((2 ^ B : Nat) : Int) by push_cast; rfl, <- hP];exact IntWalk.wrap64_in _ (by omega)
 rw [<- hP] at HES HX ⊢;have HB0 := lh hb0;have HQ0 := lh q0;have k0 := q0.cell 0;have kz := q0.lt
 have hB1 : ¬ ((B : Int) < 0) := by omega
 have hB2 : ¬ (8 < (B : Int)) := by omega
 have hB64 : (B : Int) < 64 := by omega
 clear hb0 q0 hx hest hBe hP;go_enter Tryz.func13, Tryz.ntmps13;go_wp2_with fail;rw [<- hw0];clear hw0;refine (HSE.o _).mono ?_;rintro e w1 ⟨rfl, rfl⟩;go_wp2_with fail
 try rw [hshl]
 clear hshl k0 kz
 go_loopw [7, 26] (fun v i wr => ∃ (s : Nat) (oa : Option Addr) (oc : Nat), s <= P /\ i = .int .i64 s /\ v = .slice oa s oc /\ OwnU wr (w.heap.size + 1) (.slice oa s oc) ((List.range s).map x) /\ Blk wr w.heap.size #[.int .i64 (n : Int), .slice a tl cap] 24 /\ Below w.heap.size w wr) (fun _ i _ => P - (intOf i).toNat)
 case atStart => exact ⟨0, none, 0, Nat.zero_le _, rfl, rfl, OwnL.nil _ _, HQ0.o, HB0.o⟩
 obtain ⟨s, oa, oc, hs, rfl, rfl, ho, hq, hb⟩ := hrel;have HO := lh ho;have HQ := lh hq;have HB := lh hb;have k0 := hq.cell 0;have k1 := hq.cell 1;have kz := hq.lt;clear ho hq hb
 by_cases hlt : s < P
 ·have hsi : (s : Int) < (P : Int) := by omega
  have hs256 : (s : Int) < 256 := by omega
  have hsh : (0 : Int) <= 8 - (B : Int) := by omega
  have HVAL : Hid (wrap64 ((s : Int) * 2 ^ (8 - B)) % 256 = ((s * 2 ^ (8 - B) : Nat) : Int)) := by
   have h1 : s * 2 ^ (8 - B) < 2 ^ B * 2 ^ (8 - B) := Nat.mul_lt_mul_of_pos_right (by rw [<- HPB.o]; exact hlt) (Nat.pow_pos (by omega));rw [<- Nat.pow_add, show B + (8 - B) = 8 by omega] at h1
   show _ = _
   rw [show (s : Int) * 2 ^ (8 - B) = ((s * 2 ^ (8 - B) : Nat) : Int) by push_cast; rfl];generalize s * 2 ^ (8 - B) = v at *;rw [IntWalk.wrap64_in _ (by omega)];omega
  have HEK := lh (fun V hV b hb => HES.o s hlt V hV b hb);have HUI := lh (fun V => zy0 (x s) (HX.o s hlt) V);unfold natv at HUI
  have HRG : Hid ((List.range (s + 1)).map x = (List.range s).map x ++ [x s]) := by show _ = _; rw [List.range_succ, List.map_append]; rfl
  have HLN : Hid (((List.range s).map x).length = s) := by show _ = _; simp
  obtain ⟨l0, hl0⟩ : ∃ l0, l0 = (List.range s).map x := ⟨_, rfl⟩
  rw [<- hl0] at HRG HLN HO;generalize x s = y at *;clear hl0;go_wp2_with fail;rw [HVAL.o];have hba : Below wr.heap.size wr (wr.alloc (.cells #[.int .u8 ((s * 2 ^ (8 - B) : Nat) : Int)] 5)) := (Below.refl _ _).alloc (Nat.le_refl _) _;refine (HEK.o _ (HB.o.trans (hba.mono HB.o.size)) _ (Blk.new _ _ _)).mono ?_;rintro e w2 ⟨rfl, hb2⟩;have hb12 := hba.trans (hb2.mono hba.size);have HO2 := lh (HO.o.later hb12);have HQ2 := lh (HQ.o.later hb12);have HB2 := lh (HB.o.trans (hb12.mono HB.o.size));clear hba hb2 hb12 HEK HVAL k0 k1 kz HO HQ HB;go_wp2_with fail
  obtain ⟨w3, hw3⟩ : ∃ W, W = w2.alloc (.cells #[.string (natB y)] 44) := ⟨_, rfl⟩
  have hb3 : Below w2.heap.size w2 w3 := by rw [hw3]; exact (Below.refl _ _).alloc (Nat.le_refl _) _
  rw [<- hw3];clear hw3;refine (HUI.o _).mono ?_;rintro e w4 ⟨rfl, hb4⟩;have hb34 := hb3.trans (hb4.mono hb3.size);have HO4 := lh (HO2.o.later hb34);have HQ4 := lh (HQ2.o.later hb34);have HB4 := lh (HB2.o.trans (hb34.mono HB2.o.size));have HZ4 : Hid (w.heap.size + 1 <= w4.heap.size) := HQ4.o.lt
  have HLM : Hid (l0.length <= 1073741824) := by show _ <= _; rw [HLN.o]; omega
  clear hb3 hb4 hb34 HO2 HQ2 HB2;go_wp2_with (at_builtin; go_loud (refine zlx (C := #[.int .u64 (y : Int)]) elemU rfl _ _ rfl (w.heap.size + 1) (.slice oa s oc) l0 y rfl HO4.o rfl rfl rfl (by intro u hu; simp [U1] at hu; subst hu; rfl) HLM.o (by decide) HZ4.o ?_));intro g5 cap5 w5 ho5 hg5 hgn5;rw [HLN.o] at ho5 ⊢;rw [<- HRG.o] at ho5
  have hge : ∀ k, (Value.slice oa s oc).ownBlock = some k -> w.heap.size + 1 <= k := fun k hk => (World.ownsRow.lt HO4.o k hk).1
  have HO5 := lh ho5;have HQ5 := lh (HQ4.o.kept (Kp.grown hg5 fun k h => h) fun h => by have := hge _ h; omega)
  have HB5 : Hid (Below w.heap.size w w5) := HB4.o.grown hg5 (by have := HZ4.o; omega) fun k hk => by have := hge k hk; omega
  clear ho5 hg5 hgn5 hge;go_wp2;go_roundw
  case rel => exact ⟨s + 1, _, _, by omega, by go_num, rfl, HO5.o, HQ5.o, HB5.o⟩
  case measure => simp [intOf]; omega
 obtain rfl : s = P := by omega
 have hsn : ¬ ((s : Int) < (s : Int)) := by omega
 clear k0 k1 kz;go_wp2;go_ret2;exact ⟨oa, oc, rfl, HO.o.lower (by omega), HB.o⟩
def Stab (w : World) : Prop := ∀ i, i < 12 -> w.cell? ⟨0, i * 2, none⟩ = some (.int .i64 ((sizesL.getD i (0, 0)).1 : Int)) /\ w.cell? ⟨0, i * 2 + 1, none⟩ = some (.int .i64 ((sizesL.getD i (0, 0)).2 : Int))
theorem Stab.keep {w w' : World} (h : Stab w) (hb : Below w.heap.size w w') : Stab w' := fun i hi => ⟨zab hb (h i hi).1, zab hb (h i hi).2⟩
structure MEnv (t : List Cl) (C : Nat -> Nat) (X : Nat -> Nat -> Nat -> Nat) (w : World) : Prop where
 mod : ∀ n, n <= 8 -> ∀ V, Below w.heap.size w V -> ∀ a cap, LsCells V a (fewT n t) -> Calls Tryz.prog 12 #[.agg #[.int .i64 (n : Int), .slice a t.length cap]] V fun e w' => e = .returned (.int .u64 (C n : Int)) /\ Below V.heap.size V w'
 est : ∀ p ∈ sizesL, ∀ V, Below w.heap.size w V -> ∀ a cap, LsCells V a (fewT p.1 t) -> Calls Tryz.prog 13 #[.agg #[.int .i64 (p.1 : Int), .slice a t.length cap], .int .i64 (p.2 : Int)] V (zlu (X p.1 p.2) (2 ^ (p.2 * (p.1 + 1))) V)
 wk : ∀ V, Below w.heap.size w V -> Calls Tryz.prog 10 #[] V fun e w' => e = .returned (.bool true) /\ Below V.heap.size V w'
 bd : ∀ p ∈ sizesL, C p.1 <= 256 /\ ∀ s, X p.1 p.2 s <= 256
 s1 : ∀ p ∈ sizesL, sumE (X p.1 p.2) (2 ^ (p.2 * (p.1 + 1))) = 2 ^ (p.2 * (p.1 + 1)) * C p.1
 s2 : ∀ p ∈ sizesL, sumE (fun s => X p.1 p.2 s * X p.1 p.2 s) (2 ^ (p.2 * (p.1 + 1))) = 2 ^ (p.2 * (p.1 + 1)) * (C p.1 * C p.1 + C p.1 * (2 ^ p.2 - 1))
theorem zej (x : Nat) (h : x < 9223372036854775808) : IntKind.u64.wrap (x : Int) = x := by simp [IntKind.wrap, IntKind.bits, IntKind.signed]; omega
end Go.Proofs.YtlleofjjdhfgcaaGreatDoor
