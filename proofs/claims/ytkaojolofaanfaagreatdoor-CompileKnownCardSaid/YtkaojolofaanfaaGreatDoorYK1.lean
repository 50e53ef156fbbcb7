/- Part of the proofs that laws of censuslaw24 return true for every input, where the tables that the rows list are laid. Texts: RedL, R20N, R20M. -/
import Derived.Test.YtkaojolofaanfaaGreatDoorYA4
import Derived.Test.YtkaojolofaanfaaGreatDoorYA1
import Derived.Lib.ItoaNum
import Derived.Test.YtkaojolofaanfaaGreatDoorYA33
import Derived.Test.YtkaojolofaanfaaGreatDoorYA32
import Derived.Test.YtkaojolofaanfaaGreatDoorYA5
import Derived.Test.YtkaojolofaanfaaGreatDoorProg
import Derived.WalkKit
import Derived.WalkSpells
import Derived.WalkLawsBesides
import Derived.Deep.QuietTactic
import Derived.BigQuiet
import Derived.Lib.Hide
import Derived.Laws.ResultCell
import Derived.Test.YtkaojolofaanfaaGreatDoorYA2
import Derived.Deep.RegionWith
import Derived.Outline
import Derived.StillTailTactics
import Derived.Shelf.Strings.Builder1
import Derived.Shelf.Small.Bits
import Derived.Shelf.Strings.BuilderF
import Derived.Shelf.Strings.BuilderK
import Derived.Shelf.Strconv.Itoa0
import Derived.Shelf.Strconv.Itoa1
import Derived.Shelf.LaysM
import Derived.Shelf.Strconv.Itoa2
import Derived.Shelf.Strconv.Itoa3
import Derived.Shelf.Sort.Plain
import Derived.Shelf.Strconv.AppendUint10
import Derived.Shelf.Strconv.AppendInt10
import Derived.Shelf.Strconv.AppendIntPublic10
import Derived.Shelf.Slices.Equal
import Derived.Ground.Names2Prog
import Derived.Shelf.Slices.CompactI
import Derived.Maps.OwnOps
import Derived.Maps.OwnSet
import Derived.Lib.AppendStr
import Derived.Deep.AppendLies
import Derived.Deep.RegionLaw
import Derived.Test.YtkaojolofaanfaaGreatDoorYA7
import Derived.Test.YtkaojolofaanfaaGreatDoorYA6
import Derived.Deep.DeepCutAuto
import Derived.Test.YtkaojolofaanfaaGreatDoorYA43
import Derived.Deep.RegionHeld3
import Derived.BigRegion
import Derived.RowKit
set_option maxHeartbeats 8000000
set_option maxRecDepth 100000
set_option linter.unusedSimpArgs false
set_option linter.unusedVariables false
namespace Cen
structure RedOk (n : Int) (st : List Nd × List Int) (k : Nat) : Prop where
 nds : zno st.1 n st.1.length
 le : st.1.length <= k
 len : st.2.length = k
 at_ : ∀ i ∈ st.2, 0 <= i /\ i < (st.1.length : Int)
theorem RedOk.getD {n : Int} {st : List Nd × List Int} {k : Nat} (h : RedOk n st k) (i : Nat) (hi : i < k) : 0 <= st.2.getD i 0 /\ st.2.getD i 0 < (st.1.length : Int) := by
 have hi' : i < st.2.length := by rw [h.len]; exact hi
 have := h.at_ (st.2[i]) (List.getElem_mem hi')
 simpa [List.getD_eq_getElem?_getD, hi'] using this
end Cen
namespace Go.Proofs.YtkaojolofaanfaaGreatDoor
open Go.RowKit Cen
def nthA (n k : Nat) : Nat -> Nat
 | 0 => 0
 | v + 1 => if k.testBit (n - (v + 1)) then nthA n k v ||| 2 ^ v else nthA n k v
def nthL (n k : Nat) : St := ⟨nthA n k n, 0⟩
theorem zwf (n k : Nat) : ∀ v, v <= 64 -> nthA n k v < U64 := by
 intro v
 induction v with
 | zero => intro _; unfold nthA U64; omega
 | succ v ih =>
   intro hv;rw [nthA]; split
   ·exact zdq (ih (by omega)) (zcc (by omega))
   ·exact ih (by omega)
theorem nth_any (n k : Nat) (w : World) (hn : n <= 16) (_hk : k <= 65536) : Calls Tryz.prog 93 #[.int .i64 n, .int .i64 k] w fun e w' => e = .returned (stv (nthL n k)) /\ Below w.heap.size w w' := by
 have HB0 := lh (((Below.refl w.heap.size w).alloc (Nat.le_refl _) (.cells #[.int .u64 0, .int .u64 0] 54)).alloc (by simp) (.cells #[.int .u64 0, .int .u64 0] 54));have q0 := lh ((Blk.new w #[.int .u64 0, .int .u64 0] 54).alloc (.cells #[.int .u64 0, .int .u64 0] 54));have q1 := lh (Blk.new' (w.alloc (.cells #[.int .u64 0, .int .u64 0] 54)) (World.size_alloc _ _) #[.int .u64 0, .int .u64 0] 54);go_enter Tryz.func93, Tryz.ntmps93;go_wp2;generalize (w.alloc (.cells #[.int .u64 0, .int .u64 0] 54)).alloc (.cells #[.int .u64 0, .int .u64 0] 54) = W at *
 go_loopw [6] (fun i wr => ∃ v : Nat, v <= n /\ i = .int .i64 (v + 1) /\ Blk wr (w.heap.size + 1) #[.int .u64 (nthA n k v : Int), .int .u64 0] 54 /\ Below (w.heap.size + 1) W wr) (fun i _ => n + 1 - (intOf i).toNat)
 case atStart => exact ⟨0, Nat.zero_le _, rfl, q1.out, Below.refl _ _⟩
 case round =>
  obtain ⟨v, hv, rfl, hblk, hb⟩ := hrel;have HBK := lh hblk;have HB := lh hb;have hz : w.heap.size + 1 < wr.heap.size := hblk.lt;have c0 : wr.cell? ⟨w.heap.size + 1, 0, none⟩ = some (.int .u64 (nthA n k v : Int)) := hblk.cell 0;have c1 : wr.cell? ⟨w.heap.size + 1, 1, none⟩ = some (.int .u64 0) := hblk.cell 1;have f0 := hblk.fr 0;have f1 := hblk.fr 1;clear hblk hb
  by_cases hlt : v < n
  ·have hdl : decide (((v : Int) + 1) <= (n : Int)) = true := by simp; omega
   have HE : Hid (bits BinOp.or IntKind.u64 ((nthA n k v : Nat) : Int) (IntKind.u64.wrap ((2 : Int) ^ v)) = ((nthA n k v ||| 2 ^ v : Nat) : Int)) := by
    show _ = _; rw [zhn (by omega), or64 (zwf n k v (by omega)) (zcc (by omega))]
   cases hkb : k.testBit (n - (v + 1)) with
   | false =>
     have hb : (((k : Int) / 2 ^ (n - (v + 1))).tmod 2 == 1) = false := by rw [tbit, hkb]
     have HN : Hid (nthA n k (v + 1) = nthA n k v) := by show _ = _; rw [nthA, hkb]; rfl
     clear hkb;go_wp2;go_roundw
     case rel => exact ⟨v + 1, by omega, by go_num, by rw [HN.out]; exact HBK.out, HB.out⟩
     case measure => simp [intOf]; omega
   | true =>
     have hb : (((k : Int) / 2 ^ (n - (v + 1))).tmod 2 == 1) = true := by rw [tbit, hkb]
     have HN : Hid (nthA n k (v + 1) = nthA n k v ||| 2 ^ v) := by show _ = _; rw [nthA, hkb]; rfl
     clear hkb;go_wp2;go_roundw
     case rel =>
      refine ⟨v + 1, by omega, by go_num, ?_, HB.out.setCell (Nat.le_refl _) _⟩;rw [HN.out, <- HE.out];exact HBK.out.set 0 _
     case measure => simp [intOf]; omega
  ·have : v = n := by omega
   subst this
   have hdl : decide (((v : Int) + 1) <= (v : Int)) = false := by simp; omega
   have R0 := lh (q0.out.laterB HB.out (by omega));have r0 : wr.cell? ⟨w.heap.size, 0, none⟩ = some (.int .u64 0) := R0.out.cell 0;have r1 : wr.cell? ⟨w.heap.size, 1, none⟩ = some (.int .u64 0) := R0.out.cell 1;have rf0 := R0.out.fr 0;have rf1 := R0.out.fr 1;have hz0 : w.heap.size < wr.heap.size := R0.out.lt
   obtain ⟨A, hA⟩ : ∃ A, A = nthA v k v := ⟨_, rfl⟩
   rw [<- hA] at c0;have HA := lh hA;have HBA := lh (HB0.out.trans (HB.out.mono (by omega)));clear hA;go_wp2;have hbr := (R0.out.set 0 (.int .u64 (A : Int))).set 1 (.int .u64 0);have e0 : ((wr.setCell ⟨w.heap.size, 0, none⟩ (.int .u64 (A : Int))).setCell ⟨w.heap.size, 1, none⟩ (.int .u64 0)).cell? ⟨w.heap.size, 0, none⟩ = some (.int .u64 (A : Int)) := hbr.cell 0;have e1 : ((wr.setCell ⟨w.heap.size, 0, none⟩ (.int .u64 (A : Int))).setCell ⟨w.heap.size, 1, none⟩ (.int .u64 0)).cell? ⟨w.heap.size, 1, none⟩ = some (.int .u64 0) := hbr.cell 1;exact bodyPost_ret (v := stv ⟨A, 0⟩) (by simp [results, Tryz.results93, go_sem, e0, e1]) rfl ⟨by unfold nthL; rw [HA.out], (HBA.out.setCell (Nat.le_refl _) _).setCell (Nat.le_refl _) _⟩
def modK (N : Nat) (l : List Nd) (k : Nat) : Bool := ev (nthL N k).mem ⟨N, l⟩
def modUp (N : Nat) (l : List Nd) (k : Nat) : List St := ((List.range k).filter (modK N l)).map (nthL N)
theorem modUp_succ (N : Nat) (l : List Nd) (k : Nat) : modUp N l (k + 1) = if modK N l k then modUp N l k ++ [nthL N k] else modUp N l k := by
 unfold modUp;rw [List.range_succ, List.filter_append, List.map_append]
 cases h : modK N l k <;> simp [h]
theorem modUp_len (N : Nat) (l : List Nd) (k : Nat) : (modUp N l k).length <= k := by
 unfold modUp;rw [List.length_map];have := List.length_filter_le (modK N l) (List.range k)
 simpa using this
theorem nthL_ok {N : Nat} (h : N <= 16) (k : Nat) : (nthL N k).ok := ⟨zwf N k N (by omega), by show 0 < U64; unfold U64; omega⟩
theorem models_any (N : Nat) (a : Option Addr) (cap : Nat) (l : List Nd) (w : World) (hok : zdi ⟨N, l⟩ = true) (hN : N <= 16) (hx : NdCells w a l) :
 Calls Tryz.prog 38 #[.agg #[.int .i64 N, .slice a l.length cap]] w fun e w' => ∃ v, e = .returned v /\ zga w' w.heap.size v (modUp N l (2 ^ N)) /\ Below w.heap.size w w' := by
 have hb0 : Below w.heap.size w (w.alloc (.cells #[.int .i64 N, .slice a l.length cap] 24)) := (Below.refl _ _).alloc (Nat.le_refl _) _;have HB0 := lh hb0;have HX := lh (hx.keep hb0);have q0 := lh (Blk.new w #[.int .i64 N, .slice a l.length cap] 24);have HOK := lh hok
 have hl1 : l.length <= 1073741824 := by have := (zcv hok).2.2.2; simp only at this; omega
 have HZ0 : Hid ((w.alloc (.cells #[.int .i64 N, .slice a l.length cap] 24)).heap.size = w.heap.size + 1) := by show _ = _; simp
 have hM : 2 ^ N <= 65536 := Nat.pow_le_pow_right (n := 2) (by omega) hN
 have hsh : wrap64 ((2 : Int) ^ N) = ((2 ^ N : Nat) : Int) := by
  rw [show ((2 : Int) ^ N) = ((2 ^ N : Nat) : Int) from by norm_cast];generalize 2 ^ N = M at *;exact IntWalk.wrap64_in ((M : Nat) : Int) (by omega)
 have HSH := lh hsh;have HM := lh hM;clear hb0 hx hok hM hsh;go_enter Tryz.func38, Tryz.ntmps38;go_wp2_with fail;generalize w.alloc (.cells #[.int .i64 N, .slice a l.length cap] 24) = W at *
 go_loopw [3, 4] (fun v i wr => ∃ k : Nat, k <= 2 ^ N /\ i = .int .i64 k /\ zga wr (w.heap.size + 1) v (modUp N l k) /\ Below (w.heap.size + 1) W wr) (fun _ i _ => 2 ^ N - (intOf i).toNat)
 case atStart => exact ⟨0, Nat.zero_le _, rfl, OwnL.nil _ _, Below.refl _ _⟩
 case round =>
  obtain ⟨k, hk, rfl, hown, hb⟩ := hrel;have HO := lh hown;have HKM := lh hk;have HBW := lh hb
  have hbs : Below W.heap.size W wr := by rw [HZ0.out]; exact hb
  have HXR := lh (HX.out.keep hbs);have Q0 := lh (q0.out.later hbs);have k0 : wr.cell? ⟨w.heap.size, 0, none⟩ = some (.int .i64 N) := Q0.out.cell 0;have k1 : wr.cell? ⟨w.heap.size, 1, none⟩ = some (.slice a l.length cap) := Q0.out.cell 1
  have HV : Hid (Calls Tryz.prog 28 #[.agg #[.int .i64 N, .slice a l.length cap]] wr fun e w' => e = .returned (.bool true) /\ Below wr.heap.size wr w') := by
   have h := zgp N a cap l wr hl1 HXR.out;rw [HOK.out] at h; exact h
  clear hown hb hbs hk;go_wp2_with fail;refine HV.out.mono ?_;rintro e w1 ⟨rfl, hb1⟩;have Q1 := lh (Q0.out.later hb1);have HB1 := lh hb1;clear k0 k1;have k0 : w1.cell? ⟨w.heap.size, 0, none⟩ = some (.int .i64 N) := Q1.out.cell 0;have k1 : w1.cell? ⟨w.heap.size, 1, none⟩ = some (.slice a l.length cap) := Q1.out.cell 1;clear hb1
  have hNi : ((N : Int) <= 16) := by omega
  have hk2 : k <= 65536 := Nat.le_trans HKM.out HM.out
  by_cases hlt : k < 2 ^ N
  ·have hd : decide ((k : Int) < wrap64 ((2 : Int) ^ N)) = true := by rw [HSH.out, decide_eq_true_iff]; exact Int.ofNat_lt.2 hlt
   have HNT := lh (nth_any N k w1 hN (by have := HM.out; omega));have HLT := lh hlt;clear hlt;go_wp2_with fail;refine HNT.out.mono ?_;rintro e w2 ⟨rfl, hb2⟩;have HSO : Hid (nthL N k).ok := nthL_ok hN k;have HUP := lh (modUp_succ N l k);have HLE := lh (modUp_len N l k);have HMK : Hid (modK N l k = ev (nthL N k).mem ⟨N, l⟩) := rfl;generalize nthL N k = s at *;have Q2 := lh (Q1.out.later hb2);have HB2 := lh (HB1.out.trans (hb2.mono HB1.out.size));have hz2 : w.heap.size < w2.heap.size := Q2.out.lt;have m0 : w2.cell? ⟨w.heap.size, 0, none⟩ = some (.int .i64 N) := Q2.out.cell 0;have m1 : w2.cell? ⟨w.heap.size, 1, none⟩ = some (.slice a l.length cap) := Q2.out.cell 1
   have HB3 : Hid (Below wr.heap.size wr (w2.alloc (.cells #[.int .u64 (s.a : Int), .int .u64 (s.b : Int)] 54))) := HB2.out.alloc HB2.out.size _;have HEV := lh (zr4 N a cap l s (w2.alloc (.cells #[.int .u64 (s.a : Int), .int .u64 (s.b : Int)] 54)) hl1 (HXR.out.keep HB3.out) HSO.out);rw [HOK.out, <- HMK.out] at HEV;have S3 := lh (Blk.new w2 #[.int .u64 (s.a : Int), .int .u64 (s.b : Int)] 54);clear hb2 k0 k1
   cases hm : modK N l k with
   | false =>
     rw [hm] at HEV HUP;clear hm;go_wp2_with fail;refine HEV.out.mono ?_;rintro e w4 ⟨rfl, hb4⟩;have HB4 := lh (HB3.out.trans (hb4.mono HB3.out.size));clear hb4;go_wp2;go_roundw
     case rel => exact ⟨k + 1, HLT.out, by go_num, by rw [HUP.out]; exact HO.out.later HB4.out, HBW.out.trans (HB4.out.mono (by have := HBW.out.size; have := HZ0.out; omega))⟩
     case measure =>
      have h1 := HLT.out;generalize 2 ^ N = M at *
      simp [intOf]; omega
   | true =>
     rw [hm] at HEV HUP;clear hm;go_wp2_with fail;refine HEV.out.mono ?_;rintro e w4 ⟨rfl, hb4⟩;have HB4 := lh (HB3.out.trans (hb4.mono HB3.out.size));have S4 := S3.out.later hb4;have s0 : w4.cell? ⟨w2.heap.size, 0, none⟩ = some (.int .u64 (s.a : Int)) := S4.cell 0;have s1 : w4.cell? ⟨w2.heap.size, 1, none⟩ = some (.int .u64 (s.b : Int)) := S4.cell 1;have HO4 := lh (HO.out.later HB4.out)
     have HZ4 : Hid (w.heap.size + 1 <= w4.heap.size) := by show _ <= _; have h1 := HBW.out.size; have h2 := HZ0.out; have h3 := HB4.out.size; omega
     clear hb4 S4 m0 m1;go_wp2_with (at_builtin; refine app1 (C := #[.int .u64 (s.a : Int), .int .u64 (s.b : Int)]) znf rfl _ _ rfl (w.heap.size + 1) _ _ _ rfl HO4.out rfl rfl (by simp [Value.oneCell']) (by unfold maxLen; have := HLE.out; have := HLT.out; have := HM.out; omega) (by have := HLE.out; have := HLT.out; have := HM.out; omega) HZ4.out ?_);intro v' w8 hown8 hgrow8 _
     have ho8 : zga w8 (w.heap.size + 1) v' (modUp N l k ++ [s]) := by unfold zga OwnL; rw [List.length_append, List.flatMap_append]; simpa [stc] using hown8
     have HO8 := lh ho8
     have HB8 : Hid (Below (w.heap.size + 1) W w8) := (HBW.out.trans (HB4.out.mono (by have := HBW.out.size; have := HZ0.out; omega))).grown hgrow8 HZ4.out (fun g hg => by
      rcases HO4.out.shape with ⟨h, _⟩ | ⟨g', cap'', h, h2, _⟩
      ·rw [h] at hg; simp [Value.ownBlock] at hg
      ·rw [h] at hg; simp [Value.ownBlock] at hg; omega)
     clear hown8 hgrow8 ho8;go_wp2;go_roundw
     case rel => exact ⟨k + 1, HLT.out, by go_num, by rw [HUP.out]; exact HO8.out, HB8.out⟩
     case measure =>
      have h1 := HLT.out;generalize 2 ^ N = M at *
      simp [intOf]; omega
  ·have hd : decide ((k : Int) < wrap64 ((2 : Int) ^ N)) = false := by rw [HSH.out, decide_eq_false_iff_not]; exact fun h => hlt (Int.ofNat_lt.1 h)
   have he : k = 2 ^ N := by have := HKM.out; omega
   have HO9 : Hid (zga w1 w.heap.size u3 (modUp N l (2 ^ N))) := by
    have h := HO.out;rw [he] at h;exact (h.later HB1.out).lower (by omega)
   have HB9 : Hid (Below w.heap.size w w1) := (HB0.out.trans (HBW.out.mono (by omega))).trans (HB1.out.mono (by have := HBW.out.size; have := HZ0.out; omega));clear hlt he;go_wp2;go_ret;exact ⟨_, rfl, HO9.out, HB9.out⟩
end Go.Proofs.YtkaojolofaanfaaGreatDoor
