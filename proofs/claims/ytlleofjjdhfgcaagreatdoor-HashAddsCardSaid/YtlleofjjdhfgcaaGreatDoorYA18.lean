/- Parts of the proofs of laws. Texts: Db. -/
import Derived.Test.YtlleofjjdhfgcaaGreatDoorYA17
set_option maxHeartbeats 8000000
set_option maxRecDepth 100000
set_option linter.all false
namespace Go.Proofs.YtlleofjjdhfgcaaGreatDoor
open Go.RowKit Cen
def zc3 (n : Int) (t : List Cl) (order : List Int) : Int :=
 if chkT n t ≠ 0 then chkT n t else if 0 < order.length /\ ((order.length : Int) ≠ n \/ ofL order ≠ zbq n) then 1 else 0
theorem zl7 (n : Int) (a : Option Addr) (cap : Nat) (t : List Cl) (oa : Option Addr) (oc : Nat) (order : List Int) (w : World) (hl : t.length <= 1073741824) (hs : ∀ c ∈ t, c.length <= 1073741824) (hx : LsCells w a t) (hol : order.length <= 1073741824) (ho : IntCells w oa order) :
 Calls Tryz.prog 67 #[.agg #[.int .i64 n, .slice a t.length cap], .slice oa order.length oc] w fun e w' => e = .returned (.int .i64 (zc3 n t order)) /\ Below w.heap.size w w' := by
 have hb0 : Below w.heap.size w (w.alloc (.cells #[.int .i64 n, .slice a t.length cap] 24)) := ba _ _;have HB0 := lh hb0;have HX := lh hx;have HO := lh ho;have HS := lh hs;clear hb0 hx ho hs;go_enter Tryz.func67, Tryz.ntmps67;go_wp2_with fail;refine (zbj n a cap t _ hl HS.o (HX.o.keep HB0.o)).mono ?_;rintro e w1 ⟨rfl, hb1⟩;have HB1 := bt HB0 hb1;have c0 : w1.cell? ⟨w.heap.size, 0, none⟩ = some (.int .i64 n) := zab hb1 (by rw [World.cell?_alloc_at _ _ _ _ rfl]; rfl);have hs1 : w.heap.size < w1.heap.size := Nat.lt_of_lt_of_le (by simp) hb1.size;clear hb1 HB0;obtain ⟨c, hc⟩ := nm (chkT n t);have HC := lh hc
 rw [<- hc];clear hc
 by_cases hz : c = 0
 ·subst hz
  have HF : Hid (zc3 n t order = if 0 < order.length /\ ((order.length : Int) ≠ n \/ ofL order ≠ zbq n) then 1 else 0) := by
   show _ = _
   unfold zc3;rw [if_neg (by rw [<- HC.o]; simp)]
  by_cases h0 : order.length = 0
  ·have hi0 : ¬ (0 : Int) < (order.length : Int) := by omega
   have HR : Hid (zc3 n t order = 0) := by
    show _ = _
    rw [HF.o, if_neg (by omega)]
   go_wp2_with fail
   go_quiet (fail)
   go_wp2;go_ret;exact ⟨by rw [HR.o]; rfl, HB1.o.trans (zal _ _)⟩
  have hi0 : (0 : Int) < (order.length : Int) := by omega
  have hp0 : 0 < order.length := by omega
  by_cases h1 : (order.length : Int) = n
  ·have HCN : Hid (order.length <= 1073741824) := hol
   have HR : Hid (zc3 n t order = if eqSt (ofL order) (zbq n) then 0 else 1) := by
    show _ = _
    rw [HF.o]
    by_cases he : ofL order = zbq n
    ·rw [if_neg (by simp [he, h1]), if_pos (by simp [eqSt, he])]
    rw [if_pos ⟨hp0, .inr he⟩, if_neg (by simp [eqSt, he])]
   have HO1 := lh (HO.o.keep HB1.o)
   have HOF : Hid (∀ W, IntCells W oa order -> Calls Tryz.prog 79 #[.slice oa order.length oc] W fun e w' => e = .returned (stv (ofL order)) /\ Below W.heap.size W w') := fun W hW => zoo oa oc order W HCN.o hW
   have HAL : Hid (∀ W, Calls Tryz.prog 36 #[.int .i64 (order.length : Int)] W fun e w' => e = .returned (stv (zbq n)) /\ Below W.heap.size W w') := fun W => by rw [h1]; exact zlw n W
   subst h1;have hgd := zfp;generalize ofL order = s1 at *;generalize zbq (order.length : Int) = s2 at *
   cases hcz : eqSt s1 s2
   all_goals
    have hn2 : ∀ w : World, (binOp .neq 40 (.agg #[.int .u64 (s1.a : Int), .int .u64 (s1.b : Int)]) (.agg #[.int .u64 (s2.a : Int), .int .u64 (s2.b : Int)])).run Tryz.prog w = .ok (.bool !(eqSt s1 s2)) w := fun w => zjw _ _ w
    rw [hcz] at hn2 HR;clear hcz;go_wp2_with fail
    go_region_with (first
     | (go_at_call 79; refine (HOF.o _ (by first | exact HO1.o.keep (Below.refl _ _).drew | exact HO1.o.keep HB6.o)).mono ?_; rintro e5 w5 ⟨rfl, hb5⟩; have HB5 : Hid (Below w1.heap.size w1 w5) := (by first | exact zci hb5 | exact HB6.o.trans (hb5.mono HB6.o.size)); have c5 := zab HB5.o c0)
     | (go_at_call 36; refine (HAL.o _).mono ?_; rintro e6 w6 ⟨rfl, hb6⟩; have HB6 : Hid (Below w1.heap.size w1 w6) := (by first | exact zci hb6 | exact HB5.o.trans (hb6.mono HB5.o.size)); have c6 := zab HB6.o c0))
    all_goals
     go_wp2;go_ret;refine ⟨by rw [HR.o]; rfl, HB1.o.trans (Below.mono ?_ HB1.o.size)⟩
     first | exact HB5.o | exact HB6.o
  have HR : Hid (zc3 n t order = 1) := by
   show _ = _
   rw [HF.o, if_pos ⟨by omega, .inl h1⟩]
  have h1b : ((order.length : Int) == n) = false := by simpa using h1
  have h1d : decide ((order.length : Int) = n) = false := by simpa using h1
  go_wp2_with fail
  go_quiet (fail)
  go_wp2;go_ret;exact ⟨by rw [HR.o]; rfl, HB1.o.trans (zal _ _)⟩
 have HR : Hid (zc3 n t order = c) := by
  show _ = _
  unfold zc3;rw [<- HC.o, if_pos hz]
 go_wp2;go_ret;exact ⟨by rw [HR.o]; rfl, HB1.o⟩
end Go.Proofs.YtlleofjjdhfgcaaGreatDoor
