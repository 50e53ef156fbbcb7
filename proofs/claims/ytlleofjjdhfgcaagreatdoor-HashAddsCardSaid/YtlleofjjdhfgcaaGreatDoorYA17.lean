/- Parts of the proofs of laws. Texts: CpE. -/
import Derived.Test.YtlleofjjdhfgcaaGreatDoorYA16
set_option maxHeartbeats 8000000
set_option maxRecDepth 100000
set_option linter.all false
namespace Go.Proofs.YtlleofjjdhfgcaaGreatDoor
open Go.RowKit Cen
theorem zbj (n : Int) (a : Option Addr) (cap : Nat) (t : List Cl) (w : World) (hl : t.length <= 1073741824) (hs : ∀ c ∈ t, c.length <= 1073741824) (hx : LsCells w a t) :
 Calls Tryz.prog 32 #[.agg #[.int .i64 n, .slice a t.length cap]] w fun e w' => e = .returned (.int .i64 (chkT n t)) /\ Below w.heap.size w w' := by
 have hb0 : Below w.heap.size w (w.alloc (.cells #[.int .i64 n, .slice a t.length cap] 24)) := ba _ _;have HB0 := lh hb0
 by_cases hn : n < 0 \/ 128 < n
 ·have HR : Hid (chkT n t = 6) := by show _ = _; unfold chkT; rw [if_pos hn]
  clear hx hb0
  rcases hn with hn | hn
  ·go_enter Tryz.func32, Tryz.ntmps32;go_wp2;go_ret;exact ⟨by rw [HR.o]; rfl, HB0.o⟩
  have hn0 : ¬ n < 0 := by omega
  go_enter Tryz.func32, Tryz.ntmps32;go_wp2;go_ret;exact ⟨by rw [HR.o]; rfl, HB0.o⟩
 have hn0 : 0 <= n := by omega
 have hn1 : n <= 128 := by omega
 by_cases hlt : 4096 < t.length
 ·have HR : Hid (chkT n t = 2) := by show _ = _; unfold chkT; rw [if_neg hn, if_pos hlt]
  have hli : (4096 : Int) < (t.length : Int) := by omega
  clear hx hb0 hn;go_enter Tryz.func32, Tryz.ntmps32;go_wp2;go_ret;exact ⟨by rw [HR.o]; rfl, HB0.o⟩
 have HR : Hid (chkT n t = zg0 n (t.drop 0)) := by show _ = _; unfold chkT; rw [if_neg hn, if_neg hlt]; rfl
 have hli : (t.length : Int) <= 4096 := by omega
 have HX := lh (hx.keep hb0);have HS := lh hs;obtain ⟨w0, hw0⟩ := nm (w.alloc (.cells #[.int .i64 n, .slice a t.length cap] 24));rw [<- hw0] at HX HB0
 have b0 : w0.cell? ⟨w.heap.size, 0, none⟩ = some (.int .i64 n) := by rw [hw0, World.cell?_alloc_at _ _ _ _ rfl]; rfl
 have b1 : w0.cell? ⟨w.heap.size, 1, none⟩ = some (.slice a t.length cap) := by rw [hw0, World.cell?_alloc_at _ _ _ _ rfl]; rfl
 clear hx hs hb0 hn;go_enter Tryz.func32, Tryz.ntmps32;go_wp2_with fail;rw [<- hw0];clear hw0;go_wp2_with fail
 go_loopw [22] (fun i wr => ∃ k : Nat, k <= t.length /\ i = .int .i64 k /\ wr = w0 /\ chkT n t = zg0 n (t.drop k)) (fun i _ => t.length - (intOf i).toNat)
 case atStart => exact ⟨0, Nat.zero_le _, rfl, rfl, HR.o⟩
 obtain ⟨k, hk, rfl, rfl, hch⟩ := hrel;have HC := lh hch;clear hch
 by_cases hkt : k < t.length
 ·obtain ⟨b, off, ai, ci, rfl, hc1, hi⟩ := HX.o k hkt;have HD := lh (zr8 (n := n) hkt);have hcl := HS.o _ (by rw [List.getD_eq_getElem?_getD, List.getElem?_eq_getElem hkt]; exact List.getElem_mem hkt : t.getD k [] ∈ t)
  have hki : (k : Int) < (t.length : Int) := by omega
  have HI := lh hi;clear hi;generalize t.getD k [] = c at *
  by_cases h128 : 128 < c.length
  ·have hci : (128 : Int) < (c.length : Int) := by omega
   have HE : Hid (chkT n t = 2) := by show _ = _; rw [HC.o, HD.o, if_pos h128]
   go_wp2;go_ret;exact ⟨by rw [HE.o]; rfl, HB0.o⟩
  have hci : (c.length : Int) <= 128 := by omega
  have HD2 : Hid (chkT n t = if (c.all fun x => zbn x n) = true then zg0 n (t.drop (k + 1)) else 1) := by show _ = _; rw [HC.o, HD.o, if_neg h128]
  go_wp2_with fail
  go_loopw [31] (fun i wi => ∃ q : Nat, q <= c.length /\ i = .int .i64 q /\ wi = wr /\ (c.all fun x => zbn x n) = (c.drop q).all fun x => zbn x n) (fun i _ => c.length - (intOf i).toNat)
  case atStart => exact ⟨0, Nat.zero_le _, rfl, rfl, rfl⟩
  obtain ⟨q, hq, rfl, hwi, hal⟩ := hrel;obtain rfl := hwi;have HA := lh hal;clear hal
  by_cases hqc : q < c.length
  ·obtain ⟨b2, off2, rfl, e0⟩ := HI.o q hqc
   have hqi : (q : Int) < (c.length : Int) := by omega
   have HDQ : Hid (((c.drop q).all fun x => zbn x n) = (zbn (c.getD q 0) n && (c.drop (q + 1)).all fun x => zbn x n)) := by
    show _ = _; rw [List.drop_eq_getElem_cons hqc, List.all_cons]; simp [List.getD_eq_getElem?_getD, hqc]
   generalize c.getD q 0 = y at *
   cases hy : zbn y n with
   | true =>
     have HV := lh (zcs y n wr);rw [hy] at HV
     have HN : Hid ((c.all fun x => zbn x n) = (c.drop (q + 1)).all fun x => zbn x n) := by show _ = _; rw [HA.o, HDQ.o, hy, Bool.true_and]
     clear hy;go_wp2_with fail;refine HV.o.mono ?_;rintro e w' ⟨rfl, rfl⟩;go_wp2;go_roundw
     case rel => exact ⟨q + 1, by omega, by go_num, by first | rfl | trivial, HN.o⟩
     case measure => simp [intOf]; omega
   | false =>
     have HV := lh (zcs y n wr);rw [hy] at HV
     have HE : Hid (chkT n t = 1) := by show _ = _; rw [HD2.o, HA.o, HDQ.o, hy, Bool.false_and, if_neg (by simp)]
     clear hy;go_wp2_with fail;refine HV.o.mono ?_;rintro e w' ⟨rfl, rfl⟩;go_wp2;go_ret;exact ⟨by rw [HE.o]; rfl, HB0.o⟩
  have hqe : q = c.length := by omega
  subst hqe
  have HN : Hid (chkT n t = zg0 n (t.drop (k + 1))) := by show _ = _; rw [HD2.o, HA.o, List.drop_length]; rfl
  go_wp2;go_roundw
  case rel => exact ⟨k + 1, by omega, by go_num, by first | rfl | trivial, HN.o⟩
  case measure => simp [intOf]; omega
 have hke : k = t.length := by omega
 subst hke
 have HE : Hid (chkT n t = 0) := by show _ = _; rw [HC.o, List.drop_length]; rfl
 go_wp2;go_ret;exact ⟨by rw [HE.o]; rfl, HB0.o⟩
end Go.Proofs.YtlleofjjdhfgcaaGreatDoor
