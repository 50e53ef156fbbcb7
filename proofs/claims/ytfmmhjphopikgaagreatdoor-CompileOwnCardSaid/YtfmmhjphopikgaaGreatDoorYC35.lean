/- Part of the proofs that laws of censuslaw24 return true for every input, where the tables that the rows list are laid. Texts: El, Em. -/
import Derived.Test.YtfmmhjphopikgaaGreatDoorYC34
import Derived.Test.YtfmmhjphopikgaaGreatDoorYC1
set_option maxHeartbeats 8000000
set_option maxRecDepth 100000
set_option linter.unusedSimpArgs false
set_option linter.unusedVariables false
namespace Go.Proofs.YtfmmhjphopikgaaGreatDoor
open Go.RowKit Cen
theorem zon {α : Type} (d : α) {l m : List α} (hl : l.length = m.length) (h : ∀ j, j < l.length -> l.getD j d = m.getD j d) : l = m := by
 apply List.ext_getElem hl
 intro j h1 h2;have := h j h1
 simpa [List.getD_eq_getElem?_getD, h1, h2] using this
theorem zmf (n : Int) (a : Option Addr) (cap : Nat) (r : List Cl) (x : Int) (w : World) (hl : r.length <= 1073741824) (hs : ∀ c ∈ r, c.length <= 1073741824) (hx : LsCells w a r) :
 Calls Tryz.prog 88 #[.agg #[.int .i64 n, .slice a r.length cap], .int .i64 x] w fun e w' => e = .returned (.bool (hasU r x)) /\ Below w.heap.size w w' := by
 obtain ⟨w0, hw0⟩ : ∃ w0, w0 = w.alloc (.cells #[.int .i64 n, .slice a r.length cap] 24) := ⟨_, rfl⟩
 have hb0 : Below w.heap.size w w0 := by rw [hw0]; exact (Below.refl _ _).alloc (Nat.le_refl _) _
 have q0 : Blk w0 w.heap.size #[.int .i64 n, .slice a r.length cap] 24 := by rw [hw0]; exact Blk.new w _ _
 have HB0 := lh hb0;have HX := lh (hx.keep hb0);have HS := lh hs;have k1 := q0.cell 1;have z0 := q0.lt
 have HT : Hid (∀ k, k < r.length -> r.getD k [] = [x] -> hasU r x = true) := fun k hk h => by
  unfold hasU; rw [List.any_eq_true];exact ⟨r.getD k [], by rw [List.getD_eq_getElem?_getD, List.getElem?_eq_getElem hk]; exact List.getElem_mem hk, by simpa using h⟩
 have HF : Hid ((∀ k, k < r.length -> r.getD k [] ≠ [x]) -> hasU r x = false) := fun h => by
  rw [Bool.eq_false_iff]; intro hc;unfold hasU at hc;obtain ⟨c, hc, h2⟩ := List.any_eq_true.1 hc;obtain ⟨j, hj, rfl⟩ := List.getElem_of_mem hc;exact h j hj (by simpa [List.getD_eq_getElem?_getD, hj] using h2)
 generalize hasU r x = R at *;clear hx hb0 q0 hs;go_enter Tryz.func88, Tryz.ntmps88;go_wp2_with fail;rw [<- hw0];clear hw0;go_wp2_with fail
 go_loopw [5] (fun i wr => ∃ k : Nat, k <= r.length /\ i = .int .i64 k /\ (∀ j, j < k -> r.getD j [] ≠ [x]) /\ wr = w0) (fun i _ => r.length - (intOf i).toNat)
 case atStart => exact ⟨0, Nat.zero_le _, rfl, fun j h => absurd h (Nat.not_lt_zero _), rfl⟩
 obtain ⟨k, hk, rfl, hno, hwr⟩ := hrel;obtain rfl := hwr;have HN := lh hno;clear hno
 by_cases hlt : k < r.length
 ·obtain ⟨b1, off1, ai, ci, hae, hc1, hi⟩ := HX.o k hlt;have hcl := HS.o _ (by rw [List.getD_eq_getElem?_getD, List.getElem?_eq_getElem hlt]; exact List.getElem_mem hlt : r.getD k [] ∈ r)
  have hki : (k : Int) < (r.length : Int) := by omega
  have HTK := lh (HT.o k hlt)
  have HNX : Hid (r.getD k [] ≠ [x] -> ∀ j, j < k + 1 -> r.getD j [] ≠ [x]) := fun he j hj => by
   by_cases e : j = k
   ·subst e; exact he
   exact HN.o j (by omega)
  generalize r.getD k [] = c at *;subst hae
  by_cases h1 : c.length = 1
  ·obtain ⟨y, hy⟩ := List.length_eq_one_iff.1 h1;obtain ⟨b2, off2, hae2, e0⟩ := hi 0 (by omega);subst hae2
   have e1 : wr.cell? ⟨b2, off2, none⟩ = some (.int .i64 y) := by rw [hy] at e0; exact e0
   subst hy;have hc2 : wr.cell? ⟨b1, off1 + k, none⟩ = some (.slice (some ⟨b2, off2, none⟩) 1 ci) := hc1;clear hc1 e0 hi h1 hcl
   by_cases he : y = x
   ·have HR := lh (HTK.o (by rw [he]));subst he;go_wp2;go_ret;exact ⟨by rw [HR.o]; rfl, HB0.o⟩
   have HNN := lh (HNX.o (by simpa using he))
   have hd : (y == x) = false := by simpa using he
   clear he;go_wp2;go_roundw
   case rel => exact ⟨k + 1, by omega, by go_num, HNN.o, by first | rfl | trivial⟩
   case measure => simp [intOf]; omega
  have HNN := lh (HNX.o (fun e => h1 (by rw [e]; rfl)))
  have hd : ((c.length : Int) == 1) = false := by simp; omega
  clear hi;go_wp2;go_roundw
  case rel => exact ⟨k + 1, by omega, by go_num, HNN.o, by first | rfl | trivial⟩
  case measure => simp [intOf]; omega
 have hke : k = r.length := by omega
 subst hke;have HR := lh (HF.o HN.o);go_wp2;go_ret;exact ⟨by rw [HR.o]; rfl, HB0.o⟩
theorem zh6 (n : Int) (a : Option Addr) (cap : Nat) (r : List Cl) (w : World) (hl : r.length <= 1073741824) (hs : ∀ c ∈ r, c.length <= 1073741824) (hx : LsCells w a r) :
 Calls Tryz.prog 124 #[.agg #[.int .i64 n, .slice a r.length cap]] w fun e w' => e = .returned (.bool (zea r)) /\ Below w.heap.size w w' := by
 obtain ⟨w0, hw0⟩ : ∃ w0, w0 = w.alloc (.cells #[.int .i64 n, .slice a r.length cap] 24) := ⟨_, rfl⟩
 have hb0 : Below w.heap.size w w0 := by rw [hw0]; exact (Below.refl _ _).alloc (Nat.le_refl _) _
 have q0 : Blk w0 w.heap.size #[.int .i64 n, .slice a r.length cap] 24 := by rw [hw0]; exact Blk.new w _ _
 have HB0 := lh hb0;have HX := lh (hx.keep hb0);have HS := lh hs;have k1 := q0.cell 1;have z0 := q0.lt
 have HT : Hid (∀ k, k < r.length -> r.getD k [] = [] -> zea r = true) := fun k hk h => by
  unfold zea; rw [List.any_eq_true];exact ⟨r.getD k [], by rw [List.getD_eq_getElem?_getD, List.getElem?_eq_getElem hk]; exact List.getElem_mem hk, by simpa using h⟩
 have HF : Hid ((∀ k, k < r.length -> r.getD k [] ≠ []) -> zea r = false) := fun h => by
  rw [Bool.eq_false_iff]; intro hc;unfold zea at hc;obtain ⟨c, hc, h2⟩ := List.any_eq_true.1 hc;obtain ⟨j, hj, rfl⟩ := List.getElem_of_mem hc;exact h j hj (by simpa [List.getD_eq_getElem?_getD, hj] using h2)
 generalize zea r = R at *;clear hx hb0 q0 hs;go_enter Tryz.func124, Tryz.ntmps124;go_wp2_with fail;rw [<- hw0];clear hw0;go_wp2_with fail
 go_loopw [3] (fun i wr => ∃ k : Nat, k <= r.length /\ i = .int .i64 k /\ (∀ j, j < k -> r.getD j [] ≠ []) /\ wr = w0) (fun i _ => r.length - (intOf i).toNat)
 case atStart => exact ⟨0, Nat.zero_le _, rfl, fun j h => absurd h (Nat.not_lt_zero _), rfl⟩
 obtain ⟨k, hk, rfl, hno, hwr⟩ := hrel;obtain rfl := hwr;have HN := lh hno;clear hno
 by_cases hlt : k < r.length
 ·obtain ⟨b1, off1, ai, ci, hae, hc1, hi⟩ := HX.o k hlt;have hcl := HS.o _ (by rw [List.getD_eq_getElem?_getD, List.getElem?_eq_getElem hlt]; exact List.getElem_mem hlt : r.getD k [] ∈ r)
  have hki : (k : Int) < (r.length : Int) := by omega
  have HTK := lh (HT.o k hlt)
  have HNX : Hid (r.getD k [] ≠ [] -> ∀ j, j < k + 1 -> r.getD j [] ≠ []) := fun he j hj => by
   by_cases e : j = k
   ·subst e; exact he
   exact HN.o j (by omega)
  generalize r.getD k [] = c at *;subst hae;clear hi
  by_cases h1 : c.length = 0
  ·have HR := lh (HTK.o (List.eq_nil_of_length_eq_zero h1))
   have hc2 : wr.cell? ⟨b1, off1 + k, none⟩ = some (.slice ai 0 ci) := by rw [<- h1]; exact hc1
   clear hc1 h1 hcl;go_wp2;go_ret;exact ⟨by rw [HR.o]; rfl, HB0.o⟩
  have HNN := lh (HNX.o (fun e => h1 (by rw [e]; rfl)))
  have hd : ((c.length : Int) == 0) = false := by rw [beq_eq_false_iff_ne]; omega
  go_wp2;go_roundw
  case rel => exact ⟨k + 1, by omega, by go_num, HNN.o, by first | rfl | trivial⟩
  case measure => simp [intOf]; omega
 have hke : k = r.length := by omega
 subst hke;have HR := lh (HF.o HN.o);go_wp2;go_ret;exact ⟨by rw [HR.o]; rfl, HB0.o⟩
def DR (w wr : World) : Prop := ∃ m, wr = w.drewN m
theorem DR.more {w : World} (m n : Nat) : DR w ((w.drewN m).drewN n) := ⟨m + n, World.drewN_drewN _ _ _⟩
theorem DR.below {B : Nat} {w wr : World} (h : DR w wr) : Below B w wr := by obtain ⟨m, rfl⟩ := h; exact zad _ _
theorem DR.then {w wr : World} (h : DR w wr) (n : Nat) : DR w (wr.drewN n) := by obtain ⟨m, rfl⟩ := h; exact DR.more _ _
theorem zp2 (a : Option Addr) (cap : Nat) (c : Cl) (b : Option Addr) (cap2 : Nat) (d : Cl) (w : World) (hl : c.length <= 1073741824) (hl2 : d.length <= 1073741824) (hx : IntCells w a c) (hy : IntCells w b d) :
 Calls Tryz.prog 87 #[.slice a c.length cap, .slice b d.length cap2] w fun e w' => e = .returned (.bool (decide (c = d))) /\ DR w w' := by
 have HX := lh hx;have HY := lh hy
 have HEX : Hid (c.length = d.length -> (∀ j, j < c.length -> c.getD j 0 = d.getD j 0) -> decide (c = d) = true) := fun h1 h2 => by simpa using zon 0 h1 h2
 have HNE : Hid (∀ k, c.getD k 0 ≠ d.getD k 0 -> decide (c = d) = false) := fun k h => by
  rw [decide_eq_false_iff_not]; intro e; rw [e] at h; exact h rfl
 have HNL : Hid (c.length ≠ d.length -> decide (c = d) = false) := fun h => by
  rw [decide_eq_false_iff_not]; intro e; rw [e] at h; exact h rfl
 clear hx hy;generalize decide (c = d) = R at *
 by_cases hne : c.length = d.length
 ·have hnd : ((c.length : Int) != (d.length : Int)) = false := by simp; omega
  have HQ := lh hne;clear hne;go_enter Tryz.func87, Tryz.ntmps87;go_wp2
  go_loopw [5] (fun i wr => ∃ k : Nat, k <= c.length /\ i = .int .i64 k /\ (∀ j, j < k -> c.getD j 0 = d.getD j 0) /\ DR w wr) (fun i _ => c.length - (intOf i).toNat)
  case atStart => exact ⟨0, Nat.zero_le _, rfl, fun j h => absurd h (Nat.not_lt_zero _), ⟨0, rfl⟩⟩
  obtain ⟨k, hk, rfl, hno, ⟨m, rfl⟩⟩ := hrel;have HN := lh hno;clear hno
  by_cases hlt : k < c.length
  ·have hlt2 : k < d.length := by have := HQ.o; omega
   obtain ⟨b1, off1, rfl, hc1⟩ := HX.o k hlt;obtain ⟨b2, off2, rfl, hc2⟩ := HY.o k hlt2;have HNK := lh (HNE.o k)
   have HEK : Hid (c.getD k 0 = d.getD k 0 -> ∀ j, j < k + 1 -> c.getD j 0 = d.getD j 0) := fun he j hj => by
    by_cases e : j = k
    ·subst e; exact he
    exact HN.o j (by omega)
   have hki : (k : Int) < (c.length : Int) := by omega
   have hki2 : (k : Int) < (d.length : Int) := by omega
   generalize c.getD k 0 = x at hc1 HNK HEK;generalize d.getD k 0 = y at hc2 HNK HEK
   by_cases he : x = y
   ·subst he;have HE := lh (HEK.o rfl);go_wp2_with fail
    go_quiet (fail)
    go_wp2;go_roundw
    case rel => exact ⟨k + 1, by omega, by go_num, HE.o, ⟨_, rfl⟩⟩
    case measure => simp [intOf]; omega
   have HR := lh (HNK.o he)
   have hqe : (x == y) = false := by simpa using he
   clear he;go_wp2_with fail
   go_quiet (fail)
   go_wp2;go_ret;exact ⟨by rw [HR.o]; rfl, DR.more _ _⟩
  have hke : k = c.length := by omega
  subst hke;have HR := lh (HEX.o HQ.o HN.o);go_wp2;go_ret;exact ⟨by rw [HR.o]; rfl, ⟨m, rfl⟩⟩
 have hni : ((c.length : Int) == (d.length : Int)) = false := by simp; omega
 have HR := lh (HNL.o hne);go_enter Tryz.func87, Tryz.ntmps87;go_wp2;go_ret;exact ⟨by rw [HR.o]; rfl, ⟨0, rfl⟩⟩
theorem zkh (n1 : Int) (a : Option Addr) (cap : Nat) (r : List Cl) (n2 : Int) (b : Option Addr) (cap2 : Nat) (s : List Cl) (w : World) (hl : r.length <= 1073741824) (hs : ∀ c ∈ r, c.length <= 1073741824) (hl2 : s.length <= 1073741824) (hs2 : ∀ c ∈ s, c.length <= 1073741824) (hx : LsCells w a r) (hy : LsCells w b s) :
 Calls Tryz.prog 46 #[.agg #[.int .i64 n1, .slice a r.length cap], .agg #[.int .i64 n2, .slice b s.length cap2]] w fun e w' => e = .returned (.bool (decide (r = s))) /\ Below w.heap.size w w' := by
 obtain ⟨w0, hw0⟩ : ∃ w0, w0 = (w.alloc (.cells #[.int .i64 n1, .slice a r.length cap] 24)).alloc (.cells #[.int .i64 n2, .slice b s.length cap2] 24) := ⟨_, rfl⟩
 have hb0 : Below w.heap.size w w0 := by rw [hw0]; exact ((Below.refl _ _).alloc (Nat.le_refl _) _).alloc (by simp) _
 have q0 : Blk w0 w.heap.size #[.int .i64 n1, .slice a r.length cap] 24 := by rw [hw0]; exact (Blk.new w _ _).alloc _
 have q1 : Blk w0 (w.heap.size + 1) #[.int .i64 n2, .slice b s.length cap2] 24 := by rw [hw0]; exact Blk.new' _ (by simp) _ _
 have HB0 := lh hb0;have HX := lh (hx.keep hb0);have HY := lh (hy.keep hb0);have HS := lh hs;have HS2 := lh hs2;have k1 := q0.cell 1;have l1 := q1.cell 1;have z1 := q1.lt;have z0 := q0.lt
 have HEX : Hid (r.length = s.length -> (∀ j, j < r.length -> r.getD j [] = s.getD j []) -> decide (r = s) = true) := fun h1 h2 => by simpa using zon [] h1 h2
 have HNE : Hid (∀ k, r.getD k [] ≠ s.getD k [] -> decide (r = s) = false) := fun k h => by
  rw [decide_eq_false_iff_not]; intro e; rw [e] at h; exact h rfl
 have HNL : Hid (r.length ≠ s.length -> decide (r = s) = false) := fun h => by
  rw [decide_eq_false_iff_not]; intro e; rw [e] at h; exact h rfl
 clear hx hy hb0 q0 q1 hs hs2;generalize decide (r = s) = R at *
 by_cases hne : r.length = s.length
 ·have hnd : ((r.length : Int) != (s.length : Int)) = false := by simp; omega
  have HQ := lh hne;clear hne;go_enter Tryz.func46, Tryz.ntmps46;go_wp2_with fail;rw [<- hw0];clear hw0;go_wp2_with fail
  go_loopw [5] (fun i wr => ∃ k : Nat, k <= r.length /\ i = .int .i64 k /\ (∀ j, j < k -> r.getD j [] = s.getD j []) /\ DR w0 wr) (fun i _ => r.length - (intOf i).toNat)
  case atStart => exact ⟨0, Nat.zero_le _, rfl, fun j h => absurd h (Nat.not_lt_zero _), ⟨0, rfl⟩⟩
  obtain ⟨k, hk, rfl, hno, hdr⟩ := hrel;have HDR := lh hdr;have hb := hdr.below (B := w0.heap.size);have k1 := zaa hb k1;have l1 := zaa hb l1;have HXR := lh (HX.o.keep hb);have HYR := lh (HY.o.keep hb);have z0 : w.heap.size < wr.heap.size := Nat.lt_of_lt_of_le z0 hb.size;have z1 : w.heap.size + 1 < wr.heap.size := Nat.lt_of_lt_of_le z1 hb.size;clear hdr hb;have HN := lh hno;clear hno
  by_cases hlt : k < r.length
  ·have hlt2 : k < s.length := by have := HQ.o; omega
   obtain ⟨b1, off1, ai, ci, hae1, hc1, hi1⟩ := HXR.o k hlt;obtain ⟨b2, off2, bi, di, hae2, hc2, hi2⟩ := HYR.o k hlt2;have hcl := HS.o _ (by rw [List.getD_eq_getElem?_getD, List.getElem?_eq_getElem hlt]; exact List.getElem_mem hlt : r.getD k [] ∈ r);have hdl := HS2.o _ (by rw [List.getD_eq_getElem?_getD, List.getElem?_eq_getElem hlt2]; exact List.getElem_mem hlt2 : s.getD k [] ∈ s);have HNK := lh (HNE.o k)
   have HEK : Hid (r.getD k [] = s.getD k [] -> ∀ j, j < k + 1 -> r.getD j [] = s.getD j []) := fun he j hj => by
    by_cases e : j = k
    ·subst e; exact he
    exact HN.o j (by omega)
   have hki : (k : Int) < (r.length : Int) := by omega
   have hki2 : (k : Int) < (s.length : Int) := by omega
   generalize r.getD k [] = c at *;generalize s.getD k [] = d at *
   have HSM : Hid (∀ m, Calls Tryz.prog 87 #[.slice ai c.length ci, .slice bi d.length di] (wr.drewN m) fun e w' => e = .returned (.bool (decide (c = d))) /\ ∃ q, w' = wr.drewN q) := fun m =>
    (zp2 ai ci c bi di d (wr.drewN m) hcl hdl (hi1.keep (zad _ _)) (hi2.keep (zad _ _))).mono fun _ _ h => ⟨h.1, by obtain ⟨q, h2⟩ := h.2; exact ⟨m + q, by rw [h2, World.drewN_drewN]⟩⟩
   subst hae1 hae2;clear hi1 hi2
   by_cases he : c = d
   ·have HE := lh (HEK.o he);rw [decide_eq_true he] at HSM;clear he;go_wp2_with fail
    go_quiet (exact (HSM.o _).mono fun _ _ hh => ⟨hh.1, by obtain ⟨q, h2⟩ := hh.2; exact ⟨_, h2⟩⟩)
    go_wp2;go_roundw
    case rel => exact ⟨k + 1, by omega, by go_num, HE.o, HDR.o.then _⟩
    case measure => simp [intOf]; omega
   have HR := lh (HNK.o he);rw [decide_eq_false he] at HSM;clear he;go_wp2_with fail
   go_quiet (exact (HSM.o _).mono fun _ _ hh => ⟨hh.1, by obtain ⟨q, h2⟩ := hh.2; exact ⟨_, h2⟩⟩)
   go_wp2;go_ret;exact ⟨by rw [HR.o]; rfl, HB0.o.trans ((HDR.o.below.trans (zad _ _)).mono HB0.o.size)⟩
  have hke : k = r.length := by omega
  subst hke;have HR := lh (HEX.o HQ.o HN.o);go_wp2;go_ret;exact ⟨by rw [HR.o]; rfl, HB0.o.trans (HDR.o.below.mono HB0.o.size)⟩
 have hni : ((r.length : Int) == (s.length : Int)) = false := by simp; omega
 have HR := lh (HNL.o hne);go_enter Tryz.func46, Tryz.ntmps46;go_wp2_with fail;rw [<- hw0];clear hw0;go_wp2;go_ret;exact ⟨by rw [HR.o]; rfl, HB0.o⟩
def zuz (n : Nat) (r : List Cl) (w : World) (e : Ending) (w' : World) : Prop :=
 ∃ a' c', e = .returned (.agg #[.int .i64 n, .slice a' r.length c']) /\ LsIn (fun k => w.heap.size <= k) w' a' r /\ Below w.heap.size w w'
theorem zuv {n : Nat} (hn : n <= 128) {x : Int} (h : litN n x) : zp9 n [x] = true := by
 unfold zp9;rw [List.all_cons, List.all_nil, (zc2 hn).2 h]
 have : ([x] : Cl).contains (-x) = false := by
  rw [Bool.eq_false_iff]; intro hc;rw [List.contains_iff_mem] at hc;simp at hc;have := h.1;omega
 rw [this]; rfl
theorem zfa (n : Nat) (hn : n <= 128) (a : Option Addr) (cap : Nat) (r : List Cl) (x : Int) (w : World) (ht : tOk n r) (hlx : litN n x) (hx : LsCells w a r) :
 Calls Tryz.prog 122 #[.agg #[.int .i64 n, .slice a r.length cap], .int .i64 x] w (zuz n (zab n (givT [x] r)) w) := by
 obtain ⟨w0, hw0⟩ : ∃ w0, w0 = (w.alloc (.cells #[.int .i64 n, .slice a r.length cap] 24)).alloc (.cells #[.int .i64 0, .slice none 0 0] 24) := ⟨_, rfl⟩
 have hb0 : Below w.heap.size w w0 := by rw [hw0]; exact ((Below.refl _ _).alloc (Nat.le_refl _) _).alloc (by simp) _
 have q1 : Blk w0 (w.heap.size + 1) #[.int .i64 0, .slice none 0 0] 24 := by rw [hw0]; exact Blk.new' _ (by simp) _ _
 have hs0 : w0.heap.size = w.heap.size + 1 + 1 := by rw [hw0]; simp
 obtain ⟨w1, hw1⟩ : ∃ w1, w1 = w0.alloc (.cells #[.int .i64 x] 3) := ⟨_, rfl⟩
 have hb1 : Below w0.heap.size w0 w1 := by rw [hw1]; exact (Below.refl _ _).alloc (Nat.le_refl _) _
 have hic : IntCells w1 (some ⟨w.heap.size + 1 + 1, 0, none⟩) [x] := fun j hj => by
  have : j = 0 := by simpa using hj
  subst this;exact ⟨_, 0, rfl, by rw [hw1, World.cell?_alloc_at _ _ _ _ hs0.symm]; rfl⟩
 have HG := lh (zmc n hn a cap r (some ⟨w.heap.size + 1 + 1, 0, none⟩) 1 [x] w1 ht (zuv hn hlx) (by simp) (hx.keep (hb0.trans (hb1.mono hb0.size))) hic);have HB1 := lh (hb0.trans (hb1.mono hb0.size));have Q1 := lh (q1.later hb1);have HGO := lh (zig (term := [x]) ht);clear hx hb0 hb1 q1 hic ht;go_enter Tryz.func122, Tryz.ntmps122;go_wp2_with fail;rw [<- hw0]
 try rw [hs0]
 try rw [<- hw1]
 refine HG.o.mono ?_;rintro e w5 ⟨ga, gc, rfl, hgl, hb5⟩;have HNM := lh (zer n hn ga gc (givT [x] r) (w5.alloc (.cells #[.int .i64 n, .slice ga (givT [x] r).length gc] 24)) HGO.o (hgl.ls.keep ((Below.refl _ _).alloc (Nat.le_refl _) _)));have HB5 := lh (HB1.o.trans (hb5.mono HB1.o.size));have U2 := lh (Q1.o.later hb5);have HZ5 : Hid (w.heap.size + 1 < w5.heap.size) := U2.o.lt;clear hgl hb5 hw0 hw1 hs0;go_wp2_with fail;refine HNM.o.mono ?_;rintro e w6 ⟨na, nc, rfl, hnl, hb6⟩;have V2 := (U2.o.alloc (.cells #[.int .i64 n, .slice ga (givT [x] r).length gc] 24)).later hb6
 have HB6 : Hid (Below w.heap.size w w6) := by
  have h1 := HB5.o.alloc (by have := HZ5.o; omega) (.cells #[.int .i64 n, .slice ga (givT [x] r).length gc] 24);exact h1.trans (hb6.mono h1.size)
 have a0 := V2.cell 0;have a1 := V2.cell 1;have f0 := V2.fr 0;have f1 := V2.fr 1;have vz := V2.lt;generalize zab n (givT [x] r) = R at *
 obtain ⟨w7, hw7⟩ : ∃ w7, w7 = (w6.setCell ⟨w.heap.size + 1, 0, none⟩ (.int .i64 n)).setCell ⟨w.heap.size + 1, 1, none⟩ (.slice na R.length nc) := ⟨_, rfl⟩
 have hk7 : Kp (fun y => y = w.heap.size + 1) w6 w7 := by rw [hw7]; exact Kp.trans (M := fun y => y = w.heap.size + 1) (Kp.setCell w6 ⟨w.heap.size + 1, 0, none⟩ (.int .i64 n) rfl) (Kp.setCell _ ⟨w.heap.size + 1, 1, none⟩ (.slice na R.length nc) rfl)
 have V7 : Blk w7 (w.heap.size + 1) #[.int .i64 n, .slice na R.length nc] 24 := by rw [hw7]; exact (V2.set 0 _).set 1 _
 have HB7 : Hid (Below w.heap.size w w7) := by rw [hw7]; exact (HB6.o.setCell (Nat.le_succ _) _).setCell (Nat.le_succ _) _
 have HLF := lh (((hnl.kept hk7 (fun k hk => by have := HZ5.o; simp at hk; omega)).mono (Y := fun k => w.heap.size <= k) fun k _ hk => by have := HZ5.o; simp at hk; omega).later ((Below.refl _ _).alloc (Nat.le_refl _) (.cells #[.int .i64 n, .slice na R.length nc] 24)));have V8 := V7.alloc (.cells #[.int .i64 n, .slice na R.length nc] 24);have g0 := V8.cell 0;have g1 := V8.cell 1;have HB8 : Hid (Below w.heap.size w (w7.alloc (.cells #[.int .i64 n, .slice na R.length nc] 24))) := HB7.o.alloc (by have := HB7.o.size; omega) _;rw [hw7] at g0 g1 HLF HB8;clear hnl hb6 V2 V7 V8 hk7 hw7;go_wp2;exact bodyPost_ret (v := .agg #[.int .i64 n, .slice na R.length nc]) (by simp [results, Tryz.results122, go_sem, g0, g1]) rfl ⟨na, nc, rfl, HLF.o, HB8.o⟩
end Go.Proofs.YtfmmhjphopikgaaGreatDoor
