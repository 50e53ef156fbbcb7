/- Part of the proofs that laws of censuslaw24 return true for every input, where the tables that the rows list are laid. Texts: Gc, Gd. -/
import Derived.Test.YtfmmhjphopikgaaGreatDoorYC44
import Derived.Test.YtfmmhjphopikgaaGreatDoorYC6
import Derived.Test.YtfmmhjphopikgaaGreatDoorYC1
import Derived.BigRegion
import Derived.BigQuiet
import Derived.Deep.RegionHeld3
import Derived.Test.YtfmmhjphopikgaaGreatDoorYC45
set_option maxHeartbeats 8000000
set_option maxRecDepth 100000
set_option linter.unusedSimpArgs false
set_option linter.unusedVariables false
namespace Go.Proofs.YtfmmhjphopikgaaGreatDoor
open Go.RowKit Cen
def IcPost (L : List Int) (w : World) (e : Ending) (w' : World) : Prop := ∃ a cap, e = .returned (.slice a L.length cap) /\ IntCells w' a L /\ Below w.heap.size w w'
theorem ic_one {w : World} {b : Nat} {x : Int} (h : w.cell? ⟨b, 0, none⟩ = some (.int .i64 x)) : IntCells w (some ⟨b, 0, none⟩) [x] := fun i hi => by
 have : i = 0 := by simpa using hi
 subst this;exact ⟨b, 0, rfl, h⟩
theorem heads_nd {N : List Nd} {i : Nat} : headsF N i = if (N.getD i default).kind = 2 then [(N.getD i default).lit] else if (N.getD i default).kind = 3 then ((N.getD i default).ins.filter fun k => decide ((nd N k).kind = 2)).map fun k => (nd N k).lit else [] := by
 unfold headsF nd; simp
def hdK (N : List Nd) (xs : List Int) : List Int := (xs.filter fun k => decide ((nd N k).kind = 2)).map fun k => (nd N k).lit
theorem hdK_snoc (N : List Nd) (xs : List Int) (k : Int) : hdK N (xs ++ [k]) = if (nd N k).kind = 2 then hdK N xs ++ [(nd N k).lit] else hdK N xs := by
 unfold hdK;rw [List.filter_append]
 by_cases h : (nd N k).kind = 2 <;> simp [h]
theorem hdK_len (N : List Nd) (xs : List Int) : (hdK N xs).length <= xs.length := by
 unfold hdK; rw [List.length_map]; exact List.length_filter_le _ _
theorem heads_any (n : Int) (na : Option Addr) (nc : Nat) (N : List Nd) (i : Nat) (w : World) (hl : N.length <= 65536) (hi : i < N.length) (hin : ∀ j ∈ (N.getD i default).ins, 0 <= j /\ j < N.length) (hx : NdCells w na N) :
 Calls Tryz.prog 66 #[.agg #[.int .i64 n, .slice na N.length nc], .int .i64 i] w (IcPost (headsF N i) w) := by
 obtain ⟨w0, hw0⟩ : ∃ w0, w0 = w.alloc (.cells #[.int .i64 n, .slice na N.length nc] 33) := ⟨_, rfl⟩
 have hb0 : Below w.heap.size w w0 := by rw [hw0]; exact (Below.refl _ _).alloc (Nat.le_refl _) _
 have q0 : Blk w0 w.heap.size #[.int .i64 n, .slice na N.length nc] 33 := by rw [hw0]; exact Blk.new w _ _
 have HB0 := lh hb0;have HX := lh (hx.keep hb0);have Q0 := lh q0;have k1 := q0.cell 1;have z0 := q0.lt;obtain ⟨nb, noff, hne, c0, c1, xa, xc, c2, hxi, hxl⟩ := hx i hi;have zb := zak c0;have HLB := lh (heads_nd (N := N) (i := i));generalize N.getD i default = x at *;generalize headsF N i = R at *;have HI := lh (hxi.keep hb0);have HIN := lh hin
 have hni : (i : Int) < (N.length : Int) := by omega
 subst hne;have HXL := lh hxl;clear hx hb0 hxi hin q0 hxl
 obtain ⟨W1, hW1⟩ : ∃ W1, W1 = w0.alloc (.cells #[.int .i64 x.kind, .int .i64 x.lit, .slice xa x.ins.length xc] 48) := ⟨_, rfl⟩
 obtain ⟨bx, hbx⟩ : ∃ bx, bx = w.heap.size + 1 := ⟨_, rfl⟩
 have hb1 : Below w0.heap.size w0 W1 := by rw [hW1]; exact (Below.refl _ _).alloc (Nat.le_refl _) _
 have q1 : Blk W1 bx #[.int .i64 x.kind, .int .i64 x.lit, .slice xa x.ins.length xc] 48 := by rw [hW1]; exact Blk.new' w0 (by rw [hbx, hw0]; simp) _ _
 have HZ1 : Hid (W1.heap.size = bx + 1) := by show _ = _; rw [hW1, hbx, hw0]; simp
 have HB1 := lh hb1;have Q1 := lh q1;have HBA := lh (HB0.o.trans (hb1.mono HB0.o.size));have y0 := q1.cell 0;have y1 := q1.cell 1;have y2 := q1.cell 2;have yz := q1.lt;clear hb1 q1
 by_cases h2 : x.kind = 2
 ·have d2 : (x.kind == 2) = true := by simpa using h2
  have HR : Hid (R = [x.lit]) := by show R = _; rw [HLB.o, if_pos h2]
  clear h2;go_enter Tryz.func66, Tryz.ntmps66;go_wp2_with fail;rw [<- hw0];clear hw0;go_wp2_with fail;rw [<- hW1, <- hbx];clear hW1 hbx;go_wp2;go_ret;rw [HR.o];refine ⟨_, _, rfl, ic_one ?_, HBA.o.alloc HBA.o.size _⟩;exact (Blk.new' W1 HZ1.o _ _).cell 0
 by_cases h3 : x.kind = 3
 ·have d2 : (x.kind == 2) = false := by simpa using h2
  have d3 : (x.kind == 3) = true := by simpa using h3
  have HR : Hid (R = hdK N x.ins) := by show R = _; rw [HLB.o, if_neg h2, if_pos h3]; rfl
  clear h2 h3;go_enter Tryz.func66, Tryz.ntmps66;go_wp2_with fail;rw [<- hw0];clear hw0;go_wp2_with fail;rw [<- hW1, <- hbx];clear hW1 hbx c0 c1 c2 k1 z0 zb;go_wp2_with fail
  go_loopw [6, 26] (fun v i' wr => ∃ (k : Nat) (va : Option Addr) (vc : Nat), k <= x.ins.length /\ i' = .int .i64 k /\ v = .slice va (hdK N (x.ins.take k)).length vc /\ OwnInts wr W1.heap.size (.slice va (hdK N (x.ins.take k)).length vc) (hdK N (x.ins.take k)) /\ Below W1.heap.size W1 wr) (fun _ i' _ => x.ins.length - (intOf i').toNat)
  case atStart => exact ⟨0, none, 0, Nat.zero_le _, rfl, rfl, OwnInts.nil _ _, Below.refl _ _⟩
  obtain ⟨k, va, vc, hk, rfl, rfl, hown, hb⟩ := hrel;have HO := lh hown;have HBR := lh hb;have HZ := lh hb.size;have p0 := (Q0.o.later HB1.o).later hb;have k1 := p0.cell 1;have z0 := p0.lt;have HXR := lh ((HX.o.keep HB1.o).keep hb);have HIR := lh ((HI.o.keep HB1.o).keep hb);clear hown hb p0
  by_cases hlt : k < x.ins.length
  ·have hij := HIN.o x.ins[k] (List.getElem_mem hlt);obtain ⟨b2, off2, hae, e0⟩ := HIR.o k hlt
   have hki : (k : Int) < (x.ins.length : Int) := by omega
   have hxl := HXL.o
   have hgd : x.ins.getD k 0 = x.ins[k] := by simp [List.getD_eq_getElem?_getD, hlt]
   rw [hgd] at e0
   have HNX : Hid (hdK N (x.ins.take (k + 1)) = if (nd N x.ins[k]).kind = 2 then hdK N (x.ins.take k) ++ [(nd N x.ins[k]).lit] else hdK N (x.ins.take k)) := by show _ = _; rw [List.take_succ_eq_append_getElem hlt, hdK_snoc]
   have HLN : Hid ((hdK N (x.ins.take k)).length <= 1073741824) := by
    have := hdK_len N (x.ins.take k);rw [List.length_take] at this;have := HXL.o
    show _ <= _
    omega
   generalize x.ins[k] = v' at *;generalize hdK N (x.ins.take k) = L at *
   obtain ⟨m, rfl⟩ : ∃ m : Nat, v' = (m : Int) := ⟨v'.toNat, by omega⟩
   have hml : m < N.length := by omega
   obtain ⟨nb2, noff2, hne2, d0', d1', ya, yc, d2', hyi, hyl⟩ := HXR.o m hml;simp only [Option.some.injEq, Addr.mk.injEq, and_true] at hne2;obtain ⟨rfl, rfl⟩ := hne2;have hnd2 : nd N (m : Int) = N.getD m default := rfl;rw [hnd2] at HNX;generalize N.getD m default = y at *
   have hmi : (m : Int) < (N.length : Int) := by omega
   have zb2 : b2 < wr.heap.size := zak e0;have znb2 : nb < wr.heap.size := zak d0';subst hae;clear hij hyi hyl hnd2 hgd y0 y1 y2 yz
   by_cases e : y.kind = 2
   ·have e1 : (y.kind == 2) = true := by simpa using e
    have HN2 : Hid (hdK N (x.ins.take (k + 1)) = L ++ [y.lit]) := by show _ = _; rw [HNX.o, if_pos e]
    clear e;go_wp2_with (at_builtin; refine zhs rfl _ _ rfl W1.heap.size (.slice va L.length vc) L y.lit rfl HO.o rfl HLN.o HZ.o ?_);intro v2 w2 hown2 hgrow2 _;have HO2 := lh hown2;have HB2 : Hid (Below W1.heap.size W1 w2) := HBR.o.grown hgrow2 HZ.o (fun q hq => (World.ownsRow.lt HO.o q hq).1);clear hown2 hgrow2;obtain ⟨va2, vc2, rfl, _, _⟩ := HO2.o.cells;go_wp2;go_roundw
    case rel => exact ⟨k + 1, va2, vc2, by omega, by go_num, by rw [HN2.o], by rw [HN2.o]; exact HO2.o, HB2.o⟩
    case measure => simp [intOf]; omega
   have e1 : (y.kind == 2) = false := by simpa using e
   have HN2 : Hid (hdK N (x.ins.take (k + 1)) = L) := by show _ = _; rw [HNX.o, if_neg e]
   clear e;go_wp2;go_roundw
   case rel => exact ⟨k + 1, va, vc, by omega, by go_num, by rw [HN2.o], by rw [HN2.o]; exact HO.o, HBR.o⟩
   case measure => simp [intOf]; omega
  have hke : k = x.ins.length := by omega
  subst hke;obtain ⟨va', vc', he, hvi, _⟩ := HO.o.cells;simp only [Value.slice.injEq] at he;obtain ⟨rfl, _, rfl⟩ := he;rw [List.take_length] at hvi ⊢;have HVI := lh hvi;clear hvi;rw [<- HR.o] at HVI ⊢;go_wp2;go_ret;exact ⟨_, _, rfl, HVI.o, HBA.o.trans (HBR.o.mono HBA.o.size)⟩
 have d2 : (x.kind == 2) = false := by simpa using h2
 have d3 : (x.kind == 3) = false := by simpa using h3
 have HR : Hid (R = []) := by show R = _; rw [HLB.o, if_neg h2, if_neg h3]
 clear h2 h3;go_enter Tryz.func66, Tryz.ntmps66;go_wp2_with fail;rw [<- hw0];clear hw0;go_wp2_with fail;rw [<- hW1, <- hbx];clear hW1 hbx;go_wp2;go_ret;rw [HR.o];exact ⟨_, _, rfl, IntCells.nil _ _, HBA.o⟩
theorem z257 : Tryz.zeroCells130.toList = List.replicate 257 (.bool false) := by kernel_rfl
def IsAt (w : World) (b : Nat) (L : List Int) : Prop := ∃ cs : Array Value, Blk w b cs 130 /\ cs.size = 257 /\ ∀ x : Int, -128 <= x -> x <= 128 -> cs[(128 + x).toNat]? = some (.bool (L.contains x))
theorem IsAt.new (w : World) : IsAt (w.alloc (.cells Tryz.zeroCells130 130)) w.heap.size [] := by
 refine ⟨_, Blk.new _ _ _, ?_, fun x h1 h2 => ?_⟩
 ·rw [<- Array.length_toList, z257]; simp
 rw [<- Array.getElem?_toList, z257, List.getElem?_replicate, if_pos (by omega)]; simp
theorem IsAt.lt {w : World} {b : Nat} {L : List Int} (h : IsAt w b L) : b < w.heap.size := let ⟨_, h1, _⟩ := h; h1.lt
theorem IsAt.cell {w : World} {b : Nat} {L : List Int} (h : IsAt w b L) {x : Int} (h1 : -128 <= x) (h2 : x <= 128) : w.cell? ⟨b, (128 + x).toNat, none⟩ = some (.bool (L.contains x)) := by
 obtain ⟨cs, a, _, b⟩ := h;rw [a.cell, b x h1 h2]
theorem IsAt.fr {w : World} {b : Nat} {L : List Int} (h : IsAt w b L) (j : Nat) : w.frozen? ⟨b, j, none⟩ = false := let ⟨_, a, _⟩ := h; a.fr j
theorem IsAt.put {w : World} {b : Nat} {L : List Int} (h : IsAt w b L) {x : Int} (h1 : -128 <= x) (h2 : x <= 128) : IsAt (w.setCell ⟨b, (128 + x).toNat, none⟩ (.bool true)) b (L ++ [x]) := by
 obtain ⟨cs, a, hs, c⟩ := h;refine ⟨_, a.set _ _, by simpa using hs, fun y k1 k2 => ?_⟩
 by_cases e : y = x
 ·subst e;rw [Array.getElem?_setIfInBounds_self_of_lt (by omega)]; simp
 rw [Array.getElem?_setIfInBounds_ne (by omega), c y k1 k2]
 congr 2
 rw [Bool.eq_iff_iff]; simp [e]
theorem opp1_any (x : Int) (b : Nat) (A : List Int) (w : World) (h1 : -128 <= x) (h2 : x <= 128) (h : IsAt w b A) :
 Calls Tryz.prog 99 #[.int .i64 x, .pointer (some ⟨b, 0, none⟩)] w fun e w' => e = .returned (.bool (A.contains (-x))) /\ w = w' := by
 have c0 := h.cell (x := -x) (by omega) (by omega);have z0 := h.lt;have hw : IntKind.i64.wrap (128 - x) = 128 - x := IntWalk.i64_in _ (by omega);rw [show (128 + -x) = 128 - x by omega] at c0
 have hlo : 0 <= 128 - x := by omega
 have hhi : 128 - x < 257 := by omega
 generalize A.contains (-x) = r at *;clear h;go_enter Tryz.func99, Tryz.ntmps99;go_wp2;go_ret;exact ⟨rfl, rfl⟩
theorem callable_opp1 : zb0 99 := fun _ _ => by kernel_rfl
theorem opp_any (aa : Option Addr) (ac : Nat) (A : List Int) (ba : Option Addr) (bc : Nat) (B : List Int) (w : World) (hA : ∀ x ∈ A, -128 <= x /\ x <= 128) (hB : ∀ x ∈ B, -128 <= x /\ x <= 128) (hla : A.length <= 1073741824) (hlb : B.length <= 1073741824) (hxa : IntCells w aa A) (hxb : IntCells w ba B) :
 Calls Tryz.prog 65 #[.slice aa A.length ac, .slice ba B.length bc] w fun e w' => e = .returned (.bool (oppB A B)) /\ Below w.heap.size w w' := by
 obtain ⟨w0, hw0⟩ : ∃ w0, w0 = w.alloc (.cells Tryz.zeroCells130 130) := ⟨_, rfl⟩
 obtain ⟨b, hbq⟩ : ∃ b, b = w.heap.size := ⟨_, rfl⟩
 have hb0 : Below w.heap.size w w0 := by rw [hw0]; exact (Below.refl _ _).alloc (Nat.le_refl _) _
 have HI0 : Hid (IsAt w0 b []) := by show IsAt _ _ _; rw [hw0, hbq]; exact IsAt.new w
 have HB0 := lh hb0;have HXA := lh hxa;have HXB := lh hxb;have HA := lh hA;have HB := lh hB;have HQ := lh hbq
 obtain ⟨R, hR⟩ : ∃ R, R = oppB A B := ⟨_, rfl⟩
 rw [<- hR];have HR := lh hR;clear hb0 hxa hxb hA hB hR;go_enter Tryz.func65, Tryz.ntmps65;go_wp2_with fail;rw [<- hw0, <- hbq];clear hw0 hbq
 go_loopw [10] (fun i wr => ∃ k : Nat, k <= A.length /\ i = .int .i64 k /\ IsAt wr b (A.take k) /\ Below w.heap.size w wr) (fun i _ => A.length - (intOf i).toNat)
 case atStart => exact ⟨0, Nat.zero_le _, rfl, HI0.o, HB0.o⟩
 obtain ⟨k, hk, rfl, hat, hb⟩ := hrel;have HAT := lh hat;have HBR := lh hb;clear hat hb
 by_cases hlt : k < A.length
 ·obtain ⟨b2, off2, hae, e0'⟩ := HXA.o k hlt;have e0 := zaa HBR.o e0';have zb2 : b2 < wr.heap.size := zak e0
  have hgd : A.getD k 0 = A[k] := by simp [List.getD_eq_getElem?_getD, hlt]
  rw [hgd] at e0;have hr := HA.o A[k] (List.getElem_mem hlt);have HT : Hid (A.take (k + 1) = A.take k ++ [A[k]]) := List.take_succ_eq_append_getElem hlt;generalize A[k] = x at *;have hr1 := hr.1;have hr2 := hr.2
  have hki : (k : Int) < (A.length : Int) := by omega
  have hw : IntKind.i64.wrap (128 + x) = 128 + x := IntWalk.i64_in _ (by omega);have c0 := HAT.o.cell hr1 hr2;have f0 := HAT.o.fr (128 + x).toNat;have z0 := HAT.o.lt
  have h0 : 0 <= 128 + x := by omega
  have h1 : 128 + x < 257 := by omega
  subst hae;clear e0' hgd hr;go_wp2;go_roundw
  case rel => exact ⟨k + 1, by omega, by go_num, by rw [HT.o]; exact HAT.o.put hr1 hr2, HBR.o.setCell (by have := HQ.o; simp; omega) _⟩
  case measure => simp [intOf]; omega
 have hke : k = A.length := by omega
 subst hke;have hat := HAT.o;rw [List.take_length] at hat;have HAT2 := lh hat;have HCF := lh (zd4 ba bc B 99 #[.pointer (some ⟨b, 0, none⟩)] (fun x => A.contains (-x)) wr hlb (HXB.o.keep HBR.o) (fun x hx => opp1_any x b A wr (HB.o x hx).1 (HB.o x hx).2 HAT2.o) callable_opp1);rw [show (B.any fun x => A.contains (-x)) = R from HR.o.symm] at HCF;clear hat;go_wp2_with fail;refine HCF.o.mono ?_;rintro e w2 ⟨rfl, rfl⟩;go_wp2;go_ret;exact ⟨rfl, HBR.o⟩
theorem below_dN {B : Nat} {w w' : World} (h : Below B w w') (n : Nat) : Below B w (w'.drewN n) := ⟨h.os, h.tape, h.output, h.size, h.block⟩
theorem last7d {a b c d e f g : Prop} (x : a /\ b /\ c /\ d /\ e /\ f /\ g) : g := x.2.2.2.2.2.2
theorem headsF_rg {n : Nat} (hn : n <= 128) {N : List Nd} (hok : zdi ⟨n, N⟩ = true) {i : Nat} (hi : i < N.length) : ∀ x ∈ headsF N i, -128 <= x /\ x <= 128 := by
 have key : ∀ j : Nat, j < N.length -> (nd N j).kind = 2 -> -128 <= (nd N j).lit /\ (nd N j).lit <= 128 := fun j hj hk => by
  have h := ztz hok hj;simp only at h;rw [show N[j] = nd N j by unfold nd; simp [List.getD_eq_getElem?_getD, hj]] at h;unfold ndOk zcr zas at h;rw [hk] at h;simp at h
  rcases zc3 h.2.1.1 with h | h <;> omega
 intro x hx;unfold headsF at hx
 split at hx
 ·rename_i h2
  simp at hx; subst hx;exact key i hi h2
 split at hx
 ·obtain ⟨k, hk, rfl⟩ := List.mem_map.1 hx;rw [List.mem_filter] at hk;have hin := netOk_ins hok hi;simp only at hin;rw [show N[i] = nd N i by unfold nd; simp [List.getD_eq_getElem?_getD, hi]] at hin;have := hin k hk.1
  obtain ⟨m, rfl⟩ : ∃ m : Nat, k = (m : Int) := ⟨k.toNat, by omega⟩
  exact key m (by omega) (by simpa using hk.2)
 simp at hx
theorem decision_ok (n : Nat) (na : Option Addr) (nc : Nat) (N : List Nd) (w : World) (hok : zdi ⟨n, N⟩ = true) (hx : NdCells w na N)
 (hor : ∀ k : Nat, k < N.length -> (N.getD k default).kind = 4 -> ∃ a b : Nat, (N.getD k default).ins = [(a : Int), (b : Int)] /\ a < N.length /\ b < N.length /\ oppB (headsF N a) (headsF N b) = true) :
 Calls Tryz.prog 26 #[.agg #[.int .i64 (n : Int), .slice na N.length nc]] w fun e w' => e = .returned (.bool true) /\ Below w.heap.size w w' := by
 have hhd := zcv hok;simp only at hhd
 have hn : n <= 128 := by omega
 have hl : N.length <= 65536 := hhd.2.2.2
 have hin : ∀ k : Nat, k < N.length -> ∀ j ∈ (N.getD k default).ins, 0 <= j /\ j < N.length := fun k hk j hj => by
  have := netOk_ins hok hk;simp only at this;rw [show N.getD k default = N[k] by simp [List.getD_eq_getElem?_getD, hk]] at hj;have := this j hj;omega
 have hlen : ∀ k : Nat, k < N.length -> (headsF N k).length <= 1073741824 := fun k hk => by
  obtain ⟨_, _, _, _, _, _, _, _, _, hxl⟩ := hx k hk;have := hdK_len N (N.getD k default).ins;rw [heads_nd];unfold hdK at this
  split
  ·simp
  split
  ·omega
  simp
 obtain ⟨w0, hw0⟩ : ∃ w0, w0 = w.alloc (.cells #[.int .i64 (n : Int), .slice na N.length nc] 33) := ⟨_, rfl⟩
 have hb0 : Below w.heap.size w w0 := by rw [hw0]; exact (Below.refl _ _).alloc (Nat.le_refl _) _
 have q0 : Blk w0 w.heap.size #[.int .i64 (n : Int), .slice na N.length nc] 33 := by rw [hw0]; exact Blk.new w _ _
 have HB0 := lh hb0;have Q0 := lh q0;have HX := lh (hx.keep hb0);have HCH : Hid (Calls Tryz.prog 47 #[.agg #[.int .i64 (n : Int), .slice na N.length nc]] w0 fun e w' => e = .returned (.int .i64 0) /\ Below w0.heap.size w0 w') := (check_any (n : Int) na nc N w0 (by omega) (hx.keep hb0)).mono (fun e w' ⟨h1, h2⟩ => ⟨by rw [h1]; simp [chk, hok], h2⟩)
 have HH : Hid (∀ W, Below w0.heap.size w0 W -> ∀ k : Nat, k < N.length -> Calls Tryz.prog 66 #[.agg #[.int .i64 (n : Int), .slice na N.length nc], .int .i64 k] W (IcPost (headsF N k) W)) := fun W hW k hk => heads_any (n : Int) na nc N k W hl hk (hin k hk) (HX.o.keep hW)
 have HOPP : Hid (∀ a b : Nat, a < N.length -> b < N.length -> ∀ W a1 c1 a2 c2, IntCells W a1 (headsF N a) -> IntCells W a2 (headsF N b) -> Calls Tryz.prog 65 #[.slice a1 (headsF N a).length c1, .slice a2 (headsF N b).length c2] W fun e w' => e = .returned (.bool (oppB (headsF N a) (headsF N b))) /\ Below W.heap.size W w') := fun a b ha hb W a1 c1 a2 c2 h1 h2 => opp_any a1 c1 _ a2 c2 _ W (headsF_rg hn hok ha) (headsF_rg hn hok hb) (hlen a ha) (hlen b hb) h1 h2
 have HOR := lh hor;have HIN := lh hin;clear hx hb0 q0 hor hok hhd hin hlen;go_enter Tryz.func26, Tryz.ntmps26;go_wp2_with fail;rw [<- hw0];clear hw0;refine HCH.o.mono ?_;rintro e w1 ⟨rfl, hb1⟩;have HB1 := lh hb1;have p0 := Q0.o.later hb1;have k1 := p0.cell 1;have z0 := p0.lt;clear hb1 p0;go_wp2_with fail
 go_loopw [11] (fun i wr => ∃ k : Nat, k <= N.length /\ i = .int .i64 k /\ Below w1.heap.size w1 wr) (fun i _ => N.length - (intOf i).toNat)
 case atStart => exact ⟨0, Nat.zero_le _, rfl, Below.refl _ _⟩
 obtain ⟨k, hk, rfl, hb⟩ := hrel;have HBR := lh hb;have HB0R := lh (HB1.o.trans (hb.mono HB1.o.size));have HBW := lh (HB0.o.trans (HB0R.o.mono HB0.o.size));have p0 := Q0.o.later HB0R.o;have k0 := p0.cell 0;have k1 := p0.cell 1;have z0 := p0.lt;have HXR := lh (HX.o.keep HB0R.o);clear hb p0
 by_cases hlt : k < N.length
 ·obtain ⟨nb, noff, hne, c0, c1, xa, xc, c2, hxi, hxl⟩ := HXR.o k hlt
  have hki : (k : Int) < (N.length : Int) := by omega
  have zb := zak c0;have HORK := lh (HOR.o k hlt);generalize N.getD k default = x at *
  obtain ⟨V, hV⟩ : ∃ V, V = wr.alloc (.cells #[.int .i64 x.kind, .int .i64 x.lit, .slice xa x.ins.length xc] 48) := ⟨_, rfl⟩
  obtain ⟨bx, hbx⟩ : ∃ bx, bx = wr.heap.size := ⟨_, rfl⟩
  have hbv : Below wr.heap.size wr V := by rw [hV]; exact (Below.refl _ _).alloc (Nat.le_refl _) _
  have hxv : Blk V bx #[.int .i64 x.kind, .int .i64 x.lit, .slice xa x.ins.length xc] 48 := by rw [hV, hbx]; exact Blk.new _ _ _
  have g0 := hxv.cell 0;have g2 := hxv.cell 2;have gz := hxv.lt;have HBV := lh (HBR.o.trans (hbv.mono HBR.o.size));have HBV0 := lh (HB0R.o.trans (hbv.mono HB0R.o.size));have m0 := zaa hbv k0;have m1 := zaa hbv k1;have HXI := lh (hxi.keep hbv);clear hxi hbv hxv;subst hne
  by_cases h4 : x.kind = 4
  ·have d4 : (x.kind == 4) = true := by simpa using h4
   obtain ⟨a, b, hins, ha, hb, hopp⟩ := HORK.o h4;have hi := HXI.o;rw [hins] at hi;obtain ⟨b2, off2, hae, e0⟩ := hi 0 (by simp);obtain ⟨b2', off2', hae', e1⟩ := hi 1 (by simp);rw [hae] at hae';simp only [Option.some.injEq, Addr.mk.injEq, and_true] at hae';obtain ⟨rfl, rfl⟩ := hae';simp only [List.getD_cons_zero, List.getD_cons_succ, Nat.add_zero] at e0 e1
   have hlen : x.ins.length = 2 := by rw [hins]; rfl
   rw [hlen] at g2 hV c2;subst hae
   have HHA : Hid (∀ W, Below V.heap.size V W -> Calls Tryz.prog 66 #[.agg #[.int .i64 (n : Int), .slice (some ⟨nb, noff, none⟩) N.length nc], .int .i64 a] W (IcPost (headsF N a) W)) := fun W hW => HH.o W (HBV0.o.trans (hW.mono HBV0.o.size)) a ha
   have HHB : Hid (∀ W, Below V.heap.size V W -> Calls Tryz.prog 66 #[.agg #[.int .i64 (n : Int), .slice (some ⟨nb, noff, none⟩) N.length nc], .int .i64 b] W (IcPost (headsF N b) W)) := fun W hW => HH.o W (HBV0.o.trans (hW.mono HBV0.o.size)) b hb
   have HOP := lh (HOPP.o a b ha hb);rw [hopp] at HOP;generalize headsF N a = A at *;generalize headsF N b = B at *
   have HKS : Hid (∀ w' : World, Below V.heap.size V w' -> (fun w' => w'.cell? ⟨bx, 0, none⟩ = some (.int .i64 x.kind) /\ w'.cell? ⟨bx, 2, none⟩ = some (.slice (some ⟨b2, off2, none⟩) 2 xc) /\ w'.cell? ⟨w.heap.size, 0, none⟩ = some (.int .i64 n) /\ w'.cell? ⟨w.heap.size, 1, none⟩ = some (.slice (some ⟨nb, noff, none⟩) N.length nc) /\ w'.cell? ⟨b2, off2, none⟩ = some (.int .i64 (a : Int)) /\ w'.cell? ⟨b2, off2 + 1, none⟩ = some (.int .i64 (b : Int)) /\ Below V.heap.size V w') w') := lh fun w' hb => ⟨zaa hb g0, zaa hb g2, zaa hb m0, zaa hb m1, zaa hb e0, zaa hb e1, hb⟩
   clear h4 hi hins hlen hopp ha hb hxl k0 HORK;go_wp2_with fail;rw [<- hV, <- hbx];clear hV hbx c0 c1 c2 zb k1 z0;refine wp_region_held_drew (S := (fun w' => w'.cell? ⟨bx, 0, none⟩ = some (.int .i64 x.kind) /\ w'.cell? ⟨bx, 2, none⟩ = some (.slice (some ⟨b2, off2, none⟩) 2 xc) /\ w'.cell? ⟨w.heap.size, 0, none⟩ = some (.int .i64 n) /\ w'.cell? ⟨w.heap.size, 1, none⟩ = some (.slice (some ⟨nb, noff, none⟩) N.length nc) /\ w'.cell? ⟨b2, off2, none⟩ = some (.int .i64 (a : Int)) /\ w'.cell? ⟨b2, off2 + 1, none⟩ = some (.int .i64 (b : Int)) /\ Below V.heap.size V w')) (by kernel_rfl) ?_ (fun hHeld => ?_)
   ·try dsimp only
    exact HKS.o _ (Below.refl _ _).drew
   refine tkV 0 15 rfl rfl ?_; try simp only [tkS]
   refine tkV 1 16 rfl rfl ?_; try simp only [tkS]
   refine tkV 2 17 rfl rfl ?_; try simp only [tkS]
   refine tkV 3 18 rfl rfl ?_; try simp only [tkS]
   refine tkV 4 19 rfl rfl ?_; try simp only [tkS]
   refine tkV 5 20 rfl rfl ?_; try simp only [tkS]
   refine tkV 6 21 rfl rfl ?_; try simp only [tkS]
   refine tkV 7 22 rfl rfl ?_; try simp only [tkS]
   refine tkV 8 23 rfl rfl ?_; try simp only [tkS]
   refine tkV 9 24 rfl rfl ?_; try simp only [tkS]
   refine tkV 10 25 rfl rfl ?_; try simp only [tkS]
   refine tkV 11 26 rfl rfl ?_; try simp only [tkS]
   refine tkV 12 27 rfl rfl ?_; try simp only [tkS]
   refine tkV 13 28 rfl rfl ?_; try simp only [tkS]
   refine tkV 15 30 rfl rfl ?_; try simp only [tkS]
   refine tkV 16 31 rfl rfl ?_; try simp only [tkS]
   refine tkV 17 32 rfl rfl ?_; try simp only [tkS]
   refine tkV 18 33 rfl rfl ?_; try simp only [tkS]
   refine tkV 19 34 rfl rfl ?_; try simp only [tkS]
   refine tkR 14 (.cons rfl (fun K hK => ?_) .nil);go_simp;go_at_call 66
   with_reducible refine Calls.mono (HHA.o _ (last7d (by assumption))) ?_
   rintro e wA ⟨a1, c1, rfl, hi1, hbA⟩;have hwA : Below V.heap.size V wA := Below.trans (last7d (by assumption)) (hbA.mono (Below.size (B := V.heap.size) (w := V) (last7d (by assumption))));go_wp2_with fail;refine hK.out _ _ ?_ (fun hHeld => ?_)
   ·try dsimp only
    exact HKS.o _ hwA
   clear hK K
   try simp only [tkS]
   refine tkR 20 (.cons rfl (fun K hK => ?_) .nil);go_simp;go_at_call 66
   with_reducible refine Calls.mono (HHB.o _ (last7d (by assumption))) ?_
   rintro e wB ⟨a2, c2, rfl, hi2, hbB⟩;have hwB : Below V.heap.size V wB := Below.trans (last7d (by assumption)) (hbB.mono (Below.size (B := V.heap.size) (w := V) (last7d (by assumption))));go_wp2_with fail;refine hK.out _ _ ?_ (fun hHeld => ?_)
   ·try dsimp only
    exact HKS.o _ hwB
   clear hK K
   try simp only [tkS]
   refine tkR 21 (.cons rfl (fun K hK => ?_) .nil);go_simp;go_at_call 65
   with_reducible refine Calls.mono (HOP.o _ a1 c1 a2 c2 (hi1.keep hbB) hi2) ?_
   rintro e wC ⟨rfl, hbC⟩;have hwC : Below V.heap.size V wC := Below.trans (last7d (by assumption)) (hbC.mono (Below.size (B := V.heap.size) (w := V) (last7d (by assumption))));go_wp2_with fail;refine hK.out _ _ ?_ (fun hHeld => ?_)
   ·try dsimp only
    exact HKS.o _ hwC
   clear hK K
   try simp only [tkS]
   refine tkV 22 37 rfl rfl ?_; try simp only [tkS]
   refine tkV 23 38 rfl rfl ?_; try simp only [tkS]
   refine tkV 24 39 rfl rfl ?_; try simp only [tkS]
   refine wpAnyH_done (by kernel_rfl) ?_ _;have HBF : Hid (Below V.heap.size V wC) := hwC;go_wp2;go_roundw
   case rel => exact ⟨k + 1, by omega, by go_num, HBV.o.trans (HBF.o.mono HBV.o.size)⟩
   case measure => simp [intOf]; omega
  have d4 : (x.kind == 4) = false := by simpa using h4
  clear h4;go_wp2_with fail;rw [<- hV, <- hbx];clear hV hbx c0 c1 c2 zb k1 z0
  go_quiet (fail)
  go_wp2;go_roundw
  case rel => exact ⟨k + 1, by omega, by go_num, below_dN HBV.o _⟩
  case measure => simp [intOf]; omega
 have hke : k = N.length := by omega
 subst hke;go_wp2;go_ret;exact ⟨rfl, HBW.o⟩
theorem CRes.dec {n : Nat} {t : List Cl} {order : List Int} {o1 o2 : Bool} {B : Nat} {w : World} {na : Option Addr} {nc : Nat} {ca : Option Addr} {cc : Nat} {N : List Nd} {C : List Clm} (h : CRes n t order o1 o2 B w na nc ca cc N C) (hg : Gdt n t order) :
 Calls Tryz.prog 25 #[.agg #[.int .i64 (n : Int), .slice na N.length nc]] w fun e w' => e = .returned (.bool true) /\ Below w.heap.size w w' := by
 have := decomposable_any (n : Int) na nc N w (h.ok hg) h.n;have h9 := hg.n9
 rwa [show decL N = true by rw [h.eqN]; exact comp_dec (by omega) (ze3 (by omega)) hg.tok] at this
theorem CRes.dcs {n : Nat} {t : List Cl} {order : List Int} {o1 o2 : Bool} {B : Nat} {w : World} {na : Option Addr} {nc : Nat} {ca : Option Addr} {cc : Nat} {N : List Nd} {C : List Clm} (h : CRes n t order o1 o2 B w na nc ca cc N C) (hg : Gdt n t order) :
 Calls Tryz.prog 26 #[.agg #[.int .i64 (n : Int), .slice na N.length nc]] w fun e w' => e = .returned (.bool true) /\ Below w.heap.size w w' :=
 decision_ok n na nc N w (h.ok hg) h.n fun k hk h4 => by
  obtain ⟨l, a, b, ho⟩ := h.or hg hk h4;have hins : (N.getD k default).ins = [(a : Int), (b : Int)] := ho.ins;have := ho.la;have := ho.lb;exact ⟨a, b, hins, by omega, by omega, ho.opp⟩
theorem shapes_any (z : Int) (a : Option Addr) (cap : Nat) (t : List Cl) (oa : Option Addr) (oc : Nat) (order : List Int) (o1 o2 : Bool) (w : World) (hx : LsCells w a t) (ho : IntCells w oa order) (htab : Tab w) :
 Calls Tryz.prog 7 #[.agg #[.int .i64 z, .slice a t.length cap], .agg #[.slice oa order.length oc, .bool o1, .bool o2]] w fun e w' => e = .returned (.bool true) /\ Below w.heap.size w w' := by
 obtain ⟨w0, hw0⟩ : ∃ w0, w0 = (w.alloc (.cells #[.int .i64 z, .slice a t.length cap] 24)).alloc (.cells #[.slice oa order.length oc, .bool o1, .bool o2] 27) := ⟨_, rfl⟩
 have hb0 : Below w.heap.size w w0 := by rw [hw0]; exact ((Below.refl _ _).alloc (Nat.le_refl _) _).alloc (by simp) _
 have q0 : Blk w0 w.heap.size #[.int .i64 z, .slice a t.length cap] 24 := by rw [hw0]; exact (Blk.new w _ _).alloc _
 have q1 : Blk w0 (w.heap.size + 1) #[.slice oa order.length oc, .bool o1, .bool o2] 27 := by rw [hw0]; exact Blk.new' _ (by simp) _ _
 have HB0 := lh hb0;have Q0 := lh q0;have Q1 := lh q1;have HX := lh (hx.keep hb0);have HO := lh (ho.keep hb0);have HT := lh (htab.keep hb0);have HL := lh (fun W (hb : Below w0.heap.size w0 W) => zip z a cap t W (HX.o.keep hb));have HWK := lh (fun W (hb : Below w0.heap.size w0 W) => zjc W (HT.o.keep hb));clear hx ho htab hb0 q0 q1
 cases hl : zch z t with
 | false =>
   rw [hl] at HL;clear hl;go_enter Tryz.func7, Tryz.ntmps7;go_wp2_with fail;rw [<- hw0];clear hw0;refine (HL.o _ (Below.refl _ _)).mono ?_;rintro e w1 ⟨rfl, hb1⟩;have HB1 := lh hb1;clear hb1;go_wp2_with fail;refine (HWK.o _ HB1.o).mono ?_;rintro e w2 ⟨rfl, hb2⟩;have HB2 := lh (HB0.o.trans ((HB1.o.trans (hb2.mono HB1.o.size)).mono HB0.o.size));clear hb2;go_wp2;go_ret;exact ⟨rfl, HB2.o⟩
 | true =>
   rw [hl] at HL
   have htl : t.length <= 40 := by
    unfold zch at hl;simp only [Bool.and_eq_true, decide_eq_true_eq] at hl;exact hl.2.1
   have HG := lh (fun W (hb : Below w0.heap.size w0 W) => zoo z a cap t oa oc order o1 o2 W (by omega) (HX.o.keep hb) (HO.o.keep hb))
   cases hc : decide (za0 z t order = 0) with
   | false =>
     rw [hc] at HG;clear hl hc;go_enter Tryz.func7, Tryz.ntmps7;go_wp2_with fail;rw [<- hw0];clear hw0;refine (HL.o _ (Below.refl _ _)).mono ?_;rintro e w1 ⟨rfl, hb1⟩;have HB1 := lh hb1;have p0 := Q0.o.later hb1;have p1 := Q1.o.later hb1;have c0 := p0.cell 0;have c1 := p0.cell 1;have d0 := p1.cell 0;have d1 := p1.cell 1;have d2 := p1.cell 2;have z0 := p0.lt;have z1 := p1.lt;clear hb1 p0 p1;go_wp2_with fail;refine (HG.o _ HB1.o).mono ?_;rintro e w2 ⟨rfl, hb2⟩;have HB2 := lh (HB1.o.trans (hb2.mono HB1.o.size));clear hb2 c0 c1 d0 d1 d2 z0 z1;go_wp2_with fail;refine (HWK.o _ HB2.o).mono ?_;rintro e w3 ⟨rfl, hb3⟩
     have HB3 := lh (HB0.o.trans ((HB2.o.trans (hb3.mono HB2.o.size)).mono HB0.o.size));clear hb3;go_wp2;go_ret;exact ⟨rfl, HB3.o⟩
   | true =>
     rw [hc] at HG;obtain ⟨n, rfl, hg⟩ := Gdt.of hl (of_decide_eq_true hc);have HGD := lh hg;have HCP := lh (fun W (hb : Below w0.heap.size w0 W) => zhd n a cap t oa oc order o1 o2 W hg (HX.o.keep hb) (HO.o.keep hb) (HT.o.keep hb));clear hl hc htl hg;go_enter Tryz.func7, Tryz.ntmps7;go_wp2_with fail;rw [<- hw0];clear hw0;refine (HL.o _ (Below.refl _ _)).mono ?_;rintro e w1 ⟨rfl, hb1⟩;have HB1 := lh hb1;have p0 := Q0.o.later hb1;have p1 := Q1.o.later hb1;have c0 := p0.cell 0;have c1 := p0.cell 1;have d0 := p1.cell 0;have d1 := p1.cell 1;have d2 := p1.cell 2;have z0 := p0.lt;have z1 := p1.lt;clear hb1 p0 p1
     go_wp2_with fail;refine (HG.o _ HB1.o).mono ?_;rintro e w2 ⟨rfl, hb2⟩;have HB2 := lh (HB1.o.trans (hb2.mono HB1.o.size));have p0 := Q0.o.later HB2.o;have p1 := Q1.o.later HB2.o;have c0 := p0.cell 0;have c1 := p0.cell 1;have d0 := p1.cell 0;have d1 := p1.cell 1;have d2 := p1.cell 2;have z0 := p0.lt;have z1 := p1.lt;clear hb2 p0 p1;go_wp2_with fail;refine (HCP.o _ HB2.o).mono ?_;rintro e w3 ⟨na, nc, ca, cc, N, C, rfl, hr, hb3⟩;have hbw3 := HB2.o.trans (hb3.mono HB2.o.size)
     obtain ⟨nb, hnb⟩ : ∃ nb, nb = w3.heap.size := ⟨_, rfl⟩
     obtain ⟨w4, hw4⟩ : ∃ w4, w4 = w3.alloc (.cells #[.int .i64 (n : Int), .slice na N.length nc] 33) := ⟨_, rfl⟩
     have hb4 : Below w3.heap.size w3 w4 := by rw [hw4]; exact (Below.refl _ _).alloc (Nat.le_refl _) _
     have q4 : Blk w4 nb #[.int .i64 (n : Int), .slice na N.length nc] 33 := by rw [hw4, hnb]; exact Blk.new _ _ _
     have HR := lh (hr.keep hb4);have HB4 := lh (hbw3.trans (hb4.mono hbw3.size));have Q4 := lh q4;have p0 := Q0.o.later hbw3;clear c0 c1 d0 d1 d2 z0 z1;have c0 := p0.cell 0;have c1 := p0.cell 1;have z0 := p0.lt;clear hr hb3 hbw3 hb4 q4 p0;go_wp2_with fail;rw [<- hnb, <- hw4];clear hw4 hnb c0 c1 z0;refine (HR.o.dec HGD.o).mono ?_;rintro e w5 ⟨rfl, hb5⟩;have HB5 := lh (HB4.o.trans (hb5.mono HB4.o.size));have HR5 := lh (HR.o.keep hb5);have q5 := Q4.o.later hb5;have k0 := q5.cell 0;have k1 := q5.cell 1;have kz := q5.lt;clear hb5 q5;go_wp2_with fail;refine (HR5.o.dcs HGD.o).mono ?_;rintro e w6 ⟨rfl, hb6⟩
     have HB6 := lh (HB5.o.trans (hb6.mono HB5.o.size));clear hb6 k0 k1 kz;go_wp2_with fail;refine (HWK.o _ HB6.o).mono ?_;rintro e wz ⟨rfl, hbz⟩;have HBZ := lh (HB0.o.trans (((HB6.o).trans (hbz.mono (HB6.o).size)).mono HB0.o.size));clear hbz;go_wp2;go_ret;exact ⟨rfl, HBZ.o⟩
end Go.Proofs.YtfmmhjphopikgaaGreatDoor
