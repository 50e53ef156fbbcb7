/- Part of the proofs that laws of censuslaw24 return true for every input, where the tables that the rows list are laid. Texts: Gh, Gb. -/
import Derived.Test.YtfmmhjphopikgaaGreatDoorYC42
import Derived.Test.YtfmmhjphopikgaaGreatDoorYC44
import Derived.Test.YtfmmhjphopikgaaGreatDoorYC3
import Derived.Test.YtfmmhjphopikgaaGreatDoorYC2
import Derived.Test.YtfmmhjphopikgaaGreatDoorYC1
import Derived.BigRegion
import Derived.Deep.RegionHeld3
set_option maxHeartbeats 8000000
set_option maxRecDepth 100000
set_option linter.unusedSimpArgs false
set_option linter.unusedVariables false
namespace Go.Proofs.YtfmmhjphopikgaaGreatDoor
open Go.RowKit Cen
theorem CRes.or {n : Nat} {t : List Cl} {order : List Int} {o1 o2 : Bool} {B : Nat} {w : World} {na : Option Addr} {nc : Nat} {ca : Option Addr} {cc : Nat} {N : List Nd} {C : List Clm} (h : CRes n t order o1 o2 B w na nc ca cc N C) (hg : Gdt n t order) {k : Nat} (hk : k < N.length) (h4 : (N.getD k default).kind = 4) : ∃ l a b, OrN (chF order o1 n) n N k l a b := by
 have h9 := hg.n9;have e := h.eqN;subst e;exact comp_or (by omega) (ze3 (by omega)) hg.tok hk h4
theorem litQ_nd {N : List Nd} {i : Nat} {l : Int} : litQ N i l = if (N.getD i default).kind = 2 then decide ((N.getD i default).lit = l) else if (N.getD i default).kind = 3 then (N.getD i default).ins.any fun k => decide ((nd N k).kind = 2) && decide ((nd N k).lit = l) else false := by
 unfold litQ nd; simp
theorem getD_mem1 {c : List Int} {k : Nat} (h : k < c.length) : c.getD k 0 ∈ c := by
 rw [List.getD_eq_getElem?_getD, List.getElem?_eq_getElem h]; exact List.getElem_mem h
theorem lit24_any (n : Int) (na : Option Addr) (nc : Nat) (N : List Nd) (i : Nat) (l : Int) (w : World) (hl : N.length <= 65536) (hi : i < N.length) (hin : ∀ j ∈ (N.getD i default).ins, 0 <= j /\ j < N.length) (hx : NdCells w na N) :
 Calls Tryz.prog 52 #[.agg #[.int .i64 n, .slice na N.length nc], .int .i64 i, .int .i64 l] w fun e w' => e = .returned (.bool (litQ N i l)) /\ Below w.heap.size w w' := by
 obtain ⟨w0, hw0⟩ : ∃ w0, w0 = w.alloc (.cells #[.int .i64 n, .slice na N.length nc] 33) := ⟨_, rfl⟩
 have hb0 : Below w.heap.size w w0 := by rw [hw0]; exact (Below.refl _ _).alloc (Nat.le_refl _) _
 have q0 : Blk w0 w.heap.size #[.int .i64 n, .slice na N.length nc] 33 := by rw [hw0]; exact Blk.new w _ _
 have HB0 := lh hb0;have HX := lh (hx.keep hb0);have Q0 := lh q0;have k1 := q0.cell 1;have z0 := q0.lt;obtain ⟨nb, noff, hne, c0, c1, xa, xc, c2, hxi, hxl⟩ := hx i hi;have zb := zak c0;have HLB := lh (litQ_nd (N := N) (i := i) (l := l));generalize N.getD i default = x at *;generalize litQ N i l = R at *;have HI := lh (hxi.keep hb0);have HIN := lh hin
 have hni : (i : Int) < (N.length : Int) := by omega
 have HNE := lh hne;subst hne;clear hx hb0 hxi hin q0
 by_cases h2 : x.kind = 2
 ·have d2 : (x.kind == 2) = true := by simpa using h2
  have HR : Hid (R = (x.lit == l)) := by show R = _; rw [HLB.o, if_pos h2, Bool.eq_iff_iff]; simp
  clear h2;go_enter Tryz.func52, Tryz.ntmps52;go_wp2_with fail;rw [<- hw0];clear hw0;go_wp2;go_ret;exact ⟨by rw [HR.o]; rfl, HB0.o.trans (((Below.refl _ _).alloc (Nat.le_refl _) _).mono HB0.o.size)⟩
 by_cases h3 : x.kind = 3
 ·have d2 : (x.kind == 2) = false := by simpa using h2
  have d3 : (x.kind != 3) = false := by simp [h3]
  have HR : Hid (R = x.ins.any fun k => decide ((nd N k).kind = 2) && decide ((nd N k).lit = l)) := by show R = _; rw [HLB.o, if_neg h2, if_pos h3]
  clear h2 h3
  obtain ⟨W1, hW1⟩ : ∃ W1, W1 = w0.alloc (.cells #[.int .i64 x.kind, .int .i64 x.lit, .slice xa x.ins.length xc] 48) := ⟨_, rfl⟩
  obtain ⟨bx, hbx⟩ : ∃ bx, bx = w.heap.size + 1 := ⟨_, rfl⟩
  have hb1 : Below w0.heap.size w0 W1 := by rw [hW1]; exact (Below.refl _ _).alloc (Nat.le_refl _) _
  have q1 : Blk W1 bx #[.int .i64 x.kind, .int .i64 x.lit, .slice xa x.ins.length xc] 48 := by rw [hW1]; exact Blk.new' w0 (by rw [hbx, hw0]; simp) _ _
  have HB1 := lh hb1;have Q1 := lh q1;have HBA := lh (HB0.o.trans (hb1.mono HB0.o.size));clear hb1 q1;go_enter Tryz.func52, Tryz.ntmps52;go_wp2_with fail;rw [<- hw0];clear hw0;go_wp2_with fail;rw [<- hW1, <- hbx];clear hW1 hbx c0 c1 c2 k1 z0 zb
  go_loopw [8] (fun i' wr => ∃ k : Nat, k <= x.ins.length /\ i' = .int .i64 k /\ (∀ q, q < k -> (decide ((nd N (x.ins.getD q 0)).kind = 2) && decide ((nd N (x.ins.getD q 0)).lit = l)) = false) /\ Below W1.heap.size W1 wr) (fun i' _ => x.ins.length - (intOf i').toNat)
  case atStart => exact ⟨0, Nat.zero_le _, rfl, fun j h => absurd h (Nat.not_lt_zero _), Below.refl _ _⟩
  obtain ⟨k, hk, rfl, hno, hb⟩ := hrel;have HN := lh hno;have HBR := lh hb;have p0 := (Q0.o.later HB1.o).later hb;have p1 := Q1.o.later hb;have k1 := p0.cell 1;have z0 := p0.lt;have y2 := p1.cell 2;have z1 := p1.lt;have HXR := lh ((HX.o.keep HB1.o).keep hb);have HIR := lh ((HI.o.keep HB1.o).keep hb);clear hno hb p0 p1
  by_cases hlt : k < x.ins.length
  ·have hij := HIN.o _ (getD_mem1 hlt);obtain ⟨b2, off2, hae, e0⟩ := HIR.o k hlt
   have hki : (k : Int) < (x.ins.length : Int) := by omega
   have HNX : Hid ((decide ((nd N (x.ins.getD k 0)).kind = 2) && decide ((nd N (x.ins.getD k 0)).lit = l)) = false -> ∀ q, q < k + 1 -> (decide ((nd N (x.ins.getD q 0)).kind = 2) && decide ((nd N (x.ins.getD q 0)).lit = l)) = false) := fun he q hq => by
    by_cases e : q = k
    ·subst e; exact he
    exact HN.o q (by omega)
   have HT : Hid ((decide ((nd N (x.ins.getD k 0)).kind = 2) && decide ((nd N (x.ins.getD k 0)).lit = l)) = true -> R = true) := fun he => by
    rw [HR.o, List.any_eq_true]; exact ⟨_, getD_mem1 hlt, he⟩
   generalize x.ins.getD k 0 = v at *
   obtain ⟨m, rfl⟩ : ∃ m : Nat, v = (m : Int) := ⟨v.toNat, by omega⟩
   have hml : m < N.length := by omega
   obtain ⟨nb2, noff2, hne2, d0', d1', ya, yc, d2', hyi, hyl⟩ := HXR.o m hml;simp only [Option.some.injEq, Addr.mk.injEq, and_true] at hne2;obtain ⟨rfl, rfl⟩ := hne2;have hnd2 : nd N (m : Int) = N.getD m default := rfl;rw [hnd2] at HNX HT;generalize N.getD m default = y at *
   have hmi : (m : Int) < (N.length : Int) := by omega
   have zb2 : b2 < wr.heap.size := zak e0;have znb2 : nb < wr.heap.size := zak d0';subst hae;clear hij hyi hyl hnd2;go_wp2_with fail;go_region
   by_cases hh : y.kind = 2 /\ y.lit = l
   ·have HR4 := lh (HT.o (by rw [decide_eq_true hh.1, decide_eq_true hh.2]; rfl))
    have e1 : (y.kind == 2) = true := by simpa using hh.1
    have e2 : (y.lit == l) = true := by simpa using hh.2
    clear hh;go_wp2;go_ret;exact ⟨by rw [HR4.o]; rfl, HBA.o.trans ((HBR.o.trans ((((Below.refl _ _).alloc (Nat.le_refl _) _).drew).mono HBR.o.size)).mono HBA.o.size)⟩
   have HNN := lh (HNX.o (by
    rw [Bool.and_eq_false_iff, decide_eq_false_iff_not, decide_eq_false_iff_not]
    by_cases e : y.kind = 2
    ·exact .inr fun e' => hh ⟨e, e'⟩
    exact .inl e))
   by_cases e : y.kind = 2
   ·have e1 : (y.kind == 2) = true := by simpa using e
    have e2 : (y.lit == l) = false := by simpa using fun e' => hh ⟨e, e'⟩
    clear hh e;go_wp2;go_roundw
    case rel => exact ⟨k + 1, by omega, by go_num, HNN.o, HBR.o.trans ((((Below.refl _ _).alloc (Nat.le_refl _) _).drew).mono HBR.o.size)⟩
    case measure => simp [intOf]; omega
   have e1 : (y.kind == 2) = false := by simpa using e
   clear hh e;go_wp2;go_roundw
   case rel => exact ⟨k + 1, by omega, by go_num, HNN.o, HBR.o.trans ((((Below.refl _ _).alloc (Nat.le_refl _) _).drew).mono HBR.o.size)⟩
   case measure => simp [intOf]; omega
  have hke : k = x.ins.length := by omega
  subst hke
  have HRF : Hid (R = false) := by
   show R = false
   rw [HR.o, List.any_eq_false];intro y hy;obtain ⟨q, hq, e⟩ := List.getElem_of_mem hy;have := HN.o q hq;rw [show x.ins.getD q 0 = y by simp [List.getD_eq_getElem?_getD, hq, e]] at this;rw [this]; simp
  go_wp2;go_ret;exact ⟨by rw [HRF.o]; rfl, HBA.o.trans (HBR.o.mono HBA.o.size)⟩
 have d2 : (x.kind == 2) = false := by simpa using h2
 have d3 : (x.kind != 3) = true := by simpa using h3
 have HR : Hid (R = false) := by show R = _; rw [HLB.o, if_neg h2, if_neg h3]
 clear h2 h3;go_enter Tryz.func52, Tryz.ntmps52;go_wp2_with fail;rw [<- hw0];clear hw0;go_wp2;go_ret;exact ⟨by rw [HR.o]; rfl, HB0.o.trans (((Below.refl _ _).alloc (Nat.le_refl _) _).mono HB0.o.size)⟩
theorem lastd5 {a b c d e : Prop} (x : a /\ b /\ c /\ d /\ e) : e := x.2.2.2.2
theorem decides_ok (n : Int) (na : Option Addr) (nc : Nat) (N : List Nd) (i : Nat) (v : Int) (a b : Nat) (w : World) (hl : N.length <= 65536) (hi : i < N.length) (hins : (N.getD i default).ins = [(a : Int), (b : Int)]) (ha : a < N.length) (hb : b < N.length) (hin : ∀ k < N.length, ∀ j ∈ (N.getD k default).ins, 0 <= j /\ j < N.length) (h1 : litQ N a (-v) = true) (h2 : litQ N b v = true) (hv : 1 <= v /\ v <= 128) (hx : NdCells w na N) :
 Calls Tryz.prog 20 #[.agg #[.int .i64 n, .slice na N.length nc], .int .i64 i, .int .i64 v] w fun e w' => e = .returned (.bool true) /\ Below w.heap.size w w' := by
 obtain ⟨w0, hw0⟩ : ∃ w0, w0 = w.alloc (.cells #[.int .i64 n, .slice na N.length nc] 33) := ⟨_, rfl⟩
 have hb0 : Below w.heap.size w w0 := by rw [hw0]; exact (Below.refl _ _).alloc (Nat.le_refl _) _
 have q0 : Blk w0 w.heap.size #[.int .i64 n, .slice na N.length nc] 33 := by rw [hw0]; exact Blk.new w _ _
 have HB0 := lh hb0;have HX := lh (hx.keep hb0);have k0 := q0.cell 0;have k1 := q0.cell 1;have z0 := q0.lt;obtain ⟨nb, noff, hne, c0, c1, xa, xc, c2, hxi, hxl⟩ := hx i hi;have zb := zak c0
 have HL : Hid (∀ W, Below w0.heap.size w0 W -> ∀ (k : Nat) (l : Int), k < N.length -> Calls Tryz.prog 52 #[.agg #[.int .i64 n, .slice na N.length nc], .int .i64 k, .int .i64 l] W fun e w' => e = .returned (.bool (litQ N k l)) /\ Below W.heap.size W w') := fun W hW k l hk => lit24_any n na nc N k l W hl hk (hin k hk) (HX.o.keep hW)
 have HAP := lh (fun W hW => HL.o W hW a v ha);have hwr : IntKind.i64.wrap (-v) = -v := IntWalk.i64_in _ (by omega);have HBN := lh (fun W hW => HL.o W hW b (IntKind.i64.wrap (-v)) hb);have HAN := lh (fun W hW => HL.o W hW a (IntKind.i64.wrap (-v)) ha);rw [<- hwr] at h1;have HBP := lh (fun W hW => HL.o W hW b v hb);rw [h1] at HAN;rw [h2] at HBP;generalize N.getD i default = x at *;rw [hins] at hxi;have hxi := hxi.keep hb0;obtain ⟨b2, off2, hae, e0⟩ := hxi 0 (by simp);obtain ⟨b2', off2', hae', e1⟩ := hxi 1 (by simp);rw [hae] at hae';simp only [Option.some.injEq, Addr.mk.injEq, and_true] at hae';obtain ⟨rfl, rfl⟩ := hae'
 simp only [List.getD_cons_zero, List.getD_cons_succ, Nat.add_zero] at e0 e1
 have hlen : x.ins.length = 2 := by rw [hins]; rfl
 rw [hlen] at c2
 have hni : (i : Int) < (N.length : Int) := by omega
 subst hne hae
 have HKS : Hid (∀ w' : World, Below w0.heap.size w0 w' -> (fun w' => w'.cell? ⟨w.heap.size, 0, none⟩ = some (.int .i64 n) /\ w'.cell? ⟨w.heap.size, 1, none⟩ = some (.slice (some ⟨nb, noff, none⟩) N.length nc) /\ w'.cell? ⟨b2, off2, none⟩ = some (.int .i64 (a : Int)) /\ w'.cell? ⟨b2, off2 + 1, none⟩ = some (.int .i64 (b : Int)) /\ Below w0.heap.size w0 w') w') := lh fun w' hb => ⟨zaa hb k0, zaa hb k1, zaa hb e0, zaa hb e1, hb⟩
 have hv1 := hv.1;have hv2 := hv.2;generalize litQ N a v = A at *;generalize litQ N b (IntKind.i64.wrap (-v)) = B at *;clear hx hb0 hxi hin q0 HL h1 h2 hins hlen hxl ha hb hv hwr
 cases A with
 | false =>
   go_enter Tryz.func20, Tryz.ntmps20;go_wp2_with fail;rw [<- hw0];clear hw0;go_wp2_with fail;refine wp_region_held_drew (S := (fun w' => w'.cell? ⟨w.heap.size, 0, none⟩ = some (.int .i64 n) /\ w'.cell? ⟨w.heap.size, 1, none⟩ = some (.slice (some ⟨nb, noff, none⟩) N.length nc) /\ w'.cell? ⟨b2, off2, none⟩ = some (.int .i64 (a : Int)) /\ w'.cell? ⟨b2, off2 + 1, none⟩ = some (.int .i64 (b : Int)) /\ Below w0.heap.size w0 w')) (by kernel_rfl) ?_ (fun hHeld => ?_)
   ·try dsimp only
    exact HKS.o _ (Below.refl _ _).drew
   refine tkV 0 17 rfl rfl ?_; try simp only [tkS]
   refine tkV 1 18 rfl rfl ?_; try simp only [tkS]
   refine tkV 2 19 rfl rfl ?_; try simp only [tkS]
   refine tkV 3 20 rfl rfl ?_; try simp only [tkS]
   refine tkV 4 21 rfl rfl ?_; try simp only [tkS]
   refine tkR 5 (.cons rfl (fun K hK => ?_) .nil);go_simp;go_at_call 52
   with_reducible refine Calls.mono (HAP.o _ (lastd5 (by assumption))) ?_
   rintro e wA ⟨rfl, hbA⟩;have hwA : Below w0.heap.size w0 wA := Below.trans (lastd5 (by assumption)) (hbA.mono (Below.size (B := w0.heap.size) (w := w0) (lastd5 (by assumption))));go_wp2_with fail;refine hK.out _ _ ?_ (fun hHeld => ?_)
   ·try dsimp only
    exact HKS.o _ hwA
   clear hK K
   try simp only [tkS]
   refine tkV 6 23 rfl rfl ?_; try simp only [tkS]
   refine tkO 7 24 rfl rfl ?_; try simp only [tkS]
   refine tkO 8 25 rfl rfl ?_; try simp only [tkS]
   refine tkO 9 26 rfl rfl ?_; try simp only [tkS]
   refine tkO 10 27 rfl rfl ?_; try simp only [tkS]
   refine tkO 11 28 rfl rfl ?_; try simp only [tkS]
   refine tkO 12 29 rfl rfl ?_; try simp only [tkS]
   refine tkO 13 30 rfl rfl ?_; try simp only [tkS]
   refine tkV 14 31 rfl rfl ?_; try simp only [tkS]
   refine tkV 15 32 rfl rfl ?_; try simp only [tkS]
   refine tkV 16 33 rfl rfl ?_; try simp only [tkS]
   refine tkV 17 34 rfl rfl ?_; try simp only [tkS]
   refine tkV 18 35 rfl rfl ?_; try simp only [tkS]
   refine tkV 19 36 rfl rfl ?_; try simp only [tkS]
   refine tkV 20 37 rfl rfl ?_; try simp only [tkS]
   refine tkV 21 38 rfl rfl ?_; try simp only [tkS]
   refine tkR 22 (.cons rfl (fun K hK => ?_) .nil);go_simp;go_at_call 52
   with_reducible refine Calls.mono (HAN.o _ (lastd5 (by assumption))) ?_
   rintro e wC ⟨rfl, hbC⟩;have hwC : Below w0.heap.size w0 wC := Below.trans (lastd5 (by assumption)) (hbC.mono (Below.size (B := w0.heap.size) (w := w0) (lastd5 (by assumption))));go_wp2_with fail;refine hK.out _ _ ?_ (fun hHeld => ?_)
   ·try dsimp only
    exact HKS.o _ hwC
   clear hK K
   try simp only [tkS]
   refine tkV 23 40 rfl rfl ?_; try simp only [tkS]
   refine tkV 24 41 rfl rfl ?_; try simp only [tkS]
   refine tkV 25 42 rfl rfl ?_; try simp only [tkS]
   refine tkV 26 43 rfl rfl ?_; try simp only [tkS]
   refine tkV 27 44 rfl rfl ?_; try simp only [tkS]
   refine tkV 28 45 rfl rfl ?_; try simp only [tkS]
   refine tkR 29 (.cons rfl (fun K hK => ?_) .nil);go_simp;go_at_call 52
   with_reducible refine Calls.mono (HBP.o _ (lastd5 (by assumption))) ?_
   rintro e wD ⟨rfl, hbD⟩;have hwD : Below w0.heap.size w0 wD := Below.trans (lastd5 (by assumption)) (hbD.mono (Below.size (B := w0.heap.size) (w := w0) (lastd5 (by assumption))));go_wp2_with fail;refine hK.out _ _ ?_ (fun hHeld => ?_)
   ·try dsimp only
    exact HKS.o _ hwD
   clear hK K
   try simp only [tkS]
   refine tkV 30 47 rfl rfl ?_; try simp only [tkS]
   refine tkV 31 48 rfl rfl ?_; try simp only [tkS]
   refine tkV 32 6 rfl rfl ?_; try simp only [tkS]
   refine wpAnyH_done (by kernel_rfl) ?_ _;have HBF := lh hwD;go_wp2;go_ret;exact ⟨rfl, HB0.o.trans (HBF.o.mono HB0.o.size)⟩
 | true =>
   cases B with
   | true =>
     go_enter Tryz.func20, Tryz.ntmps20;go_wp2_with fail;rw [<- hw0];clear hw0;go_wp2_with fail;refine wp_region_held_drew (S := (fun w' => w'.cell? ⟨w.heap.size, 0, none⟩ = some (.int .i64 n) /\ w'.cell? ⟨w.heap.size, 1, none⟩ = some (.slice (some ⟨nb, noff, none⟩) N.length nc) /\ w'.cell? ⟨b2, off2, none⟩ = some (.int .i64 (a : Int)) /\ w'.cell? ⟨b2, off2 + 1, none⟩ = some (.int .i64 (b : Int)) /\ Below w0.heap.size w0 w')) (by kernel_rfl) ?_ (fun hHeld => ?_)
     ·try dsimp only
      exact HKS.o _ (Below.refl _ _).drew
     refine tkV 0 17 rfl rfl ?_; try simp only [tkS]
     refine tkV 1 18 rfl rfl ?_; try simp only [tkS]
     refine tkV 2 19 rfl rfl ?_; try simp only [tkS]
     refine tkV 3 20 rfl rfl ?_; try simp only [tkS]
     refine tkV 4 21 rfl rfl ?_; try simp only [tkS]
     refine tkR 5 (.cons rfl (fun K hK => ?_) .nil);go_simp;go_at_call 52
     with_reducible refine Calls.mono (HAP.o _ (lastd5 (by assumption))) ?_
     rintro e wA ⟨rfl, hbA⟩;have hwA : Below w0.heap.size w0 wA := Below.trans (lastd5 (by assumption)) (hbA.mono (Below.size (B := w0.heap.size) (w := w0) (lastd5 (by assumption))));go_wp2_with fail;refine hK.out _ _ ?_ (fun hHeld => ?_)
     ·try dsimp only
      exact HKS.o _ hwA
     clear hK K
     try simp only [tkS]
     refine tkV 6 23 rfl rfl ?_; try simp only [tkS]
     refine tkV 7 24 rfl rfl ?_; try simp only [tkS]
     refine tkV 8 25 rfl rfl ?_; try simp only [tkS]
     refine tkV 9 26 rfl rfl ?_; try simp only [tkS]
     refine tkV 10 27 rfl rfl ?_; try simp only [tkS]
     refine tkV 11 28 rfl rfl ?_; try simp only [tkS]
     refine tkV 12 29 rfl rfl ?_; try simp only [tkS]
     refine tkR 13 (.cons rfl (fun K hK => ?_) .nil);go_simp;go_at_call 52
     with_reducible refine Calls.mono (HBN.o _ (lastd5 (by assumption))) ?_
     rintro e wB ⟨rfl, hbB⟩;have hwB : Below w0.heap.size w0 wB := Below.trans (lastd5 (by assumption)) (hbB.mono (Below.size (B := w0.heap.size) (w := w0) (lastd5 (by assumption))));go_wp2_with fail;refine hK.out _ _ ?_ (fun hHeld => ?_)
     ·try dsimp only
      exact HKS.o _ hwB
     clear hK K
     try simp only [tkS]
     refine tkV 14 31 rfl rfl ?_; try simp only [tkS]
     refine tkV 15 32 rfl rfl ?_; try simp only [tkS]
     refine tkO 16 33 rfl rfl ?_; try simp only [tkS]
     refine tkO 17 34 rfl rfl ?_; try simp only [tkS]
     refine tkO 18 35 rfl rfl ?_; try simp only [tkS]
     refine tkO 19 36 rfl rfl ?_; try simp only [tkS]
     refine tkO 20 37 rfl rfl ?_; try simp only [tkS]
     refine tkO 21 38 rfl rfl ?_; try simp only [tkS]
     refine tkO 22 39 rfl rfl ?_; try simp only [tkS]
     refine tkO 23 40 rfl rfl ?_; try simp only [tkS]
     refine tkO 24 41 rfl rfl ?_; try simp only [tkS]
     refine tkO 25 42 rfl rfl ?_; try simp only [tkS]
     refine tkO 26 43 rfl rfl ?_; try simp only [tkS]
     refine tkO 27 44 rfl rfl ?_; try simp only [tkS]
     refine tkO 28 45 rfl rfl ?_; try simp only [tkS]
     refine tkO 29 46 rfl rfl ?_; try simp only [tkS]
     refine tkO 30 47 rfl rfl ?_; try simp only [tkS]
     refine tkV 31 48 rfl rfl ?_; try simp only [tkS]
     refine tkV 32 6 rfl rfl ?_; try simp only [tkS]
     refine wpAnyH_done (by kernel_rfl) ?_ _;have HBF := lh hwB;go_wp2;go_ret;exact ⟨rfl, HB0.o.trans (HBF.o.mono HB0.o.size)⟩
   | false =>
     go_enter Tryz.func20, Tryz.ntmps20;go_wp2_with fail;rw [<- hw0];clear hw0;go_wp2_with fail;refine wp_region_held_drew (S := (fun w' => w'.cell? ⟨w.heap.size, 0, none⟩ = some (.int .i64 n) /\ w'.cell? ⟨w.heap.size, 1, none⟩ = some (.slice (some ⟨nb, noff, none⟩) N.length nc) /\ w'.cell? ⟨b2, off2, none⟩ = some (.int .i64 (a : Int)) /\ w'.cell? ⟨b2, off2 + 1, none⟩ = some (.int .i64 (b : Int)) /\ Below w0.heap.size w0 w')) (by kernel_rfl) ?_ (fun hHeld => ?_)
     ·try dsimp only
      exact HKS.o _ (Below.refl _ _).drew
     refine tkV 0 17 rfl rfl ?_; try simp only [tkS]
     refine tkV 1 18 rfl rfl ?_; try simp only [tkS]
     refine tkV 2 19 rfl rfl ?_; try simp only [tkS]
     refine tkV 3 20 rfl rfl ?_; try simp only [tkS]
     refine tkV 4 21 rfl rfl ?_; try simp only [tkS]
     refine tkR 5 (.cons rfl (fun K hK => ?_) .nil);go_simp;go_at_call 52
     with_reducible refine Calls.mono (HAP.o _ (lastd5 (by assumption))) ?_
     rintro e wA ⟨rfl, hbA⟩;have hwA : Below w0.heap.size w0 wA := Below.trans (lastd5 (by assumption)) (hbA.mono (Below.size (B := w0.heap.size) (w := w0) (lastd5 (by assumption))));go_wp2_with fail;refine hK.out _ _ ?_ (fun hHeld => ?_)
     ·try dsimp only
      exact HKS.o _ hwA
     clear hK K
     try simp only [tkS]
     refine tkV 6 23 rfl rfl ?_; try simp only [tkS]
     refine tkV 7 24 rfl rfl ?_; try simp only [tkS]
     refine tkV 8 25 rfl rfl ?_; try simp only [tkS]
     refine tkV 9 26 rfl rfl ?_; try simp only [tkS]
     refine tkV 10 27 rfl rfl ?_; try simp only [tkS]
     refine tkV 11 28 rfl rfl ?_; try simp only [tkS]
     refine tkV 12 29 rfl rfl ?_; try simp only [tkS]
     refine tkR 13 (.cons rfl (fun K hK => ?_) .nil);go_simp;go_at_call 52
     with_reducible refine Calls.mono (HBN.o _ (lastd5 (by assumption))) ?_
     rintro e wB ⟨rfl, hbB⟩;have hwB : Below w0.heap.size w0 wB := Below.trans (lastd5 (by assumption)) (hbB.mono (Below.size (B := w0.heap.size) (w := w0) (lastd5 (by assumption))));go_wp2_with fail;refine hK.out _ _ ?_ (fun hHeld => ?_)
     ·try dsimp only
      exact HKS.o _ hwB
     clear hK K
     try simp only [tkS]
     refine tkV 14 31 rfl rfl ?_; try simp only [tkS]
     refine tkV 15 32 rfl rfl ?_; try simp only [tkS]
     refine tkV 16 33 rfl rfl ?_; try simp only [tkS]
     refine tkV 17 34 rfl rfl ?_; try simp only [tkS]
     refine tkV 18 35 rfl rfl ?_; try simp only [tkS]
     refine tkV 19 36 rfl rfl ?_; try simp only [tkS]
     refine tkV 20 37 rfl rfl ?_; try simp only [tkS]
     refine tkV 21 38 rfl rfl ?_; try simp only [tkS]
     refine tkR 22 (.cons rfl (fun K hK => ?_) .nil);go_simp;go_at_call 52
     with_reducible refine Calls.mono (HAN.o _ (lastd5 (by assumption))) ?_
     rintro e wC ⟨rfl, hbC⟩;have hwC : Below w0.heap.size w0 wC := Below.trans (lastd5 (by assumption)) (hbC.mono (Below.size (B := w0.heap.size) (w := w0) (lastd5 (by assumption))));go_wp2_with fail;refine hK.out _ _ ?_ (fun hHeld => ?_)
     ·try dsimp only
      exact HKS.o _ hwC
     clear hK K
     try simp only [tkS]
     refine tkV 23 40 rfl rfl ?_; try simp only [tkS]
     refine tkV 24 41 rfl rfl ?_; try simp only [tkS]
     refine tkV 25 42 rfl rfl ?_; try simp only [tkS]
     refine tkV 26 43 rfl rfl ?_; try simp only [tkS]
     refine tkV 27 44 rfl rfl ?_; try simp only [tkS]
     refine tkV 28 45 rfl rfl ?_; try simp only [tkS]
     refine tkR 29 (.cons rfl (fun K hK => ?_) .nil);go_simp;go_at_call 52
     with_reducible refine Calls.mono (HBP.o _ (lastd5 (by assumption))) ?_
     rintro e wD ⟨rfl, hbD⟩;have hwD : Below w0.heap.size w0 wD := Below.trans (lastd5 (by assumption)) (hbD.mono (Below.size (B := w0.heap.size) (w := w0) (lastd5 (by assumption))));go_wp2_with fail;refine hK.out _ _ ?_ (fun hHeld => ?_)
     ·try dsimp only
      exact HKS.o _ hwD
     clear hK K
     try simp only [tkS]
     refine tkV 30 47 rfl rfl ?_; try simp only [tkS]
     refine tkV 31 48 rfl rfl ?_; try simp only [tkS]
     refine tkV 32 6 rfl rfl ?_; try simp only [tkS]
     refine wpAnyH_done (by kernel_rfl) ?_ _;have HBF := lh hwD;go_wp2;go_ret;exact ⟨rfl, HB0.o.trans (HBF.o.mono HB0.o.size)⟩
end Go.Proofs.YtfmmhjphopikgaaGreatDoor
