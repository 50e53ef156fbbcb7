/- Part of the proofs that laws of censuslaw24 return true for every input, where the tables that the rows list are laid. Texts: NHolds, Fb, Fk, R03C. -/
import Derived.Test.YtfmmhjphopikgaaGreatDoorYC6
import Derived.Deep.RegionHeld3
import Derived.Test.YtfmmhjphopikgaaGreatDoorYC32
import Derived.Test.YtfmmhjphopikgaaGreatDoorYC30
import Derived.Test.YtfmmhjphopikgaaGreatDoorYC7
import Derived.RangeFuncNested
import Derived.RangeFuncBound
import Derived.RangeFuncCalls
import Derived.RangeFuncLeaves
import Derived.Shelf.Abstract
import Derived.Shelf.RegionOpen
import Derived.WalkKit
import Derived.OwnWalkIn
import Derived.TacticsInMore
import Derived.LoopNIn
import Derived.LoopIn
import Derived.Lib.TrailingZeros
import Derived.Laws.Bits64b
import Derived.Test.YtfmmhjphopikgaaGreatDoorYC1
import Derived.BigRegion
import Derived.Test.YtfmmhjphopikgaaGreatDoorYC15
import Derived.Test.YtfmmhjphopikgaaGreatDoorYC42
set_option maxHeartbeats 8000000
set_option maxRecDepth 100000
set_option linter.unusedSimpArgs false
set_option linter.unusedVariables false
namespace Go.Proofs.YtfmmhjphopikgaaGreatDoor
open Go.RowKit Cen
theorem last3h {p q r : Prop} (h : p /\ q /\ r) : r := h.2.2
theorem nHolds_any (s : St) (l : Int) (w : World) (hs : s.ok) : Calls Tryz.prog 56 #[stv s, .int .i64 l] w fun e w' => e = .returned (.bool (zbw s.mem l)) /\ Below w.heap.size w w' := by
 have hb0 := (Below.refl w.heap.size w).alloc (Nat.le_refl _) (.cells #[.int .u64 (s.a : Int), .int .u64 (s.b : Int)] 56);have HB0 := lh hb0;have q0 := lh (Blk.new w #[.int .u64 (s.a : Int), .int .u64 (s.b : Int)] 56);have HH := lh (fun V => has_any s (zac l) V hs)
 obtain ⟨W0, hW0⟩ : ∃ W0, W0 = w.alloc (.cells #[.int .u64 (s.a : Int), .int .u64 (s.b : Int)] 56) := ⟨_, rfl⟩
 rw [<- hW0] at HB0 q0;have HW0 := lh hW0;have k0 : W0.cell? ⟨w.heap.size, 0, none⟩ = some (.int .u64 (s.a : Int)) := q0.out.cell 0;have k1 : W0.cell? ⟨w.heap.size, 1, none⟩ = some (.int .u64 (s.b : Int)) := q0.out.cell 1
 have HKS : Hid (∀ w' : World, Below W0.heap.size W0 w' -> w'.cell? ⟨w.heap.size, 0, none⟩ = some (.int .u64 (s.a : Int)) /\ w'.cell? ⟨w.heap.size, 1, none⟩ = some (.int .u64 (s.b : Int)) /\ Below W0.heap.size W0 w') := lh fun w' hb => ⟨zaa hb k0, zaa hb k1, hb⟩
 clear hb0 hW0
 by_cases h0 : zac l = 0
 ·have h1 : (zac l != 0) = false := by simp [h0]
  have HR : Hid (zbw s.mem l = false) := by show _ = _; simp [zbw, h0]
  clear h0;go_enter Tryz.func56, Tryz.ntmps56;go_wp2_with fail
  try (rw [<- HW0.o])
  refine wp_region_held_drew (S := (fun w' => w'.cell? ⟨w.heap.size, 0, none⟩ = some (.int .u64 (s.a : Int)) /\ w'.cell? ⟨w.heap.size, 1, none⟩ = some (.int .u64 (s.b : Int)) /\ Below W0.heap.size W0 w')) (by kernel_rfl) ?_ (fun hHeld => ?_)
  ·try dsimp only
   exact HKS.o _ (Below.refl _ _).drew
  refine tkV 0 5 rfl rfl ?_; try simp only [tkS]
  refine tkR 1 (.cons rfl (fun K hK => ?_) .nil);go_simp;go_at_call 49;refine (zbz _ _).mono ?_;rintro e w' ⟨rfl, rfl⟩
  try go_wp2_with fail
  refine hK.out _ _ ?_ (fun hHeld => ?_)
  ·try dsimp only
   exact HKS.o _ (last3h (by assumption))
  clear hK K
  try simp only [tkS]
  refine tkV 2 7 rfl rfl ?_; try simp only [tkS]
  refine tkV 3 8 rfl rfl ?_; try simp only [tkS]
  refine tkO 4 9 rfl rfl ?_; try simp only [tkS]
  refine tkO 5 10 rfl rfl ?_; try simp only [tkS]
  refine tkO 6 11 rfl rfl ?_; try simp only [tkS]
  refine tkO 7 12 rfl rfl ?_; try simp only [tkS]
  refine tkO 8 13 rfl rfl ?_; try simp only [tkS]
  refine tkO 9 14 rfl rfl ?_; try simp only [tkS]
  refine tkO 10 15 rfl rfl ?_; try simp only [tkS]
  refine tkV 11 16 rfl rfl ?_; try simp only [tkS]
  refine tkV 12 4 rfl rfl ?_; try simp only [tkS]
  refine wpAnyH_done (by kernel_rfl) ?_ _
  all_goals
   have B1 := lh (HB0.o.trans (Below.mono (B := W0.heap.size) (last3h (by assumption)) HB0.o.size));go_wp2;go_ret;exact ⟨zah HR.o.symm, B1.o⟩
 have h1 : (zac l != 0) = true := by simpa using h0
 have HR : Hid (zbw s.mem l = (s.mem (zac l) == decide (0 < l))) := by show _ = _; simp [zbw, h0]
 clear h0;go_enter Tryz.func56, Tryz.ntmps56;go_wp2_with fail
 try (rw [<- HW0.o])
 refine wp_region_held_drew (S := (fun w' => w'.cell? ⟨w.heap.size, 0, none⟩ = some (.int .u64 (s.a : Int)) /\ w'.cell? ⟨w.heap.size, 1, none⟩ = some (.int .u64 (s.b : Int)) /\ Below W0.heap.size W0 w')) (by kernel_rfl) ?_ (fun hHeld => ?_)
 ·try dsimp only
  exact HKS.o _ (Below.refl _ _).drew
 refine tkV 0 5 rfl rfl ?_; try simp only [tkS]
 refine tkR 1 (.cons rfl (fun K hK => ?_) .nil);go_simp;go_at_call 49;refine (zbz _ _).mono ?_;rintro e w' ⟨rfl, rfl⟩
 try go_wp2_with fail
 refine hK.out _ _ ?_ (fun hHeld => ?_)
 ·try dsimp only
  exact HKS.o _ (last3h (by assumption))
 clear hK K
 try simp only [tkS]
 refine tkV 2 7 rfl rfl ?_; try simp only [tkS]
 refine tkV 3 8 rfl rfl ?_; try simp only [tkS]
 refine tkV 4 9 rfl rfl ?_; try simp only [tkS]
 refine tkV 5 10 rfl rfl ?_; try simp only [tkS]
 refine tkV 8 13 rfl rfl ?_; try simp only [tkS]
 refine tkV 9 14 rfl rfl ?_; try simp only [tkS]
 refine tkR 6 (.cons rfl (fun K hK => ?_) .nil);go_simp;go_at_call 49;refine (zbz _ _).mono ?_;rintro e w' ⟨rfl, rfl⟩
 try go_wp2_with fail
 refine hK.out _ _ ?_ (fun hHeld => ?_)
 ·try dsimp only
  exact HKS.o _ (last3h (by assumption))
 clear hK K
 try simp only [tkS]
 refine tkR 7 (.cons rfl (fun K hK => ?_) .nil);go_simp;go_at_call 19;refine (HH.o _).mono ?_;rintro e w1 ⟨rfl, hb1⟩;have hw1 : Below W0.heap.size W0 w1 := Below.trans (last3h (by assumption)) (hb1.mono (Below.size (B := W0.heap.size) (w := W0) (last3h (by assumption))));clear hb1;go_wp2_with fail;refine hK.out _ _ ?_ (fun hHeld => ?_)
 ·try dsimp only
  exact HKS.o _ hw1
 clear hK K
 try simp only [tkS]
 refine tkV 10 15 rfl rfl ?_; try simp only [tkS]
 refine tkV 11 16 rfl rfl ?_; try simp only [tkS]
 refine tkV 12 4 rfl rfl ?_; try simp only [tkS]
 refine wpAnyH_done (by kernel_rfl) ?_ _
 all_goals
  have B1 := lh (HB0.o.trans (Below.mono (B := W0.heap.size) hw1 HB0.o.size));go_wp2;go_ret;exact ⟨zah HR.o.symm, B1.o⟩
theorem ztc {s : Int -> Bool} {t : List Cl} {k : Nat} (h : k < t.length) : evL s (t.drop k) = (evC s (t.getD k []) && evL s (t.drop (k + 1))) := by
 unfold evL;rw [List.drop_eq_getElem_cons h, List.all_cons]; simp [List.getD_eq_getElem?_getD, h]
theorem indexFuncB_any (a : Option Addr) (cap : Nat) (xs : List Int) (g : FuncId) (cs : Array Value) (p : Int -> Bool) (w : World) (hl : xs.length <= 1073741824)
 (hx : IntCells w a xs) (hp : ∀ x W, x ∈ xs -> Below w.heap.size w W -> Calls Tryz.prog g (#[.int .i64 x] ++ cs) W fun e w' => e = .returned (.bool (p x)) /\ Below W.heap.size W w') (hcf0 : zb0 g) :
 Calls Tryz.prog 95 #[.slice a xs.length cap, .func (.func g) #[] cs] w fun e w' => e = .returned (.int .i64 (idx p xs)) /\ Below w.heap.size w w' := by
 have HX := lh hx;have HP := lh hp;have hcf : ∀ (args : Array Value) (w : World), (callFunc g args).run Tryz.prog w = .ok (.enter g args) w := hcf0;clear hx hp hcf0;go_enter Tryz.func95, Tryz.ntmps95;go_wp2
 go_loopw [5, 8] (fun v i wr => ∃ k : Nat, k <= xs.length /\ i = .int .i64 k /\ (∀ j, j < k -> p (xs.getD j 0) = false) /\ Below w.heap.size w wr) (fun _ i _ => xs.length - (intOf i).toNat)
 case atStart => exact ⟨0, Nat.zero_le _, rfl, fun j h => absurd h (Nat.not_lt_zero _), Below.refl _ _⟩
 obtain ⟨k, hk, rfl, hno, hb⟩ := hrel;have HN := lh hno;have HB := lh hb;have HXR := lh (HX.o.keep hb);clear hno hb
 by_cases hlt : k < xs.length
 ·obtain ⟨b, off, rfl, hc⟩ := HXR.o k hlt
  cases hpk : p xs[k]
  ·have HK := lh hpk;clear hpk;go_wp2_with fail;refine (HP.o xs[k] _ (List.getElem_mem hlt) HB.o).mono ?_;rw [HK.o];rintro e w1 ⟨rfl, hb1⟩;have HB1 := lh (HB.o.trans (hb1.mono HB.o.size));clear hb1;go_wp2;go_roundw
   case rel => exact ⟨k + 1, by omega, by go_num, fun j hj => by
    by_cases e : j = k
    ·subst e; simpa [List.getD_eq_getElem?_getD, hlt] using HK.o
    exact HN.o j (by omega), HB1.o⟩
   case measure => simp [intOf]; omega
  have HK := lh hpk;clear hpk;go_wp2_with fail;refine (HP.o xs[k] _ (List.getElem_mem hlt) HB.o).mono ?_;rw [HK.o];rintro e w1 ⟨rfl, hb1⟩;have HB1 := lh (HB.o.trans (hb1.mono HB.o.size));clear hb1;go_wp2;go_ret;exact ⟨zbb (zq9 p xs k hlt HN.o HK.o).symm, HB1.o⟩
 have : k = xs.length := by omega
 subst this;go_wp2;go_ret;exact ⟨zbb (zoq p xs HN.o).symm, HB.o⟩
theorem containsFuncB_any (a : Option Addr) (cap : Nat) (xs : List Int) (g : FuncId) (cs : Array Value) (p : Int -> Bool) (w : World) (hl : xs.length <= 1073741824)
 (hx : IntCells w a xs) (hp : ∀ x W, x ∈ xs -> Below w.heap.size w W -> Calls Tryz.prog g (#[.int .i64 x] ++ cs) W fun e w' => e = .returned (.bool (p x)) /\ Below W.heap.size W w') (hcf0 : zb0 g) :
 Calls Tryz.prog 57 #[.slice a xs.length cap, .func (.func g) #[] cs] w fun e w' => e = .returned (.bool (xs.any p)) /\ Below w.heap.size w w' := by
 have HI := lh (indexFuncB_any a cap xs g cs p w hl hx hp hcf0);clear hx hp hcf0;go_enter Tryz.func57, Tryz.ntmps57;go_wp2_with fail;refine HI.o.mono ?_;rintro e w1 ⟨rfl, hb1⟩;have HB1 := lh hb1;clear hb1;go_wp2;go_ret;exact ⟨zah (zq7 p xs), HB1.o⟩
theorem any1_any (s : St) (x : Int) (b : Nat) (w : World) (hs : s.ok) (h : Blk w b #[.int .u64 (s.a : Int), .int .u64 (s.b : Int)] 56) :
 Calls Tryz.prog 98 #[.int .i64 x, .pointer (some ⟨b, 0, none⟩)] w fun e w' => e = .returned (.bool (zbw s.mem x)) /\ Below w.heap.size w w' := by
 have c0 := h.cell 0;have c1 := h.cell 1;have HH := lh (nHolds_any s x w hs);clear h;go_enter Tryz.func98, Tryz.ntmps98;go_wp2_with fail;refine HH.o.mono ?_;rintro e w1 ⟨rfl, hb1⟩;have HB1 := lh hb1;clear hb1;go_wp2;go_ret;exact ⟨rfl, HB1.o⟩
theorem callable_any1 : zb0 98 := fun _ _ => by kernel_rfl
theorem litAny_any (s : St) (a : Option Addr) (cap : Nat) (xs : Cl) (w : World) (hs : s.ok) (hl : xs.length <= 1073741824) (hx : IntCells w a xs) :
 Calls Tryz.prog 63 #[stv s, .slice a xs.length cap] w fun e w' => e = .returned (.bool (evC s.mem xs)) /\ Below w.heap.size w w' := by
 have hb0 : Below w.heap.size w (w.alloc (.cells #[.int .u64 (s.a : Int), .int .u64 (s.b : Int)] 56)) := (Below.refl _ _).alloc (Nat.le_refl _) _
 have hmf : ∀ (w : World), (Instr.makeFunc (.func 98) #[] #[.pointer (some ⟨w.heap.size, 0, none⟩)]).run Tryz.prog w = .ok (.func (.func 98) #[] #[.pointer (some ⟨w.heap.size, 0, none⟩)]) w := fun _ => rfl
 have HB0 := lh hb0;have q0 := Blk.new w #[.int .u64 (s.a : Int), .int .u64 (s.b : Int)] 56;have HC := lh (containsFuncB_any a cap xs 98 #[.pointer (some ⟨w.heap.size, 0, none⟩)] (zbw s.mem) _ hl (hx.keep hb0) (fun x W _ hW => any1_any s x w.heap.size W hs (q0.later hW)) callable_any1);clear hb0 hx q0 hmf;go_enter Tryz.func63, Tryz.ntmps63;go_wp2_with fail;refine HC.o.mono ?_;rintro e w1 ⟨rfl, hb1⟩;have HB1 := lh (HB0.o.trans (hb1.mono HB0.o.size));clear hb1;go_wp2;go_ret;exact ⟨rfl, HB1.o⟩
theorem sub_all {s : St} (hs : s.ok) {n : Int} (h : ∀ v : Int, n < v -> s.mem v = false) : decide (St.minus s (zcy n) = St.zero) = true := by
 rw [decide_eq_true_iff]
 apply St.ext (St.minus_ok hs) St.zero_ok
 intro v h1 h2;rw [St.mem_minus (allSt_ok n), zqn, St.mem_zero, decide_eq_true h1, decide_eq_true h2]
 by_cases h3 : v <= n
 ·rw [decide_eq_true h3]; simp
 rw [h v (by omega)]; simp
theorem tEval_ok (n : Nat) (hn : n <= 128) (a : Option Addr) (cap : Nat) (t : List Cl) (s : St) (w : World) (ht : tOk n t) (hx : LsCells w a t) (hs : s.ok) (hsn : ∀ v : Int, (n : Int) < v -> s.mem v = false) :
 Calls Tryz.prog 24 #[.agg #[.int .i64 n, .slice a t.length cap], stv s] w fun e w' => e = .returned (.bool (evL s.mem t)) /\ Below w.heap.size w w' := by
 obtain ⟨w0, hw0⟩ : ∃ w0, w0 = (w.alloc (.cells #[.int .i64 n, .slice a t.length cap] 24)).alloc (.cells #[.int .u64 (s.a : Int), .int .u64 (s.b : Int)] 56) := ⟨_, rfl⟩
 have hb0 : Below w.heap.size w w0 := by rw [hw0]; exact ((Below.refl _ _).alloc (Nat.le_refl _) _).alloc (by simp) _
 have q0 : Blk w0 w.heap.size #[.int .i64 n, .slice a t.length cap] 24 := by rw [hw0]; exact (Blk.new w _ _).alloc _
 have q1 : Blk w0 (w.heap.size + 1) #[.int .u64 (s.a : Int), .int .u64 (s.b : Int)] 56 := by rw [hw0]; exact Blk.new' _ (by simp) _ _
 have htle := ht.len;have HX := lh (hx.keep hb0)
 have HC : Hid (∀ W, Below w0.heap.size w0 W -> Calls Tryz.prog 60 #[.agg #[.int .i64 n, .slice a t.length cap]] W fun e w' => e = .returned (.int .i64 0) /\ Below W.heap.size W w') := fun W hW => by
  have := zem n a cap t W (by omega) (fun c hc => by have := (ht.cl c hc).1; omega) (HX.o.keep hW)
  rwa [(zbu hn).2 ht] at this
 have HAL := lh (fun W => zvv (n : Int) W)
 have HSB : Hid (∀ W, Calls Tryz.prog 61 #[stv s, stv (zcy n)] W fun e w' => e = .returned (.bool true) /\ Below W.heap.size W w') := fun W => by
  have := sub_any s (zcy n) W hs (allSt_ok n)
  rwa [sub_all hs hsn] at this
 have HAN := lh (fun a cap xs W hl hx => litAny_any s a cap xs W hs hl hx);have HB0 := lh hb0;have Q0 := lh q0;have Q1 := lh q1;have HT := lh ht;have HE0 : Hid (evL s.mem t = evL s.mem (t.drop 0)) := rfl;generalize zcy (n : Int) = al at *;have c0 := q0.cell 0;have c1 := q0.cell 1;have d0 := q1.cell 0;have d1 := q1.cell 1
 have HKS : Hid (∀ w' : World, Below w0.heap.size w0 w' -> w'.cell? ⟨w.heap.size, 0, none⟩ = some (.int .i64 (n : Int)) /\ w'.cell? ⟨w.heap.size, 1, none⟩ = some (.slice a t.length cap) /\ w'.cell? ⟨w.heap.size + 1, 0, none⟩ = some (.int .u64 (s.a : Int)) /\ w'.cell? ⟨w.heap.size + 1, 1, none⟩ = some (.int .u64 (s.b : Int)) /\ Below w0.heap.size w0 w') := lh fun w' hb => ⟨zaa hb c0, zaa hb c1, zaa hb d0, zaa hb d1, hb⟩
 clear hx hb0 q0 q1 ht hsn;generalize evL s.mem t = R at *;go_enter Tryz.func24, Tryz.ntmps24;go_wp2_with fail;rw [<- hw0];clear hw0;refine wp_region_held_drew (S := (fun w' => w'.cell? ⟨w.heap.size, 0, none⟩ = some (.int .i64 (n : Int)) /\ w'.cell? ⟨w.heap.size, 1, none⟩ = some (.slice a t.length cap) /\ w'.cell? ⟨w.heap.size + 1, 0, none⟩ = some (.int .u64 (s.a : Int)) /\ w'.cell? ⟨w.heap.size + 1, 1, none⟩ = some (.int .u64 (s.b : Int)) /\ Below w0.heap.size w0 w')) (by kernel_rfl) ?_ (fun hHeld => ?_)
 ·try dsimp only
  exact HKS.o _ (Below.refl _ _).drew
 refine tkV 0 7 rfl rfl ?_; try simp only [tkS]
 refine tkR 1 (.cons rfl (fun K hK => ?_) .nil);go_simp;go_at_call 60;refine (HC.o _ (zk6 (by assumption))).mono ?_;rintro e w2 ⟨rfl, hb2⟩;have hw2 : Below w0.heap.size w0 w2 := Below.trans (zk6 (by assumption)) (hb2.mono (Below.size (B := w0.heap.size) (w := w0) (zk6 (by assumption))));go_wp2_with fail;refine hK.out _ _ ?_ (fun hHeld => ?_)
 ·try dsimp only
  exact HKS.o _ hw2
 clear hK K
 try simp only [tkS]
 refine tkV 2 9 rfl rfl ?_; try simp only [tkS]
 refine tkV 3 10 rfl rfl ?_; try simp only [tkS]
 refine tkV 4 11 rfl rfl ?_; try simp only [tkS]
 refine tkV 5 12 rfl rfl ?_; try simp only [tkS]
 refine tkV 6 13 rfl rfl ?_; try simp only [tkS]
 refine tkR 7 (.cons rfl (fun K hK => ?_) .nil);go_simp;go_at_call 62;refine (HAL.o _).mono ?_;rintro e w3 ⟨rfl, hb3⟩;have hw3 : Below w0.heap.size w0 w3 := Below.trans (zk6 (by assumption)) (hb3.mono (Below.size (B := w0.heap.size) (w := w0) (zk6 (by assumption))));go_wp2_with fail;refine hK.out _ _ ?_ (fun hHeld => ?_)
 ·try dsimp only
  exact HKS.o _ hw3
 clear hK K
 try simp only [tkS]
 refine tkR 8 (.cons rfl (fun K hK => ?_) .nil);go_simp;go_at_call 61;refine (HSB.o _).mono ?_;rintro e w4 ⟨rfl, hb4⟩;have hw4 : Below w0.heap.size w0 w4 := Below.trans (zk6 (by assumption)) (hb4.mono (Below.size (B := w0.heap.size) (w := w0) (zk6 (by assumption))));go_wp2_with fail;refine hK.out _ _ ?_ (fun hHeld => ?_)
 ·try dsimp only
  exact HKS.o _ hw4
 clear hK K
 try simp only [tkS]
 refine tkV 9 16 rfl rfl ?_; try simp only [tkS]
 refine tkV 10 17 rfl rfl ?_; try simp only [tkS]
 refine wpAnyH_done (by kernel_rfl) ?_ _;have HB2 := lh hw4;clear c0 c1 d0 d1;have c1 := (Q0.o.later hw4).cell 1;have z0 := (Q0.o.later hw4).lt;go_wp2_with fail;clear c1 z0
 go_loopw [21] (fun i wr => ∃ k : Nat, k <= t.length /\ i = .int .i64 k /\ Below w0.heap.size w0 wr /\ R = evL s.mem (t.drop k)) (fun i _ => t.length - (intOf i).toNat)
 case atStart => exact ⟨0, Nat.zero_le _, rfl, HB2.o, HE0.o⟩
 obtain ⟨k, hk, rfl, hbr, hch⟩ := hrel;have HCH := lh hch;have HBR := lh hbr;have HBW := lh (HB0.o.trans (hbr.mono HB0.o.size));have HXR := lh (HX.o.keep hbr);have P1 := lh (Q1.o.later hbr);have k0 := P1.o.cell 0;have k1 := P1.o.cell 1;have y0 := P1.o.lt;clear hch hbr
 by_cases hlt : k < t.length
 ·obtain ⟨b1, off1, ai, ci, rfl, hc1, hi⟩ := HXR.o k hlt
  have hmem : t.getD k [] ∈ t := by rw [List.getD_eq_getElem?_getD, List.getElem?_eq_getElem hlt]; exact List.getElem_mem hlt
  obtain ⟨hcl, hcr⟩ := HT.o.cl _ hmem;have HD := lh (ztc (s := s.mem) hlt)
  have hki : (k : Int) < (t.length : Int) := by omega
  have HANK := lh (HAN.o ai ci _ wr (by omega) hi);generalize t.getD k [] = c at *;clear hmem hcr hi
  cases he : evC s.mem c with
  | true =>
    rw [he] at HANK HD
    have HN : Hid (R = evL s.mem (t.drop (k + 1))) := by show _ = _; rw [HCH.o, HD.o, Bool.true_and]
    clear he;go_wp2_with fail;refine HANK.o.mono ?_;rintro e w5 ⟨rfl, hb5⟩;have HB5 := lh (HBR.o.trans (hb5.mono HBR.o.size));clear hb5;go_wp2;go_roundw
    case rel => exact ⟨k + 1, by omega, by go_num, HB5.o, HN.o⟩
    case measure => simp [intOf]; omega
  | false =>
    rw [he] at HANK HD
    have HN : Hid (R = false) := by show _ = _; rw [HCH.o, HD.o, Bool.false_and]
    clear he;go_wp2_with fail;refine HANK.o.mono ?_;rintro e w5 ⟨rfl, hb5⟩;have HB5 := lh (HBW.o.trans (hb5.mono HBW.o.size));clear hb5;go_wp2;go_ret;exact ⟨by rw [HN.o]; rfl, HB5.o⟩
 have hke : k = t.length := by omega
 subst hke
 have HN : Hid (R = true) := by show _ = _; rw [HCH.o, List.drop_length]; rfl
 go_wp2;go_ret;exact ⟨by rw [HN.o]; rfl, HBW.o⟩
def cutF (s t : St) (v : Int) (j : Nat) : Bool := decide (1 <= j) && (decide ((j : Int) < v) && (s.mem j && t.mem j))
theorem cutF_next {s t : St} {v : Int} (h1 : 1 <= v) : blf (fun j => if j = v.toNat then (s.mem v && t.mem v) else cutF s t v j) = blf (cutF s t (v + 1)) := by
 refine zlp fun j _ => ?_
 unfold cutF
 by_cases e : j = v.toNat
 ·rw [if_pos e, decide_eq_true (show 1 <= j by omega), decide_eq_true (show (j : Int) < v + 1 by omega), show (j : Int) = v by omega]; rfl
 rw [if_neg e]
 congr 2
 rw [Bool.eq_iff_iff, decide_eq_true_iff, decide_eq_true_iff]; omega
theorem cutF_end {s t : St} (hs : s.ok) : setB (cutF s t 129) 128 = s.cut t := by
 apply St.ext (zi7 _ _) (St.cut_ok hs)
 intro v h1 h2;rw [zld _ _ _ (Nat.le_refl _), St.mem_cut, decide_eq_true h1, decide_eq_true (show v <= ((128 : Nat) : Int) from h2)];unfold cutF;rw [decide_eq_true (show 1 <= v.toNat by omega), decide_eq_true (show ((v.toNat : Nat) : Int) < 129 by omega), show ((v.toNat : Nat) : Int) = v by omega]; rfl
theorem cut3_any (s t : St) (w : World) (hs : s.ok) (ht : t.ok) : Calls Tryz.prog 21 #[stv s, stv t] w fun e w' => e = .returned (stv (s.cut t)) /\ Below w.heap.size w w' := by
 have hb0 := (((Below.refl w.heap.size w).alloc (Nat.le_refl _) (.cells #[.int .u64 (s.a : Int), .int .u64 (s.b : Int)] 56)).alloc (by simp) (.cells #[.int .u64 (t.a : Int), .int .u64 (t.b : Int)] 56)).alloc (by simp; omega) (.cells #[.int .u64 0, .int .u64 0] 56);have HB0 := lh hb0;have q0 := lh (((Blk.new w #[.int .u64 (s.a : Int), .int .u64 (s.b : Int)] 56).alloc (.cells #[.int .u64 (t.a : Int), .int .u64 (t.b : Int)] 56)).alloc (.cells #[.int .u64 0, .int .u64 0] 56));have q1 := lh ((Blk.new' (w.alloc (.cells #[.int .u64 (s.a : Int), .int .u64 (s.b : Int)] 56)) (World.size_alloc _ _) #[.int .u64 (t.a : Int), .int .u64 (t.b : Int)] 56).alloc (.cells #[.int .u64 0, .int .u64 0] 56))
 have q2 := lh (Blk.new' ((w.alloc (.cells #[.int .u64 (s.a : Int), .int .u64 (s.b : Int)] 56)).alloc (.cells #[.int .u64 (t.a : Int), .int .u64 (t.b : Int)] 56)) (b := w.heap.size + 1 + 1) (by simp only [World.size_alloc]) #[.int .u64 0, .int .u64 0] 56)
 obtain ⟨W0, hW0⟩ : ∃ W0, W0 = ((w.alloc (.cells #[.int .u64 (s.a : Int), .int .u64 (s.b : Int)] 56)).alloc (.cells #[.int .u64 (t.a : Int), .int .u64 (t.b : Int)] 56)).alloc (.cells #[.int .u64 0, .int .u64 0] 56) := ⟨_, rfl⟩
 have HZ0 : Hid (W0.heap.size = w.heap.size + 3) := by show _ = _; rw [hW0]; simp
 have HSA := lh (fun v V => ztk s v V hs);have HSB := lh (fun v V => ztk t v V ht);have HEND := lh (cutF_end (t := t) hs);clear hb0;go_enter Tryz.func21, Tryz.ntmps21;go_wp2_with fail;rw [<- hW0] at HB0 q0 q1 q2;refine (zmr _).mono ?_;rintro e w1 ⟨g, rfl, hown1, hb1⟩;rw [<- hW0] at hown1 hb1;have HO1 := lh hown1;rw [HZ0.o] at HO1
 have HB1 : Hid (Below (w.heap.size + 3) W0 w1) := by have h := hb1; rw [HZ0.o] at h; exact h
 clear hown1 hb1 hW0;go_wp2
 go_loopw [6] (fun i wr => ∃ v : Int, 1 <= v /\ v <= 129 /\ i = .int .i64 v /\ OwnL bc 4 1 wr (w.heap.size + 3) (.slice (some ⟨g, 0, none⟩) 129 129) (blf (cutF s t v)) /\ Below (w.heap.size + 3) W0 wr) (fun i _ => 129 - (intOf i).toNat)
 case atStart => exact ⟨1, by omega, by omega, rfl, by
  rw [zlp (g := fun _ => false) (fun j _ => by
   unfold cutF
   by_cases h : 1 <= j
   ·rw [decide_eq_false (show ¬ (j : Int) < 1 by omega)]; simp
   rw [decide_eq_false h]; rfl), zqo]; exact HO1.o, HB1.o⟩
 obtain ⟨v, hv1, hv2, rfl, hown, hb⟩ := hrel;have HO := lh hown;have HB := lh hb;have HBA := lh (HB0.o.trans (hb.mono (by omega)));have R0 := lh (q0.out.laterB hb (by omega));have R1 := lh (q1.out.laterB hb (by omega));have R2 := lh (q2.out.laterB hb (by omega));have HG := lh hown.lt;have k0 : wr.cell? ⟨w.heap.size, 0, none⟩ = some (.int .u64 (s.a : Int)) := R0.o.cell 0;have k1 : wr.cell? ⟨w.heap.size, 1, none⟩ = some (.int .u64 (s.b : Int)) := R0.o.cell 1;clear hown hb
 by_cases hlt : v <= 128
 ·have hlt2 : v < 129 := by omega
  have hv0 : 0 <= v := by omega
  have HLN : Hid (129 = (blf (cutF s t v)).length) := by show _ = _; rw [zdt]
  have HNX := lh (cutF_next (s := s) (t := t) hv1)
  have HS : Hid (∀ (V : World) (c : Bool), (s.mem v && t.mem v) = c -> Below wr.heap.size wr V -> OwnL bc 4 1 (V.setCell ⟨g, v.toNat, none⟩ (.bool c)) (w.heap.size + 3) (.slice (some ⟨g, 0, none⟩) 129 129) (blf (cutF s t (v + 1)))) := fun V c hc hV => by
   have h := (HO.o.later hV).put1 HLN.o zht v.toNat (by rw [<- HLN.o]; omega) c (.bool c) rfl;rw [zvx, <- hc, HNX.o, hc] at h;exact h
  have HFR : Hid (∀ (V : World), Below wr.heap.size wr V -> V.frozen? ⟨g, v.toNat, none⟩ = false /\ ∃ u, V.cell? ⟨g, v.toNat, none⟩ = some u) := fun V hV => ⟨(HO.o.later hV).fr HLN.o v.toNat, _, zvj (HO.o.later hV) v.toNat (by omega)⟩
  have HA := lh (HSA.o v wr);have HBV := lh (HSB.o v)
  have HZR : Hid (w.heap.size + 3 <= wr.heap.size) := by have h1 := HB.o.size; have h2 := HZ0.o; show _ <= _; omega
  cases hm : s.mem v with
  | false =>
    rw [hm] at HA
    have HC : Hid ((s.mem v && t.mem v) = false) := by show _ = _; rw [hm]; rfl
    clear hm;go_wp2_with fail;refine HA.o.mono ?_;rintro e w2 ⟨rfl, hb2⟩;obtain ⟨fr, u, hu⟩ := HFR.o w2 hb2;have HB2 := lh hb2;clear hb2 k0 k1;go_wp2;go_roundw
    case rel => exact ⟨v + 1, by omega, by omega, rfl, HS.o _ _ HC.o HB2.o, (HB.o.trans (HB2.o.mono HZR.o)).setCell (by dsimp only; exact HG.o.2) _⟩
    case measure => simp [intOf]; omega
  | true =>
    rw [hm] at HA
    have HC : Hid ((s.mem v && t.mem v) = t.mem v) := by show _ = _; rw [hm]; rfl
    clear hm;go_wp2_with fail;refine HA.o.mono ?_;rintro e w2 ⟨rfl, hb2⟩;have HB2 := lh hb2;have T1 := R1.o.later hb2;clear k0 k1;have k0 : w2.cell? ⟨w.heap.size + 1, 0, none⟩ = some (.int .u64 (t.a : Int)) := T1.cell 0;have k1 : w2.cell? ⟨w.heap.size + 1, 1, none⟩ = some (.int .u64 (t.b : Int)) := T1.cell 1;clear hb2 T1;go_wp2_with fail;refine (HBV.o w2).mono ?_;rintro e w3 ⟨rfl, hb3⟩;have HB3 := lh (HB2.o.trans (hb3.mono HB2.o.size));obtain ⟨fr, u, hu⟩ := HFR.o w3 HB3.o;clear hb3 k0 k1
    obtain ⟨c, hc⟩ : ∃ c, t.mem v = c := ⟨_, rfl⟩
    rw [hc];have HCC := lh hc;clear hc;go_wp2;go_roundw
    case rel => exact ⟨v + 1, by omega, by omega, rfl, HS.o _ _ (HC.o.trans HCC.o) HB3.o, (HB.o.trans (HB3.o.mono HZR.o)).setCell (by dsimp only; exact HG.o.2) _⟩
    case measure => simp [intOf]; omega
 have : v = 129 := by omega
 subst this;have HST := lh (zo3 (cutF s t 129) g wr (zvj HO.o));rw [HEND.o] at HST
 obtain ⟨d, hd⟩ : ∃ d, d = s.cut t := ⟨_, rfl⟩
 rw [<- hd] at HST;have HD := lh hd;clear hd k0 k1;go_wp2_with fail;refine HST.o.mono ?_;rintro e w2 ⟨rfl, hb2⟩;have T2 := R2.o.later hb2;have HB2 := lh (HBA.o.trans (hb2.mono HBA.o.size));have f0 := T2.fr 0;have f1 := T2.fr 1;have j0 : w2.cell? ⟨w.heap.size + 1 + 1, 0, none⟩ = some (.int .u64 0) := T2.cell 0;have j1 : w2.cell? ⟨w.heap.size + 1 + 1, 1, none⟩ = some (.int .u64 0) := T2.cell 1;have hz : w.heap.size + 1 + 1 < w2.heap.size := T2.lt;clear hb2;go_wp2;have hbr := (T2.set 0 (.int .u64 (d.a : Int))).set 1 (.int .u64 (d.b : Int));have e0 : ((w2.setCell ⟨w.heap.size + 1 + 1, 0, none⟩ (.int .u64 (d.a : Int))).setCell ⟨w.heap.size + 1 + 1, 1, none⟩ (.int .u64 (d.b : Int))).cell? ⟨w.heap.size + 1 + 1, 0, none⟩ = some (.int .u64 (d.a : Int)) := hbr.cell 0
 have e1 : ((w2.setCell ⟨w.heap.size + 1 + 1, 0, none⟩ (.int .u64 (d.a : Int))).setCell ⟨w.heap.size + 1 + 1, 1, none⟩ (.int .u64 (d.b : Int))).cell? ⟨w.heap.size + 1 + 1, 1, none⟩ = some (.int .u64 (d.b : Int)) := hbr.cell 1;exact bodyPost_ret (v := stv d) (by simp [results, Tryz.results21, go_sem, e0, e1]) rfl ⟨by rw [HD.o], (HB2.o.setCell (show w.heap.size <= (⟨w.heap.size + 1 + 1, 0, none⟩ : Addr).block by dsimp only; omega) _).setCell (show w.heap.size <= (⟨w.heap.size + 1 + 1, 1, none⟩ : Addr).block by dsimp only; omega) _⟩
end Go.Proofs.YtfmmhjphopikgaaGreatDoor
