/- Part of the proofs that laws of censuslaw24 return true for every input, where the tables that the rows list are laid. Texts: Fw, Fp, ArgB, ArgT. -/
import Derived.Test.YtkaojolofaanfaaGreatDoorYA43
import Derived.Test.YtkaojolofaanfaaGreatDoorYA1
import Derived.BigRegion
import Derived.Deep.RegionHeld3
import Derived.Test.YtkaojolofaanfaaGreatDoorRows
import Derived.Test.YtkaojolofaanfaaGreatDoorYA4
import Derived.ProofKit
import Derived.LaidMore
import Derived.LaidSub
import Derived.OpenShut
import Derived.Stop.Joined
import Derived.Deep.Slices
import Derived.Deep.Fields
import Derived.Lib.SmallJoins
import Derived.Lib.LaidTab
import Derived.Lay
import Derived.Test.YtkaojolofaanfaaGreatDoorYA3
set_option maxHeartbeats 8000000
set_option maxRecDepth 100000
set_option linter.unusedSimpArgs false
set_option linter.unusedVariables false
namespace Go.Proofs.YtkaojolofaanfaaGreatDoor
open Go.RowKit Cen
def zdg : List Cl := [[1, 2], [-1, 3]]
theorem zkw : Gdt 3 zdg [1, 2, 3] := ⟨by decide, by decide, fun c hc => by
 simp only [zdg, List.mem_cons, List.not_mem_nil, or_false] at hc
 rcases hc with rfl | rfl <;> decide, by decide +kernel⟩
theorem zs0 : evL (St.mem ⟨2, 0⟩) zdg = true := by decide +kernel
theorem zsz : evL (St.mem ⟨1, 0⟩) zdg = false := by decide +kernel
theorem zqp : evL (St.mem ⟨5, 0⟩) zdg = true := by decide +kernel
def zww (w : World) (e : Ending) (w' : World) : Prop := ∃ a cap, e = .returned (.agg #[.int .i64 3, .slice a 2 cap]) /\ LsCells w' a zdg /\ Below w.heap.size w w'
theorem zhz (w : World) : Calls Tryz.prog 39 #[] w (zww w) := by
 obtain ⟨W, hW⟩ : ∃ W, W = (((w.alloc (.cells #[.int .i64 3, .slice (some ⟨w.heap.size + 1 + 1 + 1, 0, none⟩) 2 2] 39)).alloc (.cells #[.int .i64 1, .int .i64 2] 3)).alloc (.cells #[.int .i64 (-1), .int .i64 3] 3)).alloc
  (.cells #[.slice (some ⟨w.heap.size + 1, 0, none⟩) 2 2, .slice (some ⟨w.heap.size + 1 + 1, 0, none⟩) 2 2] 40) := ⟨_, rfl⟩
 have b0 : Blk W w.heap.size #[.int .i64 3, .slice (some ⟨w.heap.size + 1 + 1 + 1, 0, none⟩) 2 2] 39 := by rw [hW]; exact (((Blk.new w _ _).alloc _).alloc _).alloc _
 have b1 : Blk W (w.heap.size + 1) #[.int .i64 1, .int .i64 2] 3 := by rw [hW]; exact ((Blk.new' _ (by simp) _ _).alloc _).alloc _
 have b2 : Blk W (w.heap.size + 1 + 1) #[.int .i64 (-1), .int .i64 3] 3 := by rw [hW]; exact (Blk.new' _ (by simp) _ _).alloc _
 have b3 : Blk W (w.heap.size + 1 + 1 + 1) #[.slice (some ⟨w.heap.size + 1, 0, none⟩) 2 2, .slice (some ⟨w.heap.size + 1 + 1, 0, none⟩) 2 2] 40 := by rw [hW]; exact Blk.new' _ (by simp) _ _
 have hb : Below w.heap.size w W := by rw [hW]; exact ((((Below.refl _ _).alloc (Nat.le_refl _) _).alloc (by simp) _).alloc (by simp; omega) _).alloc (by simp; omega) _
 have hl : LsCells W (some ⟨w.heap.size + 1 + 1 + 1, 0, none⟩) zdg := by
  intro i hi
  have : i = 0 \/ i = 1 := by simp [zdg] at hi; omega
  rcases this with rfl | rfl
  ·refine ⟨_, _, _, _, rfl, b3.cell 0, fun j hj => ?_⟩
   have : j = 0 \/ j = 1 := by simp [zdg] at hj; omega
   rcases this with rfl | rfl
   ·exact ⟨_, _, rfl, b1.cell 0⟩
   ·exact ⟨_, _, rfl, b1.cell 1⟩
  ·refine ⟨_, _, _, _, rfl, b3.cell 1, fun j hj => ?_⟩
   have : j = 0 \/ j = 1 := by simp [zdg] at hj; omega
   rcases this with rfl | rfl
   ·exact ⟨_, _, rfl, b2.cell 0⟩
   ·exact ⟨_, _, rfl, b2.cell 1⟩
 have c0 := b0.cell 0;have c1 := b0.cell 1;go_enter Tryz.func39, Tryz.ntmps39;go_wp2;rw [<- hW];exact bodyPost_ret (v := .agg #[.int .i64 3, .slice (some ⟨w.heap.size + 1 + 1 + 1, 0, none⟩) 2 2]) (by simp [results, Tryz.results39, go_sem, c0, c1]) rfl ⟨_, _, rfl, hl, hb⟩
def zw2 (w : World) (e : Ending) (w' : World) : Prop :=
 ∃ (na : Option Addr) (nc : Nat) (ca : Option Addr) (cc : Nat) (N : List Nd) (C : List Clm), e = .returned (.tuple #[.agg #[.int .i64 3, .slice na N.length nc], .slice ca N.length cc, .int .i64 0]) /\ CRes 3 zdg [1, 2, 3] false true w.heap.size w' na nc ca cc N C /\ Below w.heap.size w w'
theorem zws (W : World) (ta : Option Addr) (tc : Nat) (oa : Option Addr) (oc : Nat) (h1 : LsCells W ta zdg) (h2 : IntCells W oa [1, 2, 3]) (h3 : Tab W) :
 Calls Tryz.prog 27 #[.agg #[.int .i64 3, .slice ta 2 tc], .agg #[.slice oa 3 oc, .bool false, .bool true]] W (zw2 W) := zhd 3 ta tc zdg oa oc [1, 2, 3] false true W zkw h1 h2 h3
theorem zsj {B : Nat} {W : World} {na : Option Addr} {nc : Nat} {ca : Option Addr} {cc : Nat} {N : List Nd} {C : List Clm} (h : CRes 3 zdg [1, 2, 3] false true B W na nc ca cc N C) (ta : Option Addr) (tc : Nat) (hx : LsCells W ta zdg) :
 Calls Tryz.prog 33 #[.agg #[.int .i64 3, .slice ta 2 tc], .agg #[.int .i64 3, .slice na N.length nc], .slice ca N.length cc] W fun e w' => e = .returned (.tuple #[.int .i64 0, .int .i64 0]) /\ Below W.heap.size W w' := h.verify zkw tc hx
theorem zux {B : Nat} {W : World} {na : Option Addr} {nc : Nat} {ca : Option Addr} {cc : Nat} {N : List Nd} {C : List Clm} (h : CRes 3 zdg [1, 2, 3] false true B W na nc ca cc N C) :
 Calls Tryz.prog 28 #[.agg #[.int .i64 3, .slice na N.length nc]] W fun e w' => e = .returned (.bool true) /\ Below W.heap.size W w' := h.valid zkw
theorem zn4 {B : Nat} {W : World} {na : Option Addr} {nc : Nat} {ca : Option Addr} {cc : Nat} {N : List Nd} {C : List Clm} (h : CRes 3 zdg [1, 2, 3] false true B W na nc ca cc N C) (k : Nat) (hk : k < U64) :
 Calls Tryz.prog 31 #[.agg #[.int .i64 3, .slice na N.length nc], .agg #[.int .u64 (k : Int), .int .u64 0]] W fun e w' => e = .returned (.bool (evL (St.mem ⟨k, 0⟩) zdg)) /\ Below W.heap.size W w' := h.eval zkw ⟨k, 0⟩ ⟨hk, by show 0 < U64; unfold U64; omega⟩
theorem zxm {B : Nat} {W : World} {na : Option Addr} {nc : Nat} {ca : Option Addr} {cc : Nat} {N : List Nd} {C : List Clm} (h : CRes 3 zdg [1, 2, 3] false true B W na nc ca cc N C) :
 Calls Tryz.prog 31 #[.agg #[.int .i64 3, .slice na N.length nc], .agg #[.int .u64 2, .int .u64 0]] W fun e w' => e = .returned (.bool true) /\ Below W.heap.size W w' := by
 have := zn4 h 2 (by unfold U64; omega)
 rwa [zs0] at this
theorem zxl {B : Nat} {W : World} {na : Option Addr} {nc : Nat} {ca : Option Addr} {cc : Nat} {N : List Nd} {C : List Clm} (h : CRes 3 zdg [1, 2, 3] false true B W na nc ca cc N C) :
 Calls Tryz.prog 31 #[.agg #[.int .i64 3, .slice na N.length nc], .agg #[.int .u64 1, .int .u64 0]] W fun e w' => e = .returned (.bool false) /\ Below W.heap.size W w' := by
 have := zn4 h 1 (by unfold U64; omega)
 rwa [zsz] at this
theorem zwt {B : Nat} {W : World} {na : Option Addr} {nc : Nat} {ca : Option Addr} {cc : Nat} {N : List Nd} {C : List Clm} (h : CRes 3 zdg [1, 2, 3] false true B W na nc ca cc N C) :
 Calls Tryz.prog 31 #[.agg #[.int .i64 3, .slice na N.length nc], .agg #[.int .u64 5, .int .u64 0]] W fun e w' => e = .returned (.bool true) /\ Below W.heap.size W w' := by
 have := zn4 h 5 (by unfold U64; omega)
 rwa [zqp] at this
theorem zxc {p q r : Prop} (h : p /\ q /\ r) : r := h.2.2
theorem zjc (w : World) (htab : Tab w) : Calls Tryz.prog 24 #[] w fun e w' => e = .returned (.bool true) /\ Below w.heap.size w w' := by
 have HT := lh htab;clear htab;go_enter Tryz.func24, Tryz.ntmps24;go_wp2_with fail;refine (zhz _).mono ?_;rintro e w1 ⟨ta, tc, rfl, hx, hb1⟩
 obtain ⟨ob, hob⟩ : ∃ ob, ob = w1.heap.size := ⟨_, rfl⟩
 obtain ⟨w2, hw2⟩ : ∃ w2, w2 = w1.alloc (.cells #[.int .i64 1, .int .i64 2, .int .i64 3] 3) := ⟨_, rfl⟩
 have hb2 : Below w1.heap.size w1 w2 := by rw [hw2]; exact (Below.refl _ _).alloc (Nat.le_refl _) _
 have q2 : Blk w2 ob #[.int .i64 1, .int .i64 2, .int .i64 3] 3 := by rw [hw2, hob]; exact Blk.new _ _ _
 have ho2 : IntCells w2 (some ⟨ob, 0, none⟩) [1, 2, 3] := by
  intro j hj
  have : j = 0 \/ j = 1 \/ j = 2 := by simp at hj; omega
  rcases this with rfl | rfl | rfl
  ·exact ⟨_, _, rfl, q2.cell 0⟩
  ·exact ⟨_, _, rfl, q2.cell 1⟩
  ·exact ⟨_, _, rfl, q2.cell 2⟩
 have hbw2 := hb1.trans (hb2.mono hb1.size);have HCM := lh (zws w2 ta tc (some ⟨ob, 0, none⟩) 3 (hx.keep hb2) ho2 (HT.out.keep hbw2));have HBW2 := lh hbw2;clear hx hb1 hb2 q2 ho2 hbw2;go_wp2_with fail;rw [<- hob, <- hw2];refine HCM.out.mono ?_;rintro e w3 ⟨na, nc, ca, cc, N, C, rfl, hr, hb3⟩;have hbw3 := HBW2.out.trans (hb3.mono HBW2.out.size)
 obtain ⟨nb, hnb⟩ : ∃ nb, nb = w3.heap.size := ⟨_, rfl⟩
 obtain ⟨w4, hw4⟩ : ∃ w4, w4 = w3.alloc (.cells #[.int .i64 3, .slice na N.length nc] 24) := ⟨_, rfl⟩
 have hb4 : Below w3.heap.size w3 w4 := by rw [hw4]; exact (Below.refl _ _).alloc (Nat.le_refl _) _
 have q4 : Blk w4 nb #[.int .i64 3, .slice na N.length nc] 24 := by rw [hw4, hnb]; exact Blk.new _ _ _
 have HR := lh (hr.keep hb4);have HBW4 := lh (hbw3.trans (hb4.mono hbw3.size));have Q4 := lh q4;clear hr hb3 hbw3 hb4 hob hw2;go_wp2_with fail;rw [<- hnb, <- hw4];clear hw4 hnb;have c0 := q4.cell 0;have c1 := q4.cell 1;have z4 := q4.lt;clear q4;go_wp2_with fail;refine (zux HR.out).mono ?_;rintro e w5 ⟨rfl, hb5⟩;have HB5 := lh hb5;have q5 := Q4.out.later hb5;have d0 := q5.cell 0;have d1 := q5.cell 1;have z5 := q5.lt;have HR5 := lh (HR.out.keep hb5);clear hb5 q5 c0 c1 z4;go_wp2_with fail
 have HKS : Hid (∀ w' : World, Below w5.heap.size w5 w' -> w'.cell? ⟨nb, 0, none⟩ = some (.int .i64 3) /\ w'.cell? ⟨nb, 1, none⟩ = some (.slice na N.length nc) /\ Below w5.heap.size w5 w') := lh fun w' hb => ⟨zaa hb d0, zaa hb d1, hb⟩
 refine wp_region_held_drew (S := (fun w' => w'.cell? ⟨nb, 0, none⟩ = some (.int .i64 3) /\ w'.cell? ⟨nb, 1, none⟩ = some (.slice na N.length nc) /\ Below w5.heap.size w5 w')) (by kernel_rfl) ?_ (fun hHeld => ?_)
 ·try dsimp only
  exact HKS.out _ (Below.refl _ _).drew
 refine tkV 1 23 rfl rfl ?_; try simp only [tkS]
 refine tkV 2 24 rfl rfl ?_; try simp only [tkS]
 refine tkR 0 (.cons rfl (fun K hK => ?_) .nil);go_simp;go_at_call 39;refine (zhz _).mono ?_;rintro e w6 ⟨tb, td, rfl, hx6, hb6⟩;have hw6 : Below w5.heap.size w5 w6 := Below.trans (zxc (by assumption)) (hb6.mono (Below.size (B := w5.heap.size) (w := w5) (zxc (by assumption))));go_wp2_with fail;refine hK.out _ _ ?_ (fun hHeld => ?_)
 ·try dsimp only
  exact HKS.out _ hw6
 clear hK K
 try simp only [tkS]
 refine tkR 3 (.cons rfl (fun K hK => ?_) .nil);go_simp;go_at_call 33;refine (zsj (HR5.out.keep hw6) tb td hx6).mono ?_;rintro e w7 ⟨rfl, hb7⟩;have hw7 : Below w5.heap.size w5 w7 := hw6.trans (hb7.mono hw6.size);go_wp2_with fail;refine hK.out _ _ ?_ (fun hHeld => ?_)
 ·try dsimp only
  exact HKS.out _ hw7
 clear hK K
 try simp only [tkS]
 refine tkV 4 21 rfl rfl ?_; try simp only [tkS]
 refine tkV 5 26 rfl rfl ?_; try simp only [tkS]
 refine tkV 6 27 rfl rfl ?_; try simp only [tkS]
 refine tkV 7 4 rfl rfl ?_; try simp only [tkS]
 refine tkV 8 5 rfl rfl ?_; try simp only [tkS]
 refine wpAnyH_done (by kernel_rfl) ?_ _;have q7 := Q4.out.later (HB5.out.trans (hw7.mono HB5.out.size));have g0 := q7.cell 0;have g1 := q7.cell 1;have gz := q7.lt;have HR7 := lh (HR5.out.keep hw7);have HB7 := lh hw7;have HW7 := lh (HBW4.out.trans ((HB5.out.trans (hw7.mono HB5.out.size)).mono HBW4.out.size));clear q7 hw6 hw7 hb6 hb7 hx6 d0 d1 z5;go_wp2_with fail;refine (zxm HR7.out).mono ?_;rintro e w8 ⟨rfl, hb8⟩;have HR8 := lh (HR7.out.keep hb8);have HW8 := lh (HW7.out.trans (hb8.mono HW7.out.size));have h0 := zaa hb8 g0;have h1 := zaa hb8 g1;have hz : nb < w8.heap.size := Nat.lt_of_lt_of_le gz hb8.size
 clear hb8 g0 g1 gz;go_wp2_with fail;refine (zxl HR8.out).mono ?_;rintro e w9 ⟨rfl, hb9⟩;have HR9 := lh (HR8.out.keep hb9);have HW9 := lh (HW8.out.trans (hb9.mono HW8.out.size));have k0 := zaa hb9 h0;have k1 := zaa hb9 h1;have kz : nb < w9.heap.size := Nat.lt_of_lt_of_le hz hb9.size;clear hb9 h0 h1 hz;go_wp2_with fail;refine (zwt HR9.out).mono ?_;rintro e wA ⟨rfl, hbA⟩;have HWA := lh (HW9.out.trans (hbA.mono HW9.out.size));clear hbA k0 k1 kz;go_wp2;go_ret;exact ⟨rfl, HWA.out⟩
theorem zpy (z : Int) (a : Option Addr) (cap : Nat) (t : List Cl) (oa : Option Addr) (oc : Nat) (order : List Int) (o1 o2 : Bool) (w : World) (hx : LsCells w a t) (ho : IntCells w oa order) (htab : Tab w) :
 Calls Tryz.prog 6 #[.agg #[.int .i64 z, .slice a t.length cap], .agg #[.slice oa order.length oc, .bool o1, .bool o2]] w fun e w' => e = .returned (.bool true) /\ Below w.heap.size w w' := by
 obtain ⟨w0, hw0⟩ : ∃ w0, w0 = (w.alloc (.cells #[.int .i64 z, .slice a t.length cap] 39)).alloc (.cells #[.slice oa order.length oc, .bool o1, .bool o2] 42) := ⟨_, rfl⟩
 have hb0 : Below w.heap.size w w0 := by rw [hw0]; exact ((Below.refl _ _).alloc (Nat.le_refl _) _).alloc (by simp) _
 have q0 : Blk w0 w.heap.size #[.int .i64 z, .slice a t.length cap] 39 := by rw [hw0]; exact (Blk.new w _ _).alloc _
 have q1 : Blk w0 (w.heap.size + 1) #[.slice oa order.length oc, .bool o1, .bool o2] 42 := by rw [hw0]; exact Blk.new' _ (by simp) _ _
 have HB0 := lh hb0;have Q0 := lh q0;have Q1 := lh q1;have HX := lh (hx.keep hb0);have HO := lh (ho.keep hb0);have HT := lh (htab.keep hb0);have HL := lh (fun W (hb : Below w0.heap.size w0 W) => zip z a cap t W (HX.out.keep hb));have HWK := lh (fun W (hb : Below w0.heap.size w0 W) => zjc W (HT.out.keep hb));clear hx ho htab hb0 q0 q1
 cases hl : zch z t with
 | false =>
   rw [hl] at HL;clear hl;go_enter Tryz.func6, Tryz.ntmps6;go_wp2_with fail;rw [<- hw0];clear hw0;refine (HL.out _ (Below.refl _ _)).mono ?_;rintro e w1 ⟨rfl, hb1⟩;have HB1 := lh hb1;clear hb1;go_wp2_with fail;refine (HWK.out _ HB1.out).mono ?_;rintro e w2 ⟨rfl, hb2⟩;have HB2 := lh (HB0.out.trans ((HB1.out.trans (hb2.mono HB1.out.size)).mono HB0.out.size));clear hb2;go_wp2;go_ret;exact ⟨rfl, HB2.out⟩
 | true =>
   rw [hl] at HL
   have htl : t.length <= 40 := by
    unfold zch at hl;simp only [Bool.and_eq_true, decide_eq_true_eq] at hl;exact hl.2.1
   have HG := lh (fun W (hb : Below w0.heap.size w0 W) => zoo z a cap t oa oc order o1 o2 W (by omega) (HX.out.keep hb) (HO.out.keep hb))
   cases hc : decide (za0 z t order = 0) with
   | false =>
     rw [hc] at HG;clear hl hc;go_enter Tryz.func6, Tryz.ntmps6;go_wp2_with fail;rw [<- hw0];clear hw0;refine (HL.out _ (Below.refl _ _)).mono ?_;rintro e w1 ⟨rfl, hb1⟩;have HB1 := lh hb1;have p0 := Q0.out.later hb1;have p1 := Q1.out.later hb1;have c0 := p0.cell 0;have c1 := p0.cell 1;have d0 := p1.cell 0;have d1 := p1.cell 1;have d2 := p1.cell 2;have z0 := p0.lt;have z1 := p1.lt;clear hb1 p0 p1;go_wp2_with fail;refine (HG.out _ HB1.out).mono ?_;rintro e w2 ⟨rfl, hb2⟩;have HB2 := lh (HB1.out.trans (hb2.mono HB1.out.size));clear hb2 c0 c1 d0 d1 d2 z0 z1;go_wp2_with fail;refine (HWK.out _ HB2.out).mono ?_
     rintro e w3 ⟨rfl, hb3⟩;have HB3 := lh (HB0.out.trans ((HB2.out.trans (hb3.mono HB2.out.size)).mono HB0.out.size));clear hb3;go_wp2;go_ret;exact ⟨rfl, HB3.out⟩
   | true =>
     rw [hc] at HG;obtain ⟨n, rfl, hg⟩ := Gdt.of hl (of_decide_eq_true hc);have HGD := lh hg;have HCP := lh (fun W (hb : Below w0.heap.size w0 W) => zhd n a cap t oa oc order o1 o2 W hg (HX.out.keep hb) (HO.out.keep hb) (HT.out.keep hb));clear hl hc htl hg;go_enter Tryz.func6, Tryz.ntmps6;go_wp2_with fail;rw [<- hw0];clear hw0;refine (HL.out _ (Below.refl _ _)).mono ?_;rintro e w1 ⟨rfl, hb1⟩;have HB1 := lh hb1;have p0 := Q0.out.later hb1;have p1 := Q1.out.later hb1;have c0 := p0.cell 0;have c1 := p0.cell 1;have d0 := p1.cell 0;have d1 := p1.cell 1;have d2 := p1.cell 2;have z0 := p0.lt;have z1 := p1.lt
     clear hb1 p0 p1;go_wp2_with fail;refine (HG.out _ HB1.out).mono ?_;rintro e w2 ⟨rfl, hb2⟩;have HB2 := lh (HB1.out.trans (hb2.mono HB1.out.size));have p0 := Q0.out.later HB2.out;have p1 := Q1.out.later HB2.out;have c0 := p0.cell 0;have c1 := p0.cell 1;have d0 := p1.cell 0;have d1 := p1.cell 1;have d2 := p1.cell 2;have z0 := p0.lt;have z1 := p1.lt;clear hb2 p0 p1;go_wp2_with fail;refine (HCP.out _ HB2.out).mono ?_;rintro e w3 ⟨na, nc, ca, cc, N, C, rfl, hr, hb3⟩;have hbw3 := HB2.out.trans (hb3.mono HB2.out.size)
     obtain ⟨nb, hnb⟩ : ∃ nb, nb = w3.heap.size := ⟨_, rfl⟩
     obtain ⟨w4, hw4⟩ : ∃ w4, w4 = w3.alloc (.cells #[.int .i64 (n : Int), .slice na N.length nc] 24) := ⟨_, rfl⟩
     have hb4 : Below w3.heap.size w3 w4 := by rw [hw4]; exact (Below.refl _ _).alloc (Nat.le_refl _) _
     have q4 : Blk w4 nb #[.int .i64 (n : Int), .slice na N.length nc] 24 := by rw [hw4, hnb]; exact Blk.new _ _ _
     have HR := lh (hr.keep hb4);have HB4 := lh (hbw3.trans (hb4.mono hbw3.size));have Q4 := lh q4;have p0 := Q0.out.later hbw3;clear c0 c1 d0 d1 d2 z0 z1;have c0 := p0.cell 0;have c1 := p0.cell 1;have z0 := p0.lt;clear hr hb3 hbw3 hb4 q4 p0;go_wp2_with fail;rw [<- hnb, <- hw4];clear hw4 hnb c0 c1 z0;refine (HR.out.verify HGD.out cap (HX.out.keep HB4.out)).mono ?_;rintro e w5 ⟨rfl, hb5⟩;have HB5 := lh (HB4.out.trans (hb5.mono HB4.out.size));clear hb5;go_wp2_with fail;refine (HWK.out _ HB5.out).mono ?_;rintro e wz ⟨rfl, hbz⟩;have HBZ := lh (HB0.out.trans (((HB5.out).trans (hbz.mono (HB5.out).size)).mono HB0.out.size))
     clear hbz;go_wp2;go_ret;exact ⟨rfl, HBZ.out⟩
end Go.Proofs.YtkaojolofaanfaaGreatDoor
namespace Go.Proofs.YtkaojolofaanfaaGreatDoor
open Go.Joins Go.ChangeShapes Go.WideShapes Go.ChangeAt Go.Deep Go.RowKit Cen
theorem zwi : ownKnob Tryz.prog.godebug = none := by kernel_rfl
theorem zdp : laidOutB Tryz.prog = true := by kernel_rfl
def laidOf : List (String × DataW Unit) := [("math/bits.deBruijn32tab", Rows.laid_math_bits_deBruijn32tab), ("math/bits.deBruijn64tab", Rows.laid_math_bits_deBruijn64tab), ("internal/strconv.uint64pow10", Rows.laid_internal_strconv_uint64pow10)]
theorem zgk : (laidOf.all fun x => x.2.handleName?.isNone) = true := by kernel_rfl
theorem zfh {W : World} (h : laidMetH Tryz.prog laidOf W) : Tab W := by
 have h2 := h.filter (fun x => x.1 == "internal/strconv.uint64pow10")
 have e : (laidOf.filter fun x => x.1 == "internal/strconv.uint64pow10") = ("internal/strconv.uint64pow10", Lib.tabData .u64 Lib.pow10Tab) :: [] := by kernel_rfl
 rw [e, MakeChecks.laidMetH_plain _ _ _ (by kernel_rfl)] at h2;exact Lib.tabIs_of_head (g := 1) (by kernel_rfl) (by kernel_rfl) Tryz.underlying271 Tryz.underlying52 (by kernel_rfl) (by kernel_rfl) h2
section
variable {H : Type} {enc : TypeId × Value -> H} {P : Program} {w : World} {base : Nat} {spare : Nat -> Bool} {held : Bool}
theorem zd2 {f : Func} {s : ChangeSpec} {apart fresh handsOn again : Bool} {W W' : World} {args : Array Value} {v : Value} {ds gs : List (DataW H)} {before pa pv : List MemPlace}
 (hW : DataW.Whole enc P f.params.toList s.vars apart W args.toList ds gs before)
 (hres : ∀ (b : Nat) (sp : Nat -> Bool) (hd : Bool), DataW.TrodAll enc P W' b sp hd f.resultTypes.toList (v.resultList f.resultTypes.size) (s.fn H (ds ++ gs)).results [])
 (hargs : ∀ sp : Nat -> Bool, (∀ p ∈ before, sp p.block = true) -> DataW.TrodAll enc P W' 0 sp true f.params.toList args.toList (s.fn H (ds ++ gs)).args pa)
 (hvars : ∀ sp : Nat -> Bool, (∀ p ∈ before, sp p.block = true) -> DataW.TrodVars enc P W' sp s.vars (s.fn H (ds ++ gs)).vars pv)
 (hps : before = pa ++ pv) (hb : Below W.heap.size W W')
 (hok : ∀ (j : Nat) (t : TypeId) (r : Value), f.resultTypes[j]? = some t -> (v.resultList f.resultTypes.size)[j]? = some r -> Value.okWide P W' .any 0 t r) :
 s.post enc P f apart fresh handsOn again W args v W' := by
 have hlt : ∀ p ∈ before, p.block < W.heap.size := fun p hp => hW.lt p hp
 have hold : ∀ p ∈ before, (fun b => decide (b < W.heap.size)) p.block = true := fun p hp => by simpa using hlt p hp
 refine ⟨ds, gs, before, [], pa, pv, hW, hres _ _ _, hargs _ hold, hvars _ hold, World.keptBut_mono (fun p hp => ⟨hp, ?_⟩) (hb.frame (· ∈ before)), fun _ => ?_⟩
 ·rw [hps, List.mem_append] at hp;exact Or.inr hp
 ·obtain ⟨_, _, _, _, _, hz, hn⟩ := hW;refine ⟨hok, _, _, ([] ++ pa) ++ pv, ⟨[] ++ pa, pv, trodAll_append (hargs _ (fun _ _ => rfl)) (hres _ _ _), hvars _ (fun _ _ => rfl), rfl, ?_, ?_⟩, ?_⟩
  ·intro b off hp
   have hin : MemPlace.cell b off ∈ before := by rw [hps]; simpa using hp
   rw [hb.frozen (hlt _ hin)];exact hz b off hin
  ·intro ha;have := hn ha;rw [hps] at this
   simpa using this
  ·intro p hp _;rw [hps]
   simpa using hp
end
theorem zri {α : Type} [Inhabited α] {Q : Nat -> α -> Prop} : ∀ (n : Nat), (∀ i, i < n -> ∃ x, Q i x) -> ∃ l : List α, l.length = n /\ ∀ i, i < n -> Q i (l.getD i default)
 | 0, _ => ⟨[], rfl, fun i h => absurd h (Nat.not_lt_zero _)⟩
 | n + 1, h => by
   obtain ⟨l, hl, hq⟩ := zri n fun i hi => h i (by omega)
   obtain ⟨x, hx⟩ := h n (by omega);refine ⟨l ++ [x], by simp [hl], fun i hi => ?_⟩
   by_cases e : i < n
   ·have : (l ++ [x]).getD i default = l.getD i default := by simp [List.getD_eq_getElem?_getD, List.getElem?_append_left (show i < l.length by omega)]
    rw [this]; exact hq i e
   ·have e2 : i = n := by omega
    subst e2
    have : (l ++ [x]).getD i default = x := by simp [List.getD_eq_getElem?_getD, <- hl]
    rw [this]; exact hx
theorem zqm {w : World} {a : Addr} {n : Nat} {v : Value} (h : w.cell? (a.add n) = some v) : w.cell? ⟨a.block, a.off + n, none⟩ = some v := by
 by_cases e : n = 0
 ·subst e;have h2 : w.cell? a = some v := h;obtain ⟨b, o, s⟩ := a
  cases s with
  | none => exact h2
  | some k =>
    exfalso
    unfold World.cell? at h2
    split at h2 <;> simp at h2
 ·simpa [Addr.add, e] using h
theorem zsa {w : World} {a : Addr} {v : Value} (h : w.cell? (a.add 0) = some v) : a = ⟨a.block, a.off, none⟩ := by
 obtain ⟨b, o, s⟩ := a
 cases s with
 | none => rfl
 | some k =>
   exfalso
   unfold World.cell? Addr.add at h
   split at h <;> simp at h
section
variable {H : Type} {enc : TypeId × Value -> H} {W : World} {base : Nat} {spare : Nat -> Bool} {held : Bool}
theorem zrw {fuel : Nat} {v : Value} {x : DataW H × List MemPlace} (h : DataW.trod enc Tryz.prog W base spare held fuel 40 [v] = some x) :
 ∃ (a : Option Addr) (l : List Int) (cap : Nat), v = .slice a l.length cap /\ l.length <= 9223372036854775807 /\ IntCells W a l /\ ∀ z ∈ l, (Lit.int .i64 z).wf = true := by
 rcases open_ints Tryz.underlying40 Tryz.underlying3 (by kernel_rfl) h with ⟨hcs, _⟩ | ⟨a, len, cap, zs, hcs, _, hl, hm, hz, _, hc, hw⟩
 ·simp only [List.cons.injEq, and_true] at hcs;subst hcs;exact ⟨none, [], 0, rfl, by simp, IntCells.nil _ _, by simp⟩
 ·simp only [List.cons.injEq, and_true] at hcs;subst hcs
  have hlz : len <= zs.length := by rw [hz]; split <;> omega
  have hlt : (zs.take len).length = len := by simp; omega
  refine ⟨some a, zs.take len, cap, by rw [hlt], ?_, fun i hi => ?_, fun z hzz => hw z (List.mem_of_mem_take hzz)⟩
  ·rw [hlt];have : maxLen = 9223372036854775807 := rfl;omega
  ·rw [hlt] at hi
   have e : (zs.take len).getD i 0 = zs.getD i 0 := by simp [List.getD_eq_getElem?_getD, hi]
   have ea := zsa (hc 0 (by omega));exact ⟨a.block, a.off, by rw [<- ea], by rw [e]; exact zqm (hc i (by omega))⟩
end
section
variable {H : Type} {enc : TypeId × Value -> H} {W : World} {base : Nat} {spare : Nat -> Bool} {held : Bool}
theorem zt6 {fuel : Nat} {v : Value} {x : DataW H × List MemPlace} (h : DataW.trod enc Tryz.prog W base spare held fuel 37 [v] = some x) :
 ∃ (a : Option Addr) (l : List Cl) (cap : Nat), v = .slice a l.length cap /\ l.length <= 9223372036854775807 /\ LsCells W a l := by
 rcases open_slice Tryz.underlying37 h with ⟨hcs, _⟩ | ⟨a, len, cap, m, n, D, Pl, hcs, _, hl, hm, hmm, _, hi⟩
 ·simp only [List.cons.injEq, and_true] at hcs;subst hcs;exact ⟨none, [], 0, rfl, by simp, fun i h => absurd h (Nat.not_lt_zero _)⟩
 ·simp only [List.cons.injEq, and_true] at hcs;subst hcs
  have hlm : len <= m := by rw [hmm]; split <;> omega
  clear hmm
  have hC : Tryz.prog.cellsOf 40 = 1 := by kernel_rfl
  have each : ∀ i, i < len -> ∃ x : Cl, ∃ ai ci, W.cell? (a.add i) = some (.slice ai x.length ci) /\ IntCells W ai x := by
   intro i hil;obtain ⟨cs', hc, ht'⟩ := hi i (by omega);rw [hC, Nat.mul_one] at hc;obtain ⟨_, hcl, hat⟩ := World.cells?_some hc
   obtain ⟨v0, rfl⟩ : ∃ v0, cs' = [v0] := by
    match cs', hcl with
    | [v0], _ => exact ⟨v0, rfl⟩
   have hcell := hat 0 (by omega);rw [Go.Deep.add_add, Nat.add_zero] at hcell;obtain ⟨ai, li, ci, e2, _, h3, _⟩ := zrw ht';subst e2;exact ⟨li, ai, ci, hcell, h3⟩
  obtain ⟨l, hll, hq⟩ := zri len each;refine ⟨some a, l, cap, by rw [hll], ?_, fun i hil => ?_⟩
  ·have : maxLen = 9223372036854775807 := rfl;omega
  ·rw [hll] at hil;obtain ⟨ai, ci, h1, h2⟩ := hq i hil;have ea := zsa (hq 0 (by omega)).choose_spec.choose_spec.1;exact ⟨a.block, a.off, ai, ci, by rw [<- ea], zqm h1, h2⟩
theorem zfg {r : Reach} {b0 : Nat} {v : Value} {d : DataW H} {p : List MemPlace} (hv : Value.okWide Tryz.prog W r b0 39 v) (h : DataW.Trod enc Tryz.prog W base spare held 39 v d p) :
 ∃ (n : Int) (a : Option Addr) (l : List Cl) (cap : Nat), v = .agg #[.int .i64 n, .slice a l.length cap] /\ l.length <= 9223372036854775807 /\ LsCells W a l /\ (Lit.int .i64 n).wf = true := by
 obtain ⟨v0, v1, y0, y1, n, rfl, _, _, t0, t1⟩ := open_agg2 Tryz.underlying39 (by kernel_rfl) (by kernel_rfl) hv h;obtain ⟨z0, e0, _, w0⟩ := DataW.trod_int Tryz.underlying3 t0;obtain ⟨a, l, cap, e1, h1, h2⟩ := zt6 t1;simp only [List.cons.injEq, and_true] at e0;subst e0; subst e1;exact ⟨z0, a, l, cap, rfl, h1, h2, w0⟩
theorem ziz {r : Reach} {b0 : Nat} {v : Value} {d : DataW H} {p : List MemPlace} (hv : Value.okWide Tryz.prog W r b0 42 v) (h : DataW.Trod enc Tryz.prog W base spare held 42 v d p) :
 ∃ (a : Option Addr) (l : List Int) (cap : Nat) (o1 o2 : Bool), v = .agg #[.slice a l.length cap, .bool o1, .bool o2] /\ l.length <= 9223372036854775807 /\ IntCells W a l := by
 obtain ⟨v0, v1, v2, y0, y1, y2, n, rfl, _, _, t0, t1, t2⟩ := open_agg3 Tryz.underlying42 (by kernel_rfl) (by kernel_rfl) hv h;obtain ⟨a, l, cap, e0, h1, h2, _⟩ := zrw t0;obtain ⟨b1, e1, _⟩ := DataW.trod_bool Tryz.underlying4 t1;obtain ⟨b2, e2, _⟩ := DataW.trod_bool Tryz.underlying4 t2;simp only [List.cons.injEq, and_true] at e1 e2;subst e0; subst e1; subst e2;exact ⟨a, l, cap, b1, b2, rfl, h1, h2⟩
end
end Go.Proofs.YtkaojolofaanfaaGreatDoor
