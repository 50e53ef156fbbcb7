/- Part of the proofs that laws of censuslaw24 return true for every input, where the tables that the rows list are laid. Texts: Fr. -/
import Derived.Test.YtkaojolofaanfaaGreatDoorYA44
import Derived.BigRegion
import Derived.Test.YtkaojolofaanfaaGreatDoorYA1
set_option maxHeartbeats 8000000
set_option maxRecDepth 100000
set_option linter.unusedSimpArgs false
set_option linter.unusedVariables false
namespace Go.Proofs.YtkaojolofaanfaaGreatDoor
open Go.RowKit Cen
theorem zl5 (z : Int) (a : Option Addr) (cap : Nat) (t : List Cl) (oa : Option Addr) (oc : Nat) (order : List Int) (o1 o2 : Bool) (w : World) (hx : LsCells w a t) (ho : IntCells w oa order) (htab : Tab w) :
 Calls Tryz.prog 4 #[.agg #[.int .i64 z, .slice a t.length cap], .agg #[.slice oa order.length oc, .bool o1, .bool o2]] w fun e w' => e = .returned (.bool true) /\ Below w.heap.size w w' := by
 obtain ⟨w0, hw0⟩ : ∃ w0, w0 = (w.alloc (.cells #[.int .i64 z, .slice a t.length cap] 39)).alloc (.cells #[.slice oa order.length oc, .bool o1, .bool o2] 42) := ⟨_, rfl⟩
 have hb0 : Below w.heap.size w w0 := by rw [hw0]; exact ((Below.refl _ _).alloc (Nat.le_refl _) _).alloc (by simp) _
 have q0 : Blk w0 w.heap.size #[.int .i64 z, .slice a t.length cap] 39 := by rw [hw0]; exact (Blk.new w _ _).alloc _
 have q1 : Blk w0 (w.heap.size + 1) #[.slice oa order.length oc, .bool o1, .bool o2] 42 := by rw [hw0]; exact Blk.new' _ (by simp) _ _
 have HB0 := lh hb0;have Q0 := lh q0;have Q1 := lh q1;have HX := lh (hx.keep hb0);have HO := lh (ho.keep hb0);have HT := lh (htab.keep hb0);have HL := lh (fun W (hb : Below w0.heap.size w0 W) => zip z a cap t W (HX.out.keep hb));have HWK := lh (fun W (hb : Below w0.heap.size w0 W) => zjc W (HT.out.keep hb));clear hx ho htab hb0 q0 q1
 by_cases h60 : 60 < t.length
 ·have h60i : (60 : Int) < (t.length : Int) := by omega
  go_enter Tryz.func4, Tryz.ntmps4;go_wp2_with fail;rw [<- hw0];clear hw0;refine (HWK.out _ (Below.refl w0.heap.size w0)).mono ?_;rintro e wz ⟨rfl, hbz⟩;have HBZ := lh (HB0.out.trans ((((Below.refl w0.heap.size w0)).trans (hbz.mono ((Below.refl w0.heap.size w0)).size)).mono HB0.out.size));clear hbz;go_wp2;go_ret;exact ⟨rfl, HBZ.out⟩
 ·by_cases h200 : 200 < order.length
  ·have h60i : (t.length : Int) <= 60 := by omega
   have h200i : (200 : Int) < (order.length : Int) := by omega
   go_enter Tryz.func4, Tryz.ntmps4;go_wp2_with fail;rw [<- hw0];clear hw0;refine (HWK.out _ (Below.refl w0.heap.size w0)).mono ?_;rintro e wz ⟨rfl, hbz⟩;have HBZ := lh (HB0.out.trans ((((Below.refl w0.heap.size w0)).trans (hbz.mono ((Below.refl w0.heap.size w0)).size)).mono HB0.out.size));clear hbz;go_wp2;go_ret;exact ⟨rfl, HBZ.out⟩
  ·have h60i : (t.length : Int) <= 60 := by omega
   have h200i : (order.length : Int) <= 200 := by omega
   have HLE : Hid (t.length <= 60 /\ order.length <= 200) := ⟨by omega, by omega⟩
   have HCK := lh (fun W (hb : Below w0.heap.size w0 W) => zh0 z a cap t oa oc order W (by omega) (HX.out.keep hb) (HO.out.keep hb));clear h60 h200;go_enter Tryz.func4, Tryz.ntmps4;go_wp2_with fail;rw [<- hw0];clear hw0
   go_loopw [5] (fun i wr => ∃ k : Nat, k <= t.length /\ i = .int .i64 k /\ wr = w0 /\ ∀ j, j < k -> (t.getD j []).length <= 130) (fun i _ => t.length - (intOf i).toNat)
   case atStart => exact ⟨0, Nat.zero_le _, rfl, rfl, fun j h => absurd h (Nat.not_lt_zero _)⟩
   case round =>
    obtain ⟨k, hk, rfl, hwr, hno⟩ := hrel;have hwr2 := hwr.symm;subst hwr2;have HNO := lh hno;have c0 := Q0.out.cell 0;have c1 := Q0.out.cell 1;have d0 := Q1.out.cell 0;have d1 := Q1.out.cell 1;have d2 := Q1.out.cell 2;have z0 := Q0.out.lt;have z1 := Q1.out.lt;clear hno
    by_cases hlt : k < t.length
    ·obtain ⟨b1, off1, ai, ci, rfl, hc1, hi⟩ := HX.out k hlt
     have hki : (k : Int) < (t.length : Int) := by omega
     have HNX : Hid ((t.getD k []).length <= 130 -> ∀ j, j < k + 1 -> (t.getD j []).length <= 130) := fun he j hj => by
      by_cases e : j = k
      ·subst e; exact he
      ·exact HNO.out j (by omega)
     generalize t.getD k [] = c at hc1 hi HNX;clear hi
     by_cases h130 : 130 < c.length
     ·have h130i : (130 : Int) < (c.length : Int) := by omega
      go_wp2_with fail;refine (HWK.out _ (Below.refl w0.heap.size w0)).mono ?_;rintro e wz ⟨rfl, hbz⟩;have HBZ := lh (HB0.out.trans ((((Below.refl w0.heap.size w0)).trans (hbz.mono ((Below.refl w0.heap.size w0)).size)).mono HB0.out.size));clear hbz;go_wp2;go_ret;exact ⟨rfl, HBZ.out⟩
     ·have h130i : (c.length : Int) <= 130 := by omega
      have HNN := lh (HNX.out (by omega));go_wp2;go_roundw
      case rel => exact ⟨k + 1, by omega, by go_num, (by first | rfl | trivial), HNN.out⟩
      case measure => simp [intOf]; omega
    ·have hke : k = t.length := by omega
     subst hke
     have HALL : Hid (∀ c ∈ t, c.length <= 1073741824) := fun c hc => by
      obtain ⟨j, hj, rfl⟩ := List.getElem_of_mem hc;have := HNO.out j hj;rw [List.getD_eq_getElem?_getD, List.getElem?_eq_getElem hj] at this;simp only [Option.getD_some] at this;omega
     go_wp2_with fail;refine (HCK.out _ (Below.refl _ _)).mono ?_;rintro e w1 ⟨rfl, hb1⟩;have HB1 := lh hb1;have p0 := Q0.out.later hb1;have p1 := Q1.out.later hb1;have c0 := p0.cell 0;have c1 := p0.cell 1;have d0 := p1.cell 0;have d1 := p1.cell 1;have d2 := p1.cell 2;have z0 := p0.lt;have z1 := p1.lt;clear hb1 p0 p1
     by_cases hc : za0 z t order = 0
     ·cases hl : zch z t with
      | false =>
        rw [hl] at HL;rw [hc];clear hl hc;go_wp2_with fail;refine (HL.out _ HB1.out).mono ?_;rintro e w2 ⟨rfl, hb2⟩;have HB2 := lh (HB1.out.trans (hb2.mono HB1.out.size));clear hb2;go_wp2_with fail;refine (HWK.out _ HB2.out).mono ?_;rintro e wz ⟨rfl, hbz⟩;have HBZ := lh (HB0.out.trans (((HB2.out).trans (hbz.mono (HB2.out).size)).mono HB0.out.size));clear hbz;go_wp2;go_ret;exact ⟨rfl, HBZ.out⟩
      | true =>
        rw [hl] at HL;rw [hc];obtain ⟨n, rfl, hg⟩ := Gdt.of hl hc;have HGD := lh hg;have HCP := lh (fun W (hb : Below w0.heap.size w0 W) => zhd n a cap t oa oc order o1 o2 W hg (HX.out.keep hb) (HO.out.keep hb) (HT.out.keep hb));clear hl hc hg;go_wp2_with fail;refine (HL.out _ HB1.out).mono ?_;rintro e w2 ⟨rfl, hb2⟩;have HB2 := lh (HB1.out.trans (hb2.mono HB1.out.size));have p0 := Q0.out.later HB2.out;have p1 := Q1.out.later HB2.out;have c0 := p0.cell 0;have c1 := p0.cell 1;have d0 := p1.cell 0;have d1 := p1.cell 1;have d2 := p1.cell 2;have z0 := p0.lt;have z1 := p1.lt;clear hb2 p0 p1;go_wp2_with fail
        refine (HCP.out _ HB2.out).mono ?_;rintro e w3 ⟨na, nc, ca, cc, N, C, rfl, hr, hb3⟩;have hbw3 := HB2.out.trans (hb3.mono HB2.out.size)
        obtain ⟨nb, hnb⟩ : ∃ nb, nb = w3.heap.size := ⟨_, rfl⟩
        obtain ⟨w4, hw4⟩ : ∃ w4, w4 = w3.alloc (.cells #[.int .i64 (n : Int), .slice na N.length nc] 24) := ⟨_, rfl⟩
        have hb4 : Below w3.heap.size w3 w4 := by rw [hw4]; exact (Below.refl _ _).alloc (Nat.le_refl _) _
        have q4 : Blk w4 nb #[.int .i64 (n : Int), .slice na N.length nc] 24 := by rw [hw4, hnb]; exact Blk.new _ _ _
        have HR := lh (hr.keep hb4);have HB4 := lh (hbw3.trans (hb4.mono hbw3.size));have Q4 := lh q4;have p0 := Q0.out.later hbw3;clear c0 c1 d0 d1 d2 z0 z1;have c0 := p0.cell 0;have c1 := p0.cell 1;have z0 := p0.lt;clear hr hb3 hbw3 hb4 q4 p0;go_wp2_with fail;rw [<- hnb, <- hw4];clear hw4 hnb c0 c1 z0;refine (HR.out.valid HGD.out).mono ?_;rintro e w5 ⟨rfl, hb5⟩;have HB5 := lh (HB4.out.trans (hb5.mono HB4.out.size));have Q5 := lh (Q4.out.later hb5);have e0 := Q5.out.cell 0;have e1 := Q5.out.cell 1;have y0 := Q5.out.lt;clear hb5;go_wp2_with fail;refine (HWK.out _ HB5.out).mono ?_;rintro e wz ⟨rfl, hbz⟩
        have HBZ := lh (HB0.out.trans (((HB5.out).trans (hbz.mono (HB5.out).size)).mono HB0.out.size));clear hbz;go_wp2;go_ret;exact ⟨rfl, HBZ.out⟩
     ·have hcb : (za0 z t order == 0) = false := by simpa using hc
      have HCP := lh (zs3 z a cap t oa oc order o1 o2 w1 (by have := HLE.out; omega) HALL.out (HX.out.keep HB1.out) (by have := HLE.out; omega) (HO.out.keep HB1.out) hc);generalize za0 z t order = c at *;go_wp2_with fail;refine HCP.out.mono ?_;rintro e w3 ⟨rfl, hb3⟩
      obtain ⟨nb, hnb⟩ : ∃ nb, nb = w3.heap.size := ⟨_, rfl⟩
      obtain ⟨w4, hw4⟩ : ∃ w4, w4 = w3.alloc (.cells #[.int .i64 0, .slice none 0 0] 24) := ⟨_, rfl⟩
      have hb4 : Below w3.heap.size w3 w4 := by rw [hw4]; exact (Below.refl _ _).alloc (Nat.le_refl _) _
      have q4 : Blk w4 nb #[.int .i64 0, .slice none 0 0] 24 := by rw [hw4, hnb]; exact Blk.new _ _ _
      have HB4 := lh (HB1.out.trans ((hb3.trans (hb4.mono hb3.size)).mono HB1.out.size));clear hb3 hb4 q4 c0 c1 d0 d1 d2 z0 z1;go_wp2_with fail;rw [<- hw4];clear hw4 hnb;refine (HWK.out _ HB4.out).mono ?_;rintro e wz ⟨rfl, hbz⟩;have HBZ := lh (HB0.out.trans (((HB4.out).trans (hbz.mono (HB4.out).size)).mono HB0.out.size));clear hbz;go_wp2;go_ret;exact ⟨rfl, HBZ.out⟩
end Go.Proofs.YtkaojolofaanfaaGreatDoor
