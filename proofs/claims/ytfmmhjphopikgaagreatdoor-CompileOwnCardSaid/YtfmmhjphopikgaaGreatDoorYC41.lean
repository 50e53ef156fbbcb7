/- Part of the proofs that laws of censuslaw24 return true for every input, where the tables that the rows list are laid. Texts: Eq, Et. -/
import Derived.Test.YtfmmhjphopikgaaGreatDoorYC33
import Derived.Test.YtfmmhjphopikgaaGreatDoorYC31
import Derived.Test.YtfmmhjphopikgaaGreatDoorYC40
import Derived.Test.YtfmmhjphopikgaaGreatDoorYC1
set_option maxHeartbeats 8000000
set_option maxRecDepth 100000
set_option linter.unusedSimpArgs false
set_option linter.unusedVariables false
namespace Go.Proofs.YtfmmhjphopikgaaGreatDoor
open Go.RowKit Cen
theorem zii (n : Int) (na : Option Addr) (nc : Nat) (N : List Nd) (i kd : Int) (w : World) (hl : N.length <= 1073741824) (hx : NdCells w na N) :
 Calls Tryz.prog 38 #[.agg #[.int .i64 n, .slice na N.length nc], .int .i64 i, .int .i64 kd] w fun e w' => e = .returned (.bool (zbh N i kd)) /\ Below w.heap.size w w' := by
 obtain ⟨w0, hw0⟩ : ∃ w0, w0 = w.alloc (.cells #[.int .i64 n, .slice na N.length nc] 33) := ⟨_, rfl⟩
 have hb0 : Below w.heap.size w w0 := by rw [hw0]; exact (Below.refl _ _).alloc (Nat.le_refl _) _
 have q0 : Blk w0 w.heap.size #[.int .i64 n, .slice na N.length nc] 33 := by rw [hw0]; exact Blk.new w _ _
 have HB0 := lh hb0;have HX := lh (hx.keep hb0);have k1 := q0.cell 1;have z0 := q0.lt
 have HT : Hid (∀ k, k < N.length -> i ∈ (N.getD k default).ins -> (N.getD k default).kind = kd -> zbh N i kd = true) := fun k hk h1 h2 =>
  zfu (by rw [List.getD_eq_getElem?_getD, List.getElem?_eq_getElem hk]; exact List.getElem_mem hk) h1 h2
 have HF : Hid ((∀ k, k < N.length -> i ∈ (N.getD k default).ins -> (N.getD k default).kind ≠ kd) -> zbh N i kd = false) := fun h => by
  rw [Bool.eq_false_iff]; intro hc;obtain ⟨x, hx1, h1, h2⟩ := zgg.1 hc;obtain ⟨k, hk, rfl⟩ := List.getElem_of_mem hx1
  have e : N.getD k default = N[k] := by simp [List.getD_eq_getElem?_getD, hk]
  have := h k hk;rw [e] at this;exact this h1 h2
 generalize zbh N i kd = R at *;clear hx hb0 q0;go_enter Tryz.func38, Tryz.ntmps38;go_wp2_with fail;rw [<- hw0];clear hw0;go_wp2_with fail
 go_loopw [7] (fun i' wr => ∃ k : Nat, k <= N.length /\ i' = .int .i64 k /\ (∀ j, j < k -> i ∈ (N.getD j default).ins -> (N.getD j default).kind ≠ kd) /\ wr = w0) (fun i' _ => N.length - (intOf i').toNat)
 case atStart => exact ⟨0, Nat.zero_le _, rfl, fun j h => absurd h (Nat.not_lt_zero _), rfl⟩
 obtain ⟨k, hk, rfl, hno, hwr⟩ := hrel;obtain rfl := hwr;have HN := lh hno;clear hno
 by_cases hlt : k < N.length
 ·obtain ⟨b1, off1, hae, c0, c1, xa, xc, c2, hin, hil⟩ := HX.o k hlt
  have hki : (k : Int) < (N.length : Int) := by omega
  have HTK := lh (HT.o k hlt)
  have HNX : Hid ((i ∈ (N.getD k default).ins -> (N.getD k default).kind ≠ kd) -> ∀ j, j < k + 1 -> i ∈ (N.getD j default).ins -> (N.getD j default).kind ≠ kd) := fun he j hj => by
   by_cases e : j = k
   ·subst e; exact he
   exact HN.o j (by omega)
  generalize N.getD k default = x at *;have HI := lh hin;subst hae;clear hin c1;go_wp2_with fail
  go_loopw [8] (fun i' wi => ∃ q : Nat, q <= x.ins.length /\ i' = .int .i64 q /\ (∀ j, j < q -> ¬ (x.ins.getD j 0 = i /\ x.kind = kd)) /\ wi = wr) (fun i' _ => x.ins.length - (intOf i').toNat)
  case atStart => exact ⟨0, Nat.zero_le _, rfl, fun j h => absurd h (Nat.not_lt_zero _), rfl⟩
  obtain ⟨q, hq, rfl, hno, hwi⟩ := hrel;obtain rfl := hwi;have HN2 := lh hno;clear hno
  by_cases hqx : q < x.ins.length
  ·obtain ⟨b2, off2, hae2, e0⟩ := HI.o q hqx
   have hqi : (q : Int) < (x.ins.length : Int) := by omega
   have HM := lh (zbd hqx)
   have HNQ : Hid (¬ (x.ins.getD q 0 = i /\ x.kind = kd) -> ∀ j, j < q + 1 -> ¬ (x.ins.getD j 0 = i /\ x.kind = kd)) := fun he j hj => by
    by_cases e : j = q
    ·subst e; exact he
    exact HN2.o j (by omega)
   generalize x.ins.getD q 0 = y at e0 HM HNQ;subst hae2
   by_cases hy : y = i
   ·by_cases hkk : x.kind = kd
    ·have HR := lh (HTK.o (by rw [<- hy]; exact HM.o) hkk)
     have d1 : (y == i) = true := by simpa using hy
     have d2 : (x.kind == kd) = true := by simpa using hkk
     clear hy hkk;go_wp2;go_ret;exact ⟨by rw [HR.o]; rfl, HB0.o⟩
    have HNN := lh (HNQ.o fun e => hkk e.2)
    have d1 : (y == i) = true := by simpa using hy
    have d2 : (x.kind == kd) = false := by simpa using hkk
    clear hy hkk;go_wp2;go_roundw
    case rel => exact ⟨q + 1, by omega, by go_num, HNN.o, by first | rfl | trivial⟩
    case measure => simp [intOf]; omega
   have HNN := lh (HNQ.o fun e => hy e.1)
   have d1 : (y == i) = false := by simpa using hy
   clear hy;go_wp2;go_roundw
   case rel => exact ⟨q + 1, by omega, by go_num, HNN.o, by first | rfl | trivial⟩
   case measure => simp [intOf]; omega
  have hqe : q = x.ins.length := by omega
  subst hqe
  have HNN := lh (HNX.o fun hm hkk => by
   obtain ⟨j, hj, e⟩ := List.getElem_of_mem hm
   exact HN2.o j hj ⟨by simp [List.getD_eq_getElem?_getD, hj, e], hkk⟩)
  go_wp2;go_roundw
  case rel => exact ⟨k + 1, by omega, by go_num, HNN.o, by first | rfl | trivial⟩
  case measure => simp [intOf]; omega
 have hke : k = N.length := by omega
 subst hke;have HR := lh (HF.o HN.o);go_wp2;go_ret;exact ⟨by rw [HR.o]; rfl, HB0.o⟩
theorem zmq (n : Int) (na : Option Addr) (nc : Nat) (N : List Nd) (i : Nat) (w : World) (hl : N.length <= 65536) (hi : i < N.length) (hx : NdCells w na N) :
 Calls Tryz.prog 13 #[.agg #[.int .i64 n, .slice na N.length nc], .int .i64 i] w fun e w' => e = .returned (.bool (zgm N i)) /\ Below w.heap.size w w' := by
 obtain ⟨w0, hw0⟩ : ∃ w0, w0 = w.alloc (.cells #[.int .i64 n, .slice na N.length nc] 33) := ⟨_, rfl⟩
 have hb0 : Below w.heap.size w w0 := by rw [hw0]; exact (Below.refl _ _).alloc (Nat.le_refl _) _
 have q0 : Blk w0 w.heap.size #[.int .i64 n, .slice na N.length nc] 33 := by rw [hw0]; exact Blk.new w _ _
 have HB0 := lh hb0;have HX := lh (hx.keep hb0);have k0 := q0.cell 0;have k1 := q0.cell 1;have z0 := q0.lt;have HNB : Hid (zgm N i = (decide (i + 1 = N.length) || (decide ((nd N (i : Int)).kind ≠ 2) && zbh N i 3))) := rfl;have HIN := lh (zii n na nc N (i : Int) 3 w0 (by omega) HX.o);obtain ⟨b1, off1, hae, c0, c1, xa, xc, c2, hin, hil⟩ := hx i hi;have zb : b1 < w.heap.size := zak c0;have hnd : nd N (i : Int) = N.getD i default := rfl
 have hii : (i : Int) < (N.length : Int) := by omega
 have hnp : (1 : Int) <= (N.length : Int) := by omega
 rw [hnd] at HNB;generalize zgm N i = R at *;generalize (N.getD i default).kind = kd at *;subst hae;clear hx hb0 q0 hin hil c1 c2 hnd
 by_cases h1 : i + 1 = N.length
 ·have hd : ((i : Int) == (N.length : Int) - 1) = true := by simp; omega
  have HR : Hid (R = true) := by show _ = _; rw [HNB.o, decide_eq_true h1]; rfl
  have hx1 : (i : Int) = (N.length : Int) - 1 := by omega
  clear h1;go_enter Tryz.func13, Tryz.ntmps13;go_wp2_with fail;go_ret;exact ⟨by rw [HR.o]; rfl, by rw [<- hw0]; exact HB0.o⟩
 have hd : ((i : Int) == (N.length : Int) - 1) = false := by simp; omega
 have hx1 : ¬ (i : Int) = (N.length : Int) - 1 := by omega
 by_cases h2 : kd = 2
 ·have HR : Hid (R = false) := by show _ = _; rw [HNB.o, decide_eq_false h1, h2]; rfl
  have hk : (kd != 2) = false := by simpa using h2
  clear h1 h2;go_enter Tryz.func13, Tryz.ntmps13;go_wp2_with fail;go_ret;exact ⟨by rw [HR.o]; rfl, by rw [<- hw0]; exact HB0.o⟩
 have HR : Hid (R = zbh N i 3) := by show _ = _; rw [HNB.o, decide_eq_false h1]; simp [h2]
 have hk : (kd != 2) = true := by simpa using h2
 clear h1 h2;go_enter Tryz.func13, Tryz.ntmps13;go_wp2_with fail;rw [<- hw0];refine HIN.o.mono ?_;rintro e w2 ⟨rfl, hb2⟩;have HB2 := lh (HB0.o.trans (hb2.mono HB0.o.size));clear hb2 hw0;generalize zbh N i 3 = Q at *;go_wp2;go_ret;exact ⟨by rw [HR.o]; rfl, HB2.o⟩
theorem zn3 (p : Prf) (hp : PfB p) (hnode : ∀ i, i < p.N.length -> p.node i) (ta : Option Addr) (tc : Nat) (na : Option Addr) (nc : Nat) (ca : Option Addr) (cc : Nat) (w : World) (h : PfAt p w ta na ca) :
 Calls Tryz.prog 17 #[.agg #[.int .i64 p.n, .slice ta p.t.length tc], .agg #[.int .i64 p.n, .slice na p.N.length nc], .slice ca p.C.length cc] w
  fun e w' => e = .returned (.tuple #[.int .i64 0, .int .i64 0]) /\ Below w.heap.size w w' := by
 have hpn := hp.ok.n;have htl := hp.ok.t.len;obtain ⟨hN1, hN2⟩ := hp.ok.len
 obtain ⟨w0, hw0⟩ : ∃ w0, w0 = (w.alloc (.cells #[.int .i64 p.n, .slice ta p.t.length tc] 24)).alloc (.cells #[.int .i64 p.n, .slice na p.N.length nc] 33) := ⟨_, rfl⟩
 have hb0 : Below w.heap.size w w0 := by rw [hw0]; exact ((Below.refl _ _).alloc (Nat.le_refl _) _).alloc (by simp) _
 have q0 : Blk w0 w.heap.size #[.int .i64 p.n, .slice ta p.t.length tc] 24 := by rw [hw0]; exact (Blk.new w _ _).alloc _
 have q1 : Blk w0 (w.heap.size + 1) #[.int .i64 p.n, .slice na p.N.length nc] 33 := by rw [hw0]; exact Blk.new' _ (by simp) _ _
 have HC := lh (zby p.n ta tc p.t w0 (by omega) (fun c hc => by have := (hp.ok.t.cl c hc).1; omega) (h.t.keep hb0));rw [(zbu hpn).2 hp.ok.t] at HC
 have HVL : Hid (∀ W, Below w0.heap.size w0 W -> Calls Tryz.prog 12 #[.agg #[.int .i64 p.n, .slice na p.N.length nc]] W fun e w' => e = .returned (.bool true) /\ Below W.heap.size W w') := fun W hW => by
  have := zgp p.n na nc p.N W (by omega) ((h.n.keep hb0).keep hW)
  rwa [hp.ok.N] at this
 have hnc : ((p.C.length : Int) != (p.N.length : Int)) = false := by rw [hp.ok.C]; simp
 have HB0 := lh hb0;have Q0 := lh q0;have Q1 := lh q1;have HP := lh hp;have HAT := lh h;have HND := lh hnode;clear h hb0 q0 q1 hnode hp;go_enter Tryz.func17, Tryz.ntmps17;go_wp2_with fail;rw [<- hw0];refine HC.o.mono ?_;rintro e w1 ⟨rfl, hb1⟩;have HB1 := lh hb1;have r0 := (Q1.o.later hb1).cell 0;have r1 := (Q1.o.later hb1).cell 1;have rz := (Q1.o.later hb1).lt;clear hb1 hw0;go_wp2_with fail;refine (HVL.o _ HB1.o).mono ?_;rintro e w2 ⟨rfl, hb2⟩;have HB2 := lh (HB1.o.trans (hb2.mono HB1.o.size));have s0 := (Q0.o.later HB2.o).cell 0;have s1 := (Q0.o.later HB2.o).cell 1;have sz := (Q0.o.later HB2.o).lt
 have t0 := (Q1.o.later HB2.o).cell 0;have t1 := (Q1.o.later HB2.o).cell 1;have tz := (Q1.o.later HB2.o).lt;clear hb2 r0 r1 rz
 obtain ⟨pb, hpb⟩ : ∃ pb, pb = w2.heap.size := ⟨_, rfl⟩
 obtain ⟨w3, hw3⟩ : ∃ w3, w3 = w2.alloc (.cells #[.int .i64 p.n, .slice ta p.t.length tc, .int .i64 p.n, .slice na p.N.length nc, .slice ca p.C.length cc] 87) := ⟨_, rfl⟩
 have hb3 : Below w2.heap.size w2 w3 := by rw [hw3]; exact (Below.refl _ _).alloc (Nat.le_refl _) _
 have q5 : Blk w3 pb #[.int .i64 p.n, .slice ta p.t.length tc, .int .i64 p.n, .slice na p.N.length nc, .slice ca p.C.length cc] 87 := by rw [hw3, hpb]; exact Blk.new _ _ _
 have HB3 := lh (HB2.o.trans (hb3.mono HB2.o.size));have HBW3 := lh (HB0.o.trans ((HB2.o.trans (hb3.mono HB2.o.size)).mono HB0.o.size));have Q5 := lh q5;go_wp2_with fail;rw [<- hpb, <- hw3];clear hb3 q5 hw3 hpb s0 s1 sz t0 t1 tz
 go_loopw [9] (fun i wr => ∃ k : Nat, k <= p.N.length /\ i = .int .i64 k /\ Below w3.heap.size w3 wr) (fun i _ => p.N.length - (intOf i).toNat)
 case atStart => exact ⟨0, Nat.zero_le _, rfl, Below.refl _ _⟩
 obtain ⟨k, hk, rfl, hb⟩ := hrel;have HBR := lh hb;have HBN : Hid (Below w0.heap.size w0 wr) := HB3.o.trans (hb.mono HB3.o.size);have HBW : Hid (Below w.heap.size w wr) := HBW3.o.trans (hb.mono HBW3.o.size);have m0 := (Q1.o.later HBN.o).cell 0;have m1 := (Q1.o.later HBN.o).cell 1;have mz := (Q1.o.later HBN.o).lt;clear hb
 by_cases hlt : k < p.N.length
 ·have hki : (k : Int) < (p.N.length : Int) := by omega
  obtain ⟨nb, noff, hne, d0, d1, xa, xc, d2, hxi, hxl⟩ := (HAT.o.n.keep HBW.o) k hlt;have HNK := lh (HND.o k hlt)
  have HNE : Hid (∀ W, Below w.heap.size w W -> Calls Tryz.prog 13 #[.agg #[.int .i64 p.n, .slice na p.N.length nc], .int .i64 k] W fun e w' => e = .returned (.bool (zgm p.N k)) /\ Below W.heap.size W w') := fun W hW => zmq p.n na nc p.N k W hN2 hlt (HAT.o.n.keep hW)
  have HIP : Hid (∀ W, Below w.heap.size w W -> Calls Tryz.prog 38 #[.agg #[.int .i64 p.n, .slice na p.N.length nc], .int .i64 k, .int .i64 4] W fun e w' => e = .returned (.bool (zbh p.N (k : Int) 4)) /\ Below W.heap.size W w') := fun W hW => zii p.n na nc p.N (k : Int) 4 W (by omega) (HAT.o.n.keep hW)
  have hnd : nd p.N (k : Int) = p.N.getD k default := rfl;have HUSE : Hid (zgm p.N k = true \/ (p.N.getD k default).kind = 2 \/ ((p.N.getD k default).kind = 3 /\ zbh p.N (k : Int) 4 = true)) := HNK.o.use;generalize p.N.getD k default = x at *;have HNEA := HNE;subst hne;clear hnd hxi hxl d1 d2
  cases hnb : zgm p.N k with
  | false =>
    rw [hnb] at HNE
    by_cases hk2 : x.kind = 2
    ·have e2 : (x.kind != 2) = false := by simpa using hk2
     clear hnb hk2;go_wp2_with fail;refine (HNE.o _ HBW.o).mono ?_;rintro e w5 ⟨rfl, hb5⟩;have HB5 := lh (HBN.o.trans (hb5.mono HBN.o.size));have HBW5 := lh (HBW.o.trans (hb5.mono HBW.o.size));have HBR5 := lh (HBR.o.trans (hb5.mono HBR.o.size));have n0 := (Q1.o.later HB5.o).cell 0;have n1 := (Q1.o.later HB5.o).cell 1;have nz := (Q1.o.later HB5.o).lt;clear hb5 m0 m1 mz d0;go_wp2_with fail;refine (HNE.o _ HBW5.o).mono ?_;rintro e w6 ⟨rfl, hb6⟩;have HBR6 := lh (HBR5.o.trans (hb6.mono HBR5.o.size));clear hb6;go_wp2;go_roundw
     case rel => exact ⟨k + 1, by omega, by go_num, HBR6.o⟩
     case measure => simp [intOf]; omega
    have hu : x.kind = 3 /\ zbh p.N (k : Int) 4 = true := by
     rcases HUSE.o with h | h | h
     ·rw [hnb] at h; simp at h
     ·exact absurd h hk2
     exact h
    have e2 : (x.kind != 2) = true := by simpa using hk2
    have e3 : (x.kind == 3) = true := by simpa using hu.1
    rw [hu.2] at HIP;clear hnb hk2 hu;go_wp2_with fail;refine (HNE.o _ HBW.o).mono ?_;rintro e w5 ⟨rfl, hb5⟩;have HB5 := lh (HBN.o.trans (hb5.mono HBN.o.size));have HBW5 := lh (HBW.o.trans (hb5.mono HBW.o.size));have HBR5 := lh (HBR.o.trans (hb5.mono HBR.o.size));have n0 := (Q1.o.later HB5.o).cell 0;have n1 := (Q1.o.later HB5.o).cell 1;have nz := (Q1.o.later HB5.o).lt;clear hb5 m0 m1 mz d0;go_wp2_with fail;refine (HIP.o _ HBW5.o).mono ?_;rintro e w6 ⟨rfl, hb6⟩;have HB6 := lh (HB5.o.trans (hb6.mono HB5.o.size));have HBW6 := lh (HBW5.o.trans (hb6.mono HBW5.o.size));have HBR6 := lh (HBR5.o.trans (hb6.mono HBR5.o.size))
    have o0 := (Q1.o.later HB6.o).cell 0;have o1 := (Q1.o.later HB6.o).cell 1;have oz := (Q1.o.later HB6.o).lt;clear hb6 n0 n1 nz;go_wp2_with fail;refine (HNE.o _ HBW6.o).mono ?_;rintro e w7 ⟨rfl, hb7⟩;have HBR7 := lh (HBR6.o.trans (hb7.mono HBR6.o.size));clear hb7;go_wp2;go_roundw
    case rel => exact ⟨k + 1, by omega, by go_num, HBR7.o⟩
    case measure => simp [intOf]; omega
  | true =>
    obtain ⟨r, hr1, hr2, hr3⟩ := HNK.o.acc hnb;rw [hnb] at HNE;have HTR := lh (zvi HP.o.ok hr1)
    have HRS : Hid (∀ W, Below w.heap.size w W -> Calls Tryz.prog 44 #[.agg #[.int .i64 p.n, .slice ta p.t.length tc, .int .i64 p.n, .slice (some ⟨nb, noff, none⟩) p.N.length nc, .slice ca p.C.length cc], .int .i64 k] W (zu1 p.n (some r) W)) := fun W hW => by
     have := ze0 p HP.o.ok ta tc (some ⟨nb, noff, none⟩) nc ca cc (k : Int) W (by omega) (by omega) (HAT.o.keep hW)
     rwa [hr1] at this
    have HACC : Hid (∀ W ra rc, Below w.heap.size w W -> LsCells W ra r -> Calls Tryz.prog 45 #[.agg #[.int .i64 p.n, .slice ta p.t.length tc, .int .i64 p.n, .slice (some ⟨nb, noff, none⟩) p.N.length nc, .slice ca p.C.length cc], .int .i64 k, .agg #[.int .i64 p.n, .slice ra r.length rc]] W fun e w' => e = .returned (.bool true) /\ Below W.heap.size W w') := fun W ra rc hW hl => by
     have := zjd p HP.o ta tc (some ⟨nb, noff, none⟩) nc ca cc p.n ra rc r (k : Int) W rfl HTR.o (by omega) (by omega) (HAT.o.keep hW) hl
     rwa [hr2] at this
    have HNM : Hid (∀ W, Below w.heap.size w W -> Calls Tryz.prog 41 #[.agg #[.int .i64 p.n, .slice ta p.t.length tc]] W (zu0 p.n p.t W)) := fun W hW => zer p.n hpn ta tc p.t W HP.o.ok.t (HAT.o.t.keep hW)
    have HEQ := lh hr3;have HNT := lh (tOk.norm hpn HP.o.ok.t);clear hnb hr1 hr2 hr3;go_wp2_with fail;refine (HNE.o _ HBW.o).mono ?_;rintro e w5 ⟨rfl, hb5⟩;have HB5 := lh (HBN.o.trans (hb5.mono HBN.o.size));have HBW5 := lh (HBW.o.trans (hb5.mono HBW.o.size));have HBR5 := lh (HBR.o.trans (hb5.mono HBR.o.size));have n0 := (Q1.o.later HB5.o).cell 0;have n1 := (Q1.o.later HB5.o).cell 1;have nz := (Q1.o.later HB5.o).lt;clear hb5 m0 m1 mz d0;go_wp2_with fail;refine (HNE.o _ HBW5.o).mono ?_;rintro e w6 ⟨rfl, hb6⟩;have HBW6 := lh (HBW5.o.trans (hb6.mono HBW5.o.size));have HBR6 := lh (HBR5.o.trans (hb6.mono HBR5.o.size))
    have p6 := Q5.o.later HBR6.o;have o0 := p6.cell 0;have o1 := p6.cell 1;have o2 := p6.cell 2;have o3 := p6.cell 3;have o4 := p6.cell 4;have oz := p6.lt;clear hb6 n0 n1 nz p6;go_wp2_with fail;refine (HRS.o _ HBW6.o).mono ?_;rintro e w7 ⟨n', ra, m', rc, rfl, hb7, hls⟩;obtain ⟨hn9, hm9, hls9⟩ := hls r rfl;subst hn9 hm9;clear hls
    obtain ⟨w8, hw8⟩ : ∃ w8, w8 = w7.alloc (.cells #[.int .i64 p.n, .slice ra r.length rc] 24) := ⟨_, rfl⟩
    have hb8 : Below w7.heap.size w7 w8 := by rw [hw8]; exact (Below.refl _ _).alloc (Nat.le_refl _) _
    have hb68 := hb7.trans (hb8.mono hb7.size);have HBW8 := lh (HBW6.o.trans (hb68.mono HBW6.o.size));have HBR8 := lh (HBR6.o.trans (hb68.mono HBR6.o.size));have p7 := Q5.o.later (HBR6.o.trans (hb7.mono HBR6.o.size));have u0 := p7.cell 0;have u1 := p7.cell 1;have u2 := p7.cell 2;have u3 := p7.cell 3;have u4 := p7.cell 4;have uz := p7.lt
    obtain ⟨rb, hrb⟩ : ∃ rb, rb = w7.heap.size := ⟨_, rfl⟩
    have hrr : Blk w8 rb #[.int .i64 p.n, .slice ra r.length rc] 24 := by rw [hw8, hrb]; exact Blk.new _ _ _
    have RR := lh hrr;have HLS := lh ((hls9.later hb8).ls);clear hls9 hb7 hb8 hb68 p7 hrr o0 o1 o2 o3 o4 oz;simp only [Option.isSome_some];go_wp2_with fail;rw [<- hw8];rw [<- hrb];clear hrb;refine (HACC.o _ ra rc HBW8.o HLS.o).mono ?_;rintro e w9 ⟨rfl, hb9⟩;have HBW9 := lh (HBW8.o.trans (hb9.mono HBW8.o.size));have HBR9 := lh (HBR8.o.trans (hb9.mono HBR8.o.size));have RR9 := lh (RR.o.later hb9);have HLS9 := lh (HLS.o.keep hb9);have HB9 : Hid (Below w0.heap.size w0 w9) := HB3.o.trans (HBR9.o.mono HB3.o.size);have v0 := (Q0.o.later HB9.o).cell 0;have v1 := (Q0.o.later HB9.o).cell 1;have vz := (Q0.o.later HB9.o).lt
    clear hb9 u0 u1 u2 u3 u4 uz;go_wp2_with fail;refine (HNM.o _ HBW9.o).mono ?_;rintro e wA ⟨ya, yc, rfl, hyl, hbA⟩
    obtain ⟨wB, hwB⟩ : ∃ wB, wB = wA.alloc (.cells #[.int .i64 p.n, .slice ya (zab p.n p.t).length yc] 24) := ⟨_, rfl⟩
    have hbB : Below wA.heap.size wA wB := by rw [hwB]; exact (Below.refl _ _).alloc (Nat.le_refl _) _
    have hbAB := hbA.trans (hbB.mono hbA.size);have HBRB := lh (HBR9.o.trans (hbAB.mono HBR9.o.size));have HBA : Hid (Below w0.heap.size w0 wA) := HB9.o.trans (hbA.mono HB9.o.size);have a0 := (Q1.o.later HBA.o).cell 0;have a1 := (Q1.o.later HBA.o).cell 1;have az := (Q1.o.later HBA.o).lt;have c0 := (RR9.o.later hbA).cell 0;have c1 := (RR9.o.later hbA).cell 1;have cz := (RR9.o.later hbA).lt
    by_cases hlast : k + 1 = p.N.length
    ·have hreq := HEQ.o hlast
     have hd : ((k : Int) == (p.N.length : Int) - 1) = true := by simp; omega
     have HSM := lh (zkh p.n ra rc r p.n ya yc (zab p.n p.t) wB (by have := HTR.o.len; omega) (fun c hc => by have := (HTR.o.cl c hc).1; omega) (by have := HNT.o.len; omega) (fun c hc => by have := (HNT.o.cl c hc).1; omega) (HLS9.o.keep hbAB) (hyl.later hbB).ls);rw [decide_eq_true hreq] at HSM;have HKL := lh hlast;clear hyl hbA hbB hbAB v0 v1 vz hreq hlast;generalize (zab p.n p.t).length = nl at *;go_wp2_with fail;rw [<- hwB];refine HSM.o.mono ?_;rintro e wC ⟨rfl, hbC⟩;have HBRC := lh (HBRB.o.trans (hbC.mono HBRB.o.size));clear hbC;go_wp2;go_roundw
     case rel => exact ⟨k + 1, by omega, by go_num, HBRC.o⟩
     case measure => simp [intOf]; omega
    have hd : ((k : Int) == (p.N.length : Int) - 1) = false := by simp; omega
    have hkl : ¬ (k : Int) = (p.N.length : Int) - 1 := by omega
    clear hyl hbA hbB hbAB v0 v1 vz;generalize (zab p.n p.t).length = nl at *;go_wp2;rw [<- hwB];go_roundw
    case rel => exact ⟨k + 1, by omega, by go_num, HBRB.o⟩
    case measure => simp [intOf]; omega
 have hke : k = p.N.length := by omega
 subst hke;go_wp2;go_ret2;exact ⟨rfl, HBW.o⟩
end Go.Proofs.YtfmmhjphopikgaaGreatDoor
