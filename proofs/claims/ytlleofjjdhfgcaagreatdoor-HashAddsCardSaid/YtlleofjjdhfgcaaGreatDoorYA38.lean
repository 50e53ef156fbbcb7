/- Parts of the proofs of laws. Texts: Hw, He, Hf. -/
import Derived.Test.YtlleofjjdhfgcaaGreatDoorYA37
import Derived.Test.YtlleofjjdhfgcaaGreatDoorYA17
import Derived.Test.YtlleofjjdhfgcaaGreatDoorYA6
set_option maxHeartbeats 8000000
set_option maxRecDepth 100000
set_option linter.all false
namespace Go.Proofs.YtlleofjjdhfgcaaGreatDoor
open Go.RowKit Cen
def zls (q : Nat) (c : Int) (w : World) (e : Ending) (w' : World) : Prop := e = .returned (.tuple #[.agg #[.string (natB q)], .int .i64 c]) /\ Below w.heap.size w w'
def ctv (c : Ct) : Value := .agg #[.string (natB c.e), .string (natB c.o)]
def ctc (c : Ct) : List Value := [.string (natB c.e), .string (natB c.o)]
theorem zaw (c : Ct) : (ctc c).length = 2 := rfl
theorem zcr {a b c d x : Nat} (h1 : a <= c) (h2 : b <= d) (h : c * d < x) : a * b < x := Nat.lt_of_le_of_lt (Nat.mul_le_mul h1 h2) h
theorem zi6 (a b : Ct) (w : World) (ha : a.s < 65536) (hb : b.s < 65536) (hab : a.s * b.s < 65536) :
 Calls Tryz.prog 82 #[ctv a, ctv b] w fun e w' => e = .returned (ctv (zj9 a b)) /\ Below w.heap.size w w' := by
 have hS := yae a b;unfold Ct.s at hS ha hb hab;have HM1 := lh (fun V => zjm a.e b.e (by omega) (by omega) (zcr (by omega) (by omega) hab) V);have HM2 := lh (fun V => zjm a.o b.o (by omega) (by omega) (zcr (by omega) (by omega) hab) V);have HM3 := lh (fun V => zjm a.e b.o (by omega) (by omega) (zcr (by omega) (by omega) hab) V);have HM4 := lh (fun V => zjm a.o b.e (by omega) (by omega) (zcr (by omega) (by omega) hab) V);have HA1 := lh (fun V => ze6 (a.e * b.e) (a.o * b.o) (zcr (by omega) (by omega) hab) (zcr (by omega) (by omega) hab) (by simp only [zj9] at hS; omega) V);have HA2 := lh (fun V => ze6 (a.e * b.o) (a.o * b.e) (zcr (by omega) (by omega) hab) (zcr (by omega) (by omega) hab) (by simp only [zj9] at hS; omega) V)
 have HR : Hid (ctv (zj9 a b) = .agg #[.string (natB (a.e * b.e + a.o * b.o)), .string (natB (a.e * b.o + a.o * b.e))]) := rfl;clear hS ha hb hab;unfold ctv natv at *;generalize natB (a.e * b.e + a.o * b.o) = t1 at *;generalize natB (a.e * b.o + a.o * b.e) = t2 at *;generalize natB (a.e * b.e) = s1 at *;generalize natB (a.o * b.o) = s2 at *;generalize natB (a.e * b.o) = s3 at *;generalize natB (a.o * b.e) = s4 at *;generalize natB a.e = ae at *;generalize natB a.o = ao at *;generalize natB b.e = be at *;generalize natB b.o = bo at *;obtain ⟨W, hW⟩ := nm (((w.alloc (.cells #[.string ae, .string ao] 97)).alloc (.cells #[.string be, .string bo] 97)).alloc (.cells #[.string ⟨#[]⟩, .string ⟨#[]⟩] 97))
 have hbw : Below w.heap.size w W := by rw [hW]; exact ((ba _ _).alloc (by simp only [World.size_alloc]; omega) _).alloc (by simp only [World.size_alloc]; omega) _
 have q0 : Blk W w.heap.size #[.string ae, .string ao] 97 := by rw [hW]; exact ((Blk.new _ _ _).alloc _).alloc _
 have q1 : Blk W (w.heap.size + 1) #[.string be, .string bo] 97 := by rw [hW]; exact (Blk.new' _ (by simp only [World.size_alloc]) _ _).alloc _
 have q2 : Blk W (w.heap.size + 2) #[.string ⟨#[]⟩, .string ⟨#[]⟩] 97 := by rw [hW]; exact Blk.new' _ (by simp only [World.size_alloc]) _ _
 have HBW := lh hbw;have Q2 := lh q2;have k0 := q0.cell 0;have k1 := q0.cell 1;have k2 := q1.cell 0;have k3 := q1.cell 1
 have HKS : Hid (∀ w' : World, Kp (fun y => y = w.heap.size + 2) W w' -> (fun w' => w'.cell? ⟨w.heap.size, 0, none⟩ = some (.string ae) /\ w'.cell? ⟨w.heap.size, 1, none⟩ = some (.string ao) /\ w'.cell? ⟨w.heap.size + 1, 0, none⟩ = some (.string be) /\ w'.cell? ⟨w.heap.size + 1, 1, none⟩ = some (.string bo)) w') := lh fun w' hb => ⟨hb.cell k0 (by simp), hb.cell k1 (by simp), hb.cell k2 (by simp), hb.cell k3 (by simp)⟩
 clear hbw q0 q1 q2 k0 k1 k2 k3;go_enter Tryz.func82, Tryz.ntmps82;go_wp2_with fail;rw [<- hW];clear hW
 refine wp_region_held_drew (S := (fun w' => w'.cell? ⟨w.heap.size, 0, none⟩ = some (.string ae) /\ w'.cell? ⟨w.heap.size, 1, none⟩ = some (.string ao) /\ w'.cell? ⟨w.heap.size + 1, 0, none⟩ = some (.string be) /\ w'.cell? ⟨w.heap.size + 1, 1, none⟩ = some (.string bo))) (by kernel_rfl) (by exact HKS.o _ (Kp.below (Below.refl _ _).drew)) fun hH => ?_
 refine tkV 0 5 rfl rfl ?_; try simp only [tkS]
 refine tkV 1 6 rfl rfl ?_; try simp only [tkS]
 refine tkV 2 7 rfl rfl ?_; try simp only [tkS]
 refine tkV 3 8 rfl rfl ?_; try simp only [tkS]
 refine tkV 5 10 rfl rfl ?_; try simp only [tkS]
 refine tkV 6 11 rfl rfl ?_; try simp only [tkS]
 refine tkV 7 12 rfl rfl ?_; try simp only [tkS]
 refine tkV 8 13 rfl rfl ?_; try simp only [tkS]
 refine tkV 11 16 rfl rfl ?_; try simp only [tkS]
 refine tkV 12 17 rfl rfl ?_; try simp only [tkS]
 refine tkV 13 18 rfl rfl ?_; try simp only [tkS]
 refine tkV 14 19 rfl rfl ?_; try simp only [tkS]
 refine tkV 16 21 rfl rfl ?_; try simp only [tkS]
 refine tkV 17 22 rfl rfl ?_; try simp only [tkS]
 refine tkV 18 23 rfl rfl ?_; try simp only [tkS]
 refine tkV 19 24 rfl rfl ?_; try simp only [tkS]
 refine tkR 4 (.cons rfl (fun K hK => ?_) .nil);go_simp;go_at_call 54
 with_reducible refine Calls.mono (HM1.o _) ?_
 rintro e w5 ⟨rfl, hb5⟩;have hw5 : Below W.heap.size W w5 := Below.trans (Below.refl W.heap.size W).drew (Below.mono hb5 (Below.size (Below.refl W.heap.size W).drew));clear hb5;go_wp2_with fail
 refine hK.out _ _ (by exact HKS.o _ (Kp.below hw5)) fun hH => ?_
 clear hK K
 try simp only [tkS]
 refine tkR 9 (.cons rfl (fun K hK => ?_) .nil);go_simp;go_at_call 54
 with_reducible refine Calls.mono (HM2.o _) ?_
 rintro e w6 ⟨rfl, hb6⟩;have hw6 : Below W.heap.size W w6 := Below.trans hw5 (Below.mono hb6 (Below.size hw5));clear hb6;go_wp2_with fail
 refine hK.out _ _ (by exact HKS.o _ (Kp.below hw6)) fun hH => ?_
 clear hK K
 try simp only [tkS]
 refine tkR 10 (.cons rfl (fun K hK => ?_) .nil);go_simp;go_at_call 17
 with_reducible refine Calls.mono (HA1.o _) ?_
 rintro e w7 ⟨rfl, hb7⟩;have hw7 : Below W.heap.size W w7 := Below.trans hw6 (Below.mono hb7 (Below.size hw6));clear hb7;go_wp2_with fail
 refine hK.out _ _ (by exact HKS.o _ (Kp.below hw7)) fun hH => ?_
 clear hK K
 try simp only [tkS]
 refine tkR 15 (.cons rfl (fun K hK => ?_) .nil);go_simp;go_at_call 54
 with_reducible refine Calls.mono (HM3.o _) ?_
 rintro e w8 ⟨rfl, hb8⟩;have hw8 : Below W.heap.size W w8 := Below.trans hw7 (Below.mono hb8 (Below.size hw7));clear hb8;go_wp2_with fail
 refine hK.out _ _ (by exact HKS.o _ (Kp.below hw8)) fun hH => ?_
 clear hK K
 try simp only [tkS]
 refine tkR 20 (.cons rfl (fun K hK => ?_) .nil);go_simp;go_at_call 54
 with_reducible refine Calls.mono (HM4.o _) ?_
 rintro e w9 ⟨rfl, hb9⟩;have hw9 : Below W.heap.size W w9 := Below.trans hw8 (Below.mono hb9 (Below.size hw8));clear hb9;go_wp2_with fail
 refine hK.out _ _ (by exact HKS.o _ (Kp.below hw9)) fun hH => ?_
 clear hK K
 try simp only [tkS]
 refine tkR 21 (.cons rfl (fun K hK => ?_) .nil);go_simp;go_at_call 17
 with_reducible refine Calls.mono (HA2.o _) ?_
 rintro e w10 ⟨rfl, hb10⟩;have hw10 : Below W.heap.size W w10 := Below.trans hw9 (Below.mono hb10 (Below.size hw9));clear hb10;go_wp2_with fail
 refine hK.out _ _ (by exact HKS.o _ (Kp.below hw10)) fun hH => ?_
 clear hK K
 try simp only [tkS]
 refine tkV 22 27 rfl rfl ?_; try simp only [tkS]
 have q9 := Q2.o.later hw10;have e0 := q9.cell 0;have e1 := q9.cell 1;have f0 := q9.fr 0;have f1 := q9.fr 1;have ez := q9.lt;have hk10 : Kp (fun y => y = w.heap.size + 2) W w10 := Kp.below hw10;refine tkR 23 (.cons rfl (fun K hK => ?_) .nil);go_simp
 refine hK.out _ _ (by exact HKS.o _ ((hk10.trans (Kp.setCell _ _ _ rfl)).trans (Kp.setCell _ _ _ rfl))) fun hH => ?_
 clear hK K
 try simp only [tkS]
 refine wpAnyH_done (by kernel_rfl) ?_ _;go_wp2_with fail;have q10 := (q9.set 0 (.string t1)).set 1 (.string t2);have g0 := q10.cell 0;have g1 := q10.cell 1;rw [show w.heap.size + 2 = w.heap.size + 1 + 1 from rfl] at g0 g1;exact bodyPost_ret (v := .agg #[.string t1, .string t2]) (by simp [results, Tryz.results82, go_sem, g0, g1]) rfl ⟨by rw [HR.o], ((HBW.o.trans (hw10.mono HBW.o.size)).setCell (show w.heap.size <= w.heap.size + 2 by omega) _).setCell (show w.heap.size <= w.heap.size + 2 by omega) _⟩
theorem zq7 (all odd : St) (w : World) (hs : all.ok) (ht : odd.ok) (ha : all.a < 256) (hb : all.b = 0) (h8 : lenA all <= 8) (hk : all.cut odd ≠ St.zero -> 1 <= lenA all) :
 Calls Tryz.prog 83 #[stv all, stv odd] w fun e w' => e = .returned (ctv (zmg (lenA all) (!eqSt (all.cut odd) St.zero))) /\ Below w.heap.size w w' := by
 have HLN := lh (fun V => zy3 all V ha hb);have HCU := lh (fun V => zph all odd V hs ht)
 have hq : ∀ w : World, (binOp .eql 40 (.agg #[.int .u64 ((all.cut odd).a : Int), .int .u64 ((all.cut odd).b : Int)]) (.agg #[.int .u64 0, .int .u64 0])).run Tryz.prog w = .ok (.bool (eqSt (all.cut odd) St.zero)) w := fun w => zqb _ St.zero w
 have hgd := zfp;have HP := lh (fun V => zif (lenA all) h8 V)
 have HQ : Hid (1 <= lenA all -> ∀ V : World, Calls Tryz.prog 16 #[.int .i64 ((lenA all : Int) - 1)] V fun e w' => e = .returned (natv (2 ^ (lenA all - 1))) /\ Below V.heap.size V w') := fun h V => by
  have h1 := zif (lenA all - 1) (by omega) V;rw [show ((lenA all - 1 : Nat) : Int) = (lenA all : Int) - 1 by omega] at h1;exact h1
 have HK : Hid (eqSt (all.cut odd) St.zero = false -> 1 <= lenA all) := fun h => hk (by simpa [eqSt] using h)
 have HF : Hid (∀ m, zmg (lenA all) m = if m then ⟨2 ^ (lenA all - 1), 2 ^ (lenA all - 1)⟩ else ⟨2 ^ lenA all, 0⟩) := fun _ => rfl
 have e0 : natB 0 = ⟨#[]⟩ := rfl;have h8' := h8;have HBW : Hid (Below w.heap.size w (((w.alloc (.cells #[.int .u64 (all.a : Int), .int .u64 (all.b : Int)] 40)).alloc (.cells #[.int .u64 (odd.a : Int), .int .u64 (odd.b : Int)] 40)).alloc (.cells #[.string ⟨#[]⟩, .string ⟨#[]⟩] 97))) := ((ba _ _).alloc (by simp) _).alloc (by simp; omega) _;obtain ⟨W, hW⟩ := nm ((((w.alloc (.cells #[.int .u64 (all.a : Int), .int .u64 (all.b : Int)] 40)).alloc (.cells #[.int .u64 (odd.a : Int), .int .u64 (odd.b : Int)] 40)).alloc (.cells #[.string ⟨#[]⟩, .string ⟨#[]⟩] 97)))
 have q0 : Blk W w.heap.size #[.int .u64 (all.a : Int), .int .u64 (all.b : Int)] 40 := by rw [hW]; exact ((Blk.new _ _ _).alloc _).alloc _
 have q1 : Blk W (w.heap.size + 1) #[.int .u64 (odd.a : Int), .int .u64 (odd.b : Int)] 40 := by rw [hW]; exact (Blk.new' _ (by simp only [World.size_alloc]) _ _).alloc _
 have q2 : Blk W (w.heap.size + 1 + 1) #[.string ⟨#[]⟩, .string ⟨#[]⟩] 97 := by rw [hW]; exact Blk.new' _ (by simp only [World.size_alloc]) _ _
 have Q0 := lh q0;have Q1 := lh q1;have Q2 := lh q2;rw [<- hW] at HBW;clear hs ht ha hb h8 hk q0 q1 q2;have HK8 := lh h8';clear h8';generalize lenA all = k at *;generalize hst : all.cut odd = st at *
 have hz : eqSt st St.zero = true \/ eqSt st St.zero = false := by cases eqSt st St.zero <;> simp
 rcases hz with hz | hz
 case' inl =>
  rw [hz] at hq ⊢;have HR : Hid (zmg k (!true) = ⟨2 ^ k, 0⟩) := HF.o _;have HR2 := lh hz;unfold natv at HP;rw [HR.o];unfold ctv;simp only;rw [e0];generalize natB (2 ^ k) = s1 at *;clear e0 HQ HK HF HR hst hz;go_enter Tryz.func83, Tryz.ntmps83;go_wp2_with fail;rw [<- hW];clear hW;refine (HLN.o _).mono ?_;rintro e w4 ⟨rfl, hb4⟩;have p0 := (Q0.o.later hb4).cell 0;have p1 := (Q0.o.later hb4).cell 1;have p2 := (Q1.o.later hb4).cell 0;have p3 := (Q1.o.later hb4).cell 1;have pl := (Q1.o.later hb4).lt;go_wp2_with fail;refine (HCU.o _).mono ?_;rintro e w5 ⟨rfl, hb5⟩;have hb45 := hb4.trans (hb5.mono hb4.size)
  clear hb4 hb5 p0 p1 p2 p3 pl;go_wp2_with fail;refine (HP.o _).mono ?_;rintro e w6 ⟨rfl, hb6⟩;have hb46 := hb45.trans (hb6.mono hb45.size);have q6 := Q2.o.later hb46;have d0 := q6.cell 0;have d1 := q6.cell 1;have f0 := q6.fr 0;have f1 := q6.fr 1;have ez := q6.lt;clear hb45 hb6;go_wp2_with fail;have g0 := ((q6.set 0 (.string s1)).set 1 (.string ⟨#[]⟩)).cell 0;have g1 := ((q6.set 0 (.string s1)).set 1 (.string ⟨#[]⟩)).cell 1;exact bodyPost_ret (v := .agg #[.string s1, .string ⟨#[]⟩]) (by simp [results, Tryz.results83, go_sem, g0, g1]) rfl ⟨rfl, ((HBW.o.trans (hb46.mono HBW.o.size)).setCell (show w.heap.size <= w.heap.size + 1 + 1 by omega) _).setCell (show w.heap.size <= w.heap.size + 1 + 1 by omega) _⟩
 case' inr =>
  rw [hz] at hq ⊢;have HR : Hid (zmg k (!false) = ⟨2 ^ (k - 1), 2 ^ (k - 1)⟩) := HF.o _;have HP := lh (HQ.o (HK.o hz));unfold natv at HP;rw [HR.o];unfold ctv;simp only;generalize natB (2 ^ (k - 1)) = s1 at *;have HKB : Hid (1 <= k) := HK.o hz;clear e0 HQ HK HF HR hst hz;go_enter Tryz.func83, Tryz.ntmps83;go_wp2_with fail;rw [<- hW];clear hW;refine (HLN.o _).mono ?_;rintro e w4 ⟨rfl, hb4⟩;have p0 := (Q0.o.later hb4).cell 0;have p1 := (Q0.o.later hb4).cell 1;have p2 := (Q1.o.later hb4).cell 0;have p3 := (Q1.o.later hb4).cell 1;have pl := (Q1.o.later hb4).lt;go_wp2_with fail;refine (HCU.o _).mono ?_
  rintro e w5 ⟨rfl, hb5⟩;have hb45 := hb4.trans (hb5.mono hb4.size);clear hb4 hb5 p0 p1 p2 p3 pl;have hk1 := HKB.o;have hk8 := HK8.o;go_wp2_with fail;refine (HP.o _).mono ?_;rintro e w6 ⟨rfl, hb6⟩;have hb46 := hb45.trans (hb6.mono hb45.size);clear hb45 hb6;go_wp2_with fail;refine (HP.o _).mono ?_;rintro e w7 ⟨rfl, hb7⟩;have hb47 := hb46.trans (hb7.mono hb46.size);have q6 := Q2.o.later hb47;have d0 := q6.cell 0;have d1 := q6.cell 1;have f0 := q6.fr 0;have f1 := q6.fr 1;have ez := q6.lt;clear hb46 hb7;go_wp2_with fail;have g0 := ((q6.set 0 (.string s1)).set 1 (.string s1)).cell 0;have g1 := ((q6.set 0 (.string s1)).set 1 (.string s1)).cell 1
  exact bodyPost_ret (v := .agg #[.string s1, .string s1]) (by simp [results, Tryz.results83, go_sem, g0, g1]) rfl ⟨rfl, ((HBW.o.trans (hb47.mono HBW.o.size)).setCell (show w.heap.size <= w.heap.size + 1 + 1 by omega) _).setCell (show w.heap.size <= w.heap.size + 1 + 1 by omega) _⟩
end Go.Proofs.YtlleofjjdhfgcaaGreatDoor
