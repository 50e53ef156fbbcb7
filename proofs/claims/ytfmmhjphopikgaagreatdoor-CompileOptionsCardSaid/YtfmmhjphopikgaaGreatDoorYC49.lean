/- Part of the proofs that laws of censuslaw24 return true for every input, where the tables that the rows list are laid. Texts: NEval. -/
import Derived.Test.YtfmmhjphopikgaaGreatDoorYC48
import Derived.Test.YtfmmhjphopikgaaGreatDoorYC32
import Derived.Test.YtfmmhjphopikgaaGreatDoorYC1
set_option maxHeartbeats 8000000
set_option maxRecDepth 100000
set_option linter.unusedSimpArgs false
set_option linter.unusedVariables false
namespace Go.Proofs.YtfmmhjphopikgaaGreatDoor
open Go.RowKit Cen
theorem eval1_any (x : Int) (q : Addr) (g n c : Nat) (b : Bool) (w : World) (hq : w.cell? q = some (.slice (some ⟨g, 0, none⟩) n c)) (h0 : 0 <= x) (h1 : x < n) (hc : w.cell? ⟨g, x.toNat, none⟩ = some (.bool b)) :
 Calls Tryz.prog 58 #[.int .i64 x, .pointer (some q)] w fun e w' => e = .returned (.bool (!b)) /\ w = w' := by
 go_enter Tryz.func58, Tryz.ntmps58;go_wp2;go_ret;exact ⟨rfl, rfl⟩
theorem eval2_any (x : Int) (q : Addr) (g n c : Nat) (b : Bool) (w : World) (hq : w.cell? q = some (.slice (some ⟨g, 0, none⟩) n c)) (h0 : 0 <= x) (h1 : x < n) (hc : w.cell? ⟨g, x.toNat, none⟩ = some (.bool b)) :
 Calls Tryz.prog 59 #[.int .i64 x, .pointer (some q)] w fun e w' => e = .returned (.bool b) /\ w = w' := by
 go_enter Tryz.func59, Tryz.ntmps59;go_wp2;go_ret;exact ⟨rfl, rfl⟩
theorem callable_eval1 : zb0 58 := fun _ _ => by kernel_rfl
theorem callable_eval2 : zb0 59 := fun _ _ => by kernel_rfl
theorem all_any_not (f : Int -> Bool) (xs : List Int) : xs.all f = !(xs.any fun i => !f i) := by
 rw [List.not_any_eq_all_not]; congr 1; funext i; simp
theorem nEval_any (n : Int) (a : Option Addr) (cap : Nat) (l : List Nd) (s : St) (w : World) (hl : l.length <= 1073741824) (hx : NdCells w a l) (hs : s.ok) :
 Calls Tryz.prog 23 #[.agg #[.int .i64 n, .slice a l.length cap], stv s] w fun e w' => e = .returned (.bool (zdi ⟨n, l⟩ && ev s.mem ⟨n, l⟩)) /\ Below w.heap.size w w' := by
 have hb0 : Below w.heap.size w ((w.alloc (.cells #[.int .i64 n, .slice a l.length cap] 33)).alloc (.cells #[.int .u64 (s.a : Int), .int .u64 (s.b : Int)] 56)) := ((Below.refl _ _).alloc (Nat.le_refl _) _).alloc (by simp) _;have HB0 := lh hb0;have q0 := lh ((Blk.new w #[.int .i64 n, .slice a l.length cap] 33).alloc (.cells #[.int .u64 (s.a : Int), .int .u64 (s.b : Int)] 56));have q1 := lh (Blk.new' (w.alloc (.cells #[.int .i64 n, .slice a l.length cap] 33)) (World.size_alloc _ _) #[.int .u64 (s.a : Int), .int .u64 (s.b : Int)] 56);have HX := lh (hx.keep hb0);have HCK := lh (check_any n a cap l _ hl (hx.keep hb0))
 have HS := lh hs;clear hb0 hx hs
 cases hok : zdi ⟨n, l⟩ with
 | false =>
   have HE : Hid (chk ⟨n, l⟩ = 1) := by show _ = _; simp [chk, hok]
   rw [HE.o] at HCK;clear hok;go_enter Tryz.func23, Tryz.ntmps23;go_wp2_with fail;refine HCK.o.mono ?_;rintro e w1 ⟨rfl, hb1⟩;have HB1 := lh (HB0.o.trans (hb1.mono HB0.o.size));clear hb1;go_wp2;go_ret;exact ⟨rfl, HB1.o⟩
 | true =>
   have HE : Hid (chk ⟨n, l⟩ = 0) := by show _ = _; simp [chk, hok]
   rw [HE.o] at HCK;have HK := lh hok;obtain ⟨_, _, hl1, hl2⟩ := zcv hok;simp only at hl1 hl2;have HL1 := lh hl1
   have HM1 : Hid (l.length <= maxLen) := by show _ <= _; unfold maxLen; omega
   clear hok hl1;go_enter Tryz.func23, Tryz.ntmps23;go_wp2_with fail;refine HCK.o.mono ?_;rintro e w1 ⟨rfl, hb1⟩;have R0 := lh (q0.out.later hb1);have R1 := lh (q1.out.later hb1);have HB1 := lh (HB0.o.trans (hb1.mono HB0.o.size));have HX1 := lh (HX.o.keep hb1);have k0 : w1.cell? ⟨w.heap.size, 0, none⟩ = some (.int .i64 n) := R0.o.cell 0;have k1 : w1.cell? ⟨w.heap.size, 1, none⟩ = some (.slice a l.length cap) := R0.o.cell 1;clear hb1;go_wp2_with (at_make; refine mk zk0 rfl _ _ rfl w1.heap.size .i64 .i64 _ _ l.length rfl rfl rfl rfl (by omega) HM1.o (Nat.le_refl _) bc false rfl ?_);intro w2 hown2 hgrow2
   have HO2 := lh hown2;have HB2 : Hid (Below w1.heap.size w1 w2) := (Below.refl _ _).grown hgrow2 (Nat.le_refl _) (by simp);have R2 := lh (R0.o.later HB2.o);have hz : w.heap.size < w2.heap.size := R2.o.lt;clear hown2 hgrow2 k0 k1;have k0 : w2.cell? ⟨w.heap.size, 0, none⟩ = some (.int .i64 n) := R2.o.cell 0;have k1 : w2.cell? ⟨w.heap.size, 1, none⟩ = some (.slice a l.length cap) := R2.o.cell 1
   obtain ⟨g, hg⟩ : ∃ g, g = w1.heap.size := ⟨_, rfl⟩
   rw [<- hg] at HO2 ⊢;have HG := lh hg;have hgz : g < w2.heap.size := HO2.o.lt.1;clear hg;go_wp2
   obtain ⟨bx, hbx⟩ : ∃ bx, bx = w2.heap.size := ⟨_, rfl⟩
   have QX : Hid (Blk (w2.alloc (.cells #[.slice (some ⟨g, 0, none⟩) l.length l.length] 96)) bx #[.slice (some ⟨g, 0, none⟩) l.length l.length] 96) := Blk.new' w2 hbx.symm _ _;have HB3 : Hid (Below w1.heap.size w1 (w2.alloc (.cells #[.slice (some ⟨g, 0, none⟩) l.length l.length] 96))) := HB2.o.alloc HB2.o.size _
   have HO3 : Hid (OwnL bc 4 1 (w2.alloc (.cells #[.slice (some ⟨g, 0, none⟩) l.length l.length] 96)) w1.heap.size (.slice (some ⟨g, 0, none⟩) l.length l.length) (List.replicate l.length false)) := by
    show OwnL _ _ _ _ _ _ _
    rw [<- HG.o];exact HO2.o.kept (Kp.alloc (fun _ => False) _ _) (fun _ _ x => x)
   rw [<- hbx];have HBX := lh hbx;clear hbx k0 k1 hz
   go_loopw [18] (fun i wr => ∃ k : Nat, k <= l.length /\ i = .int .i64 k /\ OwnL bc 4 1 wr w1.heap.size (.slice (some ⟨g, 0, none⟩) l.length l.length) (zc7 s.mem (l.take k) ++ List.replicate (l.length - k) false) /\ Blk wr bx #[.slice (some ⟨g, 0, none⟩) l.length l.length] 96 /\ Below w1.heap.size w1 wr) (fun i _ => l.length - (intOf i).toNat)
   case atStart => exact ⟨0, Nat.zero_le _, rfl, by simpa [zc7, evs] using HO3.o, QX.o, HB3.o⟩
   obtain ⟨k, hk, rfl, hown, hqx, hb⟩ := hrel;have HO := lh hown;have HQX := lh hqx;have HB := lh hb;have HBA := lh (HB1.o.trans (hb.mono HB1.o.size));have RS := lh (R1.o.later hb);have bx0 : wr.cell? ⟨bx, 0, none⟩ = some (.slice (some ⟨g, 0, none⟩) l.length l.length) := hqx.cell 0;have bxz : bx < wr.heap.size := hqx.lt;have gz : g < wr.heap.size := hown.lt.1;clear hown hqx hb
   by_cases hlt : k < l.length
   ·obtain ⟨b, off, rfl, c0', c1', av, cv, c2', hin, hil⟩ := HX1.o k hlt
    have hgd : l.getD k default = l[k] := by simp [List.getD_eq_getElem?_getD, hlt]
    rw [hgd] at c0' c1' c2' hin hil;have hbw : b < w1.heap.size := zak c0';have c0 := HB.o.cell (p := ⟨b, off + k * 3, none⟩) hbw;have c1 := HB.o.cell (p := ⟨b, off + k * 3 + 1, none⟩) hbw;have c2 := HB.o.cell (p := ⟨b, off + k * 3 + 2, none⟩) hbw;rw [c0'] at c0;rw [c1'] at c1;rw [c2'] at c2;have hnk := ztz HK.o hlt;simp only at hnk
    have HTS : Hid (zc7 s.mem (l.take (k + 1)) = zc7 s.mem (l.take k) ++ [evNd s.mem (at' (zc7 s.mem (l.take k))) l[k]]) := by
     show _ = _; rw [List.take_succ_eq_append_getElem hlt, zkp]
    have HTL : Hid (k = (zc7 s.mem (l.take k)).length) := by show _ = _; rw [zcl, List.length_take]; omega
    have hrep : List.replicate (l.length - k) false = false :: List.replicate (l.length - k - 1) false := by rw [<- List.replicate_succ]; congr 1; omega
    have HN : Hid (∀ c : Bool, l.length = (zc7 s.mem (l.take k) ++ c :: List.replicate (l.length - k - 1) false).length) := fun c => by simp [zcl]; omega
    have ho3 := HO.o;rw [hrep] at ho3;clear hrep;generalize zc7 s.mem (l.take k) = vs at *;generalize hzs : List.replicate (l.length - k - 1) false = zs at *;have HREP := lh hzs;clear hzs;generalize l[k] = x at *;have HO4 := lh ho3;have HINS := lh (zty hnk);have hbz : b < wr.heap.size := zak c0
    have hkl : (k : Int) < (l.length : Int) := by omega
    have hk0 : (0 : Int) <= (k : Int) := by omega
    have HKL := lh hkl;have HIN := lh (hin.keep HB.o);have HIL := lh hil
    obtain ⟨nb, hnb⟩ : ∃ nb, nb = wr.heap.size := ⟨_, rfl⟩
    obtain ⟨W1, hW1⟩ : ∃ W1, W1 = wr.alloc (.cells #[.int .i64 x.kind, .int .i64 x.lit, .slice av x.ins.length cv] 48) := ⟨_, rfl⟩
    have HA1 : Hid (Below wr.heap.size wr W1) := by show Below _ _ _; rw [hW1]; exact (Below.refl _ _).alloc (Nat.le_refl _) _
    have QN : Hid (Blk W1 nb #[.int .i64 x.kind, .int .i64 x.lit, .slice av x.ins.length cv] 48) := by show Blk _ _ _ _; rw [hW1]; exact Blk.new' wr hnb.symm _ _
    have HNB := lh hnb;have HW1 := lh hW1;have HSZ1 : Hid (wr.heap.size <= W1.heap.size) := HA1.o.size;have HO5 := lh (HO4.o.later HA1.o);have HQ5 := lh (HQX.o.later HA1.o);have RS5 := lh (RS.o.later HA1.o)
    have HFR : Hid (∀ V, Below W1.heap.size W1 V -> V.frozen? ⟨g, k, none⟩ = false /\ ∃ u, V.cell? ⟨g, k, none⟩ = some u) := lh fun V hV =>
     ⟨(HO5.o.later hV).fr (HN.o _) k, _, by have h := (HO5.o.later hV).mid HTL.o (HN.o _) zht 0 (by omega); rw [Nat.mul_one, Nat.add_zero] at h; rw [h]; rfl⟩
    have HPUT : Hid (∀ (V : World) (c : Bool), Below W1.heap.size W1 V -> evNd s.mem (at' vs) x = c ->
     OwnL bc 4 1 (V.setCell ⟨g, k, none⟩ (.bool c)) w1.heap.size (.slice (some ⟨g, 0, none⟩) l.length l.length) (zc7 s.mem (l.take (k + 1)) ++ List.replicate (l.length - (k + 1)) false) /\
     Blk (V.setCell ⟨g, k, none⟩ (.bool c)) bx #[.slice (some ⟨g, 0, none⟩) l.length l.length] 96 /\ Below w1.heap.size w1 (V.setCell ⟨g, k, none⟩ (.bool c))) := lh fun V c hV hc => by
     refine ⟨?_, (HQ5.o.later hV).other _ _ (by have h1 := HG.o; have h2 := HBX.o; dsimp only; omega), ?_⟩
     ·rw [HTS.o, hc, show l.length - (k + 1) = l.length - k - 1 by omega, HREP.o, List.append_assoc];exact (HO5.o.later hV).midput1 HTL.o (HN.o _) zht c (.bool c) rfl
     exact (HB.o.trans ((HA1.o.trans (hV.mono HSZ1.o)).mono HB.o.size)).setCell (by have := HG.o; dsimp only; omega) _
    have b0 : W1.cell? ⟨bx, 0, none⟩ = some (.slice (some ⟨g, 0, none⟩) l.length l.length) := HQ5.o.cell 0;have s0 : W1.cell? ⟨w.heap.size + 1, 0, none⟩ = some (.int .u64 (s.a : Int)) := RS5.o.cell 0;have s1 : W1.cell? ⟨w.heap.size + 1, 1, none⟩ = some (.int .u64 (s.b : Int)) := RS5.o.cell 1;have n0 : W1.cell? ⟨nb, 0, none⟩ = some (.int .i64 x.kind) := QN.o.cell 0;have n1 : W1.cell? ⟨nb, 1, none⟩ = some (.int .i64 x.lit) := QN.o.cell 1;have n2 : W1.cell? ⟨nb, 2, none⟩ = some (.slice av x.ins.length cv) := QN.o.cell 2
    have HKS : Hid (∀ w' : World, Kp (fun y => y = g) W1 w' -> w'.cell? ⟨bx, 0, none⟩ = some (.slice (some ⟨g, 0, none⟩) l.length l.length) /\ w'.cell? ⟨w.heap.size + 1, 0, none⟩ = some (.int .u64 (s.a : Int)) /\ w'.cell? ⟨w.heap.size + 1, 1, none⟩ = some (.int .u64 (s.b : Int)) /\ w'.cell? ⟨nb, 1, none⟩ = some (.int .i64 x.lit) /\ w'.cell? ⟨nb, 2, none⟩ = some (.slice av x.ins.length cv)) := lh fun w' hk => by
     have h1 := HG.o;have h2 := HBX.o;have h3 := R1.o.lt;have h4 := HNB.o;exact ⟨hk.cell b0 (by dsimp only; omega), hk.cell s0 (by dsimp only; omega), hk.cell s1 (by dsimp only; omega), hk.cell n1 (by dsimp only; omega), hk.cell n2 (by dsimp only; omega)⟩
    have HHO := lh (fun V => nHolds_any s x.lit V HS.o)
    have HCELL : Hid (∀ (V : World) (i : Int), i ∈ x.ins -> Below W1.heap.size W1 V -> V.cell? ⟨g, i.toNat, none⟩ = some (.bool (at' vs i)) /\ 0 <= i /\ i < (l.length : Int)) := lh fun V i hi hV => by
     have hq := HINS.o i hi;have hlen := HTL.o
     have hlv : i.toNat < vs.length := by omega
     refine ⟨?_, hq.1, by have := HKL.o; omega⟩;have h := (HO5.o.later hV).left hlv (HN.o _) zht 0 (by omega);rw [Nat.mul_one, Nat.add_zero] at h;rw [h];unfold at'
     simp [bc, List.getD_eq_getElem?_getD, hlv]
    have HC1 : Hid (∀ V, Below W1.heap.size W1 V -> Calls Tryz.prog 57 #[.slice av x.ins.length cv, .func (.func 58) #[] #[.pointer (some ⟨bx, 0, none⟩)]] V fun e w' => e = .returned (.bool (x.ins.any fun i => !at' vs i)) /\ V = w') := lh fun V hV =>
     zd4 av cv x.ins 58 #[.pointer (some ⟨bx, 0, none⟩)] (fun i => !at' vs i) V (by have := HIL.o; omega) ((HIN.o.keep HA1.o).keep hV)
      (fun i hi => by
        obtain ⟨h1, h2, h3⟩ := HCELL.o V i hi hV
        exact eval1_any i ⟨bx, 0, none⟩ g l.length l.length _ V ((HQ5.o.later hV).cell 0) h2 h3 h1) callable_eval1
    have HC2 : Hid (∀ V, Below W1.heap.size W1 V -> Calls Tryz.prog 57 #[.slice av x.ins.length cv, .func (.func 59) #[] #[.pointer (some ⟨bx, 0, none⟩)]] V fun e w' => e = .returned (.bool (x.ins.any fun i => at' vs i)) /\ V = w') := lh fun V hV =>
     zd4 av cv x.ins 59 #[.pointer (some ⟨bx, 0, none⟩)] (fun i => at' vs i) V (by have := HIL.o; omega) ((HIN.o.keep HA1.o).keep hV)
      (fun i hi => by
        obtain ⟨h1, h2, h3⟩ := HCELL.o V i hi hV
        exact eval2_any i ⟨bx, 0, none⟩ g l.length l.length _ V ((HQ5.o.later hV).cell 0) h2 h3 h1) callable_eval2
    have hkd := zid hnk;clear c0' c1' c2' hgd hin hil hnk ho3 hnb hW1 hkl;have hkl : (k : Int) < (l.length : Int) := HKL.o
    by_cases e1 : x.kind = 1
    ·have d1 : (x.kind == 1) = true := by simpa using e1
     have HV : Hid (evNd s.mem (at' vs) x = true) := by show _ = _; unfold evNd; rw [if_pos e1]
     clear e1 hkd;obtain ⟨fr, u, hu⟩ := HFR.o W1 (Below.refl _ _);have hp := HPUT.o W1 true (Below.refl _ _) HV.o;rw [HW1.o] at fr hu hp;rw [World.setCell_alloc_past _ _ _ _ gz] at hp;have HP := lh hp;clear hp;go_wp2;go_roundw
     case rel => exact ⟨k + 1, by omega, by go_num, HP.o.1, HP.o.2.1, HP.o.2.2⟩
     case measure => simp [intOf]; omega
    have d1 : (x.kind == 1) = false := by simpa using e1
    by_cases e2 : x.kind = 2
    ·have d2 : (x.kind == 2) = true := by simpa using e2
     have HV : Hid (evNd s.mem (at' vs) x = zbw s.mem x.lit) := by show _ = _; unfold evNd; rw [if_neg e1, if_pos e2]
     obtain ⟨hv, hhv⟩ : ∃ hv, hv = zbw s.mem x.lit := ⟨_, rfl⟩
     rw [<- hhv] at HHO HV;clear e1 e2 hkd hhv;go_wp2_with fail;rw [<- HW1.o, <- HNB.o];refine wp_region_held_drew (S := (fun w' => w'.cell? ⟨bx, 0, none⟩ = some (.slice (some ⟨g, 0, none⟩) l.length l.length) /\ w'.cell? ⟨w.heap.size + 1, 0, none⟩ = some (.int .u64 (s.a : Int)) /\ w'.cell? ⟨w.heap.size + 1, 1, none⟩ = some (.int .u64 (s.b : Int)) /\ w'.cell? ⟨nb, 1, none⟩ = some (.int .i64 x.lit) /\ w'.cell? ⟨nb, 2, none⟩ = some (.slice av x.ins.length cv))) (by kernel_rfl) ?_ (fun hHeld => ?_)
     ·try dsimp only
      exact HKS.o _ (Kp.below (Below.refl _ _).drew)
     refine tkV 0 32 rfl rfl ?_; try simp only [tkS]
     refine tkV 1 33 rfl rfl ?_; try simp only [tkS]
     refine tkV 2 34 rfl rfl ?_; try simp only [tkS]
     refine tkV 3 35 rfl rfl ?_; try simp only [tkS]
     refine tkV 4 36 rfl rfl ?_; try simp only [tkS]
     refine tkR 5 (.cons rfl (fun K hK => ?_) .nil);go_simp;go_at_call 56;refine (HHO.o _).mono ?_;rintro e w5 ⟨rfl, hb5⟩;have hw5 : Below W1.heap.size W1 w5 := Below.trans (Below.refl _ _).drew hb5;clear hb5;obtain ⟨fr, u, hu⟩ := HFR.o _ hw5;go_wp2_with fail;refine hK.out _ _ ?_ (fun hHeld => ?_)
     ·try dsimp only
      exact HKS.o _ (Kp.below hw5)
     clear hK K
     try simp only [tkS]
     refine tkV 6 38 rfl rfl ?_; try simp only [tkS]
     refine tkR 7 (.cons rfl (fun K hK => ?_) .nil);go_simp;refine hK.out _ _ ?_ (fun hHeld => ?_)
     ·try dsimp only
      exact HKS.o _ (Kp.trans (M := fun y => y = g) (Kp.below hw5) (Kp.setCell (M := fun y => y = g) _ _ _ rfl))
     clear hK K
     try simp only [tkS]
     refine wpAnyH_done (by kernel_rfl) ?_ _
     all_goals
      have HP := lh (HPUT.o _ _ hw5 HV.o);go_wp2;go_roundw
      case rel => exact ⟨k + 1, by omega, by go_num, HP.o.1, HP.o.2.1, HP.o.2.2⟩
      case measure => simp [intOf]; omega
    have d2 : (x.kind == 2) = false := by simpa using e2
    by_cases e3 : x.kind = 3
    ·have d3 : (x.kind == 3) = true := by simpa using e3
     have HV : Hid (evNd s.mem (at' vs) x = !(x.ins.any fun i => !at' vs i)) := by show _ = _; unfold evNd; rw [if_neg e1, if_neg e2, if_pos e3, all_any_not]
     obtain ⟨hv, hhv⟩ : ∃ hv, hv = (x.ins.any fun i => !at' vs i) := ⟨_, rfl⟩
     rw [<- hhv] at HC1 HV;clear e1 e2 e3 hkd hhv;go_wp2_with fail;rw [<- HW1.o, <- HNB.o];refine wp_region_held_drew (S := (fun w' => w'.cell? ⟨bx, 0, none⟩ = some (.slice (some ⟨g, 0, none⟩) l.length l.length) /\ w'.cell? ⟨w.heap.size + 1, 0, none⟩ = some (.int .u64 (s.a : Int)) /\ w'.cell? ⟨w.heap.size + 1, 1, none⟩ = some (.int .u64 (s.b : Int)) /\ w'.cell? ⟨nb, 1, none⟩ = some (.int .i64 x.lit) /\ w'.cell? ⟨nb, 2, none⟩ = some (.slice av x.ins.length cv))) (by kernel_rfl) ?_ (fun hHeld => ?_)
     ·try dsimp only
      exact HKS.o _ (Kp.below (Below.refl _ _).drew)
     refine tkV 0 41 rfl rfl ?_; try simp only [tkS]
     refine tkV 1 42 rfl rfl ?_; try simp only [tkS]
     refine tkV 2 43 rfl rfl ?_; try simp only [tkS]
     refine tkV 3 44 rfl rfl ?_; try simp only [tkS]
     refine tkV 4 45 rfl rfl ?_; try simp only [tkS]
     refine tkR 5 (.cons rfl (fun K hK => ?_) .nil);go_simp;go_at_call 57;refine (HC1.o _ (Below.refl _ _).drew).mono ?_;rintro e w' ⟨rfl, rfl⟩
     try go_wp2_with fail
     refine hK.out _ _ ?_ (fun hHeld => ?_)
     ·try dsimp only
      exact HKS.o _ (Kp.below (Below.refl _ _).drew)
     clear hK K
     try simp only [tkS]
     obtain ⟨fr, u, hu⟩ := HFR.o _ (Below.refl _ _).drew
     refine tkV 6 47 rfl rfl ?_; try simp only [tkS]
     refine tkV 7 48 rfl rfl ?_; try simp only [tkS]
     refine tkR 8 (.cons rfl (fun K hK => ?_) .nil);go_simp;refine hK.out _ _ ?_ (fun hHeld => ?_)
     ·try dsimp only
      exact HKS.o _ (Kp.trans (M := fun y => y = g) (Kp.below (Below.refl _ _).drew) (Kp.setCell (M := fun y => y = g) _ _ _ rfl))
     clear hK K
     try simp only [tkS]
     refine wpAnyH_done (by kernel_rfl) ?_ _
     all_goals
      have HP := lh (HPUT.o _ _ (Below.refl _ _).drew HV.o);go_wp2;go_roundw
      case rel => exact ⟨k + 1, by omega, by go_num, HP.o.1, HP.o.2.1, HP.o.2.2⟩
      case measure => simp [intOf]; omega
    have d3 : (x.kind == 3) = false := by simpa using e3
    by_cases e4 : x.kind = 4
    ·have d4 : (x.kind == 4) = true := by simpa using e4
     have HV : Hid (evNd s.mem (at' vs) x = x.ins.any fun i => at' vs i) := by show _ = _; unfold evNd; rw [if_neg e1, if_neg e2, if_neg e3, if_pos e4]
     obtain ⟨hv, hhv⟩ : ∃ hv, hv = (x.ins.any fun i => at' vs i) := ⟨_, rfl⟩
     rw [<- hhv] at HC2 HV;clear e1 e2 e3 e4 hkd hhv;go_wp2_with fail;rw [<- HW1.o, <- HNB.o];refine wp_region_held_drew (S := (fun w' => w'.cell? ⟨bx, 0, none⟩ = some (.slice (some ⟨g, 0, none⟩) l.length l.length) /\ w'.cell? ⟨w.heap.size + 1, 0, none⟩ = some (.int .u64 (s.a : Int)) /\ w'.cell? ⟨w.heap.size + 1, 1, none⟩ = some (.int .u64 (s.b : Int)) /\ w'.cell? ⟨nb, 1, none⟩ = some (.int .i64 x.lit) /\ w'.cell? ⟨nb, 2, none⟩ = some (.slice av x.ins.length cv))) (by kernel_rfl) ?_ (fun hHeld => ?_)
     ·try dsimp only
      exact HKS.o _ (Kp.below (Below.refl _ _).drew)
     refine tkV 0 51 rfl rfl ?_; try simp only [tkS]
     refine tkV 1 52 rfl rfl ?_; try simp only [tkS]
     refine tkV 2 53 rfl rfl ?_; try simp only [tkS]
     refine tkV 3 54 rfl rfl ?_; try simp only [tkS]
     refine tkV 4 55 rfl rfl ?_; try simp only [tkS]
     refine tkR 5 (.cons rfl (fun K hK => ?_) .nil);go_simp;go_at_call 57;refine (HC2.o _ (Below.refl _ _).drew).mono ?_;rintro e w' ⟨rfl, rfl⟩
     try go_wp2_with fail
     refine hK.out _ _ ?_ (fun hHeld => ?_)
     ·try dsimp only
      exact HKS.o _ (Kp.below (Below.refl _ _).drew)
     clear hK K
     try simp only [tkS]
     obtain ⟨fr, u, hu⟩ := HFR.o _ (Below.refl _ _).drew
     refine tkV 6 57 rfl rfl ?_; try simp only [tkS]
     refine tkR 7 (.cons rfl (fun K hK => ?_) .nil);go_simp;refine hK.out _ _ ?_ (fun hHeld => ?_)
     ·try dsimp only
      exact HKS.o _ (Kp.trans (M := fun y => y = g) (Kp.below (Below.refl _ _).drew) (Kp.setCell (M := fun y => y = g) _ _ _ rfl))
     clear hK K
     try simp only [tkS]
     refine wpAnyH_done (by kernel_rfl) ?_ _
     all_goals
      have HP := lh (HPUT.o _ _ (Below.refl _ _).drew HV.o);go_wp2;go_roundw
      case rel => exact ⟨k + 1, by omega, by go_num, HP.o.1, HP.o.2.1, HP.o.2.2⟩
      case measure => simp [intOf]; omega
    have d4 : (x.kind == 4) = false := by simpa using e4
    have HV : Hid (evNd s.mem (at' vs) x = false) := by show _ = _; unfold evNd; rw [if_neg e1, if_neg e2, if_neg e3, if_neg e4]
    have HP : Hid (OwnL bc 4 1 (wr.alloc (.cells #[.int .i64 x.kind, .int .i64 x.lit, .slice av x.ins.length cv] 48)) w1.heap.size (.slice (some ⟨g, 0, none⟩) l.length l.length) (zc7 s.mem (l.take (k + 1)) ++ List.replicate (l.length - (k + 1)) false) /\
     Blk (wr.alloc (.cells #[.int .i64 x.kind, .int .i64 x.lit, .slice av x.ins.length cv] 48)) bx #[.slice (some ⟨g, 0, none⟩) l.length l.length] 96 /\ Below w1.heap.size w1 (wr.alloc (.cells #[.int .i64 x.kind, .int .i64 x.lit, .slice av x.ins.length cv] 48))) := by
     show _ /\ _ /\ _
     rw [<- HW1.o];refine ⟨?_, HQ5.o, HB.o.trans (HA1.o.mono HB.o.size)⟩;rw [HTS.o, HV.o, show l.length - (k + 1) = l.length - k - 1 by omega, HREP.o, List.append_assoc];exact HO5.o
    clear e1 e2 e3 e4 hkd;go_wp2;go_roundw
    case rel => exact ⟨k + 1, by omega, by go_num, HP.o.1, HP.o.2.1, HP.o.2.2⟩
    case measure => simp [intOf]; omega
   have : k = l.length := by omega
   subst this
   have HTL : Hid (l.length = (zc7 s.mem l).length) := by show _ = _; rw [zcl]
   have ho := HO.o;rw [List.take_length, Nat.sub_self, List.replicate_zero, List.append_nil] at ho;have hc := ho.cell HTL.o zht (l.length - 1) 0 (by rw [<- HTL.o]; have := HL1.o; omega) (by omega);rw [Nat.mul_one, Nat.add_zero] at hc
   have hev : (zc7 s.mem l)[l.length - 1]'(by rw [<- HTL.o]; have := HL1.o; omega) = ev s.mem ⟨n, l⟩ := by
    unfold ev
    have h1 : l.length - 1 < (zc7 s.mem l).length := by rw [<- HTL.o]; have := HL1.o; omega
    simp [List.getD_eq_getElem?_getD, h1]
   rw [hev] at hc
   have HEV : Hid ((true && ev s.mem ⟨n, l⟩) = ev s.mem ⟨n, l⟩) := by show _ = _; simp
   obtain ⟨c, hcv⟩ : ∃ c, c = ev s.mem ⟨n, l⟩ := ⟨_, rfl⟩
   rw [<- hcv] at hc HEV;have HCV := lh hcv
   have e1 : ((l.length : Int) - 1) = ((l.length - 1 : Nat) : Int) := by have := HL1.o; omega
   have hlt2 : ((l.length - 1 : Nat) : Int) < (l.length : Int) := by have := HL1.o; omega
   have hc2 : wr.cell? ⟨g, l.length - 1, none⟩ = some (.bool c) := hc;clear ho hev hcv hc hlt;generalize hm : l.length - 1 = m at *;clear hm;go_wp2;go_ret;exact ⟨zah (by rw [<- HCV.o]; simp), HBA.o⟩
end Go.Proofs.YtfmmhjphopikgaaGreatDoor
