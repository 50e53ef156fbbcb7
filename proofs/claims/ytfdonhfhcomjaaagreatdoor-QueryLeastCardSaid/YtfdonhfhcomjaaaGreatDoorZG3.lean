/- Part of the proofs that laws of censuslaw38 return true for every input, where the tables that the rows list are laid. Texts: NEval. -/
import Derived.Test.YtfdonhfhcomjaaaGreatDoorZG2
import Derived.Test.YtfdonhfhcomjaaaGreatDoorZA19

/- The walk of node.Eval. -/
namespace Go.Proofs.YtfdonhfhcomjaaaGreatDoor
open Go.RowKit Cen
set_option maxHeartbeats 4000000
set_option maxRecDepth 100000
theorem eval1_any (x : Int) (q : Addr) (g n c : Nat) (b : Bool) (w : World) (hq : w.cell? q = some (.slice (some ⟨g, 0, none⟩) n c)) (h0 : 0 ≤ x) (h1 : x < n) (hc : w.cell? ⟨g, x.toNat, none⟩ = some (.bool b)) :
    Calls Tryz.prog 65 #[.int .i64 x, .pointer (some q)] w fun e w' => e = .returned (.bool (!b)) ∧ w = w' := by
  go_enter Tryz.func65, Tryz.ntmps65
  go_wp2
  go_ret
  exact ⟨rfl, rfl⟩
theorem eval2_any (x : Int) (q : Addr) (g n c : Nat) (b : Bool) (w : World) (hq : w.cell? q = some (.slice (some ⟨g, 0, none⟩) n c)) (h0 : 0 ≤ x) (h1 : x < n) (hc : w.cell? ⟨g, x.toNat, none⟩ = some (.bool b)) :
    Calls Tryz.prog 66 #[.int .i64 x, .pointer (some q)] w fun e w' => e = .returned (.bool b) ∧ w = w' := by
  go_enter Tryz.func66, Tryz.ntmps66
  go_wp2
  go_ret
  exact ⟨rfl, rfl⟩
theorem callable_eval1 : Callable 65 := fun _ _ => by kernel_rfl
theorem callable_eval2 : Callable 66 := fun _ _ => by kernel_rfl
theorem all_any_not (f : Int → Bool) (xs : List Int) : xs.all f = !(xs.any fun i => !f i) := by
  rw [List.not_any_eq_all_not]; congr 1; funext i; simp
theorem nEval_any (n : Int) (a : Option Addr) (cap : Nat) (l : List Nd) (s : St) (w : World) (hl : l.length ≤ 1073741824) (hx : NdCells w a l) (hs : s.ok) :
    Calls Tryz.prog 29 #[.agg #[.int .i64 n, .slice a l.length cap], stv s] w fun e w' => e = .returned (.bool (netOk ⟨n, l⟩ && ev s.mem ⟨n, l⟩)) ∧ Below w.heap.size w w' := by
  have hb0 : Below w.heap.size w ((w.alloc (.cells #[.int .i64 n, .slice a l.length cap] 24)).alloc (.cells #[.int .u64 (s.a : Int), .int .u64 (s.b : Int)] 38)) := ((Below.refl _ _).alloc (Nat.le_refl _) _).alloc (by simp) _
  have HB0 := Lib.hid hb0
  have q0 := Lib.hid ((Blk.new w #[.int .i64 n, .slice a l.length cap] 24).alloc (.cells #[.int .u64 (s.a : Int), .int .u64 (s.b : Int)] 38))
  have q1 := Lib.hid (Blk.new' (w.alloc (.cells #[.int .i64 n, .slice a l.length cap] 24)) (World.size_alloc _ _) #[.int .u64 (s.a : Int), .int .u64 (s.b : Int)] 38)
  have HX := Lib.hid (hx.keep hb0)
  have HCK := Lib.hid (check_any n a cap l _ hl (hx.keep hb0))
  have HS := Lib.hid hs
  clear hb0 hx hs
  cases hok : netOk ⟨n, l⟩ with
  | false =>
    have HE : Hid (chk ⟨n, l⟩ = 1) := by show _ = _; simp [chk, hok]
    rw [HE.out] at HCK
    clear hok
    go_enter Tryz.func29, Tryz.ntmps29
    go_wp2_with fail
    refine HCK.out.mono ?_
    rintro e w1 ⟨rfl, hb1⟩
    have HB1 := Lib.hid (HB0.out.trans (hb1.mono HB0.out.size))
    clear hb1
    go_wp2
    go_ret
    exact ⟨rfl, HB1.out⟩
  | true =>
    have HE : Hid (chk ⟨n, l⟩ = 0) := by show _ = _; simp [chk, hok]
    rw [HE.out] at HCK
    have HK := Lib.hid hok
    obtain ⟨_, _, hl1, hl2⟩ := netOk_head hok
    simp only at hl1 hl2
    have HL1 := Lib.hid hl1
    have HM1 : Hid (l.length ≤ maxLen) := by show _ ≤ _; unfold maxLen; omega
    clear hok hl1
    go_enter Tryz.func29, Tryz.ntmps29
    go_wp2_with fail
    refine HCK.out.mono ?_
    rintro e w1 ⟨rfl, hb1⟩
    have R0 := Lib.hid (q0.out.later hb1)
    have R1 := Lib.hid (q1.out.later hb1)
    have HB1 := Lib.hid (HB0.out.trans (hb1.mono HB0.out.size))
    have HX1 := Lib.hid (HX.out.keep hb1)
    have k0 : w1.cell? ⟨w.heap.size, 0, none⟩ = some (.int .i64 n) := R0.out.cell 0
    have k1 : w1.cell? ⟨w.heap.size, 1, none⟩ = some (.slice a l.length cap) := R0.out.cell 1
    clear hb1
    go_wp2_with (at_make; refine mk elemBool rfl _ _ rfl w1.heap.size .i64 .i64 _ _ l.length rfl rfl rfl rfl (by omega) HM1.out (Nat.le_refl _) bc false rfl ?_)
    intro w2 hown2 hgrow2
    have HO2 := Lib.hid hown2
    have HB2 : Hid (Below w1.heap.size w1 w2) := (Below.refl _ _).grown hgrow2 (Nat.le_refl _) (by simp)
    have R2 := Lib.hid (R0.out.later HB2.out)
    have hz : w.heap.size < w2.heap.size := R2.out.lt
    clear hown2 hgrow2 k0 k1
    have k0 : w2.cell? ⟨w.heap.size, 0, none⟩ = some (.int .i64 n) := R2.out.cell 0
    have k1 : w2.cell? ⟨w.heap.size, 1, none⟩ = some (.slice a l.length cap) := R2.out.cell 1
    obtain ⟨g, hg⟩ : ∃ g, g = w1.heap.size := ⟨_, rfl⟩
    rw [← hg] at HO2 ⊢
    have HG := Lib.hid hg
    have hgz : g < w2.heap.size := HO2.out.lt.1
    clear hg
    go_wp2
    obtain ⟨bx, hbx⟩ : ∃ bx, bx = w2.heap.size := ⟨_, rfl⟩
    have QX : Hid (Blk (w2.alloc (.cells #[.slice (some ⟨g, 0, none⟩) l.length l.length] 85)) bx #[.slice (some ⟨g, 0, none⟩) l.length l.length] 85) := Blk.new' w2 hbx.symm _ _
    have HB3 : Hid (Below w1.heap.size w1 (w2.alloc (.cells #[.slice (some ⟨g, 0, none⟩) l.length l.length] 85))) := HB2.out.alloc HB2.out.size _
    have HO3 : Hid (OwnL bc 4 1 (w2.alloc (.cells #[.slice (some ⟨g, 0, none⟩) l.length l.length] 85)) w1.heap.size (.slice (some ⟨g, 0, none⟩) l.length l.length) (List.replicate l.length false)) := by
      show OwnL _ _ _ _ _ _ _
      rw [← HG.out]
      exact HO2.out.kept (Kp.alloc (fun _ => False) _ _) (fun _ _ x => x)
    rw [← hbx]
    have HBX := Lib.hid hbx
    clear hbx k0 k1 hz
    go_loopw [18] (fun i wr => ∃ k : Nat, k ≤ l.length ∧ i = .int .i64 k ∧ OwnL bc 4 1 wr w1.heap.size (.slice (some ⟨g, 0, none⟩) l.length l.length) (truth s.mem (l.take k) ++ List.replicate (l.length - k) false) ∧ Blk wr bx #[.slice (some ⟨g, 0, none⟩) l.length l.length] 85 ∧ Below w1.heap.size w1 wr) (fun i _ => l.length - (intOf i).toNat)
    case atStart => exact ⟨0, Nat.zero_le _, rfl, by simpa [truth, evs] using HO3.out, QX.out, HB3.out⟩
    case round =>
      obtain ⟨k, hk, rfl, hown, hqx, hb⟩ := hrel
      have HO := Lib.hid hown
      have HQX := Lib.hid hqx
      have HB := Lib.hid hb
      have HBA := Lib.hid (HB1.out.trans (hb.mono HB1.out.size))
      have RS := Lib.hid (R1.out.later hb)
      have bx0 : wr.cell? ⟨bx, 0, none⟩ = some (.slice (some ⟨g, 0, none⟩) l.length l.length) := hqx.cell 0
      have bxz : bx < wr.heap.size := hqx.lt
      have gz : g < wr.heap.size := hown.lt.1
      clear hown hqx hb
      by_cases hlt : k < l.length
      · obtain ⟨b, off, rfl, c0', c1', av, cv, c2', hin, hil⟩ := HX1.out k hlt
        have hgd : l.getD k default = l[k] := by simp [List.getD_eq_getElem?_getD, hlt]
        rw [hgd] at c0' c1' c2' hin hil
        have hbw : b < w1.heap.size := cell_block c0'
        have c0 := HB.out.cell (p := ⟨b, off + k * 3, none⟩) hbw
        have c1 := HB.out.cell (p := ⟨b, off + k * 3 + 1, none⟩) hbw
        have c2 := HB.out.cell (p := ⟨b, off + k * 3 + 2, none⟩) hbw
        rw [c0'] at c0
        rw [c1'] at c1
        rw [c2'] at c2
        have hnk := netOk_nd HK.out hlt
        simp only at hnk
        have HTS : Hid (truth s.mem (l.take (k + 1)) = truth s.mem (l.take k) ++ [evNd s.mem (at' (truth s.mem (l.take k))) l[k]]) := by
          show _ = _; rw [List.take_succ_eq_append_getElem hlt, truth_snoc]
        have HTL : Hid (k = (truth s.mem (l.take k)).length) := by show _ = _; rw [truth_length, List.length_take]; omega
        have hrep : List.replicate (l.length - k) false = false :: List.replicate (l.length - k - 1) false := by rw [← List.replicate_succ]; congr 1; omega
        have HN : Hid (∀ c : Bool, l.length = (truth s.mem (l.take k) ++ c :: List.replicate (l.length - k - 1) false).length) := fun c => by simp [truth_length]; omega
        have ho3 := HO.out
        rw [hrep] at ho3
        clear hrep
        generalize truth s.mem (l.take k) = vs at *
        generalize hzs : List.replicate (l.length - k - 1) false = zs at *
        have HREP := Lib.hid hzs
        clear hzs
        generalize l[k] = x at *
        have HO4 := Lib.hid ho3
        have HINS := Lib.hid (ndOk_ins hnk)
        have hbz : b < wr.heap.size := cell_block c0
        have hkl : (k : Int) < (l.length : Int) := by omega
        have hk0 : (0 : Int) ≤ (k : Int) := by omega
        have HKL := Lib.hid hkl
        have HIN := Lib.hid (hin.keep HB.out)
        have HIL := Lib.hid hil
        obtain ⟨nb, hnb⟩ : ∃ nb, nb = wr.heap.size := ⟨_, rfl⟩
        obtain ⟨W1, hW1⟩ : ∃ W1, W1 = wr.alloc (.cells #[.int .i64 x.kind, .int .i64 x.lit, .slice av x.ins.length cv] 73) := ⟨_, rfl⟩
        have HA1 : Hid (Below wr.heap.size wr W1) := by show Below _ _ _; rw [hW1]; exact (Below.refl _ _).alloc (Nat.le_refl _) _
        have QN : Hid (Blk W1 nb #[.int .i64 x.kind, .int .i64 x.lit, .slice av x.ins.length cv] 73) := by show Blk _ _ _ _; rw [hW1]; exact Blk.new' wr hnb.symm _ _
        have HNB := Lib.hid hnb
        have HW1 := Lib.hid hW1
        have HSZ1 : Hid (wr.heap.size ≤ W1.heap.size) := HA1.out.size
        have HO5 := Lib.hid (HO4.out.later HA1.out)
        have HQ5 := Lib.hid (HQX.out.later HA1.out)
        have RS5 := Lib.hid (RS.out.later HA1.out)
        have HFR : Hid (∀ V, Below W1.heap.size W1 V → V.frozen? ⟨g, k, none⟩ = false ∧ ∃ u, V.cell? ⟨g, k, none⟩ = some u) := Lib.hid fun V hV =>
          ⟨(HO5.out.later hV).fr (HN.out _) k, _, by have h := (HO5.out.later hV).mid HTL.out (HN.out _) bc_len 0 (by omega); rw [Nat.mul_one, Nat.add_zero] at h; rw [h]; rfl⟩
        have HPUT : Hid (∀ (V : World) (c : Bool), Below W1.heap.size W1 V → evNd s.mem (at' vs) x = c →
            OwnL bc 4 1 (V.setCell ⟨g, k, none⟩ (.bool c)) w1.heap.size (.slice (some ⟨g, 0, none⟩) l.length l.length) (truth s.mem (l.take (k + 1)) ++ List.replicate (l.length - (k + 1)) false) ∧
            Blk (V.setCell ⟨g, k, none⟩ (.bool c)) bx #[.slice (some ⟨g, 0, none⟩) l.length l.length] 85 ∧ Below w1.heap.size w1 (V.setCell ⟨g, k, none⟩ (.bool c))) := Lib.hid fun V c hV hc => by
          refine ⟨?_, (HQ5.out.later hV).other _ _ (by have h1 := HG.out; have h2 := HBX.out; dsimp only; omega), ?_⟩
          · rw [HTS.out, hc, show l.length - (k + 1) = l.length - k - 1 by omega, HREP.out, List.append_assoc]
            exact (HO5.out.later hV).midput1 HTL.out (HN.out _) bc_len c (.bool c) rfl
          · exact (HB.out.trans ((HA1.out.trans (hV.mono HSZ1.out)).mono HB.out.size)).setCell (by have := HG.out; dsimp only; omega) _
        have b0 : W1.cell? ⟨bx, 0, none⟩ = some (.slice (some ⟨g, 0, none⟩) l.length l.length) := HQ5.out.cell 0
        have s0 : W1.cell? ⟨w.heap.size + 1, 0, none⟩ = some (.int .u64 (s.a : Int)) := RS5.out.cell 0
        have s1 : W1.cell? ⟨w.heap.size + 1, 1, none⟩ = some (.int .u64 (s.b : Int)) := RS5.out.cell 1
        have n0 : W1.cell? ⟨nb, 0, none⟩ = some (.int .i64 x.kind) := QN.out.cell 0
        have n1 : W1.cell? ⟨nb, 1, none⟩ = some (.int .i64 x.lit) := QN.out.cell 1
        have n2 : W1.cell? ⟨nb, 2, none⟩ = some (.slice av x.ins.length cv) := QN.out.cell 2
        have HKS : Hid (∀ w' : World, Kp (fun y => y = g) W1 w' → w'.cell? ⟨bx, 0, none⟩ = some (.slice (some ⟨g, 0, none⟩) l.length l.length) ∧ w'.cell? ⟨w.heap.size + 1, 0, none⟩ = some (.int .u64 (s.a : Int)) ∧ w'.cell? ⟨w.heap.size + 1, 1, none⟩ = some (.int .u64 (s.b : Int)) ∧ w'.cell? ⟨nb, 1, none⟩ = some (.int .i64 x.lit) ∧ w'.cell? ⟨nb, 2, none⟩ = some (.slice av x.ins.length cv)) := Lib.hid fun w' hk => by
          have h1 := HG.out
          have h2 := HBX.out
          have h3 := R1.out.lt
          have h4 := HNB.out
          exact ⟨hk.cell b0 (by dsimp only; omega), hk.cell s0 (by dsimp only; omega), hk.cell s1 (by dsimp only; omega), hk.cell n1 (by dsimp only; omega), hk.cell n2 (by dsimp only; omega)⟩
        have HHO := Lib.hid (fun V => nHolds_any s x.lit V HS.out)
        have HCELL : Hid (∀ (V : World) (i : Int), i ∈ x.ins → Below W1.heap.size W1 V → V.cell? ⟨g, i.toNat, none⟩ = some (.bool (at' vs i)) ∧ 0 ≤ i ∧ i < (l.length : Int)) := Lib.hid fun V i hi hV => by
          have hq := HINS.out i hi
          have hlen := HTL.out
          have hlv : i.toNat < vs.length := by omega
          refine ⟨?_, hq.1, by have := HKL.out; omega⟩
          have h := (HO5.out.later hV).left hlv (HN.out _) bc_len 0 (by omega)
          rw [Nat.mul_one, Nat.add_zero] at h
          rw [h]
          unfold at'
          simp [bc, List.getD_eq_getElem?_getD, hlv]
        have HC1 : Hid (∀ V, Below W1.heap.size W1 V → Calls Tryz.prog 64 #[.slice av x.ins.length cv, .func (.func 65) #[] #[.pointer (some ⟨bx, 0, none⟩)]] V fun e w' => e = .returned (.bool (x.ins.any fun i => !at' vs i)) ∧ V = w') := Lib.hid fun V hV =>
          containsFunc_any av cv x.ins 65 #[.pointer (some ⟨bx, 0, none⟩)] (fun i => !at' vs i) V (by have := HIL.out; omega) ((HIN.out.keep HA1.out).keep hV)
            (fun i hi => by
              obtain ⟨h1, h2, h3⟩ := HCELL.out V i hi hV
              exact eval1_any i ⟨bx, 0, none⟩ g l.length l.length _ V ((HQ5.out.later hV).cell 0) h2 h3 h1) callable_eval1
        have HC2 : Hid (∀ V, Below W1.heap.size W1 V → Calls Tryz.prog 64 #[.slice av x.ins.length cv, .func (.func 66) #[] #[.pointer (some ⟨bx, 0, none⟩)]] V fun e w' => e = .returned (.bool (x.ins.any fun i => at' vs i)) ∧ V = w') := Lib.hid fun V hV =>
          containsFunc_any av cv x.ins 66 #[.pointer (some ⟨bx, 0, none⟩)] (fun i => at' vs i) V (by have := HIL.out; omega) ((HIN.out.keep HA1.out).keep hV)
            (fun i hi => by
              obtain ⟨h1, h2, h3⟩ := HCELL.out V i hi hV
              exact eval2_any i ⟨bx, 0, none⟩ g l.length l.length _ V ((HQ5.out.later hV).cell 0) h2 h3 h1) callable_eval2
        have hkd := formOk_kind hnk
        clear c0' c1' c2' hgd hin hil hnk ho3 hnb hW1 hkl
        have hkl : (k : Int) < (l.length : Int) := HKL.out
        by_cases e1 : x.kind = 1
        · have d1 : (x.kind == 1) = true := by simpa using e1
          have HV : Hid (evNd s.mem (at' vs) x = true) := by show _ = _; unfold evNd; rw [if_pos e1]
          clear e1 hkd
          obtain ⟨fr, u, hu⟩ := HFR.out W1 (Below.refl _ _)
          have hp := HPUT.out W1 true (Below.refl _ _) HV.out
          rw [HW1.out] at fr hu hp
          rw [World.setCell_alloc_past _ _ _ _ gz] at hp
          have HP := Lib.hid hp
          clear hp
          go_wp2
          go_roundw
          case rel => exact ⟨k + 1, by omega, by go_num, HP.out.1, HP.out.2.1, HP.out.2.2⟩
          case measure => simp [intOf]; omega
        · have d1 : (x.kind == 1) = false := by simpa using e1
          by_cases e2 : x.kind = 2
          · have d2 : (x.kind == 2) = true := by simpa using e2
            have HV : Hid (evNd s.mem (at' vs) x = holds s.mem x.lit) := by show _ = _; unfold evNd; rw [if_neg e1, if_pos e2]
            obtain ⟨hv, hhv⟩ : ∃ hv, hv = holds s.mem x.lit := ⟨_, rfl⟩
            rw [← hhv] at HHO HV
            clear e1 e2 hkd hhv
            go_wp2_with fail
            rw [← HW1.out, ← HNB.out]
            refine wp_region_held_drew (S := (fun w' => w'.cell? ⟨bx, 0, none⟩ = some (.slice (some ⟨g, 0, none⟩) l.length l.length) ∧ w'.cell? ⟨w.heap.size + 1, 0, none⟩ = some (.int .u64 (s.a : Int)) ∧ w'.cell? ⟨w.heap.size + 1, 1, none⟩ = some (.int .u64 (s.b : Int)) ∧ w'.cell? ⟨nb, 1, none⟩ = some (.int .i64 x.lit) ∧ w'.cell? ⟨nb, 2, none⟩ = some (.slice av x.ins.length cv))) (by kernel_rfl) ?_ (fun hHeld => ?_)
            · try dsimp only
              exact HKS.out _ (Kp.below (Below.refl _ _).drew)
            refine wpAnyH_take (i := 0) (v := ?_) rfl (by kernel_rfl) (by kernel_rfl) (by kernel_rfl) (fun _ _ _ h => h) (Or.inl ⟨by rfl, ?_⟩) (by assumption) ?_
            rotate_left
            · intro w hSw
              try dsimp only at hSw
              first | (go_simp; done) | (go_simp; with_reducible rfl)
            change wpAnyH _ _ _ _ _ _ _ (Act.put _ (some 32) _) _
            try simp only [Act.put, List.setIfInBounds_toArray, List.set_cons_zero, List.set_cons_succ]
            refine wpAnyH_take (i := 1) (v := ?_) rfl (by kernel_rfl) (by kernel_rfl) (by kernel_rfl) (fun _ _ _ h => h) (Or.inl ⟨by rfl, ?_⟩) (by assumption) ?_
            rotate_left
            · intro w hSw
              try dsimp only at hSw
              first | (go_simp; done) | (go_simp; with_reducible rfl)
            change wpAnyH _ _ _ _ _ _ _ (Act.put _ (some 33) _) _
            try simp only [Act.put, List.setIfInBounds_toArray, List.set_cons_zero, List.set_cons_succ]
            refine wpAnyH_take (i := 2) (v := ?_) rfl (by kernel_rfl) (by kernel_rfl) (by kernel_rfl) (fun _ _ _ h => h) (Or.inl ⟨by rfl, ?_⟩) (by assumption) ?_
            rotate_left
            · intro w hSw
              try dsimp only at hSw
              first | (go_simp; done) | (go_simp; with_reducible rfl)
            change wpAnyH _ _ _ _ _ _ _ (Act.put _ (some 34) _) _
            try simp only [Act.put, List.setIfInBounds_toArray, List.set_cons_zero, List.set_cons_succ]
            refine wpAnyH_take (i := 3) (v := ?_) rfl (by kernel_rfl) (by kernel_rfl) (by kernel_rfl) (fun _ _ _ h => h) (Or.inl ⟨by rfl, ?_⟩) (by assumption) ?_
            rotate_left
            · intro w hSw
              try dsimp only at hSw
              first | (go_simp; done) | (go_simp; with_reducible rfl)
            change wpAnyH _ _ _ _ _ _ _ (Act.put _ (some 35) _) _
            try simp only [Act.put, List.setIfInBounds_toArray, List.set_cons_zero, List.set_cons_succ]
            refine wpAnyH_take (i := 4) (v := ?_) rfl (by kernel_rfl) (by kernel_rfl) (by kernel_rfl) (fun _ _ _ h => h) (Or.inl ⟨by rfl, ?_⟩) (by assumption) ?_
            rotate_left
            · intro w hSw
              try dsimp only at hSw
              first | (go_simp; done) | (go_simp; with_reducible rfl)
            change wpAnyH _ _ _ _ _ _ _ (Act.put _ (some 36) _) _
            try simp only [Act.put, List.setIfInBounds_toArray, List.set_cons_zero, List.set_cons_succ]
            refine wpAnyH_ready (rs := [5]) (by kernel_rfl) (by simp) ?_
            refine AllReadyH.cons rfl (fun K hK => ?_) AllReadyH.nil
            go_simp
            go_at_call 63
            refine (HHO.out _).mono ?_
            rintro e w5 ⟨rfl, hb5⟩
            have hw5 : Below W1.heap.size W1 w5 := Below.trans (Below.refl _ _).drew hb5
            clear hb5
            obtain ⟨fr, u, hu⟩ := HFR.out _ hw5
            go_wp2_with fail
            refine hK.out _ _ ?_ (fun hHeld => ?_)
            · try dsimp only
              exact HKS.out _ (Kp.below hw5)
            clear hK K
            try simp only [Act.put, List.setIfInBounds_toArray, List.set_cons_zero, List.set_cons_succ]
            refine wpAnyH_take (i := 6) (v := ?_) rfl (by kernel_rfl) (by kernel_rfl) (by kernel_rfl) (fun _ _ _ h => h) (Or.inl ⟨by rfl, ?_⟩) (by assumption) ?_
            rotate_left
            · intro w hSw
              try dsimp only at hSw
              first | (go_simp; done) | (go_simp; with_reducible rfl)
            change wpAnyH _ _ _ _ _ _ _ (Act.put _ (some 38) _) _
            try simp only [Act.put, List.setIfInBounds_toArray, List.set_cons_zero, List.set_cons_succ]
            refine wpAnyH_ready (rs := [7]) (by kernel_rfl) (by simp) ?_
            refine AllReadyH.cons rfl (fun K hK => ?_) AllReadyH.nil
            go_simp
            refine hK.out _ _ ?_ (fun hHeld => ?_)
            · try dsimp only
              exact HKS.out _ (Kp.trans (M := fun y => y = g) (Kp.below hw5) (Kp.setCell (M := fun y => y = g) _ _ _ rfl))
            clear hK K
            try simp only [Act.put, List.setIfInBounds_toArray, List.set_cons_zero, List.set_cons_succ]
            refine wpAnyH_done (by kernel_rfl) ?_ _
            all_goals
              have HP := Lib.hid (HPUT.out _ _ hw5 HV.out)
              go_wp2
              go_roundw
              case rel => exact ⟨k + 1, by omega, by go_num, HP.out.1, HP.out.2.1, HP.out.2.2⟩
              case measure => simp [intOf]; omega
          · have d2 : (x.kind == 2) = false := by simpa using e2
            by_cases e3 : x.kind = 3
            · have d3 : (x.kind == 3) = true := by simpa using e3
              have HV : Hid (evNd s.mem (at' vs) x = !(x.ins.any fun i => !at' vs i)) := by show _ = _; unfold evNd; rw [if_neg e1, if_neg e2, if_pos e3, all_any_not]
              obtain ⟨hv, hhv⟩ : ∃ hv, hv = (x.ins.any fun i => !at' vs i) := ⟨_, rfl⟩
              rw [← hhv] at HC1 HV
              clear e1 e2 e3 hkd hhv
              go_wp2_with fail
              rw [← HW1.out, ← HNB.out]
              refine wp_region_held_drew (S := (fun w' => w'.cell? ⟨bx, 0, none⟩ = some (.slice (some ⟨g, 0, none⟩) l.length l.length) ∧ w'.cell? ⟨w.heap.size + 1, 0, none⟩ = some (.int .u64 (s.a : Int)) ∧ w'.cell? ⟨w.heap.size + 1, 1, none⟩ = some (.int .u64 (s.b : Int)) ∧ w'.cell? ⟨nb, 1, none⟩ = some (.int .i64 x.lit) ∧ w'.cell? ⟨nb, 2, none⟩ = some (.slice av x.ins.length cv))) (by kernel_rfl) ?_ (fun hHeld => ?_)
              · try dsimp only
                exact HKS.out _ (Kp.below (Below.refl _ _).drew)
              refine wpAnyH_take (i := 0) (v := ?_) rfl (by kernel_rfl) (by kernel_rfl) (by kernel_rfl) (fun _ _ _ h => h) (Or.inl ⟨by rfl, ?_⟩) (by assumption) ?_
              rotate_left
              · intro w hSw
                try dsimp only at hSw
                first | (go_simp; done) | (go_simp; with_reducible rfl)
              change wpAnyH _ _ _ _ _ _ _ (Act.put _ (some 41) _) _
              try simp only [Act.put, List.setIfInBounds_toArray, List.set_cons_zero, List.set_cons_succ]
              refine wpAnyH_take (i := 1) (v := ?_) rfl (by kernel_rfl) (by kernel_rfl) (by kernel_rfl) (fun _ _ _ h => h) (Or.inl ⟨by rfl, ?_⟩) (by assumption) ?_
              rotate_left
              · intro w hSw
                try dsimp only at hSw
                first | (go_simp; done) | (go_simp; with_reducible rfl)
              change wpAnyH _ _ _ _ _ _ _ (Act.put _ (some 42) _) _
              try simp only [Act.put, List.setIfInBounds_toArray, List.set_cons_zero, List.set_cons_succ]
              refine wpAnyH_take (i := 2) (v := ?_) rfl (by kernel_rfl) (by kernel_rfl) (by kernel_rfl) (fun _ _ _ h => h) (Or.inl ⟨by rfl, ?_⟩) (by assumption) ?_
              rotate_left
              · intro w hSw
                try dsimp only at hSw
                first | (go_simp; done) | (go_simp; with_reducible rfl)
              change wpAnyH _ _ _ _ _ _ _ (Act.put _ (some 43) _) _
              try simp only [Act.put, List.setIfInBounds_toArray, List.set_cons_zero, List.set_cons_succ]
              refine wpAnyH_take (i := 3) (v := ?_) rfl (by kernel_rfl) (by kernel_rfl) (by kernel_rfl) (fun _ _ _ h => h) (Or.inl ⟨by rfl, ?_⟩) (by assumption) ?_
              rotate_left
              · intro w hSw
                try dsimp only at hSw
                first | (go_simp; done) | (go_simp; with_reducible rfl)
              change wpAnyH _ _ _ _ _ _ _ (Act.put _ (some 44) _) _
              try simp only [Act.put, List.setIfInBounds_toArray, List.set_cons_zero, List.set_cons_succ]
              refine wpAnyH_take (i := 4) (v := ?_) rfl (by kernel_rfl) (by kernel_rfl) (by kernel_rfl) (fun _ _ _ h => h) (Or.inl ⟨by rfl, ?_⟩) (by assumption) ?_
              rotate_left
              · intro w hSw
                try dsimp only at hSw
                first | (go_simp; done) | (go_simp; with_reducible rfl)
              change wpAnyH _ _ _ _ _ _ _ (Act.put _ (some 45) _) _
              try simp only [Act.put, List.setIfInBounds_toArray, List.set_cons_zero, List.set_cons_succ]
              refine wpAnyH_ready (rs := [5]) (by kernel_rfl) (by simp) ?_
              refine AllReadyH.cons rfl (fun K hK => ?_) AllReadyH.nil
              go_simp
              go_at_call 64
              refine (HC1.out _ (Below.refl _ _).drew).mono ?_
              rintro e w' ⟨rfl, rfl⟩
              try go_wp2_with fail
              refine hK.out _ _ ?_ (fun hHeld => ?_)
              · try dsimp only
                exact HKS.out _ (Kp.below (Below.refl _ _).drew)
              clear hK K
              try simp only [Act.put, List.setIfInBounds_toArray, List.set_cons_zero, List.set_cons_succ]
              obtain ⟨fr, u, hu⟩ := HFR.out _ (Below.refl _ _).drew
              refine wpAnyH_take (i := 6) (v := ?_) rfl (by kernel_rfl) (by kernel_rfl) (by kernel_rfl) (fun _ _ _ h => h) (Or.inl ⟨by rfl, ?_⟩) (by assumption) ?_
              rotate_left
              · intro w hSw
                try dsimp only at hSw
                first | (go_simp; done) | (go_simp; with_reducible rfl)
              change wpAnyH _ _ _ _ _ _ _ (Act.put _ (some 47) _) _
              try simp only [Act.put, List.setIfInBounds_toArray, List.set_cons_zero, List.set_cons_succ]
              refine wpAnyH_take (i := 7) (v := ?_) rfl (by kernel_rfl) (by kernel_rfl) (by kernel_rfl) (fun _ _ _ h => h) (Or.inl ⟨by rfl, ?_⟩) (by assumption) ?_
              rotate_left
              · intro w hSw
                try dsimp only at hSw
                first | (go_simp; done) | (go_simp; with_reducible rfl)
              change wpAnyH _ _ _ _ _ _ _ (Act.put _ (some 48) _) _
              try simp only [Act.put, List.setIfInBounds_toArray, List.set_cons_zero, List.set_cons_succ]
              refine wpAnyH_ready (rs := [8]) (by kernel_rfl) (by simp) ?_
              refine AllReadyH.cons rfl (fun K hK => ?_) AllReadyH.nil
              go_simp
              refine hK.out _ _ ?_ (fun hHeld => ?_)
              · try dsimp only
                exact HKS.out _ (Kp.trans (M := fun y => y = g) (Kp.below (Below.refl _ _).drew) (Kp.setCell (M := fun y => y = g) _ _ _ rfl))
              clear hK K
              try simp only [Act.put, List.setIfInBounds_toArray, List.set_cons_zero, List.set_cons_succ]
              refine wpAnyH_done (by kernel_rfl) ?_ _
              all_goals
                have HP := Lib.hid (HPUT.out _ _ (Below.refl _ _).drew HV.out)
                go_wp2
                go_roundw
                case rel => exact ⟨k + 1, by omega, by go_num, HP.out.1, HP.out.2.1, HP.out.2.2⟩
                case measure => simp [intOf]; omega
            · have d3 : (x.kind == 3) = false := by simpa using e3
              by_cases e4 : x.kind = 4
              · have d4 : (x.kind == 4) = true := by simpa using e4
                have HV : Hid (evNd s.mem (at' vs) x = x.ins.any fun i => at' vs i) := by show _ = _; unfold evNd; rw [if_neg e1, if_neg e2, if_neg e3, if_pos e4]
                obtain ⟨hv, hhv⟩ : ∃ hv, hv = (x.ins.any fun i => at' vs i) := ⟨_, rfl⟩
                rw [← hhv] at HC2 HV
                clear e1 e2 e3 e4 hkd hhv
                go_wp2_with fail
                rw [← HW1.out, ← HNB.out]
                refine wp_region_held_drew (S := (fun w' => w'.cell? ⟨bx, 0, none⟩ = some (.slice (some ⟨g, 0, none⟩) l.length l.length) ∧ w'.cell? ⟨w.heap.size + 1, 0, none⟩ = some (.int .u64 (s.a : Int)) ∧ w'.cell? ⟨w.heap.size + 1, 1, none⟩ = some (.int .u64 (s.b : Int)) ∧ w'.cell? ⟨nb, 1, none⟩ = some (.int .i64 x.lit) ∧ w'.cell? ⟨nb, 2, none⟩ = some (.slice av x.ins.length cv))) (by kernel_rfl) ?_ (fun hHeld => ?_)
                · try dsimp only
                  exact HKS.out _ (Kp.below (Below.refl _ _).drew)
                refine wpAnyH_take (i := 0) (v := ?_) rfl (by kernel_rfl) (by kernel_rfl) (by kernel_rfl) (fun _ _ _ h => h) (Or.inl ⟨by rfl, ?_⟩) (by assumption) ?_
                rotate_left
                · intro w hSw
                  try dsimp only at hSw
                  first | (go_simp; done) | (go_simp; with_reducible rfl)
                change wpAnyH _ _ _ _ _ _ _ (Act.put _ (some 51) _) _
                try simp only [Act.put, List.setIfInBounds_toArray, List.set_cons_zero, List.set_cons_succ]
                refine wpAnyH_take (i := 1) (v := ?_) rfl (by kernel_rfl) (by kernel_rfl) (by kernel_rfl) (fun _ _ _ h => h) (Or.inl ⟨by rfl, ?_⟩) (by assumption) ?_
                rotate_left
                · intro w hSw
                  try dsimp only at hSw
                  first | (go_simp; done) | (go_simp; with_reducible rfl)
                change wpAnyH _ _ _ _ _ _ _ (Act.put _ (some 52) _) _
                try simp only [Act.put, List.setIfInBounds_toArray, List.set_cons_zero, List.set_cons_succ]
                refine wpAnyH_take (i := 2) (v := ?_) rfl (by kernel_rfl) (by kernel_rfl) (by kernel_rfl) (fun _ _ _ h => h) (Or.inl ⟨by rfl, ?_⟩) (by assumption) ?_
                rotate_left
                · intro w hSw
                  try dsimp only at hSw
                  first | (go_simp; done) | (go_simp; with_reducible rfl)
                change wpAnyH _ _ _ _ _ _ _ (Act.put _ (some 53) _) _
                try simp only [Act.put, List.setIfInBounds_toArray, List.set_cons_zero, List.set_cons_succ]
                refine wpAnyH_take (i := 3) (v := ?_) rfl (by kernel_rfl) (by kernel_rfl) (by kernel_rfl) (fun _ _ _ h => h) (Or.inl ⟨by rfl, ?_⟩) (by assumption) ?_
                rotate_left
                · intro w hSw
                  try dsimp only at hSw
                  first | (go_simp; done) | (go_simp; with_reducible rfl)
                change wpAnyH _ _ _ _ _ _ _ (Act.put _ (some 54) _) _
                try simp only [Act.put, List.setIfInBounds_toArray, List.set_cons_zero, List.set_cons_succ]
                refine wpAnyH_take (i := 4) (v := ?_) rfl (by kernel_rfl) (by kernel_rfl) (by kernel_rfl) (fun _ _ _ h => h) (Or.inl ⟨by rfl, ?_⟩) (by assumption) ?_
                rotate_left
                · intro w hSw
                  try dsimp only at hSw
                  first | (go_simp; done) | (go_simp; with_reducible rfl)
                change wpAnyH _ _ _ _ _ _ _ (Act.put _ (some 55) _) _
                try simp only [Act.put, List.setIfInBounds_toArray, List.set_cons_zero, List.set_cons_succ]
                refine wpAnyH_ready (rs := [5]) (by kernel_rfl) (by simp) ?_
                refine AllReadyH.cons rfl (fun K hK => ?_) AllReadyH.nil
                go_simp
                go_at_call 64
                refine (HC2.out _ (Below.refl _ _).drew).mono ?_
                rintro e w' ⟨rfl, rfl⟩
                try go_wp2_with fail
                refine hK.out _ _ ?_ (fun hHeld => ?_)
                · try dsimp only
                  exact HKS.out _ (Kp.below (Below.refl _ _).drew)
                clear hK K
                try simp only [Act.put, List.setIfInBounds_toArray, List.set_cons_zero, List.set_cons_succ]
                obtain ⟨fr, u, hu⟩ := HFR.out _ (Below.refl _ _).drew
                refine wpAnyH_take (i := 6) (v := ?_) rfl (by kernel_rfl) (by kernel_rfl) (by kernel_rfl) (fun _ _ _ h => h) (Or.inl ⟨by rfl, ?_⟩) (by assumption) ?_
                rotate_left
                · intro w hSw
                  try dsimp only at hSw
                  first | (go_simp; done) | (go_simp; with_reducible rfl)
                change wpAnyH _ _ _ _ _ _ _ (Act.put _ (some 57) _) _
                try simp only [Act.put, List.setIfInBounds_toArray, List.set_cons_zero, List.set_cons_succ]
                refine wpAnyH_ready (rs := [7]) (by kernel_rfl) (by simp) ?_
                refine AllReadyH.cons rfl (fun K hK => ?_) AllReadyH.nil
                go_simp
                refine hK.out _ _ ?_ (fun hHeld => ?_)
                · try dsimp only
                  exact HKS.out _ (Kp.trans (M := fun y => y = g) (Kp.below (Below.refl _ _).drew) (Kp.setCell (M := fun y => y = g) _ _ _ rfl))
                clear hK K
                try simp only [Act.put, List.setIfInBounds_toArray, List.set_cons_zero, List.set_cons_succ]
                refine wpAnyH_done (by kernel_rfl) ?_ _
                all_goals
                  have HP := Lib.hid (HPUT.out _ _ (Below.refl _ _).drew HV.out)
                  go_wp2
                  go_roundw
                  case rel => exact ⟨k + 1, by omega, by go_num, HP.out.1, HP.out.2.1, HP.out.2.2⟩
                  case measure => simp [intOf]; omega
              · have d4 : (x.kind == 4) = false := by simpa using e4
                have HV : Hid (evNd s.mem (at' vs) x = false) := by show _ = _; unfold evNd; rw [if_neg e1, if_neg e2, if_neg e3, if_neg e4]
                have HP : Hid (OwnL bc 4 1 (wr.alloc (.cells #[.int .i64 x.kind, .int .i64 x.lit, .slice av x.ins.length cv] 73)) w1.heap.size (.slice (some ⟨g, 0, none⟩) l.length l.length) (truth s.mem (l.take (k + 1)) ++ List.replicate (l.length - (k + 1)) false) ∧
                    Blk (wr.alloc (.cells #[.int .i64 x.kind, .int .i64 x.lit, .slice av x.ins.length cv] 73)) bx #[.slice (some ⟨g, 0, none⟩) l.length l.length] 85 ∧ Below w1.heap.size w1 (wr.alloc (.cells #[.int .i64 x.kind, .int .i64 x.lit, .slice av x.ins.length cv] 73))) := by
                  show _ ∧ _ ∧ _
                  rw [← HW1.out]
                  refine ⟨?_, HQ5.out, HB.out.trans (HA1.out.mono HB.out.size)⟩
                  rw [HTS.out, HV.out, show l.length - (k + 1) = l.length - k - 1 by omega, HREP.out, List.append_assoc]
                  exact HO5.out
                clear e1 e2 e3 e4 hkd
                go_wp2
                go_roundw
                case rel => exact ⟨k + 1, by omega, by go_num, HP.out.1, HP.out.2.1, HP.out.2.2⟩
                case measure => simp [intOf]; omega
      · have : k = l.length := by omega
        subst this
        have HTL : Hid (l.length = (truth s.mem l).length) := by show _ = _; rw [truth_length]
        have ho := HO.out
        rw [List.take_length, Nat.sub_self, List.replicate_zero, List.append_nil] at ho
        have hc := ho.cell HTL.out bc_len (l.length - 1) 0 (by rw [← HTL.out]; have := HL1.out; omega) (by omega)
        rw [Nat.mul_one, Nat.add_zero] at hc
        have hev : (truth s.mem l)[l.length - 1]'(by rw [← HTL.out]; have := HL1.out; omega) = ev s.mem ⟨n, l⟩ := by
          unfold ev
          have h1 : l.length - 1 < (truth s.mem l).length := by rw [← HTL.out]; have := HL1.out; omega
          simp [List.getD_eq_getElem?_getD, h1]
        rw [hev] at hc
        have HEV : Hid ((true && ev s.mem ⟨n, l⟩) = ev s.mem ⟨n, l⟩) := by show _ = _; simp
        obtain ⟨c, hcv⟩ : ∃ c, c = ev s.mem ⟨n, l⟩ := ⟨_, rfl⟩
        rw [← hcv] at hc HEV
        have HCV := Lib.hid hcv
        have e1 : ((l.length : Int) - 1) = ((l.length - 1 : Nat) : Int) := by have := HL1.out; omega
        have hlt2 : ((l.length - 1 : Nat) : Int) < (l.length : Int) := by have := HL1.out; omega
        have hc2 : wr.cell? ⟨g, l.length - 1, none⟩ = some (.bool c) := hc
        clear ho hev hcv hc hlt
        generalize hm : l.length - 1 = m at *
        clear hm
        go_wp2
        go_ret
        exact ⟨ret_bool (by rw [← HCV.out]; simp), HBA.out⟩
end Go.Proofs.YtfdonhfhcomjaaaGreatDoor
