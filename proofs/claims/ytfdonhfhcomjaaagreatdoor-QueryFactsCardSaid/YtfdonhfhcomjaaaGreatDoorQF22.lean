/- Part 22 of 25 of the proof that censuslaw38.QueryFacts returns true for every input, where the tables that the row lists are laid. Texts: R21V, R21D. -/
import Derived.Test.YtfdonhfhcomjaaaGreatDoorQF21
import Derived.Deep.RegionHeld3
import Derived.Test.YtfdonhfhcomjaaaGreatDoorQF18

/- The walk of censusref21's Vars. -/
namespace Go.Proofs.YtfdonhfhcomjaaaGreatDoor
open Go.RowKit Cen
set_option maxHeartbeats 4000000
set_option maxRecDepth 100000
theorem litVar_zero : litVar 0 = 0 := rfl
theorem ofL_zero : ofL [0] = St.zero := rfl
theorem max_lit {l : Int} (h : litVar l ≠ 0) : max l (-l) = litVar l := by rcases litVar_ne h with h | h <;> omega
theorem vars21_any (n : Int) (a : Option Addr) (cap : Nat) (l : List Nd) (w : World) (hok : netOk ⟨n, l⟩ = true) (hx : NdCells w a l) :
    Calls Tryz.prog 103 #[.agg #[.int .i64 n, .slice a l.length cap]] w fun e w' => ∃ g, e = .returned (.slice (some ⟨g, 0, none⟩) l.length l.length) ∧ OwnSets w' w.heap.size (.slice (some ⟨g, 0, none⟩) l.length l.length) (varsL l) ∧ Below w.heap.size w w' := by
  have HB0 := Lib.hid ((Below.refl w.heap.size w).alloc (Nat.le_refl _) (.cells #[.int .i64 n, .slice a l.length cap] 24))
  have q0 := Lib.hid (Blk.new w #[.int .i64 n, .slice a l.length cap] 24)
  have HX := Lib.hid hx
  have HK := Lib.hid hok
  have hl2 : l.length ≤ 65536 := (netOk_head hok).2.2.2
  have HM1 : Hid (l.length ≤ maxLen) := by show _ ≤ _; unfold maxLen; omega
  clear hx hok
  go_enter Tryz.func103, Tryz.ntmps103
  go_wp2_with (at_make; refine mk elemSet rfl _ _ rfl (w.heap.size + 1) .i64 .i64 _ _ l.length rfl rfl rfl rfl (by omega) HM1.out (by simp) stc St.zero rfl ?_)
  intro w2 hown2 hgrow2
  have HZ1 : Hid ((w.alloc (.cells #[.int .i64 n, .slice a l.length cap] 24)).heap.size = w.heap.size + 1) := by show _ = _; simp
  have HO2 := Lib.hid hown2
  have HB2 : Hid (Below (w.heap.size + 1) (w.alloc (.cells #[.int .i64 n, .slice a l.length cap] 24)) w2) := (Below.refl _ _).grown hgrow2 (by rw [HZ1.out]; exact Nat.le_refl _) (by simp)
  clear hown2 hgrow2
  have HBA2 : Hid (Below w.heap.size w w2) := HB0.out.trans (HB2.out.mono (by omega))
  have R2 := Lib.hid (q0.out.laterB HB2.out (by omega))
  have k0 : w2.cell? ⟨w.heap.size, 0, none⟩ = some (.int .i64 n) := R2.out.cell 0
  have k1 : w2.cell? ⟨w.heap.size, 1, none⟩ = some (.slice a l.length cap) := R2.out.cell 1
  go_wp2
  clear k0 k1
  go_loopw [4] (fun i wr => ∃ k : Nat, k ≤ l.length ∧ i = .int .i64 k ∧ OwnSets wr (w.heap.size + 1) (.slice (some ⟨w.heap.size + 1, 0, none⟩) l.length l.length) (varsL (l.take k) ++ List.replicate (l.length - k) St.zero) ∧ Below (w.heap.size + 1) w2 wr) (fun i _ => l.length - (intOf i).toNat)
  case atStart => exact ⟨0, Nat.zero_le _, rfl, by simpa [varsL, varsAcc] using HO2.out, Below.refl _ _⟩
  case round =>
    obtain ⟨k, hk, rfl, hown, hb⟩ := hrel
    have HO := Lib.hid hown
    have HB := Lib.hid hb
    have R := Lib.hid (R2.out.laterB hb (by omega))
    have HBA := Lib.hid (HBA2.out.trans (hb.mono (by omega)))
    have k1 : wr.cell? ⟨w.heap.size, 1, none⟩ = some (.slice a l.length cap) := R.out.cell 1
    have hzw : w.heap.size < wr.heap.size := R.out.lt
    have hgz : w.heap.size + 1 < wr.heap.size := hown.lt.1
    clear hown hb
    by_cases hlt : k < l.length
    · obtain ⟨b, off, rfl, c0', c1', av, cv, c2', hin, hil⟩ := HX.out k hlt
      have hgd : l.getD k default = l[k] := by simp [List.getD_eq_getElem?_getD, hlt]
      have hnk := netOk_nd HK.out hlt
      rw [hgd] at c0' c1' c2' hin hil
      simp only at hnk
      have HVL : Hid (k = (varsL (l.take k)).length) := by show _ = _; rw [varsL_length, List.length_take]; omega
      have HVO := Lib.hid (varsL_ok (l.take k))
      have hrep : List.replicate (l.length - k) St.zero = St.zero :: List.replicate (l.length - k - 1) St.zero := by rw [← List.replicate_succ]; congr 1; omega
      have HVS : Hid (varsL (l.take (k + 1)) = varsL (l.take k) ++ [insU (varsL (l.take k)) (ofL [litVar l[k].lit]) l[k].ins]) := by
        show _ = _; rw [List.take_succ_eq_append_getElem hlt, varsL_snoc]
      have HN : Hid (∀ c : St, l.length = (varsL (l.take k) ++ c :: List.replicate (l.length - k - 1) St.zero).length) := fun c => by simp [varsL_length]; omega
      have ho3 := HO.out
      rw [hrep] at ho3
      clear hrep
      generalize varsL (l.take k) = vs at *
      generalize hzs : List.replicate (l.length - k - 1) St.zero = zs at *
      have HREP := Lib.hid hzs
      clear hzs
      generalize l[k] = x at *
      have HO3 := Lib.hid ho3
      have hbw : b < w.heap.size := cell_block c0'
      have c0 := HBA.out.cell (p := ⟨b, off + k * 3, none⟩) hbw
      have c1 := HBA.out.cell (p := ⟨b, off + k * 3 + 1, none⟩) hbw
      have c2 := HBA.out.cell (p := ⟨b, off + k * 3 + 2, none⟩) hbw
      rw [c0'] at c0
      rw [c1'] at c1
      rw [c2'] at c2
      have HIN := Lib.hid hin
      have HINS := Lib.hid (ndOk_ins hnk)
      have hbz : b < wr.heap.size := cell_block c0
      have hkl : (k : Int) < (l.length : Int) := by omega
      have hk0 : (0 : Int) ≤ (k : Int) := by omega
      by_cases h2 : x.kind = 2
      · have hb2 : (x.kind == 2) = true := by simpa using h2
        have hl := ndOk_lit hnk h2
        have hv := litVar_bd x.lit
        have hi0 : x.ins = [] := Classical.byContradiction fun hne => by have := ins_kind hnk hne; omega
        have m0 : wr.cell? ⟨w.heap.size + 1, k * 2, none⟩ = some (.int .u64 ((St.zero).a : Int)) := ho3.mid HVL.out (HN.out _) stc_len 0 (by omega)
        have m1 : wr.cell? ⟨w.heap.size + 1, k * 2 + 1, none⟩ = some (.int .u64 ((St.zero).b : Int)) := ho3.mid HVL.out (HN.out _) stc_len 1 (by omega)
        have hlr := litVar_ne hl.1
        have hmax := max_lit hl.1
        have hlo : -128 ≤ x.lit := by omega
        have hhi : x.lit ≤ 128 := by omega
        have hwn : IntKind.i64.wrap (-x.lit) = -x.lit := IntWalk.i64_in _ (by omega)
        have HWI := Lib.hid (fun V => with21_any St.zero (litVar x.lit) V St.zero_ok (by omega) (by omega))
        have HKS : Hid (∀ w' : World, Kp (fun y => y = w.heap.size + 1) wr w' → w'.cell? ⟨w.heap.size, 1, none⟩ = some (.slice (some ⟨b, off, none⟩) l.length cap) ∧ w'.cell? ⟨b, off + k * 3 + 1, none⟩ = some (.int .i64 x.lit)) := Lib.hid fun w' hk => ⟨hk.cell k1 (by dsimp only; omega), hk.cell c1 (by dsimp only; omega)⟩
        have HMX := Lib.hid hmax
        have HI0 := Lib.hid hi0
        clear h2 hl hv hlr hin hnk ho3 c0' c1' c2' hgd hi0
        go_wp2_with fail
        go_region_held3 (fun w' => w'.cell? ⟨w.heap.size, 1, none⟩ = some (.slice (some ⟨b, off, none⟩) l.length cap) ∧ w'.cell? ⟨b, off + k * 3 + 1, none⟩ = some (.int .i64 x.lit))
          (first | exact HKS.out _ (Kp.below (Below.refl _ _).drew) | exact HKS.out _ (Kp.below hw5) | exact HKS.out _ (Kp.trans (M := fun y => y = w.heap.size + 1) (Kp.trans (M := fun y => y = w.heap.size + 1) (Kp.below hw5) (Kp.setCell (M := fun y => y = w.heap.size + 1) _ _ _ rfl)) (Kp.setCell (M := fun y => y = w.heap.size + 1) _ _ _ rfl)))
          (first
            | (go_at_call 74
               refine (HWI.out _).mono ?_
               rintro e w5 ⟨rfl, hb5⟩
               have hw5 : Below wr.heap.size wr w5 := Below.trans (Below.refl _ _).drew hb5
               have ho5 := HO3.out.later hw5
               have z0 : w5.cell? ⟨w.heap.size + 1, k * 2, none⟩ = some (.int .u64 ((St.zero).a : Int)) := ho5.mid HVL.out (HN.out _) stc_len 0 (by omega)
               have z1 : w5.cell? ⟨w.heap.size + 1, k * 2 + 1, none⟩ = some (.int .u64 ((St.zero).b : Int)) := ho5.mid HVL.out (HN.out _) stc_len 1 (by omega)
               have z2 := ho5.fr (HN.out _) (k * 2)
               have z3 := ho5.fr (HN.out _) (k * 2 + 1)
               clear ho5))
        all_goals
          have HO5 : Hid (OwnSets ((w5.setCell ⟨w.heap.size + 1, k * 2, none⟩ (.int .u64 ((St.zero.add (litVar x.lit)).a : Int))).setCell ⟨w.heap.size + 1, k * 2 + 1, none⟩ (.int .u64 ((St.zero.add (litVar x.lit)).b : Int))) (w.heap.size + 1) (.slice (some ⟨w.heap.size + 1, 0, none⟩) l.length l.length) (vs ++ St.zero.add (litVar x.lit) :: zs)) :=
            (HO3.out.later hw5).midput2 HVL.out (HN.out _) stc_len (St.zero.add (litVar x.lit)) _ _ rfl
          have HKP : Hid (Kp (fun y => y = w.heap.size + 1) wr ((w5.setCell ⟨w.heap.size + 1, k * 2, none⟩ (.int .u64 ((St.zero.add (litVar x.lit)).a : Int))).setCell ⟨w.heap.size + 1, k * 2 + 1, none⟩ (.int .u64 ((St.zero.add (litVar x.lit)).b : Int)))) :=
            (Kp.trans (M := fun y => y = w.heap.size + 1) (Kp.trans (M := fun y => y = w.heap.size + 1) (Kp.below hw5) (Kp.setCell (M := fun y => y = w.heap.size + 1) _ _ _ rfl)) (Kp.setCell (M := fun y => y = w.heap.size + 1) _ _ _ rfl))
          have HV2 : Hid (varsL (l.take (k + 1)) = vs ++ [St.zero.add (litVar x.lit)]) := by show _ = _; rw [HVS.out, HI0.out]; rfl
          generalize St.zero.add (litVar x.lit) = d at *
          have n1 : ((w5.setCell ⟨w.heap.size + 1, k * 2, none⟩ (.int .u64 (d.a : Int))).setCell ⟨w.heap.size + 1, k * 2 + 1, none⟩ (.int .u64 (d.b : Int))).cell? ⟨w.heap.size, 1, none⟩ = some (.slice (some ⟨b, off, none⟩) l.length cap) := HKP.out.cell k1 (by dsimp only; omega)
          have n2 : ((w5.setCell ⟨w.heap.size + 1, k * 2, none⟩ (.int .u64 (d.a : Int))).setCell ⟨w.heap.size + 1, k * 2 + 1, none⟩ (.int .u64 (d.b : Int))).cell? ⟨b, off + k * 3 + 2, none⟩ = some (.slice av x.ins.length cv) := HKP.out.cell c2 (by dsimp only; omega)
          have hil0 : x.ins.length = 0 := by rw [HI0.out]; rfl
          go_wp2_with fail
          generalize (w5.setCell ⟨w.heap.size + 1, k * 2, none⟩ (.int .u64 (d.a : Int))).setCell ⟨w.heap.size + 1, k * 2 + 1, none⟩ (.int .u64 (d.b : Int)) = V at *
          clear m0 m1 z0 z1 z2 z3
          go_loop [5] (fun i => i = .int .i64 0) (fun _ => 0)
          case atStart => rfl
          case round =>
            subst hrel
            go_wp2
            go_roundw
            case rel => exact ⟨k + 1, by omega, by go_num, by rw [show l.length - (k + 1) = l.length - k - 1 by omega, HREP.out, HV2.out, List.append_assoc]; exact HO5.out, HB.out.trans (HKP.out.toBelow (by omega) (by intro y hy h; omega))⟩
            case measure => simp [intOf]; omega
      · have hb2 : (x.kind == 2) = false := by simpa using h2
        have hlz : x.lit = 0 := by
          have h3 := hnk
          simp only [ndOk, Bool.and_eq_true] at h3
          have h4 := h3.2
          unfold formOk at h4
          have hk5 := formOk_kind hnk
          by_cases e0 : x.kind = 0 ∨ x.kind = 1
          · rw [if_pos e0] at h4; simp at h4; exact h4.1
          · rw [if_neg e0, if_neg h2, if_pos (by omega)] at h4; simpa using h4
        have HV2 : Hid (varsL (l.take (k + 1)) = vs ++ [insU vs St.zero x.ins]) := by show _ = _; rw [HVS.out, hlz]; rfl
        have hLL : k < vs.length + 1 := by have := HVL.out; omega
        clear h2 hin hnk ho3 c0' c1' c2' hgd hlz
        go_wp2_with fail
        obtain ⟨wo, rfl⟩ : ∃ wo : World, wo = wr := ⟨_, rfl⟩
        go_loopw [5] (fun i wi => ∃ m : Nat, m ≤ x.ins.length ∧ i = .int .i64 m ∧ OwnSets wi (w.heap.size + 1) (.slice (some ⟨w.heap.size + 1, 0, none⟩) l.length l.length) (vs ++ insU vs St.zero (x.ins.take m) :: zs) ∧ Kp (fun y => y = w.heap.size + 1) wo wi) (fun i _ => x.ins.length - (intOf i).toNat)
        case atStart => exact ⟨0, Nat.zero_le _, rfl, HO3.out, Kp.refl _ _⟩
        case round =>
          obtain ⟨wi, rfl⟩ : ∃ wi : World, wi = wr := ⟨_, rfl⟩
          obtain ⟨m, hm, rfl, hown, hkp⟩ := hrel
          have HKP := Lib.hid hkp
          have HOI := Lib.hid hown
          have p1 : wi.cell? ⟨w.heap.size, 1, none⟩ = some (.slice (some ⟨b, off, none⟩) l.length cap) := hkp.cell k1 (by dsimp only; omega)
          have p2 : wi.cell? ⟨b, off + k * 3 + 2, none⟩ = some (.slice av x.ins.length cv) := hkp.cell c2 (by dsimp only; omega)
          by_cases hlm : m < x.ins.length
          · obtain ⟨b2, off2, rfl, e0'⟩ := HIN.out m hlm
            have hgd2 : x.ins.getD m 0 = x.ins[m] := by simp [List.getD_eq_getElem?_getD, hlm]
            have hq := HINS.out x.ins[m] (List.getElem_mem hlm)
            have hins := insU_snoc vs St.zero (x.ins.take m) x.ins[m]
            rw [← List.take_succ_eq_append_getElem hlm] at hins
            rw [hgd2] at e0'
            generalize x.ins[m] = y at *
            obtain ⟨hq0, hq1⟩ := hq
            obtain ⟨q, rfl⟩ := Int.eq_ofNat_of_zero_le hq0
            have hqk : q < vs.length := by have := HVL.out; omega
            have hqd : vs.getD ((q : Int)).toNat St.zero = vs[q] := by simp [List.getD_eq_getElem?_getD, hqk]
            rw [hqd] at hins
            have hb2w : b2 < w.heap.size := cell_block e0'
            have e0 := cell_keep (w := w) (HBA.out) e0'
            have p3 : wi.cell? ⟨b2, off2 + m, none⟩ = some (.int .i64 (q : Int)) := hkp.cell e0 (by dsimp only; omega)
            have m0 : wi.cell? ⟨w.heap.size + 1, k * 2, none⟩ = some (.int .u64 ((insU vs St.zero (x.ins.take m)).a : Int)) := hown.mid HVL.out (HN.out _) stc_len 0 (by omega)
            have m1 : wi.cell? ⟨w.heap.size + 1, k * 2 + 1, none⟩ = some (.int .u64 ((insU vs St.zero (x.ins.take m)).b : Int)) := hown.mid HVL.out (HN.out _) stc_len 1 (by omega)
            have r0 : wi.cell? ⟨w.heap.size + 1, q * 2, none⟩ = some (.int .u64 (vs[q].a : Int)) := hown.left hqk (HN.out _) stc_len 0 (by omega)
            have r1 : wi.cell? ⟨w.heap.size + 1, q * 2 + 1, none⟩ = some (.int .u64 (vs[q].b : Int)) := hown.left hqk (HN.out _) stc_len 1 (by omega)
            have HTO : Hid (vs[q].ok) := HVO.out _ (List.getElem_mem hqk)
            have HCO2 : Hid ((insU vs St.zero (x.ins.take m)).ok) := insU_ok HVO.out _ St.zero_ok
            have HST := Lib.hid hins
            have hml : (m : Int) < (x.ins.length : Int) := by omega
            have hql : (q : Int) < (l.length : Int) := by omega
            have hm0 : (0 : Int) ≤ (m : Int) := by omega
            have hq00 : (0 : Int) ≤ (q : Int) := by omega
            have hbz2 : b2 < wi.heap.size := cell_block p3
            have hgz2 : w.heap.size + 1 < wi.heap.size := hown.lt.1
            generalize insU vs St.zero (x.ins.take m) = cur at *
            generalize vs[q] = tq at *
            have HUN := Lib.hid (fun V => union21_any cur tq V HCO2.out HTO.out)
            have HKS : Hid (∀ w' : World, Kp (fun y => y = w.heap.size + 1) wi w' → w'.cell? ⟨w.heap.size, 1, none⟩ = some (.slice (some ⟨b, off, none⟩) l.length cap) ∧ w'.cell? ⟨b, off + k * 3 + 2, none⟩ = some (.slice (some ⟨b2, off2, none⟩) x.ins.length cv) ∧ w'.cell? ⟨b2, off2 + m, none⟩ = some (.int .i64 (q : Int))) := Lib.hid fun w' hk => ⟨hk.cell p1 (by dsimp only; omega), hk.cell p2 (by dsimp only; omega), hk.cell p3 (by dsimp only; omega)⟩
            clear hown hkp hins hqd hgd2 e0' e0
            go_wp2_with fail
            go_region_held3 (fun w' => w'.cell? ⟨w.heap.size, 1, none⟩ = some (.slice (some ⟨b, off, none⟩) l.length cap) ∧ w'.cell? ⟨b, off + k * 3 + 2, none⟩ = some (.slice (some ⟨b2, off2, none⟩) x.ins.length cv) ∧ w'.cell? ⟨b2, off2 + m, none⟩ = some (.int .i64 (q : Int)))
              (first | exact HKS.out _ (Kp.below (Below.refl _ _).drew) | exact HKS.out _ (Kp.below hw5) | exact HKS.out _ (Kp.trans (M := fun y => y = w.heap.size + 1) (Kp.trans (M := fun y => y = w.heap.size + 1) (Kp.below hw5) (Kp.setCell (M := fun y => y = w.heap.size + 1) _ _ _ rfl)) (Kp.setCell (M := fun y => y = w.heap.size + 1) _ _ _ rfl)))
              (first
                | (go_at_call 117
                   refine (HUN.out _).mono ?_
                   rintro e w5 ⟨rfl, hb5⟩
                   have hw5 : Below wi.heap.size wi w5 := Below.trans (Below.refl _ _).drew hb5
                   have ho5 := HOI.out.later hw5
                   have z0 : w5.cell? ⟨w.heap.size + 1, k * 2, none⟩ = some (.int .u64 (cur.a : Int)) := ho5.mid HVL.out (HN.out _) stc_len 0 (by omega)
                   have z1 : w5.cell? ⟨w.heap.size + 1, k * 2 + 1, none⟩ = some (.int .u64 (cur.b : Int)) := ho5.mid HVL.out (HN.out _) stc_len 1 (by omega)
                   have z2 := ho5.fr (HN.out _) (k * 2)
                   have z3 := ho5.fr (HN.out _) (k * 2 + 1)
                   clear ho5))
            all_goals
              have HO5 := Lib.hid ((HOI.out.later hw5).midput2 HVL.out (HN.out _) stc_len (cur.union tq) _ _ rfl)
              have HK5 := Lib.hid (((Kp.below (M := fun y => y = w.heap.size + 1) hw5).trans (Kp.setCell _ ⟨w.heap.size + 1, k * 2, none⟩ (.int .u64 ((cur.union tq).a : Int)) rfl)).trans (Kp.setCell _ ⟨w.heap.size + 1, k * 2 + 1, none⟩ (.int .u64 ((cur.union tq).b : Int)) rfl))
              clear z0 z1 z2 z3 m0 m1 r0 r1
              go_wp2
              go_roundw
              case rel => exact ⟨m + 1, by omega, by go_num, by rw [HST.out]; exact HO5.out, HKP.out.trans HK5.out⟩
              case measure => simp [intOf]; omega
          · have : m = x.ins.length := by omega
            subst this
            rw [List.take_length] at hown
            have HO5 := Lib.hid hown
            clear hown hkp
            go_wp2
            go_roundw
            case rel => exact ⟨k + 1, by omega, by go_num, by rw [show l.length - (k + 1) = l.length - k - 1 by omega, HREP.out, HV2.out, List.append_assoc]; exact HO5.out, HB.out.trans (HKP.out.toBelow (by omega) (by intro y hy h; omega))⟩
            case measure => simp [intOf]; omega
    · have : k = l.length := by omega
      subst this
      go_wp2
      go_ret
      refine ⟨_, rfl, ?_, HBA.out⟩
      have := HO.out
      simp only [Nat.sub_self, List.replicate_zero, List.append_nil, List.take_length] at this
      exact this.lower (by omega)
end Go.Proofs.YtfdonhfhcomjaaaGreatDoor

/- The walk of censusref21's Decomposable. -/
namespace Go.Proofs.YtfdonhfhcomjaaaGreatDoor
open Go.RowKit Cen
set_option maxHeartbeats 4000000
set_option maxRecDepth 100000
theorem cut_zero {s t : St} (hs : s.ok) : s.cut t = St.zero ↔ ∀ v, 1 ≤ v → v ≤ 128 → (s.mem v && t.mem v) = false := by
  constructor
  · intro h v _ _
    rw [← St.mem_cut, h, St.mem_zero]
  · intro h
    apply St.ext (St.cut_ok hs) St.zero_ok
    intro v h1 h2
    rw [St.mem_cut, h v h1 h2, St.mem_zero]
theorem cut_comm {s t : St} (hs : s.ok) (ht : t.ok) : s.cut t = St.zero ↔ t.cut s = St.zero := by
  rw [cut_zero hs, cut_zero ht]
  exact ⟨fun h v a b => by rw [Bool.and_comm]; exact h v a b, fun h v a b => by rw [Bool.and_comm]; exact h v a b⟩
theorem sepF_iff {vs : List St} (hv : ∀ k, (vs.getD k St.zero).ok) (ins : List Int) : ∀ S : St, S.ok →
    (sepF vs S ins = true ↔ (∀ i ∈ ins, S.cut (vs.getD i.toNat St.zero) = St.zero) ∧ ins.Pairwise fun i j => (vs.getD i.toNat St.zero).cut (vs.getD j.toNat St.zero) = St.zero) := by
  induction ins with
  | nil => intro S _; simp [sepF]
  | cons k r ih =>
    intro S hS
    rw [sepF, List.pairwise_cons]
    have hU : ∀ i : Int, (S.union (vs.getD k.toNat St.zero)).cut (vs.getD i.toNat St.zero) = St.zero ↔ S.cut (vs.getD i.toNat St.zero) = St.zero ∧ (vs.getD k.toNat St.zero).cut (vs.getD i.toNat St.zero) = St.zero := fun i => by
      rw [cut_zero (St.union_ok hS (hv _)), cut_zero hS, cut_zero (hv _)]
      constructor
      · intro h
        refine ⟨fun v a b => ?_, fun v a b => ?_⟩ <;> (have := h v a b; rw [St.mem_union] at this; revert this; cases S.mem v <;> cases (vs.getD k.toNat St.zero).mem v <;> cases (vs.getD i.toNat St.zero).mem v <;> simp)
      · intro ⟨h1, h2⟩ v a b
        have e1 := h1 v a b
        have e2 := h2 v a b
        rw [St.mem_union]; revert e1 e2
        cases S.mem v <;> cases (vs.getD k.toNat St.zero).mem v <;> cases (vs.getD i.toNat St.zero).mem v <;> simp
    by_cases h : S.cut (vs.getD k.toNat St.zero) = St.zero
    · rw [if_pos h, ih _ (St.union_ok hS (hv _))]
      constructor
      · intro ⟨h1, h2⟩
        refine ⟨fun i hi => ?_, fun i hi => ((hU i).1 (h1 i hi)).2, h2⟩
        rcases List.mem_cons.1 hi with rfl | hi
        · exact h
        · exact ((hU i).1 (h1 i hi)).1
      · intro ⟨h1, h2, h3⟩
        exact ⟨fun i hi => (hU i).2 ⟨h1 i (by simp [hi]), h2 i hi⟩, h3⟩
    · rw [if_neg h]
      constructor
      · intro h2; simp at h2
      · intro ⟨h1, _⟩; exact absurd (h1 k (by simp)) h
/-- The inputs' variables are apart, pair by pair. -/
def pairs (vs : List St) (ins : List Int) : Prop := ∀ k m, m < k → k < ins.length → (vs.getD (ins.getD k 0).toNat St.zero).cut (vs.getD (ins.getD m 0).toNat St.zero) = St.zero
theorem sepF_pairs {vs : List St} (hv : ∀ k, (vs.getD k St.zero).ok) (ins : List Int) : sepF vs St.zero ins = true ↔ pairs vs ins := by
  rw [sepF_iff hv ins St.zero St.zero_ok, List.pairwise_iff_getElem]
  have hz : ∀ i ∈ ins, St.zero.cut (vs.getD i.toNat St.zero) = St.zero := fun i _ => (cut_zero St.zero_ok).2 fun v _ _ => by rw [St.mem_zero]; rfl
  constructor
  · intro ⟨_, h⟩ k m hmk hk
    have := h m k (by omega) hk hmk
    have e1 : ins.getD k 0 = ins[k] := by simp [List.getD_eq_getElem?_getD, hk]
    have e2 : ins.getD m 0 = ins[m] := by simp [List.getD_eq_getElem?_getD, show m < ins.length by omega]
    rw [e1, e2, cut_comm (hv _) (hv _)]; exact this
  · intro h
    refine ⟨hz, fun i j hi hj hij => ?_⟩
    have := h j i hij hj
    have e1 : ins.getD j 0 = ins[j] := by simp [List.getD_eq_getElem?_getD, hj]
    have e2 : ins.getD i 0 = ins[i] := by simp [List.getD_eq_getElem?_getD, hi]
    rw [e1, e2, cut_comm (hv _) (hv _)] at this; exact this
theorem decomposable21_any (n : Int) (a : Option Addr) (cap : Nat) (l : List Nd) (w : World) (hok : netOk ⟨n, l⟩ = true) (hx : NdCells w a l) :
    Calls Tryz.prog 50 #[.agg #[.int .i64 n, .slice a l.length cap]] w fun e w' => e = .returned (.bool (decL l)) ∧ Below w.heap.size w w' := by
  have hb0 := (Below.refl w.heap.size w).alloc (Nat.le_refl _) (.cells #[.int .i64 n, .slice a l.length cap] 24)
  have HB0 := Lib.hid hb0
  have q0 := Lib.hid (Blk.new w #[.int .i64 n, .slice a l.length cap] 24)
  have HX := Lib.hid hx
  have HK := Lib.hid hok
  have hl2 : l.length ≤ 65536 := (netOk_head hok).2.2.2
  have HVA := Lib.hid (valid21_any n a cap l _ hok (hx.keep hb0))
  have HVR := Lib.hid (fun V (h : NdCells V a l) => vars21_any n a cap l V hok h)
  have hhid : ∀ k, ((varsL l).getD k St.zero).ok := varsL_getD_ok l
  have HVO := Lib.hid hhid
  have HVL := Lib.hid (varsL_length l)
  have HSEP : Hid (∀ j, j < l.length → ((l.getD j default).kind ≠ 3 ∨ pairs (varsL l) (l.getD j default).ins) → ndSep (varsL l) (l.getD j default) = true) := fun j _ h => by
    unfold ndSep
    rcases h with h | h
    · rw [decide_eq_true h]; rfl
    · rw [(sepF_pairs hhid _).2 h]; simp
  have HNOT : Hid (∀ j, j < l.length → (l.getD j default).kind = 3 → ¬ pairs (varsL l) (l.getD j default).ins → decL l = false) := fun j hj h3 hp => by
    have e : l.getD j default = l[j] := by simp [List.getD_eq_getElem?_getD, hj]
    rw [e] at h3 hp
    refine decL_false hj ?_
    unfold ndSep
    rw [Bool.eq_false_iff]; intro h
    rw [Bool.or_eq_true] at h
    rcases h with h | h
    · simp at h; exact h h3
    · exact hp ((sepF_pairs hhid _).1 h)
  clear hb0 hx hok hhid
  go_enter Tryz.func50, Tryz.ntmps50
  go_wp2_with fail
  refine HVA.out.mono ?_
  rintro e w1 ⟨rfl, hb1⟩
  have HB1 := Lib.hid (HB0.out.trans (hb1.mono HB0.out.size))
  have R1 := Lib.hid (q0.out.later hb1)
  have k0 : w1.cell? ⟨w.heap.size, 0, none⟩ = some (.int .i64 n) := R1.out.cell 0
  have k1 : w1.cell? ⟨w.heap.size, 1, none⟩ = some (.slice a l.length cap) := R1.out.cell 1
  have HVR1 := Lib.hid (HVR.out w1 (HX.out.keep HB1.out))
  clear hb1
  go_wp2_with fail
  refine HVR1.out.mono ?_
  rintro e w2 ⟨g, rfl, hown, hb2⟩
  have HO := Lib.hid hown
  have HB2 := Lib.hid (HB1.out.trans (hb2.mono HB1.out.size))
  have R2 := Lib.hid (R1.out.later hb2)
  clear k0 k1 hb2 hown
  generalize hvs : varsL l = vs at *
  have HVS := Lib.hid hvs
  clear hvs
  go_wp2_with fail
  go_loopw [4] (fun i wr => ∃ j : Nat, j ≤ l.length ∧ i = .int .i64 j ∧ (∀ t, t < j → ndSep vs (l.getD t default) = true) ∧ Below w2.heap.size w2 wr) (fun i _ => l.length - (intOf i).toNat)
  case atStart => exact ⟨0, Nat.zero_le _, rfl, fun t h => absurd h (Nat.not_lt_zero _), Below.refl _ _⟩
  case round =>
    obtain ⟨j, hj, rfl, hno, hb⟩ := hrel
    have HN := Lib.hid hno
    have HB := Lib.hid hb
    have HBA := Lib.hid (HB2.out.trans (hb.mono HB2.out.size))
    have R := Lib.hid (R2.out.later hb)
    have k1 : wr.cell? ⟨w.heap.size, 1, none⟩ = some (.slice a l.length cap) := R.out.cell 1
    clear hno hb
    by_cases hlt : j < l.length
    · obtain ⟨b, off, rfl, c0', c1', av, cv, c2', hin, hil⟩ := HX.out j hlt
      have hnk := netOk_nd HK.out hlt
      have hgd : l.getD j default = l[j] := by simp [List.getD_eq_getElem?_getD, hlt]
      have HSJ := Lib.hid (HSEP.out j hlt)
      have HNJ := Lib.hid (HNOT.out j hlt)
      rw [← hgd] at hnk
      simp only at hnk
      have HXD : Hid (l.getD j default = l.getD j default) := rfl
      generalize hxd : l.getD j default = x at *
      have HXE := Lib.hid hxd
      clear hxd hgd
      have hbw : b < w.heap.size := cell_block c0'
      have c0 := HBA.out.cell (p := ⟨b, off + j * 3, none⟩) hbw
      have c2 := HBA.out.cell (p := ⟨b, off + j * 3 + 2, none⟩) hbw
      rw [c0'] at c0
      rw [c2'] at c2
      have HIN := Lib.hid hin
      have HINS := Lib.hid (ndOk_ins hnk)
      have hbz : b < wr.heap.size := cell_block c0
      clear hin hnk c0' c1' c2'
      go_wp2_with fail
      obtain ⟨wo, rfl⟩ : ∃ wo : World, wo = wr := ⟨_, rfl⟩
      go_loopw [6] (fun i wi => ∃ k : Nat, k ≤ x.ins.length ∧ i = .int .i64 k ∧ (k = 0 ∨ x.kind = 3) ∧ (∀ k' m, k' < k → m < k' → (vs.getD (x.ins.getD k' 0).toNat St.zero).cut (vs.getD (x.ins.getD m 0).toNat St.zero) = St.zero) ∧ Below w2.heap.size w2 wi) (fun i _ => x.ins.length - (intOf i).toNat)
      case atStart => exact ⟨0, Nat.zero_le _, rfl, .inl rfl, fun k' m h _ => absurd h (Nat.not_lt_zero _), HB.out⟩
      case round =>
        obtain ⟨wi, rfl⟩ : ∃ wi : World, wi = wr := ⟨_, rfl⟩
        obtain ⟨k, hk, rfl, hk3, hpr, hbi⟩ := hrel
        have HPR := Lib.hid hpr
        have HK3 := Lib.hid hk3
        have HBI := Lib.hid hbi
        have HBIA := Lib.hid (HB2.out.trans (hbi.mono HB2.out.size))
        have RI := Lib.hid (R2.out.later hbi)
        have p1 : wi.cell? ⟨w.heap.size, 1, none⟩ = some (.slice (some ⟨b, off, none⟩) l.length cap) := RI.out.cell 1
        have p0 : wi.cell? ⟨b, off + j * 3, none⟩ = some (.int .i64 x.kind) := by
          have h1 : wo.heap.size ≥ 0 := Nat.zero_le _
          have := HBA.out.cell (p := ⟨b, off + j * 3, none⟩) hbw
          rw [HBIA.out.cell (p := ⟨b, off + j * 3, none⟩) hbw, ← this]; exact c0
        clear hpr hbi hk3
        by_cases hkl : k < x.ins.length
        · by_cases h3 : x.kind = 3
          · have hb3 : (x.kind == 3) = true := by simpa using h3
            have H3 := Lib.hid h3
            clear h3
            obtain ⟨b2, off2, rfl, e0'⟩ := HIN.out k hkl
            have hq := HINS.out (x.ins.getD k 0) (by simp [List.getD_eq_getElem?_getD, hkl])
            have HYK : Hid (x.ins.getD k 0 = x.ins.getD k 0) := rfl
            generalize hyk : x.ins.getD k 0 = y at *
            have HYKE := Lib.hid hyk
            clear hyk
            obtain ⟨hq0, hq1⟩ := hq
            obtain ⟨q, rfl⟩ := Int.eq_ofNat_of_zero_le hq0
            have hb2w : b2 < w.heap.size := cell_block e0'
            have hqv : q < vs.length := by have := HVL.out; omega
            go_wp2_with fail
            obtain ⟨wq, rfl⟩ : ∃ wq : World, wq = wi := ⟨_, rfl⟩
            go_loopw [7] (fun i wm => ∃ m : Nat, m ≤ k ∧ i = .int .i64 m ∧ (∀ m', m' < m → (vs.getD q St.zero).cut (vs.getD (x.ins.getD m' 0).toNat St.zero) = St.zero) ∧ Below w2.heap.size w2 wm) (fun i _ => k - (intOf i).toNat)
            case atStart => exact ⟨0, Nat.zero_le _, rfl, fun m' h => absurd h (Nat.not_lt_zero _), HBI.out⟩
            case round =>
              obtain ⟨wm, rfl⟩ : ∃ wm : World, wm = wr := ⟨_, rfl⟩
              obtain ⟨m, hm, rfl, hpm, hbm⟩ := hrel
              have HPM := Lib.hid hpm
              have HBM := Lib.hid hbm
              have HBMA := Lib.hid (HB2.out.trans (hbm.mono HB2.out.size))
              clear hpm
              by_cases hmk : m < k
              · have hml : m < x.ins.length := by omega
                obtain ⟨b3, off3, e3, f0'⟩ := HIN.out m hml
                simp only [Option.some.injEq, Addr.mk.injEq, and_true] at e3
                obtain ⟨rfl, rfl⟩ := e3
                have hr := HINS.out (x.ins.getD m 0) (by simp [List.getD_eq_getElem?_getD, hml])
                generalize hym : x.ins.getD m 0 = z at *
                have HYME := Lib.hid hym
                clear hym
                obtain ⟨hr0, hr1⟩ := hr
                obtain ⟨r, rfl⟩ := Int.eq_ofNat_of_zero_le hr0
                have hrv : r < vs.length := by have := HVL.out; omega
                have ho := HO.out.later hbm
                have i0 : wm.cell? ⟨b2, off2 + k, none⟩ = some (.int .i64 (q : Int)) := by rw [HBMA.out.cell (p := ⟨b2, off2 + k, none⟩) hb2w]; exact e0'
                have i1 : wm.cell? ⟨b2, off2 + m, none⟩ = some (.int .i64 (r : Int)) := by rw [HBMA.out.cell (p := ⟨b2, off2 + m, none⟩) hb2w]; exact f0'
                have u0 : wm.cell? ⟨g, q * 2, none⟩ = some (.int .u64 (vs[q].a : Int)) := ho.cell HVL.out.symm stc_len q 0 hqv (by omega)
                have u1 : wm.cell? ⟨g, q * 2 + 1, none⟩ = some (.int .u64 (vs[q].b : Int)) := ho.cell HVL.out.symm stc_len q 1 hqv (by omega)
                have v0 : wm.cell? ⟨g, r * 2, none⟩ = some (.int .u64 (vs[r].a : Int)) := ho.cell HVL.out.symm stc_len r 0 hrv (by omega)
                have v1 : wm.cell? ⟨g, r * 2 + 1, none⟩ = some (.int .u64 (vs[r].b : Int)) := ho.cell HVL.out.symm stc_len r 1 hrv (by omega)
                have hqd : vs.getD q St.zero = vs[q] := by simp [List.getD_eq_getElem?_getD, hqv]
                have hrd : vs.getD ((r : Int)).toNat St.zero = vs[r] := by simp [List.getD_eq_getElem?_getD, hrv]
                have HQO : Hid (vs[q].ok) := by have := HVO.out q; rw [hqd] at this; exact this
                have HRO : Hid (vs[r].ok) := by have := HVO.out r; rw [show vs.getD r St.zero = vs[r] by simp [List.getD_eq_getElem?_getD, hrv]] at this; exact this
                have hki : (k : Int) < (x.ins.length : Int) := by omega
                have hmi : (m : Int) < (x.ins.length : Int) := by omega
                have hqi : (q : Int) < (l.length : Int) := by have := HVL.out; omega
                have hri : (r : Int) < (l.length : Int) := by have := HVL.out; omega
                have hk00 : (0 : Int) ≤ (k : Int) := by omega
                have hm00 : (0 : Int) ≤ (m : Int) := by omega
                have HQD := Lib.hid hqd
                have HRD := Lib.hid hrd
                generalize vs[q] = S at *
                generalize vs[r] = T at *
                have HME := Lib.hid (fun V => meets_any S T V HQO.out HRO.out)
                clear ho hbm hqd hrd e0' f0' p0 p1 c0 c2 k1
                go_wp2_with fail
                refine wp_region_still_tail 14 (by kernel_rfl) (by kernel_rfl) ?_
                simp only [List.take_succ_cons, List.take_zero, List.drop_succ_cons, List.drop_zero]
                change wpStill _ _ (World.drew _) _ _ _
                repeat still_step
                refine wpStill_nil ?_
                by_cases hz : S.cut T = St.zero
                · have HZ := Lib.hid hz
                  have HD : Hid (decide (S.cut T ≠ St.zero) = false) := by show _ = _; simpa using hz
                  clear hz
                  rw [HD.out] at HME
                  go_wp2_with fail
                  refine (HME.out _).mono ?_
                  rintro e w9 ⟨rfl, hb9⟩
                  have HB9 := Lib.hid (HBM.out.trans ((Below.drew (Below.refl w2.heap.size wm)).trans (Below.mono hb9 HBM.out.size)))
                  clear hb9
                  go_wp2
                  go_roundw
                  case rel => exact ⟨m + 1, by omega, by go_num, fun m' hm' => by
                    by_cases e : m' = m
                    · subst e; rw [HYME.out, HQD.out, HRD.out]; exact HZ.out
                    · exact HPM.out m' (by omega), HB9.out⟩
                  case measure => simp [intOf]; omega
                · have HR : Hid (decL l = false) := HNJ.out H3.out (fun hp => hz (by
                    have := hp k m hmk hkl
                    rw [HYKE.out, HYME.out, HRD.out, show ((q : Int)).toNat = q from rfl, HQD.out] at this
                    exact this))
                  have HD : Hid (decide (S.cut T ≠ St.zero) = true) := by show _ = _; simpa using hz
                  clear hz
                  rw [HD.out] at HME
                  go_wp2_with fail
                  refine (HME.out _).mono ?_
                  rintro e w9 ⟨rfl, hb9⟩
                  have HB9 := Lib.hid (HBM.out.trans ((Below.drew (Below.refl w2.heap.size wm)).trans (Below.mono hb9 HBM.out.size)))
                  clear hb9
                  go_wp2
                  go_ret
                  exact ⟨ret_bool HR.out.symm, HB2.out.trans (HB9.out.mono HB2.out.size)⟩
              · have : m = k := by omega
                subst this
                go_wp2
                go_roundw
                case rel => exact ⟨m + 1, by omega, by go_num, .inr H3.out, fun k' m' hk' hm' => by
                  by_cases e : k' = m
                  · subst e; rw [HYKE.out, show ((q : Int)).toNat = q from rfl]; exact HPM.out m' hm'
                  · exact HPR.out k' m' (by omega) hm', HBM.out⟩
                case measure => simp [intOf]; omega
          · have hb3 : (x.kind == 3) = false := by simpa using h3
            have HS := Lib.hid (HSJ.out (.inl h3))
            clear h3
            go_wp2
            go_roundw
            case rel => exact ⟨j + 1, by omega, by go_num, fun t ht => by
              by_cases e : t = j
              · subst e; rw [HXE.out]; exact HS.out
              · exact HN.out t (by omega), HBI.out⟩
            case measure => simp [intOf]; omega
        · have : k = x.ins.length := by omega
          have HS : Hid (ndSep vs x = true) := by
            by_cases h3 : x.kind = 3
            · exact HSJ.out (.inr fun k' m' hm' hk' => HPR.out k' m' (by omega) hm')
            · exact HSJ.out (.inl h3)
          subst this
          go_wp2
          go_roundw
          case rel => exact ⟨j + 1, by omega, by go_num, fun t ht => by
            by_cases e : t = j
            · subst e; rw [HXE.out]; exact HS.out
            · exact HN.out t (by omega), HBI.out⟩
          case measure => simp [intOf]; omega
    · have : j = l.length := by omega
      subst this
      have HR : Hid (decL l = true) := by
        show _ = _
        refine decL_true fun t ht => ?_
        rw [HVS.out]; exact HN.out t ht
      go_wp2
      go_ret
      exact ⟨ret_bool HR.out.symm, HBA.out⟩
end Go.Proofs.YtfdonhfhcomjaaaGreatDoor
