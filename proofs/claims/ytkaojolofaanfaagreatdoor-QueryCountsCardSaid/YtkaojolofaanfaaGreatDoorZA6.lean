/- Part of the proofs that laws of censuslaw38 return true for every input, where the tables that the rows list are laid. Texts: Node2, VarsOf, Bld, BldL. -/
import Derived.Test.YtkaojolofaanfaaGreatDoorZA5
import Derived.Test.YtkaojolofaanfaaGreatDoorZA4
import Derived.Deep.AppendLies
import Derived.Deep.RegionLaw
import Derived.StillTailTactics
import Derived.Test.YtkaojolofaanfaaGreatDoorZA3

/- The walk of node.Check. -/
namespace Go.Proofs.YtkaojolofaanfaaGreatDoor
open Go.RowKit Cen
set_option maxHeartbeats 400000
set_option maxRecDepth 100000

def chk (t : Nt) : Int := if netOk t then 0 else 1
theorem chk_bad {t : Nt} (h : headOk t = false) : chk t = 1 := by simp [chk, netOk, h]
theorem chk_node {t : Nt} {k : Nat} (hk : k < t.l.length) (h : ndOk (t.l.getD k default) t.n k = false) : chk t = 1 := by
  have : netOk t = false := by
    rw [Bool.eq_false_iff]; intro h'
    simp [netOk] at h'
    have := h'.2 k hk
    rw [h] at this; exact absurd this (by simp)
  simp [chk, this]
theorem chk_good {t : Nt} (h : headOk t = true) (h' : ndsOk t.l t.n t.l.length) : chk t = 0 := by simp [chk, netOk, h, h']

theorem check_any (n : Int) (a : Option Addr) (cap : Nat) (l : List Nd) (w : World) (hl : l.length ≤ 1073741824) (hx : NdCells w a l) :
    Calls Tryz.prog 52 #[.agg #[.int .i64 n, .slice a l.length cap]] w fun e w' => e = .returned (.int .i64 (chk ⟨n, l⟩)) ∧ Below w.heap.size w w' := by
  have HB := Lib.hid ((Below.refl w.heap.size w).alloc (Nat.le_refl _) (.cells #[.int .i64 n, .slice a l.length cap] 24))
  by_cases hh : headOk ⟨n, l⟩ = true
  · have HH := Lib.hid hh
    simp [headOk] at hh
    obtain ⟨⟨⟨h1, h2⟩, h3⟩, h4⟩ := hh
    have h1' : decide (n < 0) = false := by simp; omega
    have h2' : decide (128 < n) = false := by simp; omega
    have h3' : decide ((l.length : Int) < 1) = false := by simp; omega
    have h4' : decide ((65536 : Int) < (l.length : Int)) = false := by simp; omega
    have HX := Lib.hid hx
    clear hx
    go_enter Tryz.func52, Tryz.ntmps52
    go_wp2
    go_loopw [28] (fun i wr => ∃ k : Nat, k ≤ l.length ∧ i = .int .i64 k ∧ ndsOk l n k ∧ Below (w.heap.size + 1) (w.alloc (.cells #[.int .i64 n, .slice a l.length cap] 24)) wr) (fun i _ => l.length - (intOf i).toNat)
    case atStart => exact ⟨0, Nat.zero_le _, rfl, fun j h => absurd h (Nat.not_lt_zero _), Below.refl _ _⟩
    case round =>
      obtain ⟨k, hk, rfl, hno, hb⟩ := hrel
      have HN := Lib.hid hno
      have HBr := Lib.hid hb
      clear hno hb
      by_cases hlt : k < l.length
      · obtain ⟨b, off, rfl, hc⟩ := (HX.out.keep HB.out) k hlt
        generalize hxe : l.getD k default = x at hc
        have HXE := Lib.hid hxe
        clear hxe
        have hbk : Below (w.alloc (.cells #[.int .i64 n, .slice (some ⟨b, off, none⟩) l.length cap] 24)).heap.size (w.alloc (.cells #[.int .i64 n, .slice (some ⟨b, off, none⟩) l.length cap] 24)) wr := by simpa using HBr.out
        have g0 : wr.cell? ⟨w.heap.size, 0, none⟩ = some (.int .i64 n) := cell_keep hbk (by rw [World.cell?_alloc_at _ _ _ _ rfl]; rfl)
        obtain ⟨c1, c2, a', cap', c3, ci, cl⟩ := hc.keep hbk
        have hsz : w.heap.size < wr.heap.size := cell_block g0
        have hbz : b < wr.heap.size := cell_block c1
        have HCI := Lib.hid ci
        clear ci hbk hc
        cases hnd : ndOk x n k
        all_goals
          have HND := Lib.hid hnd
          clear hnd
          go_wp2_with fail
          refine (formed_any _ _ _ _ _ _ _ _ cl (HCI.out.keep ((Below.refl _ _).alloc (Nat.le_refl _) _))).mono ?_
          rw [show (⟨x.kind, x.lit, x.ins⟩ : Nd) = x from rfl, HND.out]
          rintro e w1 ⟨rfl, hb1⟩
        · go_wp2
          go_ret
          refine ⟨ret_int (chk_node (k := k) hlt (by show ndOk (l.getD k default) n k = false; rw [HXE.out]; exact HND.out)).symm, ?_⟩
          exact (HB.out.trans (HBr.out.mono (by omega))).trans ((((Below.refl _ _).alloc (Nat.le_refl _) _).trans (hb1.mono (by simp))).mono (by omega))
        · go_wp2
          go_roundw
          case rel =>
            refine ⟨k + 1, by omega, by go_num, fun j hj => ?_, ?_⟩
            · by_cases e : j = k
              · subst e; rw [HXE.out]; exact HND.out
              · exact HN.out j (by omega)
            · exact HBr.out.trans ((((Below.refl _ _).alloc (Nat.le_refl _) _).trans (hb1.mono (by simp))).mono (by omega))
          case measure => simp [intOf]; omega
      · have : k = l.length := by omega
        subst this
        go_wp2
        go_ret
        exact ⟨ret_int (chk_good HH.out HN.out).symm, HB.out.trans (HBr.out.mono (by omega))⟩
  · have hr : chk ⟨n, l⟩ = 1 := chk_bad (by simpa using hh)
    rw [hr]
    have hd : ¬ (0 ≤ n ∧ n ≤ 128 ∧ 1 ≤ l.length ∧ l.length ≤ 65536) := by intro h; apply hh; simp [headOk]; omega
    clear hh hr hx
    by_cases h1 : n < 0
    · have h1' : decide (n < 0) = true := by simpa using h1
      go_enter Tryz.func52, Tryz.ntmps52
      go_wp2
      go_ret
      exact ⟨rfl, HB.out⟩
    · have h1' : decide (n < 0) = false := by simpa using h1
      by_cases h2 : 128 < n
      · have h2' : decide (128 < n) = true := by simpa using h2
        go_enter Tryz.func52, Tryz.ntmps52
        go_wp2
        go_ret
        exact ⟨rfl, HB.out⟩
      · have h2' : decide (128 < n) = false := by simpa using h2
        by_cases h3 : (l.length : Int) < 1
        · have h3' : decide ((l.length : Int) < 1) = true := by simpa using h3
          go_enter Tryz.func52, Tryz.ntmps52
          go_wp2
          go_ret
          exact ⟨rfl, HB.out⟩
        · have h3' : decide ((l.length : Int) < 1) = false := by simpa using h3
          have h4' : decide ((65536 : Int) < (l.length : Int)) = true := by simp; omega
          go_enter Tryz.func52, Tryz.ntmps52
          go_wp2
          go_ret
          exact ⟨rfl, HB.out⟩
end Go.Proofs.YtkaojolofaanfaaGreatDoor

/- The walk of node.Vars. -/
namespace Go.Proofs.YtkaojolofaanfaaGreatDoor
open Go.RowKit Cen
set_option maxHeartbeats 1000000
set_option maxRecDepth 100000

def stc (s : St) : List Value := [.int .u64 (s.a : Int), .int .u64 (s.b : Int)]
theorem stc_len (s : St) : (stc s).length = 2 := rfl
theorem elemSet : Elem 49 54 2 16 (stv St.zero) := .mk Tryz.underlying49 (by kernel_rfl) rfl (by decide)
abbrev OwnSets := OwnL stc 54 2

theorem nodeVars_any (n : Int) (a : Option Addr) (cap : Nat) (l : List Nd) (w : World) (hok : netOk ⟨n, l⟩ = true) (hl : l.length ≤ 65536) (hx : NdCells w a l) :
    Calls Tryz.prog 40 #[.agg #[.int .i64 n, .slice a l.length cap]] w fun e w' => ∃ g, e = .returned (.slice (some ⟨g, 0, none⟩) l.length l.length) ∧ OwnSets w' w.heap.size (.slice (some ⟨g, 0, none⟩) l.length l.length) (varsL l) ∧ Below w.heap.size w w' := by
  have HB0 := Lib.hid ((Below.refl w.heap.size w).alloc (Nat.le_refl _) (.cells #[.int .i64 n, .slice a l.length cap] 24))
  have HX0 := Lib.hid (hx.keep HB0.out)
  have HK := Lib.hid hok
  have hl1 : Hid (l.length ≤ 1073741824) := by show l.length ≤ 1073741824; omega
  have HCH := Lib.hid (fun W (h : NdCells W a l) => (check_any n a cap l W hl1.out h).mono (R' := fun e w' => e = .returned (.int .i64 0) ∧ Below W.heap.size W w') (fun e w' ⟨h1, h2⟩ => ⟨by rw [h1]; simp [chk, HK.out], h2⟩))
  clear hx hok
  go_enter Tryz.func40, Tryz.ntmps40
  go_wp2_with fail
  refine (HCH.out _ HX0.out).mono ?_
  rintro e w1 ⟨rfl, hb1⟩
  have hbx := Blk.later (Blk.new w #[.int .i64 n, .slice a l.length cap] 24) hb1
  have c0 : w1.cell? ⟨w.heap.size, 0, none⟩ = some (.int .i64 n) := hbx.cell 0
  have c1 : w1.cell? ⟨w.heap.size, 1, none⟩ = some (.slice a l.length cap) := hbx.cell 1
  have HBX := Lib.hid hbx
  have hz1 := hb1.size
  have HB1 := Lib.hid hb1
  have hs1 : w.heap.size + 1 ≤ w1.heap.size := by simpa using hz1
  clear hbx hb1 hz1
  have hm1 : l.length ≤ maxLen := by unfold maxLen; omega
  have HM1 := Lib.hid hm1
  clear hm1
  go_wp2_with (at_make; refine mk elemSet rfl _ _ rfl w1.heap.size .i64 .i64 _ _ l.length rfl rfl rfl rfl (by omega) HM1.out (Nat.le_refl _) stc St.zero rfl ?_)
  intro w2 hown2 hgrow2
  have HO2 := Lib.hid hown2
  have HB2 := Lib.hid ((Below.refl w1.heap.size w1).grown hgrow2 (Nat.le_refl _) (by simp))
  have c0' := cell_keep HB2.out c0
  have c1' := cell_keep HB2.out c1
  have HX2 := Lib.hid ((HX0.out.keep HB1.out).keep HB2.out)
  clear hown2 hgrow2 c0 c1
  go_wp2
  go_loopw [18] (fun i wr => ∃ k : Nat, k ≤ l.length ∧ i = .int .i64 k ∧ OwnSets wr w1.heap.size (.slice (some ⟨w1.heap.size, 0, none⟩) l.length l.length) (varsL (l.take k) ++ List.replicate (l.length - k) St.zero) ∧ Below w1.heap.size w1 wr) (fun i _ => l.length - (intOf i).toNat)
  case atStart => exact ⟨0, Nat.zero_le _, rfl, by simpa [varsL, varsAcc] using HO2.out, HB2.out⟩
  case round =>
    obtain ⟨k, hk, rfl, hown, hbel⟩ := hrel
    have HO := Lib.hid hown
    have HB := Lib.hid hbel
    clear hown hbel
    by_cases hlt : k < l.length
    · obtain ⟨b, off, rfl, hc0⟩ := (HX0.out.keep HB1.out) k hlt
      generalize hxe : l.getD k default = x at hc0
      have HXE : Hid (l[k] = x) := by show _ = _; rw [← hxe]; simp [List.getD_eq_getElem?_getD, hlt]
      clear hxe
      obtain ⟨r1, r2, a', cap', r3, pi, pl⟩ := hc0
      have p1 := cell_keep HB.out r1
      have p2 := cell_keep HB.out r2
      have p3 := cell_keep HB.out r3
      clear r1 r2 r3
      have hin := netOk_ins HK.out hlt
      rw [HXE.out] at hin
      have HIN := Lib.hid hin
      clear hin
      have HPI := Lib.hid pi
      clear pi
      have hbz : b < wr.heap.size := cell_block p1
      have HSZ := Lib.hid HB.out.size
      go_wp2_with fail
      refine (litVar_any _ _).mono ?_
      rintro e w' ⟨rfl, rfl⟩
      go_wp2_with fail
      refine (setOf_any (some ⟨wr.heap.size + 1, 0, none⟩) 1 [litVar x.lit] _ (by simp) ?_).mono ?_
      · intro i hi
        have : i = 0 := by simpa using hi
        subst this
        exact ⟨_, _, rfl, by rw [World.cell?_alloc_at _ _ _ _ (by simp)]; rfl⟩
      rintro e w3 ⟨rfl, hb3⟩
      have hb : Below wr.heap.size wr w3 := (((Below.refl _ _).alloc (Nat.le_refl _) _).alloc (by simp) _).trans (hb3.mono (by simp; omega))
      have hbx3 : Blk w3 wr.heap.size #[.int .i64 x.kind, .int .i64 x.lit, .slice a' x.ins.length cap'] 67 := ((Blk.new wr _ _).alloc _).later hb3
      have HLT := Lib.hid hlt
      have HVL : Hid (k = (varsL (l.take k)).length) := by show _ = _; rw [varsL_length, List.length_take]; omega
      have HVO := Lib.hid (varsL_ok (l.take k))
      have hrep : List.replicate (l.length - k) St.zero = St.zero :: List.replicate (l.length - k - 1) St.zero := by
        rw [← List.replicate_succ]; congr 1; omega
      have HVS : Hid (varsL (l.take (k + 1)) = varsL (l.take k) ++ [insU (varsL (l.take k)) (ofL [litVar x.lit]) x.ins]) := by
        show _ = _; rw [List.take_succ_eq_append_getElem hlt, varsL_snoc, HXE.out]
      have HN : Hid (∀ c : St, l.length = (varsL (l.take k) ++ c :: List.replicate (l.length - k - 1) St.zero).length) := fun c => by
        simp [varsL_length]; omega
      have ho3 := HO.out
      have hgz : w1.heap.size < wr.heap.size := ho3.lt.1
      rw [hrep] at ho3
      clear hrep
      generalize varsL (l.take k) = vs at *
      generalize hzs : List.replicate (l.length - k - 1) St.zero = zs at *
      have HREP := Lib.hid hzs
      clear hzs
      have ho3' := ho3.later hb
      have m0 : w3.cell? ⟨w1.heap.size, k * 2, none⟩ = some (.int .u64 ((St.zero).a : Int)) := ho3'.mid HVL.out (HN.out _) stc_len 0 (by omega)
      have m1 : w3.cell? ⟨w1.heap.size, k * 2 + 1, none⟩ = some (.int .u64 ((St.zero).b : Int)) := ho3'.mid HVL.out (HN.out _) stc_len 1 (by omega)
      have f0 := ho3'.fr (HN.out _) (k * 2)
      have f1 := ho3'.fr (HN.out _) (k * 2 + 1)
      have HO3 := Lib.hid ho3'
      have HB3 := Lib.hid hb
      have n2 : w3.cell? ⟨wr.heap.size, 2, none⟩ = some (.slice a' x.ins.length cap') := hbx3.cell 2
      have hwz : wr.heap.size < w3.heap.size := cell_block n2
      clear ho3 ho3' hb hbx3 hb3 p1 p2 p3
      go_wp2
      generalize hcu : ofL [litVar x.lit] = cu at *
      have HCU := Lib.hid hcu
      have HCO : Hid cu.ok := by show cu.ok; rw [← hcu]; exact ofL_ok _
      clear hcu
      obtain ⟨wo, rfl⟩ : ∃ wo : World, wo = wr := ⟨_, rfl⟩
      go_loopw [34] (fun i wi => ∃ m : Nat, m ≤ x.ins.length ∧ i = .int .i64 m ∧ OwnSets wi w1.heap.size (.slice (some ⟨w1.heap.size, 0, none⟩) l.length l.length) (vs ++ insU vs cu (x.ins.take m) :: zs) ∧ Below w1.heap.size w1 wi) (fun i _ => x.ins.length - (intOf i).toNat)
      case atStart =>
        refine ⟨0, Nat.zero_le _, rfl, ?_, ?_⟩
        · exact HO3.out.midput2 HVL.out (HN.out _) stc_len cu _ _ rfl
        · exact ((HB.out.trans (HB3.out.mono HSZ.out)).setCell (Nat.le_refl _) _).setCell (Nat.le_refl _) _
      case round =>
        obtain ⟨wi, rfl⟩ : ∃ wi : World, wi = wr := ⟨_, rfl⟩
        obtain ⟨m, hm, rfl, hown, hbel⟩ := hrel
        have HBi := Lib.hid hbel
        by_cases hlm : m < x.ins.length
        · obtain ⟨b2, off2, rfl, hi0⟩ := HPI.out m hlm
          have hi1 := cell_keep HBi.out hi0
          have hq := HIN.out (x.ins.getD m 0) (by simp [List.getD_eq_getElem?_getD, hlm])
          generalize hye : x.ins.getD m 0 = y at hi1 hq
          have HYE : Hid (x.ins[m] = y) := by show _ = _; rw [← hye]; simp [List.getD_eq_getElem?_getD, hlm]
          clear hi0 hye
          obtain ⟨hq0, hq1⟩ := hq
          obtain ⟨q, rfl⟩ := Int.eq_ofNat_of_zero_le hq0
          have hqk : q < vs.length := by have := HVL.out; omega
          have m0 : wi.cell? ⟨w1.heap.size, k * 2, none⟩ = some (.int .u64 ((insU vs cu (x.ins.take m)).a : Int)) := hown.mid HVL.out (HN.out _) stc_len 0 (by omega)
          have m1 : wi.cell? ⟨w1.heap.size, k * 2 + 1, none⟩ = some (.int .u64 ((insU vs cu (x.ins.take m)).b : Int)) := hown.mid HVL.out (HN.out _) stc_len 1 (by omega)
          have q0 : wi.cell? ⟨w1.heap.size, q * 2, none⟩ = some (.int .u64 (vs[q].a : Int)) := hown.left hqk (HN.out _) stc_len 0 (by omega)
          have q1 : wi.cell? ⟨w1.heap.size, q * 2 + 1, none⟩ = some (.int .u64 (vs[q].b : Int)) := hown.left hqk (HN.out _) stc_len 1 (by omega)
          have f0 := hown.fr (HN.out _) (k * 2)
          have f1 := hown.fr (HN.out _) (k * 2 + 1)
          have HO4 := Lib.hid hown
          have HTO : Hid (vs[q].ok) := HVO.out _ (List.getElem_mem hqk)
          have HCO2 : Hid ((insU vs cu (x.ins.take m)).ok) := insU_ok HVO.out _ HCO.out
          have HST : Hid (insU vs cu (x.ins.take (m + 1)) = (insU vs cu (x.ins.take m)).union vs[q]) := by
            show _ = _; rw [List.take_succ_eq_append_getElem hlm, insU_snoc, HYE.out]; simp [List.getD_eq_getElem?_getD, hqk]
          generalize insU vs cu (x.ins.take m) = cur at *
          generalize vs[q] = tq at *
          clear hown hbel
          go_wp2_with fail
          have HF : Hid (∀ W w5 : World, W.heap = wi.heap → Below W.heap.size W w5 → w5.cell? ⟨w1.heap.size, k * 2, none⟩ = some (.int .u64 (cur.a : Int)) ∧ w5.cell? ⟨w1.heap.size, k * 2 + 1, none⟩ = some (.int .u64 (cur.b : Int)) ∧
              w5.frozen? ⟨w1.heap.size, k * 2, none⟩ = false ∧ w5.frozen? ⟨w1.heap.size, k * 2 + 1, none⟩ = false) := fun W w5 hw hb5 => by
            have e1 : ∀ p v, wi.cell? p = some v → W.cell? p = some v := fun p v h => by simp only [World.cell?, hw]; exact h
            have e2 : ∀ p, W.frozen? p = wi.frozen? p := fun p => by simp only [World.frozen?, hw]
            refine ⟨cell_keep hb5 (e1 _ _ m0), cell_keep hb5 (e1 _ _ m1), ?_, ?_⟩
            · rw [hb5.frozen (p := ⟨w1.heap.size, k * 2, none⟩) (cell_block (e1 _ _ m0)), e2]; exact f0
            · rw [hb5.frozen (p := ⟨w1.heap.size, k * 2 + 1, none⟩) (cell_block (e1 _ _ m1)), e2]; exact f1
          go_region_with (go_at_call 96; refine (union_any cur tq _ HCO2.out HTO.out).mono ?_; rintro e w5 ⟨rfl, hb5⟩; go_loud (obtain ⟨z0, z1, z2, z3⟩ := HF.out wi.drew w5 rfl hb5))
          all_goals
            have HB5 : Hid (Below wi.heap.size wi w5) := (Below.refl wi.heap.size wi).drew.trans (hb5.mono (Nat.le_refl wi.heap.size))
            have HSI := Lib.hid HBi.out.size
            clear z0 z1 z2 z3 hb5
            go_wp2
            go_roundw
            case rel =>
              refine ⟨m + 1, by omega, by go_num, ?_, ((HBi.out.trans (HB5.out.mono HSI.out)).setCell (Nat.le_refl _) _).setCell (Nat.le_refl _) _⟩
              rw [HST.out]
              exact (HO4.out.later HB5.out).midput2 HVL.out (HN.out _) stc_len _ _ _ rfl
            case measure => simp [intOf]; omega
        · have : m = x.ins.length := by omega
          subst this
          go_wp2
          go_roundw
          case rel =>
            refine ⟨k + 1, by omega, by go_num, ?_, HBi.out⟩
            rw [HVS.out, List.append_assoc, show l.length - (k + 1) = l.length - k - 1 by omega, HREP.out]
            rw [List.take_length] at hown
            exact hown
          case measure => simp [intOf]; omega
    · have : k = l.length := by omega
      subst this
      go_wp2
      go_ret
      refine ⟨_, rfl, ?_, HB0.out.trans ((HB1.out.mono (by simp)).trans (HB.out.mono (by omega)))⟩
      have := HO.out
      simp only [Nat.sub_self, List.replicate_zero, List.append_nil, List.take_length] at this
      exact this.lower (by omega)
end Go.Proofs.YtkaojolofaanfaaGreatDoor

/- The builder in memory; laws at operations inside regions that draw their order. -/
namespace Go.Proofs.YtkaojolofaanfaaGreatDoor
open Go.RowKit Cen
open Go.Maps (Keyed string_keyed int_keyed)
set_option maxHeartbeats 1000000
set_option maxRecDepth 100000

theorem OwnL.alloc {α : Type} {enc : α → List Value} {e k : Nat} {w : World} {base : Nat} {v : Value} {l : List α} (h : OwnL enc e k w base v l) (o : Obj) : OwnL enc e k (w.alloc o) base v l := World.ownsRow.alloc h o
theorem OwnL.drew {α : Type} {enc : α → List Value} {e k : Nat} {w : World} {base : Nat} {v : Value} {l : List α} (h : OwnL enc e k w base v l) : OwnL enc e k w.drew base v l := h
section
variable {P : Program} {ops : Array Oper} {o : Oper} {a : Act} {w : World} {K : Act → World → Prop} {Q : Exit → Act → World → Prop} {EE : Prop}
/-- append(s, y) inside a region: y lies in a block of its own. -/
theorem step_appL {α : Type} {enc : α → List Value} {t e k bytes : Nat} {z : Value} (E : Elem t e k bytes z) (hgd : o.guard = none) (s x : Operand) (ho : o.op = .call { callee := .builtin .append, args := #[s, x], argTypes := #[t, t] })
    (base : Nat) (v : Value) (l : List α) (y : α) (hs : a.eval s = v) (hown : OwnL enc e k w base v l) (bc : Nat) (hx : a.eval x = .slice (some ⟨bc, 0, none⟩) 1 1) (hk : (enc y).length = k)
    (hnews : ∀ j u, (enc y)[j]? = some u → w.cell? ⟨bc, j, none⟩ = some u) (h1 : ∀ u ∈ enc y, u.oneCell' = true) (hl : l.length ≤ 1073741824) (hby : bytes ≤ 1000) (hbase : base ≤ w.heap.size)
    (h : ∀ g cap w', OwnL enc e k w' base (.slice (some ⟨g, 0, none⟩) (l.length + 1) cap) (l ++ [y]) → w.grownBy w' v.ownBlock → (v.ownBlock = some g ∨ g = w.heap.size) → K (a.put o.dst (.slice (some ⟨g, 0, none⟩) (l.length + 1) cap)) w') :
    if Region.wanted o (yielded ops a.tmps) = true then Oper.wp Tryz.prog o a w K Q else EE := by
  obtain ⟨ht, i, hi, hz, hsz, hby', hzs, h0⟩ := E
  refine step_append_lies w hgd s x t ho base e i z k bytes ht hi hz hsz hby' hzs h0 v l.length (l.flatMap enc) hs hown ⟨bc, 0, none⟩ 1 1 (enc y) hx (by rw [hk]; omega) ?_ h1 (by omega) (by unfold maxLen; omega) ?_ hbase w.heap.size rfl ?_
  · intro j u hj
    have e1 : (⟨bc, 0, none⟩ : Addr).add j = ⟨bc, j, none⟩ := by
      unfold Addr.add; split
      · rename_i hj0; rw [hj0]
      · simp
    rw [e1]; exact hnews j u hj
  · have := Nat.mul_le_mul (show l.length + 1 ≤ 1073741825 by omega) hby; omega
  · intro g cap w' h2 h3 h4 _
    exact h g cap w' (by unfold OwnL; rw [List.length_append, List.flatMap_append]; simpa using h2) h3 h4
/-- m[k] = v inside a region. -/
theorem step_store {t k e : TypeId} {b n : Nat} {f : Lit → Option Lit} (hg : o.guard = none) (m x v : Operand) (hop : o.op = Op.mapUpdate t m x v) (KK : Keyed Tryz.prog k) (ht : Tryz.prog.underlying t = some (.map k e))
    (hm : a.eval m = .map (some b)) (hown : MapL k e w b n f) (hn : n ≤ 1073741824) (key val : Value) (kl y : Lit) (hx : a.eval x = key) (hv : a.eval v = val) (hkey : keyOf Tryz.prog k key = some kl) (hi : WideAt.IsKeyLit kl)
    (hval : plainElem (H := Unit) Tryz.prog e val = some (.lit y, []))
    (hK : ∀ w', MapL k e w' b (n + 1) (fun x' => if x'.sameKey kl then some y else f x') → w.grownBy w' (some b) → K (a.put o.dst undef) w') :
    if Region.wanted o (yielded ops a.tmps) = true then Oper.wp Tryz.prog o a w K Q else EE := by
  have hw : Region.wanted o (yielded ops a.tmps) = true := by simp [Region.wanted, hg]
  rw [if_pos hw]
  obtain ⟨D, h1, h3, h4⟩ := hown
  obtain ⟨w', hrun, r1, r2⟩ := h1.update KK ht (by unfold maxLen; omega) hkey hval
  unfold Oper.wp
  simp [execOp, hop, hm, hx, hv, hrun, Result.andThen]
  exact hK w' (MapL.put D h1 h3 h4 hi r1) r2
end

theorem grownBy_stepD {W w' : World} {ob : Obj} {row : Option Nat} (h : ((W.alloc ob).drew).grownBy w' row) : W.grownBy w' row :=
  ⟨h.os, h.tape, h.output, Nat.le_trans (by simp [World.drew]) h.size, fun k hk hn => (h.block k (by simp [World.drew]; omega) hn).trans (Below.heap_alloc W ob k hk)⟩
/-- A node and the value of its slice of inputs. -/
def ndc (x : Nd × Value) : List Value := [.int .i64 x.1.kind, .int .i64 x.1.lit, x.2]
theorem ndc_len (x : Nd × Value) : (ndc x).length = 3 := rfl
theorem elemNd : Elem 22 67 3 40 (.agg #[.int .i64 0, .int .i64 0, .slice none 0 0]) := .mk Tryz.underlying22 (by kernel_rfl) rfl (by decide)
/-- Inputs that can be read, at a place outside F. -/
def InsAt (F : Nat → Prop) (w : World) (v : Value) (ins : List Int) : Prop :=
  ∃ a cap, v = .slice a ins.length cap ∧ IntCells w a ins ∧ (ins ≠ [] → ∀ q, a = some q → ¬ F q.block ∧ q.block < w.heap.size)
theorem InsAt.kept {F F' M : Nat → Prop} {w w' : World} {v : Value} {ins : List Int} (h : InsAt F w v ins) (hk : Kp M w w') (hm : ∀ k, M k → F k) (hF : ∀ k, k < w.heap.size → F' k → F k) : InsAt F' w' v ins := by
  obtain ⟨a, cap, h1, h2, h3⟩ := h
  refine ⟨a, cap, h1, ?_, fun hne q hq => ⟨fun hc => (h3 hne q hq).1 (hF _ (h3 hne q hq).2 hc), Nat.lt_of_lt_of_le (h3 hne q hq).2 hk.size⟩⟩
  intro i hi
  have hne : ins ≠ [] := by intro e; subst e; simp at hi
  obtain ⟨b, off, e, hc⟩ := h2 i hi
  exact ⟨b, off, e, hk.cell hc fun hmm => (h3 hne _ e).1 (hm _ hmm)⟩

/-- By the key of a node, its place. -/
def bmap (l : List Nd) : Lit → Option Lit
  | .string s => (l.findIdx? fun y => keyL y == s).map (fun i : Nat => Lit.int .i64 (i : Int))
  | _ => none
structure BAt (A : Nat → Prop) (w : World) (p mb : Nat) (lv : Value) (n : Int) (L : List (Nd × Value)) : Prop where
  blk : Blk w p #[.int .i64 n, lv, .map (some mb)] 210
  row : OwnL ndc 67 3 w 0 lv L
  ins : ∀ x ∈ L, InsAt (fun k => A k ∨ k = p ∨ k = mb ∨ lv.ownBlock = some k) w x.2 x.1.ins
  map : MapL 9 3 w mb L.length (bmap (L.map Prod.fst))
  sep : lv.ownBlock ≠ some p ∧ lv.ownBlock ≠ some mb ∧ p ≠ mb
  nodup : (L.map Prod.fst).Nodup
  ok : ndsOk (L.map Prod.fst) n L.length
  bd : L.length ≤ 65536 ∧ 0 ≤ n ∧ n ≤ 128
  len : ∀ x ∈ L, x.1.ins.length ≤ 1048576
/-- A builder at block p, which may write the blocks of F; the inputs of its nodes lie outside A. -/
def Bld (A F : Nat → Prop) (w : World) (p : Nat) (n : Int) (l : List Nd) : Prop :=
  ∃ mb lv L, BAt A w p mb lv n L ∧ L.map Prod.fst = l ∧ ∀ k, F k ↔ (k = p ∨ k = mb ∨ lv.ownBlock = some k)

theorem BAt.later {A : Nat → Prop} {w w' : World} {p mb : Nat} {lv : Value} {n : Int} {L : List (Nd × Value)} (h : BAt A w p mb lv n L) (hb : Below w.heap.size w w') : BAt A w' p mb lv n L :=
  ⟨h.blk.later hb, h.row.later hb, fun x hx => (h.ins x hx).kept (Kp.below (M := fun _ => False) hb) (fun _ hf => hf.elim) (fun _ _ hf => hf), h.map.later hb, h.sep, h.nodup, h.ok, h.bd, h.len⟩
theorem Bld.later {A F : Nat → Prop} {w w' : World} {p : Nat} {n : Int} {l : List Nd} (h : Bld A F w p n l) (hb : Below w.heap.size w w') : Bld A F w' p n l :=
  let ⟨mb, lv, L, h1, h2, h3⟩ := h; ⟨mb, lv, L, h1.later hb, h2, h3⟩
theorem OwnL.sliced {α : Type} {enc : α → List Value} {e k : Nat} {w : World} {base : Nat} {v : Value} {l : List α} (h : OwnL enc e k w base v l) : ∃ a cap, v = .slice a l.length cap := by
  rcases h.shape with ⟨h1, h2⟩ | ⟨g, cap, h1, _⟩
  · exact ⟨none, 0, by rw [h1, h2]; rfl⟩
  · exact ⟨_, _, h1⟩
/-- A node of the builder, in memory. -/
theorem Bld.node {A F : Nat → Prop} {w : World} {p : Nat} {n : Int} {L : List Nd} (h : Bld A F w p n L) (q : Nat) (hq : q < L.length) :
    ∃ g cap av cv, w.cell? ⟨p, 1, none⟩ = some (.slice (some ⟨g, 0, none⟩) L.length cap) ∧ w.cell? ⟨g, q * 3, none⟩ = some (.int .i64 L[q].kind) ∧ w.cell? ⟨g, q * 3 + 1, none⟩ = some (.int .i64 L[q].lit) ∧
      w.cell? ⟨g, q * 3 + 2, none⟩ = some (.slice av L[q].ins.length cv) ∧ IntCells w av L[q].ins ∧ ndOk L[q] n q = true := by
  obtain ⟨mb, lv, LL, HAt, rfl, hF⟩ := h
  rw [List.length_map] at hq
  obtain ⟨ao, capl, rfl⟩ := HAt.row.sliced
  obtain ⟨g, rfl⟩ : ∃ g, ao = some ⟨g, 0, none⟩ := by
    rcases HAt.row.shape with ⟨_, h2⟩ | ⟨g, cap', h1, _⟩
    · rw [h2] at hq; simp at hq
    · simp only [Value.slice.injEq, true_and] at h1; exact ⟨g, h1.1⟩
  have e : (LL.map Prod.fst)[q]'(by simpa using hq) = (LL[q]).1 := by simp
  obtain ⟨av, cv, h1, h2, h3⟩ := HAt.ins _ (List.getElem_mem hq)
  refine ⟨g, capl, av, cv, by rw [List.length_map]; exact HAt.blk.cell 1, ?_, ?_, ?_, by rw [e]; exact h2, ?_⟩
  · rw [e]; exact HAt.row.cell rfl ndc_len q 0 hq (by omega)
  · rw [e]; exact HAt.row.cell rfl ndc_len q 1 hq (by omega)
  · rw [e, ← h1]; exact HAt.row.cell rfl ndc_len q 2 hq (by omega)
  · have := HAt.ok q hq
    simpa [List.getD_eq_getElem?_getD, hq] using this
theorem Bld.bd {A F : Nat → Prop} {w : World} {p : Nat} {n : Int} {L : List Nd} (h : Bld A F w p n L) : L.length ≤ 65536 ∧ 0 ≤ n ∧ n ≤ 128 := by
  obtain ⟨mb, lv, LL, HAt, rfl, hF⟩ := h
  simpa using HAt.bd
theorem Bld.plt {A F : Nat → Prop} {w : World} {p : Nat} {n : Int} {L : List Nd} (h : Bld A F w p n L) : p < w.heap.size := by
  obtain ⟨mb, lv, LL, HAt, rfl, hF⟩ := h
  exact HAt.blk.lt
theorem keyed_str : Keyed Tryz.prog 9 := string_keyed Tryz.underlying9
theorem zero_int (w : World) : (zeroValue 3).run Tryz.prog w = .ok (.int .i64 0) w := by kernel_rfl
end Go.Proofs.YtkaojolofaanfaaGreatDoor

/- Plain: what the builder does. -/
namespace Cen
/-- The list behind put, the index, the error. -/
def putL (l : List Nd) (x : Nd) : List Nd × Int × Int :=
  match l.findIdx? (fun y => decide (y = x)) with
  | some i => (l, i, 0)
  | none => if 65536 ≤ l.length then (l, 0, 7) else (l ++ [x], l.length, 0)
theorem key_beq (x y : Nd) : (keyL y == keyL x) = decide (y = x) := by
  by_cases h : y = x
  · subst h; simp
  · have : keyL y ≠ keyL x := fun e => h (keyL_inj e)
    simp [h, this]
theorem ndOk_small {x : Nd} {n b : Int} (h : ndOk x n b = true) (hb : b ≤ 65536) :
    (-65536 ≤ x.kind ∧ x.kind ≤ 65536) ∧ (-65536 ≤ x.lit ∧ x.lit ≤ 65536) ∧ ∀ i ∈ x.ins, -65536 ≤ i ∧ i ≤ 65536 := by
  simp only [ndOk, Bool.and_eq_true] at h
  obtain ⟨h1, h2⟩ := h
  rw [insOk_iff] at h1
  have h3 : ∀ i ∈ x.ins, -65536 ≤ i ∧ i ≤ 65536 := fun i hi => by have := h1 i hi; omega
  unfold formOk at h2
  by_cases c1 : x.kind = 0 ∨ x.kind = 1
  · rw [if_pos c1] at h2; simp at h2; exact ⟨by omega, by omega, h3⟩
  · rw [if_neg c1] at h2
    by_cases c2 : x.kind = 2
    · rw [if_pos c2] at h2
      simp only [litOk, Bool.and_eq_true, decide_eq_true_eq] at h2
      have := litVar_ne h2.1.1
      exact ⟨by omega, by omega, h3⟩
    · rw [if_neg c2] at h2
      by_cases c3 : x.kind = 3 ∨ x.kind = 4
      · rw [if_pos c3] at h2; simp at h2; exact ⟨by omega, by omega, h3⟩
      · rw [if_neg c3] at h2; simp at h2
theorem ndOk_mono {x : Nd} {n b b' : Int} (h : ndOk x n b = true) (hb : b ≤ b') : ndOk x n b' = true := by
  simp only [ndOk, Bool.and_eq_true] at *
  refine ⟨?_, h.2⟩
  rw [insOk_iff] at *
  intro i hi; have := h.1 i hi; omega
theorem ndsOk_snoc {l : List Nd} {n : Int} {x : Nd} (h : ndsOk l n l.length) (hx : ndOk x n l.length = true) : ndsOk (l ++ [x]) n (l ++ [x]).length := by
  intro j hj
  simp at hj
  by_cases e : j < l.length
  · have := h j e
    simpa [List.getD_eq_getElem?_getD, List.getElem?_append_left e] using this
  · have : j = l.length := by omega
    subst this
    simpa [List.getD_eq_getElem?_getD] using hx
end Cen
namespace Cen
def nd (L : List Nd) (i : Int) : Nd := L.getD i.toNat default
def flat (L : List Nd) (kind : Int) (l : List Int) : List Int := l.flatMap fun i => if (nd L i).kind = kind then (nd L i).ins else [i]
/-- What is gathered: the inputs, the literals, whether nothing has decided. -/
structure InS where
  out : List Int
  lits : List Int
  opn : Bool
def hitS (L : List Nd) (endk : Int) (s : InS) (i : Int) : Bool :=
  decide ((nd L i).kind = endk) || (decide ((nd L i).kind = 2) && s.lits.contains (-(nd L i).lit))
def addS (L : List Nd) (drop endk : Int) (s : InS) (i : Int) : InS :=
  ⟨if hitS L endk s i then s.out else if (nd L i).kind ≠ drop ∧ s.out.contains i = false then s.out ++ [i] else s.out,
   if (nd L i).kind = 2 then s.lits ++ [(nd L i).lit] else s.lits,
   s.opn && !hitS L endk s i⟩
def inS (L : List Nd) (drop endk : Int) (l : List Int) : InS := l.foldl (addS L drop endk) ⟨[], [], true⟩
def sortL (l : List Int) : List Int := l.mergeSort fun x y => decide (x ≤ y)
def inputsL (L : List Nd) (kind drop endk : Int) (l : List Int) : List Int × Bool :=
  let s := inS L drop endk (flat L kind l)
  (sortL s.out, s.opn)
/-- The list behind Add, the index (the error is 0 where the node has a form and there is room). -/
def addL (_n : Int) (L : List Nd) (x : Nd) : List Nd × Int :=
  if x.kind = 3 ∨ x.kind = 4 then
    let drop : Int := if x.kind = 3 then 1 else 0
    let endk : Int := if x.kind = 3 then 0 else 1
    let r := inputsL L x.kind drop endk x.ins
    if r.2 = false then ((putL L ⟨endk, 0, []⟩).1, (putL L ⟨endk, 0, []⟩).2.1)
    else if r.1.length = 0 then ((putL L ⟨drop, 0, []⟩).1, (putL L ⟨drop, 0, []⟩).2.1)
    else if r.1.length = 1 then (L, r.1.getD 0 0)
    else ((putL L ⟨x.kind, 0, r.1⟩).1, (putL L ⟨x.kind, 0, r.1⟩).2.1)
  else ((putL L ⟨x.kind, x.lit, []⟩).1, (putL L ⟨x.kind, x.lit, []⟩).2.1)
end Cen
namespace Cen
theorem addS_out_mem {L : List Nd} {drop endk : Int} {s : InS} {i y : Int} (h : y ∈ (addS L drop endk s i).out) : y ∈ s.out ∨ y = i := by
  unfold addS at h
  simp only at h
  split at h
  · exact .inl h
  · split at h
    · rcases List.mem_append.1 h with h1 | h1
      · exact .inl h1
      · exact .inr (by simpa using h1)
    · exact .inl h
theorem inS_out_mem (L : List Nd) (drop endk : Int) (l : List Int) : ∀ y ∈ (inS L drop endk l).out, y ∈ l := by
  have : ∀ (l : List Int) (s : InS), ∀ y ∈ (l.foldl (addS L drop endk) s).out, y ∈ s.out ∨ y ∈ l := by
    intro l
    induction l with
    | nil => intro s y hy; exact .inl hy
    | cons x l ih =>
      intro s y hy
      rcases ih _ y hy with h1 | h1
      · rcases addS_out_mem h1 with h2 | h2
        · exact .inl h2
        · exact .inr (by simp [h2])
      · exact .inr (by simp [h1])
  intro y hy
  rcases this l ⟨[], [], true⟩ y hy with h | h
  · simp at h
  · exact h
theorem flat_valid {L : List Nd} {n kind : Int} {l : List Int} (hL : ndsOk L n L.length) (hl : ∀ i ∈ l, 0 ≤ i ∧ i < L.length) : ∀ i ∈ flat L kind l, 0 ≤ i ∧ i < L.length := by
  intro i hi
  unfold flat at hi
  obtain ⟨j, hj, hij⟩ := List.mem_flatMap.1 hi
  obtain ⟨h0, h1⟩ := hl j hj
  split at hij
  · have h2 := hL j.toNat (by omega)
    simp only [ndOk, Bool.and_eq_true] at h2
    have h3 := (insOk_iff.1 h2.1) i hij
    omega
  · simp at hij; subst hij; exact ⟨h0, h1⟩
theorem sortL_mem {l : List Int} {y : Int} : y ∈ sortL l ↔ y ∈ l := by unfold sortL; exact List.mem_mergeSort
theorem sortL_length (l : List Int) : (sortL l).length = l.length := by unfold sortL; exact List.length_mergeSort _
theorem inputsL_valid {L : List Nd} {n kind drop endk : Int} {l : List Int} (hL : ndsOk L n L.length) (hl : ∀ i ∈ l, 0 ≤ i ∧ i < L.length) : ∀ i ∈ (inputsL L kind drop endk l).1, 0 ≤ i ∧ i < L.length := by
  intro i hi
  unfold inputsL at hi
  simp only at hi
  rw [sortL_mem] at hi
  exact flat_valid hL hl i (inS_out_mem _ _ _ _ i hi)
theorem ndOk_const {k n b : Int} (h : k = 0 ∨ k = 1) : ndOk ⟨k, 0, []⟩ n b = true := by
  simp [ndOk, insOk, formOk, h]
theorem ndOk_leaf {x : Nd} {n b : Int} (h : ndOk x n b = true) (h3 : ¬ (x.kind = 3 ∨ x.kind = 4)) : ndOk ⟨x.kind, x.lit, []⟩ n b = true ∧ x.ins = [] := by
  simp only [ndOk, Bool.and_eq_true] at *
  obtain ⟨h1, h2⟩ := h
  unfold formOk at *
  by_cases c1 : x.kind = 0 ∨ x.kind = 1
  · rw [if_pos c1] at h2; simp at h2; simp [insOk, h2, c1]
  · rw [if_neg c1] at h2
    by_cases c2 : x.kind = 2
    · rw [if_pos c2] at h2; simp at h2; simp [insOk, h2, c2]
    · rw [if_neg c2, if_neg h3] at h2; simp at h2
theorem ndOk_inner {k n b : Int} {l : List Int} (h : k = 3 ∨ k = 4) (hl : ∀ i ∈ l, 0 ≤ i ∧ i < b) : ndOk ⟨k, 0, l⟩ n b = true := by
  simp only [ndOk, Bool.and_eq_true]
  refine ⟨insOk_iff.2 hl, ?_⟩
  simp only [formOk]
  rw [if_neg (by omega), if_neg (by omega), if_pos h]; simp
end Cen
