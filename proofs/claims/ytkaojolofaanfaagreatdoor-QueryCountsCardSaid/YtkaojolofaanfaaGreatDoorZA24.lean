/- Part of the proofs that laws of censuslaw38 return true for every input, where the tables that the rows list are laid. Texts: R21D, R38K, Light, Nat1. -/
import Derived.Test.YtkaojolofaanfaaGreatDoorZA23
import Derived.Test.YtkaojolofaanfaaGreatDoorZA18
import Derived.Test.YtkaojolofaanfaaGreatDoorZA21
import Derived.Test.YtkaojolofaanfaaGreatDoorZA17
import Derived.Test.YtkaojolofaanfaaGreatDoorZA19
import Derived.Test.YtkaojolofaanfaaGreatDoorZA20
import Derived.Test.YtkaojolofaanfaaGreatDoorZA5
import Derived.LoopN
import Derived.Handy
import Derived.BigRegion

/- The walk of censusref21's Decomposable. -/
namespace Go.Proofs.YtkaojolofaanfaaGreatDoor
open Go.RowKit Cen
set_option maxHeartbeats 4000000
set_option maxRecDepth 100000
theorem cut_zero {s t : St} (hs : s.ok) : s.cut t = St.zero ↔ ∀ v, 1 ≤ v → v ≤ 128 → (s.mem v && t.mem v) = false := by
  constructor
  · intro h v _ _
    rw [← St.mem_cut, h, St.mem_zero]
  · intro h
    apply St.ext (St.cut_ok hs) St.zero_ok
    intro v h1 h2
    rw [St.mem_cut, h v h1 h2, St.mem_zero]
theorem cut_comm {s t : St} (hs : s.ok) (ht : t.ok) : s.cut t = St.zero ↔ t.cut s = St.zero := by
  rw [cut_zero hs, cut_zero ht]
  exact ⟨fun h v a b => by rw [Bool.and_comm]; exact h v a b, fun h v a b => by rw [Bool.and_comm]; exact h v a b⟩
theorem sepF_iff {vs : List St} (hv : ∀ k, (vs.getD k St.zero).ok) (ins : List Int) : ∀ S : St, S.ok →
    (sepF vs S ins = true ↔ (∀ i ∈ ins, S.cut (vs.getD i.toNat St.zero) = St.zero) ∧ ins.Pairwise fun i j => (vs.getD i.toNat St.zero).cut (vs.getD j.toNat St.zero) = St.zero) := by
  induction ins with
  | nil => intro S _; simp [sepF]
  | cons k r ih =>
    intro S hS
    rw [sepF, List.pairwise_cons]
    have hU : ∀ i : Int, (S.union (vs.getD k.toNat St.zero)).cut (vs.getD i.toNat St.zero) = St.zero ↔ S.cut (vs.getD i.toNat St.zero) = St.zero ∧ (vs.getD k.toNat St.zero).cut (vs.getD i.toNat St.zero) = St.zero := fun i => by
      rw [cut_zero (St.union_ok hS (hv _)), cut_zero hS, cut_zero (hv _)]
      constructor
      · intro h
        refine ⟨fun v a b => ?_, fun v a b => ?_⟩ <;> (have := h v a b; rw [St.mem_union] at this; revert this; cases S.mem v <;> cases (vs.getD k.toNat St.zero).mem v <;> cases (vs.getD i.toNat St.zero).mem v <;> simp)
      · intro ⟨h1, h2⟩ v a b
        have e1 := h1 v a b
        have e2 := h2 v a b
        rw [St.mem_union]; revert e1 e2
        cases S.mem v <;> cases (vs.getD k.toNat St.zero).mem v <;> cases (vs.getD i.toNat St.zero).mem v <;> simp
    by_cases h : S.cut (vs.getD k.toNat St.zero) = St.zero
    · rw [if_pos h, ih _ (St.union_ok hS (hv _))]
      constructor
      · intro ⟨h1, h2⟩
        refine ⟨fun i hi => ?_, fun i hi => ((hU i).1 (h1 i hi)).2, h2⟩
        rcases List.mem_cons.1 hi with rfl | hi
        · exact h
        · exact ((hU i).1 (h1 i hi)).1
      · intro ⟨h1, h2, h3⟩
        exact ⟨fun i hi => (hU i).2 ⟨h1 i (by simp [hi]), h2 i hi⟩, h3⟩
    · rw [if_neg h]
      constructor
      · intro h2; simp at h2
      · intro ⟨h1, _⟩; exact absurd (h1 k (by simp)) h
/-- The inputs' variables are apart, pair by pair. -/
def pairs (vs : List St) (ins : List Int) : Prop := ∀ k m, m < k → k < ins.length → (vs.getD (ins.getD k 0).toNat St.zero).cut (vs.getD (ins.getD m 0).toNat St.zero) = St.zero
theorem sepF_pairs {vs : List St} (hv : ∀ k, (vs.getD k St.zero).ok) (ins : List Int) : sepF vs St.zero ins = true ↔ pairs vs ins := by
  rw [sepF_iff hv ins St.zero St.zero_ok, List.pairwise_iff_getElem]
  have hz : ∀ i ∈ ins, St.zero.cut (vs.getD i.toNat St.zero) = St.zero := fun i _ => (cut_zero St.zero_ok).2 fun v _ _ => by rw [St.mem_zero]; rfl
  constructor
  · intro ⟨_, h⟩ k m hmk hk
    have := h m k (by omega) hk hmk
    have e1 : ins.getD k 0 = ins[k] := by simp [List.getD_eq_getElem?_getD, hk]
    have e2 : ins.getD m 0 = ins[m] := by simp [List.getD_eq_getElem?_getD, show m < ins.length by omega]
    rw [e1, e2, cut_comm (hv _) (hv _)]; exact this
  · intro h
    refine ⟨hz, fun i j hi hj hij => ?_⟩
    have := h j i hij hj
    have e1 : ins.getD j 0 = ins[j] := by simp [List.getD_eq_getElem?_getD, hj]
    have e2 : ins.getD i 0 = ins[i] := by simp [List.getD_eq_getElem?_getD, hi]
    rw [e1, e2, cut_comm (hv _) (hv _)] at this; exact this
theorem decomposable21_any (n : Int) (a : Option Addr) (cap : Nat) (l : List Nd) (w : World) (hok : netOk ⟨n, l⟩ = true) (hx : NdCells w a l) :
    Calls Tryz.prog 54 #[.agg #[.int .i64 n, .slice a l.length cap]] w fun e w' => e = .returned (.bool (decL l)) ∧ Below w.heap.size w w' := by
  have hb0 := (Below.refl w.heap.size w).alloc (Nat.le_refl _) (.cells #[.int .i64 n, .slice a l.length cap] 24)
  have HB0 := Lib.hid hb0
  have q0 := Lib.hid (Blk.new w #[.int .i64 n, .slice a l.length cap] 24)
  have HX := Lib.hid hx
  have HK := Lib.hid hok
  have hl2 : l.length ≤ 65536 := (netOk_head hok).2.2.2
  have HVA := Lib.hid (valid21_any n a cap l _ hok (hx.keep hb0))
  have HVR := Lib.hid (fun V (h : NdCells V a l) => vars21_any n a cap l V hok h)
  have hhid : ∀ k, ((varsL l).getD k St.zero).ok := varsL_getD_ok l
  have HVO := Lib.hid hhid
  have HVL := Lib.hid (varsL_length l)
  have HSEP : Hid (∀ j, j < l.length → ((l.getD j default).kind ≠ 3 ∨ pairs (varsL l) (l.getD j default).ins) → ndSep (varsL l) (l.getD j default) = true) := fun j _ h => by
    unfold ndSep
    rcases h with h | h
    · rw [decide_eq_true h]; rfl
    · rw [(sepF_pairs hhid _).2 h]; simp
  have HNOT : Hid (∀ j, j < l.length → (l.getD j default).kind = 3 → ¬ pairs (varsL l) (l.getD j default).ins → decL l = false) := fun j hj h3 hp => by
    have e : l.getD j default = l[j] := by simp [List.getD_eq_getElem?_getD, hj]
    rw [e] at h3 hp
    refine decL_false hj ?_
    unfold ndSep
    rw [Bool.eq_false_iff]; intro h
    rw [Bool.or_eq_true] at h
    rcases h with h | h
    · simp at h; exact h h3
    · exact hp ((sepF_pairs hhid _).1 h)
  clear hb0 hx hok hhid
  go_enter Tryz.func54, Tryz.ntmps54
  go_wp2_with fail
  refine HVA.out.mono ?_
  rintro e w1 ⟨rfl, hb1⟩
  have HB1 := Lib.hid (HB0.out.trans (hb1.mono HB0.out.size))
  have R1 := Lib.hid (q0.out.later hb1)
  have k0 : w1.cell? ⟨w.heap.size, 0, none⟩ = some (.int .i64 n) := R1.out.cell 0
  have k1 : w1.cell? ⟨w.heap.size, 1, none⟩ = some (.slice a l.length cap) := R1.out.cell 1
  have HVR1 := Lib.hid (HVR.out w1 (HX.out.keep HB1.out))
  clear hb1
  go_wp2_with fail
  refine HVR1.out.mono ?_
  rintro e w2 ⟨g, rfl, hown, hb2⟩
  have HO := Lib.hid hown
  have HB2 := Lib.hid (HB1.out.trans (hb2.mono HB1.out.size))
  have R2 := Lib.hid (R1.out.later hb2)
  clear k0 k1 hb2 hown
  generalize hvs : varsL l = vs at *
  have HVS := Lib.hid hvs
  clear hvs
  go_wp2_with fail
  go_loopw [4] (fun i wr => ∃ j : Nat, j ≤ l.length ∧ i = .int .i64 j ∧ (∀ t, t < j → ndSep vs (l.getD t default) = true) ∧ Below w2.heap.size w2 wr) (fun i _ => l.length - (intOf i).toNat)
  case atStart => exact ⟨0, Nat.zero_le _, rfl, fun t h => absurd h (Nat.not_lt_zero _), Below.refl _ _⟩
  case round =>
    obtain ⟨j, hj, rfl, hno, hb⟩ := hrel
    have HN := Lib.hid hno
    have HB := Lib.hid hb
    have HBA := Lib.hid (HB2.out.trans (hb.mono HB2.out.size))
    have R := Lib.hid (R2.out.later hb)
    have k1 : wr.cell? ⟨w.heap.size, 1, none⟩ = some (.slice a l.length cap) := R.out.cell 1
    clear hno hb
    by_cases hlt : j < l.length
    · obtain ⟨b, off, rfl, c0', c1', av, cv, c2', hin, hil⟩ := HX.out j hlt
      have hnk := netOk_nd HK.out hlt
      have hgd : l.getD j default = l[j] := by simp [List.getD_eq_getElem?_getD, hlt]
      have HSJ := Lib.hid (HSEP.out j hlt)
      have HNJ := Lib.hid (HNOT.out j hlt)
      rw [← hgd] at hnk
      simp only at hnk
      have HXD : Hid (l.getD j default = l.getD j default) := rfl
      generalize hxd : l.getD j default = x at *
      have HXE := Lib.hid hxd
      clear hxd hgd
      have hbw : b < w.heap.size := cell_block c0'
      have c0 := HBA.out.cell (p := ⟨b, off + j * 3, none⟩) hbw
      have c2 := HBA.out.cell (p := ⟨b, off + j * 3 + 2, none⟩) hbw
      rw [c0'] at c0
      rw [c2'] at c2
      have HIN := Lib.hid hin
      have HINS := Lib.hid (ndOk_ins hnk)
      have hbz : b < wr.heap.size := cell_block c0
      clear hin hnk c0' c1' c2'
      go_wp2_with fail
      obtain ⟨wo, rfl⟩ : ∃ wo : World, wo = wr := ⟨_, rfl⟩
      go_loopw [6] (fun i wi => ∃ k : Nat, k ≤ x.ins.length ∧ i = .int .i64 k ∧ (k = 0 ∨ x.kind = 3) ∧ (∀ k' m, k' < k → m < k' → (vs.getD (x.ins.getD k' 0).toNat St.zero).cut (vs.getD (x.ins.getD m 0).toNat St.zero) = St.zero) ∧ Below w2.heap.size w2 wi) (fun i _ => x.ins.length - (intOf i).toNat)
      case atStart => exact ⟨0, Nat.zero_le _, rfl, .inl rfl, fun k' m h _ => absurd h (Nat.not_lt_zero _), HB.out⟩
      case round =>
        obtain ⟨wi, rfl⟩ : ∃ wi : World, wi = wr := ⟨_, rfl⟩
        obtain ⟨k, hk, rfl, hk3, hpr, hbi⟩ := hrel
        have HPR := Lib.hid hpr
        have HK3 := Lib.hid hk3
        have HBI := Lib.hid hbi
        have HBIA := Lib.hid (HB2.out.trans (hbi.mono HB2.out.size))
        have RI := Lib.hid (R2.out.later hbi)
        have p1 : wi.cell? ⟨w.heap.size, 1, none⟩ = some (.slice (some ⟨b, off, none⟩) l.length cap) := RI.out.cell 1
        have p0 : wi.cell? ⟨b, off + j * 3, none⟩ = some (.int .i64 x.kind) := by
          have h1 : wo.heap.size ≥ 0 := Nat.zero_le _
          have := HBA.out.cell (p := ⟨b, off + j * 3, none⟩) hbw
          rw [HBIA.out.cell (p := ⟨b, off + j * 3, none⟩) hbw, ← this]; exact c0
        clear hpr hbi hk3
        by_cases hkl : k < x.ins.length
        · by_cases h3 : x.kind = 3
          · have hb3 : (x.kind == 3) = true := by simpa using h3
            have H3 := Lib.hid h3
            clear h3
            obtain ⟨b2, off2, rfl, e0'⟩ := HIN.out k hkl
            have hq := HINS.out (x.ins.getD k 0) (by simp [List.getD_eq_getElem?_getD, hkl])
            have HYK : Hid (x.ins.getD k 0 = x.ins.getD k 0) := rfl
            generalize hyk : x.ins.getD k 0 = y at *
            have HYKE := Lib.hid hyk
            clear hyk
            obtain ⟨hq0, hq1⟩ := hq
            obtain ⟨q, rfl⟩ := Int.eq_ofNat_of_zero_le hq0
            have hb2w : b2 < w.heap.size := cell_block e0'
            have hqv : q < vs.length := by have := HVL.out; omega
            go_wp2_with fail
            obtain ⟨wq, rfl⟩ : ∃ wq : World, wq = wi := ⟨_, rfl⟩
            go_loopw [7] (fun i wm => ∃ m : Nat, m ≤ k ∧ i = .int .i64 m ∧ (∀ m', m' < m → (vs.getD q St.zero).cut (vs.getD (x.ins.getD m' 0).toNat St.zero) = St.zero) ∧ Below w2.heap.size w2 wm) (fun i _ => k - (intOf i).toNat)
            case atStart => exact ⟨0, Nat.zero_le _, rfl, fun m' h => absurd h (Nat.not_lt_zero _), HBI.out⟩
            case round =>
              obtain ⟨wm, rfl⟩ : ∃ wm : World, wm = wr := ⟨_, rfl⟩
              obtain ⟨m, hm, rfl, hpm, hbm⟩ := hrel
              have HPM := Lib.hid hpm
              have HBM := Lib.hid hbm
              have HBMA := Lib.hid (HB2.out.trans (hbm.mono HB2.out.size))
              clear hpm
              by_cases hmk : m < k
              · have hml : m < x.ins.length := by omega
                obtain ⟨b3, off3, e3, f0'⟩ := HIN.out m hml
                simp only [Option.some.injEq, Addr.mk.injEq, and_true] at e3
                obtain ⟨rfl, rfl⟩ := e3
                have hr := HINS.out (x.ins.getD m 0) (by simp [List.getD_eq_getElem?_getD, hml])
                generalize hym : x.ins.getD m 0 = z at *
                have HYME := Lib.hid hym
                clear hym
                obtain ⟨hr0, hr1⟩ := hr
                obtain ⟨r, rfl⟩ := Int.eq_ofNat_of_zero_le hr0
                have hrv : r < vs.length := by have := HVL.out; omega
                have ho := HO.out.later hbm
                have i0 : wm.cell? ⟨b2, off2 + k, none⟩ = some (.int .i64 (q : Int)) := by rw [HBMA.out.cell (p := ⟨b2, off2 + k, none⟩) hb2w]; exact e0'
                have i1 : wm.cell? ⟨b2, off2 + m, none⟩ = some (.int .i64 (r : Int)) := by rw [HBMA.out.cell (p := ⟨b2, off2 + m, none⟩) hb2w]; exact f0'
                have u0 : wm.cell? ⟨g, q * 2, none⟩ = some (.int .u64 (vs[q].a : Int)) := ho.cell HVL.out.symm stc_len q 0 hqv (by omega)
                have u1 : wm.cell? ⟨g, q * 2 + 1, none⟩ = some (.int .u64 (vs[q].b : Int)) := ho.cell HVL.out.symm stc_len q 1 hqv (by omega)
                have v0 : wm.cell? ⟨g, r * 2, none⟩ = some (.int .u64 (vs[r].a : Int)) := ho.cell HVL.out.symm stc_len r 0 hrv (by omega)
                have v1 : wm.cell? ⟨g, r * 2 + 1, none⟩ = some (.int .u64 (vs[r].b : Int)) := ho.cell HVL.out.symm stc_len r 1 hrv (by omega)
                have hqd : vs.getD q St.zero = vs[q] := by simp [List.getD_eq_getElem?_getD, hqv]
                have hrd : vs.getD ((r : Int)).toNat St.zero = vs[r] := by simp [List.getD_eq_getElem?_getD, hrv]
                have HQO : Hid (vs[q].ok) := by have := HVO.out q; rw [hqd] at this; exact this
                have HRO : Hid (vs[r].ok) := by have := HVO.out r; rw [show vs.getD r St.zero = vs[r] by simp [List.getD_eq_getElem?_getD, hrv]] at this; exact this
                have hki : (k : Int) < (x.ins.length : Int) := by omega
                have hmi : (m : Int) < (x.ins.length : Int) := by omega
                have hqi : (q : Int) < (l.length : Int) := by have := HVL.out; omega
                have hri : (r : Int) < (l.length : Int) := by have := HVL.out; omega
                have hk00 : (0 : Int) ≤ (k : Int) := by omega
                have hm00 : (0 : Int) ≤ (m : Int) := by omega
                have HQD := Lib.hid hqd
                have HRD := Lib.hid hrd
                generalize vs[q] = S at *
                generalize vs[r] = T at *
                have HME := Lib.hid (fun V => meets_any S T V HQO.out HRO.out)
                clear ho hbm hqd hrd e0' f0' p0 p1 c0 c2 k1
                go_wp2_with fail
                refine wp_region_still_tail 14 (by kernel_rfl) (by kernel_rfl) ?_
                simp only [List.take_succ_cons, List.take_zero, List.drop_succ_cons, List.drop_zero]
                change wpStill _ _ (World.drew _) _ _ _
                repeat still_step
                refine wpStill_nil ?_
                by_cases hz : S.cut T = St.zero
                · have HZ := Lib.hid hz
                  have HD : Hid (decide (S.cut T ≠ St.zero) = false) := by show _ = _; simpa using hz
                  clear hz
                  rw [HD.out] at HME
                  go_wp2_with fail
                  refine (HME.out _).mono ?_
                  rintro e w9 ⟨rfl, hb9⟩
                  have HB9 := Lib.hid (HBM.out.trans ((Below.drew (Below.refl w2.heap.size wm)).trans (Below.mono hb9 HBM.out.size)))
                  clear hb9
                  go_wp2
                  go_roundw
                  case rel => exact ⟨m + 1, by omega, by go_num, fun m' hm' => by
                    by_cases e : m' = m
                    · subst e; rw [HYME.out, HQD.out, HRD.out]; exact HZ.out
                    · exact HPM.out m' (by omega), HB9.out⟩
                  case measure => simp [intOf]; omega
                · have HR : Hid (decL l = false) := HNJ.out H3.out (fun hp => hz (by
                    have := hp k m hmk hkl
                    rw [HYKE.out, HYME.out, HRD.out, show ((q : Int)).toNat = q from rfl, HQD.out] at this
                    exact this))
                  have HD : Hid (decide (S.cut T ≠ St.zero) = true) := by show _ = _; simpa using hz
                  clear hz
                  rw [HD.out] at HME
                  go_wp2_with fail
                  refine (HME.out _).mono ?_
                  rintro e w9 ⟨rfl, hb9⟩
                  have HB9 := Lib.hid (HBM.out.trans ((Below.drew (Below.refl w2.heap.size wm)).trans (Below.mono hb9 HBM.out.size)))
                  clear hb9
                  go_wp2
                  go_ret
                  exact ⟨ret_bool HR.out.symm, HB2.out.trans (HB9.out.mono HB2.out.size)⟩
              · have : m = k := by omega
                subst this
                go_wp2
                go_roundw
                case rel => exact ⟨m + 1, by omega, by go_num, .inr H3.out, fun k' m' hk' hm' => by
                  by_cases e : k' = m
                  · subst e; rw [HYKE.out, show ((q : Int)).toNat = q from rfl]; exact HPM.out m' hm'
                  · exact HPR.out k' m' (by omega) hm', HBM.out⟩
                case measure => simp [intOf]; omega
          · have hb3 : (x.kind == 3) = false := by simpa using h3
            have HS := Lib.hid (HSJ.out (.inl h3))
            clear h3
            go_wp2
            go_roundw
            case rel => exact ⟨j + 1, by omega, by go_num, fun t ht => by
              by_cases e : t = j
              · subst e; rw [HXE.out]; exact HS.out
              · exact HN.out t (by omega), HBI.out⟩
            case measure => simp [intOf]; omega
        · have : k = x.ins.length := by omega
          have HS : Hid (ndSep vs x = true) := by
            by_cases h3 : x.kind = 3
            · exact HSJ.out (.inr fun k' m' hm' hk' => HPR.out k' m' (by omega) hm')
            · exact HSJ.out (.inl h3)
          subst this
          go_wp2
          go_roundw
          case rel => exact ⟨j + 1, by omega, by go_num, fun t ht => by
            by_cases e : t = j
            · subst e; rw [HXE.out]; exact HS.out
            · exact HN.out t (by omega), HBI.out⟩
          case measure => simp [intOf]; omega
    · have : j = l.length := by omega
      subst this
      have HR : Hid (decL l = true) := by
        show _ = _
        refine decL_true fun t ht => ?_
        rw [HVS.out]; exact HN.out t ht
      go_wp2
      go_ret
      exact ⟨ret_bool HR.out.symm, HBA.out⟩
end Go.Proofs.YtkaojolofaanfaaGreatDoor

/- The walks of censusref38's Check, Consistent, Valid. -/
namespace Go.Proofs.YtkaojolofaanfaaGreatDoor
open Go.RowKit Cen
set_option maxHeartbeats 4000000
set_option maxRecDepth 100000
theorem rCheck_any (n : Int) (a : Option Addr) (cap : Nat) (l : List Nd) (b : Option Addr) (cap2 : Nat) (xs : List Int) (w : World) (hx : NdCells w a l) (hl : l.length ≤ 1073741824) (hxs : IntCells w b xs) (hxl : xs.length ≤ 1073741824) :
    Calls Tryz.prog 16 #[.agg #[.int .i64 n, .slice a l.length cap], .slice b xs.length cap2] w fun e w' => e = .returned (.int .i64 (chkR xs ⟨n, l⟩)) ∧ Below w.heap.size w w' := by
  have hb0 := (Below.refl w.heap.size w).alloc (Nat.le_refl _) (.cells #[.int .i64 n, .slice a l.length cap] 24)
  have HB0 := Lib.hid hb0
  have q0 := Lib.hid (Blk.new w #[.int .i64 n, .slice a l.length cap] 24)
  have HX := Lib.hid hx
  have HXS := Lib.hid hxs
  have HV := Lib.hid (rValid_any n a cap l _ hl (hx.keep hb0))
  clear hb0 hx hxs
  cases hok : netOk ⟨n, l⟩ with
  | false =>
    rw [hok] at HV
    have HR : Hid (chkR xs ⟨n, l⟩ = 1) := by show _ = _; unfold chkR; rw [if_pos hok]
    clear hok
    go_enter Tryz.func16, Tryz.ntmps16
    go_wp2_with fail
    refine HV.out.mono ?_
    rintro e w1 ⟨rfl, hb1⟩
    have HB1 := Lib.hid (HB0.out.trans (hb1.mono HB0.out.size))
    clear hb1
    go_wp2
    go_ret
    exact ⟨ret_int HR.out.symm, HB1.out⟩
  | true =>
    rw [hok] at HV
    have HOK := Lib.hid hok
    clear hok
    go_enter Tryz.func16, Tryz.ntmps16
    go_wp2_with fail
    refine HV.out.mono ?_
    rintro e w1 ⟨rfl, hb1⟩
    have HB1 := Lib.hid (HB0.out.trans (hb1.mono HB0.out.size))
    have R1 := Lib.hid (q0.out.later hb1)
    clear hb1
    go_wp2
    go_loopw [5] (fun i wr => ∃ k : Nat, k ≤ xs.length ∧ i = .int .i64 k ∧ (∀ j, j < k → litOk (xs.getD j 0) n = true) ∧ Below w1.heap.size w1 wr) (fun i _ => xs.length - (intOf i).toNat)
    case atStart => exact ⟨0, Nat.zero_le _, rfl, fun j h => absurd h (Nat.not_lt_zero _), Below.refl _ _⟩
    case round =>
      obtain ⟨k, hk, rfl, hno, hb⟩ := hrel
      have HN := Lib.hid hno
      have HB := Lib.hid hb
      have HBA := Lib.hid (HB1.out.trans (hb.mono HB1.out.size))
      have R := Lib.hid (R1.out.later hb)
      have k0 : wr.cell? ⟨w.heap.size, 0, none⟩ = some (.int .i64 n) := R.out.cell 0
      have k1 : wr.cell? ⟨w.heap.size, 1, none⟩ = some (.slice a l.length cap) := R.out.cell 1
      clear hno hb
      by_cases hlt : k < xs.length
      · obtain ⟨b2, off2, rfl, c0⟩ := (HXS.out.keep HBA.out) k hlt
        generalize hxd : xs.getD k 0 = x at *
        have HXD := Lib.hid hxd
        clear hxd
        have hki : (k : Int) < (xs.length : Int) := by omega
        have hk0 : (0 : Int) ≤ (k : Int) := by omega
        have HL := Lib.hid (fun V => rLitValid_any x n V)
        cases hlo : litOk x n with
        | true =>
          rw [hlo] at HL
          have HLO := Lib.hid hlo
          clear hlo
          go_wp2_with fail
          refine wp_region_still_tail 6 (by kernel_rfl) (by kernel_rfl) ?_
          simp only [List.take_succ_cons, List.take_zero, List.drop_succ_cons, List.drop_zero]
          change wpStill _ _ (World.drew _) _ _ _
          repeat still_step
          refine wpStill_nil ?_
          go_wp2_with fail
          refine (HL.out _).mono ?_
          rintro e w' ⟨rfl, rfl⟩
          go_wp2
          go_roundw
          case rel => exact ⟨k + 1, by omega, by go_num, fun j hj => by
            by_cases e : j = k
            · subst e; rw [HXD.out]; exact HLO.out
            · exact HN.out j (by omega), HB.out.drew⟩
          case measure => simp [intOf]; omega
        | false =>
          rw [hlo] at HL
          have HR : Hid (chkR xs ⟨n, l⟩ = 1) := by
            show _ = _; unfold chkR
            rw [if_neg (by rw [HOK.out]; simp), if_pos (all_false (p := fun x => litOk x n) hlt (by show litOk (xs.getD k 0) n = _; rw [HXD.out]; exact hlo))]
          clear hlo
          go_wp2_with fail
          refine wp_region_still_tail 6 (by kernel_rfl) (by kernel_rfl) ?_
          simp only [List.take_succ_cons, List.take_zero, List.drop_succ_cons, List.drop_zero]
          change wpStill _ _ (World.drew _) _ _ _
          repeat still_step
          refine wpStill_nil ?_
          go_wp2_with fail
          refine (HL.out _).mono ?_
          rintro e w' ⟨rfl, rfl⟩
          go_wp2
          go_ret
          exact ⟨ret_int HR.out.symm, HBA.out.drew⟩
      · have : k = xs.length := by omega
        subst this
        have HALL : Hid ((xs.all fun x => litOk x n) = true) := all_true HN.out
        have HD := Lib.hid (decomposable21_any n a cap l wr HOK.out (HX.out.keep HBA.out))
        cases hd : decL l with
        | false =>
          rw [hd] at HD
          have HR : Hid (chkR xs ⟨n, l⟩ = 210) := by
            show _ = _; unfold chkR; rw [if_neg (by rw [HOK.out]; simp), if_neg (by rw [HALL.out]; simp), if_pos hd]
          clear hd
          go_wp2_with fail
          refine HD.out.mono ?_
          rintro e w5 ⟨rfl, hb5⟩
          have HB5 := Lib.hid (HBA.out.trans (hb5.mono HBA.out.size))
          clear hb5
          go_wp2
          go_ret
          exact ⟨ret_int HR.out.symm, HB5.out⟩
        | true =>
          rw [hd] at HD
          have HR : Hid (chkR xs ⟨n, l⟩ = 0) := by
            show _ = _; unfold chkR; rw [if_neg (by rw [HOK.out]; simp), if_neg (by rw [HALL.out]; simp), if_neg (by rw [hd]; simp)]
          clear hd
          go_wp2_with fail
          refine HD.out.mono ?_
          rintro e w5 ⟨rfl, hb5⟩
          have HB5 := Lib.hid (HBA.out.trans (hb5.mono HBA.out.size))
          clear hb5
          go_wp2
          go_ret
          exact ⟨ret_int HR.out.symm, HB5.out⟩
end Go.Proofs.YtkaojolofaanfaaGreatDoor

/- The walks of light and of QueryFacts. -/
namespace Go.Proofs.YtkaojolofaanfaaGreatDoor
open Go.RowKit Cen
set_option maxHeartbeats 4000000
set_option maxRecDepth 100000
/-- Nodes that can be read, of whatever size. -/
def NdCells0 (w : World) (a : Option Addr) (l : List Nd) : Prop :=
  ∀ i, i < l.length → ∃ b off, a = some ⟨b, off, none⟩ ∧ w.cell? ⟨b, off + i * 3, none⟩ = some (.int .i64 (l.getD i default).kind) ∧ w.cell? ⟨b, off + i * 3 + 1, none⟩ = some (.int .i64 (l.getD i default).lit) ∧
    ∃ av cv, w.cell? ⟨b, off + i * 3 + 2, none⟩ = some (.slice av (l.getD i default).ins.length cv) ∧ IntCells w av (l.getD i default).ins ∧ (l.getD i default).ins.length ≤ 9223372036854775807
theorem NdCells0.up {w : World} {a : Option Addr} {l : List Nd} (h : NdCells0 w a l) (hs : ∀ x ∈ l, x.ins.length ≤ 1073741824) : NdCells w a l := by
  intro i hi
  obtain ⟨b, off, e, c0, c1, av, cv, c2, c3, _⟩ := h i hi
  have e2 : l.getD i default = l[i] := by simp [List.getD_eq_getElem?_getD, hi]
  exact ⟨b, off, e, c0, c1, av, cv, c2, c3, by rw [e2]; exact hs _ (List.getElem_mem hi)⟩
theorem NdCells0.keep {w w' : World} {a : Option Addr} {l : List Nd} (h : NdCells0 w a l) (hb : Below w.heap.size w w') : NdCells0 w' a l := by
  intro i hi
  obtain ⟨b, off, e, c0, c1, av, cv, c2, c3, c4⟩ := h i hi
  exact ⟨b, off, e, cell_keep hb c0, cell_keep hb c1, av, cv, cell_keep hb c2, c3.keep hb, c4⟩
def lightB (t : Nt) : Bool := decide (t.l.length ≤ 50) && ((t.l.all fun x => decide (x.ins.length ≤ 50)) && (decide (t.n ≤ 8) || !netOk t))
theorem lightB_ok {t : Nt} (h : lightB t = true) : t.l.length ≤ 50 ∧ (∀ x ∈ t.l, x.ins.length ≤ 50) ∧ (netOk t = true → t.n ≤ 8) := by
  unfold lightB at h
  simp only [Bool.and_eq_true, Bool.or_eq_true, decide_eq_true_eq, List.all_eq_true, Bool.not_eq_true'] at h
  refine ⟨h.1, h.2.1, fun ho => ?_⟩
  rcases h.2.2 with h3 | h3
  · exact h3
  · rw [ho] at h3; simp at h3
theorem light_any (n : Int) (a : Option Addr) (cap : Nat) (l : List Nd) (w : World) (hl : l.length ≤ 9223372036854775807) (hx : NdCells0 w a l) :
    Calls Tryz.prog 15 #[.agg #[.int .i64 n, .slice a l.length cap]] w fun e w' => e = .returned (.bool (lightB ⟨n, l⟩)) ∧ Below w.heap.size w w' := by
  have hb0 := (Below.refl w.heap.size w).alloc (Nat.le_refl _) (.cells #[.int .i64 n, .slice a l.length cap] 24)
  have HB0 := Lib.hid hb0
  have HX := Lib.hid (hx.keep hb0)
  have q0 := Lib.hid (Blk.new w #[.int .i64 n, .slice a l.length cap] 24)
  clear hb0 hx
  by_cases h1 : l.length ≤ 50
  · have d1 : decide ((50 : Int) < (l.length : Int)) = false := by simp; omega
    go_enter Tryz.func15, Tryz.ntmps15
    go_wp2
    generalize w.alloc (.cells #[.int .i64 n, .slice a l.length cap] 24) = W at *
    have k0 : W.cell? ⟨w.heap.size, 0, none⟩ = some (.int .i64 n) := q0.out.cell 0
    have k1 : W.cell? ⟨w.heap.size, 1, none⟩ = some (.slice a l.length cap) := q0.out.cell 1
    clear d1
    go_loop [3] (fun i => ∃ k : Nat, k ≤ l.length ∧ i = .int .i64 k ∧ ∀ j, j < k → decide ((l.getD j default).ins.length ≤ 50) = true) (fun i => l.length - (intOf i).toNat)
    case atStart => exact ⟨0, Nat.zero_le _, rfl, fun j h => absurd h (Nat.not_lt_zero _)⟩
    case round =>
      obtain ⟨k, hk, rfl, hno⟩ := hrel
      have HN := Lib.hid hno
      clear hno
      by_cases hlt : k < l.length
      · obtain ⟨b, off, rfl, _, _, av, cv, c2, _, hil⟩ := HX.out k hlt
        generalize hxd : l.getD k default = x at *
        have HXD := Lib.hid hxd
        clear hxd
        by_cases h50 : x.ins.length ≤ 50
        · have d2 : decide ((50 : Int) < (x.ins.length : Int)) = false := by simp; omega
          have H50 := Lib.hid h50
          clear h50
          go_wp2
          go_round
          case rel => exact ⟨k + 1, by omega, by go_num, fun j hj => by
            by_cases e : j = k
            · subst e; rw [HXD.out]; simpa using H50.out
            · exact HN.out j (by omega)⟩
          case measure => simp [intOf]; omega
        · have d2 : decide ((50 : Int) < (x.ins.length : Int)) = true := by simp; omega
          have HR : Hid (lightB ⟨n, l⟩ = false) := by
            show _ = _; unfold lightB
            rw [all_false (p := fun x : Nd => decide (x.ins.length ≤ 50)) hlt (by rw [HXD.out]; simpa using h50)]; simp
          clear h50
          go_wp2
          go_ret
          exact ⟨ret_bool HR.out.symm, HB0.out⟩
      · have : k = l.length := by omega
        subst this
        have HALL : Hid ((l.all fun x => decide (x.ins.length ≤ 50)) = true) := all_true HN.out
        have HXU := Lib.hid (HX.out.up fun x hx => by have := List.all_eq_true.1 HALL.out x hx; simp at this; omega)
        by_cases h8 : n ≤ 8
        · have d3 : decide (n ≤ 8) = true := by simpa using h8
          have HR : Hid (lightB ⟨n, l⟩ = true) := by
            show _ = _; unfold lightB; rw [decide_eq_true h1, HALL.out, d3]; rfl
          clear h8
          go_wp2
          go_ret
          exact ⟨ret_bool HR.out.symm, HB0.out⟩
        · have d3 : decide (n ≤ 8) = false := by simpa using h8
          have HR : Hid (lightB ⟨n, l⟩ = !netOk ⟨n, l⟩) := by
            show _ = _; unfold lightB; rw [decide_eq_true h1, HALL.out, d3]; rfl
          have HV := Lib.hid (rValid_any n a cap l W (by omega) HXU.out)
          clear h8
          go_wp2_with fail
          refine HV.out.mono ?_
          rintro e w1 ⟨rfl, hb1⟩
          have HB1 := Lib.hid (HB0.out.trans (hb1.mono HB0.out.size))
          clear hb1
          go_wp2
          go_ret
          exact ⟨ret_bool (by rw [HR.out]), HB1.out⟩
  · have d1 : decide ((50 : Int) < (l.length : Int)) = true := by simp; omega
    have HR : Hid (lightB ⟨n, l⟩ = false) := by show _ = _; unfold lightB; rw [decide_eq_false h1]; rfl
    clear h1
    go_enter Tryz.func15, Tryz.ntmps15
    go_wp2
    go_ret
    exact ⟨ret_bool HR.out.symm, HB0.out⟩
theorem small50 {l : List Nd} (h1 : l.length ≤ 50) (h2 : ∀ x ∈ l, x.ins.length ≤ 50) : Small l := ⟨by omega, fun x hx => by have := h2 x hx; omega⟩
end Go.Proofs.YtkaojolofaanfaaGreatDoor

/- The walks of nat.Nat's words, and of nat.from, at numbers below 65536. -/
namespace Go.Proofs.YtkaojolofaanfaaGreatDoor
open Go.RowKit Cen
set_option maxHeartbeats 4000000
set_option maxRecDepth 100000
def natB (x : Nat) : ByteArray := if x = 0 then ⟨#[]⟩ else if x < 256 then ⟨#[UInt8.ofNat x]⟩ else ⟨#[UInt8.ofNat (x % 256), UInt8.ofNat (x / 256)]⟩
def natv (x : Nat) : Value := .agg #[.string (natB x)]
def wl (x : Nat) : Nat := if x = 0 then 0 else 1
def wcells (x : Nat) : Array Value := if x = 0 then #[] else #[.int .u32 (x : Int)]
theorem mkw0 (w : World) : (Instr.makeSlice 99 (.int .i64 0) (.int .i64 0)).run Tryz.prog w = .ok (.slice (some ⟨w.heap.size, 0, none⟩) 0 0) (w.alloc (.cells #[] 100)) := by kernel_rfl
theorem mkw1 (w : World) : (Instr.makeSlice 99 (.int .i64 1) (.int .i64 1)).run Tryz.prog w = .ok (.slice (some ⟨w.heap.size, 0, none⟩) 1 1) (w.alloc (.cells #[.int .u32 0] 100)) := by kernel_rfl
theorem mkb0 (w : World) : (Instr.makeSlice 154 (.int .i64 0) (.int .i64 0)).run Tryz.prog w = .ok (.slice (some ⟨w.heap.size, 0, none⟩) 0 0) (w.alloc (.cells #[] 5)) := by kernel_rfl
theorem mkb4 (w : World) : (Instr.makeSlice 154 (.int .i64 4) (.int .i64 4)).run Tryz.prog w = .ok (.slice (some ⟨w.heap.size, 0, none⟩) 4 4) (w.alloc (.cells #[.int .u8 0, .int .u8 0, .int .u8 0, .int .u8 0] 5)) := by kernel_rfl
theorem mkb8 (w : World) : (Instr.makeSlice 154 (.int .i64 8) (.int .i64 8)).run Tryz.prog w = .ok (.slice (some ⟨w.heap.size, 0, none⟩) 8 8) (w.alloc (.cells #[.int .u8 0, .int .u8 0, .int .u8 0, .int .u8 0, .int .u8 0, .int .u8 0, .int .u8 0, .int .u8 0] 5)) := by kernel_rfl
theorem or0 (x : Nat) (h : x < 256) : bits .or .u32 0 ((x : Int) % 4294967296) = x := by
  rw [Int.emod_eq_of_lt (by omega) (by omega), show (0 : Int) = ((0 : Nat) : Int) from rfl, u32_or_nat 0 x (by decide) (by omega), Nat.zero_or]
theorem or1 (x y : Nat) (h : x < 256) (hy : y < 256) : bits .or .u32 (x : Int) ((y : Int) % 4294967296 * 256 % 4294967296) = ((x + 256 * y : Nat) : Int) := by
  rw [Int.emod_eq_of_lt (a := (y : Int)) (by omega) (by omega), Int.emod_eq_of_lt (by omega) (by omega), show (y : Int) * 256 = ((y * 256 : Nat) : Int) from by omega, u32_or_nat x (y * 256) (by omega) (by omega)]
  have := Nat.shiftLeft_add_eq_or_of_lt (i := 8) h y
  rw [Nat.or_comm, show y * 256 = y <<< 8 from by rw [Nat.shiftLeft_eq], ← this, Nat.shiftLeft_eq]
  omega
theorem words0_any (w : World) : Calls Tryz.prog 174 #[.agg #[.string ⟨#[]⟩]] w fun e w' => e = .returned (.slice (some ⟨w.heap.size + 1, 0, none⟩) 0 0) ∧ Blk w' (w.heap.size + 1) #[] 100 ∧ Below w.heap.size w w' := by
  have hmk := mkw0
  go_enter Tryz.func174, Tryz.ntmps174
  go_wp2
  refine wp_loop_rounds 1 ?_
  rw [rounds_succ]
  go_wp2
  go_ret
  exact ⟨rfl, Blk.new' (w.alloc _) (by simp) _ _, (((Below.refl _ w).alloc (Nat.le_refl _) _).alloc (by simp) _)⟩
theorem words1_any (b : UInt8) (w : World) : Calls Tryz.prog 174 #[.agg #[.string ⟨#[b]⟩]] w fun e w' => e = .returned (.slice (some ⟨w.heap.size + 1, 0, none⟩) 1 1) ∧ Blk w' (w.heap.size + 1) #[.int .u32 (b.toNat : Int)] 100 ∧ Below w.heap.size w w' := by
  have hmk1 := mkw1
  go_enter Tryz.func174, Tryz.ntmps174
  go_wp2
  refine wp_loop_rounds 2 ?_
  rw [rounds_succ]
  go_wp2
  go_region
  go_wp2
  rw [rounds_succ]
  go_wp2
  go_ret
  refine ⟨rfl, ?_, (((Below.refl _ w).alloc (Nat.le_refl _) _).alloc (by simp) _).drew⟩
  have e := or0 b.toNat b.toNat_lt
  have h := Blk.new' (w.alloc (.cells #[.string ⟨#[b]⟩] 32)) (b := w.heap.size + 1) (by simp) #[.int .u32 (bits .or .u32 0 ((b.toNat : Int) % 4294967296))] 100
  rw [← e]
  exact h
theorem words2_any (b c : UInt8) (w : World) : Calls Tryz.prog 174 #[.agg #[.string ⟨#[b, c]⟩]] w fun e w' => e = .returned (.slice (some ⟨w.heap.size + 1, 0, none⟩) 1 1) ∧ Blk w' (w.heap.size + 1) #[.int .u32 ((b.toNat + 256 * c.toNat : Nat) : Int)] 100 ∧ Below w.heap.size w w' := by
  have hmk1 := mkw1
  go_enter Tryz.func174, Tryz.ntmps174
  go_wp2
  refine wp_loop_rounds 3 ?_
  rw [rounds_succ]
  go_wp2
  go_region
  go_wp2
  rw [rounds_succ]
  go_wp2
  go_region
  go_wp2
  rw [rounds_succ]
  go_wp2
  go_ret
  refine ⟨rfl, ?_, (((Below.refl _ w).alloc (Nat.le_refl _) _).alloc (by simp) _).drew.drew⟩
  have h := Blk.new' (w.alloc (.cells #[.string ⟨#[b, c]⟩] 32)) (b := w.heap.size + 1) (by simp) #[.int .u32 (bits .or .u32 (bits .or .u32 0 ((b.toNat : Int) % 4294967296)) ((c.toNat : Int) % 4294967296 * 256 % 4294967296))] 100
  rw [← or1 _ _ b.toNat_lt c.toNat_lt, ← or0 _ b.toNat_lt]
  exact h
theorem words_any (x : Nat) (hx : x < 65536) (w : World) : Calls Tryz.prog 174 #[natv x] w fun e w' => e = .returned (.slice (some ⟨w.heap.size + 1, 0, none⟩) (wl x) (wl x)) ∧ Blk w' (w.heap.size + 1) (wcells x) 100 ∧ Below w.heap.size w w' := by
  unfold natv natB wl wcells
  split
  · exact words0_any w
  · split
    · have h := words1_any (UInt8.ofNat x) w
      rwa [show ((UInt8.ofNat x).toNat : Int) = (x : Int) from by simp; omega] at h
    · have h := words2_any (UInt8.ofNat (x % 256)) (UInt8.ofNat (x / 256)) w
      rwa [show (UInt8.ofNat (x % 256)).toNat + 256 * (UInt8.ofNat (x / 256)).toNat = x from by simp; omega] at h
end Go.Proofs.YtkaojolofaanfaaGreatDoor
