/- Part 24 of 26 of the proof that censuslaw38.QueryFacts returns true for every input, where the tables that the row lists are laid. Texts: R21D, R38, Law. -/
import Derived.Test.YtfdonhfhcomjaaaGreatDoorZA23
import Derived.Test.YtfdonhfhcomjaaaGreatDoorZA18
import Derived.Test.YtfdonhfhcomjaaaGreatDoorZA20
import Derived.Test.YtfdonhfhcomjaaaGreatDoorZA17
import Derived.Test.YtfdonhfhcomjaaaGreatDoorZA21

/- The walk of censusref21's Decomposable. -/
namespace Go.Proofs.YtfdonhfhcomjaaaGreatDoor
open Go.RowKit Cen
set_option maxHeartbeats 4000000
set_option maxRecDepth 100000
theorem cut_zero {s t : St} (hs : s.ok) : s.cut t = St.zero ↔ ∀ v, 1 ≤ v → v ≤ 128 → (s.mem v && t.mem v) = false := by
  constructor
  · intro h v _ _
    rw [← St.mem_cut, h, St.mem_zero]
  · intro h
    apply St.ext (St.cut_ok hs) St.zero_ok
    intro v h1 h2
    rw [St.mem_cut, h v h1 h2, St.mem_zero]
theorem cut_comm {s t : St} (hs : s.ok) (ht : t.ok) : s.cut t = St.zero ↔ t.cut s = St.zero := by
  rw [cut_zero hs, cut_zero ht]
  exact ⟨fun h v a b => by rw [Bool.and_comm]; exact h v a b, fun h v a b => by rw [Bool.and_comm]; exact h v a b⟩
theorem sepF_iff {vs : List St} (hv : ∀ k, (vs.getD k St.zero).ok) (ins : List Int) : ∀ S : St, S.ok →
    (sepF vs S ins = true ↔ (∀ i ∈ ins, S.cut (vs.getD i.toNat St.zero) = St.zero) ∧ ins.Pairwise fun i j => (vs.getD i.toNat St.zero).cut (vs.getD j.toNat St.zero) = St.zero) := by
  induction ins with
  | nil => intro S _; simp [sepF]
  | cons k r ih =>
    intro S hS
    rw [sepF, List.pairwise_cons]
    have hU : ∀ i : Int, (S.union (vs.getD k.toNat St.zero)).cut (vs.getD i.toNat St.zero) = St.zero ↔ S.cut (vs.getD i.toNat St.zero) = St.zero ∧ (vs.getD k.toNat St.zero).cut (vs.getD i.toNat St.zero) = St.zero := fun i => by
      rw [cut_zero (St.union_ok hS (hv _)), cut_zero hS, cut_zero (hv _)]
      constructor
      · intro h
        refine ⟨fun v a b => ?_, fun v a b => ?_⟩ <;> (have := h v a b; rw [St.mem_union] at this; revert this; cases S.mem v <;> cases (vs.getD k.toNat St.zero).mem v <;> cases (vs.getD i.toNat St.zero).mem v <;> simp)
      · intro ⟨h1, h2⟩ v a b
        have e1 := h1 v a b
        have e2 := h2 v a b
        rw [St.mem_union]; revert e1 e2
        cases S.mem v <;> cases (vs.getD k.toNat St.zero).mem v <;> cases (vs.getD i.toNat St.zero).mem v <;> simp
    by_cases h : S.cut (vs.getD k.toNat St.zero) = St.zero
    · rw [if_pos h, ih _ (St.union_ok hS (hv _))]
      constructor
      · intro ⟨h1, h2⟩
        refine ⟨fun i hi => ?_, fun i hi => ((hU i).1 (h1 i hi)).2, h2⟩
        rcases List.mem_cons.1 hi with rfl | hi
        · exact h
        · exact ((hU i).1 (h1 i hi)).1
      · intro ⟨h1, h2, h3⟩
        exact ⟨fun i hi => (hU i).2 ⟨h1 i (by simp [hi]), h2 i hi⟩, h3⟩
    · rw [if_neg h]
      constructor
      · intro h2; simp at h2
      · intro ⟨h1, _⟩; exact absurd (h1 k (by simp)) h
/-- The inputs' variables are apart, pair by pair. -/
def pairs (vs : List St) (ins : List Int) : Prop := ∀ k m, m < k → k < ins.length → (vs.getD (ins.getD k 0).toNat St.zero).cut (vs.getD (ins.getD m 0).toNat St.zero) = St.zero
theorem sepF_pairs {vs : List St} (hv : ∀ k, (vs.getD k St.zero).ok) (ins : List Int) : sepF vs St.zero ins = true ↔ pairs vs ins := by
  rw [sepF_iff hv ins St.zero St.zero_ok, List.pairwise_iff_getElem]
  have hz : ∀ i ∈ ins, St.zero.cut (vs.getD i.toNat St.zero) = St.zero := fun i _ => (cut_zero St.zero_ok).2 fun v _ _ => by rw [St.mem_zero]; rfl
  constructor
  · intro ⟨_, h⟩ k m hmk hk
    have := h m k (by omega) hk hmk
    have e1 : ins.getD k 0 = ins[k] := by simp [List.getD_eq_getElem?_getD, hk]
    have e2 : ins.getD m 0 = ins[m] := by simp [List.getD_eq_getElem?_getD, show m < ins.length by omega]
    rw [e1, e2, cut_comm (hv _) (hv _)]; exact this
  · intro h
    refine ⟨hz, fun i j hi hj hij => ?_⟩
    have := h j i hij hj
    have e1 : ins.getD j 0 = ins[j] := by simp [List.getD_eq_getElem?_getD, hj]
    have e2 : ins.getD i 0 = ins[i] := by simp [List.getD_eq_getElem?_getD, hi]
    rw [e1, e2, cut_comm (hv _) (hv _)] at this; exact this
theorem decomposable21_any (n : Int) (a : Option Addr) (cap : Nat) (l : List Nd) (w : World) (hok : netOk ⟨n, l⟩ = true) (hx : NdCells w a l) :
    Calls Tryz.prog 50 #[.agg #[.int .i64 n, .slice a l.length cap]] w fun e w' => e = .returned (.bool (decL l)) ∧ Below w.heap.size w w' := by
  have hb0 := (Below.refl w.heap.size w).alloc (Nat.le_refl _) (.cells #[.int .i64 n, .slice a l.length cap] 24)
  have HB0 := Lib.hid hb0
  have q0 := Lib.hid (Blk.new w #[.int .i64 n, .slice a l.length cap] 24)
  have HX := Lib.hid hx
  have HK := Lib.hid hok
  have hl2 : l.length ≤ 65536 := (netOk_head hok).2.2.2
  have HVA := Lib.hid (valid21_any n a cap l _ hok (hx.keep hb0))
  have HVR := Lib.hid (fun V (h : NdCells V a l) => vars21_any n a cap l V hok h)
  have hhid : ∀ k, ((varsL l).getD k St.zero).ok := varsL_getD_ok l
  have HVO := Lib.hid hhid
  have HVL := Lib.hid (varsL_length l)
  have HSEP : Hid (∀ j, j < l.length → ((l.getD j default).kind ≠ 3 ∨ pairs (varsL l) (l.getD j default).ins) → ndSep (varsL l) (l.getD j default) = true) := fun j _ h => by
    unfold ndSep
    rcases h with h | h
    · rw [decide_eq_true h]; rfl
    · rw [(sepF_pairs hhid _).2 h]; simp
  have HNOT : Hid (∀ j, j < l.length → (l.getD j default).kind = 3 → ¬ pairs (varsL l) (l.getD j default).ins → decL l = false) := fun j hj h3 hp => by
    have e : l.getD j default = l[j] := by simp [List.getD_eq_getElem?_getD, hj]
    rw [e] at h3 hp
    refine decL_false hj ?_
    unfold ndSep
    rw [Bool.eq_false_iff]; intro h
    rw [Bool.or_eq_true] at h
    rcases h with h | h
    · simp at h; exact h h3
    · exact hp ((sepF_pairs hhid _).1 h)
  clear hb0 hx hok hhid
  go_enter Tryz.func50, Tryz.ntmps50
  go_wp2_with fail
  refine HVA.out.mono ?_
  rintro e w1 ⟨rfl, hb1⟩
  have HB1 := Lib.hid (HB0.out.trans (hb1.mono HB0.out.size))
  have R1 := Lib.hid (q0.out.later hb1)
  have k0 : w1.cell? ⟨w.heap.size, 0, none⟩ = some (.int .i64 n) := R1.out.cell 0
  have k1 : w1.cell? ⟨w.heap.size, 1, none⟩ = some (.slice a l.length cap) := R1.out.cell 1
  have HVR1 := Lib.hid (HVR.out w1 (HX.out.keep HB1.out))
  clear hb1
  go_wp2_with fail
  refine HVR1.out.mono ?_
  rintro e w2 ⟨g, rfl, hown, hb2⟩
  have HO := Lib.hid hown
  have HB2 := Lib.hid (HB1.out.trans (hb2.mono HB1.out.size))
  have R2 := Lib.hid (R1.out.later hb2)
  clear k0 k1 hb2 hown
  generalize hvs : varsL l = vs at *
  have HVS := Lib.hid hvs
  clear hvs
  go_wp2_with fail
  go_loopw [4] (fun i wr => ∃ j : Nat, j ≤ l.length ∧ i = .int .i64 j ∧ (∀ t, t < j → ndSep vs (l.getD t default) = true) ∧ Below w2.heap.size w2 wr) (fun i _ => l.length - (intOf i).toNat)
  case atStart => exact ⟨0, Nat.zero_le _, rfl, fun t h => absurd h (Nat.not_lt_zero _), Below.refl _ _⟩
  case round =>
    obtain ⟨j, hj, rfl, hno, hb⟩ := hrel
    have HN := Lib.hid hno
    have HB := Lib.hid hb
    have HBA := Lib.hid (HB2.out.trans (hb.mono HB2.out.size))
    have R := Lib.hid (R2.out.later hb)
    have k1 : wr.cell? ⟨w.heap.size, 1, none⟩ = some (.slice a l.length cap) := R.out.cell 1
    clear hno hb
    by_cases hlt : j < l.length
    · obtain ⟨b, off, rfl, c0', c1', av, cv, c2', hin, hil⟩ := HX.out j hlt
      have hnk := netOk_nd HK.out hlt
      have hgd : l.getD j default = l[j] := by simp [List.getD_eq_getElem?_getD, hlt]
      have HSJ := Lib.hid (HSEP.out j hlt)
      have HNJ := Lib.hid (HNOT.out j hlt)
      rw [← hgd] at hnk
      simp only at hnk
      have HXD : Hid (l.getD j default = l.getD j default) := rfl
      generalize hxd : l.getD j default = x at *
      have HXE := Lib.hid hxd
      clear hxd hgd
      have hbw : b < w.heap.size := cell_block c0'
      have c0 := HBA.out.cell (p := ⟨b, off + j * 3, none⟩) hbw
      have c2 := HBA.out.cell (p := ⟨b, off + j * 3 + 2, none⟩) hbw
      rw [c0'] at c0
      rw [c2'] at c2
      have HIN := Lib.hid hin
      have HINS := Lib.hid (ndOk_ins hnk)
      have hbz : b < wr.heap.size := cell_block c0
      clear hin hnk c0' c1' c2'
      go_wp2_with fail
      obtain ⟨wo, rfl⟩ : ∃ wo : World, wo = wr := ⟨_, rfl⟩
      go_loopw [6] (fun i wi => ∃ k : Nat, k ≤ x.ins.length ∧ i = .int .i64 k ∧ (k = 0 ∨ x.kind = 3) ∧ (∀ k' m, k' < k → m < k' → (vs.getD (x.ins.getD k' 0).toNat St.zero).cut (vs.getD (x.ins.getD m 0).toNat St.zero) = St.zero) ∧ Below w2.heap.size w2 wi) (fun i _ => x.ins.length - (intOf i).toNat)
      case atStart => exact ⟨0, Nat.zero_le _, rfl, .inl rfl, fun k' m h _ => absurd h (Nat.not_lt_zero _), HB.out⟩
      case round =>
        obtain ⟨wi, rfl⟩ : ∃ wi : World, wi = wr := ⟨_, rfl⟩
        obtain ⟨k, hk, rfl, hk3, hpr, hbi⟩ := hrel
        have HPR := Lib.hid hpr
        have HK3 := Lib.hid hk3
        have HBI := Lib.hid hbi
        have HBIA := Lib.hid (HB2.out.trans (hbi.mono HB2.out.size))
        have RI := Lib.hid (R2.out.later hbi)
        have p1 : wi.cell? ⟨w.heap.size, 1, none⟩ = some (.slice (some ⟨b, off, none⟩) l.length cap) := RI.out.cell 1
        have p0 : wi.cell? ⟨b, off + j * 3, none⟩ = some (.int .i64 x.kind) := by
          have h1 : wo.heap.size ≥ 0 := Nat.zero_le _
          have := HBA.out.cell (p := ⟨b, off + j * 3, none⟩) hbw
          rw [HBIA.out.cell (p := ⟨b, off + j * 3, none⟩) hbw, ← this]; exact c0
        clear hpr hbi hk3
        by_cases hkl : k < x.ins.length
        · by_cases h3 : x.kind = 3
          · have hb3 : (x.kind == 3) = true := by simpa using h3
            have H3 := Lib.hid h3
            clear h3
            obtain ⟨b2, off2, rfl, e0'⟩ := HIN.out k hkl
            have hq := HINS.out (x.ins.getD k 0) (by simp [List.getD_eq_getElem?_getD, hkl])
            have HYK : Hid (x.ins.getD k 0 = x.ins.getD k 0) := rfl
            generalize hyk : x.ins.getD k 0 = y at *
            have HYKE := Lib.hid hyk
            clear hyk
            obtain ⟨hq0, hq1⟩ := hq
            obtain ⟨q, rfl⟩ := Int.eq_ofNat_of_zero_le hq0
            have hb2w : b2 < w.heap.size := cell_block e0'
            have hqv : q < vs.length := by have := HVL.out; omega
            go_wp2_with fail
            obtain ⟨wq, rfl⟩ : ∃ wq : World, wq = wi := ⟨_, rfl⟩
            go_loopw [7] (fun i wm => ∃ m : Nat, m ≤ k ∧ i = .int .i64 m ∧ (∀ m', m' < m → (vs.getD q St.zero).cut (vs.getD (x.ins.getD m' 0).toNat St.zero) = St.zero) ∧ Below w2.heap.size w2 wm) (fun i _ => k - (intOf i).toNat)
            case atStart => exact ⟨0, Nat.zero_le _, rfl, fun m' h => absurd h (Nat.not_lt_zero _), HBI.out⟩
            case round =>
              obtain ⟨wm, rfl⟩ : ∃ wm : World, wm = wr := ⟨_, rfl⟩
              obtain ⟨m, hm, rfl, hpm, hbm⟩ := hrel
              have HPM := Lib.hid hpm
              have HBM := Lib.hid hbm
              have HBMA := Lib.hid (HB2.out.trans (hbm.mono HB2.out.size))
              clear hpm
              by_cases hmk : m < k
              · have hml : m < x.ins.length := by omega
                obtain ⟨b3, off3, e3, f0'⟩ := HIN.out m hml
                simp only [Option.some.injEq, Addr.mk.injEq, and_true] at e3
                obtain ⟨rfl, rfl⟩ := e3
                have hr := HINS.out (x.ins.getD m 0) (by simp [List.getD_eq_getElem?_getD, hml])
                generalize hym : x.ins.getD m 0 = z at *
                have HYME := Lib.hid hym
                clear hym
                obtain ⟨hr0, hr1⟩ := hr
                obtain ⟨r, rfl⟩ := Int.eq_ofNat_of_zero_le hr0
                have hrv : r < vs.length := by have := HVL.out; omega
                have ho := HO.out.later hbm
                have i0 : wm.cell? ⟨b2, off2 + k, none⟩ = some (.int .i64 (q : Int)) := by rw [HBMA.out.cell (p := ⟨b2, off2 + k, none⟩) hb2w]; exact e0'
                have i1 : wm.cell? ⟨b2, off2 + m, none⟩ = some (.int .i64 (r : Int)) := by rw [HBMA.out.cell (p := ⟨b2, off2 + m, none⟩) hb2w]; exact f0'
                have u0 : wm.cell? ⟨g, q * 2, none⟩ = some (.int .u64 (vs[q].a : Int)) := ho.cell HVL.out.symm stc_len q 0 hqv (by omega)
                have u1 : wm.cell? ⟨g, q * 2 + 1, none⟩ = some (.int .u64 (vs[q].b : Int)) := ho.cell HVL.out.symm stc_len q 1 hqv (by omega)
                have v0 : wm.cell? ⟨g, r * 2, none⟩ = some (.int .u64 (vs[r].a : Int)) := ho.cell HVL.out.symm stc_len r 0 hrv (by omega)
                have v1 : wm.cell? ⟨g, r * 2 + 1, none⟩ = some (.int .u64 (vs[r].b : Int)) := ho.cell HVL.out.symm stc_len r 1 hrv (by omega)
                have hqd : vs.getD q St.zero = vs[q] := by simp [List.getD_eq_getElem?_getD, hqv]
                have hrd : vs.getD ((r : Int)).toNat St.zero = vs[r] := by simp [List.getD_eq_getElem?_getD, hrv]
                have HQO : Hid (vs[q].ok) := by have := HVO.out q; rw [hqd] at this; exact this
                have HRO : Hid (vs[r].ok) := by have := HVO.out r; rw [show vs.getD r St.zero = vs[r] by simp [List.getD_eq_getElem?_getD, hrv]] at this; exact this
                have hki : (k : Int) < (x.ins.length : Int) := by omega
                have hmi : (m : Int) < (x.ins.length : Int) := by omega
                have hqi : (q : Int) < (l.length : Int) := by have := HVL.out; omega
                have hri : (r : Int) < (l.length : Int) := by have := HVL.out; omega
                have hk00 : (0 : Int) ≤ (k : Int) := by omega
                have hm00 : (0 : Int) ≤ (m : Int) := by omega
                have HQD := Lib.hid hqd
                have HRD := Lib.hid hrd
                generalize vs[q] = S at *
                generalize vs[r] = T at *
                have HME := Lib.hid (fun V => meets_any S T V HQO.out HRO.out)
                clear ho hbm hqd hrd e0' f0' p0 p1 c0 c2 k1
                go_wp2_with fail
                refine wp_region_still_tail 14 (by kernel_rfl) (by kernel_rfl) ?_
                simp only [List.take_succ_cons, List.take_zero, List.drop_succ_cons, List.drop_zero]
                change wpStill _ _ (World.drew _) _ _ _
                repeat still_step
                refine wpStill_nil ?_
                by_cases hz : S.cut T = St.zero
                · have HZ := Lib.hid hz
                  have HD : Hid (decide (S.cut T ≠ St.zero) = false) := by show _ = _; simpa using hz
                  clear hz
                  rw [HD.out] at HME
                  go_wp2_with fail
                  refine (HME.out _).mono ?_
                  rintro e w9 ⟨rfl, hb9⟩
                  have HB9 := Lib.hid (HBM.out.trans ((Below.drew (Below.refl w2.heap.size wm)).trans (Below.mono hb9 HBM.out.size)))
                  clear hb9
                  go_wp2
                  go_roundw
                  case rel => exact ⟨m + 1, by omega, by go_num, fun m' hm' => by
                    by_cases e : m' = m
                    · subst e; rw [HYME.out, HQD.out, HRD.out]; exact HZ.out
                    · exact HPM.out m' (by omega), HB9.out⟩
                  case measure => simp [intOf]; omega
                · have HR : Hid (decL l = false) := HNJ.out H3.out (fun hp => hz (by
                    have := hp k m hmk hkl
                    rw [HYKE.out, HYME.out, HRD.out, show ((q : Int)).toNat = q from rfl, HQD.out] at this
                    exact this))
                  have HD : Hid (decide (S.cut T ≠ St.zero) = true) := by show _ = _; simpa using hz
                  clear hz
                  rw [HD.out] at HME
                  go_wp2_with fail
                  refine (HME.out _).mono ?_
                  rintro e w9 ⟨rfl, hb9⟩
                  have HB9 := Lib.hid (HBM.out.trans ((Below.drew (Below.refl w2.heap.size wm)).trans (Below.mono hb9 HBM.out.size)))
                  clear hb9
                  go_wp2
                  go_ret
                  exact ⟨ret_bool HR.out.symm, HB2.out.trans (HB9.out.mono HB2.out.size)⟩
              · have : m = k := by omega
                subst this
                go_wp2
                go_roundw
                case rel => exact ⟨m + 1, by omega, by go_num, .inr H3.out, fun k' m' hk' hm' => by
                  by_cases e : k' = m
                  · subst e; rw [HYKE.out, show ((q : Int)).toNat = q from rfl]; exact HPM.out m' hm'
                  · exact HPR.out k' m' (by omega) hm', HBM.out⟩
                case measure => simp [intOf]; omega
          · have hb3 : (x.kind == 3) = false := by simpa using h3
            have HS := Lib.hid (HSJ.out (.inl h3))
            clear h3
            go_wp2
            go_roundw
            case rel => exact ⟨j + 1, by omega, by go_num, fun t ht => by
              by_cases e : t = j
              · subst e; rw [HXE.out]; exact HS.out
              · exact HN.out t (by omega), HBI.out⟩
            case measure => simp [intOf]; omega
        · have : k = x.ins.length := by omega
          have HS : Hid (ndSep vs x = true) := by
            by_cases h3 : x.kind = 3
            · exact HSJ.out (.inr fun k' m' hm' hk' => HPR.out k' m' (by omega) hm')
            · exact HSJ.out (.inl h3)
          subst this
          go_wp2
          go_roundw
          case rel => exact ⟨j + 1, by omega, by go_num, fun t ht => by
            by_cases e : t = j
            · subst e; rw [HXE.out]; exact HS.out
            · exact HN.out t (by omega), HBI.out⟩
          case measure => simp [intOf]; omega
    · have : j = l.length := by omega
      subst this
      have HR : Hid (decL l = true) := by
        show _ = _
        refine decL_true fun t ht => ?_
        rw [HVS.out]; exact HN.out t ht
      go_wp2
      go_ret
      exact ⟨ret_bool HR.out.symm, HBA.out⟩
end Go.Proofs.YtfdonhfhcomjaaaGreatDoor

/- The walks of censusref38's Check, Consistent, Valid. -/
namespace Go.Proofs.YtfdonhfhcomjaaaGreatDoor
open Go.RowKit Cen
set_option maxHeartbeats 4000000
set_option maxRecDepth 100000
theorem rCheck_any (n : Int) (a : Option Addr) (cap : Nat) (l : List Nd) (b : Option Addr) (cap2 : Nat) (xs : List Int) (w : World) (hx : NdCells w a l) (hl : l.length ≤ 1073741824) (hxs : IntCells w b xs) (hxl : xs.length ≤ 1073741824) :
    Calls Tryz.prog 15 #[.agg #[.int .i64 n, .slice a l.length cap], .slice b xs.length cap2] w fun e w' => e = .returned (.int .i64 (chkR xs ⟨n, l⟩)) ∧ Below w.heap.size w w' := by
  have hb0 := (Below.refl w.heap.size w).alloc (Nat.le_refl _) (.cells #[.int .i64 n, .slice a l.length cap] 24)
  have HB0 := Lib.hid hb0
  have q0 := Lib.hid (Blk.new w #[.int .i64 n, .slice a l.length cap] 24)
  have HX := Lib.hid hx
  have HXS := Lib.hid hxs
  have HV := Lib.hid (rValid_any n a cap l _ hl (hx.keep hb0))
  clear hb0 hx hxs
  cases hok : netOk ⟨n, l⟩ with
  | false =>
    rw [hok] at HV
    have HR : Hid (chkR xs ⟨n, l⟩ = 1) := by show _ = _; unfold chkR; rw [if_pos hok]
    clear hok
    go_enter Tryz.func15, Tryz.ntmps15
    go_wp2_with fail
    refine HV.out.mono ?_
    rintro e w1 ⟨rfl, hb1⟩
    have HB1 := Lib.hid (HB0.out.trans (hb1.mono HB0.out.size))
    clear hb1
    go_wp2
    go_ret
    exact ⟨ret_int HR.out.symm, HB1.out⟩
  | true =>
    rw [hok] at HV
    have HOK := Lib.hid hok
    clear hok
    go_enter Tryz.func15, Tryz.ntmps15
    go_wp2_with fail
    refine HV.out.mono ?_
    rintro e w1 ⟨rfl, hb1⟩
    have HB1 := Lib.hid (HB0.out.trans (hb1.mono HB0.out.size))
    have R1 := Lib.hid (q0.out.later hb1)
    clear hb1
    go_wp2
    go_loopw [5] (fun i wr => ∃ k : Nat, k ≤ xs.length ∧ i = .int .i64 k ∧ (∀ j, j < k → litOk (xs.getD j 0) n = true) ∧ Below w1.heap.size w1 wr) (fun i _ => xs.length - (intOf i).toNat)
    case atStart => exact ⟨0, Nat.zero_le _, rfl, fun j h => absurd h (Nat.not_lt_zero _), Below.refl _ _⟩
    case round =>
      obtain ⟨k, hk, rfl, hno, hb⟩ := hrel
      have HN := Lib.hid hno
      have HB := Lib.hid hb
      have HBA := Lib.hid (HB1.out.trans (hb.mono HB1.out.size))
      have R := Lib.hid (R1.out.later hb)
      have k0 : wr.cell? ⟨w.heap.size, 0, none⟩ = some (.int .i64 n) := R.out.cell 0
      have k1 : wr.cell? ⟨w.heap.size, 1, none⟩ = some (.slice a l.length cap) := R.out.cell 1
      clear hno hb
      by_cases hlt : k < xs.length
      · obtain ⟨b2, off2, rfl, c0⟩ := (HXS.out.keep HBA.out) k hlt
        generalize hxd : xs.getD k 0 = x at *
        have HXD := Lib.hid hxd
        clear hxd
        have hki : (k : Int) < (xs.length : Int) := by omega
        have hk0 : (0 : Int) ≤ (k : Int) := by omega
        have HL := Lib.hid (fun V => rLitValid_any x n V)
        cases hlo : litOk x n with
        | true =>
          rw [hlo] at HL
          have HLO := Lib.hid hlo
          clear hlo
          go_wp2_with fail
          refine wp_region_still_tail 6 (by kernel_rfl) (by kernel_rfl) ?_
          simp only [List.take_succ_cons, List.take_zero, List.drop_succ_cons, List.drop_zero]
          change wpStill _ _ (World.drew _) _ _ _
          repeat still_step
          refine wpStill_nil ?_
          go_wp2_with fail
          refine (HL.out _).mono ?_
          rintro e w' ⟨rfl, rfl⟩
          go_wp2
          go_roundw
          case rel => exact ⟨k + 1, by omega, by go_num, fun j hj => by
            by_cases e : j = k
            · subst e; rw [HXD.out]; exact HLO.out
            · exact HN.out j (by omega), HB.out.drew⟩
          case measure => simp [intOf]; omega
        | false =>
          rw [hlo] at HL
          have HR : Hid (chkR xs ⟨n, l⟩ = 1) := by
            show _ = _; unfold chkR
            rw [if_neg (by rw [HOK.out]; simp), if_pos (all_false (p := fun x => litOk x n) hlt (by show litOk (xs.getD k 0) n = _; rw [HXD.out]; exact hlo))]
          clear hlo
          go_wp2_with fail
          refine wp_region_still_tail 6 (by kernel_rfl) (by kernel_rfl) ?_
          simp only [List.take_succ_cons, List.take_zero, List.drop_succ_cons, List.drop_zero]
          change wpStill _ _ (World.drew _) _ _ _
          repeat still_step
          refine wpStill_nil ?_
          go_wp2_with fail
          refine (HL.out _).mono ?_
          rintro e w' ⟨rfl, rfl⟩
          go_wp2
          go_ret
          exact ⟨ret_int HR.out.symm, HBA.out.drew⟩
      · have : k = xs.length := by omega
        subst this
        have HALL : Hid ((xs.all fun x => litOk x n) = true) := all_true HN.out
        have HD := Lib.hid (decomposable21_any n a cap l wr HOK.out (HX.out.keep HBA.out))
        cases hd : decL l with
        | false =>
          rw [hd] at HD
          have HR : Hid (chkR xs ⟨n, l⟩ = 210) := by
            show _ = _; unfold chkR; rw [if_neg (by rw [HOK.out]; simp), if_neg (by rw [HALL.out]; simp), if_pos hd]
          clear hd
          go_wp2_with fail
          refine HD.out.mono ?_
          rintro e w5 ⟨rfl, hb5⟩
          have HB5 := Lib.hid (HBA.out.trans (hb5.mono HBA.out.size))
          clear hb5
          go_wp2
          go_ret
          exact ⟨ret_int HR.out.symm, HB5.out⟩
        | true =>
          rw [hd] at HD
          have HR : Hid (chkR xs ⟨n, l⟩ = 0) := by
            show _ = _; unfold chkR; rw [if_neg (by rw [HOK.out]; simp), if_neg (by rw [HALL.out]; simp), if_neg (by rw [hd]; simp)]
          clear hd
          go_wp2_with fail
          refine HD.out.mono ?_
          rintro e w5 ⟨rfl, hb5⟩
          have HB5 := Lib.hid (HBA.out.trans (hb5.mono HBA.out.size))
          clear hb5
          go_wp2
          go_ret
          exact ⟨ret_int HR.out.symm, HB5.out⟩
theorem rConsistent_any (N : Nat) (a : Option Addr) (cap : Nat) (l : List Nd) (w : World) (hok : netOk ⟨N, l⟩ = true) (hN : N ≤ 16) (hx : NdCells w a l) :
    Calls Tryz.prog 16 #[.agg #[.int .i64 N, .slice a l.length cap]] w fun e w' => e = .returned (.bool (decide (0 < (modUp N l (2 ^ N)).length))) ∧ Below w.heap.size w w' := by
  have hb0 := (Below.refl w.heap.size w).alloc (Nat.le_refl _) (.cells #[.int .i64 N, .slice a l.length cap] 24)
  have HB0 := Lib.hid hb0
  have HM := Lib.hid (models_any N a cap l _ hok hN (hx.keep hb0))
  generalize modUp N l (2 ^ N) = ms at *
  clear hb0 hok hx
  go_enter Tryz.func16, Tryz.ntmps16
  go_wp2_with fail
  refine HM.out.mono ?_
  rintro e w1 ⟨v, rfl, ho, hb1⟩
  have HB1 := Lib.hid (HB0.out.trans (hb1.mono HB0.out.size))
  obtain ⟨ao, capv, rfl⟩ := ho.sliced
  clear hb1 ho
  go_wp2
  go_ret
  exact ⟨ret_bool (by simp), HB1.out⟩
theorem rValid38_any (N : Nat) (a : Option Addr) (cap : Nat) (l : List Nd) (w : World) (hok : netOk ⟨N, l⟩ = true) (hN : N ≤ 16) (hx : NdCells w a l) :
    Calls Tryz.prog 17 #[.agg #[.int .i64 N, .slice a l.length cap]] w fun e w' => e = .returned (.bool (decide ((modUp N l (2 ^ N)).length = 2 ^ N))) ∧ Below w.heap.size w w' := by
  have hb0 := (Below.refl w.heap.size w).alloc (Nat.le_refl _) (.cells #[.int .i64 N, .slice a l.length cap] 24)
  have HB0 := Lib.hid hb0
  have HM := Lib.hid (fun V h => models_any N a cap l V hok hN h)
  have HX := Lib.hid (hx.keep hb0)
  have q0 := Lib.hid (Blk.new w #[.int .i64 N, .slice a l.length cap] 24)
  have hsh : IntKind.i64.wrap ((2 : Int) ^ N) = ((2 ^ N : Nat) : Int) := by
    have hM : 2 ^ N ≤ 65536 := Nat.pow_le_pow_right (n := 2) (by omega) hN
    rw [show ((2 : Int) ^ N) = ((2 ^ N : Nat) : Int) from by norm_cast]
    generalize 2 ^ N = M at *
    exact IntWalk.i64_in ((M : Nat) : Int) (by omega)
  have HSH := Lib.hid hsh
  generalize modUp N l (2 ^ N) = ms at *
  clear hb0 hok hx hsh
  go_enter Tryz.func17, Tryz.ntmps17
  go_wp2_with fail
  generalize w.alloc (.cells #[.int .i64 N, .slice a l.length cap] 24) = W at *
  have k0 : W.cell? ⟨w.heap.size, 0, none⟩ = some (.int .i64 N) := q0.out.cell 0
  have k1 : W.cell? ⟨w.heap.size, 1, none⟩ = some (.slice a l.length cap) := q0.out.cell 1
  have HZ := Lib.hid HB0.out.size
  have HKS : Hid (∀ w' : World, Below W.heap.size W w' → w'.cell? ⟨w.heap.size, 0, none⟩ = some (.int .i64 N) ∧ w'.cell? ⟨w.heap.size, 1, none⟩ = some (.slice a l.length cap) ∧ Below W.heap.size W w') := Lib.hid fun w' hb => ⟨cell_keep hb k0, cell_keep hb k1, hb⟩
  have hNi : (N : Int) ≤ 16 := by omega
  have hN0 : (0 : Int) ≤ (N : Int) := by omega
  go_region_held3 (fun w' => w'.cell? ⟨w.heap.size, 0, none⟩ = some (.int .i64 N) ∧ w'.cell? ⟨w.heap.size, 1, none⟩ = some (.slice a l.length cap) ∧ Below W.heap.size W w')
    (first | exact HKS.out _ (by with_reducible exact hw1) | exact HKS.out _ (Below.refl _ _).drew | exact HKS.out _ ((fun {p q r : Prop} (h : p ∧ q ∧ r) => h.2.2) (by assumption)))
    (first
      | (go_at_call 51
         refine (HM.out _ (HX.out.keep (Below.refl _ _).drew)).mono ?_
         rintro e w1 ⟨v, rfl, ho, hb1⟩
         obtain ⟨ao, capv, rfl⟩ := ho.sliced
         have hw1 : Below W.heap.size W w1 := Below.trans (Below.refl _ _).drew hb1))
  all_goals
    have HFB := Lib.hid (HB0.out.trans (Below.mono (B := W.heap.size) hw1 HZ.out))
    go_wp2
    go_ret
    exact ⟨ret_bool (by rw [HSH.out, Bool.eq_iff_iff, beq_iff_eq, decide_eq_true_iff]; exact Int.ofNat_inj), HFB.out⟩
end Go.Proofs.YtfdonhfhcomjaaaGreatDoor

/- The walks of the law's own functions: or, one, works, light. -/
namespace Go.Proofs.YtfdonhfhcomjaaaGreatDoor
open Go.RowKit Cen
set_option maxHeartbeats 4000000
set_option maxRecDepth 100000
theorem or_any (w : World) : Calls Tryz.prog 44 #[] w fun e w' => ∃ g, e = .returned (.agg #[.int .i64 2, .slice (some ⟨g, 0, none⟩) 3 3]) ∧ NdCells w' (some ⟨g, 0, none⟩) orN ∧ Below w.heap.size w w' := by
  go_enter Tryz.func44, Tryz.ntmps44
  go_wp2
  have hb : Blk (((w.alloc (.cells #[.int .i64 2, .slice (some ⟨w.heap.size + 1 + 1, 0, none⟩) 3 3] 24)).alloc (.cells #[.int .i64 0, .int .i64 1] 3)).alloc (.cells #[.int .i64 2, .int .i64 1, .slice none 0 0, .int .i64 2, .int .i64 2, .slice none 0 0, .int .i64 4, .int .i64 0, .slice (some ⟨w.heap.size + 1, 0, none⟩) 2 2] 73)) (w.heap.size + 1 + 1) #[.int .i64 2, .int .i64 1, .slice none 0 0, .int .i64 2, .int .i64 2, .slice none 0 0, .int .i64 4, .int .i64 0, .slice (some ⟨w.heap.size + 1, 0, none⟩) 2 2] 73 := Blk.new' _ (by simp only [World.size_alloc]) _ _
  have hi : Blk (((w.alloc (.cells #[.int .i64 2, .slice (some ⟨w.heap.size + 1 + 1, 0, none⟩) 3 3] 24)).alloc (.cells #[.int .i64 0, .int .i64 1] 3)).alloc (.cells #[.int .i64 2, .int .i64 1, .slice none 0 0, .int .i64 2, .int .i64 2, .slice none 0 0, .int .i64 4, .int .i64 0, .slice (some ⟨w.heap.size + 1, 0, none⟩) 2 2] 73)) (w.heap.size + 1) #[.int .i64 0, .int .i64 1] 3 := (Blk.new' _ (by simp only [World.size_alloc]) _ _).alloc _
  refine bodyPost_ret (v := .agg #[.int .i64 2, .slice (some ⟨w.heap.size + 1 + 1, 0, none⟩) 3 3]) (by simp [results, Tryz.results44, go_sem]) rfl ⟨w.heap.size + 1 + 1, rfl, ?_, ((((Below.refl _ _).alloc (Nat.le_refl _) _).alloc (by simp only [World.size_alloc]; omega) _).alloc (by simp only [World.size_alloc]; omega) _)⟩
  intro i hlt
  have h3 : i = 0 ∨ i = 1 ∨ i = 2 := by simp [orN] at hlt; omega
  rcases h3 with rfl | rfl | rfl
  · exact ⟨_, _, rfl, hb.cell 0, hb.cell 1, none, 0, hb.cell 2, IntCells.nil _ _, by simp [orN]⟩
  · exact ⟨_, _, rfl, hb.cell 3, hb.cell 4, none, 0, hb.cell 5, IntCells.nil _ _, by simp [orN]⟩
  · refine ⟨_, _, rfl, hb.cell 6, hb.cell 7, some ⟨w.heap.size + 1, 0, none⟩, 2, hb.cell 8, ?_, by simp [orN]⟩
    intro j hj
    have h2 : j = 0 ∨ j = 1 := by simp [orN] at hj; omega
    rcases h2 with rfl | rfl
    · exact ⟨_, _, rfl, hi.cell 0⟩
    · exact ⟨_, _, rfl, hi.cell 1⟩
theorem one_any (w : World) : Calls Tryz.prog 45 #[] w fun e w' => ∃ g, e = .returned (.agg #[.int .i64 2, .slice (some ⟨g, 0, none⟩) 1 1]) ∧ NdCells w' (some ⟨g, 0, none⟩) oneN ∧ Below w.heap.size w w' := by
  go_enter Tryz.func45, Tryz.ntmps45
  go_wp2
  have hb : Blk ((w.alloc (.cells #[.int .i64 2, .slice (some ⟨w.heap.size + 1, 0, none⟩) 1 1] 24)).alloc (.cells #[.int .i64 2, .int .i64 1, .slice none 0 0] 73)) (w.heap.size + 1) #[.int .i64 2, .int .i64 1, .slice none 0 0] 73 := Blk.new' _ (by simp only [World.size_alloc]) _ _
  refine bodyPost_ret (v := .agg #[.int .i64 2, .slice (some ⟨w.heap.size + 1, 0, none⟩) 1 1]) (by simp [results, Tryz.results45, go_sem]) rfl ⟨w.heap.size + 1, rfl, ?_, (((Below.refl _ _).alloc (Nat.le_refl _) _).alloc (by simp only [World.size_alloc]; omega) _)⟩
  intro i hlt
  have h3 : i = 0 := by simpa [oneN] using hlt
  subst h3
  exact ⟨_, _, rfl, hb.cell 0, hb.cell 1, none, 0, hb.cell 2, IntCells.nil _ _, by simp [oneN]⟩
theorem cheap_cost {n : Int} (hn : n ≤ 20) (a b : List Nd) : costP n n.toNat a b ≤ 1000000000 := by
  have h := costP_le n n.toNat a b
  have h2 : 2 ^ n.toNat ≤ 2 ^ 20 := Nat.pow_le_pow_right (by omega) (by omega)
  omega
theorem eq_two (w : World) : (Op.equalIn 10000 38 (.agg #[.int .u64 2, .int .u64 0]) (.agg #[.int .u64 2, .int .u64 0])).run Tryz.prog w = .ok true w := by kernel_rfl
theorem works_any (w : World) (ht : Tab w) : Calls Tryz.prog 12 #[] w fun e w' => e = .returned (.bool true) ∧ Below w.heap.size w w' := by
  have HT := Lib.hid ht
  clear ht
  have hol : orN.length = 3 := rfl
  have hnl : oneN.length = 1 := rfl
  have HC : Hid (∀ (g : Nat) (V : World), Below w.heap.size w V → NdCells V (some ⟨g, 0, none⟩) orN → Calls Tryz.prog 13 #[.agg #[.int .i64 2, .slice (some ⟨g, 0, none⟩) 3 3]] V fun e w' => e = .returned (.tuple #[.bool true, .int .i64 0]) ∧ Below V.heap.size V w') := Lib.hid fun g V hb hx => by
    have h := consistent_any 2 (some ⟨g, 0, none⟩) 3 orN V hx (by decide) (fun _ => or_small) (HT.out.keep hb)
    rw [cons_or, chk_or] at h; exact h
  have HV : Hid (∀ (g : Nat) (V : World), Below w.heap.size w V → NdCells V (some ⟨g, 0, none⟩) orN → Calls Tryz.prog 14 #[.agg #[.int .i64 2, .slice (some ⟨g, 0, none⟩) 3 3]] V fun e w' => e = .returned (.tuple #[.bool false, .int .i64 0]) ∧ Below V.heap.size V w') := Lib.hid fun g V hb hx => by
    have h := valid_any 2 (some ⟨g, 0, none⟩) 3 orN V hx (by decide) (fun _ => or_small) (fun _ _ => cheap_cost (by decide) _ _) (HT.out.keep hb)
    rw [imp_or, chk_or] at h; exact h
  have HE : Hid (∀ (g c : Nat) (V : World), Below w.heap.size w V → NdCells V (some ⟨g, 0, none⟩) orN → IntCells V (some ⟨c, 0, none⟩) [1, 2] → Calls Tryz.prog 18 #[.agg #[.int .i64 2, .slice (some ⟨g, 0, none⟩) 3 3], .slice (some ⟨c, 0, none⟩) 2 2] V fun e w' => e = .returned (.tuple #[.bool true, .int .i64 0]) ∧ Below V.heap.size V w') := Lib.hid fun g c V hb hx hi => by
    have h := entails_any 2 (some ⟨g, 0, none⟩) 3 orN (some ⟨c, 0, none⟩) 2 [1, 2] V hx (by decide) hi (by decide) (fun _ => or_small) (HT.out.keep hb)
    rw [ent_or, chk_or12] at h; exact h
  have HI : Hid (∀ (g c : Nat) (V : World), Below w.heap.size w V → NdCells V (some ⟨g, 0, none⟩) orN → IntCells V (some ⟨c, 0, none⟩) [2] → Calls Tryz.prog 19 #[.agg #[.int .i64 2, .slice (some ⟨g, 0, none⟩) 3 3], .slice (some ⟨c, 0, none⟩) 1 1] V fun e w' => e = .returned (.tuple #[.bool true, .int .i64 0]) ∧ Below V.heap.size V w') := Lib.hid fun g c V hb hx hi => by
    have h := implies_any 2 (some ⟨g, 0, none⟩) 3 orN (some ⟨c, 0, none⟩) 1 [2] V hx (by decide) hi (by decide) (fun _ => or_small) (fun _ _ => cheap_cost (by decide) _ _) (HT.out.keep hb)
    rw [imp_or2, chk_or2] at h; exact h
  have HCN : Hid (∀ (g c : Nat) (V : World), Below w.heap.size w V → NdCells V (some ⟨g, 0, none⟩) orN → NdCells V (some ⟨c, 0, none⟩) oneN → Calls Tryz.prog 23 #[.agg #[.int .i64 2, .slice (some ⟨g, 0, none⟩) 3 3], .agg #[.int .i64 2, .slice (some ⟨c, 0, none⟩) 1 1]] V fun e w' => e = .returned (.tuple #[.agg #[.int .u64 2, .int .u64 0], .bool true, .int .i64 0]) ∧ Below V.heap.size V w') := Lib.hid fun g c V hb hx hy => by
    have h := counter2_any 2 2 (some ⟨g, 0, none⟩) (some ⟨c, 0, none⟩) 3 1 orN oneN V hx hy (by decide) (by decide) (fun _ => or_small) (fun _ => one_small) (fun _ => cheap_cost (by decide) _ _) (HT.out.keep hb)
    obtain ⟨m, h1, h2⟩ := cnt_or
    rw [h1, h2, chk_oo] at h; exact h
  have HCM : Hid (∀ (g c : Nat) (V : World), Below w.heap.size w V → NdCells V (some ⟨g, 0, none⟩) orN → NdCells V (some ⟨c, 0, none⟩) oneN → Calls Tryz.prog 23 #[.agg #[.int .i64 2, .slice (some ⟨c, 0, none⟩) 1 1], .agg #[.int .i64 2, .slice (some ⟨g, 0, none⟩) 3 3]] V fun e w' => e = .returned (.tuple #[.agg #[.int .u64 0, .int .u64 0], .bool false, .int .i64 0]) ∧ Below V.heap.size V w') := Lib.hid fun g c V hb hx hy => by
    have h := counter2_any 2 2 (some ⟨c, 0, none⟩) (some ⟨g, 0, none⟩) 1 3 oneN orN V hy hx (by decide) (by decide) (fun _ => one_small) (fun _ => or_small) (fun _ => cheap_cost (by decide) _ _) (HT.out.keep hb)
    rw [cnt_one, chk_oo'] at h; exact h
  clear hol hnl
  go_enter Tryz.func12, Tryz.ntmps12
  go_wp2_with fail
  refine (or_any _).mono ?_
  rintro e w1 ⟨g1, rfl, hx1, hb1⟩
  have B1 := Lib.hid hb1
  have X1 := Lib.hid hx1
  clear hb1 hx1
  go_wp2_with fail
  refine (HC.out g1 w1 B1.out X1.out).mono ?_
  rintro e w2 ⟨rfl, hb2⟩
  have B2 := Lib.hid (B1.out.trans (hb2.mono B1.out.size))
  clear hb2
  go_wp2_with fail
  refine (or_any _).mono ?_
  rintro e w3 ⟨g3, rfl, hx3, hb3⟩
  have B3 := Lib.hid (B2.out.trans (hb3.mono B2.out.size))
  have X3 := Lib.hid hx3
  clear hb3 hx3
  go_wp2_with fail
  refine (HV.out g3 w3 B3.out X3.out).mono ?_
  rintro e w4 ⟨rfl, hb4⟩
  have B4 := Lib.hid (B3.out.trans (hb4.mono B3.out.size))
  clear hb4
  go_wp2_with fail
  refine (or_any _).mono ?_
  rintro e w5 ⟨g5, rfl, hx5, hb5⟩
  have B5 := Lib.hid ((B4.out.trans (hb5.mono B4.out.size)).alloc (Nat.le_trans B4.out.size hb5.size) (.cells #[.int .i64 1, .int .i64 2] 3))
  have X5 := Lib.hid (hx5.keep ((Below.refl w5.heap.size w5).alloc (Nat.le_refl _) (.cells #[.int .i64 1, .int .i64 2] 3)))
  have I5 : Hid (IntCells (w5.alloc (.cells #[.int .i64 1, .int .i64 2] 3)) (some ⟨w5.heap.size, 0, none⟩) [1, 2]) := by
    have hk := Blk.new w5 #[.int .i64 1, .int .i64 2] 3
    intro j hj
    have h2 : j = 0 ∨ j = 1 := by simp at hj; omega
    rcases h2 with rfl | rfl
    · exact ⟨_, _, rfl, hk.cell 0⟩
    · exact ⟨_, _, rfl, hk.cell 1⟩
  clear hb5 hx5
  go_wp2_with fail
  refine (HE.out g5 w5.heap.size _ B5.out X5.out I5.out).mono ?_
  rintro e w6 ⟨rfl, hb6⟩
  have B6 := Lib.hid (B5.out.trans (hb6.mono B5.out.size))
  clear hb6
  go_wp2_with fail
  refine (or_any _).mono ?_
  rintro e w7 ⟨g7, rfl, hx7, hb7⟩
  have B7 := Lib.hid ((B6.out.trans (hb7.mono B6.out.size)).alloc (Nat.le_trans B6.out.size hb7.size) (.cells #[.int .i64 2] 3))
  have X7 := Lib.hid (hx7.keep ((Below.refl w7.heap.size w7).alloc (Nat.le_refl _) (.cells #[.int .i64 2] 3)))
  have I7 : Hid (IntCells (w7.alloc (.cells #[.int .i64 2] 3)) (some ⟨w7.heap.size, 0, none⟩) [2]) := by
    have hk := Blk.new w7 #[.int .i64 2] 3
    intro j hj
    have h2 : j = 0 := by simpa using hj
    subst h2
    exact ⟨_, _, rfl, hk.cell 0⟩
  clear hb7 hx7
  go_wp2_with fail
  refine (HI.out g7 w7.heap.size _ B7.out X7.out I7.out).mono ?_
  rintro e w8 ⟨rfl, hb8⟩
  have B8 := Lib.hid (B7.out.trans (hb8.mono B7.out.size))
  clear hb8
  go_wp2_with fail
  refine (or_any _).mono ?_
  rintro e w9 ⟨g9, rfl, hx9, hb9⟩
  have B9 := Lib.hid (B8.out.trans (hb9.mono B8.out.size))
  have X9 := Lib.hid hx9
  clear hb9 hx9
  go_wp2_with fail
  refine (one_any _).mono ?_
  rintro e w10 ⟨g10, rfl, hx10, hb10⟩
  have B10 := Lib.hid (B9.out.trans (hb10.mono B9.out.size))
  have X10 := Lib.hid hx10
  have X9' := Lib.hid (X9.out.keep hb10)
  clear hb10 hx10
  go_wp2_with fail
  refine (HCN.out g9 g10 w10 B10.out X9'.out X10.out).mono ?_
  rintro e w11 ⟨rfl, hb11⟩
  have B11 := Lib.hid ((B10.out.trans (hb11.mono B10.out.size)).alloc (Nat.le_trans B10.out.size hb11.size) (.cells #[.int .u64 2, .int .u64 0] 38))
  have K11 := Lib.hid (Blk.new w11 #[.int .u64 2, .int .u64 0] 38)
  clear hb11
  go_wp2_with fail
  refine (one_any _).mono ?_
  rintro e w12 ⟨g12, rfl, hx12, hb12⟩
  have B12 := Lib.hid (B11.out.trans (hb12.mono B11.out.size))
  have K12 := Lib.hid (K11.out.later hb12)
  have X12 := Lib.hid hx12
  clear hb12 hx12
  go_wp2_with fail
  refine (or_any _).mono ?_
  rintro e w13 ⟨g13, rfl, hx13, hb13⟩
  have B13 := Lib.hid (B12.out.trans (hb13.mono B12.out.size))
  have K13 := Lib.hid (K12.out.later hb13)
  have X13 := Lib.hid hx13
  have X12' := Lib.hid (X12.out.keep hb13)
  clear hb13 hx13
  go_wp2_with fail
  refine (HCM.out g13 g12 w13 B13.out X13.out X12'.out).mono ?_
  rintro e w14 ⟨rfl, hb14⟩
  have B14 := Lib.hid ((B13.out.trans (hb14.mono B13.out.size)).alloc (Nat.le_trans B13.out.size hb14.size) (.cells #[.int .u64 0, .int .u64 0] 38))
  have K14 := K13.out.later hb14
  have hz : w11.heap.size < w14.heap.size := K14.lt
  have j0 : w14.cell? ⟨w11.heap.size, 0, none⟩ = some (.int .u64 2) := K14.cell 0
  have j1 : w14.cell? ⟨w11.heap.size, 1, none⟩ = some (.int .u64 0) := K14.cell 1
  have heq := eq_two
  clear hb14 K14
  go_wp2
  go_ret
  exact ⟨rfl, B14.out⟩
end Go.Proofs.YtfdonhfhcomjaaaGreatDoor
