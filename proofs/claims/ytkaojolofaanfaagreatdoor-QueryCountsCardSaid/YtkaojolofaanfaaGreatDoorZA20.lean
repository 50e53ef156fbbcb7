/- Part of the proofs that laws of censuslaw38 return true for every input, where the tables that the rows list are laid. Texts: R20, BoolL, R20T, R20N. -/
import Derived.Test.YtkaojolofaanfaaGreatDoorZA19
import Derived.StillTailTactics
import Derived.Test.YtkaojolofaanfaaGreatDoorZA3
import Derived.Test.YtkaojolofaanfaaGreatDoorZA6
import Derived.Test.YtkaojolofaanfaaGreatDoorZA14
import Derived.Deep.DeepCutAuto

/- The walks of censusref20's Formed and Valid. -/
namespace Go.Proofs.YtkaojolofaanfaaGreatDoor
open Go.RowKit Cen
set_option maxHeartbeats 2000000
set_option maxRecDepth 100000

theorem insOk_of {ins : List Int} {b : Int} (h : ∀ j, j < ins.length → 0 ≤ ins.getD j 0 ∧ ins.getD j 0 < b) : insOk ins b = true := by
  rw [insOk_iff]
  intro i hi
  obtain ⟨j, hj, rfl⟩ := List.getElem_of_mem hi
  have := h j hj
  simpa [List.getD_eq_getElem?_getD, hj] using this
theorem insOk_not {ins : List Int} {b : Int} {j : Nat} (hj : j < ins.length) (h : ins.getD j 0 < 0 ∨ b ≤ ins.getD j 0) : insOk ins b = false := by
  rw [Bool.eq_false_iff]; intro hc
  rw [insOk_iff] at hc
  have := hc ins[j] (List.getElem_mem hj)
  have e : ins.getD j 0 = ins[j] := by simp [List.getD_eq_getElem?_getD, hj]
  omega
theorem rFormed_any (kind lit n before : Int) (a : Option Addr) (cap : Nat) (ins : List Int) (w : World) (hl : ins.length ≤ 1073741824) (hx : IntCells w a ins) :
    Calls Tryz.prog 79 #[.agg #[.int .i64 kind, .int .i64 lit, .slice a ins.length cap], .int .i64 n, .int .i64 before] w
      fun e w' => e = .returned (.bool (ndOk ⟨kind, lit, ins⟩ n before)) ∧ Below w.heap.size w w' := by
  have HB : Hid (Below w.heap.size w (w.alloc (.cells #[.int .i64 kind, .int .i64 lit, .slice a ins.length cap] 67))) := (Below.refl _ _).alloc (Nat.le_refl _) _
  have HX := Lib.hid (hx.keep HB.out)
  have HE : Hid (((ins.length : Int) == 0) = decide (ins = [])) := by show _ = _; rw [Bool.eq_iff_iff]; simp
  clear hx
  go_enter Tryz.func79, Tryz.ntmps79
  go_wp2
  go_loop [7] (fun i => ∃ k : Nat, k ≤ ins.length ∧ i = .int .i64 k ∧ ∀ j, j < k → 0 ≤ ins.getD j 0 ∧ ins.getD j 0 < before) (fun i => ins.length - (intOf i).toNat)
  case atStart => exact ⟨0, Nat.zero_le _, rfl, fun j h => absurd h (Nat.not_lt_zero _)⟩
  case round =>
    obtain ⟨k, hk, rfl, hno⟩ := hrel
    have HN := Lib.hid hno
    clear hno
    by_cases hlt : k < ins.length
    · obtain ⟨b, off, rfl, hc⟩ := HX.out k hlt
      generalize hxe : ins.getD k 0 = x at hc
      have HXE := Lib.hid hxe
      clear hxe
      have hbz := cell_block hc
      by_cases c1 : x < 0
      · have d1 : decide (x < 0) = true := by simpa using c1
        have HR : Hid (ndOk ⟨kind, lit, ins⟩ n before = false) := by show _ = _; unfold ndOk; rw [insOk_not hlt (.inl (by rw [HXE.out]; exact c1))]; rfl
        clear c1
        go_wp2
        go_ret
        exact ⟨ret_bool HR.out.symm, HB.out⟩
      · have d1 : decide (x < 0) = false := by simpa using c1
        by_cases c2 : before ≤ x
        · have d2 : decide (before ≤ x) = true := by simpa using c2
          have HR : Hid (ndOk ⟨kind, lit, ins⟩ n before = false) := by show _ = _; unfold ndOk; rw [insOk_not hlt (.inr (by rw [HXE.out]; exact c2))]; rfl
          clear c1 c2
          go_wp2
          go_ret
          exact ⟨ret_bool HR.out.symm, HB.out⟩
        · have d2 : decide (before ≤ x) = false := by simpa using c2
          have HC : Hid (0 ≤ x ∧ x < before) := ⟨by omega, by omega⟩
          clear c1 c2
          go_wp2
          go_round
          case rel => exact ⟨k + 1, by omega, by go_num, fun j hj => by
            by_cases e : j = k
            · subst e; rw [HXE.out]; exact HC.out
            · exact HN.out j (by omega)⟩
          case measure => simp [intOf]; omega
    · have : k = ins.length := by omega
      subst this
      have HR : Hid (ndOk ⟨kind, lit, ins⟩ n before = formOk ⟨kind, lit, ins⟩ n) := by show _ = _; unfold ndOk; rw [insOk_of HN.out]; rfl
      by_cases k0 : kind = 0 ∨ kind = 1 ∨ kind = 3 ∨ kind = 4
      · by_cases l0 : lit = 0
        · subst l0
          rcases k0 with rfl | rfl | rfl | rfl
          all_goals
            go_wp2
            go_ret
            exact ⟨ret_bool (by rw [HR.out]; simp [formOk]; try exact HE.out), HB.out⟩
        · have hl0 : (lit == 0) = false := by simpa using l0
          have HL0 := Lib.hid l0
          rcases k0 with rfl | rfl | rfl | rfl
          all_goals
            clear l0
            go_wp2
            go_ret
            exact ⟨ret_bool (by rw [HR.out]; simp [formOk, HL0.out]), HB.out⟩
      · have e0 : (kind == 0) = false := by simp; omega
        have e1 : (kind == 1) = false := by simp; omega
        by_cases k2 : kind = 2
        · subst k2
          cases hv : litOk lit n
          all_goals
            have H3 := Lib.hid (fun W => (rLitValid_any lit n W).mono (R' := fun E w' => E = .returned (.bool _) ∧ W = w') (fun E w' ⟨h1, h2⟩ => ⟨by rw [h1, hv], h2⟩))
            have HV := Lib.hid hv
            clear hv k0
            go_wp2_with (go_at_call 53; refine (H3.out _).mono ?_; rintro e w' ⟨rfl, rfl⟩)
            go_ret
            exact ⟨ret_bool (by rw [HR.out]; simp [formOk, HV.out]; try exact HE.out), HB.out⟩
        · have e2 : (kind == 2) = false := by simpa using k2
          have e3 : (kind == 3) = false := by simp; omega
          have e4 : (kind == 4) = false := by simp; omega
          have HF : Hid (formOk ⟨kind, lit, ins⟩ n = false) := by
            show _ = _; unfold formOk; simp only; rw [if_neg (by omega), if_neg (by omega), if_neg (by omega)]
          clear k0 k2
          go_wp2
          go_ret
          exact ⟨ret_bool (by rw [HR.out, HF.out]), HB.out⟩
/-- Whether a net is valid. -/
theorem netOk_iff (t : Nt) : netOk t = true ↔ (0 ≤ t.n ∧ t.n ≤ 128 ∧ 1 ≤ t.l.length ∧ t.l.length ≤ 65536) ∧ ∀ j, j < t.l.length → ndOk (t.l.getD j default) t.n j = true := by
  simp only [netOk, headOk, Bool.and_eq_true, decide_eq_true_eq]
  exact ⟨fun h => ⟨by omega, h.2⟩, fun h => ⟨by omega, h.2⟩⟩
theorem rValid_any (n : Int) (a : Option Addr) (cap : Nat) (l : List Nd) (w : World) (hl : l.length ≤ 1073741824) (hx : NdCells w a l) :
    Calls Tryz.prog 28 #[.agg #[.int .i64 n, .slice a l.length cap]] w fun e w' => e = .returned (.bool (netOk ⟨n, l⟩)) ∧ Below w.heap.size w w' := by
  have HB := Lib.hid ((Below.refl w.heap.size w).alloc (Nat.le_refl _) (.cells #[.int .i64 n, .slice a l.length cap] 24))
  have HBK := Lib.hid (Blk.new w #[.int .i64 n, .slice a l.length cap] 24)
  have HX := Lib.hid (hx.keep HB.out)
  clear hx
  by_cases c1 : n < 0
  · have HR : Hid (netOk ⟨n, l⟩ = false) := by show _ = _; rw [Bool.eq_false_iff]; intro h; have := netOk_head h; simp only at this; omega
    have d1 : decide (n < 0) = true := by simpa using c1
    clear c1
    go_enter Tryz.func28, Tryz.ntmps28
    go_wp2
    go_ret
    exact ⟨ret_bool HR.out.symm, HB.out⟩
  · have d1 : decide (n < 0) = false := by simpa using c1
    by_cases c2 : 128 < n
    · have HR : Hid (netOk ⟨n, l⟩ = false) := by show _ = _; rw [Bool.eq_false_iff]; intro h; have := netOk_head h; simp only at this; omega
      have d2 : decide (128 < n) = true := by simpa using c2
      clear c1 c2
      go_enter Tryz.func28, Tryz.ntmps28
      go_wp2
      go_ret
      exact ⟨ret_bool HR.out.symm, HB.out⟩
    · have d2 : decide (128 < n) = false := by simpa using c2
      by_cases c3 : l.length < 1
      · have HR : Hid (netOk ⟨n, l⟩ = false) := by show _ = _; rw [Bool.eq_false_iff]; intro h; have := netOk_head h; simp only at this; omega
        have d3 : decide ((l.length : Int) < 1) = true := by simp; omega
        clear c1 c2 c3
        go_enter Tryz.func28, Tryz.ntmps28
        go_wp2
        go_ret
        exact ⟨ret_bool HR.out.symm, HB.out⟩
      · have d3 : decide ((l.length : Int) < 1) = false := by simp; omega
        by_cases c4 : 65536 < l.length
        · have HR : Hid (netOk ⟨n, l⟩ = false) := by show _ = _; rw [Bool.eq_false_iff]; intro h; have := netOk_head h; simp only at this; omega
          have d4 : decide ((65536 : Int) < (l.length : Int)) = true := by simp; omega
          clear c1 c2 c3 c4
          go_enter Tryz.func28, Tryz.ntmps28
          go_wp2
          go_ret
          exact ⟨ret_bool HR.out.symm, HB.out⟩
        · have d4 : decide ((65536 : Int) < (l.length : Int)) = false := by simp; omega
          have HH : Hid (0 ≤ n ∧ n ≤ 128 ∧ 1 ≤ l.length ∧ l.length ≤ 65536) := ⟨by omega, by omega, by omega, by omega⟩
          clear c1 c2 c3 c4
          go_enter Tryz.func28, Tryz.ntmps28
          go_wp2
          clear d1 d2 d3 d4
          generalize hW : w.alloc (.cells #[.int .i64 n, .slice a l.length cap] 24) = W at *
          have HZ := Lib.hid HB.out.size
          clear hW
          go_loopw [3] (fun i wr => ∃ k : Nat, k ≤ l.length ∧ i = .int .i64 k ∧ (∀ j, j < k → ndOk (l.getD j default) n j = true) ∧ Below W.heap.size W wr) (fun i _ => l.length - (intOf i).toNat)
          case atStart => exact ⟨0, Nat.zero_le _, rfl, fun j h => absurd h (Nat.not_lt_zero _), Below.refl _ _⟩
          case round =>
            obtain ⟨k, hk, rfl, hno, hb⟩ := hrel
            have HN := Lib.hid hno
            have HBR := Lib.hid hb
            have HBW := Lib.hid (HB.out.trans (hb.mono HZ.out))
            have HKR := Lib.hid (HBK.out.later hb)
            clear hno hb
            have k0 : wr.cell? ⟨w.heap.size, 0, none⟩ = some (.int .i64 n) := HKR.out.cell 0
            have k1 : wr.cell? ⟨w.heap.size, 1, none⟩ = some (.slice a l.length cap) := HKR.out.cell 1
            by_cases hlt : k < l.length
            · obtain ⟨b, off, rfl, c0, c1, av, cv, c2, hin, hil⟩ := (HX.out.keep HBR.out) k hlt
              have HF := Lib.hid (rFormed_any (l.getD k default).kind (l.getD k default).lit n k av cv (l.getD k default).ins wr.drew hil hin)
              have HND : Hid ((⟨(l.getD k default).kind, (l.getD k default).lit, (l.getD k default).ins⟩ : Nd) = l.getD k default) := rfl
              generalize hxd : l.getD k default = x at *
              have HXD := Lib.hid hxd
              clear hxd
              rw [HND.out] at HF
              have hki : (k : Int) < (l.length : Int) := by omega
              clear hin
              cases hok : ndOk x n k
              all_goals
                rw [hok] at HF
                have HOK := Lib.hid hok
                clear hok
              all_goals
                go_wp2_with fail
                refine wp_region_still_tail 8 (by kernel_rfl) (by kernel_rfl) ?_
                simp only [List.take_succ_cons, List.take_zero, List.drop_succ_cons, List.drop_zero]
                change wpStill _ _ (World.drew _) _ _ _
                repeat still_step
                refine wpStill_nil ?_
                go_wp2_with fail
                refine HF.out.mono ?_
                rintro e w1 ⟨rfl, hb1⟩
                have HB1 : Hid (Below W.heap.size W w1) := HBR.out.trans ((Below.drew (Below.refl _ _)).trans (Below.mono hb1 (by have := HBR.out.size; simpa using this)))
                clear hb1
                go_wp2
              · have HR : Hid (netOk ⟨n, l⟩ = false) := by
                  show _ = _; rw [Bool.eq_false_iff]; intro h
                  have := ((netOk_iff _).1 h).2 k hlt
                  simp only at this
                  rw [HXD.out, HOK.out] at this; simp at this
                go_ret
                exact ⟨ret_bool HR.out.symm, HB.out.trans (HB1.out.mono HZ.out)⟩
              · go_roundw
                case rel => exact ⟨k + 1, by omega, by go_num, fun j hj => by
                  by_cases e : j = k
                  · subst e; rw [HXD.out]; exact HOK.out
                  · exact HN.out j (by omega), HB1.out⟩
                case measure => simp [intOf]; omega
            · have : k = l.length := by omega
              subst this
              have HR : Hid (netOk ⟨n, l⟩ = true) := by show _ = _; rw [netOk_iff]; exact ⟨HH.out, HN.out⟩
              go_wp2
              go_ret
              exact ⟨ret_bool HR.out.symm, HBW.out⟩
end Go.Proofs.YtkaojolofaanfaaGreatDoor

/- Slices of bools. -/
namespace Go.Proofs.YtkaojolofaanfaaGreatDoor
open Go.RowKit Cen
def bc (b : Bool) : List Value := [.bool b]
theorem bc_len (b : Bool) : (bc b).length = 1 := rfl
theorem elemBool : Elem 89 4 1 1 (.bool false) := .mk Tryz.underlying89 (by kernel_rfl) rfl (by decide)
end Go.Proofs.YtkaojolofaanfaaGreatDoor

/- The walks of censusref20's Truth and Eval. -/
namespace Go.Proofs.YtkaojolofaanfaaGreatDoor
open Go.RowKit Cen
set_option maxHeartbeats 2000000
set_option maxRecDepth 100000
/-- The truth of a node of which m inputs have been looked at. -/
def acc (s f : Int → Bool) (x : Nd) (m : Nat) : Bool := evNd s f ⟨x.kind, x.lit, x.ins.take m⟩
theorem acc_and {s f : Int → Bool} {x : Nd} {m : Nat} (hm : m < x.ins.length) (h : x.kind = 3) : acc s f x (m + 1) = (acc s f x m && f x.ins[m]) := by
  unfold acc evNd; simp only; rw [if_neg (by omega), if_neg (by omega), if_pos h, if_neg (by omega), if_neg (by omega), if_pos h, List.take_succ_eq_append_getElem hm, List.all_append]; simp
theorem acc_or {s f : Int → Bool} {x : Nd} {m : Nat} (hm : m < x.ins.length) (h : x.kind = 4) : acc s f x (m + 1) = (acc s f x m || f x.ins[m]) := by
  unfold acc evNd; simp only
  rw [if_neg (by omega), if_neg (by omega), if_neg (by omega), if_pos h, if_neg (by omega), if_neg (by omega), if_neg (by omega), if_pos h, List.take_succ_eq_append_getElem hm, List.any_append]; simp
theorem acc_end (s f : Int → Bool) (x : Nd) : acc s f x x.ins.length = evNd s f x := by unfold acc; rw [List.take_length]
theorem acc_zero {s f : Int → Bool} {x : Nd} : acc s f x 0 = if x.kind = 1 then true else if x.kind = 2 then holds s x.lit else decide (x.kind = 3) := by
  unfold acc evNd; simp only [List.take_zero]
  by_cases h1 : x.kind = 1
  · simp [h1]
  · by_cases h2 : x.kind = 2
    · simp [h2]
    · by_cases h3 : x.kind = 3
      · simp [h3]
      · simp [h1, h2, h3]
theorem ins_kind {x : Nd} {n b : Int} (h : ndOk x n b = true) (hi : x.ins ≠ []) : x.kind = 3 ∨ x.kind = 4 := by
  have hk := formOk_kind h
  simp only [ndOk, Bool.and_eq_true] at h
  have h2 := h.2
  unfold formOk at h2
  by_cases h0 : x.kind = 0 ∨ x.kind = 1
  · rw [if_pos h0] at h2; simp at h2; exact absurd h2.2 hi
  · rw [if_neg h0] at h2
    by_cases h3 : x.kind = 2
    · rw [if_pos h3] at h2; simp at h2; exact absurd h2.2 hi
    · omega
theorem rTruth_any (n : Int) (a : Option Addr) (cap : Nat) (l : List Nd) (s : St) (w : World) (hok : netOk ⟨n, l⟩ = true) (hx : NdCells w a l) (hs : s.ok) :
    Calls Tryz.prog 81 #[.agg #[.int .i64 n, .slice a l.length cap], stv s] w fun e w' => ∃ g cap', e = .returned (.slice (some ⟨g, 0, none⟩) l.length cap') ∧ OwnL bc 4 1 w' w.heap.size (.slice (some ⟨g, 0, none⟩) l.length cap') (truth s.mem l) ∧ Below w.heap.size w w' := by
  have hb0 : Below w.heap.size w ((w.alloc (.cells #[.int .i64 n, .slice a l.length cap] 24)).alloc (.cells #[.int .u64 (s.a : Int), .int .u64 (s.b : Int)] 54)) := ((Below.refl _ _).alloc (Nat.le_refl _) _).alloc (by simp) _
  have HB0 := Lib.hid hb0
  have HX := Lib.hid hx
  have q0 := Lib.hid ((Blk.new w #[.int .i64 n, .slice a l.length cap] 24).alloc (.cells #[.int .u64 (s.a : Int), .int .u64 (s.b : Int)] 54))
  have q1 := Lib.hid (Blk.new' (w.alloc (.cells #[.int .i64 n, .slice a l.length cap] 24)) (World.size_alloc _ _) #[.int .u64 (s.a : Int), .int .u64 (s.b : Int)] 54)
  have HK := Lib.hid hok
  have HS := Lib.hid hs
  obtain ⟨_, _, hl1, hl2⟩ := netOk_head hok
  simp only at hl1 hl2
  have HL1 := Lib.hid hl1
  have HZ0 : Hid (((w.alloc (.cells #[.int .i64 n, .slice a l.length cap] 24)).alloc (.cells #[.int .u64 (s.a : Int), .int .u64 (s.b : Int)] 54)).heap.size = w.heap.size + 2) := by show _ = _; simp
  clear hb0 hx hok hs hl1
  go_enter Tryz.func81, Tryz.ntmps81
  go_wp2
  generalize (w.alloc (.cells #[.int .i64 n, .slice a l.length cap] 24)).alloc (.cells #[.int .u64 (s.a : Int), .int .u64 (s.b : Int)] 54) = W at *
  go_loopw [5, 6] (fun v i wr => ∃ k : Nat, k ≤ l.length ∧ i = .int .i64 k ∧ OwnL bc 4 1 wr (w.heap.size + 2) v (truth s.mem (l.take k)) ∧ Below (w.heap.size + 2) W wr) (fun _ i _ => l.length - (intOf i).toNat)
  case atStart => exact ⟨0, Nat.zero_le _, rfl, OwnL.nil _ _, Below.refl _ _⟩
  case round =>
    obtain ⟨k, hk, rfl, hown, hb⟩ := hrel
    obtain ⟨ao, capv, rfl⟩ := hown.sliced
    have HO := Lib.hid hown
    have HBW := Lib.hid hb
    have HBA := Lib.hid (HB0.out.trans (hb.mono (by omega)))
    have Q0 := Lib.hid (q0.out.laterB hb (by omega))
    have Q1 := Lib.hid (q1.out.laterB hb (by omega))
    have k0 : wr.cell? ⟨w.heap.size, 0, none⟩ = some (.int .i64 n) := Q0.out.cell 0
    have k1 : wr.cell? ⟨w.heap.size, 1, none⟩ = some (.slice a l.length cap) := Q0.out.cell 1
    have hzw : w.heap.size + 1 < wr.heap.size := Q1.out.lt
    have htl : (truth s.mem (l.take k)).length = k := by rw [truth_length, List.length_take]; omega
    clear hown hb
    by_cases hlt : k < l.length
    · obtain ⟨b, off, rfl, c0', c1', av, cv, c2', hin, hil⟩ := HX.out k hlt
      have hgd : l.getD k default = l[k] := by simp [List.getD_eq_getElem?_getD, hlt]
      rw [hgd] at c0' c1' c2' hin hil
      have hbw : b < w.heap.size := cell_block c0'
      have c0 := HBA.out.cell (p := ⟨b, off + k * 3, none⟩) hbw
      have c1 := HBA.out.cell (p := ⟨b, off + k * 3 + 1, none⟩) hbw
      have c2 := HBA.out.cell (p := ⟨b, off + k * 3 + 2, none⟩) hbw
      rw [c0'] at c0
      rw [c1'] at c1
      rw [c2'] at c2
      have HNK := Lib.hid (netOk_nd HK.out hlt)
      have HTS : Hid (truth s.mem (l.take (k + 1)) = truth s.mem (l.take k) ++ [evNd s.mem (at' (truth s.mem (l.take k))) l[k]]) := by
        show _ = _; rw [List.take_succ_eq_append_getElem hlt, truth_snoc]
      simp only at HNK
      generalize l[k] = x at *
      generalize truth s.mem (l.take k) = vs at *
      have HTL := Lib.hid htl
      have HIN := Lib.hid hin
      have hbz : b < wr.heap.size := cell_block c0
      have HA0 := Lib.hid (acc_zero (s := s.mem) (f := at' vs) (x := x))
      have HAE := Lib.hid (acc_end s.mem (at' vs) x)
      have HBLK := Lib.hid (Blk.new wr #[.int .i64 x.kind, .int .i64 x.lit, .slice av x.ins.length cv] 67)
      clear hin hgd htl c0' c1' c2'
      rcases x with ⟨kd, lt, ins⟩
      simp only at *
      go_upto_region 6 with fail
      go_cut [8] (fun c wx => c = .bool (acc s.mem (at' vs) ⟨kd, lt, ins⟩ 0) ∧ Below wr.heap.size wr wx ∧ Blk wx wr.heap.size #[.int .i64 kd, .int .i64 lt, .slice av ins.length cv] 67)
      case first =>
        have hk5 := formOk_kind HNK.out
        simp only at hk5
        have s0 : (wr.alloc (.cells #[.int .i64 kd, .int .i64 lt, .slice av ins.length cv] 67)).cell? ⟨w.heap.size + 1, 0, none⟩ = some (.int .u64 (s.a : Int)) := (Q1.out.alloc _).cell 0
        have s1 : (wr.alloc (.cells #[.int .i64 kd, .int .i64 lt, .slice av ins.length cv] 67)).cell? ⟨w.heap.size + 1, 1, none⟩ = some (.int .u64 (s.b : Int)) := (Q1.out.alloc _).cell 1
        have HB6 := Lib.hid ((Below.refl wr.heap.size wr).alloc (Nat.le_refl _) (.cells #[.int .i64 kd, .int .i64 lt, .slice av ins.length cv] 67))
        rcases hk5 with rfl | rfl | rfl | rfl | rfl
        · go_wp2_with fail
          go_meet
          exact ⟨by rw [HA0.out]; rfl, HB6.out, HBLK.out⟩
        · go_wp2_with fail
          go_meet
          exact ⟨by rw [HA0.out]; rfl, HB6.out, HBLK.out⟩
        · have HH := Lib.hid (fun V => rHolds_any s lt V HS.out)
          go_wp2_with fail
          refine (HH.out _).mono ?_
          rintro e w5 ⟨rfl, hb5⟩
          have HB7 := Lib.hid (HB6.out.trans (hb5.mono HB6.out.size))
          have HK7 := Lib.hid (HBLK.out.later hb5)
          clear hb5
          go_wp2_with fail
          go_meet
          exact ⟨by rw [HA0.out]; rfl, HB7.out, HK7.out⟩
        · go_wp2_with fail
          go_meet
          exact ⟨by rw [HA0.out]; rfl, HB6.out, HBLK.out⟩
        · go_wp2_with fail
          go_meet
          exact ⟨by rw [HA0.out]; rfl, HB6.out, HBLK.out⟩
      case rest =>
        obtain ⟨rfl, hbc, hkc⟩ := hcut
        obtain ⟨wx, rfl⟩ : ∃ wx : World, wx = wc := ⟨_, rfl⟩
        have HBX := Lib.hid hbc
        have HBXA := Lib.hid (HBA.out.trans (hbc.mono HBA.out.size))
        have HBXW := Lib.hid (HBW.out.trans (hbc.mono (by have := Q1.out.lt; omega)))
        have HOX := Lib.hid (HO.out.later hbc)
        have d0 : wx.cell? ⟨wr.heap.size, 0, none⟩ = some (.int .i64 kd) := hkc.cell 0
        have d2 : wx.cell? ⟨wr.heap.size, 2, none⟩ = some (.slice av ins.length cv) := hkc.cell 2
        have HZX := Lib.hid HBX.out.size
        clear hbc hkc k0 k1 c0 c1 c2
        go_wp2_with fail
        go_loop [8, 9] (fun c i => ∃ m : Nat, m ≤ ins.length ∧ i = .int .i64 m ∧ c = .bool (acc s.mem (at' vs) ⟨kd, lt, ins⟩ m)) (fun _ i => ins.length - (intOf i).toNat)
        case atStart => exact ⟨0, Nat.zero_le _, rfl, rfl⟩
        case round =>
          obtain ⟨m, hm, rfl, rfl⟩ := hrel
          by_cases hlm : m < ins.length
          · obtain ⟨b2, off2, rfl, e0'⟩ := HIN.out m hlm
            have hgd : ins.getD m 0 = ins[m] := by simp [List.getD_eq_getElem?_getD, hlm]
            have hq := ndOk_ins HNK.out ins[m] (List.getElem_mem hlm)
            have hkk := ins_kind HNK.out (show ins ≠ [] from fun e => by rw [e] at hlm; simp at hlm)
            have hand := fun h => acc_and (s := s.mem) (f := at' vs) (x := ⟨kd, lt, ins⟩) (m := m) hlm h
            have hor := fun h => acc_or (s := s.mem) (f := at' vs) (x := ⟨kd, lt, ins⟩) (m := m) hlm h
            simp only at hkk hand hor
            rw [hgd] at e0'
            generalize ins[m] = y at *
            have hb2w : b2 < w.heap.size := cell_block e0'
            have e0 := HBXA.out.cell (p := ⟨b2, off2 + m, none⟩) hb2w
            rw [e0'] at e0
            obtain ⟨q, rfl⟩ := Int.eq_ofNat_of_zero_le hq.1
            have hqk : q < vs.length := by have := HTL.out; omega
            have hyv : at' vs (q : Int) = vs[q] := by unfold at'; simp [List.getD_eq_getElem?_getD, hqk]
            rw [hyv] at hand hor
            obtain ⟨g, rfl⟩ : ∃ g, ao = some ⟨g, 0, none⟩ := by
              rcases HOX.out.shape with ⟨_, h⟩ | ⟨g, cap'', h, _⟩
              · rw [h] at hqk; simp at hqk
              · simp only [Value.slice.injEq] at h; exact ⟨g, h.1⟩
            have f0 : wx.cell? ⟨g, q, none⟩ = some (.bool vs[q]) := by have := HOX.out.cell rfl bc_len q 0 hqk (by omega); simpa [bc] using this
            have hqi : (q : Int) < (vs.length : Int) := by have := hq.2; omega
            have HAND := Lib.hid hand
            have HOR := Lib.hid hor
            generalize vs[q] = d at *
            generalize hcm : acc s.mem (at' vs) ⟨kd, lt, ins⟩ m = c at *
            have HCM := Lib.hid hcm
            clear hand hor hyv hgd e0' hq hcm
            rcases hkk with rfl | rfl
            all_goals
              cases c
              all_goals
                go_wp2_with fail
                go_round
                case rel => exact ⟨m + 1, by omega, by go_num, by first | (rw [HAND.out rfl]; try rfl) | (rw [HOR.out rfl]; try rfl)⟩
                case measure => simp [intOf]; omega
          · have : m = ins.length := by omega
            subst this
            have hae := HAE.out
            rw [hae]
            generalize hev : evNd s.mem (at' vs) ⟨kd, lt, ins⟩ = c at *
            have HEV := Lib.hid hev
            clear hae hev
            go_wp2_with (at_builtin; refine app1 (C := #[.bool c]) elemBool rfl _ _ rfl (w.heap.size + 2) _ _ _ rfl HOX.out rfl rfl (by simp [Value.oneCell']) (by unfold maxLen; have := HTL.out; omega) (by have := HTL.out; omega) (by have := HZX.out; have := Q1.out.lt; omega) ?_)
            intro v' w8 hown8 hgrow8 _
            have ho8 : OwnL bc 4 1 w8 (w.heap.size + 2) v' (vs ++ [c]) := by unfold OwnL; rw [List.length_append, List.flatMap_append]; simpa [bc] using hown8
            have HO8 := Lib.hid ho8
            have HB8 : Hid (Below (w.heap.size + 2) W w8) := HBXW.out.grown hgrow8 (by have := HZX.out; have := Q1.out.lt; omega) (fun g hg => by
              rcases HOX.out.shape with ⟨h, _⟩ | ⟨g', cap'', h, h2, _⟩
              · rw [h] at hg; simp [Value.ownBlock] at hg
              · rw [h] at hg; simp [Value.ownBlock] at hg; omega)
            clear hown8 hgrow8 ho8
            go_wp2
            go_roundw
            case rel => exact ⟨k + 1, by omega, by go_num, by rw [HTS.out]; exact HO8.out, HB8.out⟩
            case measure => simp [intOf]; omega
    · have : k = l.length := by omega
      subst this
      have ho := HO.out
      rw [htl, List.take_length] at ho
      obtain ⟨g, rfl⟩ : ∃ g, ao = some ⟨g, 0, none⟩ := by
        rcases ho.shape with ⟨_, h⟩ | ⟨g, cap'', h, _⟩
        · have h2 := truth_length s.mem l; rw [h] at h2; have := HL1.out; simp at h2; omega
        · simp only [Value.slice.injEq] at h; exact ⟨g, h.1⟩
      have HOE := Lib.hid (ho.lower (show w.heap.size ≤ w.heap.size + 2 by omega))
      clear ho
      go_wp2
      rw [htl]
      go_ret
      exact ⟨g, capv, rfl, HOE.out, HBA.out⟩
end Go.Proofs.YtkaojolofaanfaaGreatDoor

/- The walk of censusref20's Nth. -/
namespace Go.Proofs.YtkaojolofaanfaaGreatDoor
open Go.RowKit Cen
set_option maxHeartbeats 2000000
set_option maxRecDepth 100000
/-- The k-th assignment: variable v is true if bit n - v of k is 1. -/
def nthA (n k : Nat) : Nat → Nat
  | 0 => 0
  | v + 1 => if k.testBit (n - (v + 1)) then nthA n k v ||| 2 ^ v else nthA n k v
def nthL (n k : Nat) : St := ⟨nthA n k n, 0⟩
theorem nthA_lt (n k : Nat) : ∀ v, v ≤ 64 → nthA n k v < U64 := by
  intro v
  induction v with
  | zero => intro _; unfold nthA U64; omega
  | succ v ih =>
    intro hv
    rw [nthA]; split
    · exact or_lt_U64 (ih (by omega)) (pow_lt_U64 (by omega))
    · exact ih (by omega)
theorem nthA_bit (n k : Nat) : ∀ v j, (nthA n k v).testBit j = (decide (j < v) && k.testBit (n - (j + 1))) := by
  intro v
  induction v with
  | zero => intro j; simp [nthA]
  | succ v ih =>
    intro j
    rw [nthA]
    by_cases e : j = v
    · subst e
      cases h : k.testBit (n - (j + 1)) with
      | true => rw [if_pos rfl, Nat.testBit_or, Nat.testBit_two_pow]; simp
      | false => rw [if_neg (by simp), ih]; simp [h]
    · have h1 : decide (j < v + 1) = decide (j < v) := by rw [decide_eq_decide]; omega
      rw [h1]
      split
      · rw [Nat.testBit_or, ih, Nat.testBit_two_pow]; simp [show ¬ v = j from fun h => e h.symm]
      · exact ih j
theorem nth_any (n k : Nat) (w : World) (hn : n ≤ 16) (_hk : k ≤ 65536) : Calls Tryz.prog 93 #[.int .i64 n, .int .i64 k] w fun e w' => e = .returned (stv (nthL n k)) ∧ Below w.heap.size w w' := by
  have HB0 := Lib.hid (((Below.refl w.heap.size w).alloc (Nat.le_refl _) (.cells #[.int .u64 0, .int .u64 0] 54)).alloc (by simp) (.cells #[.int .u64 0, .int .u64 0] 54))
  have q0 := Lib.hid ((Blk.new w #[.int .u64 0, .int .u64 0] 54).alloc (.cells #[.int .u64 0, .int .u64 0] 54))
  have q1 := Lib.hid (Blk.new' (w.alloc (.cells #[.int .u64 0, .int .u64 0] 54)) (World.size_alloc _ _) #[.int .u64 0, .int .u64 0] 54)
  go_enter Tryz.func93, Tryz.ntmps93
  go_wp2
  generalize (w.alloc (.cells #[.int .u64 0, .int .u64 0] 54)).alloc (.cells #[.int .u64 0, .int .u64 0] 54) = W at *
  go_loopw [6] (fun i wr => ∃ v : Nat, v ≤ n ∧ i = .int .i64 (v + 1) ∧ Blk wr (w.heap.size + 1) #[.int .u64 (nthA n k v : Int), .int .u64 0] 54 ∧ Below (w.heap.size + 1) W wr) (fun i _ => n + 1 - (intOf i).toNat)
  case atStart => exact ⟨0, Nat.zero_le _, rfl, q1.out, Below.refl _ _⟩
  case round =>
    obtain ⟨v, hv, rfl, hblk, hb⟩ := hrel
    have HBK := Lib.hid hblk
    have HB := Lib.hid hb
    have hz : w.heap.size + 1 < wr.heap.size := hblk.lt
    have c0 : wr.cell? ⟨w.heap.size + 1, 0, none⟩ = some (.int .u64 (nthA n k v : Int)) := hblk.cell 0
    have c1 : wr.cell? ⟨w.heap.size + 1, 1, none⟩ = some (.int .u64 0) := hblk.cell 1
    have f0 := hblk.fr 0
    have f1 := hblk.fr 1
    clear hblk hb
    by_cases hlt : v < n
    · have hdl : decide (((v : Int) + 1) ≤ (n : Int)) = true := by simp; omega
      have HE : Hid (bits BinOp.or IntKind.u64 ((nthA n k v : Nat) : Int) (IntKind.u64.wrap ((2 : Int) ^ v)) = ((nthA n k v ||| 2 ^ v : Nat) : Int)) := by
        show _ = _; rw [wrap_pow (by omega), or64 (nthA_lt n k v (by omega)) (pow_lt_U64 (by omega))]
      cases hkb : k.testBit (n - (v + 1)) with
      | false =>
        have hb : (((k : Int) / 2 ^ (n - (v + 1))).tmod 2 == 1) = false := by rw [tbit, hkb]
        have HN : Hid (nthA n k (v + 1) = nthA n k v) := by show _ = _; rw [nthA, hkb]; rfl
        clear hkb
        go_wp2
        go_roundw
        case rel => exact ⟨v + 1, by omega, by go_num, by rw [HN.out]; exact HBK.out, HB.out⟩
        case measure => simp [intOf]; omega
      | true =>
        have hb : (((k : Int) / 2 ^ (n - (v + 1))).tmod 2 == 1) = true := by rw [tbit, hkb]
        have HN : Hid (nthA n k (v + 1) = nthA n k v ||| 2 ^ v) := by show _ = _; rw [nthA, hkb]; rfl
        clear hkb
        go_wp2
        go_roundw
        case rel =>
          refine ⟨v + 1, by omega, by go_num, ?_, HB.out.setCell (Nat.le_refl _) _⟩
          rw [HN.out, ← HE.out]
          exact HBK.out.set 0 _
        case measure => simp [intOf]; omega
    · have : v = n := by omega
      subst this
      have hdl : decide (((v : Int) + 1) ≤ (v : Int)) = false := by simp; omega
      have R0 := Lib.hid (q0.out.laterB HB.out (by omega))
      have r0 : wr.cell? ⟨w.heap.size, 0, none⟩ = some (.int .u64 0) := R0.out.cell 0
      have r1 : wr.cell? ⟨w.heap.size, 1, none⟩ = some (.int .u64 0) := R0.out.cell 1
      have rf0 := R0.out.fr 0
      have rf1 := R0.out.fr 1
      have hz0 : w.heap.size < wr.heap.size := R0.out.lt
      obtain ⟨A, hA⟩ : ∃ A, A = nthA v k v := ⟨_, rfl⟩
      rw [← hA] at c0
      have HA := Lib.hid hA
      have HBA := Lib.hid (HB0.out.trans (HB.out.mono (by omega)))
      clear hA
      go_wp2
      have hbr := (R0.out.set 0 (.int .u64 (A : Int))).set 1 (.int .u64 0)
      have e0 : ((wr.setCell ⟨w.heap.size, 0, none⟩ (.int .u64 (A : Int))).setCell ⟨w.heap.size, 1, none⟩ (.int .u64 0)).cell? ⟨w.heap.size, 0, none⟩ = some (.int .u64 (A : Int)) := hbr.cell 0
      have e1 : ((wr.setCell ⟨w.heap.size, 0, none⟩ (.int .u64 (A : Int))).setCell ⟨w.heap.size, 1, none⟩ (.int .u64 0)).cell? ⟨w.heap.size, 1, none⟩ = some (.int .u64 0) := hbr.cell 1
      exact bodyPost_ret (v := stv ⟨A, 0⟩) (by simp [results, Tryz.results93, go_sem, e0, e1]) rfl ⟨by unfold nthL; rw [HA.out], (HBA.out.setCell (Nat.le_refl _) _).setCell (Nat.le_refl _) _⟩
end Go.Proofs.YtkaojolofaanfaaGreatDoor
