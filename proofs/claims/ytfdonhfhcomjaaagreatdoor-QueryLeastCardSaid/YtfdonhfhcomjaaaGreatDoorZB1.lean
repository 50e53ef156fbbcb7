/- Part of the proofs that laws of censuslaw38 return true for every input, where the tables that the rows list are laid. Texts: R04L, R03, R03W. -/
import Derived.Test.YtfdonhfhcomjaaaGreatDoorZA18
import Derived.StillTailTactics
import Derived.Test.YtfdonhfhcomjaaaGreatDoorZA5
import Derived.Test.YtfdonhfhcomjaaaGreatDoorZA4

/- The walks of censusref04's Any and All. -/
namespace Go.Proofs.YtfdonhfhcomjaaaGreatDoor
open Go.RowKit Cen
set_option maxHeartbeats 2000000
set_option maxRecDepth 100000
def anyL (s : Int → Bool) (xs : List Int) : Bool := xs.any (holds s)
def allL (s : Int → Bool) (xs : List Int) : Bool := xs.all (holds s)
theorem anyL_hit {s : Int → Bool} {xs : List Int} {k : Nat} (hk : k < xs.length) (h : holds s (xs.getD k 0) = true) : anyL s xs = true := by
  unfold anyL; rw [List.any_eq_true]
  refine ⟨xs[k], List.getElem_mem hk, ?_⟩
  simpa [List.getD_eq_getElem?_getD, hk] using h
theorem anyL_miss {s : Int → Bool} {xs : List Int} (h : ∀ k, k < xs.length → holds s (xs.getD k 0) = false) : anyL s xs = false := by
  unfold anyL; rw [List.any_eq_false]
  intro x hx
  obtain ⟨k, hk, rfl⟩ := List.getElem_of_mem hx
  have := h k hk
  simpa [List.getD_eq_getElem?_getD, hk] using this
theorem allL_miss {s : Int → Bool} {xs : List Int} {k : Nat} (hk : k < xs.length) (h : holds s (xs.getD k 0) = false) : allL s xs = false := by
  unfold allL; rw [List.all_eq_false]
  refine ⟨xs[k], List.getElem_mem hk, ?_⟩
  simpa [List.getD_eq_getElem?_getD, hk] using h
theorem allL_hit {s : Int → Bool} {xs : List Int} (h : ∀ k, k < xs.length → holds s (xs.getD k 0) = true) : allL s xs = true := by
  unfold allL; rw [List.all_eq_true]
  intro x hx
  obtain ⟨k, hk, rfl⟩ := List.getElem_of_mem hx
  have := h k hk
  simpa [List.getD_eq_getElem?_getD, hk] using this
theorem rAny_any (s : St) (b : Option Addr) (cap2 : Nat) (xs : List Int) (w : World) (hs : s.ok) (hxs : IntCells w b xs) (hxl : xs.length ≤ 1073741824) :
    Calls Tryz.prog 55 #[stv s, .slice b xs.length cap2] w fun e w' => e = .returned (.bool (anyL s.mem xs)) ∧ Below w.heap.size w w' := by
  have hb0 := (Below.refl w.heap.size w).alloc (Nat.le_refl _) (.cells #[.int .u64 (s.a : Int), .int .u64 (s.b : Int)] 38)
  have HB0 := Lib.hid hb0
  have q0 := Lib.hid (Blk.new w #[.int .u64 (s.a : Int), .int .u64 (s.b : Int)] 38)
  have HXS := Lib.hid hxs
  have HL := Lib.hid (fun x V => rHolds_any s x V hs)
  clear hb0 hxs
  go_enter Tryz.func55, Tryz.ntmps55
  go_wp2
  generalize w.alloc (.cells #[.int .u64 (s.a : Int), .int .u64 (s.b : Int)] 38) = W at *
  go_loopw [5] (fun i wr => ∃ k : Nat, k ≤ xs.length ∧ i = .int .i64 k ∧ (∀ j, j < k → holds s.mem (xs.getD j 0) = false) ∧ Below W.heap.size W wr) (fun i _ => xs.length - (intOf i).toNat)
  case atStart => exact ⟨0, Nat.zero_le _, rfl, fun j h => absurd h (Nat.not_lt_zero _), Below.refl _ _⟩
  case round =>
    obtain ⟨k, hk, rfl, hno, hb⟩ := hrel
    have HN := Lib.hid hno
    have HB := Lib.hid hb
    have HBA := Lib.hid (HB0.out.trans (hb.mono HB0.out.size))
    have R := Lib.hid (q0.out.later hb)
    have k0 : wr.cell? ⟨w.heap.size, 0, none⟩ = some (.int .u64 (s.a : Int)) := R.out.cell 0
    have k1 : wr.cell? ⟨w.heap.size, 1, none⟩ = some (.int .u64 (s.b : Int)) := R.out.cell 1
    clear hno hb
    by_cases hlt : k < xs.length
    · obtain ⟨b2, off2, rfl, c0⟩ := (HXS.out.keep HBA.out) k hlt
      generalize hxd : xs.getD k 0 = x at *
      have HXD := Lib.hid hxd
      clear hxd
      have HLX := Lib.hid (HL.out x)
      have hki : (k : Int) < (xs.length : Int) := by omega
      have hk0 : (0 : Int) ≤ (k : Int) := by omega
      cases hlo : holds s.mem x with
      | false =>
        rw [hlo] at HLX
        have HLO := Lib.hid hlo
        clear hlo
        go_wp2_with fail
        refine wp_region_still_tail 5 (by kernel_rfl) (by kernel_rfl) ?_
        simp only [List.take_succ_cons, List.take_zero, List.drop_succ_cons, List.drop_zero]
        change wpStill _ _ (World.drew _) _ _ _
        repeat still_step
        refine wpStill_nil ?_
        go_wp2_with fail
        refine (HLX.out _).mono ?_
        rintro e w1 ⟨rfl, hb1⟩
        have HB1 := Lib.hid (HB.out.drew.trans (hb1.mono HB.out.size))
        clear hb1
        go_wp2
        go_roundw
        case rel => exact ⟨k + 1, by omega, by go_num, fun j hj => by
          by_cases e : j = k
          · subst e; rw [HXD.out]; exact HLO.out
          · exact HN.out j (by omega), HB1.out⟩
        case measure => simp [intOf]; omega
      | true =>
        rw [hlo] at HLX
        have HR : Hid (anyL s.mem xs = true) := anyL_hit hlt (by rw [HXD.out]; exact hlo)
        clear hlo
        go_wp2_with fail
        refine wp_region_still_tail 5 (by kernel_rfl) (by kernel_rfl) ?_
        simp only [List.take_succ_cons, List.take_zero, List.drop_succ_cons, List.drop_zero]
        change wpStill _ _ (World.drew _) _ _ _
        repeat still_step
        refine wpStill_nil ?_
        go_wp2_with fail
        refine (HLX.out _).mono ?_
        rintro e w1 ⟨rfl, hb1⟩
        have HB1 := Lib.hid (HBA.out.drew.trans (hb1.mono HBA.out.size))
        clear hb1
        go_wp2
        go_ret
        exact ⟨ret_bool HR.out.symm, HB1.out⟩
    · have : k = xs.length := by omega
      subst this
      have HR : Hid (anyL s.mem xs = false) := anyL_miss HN.out
      go_wp2
      go_ret
      exact ⟨ret_bool HR.out.symm, HBA.out⟩
theorem rAll_any (s : St) (b : Option Addr) (cap2 : Nat) (xs : List Int) (w : World) (hs : s.ok) (hxs : IntCells w b xs) (hxl : xs.length ≤ 1073741824) :
    Calls Tryz.prog 57 #[stv s, .slice b xs.length cap2] w fun e w' => e = .returned (.bool (allL s.mem xs)) ∧ Below w.heap.size w w' := by
  have hb0 := (Below.refl w.heap.size w).alloc (Nat.le_refl _) (.cells #[.int .u64 (s.a : Int), .int .u64 (s.b : Int)] 38)
  have HB0 := Lib.hid hb0
  have q0 := Lib.hid (Blk.new w #[.int .u64 (s.a : Int), .int .u64 (s.b : Int)] 38)
  have HXS := Lib.hid hxs
  have HL := Lib.hid (fun x V => rHolds_any s x V hs)
  clear hb0 hxs
  go_enter Tryz.func57, Tryz.ntmps57
  go_wp2
  generalize w.alloc (.cells #[.int .u64 (s.a : Int), .int .u64 (s.b : Int)] 38) = W at *
  go_loopw [5] (fun i wr => ∃ k : Nat, k ≤ xs.length ∧ i = .int .i64 k ∧ (∀ j, j < k → holds s.mem (xs.getD j 0) = true) ∧ Below W.heap.size W wr) (fun i _ => xs.length - (intOf i).toNat)
  case atStart => exact ⟨0, Nat.zero_le _, rfl, fun j h => absurd h (Nat.not_lt_zero _), Below.refl _ _⟩
  case round =>
    obtain ⟨k, hk, rfl, hno, hb⟩ := hrel
    have HN := Lib.hid hno
    have HB := Lib.hid hb
    have HBA := Lib.hid (HB0.out.trans (hb.mono HB0.out.size))
    have R := Lib.hid (q0.out.later hb)
    have k0 : wr.cell? ⟨w.heap.size, 0, none⟩ = some (.int .u64 (s.a : Int)) := R.out.cell 0
    have k1 : wr.cell? ⟨w.heap.size, 1, none⟩ = some (.int .u64 (s.b : Int)) := R.out.cell 1
    clear hno hb
    by_cases hlt : k < xs.length
    · obtain ⟨b2, off2, rfl, c0⟩ := (HXS.out.keep HBA.out) k hlt
      generalize hxd : xs.getD k 0 = x at *
      have HXD := Lib.hid hxd
      clear hxd
      have HLX := Lib.hid (HL.out x)
      have hki : (k : Int) < (xs.length : Int) := by omega
      have hk0 : (0 : Int) ≤ (k : Int) := by omega
      cases hlo : holds s.mem x with
      | true =>
        rw [hlo] at HLX
        have HLO := Lib.hid hlo
        clear hlo
        go_wp2_with fail
        refine wp_region_still_tail 5 (by kernel_rfl) (by kernel_rfl) ?_
        simp only [List.take_succ_cons, List.take_zero, List.drop_succ_cons, List.drop_zero]
        change wpStill _ _ (World.drew _) _ _ _
        repeat still_step
        refine wpStill_nil ?_
        go_wp2_with fail
        refine (HLX.out _).mono ?_
        rintro e w1 ⟨rfl, hb1⟩
        have HB1 := Lib.hid (HB.out.drew.trans (hb1.mono HB.out.size))
        clear hb1
        go_wp2
        go_roundw
        case rel => exact ⟨k + 1, by omega, by go_num, fun j hj => by
          by_cases e : j = k
          · subst e; rw [HXD.out]; exact HLO.out
          · exact HN.out j (by omega), HB1.out⟩
        case measure => simp [intOf]; omega
      | false =>
        rw [hlo] at HLX
        have HR : Hid (allL s.mem xs = false) := allL_miss hlt (by rw [HXD.out]; exact hlo)
        clear hlo
        go_wp2_with fail
        refine wp_region_still_tail 5 (by kernel_rfl) (by kernel_rfl) ?_
        simp only [List.take_succ_cons, List.take_zero, List.drop_succ_cons, List.drop_zero]
        change wpStill _ _ (World.drew _) _ _ _
        repeat still_step
        refine wpStill_nil ?_
        go_wp2_with fail
        refine (HLX.out _).mono ?_
        rintro e w1 ⟨rfl, hb1⟩
        have HB1 := Lib.hid (HBA.out.drew.trans (hb1.mono HBA.out.size))
        clear hb1
        go_wp2
        go_ret
        exact ⟨ret_bool HR.out.symm, HB1.out⟩
    · have : k = xs.length := by omega
      subst this
      have HR : Hid (allL s.mem xs = true) := allL_hit HN.out
      go_wp2
      go_ret
      exact ⟨ret_bool HR.out.symm, HBA.out⟩
end Go.Proofs.YtfdonhfhcomjaaaGreatDoor

/- The walks of censusref03's Has, none, set, List, Of, With. -/
namespace Go.Proofs.YtfdonhfhcomjaaaGreatDoor
open Go.RowKit Cen
set_option maxHeartbeats 2000000
set_option maxRecDepth 100000
theorem has3_any (s : St) (v : Int) (w : World) (_hs : s.ok) : Calls Tryz.prog 60 #[stv s, .int .i64 v] w fun e w' => e = .returned (.bool (s.mem v)) ∧ Below w.heap.size w w' := by
  by_cases h1 : v < 1
  · have d1 : decide (v < 1) = true := by simpa using h1
    have HR : Hid (s.mem v = false) := by show _ = _; unfold St.mem; rw [if_neg (by omega), if_neg (by omega)]
    clear h1
    go_enter Tryz.func60, Tryz.ntmps60
    go_wp2
    go_ret
    exact ⟨ret_bool HR.out.symm, (Below.refl _ _).alloc (Nat.le_refl _) _⟩
  · have d1 : decide (v < 1) = false := by simpa using h1
    by_cases h2 : 128 < v
    · have d2 : decide (128 < v) = true := by simpa using h2
      have HR : Hid (s.mem v = false) := by show _ = _; unfold St.mem; rw [if_neg (by omega), if_neg (by omega)]
      clear h2 h1
      go_enter Tryz.func60, Tryz.ntmps60
      go_wp2
      go_ret
      exact ⟨ret_bool HR.out.symm, (Below.refl _ _).alloc (Nat.le_refl _) _⟩
    · have d2 : decide (128 < v) = false := by simpa using h2
      have h1' : 1 ≤ v := by omega
      have h2' : v ≤ 128 := by omega
      clear h1 h2
      by_cases hv : v ≤ 64
      · have e1 : (v - 1) / 64 = 0 := by omega
        have e2 : (v - 1) % 64 = v - 1 := by omega
        go_enter Tryz.func60, Tryz.ntmps60
        go_wp2
        go_ret
        exact ⟨ret_bool (mem_lo s h1' hv), (Below.refl _ _).alloc (Nat.le_refl _) _⟩
      · have e1 : (v - 1) / 64 = 1 := by omega
        have e2 : (v - 1) % 64 = v - 65 := by omega
        have hv2 : 65 ≤ v := by omega
        go_enter Tryz.func60, Tryz.ntmps60
        go_wp2
        go_ret
        exact ⟨ret_bool (mem_hi s hv2 h2' _ (by omega)), (Below.refl _ _).alloc (Nat.le_refl _) _⟩
theorem none3_any (w : World) : Calls Tryz.prog 59 #[] w fun e w' => ∃ g, e = .returned (.slice (some ⟨g, 0, none⟩) 129 129) ∧ OwnL bc 4 1 w' w.heap.size (.slice (some ⟨g, 0, none⟩) 129 129) (List.replicate 129 false) ∧ Below w.heap.size w w' := by
  go_enter Tryz.func59, Tryz.ntmps59
  go_wp2_with (at_make; refine mk elemBool rfl _ _ rfl w.heap.size .i64 .i64 _ _ 129 rfl rfl rfl rfl (by omega) (by unfold maxLen; omega) (Nat.le_refl _) bc false rfl ?_)
  intro w2 hown2 hgrow2
  have HO := Lib.hid hown2
  have HB : Hid (Below w.heap.size w w2) := (Below.refl _ _).grown hgrow2 (Nat.le_refl _) (by simp)
  clear hown2 hgrow2
  go_wp2
  go_ret
  exact ⟨_, rfl, HO.out, HB.out⟩
/-- The set of the first k numbers of which f is true. -/
def setB (f : Nat → Bool) : Nat → St
  | 0 => St.zero
  | k + 1 => if f (k + 1) then (setB f k).add ((k : Int) + 1) else setB f k
theorem setB_ok (f : Nat → Bool) : ∀ k, (setB f k).ok
  | 0 => St.zero_ok
  | k + 1 => by unfold setB; split; exact St.add_ok (setB_ok f k) _; exact setB_ok f k
theorem setB_mem (f : Nat → Bool) : ∀ (k : Nat) (v : Int), k ≤ 128 → (setB f k).mem v = (decide (1 ≤ v) && (decide (v ≤ k) && f v.toNat))
  | 0, v, _ => by
    rw [setB, St.mem_zero]
    by_cases h : 1 ≤ v
    · rw [decide_eq_false (show ¬ v ≤ ((0 : Nat) : Int) by omega)]; simp
    · rw [decide_eq_false h]; simp
  | k + 1, v, hk => by
    have ih := setB_mem f k v (by omega)
    by_cases e : v = (k : Int) + 1
    · have e2 : v.toNat = k + 1 := by omega
      rw [decide_eq_true (show 1 ≤ v by omega), decide_eq_true (show v ≤ ((k + 1 : Nat) : Int) by omega), e2]
      rw [decide_eq_false (show ¬ v ≤ (k : Int) by omega)] at ih
      show (if f (k + 1) then (setB f k).add ((k : Int) + 1) else setB f k).mem v = _
      cases hf : f (k + 1) with
      | false => simp only [Bool.false_eq_true, if_false]; rw [ih]; simp
      | true => simp only [if_true]; rw [St.mem_add, e, decide_eq_true (show (1 : Int) ≤ (k : Int) + 1 by omega), decide_eq_true (show (k : Int) + 1 ≤ 128 by omega)]; simp
    · have e3 : decide (v ≤ ((k + 1 : Nat) : Int)) = decide (v ≤ (k : Int)) := by rw [Bool.eq_iff_iff, decide_eq_true_iff, decide_eq_true_iff]; omega
      rw [e3, ← ih]
      show (if f (k + 1) then (setB f k).add ((k : Int) + 1) else setB f k).mem v = _
      split
      · rw [St.mem_add, decide_eq_false e]; simp
      · rfl
theorem or_pow {a k : Nat} (ha : a < U64) (hk : k < 64) : bits .or .u64 (a : Int) (IntKind.u64.wrap ((2 : Int) ^ k)) = ((a ||| 2 ^ k : Nat) : Int) := by
  rw [wrap_pow hk]; exact or64 ha (pow_lt_U64 hk)
theorem setB_next (f : Nat → Bool) {v : Int} (h1 : 1 ≤ v) : setB f v.toNat = if f v.toNat then (setB f (v.toNat - 1)).add v else setB f (v.toNat - 1) := by
  obtain ⟨k, rfl⟩ : ∃ k : Nat, v = (k : Int) + 1 := ⟨(v - 1).toNat, by omega⟩
  rw [show ((k : Int) + 1).toNat = k + 1 by omega]; rfl
theorem set3_any (f : Nat → Bool) (g : Nat) (w : World) (h : ∀ j, j < 129 → w.cell? ⟨g, j, none⟩ = some (.bool (f j))) :
    Calls Tryz.prog 61 #[.slice (some ⟨g, 0, none⟩) 129 129] w fun e w' => e = .returned (stv (setB f 128)) ∧ Below w.heap.size w w' := by
  have HC := Lib.hid h
  have HB0 : Hid (Below w.heap.size w ((w.alloc (.cells (sts St.zero) 38)).alloc (.cells (sts St.zero) 38))) := ((Below.refl _ _).alloc (Nat.le_refl _) _).alloc (by simp) _
  clear h
  go_enter Tryz.func61, Tryz.ntmps61
  go_wp2
  go_loopw [4] (fun i wr => ∃ v : Int, 1 ≤ v ∧ v ≤ 129 ∧ i = .int .i64 v ∧ Blk wr (w.heap.size + 1) (sts (setB f (v.toNat - 1))) 38 ∧ Blk wr w.heap.size (sts St.zero) 38 ∧ Below w.heap.size w wr) (fun i _ => 129 - (intOf i).toNat)
  case atStart => exact ⟨1, by omega, by omega, rfl, Blk.new' (w.alloc _) (by simp) (sts St.zero) 38, (Blk.new w _ _).alloc _, HB0.out⟩
  case round =>
    obtain ⟨v, hv1, hv2, rfl, hs, hz, hbel⟩ := hrel
    obtain ⟨c0, c1, f0, f1⟩ := hs.sc
    obtain ⟨d0, d1, g0, g1⟩ := hz.sc
    have HS := Lib.hid hs
    have HZ := Lib.hid hz
    have HB := Lib.hid hbel
    have HOK := Lib.hid (setB_ok f (v.toNat - 1))
    have hzz : w.heap.size + 1 < wr.heap.size := hs.lt
    clear hs hz hbel
    by_cases hlt : v < 129
    · have hc := cell_keep HB.out (HC.out v.toNat (by omega))
      have HSB := Lib.hid (setB_next f hv1)
      generalize setB f (v.toNat - 1) = s at *
      cases hf : f v.toNat with
      | false =>
        rw [hf] at hc
        rw [hf, if_neg (by simp)] at HSB
        clear hf
        go_wp2
        go_roundw
        case rel => exact ⟨v + 1, by omega, by omega, rfl, by rw [show (v + 1).toNat - 1 = v.toNat by omega, HSB.out]; exact HS.out, HZ.out, HB.out⟩
        case measure => simp [intOf]; omega
      | true =>
        rw [hf] at hc
        rw [hf, if_pos rfl] at HSB
        clear hf
        by_cases h64 : v ≤ 64
        · have e1 : (v - 1) / 64 = 0 := by omega
          have e2 : (v - 1) % 64 = v - 1 := by omega
          obtain ⟨A, hA⟩ : ∃ A : Nat, A = s.a ||| 2 ^ (v.toNat - 1) := ⟨_, rfl⟩
          have HR : Hid (s.add v = ⟨A, s.b⟩) := by
            show _ = _; unfold St.add; rw [if_pos (by omega), show (v - 1).toNat = v.toNat - 1 by omega, hA]
          have hw : bits .or .u64 (s.a : Int) (IntKind.u64.wrap ((2 : Int) ^ (v.toNat - 1))) = (A : Int) := by rw [hA]; exact or_pow HOK.out.1 (by omega)
          clear hA
          go_wp2
          go_roundw
          case rel => exact ⟨v + 1, by omega, by omega, rfl, by rw [show (v + 1).toNat - 1 = v.toNat by omega, HSB.out, HR.out]; exact HS.out.set 0 _, HZ.out.other _ _ (by simp), HB.out.setCell (by simp) _⟩
          case measure => simp [intOf]; omega
        · have e1 : (v - 1) / 64 = 1 := by omega
          have e2 : (v - 1) % 64 = v - 65 := by omega
          have hv65 : 65 ≤ v := by omega
          obtain ⟨A, hA⟩ : ∃ A : Nat, A = s.b ||| 2 ^ (v - 65).toNat := ⟨_, rfl⟩
          have HR : Hid (s.add v = ⟨s.a, A⟩) := by
            show _ = _; unfold St.add; rw [if_neg (by omega), if_pos (by omega), hA]
          have hw : bits .or .u64 (s.b : Int) (IntKind.u64.wrap ((2 : Int) ^ (v - 65).toNat)) = (A : Int) := by rw [hA]; exact or_pow HOK.out.2 (by omega)
          clear hA
          go_wp2
          go_roundw
          case rel => exact ⟨v + 1, by omega, by omega, rfl, by rw [show (v + 1).toNat - 1 = v.toNat by omega, HSB.out, HR.out]; exact HS.out.set 1 _, HZ.out.other _ _ (by simp), HB.out.setCell (by simp) _⟩
          case measure => simp [intOf]; omega
    · have : v = 129 := by omega
      subst this
      have HE : Hid (setB f ((129 : Int).toNat - 1) = setB f 128) := rfl
      go_wp2
      exact bodyPost_ret (v := stv (setB f 128)) (by simp [results, Tryz.results61, go_sem, d0, d1]) rfl ⟨rfl, (HB.out.setCell (Nat.le_refl _) _).setCell (Nat.le_refl _) _⟩
end Go.Proofs.YtfdonhfhcomjaaaGreatDoor

/- The walks of censusref03's List, Of, With. -/
namespace Go.Proofs.YtfdonhfhcomjaaaGreatDoor
open Go.RowKit Cen
set_option maxHeartbeats 2000000
set_option maxRecDepth 100000
theorem OwnInts.lower0' {w : World} {base B : Nat} {v : Value} {xs : List Int} (h : OwnInts w base v xs) (hB : B ≤ base) : OwnInts w B v xs := by
  refine ⟨h.1, ?_⟩
  rcases h.2 with h1 | ⟨g, cap, cur, hv, hg, r⟩
  · exact .inl h1
  · exact .inr ⟨g, cap, cur, hv, Nat.le_trans hB hg, r⟩
/-- The variables of a set up to k, in order. -/
def listU (s : St) : Nat → List Int
  | 0 => []
  | k + 1 => if s.mem ((k : Int) + 1) then listU s k ++ [(k : Int) + 1] else listU s k
theorem listU_len (s : St) : ∀ k, (listU s k).length ≤ k
  | 0 => by simp [listU]
  | k + 1 => by
    have := listU_len s k
    show (if s.mem ((k : Int) + 1) then listU s k ++ [(k : Int) + 1] else listU s k).length ≤ _
    split
    · simp; omega
    · omega
theorem listU_mem (s : St) (v : Int) : ∀ k, v ∈ listU s k ↔ 1 ≤ v ∧ v ≤ k ∧ s.mem v = true
  | 0 => by simp [listU]; omega
  | k + 1 => by
    have ih := listU_mem s v k
    show v ∈ (if s.mem ((k : Int) + 1) then listU s k ++ [(k : Int) + 1] else listU s k) ↔ _
    by_cases e : v = (k : Int) + 1
    · subst e
      cases hm : s.mem ((k : Int) + 1) with
      | true => simp; omega
      | false => simp only [Bool.false_eq_true, if_false]; rw [ih]; simp [hm]
    · split
      · rw [List.mem_append, ih]; simp [e]; omega
      · rw [ih]; constructor
        · intro h; exact ⟨h.1, by omega, h.2.2⟩
        · intro h; exact ⟨h.1, by omega, h.2.2⟩
theorem listU_next (s : St) {v : Int} (h1 : 1 ≤ v) : listU s v.toNat = if s.mem v then listU s (v.toNat - 1) ++ [v] else listU s (v.toNat - 1) := by
  obtain ⟨k, rfl⟩ : ∃ k : Nat, v = (k : Int) + 1 := ⟨(v - 1).toNat, by omega⟩
  rw [show ((k : Int) + 1).toNat = k + 1 by omega]; rfl
theorem list3_any (s : St) (w : World) (hs : s.ok) : Calls Tryz.prog 163 #[stv s] w fun e w' => ∃ v, e = .returned v ∧ OwnInts w' w.heap.size v (listU s 128) ∧ Below w.heap.size w w' := by
  have hb0 := (Below.refl w.heap.size w).alloc (Nat.le_refl _) (.cells #[.int .u64 (s.a : Int), .int .u64 (s.b : Int)] 38)
  have HB0 := Lib.hid hb0
  have q0 := Lib.hid (Blk.new w #[.int .u64 (s.a : Int), .int .u64 (s.b : Int)] 38)
  have HH := Lib.hid (fun v V => has3_any s v V hs)
  have HZ0 : Hid ((w.alloc (.cells #[.int .u64 (s.a : Int), .int .u64 (s.b : Int)] 38)).heap.size = w.heap.size + 1) := by show _ = _; simp
  clear hb0
  go_enter Tryz.func163, Tryz.ntmps163
  go_wp2
  generalize w.alloc (.cells #[.int .u64 (s.a : Int), .int .u64 (s.b : Int)] 38) = W at *
  go_loopw [3, 4] (fun o i wr => ∃ v : Int, 1 ≤ v ∧ v ≤ 129 ∧ i = .int .i64 v ∧ OwnInts wr (w.heap.size + 1) o (listU s (v.toNat - 1)) ∧ Below (w.heap.size + 1) W wr) (fun _ i _ => 129 - (intOf i).toNat)
  case atStart => exact ⟨1, by omega, by omega, rfl, OwnInts.nil _ _, Below.refl _ _⟩
  case round =>
    obtain ⟨v, hv1, hv2, rfl, hown, hb⟩ := hrel
    have HO := Lib.hid hown
    have HB := Lib.hid hb
    have R := Lib.hid (q0.out.laterB hb (by omega))
    have HBA := Lib.hid (HB0.out.trans (hb.mono (by omega)))
    have k0 : wr.cell? ⟨w.heap.size, 0, none⟩ = some (.int .u64 (s.a : Int)) := R.out.cell 0
    have k1 : wr.cell? ⟨w.heap.size, 1, none⟩ = some (.int .u64 (s.b : Int)) := R.out.cell 1
    clear hown hb
    by_cases hlt : v ≤ 128
    · have HN := Lib.hid (listU_next s hv1)
      have HL := Lib.hid (listU_len s (v.toNat - 1))
      have HHV := Lib.hid (HH.out v wr)
      generalize listU s (v.toNat - 1) = ys at *
      cases hm : s.mem v with
      | false =>
        rw [hm] at HHV
        rw [hm, if_neg (by simp)] at HN
        clear hm
        go_wp2_with fail
        refine HHV.out.mono ?_
        rintro e w1 ⟨rfl, hb1⟩
        have HB1 := Lib.hid hb1
        clear hb1
        go_wp2
        go_roundw
        case rel => exact ⟨v + 1, by omega, by omega, rfl, by rw [show (v + 1).toNat - 1 = v.toNat by omega, HN.out]; exact HO.out.kept (M := fun _ => False) (Kp.below HB1.out) (fun _ _ h => h), HB.out.trans (HB1.out.mono (by have := HB.out.size; have := HZ0.out; omega))⟩
        case measure => simp [intOf]; omega
      | true =>
        rw [hm] at HHV
        rw [hm, if_pos rfl] at HN
        clear hm
        go_wp2_with fail
        refine HHV.out.mono ?_
        rintro e w1 ⟨rfl, hb1⟩
        have HB1 := Lib.hid hb1
        have HO1 := Lib.hid (HO.out.kept (M := fun _ => False) (Kp.below hb1) (fun _ _ h => h))
        have HZ1 : Hid (w.heap.size + 1 ≤ w1.heap.size) := by show _ ≤ _; have h1 := HB.out.size; have h2 := HZ0.out; have h3 := hb1.size; omega
        clear hb1
        have HOB : Hid (∀ q, u3.ownBlock = some q → w.heap.size + 1 ≤ q) := fun q hq => (HO.out.lt q hq).1
        go_wp2_with (at_builtin; refine appInt rfl _ _ rfl (w.heap.size + 1) u3 ys v rfl HO1.out rfl (by have := HL.out; omega) HZ1.out ?_)
        intro v' w2 hown2 hgrow2 _
        have HO2 := Lib.hid hown2
        have HB2 : Hid (Below (w.heap.size + 1) W w2) := (HB.out.trans (HB1.out.mono (by have := HB.out.size; have := HZ0.out; omega))).grown hgrow2 HZ1.out HOB.out
        clear hown2 hgrow2
        go_wp2
        go_roundw
        case rel => exact ⟨v + 1, by omega, by omega, rfl, by rw [show (v + 1).toNat - 1 = v.toNat by omega, HN.out]; exact HO2.out, HB2.out⟩
        case measure => simp [intOf]; omega
    · have : v = 129 := by omega
      subst this
      go_wp2
      go_ret
      exact ⟨_, rfl, OwnInts.lower0' HO.out (by omega), HBA.out⟩
/-- The bools of the numbers of a list. -/
def bl (ys : List Int) : List Bool := (List.range 129).map fun j : Nat => decide (1 ≤ j) && ys.contains (j : Int)
def ofB (ys : List Int) : St := setB (fun j : Nat => decide (1 ≤ j) && ys.contains (j : Int)) 128
theorem bl_len (ys : List Int) : (bl ys).length = 129 := by unfold bl; rw [List.length_map, List.length_range]
theorem bl_get (ys : List Int) (j : Nat) (h : j < (bl ys).length) : (bl ys)[j] = (decide (1 ≤ j) && ys.contains (j : Int)) := by
  simp only [bl, List.getElem_map, List.getElem_range]
theorem bl_nil : bl [] = List.replicate 129 false := by
  apply List.ext_getElem
  · rw [bl_len, List.length_replicate]
  · intro i h1 h2; rw [bl_get, List.getElem_replicate]; simp
theorem contains_snoc (ys : List Int) (y v : Int) : (ys ++ [y]).contains v = (ys.contains v || decide (v = y)) := by
  rw [Bool.eq_iff_iff]; simp
theorem bl_snoc (ys : List Int) (y : Int) : bl (ys ++ [y]) = if 1 ≤ y ∧ y ≤ 128 then (bl ys).set y.toNat true else bl ys := by
  apply List.ext_getElem
  · split
    · rw [bl_len, List.length_set, bl_len]
    · rw [bl_len, bl_len]
  · intro i h1 h2
    have hi : i < 129 := by rw [bl_len] at h1; exact h1
    rw [bl_get, contains_snoc]
    by_cases h : 1 ≤ y ∧ y ≤ 128
    · simp only [if_pos h, List.getElem_set]
      by_cases e : y.toNat = i
      · rw [if_pos e, decide_eq_true (show (i : Int) = y by omega), decide_eq_true (show 1 ≤ i by omega)]; simp
      · rw [if_neg e, decide_eq_false (show ¬ (i : Int) = y by omega), bl_get]; simp
    · simp only [if_neg h]
      rw [bl_get]
      by_cases e : (i : Int) = y
      · have : i = 0 := by omega
        subst this; simp
      · rw [decide_eq_false e]; simp
theorem ofB_mem (ys : List Int) (v : Int) : (ofB ys).mem v = (decide (1 ≤ v) && (decide (v ≤ 128) && ys.contains v)) := by
  unfold ofB
  rw [setB_mem _ _ _ (Nat.le_refl _)]
  by_cases h : 1 ≤ v
  · rw [decide_eq_true h, decide_eq_true (show 1 ≤ v.toNat by omega), show ((v.toNat : Nat) : Int) = v by omega]; simp
  · rw [decide_eq_false h]; rfl
theorem ofB_ok (ys : List Int) : (ofB ys).ok := setB_ok _ _
theorem of3_any (b : Option Addr) (cap2 : Nat) (xs : List Int) (w : World) (hxs : IntCells w b xs) (hxl : xs.length ≤ 1073741824) :
    Calls Tryz.prog 162 #[.slice b xs.length cap2] w fun e w' => e = .returned (stv (ofB xs)) ∧ Below w.heap.size w w' := by
  have hb0 := (Below.refl w.heap.size w).alloc (Nat.le_refl _) (.cells #[.int .u64 0, .int .u64 0] 38)
  have HB0 := Lib.hid hb0
  have q0 := Lib.hid (Blk.new w #[.int .u64 0, .int .u64 0] 38)
  have HXS := Lib.hid hxs
  have HZ0 : Hid ((w.alloc (.cells #[.int .u64 0, .int .u64 0] 38)).heap.size = w.heap.size + 1) := by show _ = _; simp
  clear hb0 hxs
  go_enter Tryz.func162, Tryz.ntmps162
  go_wp2_with fail
  refine (none3_any _).mono ?_
  rintro e w1 ⟨g, rfl, hown1, hb1⟩
  have HO1 := Lib.hid hown1
  rw [HZ0.out] at HO1
  have HB1 : Hid (Below (w.heap.size + 1) (w.alloc (.cells #[.int .u64 0, .int .u64 0] 38)) w1) := by have h := hb1; rw [HZ0.out] at h; exact h
  clear hown1 hb1
  go_wp2
  go_loopw [4] (fun i wr => ∃ k : Nat, k ≤ xs.length ∧ i = .int .i64 k ∧ OwnL bc 4 1 wr (w.heap.size + 1) (.slice (some ⟨g, 0, none⟩) 129 129) (bl (xs.take k)) ∧ Below (w.heap.size + 1) (w.alloc (.cells #[.int .u64 0, .int .u64 0] 38)) wr) (fun i _ => xs.length - (intOf i).toNat)
  case atStart => exact ⟨0, Nat.zero_le _, rfl, by rw [List.take_zero, bl_nil]; exact HO1.out, HB1.out⟩
  case round =>
    obtain ⟨k, hk, rfl, hown, hb⟩ := hrel
    have HO := Lib.hid hown
    have HB := Lib.hid hb
    have HBA := Lib.hid (HB0.out.trans (hb.mono (by omega)))
    have R := Lib.hid (q0.out.laterB hb (by omega))
    have HG := Lib.hid hown.lt
    clear hown hb
    by_cases hlt : k < xs.length
    · obtain ⟨b2, off2, rfl, c0⟩ := (HXS.out.keep HBA.out) k hlt
      have HBL := Lib.hid (bl_snoc (xs.take k) xs[k])
      rw [← List.take_succ_eq_append_getElem hlt] at HBL
      have hgd : xs.getD k 0 = xs[k] := by simp [List.getD_eq_getElem?_getD, hlt]
      rw [hgd] at c0
      generalize xs[k] = x at *
      have HLN : Hid (129 = (bl (xs.take k)).length) := by show _ = _; rw [bl_len]
      have hki : (k : Int) < (xs.length : Int) := by omega
      have hk0 : (0 : Int) ≤ (k : Int) := by omega
      clear hgd
      by_cases h1 : 1 ≤ x
      · have d1 : decide (1 ≤ x) = true := by simpa using h1
        by_cases h2 : x ≤ 128
        · have d2 : decide (x ≤ 128) = true := by simpa using h2
          have h3 : x < 129 := by omega
          have h0 : 0 ≤ x := by omega
          have fr := HO.out.fr HLN.out x.toNat
          have HS : Hid (OwnL bc 4 1 (wr.setCell ⟨g, x.toNat, none⟩ (.bool true)) (w.heap.size + 1) (.slice (some ⟨g, 0, none⟩) 129 129) (bl (xs.take (k + 1)))) := by
            rw [HBL.out, if_pos ⟨h1, h2⟩]
            exact HO.out.put1 HLN.out bc_len x.toNat (by rw [← HLN.out]; omega) true (.bool true) rfl
          have cg : ∃ u, wr.cell? ⟨g, x.toNat, none⟩ = some u := ⟨_, by have h := HO.out.cell HLN.out bc_len x.toNat 0 (by rw [← HLN.out]; omega) (by omega); rw [Nat.mul_one, Nat.add_zero] at h; rw [h]; rfl⟩
          obtain ⟨u, hu⟩ := cg
          clear h1
          go_wp2
          go_roundw
          case rel => exact ⟨k + 1, by omega, by go_num, HS.out, HB.out.setCell (by dsimp only; exact HG.out.2) _⟩
          case measure => simp [intOf]; omega
        · have d2 : decide (x ≤ 128) = false := by simpa using h2
          rw [if_neg (fun h => h2 h.2)] at HBL
          clear h1 h2
          go_wp2
          go_roundw
          case rel => exact ⟨k + 1, by omega, by go_num, by rw [HBL.out]; exact HO.out, HB.out⟩
          case measure => simp [intOf]; omega
      · have d1 : decide (1 ≤ x) = false := by simpa using h1
        rw [if_neg (fun h => h1 h.1)] at HBL
        clear h1
        go_wp2
        go_roundw
        case rel => exact ⟨k + 1, by omega, by go_num, by rw [HBL.out]; exact HO.out, HB.out⟩
        case measure => simp [intOf]; omega
    · have : k = xs.length := by omega
      subst this
      rw [List.take_length] at HO
      have HLN : Hid (129 = (bl xs).length) := by show _ = _; rw [bl_len]
      have HST := Lib.hid (set3_any (fun j => decide (1 ≤ j) && xs.contains (j : Int)) g wr (fun j hj => by
        have h := HO.out.cell HLN.out bc_len j 0 (by rw [← HLN.out]; exact hj) (by omega)
        rw [Nat.mul_one, Nat.add_zero, bl_get] at h
        exact h))
      go_wp2_with fail
      refine HST.out.mono ?_
      rintro e w2 ⟨rfl, hb2⟩
      have R2 := R.out.later hb2
      have HB2 := Lib.hid (HBA.out.trans (hb2.mono HBA.out.size))
      have f0 := R2.fr 0
      have f1 := R2.fr 1
      have j0 : w2.cell? ⟨w.heap.size, 0, none⟩ = some (.int .u64 0) := R2.cell 0
      have j1 : w2.cell? ⟨w.heap.size, 1, none⟩ = some (.int .u64 0) := R2.cell 1
      have hz : w.heap.size < w2.heap.size := R2.lt
      clear hb2
      have HE : Hid (setB (fun j => decide (1 ≤ j) && xs.contains (j : Int)) 128 = ofB xs) := rfl
      obtain ⟨d, hd⟩ : ∃ d, d = ofB xs := ⟨_, rfl⟩
      rw [HE.out, ← hd]
      have HD := Lib.hid hd
      clear hd
      go_wp2
      have hbr := (R2.set 0 (.int .u64 (d.a : Int))).set 1 (.int .u64 (d.b : Int))
      have e0 : ((w2.setCell ⟨w.heap.size, 0, none⟩ (.int .u64 (d.a : Int))).setCell ⟨w.heap.size, 1, none⟩ (.int .u64 (d.b : Int))).cell? ⟨w.heap.size, 0, none⟩ = some (.int .u64 (d.a : Int)) := hbr.cell 0
      have e1 : ((w2.setCell ⟨w.heap.size, 0, none⟩ (.int .u64 (d.a : Int))).setCell ⟨w.heap.size, 1, none⟩ (.int .u64 (d.b : Int))).cell? ⟨w.heap.size, 1, none⟩ = some (.int .u64 (d.b : Int)) := hbr.cell 1
      exact bodyPost_ret (v := stv d) (by simp [results, Tryz.results162, go_sem, e0, e1]) rfl ⟨by rw [HD.out], (HB2.out.setCell (Nat.le_refl _) _).setCell (Nat.le_refl _) _⟩
theorem ofB_with {s : St} (hs : s.ok) (v : Int) : ofB (listU s 128 ++ [v]) = s.add v := by
  apply St.ext (ofB_ok _) (St.add_ok hs v)
  intro u h1 h2
  rw [ofB_mem, St.mem_add, contains_snoc, decide_eq_true h1, decide_eq_true h2]
  have e : (listU s 128).contains u = s.mem u := by
    rw [Bool.eq_iff_iff, List.contains_iff_mem, listU_mem]
    exact ⟨fun h => h.2.2, fun h => ⟨h1, by omega, h⟩⟩
  rw [e]
  by_cases e : u = v
  · subst e; rw [decide_eq_true h1, decide_eq_true h2]; simp
  · rw [decide_eq_false e]; simp
theorem with3_any (s : St) (v : Int) (w : World) (hs : s.ok) : Calls Tryz.prog 110 #[stv s, .int .i64 v] w fun e w' => e = .returned (stv (s.add v)) ∧ Below w.heap.size w w' := by
  have hb0 := ((Below.refl w.heap.size w).alloc (Nat.le_refl _) (.cells #[.int .u64 (s.a : Int), .int .u64 (s.b : Int)] 38)).alloc (by simp) (.cells #[.int .u64 0, .int .u64 0] 38)
  have HB0 := Lib.hid hb0
  have q1 := Lib.hid (Blk.new' (w.alloc (.cells #[.int .u64 (s.a : Int), .int .u64 (s.b : Int)] 38)) (World.size_alloc _ _) #[.int .u64 0, .int .u64 0] 38)
  have HLI := Lib.hid (fun V => list3_any s V hs)
  have HW := Lib.hid (ofB_with hs v)
  have HLL := Lib.hid (listU_len s 128)
  clear hb0
  generalize listU s 128 = ys at *
  generalize s.add v = d at *
  have HLZ : Hid ((ys ++ [v]).length ≤ 1073741824) := by show _ ≤ _; have := HLL.out; simp; omega
  go_enter Tryz.func110, Tryz.ntmps110
  go_wp2_with fail
  refine (HLI.out _).mono ?_
  rintro e w1 ⟨vl, rfl, hown1, hb1⟩
  have R1 := Lib.hid (q1.out.later hb1)
  have HO1 := Lib.hid hown1
  have HB1 := Lib.hid (HB0.out.trans (hb1.mono HB0.out.size))
  have HZ1 := Lib.hid hb1.size
  clear hb1 hown1
  go_wp2_with (at_builtin; refine appInt rfl _ _ rfl _ vl ys v rfl HO1.out rfl (by have := HLL.out; omega) HZ1.out ?_)
  intro v' w2 hown2 hgrow2 _
  generalize ys ++ [v] = zs at hown2 HW HLZ
  have HB2' : Hid (Below w.heap.size w w2) := HB1.out.grown hgrow2 HB1.out.size (fun g hg => by
    have := (HO1.out.lt g hg).1; simp at this; omega)
  have R2 : Hid (Blk w2 (w.heap.size + 1) #[.int .u64 0, .int .u64 0] 38) := by
    show w2.heap[w.heap.size + 1]? = _
    rw [hgrow2.block _ R1.out.lt (fun hg => by have := (HO1.out.lt _ hg.symm).1; simp at this; omega)]
    exact R1.out
  obtain ⟨a3, c3, rfl, hi3, _⟩ := hown2.cells
  have HOF := Lib.hid (of3_any a3 c3 zs w2 hi3 HLZ.out)
  rw [HW.out] at HOF
  clear hown2 hgrow2 hi3
  go_wp2_with fail
  refine HOF.out.mono ?_
  rintro e w3 ⟨rfl, hb3⟩
  have R3 := R2.out.later hb3
  have HB3 := Lib.hid (HB2'.out.trans (hb3.mono HB2'.out.size))
  have f0 := R3.fr 0
  have f1 := R3.fr 1
  have j0 : w3.cell? ⟨w.heap.size + 1, 0, none⟩ = some (.int .u64 0) := R3.cell 0
  have j1 : w3.cell? ⟨w.heap.size + 1, 1, none⟩ = some (.int .u64 0) := R3.cell 1
  have hz : w.heap.size + 1 < w3.heap.size := R3.lt
  clear hb3
  go_wp2
  have hbr := (R3.set 0 (.int .u64 (d.a : Int))).set 1 (.int .u64 (d.b : Int))
  have e0 : ((w3.setCell ⟨w.heap.size + 1, 0, none⟩ (.int .u64 (d.a : Int))).setCell ⟨w.heap.size + 1, 1, none⟩ (.int .u64 (d.b : Int))).cell? ⟨w.heap.size + 1, 0, none⟩ = some (.int .u64 (d.a : Int)) := hbr.cell 0
  have e1 : ((w3.setCell ⟨w.heap.size + 1, 0, none⟩ (.int .u64 (d.a : Int))).setCell ⟨w.heap.size + 1, 1, none⟩ (.int .u64 (d.b : Int))).cell? ⟨w.heap.size + 1, 1, none⟩ = some (.int .u64 (d.b : Int)) := hbr.cell 1
  exact bodyPost_ret (v := stv d) (by simp [results, Tryz.results110, go_sem, e0, e1]) rfl ⟨rfl, (HB3.out.setCell (show w.heap.size ≤ (⟨w.heap.size + 1, 0, none⟩ : Addr).block by dsimp only; omega) _).setCell (show w.heap.size ≤ (⟨w.heap.size + 1, 1, none⟩ : Addr).block by dsimp only; omega) _⟩
end Go.Proofs.YtfdonhfhcomjaaaGreatDoor
