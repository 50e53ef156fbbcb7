/- Part 22 of 26 of the proof that censuslaw38.QueryFacts returns true for every input, where the tables that the row lists are laid. Texts: R21U. -/
import Derived.Test.YtfdonhfhcomjaaaGreatDoorZA21
import Derived.Test.YtfdonhfhcomjaaaGreatDoorZA19

/- The walks of censusref21's Union and Valid. -/
namespace Go.Proofs.YtfdonhfhcomjaaaGreatDoor
open Go.RowKit Cen
set_option maxHeartbeats 2000000
set_option maxRecDepth 100000
def upU (s t : St) : Nat → St
  | 0 => s
  | k + 1 => if t.mem (k + 1 : Nat) then (upU s t k).add (k + 1 : Nat) else upU s t k
theorem upU_ok {s t : St} (hs : s.ok) (k : Nat) : (upU s t k).ok := by
  induction k with
  | zero => exact hs
  | succ k ih => rw [upU]; split; exact St.add_ok ih _; exact ih
theorem upU_mem {s t : St} (k : Nat) (hk : k ≤ 128) (u : Int) : (upU s t k).mem u = (s.mem u || (decide (u ≤ k) && t.mem u)) := by
  induction k with
  | zero =>
    rw [upU]
    by_cases h : 1 ≤ u ∧ u ≤ 128
    · rw [decide_eq_false (by omega)]; simp
    · rw [mem_out h, mem_out h]; simp
  | succ k ih =>
    have ih := ih (by omega)
    rw [upU]
    cases h : t.mem (k + 1 : Nat) with
    | true =>
      rw [if_pos rfl, St.mem_add, ih]
      by_cases e : u = (k + 1 : Nat)
      · subst e
        have a1 : decide (((k + 1 : Nat) : Int) ≤ (k : Int)) = false := decide_eq_false (by omega)
        have a2 : decide (1 ≤ ((k + 1 : Nat) : Int)) = true := decide_eq_true (by omega)
        have a3 : decide (((k + 1 : Nat) : Int) ≤ 128) = true := decide_eq_true (by omega)
        have a4 : decide (((k + 1 : Nat) : Int) ≤ ((k + 1 : Nat) : Int)) = true := decide_eq_true (Int.le_refl _)
        have a5 : decide (((k + 1 : Nat) : Int) = ((k + 1 : Nat) : Int)) = true := decide_eq_true rfl
        rw [h, a1, a2, a3, a4, a5]; simp
      · rw [decide_eq_false e, show decide (u ≤ ((k + 1 : Nat) : Int)) = decide (u ≤ (k : Int)) by rw [decide_eq_decide]; omega]; simp
    | false =>
      rw [if_neg (by simp), ih]
      by_cases e : u = (k + 1 : Nat)
      · subst e; rw [h]; simp
      · rw [show decide (u ≤ ((k + 1 : Nat) : Int)) = decide (u ≤ (k : Int)) by rw [decide_eq_decide]; omega]
theorem upU_end {s t : St} (hs : s.ok) (ht : t.ok) : upU s t 128 = s.union t := by
  apply St.ext (upU_ok hs _) (St.union_ok hs ht)
  intro u h1 h2
  rw [upU_mem 128 (Nat.le_refl _), St.mem_union, decide_eq_true (show u ≤ ((128 : Nat) : Int) from h2)]; simp
theorem union21_any (s t : St) (w : World) (hs : s.ok) (ht : t.ok) : Calls Tryz.prog 117 #[stv s, stv t] w fun e w' => e = .returned (stv (s.union t)) ∧ Below w.heap.size w w' := by
  have hb0 := (((Below.refl w.heap.size w).alloc (Nat.le_refl _) (.cells #[.int .u64 (s.a : Int), .int .u64 (s.b : Int)] 38)).alloc (by simp) (.cells #[.int .u64 (t.a : Int), .int .u64 (t.b : Int)] 38)).alloc (by simp; omega) (.cells #[.int .u64 0, .int .u64 0] 38)
  have HB0 := Lib.hid hb0
  have HT := Lib.hid (fun v V => has5_any t v V ht)
  have q0 := Lib.hid (((Blk.new w #[.int .u64 (s.a : Int), .int .u64 (s.b : Int)] 38).alloc (.cells #[.int .u64 (t.a : Int), .int .u64 (t.b : Int)] 38)).alloc (.cells #[.int .u64 0, .int .u64 0] 38))
  have q1 := Lib.hid ((Blk.new' (w.alloc (.cells #[.int .u64 (s.a : Int), .int .u64 (s.b : Int)] 38)) (World.size_alloc _ _) #[.int .u64 (t.a : Int), .int .u64 (t.b : Int)] 38).alloc (.cells #[.int .u64 0, .int .u64 0] 38))
  have q2 := Lib.hid (Blk.new' ((w.alloc (.cells #[.int .u64 (s.a : Int), .int .u64 (s.b : Int)] 38)).alloc (.cells #[.int .u64 (t.a : Int), .int .u64 (t.b : Int)] 38)) (b := w.heap.size + 1 + 1) (by simp only [World.size_alloc]) #[.int .u64 0, .int .u64 0] 38)
  have HS := Lib.hid hs
  have HTT := Lib.hid ht
  clear hb0 hs ht
  go_enter Tryz.func117, Tryz.ntmps117
  go_wp2
  generalize ((w.alloc (.cells #[.int .u64 (s.a : Int), .int .u64 (s.b : Int)] 38)).alloc (.cells #[.int .u64 (t.a : Int), .int .u64 (t.b : Int)] 38)).alloc (.cells #[.int .u64 0, .int .u64 0] 38) = W at *
  go_loopw [5] (fun i wr => ∃ k : Nat, k ≤ 128 ∧ i = .int .i64 (k + 1) ∧ Blk wr w.heap.size #[.int .u64 ((upU s t k).a : Int), .int .u64 ((upU s t k).b : Int)] 38 ∧ Blk wr (w.heap.size + 1) #[.int .u64 (t.a : Int), .int .u64 (t.b : Int)] 38 ∧ Blk wr (w.heap.size + 1 + 1) #[.int .u64 0, .int .u64 0] 38 ∧ Below w.heap.size w wr) (fun i _ => 129 - (intOf i).toNat)
  case atStart => exact ⟨0, by omega, rfl, q0.out, q1.out, q2.out, HB0.out⟩
  case round =>
    obtain ⟨k, hk, rfl, hk0, hk1, hk2, hb⟩ := hrel
    have HB := Lib.hid hb
    have R0 := Lib.hid hk0
    have R1 := Lib.hid hk1
    have R2 := Lib.hid hk2
    have k2 : wr.cell? ⟨w.heap.size + 1, 0, none⟩ = some (.int .u64 (t.a : Int)) := R1.out.cell 0
    have k3 : wr.cell? ⟨w.heap.size + 1, 1, none⟩ = some (.int .u64 (t.b : Int)) := R1.out.cell 1
    clear hk0 hk1 hk2 hb
    by_cases hlt : k < 128
    · have hd : decide (((k : Int) + 1) ≤ 128) = true := by simp; omega
      have HU : Hid (upU s t (k + 1) = if t.mem ((k : Int) + 1) then (upU s t k).add ((k : Int) + 1) else upU s t k) := rfl
      have HUO := Lib.hid (upU_ok (t := t) HS.out k)
      generalize upU s t k = c at *
      have HT1 := Lib.hid (HT.out ((k : Int) + 1))
      cases h1 : t.mem ((k : Int) + 1) with
      | false =>
        rw [h1] at HT1 HU
        clear h1
        go_wp2_with fail
        refine (HT1.out _).mono ?_
        rintro e w1 ⟨rfl, hb1⟩
        have HB1 := Lib.hid hb1
        have HBA := Lib.hid (HB.out.trans (hb1.mono HB.out.size))
        clear hb1
        go_wp2
        go_roundw
        case rel => exact ⟨k + 1, by omega, by go_num, by rw [HU.out]; exact R0.out.later HB1.out, R1.out.later HB1.out, R2.out.later HB1.out, HBA.out⟩
        case measure => simp [intOf]; omega
      | true =>
        rw [h1] at HT1 HU
        have HWI := Lib.hid (fun V => with21_any c ((k : Int) + 1) V HUO.out (by omega) (by omega))
        clear h1
        go_wp2_with fail
        refine (HT1.out _).mono ?_
        rintro e w1 ⟨rfl, hb1⟩
        have HB1 := Lib.hid hb1
        have HBA := Lib.hid (HB.out.trans (hb1.mono HB.out.size))
        have S0 := Lib.hid (R0.out.later hb1)
        have k0 : w1.cell? ⟨w.heap.size, 0, none⟩ = some (.int .u64 (c.a : Int)) := S0.out.cell 0
        have k1 : w1.cell? ⟨w.heap.size, 1, none⟩ = some (.int .u64 (c.b : Int)) := S0.out.cell 1
        clear hb1 k2 k3
        go_wp2_with fail
        refine (HWI.out _).mono ?_
        rintro e w2 ⟨rfl, hb2⟩
        have HB2 := Lib.hid (HB1.out.trans (hb2.mono HB1.out.size))
        have HB2A := Lib.hid (HBA.out.trans (hb2.mono HBA.out.size))
        have T0 := Lib.hid (S0.out.later hb2)
        have T1 := Lib.hid (R1.out.later HB2.out)
        have T2 := Lib.hid (R2.out.later HB2.out)
        have f0 := T0.out.fr 0
        have f1 := T0.out.fr 1
        have hz : w.heap.size < w2.heap.size := T0.out.lt
        have j0 : w2.cell? ⟨w.heap.size, 0, none⟩ = some (.int .u64 (c.a : Int)) := T0.out.cell 0
        have j1 : w2.cell? ⟨w.heap.size, 1, none⟩ = some (.int .u64 (c.b : Int)) := T0.out.cell 1
        obtain ⟨d, hdd⟩ : ∃ d, d = c.add ((k : Int) + 1) := ⟨_, rfl⟩
        rw [← hdd] at HU ⊢
        clear hb2 k0 k1 hdd
        go_wp2
        go_roundw
        case rel => exact ⟨k + 1, by omega, by go_num, by rw [HU.out]; exact (T0.out.set 0 _).set 1 _, (T1.out.other _ _ (by simp)).other _ _ (by simp), (T2.out.other _ _ (by simp; omega)).other _ _ (by simp; omega), (HB2A.out.setCell (Nat.le_refl _) _).setCell (Nat.le_refl _) _⟩
        case measure => simp [intOf]; omega
    · have : k = 128 := by omega
      subst this
      have HE := Lib.hid (upU_end HS.out HTT.out)
      obtain ⟨c, hc⟩ : ∃ c, c = upU s t 128 := ⟨_, rfl⟩
      rw [← hc] at R0
      rw [← hc] at HE
      have k0 : wr.cell? ⟨w.heap.size, 0, none⟩ = some (.int .u64 (c.a : Int)) := R0.out.cell 0
      have k1 : wr.cell? ⟨w.heap.size, 1, none⟩ = some (.int .u64 (c.b : Int)) := R0.out.cell 1
      have j0 : wr.cell? ⟨w.heap.size + 1 + 1, 0, none⟩ = some (.int .u64 0) := R2.out.cell 0
      have j1 : wr.cell? ⟨w.heap.size + 1 + 1, 1, none⟩ = some (.int .u64 0) := R2.out.cell 1
      have f0 := R2.out.fr 0
      have f1 := R2.out.fr 1
      have hz : w.heap.size + 1 + 1 < wr.heap.size := R2.out.lt
      clear hc
      go_wp2
      have hbr := (R2.out.set 0 (.int .u64 (c.a : Int))).set 1 (.int .u64 (c.b : Int))
      have e0 : ((wr.setCell ⟨w.heap.size + 1 + 1, 0, none⟩ (.int .u64 (c.a : Int))).setCell ⟨w.heap.size + 1 + 1, 1, none⟩ (.int .u64 (c.b : Int))).cell? ⟨w.heap.size + 1 + 1, 0, none⟩ = some (.int .u64 (c.a : Int)) := hbr.cell 0
      have e1 : ((wr.setCell ⟨w.heap.size + 1 + 1, 0, none⟩ (.int .u64 (c.a : Int))).setCell ⟨w.heap.size + 1 + 1, 1, none⟩ (.int .u64 (c.b : Int))).cell? ⟨w.heap.size + 1 + 1, 1, none⟩ = some (.int .u64 (c.b : Int)) := hbr.cell 1
      exact bodyPost_ret (v := stv c) (by simp [results, Tryz.results117, go_sem, e0, e1]) rfl ⟨by rw [HE.out], (HB.out.setCell (show w.heap.size ≤ (⟨w.heap.size + 1 + 1, 0, none⟩ : Addr).block by dsimp only; omega) _).setCell (show w.heap.size ≤ (⟨w.heap.size + 1 + 1, 1, none⟩ : Addr).block by dsimp only; omega) _⟩

/-- A valid net is valid. -/
theorem valid21_any (n : Int) (a : Option Addr) (cap : Nat) (l : List Nd) (w : World) (hok : netOk ⟨n, l⟩ = true) (hx : NdCells w a l) :
    Calls Tryz.prog 72 #[.agg #[.int .i64 n, .slice a l.length cap]] w fun e w' => e = .returned (.bool true) ∧ Below w.heap.size w w' := by
  have HB0 := Lib.hid ((Below.refl w.heap.size w).alloc (Nat.le_refl _) (.cells #[.int .i64 n, .slice a l.length cap] 24))
  have q0 := Lib.hid (Blk.new w #[.int .i64 n, .slice a l.length cap] 24)
  have HX := Lib.hid hx
  have HOK := Lib.hid hok
  obtain ⟨hn0, hn1, hl1, hl2⟩ := netOk_head hok
  simp only at hn0 hn1 hl1 hl2
  have d1 : decide (n < 0) = false := by simpa using hn0
  have d2 : decide (128 < n) = false := by simpa using hn1
  have d3 : ((l.length : Int) == 0) = false := by simp; intro h; rw [h] at hl1; simp at hl1
  have d4 : decide ((65536 : Int) < (l.length : Int)) = false := by simp; omega
  clear hx hok
  go_enter Tryz.func72, Tryz.ntmps72
  go_wp2
  generalize w.alloc (.cells #[.int .i64 n, .slice a l.length cap] 24) = W at *
  go_loopw [3] (fun i wr => ∃ k : Nat, k ≤ l.length ∧ i = .int .i64 k ∧ Below W.heap.size W wr) (fun i _ => l.length - (intOf i).toNat)
  case atStart => exact ⟨0, Nat.zero_le _, rfl, Below.refl _ _⟩
  case round =>
    obtain ⟨k, hk, rfl, hb⟩ := hrel
    have HB := Lib.hid hb
    have HBA := Lib.hid (HB0.out.trans (hb.mono HB0.out.size))
    have R0 := Lib.hid (q0.out.later hb)
    have k0 : wr.cell? ⟨w.heap.size, 0, none⟩ = some (.int .i64 n) := R0.out.cell 0
    have k1 : wr.cell? ⟨w.heap.size, 1, none⟩ = some (.slice a l.length cap) := R0.out.cell 1
    have hzw : w.heap.size < wr.heap.size := R0.out.lt
    clear hb
    by_cases hlt : k < l.length
    · obtain ⟨b, off, rfl, c0, c1, av, cv, c2, hin, hil⟩ := (HX.out.keep HBA.out) k hlt
      have hgd : l.getD k default = l[k] := by simp [List.getD_eq_getElem?_getD, hlt]
      have hnk := netOk_nd HOK.out hlt
      rw [hgd] at c0 c1 c2 hin hil
      simp only at hnk
      generalize l[k] = x at *
      have HIN := Lib.hid hin
      have HNK := Lib.hid hnk
      have hbz : b < wr.heap.size := cell_block c0
      have hk5 := formOk_kind hnk
      have hins := ndOk_ins hnk
      have HINS := Lib.hid hins
      have HLE : Hid (x.kind ≠ 2 → x.lit = 0) := by
        intro h2
        have h3 := hnk
        simp only [ndOk, Bool.and_eq_true] at h3
        have h4 := h3.2
        unfold formOk at h4
        by_cases e0 : x.kind = 0 ∨ x.kind = 1
        · rw [if_pos e0] at h4; simp at h4; exact h4.1
        · rw [if_neg e0, if_neg h2, if_pos (by omega)] at h4; simpa using h4
      have HLI : Hid (x.kind = 2 → litOk x.lit n = true) := fun h2 => by
        have := ndOk_lit hnk h2
        simp [litOk, this.1, this.2]
      have HKI : Hid (x.kind < 3 → x.ins = []) := fun h3 => Classical.byContradiction fun hne => by have := ins_kind hnk hne; omega
      rcases x with ⟨kd, lt, ins⟩
      simp only at *
      clear hin hnk hins hgd
      have hd5 : kd < 3 → decide ((0 : Int) < (ins.length : Int)) = false := fun h => by rw [HKI.out h]; rfl
      have key : (kd ≠ 2 → lt = 0) ∧ (kd = 2 → litOk lt n = true) := ⟨HLE.out, HLI.out⟩
      obtain ⟨hle, hli⟩ := key
      have HD5 := Lib.hid hd5
      have HB6 := Lib.hid (HB.out.alloc HB.out.size (.cells #[.int .i64 kd, .int .i64 lt, .slice av ins.length cv] 73))
      have HBK := Lib.hid (Blk.new wr #[.int .i64 kd, .int .i64 lt, .slice av ins.length cv] 73)
      have HIN6 := Lib.hid (HIN.out.keep ((Below.refl wr.heap.size wr).alloc (Nat.le_refl _) (.cells #[.int .i64 kd, .int .i64 lt, .slice av ins.length cv] 73)))
      clear hd5
      rcases hk5 with rfl | rfl | rfl | rfl | rfl
      · have hl0 := hle (by omega)
        subst hl0
        have d5 := HD5.out (by omega)
        have d6 : decide (0 < ins.length) = false := by simpa using d5
        have d7 : ¬ (0 < ins.length) := by simpa using d6
        clear hle hli
        go_wp2_with fail
        generalize wr.alloc (.cells #[.int .i64 0, .int .i64 0, .slice av ins.length cv] 73) = V at *
        have j2 : V.cell? ⟨wr.heap.size, 2, none⟩ = some (.slice av ins.length cv) := HBK.out.cell 2
        go_loop [5] (fun i => ∃ m : Nat, m ≤ ins.length ∧ i = .int .i64 m) (fun i => ins.length - (intOf i).toNat)
        case atStart => exact ⟨0, Nat.zero_le _, rfl⟩
        case round =>
          obtain ⟨m, hm, rfl⟩ := hrel
          by_cases hlm : m < ins.length
          · exact absurd (Nat.lt_of_le_of_lt (Nat.zero_le _) hlm) d7
          · have : m = ins.length := by omega
            subst this
            go_wp2
            go_roundw
            case rel => exact ⟨k + 1, by omega, by go_num, HB6.out⟩
            case measure => simp [intOf]; omega
      · have hl0 := hle (by omega)
        subst hl0
        have d5 := HD5.out (by omega)
        have d6 : decide (0 < ins.length) = false := by simpa using d5
        have d7 : ¬ (0 < ins.length) := by simpa using d6
        clear hle hli
        go_wp2_with fail
        generalize wr.alloc (.cells #[.int .i64 1, .int .i64 0, .slice av ins.length cv] 73) = V at *
        have j2 : V.cell? ⟨wr.heap.size, 2, none⟩ = some (.slice av ins.length cv) := HBK.out.cell 2
        go_loop [5] (fun i => ∃ m : Nat, m ≤ ins.length ∧ i = .int .i64 m) (fun i => ins.length - (intOf i).toNat)
        case atStart => exact ⟨0, Nat.zero_le _, rfl⟩
        case round =>
          obtain ⟨m, hm, rfl⟩ := hrel
          by_cases hlm : m < ins.length
          · exact absurd (Nat.lt_of_le_of_lt (Nat.zero_le _) hlm) d7
          · have : m = ins.length := by omega
            subst this
            go_wp2
            go_roundw
            case rel => exact ⟨k + 1, by omega, by go_num, HB6.out⟩
            case measure => simp [intOf]; omega
      · have HL2 := Lib.hid (hli rfl)
        have d5 := HD5.out (by omega)
        have d6 : decide (0 < ins.length) = false := by simpa using d5
        have d7 : ¬ (0 < ins.length) := by simpa using d6
        have s0 : (wr.alloc (.cells #[.int .i64 2, .int .i64 lt, .slice av ins.length cv] 73)).cell? ⟨w.heap.size, 0, none⟩ = some (.int .i64 n) := (R0.out.alloc _).cell 0
        clear hle hli
        go_wp2_with fail
        refine (valid5_any lt n _ hn0 hn1 HL2.out).mono ?_
        rintro e w' ⟨rfl, rfl⟩
        go_wp2_with fail
        generalize wr.alloc (.cells #[.int .i64 2, .int .i64 lt, .slice av ins.length cv] 73) = V at *
        have j2 : V.cell? ⟨wr.heap.size, 2, none⟩ = some (.slice av ins.length cv) := HBK.out.cell 2
        go_loop [5] (fun i => ∃ m : Nat, m ≤ ins.length ∧ i = .int .i64 m) (fun i => ins.length - (intOf i).toNat)
        case atStart => exact ⟨0, Nat.zero_le _, rfl⟩
        case round =>
          obtain ⟨m, hm, rfl⟩ := hrel
          by_cases hlm : m < ins.length
          · exact absurd (Nat.lt_of_le_of_lt (Nat.zero_le _) hlm) d7
          · have : m = ins.length := by omega
            subst this
            go_wp2
            go_roundw
            case rel => exact ⟨k + 1, by omega, by go_num, HB6.out⟩
            case measure => simp [intOf]; omega
      · have hl0 := hle (by omega)
        subst hl0
        clear hle hli
        go_wp2_with fail
        generalize wr.alloc (.cells #[.int .i64 3, .int .i64 0, .slice av ins.length cv] 73) = V at *
        have j2 : V.cell? ⟨wr.heap.size, 2, none⟩ = some (.slice av ins.length cv) := HBK.out.cell 2
        go_loop [5] (fun i => ∃ m : Nat, m ≤ ins.length ∧ i = .int .i64 m) (fun i => ins.length - (intOf i).toNat)
        case atStart => exact ⟨0, Nat.zero_le _, rfl⟩
        case round =>
          obtain ⟨m, hm, rfl⟩ := hrel
          by_cases hlm : m < ins.length
          · obtain ⟨b2, off2, rfl, e0⟩ := HIN6.out m hlm
            have hgd2 : ins.getD m 0 = ins[m] := by simp [List.getD_eq_getElem?_getD, hlm]
            have hy := HINS.out ins[m] (List.getElem_mem hlm)
            rw [hgd2] at e0
            generalize ins[m] = y at *
            obtain ⟨hy0, hy1⟩ := hy
            have g1 : decide (y < 0) = false := by simpa using hy0
            have g2 : decide ((k : Int) ≤ y) = false := by simpa using hy1
            clear hgd2
            go_wp2
            go_round
            case rel => exact ⟨m + 1, by omega, by go_num⟩
            case measure => simp [intOf]; omega
          · have : m = ins.length := by omega
            subst this
            go_wp2
            go_roundw
            case rel => exact ⟨k + 1, by omega, by go_num, HB6.out⟩
            case measure => simp [intOf]; omega
      · have hl0 := hle (by omega)
        subst hl0
        clear hle hli
        go_wp2_with fail
        generalize wr.alloc (.cells #[.int .i64 4, .int .i64 0, .slice av ins.length cv] 73) = V at *
        have j2 : V.cell? ⟨wr.heap.size, 2, none⟩ = some (.slice av ins.length cv) := HBK.out.cell 2
        go_loop [5] (fun i => ∃ m : Nat, m ≤ ins.length ∧ i = .int .i64 m) (fun i => ins.length - (intOf i).toNat)
        case atStart => exact ⟨0, Nat.zero_le _, rfl⟩
        case round =>
          obtain ⟨m, hm, rfl⟩ := hrel
          by_cases hlm : m < ins.length
          · obtain ⟨b2, off2, rfl, e0⟩ := HIN6.out m hlm
            have hgd2 : ins.getD m 0 = ins[m] := by simp [List.getD_eq_getElem?_getD, hlm]
            have hy := HINS.out ins[m] (List.getElem_mem hlm)
            rw [hgd2] at e0
            generalize ins[m] = y at *
            obtain ⟨hy0, hy1⟩ := hy
            have g1 : decide (y < 0) = false := by simpa using hy0
            have g2 : decide ((k : Int) ≤ y) = false := by simpa using hy1
            clear hgd2
            go_wp2
            go_round
            case rel => exact ⟨m + 1, by omega, by go_num⟩
            case measure => simp [intOf]; omega
          · have : m = ins.length := by omega
            subst this
            go_wp2
            go_roundw
            case rel => exact ⟨k + 1, by omega, by go_num, HB6.out⟩
            case measure => simp [intOf]; omega
    · have : k = l.length := by omega
      subst this
      go_wp2
      go_ret
      exact ⟨rfl, HBA.out⟩
end Go.Proofs.YtfdonhfhcomjaaaGreatDoor
