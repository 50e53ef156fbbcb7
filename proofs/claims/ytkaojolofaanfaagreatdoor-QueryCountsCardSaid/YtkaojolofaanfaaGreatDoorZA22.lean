/- Part of the proofs that laws of censuslaw38 return true for every input, where the tables that the rows list are laid. Texts: R21, R21U. -/
import Derived.Test.YtkaojolofaanfaaGreatDoorZA19
import Derived.Test.YtkaojolofaanfaaGreatDoorZA20

/- The walks of censusref05's Has and Valid, censusref21's With, Union, meets. -/
namespace Go.Proofs.YtkaojolofaanfaaGreatDoor
open Go.RowKit Cen
set_option maxHeartbeats 2000000
set_option maxRecDepth 100000
theorem mem_out {s : St} {v : Int} (h : ¬ (1 ≤ v ∧ v ≤ 128)) : s.mem v = false := by
  unfold St.mem; rw [if_neg (by omega), if_neg (by omega)]
theorem has5_any (s : St) (v : Int) (w : World) (_hs : s.ok) : Calls Tryz.prog 124 #[stv s, .int .i64 v] w fun e w' => e = .returned (.bool (s.mem v)) ∧ Below w.heap.size w w' := by
  by_cases h1 : 1 ≤ v
  · have d1 : decide (1 ≤ v) = true := by simpa using h1
    by_cases h2 : v ≤ 128
    · have d2 : decide (v ≤ 128) = true := by simpa using h2
      by_cases hv : v ≤ 64
      · have e1 : (v - 1) / 64 = 0 := by omega
        have e2 : (v - 1) % 64 = v - 1 := by omega
        go_enter Tryz.func124, Tryz.ntmps124
        go_wp2
        go_ret
        exact ⟨ret_bool (mem_lo s h1 hv), (Below.refl _ _).alloc (Nat.le_refl _) _⟩
      · have e1 : (v - 1) / 64 = 1 := by omega
        have e2 : (v - 1) % 64 = v - 65 := by omega
        have hv2 : 65 ≤ v := by omega
        go_enter Tryz.func124, Tryz.ntmps124
        go_wp2
        go_ret
        exact ⟨ret_bool (mem_hi s hv2 h2 _ (by omega)), (Below.refl _ _).alloc (Nat.le_refl _) _⟩
    · have d2 : decide (v ≤ 128) = false := by simpa using h2
      have HR : Hid (s.mem v = false) := mem_out (by omega)
      clear h2
      go_enter Tryz.func124, Tryz.ntmps124
      go_wp2
      go_ret
      exact ⟨ret_bool HR.out.symm, (Below.refl _ _).alloc (Nat.le_refl _) _⟩
  · have d1 : decide (1 ≤ v) = false := by simpa using h1
    have HR : Hid (s.mem v = false) := mem_out (by omega)
    clear h1
    go_enter Tryz.func124, Tryz.ntmps124
    go_wp2
    go_ret
    exact ⟨ret_bool HR.out.symm, (Below.refl _ _).alloc (Nat.le_refl _) _⟩
theorem valid5_any (l n : Int) (w : World) (hn0 : 0 ≤ n) (hn1 : n ≤ 128) (hl : litOk l n = true) : Calls Tryz.prog 122 #[.int .i64 l, .int .i64 n] w fun e w' => e = .returned (.bool true) ∧ w = w' := by
  simp only [litOk, Bool.and_eq_true, decide_eq_true_eq] at hl
  have h := litVar_ne hl.1
  have d1 : (l != 0) = true := by simp; omega
  have d2 : decide (-n ≤ l) = true := by simp; omega
  have d3 : decide (l ≤ n) = true := by simp; omega
  clear hl h
  go_enter Tryz.func122, Tryz.ntmps122
  go_wp2
  go_ret
  exact ⟨rfl, rfl⟩
theorem add_or {a k : Nat} (h : a.testBit k = false) : a + 2 ^ k = a ||| 2 ^ k := by
  have h1 : a % 2 ^ (k + 1) < 2 ^ k := by
    rw [Nat.testBit_eq_decide_div_mod_eq, decide_eq_false_iff_not] at h
    have h2 : a % 2 ^ (k + 1) = 2 ^ k * (a / 2 ^ k % 2) + a % 2 ^ k := by rw [Nat.pow_succ, Nat.mod_mul]; omega
    have h3 : a / 2 ^ k % 2 = 0 := by omega
    rw [h2, h3]
    have := Nat.mod_lt a (show 2 ^ k > 0 from Nat.pow_pos (by omega))
    omega
  have e : a = 2 ^ (k + 1) * (a / 2 ^ (k + 1)) + a % 2 ^ (k + 1) := (Nat.div_add_mod a (2 ^ (k + 1))).symm
  generalize a / 2 ^ (k + 1) = q at e
  generalize a % 2 ^ (k + 1) = r at e h1
  have hp : 2 ^ (k + 1) = 2 ^ k + 2 ^ k := by rw [Nat.pow_succ]; omega
  have e2 : 2 ^ k + r = 2 ^ k ||| r := by have := Nat.two_pow_add_eq_or_of_lt h1 1; simpa using this
  have e3 : 2 ^ (k + 1) * q + r = 2 ^ (k + 1) * q ||| r := Nat.two_pow_add_eq_or_of_lt (by omega) q
  have e4 : 2 ^ (k + 1) * q + (2 ^ k + r) = 2 ^ (k + 1) * q ||| (2 ^ k + r) := Nat.two_pow_add_eq_or_of_lt (by omega) q
  rw [e, show 2 ^ (k + 1) * q + r + 2 ^ k = 2 ^ (k + 1) * q + (2 ^ k + r) by omega, e4, e2, e3, Nat.or_assoc, Nat.or_comm r]
theorem add_same {s : St} {v : Int} (hs : s.ok) (h : s.mem v = true) : s.add v = s := by
  apply St.ext (St.add_ok hs v) hs
  intro u _ _
  rw [St.mem_add]
  by_cases e : u = v
  · subst e; rw [h]; rfl
  · simp [e]
theorem wrap_add {a k : Nat} (ha : a < U64) (hb : a.testBit k = false) (hk : k < 64) : IntKind.u64.wrap ((a : Int) + IntKind.u64.wrap ((2 : Int) ^ k)) = ((a ||| 2 ^ k : Nat) : Int) := by
  have h1 : a + 2 ^ k < U64 := by rw [add_or hb]; exact or_lt_U64 ha (pow_lt_U64 hk)
  rw [wrap_pow hk, ← add_or hb]
  unfold U64 at h1
  generalize 2 ^ k = p at *
  rw [show ((a : Int) + (p : Int)) = ((a + p : Nat) : Int) by simp]
  exact IntWalk.u64_in _ (by omega)
theorem with21_any (s : St) (v : Int) (w : World) (hs : s.ok) (hv1 : 1 ≤ v) (hv2 : v ≤ 128) : Calls Tryz.prog 62 #[stv s, .int .i64 v] w fun e w' => e = .returned (stv (s.add v)) ∧ Below w.heap.size w w' := by
  have hb0 := ((Below.refl w.heap.size w).alloc (Nat.le_refl _) (.cells #[.int .u64 (s.a : Int), .int .u64 (s.b : Int)] 54)).alloc (by simp) (.cells #[.int .u64 0, .int .u64 0] 54)
  have HB0 := Lib.hid hb0
  have HH := Lib.hid (fun V => has5_any s v V hs)
  have q0 := Lib.hid ((Blk.new w #[.int .u64 (s.a : Int), .int .u64 (s.b : Int)] 54).alloc (.cells #[.int .u64 0, .int .u64 0] 54))
  have q1 := Lib.hid (Blk.new' (w.alloc (.cells #[.int .u64 (s.a : Int), .int .u64 (s.b : Int)] 54)) (World.size_alloc _ _) #[.int .u64 0, .int .u64 0] 54)
  have HS := Lib.hid hs
  clear hb0 hs
  cases hm : s.mem v with
  | true =>
    rw [hm] at HH
    have HR : Hid (s.add v = s) := add_same HS.out hm
    clear hm
    go_enter Tryz.func62, Tryz.ntmps62
    go_wp2_with fail
    refine (HH.out _).mono ?_
    rintro e w1 ⟨rfl, hb1⟩
    have R0 := Lib.hid (q0.out.later hb1)
    have R1 := Lib.hid (q1.out.later hb1)
    have HB1 := Lib.hid (HB0.out.trans (hb1.mono HB0.out.size))
    have k0 : w1.cell? ⟨w.heap.size, 0, none⟩ = some (.int .u64 (s.a : Int)) := R0.out.cell 0
    have k1 : w1.cell? ⟨w.heap.size, 1, none⟩ = some (.int .u64 (s.b : Int)) := R0.out.cell 1
    have k2 : w1.cell? ⟨w.heap.size + 1, 0, none⟩ = some (.int .u64 0) := R1.out.cell 0
    have k3 : w1.cell? ⟨w.heap.size + 1, 1, none⟩ = some (.int .u64 0) := R1.out.cell 1
    have f0 := R1.out.fr 0
    have f1 := R1.out.fr 1
    have hz : w.heap.size + 1 < w1.heap.size := R1.out.lt
    clear hb1
    go_wp2
    have hbr := (R1.out.set 0 (.int .u64 (s.a : Int))).set 1 (.int .u64 (s.b : Int))
    have e0 : ((w1.setCell ⟨w.heap.size + 1, 0, none⟩ (.int .u64 (s.a : Int))).setCell ⟨w.heap.size + 1, 1, none⟩ (.int .u64 (s.b : Int))).cell? ⟨w.heap.size + 1, 0, none⟩ = some (.int .u64 (s.a : Int)) := hbr.cell 0
    have e1 : ((w1.setCell ⟨w.heap.size + 1, 0, none⟩ (.int .u64 (s.a : Int))).setCell ⟨w.heap.size + 1, 1, none⟩ (.int .u64 (s.b : Int))).cell? ⟨w.heap.size + 1, 1, none⟩ = some (.int .u64 (s.b : Int)) := hbr.cell 1
    exact bodyPost_ret (v := stv s) (by simp [results, Tryz.results62, go_sem, e0, e1]) rfl ⟨by rw [HR.out], (HB1.out.setCell (show w.heap.size ≤ (⟨w.heap.size + 1, 0, none⟩ : Addr).block by dsimp only; omega) _).setCell (show w.heap.size ≤ (⟨w.heap.size + 1, 1, none⟩ : Addr).block by dsimp only; omega) _⟩
  | false =>
    rw [hm] at HH
    by_cases hv : v ≤ 64
    · have e1 : (v - 1) / 64 = 0 := by omega
      have e2 : (v - 1) % 64 = v - 1 := by omega
      have hbit : s.a.testBit (v.toNat - 1) = false := by
        have := hm; unfold St.mem at this; rw [if_pos (by omega)] at this
        rwa [show (v - 1).toNat = v.toNat - 1 by omega] at this
      obtain ⟨A, hA⟩ : ∃ A : Nat, A = s.a ||| 2 ^ (v.toNat - 1) := ⟨_, rfl⟩
      have HR : Hid (s.add v = ⟨A, s.b⟩) := by
        show _ = _; unfold St.add; rw [if_pos (by omega), show (v - 1).toNat = v.toNat - 1 by omega, hA]
      have hw : IntKind.u64.wrap ((s.a : Int) + IntKind.u64.wrap ((2 : Int) ^ (v.toNat - 1))) = (A : Int) := by rw [hA]; exact wrap_add HS.out.1 hbit (by omega)
      clear hm hbit hA
      go_enter Tryz.func62, Tryz.ntmps62
      go_wp2_with fail
      refine (HH.out _).mono ?_
      rintro e w1 ⟨rfl, hb1⟩
      have R0 := Lib.hid (q0.out.later hb1)
      have R1 := Lib.hid (q1.out.later hb1)
      have HB1 := Lib.hid (HB0.out.trans (hb1.mono HB0.out.size))
      have k0 : w1.cell? ⟨w.heap.size, 0, none⟩ = some (.int .u64 (s.a : Int)) := R0.out.cell 0
      have k1 : w1.cell? ⟨w.heap.size, 1, none⟩ = some (.int .u64 (s.b : Int)) := R0.out.cell 1
      have k2 : w1.cell? ⟨w.heap.size + 1, 0, none⟩ = some (.int .u64 0) := R1.out.cell 0
      have k3 : w1.cell? ⟨w.heap.size + 1, 1, none⟩ = some (.int .u64 0) := R1.out.cell 1
      have f0 := R1.out.fr 0
      have f1 := R1.out.fr 1
      have g0 := R0.out.fr 0
      have g1 := R0.out.fr 1
      have hz : w.heap.size + 1 < w1.heap.size := R1.out.lt
      clear hb1
      go_wp2
      have hbr := ((R1.out.other ⟨w.heap.size, 0, none⟩ (.int .u64 (A : Int)) (by simp)).set 0 (.int .u64 (A : Int))).set 1 (.int .u64 (s.b : Int))
      have e0 : (((w1.setCell ⟨w.heap.size, 0, none⟩ (.int .u64 (A : Int))).setCell ⟨w.heap.size + 1, 0, none⟩ (.int .u64 (A : Int))).setCell ⟨w.heap.size + 1, 1, none⟩ (.int .u64 (s.b : Int))).cell? ⟨w.heap.size + 1, 0, none⟩ = some (.int .u64 (A : Int)) := hbr.cell 0
      have e1 : (((w1.setCell ⟨w.heap.size, 0, none⟩ (.int .u64 (A : Int))).setCell ⟨w.heap.size + 1, 0, none⟩ (.int .u64 (A : Int))).setCell ⟨w.heap.size + 1, 1, none⟩ (.int .u64 (s.b : Int))).cell? ⟨w.heap.size + 1, 1, none⟩ = some (.int .u64 (s.b : Int)) := hbr.cell 1
      exact bodyPost_ret (v := stv ⟨A, s.b⟩) (by simp [results, Tryz.results62, go_sem, e0, e1]) rfl ⟨by rw [HR.out], ((HB1.out.setCell (show w.heap.size ≤ (⟨w.heap.size, 0, none⟩ : Addr).block from Nat.le_refl _) _).setCell (show w.heap.size ≤ (⟨w.heap.size + 1, 0, none⟩ : Addr).block by dsimp only; omega) _).setCell (show w.heap.size ≤ (⟨w.heap.size + 1, 1, none⟩ : Addr).block by dsimp only; omega) _⟩
    · have e1 : (v - 1) / 64 = 1 := by omega
      have e2 : (v - 1) % 64 = v - 65 := by omega
      have hv65 : 65 ≤ v := by omega
      have hbit : s.b.testBit (v - 65).toNat = false := by
        have := hm; unfold St.mem at this; rw [if_neg (by omega), if_pos (by omega)] at this
        exact this
      obtain ⟨A, hA⟩ : ∃ A : Nat, A = s.b ||| 2 ^ (v - 65).toNat := ⟨_, rfl⟩
      have HR : Hid (s.add v = ⟨s.a, A⟩) := by
        show _ = _; unfold St.add; rw [if_neg (by omega), if_pos (by omega), hA]
      have hw : IntKind.u64.wrap ((s.b : Int) + IntKind.u64.wrap ((2 : Int) ^ (v - 65).toNat)) = (A : Int) := by rw [hA]; exact wrap_add HS.out.2 hbit (by omega)
      clear hm hbit hA
      go_enter Tryz.func62, Tryz.ntmps62
      go_wp2_with fail
      refine (HH.out _).mono ?_
      rintro e w1 ⟨rfl, hb1⟩
      have R0 := Lib.hid (q0.out.later hb1)
      have R1 := Lib.hid (q1.out.later hb1)
      have HB1 := Lib.hid (HB0.out.trans (hb1.mono HB0.out.size))
      have k0 : w1.cell? ⟨w.heap.size, 0, none⟩ = some (.int .u64 (s.a : Int)) := R0.out.cell 0
      have k1 : w1.cell? ⟨w.heap.size, 1, none⟩ = some (.int .u64 (s.b : Int)) := R0.out.cell 1
      have k2 : w1.cell? ⟨w.heap.size + 1, 0, none⟩ = some (.int .u64 0) := R1.out.cell 0
      have k3 : w1.cell? ⟨w.heap.size + 1, 1, none⟩ = some (.int .u64 0) := R1.out.cell 1
      have f0 := R1.out.fr 0
      have f1 := R1.out.fr 1
      have g0 := R0.out.fr 0
      have g1 := R0.out.fr 1
      have hz : w.heap.size + 1 < w1.heap.size := R1.out.lt
      clear hb1
      go_wp2
      have hbr := ((R1.out.other ⟨w.heap.size, 1, none⟩ (.int .u64 (A : Int)) (by simp)).set 0 (.int .u64 (s.a : Int))).set 1 (.int .u64 (A : Int))
      have e0 : (((w1.setCell ⟨w.heap.size, 1, none⟩ (.int .u64 (A : Int))).setCell ⟨w.heap.size + 1, 0, none⟩ (.int .u64 (s.a : Int))).setCell ⟨w.heap.size + 1, 1, none⟩ (.int .u64 (A : Int))).cell? ⟨w.heap.size + 1, 0, none⟩ = some (.int .u64 (s.a : Int)) := hbr.cell 0
      have e1 : (((w1.setCell ⟨w.heap.size, 1, none⟩ (.int .u64 (A : Int))).setCell ⟨w.heap.size + 1, 0, none⟩ (.int .u64 (s.a : Int))).setCell ⟨w.heap.size + 1, 1, none⟩ (.int .u64 (A : Int))).cell? ⟨w.heap.size + 1, 1, none⟩ = some (.int .u64 (A : Int)) := hbr.cell 1
      exact bodyPost_ret (v := stv ⟨s.a, A⟩) (by simp [results, Tryz.results62, go_sem, e0, e1]) rfl ⟨by rw [HR.out], ((HB1.out.setCell (show w.heap.size ≤ (⟨w.heap.size, 1, none⟩ : Addr).block from Nat.le_refl _) _).setCell (show w.heap.size ≤ (⟨w.heap.size + 1, 0, none⟩ : Addr).block by dsimp only; omega) _).setCell (show w.heap.size ≤ (⟨w.heap.size + 1, 1, none⟩ : Addr).block by dsimp only; omega) _⟩
theorem meets_any (s t : St) (w : World) (hs : s.ok) (ht : t.ok) : Calls Tryz.prog 118 #[stv s, stv t] w fun e w' => e = .returned (.bool (decide (s.cut t ≠ St.zero))) ∧ Below w.heap.size w w' := by
  have hb0 := ((Below.refl w.heap.size w).alloc (Nat.le_refl _) (.cells #[.int .u64 (s.a : Int), .int .u64 (s.b : Int)] 54)).alloc (by simp) (.cells #[.int .u64 (t.a : Int), .int .u64 (t.b : Int)] 54)
  have HB0 := Lib.hid hb0
  have HA := Lib.hid (fun v V => has5_any s v V hs)
  have HT := Lib.hid (fun v V => has5_any t v V ht)
  have q0 := Lib.hid ((Blk.new w #[.int .u64 (s.a : Int), .int .u64 (s.b : Int)] 54).alloc (.cells #[.int .u64 (t.a : Int), .int .u64 (t.b : Int)] 54))
  have q1 := Lib.hid (Blk.new' (w.alloc (.cells #[.int .u64 (s.a : Int), .int .u64 (s.b : Int)] 54)) (World.size_alloc _ _) #[.int .u64 (t.a : Int), .int .u64 (t.b : Int)] 54)
  have HS := Lib.hid hs
  have HTT := Lib.hid ht
  clear hb0 hs ht
  go_enter Tryz.func118, Tryz.ntmps118
  go_wp2
  generalize (w.alloc (.cells #[.int .u64 (s.a : Int), .int .u64 (s.b : Int)] 54)).alloc (.cells #[.int .u64 (t.a : Int), .int .u64 (t.b : Int)] 54) = W at *
  go_loopw [5] (fun i wr => ∃ k : Nat, k ≤ 128 ∧ i = .int .i64 (k + 1) ∧ (∀ u : Int, 1 ≤ u → u ≤ k → (s.mem u && t.mem u) = false) ∧ Below W.heap.size W wr) (fun i _ => 129 - (intOf i).toNat)
  case atStart => exact ⟨0, by omega, rfl, fun u h1 h2 => by omega, Below.refl _ _⟩
  case round =>
    obtain ⟨k, hk, rfl, hno, hb⟩ := hrel
    have HN := Lib.hid hno
    have HB := Lib.hid hb
    have R0 := Lib.hid (q0.out.later hb)
    have R1 := Lib.hid (q1.out.later hb)
    have HBA := Lib.hid (HB0.out.trans (hb.mono HB0.out.size))
    have k0 : wr.cell? ⟨w.heap.size, 0, none⟩ = some (.int .u64 (s.a : Int)) := R0.out.cell 0
    have k1 : wr.cell? ⟨w.heap.size, 1, none⟩ = some (.int .u64 (s.b : Int)) := R0.out.cell 1
    clear hno hb
    by_cases hlt : k < 128
    · have hd : decide (((k : Int) + 1) ≤ 128) = true := by simp; omega
      cases h1 : s.mem ((k : Int) + 1) with
      | false =>
        have HA1 := Lib.hid (HA.out ((k : Int) + 1))
        rw [h1] at HA1
        have H1 := Lib.hid h1
        clear h1
        go_wp2_with fail
        refine (HA1.out _).mono ?_
        rintro e w1 ⟨rfl, hb1⟩
        have HB1 := Lib.hid (HB.out.trans (hb1.mono HB.out.size))
        clear hb1
        go_wp2
        go_roundw
        case rel => exact ⟨k + 1, by omega, by go_num, fun u hu1 hu2 => by
          by_cases e : u = (k : Int) + 1
          · rw [e, H1.out]; rfl
          · exact HN.out u hu1 (by omega), HB1.out⟩
        case measure => simp [intOf]; omega
      | true =>
        have HA1 := Lib.hid (HA.out ((k : Int) + 1))
        rw [h1] at HA1
        have H1 := Lib.hid h1
        clear h1
        go_wp2_with fail
        refine (HA1.out _).mono ?_
        rintro e w1 ⟨rfl, hb1⟩
        have HB1 := Lib.hid (HB.out.trans (hb1.mono HB.out.size))
        have R11 := R1.out.later hb1
        have k2 : w1.cell? ⟨w.heap.size + 1, 0, none⟩ = some (.int .u64 (t.a : Int)) := R11.cell 0
        have k3 : w1.cell? ⟨w.heap.size + 1, 1, none⟩ = some (.int .u64 (t.b : Int)) := R11.cell 1
        clear hb1 k0 k1 R11
        cases h2 : t.mem ((k : Int) + 1) with
        | false =>
          have HT1 := Lib.hid (HT.out ((k : Int) + 1))
          rw [h2] at HT1
          have H2 := Lib.hid h2
          clear h2
          go_wp2_with fail
          refine (HT1.out _).mono ?_
          rintro e w2 ⟨rfl, hb2⟩
          have HB2 := Lib.hid (HB1.out.trans (hb2.mono HB1.out.size))
          clear hb2
          go_wp2
          go_roundw
          case rel => exact ⟨k + 1, by omega, by go_num, fun u hu1 hu2 => by
            by_cases e : u = (k : Int) + 1
            · rw [e, H2.out]; simp
            · exact HN.out u hu1 (by omega), HB2.out⟩
          case measure => simp [intOf]; omega
        | true =>
          have HT1 := Lib.hid (HT.out ((k : Int) + 1))
          rw [h2] at HT1
          have HR : Hid (decide (s.cut t ≠ St.zero) = true) := by
            show _ = _; rw [decide_eq_true_iff]; intro e
            have : (s.cut t).mem ((k : Int) + 1) = true := by rw [St.mem_cut, H1.out, h2]; rfl
            rw [e, St.mem_zero] at this; simp at this
          clear h2
          go_wp2_with fail
          refine (HT1.out _).mono ?_
          rintro e w2 ⟨rfl, hb2⟩
          have HB2 := Lib.hid (HB1.out.trans (hb2.mono HB1.out.size))
          clear hb2
          go_wp2
          go_ret
          exact ⟨ret_bool HR.out.symm, HB0.out.trans (HB2.out.mono HB0.out.size)⟩
    · have : k = 128 := by omega
      subst this
      have HR : Hid (decide (s.cut t ≠ St.zero) = false) := by
        show _ = _; rw [decide_eq_false_iff_not]; intro hne; apply hne
        apply St.ext (St.cut_ok HS.out) St.zero_ok
        intro u hu1 hu2
        rw [St.mem_zero, St.mem_cut]
        exact HN.out u hu1 (by omega)
      go_wp2
      go_ret
      exact ⟨ret_bool HR.out.symm, HBA.out⟩
end Go.Proofs.YtkaojolofaanfaaGreatDoor

/- The walks of censusref21's Union and Valid. -/
namespace Go.Proofs.YtkaojolofaanfaaGreatDoor
open Go.RowKit Cen
set_option maxHeartbeats 2000000
set_option maxRecDepth 100000
def upU (s t : St) : Nat → St
  | 0 => s
  | k + 1 => if t.mem (k + 1 : Nat) then (upU s t k).add (k + 1 : Nat) else upU s t k
theorem upU_ok {s t : St} (hs : s.ok) (k : Nat) : (upU s t k).ok := by
  induction k with
  | zero => exact hs
  | succ k ih => rw [upU]; split; exact St.add_ok ih _; exact ih
theorem upU_mem {s t : St} (k : Nat) (hk : k ≤ 128) (u : Int) : (upU s t k).mem u = (s.mem u || (decide (u ≤ k) && t.mem u)) := by
  induction k with
  | zero =>
    rw [upU]
    by_cases h : 1 ≤ u ∧ u ≤ 128
    · rw [decide_eq_false (by omega)]; simp
    · rw [mem_out h, mem_out h]; simp
  | succ k ih =>
    have ih := ih (by omega)
    rw [upU]
    cases h : t.mem (k + 1 : Nat) with
    | true =>
      rw [if_pos rfl, St.mem_add, ih]
      by_cases e : u = (k + 1 : Nat)
      · subst e
        have a1 : decide (((k + 1 : Nat) : Int) ≤ (k : Int)) = false := decide_eq_false (by omega)
        have a2 : decide (1 ≤ ((k + 1 : Nat) : Int)) = true := decide_eq_true (by omega)
        have a3 : decide (((k + 1 : Nat) : Int) ≤ 128) = true := decide_eq_true (by omega)
        have a4 : decide (((k + 1 : Nat) : Int) ≤ ((k + 1 : Nat) : Int)) = true := decide_eq_true (Int.le_refl _)
        have a5 : decide (((k + 1 : Nat) : Int) = ((k + 1 : Nat) : Int)) = true := decide_eq_true rfl
        rw [h, a1, a2, a3, a4, a5]; simp
      · rw [decide_eq_false e, show decide (u ≤ ((k + 1 : Nat) : Int)) = decide (u ≤ (k : Int)) by rw [decide_eq_decide]; omega]; simp
    | false =>
      rw [if_neg (by simp), ih]
      by_cases e : u = (k + 1 : Nat)
      · subst e; rw [h]; simp
      · rw [show decide (u ≤ ((k + 1 : Nat) : Int)) = decide (u ≤ (k : Int)) by rw [decide_eq_decide]; omega]
theorem upU_end {s t : St} (hs : s.ok) (ht : t.ok) : upU s t 128 = s.union t := by
  apply St.ext (upU_ok hs _) (St.union_ok hs ht)
  intro u h1 h2
  rw [upU_mem 128 (Nat.le_refl _), St.mem_union, decide_eq_true (show u ≤ ((128 : Nat) : Int) from h2)]; simp
theorem union21_any (s t : St) (w : World) (hs : s.ok) (ht : t.ok) : Calls Tryz.prog 123 #[stv s, stv t] w fun e w' => e = .returned (stv (s.union t)) ∧ Below w.heap.size w w' := by
  have hb0 := (((Below.refl w.heap.size w).alloc (Nat.le_refl _) (.cells #[.int .u64 (s.a : Int), .int .u64 (s.b : Int)] 54)).alloc (by simp) (.cells #[.int .u64 (t.a : Int), .int .u64 (t.b : Int)] 54)).alloc (by simp; omega) (.cells #[.int .u64 0, .int .u64 0] 54)
  have HB0 := Lib.hid hb0
  have HT := Lib.hid (fun v V => has5_any t v V ht)
  have q0 := Lib.hid (((Blk.new w #[.int .u64 (s.a : Int), .int .u64 (s.b : Int)] 54).alloc (.cells #[.int .u64 (t.a : Int), .int .u64 (t.b : Int)] 54)).alloc (.cells #[.int .u64 0, .int .u64 0] 54))
  have q1 := Lib.hid ((Blk.new' (w.alloc (.cells #[.int .u64 (s.a : Int), .int .u64 (s.b : Int)] 54)) (World.size_alloc _ _) #[.int .u64 (t.a : Int), .int .u64 (t.b : Int)] 54).alloc (.cells #[.int .u64 0, .int .u64 0] 54))
  have q2 := Lib.hid (Blk.new' ((w.alloc (.cells #[.int .u64 (s.a : Int), .int .u64 (s.b : Int)] 54)).alloc (.cells #[.int .u64 (t.a : Int), .int .u64 (t.b : Int)] 54)) (b := w.heap.size + 1 + 1) (by simp only [World.size_alloc]) #[.int .u64 0, .int .u64 0] 54)
  have HS := Lib.hid hs
  have HTT := Lib.hid ht
  clear hb0 hs ht
  go_enter Tryz.func123, Tryz.ntmps123
  go_wp2
  generalize ((w.alloc (.cells #[.int .u64 (s.a : Int), .int .u64 (s.b : Int)] 54)).alloc (.cells #[.int .u64 (t.a : Int), .int .u64 (t.b : Int)] 54)).alloc (.cells #[.int .u64 0, .int .u64 0] 54) = W at *
  go_loopw [5] (fun i wr => ∃ k : Nat, k ≤ 128 ∧ i = .int .i64 (k + 1) ∧ Blk wr w.heap.size #[.int .u64 ((upU s t k).a : Int), .int .u64 ((upU s t k).b : Int)] 54 ∧ Blk wr (w.heap.size + 1) #[.int .u64 (t.a : Int), .int .u64 (t.b : Int)] 54 ∧ Blk wr (w.heap.size + 1 + 1) #[.int .u64 0, .int .u64 0] 54 ∧ Below w.heap.size w wr) (fun i _ => 129 - (intOf i).toNat)
  case atStart => exact ⟨0, by omega, rfl, q0.out, q1.out, q2.out, HB0.out⟩
  case round =>
    obtain ⟨k, hk, rfl, hk0, hk1, hk2, hb⟩ := hrel
    have HB := Lib.hid hb
    have R0 := Lib.hid hk0
    have R1 := Lib.hid hk1
    have R2 := Lib.hid hk2
    have k2 : wr.cell? ⟨w.heap.size + 1, 0, none⟩ = some (.int .u64 (t.a : Int)) := R1.out.cell 0
    have k3 : wr.cell? ⟨w.heap.size + 1, 1, none⟩ = some (.int .u64 (t.b : Int)) := R1.out.cell 1
    clear hk0 hk1 hk2 hb
    by_cases hlt : k < 128
    · have hd : decide (((k : Int) + 1) ≤ 128) = true := by simp; omega
      have HU : Hid (upU s t (k + 1) = if t.mem ((k : Int) + 1) then (upU s t k).add ((k : Int) + 1) else upU s t k) := rfl
      have HUO := Lib.hid (upU_ok (t := t) HS.out k)
      generalize upU s t k = c at *
      have HT1 := Lib.hid (HT.out ((k : Int) + 1))
      cases h1 : t.mem ((k : Int) + 1) with
      | false =>
        rw [h1] at HT1 HU
        clear h1
        go_wp2_with fail
        refine (HT1.out _).mono ?_
        rintro e w1 ⟨rfl, hb1⟩
        have HB1 := Lib.hid hb1
        have HBA := Lib.hid (HB.out.trans (hb1.mono HB.out.size))
        clear hb1
        go_wp2
        go_roundw
        case rel => exact ⟨k + 1, by omega, by go_num, by rw [HU.out]; exact R0.out.later HB1.out, R1.out.later HB1.out, R2.out.later HB1.out, HBA.out⟩
        case measure => simp [intOf]; omega
      | true =>
        rw [h1] at HT1 HU
        have HWI := Lib.hid (fun V => with21_any c ((k : Int) + 1) V HUO.out (by omega) (by omega))
        clear h1
        go_wp2_with fail
        refine (HT1.out _).mono ?_
        rintro e w1 ⟨rfl, hb1⟩
        have HB1 := Lib.hid hb1
        have HBA := Lib.hid (HB.out.trans (hb1.mono HB.out.size))
        have S0 := Lib.hid (R0.out.later hb1)
        have k0 : w1.cell? ⟨w.heap.size, 0, none⟩ = some (.int .u64 (c.a : Int)) := S0.out.cell 0
        have k1 : w1.cell? ⟨w.heap.size, 1, none⟩ = some (.int .u64 (c.b : Int)) := S0.out.cell 1
        clear hb1 k2 k3
        go_wp2_with fail
        refine (HWI.out _).mono ?_
        rintro e w2 ⟨rfl, hb2⟩
        have HB2 := Lib.hid (HB1.out.trans (hb2.mono HB1.out.size))
        have HB2A := Lib.hid (HBA.out.trans (hb2.mono HBA.out.size))
        have T0 := Lib.hid (S0.out.later hb2)
        have T1 := Lib.hid (R1.out.later HB2.out)
        have T2 := Lib.hid (R2.out.later HB2.out)
        have f0 := T0.out.fr 0
        have f1 := T0.out.fr 1
        have hz : w.heap.size < w2.heap.size := T0.out.lt
        have j0 : w2.cell? ⟨w.heap.size, 0, none⟩ = some (.int .u64 (c.a : Int)) := T0.out.cell 0
        have j1 : w2.cell? ⟨w.heap.size, 1, none⟩ = some (.int .u64 (c.b : Int)) := T0.out.cell 1
        obtain ⟨d, hdd⟩ : ∃ d, d = c.add ((k : Int) + 1) := ⟨_, rfl⟩
        rw [← hdd] at HU ⊢
        clear hb2 k0 k1 hdd
        go_wp2
        go_roundw
        case rel => exact ⟨k + 1, by omega, by go_num, by rw [HU.out]; exact (T0.out.set 0 _).set 1 _, (T1.out.other _ _ (by simp)).other _ _ (by simp), (T2.out.other _ _ (by simp; omega)).other _ _ (by simp; omega), (HB2A.out.setCell (Nat.le_refl _) _).setCell (Nat.le_refl _) _⟩
        case measure => simp [intOf]; omega
    · have : k = 128 := by omega
      subst this
      have HE := Lib.hid (upU_end HS.out HTT.out)
      obtain ⟨c, hc⟩ : ∃ c, c = upU s t 128 := ⟨_, rfl⟩
      rw [← hc] at R0
      rw [← hc] at HE
      have k0 : wr.cell? ⟨w.heap.size, 0, none⟩ = some (.int .u64 (c.a : Int)) := R0.out.cell 0
      have k1 : wr.cell? ⟨w.heap.size, 1, none⟩ = some (.int .u64 (c.b : Int)) := R0.out.cell 1
      have j0 : wr.cell? ⟨w.heap.size + 1 + 1, 0, none⟩ = some (.int .u64 0) := R2.out.cell 0
      have j1 : wr.cell? ⟨w.heap.size + 1 + 1, 1, none⟩ = some (.int .u64 0) := R2.out.cell 1
      have f0 := R2.out.fr 0
      have f1 := R2.out.fr 1
      have hz : w.heap.size + 1 + 1 < wr.heap.size := R2.out.lt
      clear hc
      go_wp2
      have hbr := (R2.out.set 0 (.int .u64 (c.a : Int))).set 1 (.int .u64 (c.b : Int))
      have e0 : ((wr.setCell ⟨w.heap.size + 1 + 1, 0, none⟩ (.int .u64 (c.a : Int))).setCell ⟨w.heap.size + 1 + 1, 1, none⟩ (.int .u64 (c.b : Int))).cell? ⟨w.heap.size + 1 + 1, 0, none⟩ = some (.int .u64 (c.a : Int)) := hbr.cell 0
      have e1 : ((wr.setCell ⟨w.heap.size + 1 + 1, 0, none⟩ (.int .u64 (c.a : Int))).setCell ⟨w.heap.size + 1 + 1, 1, none⟩ (.int .u64 (c.b : Int))).cell? ⟨w.heap.size + 1 + 1, 1, none⟩ = some (.int .u64 (c.b : Int)) := hbr.cell 1
      exact bodyPost_ret (v := stv c) (by simp [results, Tryz.results123, go_sem, e0, e1]) rfl ⟨by rw [HE.out], (HB.out.setCell (show w.heap.size ≤ (⟨w.heap.size + 1 + 1, 0, none⟩ : Addr).block by dsimp only; omega) _).setCell (show w.heap.size ≤ (⟨w.heap.size + 1 + 1, 1, none⟩ : Addr).block by dsimp only; omega) _⟩

/-- A valid net is valid. -/
theorem valid21_any (n : Int) (a : Option Addr) (cap : Nat) (l : List Nd) (w : World) (hok : netOk ⟨n, l⟩ = true) (hx : NdCells w a l) :
    Calls Tryz.prog 60 #[.agg #[.int .i64 n, .slice a l.length cap]] w fun e w' => e = .returned (.bool true) ∧ Below w.heap.size w w' := by
  have HB0 := Lib.hid ((Below.refl w.heap.size w).alloc (Nat.le_refl _) (.cells #[.int .i64 n, .slice a l.length cap] 24))
  have q0 := Lib.hid (Blk.new w #[.int .i64 n, .slice a l.length cap] 24)
  have HX := Lib.hid hx
  have HOK := Lib.hid hok
  obtain ⟨hn0, hn1, hl1, hl2⟩ := netOk_head hok
  simp only at hn0 hn1 hl1 hl2
  have d1 : decide (n < 0) = false := by simpa using hn0
  have d2 : decide (128 < n) = false := by simpa using hn1
  have d3 : ((l.length : Int) == 0) = false := by simp; intro h; rw [h] at hl1; simp at hl1
  have d4 : decide ((65536 : Int) < (l.length : Int)) = false := by simp; omega
  clear hx hok
  go_enter Tryz.func60, Tryz.ntmps60
  go_wp2
  generalize w.alloc (.cells #[.int .i64 n, .slice a l.length cap] 24) = W at *
  go_loopw [3] (fun i wr => ∃ k : Nat, k ≤ l.length ∧ i = .int .i64 k ∧ Below W.heap.size W wr) (fun i _ => l.length - (intOf i).toNat)
  case atStart => exact ⟨0, Nat.zero_le _, rfl, Below.refl _ _⟩
  case round =>
    obtain ⟨k, hk, rfl, hb⟩ := hrel
    have HB := Lib.hid hb
    have HBA := Lib.hid (HB0.out.trans (hb.mono HB0.out.size))
    have R0 := Lib.hid (q0.out.later hb)
    have k0 : wr.cell? ⟨w.heap.size, 0, none⟩ = some (.int .i64 n) := R0.out.cell 0
    have k1 : wr.cell? ⟨w.heap.size, 1, none⟩ = some (.slice a l.length cap) := R0.out.cell 1
    have hzw : w.heap.size < wr.heap.size := R0.out.lt
    clear hb
    by_cases hlt : k < l.length
    · obtain ⟨b, off, rfl, c0, c1, av, cv, c2, hin, hil⟩ := (HX.out.keep HBA.out) k hlt
      have hgd : l.getD k default = l[k] := by simp [List.getD_eq_getElem?_getD, hlt]
      have hnk := netOk_nd HOK.out hlt
      rw [hgd] at c0 c1 c2 hin hil
      simp only at hnk
      generalize l[k] = x at *
      have HIN := Lib.hid hin
      have HNK := Lib.hid hnk
      have hbz : b < wr.heap.size := cell_block c0
      have hk5 := formOk_kind hnk
      have hins := ndOk_ins hnk
      have HINS := Lib.hid hins
      have HLE : Hid (x.kind ≠ 2 → x.lit = 0) := by
        intro h2
        have h3 := hnk
        simp only [ndOk, Bool.and_eq_true] at h3
        have h4 := h3.2
        unfold formOk at h4
        by_cases e0 : x.kind = 0 ∨ x.kind = 1
        · rw [if_pos e0] at h4; simp at h4; exact h4.1
        · rw [if_neg e0, if_neg h2, if_pos (by omega)] at h4; simpa using h4
      have HLI : Hid (x.kind = 2 → litOk x.lit n = true) := fun h2 => by
        have := ndOk_lit hnk h2
        simp [litOk, this.1, this.2]
      have HKI : Hid (x.kind < 3 → x.ins = []) := fun h3 => Classical.byContradiction fun hne => by have := ins_kind hnk hne; omega
      rcases x with ⟨kd, lt, ins⟩
      simp only at *
      clear hin hnk hins hgd
      have hd5 : kd < 3 → decide ((0 : Int) < (ins.length : Int)) = false := fun h => by rw [HKI.out h]; rfl
      have key : (kd ≠ 2 → lt = 0) ∧ (kd = 2 → litOk lt n = true) := ⟨HLE.out, HLI.out⟩
      obtain ⟨hle, hli⟩ := key
      have HD5 := Lib.hid hd5
      have HB6 := Lib.hid (HB.out.alloc HB.out.size (.cells #[.int .i64 kd, .int .i64 lt, .slice av ins.length cv] 67))
      have HBK := Lib.hid (Blk.new wr #[.int .i64 kd, .int .i64 lt, .slice av ins.length cv] 67)
      have HIN6 := Lib.hid (HIN.out.keep ((Below.refl wr.heap.size wr).alloc (Nat.le_refl _) (.cells #[.int .i64 kd, .int .i64 lt, .slice av ins.length cv] 67)))
      clear hd5
      rcases hk5 with rfl | rfl | rfl | rfl | rfl
      · have hl0 := hle (by omega)
        subst hl0
        have d5 := HD5.out (by omega)
        have d6 : decide (0 < ins.length) = false := by simpa using d5
        have d7 : ¬ (0 < ins.length) := by simpa using d6
        clear hle hli
        go_wp2_with fail
        generalize wr.alloc (.cells #[.int .i64 0, .int .i64 0, .slice av ins.length cv] 67) = V at *
        have j2 : V.cell? ⟨wr.heap.size, 2, none⟩ = some (.slice av ins.length cv) := HBK.out.cell 2
        go_loop [5] (fun i => ∃ m : Nat, m ≤ ins.length ∧ i = .int .i64 m) (fun i => ins.length - (intOf i).toNat)
        case atStart => exact ⟨0, Nat.zero_le _, rfl⟩
        case round =>
          obtain ⟨m, hm, rfl⟩ := hrel
          by_cases hlm : m < ins.length
          · exact absurd (Nat.lt_of_le_of_lt (Nat.zero_le _) hlm) d7
          · have : m = ins.length := by omega
            subst this
            go_wp2
            go_roundw
            case rel => exact ⟨k + 1, by omega, by go_num, HB6.out⟩
            case measure => simp [intOf]; omega
      · have hl0 := hle (by omega)
        subst hl0
        have d5 := HD5.out (by omega)
        have d6 : decide (0 < ins.length) = false := by simpa using d5
        have d7 : ¬ (0 < ins.length) := by simpa using d6
        clear hle hli
        go_wp2_with fail
        generalize wr.alloc (.cells #[.int .i64 1, .int .i64 0, .slice av ins.length cv] 67) = V at *
        have j2 : V.cell? ⟨wr.heap.size, 2, none⟩ = some (.slice av ins.length cv) := HBK.out.cell 2
        go_loop [5] (fun i => ∃ m : Nat, m ≤ ins.length ∧ i = .int .i64 m) (fun i => ins.length - (intOf i).toNat)
        case atStart => exact ⟨0, Nat.zero_le _, rfl⟩
        case round =>
          obtain ⟨m, hm, rfl⟩ := hrel
          by_cases hlm : m < ins.length
          · exact absurd (Nat.lt_of_le_of_lt (Nat.zero_le _) hlm) d7
          · have : m = ins.length := by omega
            subst this
            go_wp2
            go_roundw
            case rel => exact ⟨k + 1, by omega, by go_num, HB6.out⟩
            case measure => simp [intOf]; omega
      · have HL2 := Lib.hid (hli rfl)
        have d5 := HD5.out (by omega)
        have d6 : decide (0 < ins.length) = false := by simpa using d5
        have d7 : ¬ (0 < ins.length) := by simpa using d6
        have s0 : (wr.alloc (.cells #[.int .i64 2, .int .i64 lt, .slice av ins.length cv] 67)).cell? ⟨w.heap.size, 0, none⟩ = some (.int .i64 n) := (R0.out.alloc _).cell 0
        clear hle hli
        go_wp2_with fail
        refine (valid5_any lt n _ hn0 hn1 HL2.out).mono ?_
        rintro e w' ⟨rfl, rfl⟩
        go_wp2_with fail
        generalize wr.alloc (.cells #[.int .i64 2, .int .i64 lt, .slice av ins.length cv] 67) = V at *
        have j2 : V.cell? ⟨wr.heap.size, 2, none⟩ = some (.slice av ins.length cv) := HBK.out.cell 2
        go_loop [5] (fun i => ∃ m : Nat, m ≤ ins.length ∧ i = .int .i64 m) (fun i => ins.length - (intOf i).toNat)
        case atStart => exact ⟨0, Nat.zero_le _, rfl⟩
        case round =>
          obtain ⟨m, hm, rfl⟩ := hrel
          by_cases hlm : m < ins.length
          · exact absurd (Nat.lt_of_le_of_lt (Nat.zero_le _) hlm) d7
          · have : m = ins.length := by omega
            subst this
            go_wp2
            go_roundw
            case rel => exact ⟨k + 1, by omega, by go_num, HB6.out⟩
            case measure => simp [intOf]; omega
      · have hl0 := hle (by omega)
        subst hl0
        clear hle hli
        go_wp2_with fail
        generalize wr.alloc (.cells #[.int .i64 3, .int .i64 0, .slice av ins.length cv] 67) = V at *
        have j2 : V.cell? ⟨wr.heap.size, 2, none⟩ = some (.slice av ins.length cv) := HBK.out.cell 2
        go_loop [5] (fun i => ∃ m : Nat, m ≤ ins.length ∧ i = .int .i64 m) (fun i => ins.length - (intOf i).toNat)
        case atStart => exact ⟨0, Nat.zero_le _, rfl⟩
        case round =>
          obtain ⟨m, hm, rfl⟩ := hrel
          by_cases hlm : m < ins.length
          · obtain ⟨b2, off2, rfl, e0⟩ := HIN6.out m hlm
            have hgd2 : ins.getD m 0 = ins[m] := by simp [List.getD_eq_getElem?_getD, hlm]
            have hy := HINS.out ins[m] (List.getElem_mem hlm)
            rw [hgd2] at e0
            generalize ins[m] = y at *
            obtain ⟨hy0, hy1⟩ := hy
            have g1 : decide (y < 0) = false := by simpa using hy0
            have g2 : decide ((k : Int) ≤ y) = false := by simpa using hy1
            clear hgd2
            go_wp2
            go_round
            case rel => exact ⟨m + 1, by omega, by go_num⟩
            case measure => simp [intOf]; omega
          · have : m = ins.length := by omega
            subst this
            go_wp2
            go_roundw
            case rel => exact ⟨k + 1, by omega, by go_num, HB6.out⟩
            case measure => simp [intOf]; omega
      · have hl0 := hle (by omega)
        subst hl0
        clear hle hli
        go_wp2_with fail
        generalize wr.alloc (.cells #[.int .i64 4, .int .i64 0, .slice av ins.length cv] 67) = V at *
        have j2 : V.cell? ⟨wr.heap.size, 2, none⟩ = some (.slice av ins.length cv) := HBK.out.cell 2
        go_loop [5] (fun i => ∃ m : Nat, m ≤ ins.length ∧ i = .int .i64 m) (fun i => ins.length - (intOf i).toNat)
        case atStart => exact ⟨0, Nat.zero_le _, rfl⟩
        case round =>
          obtain ⟨m, hm, rfl⟩ := hrel
          by_cases hlm : m < ins.length
          · obtain ⟨b2, off2, rfl, e0⟩ := HIN6.out m hlm
            have hgd2 : ins.getD m 0 = ins[m] := by simp [List.getD_eq_getElem?_getD, hlm]
            have hy := HINS.out ins[m] (List.getElem_mem hlm)
            rw [hgd2] at e0
            generalize ins[m] = y at *
            obtain ⟨hy0, hy1⟩ := hy
            have g1 : decide (y < 0) = false := by simpa using hy0
            have g2 : decide ((k : Int) ≤ y) = false := by simpa using hy1
            clear hgd2
            go_wp2
            go_round
            case rel => exact ⟨m + 1, by omega, by go_num⟩
            case measure => simp [intOf]; omega
          · have : m = ins.length := by omega
            subst this
            go_wp2
            go_roundw
            case rel => exact ⟨k + 1, by omega, by go_num, HB6.out⟩
            case measure => simp [intOf]; omega
    · have : k = l.length := by omega
      subst this
      go_wp2
      go_ret
      exact ⟨rfl, HBA.out⟩
end Go.Proofs.YtkaojolofaanfaaGreatDoor
