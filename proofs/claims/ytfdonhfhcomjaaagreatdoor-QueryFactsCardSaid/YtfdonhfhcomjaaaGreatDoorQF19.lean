/- Part 19 of 25 of the proof that censuslaw38.QueryFacts returns true for every input, where the tables that the row lists are laid. Texts: R20T, R20N, R20E, R20M. -/
import Derived.Test.YtfdonhfhcomjaaaGreatDoorQF18
import Derived.Test.YtfdonhfhcomjaaaGreatDoorQF6
import Derived.Test.YtfdonhfhcomjaaaGreatDoorQF14
import Derived.Deep.DeepCutAuto
import Derived.Deep.RegionHeld3

/- The walks of censusref20's Truth and Eval. -/
namespace Go.Proofs.YtfdonhfhcomjaaaGreatDoor
open Go.RowKit Cen
set_option maxHeartbeats 2000000
set_option maxRecDepth 100000
def bc (b : Bool) : List Value := [.bool b]
theorem bc_len (b : Bool) : (bc b).length = 1 := rfl
theorem elemBool : Elem 85 4 1 1 (.bool false) := .mk Tryz.underlying85 (by kernel_rfl) rfl (by decide)
/-- The truth of a node of which m inputs have been looked at. -/
def acc (s f : Int → Bool) (x : Nd) (m : Nat) : Bool := evNd s f ⟨x.kind, x.lit, x.ins.take m⟩
theorem acc_and {s f : Int → Bool} {x : Nd} {m : Nat} (hm : m < x.ins.length) (h : x.kind = 3) : acc s f x (m + 1) = (acc s f x m && f x.ins[m]) := by
  unfold acc evNd; simp only; rw [if_neg (by omega), if_neg (by omega), if_pos h, if_neg (by omega), if_neg (by omega), if_pos h, List.take_succ_eq_append_getElem hm, List.all_append]; simp
theorem acc_or {s f : Int → Bool} {x : Nd} {m : Nat} (hm : m < x.ins.length) (h : x.kind = 4) : acc s f x (m + 1) = (acc s f x m || f x.ins[m]) := by
  unfold acc evNd; simp only
  rw [if_neg (by omega), if_neg (by omega), if_neg (by omega), if_pos h, if_neg (by omega), if_neg (by omega), if_neg (by omega), if_pos h, List.take_succ_eq_append_getElem hm, List.any_append]; simp
theorem acc_end (s f : Int → Bool) (x : Nd) : acc s f x x.ins.length = evNd s f x := by unfold acc; rw [List.take_length]
theorem acc_zero {s f : Int → Bool} {x : Nd} : acc s f x 0 = if x.kind = 1 then true else if x.kind = 2 then holds s x.lit else decide (x.kind = 3) := by
  unfold acc evNd; simp only [List.take_zero]
  by_cases h1 : x.kind = 1
  · simp [h1]
  · by_cases h2 : x.kind = 2
    · simp [h2]
    · by_cases h3 : x.kind = 3
      · simp [h3]
      · simp [h1, h2, h3]
theorem ins_kind {x : Nd} {n b : Int} (h : ndOk x n b = true) (hi : x.ins ≠ []) : x.kind = 3 ∨ x.kind = 4 := by
  have hk := formOk_kind h
  simp only [ndOk, Bool.and_eq_true] at h
  have h2 := h.2
  unfold formOk at h2
  by_cases h0 : x.kind = 0 ∨ x.kind = 1
  · rw [if_pos h0] at h2; simp at h2; exact absurd h2.2 hi
  · rw [if_neg h0] at h2
    by_cases h3 : x.kind = 2
    · rw [if_pos h3] at h2; simp at h2; exact absurd h2.2 hi
    · omega
theorem rTruth_any (n : Int) (a : Option Addr) (cap : Nat) (l : List Nd) (s : St) (w : World) (hok : netOk ⟨n, l⟩ = true) (hx : NdCells w a l) (hs : s.ok) :
    Calls Tryz.prog 111 #[.agg #[.int .i64 n, .slice a l.length cap], stv s] w fun e w' => ∃ g cap', e = .returned (.slice (some ⟨g, 0, none⟩) l.length cap') ∧ OwnL bc 4 1 w' w.heap.size (.slice (some ⟨g, 0, none⟩) l.length cap') (truth s.mem l) ∧ Below w.heap.size w w' := by
  have hb0 : Below w.heap.size w ((w.alloc (.cells #[.int .i64 n, .slice a l.length cap] 24)).alloc (.cells #[.int .u64 (s.a : Int), .int .u64 (s.b : Int)] 38)) := ((Below.refl _ _).alloc (Nat.le_refl _) _).alloc (by simp) _
  have HB0 := Lib.hid hb0
  have HX := Lib.hid hx
  have q0 := Lib.hid ((Blk.new w #[.int .i64 n, .slice a l.length cap] 24).alloc (.cells #[.int .u64 (s.a : Int), .int .u64 (s.b : Int)] 38))
  have q1 := Lib.hid (Blk.new' (w.alloc (.cells #[.int .i64 n, .slice a l.length cap] 24)) (World.size_alloc _ _) #[.int .u64 (s.a : Int), .int .u64 (s.b : Int)] 38)
  have HK := Lib.hid hok
  have HS := Lib.hid hs
  obtain ⟨_, _, hl1, hl2⟩ := netOk_head hok
  simp only at hl1 hl2
  have HL1 := Lib.hid hl1
  have HZ0 : Hid (((w.alloc (.cells #[.int .i64 n, .slice a l.length cap] 24)).alloc (.cells #[.int .u64 (s.a : Int), .int .u64 (s.b : Int)] 38)).heap.size = w.heap.size + 2) := by show _ = _; simp
  clear hb0 hx hok hs hl1
  go_enter Tryz.func111, Tryz.ntmps111
  go_wp2
  generalize (w.alloc (.cells #[.int .i64 n, .slice a l.length cap] 24)).alloc (.cells #[.int .u64 (s.a : Int), .int .u64 (s.b : Int)] 38) = W at *
  go_loopw [5, 6] (fun v i wr => ∃ k : Nat, k ≤ l.length ∧ i = .int .i64 k ∧ OwnL bc 4 1 wr (w.heap.size + 2) v (truth s.mem (l.take k)) ∧ Below (w.heap.size + 2) W wr) (fun _ i _ => l.length - (intOf i).toNat)
  case atStart => exact ⟨0, Nat.zero_le _, rfl, OwnL.nil _ _, Below.refl _ _⟩
  case round =>
    obtain ⟨k, hk, rfl, hown, hb⟩ := hrel
    obtain ⟨ao, capv, rfl⟩ := hown.sliced
    have HO := Lib.hid hown
    have HBW := Lib.hid hb
    have HBA := Lib.hid (HB0.out.trans (hb.mono (by omega)))
    have Q0 := Lib.hid (q0.out.laterB hb (by omega))
    have Q1 := Lib.hid (q1.out.laterB hb (by omega))
    have k0 : wr.cell? ⟨w.heap.size, 0, none⟩ = some (.int .i64 n) := Q0.out.cell 0
    have k1 : wr.cell? ⟨w.heap.size, 1, none⟩ = some (.slice a l.length cap) := Q0.out.cell 1
    have hzw : w.heap.size + 1 < wr.heap.size := Q1.out.lt
    have htl : (truth s.mem (l.take k)).length = k := by rw [truth_length, List.length_take]; omega
    clear hown hb
    by_cases hlt : k < l.length
    · obtain ⟨b, off, rfl, c0', c1', av, cv, c2', hin, hil⟩ := HX.out k hlt
      have hgd : l.getD k default = l[k] := by simp [List.getD_eq_getElem?_getD, hlt]
      rw [hgd] at c0' c1' c2' hin hil
      have hbw : b < w.heap.size := cell_block c0'
      have c0 := HBA.out.cell (p := ⟨b, off + k * 3, none⟩) hbw
      have c1 := HBA.out.cell (p := ⟨b, off + k * 3 + 1, none⟩) hbw
      have c2 := HBA.out.cell (p := ⟨b, off + k * 3 + 2, none⟩) hbw
      rw [c0'] at c0
      rw [c1'] at c1
      rw [c2'] at c2
      have HNK := Lib.hid (netOk_nd HK.out hlt)
      have HTS : Hid (truth s.mem (l.take (k + 1)) = truth s.mem (l.take k) ++ [evNd s.mem (at' (truth s.mem (l.take k))) l[k]]) := by
        show _ = _; rw [List.take_succ_eq_append_getElem hlt, truth_snoc]
      simp only at HNK
      generalize l[k] = x at *
      generalize truth s.mem (l.take k) = vs at *
      have HTL := Lib.hid htl
      have HIN := Lib.hid hin
      have hbz : b < wr.heap.size := cell_block c0
      have HA0 := Lib.hid (acc_zero (s := s.mem) (f := at' vs) (x := x))
      have HAE := Lib.hid (acc_end s.mem (at' vs) x)
      have HBLK := Lib.hid (Blk.new wr #[.int .i64 x.kind, .int .i64 x.lit, .slice av x.ins.length cv] 73)
      clear hin hgd htl c0' c1' c2'
      rcases x with ⟨kd, lt, ins⟩
      simp only at *
      go_upto_region 6 with fail
      go_cut [8] (fun c wx => c = .bool (acc s.mem (at' vs) ⟨kd, lt, ins⟩ 0) ∧ Below wr.heap.size wr wx ∧ Blk wx wr.heap.size #[.int .i64 kd, .int .i64 lt, .slice av ins.length cv] 73)
      case first =>
        have hk5 := formOk_kind HNK.out
        simp only at hk5
        have s0 : (wr.alloc (.cells #[.int .i64 kd, .int .i64 lt, .slice av ins.length cv] 73)).cell? ⟨w.heap.size + 1, 0, none⟩ = some (.int .u64 (s.a : Int)) := (Q1.out.alloc _).cell 0
        have s1 : (wr.alloc (.cells #[.int .i64 kd, .int .i64 lt, .slice av ins.length cv] 73)).cell? ⟨w.heap.size + 1, 1, none⟩ = some (.int .u64 (s.b : Int)) := (Q1.out.alloc _).cell 1
        have HB6 := Lib.hid ((Below.refl wr.heap.size wr).alloc (Nat.le_refl _) (.cells #[.int .i64 kd, .int .i64 lt, .slice av ins.length cv] 73))
        rcases hk5 with rfl | rfl | rfl | rfl | rfl
        · go_wp2_with fail
          go_meet
          exact ⟨by rw [HA0.out]; rfl, HB6.out, HBLK.out⟩
        · go_wp2_with fail
          go_meet
          exact ⟨by rw [HA0.out]; rfl, HB6.out, HBLK.out⟩
        · have HH := Lib.hid (fun V => rHolds_any s lt V HS.out)
          go_wp2_with fail
          refine (HH.out _).mono ?_
          rintro e w5 ⟨rfl, hb5⟩
          have HB7 := Lib.hid (HB6.out.trans (hb5.mono HB6.out.size))
          have HK7 := Lib.hid (HBLK.out.later hb5)
          clear hb5
          go_wp2_with fail
          go_meet
          exact ⟨by rw [HA0.out]; rfl, HB7.out, HK7.out⟩
        · go_wp2_with fail
          go_meet
          exact ⟨by rw [HA0.out]; rfl, HB6.out, HBLK.out⟩
        · go_wp2_with fail
          go_meet
          exact ⟨by rw [HA0.out]; rfl, HB6.out, HBLK.out⟩
      case rest =>
        obtain ⟨rfl, hbc, hkc⟩ := hcut
        obtain ⟨wx, rfl⟩ : ∃ wx : World, wx = wc := ⟨_, rfl⟩
        have HBX := Lib.hid hbc
        have HBXA := Lib.hid (HBA.out.trans (hbc.mono HBA.out.size))
        have HBXW := Lib.hid (HBW.out.trans (hbc.mono (by have := Q1.out.lt; omega)))
        have HOX := Lib.hid (HO.out.later hbc)
        have d0 : wx.cell? ⟨wr.heap.size, 0, none⟩ = some (.int .i64 kd) := hkc.cell 0
        have d2 : wx.cell? ⟨wr.heap.size, 2, none⟩ = some (.slice av ins.length cv) := hkc.cell 2
        have HZX := Lib.hid HBX.out.size
        clear hbc hkc k0 k1 c0 c1 c2
        go_wp2_with fail
        go_loop [8, 9] (fun c i => ∃ m : Nat, m ≤ ins.length ∧ i = .int .i64 m ∧ c = .bool (acc s.mem (at' vs) ⟨kd, lt, ins⟩ m)) (fun _ i => ins.length - (intOf i).toNat)
        case atStart => exact ⟨0, Nat.zero_le _, rfl, rfl⟩
        case round =>
          obtain ⟨m, hm, rfl, rfl⟩ := hrel
          by_cases hlm : m < ins.length
          · obtain ⟨b2, off2, rfl, e0'⟩ := HIN.out m hlm
            have hgd : ins.getD m 0 = ins[m] := by simp [List.getD_eq_getElem?_getD, hlm]
            have hq := ndOk_ins HNK.out ins[m] (List.getElem_mem hlm)
            have hkk := ins_kind HNK.out (show ins ≠ [] from fun e => by rw [e] at hlm; simp at hlm)
            have hand := fun h => acc_and (s := s.mem) (f := at' vs) (x := ⟨kd, lt, ins⟩) (m := m) hlm h
            have hor := fun h => acc_or (s := s.mem) (f := at' vs) (x := ⟨kd, lt, ins⟩) (m := m) hlm h
            simp only at hkk hand hor
            rw [hgd] at e0'
            generalize ins[m] = y at *
            have hb2w : b2 < w.heap.size := cell_block e0'
            have e0 := HBXA.out.cell (p := ⟨b2, off2 + m, none⟩) hb2w
            rw [e0'] at e0
            obtain ⟨q, rfl⟩ := Int.eq_ofNat_of_zero_le hq.1
            have hqk : q < vs.length := by have := HTL.out; omega
            have hyv : at' vs (q : Int) = vs[q] := by unfold at'; simp [List.getD_eq_getElem?_getD, hqk]
            rw [hyv] at hand hor
            obtain ⟨g, rfl⟩ : ∃ g, ao = some ⟨g, 0, none⟩ := by
              rcases HOX.out.shape with ⟨_, h⟩ | ⟨g, cap'', h, _⟩
              · rw [h] at hqk; simp at hqk
              · simp only [Value.slice.injEq] at h; exact ⟨g, h.1⟩
            have f0 : wx.cell? ⟨g, q, none⟩ = some (.bool vs[q]) := by have := HOX.out.cell rfl bc_len q 0 hqk (by omega); simpa [bc] using this
            have hqi : (q : Int) < (vs.length : Int) := by have := hq.2; omega
            have HAND := Lib.hid hand
            have HOR := Lib.hid hor
            generalize vs[q] = d at *
            generalize hcm : acc s.mem (at' vs) ⟨kd, lt, ins⟩ m = c at *
            have HCM := Lib.hid hcm
            clear hand hor hyv hgd e0' hq hcm
            rcases hkk with rfl | rfl
            all_goals
              cases c
              all_goals
                go_wp2_with fail
                go_round
                case rel => exact ⟨m + 1, by omega, by go_num, by first | (rw [HAND.out rfl]; try rfl) | (rw [HOR.out rfl]; try rfl)⟩
                case measure => simp [intOf]; omega
          · have : m = ins.length := by omega
            subst this
            have hae := HAE.out
            rw [hae]
            generalize hev : evNd s.mem (at' vs) ⟨kd, lt, ins⟩ = c at *
            have HEV := Lib.hid hev
            clear hae hev
            go_wp2_with (at_builtin; refine app1 (C := #[.bool c]) elemBool rfl _ _ rfl (w.heap.size + 2) _ _ _ rfl HOX.out rfl rfl (by simp [Value.oneCell']) (by unfold maxLen; have := HTL.out; omega) (by have := HTL.out; omega) (by have := HZX.out; have := Q1.out.lt; omega) ?_)
            intro v' w8 hown8 hgrow8 _
            have ho8 : OwnL bc 4 1 w8 (w.heap.size + 2) v' (vs ++ [c]) := by unfold OwnL; rw [List.length_append, List.flatMap_append]; simpa [bc] using hown8
            have HO8 := Lib.hid ho8
            have HB8 : Hid (Below (w.heap.size + 2) W w8) := HBXW.out.grown hgrow8 (by have := HZX.out; have := Q1.out.lt; omega) (fun g hg => by
              rcases HOX.out.shape with ⟨h, _⟩ | ⟨g', cap'', h, h2, _⟩
              · rw [h] at hg; simp [Value.ownBlock] at hg
              · rw [h] at hg; simp [Value.ownBlock] at hg; omega)
            clear hown8 hgrow8 ho8
            go_wp2
            go_roundw
            case rel => exact ⟨k + 1, by omega, by go_num, by rw [HTS.out]; exact HO8.out, HB8.out⟩
            case measure => simp [intOf]; omega
    · have : k = l.length := by omega
      subst this
      have ho := HO.out
      rw [htl, List.take_length] at ho
      obtain ⟨g, rfl⟩ : ∃ g, ao = some ⟨g, 0, none⟩ := by
        rcases ho.shape with ⟨_, h⟩ | ⟨g, cap'', h, _⟩
        · have h2 := truth_length s.mem l; rw [h] at h2; have := HL1.out; simp at h2; omega
        · simp only [Value.slice.injEq] at h; exact ⟨g, h.1⟩
      have HOE := Lib.hid (ho.lower (show w.heap.size ≤ w.heap.size + 2 by omega))
      clear ho
      go_wp2
      rw [htl]
      go_ret
      exact ⟨g, capv, rfl, HOE.out, HBA.out⟩
end Go.Proofs.YtfdonhfhcomjaaaGreatDoor

/- The walk of censusref20's Nth. -/
namespace Go.Proofs.YtfdonhfhcomjaaaGreatDoor
open Go.RowKit Cen
set_option maxHeartbeats 2000000
set_option maxRecDepth 100000
/-- The k-th assignment: variable v is true if bit n - v of k is 1. -/
def nthA (n k : Nat) : Nat → Nat
  | 0 => 0
  | v + 1 => if k.testBit (n - (v + 1)) then nthA n k v ||| 2 ^ v else nthA n k v
def nthL (n k : Nat) : St := ⟨nthA n k n, 0⟩
theorem nthA_lt (n k : Nat) : ∀ v, v ≤ 64 → nthA n k v < U64 := by
  intro v
  induction v with
  | zero => intro _; unfold nthA U64; omega
  | succ v ih =>
    intro hv
    rw [nthA]; split
    · exact or_lt_U64 (ih (by omega)) (pow_lt_U64 (by omega))
    · exact ih (by omega)
theorem nthA_bit (n k : Nat) : ∀ v j, (nthA n k v).testBit j = (decide (j < v) && k.testBit (n - (j + 1))) := by
  intro v
  induction v with
  | zero => intro j; simp [nthA]
  | succ v ih =>
    intro j
    rw [nthA]
    by_cases e : j = v
    · subst e
      cases h : k.testBit (n - (j + 1)) with
      | true => rw [if_pos rfl, Nat.testBit_or, Nat.testBit_two_pow]; simp
      | false => rw [if_neg (by simp), ih]; simp [h]
    · have h1 : decide (j < v + 1) = decide (j < v) := by rw [decide_eq_decide]; omega
      rw [h1]
      split
      · rw [Nat.testBit_or, ih, Nat.testBit_two_pow]; simp [show ¬ v = j from fun h => e h.symm]
      · exact ih j
theorem nth_any (n k : Nat) (w : World) (hn : n ≤ 16) (hk : k ≤ 65536) : Calls Tryz.prog 105 #[.int .i64 n, .int .i64 k] w fun e w' => e = .returned (stv (nthL n k)) ∧ Below w.heap.size w w' := by
  have HB0 := Lib.hid (((Below.refl w.heap.size w).alloc (Nat.le_refl _) (.cells #[.int .u64 0, .int .u64 0] 38)).alloc (by simp) (.cells #[.int .u64 0, .int .u64 0] 38))
  have q0 := Lib.hid ((Blk.new w #[.int .u64 0, .int .u64 0] 38).alloc (.cells #[.int .u64 0, .int .u64 0] 38))
  have q1 := Lib.hid (Blk.new' (w.alloc (.cells #[.int .u64 0, .int .u64 0] 38)) (World.size_alloc _ _) #[.int .u64 0, .int .u64 0] 38)
  go_enter Tryz.func105, Tryz.ntmps105
  go_wp2
  generalize (w.alloc (.cells #[.int .u64 0, .int .u64 0] 38)).alloc (.cells #[.int .u64 0, .int .u64 0] 38) = W at *
  go_loopw [6] (fun i wr => ∃ v : Nat, v ≤ n ∧ i = .int .i64 (v + 1) ∧ Blk wr (w.heap.size + 1) #[.int .u64 (nthA n k v : Int), .int .u64 0] 38 ∧ Below (w.heap.size + 1) W wr) (fun i _ => n + 1 - (intOf i).toNat)
  case atStart => exact ⟨0, Nat.zero_le _, rfl, q1.out, Below.refl _ _⟩
  case round =>
    obtain ⟨v, hv, rfl, hblk, hb⟩ := hrel
    have HBK := Lib.hid hblk
    have HB := Lib.hid hb
    have hz : w.heap.size + 1 < wr.heap.size := hblk.lt
    have c0 : wr.cell? ⟨w.heap.size + 1, 0, none⟩ = some (.int .u64 (nthA n k v : Int)) := hblk.cell 0
    have c1 : wr.cell? ⟨w.heap.size + 1, 1, none⟩ = some (.int .u64 0) := hblk.cell 1
    have f0 := hblk.fr 0
    have f1 := hblk.fr 1
    clear hblk hb
    by_cases hlt : v < n
    · have hdl : decide (((v : Int) + 1) ≤ (n : Int)) = true := by simp; omega
      have HE : Hid (bits BinOp.or IntKind.u64 ((nthA n k v : Nat) : Int) (IntKind.u64.wrap ((2 : Int) ^ v)) = ((nthA n k v ||| 2 ^ v : Nat) : Int)) := by
        show _ = _; rw [wrap_pow (by omega), or64 (nthA_lt n k v (by omega)) (pow_lt_U64 (by omega))]
      cases hkb : k.testBit (n - (v + 1)) with
      | false =>
        have hb : (((k : Int) / 2 ^ (n - (v + 1))).tmod 2 == 1) = false := by rw [tbit, hkb]
        have HN : Hid (nthA n k (v + 1) = nthA n k v) := by show _ = _; rw [nthA, hkb]; rfl
        clear hkb
        go_wp2
        go_roundw
        case rel => exact ⟨v + 1, by omega, by go_num, by rw [HN.out]; exact HBK.out, HB.out⟩
        case measure => simp [intOf]; omega
      | true =>
        have hb : (((k : Int) / 2 ^ (n - (v + 1))).tmod 2 == 1) = true := by rw [tbit, hkb]
        have HN : Hid (nthA n k (v + 1) = nthA n k v ||| 2 ^ v) := by show _ = _; rw [nthA, hkb]; rfl
        clear hkb
        go_wp2
        go_roundw
        case rel =>
          refine ⟨v + 1, by omega, by go_num, ?_, HB.out.setCell (Nat.le_refl _) _⟩
          rw [HN.out, ← HE.out]
          exact HBK.out.set 0 _
        case measure => simp [intOf]; omega
    · have : v = n := by omega
      subst this
      have hdl : decide (((v : Int) + 1) ≤ (v : Int)) = false := by simp; omega
      have R0 := Lib.hid (q0.out.laterB HB.out (by omega))
      have r0 : wr.cell? ⟨w.heap.size, 0, none⟩ = some (.int .u64 0) := R0.out.cell 0
      have r1 : wr.cell? ⟨w.heap.size, 1, none⟩ = some (.int .u64 0) := R0.out.cell 1
      have rf0 := R0.out.fr 0
      have rf1 := R0.out.fr 1
      have hz0 : w.heap.size < wr.heap.size := R0.out.lt
      obtain ⟨A, hA⟩ : ∃ A, A = nthA v k v := ⟨_, rfl⟩
      rw [← hA] at c0
      have HA := Lib.hid hA
      have HBA := Lib.hid (HB0.out.trans (HB.out.mono (by omega)))
      clear hA
      go_wp2
      have hbr := (R0.out.set 0 (.int .u64 (A : Int))).set 1 (.int .u64 0)
      have e0 : ((wr.setCell ⟨w.heap.size, 0, none⟩ (.int .u64 (A : Int))).setCell ⟨w.heap.size, 1, none⟩ (.int .u64 0)).cell? ⟨w.heap.size, 0, none⟩ = some (.int .u64 (A : Int)) := hbr.cell 0
      have e1 : ((wr.setCell ⟨w.heap.size, 0, none⟩ (.int .u64 (A : Int))).setCell ⟨w.heap.size, 1, none⟩ (.int .u64 0)).cell? ⟨w.heap.size, 1, none⟩ = some (.int .u64 0) := hbr.cell 1
      exact bodyPost_ret (v := stv ⟨A, 0⟩) (by simp [results, Tryz.results105, go_sem, e0, e1]) rfl ⟨by unfold nthL; rw [HA.out], (HBA.out.setCell (Nat.le_refl _) _).setCell (Nat.le_refl _) _⟩
end Go.Proofs.YtfdonhfhcomjaaaGreatDoor

/- The walks of censusref20's Eval, Nth, Models. -/
namespace Go.Proofs.YtfdonhfhcomjaaaGreatDoor
open Go.RowKit Cen
set_option maxHeartbeats 2000000
set_option maxRecDepth 100000
theorem last5 {p q r s t : Prop} (h : p ∧ q ∧ r ∧ s ∧ t) : t := h.2.2.2.2
theorem rEval_any (n : Int) (a : Option Addr) (cap : Nat) (l : List Nd) (s : St) (w : World) (hl : l.length ≤ 1073741824) (hx : NdCells w a l) (hs : s.ok) :
    Calls Tryz.prog 58 #[.agg #[.int .i64 n, .slice a l.length cap], stv s] w fun e w' => e = .returned (.bool (netOk ⟨n, l⟩ && ev s.mem ⟨n, l⟩)) ∧ Below w.heap.size w w' := by
  have hb0 : Below w.heap.size w ((w.alloc (.cells #[.int .i64 n, .slice a l.length cap] 24)).alloc (.cells #[.int .u64 (s.a : Int), .int .u64 (s.b : Int)] 38)) := ((Below.refl _ _).alloc (Nat.le_refl _) _).alloc (by simp) _
  have HB0 := Lib.hid hb0
  have HX := Lib.hid (hx.keep hb0)
  have q0 := Lib.hid ((Blk.new w #[.int .i64 n, .slice a l.length cap] 24).alloc (.cells #[.int .u64 (s.a : Int), .int .u64 (s.b : Int)] 38))
  have q1 := Lib.hid (Blk.new' (w.alloc (.cells #[.int .i64 n, .slice a l.length cap] 24)) (World.size_alloc _ _) #[.int .u64 (s.a : Int), .int .u64 (s.b : Int)] 38)
  have HS := Lib.hid hs
  clear hb0 hx hs
  go_enter Tryz.func58, Tryz.ntmps58
  go_wp2_with fail
  generalize (w.alloc (.cells #[.int .i64 n, .slice a l.length cap] 24)).alloc (.cells #[.int .u64 (s.a : Int), .int .u64 (s.b : Int)] 38) = W at *
  have HZ := Lib.hid HB0.out.size
  have k0 : W.cell? ⟨w.heap.size, 0, none⟩ = some (.int .i64 n) := q0.out.cell 0
  have k1 : W.cell? ⟨w.heap.size, 1, none⟩ = some (.slice a l.length cap) := q0.out.cell 1
  have k2 : W.cell? ⟨w.heap.size + 1, 0, none⟩ = some (.int .u64 (s.a : Int)) := q1.out.cell 0
  have k3 : W.cell? ⟨w.heap.size + 1, 1, none⟩ = some (.int .u64 (s.b : Int)) := q1.out.cell 1
  have HKS : Hid (∀ w' : World, Below W.heap.size W w' → w'.cell? ⟨w.heap.size, 0, none⟩ = some (.int .i64 n) ∧ w'.cell? ⟨w.heap.size, 1, none⟩ = some (.slice a l.length cap) ∧ w'.cell? ⟨w.heap.size + 1, 0, none⟩ = some (.int .u64 (s.a : Int)) ∧ w'.cell? ⟨w.heap.size + 1, 1, none⟩ = some (.int .u64 (s.b : Int)) ∧ Below W.heap.size W w') := Lib.hid fun w' hb => ⟨cell_keep hb k0, cell_keep hb k1, cell_keep hb k2, cell_keep hb k3, hb⟩
  have HV : Hid (∀ V, Below W.heap.size W V → Calls Tryz.prog 43 #[.agg #[.int .i64 n, .slice a l.length cap]] V fun e w' => e = .returned (.bool (netOk ⟨n, l⟩)) ∧ Below V.heap.size V w') := Lib.hid fun V hb => rValid_any n a cap l V hl (HX.out.keep hb)
  cases hok : netOk ⟨n, l⟩ with
  | false =>
    rw [hok] at HV
    have HOKF := Lib.hid hok
    clear hok
    first
      | (go_region_held3 (fun w' => w'.cell? ⟨w.heap.size, 0, none⟩ = some (.int .i64 n) ∧ w'.cell? ⟨w.heap.size, 1, none⟩ = some (.slice a l.length cap) ∧ w'.cell? ⟨w.heap.size + 1, 0, none⟩ = some (.int .u64 (s.a : Int)) ∧ w'.cell? ⟨w.heap.size + 1, 1, none⟩ = some (.int .u64 (s.b : Int)) ∧ Below W.heap.size W w')
          (first | exact HKS.out _ (by with_reducible exact hw1) | exact HKS.out _ (by with_reducible exact (Below.refl _ _).drew) | exact HKS.out _ (last5 (by assumption)))
          (first
            | (go_at_call 43
               refine (HV.out _ (last5 (by assumption))).mono ?_
               rintro e w1 ⟨rfl, hb1⟩
               have hw1 : Below W.heap.size W w1 := Below.trans (last5 (by assumption)) (hb1.mono (Below.size (B := W.heap.size) (w := W) (last5 (by assumption)))))))
      | fail
    all_goals
      have HFB := Lib.hid (HB0.out.trans (Below.mono (B := W.heap.size) (last5 (by assumption)) HZ.out))
      go_wp2
      go_ret
      exact ⟨ret_bool (by rw [HOKF.out]; rfl), HFB.out⟩
  | true =>
    rw [hok] at HV
    have HOKT := Lib.hid hok
    obtain ⟨m, hm⟩ : ∃ m, l.length - 1 = m := ⟨_, rfl⟩
    have hl1 := (netOk_head hok).2.2.1
    simp only at hl1
    have e1 : ((l.length : Int) - 1) = (m : Int) := by omega
    have hwr : IntKind.i64.wrap ((l.length : Int) - 1) = (m : Int) := by rw [e1]; exact IntWalk.i64_in _ (by omega)
    have hml : (m : Int) < (l.length : Int) := by omega
    have hm0 : (0 : Int) ≤ (m : Int) := by omega
    have h1l : (1 : Int) ≤ (l.length : Int) := by omega
    have hA : (0 : Int) ≤ (l.length : Int) - 1 := by omega
    have hB : (l.length : Int) - 1 < (l.length : Int) := by omega
    have hC : ((l.length : Int) - 1).toNat = m := by omega
    have hD : (l.length : Int).toNat - 1 = m := by omega
    clear e1
    have hwr2 : IntKind.i64.wrap ((l.length : Int) - 1) = (l.length : Int) - 1 := IntWalk.i64_in _ (by omega)
    clear hwr
    have HML : Hid (m < l.length) := by show _ < _; omega
    have HTR : Hid (∀ V, Below W.heap.size W V → Calls Tryz.prog 111 #[.agg #[.int .i64 n, .slice a l.length cap], stv s] V fun e w' => ∃ g cap', e = .returned (.slice (some ⟨g, 0, none⟩) l.length cap') ∧ OwnL bc 4 1 w' V.heap.size (.slice (some ⟨g, 0, none⟩) l.length cap') (truth s.mem l) ∧ Below V.heap.size V w') := Lib.hid fun V hb => rTruth_any n a cap l s V hok (HX.out.keep hb) HS.out
    have HEV : Hid (ev s.mem ⟨n, l⟩ = (truth s.mem l).getD m false) := by show _ = _; unfold ev; simp only [hm]
    have HTL := Lib.hid (truth_length s.mem l)
    generalize truth s.mem l = vs at *
    have HVM : Hid (vs.getD m false = vs[m]'(by rw [HTL.out]; exact HML.out)) := by show _ = _; simp [List.getD_eq_getElem?_getD, HTL.out, HML.out]
    clear hok hm hl1
    go_region_held3 (fun w' => w'.cell? ⟨w.heap.size, 0, none⟩ = some (.int .i64 n) ∧ w'.cell? ⟨w.heap.size, 1, none⟩ = some (.slice a l.length cap) ∧ w'.cell? ⟨w.heap.size + 1, 0, none⟩ = some (.int .u64 (s.a : Int)) ∧ w'.cell? ⟨w.heap.size + 1, 1, none⟩ = some (.int .u64 (s.b : Int)) ∧ Below W.heap.size W w')
      (first | exact HKS.out _ (by with_reducible exact hw2) | exact HKS.out _ (by with_reducible exact hw1) | exact HKS.out _ (by with_reducible exact (Below.refl _ _).drew) | exact HKS.out _ (last5 (by assumption)))
      (first
        | (go_at_call 43
           refine (HV.out _ (last5 (by assumption))).mono ?_
           rintro e w1 ⟨rfl, hb1⟩
           have hw1 : Below W.heap.size W w1 := Below.trans (last5 (by assumption)) (hb1.mono (Below.size (B := W.heap.size) (w := W) (last5 (by assumption)))))
        | (go_at_call 111
           refine (HTR.out _ (last5 (by assumption))).mono ?_
           rintro e w2 ⟨g, cap2, rfl, ho2, hb2⟩
           have hw2 : Below W.heap.size W w2 := Below.trans (last5 (by assumption)) (hb2.mono (Below.size (B := W.heap.size) (w := W) (last5 (by assumption))))
           have f0 : w2.cell? ⟨g, m, none⟩ = some (.bool (vs.getD m false)) := by have := ho2.cell HTL.out.symm bc_len m 0 (by rw [HTL.out]; exact HML.out) (by omega); rw [HVM.out]; simpa [bc] using this
           clear ho2))
    all_goals
      have HFB := Lib.hid (HB0.out.trans (Below.mono (B := W.heap.size) (last5 (by assumption)) HZ.out))
      go_wp2
      go_ret
      exact ⟨ret_bool (by rw [HOKT.out, HEV.out]; rfl), HFB.out⟩
end Go.Proofs.YtfdonhfhcomjaaaGreatDoor

/- The walk of censusref20's Models. -/
namespace Go.Proofs.YtfdonhfhcomjaaaGreatDoor
open Go.RowKit Cen
set_option maxHeartbeats 2000000
set_option maxRecDepth 100000
def modK (N : Nat) (l : List Nd) (k : Nat) : Bool := ev (nthL N k).mem ⟨N, l⟩
def modUp (N : Nat) (l : List Nd) (k : Nat) : List St := ((List.range k).filter (modK N l)).map (nthL N)
theorem modUp_succ (N : Nat) (l : List Nd) (k : Nat) : modUp N l (k + 1) = if modK N l k then modUp N l k ++ [nthL N k] else modUp N l k := by
  unfold modUp
  rw [List.range_succ, List.filter_append, List.map_append]
  cases h : modK N l k <;> simp [h]
theorem modUp_len (N : Nat) (l : List Nd) (k : Nat) : (modUp N l k).length ≤ k := by
  unfold modUp
  rw [List.length_map]
  have := List.length_filter_le (modK N l) (List.range k)
  simpa using this
theorem nthL_ok {N : Nat} (h : N ≤ 16) (k : Nat) : (nthL N k).ok := ⟨nthA_lt N k N (by omega), by show 0 < U64; unfold U64; omega⟩
theorem models_any (N : Nat) (a : Option Addr) (cap : Nat) (l : List Nd) (w : World) (hok : netOk ⟨N, l⟩ = true) (hN : N ≤ 16) (hx : NdCells w a l) :
    Calls Tryz.prog 51 #[.agg #[.int .i64 N, .slice a l.length cap]] w fun e w' => ∃ v, e = .returned v ∧ OwnSets w' w.heap.size v (modUp N l (2 ^ N)) ∧ Below w.heap.size w w' := by
  have hb0 : Below w.heap.size w (w.alloc (.cells #[.int .i64 N, .slice a l.length cap] 24)) := (Below.refl _ _).alloc (Nat.le_refl _) _
  have HB0 := Lib.hid hb0
  have HX := Lib.hid (hx.keep hb0)
  have q0 := Lib.hid (Blk.new w #[.int .i64 N, .slice a l.length cap] 24)
  have HOK := Lib.hid hok
  have hl1 : l.length ≤ 1073741824 := by have := (netOk_head hok).2.2.2; simp only at this; omega
  have HZ0 : Hid ((w.alloc (.cells #[.int .i64 N, .slice a l.length cap] 24)).heap.size = w.heap.size + 1) := by show _ = _; simp
  have hM : 2 ^ N ≤ 65536 := Nat.pow_le_pow_right (n := 2) (by omega) hN
  have hsh : wrap64 ((2 : Int) ^ N) = ((2 ^ N : Nat) : Int) := by
    rw [show ((2 : Int) ^ N) = ((2 ^ N : Nat) : Int) from by norm_cast]
    generalize 2 ^ N = M at *
    exact IntWalk.wrap64_in ((M : Nat) : Int) (by omega)
  have HSH := Lib.hid hsh
  have HM := Lib.hid hM
  clear hb0 hx hok hM hsh
  go_enter Tryz.func51, Tryz.ntmps51
  go_wp2_with fail
  generalize w.alloc (.cells #[.int .i64 N, .slice a l.length cap] 24) = W at *
  go_loopw [3, 4] (fun v i wr => ∃ k : Nat, k ≤ 2 ^ N ∧ i = .int .i64 k ∧ OwnSets wr (w.heap.size + 1) v (modUp N l k) ∧ Below (w.heap.size + 1) W wr) (fun _ i _ => 2 ^ N - (intOf i).toNat)
  case atStart => exact ⟨0, Nat.zero_le _, rfl, OwnL.nil _ _, Below.refl _ _⟩
  case round =>
    obtain ⟨k, hk, rfl, hown, hb⟩ := hrel
    have HO := Lib.hid hown
    have HKM := Lib.hid hk
    have HBW := Lib.hid hb
    have hbs : Below W.heap.size W wr := by rw [HZ0.out]; exact hb
    have HXR := Lib.hid (HX.out.keep hbs)
    have Q0 := Lib.hid (q0.out.later hbs)
    have k0 : wr.cell? ⟨w.heap.size, 0, none⟩ = some (.int .i64 N) := Q0.out.cell 0
    have k1 : wr.cell? ⟨w.heap.size, 1, none⟩ = some (.slice a l.length cap) := Q0.out.cell 1
    have HV : Hid (Calls Tryz.prog 43 #[.agg #[.int .i64 N, .slice a l.length cap]] wr fun e w' => e = .returned (.bool true) ∧ Below wr.heap.size wr w') := by
      have h := rValid_any N a cap l wr hl1 HXR.out
      rw [HOK.out] at h; exact h
    clear hown hb hbs hk
    go_wp2_with fail
    refine HV.out.mono ?_
    rintro e w1 ⟨rfl, hb1⟩
    have Q1 := Lib.hid (Q0.out.later hb1)
    have HB1 := Lib.hid hb1
    clear k0 k1
    have k0 : w1.cell? ⟨w.heap.size, 0, none⟩ = some (.int .i64 N) := Q1.out.cell 0
    have k1 : w1.cell? ⟨w.heap.size, 1, none⟩ = some (.slice a l.length cap) := Q1.out.cell 1
    clear hb1
    have hNi : ((N : Int) ≤ 16) := by omega
    have hk2 : k ≤ 65536 := Nat.le_trans HKM.out HM.out
    by_cases hlt : k < 2 ^ N
    · have hd : decide ((k : Int) < wrap64 ((2 : Int) ^ N)) = true := by rw [HSH.out, decide_eq_true_iff]; exact Int.ofNat_lt.2 hlt
      have HNT := Lib.hid (nth_any N k w1 hN (by have := HM.out; omega))
      have HLT := Lib.hid hlt
      clear hlt
      go_wp2_with fail
      refine HNT.out.mono ?_
      rintro e w2 ⟨rfl, hb2⟩
      have HSO : Hid (nthL N k).ok := nthL_ok hN k
      have HUP := Lib.hid (modUp_succ N l k)
      have HLE := Lib.hid (modUp_len N l k)
      have HMK : Hid (modK N l k = ev (nthL N k).mem ⟨N, l⟩) := rfl
      generalize nthL N k = s at *
      have Q2 := Lib.hid (Q1.out.later hb2)
      have HB2 := Lib.hid (HB1.out.trans (hb2.mono HB1.out.size))
      have hz2 : w.heap.size < w2.heap.size := Q2.out.lt
      have m0 : w2.cell? ⟨w.heap.size, 0, none⟩ = some (.int .i64 N) := Q2.out.cell 0
      have m1 : w2.cell? ⟨w.heap.size, 1, none⟩ = some (.slice a l.length cap) := Q2.out.cell 1
      have HB3 : Hid (Below wr.heap.size wr (w2.alloc (.cells #[.int .u64 (s.a : Int), .int .u64 (s.b : Int)] 38))) := HB2.out.alloc HB2.out.size _
      have HEV := Lib.hid (rEval_any N a cap l s (w2.alloc (.cells #[.int .u64 (s.a : Int), .int .u64 (s.b : Int)] 38)) hl1 (HXR.out.keep HB3.out) HSO.out)
      rw [HOK.out, ← HMK.out] at HEV
      have S3 := Lib.hid (Blk.new w2 #[.int .u64 (s.a : Int), .int .u64 (s.b : Int)] 38)
      clear hb2 k0 k1
      cases hm : modK N l k with
      | false =>
        rw [hm] at HEV HUP
        clear hm
        go_wp2_with fail
        refine HEV.out.mono ?_
        rintro e w4 ⟨rfl, hb4⟩
        have HB4 := Lib.hid (HB3.out.trans (hb4.mono HB3.out.size))
        clear hb4
        go_wp2
        go_roundw
        case rel => exact ⟨k + 1, HLT.out, by go_num, by rw [HUP.out]; exact HO.out.later HB4.out, HBW.out.trans (HB4.out.mono (by have := HBW.out.size; have := HZ0.out; omega))⟩
        case measure =>
          have h1 := HLT.out
          generalize 2 ^ N = M at *
          simp [intOf]; omega
      | true =>
        rw [hm] at HEV HUP
        clear hm
        go_wp2_with fail
        refine HEV.out.mono ?_
        rintro e w4 ⟨rfl, hb4⟩
        have HB4 := Lib.hid (HB3.out.trans (hb4.mono HB3.out.size))
        have S4 := S3.out.later hb4
        have s0 : w4.cell? ⟨w2.heap.size, 0, none⟩ = some (.int .u64 (s.a : Int)) := S4.cell 0
        have s1 : w4.cell? ⟨w2.heap.size, 1, none⟩ = some (.int .u64 (s.b : Int)) := S4.cell 1
        have HO4 := Lib.hid (HO.out.later HB4.out)
        have HZ4 : Hid (w.heap.size + 1 ≤ w4.heap.size) := by show _ ≤ _; have h1 := HBW.out.size; have h2 := HZ0.out; have h3 := HB4.out.size; omega
        clear hb4 S4 m0 m1
        go_wp2_with (at_builtin; refine app1 (C := #[.int .u64 (s.a : Int), .int .u64 (s.b : Int)]) elemSet rfl _ _ rfl (w.heap.size + 1) _ _ _ rfl HO4.out rfl rfl (by simp [Value.oneCell']) (by unfold maxLen; have := HLE.out; have := HLT.out; have := HM.out; omega) (by have := HLE.out; have := HLT.out; have := HM.out; omega) HZ4.out ?_)
        intro v' w8 hown8 hgrow8 _
        have ho8 : OwnSets w8 (w.heap.size + 1) v' (modUp N l k ++ [s]) := by unfold OwnSets OwnL; rw [List.length_append, List.flatMap_append]; simpa [stc] using hown8
        have HO8 := Lib.hid ho8
        have HB8 : Hid (Below (w.heap.size + 1) W w8) := (HBW.out.trans (HB4.out.mono (by have := HBW.out.size; have := HZ0.out; omega))).grown hgrow8 HZ4.out (fun g hg => by
          rcases HO4.out.shape with ⟨h, _⟩ | ⟨g', cap'', h, h2, _⟩
          · rw [h] at hg; simp [Value.ownBlock] at hg
          · rw [h] at hg; simp [Value.ownBlock] at hg; omega)
        clear hown8 hgrow8 ho8
        go_wp2
        go_roundw
        case rel => exact ⟨k + 1, HLT.out, by go_num, by rw [HUP.out]; exact HO8.out, HB8.out⟩
        case measure =>
          have h1 := HLT.out
          generalize 2 ^ N = M at *
          simp [intOf]; omega
    · have hd : decide ((k : Int) < wrap64 ((2 : Int) ^ N)) = false := by rw [HSH.out, decide_eq_false_iff_not]; exact fun h => hlt (Int.ofNat_lt.1 h)
      have he : k = 2 ^ N := by have := HKM.out; omega
      have HO9 : Hid (OwnSets w1 w.heap.size u3 (modUp N l (2 ^ N))) := by
        have h := HO.out
        rw [he] at h
        exact (h.later HB1.out).lower (by omega)
      have HB9 : Hid (Below w.heap.size w w1) := (HB0.out.trans (HBW.out.mono (by omega))).trans (HB1.out.mono (by have := HBW.out.size; have := HZ0.out; omega))
      clear hlt he
      go_wp2
      go_ret
      exact ⟨_, rfl, HO9.out, HB9.out⟩
end Go.Proofs.YtfdonhfhcomjaaaGreatDoor
