/- Part 19 of 26 of the proof that censuslaw38.QueryFacts returns true for every input, where the tables that the row lists are laid. Texts: R20T, R20N, R20E. -/
import Derived.Test.YtfdonhfhcomjaaaGreatDoorZA18
import Derived.Test.YtfdonhfhcomjaaaGreatDoorZA6
import Derived.Test.YtfdonhfhcomjaaaGreatDoorZA14
import Derived.Deep.DeepCutAuto
import Derived.Deep.RegionHeld3

/- The walks of censusref20's Truth and Eval. -/
namespace Go.Proofs.YtfdonhfhcomjaaaGreatDoor
open Go.RowKit Cen
set_option maxHeartbeats 2000000
set_option maxRecDepth 100000
/-- The truth of a node of which m inputs have been looked at. -/
def acc (s f : Int → Bool) (x : Nd) (m : Nat) : Bool := evNd s f ⟨x.kind, x.lit, x.ins.take m⟩
theorem acc_and {s f : Int → Bool} {x : Nd} {m : Nat} (hm : m < x.ins.length) (h : x.kind = 3) : acc s f x (m + 1) = (acc s f x m && f x.ins[m]) := by
  unfold acc evNd; simp only; rw [if_neg (by omega), if_neg (by omega), if_pos h, if_neg (by omega), if_neg (by omega), if_pos h, List.take_succ_eq_append_getElem hm, List.all_append]; simp
theorem acc_or {s f : Int → Bool} {x : Nd} {m : Nat} (hm : m < x.ins.length) (h : x.kind = 4) : acc s f x (m + 1) = (acc s f x m || f x.ins[m]) := by
  unfold acc evNd; simp only
  rw [if_neg (by omega), if_neg (by omega), if_neg (by omega), if_pos h, if_neg (by omega), if_neg (by omega), if_neg (by omega), if_pos h, List.take_succ_eq_append_getElem hm, List.any_append]; simp
theorem acc_end (s f : Int → Bool) (x : Nd) : acc s f x x.ins.length = evNd s f x := by unfold acc; rw [List.take_length]
theorem acc_zero {s f : Int → Bool} {x : Nd} : acc s f x 0 = if x.kind = 1 then true else if x.kind = 2 then holds s x.lit else decide (x.kind = 3) := by
  unfold acc evNd; simp only [List.take_zero]
  by_cases h1 : x.kind = 1
  · simp [h1]
  · by_cases h2 : x.kind = 2
    · simp [h2]
    · by_cases h3 : x.kind = 3
      · simp [h3]
      · simp [h1, h2, h3]
theorem ins_kind {x : Nd} {n b : Int} (h : ndOk x n b = true) (hi : x.ins ≠ []) : x.kind = 3 ∨ x.kind = 4 := by
  have hk := formOk_kind h
  simp only [ndOk, Bool.and_eq_true] at h
  have h2 := h.2
  unfold formOk at h2
  by_cases h0 : x.kind = 0 ∨ x.kind = 1
  · rw [if_pos h0] at h2; simp at h2; exact absurd h2.2 hi
  · rw [if_neg h0] at h2
    by_cases h3 : x.kind = 2
    · rw [if_pos h3] at h2; simp at h2; exact absurd h2.2 hi
    · omega
theorem rTruth_any (n : Int) (a : Option Addr) (cap : Nat) (l : List Nd) (s : St) (w : World) (hok : netOk ⟨n, l⟩ = true) (hx : NdCells w a l) (hs : s.ok) :
    Calls Tryz.prog 111 #[.agg #[.int .i64 n, .slice a l.length cap], stv s] w fun e w' => ∃ g cap', e = .returned (.slice (some ⟨g, 0, none⟩) l.length cap') ∧ OwnL bc 4 1 w' w.heap.size (.slice (some ⟨g, 0, none⟩) l.length cap') (truth s.mem l) ∧ Below w.heap.size w w' := by
  have hb0 : Below w.heap.size w ((w.alloc (.cells #[.int .i64 n, .slice a l.length cap] 24)).alloc (.cells #[.int .u64 (s.a : Int), .int .u64 (s.b : Int)] 38)) := ((Below.refl _ _).alloc (Nat.le_refl _) _).alloc (by simp) _
  have HB0 := Lib.hid hb0
  have HX := Lib.hid hx
  have q0 := Lib.hid ((Blk.new w #[.int .i64 n, .slice a l.length cap] 24).alloc (.cells #[.int .u64 (s.a : Int), .int .u64 (s.b : Int)] 38))
  have q1 := Lib.hid (Blk.new' (w.alloc (.cells #[.int .i64 n, .slice a l.length cap] 24)) (World.size_alloc _ _) #[.int .u64 (s.a : Int), .int .u64 (s.b : Int)] 38)
  have HK := Lib.hid hok
  have HS := Lib.hid hs
  obtain ⟨_, _, hl1, hl2⟩ := netOk_head hok
  simp only at hl1 hl2
  have HL1 := Lib.hid hl1
  have HZ0 : Hid (((w.alloc (.cells #[.int .i64 n, .slice a l.length cap] 24)).alloc (.cells #[.int .u64 (s.a : Int), .int .u64 (s.b : Int)] 38)).heap.size = w.heap.size + 2) := by show _ = _; simp
  clear hb0 hx hok hs hl1
  go_enter Tryz.func111, Tryz.ntmps111
  go_wp2
  generalize (w.alloc (.cells #[.int .i64 n, .slice a l.length cap] 24)).alloc (.cells #[.int .u64 (s.a : Int), .int .u64 (s.b : Int)] 38) = W at *
  go_loopw [5, 6] (fun v i wr => ∃ k : Nat, k ≤ l.length ∧ i = .int .i64 k ∧ OwnL bc 4 1 wr (w.heap.size + 2) v (truth s.mem (l.take k)) ∧ Below (w.heap.size + 2) W wr) (fun _ i _ => l.length - (intOf i).toNat)
  case atStart => exact ⟨0, Nat.zero_le _, rfl, OwnL.nil _ _, Below.refl _ _⟩
  case round =>
    obtain ⟨k, hk, rfl, hown, hb⟩ := hrel
    obtain ⟨ao, capv, rfl⟩ := hown.sliced
    have HO := Lib.hid hown
    have HBW := Lib.hid hb
    have HBA := Lib.hid (HB0.out.trans (hb.mono (by omega)))
    have Q0 := Lib.hid (q0.out.laterB hb (by omega))
    have Q1 := Lib.hid (q1.out.laterB hb (by omega))
    have k0 : wr.cell? ⟨w.heap.size, 0, none⟩ = some (.int .i64 n) := Q0.out.cell 0
    have k1 : wr.cell? ⟨w.heap.size, 1, none⟩ = some (.slice a l.length cap) := Q0.out.cell 1
    have hzw : w.heap.size + 1 < wr.heap.size := Q1.out.lt
    have htl : (truth s.mem (l.take k)).length = k := by rw [truth_length, List.length_take]; omega
    clear hown hb
    by_cases hlt : k < l.length
    · obtain ⟨b, off, rfl, c0', c1', av, cv, c2', hin, hil⟩ := HX.out k hlt
      have hgd : l.getD k default = l[k] := by simp [List.getD_eq_getElem?_getD, hlt]
      rw [hgd] at c0' c1' c2' hin hil
      have hbw : b < w.heap.size := cell_block c0'
      have c0 := HBA.out.cell (p := ⟨b, off + k * 3, none⟩) hbw
      have c1 := HBA.out.cell (p := ⟨b, off + k * 3 + 1, none⟩) hbw
      have c2 := HBA.out.cell (p := ⟨b, off + k * 3 + 2, none⟩) hbw
      rw [c0'] at c0
      rw [c1'] at c1
      rw [c2'] at c2
      have HNK := Lib.hid (netOk_nd HK.out hlt)
      have HTS : Hid (truth s.mem (l.take (k + 1)) = truth s.mem (l.take k) ++ [evNd s.mem (at' (truth s.mem (l.take k))) l[k]]) := by
        show _ = _; rw [List.take_succ_eq_append_getElem hlt, truth_snoc]
      simp only at HNK
      generalize l[k] = x at *
      generalize truth s.mem (l.take k) = vs at *
      have HTL := Lib.hid htl
      have HIN := Lib.hid hin
      have hbz : b < wr.heap.size := cell_block c0
      have HA0 := Lib.hid (acc_zero (s := s.mem) (f := at' vs) (x := x))
      have HAE := Lib.hid (acc_end s.mem (at' vs) x)
      have HBLK := Lib.hid (Blk.new wr #[.int .i64 x.kind, .int .i64 x.lit, .slice av x.ins.length cv] 73)
      clear hin hgd htl c0' c1' c2'
      rcases x with ⟨kd, lt, ins⟩
      simp only at *
      go_upto_region 6 with fail
      go_cut [8] (fun c wx => c = .bool (acc s.mem (at' vs) ⟨kd, lt, ins⟩ 0) ∧ Below wr.heap.size wr wx ∧ Blk wx wr.heap.size #[.int .i64 kd, .int .i64 lt, .slice av ins.length cv] 73)
      case first =>
        have hk5 := formOk_kind HNK.out
        simp only at hk5
        have s0 : (wr.alloc (.cells #[.int .i64 kd, .int .i64 lt, .slice av ins.length cv] 73)).cell? ⟨w.heap.size + 1, 0, none⟩ = some (.int .u64 (s.a : Int)) := (Q1.out.alloc _).cell 0
        have s1 : (wr.alloc (.cells #[.int .i64 kd, .int .i64 lt, .slice av ins.length cv] 73)).cell? ⟨w.heap.size + 1, 1, none⟩ = some (.int .u64 (s.b : Int)) := (Q1.out.alloc _).cell 1
        have HB6 := Lib.hid ((Below.refl wr.heap.size wr).alloc (Nat.le_refl _) (.cells #[.int .i64 kd, .int .i64 lt, .slice av ins.length cv] 73))
        rcases hk5 with rfl | rfl | rfl | rfl | rfl
        · go_wp2_with fail
          go_meet
          exact ⟨by rw [HA0.out]; rfl, HB6.out, HBLK.out⟩
        · go_wp2_with fail
          go_meet
          exact ⟨by rw [HA0.out]; rfl, HB6.out, HBLK.out⟩
        · have HH := Lib.hid (fun V => rHolds_any s lt V HS.out)
          go_wp2_with fail
          refine (HH.out _).mono ?_
          rintro e w5 ⟨rfl, hb5⟩
          have HB7 := Lib.hid (HB6.out.trans (hb5.mono HB6.out.size))
          have HK7 := Lib.hid (HBLK.out.later hb5)
          clear hb5
          go_wp2_with fail
          go_meet
          exact ⟨by rw [HA0.out]; rfl, HB7.out, HK7.out⟩
        · go_wp2_with fail
          go_meet
          exact ⟨by rw [HA0.out]; rfl, HB6.out, HBLK.out⟩
        · go_wp2_with fail
          go_meet
          exact ⟨by rw [HA0.out]; rfl, HB6.out, HBLK.out⟩
      case rest =>
        obtain ⟨rfl, hbc, hkc⟩ := hcut
        obtain ⟨wx, rfl⟩ : ∃ wx : World, wx = wc := ⟨_, rfl⟩
        have HBX := Lib.hid hbc
        have HBXA := Lib.hid (HBA.out.trans (hbc.mono HBA.out.size))
        have HBXW := Lib.hid (HBW.out.trans (hbc.mono (by have := Q1.out.lt; omega)))
        have HOX := Lib.hid (HO.out.later hbc)
        have d0 : wx.cell? ⟨wr.heap.size, 0, none⟩ = some (.int .i64 kd) := hkc.cell 0
        have d2 : wx.cell? ⟨wr.heap.size, 2, none⟩ = some (.slice av ins.length cv) := hkc.cell 2
        have HZX := Lib.hid HBX.out.size
        clear hbc hkc k0 k1 c0 c1 c2
        go_wp2_with fail
        go_loop [8, 9] (fun c i => ∃ m : Nat, m ≤ ins.length ∧ i = .int .i64 m ∧ c = .bool (acc s.mem (at' vs) ⟨kd, lt, ins⟩ m)) (fun _ i => ins.length - (intOf i).toNat)
        case atStart => exact ⟨0, Nat.zero_le _, rfl, rfl⟩
        case round =>
          obtain ⟨m, hm, rfl, rfl⟩ := hrel
          by_cases hlm : m < ins.length
          · obtain ⟨b2, off2, rfl, e0'⟩ := HIN.out m hlm
            have hgd : ins.getD m 0 = ins[m] := by simp [List.getD_eq_getElem?_getD, hlm]
            have hq := ndOk_ins HNK.out ins[m] (List.getElem_mem hlm)
            have hkk := ins_kind HNK.out (show ins ≠ [] from fun e => by rw [e] at hlm; simp at hlm)
            have hand := fun h => acc_and (s := s.mem) (f := at' vs) (x := ⟨kd, lt, ins⟩) (m := m) hlm h
            have hor := fun h => acc_or (s := s.mem) (f := at' vs) (x := ⟨kd, lt, ins⟩) (m := m) hlm h
            simp only at hkk hand hor
            rw [hgd] at e0'
            generalize ins[m] = y at *
            have hb2w : b2 < w.heap.size := cell_block e0'
            have e0 := HBXA.out.cell (p := ⟨b2, off2 + m, none⟩) hb2w
            rw [e0'] at e0
            obtain ⟨q, rfl⟩ := Int.eq_ofNat_of_zero_le hq.1
            have hqk : q < vs.length := by have := HTL.out; omega
            have hyv : at' vs (q : Int) = vs[q] := by unfold at'; simp [List.getD_eq_getElem?_getD, hqk]
            rw [hyv] at hand hor
            obtain ⟨g, rfl⟩ : ∃ g, ao = some ⟨g, 0, none⟩ := by
              rcases HOX.out.shape with ⟨_, h⟩ | ⟨g, cap'', h, _⟩
              · rw [h] at hqk; simp at hqk
              · simp only [Value.slice.injEq] at h; exact ⟨g, h.1⟩
            have f0 : wx.cell? ⟨g, q, none⟩ = some (.bool vs[q]) := by have := HOX.out.cell rfl bc_len q 0 hqk (by omega); simpa [bc] using this
            have hqi : (q : Int) < (vs.length : Int) := by have := hq.2; omega
            have HAND := Lib.hid hand
            have HOR := Lib.hid hor
            generalize vs[q] = d at *
            generalize hcm : acc s.mem (at' vs) ⟨kd, lt, ins⟩ m = c at *
            have HCM := Lib.hid hcm
            clear hand hor hyv hgd e0' hq hcm
            rcases hkk with rfl | rfl
            all_goals
              cases c
              all_goals
                go_wp2_with fail
                go_round
                case rel => exact ⟨m + 1, by omega, by go_num, by first | (rw [HAND.out rfl]; try rfl) | (rw [HOR.out rfl]; try rfl)⟩
                case measure => simp [intOf]; omega
          · have : m = ins.length := by omega
            subst this
            have hae := HAE.out
            rw [hae]
            generalize hev : evNd s.mem (at' vs) ⟨kd, lt, ins⟩ = c at *
            have HEV := Lib.hid hev
            clear hae hev
            go_wp2_with (at_builtin; refine app1 (C := #[.bool c]) elemBool rfl _ _ rfl (w.heap.size + 2) _ _ _ rfl HOX.out rfl rfl (by simp [Value.oneCell']) (by unfold maxLen; have := HTL.out; omega) (by have := HTL.out; omega) (by have := HZX.out; have := Q1.out.lt; omega) ?_)
            intro v' w8 hown8 hgrow8 _
            have ho8 : OwnL bc 4 1 w8 (w.heap.size + 2) v' (vs ++ [c]) := by unfold OwnL; rw [List.length_append, List.flatMap_append]; simpa [bc] using hown8
            have HO8 := Lib.hid ho8
            have HB8 : Hid (Below (w.heap.size + 2) W w8) := HBXW.out.grown hgrow8 (by have := HZX.out; have := Q1.out.lt; omega) (fun g hg => by
              rcases HOX.out.shape with ⟨h, _⟩ | ⟨g', cap'', h, h2, _⟩
              · rw [h] at hg; simp [Value.ownBlock] at hg
              · rw [h] at hg; simp [Value.ownBlock] at hg; omega)
            clear hown8 hgrow8 ho8
            go_wp2
            go_roundw
            case rel => exact ⟨k + 1, by omega, by go_num, by rw [HTS.out]; exact HO8.out, HB8.out⟩
            case measure => simp [intOf]; omega
    · have : k = l.length := by omega
      subst this
      have ho := HO.out
      rw [htl, List.take_length] at ho
      obtain ⟨g, rfl⟩ : ∃ g, ao = some ⟨g, 0, none⟩ := by
        rcases ho.shape with ⟨_, h⟩ | ⟨g, cap'', h, _⟩
        · have h2 := truth_length s.mem l; rw [h] at h2; have := HL1.out; simp at h2; omega
        · simp only [Value.slice.injEq] at h; exact ⟨g, h.1⟩
      have HOE := Lib.hid (ho.lower (show w.heap.size ≤ w.heap.size + 2 by omega))
      clear ho
      go_wp2
      rw [htl]
      go_ret
      exact ⟨g, capv, rfl, HOE.out, HBA.out⟩
end Go.Proofs.YtfdonhfhcomjaaaGreatDoor

/- The walk of censusref20's Nth. -/
namespace Go.Proofs.YtfdonhfhcomjaaaGreatDoor
open Go.RowKit Cen
set_option maxHeartbeats 2000000
set_option maxRecDepth 100000
/-- The k-th assignment: variable v is true if bit n - v of k is 1. -/
def nthA (n k : Nat) : Nat → Nat
  | 0 => 0
  | v + 1 => if k.testBit (n - (v + 1)) then nthA n k v ||| 2 ^ v else nthA n k v
def nthL (n k : Nat) : St := ⟨nthA n k n, 0⟩
theorem nthA_lt (n k : Nat) : ∀ v, v ≤ 64 → nthA n k v < U64 := by
  intro v
  induction v with
  | zero => intro _; unfold nthA U64; omega
  | succ v ih =>
    intro hv
    rw [nthA]; split
    · exact or_lt_U64 (ih (by omega)) (pow_lt_U64 (by omega))
    · exact ih (by omega)
theorem nthA_bit (n k : Nat) : ∀ v j, (nthA n k v).testBit j = (decide (j < v) && k.testBit (n - (j + 1))) := by
  intro v
  induction v with
  | zero => intro j; simp [nthA]
  | succ v ih =>
    intro j
    rw [nthA]
    by_cases e : j = v
    · subst e
      cases h : k.testBit (n - (j + 1)) with
      | true => rw [if_pos rfl, Nat.testBit_or, Nat.testBit_two_pow]; simp
      | false => rw [if_neg (by simp), ih]; simp [h]
    · have h1 : decide (j < v + 1) = decide (j < v) := by rw [decide_eq_decide]; omega
      rw [h1]
      split
      · rw [Nat.testBit_or, ih, Nat.testBit_two_pow]; simp [show ¬ v = j from fun h => e h.symm]
      · exact ih j
theorem nth_any (n k : Nat) (w : World) (hn : n ≤ 16) (_hk : k ≤ 65536) : Calls Tryz.prog 105 #[.int .i64 n, .int .i64 k] w fun e w' => e = .returned (stv (nthL n k)) ∧ Below w.heap.size w w' := by
  have HB0 := Lib.hid (((Below.refl w.heap.size w).alloc (Nat.le_refl _) (.cells #[.int .u64 0, .int .u64 0] 38)).alloc (by simp) (.cells #[.int .u64 0, .int .u64 0] 38))
  have q0 := Lib.hid ((Blk.new w #[.int .u64 0, .int .u64 0] 38).alloc (.cells #[.int .u64 0, .int .u64 0] 38))
  have q1 := Lib.hid (Blk.new' (w.alloc (.cells #[.int .u64 0, .int .u64 0] 38)) (World.size_alloc _ _) #[.int .u64 0, .int .u64 0] 38)
  go_enter Tryz.func105, Tryz.ntmps105
  go_wp2
  generalize (w.alloc (.cells #[.int .u64 0, .int .u64 0] 38)).alloc (.cells #[.int .u64 0, .int .u64 0] 38) = W at *
  go_loopw [6] (fun i wr => ∃ v : Nat, v ≤ n ∧ i = .int .i64 (v + 1) ∧ Blk wr (w.heap.size + 1) #[.int .u64 (nthA n k v : Int), .int .u64 0] 38 ∧ Below (w.heap.size + 1) W wr) (fun i _ => n + 1 - (intOf i).toNat)
  case atStart => exact ⟨0, Nat.zero_le _, rfl, q1.out, Below.refl _ _⟩
  case round =>
    obtain ⟨v, hv, rfl, hblk, hb⟩ := hrel
    have HBK := Lib.hid hblk
    have HB := Lib.hid hb
    have hz : w.heap.size + 1 < wr.heap.size := hblk.lt
    have c0 : wr.cell? ⟨w.heap.size + 1, 0, none⟩ = some (.int .u64 (nthA n k v : Int)) := hblk.cell 0
    have c1 : wr.cell? ⟨w.heap.size + 1, 1, none⟩ = some (.int .u64 0) := hblk.cell 1
    have f0 := hblk.fr 0
    have f1 := hblk.fr 1
    clear hblk hb
    by_cases hlt : v < n
    · have hdl : decide (((v : Int) + 1) ≤ (n : Int)) = true := by simp; omega
      have HE : Hid (bits BinOp.or IntKind.u64 ((nthA n k v : Nat) : Int) (IntKind.u64.wrap ((2 : Int) ^ v)) = ((nthA n k v ||| 2 ^ v : Nat) : Int)) := by
        show _ = _; rw [wrap_pow (by omega), or64 (nthA_lt n k v (by omega)) (pow_lt_U64 (by omega))]
      cases hkb : k.testBit (n - (v + 1)) with
      | false =>
        have hb : (((k : Int) / 2 ^ (n - (v + 1))).tmod 2 == 1) = false := by rw [tbit, hkb]
        have HN : Hid (nthA n k (v + 1) = nthA n k v) := by show _ = _; rw [nthA, hkb]; rfl
        clear hkb
        go_wp2
        go_roundw
        case rel => exact ⟨v + 1, by omega, by go_num, by rw [HN.out]; exact HBK.out, HB.out⟩
        case measure => simp [intOf]; omega
      | true =>
        have hb : (((k : Int) / 2 ^ (n - (v + 1))).tmod 2 == 1) = true := by rw [tbit, hkb]
        have HN : Hid (nthA n k (v + 1) = nthA n k v ||| 2 ^ v) := by show _ = _; rw [nthA, hkb]; rfl
        clear hkb
        go_wp2
        go_roundw
        case rel =>
          refine ⟨v + 1, by omega, by go_num, ?_, HB.out.setCell (Nat.le_refl _) _⟩
          rw [HN.out, ← HE.out]
          exact HBK.out.set 0 _
        case measure => simp [intOf]; omega
    · have : v = n := by omega
      subst this
      have hdl : decide (((v : Int) + 1) ≤ (v : Int)) = false := by simp; omega
      have R0 := Lib.hid (q0.out.laterB HB.out (by omega))
      have r0 : wr.cell? ⟨w.heap.size, 0, none⟩ = some (.int .u64 0) := R0.out.cell 0
      have r1 : wr.cell? ⟨w.heap.size, 1, none⟩ = some (.int .u64 0) := R0.out.cell 1
      have rf0 := R0.out.fr 0
      have rf1 := R0.out.fr 1
      have hz0 : w.heap.size < wr.heap.size := R0.out.lt
      obtain ⟨A, hA⟩ : ∃ A, A = nthA v k v := ⟨_, rfl⟩
      rw [← hA] at c0
      have HA := Lib.hid hA
      have HBA := Lib.hid (HB0.out.trans (HB.out.mono (by omega)))
      clear hA
      go_wp2
      have hbr := (R0.out.set 0 (.int .u64 (A : Int))).set 1 (.int .u64 0)
      have e0 : ((wr.setCell ⟨w.heap.size, 0, none⟩ (.int .u64 (A : Int))).setCell ⟨w.heap.size, 1, none⟩ (.int .u64 0)).cell? ⟨w.heap.size, 0, none⟩ = some (.int .u64 (A : Int)) := hbr.cell 0
      have e1 : ((wr.setCell ⟨w.heap.size, 0, none⟩ (.int .u64 (A : Int))).setCell ⟨w.heap.size, 1, none⟩ (.int .u64 0)).cell? ⟨w.heap.size, 1, none⟩ = some (.int .u64 0) := hbr.cell 1
      exact bodyPost_ret (v := stv ⟨A, 0⟩) (by simp [results, Tryz.results105, go_sem, e0, e1]) rfl ⟨by unfold nthL; rw [HA.out], (HBA.out.setCell (Nat.le_refl _) _).setCell (Nat.le_refl _) _⟩
end Go.Proofs.YtfdonhfhcomjaaaGreatDoor

/- The walks of censusref20's Eval, Nth, Models. -/
namespace Go.Proofs.YtfdonhfhcomjaaaGreatDoor
open Go.RowKit Cen
set_option maxHeartbeats 2000000
set_option maxRecDepth 100000
theorem last5 {p q r s t : Prop} (h : p ∧ q ∧ r ∧ s ∧ t) : t := h.2.2.2.2
theorem rEval_any (n : Int) (a : Option Addr) (cap : Nat) (l : List Nd) (s : St) (w : World) (hl : l.length ≤ 1073741824) (hx : NdCells w a l) (hs : s.ok) :
    Calls Tryz.prog 58 #[.agg #[.int .i64 n, .slice a l.length cap], stv s] w fun e w' => e = .returned (.bool (netOk ⟨n, l⟩ && ev s.mem ⟨n, l⟩)) ∧ Below w.heap.size w w' := by
  have hb0 : Below w.heap.size w ((w.alloc (.cells #[.int .i64 n, .slice a l.length cap] 24)).alloc (.cells #[.int .u64 (s.a : Int), .int .u64 (s.b : Int)] 38)) := ((Below.refl _ _).alloc (Nat.le_refl _) _).alloc (by simp) _
  have HB0 := Lib.hid hb0
  have HX := Lib.hid (hx.keep hb0)
  have q0 := Lib.hid ((Blk.new w #[.int .i64 n, .slice a l.length cap] 24).alloc (.cells #[.int .u64 (s.a : Int), .int .u64 (s.b : Int)] 38))
  have q1 := Lib.hid (Blk.new' (w.alloc (.cells #[.int .i64 n, .slice a l.length cap] 24)) (World.size_alloc _ _) #[.int .u64 (s.a : Int), .int .u64 (s.b : Int)] 38)
  have HS := Lib.hid hs
  clear hb0 hx hs
  go_enter Tryz.func58, Tryz.ntmps58
  go_wp2_with fail
  generalize (w.alloc (.cells #[.int .i64 n, .slice a l.length cap] 24)).alloc (.cells #[.int .u64 (s.a : Int), .int .u64 (s.b : Int)] 38) = W at *
  have HZ := Lib.hid HB0.out.size
  have k0 : W.cell? ⟨w.heap.size, 0, none⟩ = some (.int .i64 n) := q0.out.cell 0
  have k1 : W.cell? ⟨w.heap.size, 1, none⟩ = some (.slice a l.length cap) := q0.out.cell 1
  have k2 : W.cell? ⟨w.heap.size + 1, 0, none⟩ = some (.int .u64 (s.a : Int)) := q1.out.cell 0
  have k3 : W.cell? ⟨w.heap.size + 1, 1, none⟩ = some (.int .u64 (s.b : Int)) := q1.out.cell 1
  have HKS : Hid (∀ w' : World, Below W.heap.size W w' → w'.cell? ⟨w.heap.size, 0, none⟩ = some (.int .i64 n) ∧ w'.cell? ⟨w.heap.size, 1, none⟩ = some (.slice a l.length cap) ∧ w'.cell? ⟨w.heap.size + 1, 0, none⟩ = some (.int .u64 (s.a : Int)) ∧ w'.cell? ⟨w.heap.size + 1, 1, none⟩ = some (.int .u64 (s.b : Int)) ∧ Below W.heap.size W w') := Lib.hid fun w' hb => ⟨cell_keep hb k0, cell_keep hb k1, cell_keep hb k2, cell_keep hb k3, hb⟩
  have HV : Hid (∀ V, Below W.heap.size W V → Calls Tryz.prog 43 #[.agg #[.int .i64 n, .slice a l.length cap]] V fun e w' => e = .returned (.bool (netOk ⟨n, l⟩)) ∧ Below V.heap.size V w') := Lib.hid fun V hb => rValid_any n a cap l V hl (HX.out.keep hb)
  cases hok : netOk ⟨n, l⟩ with
  | false =>
    rw [hok] at HV
    have HOKF := Lib.hid hok
    clear hok
    refine wp_region_held_drew (S := (fun w' => w'.cell? ⟨w.heap.size, 0, none⟩ = some (.int .i64 n) ∧ w'.cell? ⟨w.heap.size, 1, none⟩ = some (.slice a l.length cap) ∧ w'.cell? ⟨w.heap.size + 1, 0, none⟩ = some (.int .u64 (s.a : Int)) ∧ w'.cell? ⟨w.heap.size + 1, 1, none⟩ = some (.int .u64 (s.b : Int)) ∧ Below W.heap.size W w')) (by kernel_rfl) ?_ (fun hHeld => ?_)
    · try dsimp only
      exact HKS.out _ (Below.refl _ _).drew
    refine wpAnyH_take (i := 0) (v := ?_) rfl (by kernel_rfl) (by kernel_rfl) (by kernel_rfl) (fun _ _ _ h => h) (Or.inl ⟨by rfl, ?_⟩) (by assumption) ?_
    rotate_left
    · intro w hSw
      try dsimp only at hSw
      first | (go_simp; done) | (go_simp; with_reducible rfl)
    change wpAnyH _ _ _ _ _ _ _ (Act.put _ (some 5) _) _
    try simp only [Act.put, List.setIfInBounds_toArray, List.set_cons_zero, List.set_cons_succ]
    refine wpAnyH_ready (rs := [1]) (by kernel_rfl) (by simp) ?_
    refine AllReadyH.cons rfl (fun K hK => ?_) AllReadyH.nil
    go_simp
    go_at_call 43
    refine (HV.out _ (last5 (by assumption))).mono ?_
    rintro e w1 ⟨rfl, hb1⟩
    have hw1 : Below W.heap.size W w1 := Below.trans (last5 (by assumption)) (hb1.mono (Below.size (B := W.heap.size) (w := W) (last5 (by assumption))))
    go_wp2_with fail
    refine hK.out _ _ ?_ (fun hHeld => ?_)
    · try dsimp only
      exact HKS.out _ hw1
    clear hK K
    try simp only [Act.put, List.setIfInBounds_toArray, List.set_cons_zero, List.set_cons_succ]
    refine wpAnyH_take (i := 2) (v := ?_) rfl (by kernel_rfl) (by kernel_rfl) (by kernel_rfl) (fun _ _ _ h => h) (Or.inl ⟨by rfl, ?_⟩) (by assumption) ?_
    rotate_left
    · intro w hSw
      try dsimp only at hSw
      first | (go_simp; done) | (go_simp; with_reducible rfl)
    change wpAnyH _ _ _ _ _ _ _ (Act.put _ (some 7) _) _
    try simp only [Act.put, List.setIfInBounds_toArray, List.set_cons_zero, List.set_cons_succ]
    refine wpAnyH_take (i := 3) rfl (by kernel_rfl) (by kernel_rfl) (by kernel_rfl) (fun _ _ _ h => h) (Or.inr ⟨by kernel_rfl, rfl⟩) (by assumption) ?_
    change wpAnyH _ _ _ _ _ _ _ (Act.put _ (some 8) _) _
    try simp only [Act.put, List.setIfInBounds_toArray, List.set_cons_zero, List.set_cons_succ]
    refine wpAnyH_take (i := 4) rfl (by kernel_rfl) (by kernel_rfl) (by kernel_rfl) (fun _ _ _ h => h) (Or.inr ⟨by kernel_rfl, rfl⟩) (by assumption) ?_
    change wpAnyH _ _ _ _ _ _ _ (Act.put _ (some 9) _) _
    try simp only [Act.put, List.setIfInBounds_toArray, List.set_cons_zero, List.set_cons_succ]
    refine wpAnyH_take (i := 5) rfl (by kernel_rfl) (by kernel_rfl) (by kernel_rfl) (fun _ _ _ h => h) (Or.inr ⟨by kernel_rfl, rfl⟩) (by assumption) ?_
    change wpAnyH _ _ _ _ _ _ _ (Act.put _ (some 10) _) _
    try simp only [Act.put, List.setIfInBounds_toArray, List.set_cons_zero, List.set_cons_succ]
    refine wpAnyH_take (i := 6) rfl (by kernel_rfl) (by kernel_rfl) (by kernel_rfl) (fun _ _ _ h => h) (Or.inr ⟨by kernel_rfl, rfl⟩) (by assumption) ?_
    change wpAnyH _ _ _ _ _ _ _ (Act.put _ (some 11) _) _
    try simp only [Act.put, List.setIfInBounds_toArray, List.set_cons_zero, List.set_cons_succ]
    refine wpAnyH_take (i := 7) rfl (by kernel_rfl) (by kernel_rfl) (by kernel_rfl) (fun _ _ _ h => h) (Or.inr ⟨by kernel_rfl, rfl⟩) (by assumption) ?_
    change wpAnyH _ _ _ _ _ _ _ (Act.put _ (some 12) _) _
    try simp only [Act.put, List.setIfInBounds_toArray, List.set_cons_zero, List.set_cons_succ]
    refine wpAnyH_take (i := 8) rfl (by kernel_rfl) (by kernel_rfl) (by kernel_rfl) (fun _ _ _ h => h) (Or.inr ⟨by kernel_rfl, rfl⟩) (by assumption) ?_
    change wpAnyH _ _ _ _ _ _ _ (Act.put _ (some 13) _) _
    try simp only [Act.put, List.setIfInBounds_toArray, List.set_cons_zero, List.set_cons_succ]
    refine wpAnyH_take (i := 9) rfl (by kernel_rfl) (by kernel_rfl) (by kernel_rfl) (fun _ _ _ h => h) (Or.inr ⟨by kernel_rfl, rfl⟩) (by assumption) ?_
    change wpAnyH _ _ _ _ _ _ _ (Act.put _ (some 14) _) _
    try simp only [Act.put, List.setIfInBounds_toArray, List.set_cons_zero, List.set_cons_succ]
    refine wpAnyH_take (i := 10) rfl (by kernel_rfl) (by kernel_rfl) (by kernel_rfl) (fun _ _ _ h => h) (Or.inr ⟨by kernel_rfl, rfl⟩) (by assumption) ?_
    change wpAnyH _ _ _ _ _ _ _ (Act.put _ (some 15) _) _
    try simp only [Act.put, List.setIfInBounds_toArray, List.set_cons_zero, List.set_cons_succ]
    refine wpAnyH_take (i := 11) rfl (by kernel_rfl) (by kernel_rfl) (by kernel_rfl) (fun _ _ _ h => h) (Or.inr ⟨by kernel_rfl, rfl⟩) (by assumption) ?_
    change wpAnyH _ _ _ _ _ _ _ (Act.put _ (some 16) _) _
    try simp only [Act.put, List.setIfInBounds_toArray, List.set_cons_zero, List.set_cons_succ]
    refine wpAnyH_take (i := 12) (v := ?_) rfl (by kernel_rfl) (by kernel_rfl) (by kernel_rfl) (fun _ _ _ h => h) (Or.inl ⟨by rfl, ?_⟩) (by assumption) ?_
    rotate_left
    · intro w hSw
      try dsimp only at hSw
      first | (go_simp; done) | (go_simp; with_reducible rfl)
    change wpAnyH _ _ _ _ _ _ _ (Act.put _ (some 17) _) _
    try simp only [Act.put, List.setIfInBounds_toArray, List.set_cons_zero, List.set_cons_succ]
    refine wpAnyH_take (i := 13) (v := ?_) rfl (by kernel_rfl) (by kernel_rfl) (by kernel_rfl) (fun _ _ _ h => h) (Or.inl ⟨by rfl, ?_⟩) (by assumption) ?_
    rotate_left
    · intro w hSw
      try dsimp only at hSw
      first | (go_simp; done) | (go_simp; with_reducible rfl)
    change wpAnyH _ _ _ _ _ _ _ (Act.put _ (some 4) _) _
    try simp only [Act.put, List.setIfInBounds_toArray, List.set_cons_zero, List.set_cons_succ]
    refine wpAnyH_done (by kernel_rfl) ?_ _
    all_goals
      have HFB := Lib.hid (HB0.out.trans (Below.mono (B := W.heap.size) (last5 (by assumption)) HZ.out))
      go_wp2
      go_ret
      exact ⟨ret_bool (by rw [HOKF.out]; rfl), HFB.out⟩
  | true =>
    rw [hok] at HV
    have HOKT := Lib.hid hok
    obtain ⟨m, hm⟩ : ∃ m, l.length - 1 = m := ⟨_, rfl⟩
    have hl1 := (netOk_head hok).2.2.1
    simp only at hl1
    have e1 : ((l.length : Int) - 1) = (m : Int) := by omega
    have hwr : IntKind.i64.wrap ((l.length : Int) - 1) = (m : Int) := by rw [e1]; exact IntWalk.i64_in _ (by omega)
    have hml : (m : Int) < (l.length : Int) := by omega
    have hm0 : (0 : Int) ≤ (m : Int) := by omega
    have h1l : (1 : Int) ≤ (l.length : Int) := by omega
    have hA : (0 : Int) ≤ (l.length : Int) - 1 := by omega
    have hB : (l.length : Int) - 1 < (l.length : Int) := by omega
    have hC : ((l.length : Int) - 1).toNat = m := by omega
    have hD : (l.length : Int).toNat - 1 = m := by omega
    clear e1
    have hwr2 : IntKind.i64.wrap ((l.length : Int) - 1) = (l.length : Int) - 1 := IntWalk.i64_in _ (by omega)
    clear hwr
    have HML : Hid (m < l.length) := by show _ < _; omega
    have HTR : Hid (∀ V, Below W.heap.size W V → Calls Tryz.prog 111 #[.agg #[.int .i64 n, .slice a l.length cap], stv s] V fun e w' => ∃ g cap', e = .returned (.slice (some ⟨g, 0, none⟩) l.length cap') ∧ OwnL bc 4 1 w' V.heap.size (.slice (some ⟨g, 0, none⟩) l.length cap') (truth s.mem l) ∧ Below V.heap.size V w') := Lib.hid fun V hb => rTruth_any n a cap l s V hok (HX.out.keep hb) HS.out
    have HEV : Hid (ev s.mem ⟨n, l⟩ = (truth s.mem l).getD m false) := by show _ = _; unfold ev; simp only [hm]
    have HTL := Lib.hid (truth_length s.mem l)
    generalize truth s.mem l = vs at *
    have HVM : Hid (vs.getD m false = vs[m]'(by rw [HTL.out]; exact HML.out)) := by show _ = _; simp [List.getD_eq_getElem?_getD, HTL.out, HML.out]
    clear hok hm hl1
    refine wp_region_held_drew (S := (fun w' => w'.cell? ⟨w.heap.size, 0, none⟩ = some (.int .i64 n) ∧ w'.cell? ⟨w.heap.size, 1, none⟩ = some (.slice a l.length cap) ∧ w'.cell? ⟨w.heap.size + 1, 0, none⟩ = some (.int .u64 (s.a : Int)) ∧ w'.cell? ⟨w.heap.size + 1, 1, none⟩ = some (.int .u64 (s.b : Int)) ∧ Below W.heap.size W w')) (by kernel_rfl) ?_ (fun hHeld => ?_)
    · try dsimp only
      exact HKS.out _ (Below.refl _ _).drew
    refine wpAnyH_take (i := 0) (v := ?_) rfl (by kernel_rfl) (by kernel_rfl) (by kernel_rfl) (fun _ _ _ h => h) (Or.inl ⟨by rfl, ?_⟩) (by assumption) ?_
    rotate_left
    · intro w hSw
      try dsimp only at hSw
      first | (go_simp; done) | (go_simp; with_reducible rfl)
    change wpAnyH _ _ _ _ _ _ _ (Act.put _ (some 5) _) _
    try simp only [Act.put, List.setIfInBounds_toArray, List.set_cons_zero, List.set_cons_succ]
    refine wpAnyH_ready (rs := [1]) (by kernel_rfl) (by simp) ?_
    refine AllReadyH.cons rfl (fun K hK => ?_) AllReadyH.nil
    go_simp
    go_at_call 43
    refine (HV.out _ (last5 (by assumption))).mono ?_
    rintro e w1 ⟨rfl, hb1⟩
    have hw1 : Below W.heap.size W w1 := Below.trans (last5 (by assumption)) (hb1.mono (Below.size (B := W.heap.size) (w := W) (last5 (by assumption))))
    go_wp2_with fail
    refine hK.out _ _ ?_ (fun hHeld => ?_)
    · try dsimp only
      exact HKS.out _ hw1
    clear hK K
    try simp only [Act.put, List.setIfInBounds_toArray, List.set_cons_zero, List.set_cons_succ]
    refine wpAnyH_take (i := 2) (v := ?_) rfl (by kernel_rfl) (by kernel_rfl) (by kernel_rfl) (fun _ _ _ h => h) (Or.inl ⟨by rfl, ?_⟩) (by assumption) ?_
    rotate_left
    · intro w hSw
      try dsimp only at hSw
      first | (go_simp; done) | (go_simp; with_reducible rfl)
    change wpAnyH _ _ _ _ _ _ _ (Act.put _ (some 7) _) _
    try simp only [Act.put, List.setIfInBounds_toArray, List.set_cons_zero, List.set_cons_succ]
    refine wpAnyH_take (i := 3) (v := ?_) rfl (by kernel_rfl) (by kernel_rfl) (by kernel_rfl) (fun _ _ _ h => h) (Or.inl ⟨by rfl, ?_⟩) (by assumption) ?_
    rotate_left
    · intro w hSw
      try dsimp only at hSw
      first | (go_simp; done) | (go_simp; with_reducible rfl)
    change wpAnyH _ _ _ _ _ _ _ (Act.put _ (some 8) _) _
    try simp only [Act.put, List.setIfInBounds_toArray, List.set_cons_zero, List.set_cons_succ]
    refine wpAnyH_take (i := 4) (v := ?_) rfl (by kernel_rfl) (by kernel_rfl) (by kernel_rfl) (fun _ _ _ h => h) (Or.inl ⟨by rfl, ?_⟩) (by assumption) ?_
    rotate_left
    · intro w hSw
      try dsimp only at hSw
      first | (go_simp; done) | (go_simp; with_reducible rfl)
    change wpAnyH _ _ _ _ _ _ _ (Act.put _ (some 9) _) _
    try simp only [Act.put, List.setIfInBounds_toArray, List.set_cons_zero, List.set_cons_succ]
    refine wpAnyH_take (i := 6) (v := ?_) rfl (by kernel_rfl) (by kernel_rfl) (by kernel_rfl) (fun _ _ _ h => h) (Or.inl ⟨by rfl, ?_⟩) (by assumption) ?_
    rotate_left
    · intro w hSw
      try dsimp only at hSw
      first | (go_simp; done) | (go_simp; with_reducible rfl)
    change wpAnyH _ _ _ _ _ _ _ (Act.put _ (some 11) _) _
    try simp only [Act.put, List.setIfInBounds_toArray, List.set_cons_zero, List.set_cons_succ]
    refine wpAnyH_take (i := 7) (v := ?_) rfl (by kernel_rfl) (by kernel_rfl) (by kernel_rfl) (fun _ _ _ h => h) (Or.inl ⟨by rfl, ?_⟩) (by assumption) ?_
    rotate_left
    · intro w hSw
      try dsimp only at hSw
      first | (go_simp; done) | (go_simp; with_reducible rfl)
    change wpAnyH _ _ _ _ _ _ _ (Act.put _ (some 12) _) _
    try simp only [Act.put, List.setIfInBounds_toArray, List.set_cons_zero, List.set_cons_succ]
    refine wpAnyH_take (i := 8) (v := ?_) rfl (by kernel_rfl) (by kernel_rfl) (by kernel_rfl) (fun _ _ _ h => h) (Or.inl ⟨by rfl, ?_⟩) (by assumption) ?_
    rotate_left
    · intro w hSw
      try dsimp only at hSw
      first | (go_simp; done) | (go_simp; with_reducible rfl)
    change wpAnyH _ _ _ _ _ _ _ (Act.put _ (some 13) _) _
    try simp only [Act.put, List.setIfInBounds_toArray, List.set_cons_zero, List.set_cons_succ]
    refine wpAnyH_take (i := 9) (v := ?_) rfl (by kernel_rfl) (by kernel_rfl) (by kernel_rfl) (fun _ _ _ h => h) (Or.inl ⟨by rfl, ?_⟩) (by assumption) ?_
    rotate_left
    · intro w hSw
      try dsimp only at hSw
      first | (go_simp; done) | (go_simp; with_reducible rfl)
    change wpAnyH _ _ _ _ _ _ _ (Act.put _ (some 14) _) _
    try simp only [Act.put, List.setIfInBounds_toArray, List.set_cons_zero, List.set_cons_succ]
    refine wpAnyH_ready (rs := [5]) (by kernel_rfl) (by simp) ?_
    refine AllReadyH.cons rfl (fun K hK => ?_) AllReadyH.nil
    go_simp
    go_at_call 111
    refine (HTR.out _ (last5 (by assumption))).mono ?_
    rintro e w2 ⟨g, cap2, rfl, ho2, hb2⟩
    have hw2 : Below W.heap.size W w2 := Below.trans hw1 (hb2.mono (Below.size (B := W.heap.size) (w := W) hw1))
    have f0 : w2.cell? ⟨g, m, none⟩ = some (.bool (vs.getD m false)) := by have := ho2.cell HTL.out.symm bc_len m 0 (by rw [HTL.out]; exact HML.out) (by omega); rw [HVM.out]; simpa [bc] using this
    clear ho2
    go_wp2_with fail
    refine hK.out _ _ ?_ (fun hHeld => ?_)
    · try dsimp only
      exact HKS.out _ hw2
    clear hK K
    try simp only [Act.put, List.setIfInBounds_toArray, List.set_cons_zero, List.set_cons_succ]
    refine wpAnyH_take (i := 10) (v := ?_) rfl (by kernel_rfl) (by kernel_rfl) (by kernel_rfl) (fun _ _ _ h => h) (Or.inl ⟨by rfl, ?_⟩) (by assumption) ?_
    rotate_left
    · intro w hSw
      try dsimp only at hSw
      first | (go_simp; done) | (go_simp; with_reducible rfl)
    change wpAnyH _ _ _ _ _ _ _ (Act.put _ (some 15) _) _
    try simp only [Act.put, List.setIfInBounds_toArray, List.set_cons_zero, List.set_cons_succ]
    refine wpAnyH_ready (rs := [11]) (by kernel_rfl) (by simp) ?_
    refine AllReadyH.cons rfl (fun K hK => ?_) AllReadyH.nil
    go_simp
    refine hK.out _ _ ?_ (fun hHeld => ?_)
    · try dsimp only
      exact HKS.out _ hw2
    clear hK K
    try simp only [Act.put, List.setIfInBounds_toArray, List.set_cons_zero, List.set_cons_succ]
    refine wpAnyH_take (i := 12) (v := ?_) rfl (by kernel_rfl) (by kernel_rfl) (by kernel_rfl) (fun _ _ _ h => h) (Or.inl ⟨by rfl, ?_⟩) (by assumption) ?_
    rotate_left
    · intro w hSw
      try dsimp only at hSw
      first | (go_simp; done) | (go_simp; with_reducible rfl)
    change wpAnyH _ _ _ _ _ _ _ (Act.put _ (some 17) _) _
    try simp only [Act.put, List.setIfInBounds_toArray, List.set_cons_zero, List.set_cons_succ]
    refine wpAnyH_take (i := 13) (v := ?_) rfl (by kernel_rfl) (by kernel_rfl) (by kernel_rfl) (fun _ _ _ h => h) (Or.inl ⟨by rfl, ?_⟩) (by assumption) ?_
    rotate_left
    · intro w hSw
      try dsimp only at hSw
      first | (go_simp; done) | (go_simp; with_reducible rfl)
    change wpAnyH _ _ _ _ _ _ _ (Act.put _ (some 4) _) _
    try simp only [Act.put, List.setIfInBounds_toArray, List.set_cons_zero, List.set_cons_succ]
    refine wpAnyH_done (by kernel_rfl) ?_ _
    all_goals
      have HFB := Lib.hid (HB0.out.trans (Below.mono (B := W.heap.size) (last5 (by assumption)) HZ.out))
      go_wp2
      go_ret
      exact ⟨ret_bool (by rw [HOKT.out, HEV.out]; rfl), HFB.out⟩
end Go.Proofs.YtfdonhfhcomjaaaGreatDoor
