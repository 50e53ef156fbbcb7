/- Part 20 of 26 of the proof that censuslaw38.QueryFacts returns true for every input, where the tables that the row lists are laid. Texts: R20M, LawP, QImp. -/
import Derived.Test.YtfdonhfhcomjaaaGreatDoorZA19
import Derived.Test.YtfdonhfhcomjaaaGreatDoorZA17
import Derived.Test.YtfdonhfhcomjaaaGreatDoorZA18

/- The walk of censusref20's Models. -/
namespace Go.Proofs.YtfdonhfhcomjaaaGreatDoor
open Go.RowKit Cen
set_option maxHeartbeats 2000000
set_option maxRecDepth 100000
def modK (N : Nat) (l : List Nd) (k : Nat) : Bool := ev (nthL N k).mem ⟨N, l⟩
def modUp (N : Nat) (l : List Nd) (k : Nat) : List St := ((List.range k).filter (modK N l)).map (nthL N)
theorem modUp_succ (N : Nat) (l : List Nd) (k : Nat) : modUp N l (k + 1) = if modK N l k then modUp N l k ++ [nthL N k] else modUp N l k := by
  unfold modUp
  rw [List.range_succ, List.filter_append, List.map_append]
  cases h : modK N l k <;> simp [h]
theorem modUp_len (N : Nat) (l : List Nd) (k : Nat) : (modUp N l k).length ≤ k := by
  unfold modUp
  rw [List.length_map]
  have := List.length_filter_le (modK N l) (List.range k)
  simpa using this
theorem nthL_ok {N : Nat} (h : N ≤ 16) (k : Nat) : (nthL N k).ok := ⟨nthA_lt N k N (by omega), by show 0 < U64; unfold U64; omega⟩
theorem models_any (N : Nat) (a : Option Addr) (cap : Nat) (l : List Nd) (w : World) (hok : netOk ⟨N, l⟩ = true) (hN : N ≤ 16) (hx : NdCells w a l) :
    Calls Tryz.prog 51 #[.agg #[.int .i64 N, .slice a l.length cap]] w fun e w' => ∃ v, e = .returned v ∧ OwnSets w' w.heap.size v (modUp N l (2 ^ N)) ∧ Below w.heap.size w w' := by
  have hb0 : Below w.heap.size w (w.alloc (.cells #[.int .i64 N, .slice a l.length cap] 24)) := (Below.refl _ _).alloc (Nat.le_refl _) _
  have HB0 := Lib.hid hb0
  have HX := Lib.hid (hx.keep hb0)
  have q0 := Lib.hid (Blk.new w #[.int .i64 N, .slice a l.length cap] 24)
  have HOK := Lib.hid hok
  have hl1 : l.length ≤ 1073741824 := by have := (netOk_head hok).2.2.2; simp only at this; omega
  have HZ0 : Hid ((w.alloc (.cells #[.int .i64 N, .slice a l.length cap] 24)).heap.size = w.heap.size + 1) := by show _ = _; simp
  have hM : 2 ^ N ≤ 65536 := Nat.pow_le_pow_right (n := 2) (by omega) hN
  have hsh : wrap64 ((2 : Int) ^ N) = ((2 ^ N : Nat) : Int) := by
    rw [show ((2 : Int) ^ N) = ((2 ^ N : Nat) : Int) from by norm_cast]
    generalize 2 ^ N = M at *
    exact IntWalk.wrap64_in ((M : Nat) : Int) (by omega)
  have HSH := Lib.hid hsh
  have HM := Lib.hid hM
  clear hb0 hx hok hM hsh
  go_enter Tryz.func51, Tryz.ntmps51
  go_wp2_with fail
  generalize w.alloc (.cells #[.int .i64 N, .slice a l.length cap] 24) = W at *
  go_loopw [3, 4] (fun v i wr => ∃ k : Nat, k ≤ 2 ^ N ∧ i = .int .i64 k ∧ OwnSets wr (w.heap.size + 1) v (modUp N l k) ∧ Below (w.heap.size + 1) W wr) (fun _ i _ => 2 ^ N - (intOf i).toNat)
  case atStart => exact ⟨0, Nat.zero_le _, rfl, OwnL.nil _ _, Below.refl _ _⟩
  case round =>
    obtain ⟨k, hk, rfl, hown, hb⟩ := hrel
    have HO := Lib.hid hown
    have HKM := Lib.hid hk
    have HBW := Lib.hid hb
    have hbs : Below W.heap.size W wr := by rw [HZ0.out]; exact hb
    have HXR := Lib.hid (HX.out.keep hbs)
    have Q0 := Lib.hid (q0.out.later hbs)
    have k0 : wr.cell? ⟨w.heap.size, 0, none⟩ = some (.int .i64 N) := Q0.out.cell 0
    have k1 : wr.cell? ⟨w.heap.size, 1, none⟩ = some (.slice a l.length cap) := Q0.out.cell 1
    have HV : Hid (Calls Tryz.prog 43 #[.agg #[.int .i64 N, .slice a l.length cap]] wr fun e w' => e = .returned (.bool true) ∧ Below wr.heap.size wr w') := by
      have h := rValid_any N a cap l wr hl1 HXR.out
      rw [HOK.out] at h; exact h
    clear hown hb hbs hk
    go_wp2_with fail
    refine HV.out.mono ?_
    rintro e w1 ⟨rfl, hb1⟩
    have Q1 := Lib.hid (Q0.out.later hb1)
    have HB1 := Lib.hid hb1
    clear k0 k1
    have k0 : w1.cell? ⟨w.heap.size, 0, none⟩ = some (.int .i64 N) := Q1.out.cell 0
    have k1 : w1.cell? ⟨w.heap.size, 1, none⟩ = some (.slice a l.length cap) := Q1.out.cell 1
    clear hb1
    have hNi : ((N : Int) ≤ 16) := by omega
    have hk2 : k ≤ 65536 := Nat.le_trans HKM.out HM.out
    by_cases hlt : k < 2 ^ N
    · have hd : decide ((k : Int) < wrap64 ((2 : Int) ^ N)) = true := by rw [HSH.out, decide_eq_true_iff]; exact Int.ofNat_lt.2 hlt
      have HNT := Lib.hid (nth_any N k w1 hN (by have := HM.out; omega))
      have HLT := Lib.hid hlt
      clear hlt
      go_wp2_with fail
      refine HNT.out.mono ?_
      rintro e w2 ⟨rfl, hb2⟩
      have HSO : Hid (nthL N k).ok := nthL_ok hN k
      have HUP := Lib.hid (modUp_succ N l k)
      have HLE := Lib.hid (modUp_len N l k)
      have HMK : Hid (modK N l k = ev (nthL N k).mem ⟨N, l⟩) := rfl
      generalize nthL N k = s at *
      have Q2 := Lib.hid (Q1.out.later hb2)
      have HB2 := Lib.hid (HB1.out.trans (hb2.mono HB1.out.size))
      have hz2 : w.heap.size < w2.heap.size := Q2.out.lt
      have m0 : w2.cell? ⟨w.heap.size, 0, none⟩ = some (.int .i64 N) := Q2.out.cell 0
      have m1 : w2.cell? ⟨w.heap.size, 1, none⟩ = some (.slice a l.length cap) := Q2.out.cell 1
      have HB3 : Hid (Below wr.heap.size wr (w2.alloc (.cells #[.int .u64 (s.a : Int), .int .u64 (s.b : Int)] 38))) := HB2.out.alloc HB2.out.size _
      have HEV := Lib.hid (rEval_any N a cap l s (w2.alloc (.cells #[.int .u64 (s.a : Int), .int .u64 (s.b : Int)] 38)) hl1 (HXR.out.keep HB3.out) HSO.out)
      rw [HOK.out, ← HMK.out] at HEV
      have S3 := Lib.hid (Blk.new w2 #[.int .u64 (s.a : Int), .int .u64 (s.b : Int)] 38)
      clear hb2 k0 k1
      cases hm : modK N l k with
      | false =>
        rw [hm] at HEV HUP
        clear hm
        go_wp2_with fail
        refine HEV.out.mono ?_
        rintro e w4 ⟨rfl, hb4⟩
        have HB4 := Lib.hid (HB3.out.trans (hb4.mono HB3.out.size))
        clear hb4
        go_wp2
        go_roundw
        case rel => exact ⟨k + 1, HLT.out, by go_num, by rw [HUP.out]; exact HO.out.later HB4.out, HBW.out.trans (HB4.out.mono (by have := HBW.out.size; have := HZ0.out; omega))⟩
        case measure =>
          have h1 := HLT.out
          generalize 2 ^ N = M at *
          simp [intOf]; omega
      | true =>
        rw [hm] at HEV HUP
        clear hm
        go_wp2_with fail
        refine HEV.out.mono ?_
        rintro e w4 ⟨rfl, hb4⟩
        have HB4 := Lib.hid (HB3.out.trans (hb4.mono HB3.out.size))
        have S4 := S3.out.later hb4
        have s0 : w4.cell? ⟨w2.heap.size, 0, none⟩ = some (.int .u64 (s.a : Int)) := S4.cell 0
        have s1 : w4.cell? ⟨w2.heap.size, 1, none⟩ = some (.int .u64 (s.b : Int)) := S4.cell 1
        have HO4 := Lib.hid (HO.out.later HB4.out)
        have HZ4 : Hid (w.heap.size + 1 ≤ w4.heap.size) := by show _ ≤ _; have h1 := HBW.out.size; have h2 := HZ0.out; have h3 := HB4.out.size; omega
        clear hb4 S4 m0 m1
        go_wp2_with (at_builtin; refine app1 (C := #[.int .u64 (s.a : Int), .int .u64 (s.b : Int)]) elemSet rfl _ _ rfl (w.heap.size + 1) _ _ _ rfl HO4.out rfl rfl (by simp [Value.oneCell']) (by unfold maxLen; have := HLE.out; have := HLT.out; have := HM.out; omega) (by have := HLE.out; have := HLT.out; have := HM.out; omega) HZ4.out ?_)
        intro v' w8 hown8 hgrow8 _
        have ho8 : OwnSets w8 (w.heap.size + 1) v' (modUp N l k ++ [s]) := by unfold OwnSets OwnL; rw [List.length_append, List.flatMap_append]; simpa [stc] using hown8
        have HO8 := Lib.hid ho8
        have HB8 : Hid (Below (w.heap.size + 1) W w8) := (HBW.out.trans (HB4.out.mono (by have := HBW.out.size; have := HZ0.out; omega))).grown hgrow8 HZ4.out (fun g hg => by
          rcases HO4.out.shape with ⟨h, _⟩ | ⟨g', cap'', h, h2, _⟩
          · rw [h] at hg; simp [Value.ownBlock] at hg
          · rw [h] at hg; simp [Value.ownBlock] at hg; omega)
        clear hown8 hgrow8 ho8
        go_wp2
        go_roundw
        case rel => exact ⟨k + 1, HLT.out, by go_num, by rw [HUP.out]; exact HO8.out, HB8.out⟩
        case measure =>
          have h1 := HLT.out
          generalize 2 ^ N = M at *
          simp [intOf]; omega
    · have hd : decide ((k : Int) < wrap64 ((2 : Int) ^ N)) = false := by rw [HSH.out, decide_eq_false_iff_not]; exact fun h => hlt (Int.ofNat_lt.1 h)
      have he : k = 2 ^ N := by have := HKM.out; omega
      have HO9 : Hid (OwnSets w1 w.heap.size u3 (modUp N l (2 ^ N))) := by
        have h := HO.out
        rw [he] at h
        exact (h.later HB1.out).lower (by omega)
      have HB9 : Hid (Below w.heap.size w w1) := (HB0.out.trans (HBW.out.mono (by omega))).trans (HB1.out.mono (by have := HBW.out.size; have := HZ0.out; omega))
      clear hlt he
      go_wp2
      go_ret
      exact ⟨_, rfl, HO9.out, HB9.out⟩
end Go.Proofs.YtfdonhfhcomjaaaGreatDoor

/- Plain: what the law's examples answer; that what the functions answer is what the references answer. -/
namespace Go.Proofs.YtfdonhfhcomjaaaGreatDoor
open Cen
def orN : List Nd := [⟨2, 1, []⟩, ⟨2, 2, []⟩, ⟨4, 0, [0, 1]⟩]
def oneN : List Nd := [⟨2, 1, []⟩]
theorem or_ok : netOk ⟨2, orN⟩ = true := by decide +kernel
theorem one_ok : netOk ⟨2, oneN⟩ = true := by decide +kernel
theorem or_dec : decL orN = true := by decide +kernel
theorem one_dec : decL oneN = true := by decide +kernel
theorem or_small : Small orN := ⟨by decide, by intro y hy; simp [orN] at hy; rcases hy with rfl | rfl | rfl <;> decide⟩
theorem one_small : Small oneN := ⟨by decide, by intro y hy; simp [oneN] at hy; subst hy; decide⟩
theorem ev_or (s : Int → Bool) : ev s ⟨2, orN⟩ = (s 1 || s 2) := by
  simp [ev, truth, orN, evs, evNd, at', holds, litVar]
theorem ev_one (s : Int → Bool) : ev s ⟨2, oneN⟩ = s 1 := by
  simp [ev, truth, oneN, evs, evNd, holds, litVar]
theorem ev_true (s : Int → Bool) (n : Int) : ev s ⟨n, [⟨1, 0, []⟩]⟩ = true := by simp [ev, truth, evs, evNd]
theorem chk_or : chkR [] ⟨2, orN⟩ = 0 := by decide +kernel
theorem chk_or12 : chkR [1, 2] ⟨2, orN⟩ = 0 := by decide +kernel
theorem chk_or2 : chkR [2] ⟨2, orN⟩ = 0 := by decide +kernel
theorem chk_oo : chk2 ⟨2, orN⟩ ⟨2, oneN⟩ = 0 := by decide +kernel
theorem chk_oo' : chk2 ⟨2, oneN⟩ ⟨2, orN⟩ = 0 := by decide +kernel
theorem cons_or : consR ⟨2, orN⟩ = true := by
  unfold consR
  rw [decide_eq_true chk_or]
  simp only [Bool.true_and, decide_eq_true_eq]
  intro h
  have := (gvL_root or_ok or_dec (xs := []) (fun x hx => by simp at hx)).1 h (fun _ => true)
  rw [ev_or] at this; simp [ovr] at this
theorem true2_ok : netOk ⟨2, [⟨1, 0, []⟩]⟩ = true := by decide +kernel
theorem tsmall : Small [(⟨1, 0, []⟩ : Nd)] := ⟨by simp, by simp⟩
theorem imp_or : impR ⟨2, orN⟩ [] = false := by
  unfold impR
  rw [decide_eq_true chk_or, show clash [] = false from rfl]
  simp only [Bool.true_and, Bool.false_or]
  cases h : cntL 2 [⟨1, 0, []⟩] (gvL 2 [] orN) with
  | some m => rfl
  | none =>
    have := (cntL_spec true2_ok (gvL_fine (xs := []) or_ok or_small).1 tsmall (gvL_fine (xs := []) or_ok or_small).2.1).1 h (fun _ => false)
    exact absurd ⟨ev_true _ _, by rw [ev_gv0 or_ok, ev_or]; rfl⟩ this
theorem ent_or : entR ⟨2, orN⟩ [1, 2] = true := by
  unfold entR
  rw [decide_eq_true chk_or12]
  simp only [Bool.true_and, Bool.or_eq_true, decide_eq_true_eq]
  right
  refine (gvL_root or_ok or_dec (xs := [-1, -2]) (fun x hx => ?_)).2 fun s => ?_
  · simp at hx ⊢; rcases hx with rfl | rfl <;> decide
  · rw [ev_or]; simp [ovr]
theorem imp_or2 : impR ⟨2, orN⟩ [2] = true := by
  unfold impR
  rw [decide_eq_true chk_or2, show clash [2] = false from rfl]
  simp only [Bool.true_and, Bool.false_or]
  cases h : cntL 2 [⟨1, 0, []⟩] (gvL 2 [2] orN) with
  | none => rfl
  | some m =>
    have := ((cntL_spec true2_ok (gvL_fine (xs := [2]) or_ok or_small).1 tsmall (gvL_fine (xs := [2]) or_ok or_small).2.1).2 m h).is.2
    rw [gvL_ev or_ok (noClash1 (by decide)), ev_or] at this
    simp [ovr] at this
theorem mem_add_list (m : List Int) : ∀ (F : St) (v : Int), (m.foldl St.add F).mem v = (F.mem v || (m.contains v && decide (1 ≤ v) && decide (v ≤ 128))) := by
  induction m with
  | nil => intro F v; simp
  | cons x m ih =>
    intro F v
    rw [List.foldl_cons, ih, St.mem_add, List.contains_cons, show (v == x) = decide (v = x) from rfl]
    by_cases e : v = x
    · subst e
      rw [decide_eq_true (rfl : v = v)]
      generalize F.mem v = p1
      generalize m.contains v = p2
      generalize decide (1 ≤ v) = p3
      generalize decide (v ≤ 128) = p4
      cases p1 <;> cases p2 <;> cases p3 <;> cases p4 <;> rfl
    · rw [decide_eq_false e]
      generalize F.mem v = p1
      generalize m.contains v = p2
      cases p1 <;> cases p2 <;> rfl
theorem foundOf_mem {F : St} {m : List Int} (v : Int) : (foundOf F (some m)).mem v = (F.mem v || (m.contains v && decide (1 ≤ v) && decide (v ≤ 128))) := mem_add_list m F v
theorem foundOf_ok {F : St} (h : F.ok) (o : Option (List Int)) : (foundOf F o).ok := by
  cases o with
  | none => exact h
  | some m =>
    have : ∀ (m : List Int) (F : St), F.ok → (m.foldl St.add F).ok := by
      intro m
      induction m with
      | nil => intro F h; exact h
      | cons x m ih => intro F h; exact ih _ (St.add_ok h x)
    exact this m F h
theorem cnt_or : ∃ m, cntR ⟨2, orN⟩ ⟨2, oneN⟩ = some m ∧ foundOf St.zero (some m) = ⟨2, 0⟩ := by
  unfold cntR
  rw [if_pos chk_oo]
  simp only
  obtain ⟨h1, h2⟩ := cntL_spec or_ok one_ok or_small one_small
  cases h : cntL 2 orN oneN with
  | none =>
    exact absurd ⟨by rw [ev_or]; rfl, by rw [ev_one]; rfl⟩ (h1 h (fun v => decide (v = 2)))
  | some m =>
    refine ⟨m, rfl, ?_⟩
    have hL := h2 m h
    have hi := hL.is
    unfold cex at hi
    rw [ev_or, ev_one] at hi
    apply St.ext (foundOf_ok St.zero_ok _) ⟨by unfold U64; decide, by unfold U64; decide⟩
    intro v hv1 hv2
    rw [foundOf_mem, St.mem_zero, decide_eq_true hv1, decide_eq_true hv2]
    have hm : m.contains v = memL m v := rfl
    rw [hm]
    have e1 : memL m 1 = false := hi.2
    have e2 : memL m 2 = true := by have := hi.1; rw [e1] at this; simpa using this
    by_cases a : v = 1
    · subst a; rw [e1]; rfl
    · by_cases b : v = 2
      · subst b; rw [e2]; rfl
      · have : memL m v = false := by
          rw [Bool.eq_false_iff]; intro hc
          have := hL.bd v (by simpa [memL] using hc)
          omega
        rw [this]
        unfold St.mem
        by_cases c : 1 ≤ v ∧ v ≤ 64
        · rw [if_pos c]
          have : (2 : Nat) = 2 ^ 1 := rfl
          simp only [Bool.or_false, Bool.and_true]
          rw [this, Nat.testBit_two_pow]; simp; omega
        · rw [if_neg c]; split <;> simp
theorem cnt_one : cntR ⟨2, oneN⟩ ⟨2, orN⟩ = none := by
  unfold cntR
  rw [if_pos chk_oo']
  simp only
  cases h : cntL 2 oneN orN with
  | none => rfl
  | some m =>
    have := ((cntL_spec one_ok or_ok one_small or_small).2 m h).is
    unfold cex at this
    rw [ev_or, ev_one] at this
    rw [this.1] at this; simp at this
/-- Any assignment is the k-th one, for some k. -/
theorem bits_all (f : Nat → Bool) : ∀ N, ∃ k, k < 2 ^ N ∧ ∀ i, i < N → k.testBit i = f i := by
  intro N
  induction N with
  | zero => exact ⟨0, by simp, fun i h => absurd h (Nat.not_lt_zero _)⟩
  | succ N ih =>
    obtain ⟨k, h1, h2⟩ := ih
    refine ⟨if f N then k ||| 2 ^ N else k, ?_, fun i hi => ?_⟩
    · have : 2 ^ (N + 1) = 2 ^ N + 2 ^ N := by rw [Nat.pow_succ]; omega
      split
      · exact Nat.or_lt_two_pow (by omega) (Nat.pow_lt_pow_right (by omega) (by omega))
      · omega
    · by_cases e : i = N
      · subst e
        have hk : k.testBit i = false := Nat.testBit_lt_two_pow h1
        cases hf : f i with
        | true => simp
        | false => simpa using hk
      · have := h2 i (by omega)
        split
        · rw [Nat.testBit_or, this, Nat.testBit_two_pow]; simp [show ¬ N = i from fun h => e h.symm]
        · exact this
theorem nth_mem {N k : Nat} (hN : N ≤ 16) {v : Int} (h1 : 1 ≤ v) (h2 : v ≤ N) : (nthL N k).mem v = k.testBit (N - v.toNat) := by
  unfold St.mem nthL
  rw [if_pos (by omega), nthA_bit, decide_eq_true (by omega)]
  simp only [Bool.true_and]; congr 1; omega
theorem nth_all {N : Nat} (hN : N ≤ 16) (s : Int → Bool) : ∃ k, k < 2 ^ N ∧ ∀ v : Int, 1 ≤ v → v ≤ N → (nthL N k).mem v = s v := by
  obtain ⟨k, h1, h2⟩ := bits_all (fun i => s ((N - i : Nat) : Int)) N
  refine ⟨k, h1, fun v hv1 hv2 => ?_⟩
  rw [nth_mem hN hv1 hv2, h2 _ (by omega)]
  congr 1; omega
theorem ev_nth {N : Nat} {l : List Nd} (hN : N ≤ 16) (hok : netOk ⟨N, l⟩ = true) (s : Int → Bool) : ∃ k, k < 2 ^ N ∧ modK N l k = ev s ⟨N, l⟩ := by
  obtain ⟨k, h1, h2⟩ := nth_all hN s
  refine ⟨k, h1, ?_⟩
  unfold modK
  refine ev_congr fun y hy hk => ?_
  obtain ⟨a, b⟩ := netOk_lits hok y hy hk
  exact h2 _ (litVar_pos a).2.1 b
theorem cons_ref {N : Nat} {l : List Nd} (hN : N ≤ 16) (h : chkR [] ⟨N, l⟩ = 0) : decide (0 < (modUp N l (2 ^ N)).length) = consR ⟨N, l⟩ := by
  obtain ⟨hok, _, hd⟩ := chkR_ok h
  unfold consR
  rw [decide_eq_true h, Bool.eq_iff_iff]
  simp only [Bool.true_and, decide_eq_true_eq]
  have hr := gvL_root hok hd (xs := []) (fun x hx => by simp at hx)
  have ho : ∀ s, ovr [] s = s := fun s => by funext v; simp [ovr]
  constructor
  · intro hlen h0
    obtain ⟨st, hst⟩ := List.exists_mem_of_length_pos hlen
    unfold modUp at hst
    simp only [List.mem_map, List.mem_filter, List.mem_range] at hst
    obtain ⟨k, ⟨_, hm⟩, _⟩ := hst
    have := hr.1 h0 (nthL N k).mem
    rw [ho] at this
    unfold modK at hm
    rw [hm] at this; simp at this
  · intro hne
    apply Classical.byContradiction
    intro hlen
    refine hne (hr.2 fun s => ?_)
    rw [ho]
    obtain ⟨k, hk, he⟩ := ev_nth hN hok s
    cases hv : ev s ⟨N, l⟩ with
    | false => rfl
    | true =>
      rw [hv] at he
      have : nthL N k ∈ modUp N l (2 ^ N) := by
        unfold modUp; simp only [List.mem_map, List.mem_filter, List.mem_range]
        exact ⟨k, ⟨hk, he⟩, rfl⟩
      exact absurd (List.length_pos_of_mem this) hlen
theorem imp_iff {N : Nat} {l : List Nd} (hs : Small l) (h : chkR [] ⟨N, l⟩ = 0) : impR ⟨N, l⟩ [] = true ↔ ∀ s, ev s ⟨N, l⟩ = true := by
  obtain ⟨hok, _, hd⟩ := chkR_ok h
  unfold impR
  rw [decide_eq_true h, show clash [] = false from rfl]
  simp only [Bool.true_and, Bool.false_or]
  obtain ⟨hn0, hn1, _, _⟩ := netOk_head hok
  simp only at hn0 hn1
  have tok : netOk ⟨(N : Int), [⟨1, 0, []⟩]⟩ = true := by
    have h : ndsOk [⟨1, 0, []⟩] (N : Int) 1 := by
      intro j hj
      have : j = 0 := by omega
      subst this
      exact ndOk_const (.inr rfl)
    simp only [netOk, headOk, Bool.and_eq_true, decide_eq_true_eq]
    exact ⟨⟨⟨⟨hn0, hn1⟩, by simp⟩, by simp⟩, h⟩
  obtain ⟨f1, f2, _⟩ := gvL_fine (xs := []) hok hs
  obtain ⟨c1, c2⟩ := cntL_spec tok f1 tsmall f2
  constructor
  · intro hn s
    have hn' : cntL (N : Int) [⟨1, 0, []⟩] (gvL N [] l) = none := by simpa using hn
    cases he : ev s ⟨N, l⟩ with
    | true => rfl
    | false => exact absurd ⟨ev_true _ _, by rw [ev_gv0 hok]; exact he⟩ (c1 hn' s)
  · intro hall
    cases hc : cntL (N : Int) [⟨1, 0, []⟩] (gvL N [] l) with
    | none => rfl
    | some m =>
      have := (c2 m hc).is.2
      rw [ev_gv0 hok, hall] at this; simp at this
theorem valid_ref {N : Nat} {l : List Nd} (hN : N ≤ 16) (hs : Small l) (h : chkR [] ⟨N, l⟩ = 0) : decide ((modUp N l (2 ^ N)).length = 2 ^ N) = impR ⟨N, l⟩ [] := by
  obtain ⟨hok, _, hd⟩ := chkR_ok h
  rw [Bool.eq_iff_iff, imp_iff hs h, decide_eq_true_iff]
  unfold modUp
  rw [List.length_map]
  have hl : (List.range (2 ^ N)).length = 2 ^ N := List.length_range
  constructor
  · intro he s
    obtain ⟨k, hk, hev⟩ := ev_nth hN hok s
    rw [← hev]
    have := List.length_filter_eq_length_iff.1 (he.trans hl.symm) k (List.mem_range.2 hk)
    exact this
  · intro hall
    rw [List.length_filter_eq_length_iff.2 (fun k _ => (show modK N l k = true from hall _)), hl]
end Go.Proofs.YtfdonhfhcomjaaaGreatDoor

/- The walks of query.Implies, Valid, Same, Counter. -/
namespace Go.Proofs.YtfdonhfhcomjaaaGreatDoor
open Go.RowKit Cen
set_option maxHeartbeats 4000000
set_option maxRecDepth 100000
theorem last3 {p q r : Prop} (h : p ∧ q ∧ r) : r := h.2.2
theorem true_ok {n : Int} (h0 : 0 ≤ n) (h1 : n ≤ 128) (k : Int) (hk : k = 0 ∨ k = 1) : netOk ⟨n, [⟨k, 0, []⟩]⟩ = true := by
  have h : ndsOk [⟨k, 0, []⟩] n 1 := by
    intro j hj
    have : j = 0 := by omega
    subst this
    exact ndOk_const hk
  simp only [netOk, headOk, Bool.and_eq_true, decide_eq_true_eq]
  exact ⟨⟨⟨⟨h0, h1⟩, by simp⟩, by simp⟩, h⟩
theorem true_small (k : Int) : Small [⟨k, 0, []⟩] := ⟨by simp, by simp⟩
theorem implies_any (n : Int) (a : Option Addr) (cap : Nat) (l : List Nd) (b : Option Addr) (cap2 : Nat) (xs : List Int) (w : World) (hx : NdCells w a l) (hl : l.length ≤ 1073741824) (hxs : IntCells w b xs) (hxl : xs.length ≤ 1073741824) (hs : netOk ⟨n, l⟩ = true → Small l) (hco : impCost ⟨n, l⟩ xs) (ht : Tab w) :
    Calls Tryz.prog 19 #[.agg #[.int .i64 n, .slice a l.length cap], .slice b xs.length cap2] w fun e w' => e = .returned (.tuple #[.bool (impR ⟨n, l⟩ xs), .int .i64 (chkR xs ⟨n, l⟩)]) ∧ Below w.heap.size w w' := by
  have HX := Lib.hid hx
  have hb0 : Below w.heap.size w ((w.alloc (.cells #[.int .i64 n, .slice a l.length cap] 24)).alloc (.cells #[.int .i64 n, .slice a l.length cap] 24)) := ((Below.refl _ _).alloc (Nat.le_refl _) _).alloc (by simp) _
  have HB0 := Lib.hid hb0
  have HCK := Lib.hid (check1_any b cap2 xs (w.heap.size + 1) n a cap l _ (hxs.keep hb0) hxl (Blk.new' (w.alloc (.cells #[.int .i64 n, .slice a l.length cap] 24)) (World.size_alloc _ _) #[.int .i64 n, .slice a l.length cap] 24) (hx.keep hb0) hl)
  have q0 := Lib.hid ((Blk.new w #[.int .i64 n, .slice a l.length cap] 24).alloc (.cells #[.int .i64 n, .slice a l.length cap] 24))
  have HT := Lib.hid ht
  have HS := Lib.hid hs
  have HXS := Lib.hid hxs
  have HCO := Lib.hid hco
  clear hx hb0 ht hs hxs hco
  by_cases hc : chkR xs ⟨n, l⟩ = 0
  · obtain ⟨h1, h2, h3⟩ := chkR_ok hc
    have HOK := Lib.hid h1
    have HLT : Hid (∀ x ∈ xs, -128 ≤ x ∧ x ≤ 128) := fun x hx => by
      have := List.all_eq_true.1 h2 x hx
      simp only [litOk, Bool.and_eq_true, decide_eq_true_eq] at this
      have := litVar_ne this.1
      omega
    have HC := Lib.hid hc
    have HR : Hid (impR ⟨n, l⟩ xs = (clash xs || (cntL n [⟨1, 0, []⟩] (gvL n xs l)).isNone)) := by show _ = _; unfold impR; rw [decide_eq_true hc]; rfl
    rw [hc] at HCK
    clear hc h1 h2 h3
    cases hcl : clash xs
    · have HCL := Lib.hid hcl
      have HCC := Lib.hid (HCO.out HC.out hcl)
      clear hcl
      go_enter Tryz.func19, Tryz.ntmps19
      go_wp2_with fail
      refine HCK.out.mono ?_
      rintro e w1 ⟨rfl, hb1⟩
      have HB1 := Lib.hid (HB0.out.trans (hb1.mono HB0.out.size))
      have HQ1 := Lib.hid (q0.out.later hb1)
      have HOP := Lib.hid (opposites_any b cap2 xs w1 hxl (HXS.out.keep HB1.out) HLT.out)
      rw [HCL.out] at HOP
      clear hb1
      go_wp2_with fail
      refine HOP.out.mono ?_
      rintro e w2 ⟨v2, rfl, ho2, hb2⟩
      have HB2 := Lib.hid (HB1.out.trans (hb2.mono HB1.out.size))
      have q1 := HQ1.out.later hb2
      have k0 : w2.cell? ⟨w.heap.size, 0, none⟩ = some (.int .i64 n) := q1.cell 0
      have k1 : w2.cell? ⟨w.heap.size, 1, none⟩ = some (.slice a l.length cap) := q1.cell 1
      obtain ⟨hn0, hn1, _, _⟩ := netOk_head HOK.out
      simp only at hn0 hn1
      have HN0 := Lib.hid hn0
      have HN1 := Lib.hid hn1
      have HW2 := Lib.hid (by have := q1.lt; omega : w.heap.size ≤ w2.heap.size)
      clear hb2 q1 ho2 hn0 hn1
      have HKS : Hid (∀ w' : World, Below w2.heap.size w2 w' → w'.cell? ⟨w.heap.size, 0, none⟩ = some (.int .i64 n) ∧ w'.cell? ⟨w.heap.size, 1, none⟩ = some (.slice a l.length cap) ∧ Below w2.heap.size w2 w') := Lib.hid fun w' hb => ⟨cell_keep hb k0, cell_keep hb k1, hb⟩
      have HG : Hid (∀ W : World, Below w2.heap.size w2 W → Calls Tryz.prog 48 #[.agg #[.int .i64 n, .slice a l.length cap], .slice b xs.length cap2] W
          fun e w' => ∃ a' cap', e = .returned (.agg #[.int .i64 n, .slice a' (gvL n xs l).length cap']) ∧ NdAbove W.heap.size w' a' (gvL n xs l) ∧ Below W.heap.size W w') := Lib.hid fun W hb =>
        given_fine n a cap l b cap2 xs W HOK.out (HS.out HOK.out) ((HX.out.keep HB2.out).keep hb) ((HXS.out.keep HB2.out).keep hb) hxl ((HT.out.keep HB2.out).keep hb)
      have HCT : Hid (∀ (W : World) (b1 : Nat) (a6 : Option Addr) (c6 : Nat), NdCells W (some ⟨b1, 0, none⟩) [⟨1, 0, []⟩] → NdCells W a6 (gvL n xs l) → Below w2.heap.size w2 W → Calls Tryz.prog 53 #[.agg #[.int .i64 n, .slice (some ⟨b1, 0, none⟩) 1 1], .agg #[.int .i64 n, .slice a6 (gvL n xs l).length c6]] W
          fun e w' => e = .returned (.tuple #[stv (foundOf St.zero (cntL n [⟨1, 0, []⟩] (gvL n xs l))), .bool (cntL n [⟨1, 0, []⟩] (gvL n xs l)).isSome]) ∧ Below W.heap.size W w') := Lib.hid fun W b1 a6 c6 h1 h2 hb =>
        counter_any n [⟨1, 0, []⟩] (gvL n xs l) (some ⟨b1, 0, none⟩) a6 1 c6 W (true_ok HN0.out HN1.out 1 (.inr rfl)) (gvL_fine HOK.out (HS.out HOK.out)).1 (true_small 1) (gvL_fine HOK.out (HS.out HOK.out)).2.1 h1 h2 HCC.out ((HT.out.keep HB2.out).keep hb)
      go_upto_region 7 with fail
      go_region_held3 (fun w' => w'.cell? ⟨w.heap.size, 0, none⟩ = some (.int .i64 n) ∧ w'.cell? ⟨w.heap.size, 1, none⟩ = some (.slice a l.length cap) ∧ Below w2.heap.size w2 w')
        (first
          | exact HKS.out _ (by first | (with_reducible exact (Below.refl _ _).drew) | (with_reducible exact (last3 (by assumption))))
          | exact HKS.out _ (Below.alloc (last3 (by assumption)) (Below.size (last3 (by assumption))) _)
          | exact HKS.out _ (Below.drew (Below.alloc (Below.refl _ _) (Nat.le_refl _) _))
          | exact HKS.out _ hw7
          | exact HKS.out _ (Below.alloc hw7 hw7.size _)
          | exact HKS.out _ hw6
          | exact HKS.out _ hw5
          | exact HKS.out _ (Below.setCell (Below.setCell (last3 (by assumption)) (by first | exact Nat.le_refl _ | exact hw5.size | exact hw6.size | exact hw7.size) _) (by first | exact Nat.le_refl _ | exact hw5.size | exact hw6.size | exact hw7.size) _))
        (first
          | (go_at_call 54
             refine (flat_any n 1 _).mono ?_
             rintro e w5 ⟨b5, rfl, hf5, hb5⟩
             have hw5 : Below w2.heap.size w2 w5 := Below.trans (by first | (with_reducible exact (Below.refl _ _).drew) | (with_reducible exact (last3 (by assumption)))) (hb5.mono (Below.size (B := w2.heap.size) (w := w2) (by first | (with_reducible exact (Below.refl _ _).drew) | (with_reducible exact (last3 (by assumption))))))
             try (have z5 : Blk w5 w2.heap.size #[.int .u64 0, .int .u64 0] 38 := (Blk.drew (Blk.new _ _ _)).later hb5)
             try (have z5a := z5.cell 0; have z5b := z5.cell 1; have z5c := z5.fr 0; have z5d := z5.fr 1))
          | (go_at_call 48
             refine (HG.out _ (by first | (with_reducible exact (Below.refl _ _).drew) | (with_reducible exact (last3 (by assumption))))).mono ?_
             rintro e w6 ⟨a6, c6, rfl, hn6, hb6⟩
             have hw6 : Below w2.heap.size w2 w6 := Below.trans (by first | (with_reducible exact (Below.refl _ _).drew) | (with_reducible exact (last3 (by assumption)))) (hb6.mono (Below.size (B := w2.heap.size) (w := w2) (by first | (with_reducible exact (Below.refl _ _).drew) | (with_reducible exact (last3 (by assumption))))))
             have hf6 : NdCells w6 (some ⟨b5, 0, none⟩) [⟨1, 0, []⟩] := (by first | exact hf5.keep hb6 | exact hf5.keep (((Below.refl _ _).alloc (Nat.le_refl _) _).trans (hb6.mono (by simp))))
             try (have z6 : Blk w6 w2.heap.size #[.int .u64 0, .int .u64 0] 38 := z5.later hb6)
             try (have z6 : Blk w6 w5.heap.size #[.int .u64 0, .int .u64 0] 38 := (Blk.new _ _ _).later hb6)
             have hc6 := hn6.cells)
          | (go_at_call 53
             refine (HCT.out _ b5 a6 c6 ?_ ?_ (by first | (with_reducible exact (Below.refl _ _).drew) | (with_reducible exact (last3 (by assumption))))).mono ?_
             · first | exact hf6 | exact hf6.keep ((Below.refl _ _).alloc (Nat.le_refl _) _)
             · first | exact hc6 | exact hc6.keep ((Below.refl _ _).alloc (Nat.le_refl _) _)
             rintro e w7 ⟨rfl, hb7⟩
             have hw7 : Below w2.heap.size w2 w7 := Below.trans (by first | (with_reducible exact (Below.refl _ _).drew) | (with_reducible exact (last3 (by assumption)))) (hb7.mono (Below.size (B := w2.heap.size) (w := w2) (by first | (with_reducible exact (Below.refl _ _).drew) | (with_reducible exact (last3 (by assumption))))))
             try (have z7 : Blk w7 w2.heap.size #[.int .u64 0, .int .u64 0] 38 := z6.later hb7)
             try (have z7 : Blk w7 w5.heap.size #[.int .u64 0, .int .u64 0] 38 := z6.later hb7)
             try (have z7 : Blk w7 w6.heap.size #[.int .u64 0, .int .u64 0] 38 := (Blk.new _ _ _).later hb7)
             try (have z7a := z7.cell 0; have z7b := z7.cell 1; have z7c := z7.fr 0; have z7d := z7.fr 1)))
      all_goals
        have HFB := Lib.hid (HB2.out.trans (Below.mono (B := w2.heap.size) (last3 (by assumption)) HB2.out.size))
        go_wp2
        go_ret2
        exact ⟨by rw [HR.out, HC.out, HCL.out]; cases cntL n [⟨1, 0, []⟩] (gvL n xs l) <;> rfl, HFB.out⟩
    · have HCL := Lib.hid hcl
      clear hcl
      go_enter Tryz.func19, Tryz.ntmps19
      go_wp2_with fail
      refine HCK.out.mono ?_
      rintro e w1 ⟨rfl, hb1⟩
      have HB1 := Lib.hid (HB0.out.trans (hb1.mono HB0.out.size))
      have HOP := Lib.hid (opposites_any b cap2 xs w1 hxl (HXS.out.keep HB1.out) HLT.out)
      rw [HCL.out] at HOP
      clear hb1
      go_wp2_with fail
      refine HOP.out.mono ?_
      rintro e w2 ⟨v2, rfl, ho2, hb2⟩
      have HB2 := Lib.hid (HB1.out.trans (hb2.mono HB1.out.size))
      clear hb2 ho2
      go_wp2
      go_ret2
      exact ⟨by rw [HR.out, HC.out, HCL.out]; rfl, HB2.out⟩
  · have HR : Hid (impR ⟨n, l⟩ xs = false) := by show _ = _; unfold impR; rw [decide_eq_false hc]; rfl
    have hcb : (chkR xs ⟨n, l⟩ != 0) = true := by simpa using hc
    clear hc
    go_enter Tryz.func19, Tryz.ntmps19
    go_wp2_with fail
    refine HCK.out.mono ?_
    rintro e w1 ⟨rfl, hb1⟩
    have HB1 := Lib.hid (HB0.out.trans (hb1.mono HB0.out.size))
    clear hb1
    go_wp2
    go_ret2
    exact ⟨by rw [HR.out]; rfl, HB1.out⟩
end Go.Proofs.YtfdonhfhcomjaaaGreatDoor
