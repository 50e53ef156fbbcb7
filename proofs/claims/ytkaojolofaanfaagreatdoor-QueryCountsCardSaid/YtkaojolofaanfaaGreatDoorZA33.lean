/- Part of the proofs that laws of censuslaw38 return true for every input, where the tables that the rows list are laid. Texts: Count, DetP, R21O, R21W. -/
import Derived.Test.YtkaojolofaanfaaGreatDoorZA30
import Derived.Test.YtkaojolofaanfaaGreatDoorZA11
import Derived.Test.YtkaojolofaanfaaGreatDoorZA27
import Derived.Test.YtkaojolofaanfaaGreatDoorZA29
import Derived.Test.YtkaojolofaanfaaGreatDoorZA23
import Derived.Test.YtkaojolofaanfaaGreatDoorZA5
import Derived.Test.YtkaojolofaanfaaGreatDoorZA20

/- The walk of count.Check at small deterministic nets. -/
namespace Go.Proofs.YtkaojolofaanfaaGreatDoor
open Go.RowKit Cen
set_option maxHeartbeats 2000000
set_option maxRecDepth 100000
theorem ccheck_any (N : Nat) (hN : N ≤ 8) (a : Option Addr) (cap : Nat) (l : List Nd) (w : World) (hok : netOk ⟨(N : Int), l⟩ = true) (hd : decL l = true) (hdet : detL l) (hT : Dtab w) (hx : NdCells w a l) :
    Calls Tryz.prog 64 #[.agg #[.int .i64 (N : Int), .slice a l.length cap]] w fun e w' => e = .returned (.int .i64 0) ∧ Below w.heap.size w w' := by
  have HX := Lib.hid hx
  have HT := Lib.hid hT
  have hl2 : l.length ≤ 65536 := (netOk_head hok).2.2.2
  have HC := Lib.hid (fun V (h : Below w.heap.size w V) => (check_any (N : Int) a cap l V (by omega) (HX.out.keep h)).mono (R' := fun e w' => e = .returned (.int .i64 0) ∧ Below V.heap.size V w') (fun e w' ⟨h1, h2⟩ => ⟨by rw [h1]; simp [chk, hok], h2⟩))
  have HD := Lib.hid (fun V (h : Below w.heap.size w V) => (decomposable_any (N : Int) a cap l V hok (HX.out.keep h)).mono (R' := fun e w' => e = .returned (.bool true) ∧ Below V.heap.size V w') (fun e w' ⟨h1, h2⟩ => ⟨by rw [h1, hd], h2⟩))
  have HS := Lib.hid (fun V (h : Below w.heap.size w V) => short_any N hN a cap l V hok hd hdet (HT.out.keep h) (HX.out.keep h))
  have hb0 : Below w.heap.size w (w.alloc (.cells #[.int .i64 (N : Int), .slice a l.length cap] 24)) := (Below.refl _ _).alloc (Nat.le_refl _) _
  have q0 := Lib.hid (Blk.new w #[.int .i64 (N : Int), .slice a l.length cap] 24)
  have HB0 := Lib.hid hb0
  clear hx hT hok hd hdet hb0
  go_enter Tryz.func64, Tryz.ntmps64
  go_wp2_with fail
  generalize w.alloc (.cells #[.int .i64 (N : Int), .slice a l.length cap] 24) = w0 at *
  refine Calls.mono (HC.out _ HB0.out) ?_
  rintro e w1 ⟨rfl, hb1⟩
  have Q1 := Lib.hid (q0.out.later hb1)
  have HB1 := Lib.hid (HB0.out.trans (hb1.mono HB0.out.size))
  have k0 : w1.cell? ⟨w.heap.size, 0, none⟩ = some (.int .i64 (N : Int)) := Q1.out.cell 0
  have k1 : w1.cell? ⟨w.heap.size, 1, none⟩ = some (.slice a l.length cap) := Q1.out.cell 1
  have hz : w.heap.size < w1.heap.size := Q1.out.lt
  clear hb1
  go_wp2_with fail
  refine Calls.mono (HD.out _ HB1.out) ?_
  rintro e w2 ⟨rfl, hb2⟩
  have Q2 := Lib.hid (Q1.out.later hb2)
  have HB2 := Lib.hid (HB1.out.trans (hb2.mono HB1.out.size))
  have k0 : w2.cell? ⟨w.heap.size, 0, none⟩ = some (.int .i64 (N : Int)) := Q2.out.cell 0
  have k1 : w2.cell? ⟨w.heap.size, 1, none⟩ = some (.slice a l.length cap) := Q2.out.cell 1
  have hz : w.heap.size < w2.heap.size := Q2.out.lt
  clear hb2
  go_wp2_with fail
  refine Calls.mono (HS.out _ HB2.out) ?_
  rintro e w3 ⟨rfl, hb3⟩
  have HB3 := Lib.hid (HB2.out.trans (hb3.mono HB2.out.size))
  clear hb3
  go_wp2
  go_ret
  exact ⟨rfl, HB3.out⟩
end Go.Proofs.YtkaojolofaanfaaGreatDoor

/- Plain: what censusref21.Deterministic looks at suffices for determinism at every assignment. -/
namespace Go.Proofs.YtkaojolofaanfaaGreatDoor
open Cen
/-- Union of the variables of the first k nodes. -/
def unionUp (l : List Nd) (k : Nat) : St := ((varsL l).take k).foldl St.union St.zero
theorem unionUp_succ {l : List Nd} {k : Nat} (h : k < l.length) : unionUp l (k + 1) = (unionUp l k).union (vm l (k : Int)) := by
  unfold unionUp
  have h2 : k < (varsL l).length := by rw [varsL_length]; exact h
  rw [List.take_succ_eq_append_getElem h2, List.foldl_append]
  simp only [List.foldl_cons, List.foldl_nil]
  congr 1
  unfold vm; simp [List.getD_eq_getElem?_getD, h2]
theorem unionUp_mem {l : List Nd} {v : Int} : ∀ k, k ≤ l.length → ((unionUp l k).mem v = true ↔ ∃ j : Nat, j < k ∧ (vm l (j : Int)).mem v = true)
  | 0, _ => by
    unfold unionUp; simp [St.mem_zero]
  | k + 1, h => by
    rw [unionUp_succ (by omega), St.mem_union, Bool.or_eq_true, unionUp_mem k (by omega)]
    constructor
    · rintro (⟨j, h1, h2⟩ | h2)
      · exact ⟨j, by omega, h2⟩
      · exact ⟨k, by omega, h2⟩
    · rintro ⟨j, h1, h2⟩
      rcases Nat.lt_or_ge j k with h3 | h3
      · exact .inl ⟨j, h3, h2⟩
      · exact .inr (by rw [show k = j by omega]; exact h2)
theorem unionUp_ok (l : List Nd) : ∀ k, k ≤ l.length → (unionUp l k).ok
  | 0, _ => St.zero_ok
  | k + 1, h => by
    rw [unionUp_succ (by omega)]
    refine St.union_ok (unionUp_ok l k (by omega)) ?_
    have hq2 : k < (varsL l).length := by rw [varsL_length]; omega
    have e : vm l (k : Int) = (varsL l)[k] := by unfold vm; simp [List.getD_eq_getElem?_getD, hq2]
    rw [e]
    exact varsL_ok l _ (List.getElem_mem hq2)
/-- The variables up to k of a set, in order. -/
def occUp (U : St) (k : Nat) : List Int := ((List.range k).map fun (j : Nat) => (j : Int) + 1).filter U.mem
theorem occUp_succ (U : St) (k : Nat) : occUp U (k + 1) = if U.mem ((k : Int) + 1) then occUp U k ++ [(k : Int) + 1] else occUp U k := by
  unfold occUp
  rw [List.range_succ, List.map_append, List.filter_append]
  cases h : U.mem ((k : Int) + 1) <;> simp [h]
theorem occUp_len (U : St) (k : Nat) : (occUp U k).length ≤ k := by
  have := List.length_filter_le U.mem ((List.range k).map fun (j : Nat) => (j : Int) + 1)
  unfold occUp; simpa using this
theorem occUp_mem {U : St} {k : Nat} {v : Int} : v ∈ occUp U k ↔ U.mem v = true ∧ 1 ≤ v ∧ v ≤ k := by
  unfold occUp
  rw [List.mem_filter, List.mem_map]
  constructor
  · rintro ⟨⟨j, h1, rfl⟩, h2⟩
    rw [List.mem_range] at h1
    exact ⟨h2, by omega, by omega⟩
  · rintro ⟨h1, h2, h3⟩
    exact ⟨⟨(v - 1).toNat, by rw [List.mem_range]; omega, by omega⟩, h1⟩
theorem occUp_nodup (U : St) (k : Nat) : (occUp U k).Nodup := by
  unfold occUp
  refine List.Pairwise.filter _ ?_
  refine List.Pairwise.map _ (fun a b h => ?_) (List.nodup_range (n := k))
  omega
/-- The set of number k, of the first i variables of a list. -/
def asgU (o : List Int) (k : Nat) : Nat → St
  | 0 => St.zero
  | i + 1 => if k.testBit i then (asgU o k i).add (o.getD i 0) else asgU o k i
theorem asgU_ok (o : List Int) (k : Nat) : ∀ i, (asgU o k i).ok
  | 0 => St.zero_ok
  | i + 1 => by
    rw [asgU]; split
    · exact St.add_ok (asgU_ok o k i) _
    · exact asgU_ok o k i
theorem asgU_mem {o : List Int} (ho : ∀ v ∈ o, 1 ≤ v ∧ v ≤ 128) (k : Nat) (v : Int) : ∀ i, i ≤ o.length → ((asgU o k i).mem v = true ↔ ∃ j : Nat, j < i ∧ k.testBit j = true ∧ o.getD j 0 = v)
  | 0, _ => by rw [asgU]; simp [St.mem_zero]
  | i + 1, h => by
    have hi : i < o.length := h
    have hr := ho (o.getD i 0) (by simp [List.getD_eq_getElem?_getD, hi])
    have ih := asgU_mem ho k v i (by omega)
    rw [asgU]
    cases hk : k.testBit i with
    | false =>
      rw [if_neg (by simp), ih]
      constructor
      · rintro ⟨j, h1, h2⟩; exact ⟨j, by omega, h2⟩
      · rintro ⟨j, h1, h2, h3⟩
        rcases Nat.lt_or_ge j i with h4 | h4
        · exact ⟨j, h4, h2, h3⟩
        · rw [show j = i by omega, hk] at h2; simp at h2
    | true =>
      rw [if_pos rfl, St.mem_add, Bool.or_eq_true, ih]
      constructor
      · rintro (⟨j, h1, h2⟩ | h2)
        · exact ⟨j, by omega, h2⟩
        · simp only [Bool.and_eq_true, decide_eq_true_eq] at h2
          exact ⟨i, by omega, hk, h2.1.1.symm⟩
      · rintro ⟨j, h1, h2, h3⟩
        rcases Nat.lt_or_ge j i with h4 | h4
        · exact .inl ⟨j, h4, h2, h3⟩
        · rw [show j = i by omega] at h3
          rw [← h3]; simp; exact .inr hr
theorem bits_exist : ∀ bs : List Bool, ∃ k, k < 2 ^ bs.length ∧ ∀ i, i < bs.length → k.testBit i = bs.getD i false
  | [] => ⟨0, by simp, fun i h => by simp at h⟩
  | b :: bs => by
    obtain ⟨k, hk, h⟩ := bits_exist bs
    refine ⟨2 * k + b.toNat, ?_, fun i hi => ?_⟩
    · rw [List.length_cons, Nat.pow_succ]; cases b <;> simp <;> omega
    · cases i with
      | zero => rw [Nat.testBit_zero]; cases b <;> simp [Nat.add_mod]
      | succ i =>
        rw [Nat.testBit_succ, show (2 * k + b.toNat) / 2 = k by cases b <;> simp <;> omega]
        rw [h i (by simpa using hi)]; rfl
/-- How many inputs of a node are true. -/
def manyT (vs : List Bool) (ins : List Int) : Nat := (ins.filter (at' vs)).length
theorem filter_pair {p : Int → Bool} : ∀ {l : List Int}, (l.filter p).length ≤ 1 → l.Pairwise fun j k => ¬ (p j = true ∧ p k = true)
  | [], _ => List.Pairwise.nil
  | x :: l, h => by
    rw [List.pairwise_cons]
    by_cases hx : p x = true
    · rw [List.filter_cons_of_pos hx, List.length_cons] at h
      have hz : l.filter p = [] := List.length_eq_zero_iff.1 (by omega)
      have hn : ∀ y ∈ l, ¬ p y = true := fun y hy hp => by
        have : y ∈ l.filter p := List.mem_filter.2 ⟨hy, hp⟩
        rw [hz] at this; simp at this
      exact ⟨fun y hy ⟨_, hp⟩ => hn y hy hp, filter_pair (by rw [hz]; simp)⟩
    · rw [List.filter_cons_of_neg hx] at h
      exact ⟨fun y hy ⟨hp, _⟩ => hx hp, filter_pair h⟩
/-- What Deterministic tests at one set. -/
def detAt (s : Int → Bool) (l : List Nd) : Prop := ∀ i : Nat, i < l.length → (nd l (i : Int)).kind = 4 → manyT (truth s l) (nd l (i : Int)).ins ≤ 1
theorem det_all {N : Nat} {l : List Nd} (hN : N ≤ 128) (hok : netOk ⟨(N : Int), l⟩ = true)
    (h : ∀ k, k < 2 ^ (occUp (unionUp l l.length) N).length → detAt (asgU (occUp (unionUp l l.length) N) k (occUp (unionUp l l.length) N).length).mem l) : detL l := by
  have hL : ndsOk l N l.length := by simp [netOk] at hok; exact hok.2
  intro s i hi h4
  generalize hO : occUp (unionUp l l.length) N = O at *
  have hor : ∀ v ∈ O, 1 ≤ v ∧ v ≤ 128 := fun v hv => by
    rw [← hO, occUp_mem] at hv; omega
  have hnd : O.Nodup := by rw [← hO]; exact occUp_nodup _ _
  obtain ⟨k, hk, hb⟩ := bits_exist (O.map s)
  rw [List.length_map] at hk hb
  have hd := h k hk i hi h4
  have hsame : ∀ v ∈ O, (asgU O k O.length).mem v = s v := fun v hv => by
    obtain ⟨j, hj, rfl⟩ := List.getElem_of_mem hv
    rw [Bool.eq_iff_iff, asgU_mem hor k _ _ (Nat.le_refl _)]
    constructor
    · rintro ⟨j', h1, h2, h3⟩
      have e : O.getD j' 0 = O[j'] := by simp [List.getD_eq_getElem?_getD, h1]
      rw [hb j' h1] at h2
      rw [← h3]
      simpa [List.getD_eq_getElem?_getD, h1] using h2
    · intro h2
      refine ⟨j, hj, ?_, by simp [List.getD_eq_getElem?_getD, hj]⟩
      rw [hb j hj]
      simpa [List.getD_eq_getElem?_getD, hj] using h2
  have hT : ∀ j ∈ (nd l (i : Int)).ins, T s l j = at' (truth (asgU O k O.length).mem l) j := fun j hj => by
    have hins := ndOk_ins (nd_ok hL (i := (i : Int)) (by omega) (by omega)) j hj
    show T s l j = T _ l j
    refine T_vars hL j.toNat j rfl hins.1 (by omega) fun v hv => ?_
    refine (hsame v ?_).symm
    have hbd := vm_bd hL j.toNat j rfl hins.1 (by omega) v hv
    rw [← hO, occUp_mem]
    refine ⟨(unionUp_mem _ (Nat.le_refl _)).2 ⟨j.toNat, by omega, ?_⟩, hbd.1, hbd.2⟩
    rw [show ((j.toNat : Nat) : Int) = j by omega]; exact hv
  have hp := filter_pair hd
  refine hp.imp_of_mem ?_
  intro x y hx hy hn
  rw [hT x hx, hT y hy]; exact hn
end Go.Proofs.YtkaojolofaanfaaGreatDoor

/- The walks of censusref05.Holds and of censusref21.Occur. -/
namespace Go.Proofs.YtkaojolofaanfaaGreatDoor
open Go.RowKit Cen
set_option maxHeartbeats 4000000
set_option maxRecDepth 100000
theorem OwnInts.later' {w w' : World} {base : Nat} {v : Value} {xs : List Int} (h : OwnInts w base v xs) (hb : Below w.heap.size w w') : OwnInts w' base v xs := h.kept (Kp.below (M := fun _ => False) hb) (fun _ _ x => x)
theorem OwnInts.low {w : World} {base B : Nat} {v : Value} {xs : List Int} (h : OwnInts w base v xs) (hB : B ≤ base) : OwnInts w B v xs := by
  refine ⟨h.1, ?_⟩
  rcases h.2 with h1 | ⟨g, cap, cur, hv, hg, r⟩
  · exact .inl h1
  · exact .inr ⟨g, cap, cur, hv, by omega, r⟩
theorem holds5_any (s : St) (l : Int) (w : World) (hs : s.ok) (hl : litVar l ≠ 0) : Calls Tryz.prog 83 #[stv s, .int .i64 l] w fun e w' => e = .returned (.bool (holds s.mem l)) ∧ Below w.heap.size w w' := by
  have HH := Lib.hid (fun v V => has5_any s v V hs)
  have HB0 := Lib.hid ((Below.refl w.heap.size w).alloc (Nat.le_refl _) (.cells #[.int .u64 (s.a : Int), .int .u64 (s.b : Int)] 54))
  rcases litVar_ne hl with ⟨h1, h2, h3⟩ | ⟨h1, h2, h3⟩
  · have hd : decide (l < 0) = false := by simp; omega
    have HV : Hid (holds s.mem l = s.mem l) := by show _ = _; unfold holds; rw [h3, decide_eq_true (show l ≠ 0 by omega), decide_eq_true (show 0 < l by omega)]; simp
    have HH1 := Lib.hid (HH.out l)
    clear hl h3
    go_enter Tryz.func83, Tryz.ntmps83
    go_wp2_with fail
    refine (HH1.out _).mono ?_
    rintro e w1 ⟨rfl, hb1⟩
    have HB1 := Lib.hid (HB0.out.trans (hb1.mono HB0.out.size))
    clear hb1
    go_wp2
    go_ret
    exact ⟨ret_bool HV.out.symm, HB1.out⟩
  · have hd : decide (l < 0) = true := by simp; omega
    have hw : IntKind.i64.wrap (-l) = -l := IntWalk.i64_in _ (by omega)
    have HV : Hid (holds s.mem l = !s.mem (-l)) := by show _ = _; unfold holds; rw [h3, decide_eq_true (show -l ≠ 0 by omega), decide_eq_false (show ¬ 0 < l by omega)]; cases s.mem (-l) <;> rfl
    have HH1 := Lib.hid (HH.out (-l))
    clear hl h3
    go_enter Tryz.func83, Tryz.ntmps83
    go_wp2_with fail
    try rw [hw]
    refine (HH1.out _).mono ?_
    rintro e w1 ⟨rfl, hb1⟩
    have HB1 := Lib.hid (HB0.out.trans (hb1.mono HB0.out.size))
    clear hb1 hw
    go_wp2
    go_ret
    exact ⟨ret_bool HV.out.symm, HB1.out⟩
theorem occur_any (N : Nat) (hN : N ≤ 128) (a : Option Addr) (cap : Nat) (l : List Nd) (w : World) (hok : netOk ⟨(N : Int), l⟩ = true) (hx : NdCells w a l) :
    Calls Tryz.prog 61 #[.agg #[.int .i64 (N : Int), .slice a l.length cap]] w fun e w' => ∃ v, e = .returned v ∧ OwnInts w' w.heap.size v (occUp (unionUp l l.length) N) ∧ Below w.heap.size w w' := by
  have hb0 := ((Below.refl w.heap.size w).alloc (Nat.le_refl _) (.cells #[.int .i64 (N : Int), .slice a l.length cap] 24)).alloc (by simp) (.cells #[.int .u64 0, .int .u64 0] 54)
  have HB0 := Lib.hid hb0
  have q0 := Lib.hid ((Blk.new w #[.int .i64 (N : Int), .slice a l.length cap] 24).alloc (.cells #[.int .u64 0, .int .u64 0] 54))
  have q1 := Lib.hid (Blk.new' (w.alloc (.cells #[.int .i64 (N : Int), .slice a l.length cap] 24)) (World.size_alloc _ _) #[.int .u64 0, .int .u64 0] 54)
  have HVR := Lib.hid (vars21_any (N : Int) a cap l _ hok (hx.keep hb0))
  have HZ0 : Hid (((w.alloc (.cells #[.int .i64 (N : Int), .slice a l.length cap] 24)).alloc (.cells #[.int .u64 0, .int .u64 0] 54)).heap.size = w.heap.size + 2) := by show _ = _; simp
  have hl2 : l.length ≤ 65536 := (netOk_head hok).2.2.2
  clear hb0 hok hx
  go_enter Tryz.func61, Tryz.ntmps61
  go_wp2_with fail
  generalize (w.alloc (.cells #[.int .i64 (N : Int), .slice a l.length cap] 24)).alloc (.cells #[.int .u64 0, .int .u64 0] 54) = W at *
  refine Calls.mono HVR.out ?_
  rintro e w1 ⟨g, rfl, hown, hb1⟩
  have HO := Lib.hid hown
  have HB1 := Lib.hid (HB0.out.trans (hb1.mono HB0.out.size))
  have R0 := Lib.hid (q0.out.later hb1)
  have R1 := Lib.hid (q1.out.later hb1)
  have HGW : Hid (w.heap.size + 2 ≤ g) := by have := hown.lt.2; rw [HZ0.out] at this; exact this
  clear hown hb1 HVR
  go_wp2_with fail
  go_loopw [5] (fun i wr => ∃ k : Nat, k ≤ l.length ∧ i = .int .i64 k ∧ Blk wr (w.heap.size + 1) #[.int .u64 ((unionUp l k).a : Int), .int .u64 ((unionUp l k).b : Int)] 54 ∧ Kp (fun y => y = w.heap.size + 1) w1 wr) (fun i _ => l.length - (intOf i).toNat)
  case atStart => exact ⟨0, Nat.zero_le _, rfl, R1.out, Kp.refl _ _⟩
  case round =>
    obtain ⟨k, hk, rfl, hblk, hkp⟩ := hrel
    have HBK := Lib.hid hblk
    have HKP := Lib.hid hkp
    by_cases hlt : k < l.length
    · have c0 : wr.cell? ⟨w.heap.size + 1, 0, none⟩ = some (.int .u64 ((unionUp l k).a : Int)) := hblk.cell 0
      have c1 : wr.cell? ⟨w.heap.size + 1, 1, none⟩ = some (.int .u64 ((unionUp l k).b : Int)) := hblk.cell 1
      have hz := hblk.lt
      have hk2 : k < (varsL l).length := by rw [varsL_length]; exact hlt
      have hov := HO.out.kept hkp (by intro y hy h; simp [Value.ownBlock] at hy; have := HGW.out; omega)
      have e : vm l (k : Int) = (varsL l)[k] := by unfold vm; simp [List.getD_eq_getElem?_getD, hk2]
      have v0 : wr.cell? ⟨g, k * 2, none⟩ = some (.int .u64 ((vm l (k : Int)).a : Int)) := by rw [e]; exact hov.cell (varsL_length l).symm stc_len k 0 hk2 (by omega)
      have v1 : wr.cell? ⟨g, k * 2 + 1, none⟩ = some (.int .u64 ((vm l (k : Int)).b : Int)) := by rw [e]; exact hov.cell (varsL_length l).symm stc_len k 1 hk2 (by omega)
      have hvo : (vm l (k : Int)).ok := by rw [e]; exact varsL_ok l _ (List.getElem_mem hk2)
      have HU := Lib.hid (unionUp_succ hlt)
      have HUN := Lib.hid (fun V => union21_any (unionUp l k) (vm l (k : Int)) V (unionUp_ok l k hk) hvo)
      have hg : g < wr.heap.size := hov.lt.1
      have hkl : (k : Int) < (l.length : Int) := by omega
      generalize unionUp l k = S at *
      generalize vm l (k : Int) = X at *
      generalize hu : unionUp l (k + 1) = S' at *
      have HUU := Lib.hid hu
      clear hblk hkp hov e hvo hu
      go_wp2_with fail
      go_region_with (go_at_call 123
                      refine Calls.mono (HUN.out _) ?_
                      rintro e v5 ⟨rfl, hb5⟩
                      have hv5 : Below wr.heap.size wr v5 := (Below.refl wr.heap.size wr).drew.trans (hb5.mono (Nat.le_refl _))
                      have hz5 := HBK.out.later hv5
                      have z0 := hz5.cell 0
                      have z1 := hz5.cell 1
                      have z2 := hz5.fr 0
                      have z3 := hz5.fr 1
                      have z4 := hz5.lt)
      all_goals
        go_wp2
        go_roundw
        case rel => exact ⟨k + 1, by omega, by go_num, by rw [HUU.out, HU.out]; exact (hz5.set 0 _).set 1 _, Kp.trans (M := fun y => y = w.heap.size + 1) HKP.out (Kp.trans (M := fun y => y = w.heap.size + 1) (Kp.below hv5) (Kp.trans (M := fun y => y = w.heap.size + 1) (Kp.setCell (M := fun y => y = w.heap.size + 1) _ _ _ rfl) (Kp.setCell (M := fun y => y = w.heap.size + 1) _ _ _ rfl)))⟩
        case measure => simp [intOf]; omega
    · have : k = l.length := by omega
      subst this
      have HZ1 := Lib.hid R1.out.lt
      have HB2 : Hid (Below w.heap.size w wr) := HB1.out.trans (hkp.toBelow HB1.out.size (by intro y hy h; omega))
      have T0 := Lib.hid (R0.out.kept hkp (by omega))
      have HUO := Lib.hid (unionUp_ok l l.length (Nat.le_refl _))
      generalize hU : unionUp l l.length = U at *
      have HUE := Lib.hid hU
      clear hU
      obtain ⟨wm, rfl⟩ : ∃ wm : World, wm = wr := ⟨_, rfl⟩
      have HZM := Lib.hid hblk.lt
      clear hblk hkp
      go_wp2
      go_loopw [6, 7] (fun v i wr => ∃ k : Nat, k ≤ N ∧ i = .int .i64 (k + 1) ∧ OwnInts wr wm.heap.size v (occUp U k) ∧ Below wm.heap.size wm wr) (fun _ i _ => N + 1 - (intOf i).toNat)
      case atStart => exact ⟨0, Nat.zero_le _, rfl, OwnInts.nil _ _, Below.refl _ _⟩
      case round =>
        obtain ⟨k, hk, rfl, hown, hb⟩ := hrel
        have HOW := Lib.hid hown
        have HB := Lib.hid hb
        have k0 : wr.cell? ⟨w.heap.size, 0, none⟩ = some (.int .i64 (N : Int)) := (T0.out.later hb).cell 0
        have hz0 := (T0.out.later hb).lt
        have BK := Lib.hid (HBK.out.later hb)
        have b0 : wr.cell? ⟨w.heap.size + 1, 0, none⟩ = some (.int .u64 (U.a : Int)) := BK.out.cell 0
        have b1 : wr.cell? ⟨w.heap.size + 1, 1, none⟩ = some (.int .u64 (U.b : Int)) := BK.out.cell 1
        have hz1 := BK.out.lt
        have HSZ := Lib.hid hb.size
        clear hown hb
        by_cases hlt : k < N
        · have hdl : decide (((k : Int) + 1) ≤ (N : Int)) = true := by simp; omega
          have HS := Lib.hid (occUp_succ U k)
          have HHS := Lib.hid (fun V => has5_any U ((k : Int) + 1) V HUO.out)
          have HLN := Lib.hid (occUp_len U k)
          have HOB : Hid (∀ q, u6.ownBlock = some q → wm.heap.size ≤ q) := fun q hq => (HOW.out.lt q hq).1
          cases hm : U.mem ((k : Int) + 1) with
          | false =>
            rw [hm] at HHS HS
            clear hm
            go_wp2_with fail
            refine (HHS.out _).mono ?_
            rintro e w5 ⟨rfl, hb5⟩
            have HB5 := Lib.hid hb5
            clear hb5
            go_wp2
            go_roundw
            case rel => exact ⟨k + 1, by omega, by go_num, by rw [HS.out]; exact OwnInts.later' HOW.out HB5.out, HB.out.trans (HB5.out.mono HSZ.out)⟩
            case measure => simp [intOf]; omega
          | true =>
            rw [hm] at HHS HS
            clear hm
            go_wp2_with fail
            refine (HHS.out _).mono ?_
            rintro e w5 ⟨rfl, hb5⟩
            have HB5 := Lib.hid hb5
            have HO5 := Lib.hid (OwnInts.later' HOW.out hb5)
            have HBA := Lib.hid (HB.out.trans (hb5.mono HSZ.out))
            clear hb5
            go_wp2_with (at_builtin; refine appInt rfl _ _ rfl wm.heap.size u6 (occUp U k) ((k : Int) + 1) rfl HO5.out rfl (by have := HLN.out; omega) HBA.out.size ?_)
            intro v' w6 hown6 hgrow6 _
            have HO6 := Lib.hid hown6
            have HB6 := Lib.hid (HBA.out.grown hgrow6 HBA.out.size HOB.out)
            clear hown6 hgrow6
            go_wp2
            go_roundw
            case rel => exact ⟨k + 1, by omega, by go_num, by rw [HS.out]; exact HO6.out, HB6.out⟩
            case measure => simp [intOf]; omega
        · have : k = N := by omega
          subst this
          have hdl : decide (((k : Int) + 1) ≤ (k : Int)) = false := by simp; omega
          go_wp2
          go_ret
          exact ⟨u6, rfl, by rw [HUE.out]; exact OwnInts.low HOW.out (by have := HB2.out.size; omega), HB2.out.trans (HB.out.mono HB2.out.size)⟩
end Go.Proofs.YtkaojolofaanfaaGreatDoor

/- The walk of censusref21.Values. -/
namespace Go.Proofs.YtkaojolofaanfaaGreatDoor
open Go.RowKit Cen
set_option maxHeartbeats 4000000
set_option maxRecDepth 100000
theorem rep_cons {α : Type} {n k : Nat} (h : k < n) (x : α) : List.replicate (n - k) x = x :: List.replicate (n - (k + 1)) x := by rw [← List.replicate_succ]; congr 1; omega
theorem values21_any (n : Int) (a : Option Addr) (cap : Nat) (l : List Nd) (s : St) (w : World) (hok : netOk ⟨n, l⟩ = true) (hx : NdCells w a l) (hs : s.ok) :
    Calls Tryz.prog 63 #[.agg #[.int .i64 n, .slice a l.length cap], stv s] w fun e w' => ∃ g, e = .returned (.slice (some ⟨g, 0, none⟩) l.length l.length) ∧ OwnL bc 4 1 w' w.heap.size (.slice (some ⟨g, 0, none⟩) l.length l.length) (truth s.mem l) ∧ Below w.heap.size w w' := by
  have hb0 : Below w.heap.size w ((w.alloc (.cells #[.int .i64 n, .slice a l.length cap] 24)).alloc (.cells #[.int .u64 (s.a : Int), .int .u64 (s.b : Int)] 54)) := ((Below.refl _ _).alloc (Nat.le_refl _) _).alloc (by simp) _
  have HB0 := Lib.hid hb0
  have HX := Lib.hid hx
  have q0 := Lib.hid ((Blk.new w #[.int .i64 n, .slice a l.length cap] 24).alloc (.cells #[.int .u64 (s.a : Int), .int .u64 (s.b : Int)] 54))
  have q1 := Lib.hid (Blk.new' (w.alloc (.cells #[.int .i64 n, .slice a l.length cap] 24)) (World.size_alloc _ _) #[.int .u64 (s.a : Int), .int .u64 (s.b : Int)] 54)
  have HK := Lib.hid hok
  have HS := Lib.hid hs
  have hl2 : l.length ≤ 65536 := (netOk_head hok).2.2.2
  have HM1 : Hid (l.length ≤ maxLen) := by show _ ≤ _; unfold maxLen; omega
  have HZ0 : Hid (((w.alloc (.cells #[.int .i64 n, .slice a l.length cap] 24)).alloc (.cells #[.int .u64 (s.a : Int), .int .u64 (s.b : Int)] 54)).heap.size = w.heap.size + 2) := by show _ = _; simp
  clear hb0 hx hok hs
  go_enter Tryz.func63, Tryz.ntmps63
  go_wp2_with (at_make; refine mk elemBool rfl _ _ rfl (w.heap.size + 1 + 1) .i64 .i64 _ _ l.length rfl rfl rfl rfl (by omega) HM1.out (by simp) bc false rfl ?_)
  intro w2 hown2 hgrow2
  obtain ⟨W, hW⟩ : ∃ W, W = (w.alloc (.cells #[.int .i64 n, .slice a l.length cap] 24)).alloc (.cells #[.int .u64 (s.a : Int), .int .u64 (s.b : Int)] 54) := ⟨_, rfl⟩
  rw [← hW] at hgrow2 HB0 q0 q1 HZ0
  have hzW : w.heap.size + 1 + 1 = W.heap.size := by have := HZ0.out; omega
  rw [hzW] at hown2 ⊢
  clear hW hzW
  have hzz : w.heap.size + 1 < W.heap.size := by have := HZ0.out; omega
  have HO2 := Lib.hid hown2
  have HB2 : Hid (Below W.heap.size W w2) := (Below.refl _ _).grown hgrow2 (Nat.le_refl _) (by simp)
  clear hown2 hgrow2
  go_wp2
  go_loopw [6] (fun i wr => ∃ k : Nat, k ≤ l.length ∧ i = .int .i64 k ∧ OwnL bc 4 1 wr W.heap.size (.slice (some ⟨W.heap.size, 0, none⟩) l.length l.length) (truth s.mem (l.take k) ++ List.replicate (l.length - k) false) ∧ Below W.heap.size w2 wr) (fun i _ => l.length - (intOf i).toNat)
  case atStart => exact ⟨0, Nat.zero_le _, rfl, by simpa [truth, evs] using HO2.out, Below.refl _ _⟩
  case round =>
    obtain ⟨k, hk, rfl, hown, hb⟩ := hrel
    have HO := Lib.hid hown
    have HB := Lib.hid hb
    have HBR := Lib.hid (HB2.out.trans hb)
    have HBA := Lib.hid (HB0.out.trans (HBR.out.mono HB0.out.size))
    have Q0 := Lib.hid (q0.out.later HBR.out)
    have Q1 := Lib.hid (q1.out.later HBR.out)
    have k1 : wr.cell? ⟨w.heap.size, 1, none⟩ = some (.slice a l.length cap) := Q0.out.cell 1
    have hzw := Q1.out.lt
    have hgz : W.heap.size < wr.heap.size := hown.lt.1
    clear hown hb
    by_cases hlt : k < l.length
    · obtain ⟨b, off, rfl, c0', c1', av, cv, c2', hin, hil⟩ := HX.out k hlt
      have hgd : l.getD k default = l[k] := by simp [List.getD_eq_getElem?_getD, hlt]
      rw [hgd] at c0' c1' c2' hin hil
      have hbw : b < w.heap.size := cell_block c0'
      have c0 := HBA.out.cell (p := ⟨b, off + k * 3, none⟩) hbw
      have c1 := HBA.out.cell (p := ⟨b, off + k * 3 + 1, none⟩) hbw
      have c2 := HBA.out.cell (p := ⟨b, off + k * 3 + 2, none⟩) hbw
      rw [c0'] at c0
      rw [c1'] at c1
      rw [c2'] at c2
      have HNK := Lib.hid (netOk_nd HK.out hlt)
      have HTS : Hid (truth s.mem (l.take (k + 1)) = truth s.mem (l.take k) ++ [evNd s.mem (at' (truth s.mem (l.take k))) l[k]]) := by
        show _ = _; rw [List.take_succ_eq_append_getElem hlt, truth_snoc]
      have htl : (truth s.mem (l.take k)).length = k := by rw [truth_length, List.length_take]; omega
      have HVL : Hid (k = (truth s.mem (l.take k)).length) := htl.symm
      have HN : Hid (∀ c : Bool, l.length = (truth s.mem (l.take k) ++ c :: List.replicate (l.length - (k + 1)) false).length) := fun c => by simp [htl]; omega
      simp only at HNK
      have ho3 := HO.out
      rw [rep_cons hlt] at ho3
      generalize hzs : List.replicate (l.length - (k + 1)) false = zs at *
      have HZS := Lib.hid hzs
      generalize l[k] = x at *
      generalize truth s.mem (l.take k) = vs at *
      have HTL := Lib.hid htl
      have HIN := Lib.hid hin
      have hbz : b < wr.heap.size := cell_block c0
      have HA0 := Lib.hid (acc_zero (s := s.mem) (f := at' vs) (x := x))
      have HAE := Lib.hid (acc_end s.mem (at' vs) x)
      have HBLK := Lib.hid (Blk.new wr #[.int .i64 x.kind, .int .i64 x.lit, .slice av x.ins.length cv] 67)
      have HB6 := Lib.hid ((Below.refl wr.heap.size wr).alloc (Nat.le_refl _) (.cells #[.int .i64 x.kind, .int .i64 x.lit, .slice av x.ins.length cv] 67))
      have HO6 := Lib.hid (ho3.later HB6.out)
      have hkl : (k : Int) < (l.length : Int) := by omega
      clear hin hgd htl c0' c1' c2' hzs ho3
      rcases x with ⟨kd, lt, ins⟩
      simp only at *
      have hk5 := formOk_kind HNK.out
      simp only at hk5
      have HKD := Lib.hid hk5
      clear hk5
      go_upto_region 6 with fail
      go_cut [32] (fun s32 wx => s32 = .bool (kd == 1 || kd == 3) ∧ wx = (wr.alloc (.cells #[.int .i64 kd, .int .i64 lt, .slice av ins.length cv] 67)))
      case first =>
        rcases HKD.out with rfl | rfl | rfl | rfl | rfl
        all_goals
          go_wp2_with fail
          go_meet
          exact ⟨rfl, rfl⟩
      case rest =>
       obtain ⟨rfl, rfl⟩ := hcut
       have s0 : (wr.alloc (.cells #[.int .i64 kd, .int .i64 lt, .slice av ins.length cv] 67)).cell? ⟨w.heap.size + 1, 0, none⟩ = some (.int .u64 (s.a : Int)) := (Q1.out.alloc _).cell 0
       have s1 : (wr.alloc (.cells #[.int .i64 kd, .int .i64 lt, .slice av ins.length cv] 67)).cell? ⟨w.heap.size + 1, 1, none⟩ = some (.int .u64 (s.b : Int)) := (Q1.out.alloc _).cell 1
       have o0 : (wr.alloc (.cells #[.int .i64 kd, .int .i64 lt, .slice av ins.length cv] 67)).cell? ⟨W.heap.size, k, none⟩ = some (.bool false) := by
         have := HO6.out.mid HVL.out (HN.out _) bc_len 0 (by omega)
         simpa [bc] using this
       have o1 : (wr.alloc (.cells #[.int .i64 kd, .int .i64 lt, .slice av ins.length cv] 67)).frozen? ⟨W.heap.size, k, none⟩ = false := HO6.out.fr (HN.out _) k
       have HB6W : Hid (Below W.heap.size wr (wr.alloc (.cells #[.int .i64 kd, .int .i64 lt, .slice av ins.length cv] 67))) := HB6.out.mono (by omega)
       have HZA := HBLK.out.lt
       generalize (wr.alloc (.cells #[.int .i64 kd, .int .i64 lt, .slice av ins.length cv] 67)) = wa at *
       have HPT := Lib.hid (HO6.out.midput1 HVL.out (HN.out _) bc_len true (.bool true) rfl)
       have HBP : Hid (Below W.heap.size wr (wa.setCell ⟨W.heap.size, k, none⟩ (.bool true))) := HB6W.out.setCell (Nat.le_refl _) _
       have HBS : Hid (Blk (wa.setCell ⟨W.heap.size, k, none⟩ (.bool true)) wr.heap.size #[.int .i64 kd, .int .i64 lt, .slice av ins.length cv] 67) := HBLK.out.other _ _ (by simp; omega)
       have x0 : wa.cell? ⟨wr.heap.size, 0, none⟩ = some (.int .i64 kd) := HBLK.out.cell 0
       have x1 : wa.cell? ⟨wr.heap.size, 1, none⟩ = some (.int .i64 lt) := HBLK.out.cell 1
       go_upto_if 32 with fail
       go_cut [35] (fun _ wx => Blk wx wr.heap.size #[.int .i64 kd, .int .i64 lt, .slice av ins.length cv] 67 ∧ OwnL bc 4 1 wx W.heap.size (.slice (some ⟨W.heap.size, 0, none⟩) l.length l.length) (vs ++ (kd == 1 || kd == 3) :: zs) ∧ Below W.heap.size wr wx)
       case first =>
         rcases HKD.out with rfl | rfl | rfl | rfl | rfl
         all_goals
           go_wp2_with fail
           go_meet
           first
             | exact ⟨HBLK.out, HO6.out, HB6W.out⟩
             | exact ⟨HBS.out, HPT.out, HBP.out⟩
       case rest =>
        obtain ⟨hkc, hoc, hbc⟩ := hcut
        obtain ⟨wy, rfl⟩ : ∃ wy : World, wy = wc := ⟨_, rfl⟩
        have HKY := Lib.hid hkc
        have HOY := Lib.hid hoc
        have HBY := Lib.hid hbc
        have y0 : wy.cell? ⟨wr.heap.size, 0, none⟩ = some (.int .i64 kd) := hkc.cell 0
        have y1 : wy.cell? ⟨wr.heap.size, 1, none⟩ = some (.int .i64 lt) := hkc.cell 1
        have yl := hkc.lt
        have QY := Lib.hid (q1.out.later (HB2.out.trans (HB.out.trans hbc)))
        clear hkc hoc hbc s0 s1 o0 o1 HPT HBP HBS k1 c0 c1 c2 x0 x1
        go_upto_if 38 with fail
        go_cut [45] (fun _ wx => Blk wx wr.heap.size #[.int .i64 kd, .int .i64 lt, .slice av ins.length cv] 67 ∧ OwnL bc 4 1 wx W.heap.size (.slice (some ⟨W.heap.size, 0, none⟩) l.length l.length) (vs ++ acc s.mem (at' vs) ⟨kd, lt, ins⟩ 0 :: zs) ∧ Below W.heap.size wr wx)
        case first =>
         have s0 : wy.cell? ⟨w.heap.size + 1, 0, none⟩ = some (.int .u64 (s.a : Int)) := QY.out.cell 0
         have s1 : wy.cell? ⟨w.heap.size + 1, 1, none⟩ = some (.int .u64 (s.b : Int)) := QY.out.cell 1
         have sl := QY.out.lt
         rcases HKD.out with rfl | rfl | rfl | rfl | rfl
         · go_wp2_with fail
           go_meet
           exact ⟨HKY.out, by rw [HA0.out]; exact HOY.out, HBY.out⟩
         · go_wp2_with fail
           go_meet
           exact ⟨HKY.out, by rw [HA0.out]; exact HOY.out, HBY.out⟩
         · have hlv := ndOk_lit HNK.out rfl
           have HH := Lib.hid (fun V => holds5_any s lt V HS.out hlv.1)
           have HHV : Hid (acc s.mem (at' vs) ⟨2, lt, ins⟩ 0 = holds s.mem lt) := HA0.out
           clear hlv
           generalize holds s.mem lt = hv at *
           go_wp2_with fail
           refine (HH.out _).mono ?_
           rintro e w5 ⟨rfl, hb5⟩
           have HB7 := Lib.hid (HBY.out.trans (hb5.mono (by have := HBY.out.size; omega)))
           have HK7 := Lib.hid (HKY.out.later hb5)
           have HO7 := Lib.hid (HOY.out.later hb5)
           have p0 : w5.cell? ⟨W.heap.size, k, none⟩ = some (.bool false) := by
             have := HO7.out.mid HVL.out (HN.out _) bc_len 0 (by omega)
             simpa [bc] using this
           have p1 := HO7.out.fr (HN.out _) k
           have p2 := HO7.out.lt.1
           clear hb5 s0 s1 sl y0 y1 yl
           go_wp2_with fail
           go_meet
           exact ⟨HK7.out.other _ _ (by simp; omega), by rw [HHV.out]; exact HO7.out.midput1 HVL.out (HN.out _) bc_len hv (.bool hv) rfl, HB7.out.setCell (Nat.le_refl _) _⟩
         · go_wp2_with fail
           go_meet
           exact ⟨HKY.out, by rw [HA0.out]; exact HOY.out, HBY.out⟩
         · go_wp2_with fail
           go_meet
           exact ⟨HKY.out, by rw [HA0.out]; exact HOY.out, HBY.out⟩
        case rest =>
          obtain ⟨hkc, hoc, hbc⟩ := hcut
          obtain ⟨wx, rfl⟩ : ∃ wx : World, wx = wc := ⟨_, rfl⟩
          have HKX := Lib.hid hkc
          have HOX := Lib.hid hoc
          have HBX := Lib.hid hbc
          have HZX := Lib.hid hbc.size
          clear hkc hoc hbc y0 y1 yl
          obtain ⟨wo, rfl⟩ : ∃ wo : World, wo = wr := ⟨_, rfl⟩
          have HBXA := Lib.hid (HBA.out.trans (HBX.out.mono (by omega)))
          have d2 : wx.cell? ⟨wo.heap.size, 2, none⟩ = some (.slice av ins.length cv) := HKX.out.cell 2
          have d2l := HKX.out.lt
          go_wp2_with fail
          clear d2 d2l
          go_loopw [8] (fun i wi => ∃ m : Nat, m ≤ ins.length ∧ i = .int .i64 m ∧ OwnL bc 4 1 wi W.heap.size (.slice (some ⟨W.heap.size, 0, none⟩) l.length l.length) (vs ++ acc s.mem (at' vs) ⟨kd, lt, ins⟩ m :: zs) ∧ Kp (fun y => y = W.heap.size) wx wi) (fun i _ => ins.length - (intOf i).toNat)
          case atStart => exact ⟨0, Nat.zero_le _, rfl, HOX.out, Kp.refl _ _⟩
          case round =>
            obtain ⟨wi, rfl⟩ : ∃ wi : World, wi = wr := ⟨_, rfl⟩
            obtain ⟨m, hm, rfl, hown, hkp⟩ := hrel
            have HOI := Lib.hid hown
            have HKP := Lib.hid hkp
            have hki := HKX.out.kept hkp (by omega)
            have d0 : wi.cell? ⟨wo.heap.size, 0, none⟩ = some (.int .i64 kd) := hki.cell 0
            have d2 : wi.cell? ⟨wo.heap.size, 2, none⟩ = some (.slice av ins.length cv) := hki.cell 2
            have dl := hki.lt
            by_cases hlm : m < ins.length
            · obtain ⟨b2, off2, rfl, e0'⟩ := HIN.out m hlm
              have hgd : ins.getD m 0 = ins[m] := by simp [List.getD_eq_getElem?_getD, hlm]
              have hq := ndOk_ins HNK.out ins[m] (List.getElem_mem hlm)
              have hkk := ins_kind HNK.out (show ins ≠ [] from fun e => by rw [e] at hlm; simp at hlm)
              have hand := fun h => acc_and (s := s.mem) (f := at' vs) (x := ⟨kd, lt, ins⟩) (m := m) hlm h
              have hor := fun h => acc_or (s := s.mem) (f := at' vs) (x := ⟨kd, lt, ins⟩) (m := m) hlm h
              simp only at hkk hand hor
              rw [hgd] at e0'
              generalize ins[m] = y at *
              have hb2w : b2 < w.heap.size := cell_block e0'
              have e1 := HBXA.out.cell (p := ⟨b2, off2 + m, none⟩) hb2w
              rw [e0'] at e1
              have e0 : wi.cell? ⟨b2, off2 + m, none⟩ = some (.int .i64 y) := hkp.cell e1 (by dsimp only; omega)
              have e0l := cell_block e0
              obtain ⟨q, rfl⟩ := Int.eq_ofNat_of_zero_le hq.1
              have hqk : q < vs.length := by have := HTL.out; omega
              have hyv : at' vs (q : Int) = vs[q] := by unfold at'; simp [List.getD_eq_getElem?_getD, hqk]
              rw [hyv] at hand hor
              have f0 : wi.cell? ⟨W.heap.size, q, none⟩ = some (.bool vs[q]) := by
                have h := hown.left hqk (HN.out _) bc_len 0 (by omega)
                simpa [bc] using h
              have g0 : wi.cell? ⟨W.heap.size, k, none⟩ = some (.bool (acc s.mem (at' vs) ⟨kd, lt, ins⟩ m)) := by
                have h := hown.mid HVL.out (HN.out _) bc_len 0 (by omega)
                simpa [bc] using h
              have g1 := hown.fr (HN.out _) k
              have g2 := hown.lt.1
              have hql : (q : Int) < (l.length : Int) := by have := HTL.out; omega
              have HAND := Lib.hid hand
              have HOR := Lib.hid hor
              have HPU : Hid (∀ c : Bool, OwnL bc 4 1 (wi.setCell ⟨W.heap.size, k, none⟩ (.bool c)) W.heap.size (.slice (some ⟨W.heap.size, 0, none⟩) l.length l.length) (vs ++ c :: zs)) := fun c => hown.midput1 HVL.out (HN.out _) bc_len c (.bool c) rfl
              have HKU : Hid (∀ c : Bool, Kp (fun y => y = W.heap.size) wx (wi.setCell ⟨W.heap.size, k, none⟩ (.bool c))) := fun c => Kp.trans (M := fun y => y = W.heap.size) HKP.out (Kp.setCell (M := fun y => y = W.heap.size) _ _ _ rfl)
              generalize vs[q] = d at *
              generalize hcm : acc s.mem (at' vs) ⟨kd, lt, ins⟩ m = c at *
              clear hand hor hyv hgd e0' e1 hq hcm hown hkp hki
              rcases hkk with rfl | rfl
              all_goals
                cases c
                all_goals
                  go_wp2
                  go_roundw
                  case rel => exact ⟨m + 1, by omega, by go_num, by first | (rw [HAND.out rfl]; exact HPU.out _) | (rw [HOR.out rfl]; exact HPU.out _), HKU.out _⟩
                  case measure => simp [intOf]; omega
            · have : m = ins.length := by omega
              subst this
              have HB9 : Hid (Below W.heap.size w2 wi) := HB.out.trans ((HBX.out).trans (hkp.toBelow (by have := HBX.out.size; omega) (by intro y hy h; omega)))
              have HOE := Lib.hid hown
              clear hown hkp hki
              go_wp2
              go_roundw
              case rel =>
                refine ⟨k + 1, by omega, by go_num, ?_, HB9.out⟩
                rw [HTS.out, HZS.out, List.append_assoc]
                have h9 := HOE.out
                rw [HAE.out] at h9
                exact h9
              case measure => simp [intOf]; omega
    · have : k = l.length := by omega
      subst this
      have ho := HO.out
      rw [List.take_length, Nat.sub_self, List.replicate_zero, List.append_nil] at ho
      have HOE := Lib.hid (ho.lower (show w.heap.size ≤ W.heap.size by omega))
      clear ho
      go_wp2
      go_ret
      exact ⟨_, rfl, HOE.out, HBA.out⟩
end Go.Proofs.YtkaojolofaanfaaGreatDoor
