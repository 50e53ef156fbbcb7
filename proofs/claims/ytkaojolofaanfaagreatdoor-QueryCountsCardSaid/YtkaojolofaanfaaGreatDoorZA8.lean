/- Part of the proofs that laws of censuslaw38 return true for every input, where the tables that the rows list are laid. Texts: Sort, Inputs, Add, NetL. -/
import Derived.Test.YtkaojolofaanfaaGreatDoorZA7
import Derived.Sort.OwnSortedInts
import Derived.Test.YtkaojolofaanfaaGreatDoorZA6

/- slices.Sort at a row of integers that the call owns. -/
namespace Go.Proofs.YtkaojolofaanfaaGreatDoor
open Go.RowKit Cen
set_option maxHeartbeats 2000000
set_option maxRecDepth 100000
theorem insertion_nil (w : World) : Calls Tryz.prog 217 #[.slice none 0 0, .int .i64 0, .int .i64 0] w fun e w' => e = .returned (.tuple #[]) ∧ w = w' := by
  go_enter Tryz.func217, Tryz.ntmps217
  go_wp2
  refine wp_loop_rounds 1 ?_
  rw [rounds_succ]
  go_wp2
  go_end0
  exact ⟨rfl, rfl⟩
theorem pdq_nil (l : Int) (w : World) : Calls Tryz.prog 194 #[.slice none 0 0, .int .i64 0, .int .i64 0, .int .i64 l] w fun e w' => e = .returned (.tuple #[]) ∧ w = w' := by
  go_enter Tryz.func194, Tryz.ntmps194
  go_wp2
  refine wp_loop_rounds 1 ?_
  rw [rounds_succ]
  go_wp2_with fail
  refine (insertion_nil _).mono ?_
  rintro e w1 ⟨rfl, rfl⟩
  go_wp2
  exact bodyPost_ret (v := .tuple #[]) (by simp [results, Tryz.results194, go_sem]) rfl ⟨rfl, rfl⟩
theorem sort_nil (w : World) : Calls Tryz.prog 150 #[.slice none 0 0] w fun e w' => e = .returned (.tuple #[]) ∧ w = w' := by
  go_enter Tryz.func150, Tryz.ntmps150
  go_wp2_with fail
  refine (Tryz.bits_Len 0 w (by omega) (by omega)).mono ?_
  rintro e w1 ⟨rfl, rfl⟩
  go_wp2_with fail
  refine (pdq_nil _ _).mono ?_
  rintro e w1 ⟨rfl, rfl⟩
  go_wp2
  go_end0
  exact ⟨rfl, rfl⟩
theorem sort_any (base : Nat) (v : Value) (xs : List Int) (w : World) (h : OwnInts w base v xs) (hl : xs.length ≤ 1073741824) :
    Calls Tryz.prog 150 #[v] w fun e w' => e = .returned (.tuple #[]) ∧ OwnInts w' base v (sortL xs) ∧ w.grownBy w' v.ownBlock := by
  have hsl : (sortL xs).length = xs.length := by unfold sortL; exact List.length_mergeSort _
  rcases h.2 with ⟨hv, h0⟩ | ⟨g, cap, cur, hv, hg, hh, hn, hm, hs, ht⟩
  · have : xs = [] := List.eq_nil_of_length_eq_zero h0
    subst this; subst hv
    refine (sort_nil w).mono fun e w' ⟨h1, h2⟩ => ⟨h1, ?_, ?_⟩
    · subst h2; unfold sortL; simpa using h
    · subst h2; exact ⟨rfl, rfl, rfl, Nat.le_refl _, fun _ _ _ => rfl⟩
  · subst hv
    rw [Nat.mul_one] at ht
    refine (Tryz.slices_Sort_int g 0 cap xs w (Go.holds_of_blockI hh ht) (lt_of_block hh) (by omega)).mono fun e w' ⟨h1, n, os, h2⟩ => ⟨h1, ?_, ?_⟩
    · rw [h2]
      show World.ownsRow _ _ _ _ _ _ _
      rw [hsl]
      exact Go.ownsRow_sortedI hsl hg hh hn hm hs
    · rw [h2]; exact Go.grownBy_sortedI _
end Go.Proofs.YtkaojolofaanfaaGreatDoor

/- The walk of (*Builder).inputs. -/
namespace Go.Proofs.YtkaojolofaanfaaGreatDoor
open Go.RowKit Cen
set_option maxHeartbeats 2000000
set_option maxRecDepth 100000

theorem callable_inAdd : Callable 230 := fun _ _ => by kernel_rfl
theorem flat_snoc' (L : List Nd) (kind : Int) (l : List Int) (k : Nat) (h : k < l.length) : Cen.flat L kind (l.take (k + 1)) = Cen.flat L kind (l.take k) ++ (if (nd L l[k]).kind = kind then (nd L l[k]).ins else [l[k]]) := by
  unfold Cen.flat; rw [List.take_succ_eq_append_getElem h, List.flatMap_append]; simp
theorem inS_append (L : List Nd) (drop endk : Int) (a b : List Int) : inS L drop endk (a ++ b) = b.foldl (addS L drop endk) (inS L drop endk a) := by unfold inS; rw [List.foldl_append]
theorem addS_out_le (L : List Nd) (drop endk : Int) (s : InS) (i : Int) : (addS L drop endk s i).out.length ≤ s.out.length + 1 := by
  unfold addS; simp only
  split
  · omega
  · split <;> simp
theorem inS_out_le (L : List Nd) (drop endk : Int) (l : List Int) : (inS L drop endk l).out.length ≤ l.length := by
  have : ∀ (l : List Int) (s : InS), (l.foldl (addS L drop endk) s).out.length ≤ s.out.length + l.length := by
    intro l
    induction l with
    | nil => intro s; simp
    | cons x l ih => intro s; have h1 := ih (addS L drop endk s x); have h2 := addS_out_le L drop endk s x; simp at *; omega
  simpa [inS] using this l ⟨[], [], true⟩
theorem flat_take_le (L : List Nd) (kind : Int) (l : List Int) (k : Nat) : (Cen.flat L kind (l.take k)).length ≤ (Cen.flat L kind l).length := by
  conv => rhs; rw [← List.take_append_drop k l]
  unfold Cen.flat; rw [List.flatMap_append, List.length_append]; omega

/-- The world's part of the invariant: the builder is as it was; the blocks shared with the closure. -/
theorem InSt.start (w : World) (p : Nat) (drop endk : Int) :
    InSt (((((((w.alloc (.cells #[.pointer (some ⟨p, 0, none⟩)] 186)).alloc (.cells #[.int .i64 drop] 3)).alloc (.cells #[.int .i64 endk] 3)).alloc (.cells #[.slice none 0 0] 40)).alloc (.map #[] 0)).alloc
      (.cells #[.map (some (w.heap.size + 4))] 224)).alloc (.cells #[.bool true] 4)) w.heap.size p drop endk (.slice none 0 0) 0 ⟨[], [], true⟩ := by
  have h0 := Blk.new w #[.pointer (some ⟨p, 0, none⟩)] 186
  refine ⟨?_, ?_, ?_, ?_, OwnInts.nil _ _, ?_, ?_, ?_⟩
  · exact ((((((h0.alloc _).alloc _).alloc _).alloc _).alloc _).alloc _)
  · exact (((((Blk.new' _ (by simp) _ _).alloc _).alloc _).alloc _).alloc _).alloc _
  · exact ((((Blk.new' _ (by simp) _ _).alloc _).alloc _).alloc _).alloc _
  · exact (((Blk.new' _ (by simp) _ _).alloc _).alloc _).alloc _
  · have hm := MapL.made (k := 3) (e := 4) ((((w.alloc (.cells #[.pointer (some ⟨p, 0, none⟩)] 186)).alloc (.cells #[.int .i64 drop] 3)).alloc (.cells #[.int .i64 endk] 3)).alloc (.cells #[.slice none 0 0] 40))
    have e : litf [] = fun _ => none := by funext x; cases x <;> simp [litf]; rename_i k c; cases k <;> simp
    rw [e]
    simp only [World.size_alloc] at hm
    exact (hm.later ((Below.refl _ _).alloc (Nat.le_refl _) _)).later ((Below.refl _ _).alloc (Nat.le_refl _) _)
  · exact (Blk.new' _ (by simp) _ _).alloc _
  · exact Blk.new' _ (by simp) _ _

theorem OwnInts.lower' {w : World} {base B : Nat} {v : Value} {xs : List Int} (h : OwnInts w base v xs) (hB : B ≤ base) : OwnInts w.drew B v xs := by
  refine ⟨h.1, ?_⟩
  rcases h.2 with h1 | ⟨g, cap, cur, hv, hg, r⟩
  · exact .inl h1
  · exact .inr ⟨g, cap, cur, hv, Nat.le_trans hB hg, r⟩
theorem inputs_any (A F : Nat → Prop) (p : Nat) (n : Int) (L : List Nd) (kind drop endk : Int) (a : Option Addr) (cap : Nat) (ins : List Int) (w : World) (hb : Bld A F w p n L) (hx : IntCells w a ins)
    (hin : ∀ i ∈ ins, 0 ≤ i ∧ i < L.length) (hl : ins.length ≤ 1000000) (hfl : (Cen.flat L kind ins).length ≤ 1000000) :
    Calls Tryz.prog 209 #[.pointer (some ⟨p, 0, none⟩), .slice a ins.length cap, .int .i64 kind, .int .i64 drop, .int .i64 endk] w
      fun e w' => ∃ v, e = .returned (.tuple #[v, .bool (inputsL L kind drop endk ins).2]) ∧ OwnInts w' w.heap.size v (inputsL L kind drop endk ins).1 ∧ Below w.heap.size w w' := by
  have hcf : ∀ (args : Array Value) (w : World), (callFunc 230 args).run Tryz.prog w = .ok (.enter 230 args) w := callable_inAdd
  have hmm := @run_makeMap Tryz.prog
  have HST := Lib.hid (InSt.start w p drop endk)
  have HBD := Lib.hid hb
  have HX := Lib.hid hx
  have HIN := Lib.hid hin
  have HFL := Lib.hid hfl
  clear hb hx hin hfl
  go_enter Tryz.func209, Tryz.ntmps209
  go_wp2
  have hz7 : w.heap.size + 7 ≤ (((((((w.alloc (.cells #[.pointer (some ⟨p, 0, none⟩)] 186)).alloc (.cells #[.int .i64 drop] 3)).alloc (.cells #[.int .i64 endk] 3)).alloc (.cells #[.slice none 0 0] 40)).alloc (.map #[] 0)).alloc
      (.cells #[.map (some (w.heap.size + 4))] 224)).alloc (.cells #[.bool true] 4)).heap.size := by simp
  have HZ7 := Lib.hid hz7
  have HB7 : Hid (Below w.heap.size w (((((((w.alloc (.cells #[.pointer (some ⟨p, 0, none⟩)] 186)).alloc (.cells #[.int .i64 drop] 3)).alloc (.cells #[.int .i64 endk] 3)).alloc (.cells #[.slice none 0 0] 40)).alloc (.map #[] 0)).alloc
      (.cells #[.map (some (w.heap.size + 4))] 224)).alloc (.cells #[.bool true] 4))) :=
    (((((((Below.refl _ _).alloc (Nat.le_refl _) _).alloc (by simp) _).alloc (by simp; omega) _).alloc (by simp; omega) _).alloc (by simp; omega) _).alloc (by simp; omega) _).alloc (by simp; omega) _
  clear hz7
  go_loopw [24] (fun i wr => ∃ (k : Nat) (v : Value) (c : Nat), k ≤ ins.length ∧ i = .int .i64 k ∧ InSt wr w.heap.size p drop endk v c (inS L drop endk (Cen.flat L kind (ins.take k))) ∧ c ≤ (Cen.flat L kind (ins.take k)).length ∧ Below w.heap.size w wr) (fun i _ => ins.length - (intOf i).toNat)
  case atStart => exact ⟨0, .slice none 0 0, 0, Nat.zero_le _, rfl, HST.out, Nat.zero_le _, HB7.out⟩
  case round =>
    obtain ⟨wo, rfl⟩ : ∃ wo : World, wo = wr := ⟨_, rfl⟩
    obtain ⟨k, v, c, hk, rfl, hs, hc, hbel⟩ := hrel
    have HS := Lib.hid hs
    have HC := Lib.hid hc
    have HB := Lib.hid hbel
    clear hs hc hbel
    by_cases hlt : k < ins.length
    · obtain ⟨b, off, rfl, hc0⟩ := HX.out k hlt
      have hcell := cell_keep HB.out hc0
      have hxr := HIN.out (ins.getD k 0) (by simp [List.getD_eq_getElem?_getD, hlt])
      generalize hxe : ins.getD k 0 = x at hcell hxr
      have HXE : Hid (ins[k] = x) := by show _ = _; rw [← hxe]; simp [List.getD_eq_getElem?_getD, hlt]
      obtain ⟨hx0, hx1⟩ := hxr
      obtain ⟨q, rfl⟩ := Int.eq_ofNat_of_zero_le hx0
      have hq : q < L.length := by omega
      have hbw := HBD.out.later HB.out
      obtain ⟨g, capl, av, cv, n0', n1', n2', n3', hiv, hnok⟩ := HBD.out.node q hq
      have n0 := cell_keep HB.out n0'
      have n1 := cell_keep HB.out n1'
      have n2 := cell_keep HB.out n2'
      have n3 := cell_keep HB.out n3'
      clear n0' n1' n2' n3'
      have HNK : Hid (nd L (q : Int) = L[q]) := by show _ = _; simp [nd, List.getD_eq_getElem?_getD, hq]
      have HFS := Lib.hid (flat_snoc' L kind ins k hlt)
      have HIV := Lib.hid hiv
      have HNOK := Lib.hid hnok
      have HBW := Lib.hid hbw
      have HHQ := Lib.hid hq
      have m0 : wo.cell? ⟨w.heap.size, 0, none⟩ = some (.pointer (some ⟨p, 0, none⟩)) := HS.out.b0.cell 0
      generalize L[q] = nx at *
      clear hc0 hxe hx0 hiv hnok hbw
      by_cases hkd : nx.kind = kind
      · have hkd' : (nx.kind != kind) = false := by simpa using hkd
        have HFK : Hid (Cen.flat L kind (ins.take (k + 1)) = Cen.flat L kind (ins.take k) ++ nx.ins) := by
          show _ = _; rw [HFS.out, HXE.out, HNK.out, if_pos hkd]
        have HLE : Hid ((Cen.flat L kind (ins.take (k + 1))).length ≤ 1000000) := Nat.le_trans (flat_take_le L kind ins (k + 1)) HFL.out
        have HNI : Hid (∀ y ∈ nx.ins, 0 ≤ y ∧ y < L.length) := fun y hy => by
          have h1 := HNOK.out
          simp only [ndOk, Bool.and_eq_true] at h1
          have h2 := (insOk_iff.1 h1.1) y hy
          have := HHQ.out; omega
        have hnl : nx.ins.length ≤ 1073741824 := by
          have h2 := HLE.out
          rw [HFK.out, List.length_append] at h2
          omega
        clear hkd
        go_wp2
        go_loopw [50] (fun i wi => ∃ (m : Nat) (v' : Value) (c' : Nat), m ≤ nx.ins.length ∧ i = .int .i64 m ∧ InSt wi w.heap.size p drop endk v' c' (inS L drop endk (Cen.flat L kind (ins.take k) ++ nx.ins.take m)) ∧
          c' ≤ (Cen.flat L kind (ins.take k)).length + m ∧ Below w.heap.size w wi) (fun i _ => nx.ins.length - (intOf i).toNat)
        case atStart => exact ⟨0, v, c, Nat.zero_le _, rfl, by simpa using HS.out, by simpa using HC.out, HB.out⟩
        case round =>
          obtain ⟨wi, rfl⟩ : ∃ wi : World, wi = wr := ⟨_, rfl⟩
          obtain ⟨m, v', c', hm, rfl, hs2, hc2, hb2⟩ := hrel
          have HS2 := Lib.hid hs2
          have HC2 := Lib.hid hc2
          have HB2 := Lib.hid hb2
          clear hs2 hc2 hb2
          by_cases hlm : m < nx.ins.length
          · obtain ⟨b2, off2, rfl, hi0⟩ := HIV.out m hlm
            have hi1 := cell_keep HB2.out hi0
            have hyr := HNI.out (nx.ins.getD m 0) (by simp [List.getD_eq_getElem?_getD, hlm])
            generalize hye : nx.ins.getD m 0 = y at hi1 hyr
            have HYE : Hid (nx.ins[m] = y) := by show _ = _; rw [← hye]; simp [List.getD_eq_getElem?_getD, hlm]
            have HYR := Lib.hid hyr
            have HST3 : Hid (Cen.flat L kind (ins.take k) ++ nx.ins.take (m + 1) = (Cen.flat L kind (ins.take k) ++ nx.ins.take m) ++ [y]) := by
              show _ = _; rw [List.take_succ_eq_append_getElem hlm, HYE.out, List.append_assoc]
            have hlen : (Cen.flat L kind (ins.take k)).length + nx.ins.length ≤ 1000000 := by
              have h2 := HLE.out
              rw [HFK.out, List.length_append] at h2; exact h2
            have HOL : Hid ((inS L drop endk (Cen.flat L kind (ins.take k) ++ nx.ins.take m)).out.length ≤ 1000000) := by
              have h1 := inS_out_le L drop endk (Cen.flat L kind (ins.take k) ++ nx.ins.take m)
              rw [List.length_append, List.length_take] at h1
              show _ ≤ _; omega
            have HCC : Hid (c' ≤ 1000000) := by have h1 := HC2.out; show _ ≤ _; omega
            clear hi0 hye hyr hlen
            go_wp2_with fail
            refine (inAdd_any A F p n L w.heap.size drop endk v' c' _ y wi (HBD.out.later HB2.out) HS2.out HYR.out.1 HYR.out.2 HCC.out HOL.out).mono ?_
            rintro e w3 ⟨rfl, v'', c'', hc', hs3, hb3⟩
            have HS3 := Lib.hid hs3
            have HB3 := Lib.hid hb3
            have HC3 := Lib.hid hc'
            clear hs3 hb3 hc'
            go_wp2
            go_roundw
            case rel =>
              refine ⟨m + 1, v'', c'', by omega, by go_num, ?_, ?_, HB2.out.trans HB3.out⟩
              · rw [HST3.out, inS_append]; exact HS3.out
              · have h1 := HC2.out; have h2 := HC3.out; omega
            case measure => simp [intOf]; omega
          · have : m = nx.ins.length := by omega
            subst this
            rw [List.take_length, ← HFK.out] at HS2
            go_wp2
            go_roundw
            case rel => exact ⟨k + 1, v', c', by omega, by go_num, HS2.out, by have h1 := HC2.out; rw [HFK.out, List.length_append]; exact h1, HB2.out⟩
            case measure => simp [intOf]; omega
      · have hkd' : (nx.kind != kind) = true := by simpa using hkd
        have HFK : Hid (Cen.flat L kind (ins.take (k + 1)) = Cen.flat L kind (ins.take k) ++ [(q : Int)]) := by
          show _ = _; rw [HFS.out, HXE.out, HNK.out, if_neg hkd]
        have HLE : Hid ((Cen.flat L kind (ins.take (k + 1))).length ≤ 1000000) := Nat.le_trans (flat_take_le L kind ins (k + 1)) HFL.out
        have HOL : Hid ((inS L drop endk (Cen.flat L kind (ins.take k))).out.length ≤ 1000000) := by
          have h1 := inS_out_le L drop endk (Cen.flat L kind (ins.take k))
          have h2 := HLE.out
          rw [HFK.out, List.length_append] at h2
          show _ ≤ _; omega
        have HCC : Hid (c ≤ 1000000) := by
          have h1 := HC.out
          have h2 := HLE.out
          rw [HFK.out, List.length_append] at h2
          show _ ≤ _; omega
        clear hkd
        go_wp2_with fail
        refine (inAdd_any A F p n L w.heap.size drop endk v c _ (q : Int) wo HBW.out HS.out (by omega) (by have := HHQ.out; omega) HCC.out HOL.out).mono ?_
        rintro e w3 ⟨rfl, v', c', hc', hs3, hb3⟩
        have HS3 := Lib.hid hs3
        have HB3 := Lib.hid hb3
        have HC3 := Lib.hid hc'
        clear hs3 hb3 hc'
        go_wp2
        go_roundw
        case rel =>
          refine ⟨k + 1, v', c', by omega, by go_num, ?_, ?_, HB.out.trans HB3.out⟩
          · rw [HFK.out, inS_append]; exact HS3.out
          · have h1 := HC.out; have h2 := HC3.out; rw [HFK.out, List.length_append]; simp; omega
        case measure => simp [intOf]; omega
    · have : k = ins.length := by omega
      subst this
      rw [List.take_length] at HS HC
      have HOL : Hid ((inS L drop endk (Cen.flat L kind ins)).out.length ≤ 1073741824) := by
        have h1 := inS_out_le L drop endk (Cen.flat L kind ins)
        have h2 := HFL.out
        show _ ≤ _; omega
      have m3 : wo.cell? ⟨w.heap.size + 3, 0, none⟩ = some v := HS.out.b3.cell 0
      go_wp2_with fail
      refine (sort_any _ v _ wo HS.out.own HOL.out).mono ?_
      rintro e w4 ⟨rfl, ho4, hg4⟩
      have hk4 : Kp (fun k => v.ownBlock = some k) wo w4 := Kp.grown hg4 fun k hk => hk
      have hn : ∀ b, b < w.heap.size + 7 → ¬ (v.ownBlock = some b) := fun b hb e => by have := (HS.out.own.lt b e).1; omega
      have j3 : w4.cell? ⟨w.heap.size + 3, 0, none⟩ = some v := (HS.out.b3.kept hk4 (hn _ (by omega))).cell 0
      have j6 : w4.cell? ⟨w.heap.size + 6, 0, none⟩ = some (.bool (inS L drop endk (Cen.flat L kind ins)).opn) := (HS.out.b6.kept hk4 (hn _ (by omega))).cell 0
      have HO4 := Lib.hid ho4
      have HB4 : Hid (Below w.heap.size w w4) := HB.out.grown hg4 HB.out.size fun k hk => by have := (HS.out.own.lt k hk).1; omega
      obtain ⟨va, vc, rfl, _, _⟩ := HS.out.own.cells
      clear ho4 hg4 hk4 hn m3
      go_wp2_with fail
      go_region
      all_goals
        go_wp2
        go_ret2
        exact ⟨_, rfl, HO4.out.lower' (by omega), HB4.out.drew⟩
end Go.Proofs.YtkaojolofaanfaaGreatDoor

/- The walks of node.New and (*Builder).Add. -/
namespace Go.Proofs.YtkaojolofaanfaaGreatDoor
open Go.RowKit Cen
set_option maxHeartbeats 2000000
set_option maxRecDepth 100000

theorem Bld.flt {A F : Nat → Prop} {w : World} {p : Nat} {n : Int} {L : List Nd} (h : Bld A F w p n L) {k : Nat} (hk : F k) : k < w.heap.size := by
  obtain ⟨mb, lv, LL, HAt, rfl, hF⟩ := h
  rcases (hF k).1 hk with h1 | h1 | h1
  · rw [h1]; exact HAt.blk.lt
  · rw [h1]; exact HAt.map.lt
  · exact (World.ownsRow.lt HAt.row k h1).2
theorem Bld.nds {A F : Nat → Prop} {w : World} {p : Nat} {n : Int} {L : List Nd} (h : Bld A F w p n L) : ndsOk L n L.length := by
  obtain ⟨mb, lv, LL, HAt, rfl, hF⟩ := h
  rw [List.length_map]; exact HAt.ok
theorem Bld.cells {A F : Nat → Prop} {w : World} {p : Nat} {n : Int} {L : List Nd} (h : Bld A F w p n L) : ∃ a cap mb, w.cell? ⟨p, 0, none⟩ = some (.int .i64 n) ∧ w.cell? ⟨p, 1, none⟩ = some (.slice a L.length cap) ∧ w.cell? ⟨p, 2, none⟩ = some (.map (some mb)) := by
  obtain ⟨mb, lv, LL, HAt, rfl, hF⟩ := h
  obtain ⟨a, cap, rfl⟩ := HAt.row.sliced
  exact ⟨a, cap, mb, HAt.blk.cell 0, by rw [List.length_map]; exact HAt.blk.cell 1, HAt.blk.cell 2⟩

theorem nodeNew_any (A : Nat → Prop) (n : Int) (w : World) (h0 : 0 ≤ n) (h1 : n ≤ 128) :
    Calls Tryz.prog 176 #[.int .i64 n] w fun e w' => ∃ p, e = .returned (.tuple #[.pointer (some ⟨p, 0, none⟩), .int .i64 0]) ∧ Bld A (fun k => w.heap.size ≤ k ∧ k < w.heap.size + 2) w' p n [] ∧ Below w.heap.size w w' := by
  have hmm := @run_makeMap Tryz.prog
  have d1 : decide (n < 0) = false := by simp; omega
  have d2 : decide (128 < n) = false := by simp; omega
  go_enter Tryz.func176, Tryz.ntmps176
  go_wp2
  go_ret2
  refine ⟨_, rfl, ⟨w.heap.size, .slice none 0 0, [], ?_, rfl, ?_⟩, ((Below.refl _ _).alloc (Nat.le_refl _) _).alloc (by simp) _⟩
  · have hm := (MapL.made (k := 9) (e := 3) w).later ((Below.refl _ _).alloc (Nat.le_refl _) (.cells #[.int .i64 n, .slice none 0 0, .map (some w.heap.size)] 210))
    refine ⟨Blk.new' _ (by simp) _ _, OwnL.nil _ _, by simp, ?_, ⟨by simp [Value.ownBlock], by simp [Value.ownBlock], by omega⟩, by simp, fun j hj => by simp at hj, by simp; omega, by simp⟩
    have e : bmap (List.map Prod.fst ([] : List (Nd × Value))) = fun _ => none := by funext y; cases y <;> simp [bmap]
    rw [e]; exact hm
  · intro k; simp [Value.ownBlock]; omega

theorem InsAt.nil (F : Nat → Prop) (w : World) : InsAt F w (.slice none 0 0) [] := ⟨none, 0, rfl, IntCells.nil _ _, fun h => absurd rfl h⟩
theorem OwnInts.lower0 {w : World} {base B : Nat} {v : Value} {xs : List Int} (h : OwnInts w base v xs) (hB : B ≤ base) : OwnInts w B v xs := by
  refine ⟨h.1, ?_⟩
  rcases h.2 with h1 | ⟨g, cap, cur, hv, hg, r⟩
  · exact .inl h1
  · exact .inr ⟨g, cap, cur, hv, Nat.le_trans hB hg, r⟩
theorem badd_any (A F : Nat → Prop) (p : Nat) (n : Int) (L : List Nd) (x : Nd) (a : Option Addr) (cap : Nat) (w : World) (hb : Bld A F w p n L) (hx : IntCells w a x.ins) (hok : ndOk x n L.length = true) (hl : L.length < 65536)
    (hil : x.ins.length ≤ 1000000) (hfl : (Cen.flat L x.kind x.ins).length ≤ 1000000) (ht : Tab w) (hA : ∀ k, A k → k < w.heap.size) :
    Calls Tryz.prog 177 #[.pointer (some ⟨p, 0, none⟩), .agg #[.int .i64 x.kind, .int .i64 x.lit, .slice a x.ins.length cap]] w
      fun e w' => ∃ F', e = .returned (.tuple #[.int .i64 (addL n L x).2, .int .i64 0]) ∧ Bld A F' w' p n (addL n L x).1 ∧ Kp F w w' ∧ (∀ k, F' k → F k ∨ w.heap.size ≤ k) := by
  obtain ⟨ab, capb, mb, c0, c1, c2⟩ := hb.cells
  have hmn := fun (w : World) (r : Option Nat) => run_eql_map_nil (P := Tryz.prog) w 108 9 3 r Tryz.underlying108
  have HBD := Lib.hid hb
  have HA := Lib.hid hA
  clear hA
  have HX := Lib.hid hx
  have HOK := Lib.hid hok
  have HT := Lib.hid ht
  have HL := Lib.hid hl
  have hB0 : Below w.heap.size w (w.alloc (.cells #[.int .i64 x.kind, .int .i64 x.lit, .slice a x.ins.length cap] 67)) := (Below.refl _ _).alloc (Nat.le_refl _) _
  have HB0 := Lib.hid hB0
  have hbx0 := Blk.new w #[.int .i64 x.kind, .int .i64 x.lit, .slice a x.ins.length cap] 67
  have HBX0 := Lib.hid hbx0
  have hpz : p < w.heap.size := hb.plt
  have HFM : Hid (∀ W : World, W.heap = (w.alloc (.cells #[.int .i64 x.kind, .int .i64 x.lit, .slice a x.ins.length cap] 67)).heap →
      Calls Tryz.prog 115 #[.agg #[.int .i64 x.kind, .int .i64 x.lit, .slice a x.ins.length cap], .int .i64 n, .int .i64 (L.length : Int)] W fun e w' => e = .returned (.bool true) ∧ Below W.heap.size W w') := fun W hW =>
    (formed_any x.kind x.lit n L.length a cap x.ins W (by omega) (fun i hi => by
      obtain ⟨b, off, e, hc⟩ := (hx.keep hB0) i hi
      exact ⟨b, off, e, by simp only [World.cell?, hW]; exact hc⟩)).mono fun e w' ⟨h1, h2⟩ => ⟨by rw [h1, show (⟨x.kind, x.lit, x.ins⟩ : Nd) = x from rfl, hok], h2⟩
  have hlb : L.length ≤ 1073741824 := by omega
  have HIN : Hid (∀ i ∈ x.ins, 0 ≤ i ∧ i < L.length) := by
    have h1 := hok
    simp only [ndOk, Bool.and_eq_true] at h1
    exact insOk_iff.1 h1.1
  have HIL := Lib.hid hil
  have HFL := Lib.hid hfl
  clear hil hfl
  clear hb hx hok ht hl hB0 hbx0
  go_enter Tryz.func177, Tryz.ntmps177
  go_wp2_with fail
  refine wp_region_still_tail 10 (by kernel_rfl) (by kernel_rfl) ?_
  simp only [List.take_succ_cons, List.take_zero, List.drop_succ_cons, List.drop_zero]
  change wpStill _ _ (World.drew _) _ _ _
  repeat still_step
  refine wpStill_nil ?_
  go_wp2_with fail
  refine (HFM.out _ (by rfl)).mono ?_
  rintro e w1 ⟨rfl, hb1d⟩
  have hb1 := below_drew hb1d
  have hbx1 := HBX0.out.later hb1
  have hb01 : Below w.heap.size w w1 := HB0.out.trans (hb1.mono (by simp))
  have e0 : w1.cell? ⟨w.heap.size, 0, none⟩ = some (.int .i64 x.kind) := hbx1.cell 0
  have e1 : w1.cell? ⟨w.heap.size, 1, none⟩ = some (.int .i64 x.lit) := hbx1.cell 1
  have e2 : w1.cell? ⟨w.heap.size, 2, none⟩ = some (.slice a x.ins.length cap) := hbx1.cell 2
  have HBX1 := Lib.hid hbx1
  have HB1 := Lib.hid hb01
  clear hb1d hb1 hbx1 hb01
  go_wp2_with fail
  · have hk : (x.kind == 3) = true := by assumption
    have hkk : x.kind = 3 := by simpa using hk
    have HKK := Lib.hid hkk
    clear hkk
    refine (inputs_any A F p n L x.kind 1 0 a cap x.ins w1 (HBD.out.later HB1.out) (HX.out.keep HB1.out) HIN.out HIL.out HFL.out).mono ?_
    rintro e w2 ⟨v, rfl, ho, hb2⟩
    have e0' := cell_keep hb2 e0
    have HB2 : Hid (Below w.heap.size w w2) := HB1.out.trans (hb2.mono HB1.out.size)
    have HO := Lib.hid (ho.lower0 HB1.out.size)
    have HVAL := Lib.hid (inputsL_valid (kind := x.kind) (drop := 1) (endk := 0) HBD.out.nds HIN.out)
    have HIL2 : Hid ((inputsL L x.kind 1 0 x.ins).1.length ≤ 1000000) := by
      show (sortL (inS L 1 0 (Cen.flat L x.kind x.ins)).out).length ≤ _
      rw [sortL_length]; exact Nat.le_trans (inS_out_le _ _ _ _) HFL.out
    have HADD : Hid (addL n L x = if (inputsL L x.kind 1 0 x.ins).2 = false then ((putL L ⟨0, 0, []⟩).1, (putL L ⟨0, 0, []⟩).2.1)
        else if (inputsL L x.kind 1 0 x.ins).1.length = 0 then ((putL L ⟨1, 0, []⟩).1, (putL L ⟨1, 0, []⟩).2.1)
        else if (inputsL L x.kind 1 0 x.ins).1.length = 1 then (L, (inputsL L x.kind 1 0 x.ins).1.getD 0 0)
        else ((putL L ⟨x.kind, 0, (inputsL L x.kind 1 0 x.ins).1⟩).1, (putL L ⟨x.kind, 0, (inputsL L x.kind 1 0 x.ins).1⟩).2.1)) := by
      show _ = _; unfold addL; rw [if_pos (by have := HKK.out; omega)]; simp [HKK.out]
    generalize (inputsL L x.kind 1 0 x.ins).1 = r1 at *
    generalize (inputsL L x.kind 1 0 x.ins).2 = r2 at *
    clear e0 e1 e2 hb2 ho
    obtain ⟨va, vc, rfl, hvc, hvb⟩ := HO.out.cells
    have HVC := Lib.hid hvc
    have HVB := Lib.hid hvb
    clear hvc hvb
    cases r2
    · have HR : Hid (addL n L x = ((putL L ⟨0, 0, []⟩).1, (putL L ⟨0, 0, []⟩).2.1)) := by show _ = _; rw [HADD.out]; simp
      go_wp2_with fail
      refine (put_any A F p n L ⟨0, 0, []⟩ none 0 w2 (HBD.out.later HB2.out) (InsAt.nil _ _) (ndOk_const (by omega)) HL.out (by simp) (HT.out.keep HB2.out)).mono ?_
      rintro e w3 ⟨F', rfl, hbd3, hkp3, hf3⟩
      have HBD3 := Lib.hid hbd3
      have HKP3 := Lib.hid hkp3
      have HF3 := Lib.hid hf3
      clear hbd3 hkp3 hf3
      go_wp2
      go_ret2
      rw [HR.out]
      exact ⟨F', rfl, HBD3.out, (Kp.below HB2.out).trans HKP3.out, fun k hk => (HF3.out k hk).imp id (fun h => Nat.le_trans HB2.out.size h)⟩
    by_cases hl0 : r1.length = 0
    · have HR : Hid (addL n L x = ((putL L ⟨1, 0, []⟩).1, (putL L ⟨1, 0, []⟩).2.1)) := by show _ = _; rw [HADD.out]; simp [hl0]
      have hl0' : ((r1.length : Int) == 0) = true := beq_iff_eq.2 (by omega)
      clear hl0
      go_wp2_with fail
      refine (put_any A F p n L ⟨1, 0, []⟩ none 0 w2 (HBD.out.later HB2.out) (InsAt.nil _ _) (ndOk_const (by omega)) HL.out (by simp) (HT.out.keep HB2.out)).mono ?_
      rintro e w3 ⟨F', rfl, hbd3, hkp3, hf3⟩
      have HBD3 := Lib.hid hbd3
      have HKP3 := Lib.hid hkp3
      have HF3 := Lib.hid hf3
      clear hbd3 hkp3 hf3
      go_wp2
      go_ret2
      rw [HR.out]
      exact ⟨F', rfl, HBD3.out, (Kp.below HB2.out).trans HKP3.out, fun k hk => (HF3.out k hk).imp id (fun h => Nat.le_trans HB2.out.size h)⟩
    by_cases hl1 : r1.length = 1
    · have HR : Hid (addL n L x = (L, r1.getD 0 0)) := by show _ = _; rw [HADD.out]; simp [hl1]
      have hl0' : ((r1.length : Int) == 0) = false := beq_eq_false_iff_ne.2 (by omega)
      have hl1' : ((r1.length : Int) == 1) = true := beq_iff_eq.2 (by omega)
      have hlp : (0 : Int) < (r1.length : Int) := by omega
      obtain ⟨bv, ov, rfl, hcv⟩ := HVC.out 0 (by omega)
      simp only [Nat.add_zero] at hcv
      clear hl0 hl1
      generalize r1.getD 0 0 = y0 at *
      go_wp2
      go_ret2
      rw [HR.out]
      exact ⟨F, rfl, HBD.out.later HB2.out, Kp.below HB2.out, fun k hk => .inl hk⟩
    · have HR : Hid (addL n L x = ((putL L ⟨x.kind, 0, r1⟩).1, (putL L ⟨x.kind, 0, r1⟩).2.1)) := by show _ = _; rw [HADD.out]; simp [hl0, hl1]
      have hl0' : ((r1.length : Int) == 0) = false := beq_eq_false_iff_ne.2 (by omega)
      have hl1' : ((r1.length : Int) == 1) = false := beq_eq_false_iff_ne.2 (by omega)
      have HINS : Hid (InsAt (fun k => A k ∨ F k) w2 (.slice va r1.length vc) r1) := ⟨va, vc, rfl, HVC.out, fun hne q hq => ⟨fun hf => by have h1 : q.block < w.heap.size := hf.elim (HA.out _) (fun hf => HBD.out.flt hf); have h2 := (HVB.out q hq).1; omega, by
        obtain ⟨bq, oq, hqe, hcq⟩ := HVC.out 0 (by cases r1 with | nil => exact absurd rfl hne | cons _ _ => simp)
        rw [hq] at hqe; simp only [Option.some.injEq] at hqe; subst hqe; exact cell_block hcq⟩⟩
      clear hl0 hl1
      go_wp2_with fail
      refine (put_any A F p n L ⟨x.kind, 0, r1⟩ va vc w2 (HBD.out.later HB2.out) HINS.out (ndOk_inner (by have := HKK.out; omega) HVAL.out) HL.out (Nat.le_trans HIL2.out (by omega)) (HT.out.keep HB2.out)).mono ?_
      rintro e w3 ⟨F', rfl, hbd3, hkp3, hf3⟩
      have HBD3 := Lib.hid hbd3
      have HKP3 := Lib.hid hkp3
      have HF3 := Lib.hid hf3
      clear hbd3 hkp3 hf3
      go_wp2
      go_ret2
      rw [HR.out]
      exact ⟨F', rfl, HBD3.out, (Kp.below HB2.out).trans HKP3.out, fun k hk => (HF3.out k hk).imp id (fun h => Nat.le_trans HB2.out.size h)⟩
  · have hk : (x.kind == 4) = true := by assumption
    have hkk : x.kind = 4 := by simpa using hk
    have HKK := Lib.hid hkk
    clear hkk
    refine (inputs_any A F p n L x.kind 0 1 a cap x.ins w1 (HBD.out.later HB1.out) (HX.out.keep HB1.out) HIN.out HIL.out HFL.out).mono ?_
    rintro e w2 ⟨v, rfl, ho, hb2⟩
    have e0' := cell_keep hb2 e0
    have HB2 : Hid (Below w.heap.size w w2) := HB1.out.trans (hb2.mono HB1.out.size)
    have HO := Lib.hid (ho.lower0 HB1.out.size)
    have HVAL := Lib.hid (inputsL_valid (kind := x.kind) (drop := 0) (endk := 1) HBD.out.nds HIN.out)
    have HIL2 : Hid ((inputsL L x.kind 0 1 x.ins).1.length ≤ 1000000) := by
      show (sortL (inS L 0 1 (Cen.flat L x.kind x.ins)).out).length ≤ _
      rw [sortL_length]; exact Nat.le_trans (inS_out_le _ _ _ _) HFL.out
    have HADD : Hid (addL n L x = if (inputsL L x.kind 0 1 x.ins).2 = false then ((putL L ⟨1, 0, []⟩).1, (putL L ⟨1, 0, []⟩).2.1)
        else if (inputsL L x.kind 0 1 x.ins).1.length = 0 then ((putL L ⟨0, 0, []⟩).1, (putL L ⟨0, 0, []⟩).2.1)
        else if (inputsL L x.kind 0 1 x.ins).1.length = 1 then (L, (inputsL L x.kind 0 1 x.ins).1.getD 0 0)
        else ((putL L ⟨x.kind, 0, (inputsL L x.kind 0 1 x.ins).1⟩).1, (putL L ⟨x.kind, 0, (inputsL L x.kind 0 1 x.ins).1⟩).2.1)) := by
      show _ = _; unfold addL; rw [if_pos (by have := HKK.out; omega)]; simp [HKK.out]
    generalize (inputsL L x.kind 0 1 x.ins).1 = r1 at *
    generalize (inputsL L x.kind 0 1 x.ins).2 = r2 at *
    clear e0 e1 e2 hb2 ho
    obtain ⟨va, vc, rfl, hvc, hvb⟩ := HO.out.cells
    have HVC := Lib.hid hvc
    have HVB := Lib.hid hvb
    clear hvc hvb
    cases r2
    · have HR : Hid (addL n L x = ((putL L ⟨1, 0, []⟩).1, (putL L ⟨1, 0, []⟩).2.1)) := by show _ = _; rw [HADD.out]; simp
      go_wp2_with fail
      refine (put_any A F p n L ⟨1, 0, []⟩ none 0 w2 (HBD.out.later HB2.out) (InsAt.nil _ _) (ndOk_const (by omega)) HL.out (by simp) (HT.out.keep HB2.out)).mono ?_
      rintro e w3 ⟨F', rfl, hbd3, hkp3, hf3⟩
      have HBD3 := Lib.hid hbd3
      have HKP3 := Lib.hid hkp3
      have HF3 := Lib.hid hf3
      clear hbd3 hkp3 hf3
      go_wp2
      go_ret2
      rw [HR.out]
      exact ⟨F', rfl, HBD3.out, (Kp.below HB2.out).trans HKP3.out, fun k hk => (HF3.out k hk).imp id (fun h => Nat.le_trans HB2.out.size h)⟩
    by_cases hl0 : r1.length = 0
    · have HR : Hid (addL n L x = ((putL L ⟨0, 0, []⟩).1, (putL L ⟨0, 0, []⟩).2.1)) := by show _ = _; rw [HADD.out]; simp [hl0]
      have hl0' : ((r1.length : Int) == 0) = true := beq_iff_eq.2 (by omega)
      clear hl0
      go_wp2_with fail
      refine (put_any A F p n L ⟨0, 0, []⟩ none 0 w2 (HBD.out.later HB2.out) (InsAt.nil _ _) (ndOk_const (by omega)) HL.out (by simp) (HT.out.keep HB2.out)).mono ?_
      rintro e w3 ⟨F', rfl, hbd3, hkp3, hf3⟩
      have HBD3 := Lib.hid hbd3
      have HKP3 := Lib.hid hkp3
      have HF3 := Lib.hid hf3
      clear hbd3 hkp3 hf3
      go_wp2
      go_ret2
      rw [HR.out]
      exact ⟨F', rfl, HBD3.out, (Kp.below HB2.out).trans HKP3.out, fun k hk => (HF3.out k hk).imp id (fun h => Nat.le_trans HB2.out.size h)⟩
    by_cases hl1 : r1.length = 1
    · have HR : Hid (addL n L x = (L, r1.getD 0 0)) := by show _ = _; rw [HADD.out]; simp [hl1]
      have hl0' : ((r1.length : Int) == 0) = false := beq_eq_false_iff_ne.2 (by omega)
      have hl1' : ((r1.length : Int) == 1) = true := beq_iff_eq.2 (by omega)
      have hlp : (0 : Int) < (r1.length : Int) := by omega
      obtain ⟨bv, ov, rfl, hcv⟩ := HVC.out 0 (by omega)
      simp only [Nat.add_zero] at hcv
      clear hl0 hl1
      generalize r1.getD 0 0 = y0 at *
      go_wp2
      go_ret2
      rw [HR.out]
      exact ⟨F, rfl, HBD.out.later HB2.out, Kp.below HB2.out, fun k hk => .inl hk⟩
    · have HR : Hid (addL n L x = ((putL L ⟨x.kind, 0, r1⟩).1, (putL L ⟨x.kind, 0, r1⟩).2.1)) := by show _ = _; rw [HADD.out]; simp [hl0, hl1]
      have hl0' : ((r1.length : Int) == 0) = false := beq_eq_false_iff_ne.2 (by omega)
      have hl1' : ((r1.length : Int) == 1) = false := beq_eq_false_iff_ne.2 (by omega)
      have HINS : Hid (InsAt (fun k => A k ∨ F k) w2 (.slice va r1.length vc) r1) := ⟨va, vc, rfl, HVC.out, fun hne q hq => ⟨fun hf => by have h1 : q.block < w.heap.size := hf.elim (HA.out _) (fun hf => HBD.out.flt hf); have h2 := (HVB.out q hq).1; omega, by
        obtain ⟨bq, oq, hqe, hcq⟩ := HVC.out 0 (by cases r1 with | nil => exact absurd rfl hne | cons _ _ => simp)
        rw [hq] at hqe; simp only [Option.some.injEq] at hqe; subst hqe; exact cell_block hcq⟩⟩
      clear hl0 hl1
      go_wp2_with fail
      refine (put_any A F p n L ⟨x.kind, 0, r1⟩ va vc w2 (HBD.out.later HB2.out) HINS.out (ndOk_inner (by have := HKK.out; omega) HVAL.out) HL.out (Nat.le_trans HIL2.out (by omega)) (HT.out.keep HB2.out)).mono ?_
      rintro e w3 ⟨F', rfl, hbd3, hkp3, hf3⟩
      have HBD3 := Lib.hid hbd3
      have HKP3 := Lib.hid hkp3
      have HF3 := Lib.hid hf3
      clear hbd3 hkp3 hf3
      go_wp2
      go_ret2
      rw [HR.out]
      exact ⟨F', rfl, HBD3.out, (Kp.below HB2.out).trans HKP3.out, fun k hk => (HF3.out k hk).imp id (fun h => Nat.le_trans HB2.out.size h)⟩
  · have hk3 : (x.kind == 3) = false := by assumption
    have hk4 : (x.kind == 4) = false := by assumption
    have HN3 : Hid (¬ (x.kind = 3 ∨ x.kind = 4)) := by
      intro h; rcases h with h | h
      · simp [h] at hk3
      · simp [h] at hk4
    have HLF := Lib.hid (ndOk_leaf HOK.out HN3.out)
    have HR : Hid (addL n L x = ((putL L ⟨x.kind, x.lit, []⟩).1, (putL L ⟨x.kind, x.lit, []⟩).2.1)) := by show _ = _; unfold addL; rw [if_neg HN3.out]
    refine (put_any A F p n L ⟨x.kind, x.lit, []⟩ none 0 w1 (HBD.out.later HB1.out) (InsAt.nil _ _) HLF.out.1 HL.out (by simp) (HT.out.keep HB1.out)).mono ?_
    rintro e w3 ⟨F', rfl, hbd3, hkp3, hf3⟩
    have HBD3 := Lib.hid hbd3
    have HKP3 := Lib.hid hkp3
    have HF3 := Lib.hid hf3
    clear hbd3 hkp3 hf3
    go_wp2
    go_ret2
    rw [HR.out]
    exact ⟨F', rfl, HBD3.out, (Kp.below HB1.out).trans HKP3.out, fun k hk => (HF3.out k hk).imp id (fun h => Nat.le_trans HB1.out.size h)⟩
end Go.Proofs.YtkaojolofaanfaaGreatDoor

/- Plain: the net with a node as its root. -/
namespace Cen
def b2i (b : Bool) : Int := if b then 1 else 0
def markIn (ins : List Int) (b : Bool) (m : List Bool) : List Bool := ins.foldl (fun m k => m.set k.toNat (m.getD k.toNat false || b)) m
def markR (L : List Nd) : Nat → List Bool → List Bool
  | 0, m => m
  | j + 1, m => markR L j (markIn (nd L (j : Int)).ins (m.getD j false) m)
def marks (L : List Nd) (root : Nat) : List Bool := markR L (root + 1) ((List.replicate (root + 1) false).set root true)
theorem markIn_length (ins : List Int) (b : Bool) : ∀ m : List Bool, (markIn ins b m).length = m.length := by
  induction ins with
  | nil => intro m; rfl
  | cons k ins ih => intro m; have := ih (m.set k.toNat (m.getD k.toNat false || b)); rw [List.length_set] at this; exact this
theorem markR_length (L : List Nd) : ∀ (j : Nat) (m : List Bool), (markR L j m).length = m.length := by
  intro j
  induction j with
  | zero => intro m; rfl
  | succ j ih => intro m; rw [markR, ih, markIn_length]
theorem marks_length (L : List Nd) (root : Nat) : (marks L root).length = root + 1 := by simp [marks, markR_length]
theorem markIn_snoc (ins : List Int) (b : Bool) (m : List Bool) (k : Int) : markIn (ins ++ [k]) b m = (markIn ins b m).set k.toNat ((markIn ins b m).getD k.toNat false || b) := by simp [markIn]
theorem markIn_other (ins : List Int) (b : Bool) : ∀ (m : List Bool) (j : Nat), (∀ k ∈ ins, 0 ≤ k ∧ k < (j : Int)) → (markIn ins b m).getD j false = m.getD j false := by
  induction ins with
  | nil => intro m j _; rfl
  | cons k ins ih =>
    intro m j h
    have h1 := ih (m.set k.toNat (m.getD k.toNat false || b)) j (fun k' hk' => h k' (by simp [hk']))
    have h2 := h k (by simp)
    have : (m.set k.toNat (m.getD k.toNat false || b)).getD j false = m.getD j false := by
      simp only [List.getD_eq_getElem?_getD]; rw [List.getElem?_set_ne (by omega)]
    rw [this] at h1; exact h1
/-- The places of the nodes, or their marks; the new nodes. -/
def netStep (L : List Nd) (st : List Int × List Nd) (i : Nat) : List Int × List Nd :=
  if st.1.getD i 0 = 0 then st
  else (st.1.set i (st.2.length : Int), st.2 ++ [⟨(nd L i).kind, (nd L i).lit, (nd L i).ins.map fun k => st.1.getD k.toNat 0⟩])
def netSt (L : List Nd) (at0 : List Int) : Nat → List Int × List Nd
  | 0 => (at0, [])
  | k + 1 => netStep L (netSt L at0 k) k
def netL (L : List Nd) (root : Nat) : List Nd := (netSt L ((marks L root).map b2i) (root + 1)).2
theorem netSt_length (L : List Nd) (at0 : List Int) (k : Nat) : (netSt L at0 k).1.length = at0.length := by
  induction k with
  | zero => rfl
  | succ k ih => rw [netSt]; unfold netStep; split <;> simp [ih]
theorem netSt_out (L : List Nd) (at0 : List Int) (k : Nat) : (netSt L at0 k).2.length ≤ k := by
  induction k with
  | zero => simp [netSt]
  | succ k ih =>
    rw [netSt]; unfold netStep; split
    · omega
    · simp; omega
end Cen
