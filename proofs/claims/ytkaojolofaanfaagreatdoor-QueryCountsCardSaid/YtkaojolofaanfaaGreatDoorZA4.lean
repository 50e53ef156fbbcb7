/- Part of the proofs that laws of censuslaw38 return true for every input, where the tables that the rows list are laid. Texts: Slices, Key, Nets, QKeyL. -/
import Derived.Test.YtkaojolofaanfaaGreatDoorZA3
import Derived.Test.YtkaojolofaanfaaGreatDoorZA1
import Derived.Lib.AppendStr

/- The walks of slices.Index, Contains, Clone at []int, and of query.opposites, is, flat. -/
namespace Go.Proofs.YtkaojolofaanfaaGreatDoor
open Go.RowKit Cen
set_option maxHeartbeats 400000
set_option maxRecDepth 100000

theorem index_any (a : Option Addr) (cap : Nat) (xs : List Int) (x : Int) (w : World) (hl : xs.length ≤ 1073741824) (hx : IntCells w a xs) :
    Calls Tryz.prog 175 #[.slice a xs.length cap, .int .i64 x] w fun e w' => e = .returned (.int .i64 (idx (fun y => x == y) xs)) ∧ w = w' := by
  have HX := Lib.hid hx
  clear hx
  go_enter Tryz.func175, Tryz.ntmps175
  go_wp2
  go_loop [5, 8] (fun v i => ∃ k : Nat, k ≤ xs.length ∧ i = .int .i64 k ∧ (∀ j, j < k → (x == xs.getD j 0) = false)) (fun _ i => xs.length - (intOf i).toNat)
  case atStart => exact ⟨0, Nat.zero_le _, rfl, fun j h => absurd h (Nat.not_lt_zero _)⟩
  case round =>
    obtain ⟨k, hk, rfl, hno⟩ := hrel
    have HN := Lib.hid hno
    clear hno
    by_cases hlt : k < xs.length
    · obtain ⟨b, off, rfl, hc⟩ := HX.out k hlt
      cases hpk : (x == xs[k])
      · go_wp2
        go_round
        case rel => exact ⟨k + 1, by omega, by go_num, fun j hj => by
          by_cases e : j = k
          · subst e; simpa [List.getD_eq_getElem?_getD, hlt] using hpk
          · exact HN.out j (by omega)⟩
        case measure => simp [intOf]; omega
      · have HK := Lib.hid hpk
        go_wp2
        go_ret
        exact ⟨ret_int (idx_hit _ xs k hlt HN.out HK.out).symm, rfl⟩
    · have : k = xs.length := by omega
      subst this
      go_wp2
      go_ret
      exact ⟨ret_int (idx_miss _ xs HN.out).symm, rfl⟩

def has (xs : List Int) (x : Int) : Bool := xs.any fun y => x == y
theorem has_iff {xs : List Int} {x : Int} : has xs x = true ↔ x ∈ xs := by simp [has]
theorem contains_any (a : Option Addr) (cap : Nat) (xs : List Int) (x : Int) (w : World) (hl : xs.length ≤ 1073741824) (hx : IntCells w a xs) :
    Calls Tryz.prog 137 #[.slice a xs.length cap, .int .i64 x] w fun e w' => e = .returned (.bool (has xs x)) ∧ w = w' := by
  have HX := Lib.hid hx
  clear hx
  go_enter Tryz.func137, Tryz.ntmps137
  go_wp2_with (go_at_call 175; refine (index_any _ _ _ _ _ hl HX.out).mono ?_; rintro e w' ⟨rfl, rfl⟩)
  go_ret
  exact ⟨ret_bool (idx_any _ xs), rfl⟩

theorem cellsOfInts {w : World} {ad : Addr} {xs : List Int} (h : IntCells w (some ad) xs) :
    ∀ j u, (xs.map (Value.int .i64))[j]? = some u → w.cell? (ad.add j) = some u := by
  intro j u hj
  have hlt : j < xs.length := by
    rcases Nat.lt_or_ge j xs.length with h' | h'
    · exact h'
    · rw [List.getElem?_eq_none (by simpa using h')] at hj; simp at hj
  obtain ⟨b, off, e, hc⟩ := h j hlt
  simp only [Option.some.injEq] at e
  subst e
  have e1 : (⟨b, off, none⟩ : Addr).add j = ⟨b, off + j, none⟩ := by
    unfold Addr.add; split
    · rename_i hj0; rw [hj0]; rfl
    · simp
  rw [e1, hc]
  simp [hlt] at hj
  simp [List.getD_eq_getElem?_getD, hlt, hj]
theorem oneInts (xs : List Int) : ∀ u ∈ xs.map (Value.int .i64), u.oneCell' = true := by
  intro u hu; simp at hu; obtain ⟨x, _, rfl⟩ := hu; rfl

theorem cloneInts_any (a : Option Addr) (cap : Nat) (xs : List Int) (w : World) (hl : xs.length ≤ 1073741824) (hx : IntCells w a xs) :
    Calls Tryz.prog 143 #[.slice a xs.length cap] w fun e w' => ∃ v, e = .returned v ∧ OwnInts w' w.heap.size v xs ∧ Below w.heap.size w w' := by
  have hsl := fun (w : World) (a : Option Addr) (l c n1 c1 : Nat) => Lib.run_eql_slice_nil w 40 3 a l c n1 c1 Tryz.underlying40
  have HX := Lib.hid hx
  clear hx
  cases a with
  | none =>
    have hz : xs = [] := by
      cases xs with
      | nil => rfl
      | cons x xs => obtain ⟨b, off, e, _⟩ := HX.out 0 (by simp); simp at e
    subst hz
    go_enter Tryz.func143, Tryz.ntmps143
    go_wp2
    go_ret
    exact ⟨_, rfl, OwnInts.nil _ _, Below.refl _ _⟩
  | some ad =>
    have H0 : Hid ((w.alloc (.cells #[] 3)).ownsRow w.heap.size 3 1 (.slice (some ⟨w.heap.size, 0, none⟩) 0 0) 0 []) := World.ownsRow_lit w #[] 0 (Nat.le_refl _) (by unfold maxLen; omega) rfl
    have HC := Lib.hid (cellsOfInts (HX.out.keep ((Below.refl _ _).alloc (Nat.le_refl _) (.cells #[] 3))))
    have hb2 : (0 + xs.length) * 8 ≤ 140737488355328 := by omega
    have hb1 : 0 + xs.length ≤ maxLen := by unfold maxLen; omega
    have H1 := Lib.hid hb1
    have H2 := Lib.hid hb2
    clear hb1 hb2
    go_enter Tryz.func143, Tryz.ntmps143
    go_wp2_with (at_builtin; refine app elemInt rfl _ _ rfl w.heap.size _ _ _ rfl H0.out ad xs.length cap (xs.map (Value.int .i64)) rfl (by simp) HC.out (oneInts xs) H1.out H2.out (by simp) ?_)
    intro v' w1 hown hgrow _
    have HO := Lib.hid hown
    have HG := Lib.hid hgrow
    clear hown hgrow
    go_wp2
    go_ret
    exact ⟨_, rfl, HO.out, ((Below.refl _ _).alloc (Nat.le_refl _) _).grown HG.out (by simp) (by simp [Value.ownBlock])⟩

theorem is_any (n : Int) (a : Option Addr) (cap : Nat) (l : List Nd) (kind : Int) (w : World) (hl : l.length ≤ 1073741824) (h1 : 1 ≤ l.length) (hx : NdCells w a l) :
    Calls Tryz.prog 68 #[.agg #[.int .i64 n, .slice a l.length cap], .int .i64 kind] w fun e w' => e = .returned (.bool ((l.getD (l.length - 1) default).kind == kind)) ∧ Below w.heap.size w w' := by
  obtain ⟨b, off, rfl, hc⟩ := hx.keep ((Below.refl _ _).alloc (Nat.le_refl _) (.cells #[.int .i64 n, .slice a l.length cap] 24)) (l.length - 1) (by omega)
  obtain ⟨c1, _⟩ := hc
  generalize l.getD (l.length - 1) default = x at *
  generalize hm : l.length - 1 = m at *
  have e1 : ((l.length : Int) - 1) = (m : Int) := by omega
  have hlt : (m : Int) < (l.length : Int) := by omega
  clear hm hx
  go_enter Tryz.func68, Tryz.ntmps68
  go_wp2
  go_ret
  exact ⟨rfl, (Below.refl _ _).alloc (Nat.le_refl _) _⟩
theorem flat_any (n kind : Int) (w : World) :
    Calls Tryz.prog 121 #[.int .i64 n, .int .i64 kind] w fun e w' => ∃ b, e = .returned (.agg #[.int .i64 n, .slice (some ⟨b, 0, none⟩) 1 1]) ∧ NdCells w' (some ⟨b, 0, none⟩) [⟨kind, 0, []⟩] ∧ Below w.heap.size w w' := by
  go_enter Tryz.func121, Tryz.ntmps121
  go_wp2
  refine bodyPost_ret (v := .agg #[.int .i64 n, .slice (some ⟨w.heap.size + 1, 0, none⟩) 1 1]) (by simp [results, Tryz.results121, go_sem]) rfl ⟨w.heap.size + 1, rfl, ?_, ((Below.refl _ _).alloc (Nat.le_refl _) _).alloc (by simp) _⟩
  intro i hi
  have : i = 0 := by simpa using hi
  subst this
  refine ⟨_, _, rfl, ?_⟩
  have hc : ∀ j, ((w.alloc (.cells #[.int .i64 n, .slice (some ⟨w.heap.size + 1, 0, none⟩) 1 1] 24)).alloc (.cells #[.int .i64 kind, .int .i64 0, .slice none 0 0] 67)).cell? ⟨w.heap.size + 1, j, none⟩ = (#[.int .i64 kind, .int .i64 0, .slice none 0 0] : Array Value)[j]? := by
    intro j; rw [World.cell?_alloc_at _ _ _ _ (by simp)]
  refine ⟨hc 0, hc 1, none, 0, hc 2, IntCells.nil _ _, by simp⟩
theorem neg_in {xs : List Int} (_h : ∀ x ∈ xs, -128 ≤ x ∧ x ≤ 128) : True := trivial

/-- The literals opposite to some; whether two of these are opposite. -/
def clash (xs : List Int) : Bool := xs.any fun x => has xs (-x)
theorem clash_take (xs : List Int) (k : Nat) (h : k < xs.length) : ((xs.take (k + 1)).any fun x => has xs (-x)) = (((xs.take k).any fun x => has xs (-x)) || has xs (-xs[k])) := by
  rw [List.take_succ_eq_append_getElem h, List.any_append]; simp
theorem opposites_any (a : Option Addr) (cap : Nat) (xs : List Int) (w : World) (hl : xs.length ≤ 1073741824) (hx : IntCells w a xs) (hb : ∀ x ∈ xs, -128 ≤ x ∧ x ≤ 128) :
    Calls Tryz.prog 119 #[.slice a xs.length cap] w fun e w' => ∃ v, e = .returned (.tuple #[v, .bool (clash xs)]) ∧ OwnInts w' w.heap.size v (xs.map fun x => -x) ∧ Below w.heap.size w w' := by
  have HX := Lib.hid hx
  have HBD := Lib.hid hb
  clear hx hb
  go_enter Tryz.func119, Tryz.ntmps119
  go_wp2
  go_loopw [4, 5, 10] (fun v c i wr => ∃ k : Nat, k ≤ xs.length ∧ i = .int .i64 k ∧ c = .bool ((xs.take k).any fun x => has xs (-x)) ∧ OwnInts wr w.heap.size v ((xs.take k).map fun x => -x) ∧ Below w.heap.size w wr) (fun _ _ i _ => xs.length - (intOf i).toNat)
  case atStart => exact ⟨0, Nat.zero_le _, rfl, by simp, OwnInts.nil _ _, Below.refl _ _⟩
  case round =>
    obtain ⟨k, hk, rfl, rfl, hown, hbel⟩ := hrel
    have HO := Lib.hid hown
    have HB := Lib.hid hbel
    clear hown hbel
    by_cases hlt : k < xs.length
    · obtain ⟨b, off, rfl, hc0⟩ := HX.out k hlt
      have hc := cell_keep HB.out hc0
      clear hc0
      generalize hxe : xs.getD k 0 = x at hc
      have hbd : -128 ≤ x ∧ x ≤ 128 := HBD.out x (by rw [← hxe]; simp [List.getD_eq_getElem?_getD, hlt])
      have HXE : Hid (xs[k] = x) := by show _ = _; rw [← hxe]; simp [List.getD_eq_getElem?_getD, hlt]
      obtain ⟨hb1, hb2⟩ := hbd
      clear hxe
      generalize hcl : ((xs.take k).any fun x => has xs (-x)) = cl
      have HCL := Lib.hid hcl
      clear hcl
      have HCT := Lib.hid (fun W (hW : Below w.heap.size w W) => contains_any (some ⟨b, off, none⟩) cap xs (-x) W hl (HX.out.keep hW))
      generalize hys : (xs.take k).map (fun x => -x) = ys at HO
      have HYL : Hid (ys.length ≤ 1073741824) := by show ys.length ≤ _; rw [← hys]; simp; omega
      have HYS : Hid ((xs.take (k + 1)).map (fun x => -x) = ys ++ [-x]) := by
        show _ = _; rw [List.take_succ_eq_append_getElem hlt, List.map_append, hys, HXE.out]; rfl
      clear hys
      have HSZ := Lib.hid HB.out.size
      have HCX : Hid (((xs.take (k + 1)).any fun x => has xs (-x)) = (cl || has xs (-x))) := by
        show _ = _; rw [clash_take xs k hlt, HCL.out, HXE.out]
      have HOB : Hid (∀ q, u4.ownBlock = some q → w.heap.size ≤ q) := fun q hq => (HO.out.lt q hq).1
      cases cl
      all_goals
        go_wp2_with (first | (go_at_call 137; refine (HCT.out _ HB.out).mono ?_; rintro e w' ⟨rfl, rfl⟩) | (at_builtin; refine appInt rfl _ _ rfl w.heap.size u4 ys (-x) rfl HO.out rfl HYL.out HSZ.out ?_))
        intro v' w1 hown1 hgrow1 _
        have HO1 := Lib.hid hown1
        have HG1 := Lib.hid hgrow1
        clear hown1 hgrow1
        go_wp2
        go_roundw
        case rel => exact ⟨k + 1, by omega, by go_num, by rw [HCX.out]; simp, by rw [HYS.out]; exact HO1.out, HB.out.grown HG1.out HSZ.out HOB.out⟩
        case measure => simp [intOf]; omega
    · have : k = xs.length := by omega
      subst this
      go_wp2
      go_ret2
      refine ⟨_, by simp [clash]; rfl, ?_, HB.out⟩
      have := HO.out
      rwa [List.take_length] at this
end Go.Proofs.YtkaojolofaanfaaGreatDoor

/- The walks of strings.Builder's WriteString (and copyCheck) and of node.key. -/
namespace Go.Proofs.YtkaojolofaanfaaGreatDoor
open Go.RowKit Cen
set_option maxHeartbeats 1000000
set_option maxRecDepth 100000

theorem sizeBuilder : (Tryz.prog.info? 239).map (·.size) = some 2 := by kernel_rfl
theorem liesBuilder : liesAt Tryz.prog Tryz.prog.depth 239 (2 / Tryz.prog.cellsOf 239) 0 239 1 = true := by kernel_rfl
theorem copyCheck_used (b : Nat) (w : World) (h0 : w.cell? ⟨b, 0, none⟩ = some (.pointer (some ⟨b, 0, none⟩))) :
    Calls Tryz.prog 262 #[.pointer (some ⟨b, 0, none⟩)] w fun e w' => e = .returned (.tuple #[]) ∧ w' = w := by
  obtain ⟨j, hj, _⟩ := Option.map_eq_some_iff.1 sizeBuilder
  go_enter Tryz.func262, Tryz.ntmps262
  go_wp2
  rw [Lib.run_neq_ptr_same w _ Tryz.underlying237 hj]
  go_wp2
  go_end0
  exact ⟨rfl, rfl⟩
theorem copyCheck_fresh (b : Nat) (w : World) (h0 : w.cell? ⟨b, 0, none⟩ = some (.pointer none)) (hsh : w.shape? b = some (239, 2)) (hfz : w.frozen? ⟨b, 0, none⟩ = false) :
    Calls Tryz.prog 262 #[.pointer (some ⟨b, 0, none⟩)] w fun e w' => e = .returned (.tuple #[]) ∧ w' = w.setCell ⟨b, 0, none⟩ (.pointer (some ⟨b, 0, none⟩)) := by
  obtain ⟨j, hj, hjs⟩ := Option.map_eq_some_iff.1 sizeBuilder
  go_enter Tryz.func262, Tryz.ntmps262
  go_wp2
  rw [Lib.run_to_unsafe w ⟨b, 0, none⟩ Tryz.underlying237 Tryz.underlying273 hj (by rw [hjs]; decide) hsh (Nat.zero_lt_succ 1)]
  simp only [Result.andThen]
  rw [Oper.upon_value]
  go_wp2
  rw [run_callFunc_extern Tryz.func276 (by kernel_rfl) (by kernel_rfl) (by kernel_rfl) (e := Extern.AbiNoEscape.same) (by kernel_rfl)]
  rw [Lib.run_noEscape]
  simp only [Result.andThen]
  rw [Oper.upon_value]
  go_wp2
  rw [Lib.run_from_unsafe w ⟨b, 0, none⟩ Tryz.underlying273 Tryz.underlying237 hj hsh liesBuilder]
  simp only [Result.andThen]
  rw [Oper.upon_value]
  go_wp2
  go_end0
  exact ⟨rfl, rfl⟩
abbrev SBld := Lib.IsBuilder 239 5
abbrev SBldAt := Lib.BuilderAt 239 5
theorem copyCheck_any (B b : Nat) (bs : List Value) (w : World) (h : SBld B b bs w) :
    Calls Tryz.prog 262 #[.pointer (some ⟨b, 0, none⟩)] w fun e w' => e = .returned (.tuple #[]) ∧ (SBldAt B b (.pointer (some ⟨b, 0, none⟩)) bs w' ∧ Below B w w') := by
  rcases h with h | h
  · refine (copyCheck_fresh b w h.cell0 h.shape h.frozen0).mono ?_
    rintro e w' ⟨rfl, rfl⟩
    exact ⟨rfl, h.used _, (Below.refl B w).setCell (p := ⟨b, 0, none⟩) h.1 _⟩
  · refine (copyCheck_used b w h.cell0).mono ?_
    rintro e w' ⟨rfl, rfl⟩
    exact ⟨rfl, h, Below.refl B _⟩
theorem info_u8 : (Tryz.prog.info? 5).map (fun i => (i.zero, i.size, i.bytes)) = some (some (.int .u8 0), 1, 1) := by kernel_rfl
theorem writeString_any (B b : Nat) (bs : List Value) (s : ByteArray) (w : World) (h : SBld B b bs w) (hlen : bs.length + s.size ≤ 1073741824) (hBw : B ≤ w.heap.size) :
    Calls Tryz.prog 243 #[.pointer (some ⟨b, 0, none⟩), .string s] w fun e w' => (∃ v, e = .returned v) ∧ (SBld B b (bs ++ Lib.strCells s) w' ∧ Below B w w') := by
  obtain ⟨i0, hi, hz0, hz1, hz2⟩ := info_parts info_u8
  have HL := Lib.hid hlen
  have HS := Lib.hid h
  clear hlen h
  go_enter Tryz.func243, Tryz.ntmps243
  go_wp2_with fail
  refine (copyCheck_any B b bs _ HS.out).mono ?_
  rintro e w1 ⟨rfl, h1, hb1⟩
  obtain ⟨hB, v, hbk, hown, hne⟩ := h1
  have c0 : w1.cell? ⟨b, 0, none⟩ = some (.pointer (some ⟨b, 0, none⟩)) := by rw [Lib.cell_of_heap hbk]; rfl
  have c1 : w1.cell? ⟨b, 1, none⟩ = some v := by rw [Lib.cell_of_heap hbk]; rfl
  have HBK := Lib.hid hbk
  have HB1 := Lib.hid hb1
  have HNE := Lib.hid hne
  clear hbk hb1 hne
  go_wp2_with (at_builtin; refine Lib.wpList_append_own_string _ rfl _ _ 154 9 rfl B 5 i0 Tryz.underlying154 Tryz.underlying9 hi hz0 hz1 hz2 _ _ _ rfl hown s rfl ?c3 ?c4 ?c5 ?_)
  case c3 => have := HL.out; unfold maxLen; omega
  case c4 => have := HL.out; omega
  case c5 => have := HB1.out.size; omega
  intro v' w2 hown' hgrow _
  have hlt : b < w1.heap.size := lt_of_block HBK.out
  have hb2 : w2.heap[b]? = some (.cells #[.pointer (some ⟨b, 0, none⟩), v] 239 (0, 0)) := by
    rw [hgrow.block b hlt (fun e => HNE.out e.symm)]
    exact HBK.out
  have d0 : w2.cell? ⟨b, 0, none⟩ = some (.pointer (some ⟨b, 0, none⟩)) := by rw [Lib.cell_of_heap hb2]; rfl
  have d1 : w2.cell? ⟨b, 1, none⟩ = some v := by rw [Lib.cell_of_heap hb2]; rfl
  have f1 : w2.frozen? ⟨b, 1, none⟩ = false := Lib.frozen_of_heap hb2 1
  have HB2 := Lib.hid hb2
  have HO := Lib.hid hown'
  have HOW := Lib.hid hown
  have HG := Lib.hid hgrow
  obtain ⟨ao, n', cap, rfl⟩ : ∃ ao n' cap, v' = .slice ao n' cap := by
    rcases hown'.2 with ⟨hv, _⟩ | ⟨g, cap, cur, hv, _⟩
    · exact ⟨_, _, _, hv⟩
    · exact ⟨_, _, _, hv⟩
  clear hown hown' hgrow hb2 c0 c1
  go_wp2
  go_ret2
  refine ⟨⟨_, rfl⟩, .inr ?_, ?_⟩
  · exact Lib.BuilderAt.put (T := 239) (e := 5) hB HB2.out (bs' := bs ++ Lib.strCells s) (by simpa [Lib.strCells_length] using HO.out) (by decide)
  · exact (HB1.out.grown HG.out (by have := HB1.out.size; omega) (fun k hk => (HOW.out.lt k hk).1)).setCell (p := ⟨b, 1, none⟩) hB _

/-- The table of powers of ten, which strconv reads. -/
abbrev Tab (w : World) : Prop := Lib.TabIs Tryz.prog w "internal/strconv.uint64pow10" .u64 Lib.pow10Tab
theorem Tab.keep {w w' : World} (h : Tab w) (hb : Below w.heap.size w w') : Tab w' := by
  unfold Tab Lib.TabIs World.var? at *
  rw [show Tryz.prog.globalNamed "internal/strconv.uint64pow10" = some 1 from by kernel_rfl] at *
  simp only [Option.bind_some] at *
  rcases Nat.lt_or_ge 1 w.heap.size with h' | h'
  · rw [hb.block _ h']; exact h
  · rw [Array.getElem?_eq_none h'] at h; simp at h
theorem below_grow (w : World) (k : Nat) (os : Array Obj) : Below w.heap.size w (Go.Sort.grow (w.drewN k) os) :=
  ⟨rfl, rfl, rfl, by simp [Go.Sort.grow, World.drewN], fun i hi => by simp [Go.Sort.grow, World.drewN]; rw [Array.getElem?_append_left hi]⟩
theorem SBld.keep {B b : Nat} {bs : List Value} {w w' : World} (h : SBld B b bs w) (_hB : B ≤ w.heap.size) (hb : Below w.heap.size w w') : SBld B b bs w' := by
  have key : ∀ p, SBldAt B b p bs w → SBldAt B b p bs w' := fun p ⟨h1, v, h2, h3, h4⟩ => by
    refine ⟨h1, v, by rw [hb.block b (lt_of_block h2)]; exact h2, ⟨h3.1, ?_⟩, h4⟩
    rcases h3.2 with h5 | ⟨g, cap, cur, hv, hg, hh, r⟩
    · exact .inl h5
    · exact .inr ⟨g, cap, cur, hv, hg, by rw [hb.block g (lt_of_block hh)]; exact hh, r⟩
  rcases h with h | h
  · exact .inl (key _ h)
  · exact .inr (key _ h)
theorem key1_any (B b : Nat) (bs : List Value) (n : Int) (w : World) (h : SBld B b bs w) (hlen : bs.length ≤ 1073741000) (h0 : -65536 ≤ n) (h1 : n ≤ 65536) (hBw : B ≤ w.heap.size) (ht : Tab w) :
    Calls Tryz.prog 242 #[.int .i64 n, .pointer (some ⟨b, 0, none⟩)] w fun e w' => (∃ v, e = .returned v) ∧ (SBld B b (bs ++ Lib.byteCells (itoaS n)) w' ∧ Below B w w') := by
  have HT := Lib.hid ht
  have HS := Lib.hid h
  have hcat : ∀ w : World, (Op.stringOp .add ⟨(Lib.itoa n).toArray⟩ ⟨#[32]⟩).run Tryz.prog w = .ok (.string ⟨(itoaS n).toArray⟩) w := fun w => by
    have hln := itoa_len n h0 h1
    have hsz : (⟨(Lib.itoa n).toArray⟩ : ByteArray).size + (⟨#[32]⟩ : ByteArray).size ≤ 9223372036854775807 := by
      show (Lib.itoa n).toArray.size + 1 ≤ _; simp; omega
    exact (run_string_add_sum w _ _ hsz).trans (congrArg (fun x => Result.ok (Value.string x) w) (ByteArray.mk_append_mk (Lib.itoa n) [32]))
  clear ht h
  go_enter Tryz.func242, Tryz.ntmps242
  go_wp2_with fail
  refine (Tryz.strconv_Itoa n (by omega) (by omega) _ HT.out).mono ?_
  rintro e w1 ⟨rfl, hw1⟩
  obtain ⟨k, os, rfl⟩ := hw1
  have hb1 : Below w.heap.size w (Go.Sort.grow (w.drewN k) os) := below_grow w k os
  generalize Go.Sort.grow (w.drewN k) os = w1 at hb1
  have HB1 := Lib.hid hb1
  have hsb : SBld B b bs w1 := SBld.keep HS.out hBw hb1
  have HS1 := Lib.hid hsb
  have HSZ := Lib.hid (Nat.le_trans hBw hb1.size)
  have HL2 : Hid (bs.length + (⟨(itoaS n).toArray⟩ : ByteArray).size ≤ 1073741824) := by
    show _ + (itoaS n).toArray.size ≤ _
    have := itoa_len n h0 h1
    simp [itoaS]; omega
  clear hb1 hsb
  go_wp2_with fail
  refine (writeString_any B b bs _ w1 HS1.out HL2.out HSZ.out).mono ?_
  rintro e w2 ⟨⟨v, rfl⟩, hs2, hb2⟩
  have HS2 := Lib.hid hs2
  have HB2 := Lib.hid hb2
  clear hs2 hb2
  go_wp2
  go_end0
  exact ⟨⟨_, rfl⟩, HS2.out, (HB1.out.mono hBw).trans HB2.out⟩

theorem SBld.fresh (w : World) {b : Nat} (h : w.heap.size = b) : SBld b b [] (w.alloc (.cells #[.pointer none, .slice none 0 0] 239)) :=
  .inl ⟨Nat.le_refl _, .slice none 0 0, by rw [← h]; exact heap_alloc_new w _, World.ownsRow_nil _ _ _ _, by simp [Value.ownBlock]⟩
theorem byteCells_append (l m : List UInt8) : Lib.byteCells l ++ Lib.byteCells m = Lib.byteCells (l ++ m) := by simp [Lib.byteCells]
theorem callable_key1 : Callable 242 := fun _ _ => by kernel_rfl
def small (x : Int) : Prop := -65536 ≤ x ∧ x ≤ 65536
theorem nodeKey_any (kind lit : Int) (a : Option Addr) (cap : Nat) (ins : List Int) (w : World) (hl : ins.length ≤ 1048576) (hx : IntCells w a ins) (hk : small kind) (hlit : small lit) (hin : ∀ i ∈ ins, small i) (ht : Tab w) :
    Calls Tryz.prog 229 #[.agg #[.int .i64 kind, .int .i64 lit, .slice a ins.length cap]] w fun e w' => e = .returned (.string ⟨(keyL ⟨kind, lit, ins⟩).toArray⟩) ∧ Below w.heap.size w w' := by
  have HX := Lib.hid hx
  have HIN := Lib.hid hin
  have HT := Lib.hid ht
  have hfresh := SBld.fresh (w.alloc (.cells #[.int .i64 kind, .int .i64 lit, .slice a ins.length cap] 67)) (b := w.heap.size + 1) (by simp)
  have hB0 : Below w.heap.size w ((w.alloc (.cells #[.int .i64 kind, .int .i64 lit, .slice a ins.length cap] 67)).alloc (.cells #[.pointer none, .slice none 0 0] 239)) :=
    ((Below.refl _ _).alloc (Nat.le_refl _) _).alloc (by simp) _
  have hblk := (Blk.new w #[.int .i64 kind, .int .i64 lit, .slice a ins.length cap] 67).alloc (.cells #[.pointer none, .slice none 0 0] 239)
  have hz0 : w.heap.size + 2 ≤ ((w.alloc (.cells #[.int .i64 kind, .int .i64 lit, .slice a ins.length cap] 67)).alloc (.cells #[.pointer none, .slice none 0 0] 239)).heap.size := by simp
  have HF := Lib.hid hfresh
  have HB0 := Lib.hid hB0
  have HBL := Lib.hid hblk
  have HZ0 := Lib.hid hz0
  have hcf : ∀ (args : Array Value) (w : World), (callFunc 242 args).run Tryz.prog w = .ok (.enter 242 args) w := callable_key1
  clear hx hin ht hfresh hB0 hblk hz0
  go_enter Tryz.func229, Tryz.ntmps229
  go_wp2_with fail
  refine (key1_any (w.heap.size + 1) (w.heap.size + 1) [] kind _ HF.out (by simp) hk.1 hk.2 (by simp) (HT.out.keep HB0.out)).mono ?_
  rintro e w1 ⟨⟨v1, rfl⟩, hs1, hb1⟩
  have hbk1 := HBL.out.laterB hb1 (by omega)
  have HBA : Hid (Below w.heap.size w w1) := HB0.out.trans (hb1.mono (by omega))
  have HT1 : Hid (Tab w1) := HT.out.keep HBA.out
  have c1 : w1.cell? ⟨w.heap.size, 1, none⟩ = some (.int .i64 lit) := hbk1.cell 1
  have HZ1 : Hid (w.heap.size + 2 ≤ w1.heap.size) := Nat.le_trans HZ0.out hb1.size
  have HS1 := Lib.hid hs1
  have HBK1 := Lib.hid hbk1
  have HB1 := Lib.hid hb1
  clear hs1 hbk1 hb1
  go_wp2_with fail
  have hlk := itoaS_len kind hk.1 hk.2
  refine (key1_any (w.heap.size + 1) (w.heap.size + 1) _ lit _ HS1.out (by simp [Lib.byteCells_length]; omega) hlit.1 hlit.2 (by have := HZ1.out; omega) HT1.out).mono ?_
  rintro e w2 ⟨⟨v2, rfl⟩, hs2, hb2⟩
  have hlL := itoaS_len lit hlit.1 hlit.2
  have HLL : Hid ((itoaS kind ++ itoaS lit).length ≤ 42) := by show _ ≤ _; simp; omega
  clear hlk hlL
  have hbk2 := HBK1.out.laterB hb2 (by omega)
  have HBA2 : Hid (Below w.heap.size w w2) := HBA.out.trans (hb2.mono (by omega))
  have HZ2 : Hid (w.heap.size + 2 ≤ w2.heap.size) := Nat.le_trans HZ1.out hb2.size
  have c2 : w2.cell? ⟨w.heap.size, 2, none⟩ = some (.slice a ins.length cap) := hbk2.cell 2
  have HS2 : Hid (SBld (w.heap.size + 1) (w.heap.size + 1) (Lib.byteCells (itoaS kind ++ itoaS lit)) w2) := by
    show SBld _ _ _ _; rw [← byteCells_append]; simpa using hs2
  have HB2 := Lib.hid hb2
  clear hs2 hb2 hbk2 c1
  have hpre : keyL ⟨kind, lit, ins⟩ = (itoaS kind ++ itoaS lit) ++ ins.flatMap itoaS := by simp [keyL]
  generalize itoaS kind ++ itoaS lit = pre at *
  have HPRE := Lib.hid hpre
  clear hpre
  go_wp2
  go_loopw [19] (fun i wr => ∃ k : Nat, k ≤ ins.length ∧ i = .int .i64 k ∧ SBld (w.heap.size + 1) (w.heap.size + 1) (Lib.byteCells (pre ++ (ins.take k).flatMap itoaS)) wr ∧ Below w.heap.size w wr ∧ w.heap.size + 2 ≤ wr.heap.size) (fun i _ => ins.length - (intOf i).toNat)
  case atStart => exact ⟨0, Nat.zero_le _, rfl, by simpa using HS2.out, HBA2.out, HZ2.out⟩
  case round =>
    obtain ⟨k, hk', rfl, hs, hb, hz⟩ := hrel
    have HS := Lib.hid hs
    have HB := Lib.hid hb
    have HZ := Lib.hid hz
    clear hs hb hz
    by_cases hlt : k < ins.length
    · obtain ⟨b, off, rfl, hc0⟩ := HX.out k hlt
      have hc := cell_keep HB.out hc0
      generalize hxe : ins.getD k 0 = x at hc
      have HXE : Hid (ins[k] = x) := by show _ = _; rw [← hxe]; simp [List.getD_eq_getElem?_getD, hlt]
      have hsm : small x := by rw [← HXE.out]; exact HIN.out _ (List.getElem_mem hlt)
      have HSM := Lib.hid hsm
      have HST : Hid (pre ++ (ins.take (k + 1)).flatMap itoaS = (pre ++ (ins.take k).flatMap itoaS) ++ itoaS x) := by
        show _ = _; rw [List.take_succ_eq_append_getElem hlt, HXE.out, List.flatMap_append]; simp
      have HLN : Hid ((Lib.byteCells (pre ++ (ins.take k).flatMap itoaS)).length ≤ 1073741000) := by
        show _ ≤ _
        have h1 := flat_len (ins.take k) (fun y hy => HIN.out y (List.mem_of_mem_take hy))
        have h2 := HLL.out
        have h3 : (ins.take k).length ≤ ins.length := by rw [List.length_take]; omega
        rw [Lib.byteCells_length, List.length_append]; omega
      generalize pre ++ (ins.take k).flatMap itoaS = sofar at *
      clear hc0 hxe hsm
      go_wp2_with fail
      refine (key1_any (w.heap.size + 1) (w.heap.size + 1) _ x _ HS.out HLN.out HSM.out.1 HSM.out.2 (by have := HZ.out; omega) (HT.out.keep HB.out)).mono ?_
      rintro e w3 ⟨⟨v3, rfl⟩, hs3, hb3⟩
      have HS3 := Lib.hid hs3
      have HB3 := Lib.hid hb3
      clear hs3 hb3
      go_wp2
      go_roundw
      case rel =>
        refine ⟨k + 1, by omega, by go_num, ?_, HB.out.trans (HB3.out.mono (by omega)), Nat.le_trans HZ.out HB3.out.size⟩
        rw [HST.out, ← byteCells_append]; exact HS3.out
      case measure => simp [intOf]; omega
    · have : k = ins.length := by omega
      subst this
      rw [List.take_length] at HS
      go_wp2_with fail
      refine (Tryz.Builder_String_any (w.heap.size + 1) (w.heap.size + 1) _ _ HS.out (by have := HZ.out; omega)).mono ?_
      rintro e w4 ⟨rfl, hb4⟩
      have HB4 := Lib.hid hb4
      clear hb4
      go_wp2
      go_ret
      refine ⟨?_, HB.out.trans (HB4.out.mono (by omega))⟩
      rw [show keyL ⟨kind, lit, ins⟩ = pre ++ ins.flatMap itoaS from HPRE.out]; rfl
end Go.Proofs.YtkaojolofaanfaaGreatDoor

/- Nets in memory. -/
namespace Go.Proofs.YtkaojolofaanfaaGreatDoor
open Go.RowKit Cen
instance : Inhabited Nt := ⟨⟨0, []⟩⟩
/-- A net in two cells. -/
def NetCell (w : World) (b o : Nat) (t : Nt) : Prop :=
  w.cell? ⟨b, o, none⟩ = some (.int .i64 t.n) ∧ ∃ a cap, w.cell? ⟨b, o + 1, none⟩ = some (.slice a t.l.length cap) ∧ NdCells w a t.l ∧ t.l.length ≤ 1073741824
theorem NetCell.keep {w w' : World} {b o : Nat} {t : Nt} (h : NetCell w b o t) (hb : Below w.heap.size w w') : NetCell w' b o t :=
  let ⟨h1, a, cap, h2, h3, h4⟩ := h; ⟨cell_keep hb h1, a, cap, cell_keep hb h2, h3.keep hb, h4⟩
/-- A slice of nets that can be read. -/
def NetCells (w : World) (a : Option Addr) (ns : List Nt) : Prop :=
  ∀ i, i < ns.length → ∃ b off, a = some ⟨b, off, none⟩ ∧ NetCell w b (off + i * 2) (ns.getD i default)
theorem NetCells.keep {w w' : World} {a : Option Addr} {ns : List Nt} (h : NetCells w a ns) (hb : Below w.heap.size w w') : NetCells w' a ns :=
  fun i hi => let ⟨b, off, e, hc⟩ := h i hi; ⟨b, off, e, hc.keep hb⟩
end Go.Proofs.YtkaojolofaanfaaGreatDoor

/- Plain: the string by which pairs of nets are told apart, and that it tells them apart. -/
namespace Cen
open Go
def qkIns (ins : List Int) : List UInt8 := ins.flatMap fun i => 32 :: Lib.itoa i
def qkNd (x : Nd) : List UInt8 := 59 :: Lib.itoa x.kind ++ (32 :: Lib.itoa x.lit ++ qkIns x.ins)
def qkL (l : List Nd) : List UInt8 := l.flatMap qkNd ++ [46]
def qkey (ns : List (List Nd)) : List UInt8 := ns.flatMap qkL
def isSep (c : UInt8) : Prop := c = 32 ∨ c = 46 ∨ c = 59
theorem itoa_noSep (n : Int) : ∀ c ∈ Lib.itoa n, ¬ isSep c := by
  unfold Lib.itoa
  split
  · intro c hc hs
    rcases List.mem_cons.1 hc with h1 | h1
    · subst h1; rcases hs with h | h | h <;> exact absurd h (by decide)
    · have := decDigits_digit _ _ h1
      rcases hs with h | h | h <;> subst h <;> exact absurd this (by decide)
  · intro c hc hs
    have := decDigits_digit _ _ hc
    rcases hs with h | h | h <;> subst h <;> exact absurd this (by decide)
theorem cutSep {a b r s : List UInt8} {c d : UInt8} (ha : ∀ x ∈ a, ¬ isSep x) (hb : ∀ x ∈ b, ¬ isSep x) (hc : isSep c) (hd : isSep d) (h : a ++ c :: r = b ++ d :: s) : a = b ∧ c = d ∧ r = s := by
  induction a generalizing b with
  | nil =>
    cases b with
    | nil => simpa using h
    | cons y b => simp at h; exact absurd (h.1 ▸ hc) (hb y (by simp))
  | cons x a ih =>
    cases b with
    | nil => simp at h; exact absurd (h.1 ▸ hd) (ha x (by simp))
    | cons y b =>
      simp only [List.cons_append, List.cons.injEq] at h
      obtain ⟨h1, h2⟩ := ih (fun z hz => ha z (by simp [hz])) (fun z hz => hb z (by simp [hz])) h.2
      exact ⟨by rw [h.1, h1], h2⟩
theorem itoa_cut {m n : Int} {r s : List UInt8} {c d : UInt8} (hc : isSep c) (hd : isSep d) (h : Lib.itoa m ++ c :: r = Lib.itoa n ++ d :: s) : m = n ∧ c = d ∧ r = s := by
  obtain ⟨h1, h2⟩ := cutSep (itoa_noSep m) (itoa_noSep n) hc hd h
  exact ⟨itoa_inj h1, h2⟩
/-- It begins with a stop. -/
def stops (l : List UInt8) : Prop := ∃ c t, l = c :: t ∧ (c = 59 ∨ c = 46)
theorem qkIns_head (ins : List Int) {r : List UInt8} (hr : stops r) : ∃ c t, qkIns ins ++ r = c :: t ∧ isSep c := by
  cases ins with
  | nil => obtain ⟨c, t, rfl, h⟩ := hr; exact ⟨c, t, rfl, by unfold isSep; rcases h with h | h <;> simp [h]⟩
  | cons i ins => exact ⟨32, Lib.itoa i ++ (qkIns ins ++ r), by simp [qkIns], .inl rfl⟩
theorem qkIns_inj {l m : List Int} {r s : List UInt8} (hr : stops r) (hs : stops s) (h : qkIns l ++ r = qkIns m ++ s) : l = m ∧ r = s := by
  induction l generalizing m with
  | nil =>
    cases m with
    | nil => exact ⟨rfl, by simpa [qkIns] using h⟩
    | cons y m =>
      obtain ⟨c, t, rfl, hc⟩ := hr
      simp [qkIns] at h
      rcases hc with hc | hc <;> rw [hc] at h <;> exact absurd h.1 (by decide)
  | cons x l ih =>
    cases m with
    | nil =>
      obtain ⟨c, t, rfl, hc⟩ := hs
      simp [qkIns] at h
      rcases hc with hc | hc <;> rw [hc] at h <;> exact absurd h.1.symm (by decide)
    | cons y m =>
      have h2 : Lib.itoa x ++ (qkIns l ++ r) = Lib.itoa y ++ (qkIns m ++ s) := by
        simpa [qkIns] using h
      obtain ⟨c, t, e1, c1⟩ := qkIns_head l hr
      obtain ⟨d, u, e2, c2⟩ := qkIns_head m hs
      rw [e1, e2] at h2
      obtain ⟨rfl, rfl, rfl⟩ := itoa_cut c1 c2 h2
      obtain ⟨rfl, h3⟩ := ih (e1.trans e2.symm)
      exact ⟨rfl, h3⟩
theorem qkNds_stops (l : List Nd) (r : List UInt8) : stops (l.flatMap qkNd ++ 46 :: r) := by
  cases l with
  | nil => exact ⟨46, r, rfl, .inr rfl⟩
  | cons x l => exact ⟨59, _, by simp [qkNd]; rfl, .inl rfl⟩
theorem qkNds_inj {l m : List Nd} {r s : List UInt8} (h : l.flatMap qkNd ++ 46 :: r = m.flatMap qkNd ++ 46 :: s) : l = m ∧ r = s := by
  induction l generalizing m with
  | nil =>
    cases m with
    | nil => exact ⟨rfl, by simpa using h⟩
    | cons y m => simp [qkNd] at h
  | cons x l ih =>
    cases m with
    | nil => simp [qkNd] at h
    | cons y m =>
      have h2 : Lib.itoa x.kind ++ 32 :: (Lib.itoa x.lit ++ (qkIns x.ins ++ (l.flatMap qkNd ++ 46 :: r))) = Lib.itoa y.kind ++ 32 :: (Lib.itoa y.lit ++ (qkIns y.ins ++ (m.flatMap qkNd ++ 46 :: s))) := by
        simpa [qkNd] using h
      obtain ⟨k1, _, h3⟩ := itoa_cut (.inl rfl) (.inl rfl) h2
      obtain ⟨c, t, e1, c1⟩ := qkIns_head x.ins (qkNds_stops l r)
      obtain ⟨d, u, e2, c2⟩ := qkIns_head y.ins (qkNds_stops m s)
      rw [e1, e2] at h3
      obtain ⟨k2, rfl, rfl⟩ := itoa_cut c1 c2 h3
      obtain ⟨k3, h4⟩ := qkIns_inj (qkNds_stops l r) (qkNds_stops m s) (e1.trans e2.symm)
      obtain ⟨rfl, h5⟩ := ih h4
      exact ⟨by cases x; cases y; simp_all, h5⟩
theorem qkey_inj {a b c d : List Nd} (h : qkey [a, b] = qkey [c, d]) : a = c ∧ b = d := by
  have h2 : a.flatMap qkNd ++ 46 :: (b.flatMap qkNd ++ 46 :: []) = c.flatMap qkNd ++ 46 :: (d.flatMap qkNd ++ 46 :: []) := by simpa [qkey, qkL] using h
  obtain ⟨h3, h4⟩ := qkNds_inj h2
  exact ⟨h3, (qkNds_inj h4).1⟩
theorem qkIns_len (l : List Int) (h : ∀ x ∈ l, -65536 ≤ x ∧ x ≤ 65536) : (qkIns l).length ≤ 21 * l.length := by
  induction l with
  | nil => simp [qkIns]
  | cons x l ih =>
    have h1 := itoa_len x (h x (by simp)).1 (h x (by simp)).2
    have h2 := ih fun y hy => h y (by simp [hy])
    have e : (qkIns (x :: l)).length = 1 + (Lib.itoa x).length + (qkIns l).length := by simp [qkIns]; omega
    rw [e, List.length_cons]; omega
end Cen
