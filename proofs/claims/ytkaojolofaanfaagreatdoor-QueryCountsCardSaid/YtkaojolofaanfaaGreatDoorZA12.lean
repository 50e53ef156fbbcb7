/- Part of the proofs that laws of censuslaw38 return true for every input, where the tables that the rows list are laid. Texts: QCheck, Same. -/
import Derived.Test.YtkaojolofaanfaaGreatDoorZA11
import Derived.Test.YtkaojolofaanfaaGreatDoorZA4

/- The walk of query.check. -/
namespace Go.Proofs.YtkaojolofaanfaaGreatDoor
open Go.RowKit Cen
set_option maxHeartbeats 4000000
set_option maxRecDepth 100000

def chkQ (xs : List Int) (ns : List Nt) : Int :=
  if ns.all netOk = false then 1 else if (ns.all fun t => t.n == (ns.getD 0 default).n) = false then 1 else if (xs.all fun x => litOk x (ns.getD 0 default).n) = false then 1
  else if (ns.all fun t => decL t.l) = false then 210 else 0
theorem all_false {α : Type} [Inhabited α] {p : α → Bool} {l : List α} {k : Nat} (hk : k < l.length) (h : p (l.getD k default) = false) : l.all p = false := by
  rw [Bool.eq_false_iff]; intro h'
  rw [List.all_eq_true] at h'
  have := h' l[k] (List.getElem_mem hk)
  have e : l.getD k default = l[k] := by simp [List.getD_eq_getElem?_getD, hk]
  rw [e, this] at h; simp at h
theorem all_true {α : Type} [Inhabited α] {p : α → Bool} {l : List α} (h : ∀ k, k < l.length → p (l.getD k default) = true) : l.all p = true := by
  rw [List.all_eq_true]
  intro x hx
  obtain ⟨k, hk, rfl⟩ := List.getElem_of_mem hx
  have := h k hk
  simpa [List.getD_eq_getElem?_getD, hk] using this

theorem qcheck_any (b : Option Addr) (cap2 : Nat) (xs : List Int) (a : Option Addr) (cap : Nat) (ns : List Nt) (w : World) (hxs : IntCells w b xs) (hxl : xs.length ≤ 1073741824) (hns : NetCells w a ns) (hnl : ns.length ≤ 1073741824) (h1 : 1 ≤ ns.length) :
    Calls Tryz.prog 67 #[.slice b xs.length cap2, .slice a ns.length cap] w fun e w' => e = .returned (.int .i64 (chkQ xs ns)) ∧ Below w.heap.size w w' := by
  have HXS := Lib.hid hxs
  have HNS := Lib.hid hns
  have HH1 := Lib.hid h1
  clear hxs hns
  go_enter Tryz.func67, Tryz.ntmps67
  go_wp2
  go_loopw [15] (fun i wr => ∃ k : Nat, k ≤ ns.length ∧ i = .int .i64 k ∧ (∀ j, j < k → netOk (ns.getD j default) = true) ∧ Below w.heap.size w wr) (fun i _ => ns.length - (intOf i).toNat)
  case atStart => exact ⟨0, Nat.zero_le _, rfl, fun j h => absurd h (Nat.not_lt_zero _), Below.refl _ _⟩
  case round =>
    obtain ⟨k, hk, rfl, hno, hb⟩ := hrel
    have HN := Lib.hid hno
    have HB := Lib.hid hb
    clear hno hb
    by_cases hlt : k < ns.length
    · obtain ⟨bb, off, rfl, hc⟩ := (HNS.out.keep HB.out) k hlt
      generalize hte : ns.getD k default = t at hc
      have HTE := Lib.hid hte
      clear hte
      obtain ⟨c0, la, lcap, c1, hnd, hll⟩ := hc
      have hbz : bb < wr.heap.size := cell_block c0
      have HCK := Lib.hid (check_any t.n la lcap t.l (wr.alloc (.cells #[.int .i64 t.n, .slice la t.l.length lcap] 24)) hll (hnd.keep ((Below.refl _ _).alloc (Nat.le_refl _) _)))
      have HZ := Lib.hid HB.out.size
      clear hnd
      cases hok : netOk t
      · have HCH : Hid (chk ⟨t.n, t.l⟩ = 1) := by show _ = _; simp [chk, show (⟨t.n, t.l⟩ : Nt) = t from rfl, hok]
        have HR : Hid (chkQ xs ns = 1) := by show _ = _; unfold chkQ; rw [if_pos (all_false hlt (by rw [HTE.out]; exact hok))]
        clear hok
        go_wp2_with fail
        refine HCK.out.mono ?_
        rw [HCH.out]
        rintro e w1 ⟨rfl, hb1⟩
        go_wp2
        go_ret
        rw [HR.out]
        exact ⟨rfl, HB.out.trans (((Below.refl _ _).alloc HZ.out _).trans (hb1.mono (by have := HZ.out; simp; omega)))⟩
      · have HCH : Hid (chk ⟨t.n, t.l⟩ = 0) := by show _ = _; simp [chk, show (⟨t.n, t.l⟩ : Nt) = t from rfl, hok]
        have HOK := Lib.hid hok
        clear hok
        go_wp2_with fail
        refine HCK.out.mono ?_
        rw [HCH.out]
        rintro e w1 ⟨rfl, hb1⟩
        go_wp2
        go_roundw
        case rel => exact ⟨k + 1, by omega, by go_num, fun j hj => by
          by_cases e : j = k
          · subst e; rw [HTE.out]; exact HOK.out
          · exact HN.out j (by omega), HB.out.trans (((Below.refl _ _).alloc HZ.out _).trans (hb1.mono (by have := HZ.out; simp; omega)))⟩
        case measure => simp [intOf]; omega
    · have : k = ns.length := by omega
      subst this
      obtain ⟨w2, rfl⟩ : ∃ w2 : World, w2 = wr := ⟨_, rfl⟩
      have HALL : Hid (ns.all netOk = true) := all_true HN.out
      have HN1 := HN
      go_wp2
      go_loopw [25] (fun i wr => ∃ k : Nat, k ≤ ns.length ∧ i = .int .i64 k ∧ (∀ j, j < k → ((ns.getD j default).n == (ns.getD 0 default).n) = true) ∧ Below w.heap.size w wr) (fun i _ => ns.length - (intOf i).toNat)
      case atStart => exact ⟨0, Nat.zero_le _, rfl, fun j h => absurd h (Nat.not_lt_zero _), HB.out⟩
      case round =>
        obtain ⟨k, hk, rfl, hno, hb⟩ := hrel
        have HN := Lib.hid hno
        have HB := Lib.hid hb
        clear hno hb
        by_cases hlt : k < ns.length
        · obtain ⟨bb, off, rfl, hc⟩ := (HNS.out.keep HB.out) k hlt
          obtain ⟨b0, off0, e0, hc0⟩ := (HNS.out.keep HB.out) 0 HH1.out
          simp only [Option.some.injEq, Addr.mk.injEq, and_true] at e0
          obtain ⟨rfl, rfl⟩ := e0
          generalize hte : ns.getD k default = t at hc
          have HTE := Lib.hid hte
          generalize ht0 : ns.getD 0 default = t0 at *
          have HT0 := Lib.hid ht0
          clear hte ht0
          obtain ⟨c0, la, lcap, c1, hnd, hll⟩ := hc
          have d0 : wr.cell? ⟨bb, off, none⟩ = some (.int .i64 t0.n) := by have := hc0.1; simpa using this
          have hbz : bb < wr.heap.size := cell_block c0
          have HZ := Lib.hid HB.out.size
          have h0i : (0 : Int) < (ns.length : Int) := by have := HH1.out; omega
          clear hnd hc0
          by_cases hok : t.n = t0.n
          · have hok' : (t.n != t0.n) = false := by simpa using hok
            have HOK : Hid ((t.n == t0.n) = true) := by show _ = _; simpa using hok
            clear hok
            go_wp2_with fail
            go_region
            go_wp2
            go_roundw
            case rel => exact ⟨k + 1, by omega, by go_num, fun j hj => by
              by_cases e : j = k
              · subst e; rw [HTE.out]; exact HOK.out
              · exact HN.out j (by omega), HB.out.trans (((Below.refl _ _).alloc HZ.out _).drew)⟩
            case measure => simp [intOf]; omega
          · have hok' : (t.n != t0.n) = true := by simpa using hok
            have HR : Hid (chkQ xs ns = 1) := by
              show _ = _; unfold chkQ; rw [HT0.out, if_neg (by rw [HALL.out]; simp), if_pos (all_false hlt (by rw [HTE.out]; simpa using hok))]
            clear hok
            go_wp2_with fail
            go_region
            go_wp2
            go_ret
            rw [HR.out]
            exact ⟨rfl, HB.out.trans (((Below.refl _ _).alloc HZ.out _).drew)⟩
        · have : k = ns.length := by omega
          subst this
          obtain ⟨w3, rfl⟩ : ∃ w3 : World, w3 = wr := ⟨_, rfl⟩
          have HALN : Hid ((ns.all fun t => t.n == (ns.getD 0 default).n) = true) := all_true HN.out
          go_wp2
          go_loopw [39] (fun i wr => ∃ k : Nat, k ≤ xs.length ∧ i = .int .i64 k ∧ (∀ j, j < k → litOk (xs.getD j default) (ns.getD 0 default).n = true) ∧ Below w.heap.size w wr) (fun i _ => xs.length - (intOf i).toNat)
          case atStart => exact ⟨0, Nat.zero_le _, rfl, fun j h => absurd h (Nat.not_lt_zero _), HB.out⟩
          case round =>
            obtain ⟨k, hk, rfl, hno, hb⟩ := hrel
            have HN := Lib.hid hno
            have HB := Lib.hid hb
            clear hno hb
            by_cases hlt : k < xs.length
            · obtain ⟨bb, off, rfl, hx⟩ := (HXS.out.keep HB.out) k hlt
              obtain ⟨b0, off0, rfl, hc0⟩ := (HNS.out.keep HB.out) 0 HH1.out
              generalize hxd : xs.getD k 0 = x at *
              have HTE := Lib.hid hxd
              generalize ht0 : ns.getD 0 default = t0 at *
              have HT0 := Lib.hid ht0
              have d0 : wr.cell? ⟨b0, off0, none⟩ = some (.int .i64 t0.n) := by have := hc0.1; simpa using this
              have hbz : b0 < wr.heap.size := cell_block d0
              have hbz2 : bb < wr.heap.size := cell_block hx
              have h0i : (0 : Int) < (ns.length : Int) := by have := HH1.out; omega
              clear hc0 hxd ht0
              cases hok : litOk x t0.n
              · have HOK := Lib.hid hok
                have HR : Hid (chkQ xs ns = 1) := by
                  show _ = _; unfold chkQ; rw [HT0.out, if_neg (by rw [HALL.out]; simp), if_neg (by rw [HALN.out]; simp), if_pos (all_false hlt (by show litOk (xs.getD k 0) _ = _; rw [HTE.out]; exact hok))]
                clear hok
                go_wp2_with fail
                refine (litValid_any _ _ _).mono ?_
                rw [HOK.out]
                rintro e w' ⟨rfl, rfl⟩
                go_wp2
                go_ret
                rw [HR.out]
                exact ⟨rfl, HB.out⟩
              · have HOK := Lib.hid hok
                clear hok
                go_wp2_with fail
                refine (litValid_any _ _ _).mono ?_
                rw [HOK.out]
                rintro e w' ⟨rfl, rfl⟩
                go_wp2
                go_roundw
                case rel => exact ⟨k + 1, by omega, by go_num, fun j hj => by
                  by_cases e : j = k
                  · subst e; show litOk (xs.getD j 0) _ = _; rw [HTE.out]; exact HOK.out
                  · exact HN.out j (by omega), HB.out⟩
                case measure => simp [intOf]; omega
            · have : k = xs.length := by omega
              subst this
              obtain ⟨w4, rfl⟩ : ∃ w4 : World, w4 = wr := ⟨_, rfl⟩
              have HALX : Hid ((xs.all fun x => litOk x (ns.getD 0 default).n) = true) := all_true HN.out
              go_wp2
              go_loopw [53] (fun i wr => ∃ k : Nat, k ≤ ns.length ∧ i = .int .i64 k ∧ (∀ j, j < k → decL (ns.getD j default).l = true) ∧ Below w.heap.size w wr) (fun i _ => ns.length - (intOf i).toNat)
              case atStart => exact ⟨0, Nat.zero_le _, rfl, fun j h => absurd h (Nat.not_lt_zero _), HB.out⟩
              case round =>
                obtain ⟨k, hk, rfl, hno, hb⟩ := hrel
                have HN := Lib.hid hno
                have HB := Lib.hid hb
                clear hno hb
                by_cases hlt : k < ns.length
                · obtain ⟨bb, off, rfl, hc⟩ := (HNS.out.keep HB.out) k hlt
                  have hokk := HN1.out k hlt
                  generalize hte : ns.getD k default = t at hc hokk
                  have HTE := Lib.hid hte
                  clear hte
                  obtain ⟨c0, la, lcap, c1, hnd, hll⟩ := hc
                  have hbz : bb < wr.heap.size := cell_block c0
                  have HCK := Lib.hid (decomposable_any t.n la lcap t.l (wr.alloc (.cells #[.int .i64 t.n, .slice la t.l.length lcap] 24)) hokk (hnd.keep ((Below.refl _ _).alloc (Nat.le_refl _) _)))
                  have HZ := Lib.hid HB.out.size
                  clear hnd hokk
                  cases hok : decL t.l
                  · have HOK := Lib.hid hok
                    have HR : Hid (chkQ xs ns = 210) := by
                      show _ = _; unfold chkQ; rw [if_neg (by rw [HALL.out]; simp), if_neg (by rw [HALN.out]; simp), if_neg (by rw [HALX.out]; simp), if_pos (all_false (p := fun t => decL t.l) hlt (by show decL _ = _; rw [HTE.out]; exact hok))]
                    clear hok
                    go_wp2_with fail
                    refine HCK.out.mono ?_
                    rw [HOK.out]
                    rintro e w1 ⟨rfl, hb1⟩
                    go_wp2
                    go_ret
                    rw [HR.out]
                    exact ⟨rfl, HB.out.trans (((Below.refl _ _).alloc HZ.out _).trans (hb1.mono (by have := HZ.out; simp; omega)))⟩
                  · have HOK := Lib.hid hok
                    clear hok
                    go_wp2_with fail
                    refine HCK.out.mono ?_
                    rw [HOK.out]
                    rintro e w1 ⟨rfl, hb1⟩
                    go_wp2
                    go_roundw
                    case rel => exact ⟨k + 1, by omega, by go_num, fun j hj => by
                      by_cases e : j = k
                      · subst e; rw [HTE.out]; exact HOK.out
                      · exact HN.out j (by omega), HB.out.trans (((Below.refl _ _).alloc HZ.out _).trans (hb1.mono (by have := HZ.out; simp; omega)))⟩
                    case measure => simp [intOf]; omega
                · have : k = ns.length := by omega
                  subst this
                  have HR : Hid (chkQ xs ns = 0) := by
                    show _ = _; unfold chkQ; rw [if_neg (by rw [HALL.out]; simp), if_neg (by rw [HALN.out]; simp), if_neg (by rw [HALX.out]; simp), if_neg (by have h := all_true (p := fun t : Nt => decL t.l) (l := ns) HN.out; rw [h]; simp)]
                  go_wp2
                  go_ret
                  rw [HR.out]
                  exact ⟨rfl, HB.out⟩
end Go.Proofs.YtkaojolofaanfaaGreatDoor

/- The walks of slices.Equal at []int, node.Same's closure, slices.EqualFunc at nodes, node.Same. -/
namespace Go.Proofs.YtkaojolofaanfaaGreatDoor
open Go.RowKit Cen
set_option maxHeartbeats 2000000
set_option maxRecDepth 100000

theorem list_eq_of {α : Type} [Inhabited α] {xs ys : List α} (hl : xs.length = ys.length) (h : ∀ j, j < xs.length → xs.getD j default = ys.getD j default) : xs = ys := by
  apply List.ext_getElem hl
  intro i h1 h2
  have := h i h1
  simpa [List.getD_eq_getElem?_getD, h1, h2] using this

theorem eqInts_any (a : Option Addr) (cap : Nat) (xs : List Int) (b : Option Addr) (cap2 : Nat) (ys : List Int) (w : World) (hl : xs.length ≤ 1073741824) (_hl2 : ys.length ≤ 1073741824) (hx : IntCells w a xs) (hy : IntCells w b ys) :
    Calls Tryz.prog 188 #[.slice a xs.length cap, .slice b ys.length cap2] w fun e w' => e = .returned (.bool (decide (xs = ys))) ∧ Below w.heap.size w w' := by
  have HX := Lib.hid hx
  have HY := Lib.hid hy
  clear hx hy
  by_cases hll : xs.length = ys.length
  · have h0 : ((xs.length : Int) != (ys.length : Int)) = false := by simp [hll]
    have HLL := Lib.hid hll
    clear hll
    go_enter Tryz.func188, Tryz.ntmps188
    go_wp2
    go_loopw [13] (fun i wr => ∃ k : Nat, k ≤ xs.length ∧ i = .int .i64 k ∧ (∀ j, j < k → xs.getD j 0 = ys.getD j 0) ∧ Below w.heap.size w wr) (fun i _ => xs.length - (intOf i).toNat)
    case atStart => exact ⟨0, Nat.zero_le _, rfl, fun j h => absurd h (Nat.not_lt_zero _), Below.refl _ _⟩
    case round =>
      obtain ⟨k, hk, rfl, hno, hb⟩ := hrel
      have HN := Lib.hid hno
      have HB := Lib.hid hb
      clear hno hb
      by_cases hlt : k < xs.length
      · obtain ⟨b1, o1, rfl, c1⟩ := (HX.out.keep HB.out) k hlt
        obtain ⟨b2, o2, rfl, c2⟩ := (HY.out.keep HB.out) k (by have := HLL.out; omega)
        generalize hxe : xs.getD k 0 = x at *
        generalize hye : ys.getD k 0 = y at *
        have HXE := Lib.hid hxe
        have HYE := Lib.hid hye
        have hky : (k : Int) < (ys.length : Int) := by have := HLL.out; omega
        clear hxe hye
        by_cases hxy : x = y
        · have h1 : (x != y) = false := by simpa using hxy
          have HXY := Lib.hid hxy
          clear hxy
          go_wp2_with fail
          go_region
          go_wp2
          go_roundw
          case rel => exact ⟨k + 1, by omega, by go_num, fun j hj => by
            by_cases e : j = k
            · subst e; rw [HXE.out, HYE.out]; exact HXY.out
            · exact HN.out j (by omega), HB.out.drew⟩
          case measure => simp [intOf]; omega
        · have h1 : (x != y) = true := by simpa using hxy
          have HR : Hid (decide (xs = ys) = false) := by
            show _ = _
            rw [decide_eq_false_iff_not]; intro e
            apply hxy; rw [← HXE.out, ← HYE.out, e]
          clear hxy
          go_wp2_with fail
          go_region
          go_wp2
          go_ret
          exact ⟨ret_bool HR.out.symm, HB.out.drew⟩
      · have : k = xs.length := by omega
        subst this
        have HR : Hid (decide (xs = ys) = true) := by
          show _ = _
          rw [decide_eq_true_iff]; exact list_eq_of HLL.out HN.out
        go_wp2
        go_ret
        exact ⟨ret_bool HR.out.symm, HB.out⟩
  · have h0 : ((xs.length : Int) != (ys.length : Int)) = true := by simp; omega
    have HR : Hid (decide (xs = ys) = false) := by
      show _ = _
      rw [decide_eq_false_iff_not]; intro e; exact hll (by rw [e])
    clear hll
    go_enter Tryz.func188, Tryz.ntmps188
    go_wp2
    go_ret
    exact ⟨ret_bool HR.out.symm, Below.refl _ _⟩

theorem same1_any (x : Nd) (a : Option Addr) (cap : Nat) (y : Nd) (b : Option Addr) (cap2 : Nat) (w : World) (hl : x.ins.length ≤ 1073741824) (hl2 : y.ins.length ≤ 1073741824) (hx : IntCells w a x.ins) (hy : IntCells w b y.ins) :
    Calls Tryz.prog 202 #[.agg #[.int .i64 x.kind, .int .i64 x.lit, .slice a x.ins.length cap], .agg #[.int .i64 y.kind, .int .i64 y.lit, .slice b y.ins.length cap2]] w fun e w' => e = .returned (.bool (decide (x = y))) ∧ Below w.heap.size w w' := by
  have hb0 : Below w.heap.size w ((w.alloc (.cells #[.int .i64 x.kind, .int .i64 x.lit, .slice a x.ins.length cap] 67)).alloc (.cells #[.int .i64 y.kind, .int .i64 y.lit, .slice b y.ins.length cap2] 67)) := ((Below.refl _ _).alloc (Nat.le_refl _) _).alloc (by simp) _
  have HB0 := Lib.hid hb0
  have HEQ := Lib.hid (eqInts_any a cap x.ins b cap2 y.ins _ hl hl2 (hx.keep hb0) (hy.keep hb0))
  have hiff : x = y ↔ x.kind = y.kind ∧ x.lit = y.lit ∧ x.ins = y.ins := by cases x; cases y; simp
  have HIFF := Lib.hid hiff
  clear hb0 hx hy hiff
  by_cases h1 : x.kind = y.kind
  · have h1' : (x.kind == y.kind) = true := by simpa using h1
    by_cases h2 : x.lit = y.lit
    · have h2' : (x.lit == y.lit) = true := by simpa using h2
      have HR : Hid (decide (x.ins = y.ins) = decide (x = y)) := by
        show _ = _; rw [decide_eq_decide, HIFF.out]; exact ⟨fun h => ⟨h1, h2, h⟩, fun h => h.2.2⟩
      clear h1 h2
      go_enter Tryz.func202, Tryz.ntmps202
      go_wp2_with fail
      refine HEQ.out.mono ?_
      rintro e w1 ⟨rfl, hb1⟩
      rw [HR.out]
      go_wp2
      go_ret
      exact ⟨rfl, HB0.out.trans (hb1.mono (by simp; omega))⟩
    · have h2' : (x.lit == y.lit) = false := by simpa using h2
      have HR : Hid (decide (x = y) = false) := by
        show _ = _; rw [decide_eq_false_iff_not, HIFF.out]; exact fun h => h2 h.2.1
      clear h1 h2
      go_enter Tryz.func202, Tryz.ntmps202
      go_wp2
      go_ret
      exact ⟨ret_bool HR.out.symm, HB0.out⟩
  · have h1' : (x.kind == y.kind) = false := by simpa using h1
    have HR : Hid (decide (x = y) = false) := by
      show _ = _; rw [decide_eq_false_iff_not, HIFF.out]; exact fun h => h1 h.1
    clear h1
    go_enter Tryz.func202, Tryz.ntmps202
    go_wp2
    go_ret
    exact ⟨ret_bool HR.out.symm, HB0.out⟩
theorem callable_same1 : Callable 202 := fun _ _ => by kernel_rfl

theorem equalFunc_any (a : Option Addr) (cap : Nat) (xs : List Nd) (b : Option Addr) (cap2 : Nat) (ys : List Nd) (w : World) (hl : xs.length ≤ 1073741824) (_hl2 : ys.length ≤ 1073741824) (hx : NdCells w a xs) (hy : NdCells w b ys) :
    Calls Tryz.prog 201 #[.slice a xs.length cap, .slice b ys.length cap2, .func (.func 202) #[] #[]] w fun e w' => e = .returned (.bool (decide (xs = ys))) ∧ Below w.heap.size w w' := by
  have hcf : ∀ (args : Array Value) (w : World), (callFunc 202 args).run Tryz.prog w = .ok (.enter 202 args) w := callable_same1
  have HX := Lib.hid hx
  have HY := Lib.hid hy
  clear hx hy
  by_cases hll : xs.length = ys.length
  · have h0 : ((xs.length : Int) != (ys.length : Int)) = false := by simp [hll]
    have HLL := Lib.hid hll
    clear hll
    go_enter Tryz.func201, Tryz.ntmps201
    go_wp2
    go_loopw [17] (fun i wr => ∃ k : Nat, k ≤ xs.length ∧ i = .int .i64 k ∧ (∀ j, j < k → xs.getD j default = ys.getD j default) ∧ Below w.heap.size w wr) (fun i _ => xs.length - (intOf i).toNat)
    case atStart => exact ⟨0, Nat.zero_le _, rfl, fun j h => absurd h (Nat.not_lt_zero _), Below.refl _ _⟩
    case round =>
      obtain ⟨k, hk, rfl, hno, hb⟩ := hrel
      have HN := Lib.hid hno
      have HB := Lib.hid hb
      clear hno hb
      by_cases hlt : k < xs.length
      · obtain ⟨b1, o1, rfl, c1⟩ := (HX.out.keep HB.out) k hlt
        obtain ⟨b2, o2, rfl, c2⟩ := (HY.out.keep HB.out) k (by have := HLL.out; omega)
        generalize hxe : xs.getD k default = x at *
        generalize hye : ys.getD k default = y at *
        have HXE := Lib.hid hxe
        have HYE := Lib.hid hye
        have hky : (k : Int) < (ys.length : Int) := by have := HLL.out; omega
        obtain ⟨p0, p1, av, cv, p2, pi, pl⟩ := c1
        obtain ⟨q0, q1, bv, dv, q2, qi, ql⟩ := c2
        have hbz1 : b1 < wr.heap.size := cell_block p0
        have hbz2 : b2 < wr.heap.size := cell_block q0
        have hb0 : Below wr.heap.size wr ((wr.alloc (.cells #[.int .i64 x.kind, .int .i64 x.lit, .slice av x.ins.length cv] 67)).alloc (.cells #[.int .i64 y.kind, .int .i64 y.lit, .slice bv y.ins.length dv] 67)) := ((Below.refl _ _).alloc (Nat.le_refl _) _).alloc (by simp) _
        have HSM := Lib.hid (same1_any x av cv y bv dv _ pl ql (pi.keep hb0) (qi.keep hb0))
        have HB2 := Lib.hid (HB.out.trans (hb0.mono HB.out.size))
        have HZ := Lib.hid HB.out.size
        clear hxe hye pi qi hb0
        by_cases hxy : x = y
        · have HR : Hid (decide (x = y) = true) := by show _ = _; simpa using hxy
          have HXY := Lib.hid hxy
          clear hxy
          go_wp2_with fail
          refine HSM.out.mono ?_
          rw [HR.out]
          rintro e w1 ⟨rfl, hb1⟩
          go_wp2
          go_roundw
          case rel => exact ⟨k + 1, by omega, by go_num, fun j hj => by
            by_cases e : j = k
            · subst e; rw [HXE.out, HYE.out]; exact HXY.out
            · exact HN.out j (by omega), HB2.out.trans (hb1.mono HB2.out.size)⟩
          case measure => simp [intOf]; omega
        · have HR : Hid (decide (x = y) = false) := by show _ = _; simpa using hxy
          have HR2 : Hid (decide (xs = ys) = false) := by
            show _ = _
            rw [decide_eq_false_iff_not]; intro e
            apply hxy; rw [← HXE.out, ← HYE.out, e]
          clear hxy
          go_wp2_with fail
          refine HSM.out.mono ?_
          rw [HR.out]
          rintro e w1 ⟨rfl, hb1⟩
          go_wp2
          go_ret
          exact ⟨ret_bool HR2.out.symm, HB2.out.trans (hb1.mono HB2.out.size)⟩
      · have : k = xs.length := by omega
        subst this
        have HR : Hid (decide (xs = ys) = true) := by
          show _ = _
          rw [decide_eq_true_iff]; exact list_eq_of HLL.out HN.out
        go_wp2
        go_ret
        exact ⟨ret_bool HR.out.symm, HB.out⟩
  · have h0 : ((xs.length : Int) != (ys.length : Int)) = true := by simp; omega
    have HR : Hid (decide (xs = ys) = false) := by
      show _ = _
      rw [decide_eq_false_iff_not]; intro e; exact hll (by rw [e])
    clear hll
    go_enter Tryz.func201, Tryz.ntmps201
    go_wp2
    go_ret
    exact ⟨ret_bool HR.out.symm, Below.refl _ _⟩

theorem same_any (n : Int) (a : Option Addr) (cap : Nat) (xs : List Nd) (m : Int) (b : Option Addr) (cap2 : Nat) (ys : List Nd) (w : World) (hl : xs.length ≤ 1073741824) (hl2 : ys.length ≤ 1073741824) (hx : NdCells w a xs) (hy : NdCells w b ys) :
    Calls Tryz.prog 169 #[.agg #[.int .i64 n, .slice a xs.length cap], .agg #[.int .i64 m, .slice b ys.length cap2]] w fun e w' => e = .returned (.bool (decide (n = m ∧ xs = ys))) ∧ Below w.heap.size w w' := by
  have hb0 : Below w.heap.size w ((w.alloc (.cells #[.int .i64 n, .slice a xs.length cap] 24)).alloc (.cells #[.int .i64 m, .slice b ys.length cap2] 24)) := ((Below.refl _ _).alloc (Nat.le_refl _) _).alloc (by simp) _
  have HB0 := Lib.hid hb0
  have HEQ := Lib.hid (equalFunc_any a cap xs b cap2 ys _ hl hl2 (hx.keep hb0) (hy.keep hb0))
  clear hb0 hx hy
  by_cases h1 : n = m
  · have h1' : (n == m) = true := by simpa using h1
    have HR : Hid (decide (xs = ys) = decide (n = m ∧ xs = ys)) := by
      show _ = _; rw [decide_eq_decide]; exact ⟨fun h => ⟨h1, h⟩, fun h => h.2⟩
    clear h1
    go_enter Tryz.func169, Tryz.ntmps169
    go_wp2_with fail
    refine HEQ.out.mono ?_
    rintro e w1 ⟨rfl, hb1⟩
    go_wp2
    go_ret
    exact ⟨ret_bool HR.out, HB0.out.trans (hb1.mono (by simp; omega))⟩
  · have h1' : (n == m) = false := by simpa using h1
    have HR : Hid (decide (n = m ∧ xs = ys) = false) := by
      show _ = _; rw [decide_eq_false_iff_not]; exact fun h => h1 h.1
    clear h1
    go_enter Tryz.func169, Tryz.ntmps169
    go_wp2
    go_ret
    exact ⟨ret_bool HR.out.symm, HB0.out⟩
end Go.Proofs.YtkaojolofaanfaaGreatDoor
