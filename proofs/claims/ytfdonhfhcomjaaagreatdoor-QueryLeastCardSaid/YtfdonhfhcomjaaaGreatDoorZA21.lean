/- Part 21 of 26 of the proof that censuslaw38.QueryFacts returns true for every input, where the tables that the row lists are laid. Texts: QCnt, R21. -/
import Derived.Test.YtfdonhfhcomjaaaGreatDoorZA20
import Derived.Test.YtfdonhfhcomjaaaGreatDoorZA18

/- The walks of query.Valid, Same, Counter. -/
namespace Go.Proofs.YtfdonhfhcomjaaaGreatDoor
open Go.RowKit Cen
set_option maxHeartbeats 4000000
set_option maxRecDepth 100000
theorem valid_any (n : Int) (a : Option Addr) (cap : Nat) (l : List Nd) (w : World) (hx : NdCells w a l) (hl : l.length ≤ 1073741824) (hs : netOk ⟨n, l⟩ = true → Small l) (hco : impCost ⟨n, l⟩ []) (ht : Tab w) :
    Calls Tryz.prog 14 #[.agg #[.int .i64 n, .slice a l.length cap]] w fun e w' => e = .returned (.tuple #[.bool (impR ⟨n, l⟩ []), .int .i64 (chkR [] ⟨n, l⟩)]) ∧ Below w.heap.size w w' := by
  have hb0 : Below w.heap.size w (w.alloc (.cells #[.int .i64 n, .slice a l.length cap] 24)) := (Below.refl _ _).alloc (Nat.le_refl _) _
  have HB0 := Lib.hid hb0
  have HI := Lib.hid (implies_any n a cap l none 0 [] _ (hx.keep hb0) hl (IntCells.nil _ _) (by simp) hs hco (ht.keep hb0))
  clear hx hs hco ht hb0
  go_enter Tryz.func14, Tryz.ntmps14
  go_wp2_with fail
  refine HI.out.mono ?_
  rintro e w1 ⟨rfl, hb1⟩
  have HB1 := Lib.hid (HB0.out.trans (hb1.mono HB0.out.size))
  clear hb1
  go_wp2
  go_ret2
  exact ⟨rfl, HB1.out⟩
theorem same2_any (n m : Int) (aa ab : Option Addr) (ca cb : Nat) (a b : List Nd) (w : World) (xa : NdCells w aa a) (xb : NdCells w ab b) (hla : a.length ≤ 1073741824) (hlb : b.length ≤ 1073741824) (sa : netOk ⟨n, a⟩ = true → Small a) (sb : netOk ⟨m, b⟩ = true → Small b) (hco : cntCost ⟨n, a⟩ ⟨m, b⟩ ∧ (chk2 ⟨n, a⟩ ⟨m, b⟩ = 0 → costP n n.toNat (gvL n [] b) (gvL n [] a) ≤ 1000000000)) (ht : Tab w) :
    Calls Tryz.prog 22 #[.agg #[.int .i64 n, .slice aa a.length ca], .agg #[.int .i64 m, .slice ab b.length cb]] w fun e w' => e = .returned (.tuple #[.bool (sameR ⟨n, a⟩ ⟨m, b⟩), .int .i64 (chk2 ⟨n, a⟩ ⟨m, b⟩)]) ∧ Below w.heap.size w w' := by
  have XA := Lib.hid xa
  have XB := Lib.hid xb
  have hb0 : Below w.heap.size w (((w.alloc (.cells #[.int .i64 n, .slice aa a.length ca] 24)).alloc (.cells #[.int .i64 m, .slice ab b.length cb] 24)).alloc (.cells #[.int .i64 n, .slice aa a.length ca, .int .i64 m, .slice ab b.length cb] 24)) := ((((Below.refl w.heap.size w).alloc (by (try simp only [World.size_alloc]); omega) _).alloc (by (try simp only [World.size_alloc]); omega) _).alloc (by (try simp only [World.size_alloc]); omega) _)
  have HB0 := Lib.hid hb0
  have HCK := Lib.hid (check2_any (w.heap.size + 1 + 1) n m aa ab ca cb a b _ (Blk.new' ((w.alloc (.cells #[.int .i64 n, .slice aa a.length ca] 24)).alloc (.cells #[.int .i64 m, .slice ab b.length cb] 24)) (by simp only [World.size_alloc]) #[.int .i64 n, .slice aa a.length ca, .int .i64 m, .slice ab b.length cb] 24) (xa.keep hb0) (xb.keep hb0) hla hlb)
  have q0 : Hid (Blk (((w.alloc (.cells #[.int .i64 n, .slice aa a.length ca] 24)).alloc (.cells #[.int .i64 m, .slice ab b.length cb] 24)).alloc (.cells #[.int .i64 n, .slice aa a.length ca, .int .i64 m, .slice ab b.length cb] 24)) w.heap.size #[.int .i64 n, .slice aa a.length ca] 24) := (((Blk.new w #[.int .i64 n, .slice aa a.length ca] 24).alloc _).alloc _)
  have q1 : Hid (Blk (((w.alloc (.cells #[.int .i64 n, .slice aa a.length ca] 24)).alloc (.cells #[.int .i64 m, .slice ab b.length cb] 24)).alloc (.cells #[.int .i64 n, .slice aa a.length ca, .int .i64 m, .slice ab b.length cb] 24)) (w.heap.size + 1) #[.int .i64 m, .slice ab b.length cb] 24) := ((Blk.new' (w.alloc (.cells #[.int .i64 n, .slice aa a.length ca] 24)) (by simp only [World.size_alloc]) #[.int .i64 m, .slice ab b.length cb] 24).alloc _)
  have HT := Lib.hid ht
  have SA := Lib.hid sa
  have SB := Lib.hid sb
  have HCO := Lib.hid hco
  clear xa xb hb0 ht sa sb hco
  by_cases hc : chk2 ⟨n, a⟩ ⟨m, b⟩ = 0
  · obtain ⟨h1, h2, h3, _, _⟩ := chk2_ok hc
    simp only at h3
    subst h3
    have HA := Lib.hid h1
    have HB := Lib.hid h2
    have HC := Lib.hid hc
    rw [hc] at HCK
    have HR : Hid (sameR ⟨n, a⟩ ⟨n, b⟩ = ((cntL n a b).isNone && (cntL n b a).isNone)) := by show _ = _; unfold sameR; rw [decide_eq_true hc]; rfl
    have HCA := Lib.hid (HCO.out.1 hc)
    have HCB := Lib.hid (HCO.out.2 hc)
    clear hc h1 h2
    go_enter Tryz.func22, Tryz.ntmps22
    go_wp2_with fail
    refine HCK.out.mono ?_
    rintro e w1 ⟨rfl, hb1⟩
    have HB1 := Lib.hid (HB0.out.trans (hb1.mono HB0.out.size))
    have p0 := q0.out.later hb1
    have p1 := q1.out.later hb1
    have P0 := Lib.hid p0
    have P1 := Lib.hid p1
    have k0 : w1.cell? ⟨w.heap.size, 0, none⟩ = some (.int .i64 n) := p0.cell 0
    have k1 : w1.cell? ⟨w.heap.size, 1, none⟩ = some (.slice aa a.length ca) := p0.cell 1
    have k2 : w1.cell? ⟨w.heap.size + 1, 0, none⟩ = some (.int .i64 n) := p1.cell 0
    have k3 : w1.cell? ⟨w.heap.size + 1, 1, none⟩ = some (.slice ab b.length cb) := p1.cell 1
    have H1 := Lib.hid (counter_any n a b aa ab ca cb w1 HA.out HB.out (SA.out HA.out) (SB.out HB.out) (XA.out.keep HB1.out) (XB.out.keep HB1.out) HCA.out (HT.out.keep HB1.out))
    clear hb1 p0 p1
    go_wp2_with fail
    refine H1.out.mono ?_
    rintro e w2 ⟨rfl, hb2⟩
    have hb3 : Below w1.heap.size w1 (w2.alloc (.cells #[.int .u64 ((foundOf St.zero (cntL n a b)).a : Int), .int .u64 ((foundOf St.zero (cntL n a b)).b : Int)] 38)) := hb2.alloc hb2.size _
    have HB3 := Lib.hid (HB1.out.trans (hb3.mono HB1.out.size))
    have p0 := P0.out.later hb3
    have p1 := P1.out.later hb3
    clear k0 k1 k2 k3
    have hzz : w.heap.size + 1 < w2.heap.size := (P1.out.later hb2).lt
    have hzz0 : w.heap.size < w2.heap.size := by omega
    have j0 := P0.out.later hb2
    have j1 := P1.out.later hb2
    have k0 : w2.cell? ⟨w.heap.size, 0, none⟩ = some (.int .i64 n) := j0.cell 0
    have k1 : w2.cell? ⟨w.heap.size, 1, none⟩ = some (.slice aa a.length ca) := j0.cell 1
    have k2 : w2.cell? ⟨w.heap.size + 1, 0, none⟩ = some (.int .i64 n) := j1.cell 0
    have k3 : w2.cell? ⟨w.heap.size + 1, 1, none⟩ = some (.slice ab b.length cb) := j1.cell 1
    have H2 := Lib.hid (counter_any n b a ab aa cb ca _ HB.out HA.out (SB.out HB.out) (SA.out HA.out) (XB.out.keep HB3.out) (XA.out.keep HB3.out) HCB.out (HT.out.keep HB3.out))
    clear hb2 hb3 p0 p1 j0 j1
    go_wp2_with fail
    refine H2.out.mono ?_
    rintro e w4 ⟨rfl, hb4⟩
    have HB4 := Lib.hid ((HB3.out.trans (hb4.mono HB3.out.size)).alloc (Nat.le_trans HB3.out.size hb4.size) (.cells #[.int .u64 ((foundOf St.zero (cntL n b a)).a : Int), .int .u64 ((foundOf St.zero (cntL n b a)).b : Int)] 38))
    clear hb4
    cases hA : cntL n a b with
    | none =>
      rw [hA] at HR
      cases hB : cntL n b a with
      | none =>
        rw [hB] at HR HB4
        clear hA hB
        go_wp2
        go_ret2
        exact ⟨by rw [HR.out, HC.out]; rfl, HB4.out⟩
      | some m2 =>
        rw [hB] at HR HB4
        clear hA hB
        go_wp2
        go_ret2
        exact ⟨by rw [HR.out, HC.out]; rfl, HB4.out⟩
    | some m1 =>
      rw [hA] at HR
      clear hA
      go_wp2
      go_ret2
      exact ⟨by rw [HR.out, HC.out]; rfl, HB4.out⟩
  · have HC := Lib.hid hc
    have hcb : (chk2 ⟨n, a⟩ ⟨m, b⟩ != 0) = true := by simpa using hc
    clear hc
    have HR : Hid (sameR ⟨n, a⟩ ⟨m, b⟩ = false) := by show _ = _; unfold sameR; rw [decide_eq_false HC.out]; rfl
    go_enter Tryz.func22, Tryz.ntmps22
    go_wp2_with fail
    refine HCK.out.mono ?_
    rintro e w1 ⟨rfl, hb1⟩
    have HB1 := Lib.hid (HB0.out.trans (hb1.mono HB0.out.size))
    clear hb1
    go_wp2
    go_ret2
    exact ⟨by rw [HR.out]; rfl, HB1.out⟩
theorem counter2_any (n m : Int) (aa ab : Option Addr) (ca cb : Nat) (a b : List Nd) (w : World) (xa : NdCells w aa a) (xb : NdCells w ab b) (hla : a.length ≤ 1073741824) (hlb : b.length ≤ 1073741824) (sa : netOk ⟨n, a⟩ = true → Small a) (sb : netOk ⟨m, b⟩ = true → Small b) (hco : cntCost ⟨n, a⟩ ⟨m, b⟩) (ht : Tab w) :
    Calls Tryz.prog 23 #[.agg #[.int .i64 n, .slice aa a.length ca], .agg #[.int .i64 m, .slice ab b.length cb]] w fun e w' => e = .returned (.tuple #[stv (foundOf St.zero (cntR ⟨n, a⟩ ⟨m, b⟩)), .bool (cntR ⟨n, a⟩ ⟨m, b⟩).isSome, .int .i64 (chk2 ⟨n, a⟩ ⟨m, b⟩)]) ∧ Below w.heap.size w w' := by
  have XA := Lib.hid xa
  have XB := Lib.hid xb
  have hb0 : Below w.heap.size w ((((w.alloc (.cells #[.int .i64 n, .slice aa a.length ca] 24)).alloc (.cells #[.int .i64 m, .slice ab b.length cb] 24)).alloc (.cells #[.int .u64 0, .int .u64 0] 38)).alloc (.cells #[.int .i64 n, .slice aa a.length ca, .int .i64 m, .slice ab b.length cb] 24)) := (((((Below.refl w.heap.size w).alloc (by (try simp only [World.size_alloc]); omega) _).alloc (by (try simp only [World.size_alloc]); omega) _).alloc (by (try simp only [World.size_alloc]); omega) _).alloc (by (try simp only [World.size_alloc]); omega) _)
  have HB0 := Lib.hid hb0
  have HCK := Lib.hid (check2_any (w.heap.size + 1 + 1 + 1) n m aa ab ca cb a b _ (Blk.new' (((w.alloc (.cells #[.int .i64 n, .slice aa a.length ca] 24)).alloc (.cells #[.int .i64 m, .slice ab b.length cb] 24)).alloc (.cells #[.int .u64 0, .int .u64 0] 38)) (by simp only [World.size_alloc]) #[.int .i64 n, .slice aa a.length ca, .int .i64 m, .slice ab b.length cb] 24) (xa.keep hb0) (xb.keep hb0) hla hlb)
  have q0 : Hid (Blk ((((w.alloc (.cells #[.int .i64 n, .slice aa a.length ca] 24)).alloc (.cells #[.int .i64 m, .slice ab b.length cb] 24)).alloc (.cells #[.int .u64 0, .int .u64 0] 38)).alloc (.cells #[.int .i64 n, .slice aa a.length ca, .int .i64 m, .slice ab b.length cb] 24)) w.heap.size #[.int .i64 n, .slice aa a.length ca] 24) := ((((Blk.new w #[.int .i64 n, .slice aa a.length ca] 24).alloc _).alloc _).alloc _)
  have q1 : Hid (Blk ((((w.alloc (.cells #[.int .i64 n, .slice aa a.length ca] 24)).alloc (.cells #[.int .i64 m, .slice ab b.length cb] 24)).alloc (.cells #[.int .u64 0, .int .u64 0] 38)).alloc (.cells #[.int .i64 n, .slice aa a.length ca, .int .i64 m, .slice ab b.length cb] 24)) (w.heap.size + 1) #[.int .i64 m, .slice ab b.length cb] 24) := (((Blk.new' (w.alloc (.cells #[.int .i64 n, .slice aa a.length ca] 24)) (by simp only [World.size_alloc]) #[.int .i64 m, .slice ab b.length cb] 24).alloc _).alloc _)
  have q2 : Hid (Blk ((((w.alloc (.cells #[.int .i64 n, .slice aa a.length ca] 24)).alloc (.cells #[.int .i64 m, .slice ab b.length cb] 24)).alloc (.cells #[.int .u64 0, .int .u64 0] 38)).alloc (.cells #[.int .i64 n, .slice aa a.length ca, .int .i64 m, .slice ab b.length cb] 24)) (w.heap.size + 1 + 1) #[.int .u64 0, .int .u64 0] 38) := ((Blk.new' ((w.alloc (.cells #[.int .i64 n, .slice aa a.length ca] 24)).alloc (.cells #[.int .i64 m, .slice ab b.length cb] 24)) (by simp only [World.size_alloc]) #[.int .u64 0, .int .u64 0] 38).alloc _)
  have HT := Lib.hid ht
  have SA := Lib.hid sa
  have SB := Lib.hid sb
  have HCO := Lib.hid hco
  clear xa xb hb0 ht sa sb hco
  by_cases hc : chk2 ⟨n, a⟩ ⟨m, b⟩ = 0
  · obtain ⟨h1, h2, h3, _, _⟩ := chk2_ok hc
    simp only at h3
    subst h3
    have HA := Lib.hid h1
    have HB := Lib.hid h2
    have HC := Lib.hid hc
    rw [hc] at HCK
    have HR : Hid (cntR ⟨n, a⟩ ⟨n, b⟩ = cntL n a b) := by show _ = _; unfold cntR; rw [if_pos hc]
    have HCA := Lib.hid (HCO.out hc)
    clear hc h1 h2
    go_enter Tryz.func23, Tryz.ntmps23
    go_wp2_with fail
    refine HCK.out.mono ?_
    rintro e w1 ⟨rfl, hb1⟩
    have HB1 := Lib.hid (HB0.out.trans (hb1.mono HB0.out.size))
    have p0 := q0.out.later hb1
    have p1 := q1.out.later hb1
    have Q2 := Lib.hid (q2.out.later hb1)
    have k0 : w1.cell? ⟨w.heap.size, 0, none⟩ = some (.int .i64 n) := p0.cell 0
    have k1 : w1.cell? ⟨w.heap.size, 1, none⟩ = some (.slice aa a.length ca) := p0.cell 1
    have k2 : w1.cell? ⟨w.heap.size + 1, 0, none⟩ = some (.int .i64 n) := p1.cell 0
    have k3 : w1.cell? ⟨w.heap.size + 1, 1, none⟩ = some (.slice ab b.length cb) := p1.cell 1
    have H1 := Lib.hid (counter_any n a b aa ab ca cb w1 HA.out HB.out (SA.out HA.out) (SB.out HB.out) (XA.out.keep HB1.out) (XB.out.keep HB1.out) HCA.out (HT.out.keep HB1.out))
    clear hb1 p0 p1
    go_wp2_with fail
    refine H1.out.mono ?_
    rintro e w2 ⟨rfl, hb2⟩
    have HB2 := Lib.hid (HB1.out.trans (hb2.mono HB1.out.size))
    obtain ⟨F, hF⟩ : ∃ F, F = foundOf St.zero (cntL n a b) := ⟨_, rfl⟩
    rw [← hF]
    have HF := Lib.hid hF
    have D2 := Lib.hid (Q2.out.later hb2)
    have d0 := D2.out.fr 0
    have d1 := D2.out.fr 1
    have d2 : w2.cell? ⟨w.heap.size + 1 + 1, 0, none⟩ = some (.int .u64 0) := D2.out.cell 0
    have d3 : w2.cell? ⟨w.heap.size + 1 + 1, 1, none⟩ = some (.int .u64 0) := D2.out.cell 1
    have hz : w.heap.size + 1 + 1 < w2.heap.size := D2.out.lt
    clear hb2 hF k0 k1 k2 k3
    go_wp2
    have hbr := ((D2.out.set 0 (.int .u64 (F.a : Int))).set 1 (.int .u64 (F.b : Int))).alloc (.cells #[.int .u64 (F.a : Int), .int .u64 (F.b : Int)] 38)
    have e0 : (((w2.setCell ⟨w.heap.size + 1 + 1, 0, none⟩ (.int .u64 (F.a : Int))).setCell ⟨w.heap.size + 1 + 1, 1, none⟩ (.int .u64 (F.b : Int))).alloc (.cells #[.int .u64 (F.a : Int), .int .u64 (F.b : Int)] 38)).cell? ⟨w.heap.size + 1 + 1, 0, none⟩ = some (.int .u64 (F.a : Int)) := hbr.cell 0
    have e1 : (((w2.setCell ⟨w.heap.size + 1 + 1, 0, none⟩ (.int .u64 (F.a : Int))).setCell ⟨w.heap.size + 1 + 1, 1, none⟩ (.int .u64 (F.b : Int))).alloc (.cells #[.int .u64 (F.a : Int), .int .u64 (F.b : Int)] 38)).cell? ⟨w.heap.size + 1 + 1, 1, none⟩ = some (.int .u64 (F.b : Int)) := hbr.cell 1
    have hfb : Below w.heap.size w (((w2.setCell ⟨w.heap.size + 1 + 1, 0, none⟩ (.int .u64 (F.a : Int))).setCell ⟨w.heap.size + 1 + 1, 1, none⟩ (.int .u64 (F.b : Int))).alloc (.cells #[.int .u64 (F.a : Int), .int .u64 (F.b : Int)] 38)) :=
      ((HB2.out.setCell (show w.heap.size ≤ (⟨w.heap.size + 1 + 1, 0, none⟩ : Addr).block by dsimp only; omega) _).setCell (show w.heap.size ≤ (⟨w.heap.size + 1 + 1, 1, none⟩ : Addr).block by dsimp only; omega) _).alloc (by rw [World.size_setCell', World.size_setCell']; omega) _
    exact bodyPost_ret (v := .tuple #[stv F, .bool (cntL n a b).isSome, .int .i64 0]) (by simp [results, Tryz.results23, go_sem, e0, e1]) rfl ⟨by rw [HR.out, HC.out, HF.out], hfb⟩
  · have HC := Lib.hid hc
    have hcb : (chk2 ⟨n, a⟩ ⟨m, b⟩ != 0) = true := by simpa using hc
    clear hc
    have HR : Hid (cntR ⟨n, a⟩ ⟨m, b⟩ = none) := by show _ = _; unfold cntR; rw [if_neg HC.out]
    go_enter Tryz.func23, Tryz.ntmps23
    go_wp2_with fail
    refine HCK.out.mono ?_
    rintro e w1 ⟨rfl, hb1⟩
    have HB1 := Lib.hid (HB0.out.trans (hb1.mono HB0.out.size))
    have D2 := Lib.hid (q2.out.later hb1)
    have d0 := D2.out.fr 0
    have d1 := D2.out.fr 1
    have d2 : w1.cell? ⟨w.heap.size + 1 + 1, 0, none⟩ = some (.int .u64 0) := D2.out.cell 0
    have d3 : w1.cell? ⟨w.heap.size + 1 + 1, 1, none⟩ = some (.int .u64 0) := D2.out.cell 1
    have hz : w.heap.size + 1 + 1 < w1.heap.size := D2.out.lt
    clear hb1
    go_wp2
    have hbr := (D2.out.set 0 (.int .u64 0)).set 1 (.int .u64 0)
    have e0 : ((w1.setCell ⟨w.heap.size + 1 + 1, 0, none⟩ (.int .u64 0)).setCell ⟨w.heap.size + 1 + 1, 1, none⟩ (.int .u64 0)).cell? ⟨w.heap.size + 1 + 1, 0, none⟩ = some (.int .u64 0) := hbr.cell 0
    have e1 : ((w1.setCell ⟨w.heap.size + 1 + 1, 0, none⟩ (.int .u64 0)).setCell ⟨w.heap.size + 1 + 1, 1, none⟩ (.int .u64 0)).cell? ⟨w.heap.size + 1 + 1, 1, none⟩ = some (.int .u64 0) := hbr.cell 1
    have hfb : Below w.heap.size w ((w1.setCell ⟨w.heap.size + 1 + 1, 0, none⟩ (.int .u64 0)).setCell ⟨w.heap.size + 1 + 1, 1, none⟩ (.int .u64 0)) :=
      (HB1.out.setCell (show w.heap.size ≤ (⟨w.heap.size + 1 + 1, 0, none⟩ : Addr).block by dsimp only; omega) _).setCell (show w.heap.size ≤ (⟨w.heap.size + 1 + 1, 1, none⟩ : Addr).block by dsimp only; omega) _
    exact bodyPost_ret (v := .tuple #[stv St.zero, .bool false, .int .i64 (chk2 ⟨n, a⟩ ⟨m, b⟩)]) (by simp [results, Tryz.results23, go_sem, e0, e1, St.zero]) rfl ⟨by rw [HR.out]; rfl, hfb⟩
end Go.Proofs.YtfdonhfhcomjaaaGreatDoor

/- The walks of censusref05's Has and Valid, censusref21's With, Union, meets. -/
namespace Go.Proofs.YtfdonhfhcomjaaaGreatDoor
open Go.RowKit Cen
set_option maxHeartbeats 2000000
set_option maxRecDepth 100000
theorem mem_out {s : St} {v : Int} (h : ¬ (1 ≤ v ∧ v ≤ 128)) : s.mem v = false := by
  unfold St.mem; rw [if_neg (by omega), if_neg (by omega)]
theorem has5_any (s : St) (v : Int) (w : World) (_hs : s.ok) : Calls Tryz.prog 118 #[stv s, .int .i64 v] w fun e w' => e = .returned (.bool (s.mem v)) ∧ Below w.heap.size w w' := by
  by_cases h1 : 1 ≤ v
  · have d1 : decide (1 ≤ v) = true := by simpa using h1
    by_cases h2 : v ≤ 128
    · have d2 : decide (v ≤ 128) = true := by simpa using h2
      by_cases hv : v ≤ 64
      · have e1 : (v - 1) / 64 = 0 := by omega
        have e2 : (v - 1) % 64 = v - 1 := by omega
        go_enter Tryz.func118, Tryz.ntmps118
        go_wp2
        go_ret
        exact ⟨ret_bool (mem_lo s h1 hv), (Below.refl _ _).alloc (Nat.le_refl _) _⟩
      · have e1 : (v - 1) / 64 = 1 := by omega
        have e2 : (v - 1) % 64 = v - 65 := by omega
        have hv2 : 65 ≤ v := by omega
        go_enter Tryz.func118, Tryz.ntmps118
        go_wp2
        go_ret
        exact ⟨ret_bool (mem_hi s hv2 h2 _ (by omega)), (Below.refl _ _).alloc (Nat.le_refl _) _⟩
    · have d2 : decide (v ≤ 128) = false := by simpa using h2
      have HR : Hid (s.mem v = false) := mem_out (by omega)
      clear h2
      go_enter Tryz.func118, Tryz.ntmps118
      go_wp2
      go_ret
      exact ⟨ret_bool HR.out.symm, (Below.refl _ _).alloc (Nat.le_refl _) _⟩
  · have d1 : decide (1 ≤ v) = false := by simpa using h1
    have HR : Hid (s.mem v = false) := mem_out (by omega)
    clear h1
    go_enter Tryz.func118, Tryz.ntmps118
    go_wp2
    go_ret
    exact ⟨ret_bool HR.out.symm, (Below.refl _ _).alloc (Nat.le_refl _) _⟩
theorem valid5_any (l n : Int) (w : World) (hn0 : 0 ≤ n) (hn1 : n ≤ 128) (hl : litOk l n = true) : Calls Tryz.prog 116 #[.int .i64 l, .int .i64 n] w fun e w' => e = .returned (.bool true) ∧ w = w' := by
  simp only [litOk, Bool.and_eq_true, decide_eq_true_eq] at hl
  have h := litVar_ne hl.1
  have d1 : (l != 0) = true := by simp; omega
  have d2 : decide (-n ≤ l) = true := by simp; omega
  have d3 : decide (l ≤ n) = true := by simp; omega
  clear hl h
  go_enter Tryz.func116, Tryz.ntmps116
  go_wp2
  go_ret
  exact ⟨rfl, rfl⟩
theorem add_or {a k : Nat} (h : a.testBit k = false) : a + 2 ^ k = a ||| 2 ^ k := by
  have h1 : a % 2 ^ (k + 1) < 2 ^ k := by
    rw [Nat.testBit_eq_decide_div_mod_eq, decide_eq_false_iff_not] at h
    have h2 : a % 2 ^ (k + 1) = 2 ^ k * (a / 2 ^ k % 2) + a % 2 ^ k := by rw [Nat.pow_succ, Nat.mod_mul]; omega
    have h3 : a / 2 ^ k % 2 = 0 := by omega
    rw [h2, h3]
    have := Nat.mod_lt a (show 2 ^ k > 0 from Nat.pow_pos (by omega))
    omega
  have e : a = 2 ^ (k + 1) * (a / 2 ^ (k + 1)) + a % 2 ^ (k + 1) := (Nat.div_add_mod a (2 ^ (k + 1))).symm
  generalize a / 2 ^ (k + 1) = q at e
  generalize a % 2 ^ (k + 1) = r at e h1
  have hp : 2 ^ (k + 1) = 2 ^ k + 2 ^ k := by rw [Nat.pow_succ]; omega
  have e2 : 2 ^ k + r = 2 ^ k ||| r := by have := Nat.two_pow_add_eq_or_of_lt h1 1; simpa using this
  have e3 : 2 ^ (k + 1) * q + r = 2 ^ (k + 1) * q ||| r := Nat.two_pow_add_eq_or_of_lt (by omega) q
  have e4 : 2 ^ (k + 1) * q + (2 ^ k + r) = 2 ^ (k + 1) * q ||| (2 ^ k + r) := Nat.two_pow_add_eq_or_of_lt (by omega) q
  rw [e, show 2 ^ (k + 1) * q + r + 2 ^ k = 2 ^ (k + 1) * q + (2 ^ k + r) by omega, e4, e2, e3, Nat.or_assoc, Nat.or_comm r]
theorem add_same {s : St} {v : Int} (hs : s.ok) (h : s.mem v = true) : s.add v = s := by
  apply St.ext (St.add_ok hs v) hs
  intro u _ _
  rw [St.mem_add]
  by_cases e : u = v
  · subst e; rw [h]; rfl
  · simp [e]
theorem wrap_add {a k : Nat} (ha : a < U64) (hb : a.testBit k = false) (hk : k < 64) : IntKind.u64.wrap ((a : Int) + IntKind.u64.wrap ((2 : Int) ^ k)) = ((a ||| 2 ^ k : Nat) : Int) := by
  have h1 : a + 2 ^ k < U64 := by rw [add_or hb]; exact or_lt_U64 ha (pow_lt_U64 hk)
  rw [wrap_pow hk, ← add_or hb]
  unfold U64 at h1
  generalize 2 ^ k = p at *
  rw [show ((a : Int) + (p : Int)) = ((a + p : Nat) : Int) by simp]
  exact IntWalk.u64_in _ (by omega)
theorem with21_any (s : St) (v : Int) (w : World) (hs : s.ok) (hv1 : 1 ≤ v) (hv2 : v ≤ 128) : Calls Tryz.prog 74 #[stv s, .int .i64 v] w fun e w' => e = .returned (stv (s.add v)) ∧ Below w.heap.size w w' := by
  have hb0 := ((Below.refl w.heap.size w).alloc (Nat.le_refl _) (.cells #[.int .u64 (s.a : Int), .int .u64 (s.b : Int)] 38)).alloc (by simp) (.cells #[.int .u64 0, .int .u64 0] 38)
  have HB0 := Lib.hid hb0
  have HH := Lib.hid (fun V => has5_any s v V hs)
  have q0 := Lib.hid ((Blk.new w #[.int .u64 (s.a : Int), .int .u64 (s.b : Int)] 38).alloc (.cells #[.int .u64 0, .int .u64 0] 38))
  have q1 := Lib.hid (Blk.new' (w.alloc (.cells #[.int .u64 (s.a : Int), .int .u64 (s.b : Int)] 38)) (World.size_alloc _ _) #[.int .u64 0, .int .u64 0] 38)
  have HS := Lib.hid hs
  clear hb0 hs
  cases hm : s.mem v with
  | true =>
    rw [hm] at HH
    have HR : Hid (s.add v = s) := add_same HS.out hm
    clear hm
    go_enter Tryz.func74, Tryz.ntmps74
    go_wp2_with fail
    refine (HH.out _).mono ?_
    rintro e w1 ⟨rfl, hb1⟩
    have R0 := Lib.hid (q0.out.later hb1)
    have R1 := Lib.hid (q1.out.later hb1)
    have HB1 := Lib.hid (HB0.out.trans (hb1.mono HB0.out.size))
    have k0 : w1.cell? ⟨w.heap.size, 0, none⟩ = some (.int .u64 (s.a : Int)) := R0.out.cell 0
    have k1 : w1.cell? ⟨w.heap.size, 1, none⟩ = some (.int .u64 (s.b : Int)) := R0.out.cell 1
    have k2 : w1.cell? ⟨w.heap.size + 1, 0, none⟩ = some (.int .u64 0) := R1.out.cell 0
    have k3 : w1.cell? ⟨w.heap.size + 1, 1, none⟩ = some (.int .u64 0) := R1.out.cell 1
    have f0 := R1.out.fr 0
    have f1 := R1.out.fr 1
    have hz : w.heap.size + 1 < w1.heap.size := R1.out.lt
    clear hb1
    go_wp2
    have hbr := (R1.out.set 0 (.int .u64 (s.a : Int))).set 1 (.int .u64 (s.b : Int))
    have e0 : ((w1.setCell ⟨w.heap.size + 1, 0, none⟩ (.int .u64 (s.a : Int))).setCell ⟨w.heap.size + 1, 1, none⟩ (.int .u64 (s.b : Int))).cell? ⟨w.heap.size + 1, 0, none⟩ = some (.int .u64 (s.a : Int)) := hbr.cell 0
    have e1 : ((w1.setCell ⟨w.heap.size + 1, 0, none⟩ (.int .u64 (s.a : Int))).setCell ⟨w.heap.size + 1, 1, none⟩ (.int .u64 (s.b : Int))).cell? ⟨w.heap.size + 1, 1, none⟩ = some (.int .u64 (s.b : Int)) := hbr.cell 1
    exact bodyPost_ret (v := stv s) (by simp [results, Tryz.results74, go_sem, e0, e1]) rfl ⟨by rw [HR.out], (HB1.out.setCell (show w.heap.size ≤ (⟨w.heap.size + 1, 0, none⟩ : Addr).block by dsimp only; omega) _).setCell (show w.heap.size ≤ (⟨w.heap.size + 1, 1, none⟩ : Addr).block by dsimp only; omega) _⟩
  | false =>
    rw [hm] at HH
    by_cases hv : v ≤ 64
    · have e1 : (v - 1) / 64 = 0 := by omega
      have e2 : (v - 1) % 64 = v - 1 := by omega
      have hbit : s.a.testBit (v.toNat - 1) = false := by
        have := hm; unfold St.mem at this; rw [if_pos (by omega)] at this
        rwa [show (v - 1).toNat = v.toNat - 1 by omega] at this
      obtain ⟨A, hA⟩ : ∃ A : Nat, A = s.a ||| 2 ^ (v.toNat - 1) := ⟨_, rfl⟩
      have HR : Hid (s.add v = ⟨A, s.b⟩) := by
        show _ = _; unfold St.add; rw [if_pos (by omega), show (v - 1).toNat = v.toNat - 1 by omega, hA]
      have hw : IntKind.u64.wrap ((s.a : Int) + IntKind.u64.wrap ((2 : Int) ^ (v.toNat - 1))) = (A : Int) := by rw [hA]; exact wrap_add HS.out.1 hbit (by omega)
      clear hm hbit hA
      go_enter Tryz.func74, Tryz.ntmps74
      go_wp2_with fail
      refine (HH.out _).mono ?_
      rintro e w1 ⟨rfl, hb1⟩
      have R0 := Lib.hid (q0.out.later hb1)
      have R1 := Lib.hid (q1.out.later hb1)
      have HB1 := Lib.hid (HB0.out.trans (hb1.mono HB0.out.size))
      have k0 : w1.cell? ⟨w.heap.size, 0, none⟩ = some (.int .u64 (s.a : Int)) := R0.out.cell 0
      have k1 : w1.cell? ⟨w.heap.size, 1, none⟩ = some (.int .u64 (s.b : Int)) := R0.out.cell 1
      have k2 : w1.cell? ⟨w.heap.size + 1, 0, none⟩ = some (.int .u64 0) := R1.out.cell 0
      have k3 : w1.cell? ⟨w.heap.size + 1, 1, none⟩ = some (.int .u64 0) := R1.out.cell 1
      have f0 := R1.out.fr 0
      have f1 := R1.out.fr 1
      have g0 := R0.out.fr 0
      have g1 := R0.out.fr 1
      have hz : w.heap.size + 1 < w1.heap.size := R1.out.lt
      clear hb1
      go_wp2
      have hbr := ((R1.out.other ⟨w.heap.size, 0, none⟩ (.int .u64 (A : Int)) (by simp)).set 0 (.int .u64 (A : Int))).set 1 (.int .u64 (s.b : Int))
      have e0 : (((w1.setCell ⟨w.heap.size, 0, none⟩ (.int .u64 (A : Int))).setCell ⟨w.heap.size + 1, 0, none⟩ (.int .u64 (A : Int))).setCell ⟨w.heap.size + 1, 1, none⟩ (.int .u64 (s.b : Int))).cell? ⟨w.heap.size + 1, 0, none⟩ = some (.int .u64 (A : Int)) := hbr.cell 0
      have e1 : (((w1.setCell ⟨w.heap.size, 0, none⟩ (.int .u64 (A : Int))).setCell ⟨w.heap.size + 1, 0, none⟩ (.int .u64 (A : Int))).setCell ⟨w.heap.size + 1, 1, none⟩ (.int .u64 (s.b : Int))).cell? ⟨w.heap.size + 1, 1, none⟩ = some (.int .u64 (s.b : Int)) := hbr.cell 1
      exact bodyPost_ret (v := stv ⟨A, s.b⟩) (by simp [results, Tryz.results74, go_sem, e0, e1]) rfl ⟨by rw [HR.out], ((HB1.out.setCell (show w.heap.size ≤ (⟨w.heap.size, 0, none⟩ : Addr).block from Nat.le_refl _) _).setCell (show w.heap.size ≤ (⟨w.heap.size + 1, 0, none⟩ : Addr).block by dsimp only; omega) _).setCell (show w.heap.size ≤ (⟨w.heap.size + 1, 1, none⟩ : Addr).block by dsimp only; omega) _⟩
    · have e1 : (v - 1) / 64 = 1 := by omega
      have e2 : (v - 1) % 64 = v - 65 := by omega
      have hv65 : 65 ≤ v := by omega
      have hbit : s.b.testBit (v - 65).toNat = false := by
        have := hm; unfold St.mem at this; rw [if_neg (by omega), if_pos (by omega)] at this
        exact this
      obtain ⟨A, hA⟩ : ∃ A : Nat, A = s.b ||| 2 ^ (v - 65).toNat := ⟨_, rfl⟩
      have HR : Hid (s.add v = ⟨s.a, A⟩) := by
        show _ = _; unfold St.add; rw [if_neg (by omega), if_pos (by omega), hA]
      have hw : IntKind.u64.wrap ((s.b : Int) + IntKind.u64.wrap ((2 : Int) ^ (v - 65).toNat)) = (A : Int) := by rw [hA]; exact wrap_add HS.out.2 hbit (by omega)
      clear hm hbit hA
      go_enter Tryz.func74, Tryz.ntmps74
      go_wp2_with fail
      refine (HH.out _).mono ?_
      rintro e w1 ⟨rfl, hb1⟩
      have R0 := Lib.hid (q0.out.later hb1)
      have R1 := Lib.hid (q1.out.later hb1)
      have HB1 := Lib.hid (HB0.out.trans (hb1.mono HB0.out.size))
      have k0 : w1.cell? ⟨w.heap.size, 0, none⟩ = some (.int .u64 (s.a : Int)) := R0.out.cell 0
      have k1 : w1.cell? ⟨w.heap.size, 1, none⟩ = some (.int .u64 (s.b : Int)) := R0.out.cell 1
      have k2 : w1.cell? ⟨w.heap.size + 1, 0, none⟩ = some (.int .u64 0) := R1.out.cell 0
      have k3 : w1.cell? ⟨w.heap.size + 1, 1, none⟩ = some (.int .u64 0) := R1.out.cell 1
      have f0 := R1.out.fr 0
      have f1 := R1.out.fr 1
      have g0 := R0.out.fr 0
      have g1 := R0.out.fr 1
      have hz : w.heap.size + 1 < w1.heap.size := R1.out.lt
      clear hb1
      go_wp2
      have hbr := ((R1.out.other ⟨w.heap.size, 1, none⟩ (.int .u64 (A : Int)) (by simp)).set 0 (.int .u64 (s.a : Int))).set 1 (.int .u64 (A : Int))
      have e0 : (((w1.setCell ⟨w.heap.size, 1, none⟩ (.int .u64 (A : Int))).setCell ⟨w.heap.size + 1, 0, none⟩ (.int .u64 (s.a : Int))).setCell ⟨w.heap.size + 1, 1, none⟩ (.int .u64 (A : Int))).cell? ⟨w.heap.size + 1, 0, none⟩ = some (.int .u64 (s.a : Int)) := hbr.cell 0
      have e1 : (((w1.setCell ⟨w.heap.size, 1, none⟩ (.int .u64 (A : Int))).setCell ⟨w.heap.size + 1, 0, none⟩ (.int .u64 (s.a : Int))).setCell ⟨w.heap.size + 1, 1, none⟩ (.int .u64 (A : Int))).cell? ⟨w.heap.size + 1, 1, none⟩ = some (.int .u64 (A : Int)) := hbr.cell 1
      exact bodyPost_ret (v := stv ⟨s.a, A⟩) (by simp [results, Tryz.results74, go_sem, e0, e1]) rfl ⟨by rw [HR.out], ((HB1.out.setCell (show w.heap.size ≤ (⟨w.heap.size, 1, none⟩ : Addr).block from Nat.le_refl _) _).setCell (show w.heap.size ≤ (⟨w.heap.size + 1, 0, none⟩ : Addr).block by dsimp only; omega) _).setCell (show w.heap.size ≤ (⟨w.heap.size + 1, 1, none⟩ : Addr).block by dsimp only; omega) _⟩
theorem meets_any (s t : St) (w : World) (hs : s.ok) (ht : t.ok) : Calls Tryz.prog 104 #[stv s, stv t] w fun e w' => e = .returned (.bool (decide (s.cut t ≠ St.zero))) ∧ Below w.heap.size w w' := by
  have hb0 := ((Below.refl w.heap.size w).alloc (Nat.le_refl _) (.cells #[.int .u64 (s.a : Int), .int .u64 (s.b : Int)] 38)).alloc (by simp) (.cells #[.int .u64 (t.a : Int), .int .u64 (t.b : Int)] 38)
  have HB0 := Lib.hid hb0
  have HA := Lib.hid (fun v V => has5_any s v V hs)
  have HT := Lib.hid (fun v V => has5_any t v V ht)
  have q0 := Lib.hid ((Blk.new w #[.int .u64 (s.a : Int), .int .u64 (s.b : Int)] 38).alloc (.cells #[.int .u64 (t.a : Int), .int .u64 (t.b : Int)] 38))
  have q1 := Lib.hid (Blk.new' (w.alloc (.cells #[.int .u64 (s.a : Int), .int .u64 (s.b : Int)] 38)) (World.size_alloc _ _) #[.int .u64 (t.a : Int), .int .u64 (t.b : Int)] 38)
  have HS := Lib.hid hs
  have HTT := Lib.hid ht
  clear hb0 hs ht
  go_enter Tryz.func104, Tryz.ntmps104
  go_wp2
  generalize (w.alloc (.cells #[.int .u64 (s.a : Int), .int .u64 (s.b : Int)] 38)).alloc (.cells #[.int .u64 (t.a : Int), .int .u64 (t.b : Int)] 38) = W at *
  go_loopw [5] (fun i wr => ∃ k : Nat, k ≤ 128 ∧ i = .int .i64 (k + 1) ∧ (∀ u : Int, 1 ≤ u → u ≤ k → (s.mem u && t.mem u) = false) ∧ Below W.heap.size W wr) (fun i _ => 129 - (intOf i).toNat)
  case atStart => exact ⟨0, by omega, rfl, fun u h1 h2 => by omega, Below.refl _ _⟩
  case round =>
    obtain ⟨k, hk, rfl, hno, hb⟩ := hrel
    have HN := Lib.hid hno
    have HB := Lib.hid hb
    have R0 := Lib.hid (q0.out.later hb)
    have R1 := Lib.hid (q1.out.later hb)
    have HBA := Lib.hid (HB0.out.trans (hb.mono HB0.out.size))
    have k0 : wr.cell? ⟨w.heap.size, 0, none⟩ = some (.int .u64 (s.a : Int)) := R0.out.cell 0
    have k1 : wr.cell? ⟨w.heap.size, 1, none⟩ = some (.int .u64 (s.b : Int)) := R0.out.cell 1
    clear hno hb
    by_cases hlt : k < 128
    · have hd : decide (((k : Int) + 1) ≤ 128) = true := by simp; omega
      cases h1 : s.mem ((k : Int) + 1) with
      | false =>
        have HA1 := Lib.hid (HA.out ((k : Int) + 1))
        rw [h1] at HA1
        have H1 := Lib.hid h1
        clear h1
        go_wp2_with fail
        refine (HA1.out _).mono ?_
        rintro e w1 ⟨rfl, hb1⟩
        have HB1 := Lib.hid (HB.out.trans (hb1.mono HB.out.size))
        clear hb1
        go_wp2
        go_roundw
        case rel => exact ⟨k + 1, by omega, by go_num, fun u hu1 hu2 => by
          by_cases e : u = (k : Int) + 1
          · rw [e, H1.out]; rfl
          · exact HN.out u hu1 (by omega), HB1.out⟩
        case measure => simp [intOf]; omega
      | true =>
        have HA1 := Lib.hid (HA.out ((k : Int) + 1))
        rw [h1] at HA1
        have H1 := Lib.hid h1
        clear h1
        go_wp2_with fail
        refine (HA1.out _).mono ?_
        rintro e w1 ⟨rfl, hb1⟩
        have HB1 := Lib.hid (HB.out.trans (hb1.mono HB.out.size))
        have R11 := R1.out.later hb1
        have k2 : w1.cell? ⟨w.heap.size + 1, 0, none⟩ = some (.int .u64 (t.a : Int)) := R11.cell 0
        have k3 : w1.cell? ⟨w.heap.size + 1, 1, none⟩ = some (.int .u64 (t.b : Int)) := R11.cell 1
        clear hb1 k0 k1 R11
        cases h2 : t.mem ((k : Int) + 1) with
        | false =>
          have HT1 := Lib.hid (HT.out ((k : Int) + 1))
          rw [h2] at HT1
          have H2 := Lib.hid h2
          clear h2
          go_wp2_with fail
          refine (HT1.out _).mono ?_
          rintro e w2 ⟨rfl, hb2⟩
          have HB2 := Lib.hid (HB1.out.trans (hb2.mono HB1.out.size))
          clear hb2
          go_wp2
          go_roundw
          case rel => exact ⟨k + 1, by omega, by go_num, fun u hu1 hu2 => by
            by_cases e : u = (k : Int) + 1
            · rw [e, H2.out]; simp
            · exact HN.out u hu1 (by omega), HB2.out⟩
          case measure => simp [intOf]; omega
        | true =>
          have HT1 := Lib.hid (HT.out ((k : Int) + 1))
          rw [h2] at HT1
          have HR : Hid (decide (s.cut t ≠ St.zero) = true) := by
            show _ = _; rw [decide_eq_true_iff]; intro e
            have : (s.cut t).mem ((k : Int) + 1) = true := by rw [St.mem_cut, H1.out, h2]; rfl
            rw [e, St.mem_zero] at this; simp at this
          clear h2
          go_wp2_with fail
          refine (HT1.out _).mono ?_
          rintro e w2 ⟨rfl, hb2⟩
          have HB2 := Lib.hid (HB1.out.trans (hb2.mono HB1.out.size))
          clear hb2
          go_wp2
          go_ret
          exact ⟨ret_bool HR.out.symm, HB0.out.trans (HB2.out.mono HB0.out.size)⟩
    · have : k = 128 := by omega
      subst this
      have HR : Hid (decide (s.cut t ≠ St.zero) = false) := by
        show _ = _; rw [decide_eq_false_iff_not]; intro hne; apply hne
        apply St.ext (St.cut_ok HS.out) St.zero_ok
        intro u hu1 hu2
        rw [St.mem_zero, St.mem_cut]
        exact HN.out u hu1 (by omega)
      go_wp2
      go_ret
      exact ⟨ret_bool HR.out.symm, HBA.out⟩
end Go.Proofs.YtfdonhfhcomjaaaGreatDoor
