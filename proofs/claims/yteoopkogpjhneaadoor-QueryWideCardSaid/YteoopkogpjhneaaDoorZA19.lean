/- Part of the proofs that laws of censuslaw38 return true for every input, where the tables that the rows list are laid. Texts: QCnt, Law, ListQ. -/
import Derived.Test.YteoopkogpjhneaaDoorZA18

/- The walks of query.Valid, Same, Counter. -/
namespace Go.Proofs.YteoopkogpjhneaaDoor
open Go.RowKit Cen
set_option maxHeartbeats 4000000
set_option maxRecDepth 100000
theorem valid_any (n : Int) (a : Option Addr) (cap : Nat) (l : List Nd) (w : World) (hx : NdCells w a l) (hl : l.length ≤ 1073741824) (hs : netOk ⟨n, l⟩ = true → Small l) (hco : impCost ⟨n, l⟩ []) (ht : Tab w) :
    Calls Tryd.prog 9 #[.agg #[.int .i64 n, .slice a l.length cap]] w fun e w' => e = .returned (.tuple #[.bool (impR ⟨n, l⟩ []), .int .i64 (chkR [] ⟨n, l⟩)]) ∧ Below w.heap.size w w' := by
  have hb0 : Below w.heap.size w (w.alloc (.cells #[.int .i64 n, .slice a l.length cap] 25)) := (Below.refl _ _).alloc (Nat.le_refl _) _
  have HB0 := Lib.hid hb0
  have HI := Lib.hid (implies_any n a cap l none 0 [] _ (hx.keep hb0) hl (IntCells.nil _ _) (by simp) hs hco (ht.keep hb0))
  clear hx hs hco ht hb0
  go_enter Tryd.func9, Tryd.ntmps9
  go_wp2_with fail
  refine HI.out.mono ?_
  rintro e w1 ⟨rfl, hb1⟩
  have HB1 := Lib.hid (HB0.out.trans (hb1.mono HB0.out.size))
  clear hb1
  go_wp2
  go_ret2
  exact ⟨rfl, HB1.out⟩
theorem same2_any (n m : Int) (aa ab : Option Addr) (ca cb : Nat) (a b : List Nd) (w : World) (xa : NdCells w aa a) (xb : NdCells w ab b) (hla : a.length ≤ 1073741824) (hlb : b.length ≤ 1073741824) (sa : netOk ⟨n, a⟩ = true → Small a) (sb : netOk ⟨m, b⟩ = true → Small b) (hco : cntCost ⟨n, a⟩ ⟨m, b⟩ ∧ (chk2 ⟨n, a⟩ ⟨m, b⟩ = 0 → costP n n.toNat (gvL n [] b) (gvL n [] a) ≤ 1000000000)) (ht : Tab w) :
    Calls Tryd.prog 10 #[.agg #[.int .i64 n, .slice aa a.length ca], .agg #[.int .i64 m, .slice ab b.length cb]] w fun e w' => e = .returned (.tuple #[.bool (sameR ⟨n, a⟩ ⟨m, b⟩), .int .i64 (chk2 ⟨n, a⟩ ⟨m, b⟩)]) ∧ Below w.heap.size w w' := by
  have XA := Lib.hid xa
  have XB := Lib.hid xb
  have hb0 : Below w.heap.size w (((w.alloc (.cells #[.int .i64 n, .slice aa a.length ca] 25)).alloc (.cells #[.int .i64 m, .slice ab b.length cb] 25)).alloc (.cells #[.int .i64 n, .slice aa a.length ca, .int .i64 m, .slice ab b.length cb] 25)) := ((((Below.refl w.heap.size w).alloc (by (try simp only [World.size_alloc]); omega) _).alloc (by (try simp only [World.size_alloc]); omega) _).alloc (by (try simp only [World.size_alloc]); omega) _)
  have HB0 := Lib.hid hb0
  have HCK := Lib.hid (check2_any (w.heap.size + 1 + 1) n m aa ab ca cb a b _ (Blk.new' ((w.alloc (.cells #[.int .i64 n, .slice aa a.length ca] 25)).alloc (.cells #[.int .i64 m, .slice ab b.length cb] 25)) (by simp only [World.size_alloc]) #[.int .i64 n, .slice aa a.length ca, .int .i64 m, .slice ab b.length cb] 25) (xa.keep hb0) (xb.keep hb0) hla hlb)
  have q0 : Hid (Blk (((w.alloc (.cells #[.int .i64 n, .slice aa a.length ca] 25)).alloc (.cells #[.int .i64 m, .slice ab b.length cb] 25)).alloc (.cells #[.int .i64 n, .slice aa a.length ca, .int .i64 m, .slice ab b.length cb] 25)) w.heap.size #[.int .i64 n, .slice aa a.length ca] 25) := (((Blk.new w #[.int .i64 n, .slice aa a.length ca] 25).alloc _).alloc _)
  have q1 : Hid (Blk (((w.alloc (.cells #[.int .i64 n, .slice aa a.length ca] 25)).alloc (.cells #[.int .i64 m, .slice ab b.length cb] 25)).alloc (.cells #[.int .i64 n, .slice aa a.length ca, .int .i64 m, .slice ab b.length cb] 25)) (w.heap.size + 1) #[.int .i64 m, .slice ab b.length cb] 25) := ((Blk.new' (w.alloc (.cells #[.int .i64 n, .slice aa a.length ca] 25)) (by simp only [World.size_alloc]) #[.int .i64 m, .slice ab b.length cb] 25).alloc _)
  have HT := Lib.hid ht
  have SA := Lib.hid sa
  have SB := Lib.hid sb
  have HCO := Lib.hid hco
  clear xa xb hb0 ht sa sb hco
  by_cases hc : chk2 ⟨n, a⟩ ⟨m, b⟩ = 0
  · obtain ⟨h1, h2, h3, _, _⟩ := chk2_ok hc
    simp only at h3
    subst h3
    have HA := Lib.hid h1
    have HB := Lib.hid h2
    have HC := Lib.hid hc
    rw [hc] at HCK
    have HR : Hid (sameR ⟨n, a⟩ ⟨n, b⟩ = ((cntL n a b).isNone && (cntL n b a).isNone)) := by show _ = _; unfold sameR; rw [decide_eq_true hc]; rfl
    have HCA := Lib.hid (HCO.out.1 hc)
    have HCB := Lib.hid (HCO.out.2 hc)
    clear hc h1 h2
    go_enter Tryd.func10, Tryd.ntmps10
    go_wp2_with fail
    refine HCK.out.mono ?_
    rintro e w1 ⟨rfl, hb1⟩
    have HB1 := Lib.hid (HB0.out.trans (hb1.mono HB0.out.size))
    have p0 := q0.out.later hb1
    have p1 := q1.out.later hb1
    have P0 := Lib.hid p0
    have P1 := Lib.hid p1
    have k0 : w1.cell? ⟨w.heap.size, 0, none⟩ = some (.int .i64 n) := p0.cell 0
    have k1 : w1.cell? ⟨w.heap.size, 1, none⟩ = some (.slice aa a.length ca) := p0.cell 1
    have k2 : w1.cell? ⟨w.heap.size + 1, 0, none⟩ = some (.int .i64 n) := p1.cell 0
    have k3 : w1.cell? ⟨w.heap.size + 1, 1, none⟩ = some (.slice ab b.length cb) := p1.cell 1
    have H1 := Lib.hid (counter_any n a b aa ab ca cb w1 HA.out HB.out (SA.out HA.out) (SB.out HB.out) (XA.out.keep HB1.out) (XB.out.keep HB1.out) HCA.out (HT.out.keep HB1.out))
    clear hb1 p0 p1
    go_wp2_with fail
    refine H1.out.mono ?_
    rintro e w2 ⟨rfl, hb2⟩
    have hb3 : Below w1.heap.size w1 (w2.alloc (.cells #[.int .u64 ((foundOf St.zero (cntL n a b)).a : Int), .int .u64 ((foundOf St.zero (cntL n a b)).b : Int)] 36)) := hb2.alloc hb2.size _
    have HB3 := Lib.hid (HB1.out.trans (hb3.mono HB1.out.size))
    have p0 := P0.out.later hb3
    have p1 := P1.out.later hb3
    clear k0 k1 k2 k3
    have hzz : w.heap.size + 1 < w2.heap.size := (P1.out.later hb2).lt
    have hzz0 : w.heap.size < w2.heap.size := by omega
    have j0 := P0.out.later hb2
    have j1 := P1.out.later hb2
    have k0 : w2.cell? ⟨w.heap.size, 0, none⟩ = some (.int .i64 n) := j0.cell 0
    have k1 : w2.cell? ⟨w.heap.size, 1, none⟩ = some (.slice aa a.length ca) := j0.cell 1
    have k2 : w2.cell? ⟨w.heap.size + 1, 0, none⟩ = some (.int .i64 n) := j1.cell 0
    have k3 : w2.cell? ⟨w.heap.size + 1, 1, none⟩ = some (.slice ab b.length cb) := j1.cell 1
    have H2 := Lib.hid (counter_any n b a ab aa cb ca _ HB.out HA.out (SB.out HB.out) (SA.out HA.out) (XB.out.keep HB3.out) (XA.out.keep HB3.out) HCB.out (HT.out.keep HB3.out))
    clear hb2 hb3 p0 p1 j0 j1
    go_wp2_with fail
    refine H2.out.mono ?_
    rintro e w4 ⟨rfl, hb4⟩
    have HB4 := Lib.hid ((HB3.out.trans (hb4.mono HB3.out.size)).alloc (Nat.le_trans HB3.out.size hb4.size) (.cells #[.int .u64 ((foundOf St.zero (cntL n b a)).a : Int), .int .u64 ((foundOf St.zero (cntL n b a)).b : Int)] 36))
    clear hb4
    cases hA : cntL n a b with
    | none =>
      rw [hA] at HR
      cases hB : cntL n b a with
      | none =>
        rw [hB] at HR HB4
        clear hA hB
        go_wp2
        go_ret2
        exact ⟨by rw [HR.out, HC.out]; rfl, HB4.out⟩
      | some m2 =>
        rw [hB] at HR HB4
        clear hA hB
        go_wp2
        go_ret2
        exact ⟨by rw [HR.out, HC.out]; rfl, HB4.out⟩
    | some m1 =>
      rw [hA] at HR
      clear hA
      go_wp2
      go_ret2
      exact ⟨by rw [HR.out, HC.out]; rfl, HB4.out⟩
  · have HC := Lib.hid hc
    have hcb : (chk2 ⟨n, a⟩ ⟨m, b⟩ != 0) = true := by simpa using hc
    clear hc
    have HR : Hid (sameR ⟨n, a⟩ ⟨m, b⟩ = false) := by show _ = _; unfold sameR; rw [decide_eq_false HC.out]; rfl
    go_enter Tryd.func10, Tryd.ntmps10
    go_wp2_with fail
    refine HCK.out.mono ?_
    rintro e w1 ⟨rfl, hb1⟩
    have HB1 := Lib.hid (HB0.out.trans (hb1.mono HB0.out.size))
    clear hb1
    go_wp2
    go_ret2
    exact ⟨by rw [HR.out]; rfl, HB1.out⟩
theorem counter2_any (n m : Int) (aa ab : Option Addr) (ca cb : Nat) (a b : List Nd) (w : World) (xa : NdCells w aa a) (xb : NdCells w ab b) (hla : a.length ≤ 1073741824) (hlb : b.length ≤ 1073741824) (sa : netOk ⟨n, a⟩ = true → Small a) (sb : netOk ⟨m, b⟩ = true → Small b) (hco : cntCost ⟨n, a⟩ ⟨m, b⟩) (ht : Tab w) :
    Calls Tryd.prog 11 #[.agg #[.int .i64 n, .slice aa a.length ca], .agg #[.int .i64 m, .slice ab b.length cb]] w fun e w' => e = .returned (.tuple #[stv (foundOf St.zero (cntR ⟨n, a⟩ ⟨m, b⟩)), .bool (cntR ⟨n, a⟩ ⟨m, b⟩).isSome, .int .i64 (chk2 ⟨n, a⟩ ⟨m, b⟩)]) ∧ Below w.heap.size w w' := by
  have XA := Lib.hid xa
  have XB := Lib.hid xb
  have hb0 : Below w.heap.size w ((((w.alloc (.cells #[.int .i64 n, .slice aa a.length ca] 25)).alloc (.cells #[.int .i64 m, .slice ab b.length cb] 25)).alloc (.cells #[.int .u64 0, .int .u64 0] 36)).alloc (.cells #[.int .i64 n, .slice aa a.length ca, .int .i64 m, .slice ab b.length cb] 25)) := (((((Below.refl w.heap.size w).alloc (by (try simp only [World.size_alloc]); omega) _).alloc (by (try simp only [World.size_alloc]); omega) _).alloc (by (try simp only [World.size_alloc]); omega) _).alloc (by (try simp only [World.size_alloc]); omega) _)
  have HB0 := Lib.hid hb0
  have HCK := Lib.hid (check2_any (w.heap.size + 1 + 1 + 1) n m aa ab ca cb a b _ (Blk.new' (((w.alloc (.cells #[.int .i64 n, .slice aa a.length ca] 25)).alloc (.cells #[.int .i64 m, .slice ab b.length cb] 25)).alloc (.cells #[.int .u64 0, .int .u64 0] 36)) (by simp only [World.size_alloc]) #[.int .i64 n, .slice aa a.length ca, .int .i64 m, .slice ab b.length cb] 25) (xa.keep hb0) (xb.keep hb0) hla hlb)
  have q0 : Hid (Blk ((((w.alloc (.cells #[.int .i64 n, .slice aa a.length ca] 25)).alloc (.cells #[.int .i64 m, .slice ab b.length cb] 25)).alloc (.cells #[.int .u64 0, .int .u64 0] 36)).alloc (.cells #[.int .i64 n, .slice aa a.length ca, .int .i64 m, .slice ab b.length cb] 25)) w.heap.size #[.int .i64 n, .slice aa a.length ca] 25) := ((((Blk.new w #[.int .i64 n, .slice aa a.length ca] 25).alloc _).alloc _).alloc _)
  have q1 : Hid (Blk ((((w.alloc (.cells #[.int .i64 n, .slice aa a.length ca] 25)).alloc (.cells #[.int .i64 m, .slice ab b.length cb] 25)).alloc (.cells #[.int .u64 0, .int .u64 0] 36)).alloc (.cells #[.int .i64 n, .slice aa a.length ca, .int .i64 m, .slice ab b.length cb] 25)) (w.heap.size + 1) #[.int .i64 m, .slice ab b.length cb] 25) := (((Blk.new' (w.alloc (.cells #[.int .i64 n, .slice aa a.length ca] 25)) (by simp only [World.size_alloc]) #[.int .i64 m, .slice ab b.length cb] 25).alloc _).alloc _)
  have q2 : Hid (Blk ((((w.alloc (.cells #[.int .i64 n, .slice aa a.length ca] 25)).alloc (.cells #[.int .i64 m, .slice ab b.length cb] 25)).alloc (.cells #[.int .u64 0, .int .u64 0] 36)).alloc (.cells #[.int .i64 n, .slice aa a.length ca, .int .i64 m, .slice ab b.length cb] 25)) (w.heap.size + 1 + 1) #[.int .u64 0, .int .u64 0] 36) := ((Blk.new' ((w.alloc (.cells #[.int .i64 n, .slice aa a.length ca] 25)).alloc (.cells #[.int .i64 m, .slice ab b.length cb] 25)) (by simp only [World.size_alloc]) #[.int .u64 0, .int .u64 0] 36).alloc _)
  have HT := Lib.hid ht
  have SA := Lib.hid sa
  have SB := Lib.hid sb
  have HCO := Lib.hid hco
  clear xa xb hb0 ht sa sb hco
  by_cases hc : chk2 ⟨n, a⟩ ⟨m, b⟩ = 0
  · obtain ⟨h1, h2, h3, _, _⟩ := chk2_ok hc
    simp only at h3
    subst h3
    have HA := Lib.hid h1
    have HB := Lib.hid h2
    have HC := Lib.hid hc
    rw [hc] at HCK
    have HR : Hid (cntR ⟨n, a⟩ ⟨n, b⟩ = cntL n a b) := by show _ = _; unfold cntR; rw [if_pos hc]
    have HCA := Lib.hid (HCO.out hc)
    clear hc h1 h2
    go_enter Tryd.func11, Tryd.ntmps11
    go_wp2_with fail
    refine HCK.out.mono ?_
    rintro e w1 ⟨rfl, hb1⟩
    have HB1 := Lib.hid (HB0.out.trans (hb1.mono HB0.out.size))
    have p0 := q0.out.later hb1
    have p1 := q1.out.later hb1
    have Q2 := Lib.hid (q2.out.later hb1)
    have k0 : w1.cell? ⟨w.heap.size, 0, none⟩ = some (.int .i64 n) := p0.cell 0
    have k1 : w1.cell? ⟨w.heap.size, 1, none⟩ = some (.slice aa a.length ca) := p0.cell 1
    have k2 : w1.cell? ⟨w.heap.size + 1, 0, none⟩ = some (.int .i64 n) := p1.cell 0
    have k3 : w1.cell? ⟨w.heap.size + 1, 1, none⟩ = some (.slice ab b.length cb) := p1.cell 1
    have H1 := Lib.hid (counter_any n a b aa ab ca cb w1 HA.out HB.out (SA.out HA.out) (SB.out HB.out) (XA.out.keep HB1.out) (XB.out.keep HB1.out) HCA.out (HT.out.keep HB1.out))
    clear hb1 p0 p1
    go_wp2_with fail
    refine H1.out.mono ?_
    rintro e w2 ⟨rfl, hb2⟩
    have HB2 := Lib.hid (HB1.out.trans (hb2.mono HB1.out.size))
    obtain ⟨F, hF⟩ : ∃ F, F = foundOf St.zero (cntL n a b) := ⟨_, rfl⟩
    rw [← hF]
    have HF := Lib.hid hF
    have D2 := Lib.hid (Q2.out.later hb2)
    have d0 := D2.out.fr 0
    have d1 := D2.out.fr 1
    have d2 : w2.cell? ⟨w.heap.size + 1 + 1, 0, none⟩ = some (.int .u64 0) := D2.out.cell 0
    have d3 : w2.cell? ⟨w.heap.size + 1 + 1, 1, none⟩ = some (.int .u64 0) := D2.out.cell 1
    have hz : w.heap.size + 1 + 1 < w2.heap.size := D2.out.lt
    clear hb2 hF k0 k1 k2 k3
    go_wp2
    have hbr := ((D2.out.set 0 (.int .u64 (F.a : Int))).set 1 (.int .u64 (F.b : Int))).alloc (.cells #[.int .u64 (F.a : Int), .int .u64 (F.b : Int)] 36)
    have e0 : (((w2.setCell ⟨w.heap.size + 1 + 1, 0, none⟩ (.int .u64 (F.a : Int))).setCell ⟨w.heap.size + 1 + 1, 1, none⟩ (.int .u64 (F.b : Int))).alloc (.cells #[.int .u64 (F.a : Int), .int .u64 (F.b : Int)] 36)).cell? ⟨w.heap.size + 1 + 1, 0, none⟩ = some (.int .u64 (F.a : Int)) := hbr.cell 0
    have e1 : (((w2.setCell ⟨w.heap.size + 1 + 1, 0, none⟩ (.int .u64 (F.a : Int))).setCell ⟨w.heap.size + 1 + 1, 1, none⟩ (.int .u64 (F.b : Int))).alloc (.cells #[.int .u64 (F.a : Int), .int .u64 (F.b : Int)] 36)).cell? ⟨w.heap.size + 1 + 1, 1, none⟩ = some (.int .u64 (F.b : Int)) := hbr.cell 1
    have hfb : Below w.heap.size w (((w2.setCell ⟨w.heap.size + 1 + 1, 0, none⟩ (.int .u64 (F.a : Int))).setCell ⟨w.heap.size + 1 + 1, 1, none⟩ (.int .u64 (F.b : Int))).alloc (.cells #[.int .u64 (F.a : Int), .int .u64 (F.b : Int)] 36)) :=
      ((HB2.out.setCell (show w.heap.size ≤ (⟨w.heap.size + 1 + 1, 0, none⟩ : Addr).block by dsimp only; omega) _).setCell (show w.heap.size ≤ (⟨w.heap.size + 1 + 1, 1, none⟩ : Addr).block by dsimp only; omega) _).alloc (by rw [World.size_setCell', World.size_setCell']; omega) _
    exact bodyPost_ret (v := .tuple #[stv F, .bool (cntL n a b).isSome, .int .i64 0]) (by simp [results, Tryd.results11, go_sem, e0, e1]) rfl ⟨by rw [HR.out, HC.out, HF.out], hfb⟩
  · have HC := Lib.hid hc
    have hcb : (chk2 ⟨n, a⟩ ⟨m, b⟩ != 0) = true := by simpa using hc
    clear hc
    have HR : Hid (cntR ⟨n, a⟩ ⟨m, b⟩ = none) := by show _ = _; unfold cntR; rw [if_neg HC.out]
    go_enter Tryd.func11, Tryd.ntmps11
    go_wp2_with fail
    refine HCK.out.mono ?_
    rintro e w1 ⟨rfl, hb1⟩
    have HB1 := Lib.hid (HB0.out.trans (hb1.mono HB0.out.size))
    have D2 := Lib.hid (q2.out.later hb1)
    have d0 := D2.out.fr 0
    have d1 := D2.out.fr 1
    have d2 : w1.cell? ⟨w.heap.size + 1 + 1, 0, none⟩ = some (.int .u64 0) := D2.out.cell 0
    have d3 : w1.cell? ⟨w.heap.size + 1 + 1, 1, none⟩ = some (.int .u64 0) := D2.out.cell 1
    have hz : w.heap.size + 1 + 1 < w1.heap.size := D2.out.lt
    clear hb1
    go_wp2
    have hbr := (D2.out.set 0 (.int .u64 0)).set 1 (.int .u64 0)
    have e0 : ((w1.setCell ⟨w.heap.size + 1 + 1, 0, none⟩ (.int .u64 0)).setCell ⟨w.heap.size + 1 + 1, 1, none⟩ (.int .u64 0)).cell? ⟨w.heap.size + 1 + 1, 0, none⟩ = some (.int .u64 0) := hbr.cell 0
    have e1 : ((w1.setCell ⟨w.heap.size + 1 + 1, 0, none⟩ (.int .u64 0)).setCell ⟨w.heap.size + 1 + 1, 1, none⟩ (.int .u64 0)).cell? ⟨w.heap.size + 1 + 1, 1, none⟩ = some (.int .u64 0) := hbr.cell 1
    have hfb : Below w.heap.size w ((w1.setCell ⟨w.heap.size + 1 + 1, 0, none⟩ (.int .u64 0)).setCell ⟨w.heap.size + 1 + 1, 1, none⟩ (.int .u64 0)) :=
      (HB1.out.setCell (show w.heap.size ≤ (⟨w.heap.size + 1 + 1, 0, none⟩ : Addr).block by dsimp only; omega) _).setCell (show w.heap.size ≤ (⟨w.heap.size + 1 + 1, 1, none⟩ : Addr).block by dsimp only; omega) _
    exact bodyPost_ret (v := .tuple #[stv St.zero, .bool false, .int .i64 (chk2 ⟨n, a⟩ ⟨m, b⟩)]) (by simp [results, Tryd.results11, go_sem, e0, e1, St.zero]) rfl ⟨by rw [HR.out]; rfl, hfb⟩
end Go.Proofs.YteoopkogpjhneaaDoor

/- The walks of the law's own functions: or, one, works, light. -/
namespace Go.Proofs.YteoopkogpjhneaaDoor
open Go.RowKit Cen
set_option maxHeartbeats 4000000
set_option maxRecDepth 100000
theorem or_any (w : World) : Calls Tryd.prog 15 #[] w fun e w' => ∃ g, e = .returned (.agg #[.int .i64 2, .slice (some ⟨g, 0, none⟩) 3 3]) ∧ NdCells w' (some ⟨g, 0, none⟩) orN ∧ Below w.heap.size w w' := by
  go_enter Tryd.func15, Tryd.ntmps15
  go_wp2
  have hb : Blk (((w.alloc (.cells #[.int .i64 2, .slice (some ⟨w.heap.size + 1 + 1, 0, none⟩) 3 3] 25)).alloc (.cells #[.int .i64 0, .int .i64 1] 3)).alloc (.cells #[.int .i64 2, .int .i64 1, .slice none 0 0, .int .i64 2, .int .i64 2, .slice none 0 0, .int .i64 4, .int .i64 0, .slice (some ⟨w.heap.size + 1, 0, none⟩) 2 2] 28)) (w.heap.size + 1 + 1) #[.int .i64 2, .int .i64 1, .slice none 0 0, .int .i64 2, .int .i64 2, .slice none 0 0, .int .i64 4, .int .i64 0, .slice (some ⟨w.heap.size + 1, 0, none⟩) 2 2] 28 := Blk.new' _ (by simp only [World.size_alloc]) _ _
  have hi : Blk (((w.alloc (.cells #[.int .i64 2, .slice (some ⟨w.heap.size + 1 + 1, 0, none⟩) 3 3] 25)).alloc (.cells #[.int .i64 0, .int .i64 1] 3)).alloc (.cells #[.int .i64 2, .int .i64 1, .slice none 0 0, .int .i64 2, .int .i64 2, .slice none 0 0, .int .i64 4, .int .i64 0, .slice (some ⟨w.heap.size + 1, 0, none⟩) 2 2] 28)) (w.heap.size + 1) #[.int .i64 0, .int .i64 1] 3 := (Blk.new' _ (by simp only [World.size_alloc]) _ _).alloc _
  refine bodyPost_ret (v := .agg #[.int .i64 2, .slice (some ⟨w.heap.size + 1 + 1, 0, none⟩) 3 3]) (by simp [results, Tryd.results15, go_sem]) rfl ⟨w.heap.size + 1 + 1, rfl, ?_, ((((Below.refl _ _).alloc (Nat.le_refl _) _).alloc (by simp only [World.size_alloc]; omega) _).alloc (by simp only [World.size_alloc]; omega) _)⟩
  intro i hlt
  have h3 : i = 0 ∨ i = 1 ∨ i = 2 := by simp [orN] at hlt; omega
  rcases h3 with rfl | rfl | rfl
  · exact ⟨_, _, rfl, hb.cell 0, hb.cell 1, none, 0, hb.cell 2, IntCells.nil _ _, by simp [orN]⟩
  · exact ⟨_, _, rfl, hb.cell 3, hb.cell 4, none, 0, hb.cell 5, IntCells.nil _ _, by simp [orN]⟩
  · refine ⟨_, _, rfl, hb.cell 6, hb.cell 7, some ⟨w.heap.size + 1, 0, none⟩, 2, hb.cell 8, ?_, by simp [orN]⟩
    intro j hj
    have h2 : j = 0 ∨ j = 1 := by simp [orN] at hj; omega
    rcases h2 with rfl | rfl
    · exact ⟨_, _, rfl, hi.cell 0⟩
    · exact ⟨_, _, rfl, hi.cell 1⟩
theorem one_any (w : World) : Calls Tryd.prog 16 #[] w fun e w' => ∃ g, e = .returned (.agg #[.int .i64 2, .slice (some ⟨g, 0, none⟩) 1 1]) ∧ NdCells w' (some ⟨g, 0, none⟩) oneN ∧ Below w.heap.size w w' := by
  go_enter Tryd.func16, Tryd.ntmps16
  go_wp2
  have hb : Blk ((w.alloc (.cells #[.int .i64 2, .slice (some ⟨w.heap.size + 1, 0, none⟩) 1 1] 25)).alloc (.cells #[.int .i64 2, .int .i64 1, .slice none 0 0] 28)) (w.heap.size + 1) #[.int .i64 2, .int .i64 1, .slice none 0 0] 28 := Blk.new' _ (by simp only [World.size_alloc]) _ _
  refine bodyPost_ret (v := .agg #[.int .i64 2, .slice (some ⟨w.heap.size + 1, 0, none⟩) 1 1]) (by simp [results, Tryd.results16, go_sem]) rfl ⟨w.heap.size + 1, rfl, ?_, (((Below.refl _ _).alloc (Nat.le_refl _) _).alloc (by simp only [World.size_alloc]; omega) _)⟩
  intro i hlt
  have h3 : i = 0 := by simpa [oneN] using hlt
  subst h3
  exact ⟨_, _, rfl, hb.cell 0, hb.cell 1, none, 0, hb.cell 2, IntCells.nil _ _, by simp [oneN]⟩
theorem cheap_cost {n : Int} (hn : n ≤ 20) (a b : List Nd) : costP n n.toNat a b ≤ 1000000000 := by
  have h := costP_le n n.toNat a b
  have h2 : 2 ^ n.toNat ≤ 2 ^ 20 := Nat.pow_le_pow_right (by omega) (by omega)
  omega
theorem eq_two (w : World) : (Op.equalIn 10000 36 (.agg #[.int .u64 2, .int .u64 0]) (.agg #[.int .u64 2, .int .u64 0])).run Tryd.prog w = .ok true w := by kernel_rfl
theorem works_any (w : World) (ht : Tab w) : Calls Tryd.prog 5 #[] w fun e w' => e = .returned (.bool true) ∧ Below w.heap.size w w' := by
  have HT := Lib.hid ht
  clear ht
  have hol : orN.length = 3 := rfl
  have hnl : oneN.length = 1 := rfl
  have HC : Hid (∀ (g : Nat) (V : World), Below w.heap.size w V → NdCells V (some ⟨g, 0, none⟩) orN → Calls Tryd.prog 6 #[.agg #[.int .i64 2, .slice (some ⟨g, 0, none⟩) 3 3]] V fun e w' => e = .returned (.tuple #[.bool true, .int .i64 0]) ∧ Below V.heap.size V w') := Lib.hid fun g V hb hx => by
    have h := consistent_any 2 (some ⟨g, 0, none⟩) 3 orN V hx (by decide) (fun _ => or_small) (HT.out.keep hb)
    rw [cons_or, chk_or] at h; exact h
  have HV : Hid (∀ (g : Nat) (V : World), Below w.heap.size w V → NdCells V (some ⟨g, 0, none⟩) orN → Calls Tryd.prog 9 #[.agg #[.int .i64 2, .slice (some ⟨g, 0, none⟩) 3 3]] V fun e w' => e = .returned (.tuple #[.bool false, .int .i64 0]) ∧ Below V.heap.size V w') := Lib.hid fun g V hb hx => by
    have h := valid_any 2 (some ⟨g, 0, none⟩) 3 orN V hx (by decide) (fun _ => or_small) (fun _ _ => cheap_cost (by decide) _ _) (HT.out.keep hb)
    rw [imp_or, chk_or] at h; exact h
  have HE : Hid (∀ (g c : Nat) (V : World), Below w.heap.size w V → NdCells V (some ⟨g, 0, none⟩) orN → IntCells V (some ⟨c, 0, none⟩) [1, 2] → Calls Tryd.prog 7 #[.agg #[.int .i64 2, .slice (some ⟨g, 0, none⟩) 3 3], .slice (some ⟨c, 0, none⟩) 2 2] V fun e w' => e = .returned (.tuple #[.bool true, .int .i64 0]) ∧ Below V.heap.size V w') := Lib.hid fun g c V hb hx hi => by
    have h := entails_any 2 (some ⟨g, 0, none⟩) 3 orN (some ⟨c, 0, none⟩) 2 [1, 2] V hx (by decide) hi (by decide) (fun _ => or_small) (HT.out.keep hb)
    rw [ent_or, chk_or12] at h; exact h
  have HI : Hid (∀ (g c : Nat) (V : World), Below w.heap.size w V → NdCells V (some ⟨g, 0, none⟩) orN → IntCells V (some ⟨c, 0, none⟩) [2] → Calls Tryd.prog 8 #[.agg #[.int .i64 2, .slice (some ⟨g, 0, none⟩) 3 3], .slice (some ⟨c, 0, none⟩) 1 1] V fun e w' => e = .returned (.tuple #[.bool true, .int .i64 0]) ∧ Below V.heap.size V w') := Lib.hid fun g c V hb hx hi => by
    have h := implies_any 2 (some ⟨g, 0, none⟩) 3 orN (some ⟨c, 0, none⟩) 1 [2] V hx (by decide) hi (by decide) (fun _ => or_small) (fun _ _ => cheap_cost (by decide) _ _) (HT.out.keep hb)
    rw [imp_or2, chk_or2] at h; exact h
  have HCN : Hid (∀ (g c : Nat) (V : World), Below w.heap.size w V → NdCells V (some ⟨g, 0, none⟩) orN → NdCells V (some ⟨c, 0, none⟩) oneN → Calls Tryd.prog 11 #[.agg #[.int .i64 2, .slice (some ⟨g, 0, none⟩) 3 3], .agg #[.int .i64 2, .slice (some ⟨c, 0, none⟩) 1 1]] V fun e w' => e = .returned (.tuple #[.agg #[.int .u64 2, .int .u64 0], .bool true, .int .i64 0]) ∧ Below V.heap.size V w') := Lib.hid fun g c V hb hx hy => by
    have h := counter2_any 2 2 (some ⟨g, 0, none⟩) (some ⟨c, 0, none⟩) 3 1 orN oneN V hx hy (by decide) (by decide) (fun _ => or_small) (fun _ => one_small) (fun _ => cheap_cost (by decide) _ _) (HT.out.keep hb)
    obtain ⟨m, h1, h2⟩ := cnt_or
    rw [h1, h2, chk_oo] at h; exact h
  have HCM : Hid (∀ (g c : Nat) (V : World), Below w.heap.size w V → NdCells V (some ⟨g, 0, none⟩) orN → NdCells V (some ⟨c, 0, none⟩) oneN → Calls Tryd.prog 11 #[.agg #[.int .i64 2, .slice (some ⟨c, 0, none⟩) 1 1], .agg #[.int .i64 2, .slice (some ⟨g, 0, none⟩) 3 3]] V fun e w' => e = .returned (.tuple #[.agg #[.int .u64 0, .int .u64 0], .bool false, .int .i64 0]) ∧ Below V.heap.size V w') := Lib.hid fun g c V hb hx hy => by
    have h := counter2_any 2 2 (some ⟨c, 0, none⟩) (some ⟨g, 0, none⟩) 1 3 oneN orN V hy hx (by decide) (by decide) (fun _ => one_small) (fun _ => or_small) (fun _ => cheap_cost (by decide) _ _) (HT.out.keep hb)
    rw [cnt_one, chk_oo'] at h; exact h
  clear hol hnl
  go_enter Tryd.func5, Tryd.ntmps5
  go_wp2_with fail
  refine (or_any _).mono ?_
  rintro e w1 ⟨g1, rfl, hx1, hb1⟩
  have B1 := Lib.hid hb1
  have X1 := Lib.hid hx1
  clear hb1 hx1
  go_wp2_with fail
  refine (HC.out g1 w1 B1.out X1.out).mono ?_
  rintro e w2 ⟨rfl, hb2⟩
  have B2 := Lib.hid (B1.out.trans (hb2.mono B1.out.size))
  clear hb2
  go_wp2_with fail
  refine (or_any _).mono ?_
  rintro e w3 ⟨g3, rfl, hx3, hb3⟩
  have B3 := Lib.hid (B2.out.trans (hb3.mono B2.out.size))
  have X3 := Lib.hid hx3
  clear hb3 hx3
  go_wp2_with fail
  refine (HV.out g3 w3 B3.out X3.out).mono ?_
  rintro e w4 ⟨rfl, hb4⟩
  have B4 := Lib.hid (B3.out.trans (hb4.mono B3.out.size))
  clear hb4
  go_wp2_with fail
  refine (or_any _).mono ?_
  rintro e w5 ⟨g5, rfl, hx5, hb5⟩
  have B5 := Lib.hid ((B4.out.trans (hb5.mono B4.out.size)).alloc (Nat.le_trans B4.out.size hb5.size) (.cells #[.int .i64 1, .int .i64 2] 3))
  have X5 := Lib.hid (hx5.keep ((Below.refl w5.heap.size w5).alloc (Nat.le_refl _) (.cells #[.int .i64 1, .int .i64 2] 3)))
  have I5 : Hid (IntCells (w5.alloc (.cells #[.int .i64 1, .int .i64 2] 3)) (some ⟨w5.heap.size, 0, none⟩) [1, 2]) := by
    have hk := Blk.new w5 #[.int .i64 1, .int .i64 2] 3
    intro j hj
    have h2 : j = 0 ∨ j = 1 := by simp at hj; omega
    rcases h2 with rfl | rfl
    · exact ⟨_, _, rfl, hk.cell 0⟩
    · exact ⟨_, _, rfl, hk.cell 1⟩
  clear hb5 hx5
  go_wp2_with fail
  refine (HE.out g5 w5.heap.size _ B5.out X5.out I5.out).mono ?_
  rintro e w6 ⟨rfl, hb6⟩
  have B6 := Lib.hid (B5.out.trans (hb6.mono B5.out.size))
  clear hb6
  go_wp2_with fail
  refine (or_any _).mono ?_
  rintro e w7 ⟨g7, rfl, hx7, hb7⟩
  have B7 := Lib.hid ((B6.out.trans (hb7.mono B6.out.size)).alloc (Nat.le_trans B6.out.size hb7.size) (.cells #[.int .i64 2] 3))
  have X7 := Lib.hid (hx7.keep ((Below.refl w7.heap.size w7).alloc (Nat.le_refl _) (.cells #[.int .i64 2] 3)))
  have I7 : Hid (IntCells (w7.alloc (.cells #[.int .i64 2] 3)) (some ⟨w7.heap.size, 0, none⟩) [2]) := by
    have hk := Blk.new w7 #[.int .i64 2] 3
    intro j hj
    have h2 : j = 0 := by simpa using hj
    subst h2
    exact ⟨_, _, rfl, hk.cell 0⟩
  clear hb7 hx7
  go_wp2_with fail
  refine (HI.out g7 w7.heap.size _ B7.out X7.out I7.out).mono ?_
  rintro e w8 ⟨rfl, hb8⟩
  have B8 := Lib.hid (B7.out.trans (hb8.mono B7.out.size))
  clear hb8
  go_wp2_with fail
  refine (or_any _).mono ?_
  rintro e w9 ⟨g9, rfl, hx9, hb9⟩
  have B9 := Lib.hid (B8.out.trans (hb9.mono B8.out.size))
  have X9 := Lib.hid hx9
  clear hb9 hx9
  go_wp2_with fail
  refine (one_any _).mono ?_
  rintro e w10 ⟨g10, rfl, hx10, hb10⟩
  have B10 := Lib.hid (B9.out.trans (hb10.mono B9.out.size))
  have X10 := Lib.hid hx10
  have X9' := Lib.hid (X9.out.keep hb10)
  clear hb10 hx10
  go_wp2_with fail
  refine (HCN.out g9 g10 w10 B10.out X9'.out X10.out).mono ?_
  rintro e w11 ⟨rfl, hb11⟩
  have B11 := Lib.hid ((B10.out.trans (hb11.mono B10.out.size)).alloc (Nat.le_trans B10.out.size hb11.size) (.cells #[.int .u64 2, .int .u64 0] 36))
  have K11 := Lib.hid (Blk.new w11 #[.int .u64 2, .int .u64 0] 36)
  clear hb11
  go_wp2_with fail
  refine (one_any _).mono ?_
  rintro e w12 ⟨g12, rfl, hx12, hb12⟩
  have B12 := Lib.hid (B11.out.trans (hb12.mono B11.out.size))
  have K12 := Lib.hid (K11.out.later hb12)
  have X12 := Lib.hid hx12
  clear hb12 hx12
  go_wp2_with fail
  refine (or_any _).mono ?_
  rintro e w13 ⟨g13, rfl, hx13, hb13⟩
  have B13 := Lib.hid (B12.out.trans (hb13.mono B12.out.size))
  have K13 := Lib.hid (K12.out.later hb13)
  have X13 := Lib.hid hx13
  have X12' := Lib.hid (X12.out.keep hb13)
  clear hb13 hx13
  go_wp2_with fail
  refine (HCM.out g13 g12 w13 B13.out X13.out X12'.out).mono ?_
  rintro e w14 ⟨rfl, hb14⟩
  have B14 := Lib.hid ((B13.out.trans (hb14.mono B13.out.size)).alloc (Nat.le_trans B13.out.size hb14.size) (.cells #[.int .u64 0, .int .u64 0] 36))
  have K14 := K13.out.later hb14
  have hz : w11.heap.size < w14.heap.size := K14.lt
  have j0 : w14.cell? ⟨w11.heap.size, 0, none⟩ = some (.int .u64 2) := K14.cell 0
  have j1 : w14.cell? ⟨w11.heap.size, 1, none⟩ = some (.int .u64 0) := K14.cell 1
  have heq := eq_two
  clear hb14 K14
  go_wp2
  go_ret
  exact ⟨rfl, B14.out⟩
end Go.Proofs.YteoopkogpjhneaaDoor

/- Plain: clauses that follow and terms that suffice, said by assignments. -/
namespace Go.Proofs.YteoopkogpjhneaaDoor
open Cen
def litsOk (xs : List Int) (n : Int) : Prop := ∀ x ∈ xs, litVar x ≠ 0 ∧ litVar x ≤ n
theorem chkR_lits {xs : List Int} {t : Nt} (h : chkR xs t = 0) : litsOk xs t.n := by
  intro x hx
  have := List.all_eq_true.1 (chkR_ok h).2.1 x hx
  simpa [litOk] using this
theorem litVar_neg (x : Int) : litVar (-x) = litVar x := by
  unfold litVar
  by_cases h1 : 1 ≤ x ∧ x ≤ 128
  · rw [if_pos h1, if_neg (by omega), if_pos (by omega)]; omega
  · rw [if_neg h1]
    by_cases h2 : x ≤ -1 ∧ -128 ≤ x
    · rw [if_pos h2, if_pos (by omega)]
    · rw [if_neg h2, if_neg (by omega), if_neg (by omega)]
theorem holds_neg {s : Int → Bool} {x : Int} (h : litVar x ≠ 0) : holds s (-x) = !holds s x := by
  have hx := litVar_ne h
  unfold holds
  rw [litVar_neg, decide_eq_true h]
  simp only [Bool.true_and]
  by_cases hp : 0 < x
  · rw [decide_eq_true hp, decide_eq_false (show ¬ 0 < -x by omega)]; cases s (litVar x) <;> rfl
  · rw [decide_eq_false hp, decide_eq_true (show 0 < -x by omega)]; cases s (litVar x) <;> rfl
theorem any_not_all {s : Int → Bool} {xs : List Int} (h : ∀ x ∈ xs, litVar x ≠ 0) : anyL s xs = !allL s (xs.map fun x => -x) := by
  unfold anyL allL
  induction xs with
  | nil => rfl
  | cons x xs ih =>
    simp only [List.any_cons, List.map_cons, List.all_cons]
    rw [ih (fun y hy => h y (by simp [hy])), holds_neg (h x (by simp))]
    cases holds s x <;> simp
theorem ovr_of_all {s : Int → Bool} {xs : List Int} (h : ∀ x ∈ xs, litVar x ≠ 0) (ha : allL s xs = true) : ∀ v, 1 ≤ v → ovr xs s v = s v := by
  intro v hv
  have ha' := List.all_eq_true.1 ha
  unfold ovr
  by_cases h1 : v ∈ xs
  · rw [if_pos h1]
    have h2 := ha' v h1
    have h3 := litVar_ne (h v h1)
    have h4 : litVar v = v := by omega
    unfold holds at h2
    rw [h4, decide_eq_true (show (0 : Int) < v by omega)] at h2
    simp at h2; exact h2.2.symm
  · rw [if_neg h1]
    by_cases h5 : -v ∈ xs
    · rw [if_pos h5]
      have h2 := ha' _ h5
      have h3 := litVar_ne (h _ h5)
      have h4 : litVar (-v) = v := by omega
      unfold holds at h2
      rw [h4, decide_eq_false (show ¬ (0 : Int) < -v by omega)] at h2
      simp at h2; exact h2.2.symm
    · rw [if_neg h5]
theorem all_ovr {s : Int → Bool} {xs : List Int} (hc : noClash xs) (h : ∀ x ∈ xs, litVar x ≠ 0) : allL (ovr xs s) xs = true := by
  refine List.all_eq_true.2 fun x hx => ?_
  rw [holds_ovr hc (h x hx), if_pos hx]
theorem clash_no {xs : List Int} (h : clash xs = false) : noClash xs := by
  intro x hx hn
  unfold clash at h
  rw [List.any_eq_false] at h
  have := h x hx
  simp [has] at this
  exact this hn
theorem clash_no_neg {xs : List Int} (h : clash xs = false) : noClash (xs.map fun x => -x) := by
  intro x hx hn
  rw [List.mem_map] at hx hn
  obtain ⟨y, hy, rfl⟩ := hx
  obtain ⟨z, hz, he⟩ := hn
  have : z = -y := by omega
  subst this
  exact clash_no h y hy hz
theorem clash_yes {xs : List Int} (h : clash xs = true) : ∃ x ∈ xs, -x ∈ xs := by
  unfold clash at h
  rw [List.any_eq_true] at h
  obtain ⟨x, hx, hn⟩ := h
  exact ⟨x, hx, by simpa [has] using hn⟩
theorem ent_iff {n : Int} {l : List Nd} {xs : List Int} (h : chkR xs ⟨n, l⟩ = 0) : entR ⟨n, l⟩ xs = true ↔ ∀ s, ev s ⟨n, l⟩ = true → anyL s xs = true := by
  obtain ⟨hok, _, hd⟩ := chkR_ok h
  have hl : ∀ x ∈ xs, litVar x ≠ 0 := fun x hx => (chkR_lits h x hx).1
  have hl' : ∀ x ∈ xs.map (fun x => -x), litVar x ≠ 0 := fun x hx => by
    rw [List.mem_map] at hx
    obtain ⟨y, hy, rfl⟩ := hx
    rw [litVar_neg]; exact hl y hy
  unfold entR
  rw [decide_eq_true h]
  cases hc : clash xs with
  | true =>
    simp only [Bool.true_and, Bool.true_or, true_iff]
    intro s _
    obtain ⟨x, hx, hn⟩ := clash_yes hc
    have e := holds_neg (s := s) (hl x hx)
    unfold anyL
    rw [List.any_eq_true]
    cases hh : holds s x with
    | true => exact ⟨x, hx, hh⟩
    | false => exact ⟨-x, hn, by rw [e, hh]; rfl⟩
  | false =>
    simp only [Bool.true_and, Bool.false_or, decide_eq_true_eq]
    rw [gvL_root hok hd (clash_no_neg hc)]
    constructor
    · intro hr s hs
      rw [any_not_all hl]
      cases ha : allL s (xs.map fun x => -x) with
      | false => rfl
      | true =>
        have := hr s
        rw [ev_pos hok (ovr_of_all hl' ha), hs] at this
        simp at this
    · intro hr s
      cases he : ev (ovr (xs.map fun x => -x) s) ⟨n, l⟩ with
      | false => rfl
      | true =>
        have := hr _ he
        rw [any_not_all hl, all_ovr (clash_no_neg hc) hl'] at this
        simp at this
theorem tok_of {n : Int} {l : List Nd} (hok : netOk ⟨n, l⟩ = true) : netOk ⟨n, [⟨1, 0, []⟩]⟩ = true := by
  obtain ⟨hn0, hn1, _, _⟩ := netOk_head hok
  exact true_ok hn0 hn1 1 (.inr rfl)
theorem imp_iffL {n : Int} {l : List Nd} {xs : List Int} (hs : Small l) (h : chkR xs ⟨n, l⟩ = 0) : impR ⟨n, l⟩ xs = true ↔ ∀ s, allL s xs = true → ev s ⟨n, l⟩ = true := by
  obtain ⟨hok, _, hd⟩ := chkR_ok h
  have hl : ∀ x ∈ xs, litVar x ≠ 0 := fun x hx => (chkR_lits h x hx).1
  unfold impR
  rw [decide_eq_true h]
  cases hc : clash xs with
  | true =>
    simp only [Bool.true_and, Bool.true_or, true_iff]
    intro s ha
    obtain ⟨x, hx, hn⟩ := clash_yes hc
    have e := holds_neg (s := s) (hl x hx)
    have h1 := List.all_eq_true.1 ha x hx
    have h2 := List.all_eq_true.1 ha _ hn
    rw [e, h1] at h2
    simp at h2
  | false =>
    simp only [Bool.true_and, Bool.false_or]
    obtain ⟨f1, f2, _⟩ := gvL_fine (xs := xs) hok hs
    obtain ⟨c1, c2⟩ := cntL_spec (tok_of hok) f1 tsmall f2
    constructor
    · intro hn s ha
      have hn' : cntL n [⟨1, 0, []⟩] (gvL n xs l) = none := by simpa using hn
      cases he : ev s ⟨n, l⟩ with
      | true => rfl
      | false => exact absurd ⟨ev_true _ _, by rw [gvL_ev hok (clash_no hc), ev_pos hok (ovr_of_all hl ha)]; exact he⟩ (c1 hn' s)
    · intro hall
      cases hcn : cntL n [⟨1, 0, []⟩] (gvL n xs l) with
      | none => rfl
      | some m =>
        have := (c2 m hcn).is.2
        rw [gvL_ev hok (clash_no hc), hall _ (all_ovr (clash_no hc) hl)] at this; simp at this
theorem holds_congr {s t : Int → Bool} {n x : Int} (h : litVar x ≠ 0 ∧ litVar x ≤ n) (he : ∀ v : Int, 1 ≤ v → v ≤ n → s v = t v) : holds s x = holds t x := by
  unfold holds
  rw [he (litVar x) (litVar_pos h.1).2.1 h.2]
theorem any_congr {s t : Int → Bool} {n : Int} {xs : List Int} (h : litsOk xs n) (he : ∀ v : Int, 1 ≤ v → v ≤ n → s v = t v) : anyL s xs = anyL t xs := by
  unfold anyL
  rw [Bool.eq_iff_iff, List.any_eq_true, List.any_eq_true]
  exact ⟨fun ⟨x, hx, k⟩ => ⟨x, hx, by rw [← holds_congr (h x hx) he]; exact k⟩, fun ⟨x, hx, k⟩ => ⟨x, hx, by rw [holds_congr (h x hx) he]; exact k⟩⟩
theorem all_congr {s t : Int → Bool} {n : Int} {xs : List Int} (h : litsOk xs n) (he : ∀ v : Int, 1 ≤ v → v ≤ n → s v = t v) : allL s xs = allL t xs := by
  unfold allL
  rw [Bool.eq_iff_iff, List.all_eq_true, List.all_eq_true]
  exact ⟨fun k x hx => by rw [← holds_congr (h x hx) he]; exact k x hx, fun k x hx => by rw [holds_congr (h x hx) he]; exact k x hx⟩
theorem ev_cong {N : Nat} {l : List Nd} (hok : netOk ⟨N, l⟩ = true) {s t : Int → Bool} (he : ∀ v : Int, 1 ≤ v → v ≤ N → s v = t v) : ev s ⟨N, l⟩ = ev t ⟨N, l⟩ :=
  ev_congr fun y hy hk => by
    obtain ⟨a, b⟩ := netOk_lits hok y hy hk
    exact he _ (litVar_pos a).2.1 b
/-- Further literals. -/
theorem chkR_left {xs ys : List Int} {t : Nt} (h : chkR (xs ++ ys) t = 0) : chkR xs t = 0 := by
  obtain ⟨h1, h2, h3⟩ := chkR_ok h
  rw [List.all_append, Bool.and_eq_true] at h2
  unfold chkR; rw [h1, h2.1, h3]; rfl
theorem chkR_nil {xs : List Int} {t : Nt} (h : chkR xs t = 0) : chkR [] t = 0 := chkR_left (xs := []) (ys := xs) h
theorem ent_more {n : Int} {l : List Nd} {xs ys : List Int} (h : chkR (xs ++ ys) ⟨n, l⟩ = 0) (he : entR ⟨n, l⟩ xs = true) : entR ⟨n, l⟩ (xs ++ ys) = true := by
  rw [ent_iff h]
  rw [ent_iff (chkR_left h)] at he
  intro s hs
  have := he s hs
  unfold anyL at *
  rw [List.any_append, this]; rfl
theorem imp_more {n : Int} {l : List Nd} {xs ys : List Int} (hs : Small l) (h : chkR (xs ++ ys) ⟨n, l⟩ = 0) (he : impR ⟨n, l⟩ xs = true) : impR ⟨n, l⟩ (xs ++ ys) = true := by
  rw [imp_iffL hs h]
  rw [imp_iffL hs (chkR_left h)] at he
  intro s ha
  refine he s ?_
  unfold allL at *
  rw [List.all_append, Bool.and_eq_true] at ha
  exact ha.1
theorem cons_iff {n : Int} {l : List Nd} (h : chkR [] ⟨n, l⟩ = 0) : consR ⟨n, l⟩ = true ↔ ∃ s, ev s ⟨n, l⟩ = true := by
  obtain ⟨hok, _, hd⟩ := chkR_ok h
  unfold consR
  rw [decide_eq_true h]
  simp only [Bool.true_and, decide_eq_true_eq]
  have hr := gvL_root hok hd (xs := []) (fun x hx => by simp at hx)
  have ho : ∀ s, ovr [] s = s := fun s => by funext v; simp [ovr]
  simp only [ho] at hr
  rw [show (rootK (gvL n [] l) ≠ 0 ↔ ¬ ∀ s, ev s ⟨n, l⟩ = false) from not_congr hr]
  constructor
  · intro hn
    apply Classical.byContradiction
    intro hc
    refine hn fun s => ?_
    cases he : ev s ⟨n, l⟩ with
    | false => rfl
    | true => exact absurd ⟨s, he⟩ hc
  · rintro ⟨s, hs⟩ hn
    rw [hn s] at hs; simp at hs
theorem ent_none {n : Int} {l : List Nd} (h : chkR [] ⟨n, l⟩ = 0) : entR ⟨n, l⟩ [] = !consR ⟨n, l⟩ := by
  rw [Bool.eq_iff_iff, ent_iff h, Bool.not_eq_true', ← Bool.not_eq_true, cons_iff h]
  constructor
  · rintro hr ⟨s, hs⟩
    have := hr s hs
    simp [anyL] at this
  · intro hn s hs
    exact absurd ⟨s, hs⟩ hn
end Go.Proofs.YteoopkogpjhneaaDoor
