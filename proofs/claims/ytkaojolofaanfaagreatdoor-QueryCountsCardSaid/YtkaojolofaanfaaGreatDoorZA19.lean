/- Part of the proofs that laws of censuslaw38 return true for every input, where the tables that the rows list are laid. Texts: QCn2, Law, R04. -/
import Derived.Test.YtkaojolofaanfaaGreatDoorZA18
import Derived.Test.YtkaojolofaanfaaGreatDoorZA2
import Derived.Test.YtkaojolofaanfaaGreatDoorZA4
import Derived.Outline

/- The walks of query.Valid, Same, Counter. -/
namespace Go.Proofs.YtkaojolofaanfaaGreatDoor
open Go.RowKit Cen
set_option maxHeartbeats 4000000
set_option maxRecDepth 100000
theorem valid_any (n : Int) (a : Option Addr) (cap : Nat) (l : List Nd) (w : World) (hx : NdCells w a l) (hl : l.length ≤ 1073741824) (hs : netOk ⟨n, l⟩ = true → Small l) (hco : impCost ⟨n, l⟩ []) (ht : Tab w) :
    Calls Tryz.prog 21 #[.agg #[.int .i64 n, .slice a l.length cap]] w fun e w' => e = .returned (.tuple #[.bool (impR ⟨n, l⟩ []), .int .i64 (chkR [] ⟨n, l⟩)]) ∧ Below w.heap.size w w' := by
  have hb0 : Below w.heap.size w (w.alloc (.cells #[.int .i64 n, .slice a l.length cap] 24)) := (Below.refl _ _).alloc (Nat.le_refl _) _
  have HB0 := Lib.hid hb0
  have HI := Lib.hid (implies_any n a cap l none 0 [] _ (hx.keep hb0) hl (IntCells.nil _ _) (by simp) hs hco (ht.keep hb0))
  clear hx hs hco ht hb0
  go_enter Tryz.func21, Tryz.ntmps21
  go_wp2_with fail
  refine HI.out.mono ?_
  rintro e w1 ⟨rfl, hb1⟩
  have HB1 := Lib.hid (HB0.out.trans (hb1.mono HB0.out.size))
  clear hb1
  go_wp2
  go_ret2
  exact ⟨rfl, HB1.out⟩
theorem counter2_any (n m : Int) (aa ab : Option Addr) (ca cb : Nat) (a b : List Nd) (w : World) (xa : NdCells w aa a) (xb : NdCells w ab b) (hla : a.length ≤ 1073741824) (hlb : b.length ≤ 1073741824) (sa : netOk ⟨n, a⟩ = true → Small a) (sb : netOk ⟨m, b⟩ = true → Small b) (hco : cntCost ⟨n, a⟩ ⟨m, b⟩) (ht : Tab w) :
    Calls Tryz.prog 58 #[.agg #[.int .i64 n, .slice aa a.length ca], .agg #[.int .i64 m, .slice ab b.length cb]] w fun e w' => e = .returned (.tuple #[stv (foundOf St.zero (cntR ⟨n, a⟩ ⟨m, b⟩)), .bool (cntR ⟨n, a⟩ ⟨m, b⟩).isSome, .int .i64 (chk2 ⟨n, a⟩ ⟨m, b⟩)]) ∧ Below w.heap.size w w' := by
  have XA := Lib.hid xa
  have XB := Lib.hid xb
  have hb0 : Below w.heap.size w ((((w.alloc (.cells #[.int .i64 n, .slice aa a.length ca] 24)).alloc (.cells #[.int .i64 m, .slice ab b.length cb] 24)).alloc (.cells #[.int .u64 0, .int .u64 0] 54)).alloc (.cells #[.int .i64 n, .slice aa a.length ca, .int .i64 m, .slice ab b.length cb] 24)) := (((((Below.refl w.heap.size w).alloc (by (try simp only [World.size_alloc]); omega) _).alloc (by (try simp only [World.size_alloc]); omega) _).alloc (by (try simp only [World.size_alloc]); omega) _).alloc (by (try simp only [World.size_alloc]); omega) _)
  have HB0 := Lib.hid hb0
  have HCK := Lib.hid (check2_any (w.heap.size + 1 + 1 + 1) n m aa ab ca cb a b _ (Blk.new' (((w.alloc (.cells #[.int .i64 n, .slice aa a.length ca] 24)).alloc (.cells #[.int .i64 m, .slice ab b.length cb] 24)).alloc (.cells #[.int .u64 0, .int .u64 0] 54)) (by simp only [World.size_alloc]) #[.int .i64 n, .slice aa a.length ca, .int .i64 m, .slice ab b.length cb] 24) (xa.keep hb0) (xb.keep hb0) hla hlb)
  have q0 : Hid (Blk ((((w.alloc (.cells #[.int .i64 n, .slice aa a.length ca] 24)).alloc (.cells #[.int .i64 m, .slice ab b.length cb] 24)).alloc (.cells #[.int .u64 0, .int .u64 0] 54)).alloc (.cells #[.int .i64 n, .slice aa a.length ca, .int .i64 m, .slice ab b.length cb] 24)) w.heap.size #[.int .i64 n, .slice aa a.length ca] 24) := ((((Blk.new w #[.int .i64 n, .slice aa a.length ca] 24).alloc _).alloc _).alloc _)
  have q1 : Hid (Blk ((((w.alloc (.cells #[.int .i64 n, .slice aa a.length ca] 24)).alloc (.cells #[.int .i64 m, .slice ab b.length cb] 24)).alloc (.cells #[.int .u64 0, .int .u64 0] 54)).alloc (.cells #[.int .i64 n, .slice aa a.length ca, .int .i64 m, .slice ab b.length cb] 24)) (w.heap.size + 1) #[.int .i64 m, .slice ab b.length cb] 24) := (((Blk.new' (w.alloc (.cells #[.int .i64 n, .slice aa a.length ca] 24)) (by simp only [World.size_alloc]) #[.int .i64 m, .slice ab b.length cb] 24).alloc _).alloc _)
  have q2 : Hid (Blk ((((w.alloc (.cells #[.int .i64 n, .slice aa a.length ca] 24)).alloc (.cells #[.int .i64 m, .slice ab b.length cb] 24)).alloc (.cells #[.int .u64 0, .int .u64 0] 54)).alloc (.cells #[.int .i64 n, .slice aa a.length ca, .int .i64 m, .slice ab b.length cb] 24)) (w.heap.size + 1 + 1) #[.int .u64 0, .int .u64 0] 54) := ((Blk.new' ((w.alloc (.cells #[.int .i64 n, .slice aa a.length ca] 24)).alloc (.cells #[.int .i64 m, .slice ab b.length cb] 24)) (by simp only [World.size_alloc]) #[.int .u64 0, .int .u64 0] 54).alloc _)
  have HT := Lib.hid ht
  have SA := Lib.hid sa
  have SB := Lib.hid sb
  have HCO := Lib.hid hco
  clear xa xb hb0 ht sa sb hco
  by_cases hc : chk2 ⟨n, a⟩ ⟨m, b⟩ = 0
  · obtain ⟨h1, h2, h3, _, _⟩ := chk2_ok hc
    simp only at h3
    subst h3
    have HA := Lib.hid h1
    have HB := Lib.hid h2
    have HC := Lib.hid hc
    rw [hc] at HCK
    have HR : Hid (cntR ⟨n, a⟩ ⟨n, b⟩ = cntL n a b) := by show _ = _; unfold cntR; rw [if_pos hc]
    have HCA := Lib.hid (HCO.out hc)
    clear hc h1 h2
    go_enter Tryz.func58, Tryz.ntmps58
    go_wp2_with fail
    refine HCK.out.mono ?_
    rintro e w1 ⟨rfl, hb1⟩
    have HB1 := Lib.hid (HB0.out.trans (hb1.mono HB0.out.size))
    have p0 := q0.out.later hb1
    have p1 := q1.out.later hb1
    have Q2 := Lib.hid (q2.out.later hb1)
    have k0 : w1.cell? ⟨w.heap.size, 0, none⟩ = some (.int .i64 n) := p0.cell 0
    have k1 : w1.cell? ⟨w.heap.size, 1, none⟩ = some (.slice aa a.length ca) := p0.cell 1
    have k2 : w1.cell? ⟨w.heap.size + 1, 0, none⟩ = some (.int .i64 n) := p1.cell 0
    have k3 : w1.cell? ⟨w.heap.size + 1, 1, none⟩ = some (.slice ab b.length cb) := p1.cell 1
    have H1 := Lib.hid (counter_any n a b aa ab ca cb w1 HA.out HB.out (SA.out HA.out) (SB.out HB.out) (XA.out.keep HB1.out) (XB.out.keep HB1.out) HCA.out (HT.out.keep HB1.out))
    clear hb1 p0 p1
    go_wp2_with fail
    refine H1.out.mono ?_
    rintro e w2 ⟨rfl, hb2⟩
    have HB2 := Lib.hid (HB1.out.trans (hb2.mono HB1.out.size))
    obtain ⟨F, hF⟩ : ∃ F, F = foundOf St.zero (cntL n a b) := ⟨_, rfl⟩
    rw [← hF]
    have HF := Lib.hid hF
    have D2 := Lib.hid (Q2.out.later hb2)
    have d0 := D2.out.fr 0
    have d1 := D2.out.fr 1
    have d2 : w2.cell? ⟨w.heap.size + 1 + 1, 0, none⟩ = some (.int .u64 0) := D2.out.cell 0
    have d3 : w2.cell? ⟨w.heap.size + 1 + 1, 1, none⟩ = some (.int .u64 0) := D2.out.cell 1
    have hz : w.heap.size + 1 + 1 < w2.heap.size := D2.out.lt
    clear hb2 hF k0 k1 k2 k3
    go_wp2
    have hbr := ((D2.out.set 0 (.int .u64 (F.a : Int))).set 1 (.int .u64 (F.b : Int))).alloc (.cells #[.int .u64 (F.a : Int), .int .u64 (F.b : Int)] 54)
    have e0 : (((w2.setCell ⟨w.heap.size + 1 + 1, 0, none⟩ (.int .u64 (F.a : Int))).setCell ⟨w.heap.size + 1 + 1, 1, none⟩ (.int .u64 (F.b : Int))).alloc (.cells #[.int .u64 (F.a : Int), .int .u64 (F.b : Int)] 54)).cell? ⟨w.heap.size + 1 + 1, 0, none⟩ = some (.int .u64 (F.a : Int)) := hbr.cell 0
    have e1 : (((w2.setCell ⟨w.heap.size + 1 + 1, 0, none⟩ (.int .u64 (F.a : Int))).setCell ⟨w.heap.size + 1 + 1, 1, none⟩ (.int .u64 (F.b : Int))).alloc (.cells #[.int .u64 (F.a : Int), .int .u64 (F.b : Int)] 54)).cell? ⟨w.heap.size + 1 + 1, 1, none⟩ = some (.int .u64 (F.b : Int)) := hbr.cell 1
    have hfb : Below w.heap.size w (((w2.setCell ⟨w.heap.size + 1 + 1, 0, none⟩ (.int .u64 (F.a : Int))).setCell ⟨w.heap.size + 1 + 1, 1, none⟩ (.int .u64 (F.b : Int))).alloc (.cells #[.int .u64 (F.a : Int), .int .u64 (F.b : Int)] 54)) :=
      ((HB2.out.setCell (show w.heap.size ≤ (⟨w.heap.size + 1 + 1, 0, none⟩ : Addr).block by dsimp only; omega) _).setCell (show w.heap.size ≤ (⟨w.heap.size + 1 + 1, 1, none⟩ : Addr).block by dsimp only; omega) _).alloc (by rw [World.size_setCell', World.size_setCell']; omega) _
    exact bodyPost_ret (v := .tuple #[stv F, .bool (cntL n a b).isSome, .int .i64 0]) (by simp [results, Tryz.results58, go_sem, e0, e1]) rfl ⟨by rw [HR.out, HC.out, HF.out], hfb⟩
  · have HC := Lib.hid hc
    have hcb : (chk2 ⟨n, a⟩ ⟨m, b⟩ != 0) = true := by simpa using hc
    clear hc
    have HR : Hid (cntR ⟨n, a⟩ ⟨m, b⟩ = none) := by show _ = _; unfold cntR; rw [if_neg HC.out]
    go_enter Tryz.func58, Tryz.ntmps58
    go_wp2_with fail
    refine HCK.out.mono ?_
    rintro e w1 ⟨rfl, hb1⟩
    have HB1 := Lib.hid (HB0.out.trans (hb1.mono HB0.out.size))
    have D2 := Lib.hid (q2.out.later hb1)
    have d0 := D2.out.fr 0
    have d1 := D2.out.fr 1
    have d2 : w1.cell? ⟨w.heap.size + 1 + 1, 0, none⟩ = some (.int .u64 0) := D2.out.cell 0
    have d3 : w1.cell? ⟨w.heap.size + 1 + 1, 1, none⟩ = some (.int .u64 0) := D2.out.cell 1
    have hz : w.heap.size + 1 + 1 < w1.heap.size := D2.out.lt
    clear hb1
    go_wp2
    have hbr := (D2.out.set 0 (.int .u64 0)).set 1 (.int .u64 0)
    have e0 : ((w1.setCell ⟨w.heap.size + 1 + 1, 0, none⟩ (.int .u64 0)).setCell ⟨w.heap.size + 1 + 1, 1, none⟩ (.int .u64 0)).cell? ⟨w.heap.size + 1 + 1, 0, none⟩ = some (.int .u64 0) := hbr.cell 0
    have e1 : ((w1.setCell ⟨w.heap.size + 1 + 1, 0, none⟩ (.int .u64 0)).setCell ⟨w.heap.size + 1 + 1, 1, none⟩ (.int .u64 0)).cell? ⟨w.heap.size + 1 + 1, 1, none⟩ = some (.int .u64 0) := hbr.cell 1
    have hfb : Below w.heap.size w ((w1.setCell ⟨w.heap.size + 1 + 1, 0, none⟩ (.int .u64 0)).setCell ⟨w.heap.size + 1 + 1, 1, none⟩ (.int .u64 0)) :=
      (HB1.out.setCell (show w.heap.size ≤ (⟨w.heap.size + 1 + 1, 0, none⟩ : Addr).block by dsimp only; omega) _).setCell (show w.heap.size ≤ (⟨w.heap.size + 1 + 1, 1, none⟩ : Addr).block by dsimp only; omega) _
    exact bodyPost_ret (v := .tuple #[stv St.zero, .bool false, .int .i64 (chk2 ⟨n, a⟩ ⟨m, b⟩)]) (by simp [results, Tryz.results58, go_sem, e0, e1, St.zero]) rfl ⟨by rw [HR.out]; rfl, hfb⟩
end Go.Proofs.YtkaojolofaanfaaGreatDoor

/- The walks of the law's own functions: or, one, works, light. -/
namespace Go.Proofs.YtkaojolofaanfaaGreatDoor
open Go.RowKit Cen
set_option maxHeartbeats 4000000
set_option maxRecDepth 100000
theorem or_any (w : World) : Calls Tryz.prog 55 #[] w fun e w' => ∃ g, e = .returned (.agg #[.int .i64 2, .slice (some ⟨g, 0, none⟩) 3 3]) ∧ NdCells w' (some ⟨g, 0, none⟩) orN ∧ Below w.heap.size w w' := by
  go_enter Tryz.func55, Tryz.ntmps55
  go_wp2
  have hb : Blk (((w.alloc (.cells #[.int .i64 2, .slice (some ⟨w.heap.size + 1 + 1, 0, none⟩) 3 3] 24)).alloc (.cells #[.int .i64 0, .int .i64 1] 3)).alloc (.cells #[.int .i64 2, .int .i64 1, .slice none 0 0, .int .i64 2, .int .i64 2, .slice none 0 0, .int .i64 4, .int .i64 0, .slice (some ⟨w.heap.size + 1, 0, none⟩) 2 2] 67)) (w.heap.size + 1 + 1) #[.int .i64 2, .int .i64 1, .slice none 0 0, .int .i64 2, .int .i64 2, .slice none 0 0, .int .i64 4, .int .i64 0, .slice (some ⟨w.heap.size + 1, 0, none⟩) 2 2] 67 := Blk.new' _ (by simp only [World.size_alloc]) _ _
  have hi : Blk (((w.alloc (.cells #[.int .i64 2, .slice (some ⟨w.heap.size + 1 + 1, 0, none⟩) 3 3] 24)).alloc (.cells #[.int .i64 0, .int .i64 1] 3)).alloc (.cells #[.int .i64 2, .int .i64 1, .slice none 0 0, .int .i64 2, .int .i64 2, .slice none 0 0, .int .i64 4, .int .i64 0, .slice (some ⟨w.heap.size + 1, 0, none⟩) 2 2] 67)) (w.heap.size + 1) #[.int .i64 0, .int .i64 1] 3 := (Blk.new' _ (by simp only [World.size_alloc]) _ _).alloc _
  refine bodyPost_ret (v := .agg #[.int .i64 2, .slice (some ⟨w.heap.size + 1 + 1, 0, none⟩) 3 3]) (by simp [results, Tryz.results55, go_sem]) rfl ⟨w.heap.size + 1 + 1, rfl, ?_, ((((Below.refl _ _).alloc (Nat.le_refl _) _).alloc (by simp only [World.size_alloc]; omega) _).alloc (by simp only [World.size_alloc]; omega) _)⟩
  intro i hlt
  have h3 : i = 0 ∨ i = 1 ∨ i = 2 := by simp [orN] at hlt; omega
  rcases h3 with rfl | rfl | rfl
  · exact ⟨_, _, rfl, hb.cell 0, hb.cell 1, none, 0, hb.cell 2, IntCells.nil _ _, by simp [orN]⟩
  · exact ⟨_, _, rfl, hb.cell 3, hb.cell 4, none, 0, hb.cell 5, IntCells.nil _ _, by simp [orN]⟩
  · refine ⟨_, _, rfl, hb.cell 6, hb.cell 7, some ⟨w.heap.size + 1, 0, none⟩, 2, hb.cell 8, ?_, by simp [orN]⟩
    intro j hj
    have h2 : j = 0 ∨ j = 1 := by simp [orN] at hj; omega
    rcases h2 with rfl | rfl
    · exact ⟨_, _, rfl, hi.cell 0⟩
    · exact ⟨_, _, rfl, hi.cell 1⟩
theorem lone_any (w : World) : Calls Tryz.prog 59 #[] w fun e w' => ∃ g, e = .returned (.agg #[.int .i64 2, .slice (some ⟨g, 0, none⟩) 1 1]) ∧ NdCells w' (some ⟨g, 0, none⟩) oneN ∧ Below w.heap.size w w' := by
  go_enter Tryz.func59, Tryz.ntmps59
  go_wp2
  have hb : Blk ((w.alloc (.cells #[.int .i64 2, .slice (some ⟨w.heap.size + 1, 0, none⟩) 1 1] 24)).alloc (.cells #[.int .i64 2, .int .i64 1, .slice none 0 0] 67)) (w.heap.size + 1) #[.int .i64 2, .int .i64 1, .slice none 0 0] 67 := Blk.new' _ (by simp only [World.size_alloc]) _ _
  refine bodyPost_ret (v := .agg #[.int .i64 2, .slice (some ⟨w.heap.size + 1, 0, none⟩) 1 1]) (by simp [results, Tryz.results59, go_sem]) rfl ⟨w.heap.size + 1, rfl, ?_, (((Below.refl _ _).alloc (Nat.le_refl _) _).alloc (by simp only [World.size_alloc]; omega) _)⟩
  intro i hlt
  have h3 : i = 0 := by simpa [oneN] using hlt
  subst h3
  exact ⟨_, _, rfl, hb.cell 0, hb.cell 1, none, 0, hb.cell 2, IntCells.nil _ _, by simp [oneN]⟩
theorem cheap_cost {n : Int} (hn : n ≤ 20) (a b : List Nd) : costP n n.toNat a b ≤ 1000000000 := by
  have h := costP_le n n.toNat a b
  have h2 : 2 ^ n.toNat ≤ 2 ^ 20 := Nat.pow_le_pow_right (by omega) (by omega)
  omega
theorem eq_two (w : World) : (Op.equalIn 10000 54 (.agg #[.int .u64 2, .int .u64 0]) (.agg #[.int .u64 2, .int .u64 0])).run Tryz.prog w = .ok true w := by kernel_rfl
theorem works_any (w : World) (ht : Tab w) : Calls Tryz.prog 17 #[] w fun e w' => e = .returned (.bool true) ∧ Below w.heap.size w w' := by
  have HT := Lib.hid ht
  clear ht
  have hol : orN.length = 3 := rfl
  have hnl : oneN.length = 1 := rfl
  have HC : Hid (∀ (g : Nat) (V : World), Below w.heap.size w V → NdCells V (some ⟨g, 0, none⟩) orN → Calls Tryz.prog 20 #[.agg #[.int .i64 2, .slice (some ⟨g, 0, none⟩) 3 3]] V fun e w' => e = .returned (.tuple #[.bool true, .int .i64 0]) ∧ Below V.heap.size V w') := Lib.hid fun g V hb hx => by
    have h := consistent_any 2 (some ⟨g, 0, none⟩) 3 orN V hx (by decide) (fun _ => or_small) (HT.out.keep hb)
    rw [cons_or, chk_or] at h; exact h
  have HV : Hid (∀ (g : Nat) (V : World), Below w.heap.size w V → NdCells V (some ⟨g, 0, none⟩) orN → Calls Tryz.prog 21 #[.agg #[.int .i64 2, .slice (some ⟨g, 0, none⟩) 3 3]] V fun e w' => e = .returned (.tuple #[.bool false, .int .i64 0]) ∧ Below V.heap.size V w') := Lib.hid fun g V hb hx => by
    have h := valid_any 2 (some ⟨g, 0, none⟩) 3 orN V hx (by decide) (fun _ => or_small) (fun _ _ => cheap_cost (by decide) _ _) (HT.out.keep hb)
    rw [imp_or, chk_or] at h; exact h
  have HE : Hid (∀ (g c : Nat) (V : World), Below w.heap.size w V → NdCells V (some ⟨g, 0, none⟩) orN → IntCells V (some ⟨c, 0, none⟩) [1, 2] → Calls Tryz.prog 56 #[.agg #[.int .i64 2, .slice (some ⟨g, 0, none⟩) 3 3], .slice (some ⟨c, 0, none⟩) 2 2] V fun e w' => e = .returned (.tuple #[.bool true, .int .i64 0]) ∧ Below V.heap.size V w') := Lib.hid fun g c V hb hx hi => by
    have h := entails_any 2 (some ⟨g, 0, none⟩) 3 orN (some ⟨c, 0, none⟩) 2 [1, 2] V hx (by decide) hi (by decide) (fun _ => or_small) (HT.out.keep hb)
    rw [ent_or, chk_or12] at h; exact h
  have HI : Hid (∀ (g c : Nat) (V : World), Below w.heap.size w V → NdCells V (some ⟨g, 0, none⟩) orN → IntCells V (some ⟨c, 0, none⟩) [2] → Calls Tryz.prog 57 #[.agg #[.int .i64 2, .slice (some ⟨g, 0, none⟩) 3 3], .slice (some ⟨c, 0, none⟩) 1 1] V fun e w' => e = .returned (.tuple #[.bool true, .int .i64 0]) ∧ Below V.heap.size V w') := Lib.hid fun g c V hb hx hi => by
    have h := implies_any 2 (some ⟨g, 0, none⟩) 3 orN (some ⟨c, 0, none⟩) 1 [2] V hx (by decide) hi (by decide) (fun _ => or_small) (fun _ _ => cheap_cost (by decide) _ _) (HT.out.keep hb)
    rw [imp_or2, chk_or2] at h; exact h
  have HCN : Hid (∀ (g c : Nat) (V : World), Below w.heap.size w V → NdCells V (some ⟨g, 0, none⟩) orN → NdCells V (some ⟨c, 0, none⟩) oneN → Calls Tryz.prog 58 #[.agg #[.int .i64 2, .slice (some ⟨g, 0, none⟩) 3 3], .agg #[.int .i64 2, .slice (some ⟨c, 0, none⟩) 1 1]] V fun e w' => e = .returned (.tuple #[.agg #[.int .u64 2, .int .u64 0], .bool true, .int .i64 0]) ∧ Below V.heap.size V w') := Lib.hid fun g c V hb hx hy => by
    have h := counter2_any 2 2 (some ⟨g, 0, none⟩) (some ⟨c, 0, none⟩) 3 1 orN oneN V hx hy (by decide) (by decide) (fun _ => or_small) (fun _ => one_small) (fun _ => cheap_cost (by decide) _ _) (HT.out.keep hb)
    obtain ⟨m, h1, h2⟩ := cnt_or
    rw [h1, h2, chk_oo] at h; exact h
  have HCM : Hid (∀ (g c : Nat) (V : World), Below w.heap.size w V → NdCells V (some ⟨g, 0, none⟩) orN → NdCells V (some ⟨c, 0, none⟩) oneN → Calls Tryz.prog 58 #[.agg #[.int .i64 2, .slice (some ⟨c, 0, none⟩) 1 1], .agg #[.int .i64 2, .slice (some ⟨g, 0, none⟩) 3 3]] V fun e w' => e = .returned (.tuple #[.agg #[.int .u64 0, .int .u64 0], .bool false, .int .i64 0]) ∧ Below V.heap.size V w') := Lib.hid fun g c V hb hx hy => by
    have h := counter2_any 2 2 (some ⟨c, 0, none⟩) (some ⟨g, 0, none⟩) 1 3 oneN orN V hy hx (by decide) (by decide) (fun _ => one_small) (fun _ => or_small) (fun _ => cheap_cost (by decide) _ _) (HT.out.keep hb)
    rw [cnt_one, chk_oo'] at h; exact h
  clear hol hnl
  go_enter Tryz.func17, Tryz.ntmps17
  go_wp2_with fail
  refine (or_any _).mono ?_
  rintro e w1 ⟨g1, rfl, hx1, hb1⟩
  have B1 := Lib.hid hb1
  have X1 := Lib.hid hx1
  clear hb1 hx1
  go_wp2_with fail
  refine (HC.out g1 w1 B1.out X1.out).mono ?_
  rintro e w2 ⟨rfl, hb2⟩
  have B2 := Lib.hid (B1.out.trans (hb2.mono B1.out.size))
  clear hb2
  go_wp2_with fail
  refine (or_any _).mono ?_
  rintro e w3 ⟨g3, rfl, hx3, hb3⟩
  have B3 := Lib.hid (B2.out.trans (hb3.mono B2.out.size))
  have X3 := Lib.hid hx3
  clear hb3 hx3
  go_wp2_with fail
  refine (HV.out g3 w3 B3.out X3.out).mono ?_
  rintro e w4 ⟨rfl, hb4⟩
  have B4 := Lib.hid (B3.out.trans (hb4.mono B3.out.size))
  clear hb4
  go_wp2_with fail
  refine (or_any _).mono ?_
  rintro e w5 ⟨g5, rfl, hx5, hb5⟩
  have B5 := Lib.hid ((B4.out.trans (hb5.mono B4.out.size)).alloc (Nat.le_trans B4.out.size hb5.size) (.cells #[.int .i64 1, .int .i64 2] 3))
  have X5 := Lib.hid (hx5.keep ((Below.refl w5.heap.size w5).alloc (Nat.le_refl _) (.cells #[.int .i64 1, .int .i64 2] 3)))
  have I5 : Hid (IntCells (w5.alloc (.cells #[.int .i64 1, .int .i64 2] 3)) (some ⟨w5.heap.size, 0, none⟩) [1, 2]) := by
    have hk := Blk.new w5 #[.int .i64 1, .int .i64 2] 3
    intro j hj
    have h2 : j = 0 ∨ j = 1 := by simp at hj; omega
    rcases h2 with rfl | rfl
    · exact ⟨_, _, rfl, hk.cell 0⟩
    · exact ⟨_, _, rfl, hk.cell 1⟩
  clear hb5 hx5
  go_wp2_with fail
  refine (HE.out g5 w5.heap.size _ B5.out X5.out I5.out).mono ?_
  rintro e w6 ⟨rfl, hb6⟩
  have B6 := Lib.hid (B5.out.trans (hb6.mono B5.out.size))
  clear hb6
  go_wp2_with fail
  refine (or_any _).mono ?_
  rintro e w7 ⟨g7, rfl, hx7, hb7⟩
  have B7 := Lib.hid ((B6.out.trans (hb7.mono B6.out.size)).alloc (Nat.le_trans B6.out.size hb7.size) (.cells #[.int .i64 2] 3))
  have X7 := Lib.hid (hx7.keep ((Below.refl w7.heap.size w7).alloc (Nat.le_refl _) (.cells #[.int .i64 2] 3)))
  have I7 : Hid (IntCells (w7.alloc (.cells #[.int .i64 2] 3)) (some ⟨w7.heap.size, 0, none⟩) [2]) := by
    have hk := Blk.new w7 #[.int .i64 2] 3
    intro j hj
    have h2 : j = 0 := by simpa using hj
    subst h2
    exact ⟨_, _, rfl, hk.cell 0⟩
  clear hb7 hx7
  go_wp2_with fail
  refine (HI.out g7 w7.heap.size _ B7.out X7.out I7.out).mono ?_
  rintro e w8 ⟨rfl, hb8⟩
  have B8 := Lib.hid (B7.out.trans (hb8.mono B7.out.size))
  clear hb8
  go_wp2_with fail
  refine (or_any _).mono ?_
  rintro e w9 ⟨g9, rfl, hx9, hb9⟩
  have B9 := Lib.hid (B8.out.trans (hb9.mono B8.out.size))
  have X9 := Lib.hid hx9
  clear hb9 hx9
  go_wp2_with fail
  refine (lone_any _).mono ?_
  rintro e w10 ⟨g10, rfl, hx10, hb10⟩
  have B10 := Lib.hid (B9.out.trans (hb10.mono B9.out.size))
  have X10 := Lib.hid hx10
  have X9' := Lib.hid (X9.out.keep hb10)
  clear hb10 hx10
  go_wp2_with fail
  refine (HCN.out g9 g10 w10 B10.out X9'.out X10.out).mono ?_
  rintro e w11 ⟨rfl, hb11⟩
  have B11 := Lib.hid ((B10.out.trans (hb11.mono B10.out.size)).alloc (Nat.le_trans B10.out.size hb11.size) (.cells #[.int .u64 2, .int .u64 0] 54))
  have K11 := Lib.hid (Blk.new w11 #[.int .u64 2, .int .u64 0] 54)
  clear hb11
  go_wp2_with fail
  refine (lone_any _).mono ?_
  rintro e w12 ⟨g12, rfl, hx12, hb12⟩
  have B12 := Lib.hid (B11.out.trans (hb12.mono B11.out.size))
  have K12 := Lib.hid (K11.out.later hb12)
  have X12 := Lib.hid hx12
  clear hb12 hx12
  go_wp2_with fail
  refine (or_any _).mono ?_
  rintro e w13 ⟨g13, rfl, hx13, hb13⟩
  have B13 := Lib.hid (B12.out.trans (hb13.mono B12.out.size))
  have K13 := Lib.hid (K12.out.later hb13)
  have X13 := Lib.hid hx13
  have X12' := Lib.hid (X12.out.keep hb13)
  clear hb13 hx13
  go_wp2_with fail
  refine (HCM.out g13 g12 w13 B13.out X13.out X12'.out).mono ?_
  rintro e w14 ⟨rfl, hb14⟩
  have B14 := Lib.hid ((B13.out.trans (hb14.mono B13.out.size)).alloc (Nat.le_trans B13.out.size hb14.size) (.cells #[.int .u64 0, .int .u64 0] 54))
  have K14 := K13.out.later hb14
  have hz : w11.heap.size < w14.heap.size := K14.lt
  have j0 : w14.cell? ⟨w11.heap.size, 0, none⟩ = some (.int .u64 2) := K14.cell 0
  have j1 : w14.cell? ⟨w11.heap.size, 1, none⟩ = some (.int .u64 0) := K14.cell 1
  have heq := eq_two
  clear hb14 K14
  go_wp2
  go_ret
  exact ⟨rfl, B14.out⟩
end Go.Proofs.YtkaojolofaanfaaGreatDoor

/- The walks of the references' functions on literals and sets. -/
namespace Go.Proofs.YtkaojolofaanfaaGreatDoor
open Go.RowKit Cen
set_option maxHeartbeats 1000000
set_option maxRecDepth 100000

theorem rVar_any (l : Int) (w : World) : Calls Tryz.prog 116 #[.int .i64 l] w fun e w' => e = .returned (.int .i64 (litVar l)) ∧ w = w' := by
  by_cases h1 : 1 ≤ l ∧ l ≤ 128
  · obtain ⟨a, b⟩ := h1
    have d1 : decide (1 ≤ l) = true := by simpa using a
    have d2 : decide (l ≤ 128) = true := by simpa using b
    go_enter Tryz.func116, Tryz.ntmps116
    go_wp2
    go_ret
    exact ⟨ret_int (by unfold litVar; rw [if_pos ⟨a, b⟩]), rfl⟩
  · by_cases h2 : l ≤ -1 ∧ -128 ≤ l
    · obtain ⟨a, b⟩ := h2
      have d1 : decide (1 ≤ l) = false := by simp; omega
      have d2 : decide (-128 ≤ l) = true := by simpa using b
      have d3 : decide (l ≤ -1) = true := by simpa using a
      clear h1
      go_enter Tryz.func116, Tryz.ntmps116
      go_wp2
      go_ret
      exact ⟨ret_int (by unfold litVar; rw [if_neg (by omega), if_pos ⟨a, b⟩]), rfl⟩
    · have HR : Hid (litVar l = 0) := by show _ = _; unfold litVar; rw [if_neg h1, if_neg h2]
      by_cases c1 : 1 ≤ l
      · have d1 : decide (1 ≤ l) = true := by simpa using c1
        have d2 : decide (l ≤ 128) = false := by simp; omega
        have d3 : decide (-128 ≤ l) = true := by simp; omega
        have d4 : decide (l ≤ -1) = false := by simp; omega
        clear h1 h2
        go_enter Tryz.func116, Tryz.ntmps116
        go_wp2
        go_ret
        exact ⟨ret_int HR.out.symm, rfl⟩
      · have d1 : decide (1 ≤ l) = false := by simpa using c1
        by_cases c2 : -128 ≤ l
        · have d3 : decide (-128 ≤ l) = true := by simpa using c2
          have d4 : decide (l ≤ -1) = false := by simp; omega
          clear h1 h2
          go_enter Tryz.func116, Tryz.ntmps116
          go_wp2
          go_ret
          exact ⟨ret_int HR.out.symm, rfl⟩
        · have d3 : decide (-128 ≤ l) = false := by simpa using c2
          clear h1 h2
          go_enter Tryz.func116, Tryz.ntmps116
          go_wp2
          go_ret
          exact ⟨ret_int HR.out.symm, rfl⟩
theorem rLitValid_any (l n : Int) (w : World) : Calls Tryz.prog 53 #[.int .i64 l, .int .i64 n] w fun e w' => e = .returned (.bool (litOk l n)) ∧ w = w' := by
  have hb := litVar_bd l
  by_cases h0 : litVar l = 0
  · have h1 : decide (0 < litVar l) = false := by simp [h0]
    have hr : litOk l n = false := by simp [litOk, h0]
    rw [hr]; clear hr h0
    go_enter Tryz.func53, Tryz.ntmps53
    go_wp2_with (go_at_call 116; refine (rVar_any _ _).mono ?_; rintro e w' ⟨rfl, rfl⟩)
    go_ret; exact ⟨rfl, rfl⟩
  · have h1 : decide (0 < litVar l) = true := by simp; omega
    have hr : litOk l n = decide (litVar l ≤ n) := by simp [litOk, h0]
    rw [hr]; clear hr h0
    go_enter Tryz.func53, Tryz.ntmps53
    go_wp2_with (go_at_call 116; refine (rVar_any _ _).mono ?_; rintro e w' ⟨rfl, rfl⟩)
    go_ret; exact ⟨rfl, rfl⟩
theorem tbit (x k : Nat) : (((x : Int) / 2 ^ k).tmod 2 == 1) = x.testBit k := by
  have e : (x : Int) / 2 ^ k = ((x / 2 ^ k : Nat) : Int) := by simp
  rw [e, Int.tmod_eq_emod_of_nonneg (Int.natCast_nonneg _), Nat.testBit_eq_decide_div_mod_eq, Bool.eq_iff_iff]
  simp only [beq_iff_eq, decide_eq_true_eq]; omega
theorem mem_lo (s : St) {v : Int} (h1 : 1 ≤ v) (h2 : v ≤ 64) : (((s.a : Int) / 2 ^ (v.toNat - 1)).tmod 2 == 1) = s.mem v := by
  rw [tbit]; unfold St.mem; rw [if_pos ⟨h1, h2⟩]; congr 1; omega
theorem mem_hi (s : St) {v : Int} (h1 : 65 ≤ v) (h2 : v ≤ 128) (k : Nat) (hk : (k : Int) = v - 65) : (((s.b : Int) / 2 ^ k).tmod 2 == 1) = s.mem v := by
  rw [tbit]; unfold St.mem; rw [if_neg (by omega), if_pos ⟨h1, h2⟩]; congr 1; omega
theorem in_any (s : St) (v : Int) (w : World) (h : 1 ≤ v ∧ v ≤ 128) (_hs : s.ok) : Calls Tryz.prog 155 #[stv s, .int .i64 v] w fun e w' => e = .returned (.bool (s.mem v)) ∧ Below w.heap.size w w' := by
  obtain ⟨h1, h2⟩ := h
  by_cases hv : v ≤ 64
  · have e1 : (v - 1) / 64 = 0 := by omega
    have e2 : (v - 1) % 64 = v - 1 := by omega
    go_enter Tryz.func155, Tryz.ntmps155
    go_wp2
    go_ret
    exact ⟨ret_bool (mem_lo s h1 hv), (Below.refl _ _).alloc (Nat.le_refl _) _⟩
  · have e1 : (v - 1) / 64 = 1 := by omega
    have e2 : (v - 1) % 64 = v - 65 := by omega
    have hv2 : 65 ≤ v := by omega
    go_enter Tryz.func155, Tryz.ntmps155
    go_wp2
    go_ret
    exact ⟨ret_bool (mem_hi s hv2 h2 _ (by omega)), (Below.refl _ _).alloc (Nat.le_refl _) _⟩
theorem rHolds_any (s : St) (l : Int) (w : World) (hs : s.ok) : Calls Tryz.prog 152 #[stv s, .int .i64 l] w fun e w' => e = .returned (.bool (holds s.mem l)) ∧ Below w.heap.size w w' := by
  have hb := litVar_bd l
  have HB0 : Hid (Below w.heap.size w (w.alloc (.cells #[.int .u64 (s.a : Int), .int .u64 (s.b : Int)] 54))) := (Below.refl _ _).alloc (Nat.le_refl _) _
  have HOK := Lib.hid hs
  clear hs
  by_cases h0 : litVar l = 0
  · have h1 : decide (0 < litVar l) = false := by simp [h0]
    have HR : Hid (holds s.mem l = false) := by show _ = _; simp [holds, h0]
    clear h0
    go_enter Tryz.func152, Tryz.ntmps152
    go_wp2_with (go_at_call 116; refine (rVar_any _ _).mono ?_; rintro e w' ⟨rfl, rfl⟩)
    go_ret; exact ⟨ret_bool HR.out.symm, HB0.out⟩
  · have h1 : decide (0 < litVar l) = true := by simp; omega
    have HR : Hid (holds s.mem l = (s.mem (litVar l) == decide (0 < l))) := by show _ = _; simp [holds, h0]
    have HI := Lib.hid (fun W => in_any s (litVar l) W (by omega) HOK.out)
    cases hm : s.mem (litVar l)
    all_goals
      cases hd : decide (0 < l)
      all_goals
        have HI2 := Lib.hid HI.out
        rw [hm] at HR HI2
        rw [hd] at HR
        clear hm h0
        go_enter Tryz.func152, Tryz.ntmps152
        go_wp2_with fail
        refine (rVar_any _ _).mono ?_
        rintro e w' ⟨rfl, rfl⟩
        go_wp2_with fail
        refine (HI2.out _).mono ?_
        rintro e w1 ⟨rfl, hb1⟩
        have HB1 := Lib.hid (HB0.out.trans (hb1.mono HB0.out.size))
        clear hb1
        go_wp2
        go_ret
        exact ⟨ret_bool (by rw [HR.out]; rfl), HB1.out⟩
end Go.Proofs.YtkaojolofaanfaaGreatDoor
