/- Part of the proofs that laws of censuslaw38 return true for every input, where the tables that the rows list are laid. Texts: RedL, Reduce, GivenL. -/
import Derived.Test.YtkaojolofaanfaaGreatDoorZA8
import Derived.Test.YtkaojolofaanfaaGreatDoorZA9

/- Plain: the reduced net, and that all on the way is well formed. -/
namespace Cen
/-- Where a node is found or put. -/
theorem putL_spec {L : List Nd} {x : Nd} (hl : L.length < 65536) :
    (∃ i, i < L.length ∧ L.getD i default = x ∧ putL L x = (L, (i : Int), 0)) ∨ (x ∉ L ∧ putL L x = (L ++ [x], (L.length : Int), 0)) := by
  unfold putL
  cases h : L.findIdx? (fun y => decide (y = x)) with
  | some i =>
    rw [List.findIdx?_eq_some_iff_getElem] at h
    obtain ⟨hi, hp, _⟩ := h
    exact .inl ⟨i, hi, by simp [List.getD_eq_getElem?_getD, hi]; simpa using hp, rfl⟩
  | none =>
    refine .inr ⟨?_, by simp only; rw [if_neg (by omega)]⟩
    intro hm
    rw [List.findIdx?_eq_none_iff] at h
    have := h x hm
    simp at this
theorem putL_ok {n : Int} {L : List Nd} {x : Nd} (hl : L.length < 65536) (hL : ndsOk L n L.length) (hx : ndOk x n L.length = true) :
    ndsOk (putL L x).1 n (putL L x).1.length ∧ L.length ≤ (putL L x).1.length ∧ (putL L x).1.length ≤ L.length + 1 ∧ 0 ≤ (putL L x).2.1 ∧ (putL L x).2.1 < (putL L x).1.length := by
  rcases putL_spec (x := x) hl with ⟨i, hi, _, e⟩ | ⟨_, e⟩
  · rw [e]; exact ⟨hL, by simp, by simp, by simp, by simp; omega⟩
  · rw [e]; exact ⟨ndsOk_snoc hL hx, by simp, by simp, by simp, by simp; omega⟩
/-- What Add comes to. -/
theorem addL_cases {n : Int} {L : List Nd} {x : Nd} (hL : ndsOk L n L.length) (hx : ndOk x n L.length = true) :
    (∃ y, ndOk y n L.length = true ∧ addL n L x = ((putL L y).1, (putL L y).2.1)) ∨ (∃ i : Int, 0 ≤ i ∧ i < L.length ∧ addL n L x = (L, i)) := by
  have hxi : ∀ i ∈ x.ins, 0 ≤ i ∧ i < (L.length : Int) := by
    have h1 := hx
    simp only [ndOk, Bool.and_eq_true] at h1
    exact insOk_iff.1 h1.1
  unfold addL
  by_cases h : x.kind = 3 ∨ x.kind = 4
  · rw [if_pos h]
    simp only
    generalize hr : inputsL L x.kind (if x.kind = 3 then 1 else 0) (if x.kind = 3 then 0 else 1) x.ins = r
    have hv : ∀ i ∈ r.1, 0 ≤ i ∧ i < (L.length : Int) := by rw [← hr]; exact inputsL_valid hL hxi
    split
    · exact .inl ⟨_, ndOk_const (by split <;> simp), rfl⟩
    · split
      · exact .inl ⟨_, ndOk_const (by split <;> simp), rfl⟩
      · split
        · rename_i h1
          refine .inr ⟨_, ?_, ?_, rfl⟩
          · have := hv (r.1.getD 0 0) (by simp [List.getD_eq_getElem?_getD, show 0 < r.1.length by omega]); exact this.1
          · have := hv (r.1.getD 0 0) (by simp [List.getD_eq_getElem?_getD, show 0 < r.1.length by omega]); exact this.2
        · exact .inl ⟨_, ndOk_inner h hv, rfl⟩
  · rw [if_neg h]
    exact .inl ⟨_, (ndOk_leaf hx h).1, rfl⟩
theorem addL_ok {n : Int} {L : List Nd} {x : Nd} (hl : L.length < 65536) (hL : ndsOk L n L.length) (hx : ndOk x n L.length = true) :
    ndsOk (addL n L x).1 n (addL n L x).1.length ∧ L.length ≤ (addL n L x).1.length ∧ (addL n L x).1.length ≤ L.length + 1 ∧ 0 ≤ (addL n L x).2 ∧ (addL n L x).2 < (addL n L x).1.length := by
  rcases addL_cases hL hx with ⟨y, hy, e⟩ | ⟨i, h0, h1, e⟩
  · rw [e]; exact putL_ok hl hL hy
  · rw [e]; exact ⟨hL, by simp, by simp, h0, h1⟩
/-- A node with its inputs renumbered. -/
def renum (ats : List Int) (x : Nd) : Nd := ⟨x.kind, x.lit, x.ins.map fun k => ats.getD k.toNat 0⟩
def redStep (n : Int) (st : List Nd × List Int) (x : Nd) : List Nd × List Int := ((addL n st.1 (renum st.2 x)).1, st.2 ++ [(addL n st.1 (renum st.2 x)).2])
def redSt (n : Int) (l : List Nd) (k : Nat) : List Nd × List Int := (l.take k).foldl (redStep n) ([], [])
def redRoot (n : Int) (l : List Nd) : Nat := ((redSt n l l.length).2.getD (l.length - 1) 0).toNat
def redL (n : Int) (l : List Nd) : List Nd := netL (redSt n l l.length).1 (redRoot n l)
theorem redSt_succ {n : Int} {l : List Nd} {k : Nat} (h : k < l.length) : redSt n l (k + 1) = redStep n (redSt n l k) l[k] := by
  unfold redSt; rw [List.take_succ_eq_append_getElem h, List.foldl_append]; rfl
structure RedOk (n : Int) (st : List Nd × List Int) (k : Nat) : Prop where
  nds : ndsOk st.1 n st.1.length
  le : st.1.length ≤ k
  len : st.2.length = k
  at_ : ∀ i ∈ st.2, 0 ≤ i ∧ i < (st.1.length : Int)
theorem RedOk.getD {n : Int} {st : List Nd × List Int} {k : Nat} (h : RedOk n st k) (i : Nat) (hi : i < k) : 0 ≤ st.2.getD i 0 ∧ st.2.getD i 0 < (st.1.length : Int) := by
  have hi' : i < st.2.length := by rw [h.len]; exact hi
  have := h.at_ (st.2[i]) (List.getElem_mem hi')
  simpa [List.getD_eq_getElem?_getD, hi'] using this
theorem renum_ok {n : Int} {st : List Nd × List Int} {k : Nat} {x : Nd} (h : RedOk n st k) (hx : ndOk x n k = true) : ndOk (renum st.2 x) n st.1.length = true := by
  simp only [ndOk, Bool.and_eq_true] at hx ⊢
  obtain ⟨h1, h2⟩ := hx
  refine ⟨?_, ?_⟩
  · rw [insOk_iff] at *
    intro i hi
    simp only [renum, List.mem_map] at hi
    obtain ⟨j, hj, rfl⟩ := hi
    have := h1 j hj
    exact h.getD j.toNat (by omega)
  · unfold formOk renum at *; simpa using h2
theorem redStep_ok {n : Int} {st : List Nd × List Int} {k : Nat} {x : Nd} (h : RedOk n st k) (hx : ndOk x n k = true) (hk : k < 65536) : RedOk n (redStep n st x) (k + 1) := by
  have hl : st.1.length < 65536 := Nat.lt_of_le_of_lt h.le hk
  obtain ⟨a1, a2, a3, a4, a5⟩ := addL_ok hl h.nds (renum_ok h hx)
  refine ⟨a1, by have := h.le; simp only [redStep]; omega, by simp [redStep, h.len], ?_⟩
  intro i hi
  simp only [redStep, List.mem_append, List.mem_singleton] at hi
  rcases hi with hi | hi
  · have := h.at_ i hi; simp only [redStep]; omega
  · subst hi; exact ⟨a4, a5⟩
theorem redSt_ok {n : Int} {l : List Nd} (hl : l.length ≤ 65536) (h : ndsOk l n l.length) (k : Nat) (hk : k ≤ l.length) : RedOk n (redSt n l k) k := by
  induction k with
  | zero => exact ⟨fun j hj => by simp [redSt] at hj, by simp [redSt], by simp [redSt], by simp [redSt]⟩
  | succ k ih =>
    rw [redSt_succ (by omega)]
    refine redStep_ok (ih (by omega)) ?_ (by omega)
    have := h k (by omega)
    simpa [List.getD_eq_getElem?_getD, show k < l.length by omega] using this
theorem redRoot_lt {n : Int} {l : List Nd} (hl : l.length ≤ 65536) (h : ndsOk l n l.length) (h1 : 1 ≤ l.length) : redRoot n l < (redSt n l l.length).1.length := by
  have := (redSt_ok hl h l.length (Nat.le_refl _)).getD (l.length - 1) (by omega)
  unfold redRoot; omega
end Cen

/- The walk of node.Reduce. -/
namespace Go.Proofs.YtkaojolofaanfaaGreatDoor
open Go.RowKit Cen
set_option maxHeartbeats 4000000
set_option maxRecDepth 100000

theorem redStep_eq {n : Int} {st : List Nd × List Int} {x : Nd} : redStep n st x = ((addL n st.1 (renum st.2 x)).1, st.2 ++ [(addL n st.1 (renum st.2 x)).2]) := rfl
theorem mapNum {ats zs : List Int} {ins : List Int} (h : ∀ i ∈ ins, 0 ≤ i ∧ i.toNat < ats.length) : ins.map (fun k => (ats ++ zs).getD k.toNat 0) = ins.map (fun k => ats.getD k.toNat 0) := by
  apply List.map_congr_left
  intro i hi
  have := (h i hi).2
  simp [List.getD_eq_getElem?_getD, List.getElem?_append_left this]

theorem Bld.pF {A F : Nat → Prop} {w : World} {p : Nat} {n : Int} {L : List Nd} (h : Bld A F w p n L) : F p := by
  obtain ⟨mb, lv, LL, HAt, rfl, hF⟩ := h
  exact (hF p).2 (.inl rfl)

theorem Bld.anyA {A A' F : Nat → Prop} {w : World} {p : Nat} {n : Int} (h : Bld A F w p n []) : Bld A' F w p n [] := by
  obtain ⟨mb, lv, LL, HAt, h0, hF⟩ := h
  have : LL = [] := by simpa using h0
  subst this
  exact ⟨mb, lv, [], ⟨HAt.blk, HAt.row, by simp, HAt.map, HAt.sep, HAt.nodup, HAt.ok, HAt.bd, HAt.len⟩, rfl, hF⟩
theorem Bld.kept {A F M : Nat → Prop} {w w' : World} {p : Nat} {n : Int} {L : List Nd} (h : Bld A F w p n L) (hk : Kp M w w') (hM : ∀ k, M k → A k ∧ ¬ F k) : Bld A F w' p n L := by
  obtain ⟨mb, lv, LL, HAt, h0, hF⟩ := h
  refine ⟨mb, lv, LL, ⟨HAt.blk.kept hk (fun e => (hM _ e).2 ((hF _).2 (.inl rfl))), HAt.row.kept hk (fun g hg e => (hM _ e).2 ((hF _).2 (.inr (.inr hg)))), fun x hx => (HAt.ins x hx).kept hk (fun k hk' => .inl (hM k hk').1) (fun _ _ hf => hf),
    HAt.map.kept hk (fun e => (hM _ e).2 ((hF _).2 (.inr (.inl rfl)))), HAt.sep, HAt.nodup, HAt.ok, HAt.bd, HAt.len⟩, h0, hF⟩

theorem reduce_any (n : Int) (a : Option Addr) (cap : Nat) (l : List Nd) (w : World) (hok : netOk ⟨n, l⟩ = true) (hx : NdCells w a l) (hil : ∀ x ∈ l, x.ins.length ≤ 1000000)
    (hfl : ∀ k (h : k < l.length), (Cen.flat (redSt n l k).1 l[k].kind (renum (redSt n l k).2 l[k]).ins).length ≤ 1000000) (ht : Tab w) :
    Calls Tryz.prog 138 #[.agg #[.int .i64 n, .slice a l.length cap]] w
      fun e w' => ∃ a' cap', e = .returned (.tuple #[.agg #[.int .i64 n, .slice a' (redL n l).length cap'], .int .i64 0]) ∧ NdAbove w.heap.size w' a' (redL n l) ∧ Below w.heap.size w w' := by
  obtain ⟨hn0, hn1, hl1, hl2⟩ := netOk_head hok
  have HNDS : Hid (ndsOk l n l.length) := by
    simp only [netOk, Bool.and_eq_true, decide_eq_true_eq] at hok; exact hok.2
  have HCHK : Hid (chk ⟨n, l⟩ = 0) := by show _ = _; simp [chk, hok]
  have HOK := Lib.hid hok
  have HX := Lib.hid hx
  have HIL := Lib.hid hil
  have HFL := Lib.hid hfl
  have HT := Lib.hid ht
  have HN0 := Lib.hid hn0
  have HN1 := Lib.hid hn1
  have HL2 := Lib.hid (show l.length ≤ 65536 from hl2)
  have hl3 : l.length ≤ 1073741824 := by have := HL2.out; omega
  have hl1' : 1 ≤ l.length := hl1
  have HM : Hid (l.length ≤ maxLen) := by show _ ≤ _; unfold maxLen; omega
  have HBA : Hid (Below w.heap.size w ((w.alloc (.cells #[.int .i64 n, .slice a l.length cap] 24)).alloc (.cells #[.int .i64 0, .slice none 0 0] 24))) := ((Below.refl _ _).alloc (Nat.le_refl _) _).alloc (by simp) _
  clear hok hx hil hfl ht hn0 hn1 hl1 hl2
  go_enter Tryz.func138, Tryz.ntmps138
  go_wp2_with fail
  refine (check_any n a cap l _ hl3 (HX.out.keep HBA.out)).mono ?_
  rintro e w1 ⟨rfl, hb1⟩
  rw [HCHK.out]
  have hq1 := ((Blk.new w #[.int .i64 n, .slice a l.length cap] 24).alloc (.cells #[.int .i64 0, .slice none 0 0] 24)).later hb1
  have hq2 := (Blk.new (w.alloc (.cells #[.int .i64 n, .slice a l.length cap] 24)) #[.int .i64 0, .slice none 0 0] 24).later hb1
  rw [World.size_alloc] at hq2
  have k0 : w1.cell? ⟨w.heap.size, 0, none⟩ = some (.int .i64 n) := hq1.cell 0
  have k1 : w1.cell? ⟨w.heap.size, 1, none⟩ = some (.slice a l.length cap) := hq1.cell 1
  have HQ1 := Lib.hid hq1
  have HQ2 := Lib.hid hq2
  have HB1 := Lib.hid (HBA.out.trans (hb1.mono (by simp; omega)))
  have hz1 : w.heap.size + 1 < w1.heap.size := hq2.lt
  clear hb1 hq1 hq2
  go_wp2_with fail
  refine (nodeNew_any (fun _ => False) n w1 HN0.out HN1.out).mono ?_
  rintro e w2 ⟨p, rfl, hbd2, hb2⟩
  have k0' := cell_keep hb2 k0
  have k1' := cell_keep hb2 k1
  have HBD2 := Lib.hid hbd2
  have HB2 := Lib.hid hb2
  have hz2 : w1.heap.size ≤ w2.heap.size := hb2.size
  clear k0 k1 hbd2 hb2
  go_wp2_with (at_make; go_loud (refine mk elemInt rfl _ _ rfl w1.heap.size .i64 .i64 _ _ l.length rfl rfl rfl rfl (by omega) HM.out HB2.out.size I1 0 rfl ?_))
  intro w3 ho3 hg3
  have hb23 : Below w1.heap.size w2 w3 := (Below.refl _ _).grown hg3 HB2.out.size (by simp)
  have hk23 : Below w2.heap.size w2 w3 := (Below.refl _ _).grown hg3 (Nat.le_refl _) (by simp)
  have k0 := cell_keep hk23 k0'
  have k1 := cell_keep hk23 k1'
  have HO3 := Lib.hid ho3
  have HBD3 := Lib.hid ((HBD2.out.later hk23).anyA (A' := fun k => k = w2.heap.size))
  have HB13 := Lib.hid (HB2.out.trans hb23)
  have hz3 : w1.heap.size ≤ w3.heap.size := HB13.out.size
  have hp3 : p < w3.heap.size := HBD3.out.plt
  have HFP := Lib.hid HBD3.out.pF
  clear ho3 hg3 hb23 hk23 k0' k1'
  go_wp2
  go_loopw [30] (fun i wr => ∃ (k : Nat) (F : Nat → Prop), k ≤ l.length ∧ i = .int .i64 k ∧ Bld (fun b => b = w2.heap.size) F wr p n (redSt n l k).1 ∧ (∀ b, F b → w1.heap.size ≤ b ∧ b ≠ w2.heap.size) ∧
    OwnL I1 3 1 wr w1.heap.size (.slice (some ⟨w2.heap.size, 0, none⟩) l.length l.length) ((redSt n l k).2 ++ List.replicate (l.length - k) 0) ∧ Below w1.heap.size w1 wr) (fun i _ => l.length - (intOf i).toNat)
  case atStart =>
    refine ⟨0, _, Nat.zero_le _, rfl, HBD3.out, ?_, by simpa [redSt] using HO3.out, HB13.out⟩
    intro b hb
    have := HBD2.out.flt hb
    exact ⟨hb.1, by omega⟩
  case round =>
    obtain ⟨k, F, hk, rfl, hbd, hF, hown, hbel⟩ := hrel
    have HBD := Lib.hid hbd
    have HF := Lib.hid hF
    have HO := Lib.hid hown
    have HB := Lib.hid hbel
    clear hbd hF hown hbel
    have HRO := Lib.hid (redSt_ok HL2.out HNDS.out k hk)
    by_cases hlt : k < l.length
    · have HRS := Lib.hid (redSt_succ (n := n) hlt)
      have HFK := Lib.hid (HFL.out k hlt)
      have HXL := Lib.hid (HIL.out _ (List.getElem_mem hlt))
      have hnk := HNDS.out k hlt
      have hge : l.getD k default = l[k] := by simp [List.getD_eq_getElem?_getD, hlt]
      rw [hge] at hnk
      have HRN := Lib.hid (renum_ok HRO.out hnk)
      have hin : ∀ i ∈ l[k].ins, 0 ≤ i ∧ i < (k : Int) := by
        have h1 := hnk
        simp only [ndOk, Bool.and_eq_true] at h1
        exact insOk_iff.1 h1.1
      have HIN := Lib.hid hin
      have hbw : Below w.heap.size w wr := HB1.out.trans (HB.out.mono HB1.out.size)
      obtain ⟨b, off, rfl, hc⟩ := (HX.out.keep hbw) k hlt
      rw [hge] at hc
      generalize l[k] = x at *
      generalize redSt n l k = st at *
      obtain ⟨c0, c1, av, cv, c2, ci, cl⟩ := hc
      have HCI := Lib.hid ci
      have HBW := Lib.hid hbw
      have hbz : b < wr.heap.size := cell_block c0
      have u1 : wr.cell? ⟨w.heap.size, 1, none⟩ = some (.slice (some ⟨b, off, none⟩) l.length cap) := (HQ1.out.laterB HB.out (by omega)).cell 1
      have HCL := Lib.hid (cloneInts_any av cv x.ins (wr.alloc (.cells #[.int .i64 x.kind, .int .i64 x.lit, .slice av x.ins.length cv] 67)) cl (HCI.out.keep ((Below.refl _ _).alloc (Nat.le_refl _) _)))
      clear hnk hge hin hbw ci
      go_wp2_with fail
      refine HCL.out.mono ?_
      rintro e w4 ⟨v, rfl, hov, hb4⟩
      have hblk4 := (Blk.new wr #[.int .i64 x.kind, .int .i64 x.lit, .slice av x.ins.length cv] 67).later hb4
      have hb4r : Below wr.heap.size wr w4 := ((Below.refl _ _).alloc (Nat.le_refl _) _).trans (hb4.mono (by simp))
      obtain ⟨vb, vcap, rfl, _, _⟩ := hov.cells
      have s0 : w4.cell? ⟨wr.heap.size, 0, none⟩ = some (.int .i64 x.kind) := hblk4.cell 0
      have s1 : w4.cell? ⟨wr.heap.size, 1, none⟩ = some (.int .i64 x.lit) := hblk4.cell 1
      have s2 : w4.cell? ⟨wr.heap.size, 2, none⟩ = some (.slice av x.ins.length cv) := hblk4.cell 2
      have s3 := hblk4.fr 2
      have hw4 : wr.heap.size < w4.heap.size := hblk4.lt
      have HOV : Hid (OwnL I1 3 1 w4 (wr.heap.size + 1) (.slice vb x.ins.length vcap) x.ins) := by
        have := ownInts_I1.1 hov; rw [World.size_alloc] at this; exact this
      have HB4 := Lib.hid hb4r
      have HBL := Lib.hid hblk4
      clear hov hb4 hblk4 hb4r c0 c1 c2 u1
      go_wp2
      have HO5 : Hid (OwnL I1 3 1 (w4.setCell ⟨wr.heap.size, 2, none⟩ (.slice vb x.ins.length vcap)) (wr.heap.size + 1) (.slice vb x.ins.length vcap) x.ins) :=
        HOV.out.kept (Kp.setCell (M := fun k => k = wr.heap.size) _ _ _ rfl) (fun k hk e => by have := (World.ownsRow.lt HOV.out k hk).1; omega)
      have HBL5 : Hid (Blk (w4.setCell ⟨wr.heap.size, 2, none⟩ (.slice vb x.ins.length vcap)) wr.heap.size #[.int .i64 x.kind, .int .i64 x.lit, .slice vb x.ins.length vcap] 67) := HBL.out.set 2 _
      have HB5 : Hid (Below wr.heap.size wr (w4.setCell ⟨wr.heap.size, 2, none⟩ (.slice vb x.ins.length vcap))) := HB4.out.setCell (Nat.le_refl _) _
      have hz5 : (w4.setCell ⟨wr.heap.size, 2, none⟩ (.slice vb x.ins.length vcap)).heap.size = w4.heap.size := World.size_setCell' _ _ _
      generalize hw5 : w4.setCell ⟨wr.heap.size, 2, none⟩ (.slice vb x.ins.length vcap) = w5 at *
      clear hw5 s0 s1 s2 s3
      obtain ⟨wv, rfl⟩ : ∃ wv : World, wv = wr := ⟨_, rfl⟩
      have HATL : Hid (k = st.2.length) := HRO.out.len.symm
      have hwz : w2.heap.size < wv.heap.size := HO.out.lt.1
      go_loopw [42] (fun c wi => ∃ q : Nat, q ≤ x.ins.length ∧ c = .int .i64 q ∧ OwnL I1 3 1 wi (wv.heap.size + 1) (.slice vb x.ins.length vcap) ((x.ins.take q).map (fun k' => st.2.getD k'.toNat 0) ++ x.ins.drop q) ∧ Below (wv.heap.size + 1) w5 wi) (fun c _ => x.ins.length - (intOf c).toNat)
      case atStart => exact ⟨0, Nat.zero_le _, rfl, by simpa using HO5.out, Below.refl _ _⟩
      case round =>
        obtain ⟨q, hq, rfl, hown, hbel⟩ := hrel
        have HOQ := Lib.hid hown
        have HBQ := Lib.hid hbel
        clear hown hbel
        have HBV := Lib.hid (HB5.out.trans (HBQ.out.mono (by omega)))
        have hro := HO.out.later HBV.out
        have hbl := HBL5.out.laterB HBQ.out (by omega)
        have t2 : wr.cell? ⟨wv.heap.size, 2, none⟩ = some (.slice vb x.ins.length vcap) := hbl.cell 2
        have t3 : wv.heap.size < wr.heap.size := hbl.lt
        have HROQ := Lib.hid hro
        have HBLQ := Lib.hid hbl
        clear hro hbl
        by_cases hql : q < x.ins.length
        · obtain ⟨g, rfl⟩ : ∃ g, vb = some ⟨g, 0, none⟩ := by
            rcases HOQ.out.shape with ⟨h1, _⟩ | ⟨g, cap, h1, _⟩
            · simp only [Value.slice.injEq] at h1; omega
            · simp only [Value.slice.injEq] at h1; exact ⟨g, h1.1⟩
          obtain ⟨hk0, hk1⟩ := HIN.out _ (List.getElem_mem hql)
          have hdr : x.ins.drop q = x.ins[q] :: x.ins.drop (q + 1) := List.drop_eq_getElem_cons hql
          have hnx : (x.ins.take (q + 1)).map (fun k' => st.2.getD k'.toNat 0) = (x.ins.take q).map (fun k' => st.2.getD k'.toNat 0) ++ [st.2.getD x.ins[q].toNat 0] := by
            rw [List.take_succ_eq_append_getElem hql, List.map_append]; rfl
          have hown := HOQ.out
          rw [hdr] at hown
          generalize x.ins[q] = kz at *
          obtain ⟨kn, rfl⟩ := Int.eq_ofNat_of_zero_le hk0
          rw [Int.toNat_natCast] at hnx
          have HNX := Lib.hid hnx
          have hvl : q = ((x.ins.take q).map (fun k' => st.2.getD k'.toNat 0)).length := by rw [List.length_map, List.length_take]; omega
          have hvn : ∀ y : Int, x.ins.length = ((x.ins.take q).map (fun k' => st.2.getD k'.toNat 0) ++ y :: x.ins.drop (q + 1)).length := fun y => by
            rw [List.length_append, ← hvl, List.length_cons, List.length_drop]; omega
          have c1 : wr.cell? ⟨g, q, none⟩ = some (.int .i64 kn) := by
            have := hown.mid hvl (hvn _) I1_len 0 (by omega)
            simpa [I1] using this
          have c2 := hown.fr (hvn _) q
          have HPUT : Hid (OwnL I1 3 1 (wr.setCell ⟨g, q, none⟩ (.int .i64 (st.2.getD kn 0))) (wv.heap.size + 1) (.slice (some ⟨g, 0, none⟩) x.ins.length vcap) ((x.ins.take q).map (fun k' => st.2.getD k'.toNat 0) ++ st.2.getD kn 0 :: x.ins.drop (q + 1))) :=
            hown.midput1 hvl (hvn _) I1_len _ _ rfl
          have hknl : kn < st.2.length := by have := HATL.out; omega
          have c3 : wr.cell? ⟨w2.heap.size, kn, none⟩ = some (.int .i64 (st.2.getD kn 0)) := by
            have h1 : l.length = (st.2 ++ List.replicate (l.length - k) 0).length := by rw [List.length_append, List.length_replicate]; have := HATL.out; omega
            have := HROQ.out.cell1 h1 kn (by rw [List.length_append]; omega)
            rw [this, List.getElem_append_left hknl]; simp [List.getD_eq_getElem?_getD, hknl]
          have HGB : Hid (wv.heap.size + 1 ≤ g) := hown.lt.2
          have hkn1 : (kn : Int) < (l.length : Int) := by omega
          have hgz' : g < wr.heap.size := hown.lt.1
          have hBz' : w2.heap.size < wr.heap.size := HROQ.out.lt.1
          have hqi : (q : Int) < (x.ins.length : Int) := by omega
          clear hown hdr hnx hvl hvn hk0 hknl
          obtain ⟨av', hav'⟩ : ∃ av', av' = st.2.getD kn 0 := ⟨_, rfl⟩
          rw [← hav'] at c3 HPUT HNX
          have HAV := Lib.hid hav'
          clear hav'
          go_wp2_with fail
          refine wp_region_still_tail 12 (by kernel_rfl) (by kernel_rfl) ?_
          simp only [List.take_succ_cons, List.take_zero, List.drop_succ_cons, List.drop_zero]
          change wpStill _ _ (World.drew _) _ _ _
          repeat still_step
          refine wpStill_nil ?_
          go_wp2
          go_roundw
          case rel => exact ⟨q + 1, by omega, by go_num, by rw [HNX.out, List.append_assoc]; exact HPUT.out, HBQ.out.trans ((Below.refl _ _).drew.setCell (show wv.heap.size + 1 ≤ (⟨g, q, none⟩ : Addr).block from HGB.out) _)⟩
          case measure => simp [intOf]; omega
        · have : q = x.ins.length := by omega
          subst this
          have hrw := HOQ.out
          rw [List.take_length, List.drop_length, List.append_nil] at hrw
          have t0 : wr.cell? ⟨wv.heap.size, 0, none⟩ = some (.int .i64 x.kind) := HBLQ.out.cell 0
          have t1 : wr.cell? ⟨wv.heap.size, 1, none⟩ = some (.int .i64 x.lit) := HBLQ.out.cell 1
          have hoi : OwnInts wr (wv.heap.size + 1) (.slice vb x.ins.length vcap) (renum st.2 x).ins := ownInts_I1.2 hrw
          obtain ⟨a1, cap1, e1, hic, _⟩ := hoi.cells
          simp only [Value.slice.injEq] at e1
          rw [← e1.1] at hic
          have hrl : (renum st.2 x).ins.length = x.ins.length := by simp [renum]
          have HIC := Lib.hid hic
          have HADD : Hid (Calls Tryz.prog 177 #[.pointer (some ⟨p, 0, none⟩), .agg #[.int .i64 x.kind, .int .i64 x.lit, .slice vb x.ins.length vcap]] wr
              fun e w' => ∃ F', e = .returned (.tuple #[.int .i64 (addL n st.1 (renum st.2 x)).2, .int .i64 0]) ∧ Bld (fun b => b = w2.heap.size) F' w' p n (addL n st.1 (renum st.2 x)).1 ∧ Kp F wr w' ∧ (∀ k, F' k → F k ∨ wr.heap.size ≤ k)) := by
            have h := badd_any (fun b => b = w2.heap.size) F p n st.1 (renum st.2 x) vb vcap wr (HBD.out.later HBV.out) hic HRN.out (by have := HRO.out.le; have := HL2.out; omega) (by rw [hrl]; exact HXL.out) HFK.out (HT.out.keep (HBW.out.trans (HBV.out.mono HBW.out.size))) (fun b hb => by subst hb; exact HROQ.out.lt.1)
            rw [hrl] at h; exact h
          clear hrw hoi e1 hic hrl
          go_wp2_with fail
          refine HADD.out.mono ?_
          rintro e w6 ⟨F', rfl, hbd6, hkp6, hf6⟩
          have hro6 := HROQ.out.kept hkp6 (fun g hg hFg => (HF.out g hFg).2 (by simp [Value.ownBlock] at hg; exact hg.symm))
          have hll : l.length = (st.2 ++ List.replicate (l.length - k) 0).length := by rw [List.length_append, List.length_replicate]; have := HATL.out; omega
          have f6 := hro6.fr hll k
          have hz6 : w2.heap.size < w6.heap.size := hro6.lt.1
          have v6 : w6.cell? ⟨w2.heap.size, k, none⟩ = some (.int .i64 0) := by
            have := hro6.cell1 hll k (by omega)
            rw [this]; rw [List.getElem_append_right (by have := HATL.out; omega)]; simp
          have HRO6 := Lib.hid hro6
          have HLL := Lib.hid hll
          have HBD6 := Lib.hid hbd6
          have HKP6 := Lib.hid hkp6
          have HF6 := Lib.hid hf6
          clear hro6 hll hbd6 hkp6 hf6
          go_wp2
          go_roundw
          case rel =>
            refine ⟨k + 1, F', by omega, by go_num, ?_, ?_, ?_, ?_⟩
            · rw [HRS.out]
              exact HBD6.out.kept (Kp.setCell (M := fun b => b = w2.heap.size) _ _ _ rfl) (fun b hb => ⟨hb, fun hF' => by
                subst hb
                rcases HF6.out _ hF' with h | h
                · exact (HF.out _ h).2 rfl
                · have := HROQ.out.lt.1; omega⟩)
            · intro b hb
              rcases HF6.out b hb with h | h
              · exact HF.out b h
              · have h1 := HROQ.out.lt.1
                have h2 := HROQ.out.lt.2
                exact ⟨by omega, by omega⟩
            · rw [HRS.out]
              have h1 : List.replicate (l.length - k) (0 : Int) = 0 :: List.replicate (l.length - (k + 1)) 0 := by
                rw [← List.replicate_succ]; congr 1; omega
              have h2 := HRO6.out
              have h3 := HLL.out
              rw [h1] at h2 h3
              have h4 := h2.midput1 HATL.out h3 I1_len (addL n st.1 (renum st.2 x)).2 _ rfl
              show OwnL _ _ _ _ _ _ ((st.2 ++ [(addL n st.1 (renum st.2 x)).2]) ++ _)
              rw [List.append_assoc]; exact h4
            · exact HB.out.trans ((HBV.out.mono HB.out.size).trans (((HKP6.out.toBelow (B := w1.heap.size) (by have := HROQ.out.lt.1; have := HROQ.out.lt.2; omega) (fun b hb hF' => by have := (HF.out b hF').1; omega))).setCell (show w1.heap.size ≤ (⟨w2.heap.size, k, none⟩ : Addr).block from HB2.out.size) _))
          case measure => simp [intOf]; omega
    · have : k = l.length := by omega
      subst this
      have hro := HO.out
      rw [Nat.sub_self, List.replicate_zero, List.append_nil] at hro
      have hlen : l.length = (redSt n l l.length).2.length := HRO.out.len.symm
      have hgd := HRO.out.getD (l.length - 1) (by omega)
      have hrr : (redSt n l l.length).2.getD (l.length - 1) 0 = (redRoot n l : Int) := by unfold redRoot; omega
      have v1 : wr.cell? ⟨w2.heap.size, l.length - 1, none⟩ = some (.int .i64 (redRoot n l : Int)) := by
        rw [hro.cell1 hlen (l.length - 1) (by omega), ← hrr]
        simp [List.getD_eq_getElem?_getD, show l.length - 1 < (redSt n l l.length).2.length by omega]
      have hrt : redRoot n l < (redSt n l l.length).1.length := redRoot_lt HL2.out HNDS.out hl1'
      have hq2 := HQ2.out.laterB HB.out (by omega)
      have HNET : Hid (Calls Tryz.prog 178 #[.pointer (some ⟨p, 0, none⟩), .int .i64 (redRoot n l : Int)] wr
          fun e w' => ∃ a cap, e = .returned (.tuple #[.agg #[.int .i64 n, .slice a (redL n l).length cap], .int .i64 0]) ∧ NdAbove wr.heap.size w' a (redL n l) ∧ Below wr.heap.size wr w') :=
        net_any _ F p n (redSt n l l.length).1 (redRoot n l) wr HBD.out hrt
      have HQ3 := Lib.hid hq2
      have hz4 : w2.heap.size < wr.heap.size := hro.lt.1
      obtain ⟨m, hm⟩ : ∃ m, m = l.length - 1 := ⟨_, rfl⟩
      rw [← hm] at v1
      have e1 : ((l.length : Int) - 1) = (m : Int) := by omega
      have hmi : (m : Int) < (l.length : Int) := by omega
      clear hro hlen hgd hrr hrt hq2 hm
      go_wp2_with fail
      refine HNET.out.mono ?_
      rintro e w7 ⟨a7, cap7, rfl, hn7, hb7⟩
      have hq4 := HQ3.out.later hb7
      have r0 : w7.cell? ⟨w.heap.size + 1, 0, none⟩ = some (.int .i64 0) := hq4.cell 0
      have r1 : w7.cell? ⟨w.heap.size + 1, 1, none⟩ = some (.slice none 0 0) := hq4.cell 1
      have f0 := hq4.fr 0
      have f1 := hq4.fr 1
      have hz7 : w.heap.size + 1 < w7.heap.size := hq4.lt
      have HQ4 := Lib.hid hq4
      have HN7 := Lib.hid hn7
      have HB7 := Lib.hid hb7
      clear hq4 hn7 hb7
      go_wp2
      have hbr2 := (HQ4.out.set 0 (.int .i64 n)).set 1 (.slice a7 (redL n l).length cap7)
      have e0 : ((w7.setCell ⟨w.heap.size + 1, 0, none⟩ (.int .i64 n)).setCell ⟨w.heap.size + 1, 1, none⟩ (.slice a7 (redL n l).length cap7)).cell? ⟨w.heap.size + 1, 0, none⟩ = some (.int .i64 n) := hbr2.cell 0
      have e1 : ((w7.setCell ⟨w.heap.size + 1, 0, none⟩ (.int .i64 n)).setCell ⟨w.heap.size + 1, 1, none⟩ (.slice a7 (redL n l).length cap7)).cell? ⟨w.heap.size + 1, 1, none⟩ = some (.slice a7 (redL n l).length cap7) := hbr2.cell 1
      have HK9 : Hid (Kp (fun k => k = w.heap.size + 1) w7 ((w7.setCell ⟨w.heap.size + 1, 0, none⟩ (.int .i64 n)).setCell ⟨w.heap.size + 1, 1, none⟩ (.slice a7 (redL n l).length cap7))) := (Kp.setCell (M := fun k => k = w.heap.size + 1) w7 ⟨w.heap.size + 1, 0, none⟩ (.int .i64 n) rfl).trans (Kp.setCell (M := fun k => k = w.heap.size + 1) _ ⟨w.heap.size + 1, 1, none⟩ (.slice a7 (redL n l).length cap7) rfl)
      have HWZ : Hid (w.heap.size + 2 ≤ wr.heap.size) := by show _ ≤ _; omega
      refine bodyPost_ret (v := .tuple #[.agg #[.int .i64 n, .slice a7 (redL n l).length cap7], .int .i64 0]) (by simp [results, Tryz.results138, go_sem, e0, e1]) rfl ⟨a7, cap7, rfl, ((HN7.out.lower HWZ.out).kept HK9.out (fun b hb => by omega)).lower (by omega), ?_⟩
      have h1 : Below w.heap.size w wr := HB1.out.trans (HB.out.mono HB1.out.size)
      exact ((h1.trans (HB7.out.mono h1.size)).setCell (show w.heap.size ≤ (⟨w.heap.size + 1, 0, none⟩ : Addr).block from Nat.le_succ _) _).setCell (show w.heap.size ≤ (⟨w.heap.size + 1, 1, none⟩ : Addr).block from Nat.le_succ _) _
end Go.Proofs.YtkaojolofaanfaaGreatDoor

/- Plain: a net, given literals. -/
namespace Cen
def gvNd (xs : List Int) (x : Nd) : Nd :=
  if x.kind = 2 ∧ x.lit ∈ xs then ⟨1, 0, []⟩ else if x.kind = 2 ∧ -x.lit ∈ xs then ⟨0, 0, []⟩ else x
def gvL (n : Int) (xs : List Int) (l : List Nd) : List Nd := redL n (l.map (gvNd xs))
theorem gvNd_ok {xs : List Int} {x : Nd} {n b : Int} (h : ndOk x n b = true) : ndOk (gvNd xs x) n b = true := by
  unfold gvNd
  split
  · exact ndOk_const (.inr rfl)
  · split
    · exact ndOk_const (.inl rfl)
    · exact h
theorem gvL_ok {n : Int} {xs : List Int} {l : List Nd} (h : netOk ⟨n, l⟩ = true) : netOk ⟨n, l.map (gvNd xs)⟩ = true := by
  simp only [netOk, Bool.and_eq_true, decide_eq_true_eq] at *
  refine ⟨by simpa [headOk] using h.1, ?_⟩
  intro j hj
  simp only [List.length_map] at hj
  have h1 := h.2 j hj
  have e : l.getD j default = l[j] := by simp [List.getD_eq_getElem?_getD, hj]
  have e2 : (l.map (gvNd xs)).getD j default = gvNd xs l[j] := by simp [List.getD_eq_getElem?_getD, hj]
  rw [e] at h1
  rw [e2]; exact gvNd_ok h1
end Cen
