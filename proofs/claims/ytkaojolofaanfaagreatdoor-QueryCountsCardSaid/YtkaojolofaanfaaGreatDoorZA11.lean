/- Part of the proofs that laws of censuslaw38 return true for every input, where the tables that the rows list are laid. Texts: Given, Decomp. -/
import Derived.Test.YtkaojolofaanfaaGreatDoorZA10
import Derived.Test.YtkaojolofaanfaaGreatDoorZA4
import Derived.Test.YtkaojolofaanfaaGreatDoorZA6

/- The walks of slices.Clone at []api.Node and of query.given. -/
namespace Go.Proofs.YtkaojolofaanfaaGreatDoor
open Go.RowKit Cen
set_option maxHeartbeats 4000000
set_option maxRecDepth 100000

theorem listOf {P : Nat → Value → Prop} : ∀ n : Nat, (∀ i, i < n → ∃ v, P i v) → ∃ vs : List Value, vs.length = n ∧ ∀ i v, vs[i]? = some v → P i v := by
  intro n
  induction n with
  | zero => intro _; exact ⟨[], rfl, by simp⟩
  | succ n ih =>
    intro h
    obtain ⟨vs, h1, h2⟩ := ih fun i hi => h i (by omega)
    obtain ⟨v, hv⟩ := h n (by omega)
    refine ⟨vs ++ [v], by simp [h1], ?_⟩
    intro i u hu
    rcases Nat.lt_or_ge i vs.length with hi | hi
    · rw [List.getElem?_append_left hi] at hu; exact h2 i u hu
    · rw [List.getElem?_append_right hi] at hu
      have : i = vs.length := by
        rcases Nat.lt_or_ge (i - vs.length) 1 with h3 | h3
        · omega
        · rw [List.getElem?_eq_none (by simpa using h3)] at hu; simp at hu
      subst this
      simp at hu; subst hu; rw [h1]; exact hv
/-- Inputs that can be read. -/
def InsRd (w : World) (x : Nd × Value) : Prop := ∃ av cv, x.2 = .slice av x.1.ins.length cv ∧ IntCells w av x.1.ins ∧ x.1.ins.length ≤ 1073741824
theorem InsRd.keep {w w' : World} {x : Nd × Value} (h : InsRd w x) (hb : Below w.heap.size w w') : InsRd w' x :=
  let ⟨av, cv, h1, h2, h3⟩ := h; ⟨av, cv, h1, h2.keep hb, h3⟩
theorem NdCells.pairs {w : World} {ad : Addr} {l : List Nd} (h : NdCells w (some ad) l) :
    ∃ LL : List (Nd × Value), LL.map Prod.fst = l ∧ (∀ x ∈ LL, InsRd w x) ∧ ∀ j u, (LL.flatMap ndc)[j]? = some u → w.cell? (ad.add j) = some u := by
  obtain ⟨vs, hl, hv⟩ := listOf (P := fun i v => w.cell? (ad.add (i * 3)) = some (.int .i64 (l.getD i default).kind) ∧ w.cell? (ad.add (i * 3 + 1)) = some (.int .i64 (l.getD i default).lit) ∧ w.cell? (ad.add (i * 3 + 2)) = some v ∧ InsRd w (l.getD i default, v)) l.length (by
    intro i hi
    obtain ⟨b, off, e, c0, c1, av, cv, c2, c3, c4⟩ := h i hi
    simp only [Option.some.injEq] at e
    subst e
    have e1 : ∀ j, (⟨b, off, none⟩ : Addr).add j = ⟨b, off + j, none⟩ := by
      intro j
      unfold Addr.add; split
      · rename_i hj0; rw [hj0]; rfl
      · simp
    exact ⟨_, by rw [e1]; exact c0, by rw [e1]; exact c1, by rw [e1]; exact c2, av, cv, rfl, c3, c4⟩)
  refine ⟨l.zip vs, by rw [List.map_fst_zip]; omega, ?_, ?_⟩
  · intro x hx
    obtain ⟨i, hi, rfl⟩ := List.getElem_of_mem hx
    have hi2 : i < l.length ∧ i < vs.length := by simp at hi; omega
    have := (hv i vs[i] (by simp [hi2.2])).2.2.2
    simpa [List.getD_eq_getElem?_getD, hi2.1] using this
  · intro j u hu
    have hlen : ((l.zip vs).flatMap ndc).length = l.length * 3 := by
      rw [flat_length ndc_len]; simp [hl]
    have hj : j < l.length * 3 := by
      rcases Nat.lt_or_ge j (l.length * 3) with h' | h'
      · exact h'
      · rw [List.getElem?_eq_none (by omega)] at hu; simp at hu
    have hq : j / 3 < l.length := by omega
    have hq2 : j / 3 < vs.length := by omega
    have e : j = j / 3 * 3 + j % 3 := by omega
    have hm : j % 3 < 3 := by omega
    have hz : j / 3 < (l.zip vs).length := by simp; omega
    rw [e, flat_get ndc_len _ _ _ hz hm] at hu
    have hz2 : (l.zip vs)[j / 3] = (l[j / 3], vs[j / 3]) := by simp
    rw [hz2] at hu
    obtain ⟨p0, p1, p2, _⟩ := hv (j / 3) vs[j / 3] (by simp [hq2])
    have e3 : l.getD (j / 3) default = l[j / 3] := by simp [List.getD_eq_getElem?_getD, hq]
    rw [e3] at p0 p1
    rw [e]
    generalize j / 3 = q at *
    have h3 : j % 3 = 0 ∨ j % 3 = 1 ∨ j % 3 = 2 := by omega
    rcases h3 with h3 | h3 | h3
    · rw [h3] at hu ⊢; simp [ndc] at hu; rw [← hu]; exact p0
    · rw [h3] at hu ⊢; simp [ndc] at hu; rw [← hu]; exact p1
    · rw [h3] at hu ⊢; simp [ndc] at hu; rw [← hu]; exact p2
theorem oneNds (LL : List (Nd × Value)) {w : World} (h : ∀ x ∈ LL, InsRd w x) : ∀ u ∈ LL.flatMap ndc, u.oneCell' = true := by
  intro u hu
  rw [List.mem_flatMap] at hu
  obtain ⟨x, hx, hu⟩ := hu
  obtain ⟨av, cv, e, _⟩ := h x hx
  simp [ndc] at hu
  rcases hu with rfl | rfl | rfl
  · rfl
  · rfl
  · rw [e]; rfl
theorem OwnL.nds {w : World} {base n cap : Nat} {a : Option Addr} {LL : List (Nd × Value)} (hn : n = LL.length) (h : OwnL ndc 67 3 w base (.slice a n cap) LL) (hi : ∀ x ∈ LL, InsRd w x) : NdCells w a (LL.map Prod.fst) := by
  intro i hlt
  rw [List.length_map] at hlt
  obtain ⟨g, rfl⟩ : ∃ g, a = some ⟨g, 0, none⟩ := by
    rcases h.shape with ⟨_, h2⟩ | ⟨g, cap', h1, _⟩
    · rw [h2] at hlt; simp at hlt
    · simp only [Value.slice.injEq] at h1; exact ⟨g, h1.1⟩
  have e : (LL.map Prod.fst).getD i default = (LL[i]).1 := by simp [List.getD_eq_getElem?_getD, hlt]
  obtain ⟨av, cv, h1, h2, h3⟩ := hi _ (List.getElem_mem hlt)
  refine ⟨g, 0, rfl, ?_, ?_, av, cv, ?_, by rw [e]; exact h2, by rw [e]; exact h3⟩
  · rw [e, Nat.zero_add]; exact h.cell hn ndc_len i 0 hlt (by omega)
  · rw [e, Nat.zero_add]; exact h.cell hn ndc_len i 1 hlt (by omega)
  · rw [e, Nat.zero_add, ← h1]; exact h.cell hn ndc_len i 2 hlt (by omega)

theorem cloneNds_any (ad : Addr) (cap : Nat) (LL : List (Nd × Value)) (w : World) (hl : LL.length ≤ 65536) (h1 : 1 ≤ LL.length) (hc : ∀ j u, (LL.flatMap ndc)[j]? = some u → w.cell? (ad.add j) = some u) (hon : ∀ u ∈ LL.flatMap ndc, u.oneCell' = true) :
    Calls Tryz.prog 136 #[.slice (some ad) LL.length cap] w fun e w' => ∃ g cap', e = .returned (.slice (some ⟨g, 0, none⟩) LL.length cap') ∧
      OwnL ndc 67 3 w' w.heap.size (.slice (some ⟨g, 0, none⟩) LL.length cap') LL ∧ Below w.heap.size w w' := by
  have hsl := fun (w : World) (a : Option Addr) (l c n1 c1 : Nat) => Lib.run_eql_slice_nil w 22 67 a l c n1 c1 Tryz.underlying22
  have H0 : Hid ((w.alloc (.cells #[] 67)).ownsRow w.heap.size 67 3 (.slice (some ⟨w.heap.size, 0, none⟩) 0 0) 0 []) := World.ownsRow_lit w #[] 0 (Nat.le_refl _) (by unfold maxLen; omega) rfl
  have HC : Hid (∀ j u, (LL.flatMap ndc)[j]? = some u → (w.alloc (.cells #[] 67)).cell? (ad.add j) = some u) := fun j u h => cell_keep ((Below.refl _ _).alloc (Nat.le_refl _) _) (hc j u h)
  have HFL : Hid ((LL.flatMap ndc).length = LL.length * 3) := by show _ = _; rw [flat_length ndc_len]
  have H1 : Hid (0 + LL.length ≤ maxLen) := by show _ ≤ _; unfold maxLen; omega
  have H2 : Hid ((0 + LL.length) * 40 ≤ 140737488355328) := by show _ ≤ _; omega
  have HON := Lib.hid hon
  clear hc hon
  go_enter Tryz.func136, Tryz.ntmps136
  go_wp2_with (at_builtin; go_loud (refine app elemNd rfl _ _ rfl w.heap.size _ _ _ rfl H0.out ad LL.length cap (LL.flatMap ndc) rfl HFL.out HC.out HON.out H1.out H2.out (by simp) ?_))
  intro v' w1 hown hgrow _
  have ho : OwnL ndc 67 3 w1 w.heap.size v' LL := by unfold OwnL; simpa using hown
  obtain ⟨g, cap', hv⟩ : ∃ g cap', v' = .slice (some ⟨g, 0, none⟩) LL.length cap' := by
    rcases ho.shape with ⟨_, h2⟩ | ⟨g, cap', h1, _⟩
    · rw [h2] at h1; simp at h1
    · exact ⟨g, cap', h1⟩
  subst hv
  have HO := Lib.hid ho
  have HG := Lib.hid hgrow
  clear hown hgrow ho
  go_wp2
  go_ret
  exact ⟨g, cap', rfl, HO.out, ((Below.refl _ _).alloc (Nat.le_refl _) _).grown HG.out (by simp) (by simp [Value.ownBlock])⟩

def gvP (xs : List Int) (y : Nd × Value) : Nd × Value :=
  if y.1.kind = 2 ∧ y.1.lit ∈ xs then (⟨1, 0, []⟩, .slice none 0 0) else if y.1.kind = 2 ∧ -y.1.lit ∈ xs then (⟨0, 0, []⟩, .slice none 0 0) else y
theorem gvP_fst (xs : List Int) (y : Nd × Value) : (gvP xs y).1 = gvNd xs y.1 := by
  unfold gvP gvNd; split
  · rfl
  · split <;> rfl
theorem gvP_rd {w : World} {xs : List Int} {y : Nd × Value} (h : InsRd w y) : InsRd w (gvP xs y) := by
  unfold gvP; split
  · exact ⟨none, 0, rfl, IntCells.nil _ _, by simp⟩
  · split
    · exact ⟨none, 0, rfl, IntCells.nil _ _, by simp⟩
    · exact h

theorem given_any (n : Int) (a : Option Addr) (cap : Nat) (l : List Nd) (b : Option Addr) (cap2 : Nat) (xs : List Int) (w : World) (hok : netOk ⟨n, l⟩ = true) (hx : NdCells w a l) (hxs : IntCells w b xs) (hxl : xs.length ≤ 1073741824)
    (hil : ∀ x ∈ l, x.ins.length ≤ 1000000)
    (hfl : ∀ k (h : k < (l.map (gvNd xs)).length), (Cen.flat (redSt n (l.map (gvNd xs)) k).1 (l.map (gvNd xs))[k].kind (renum (redSt n (l.map (gvNd xs)) k).2 (l.map (gvNd xs))[k]).ins).length ≤ 1000000) (ht : Tab w) :
    Calls Tryz.prog 69 #[.agg #[.int .i64 n, .slice a l.length cap], .slice b xs.length cap2] w
      fun e w' => ∃ a' cap', e = .returned (.agg #[.int .i64 n, .slice a' (gvL n xs l).length cap']) ∧ NdAbove w.heap.size w' a' (gvL n xs l) ∧ Below w.heap.size w w' := by
  obtain ⟨ad, LL, rfl, HPR⟩ : ∃ (ad : Addr) (LL : List (Nd × Value)), a = some ad ∧ Hid (LL.map Prod.fst = l ∧ (∀ x ∈ LL, InsRd w x) ∧ ∀ j u, (LL.flatMap ndc)[j]? = some u → w.cell? (ad.add j) = some u) := by
    obtain ⟨b0, off, rfl, _⟩ := hx 0 (by have := (netOk_head hok).2.2.1; simp at this; omega)
    obtain ⟨LL, h⟩ := hx.pairs
    exact ⟨_, LL, rfl, h⟩
  have hll : LL.length = l.length := by rw [← HPR.out.1, List.length_map]
  obtain ⟨hn0, hn1, hl1, hl2⟩ := netOk_head hok
  have HOK := Lib.hid (gvL_ok (xs := xs) hok)
  have HLIT : Hid (∀ k (h : k < l.length), l[k].kind = 2 → -128 ≤ l[k].lit ∧ l[k].lit ≤ 128) := fun k h h2 => by
    have := netOk_nd hok h
    simp only [ndOk, formOk, Bool.and_eq_true] at this
    have h3 := this.2
    change (if l[k].kind = 0 ∨ l[k].kind = 1 then _ else _) = true at h3
    rw [if_neg (by omega), if_pos h2] at h3
    simp only [litOk, Bool.and_eq_true, decide_eq_true_eq] at h3
    have := litVar_ne h3.1.1
    omega
  have HX := Lib.hid hx
  have HXS := Lib.hid hxs
  have HXL := Lib.hid hxl
  have HRED : Hid (∀ (a' : Option Addr) (cap' : Nat) (W : World), NdCells W a' (l.map (gvNd xs)) → Tab W → Calls Tryz.prog 138 #[.agg #[.int .i64 n, .slice a' l.length cap']] W
      fun e w' => ∃ a1 cap1, e = .returned (.tuple #[.agg #[.int .i64 n, .slice a1 (gvL n xs l).length cap1], .int .i64 0]) ∧ NdAbove W.heap.size w' a1 (gvL n xs l) ∧ Below W.heap.size W w') := fun a' cap' W h1 h2 => by
    have := reduce_any n a' cap' (l.map (gvNd xs)) W HOK.out h1 (by
      intro x hxm
      rw [List.mem_map] at hxm
      obtain ⟨y, hy, rfl⟩ := hxm
      unfold gvNd; split
      · simp
      · split
        · simp
        · exact hil y hy) hfl h2
    rw [List.length_map] at this; exact this
  have HT := Lib.hid ht
  have hl3 : l.length ≤ 65536 := hl2
  have hl4 : 1 ≤ l.length := hl1
  have HL3 := Lib.hid hl3
  have HL4 := Lib.hid hl4
  have HBA : Hid (Below w.heap.size w ((w.alloc (.cells #[.int .i64 n, .slice (some ad) l.length cap] 24)).alloc (.cells #[.int .i64 0, .slice none 0 0] 24))) := ((Below.refl _ _).alloc (Nat.le_refl _) _).alloc (by simp) _
  have hl5 : l.length ≤ 1073741824 := by omega
  have HLL := Lib.hid hll
  clear hll
  clear hok hx hxs hxl hil hfl ht hn0 hn1 hl1 hl2 hl3
  have HCL : Hid (Calls Tryz.prog 136 #[.slice (some ad) l.length cap] ((w.alloc (.cells #[.int .i64 n, .slice (some ad) l.length cap] 24)).alloc (.cells #[.int .i64 0, .slice none 0 0] 24)) fun e w' => ∃ g cap', e = .returned (.slice (some ⟨g, 0, none⟩) l.length cap') ∧
      OwnL ndc 67 3 w' ((w.alloc (.cells #[.int .i64 n, .slice (some ad) l.length cap] 24)).alloc (.cells #[.int .i64 0, .slice none 0 0] 24)).heap.size (.slice (some ⟨g, 0, none⟩) l.length cap') LL ∧
      Below ((w.alloc (.cells #[.int .i64 n, .slice (some ad) l.length cap] 24)).alloc (.cells #[.int .i64 0, .slice none 0 0] 24)).heap.size ((w.alloc (.cells #[.int .i64 n, .slice (some ad) l.length cap] 24)).alloc (.cells #[.int .i64 0, .slice none 0 0] 24)) w') := by
    have h := cloneNds_any ad cap LL ((w.alloc (.cells #[.int .i64 n, .slice (some ad) l.length cap] 24)).alloc (.cells #[.int .i64 0, .slice none 0 0] 24)) (by rw [HLL.out]; exact HL3.out) (by rw [HLL.out]; exact HL4.out) (fun j u h => cell_keep HBA.out (HPR.out.2.2 j u h)) (oneNds LL HPR.out.2.1)
    rw [HLL.out] at h; exact h
  go_enter Tryz.func69, Tryz.ntmps69
  go_wp2_with fail
  refine HCL.out.mono ?_
  rintro e w1 ⟨g, cap1, rfl, hown, hb1⟩
  have hq1 := ((Blk.new w #[.int .i64 n, .slice (some ad) l.length cap] 24).alloc (.cells #[.int .i64 0, .slice none 0 0] 24)).later hb1
  have hq2 := (Blk.new (w.alloc (.cells #[.int .i64 n, .slice (some ad) l.length cap] 24)) #[.int .i64 0, .slice none 0 0] 24).later hb1
  rw [World.size_alloc] at hq2
  have k0 : w1.cell? ⟨w.heap.size, 0, none⟩ = some (.int .i64 n) := hq1.cell 0
  have k1 : w1.cell? ⟨w.heap.size, 1, none⟩ = some (.slice (some ad) l.length cap) := hq1.cell 1
  have k2 := hq1.fr 1
  have hz1 : w.heap.size + 1 < w1.heap.size := hq2.lt
  have ho5 : OwnL ndc 67 3 (w1.setCell ⟨w.heap.size, 1, none⟩ (.slice (some ⟨g, 0, none⟩) l.length cap1)) (w.heap.size + 2) (.slice (some ⟨g, 0, none⟩) l.length cap1) LL := by
    have h1 : OwnL ndc 67 3 w1 (w.heap.size + 2) (.slice (some ⟨g, 0, none⟩) l.length cap1) LL := by
      have := hown; simp only [World.size_alloc] at this; exact this
    exact h1.kept (Kp.setCell (M := fun k => k = w.heap.size) _ _ _ rfl) (fun k hk e => by simp [Value.ownBlock] at hk; have := h1.lt.2; omega)
  have HO5 := Lib.hid ho5
  have HQ5 : Hid (Blk (w1.setCell ⟨w.heap.size, 1, none⟩ (.slice (some ⟨g, 0, none⟩) l.length cap1)) w.heap.size #[.int .i64 n, .slice (some ⟨g, 0, none⟩) l.length cap1] 24) := hq1.set 1 _
  have HQ6 : Hid (Blk (w1.setCell ⟨w.heap.size, 1, none⟩ (.slice (some ⟨g, 0, none⟩) l.length cap1)) (w.heap.size + 1) #[.int .i64 0, .slice none 0 0] 24) := hq2.other _ _ (by simp)
  have HB5 : Hid (Below w.heap.size w (w1.setCell ⟨w.heap.size, 1, none⟩ (.slice (some ⟨g, 0, none⟩) l.length cap1))) := (HBA.out.trans (hb1.mono (by simp; omega))).setCell (Nat.le_refl _) _
  have HSZ5 : Hid ((w1.setCell ⟨w.heap.size, 1, none⟩ (.slice (some ⟨g, 0, none⟩) l.length cap1)).heap.size = w1.heap.size) := World.size_setCell' _ _ _
  clear hb1 hq1 hq2 hown ho5
  go_wp2
  generalize w1.setCell ⟨w.heap.size, 1, none⟩ (.slice (some ⟨g, 0, none⟩) l.length cap1) = w5 at *
  clear k0 k1 k2
  go_loopw [14] (fun i wr => ∃ k : Nat, k ≤ l.length ∧ i = .int .i64 k ∧ OwnL ndc 67 3 wr (w.heap.size + 2) (.slice (some ⟨g, 0, none⟩) l.length cap1) ((LL.take k).map (gvP xs) ++ LL.drop k) ∧ Below (w.heap.size + 2) w5 wr) (fun i _ => l.length - (intOf i).toNat)
  case atStart => exact ⟨0, Nat.zero_le _, rfl, by simpa using HO5.out, Below.refl _ _⟩
  case round =>
    obtain ⟨k, hk, rfl, hown, hbel⟩ := hrel
    have HO := Lib.hid hown
    have HB := Lib.hid hbel
    clear hown hbel
    have HBW : Hid (Below w.heap.size w wr) := HB5.out.trans (HB.out.mono (by omega))
    have hq := HQ5.out.laterB HB.out (by omega)
    have k1 : wr.cell? ⟨w.heap.size, 1, none⟩ = some (.slice (some ⟨g, 0, none⟩) l.length cap1) := hq.cell 1
    have hzw : w.heap.size < wr.heap.size := hq.lt
    have HQ := Lib.hid hq
    clear hq
    by_cases hlt : k < l.length
    · have hltL : k < LL.length := by rw [HLL.out]; exact hlt
      have hdr : LL.drop k = LL[k] :: LL.drop (k + 1) := List.drop_eq_getElem_cons hltL
      have HNX : Hid ((LL.take (k + 1)).map (gvP xs) = (LL.take k).map (gvP xs) ++ [gvP xs LL[k]]) := by
        show _ = _; rw [List.take_succ_eq_append_getElem hltL, List.map_append]; rfl
      have HLK : Hid (LL[k].1.kind = 2 → -128 ≤ LL[k].1.lit ∧ LL[k].1.lit ≤ 128) := by
        have h1 := HLIT.out k hlt
        have : l[k] = LL[k].1 := by
          have h2 := HPR.out.1
          simp [← h2]
        rw [this] at h1; exact h1
      obtain ⟨av, cv, hav, _⟩ := HPR.out.2.1 _ (List.getElem_mem hltL)
      have hown := HO.out
      rw [hdr] at hown
      generalize LL[k] = y at *
      have hvl : k = ((LL.take k).map (gvP xs)).length := by rw [List.length_map, List.length_take]; omega
      have hvn : ∀ z, l.length = ((LL.take k).map (gvP xs) ++ z :: LL.drop (k + 1)).length := fun z => by
        rw [List.length_append, ← hvl, List.length_cons, List.length_drop, HLL.out]; omega
      have c0 : wr.cell? ⟨g, k * 3, none⟩ = some (.int .i64 y.1.kind) := hown.mid hvl (hvn _) ndc_len 0 (by omega)
      have c1 : wr.cell? ⟨g, k * 3 + 1, none⟩ = some (.int .i64 y.1.lit) := hown.mid hvl (hvn _) ndc_len 1 (by omega)
      have c2 : wr.cell? ⟨g, k * 3 + 2, none⟩ = some y.2 := hown.mid hvl (hvn _) ndc_len 2 (by omega)
      have f0 := hown.fr (hvn _) (k * 3)
      have f1 := hown.fr (hvn _) (k * 3 + 1)
      have f2 := hown.fr (hvn _) (k * 3 + 2)
      have hgz : g < wr.heap.size := hown.lt.1
      have HOW := Lib.hid hown
      have HVL := Lib.hid hvl
      have HVN := Lib.hid hvn
      have HGB : Hid (w.heap.size + 2 ≤ g) := hown.lt.2
      clear hown hdr hvl hvn hltL
      rw [hav] at c2
      have HAV := Lib.hid hav
      clear hav
      by_cases h2 : y.1.kind = 2
      · have h2' : (y.1.kind != 2) = false := by simpa using h2
        obtain ⟨l0, l1⟩ := HLK.out h2
        have HCT := Lib.hid (fun (x : Int) => contains_any b cap2 xs x (wr.alloc (.cells #[.int .i64 y.1.kind, .int .i64 y.1.lit, .slice av y.1.ins.length cv] 67)) HXL.out (HXS.out.keep (HBW.out.trans ((Below.refl _ _).alloc (Nat.le_of_lt hzw) _))))
        have hput : ∀ z : Int, OwnL ndc 67 3 ((((wr.setCell ⟨g, k * 3, none⟩ (.int .i64 z)).setCell ⟨g, k * 3 + 1, none⟩ (.int .i64 0)).setCell ⟨g, k * 3 + 2, none⟩ (.slice none 0 0)).alloc (.cells #[.int .i64 y.1.kind, .int .i64 y.1.lit, .slice av y.1.ins.length cv] 67)) (w.heap.size + 2) (.slice (some ⟨g, 0, none⟩) l.length cap1) ((LL.take k).map (gvP xs) ++ (⟨z, 0, []⟩, .slice none 0 0) :: LL.drop (k + 1)) := fun z =>
          (HOW.out.midput3 HVL.out (HVN.out _) ndc_len _ _ _ _ rfl).later ((Below.refl _ _).alloc (Nat.le_refl _) _)
        have HPUT := Lib.hid hput
        have HBP : Hid (∀ z : Int, Below (w.heap.size + 2) wr ((((wr.setCell ⟨g, k * 3, none⟩ (.int .i64 z)).setCell ⟨g, k * 3 + 1, none⟩ (.int .i64 0)).setCell ⟨g, k * 3 + 2, none⟩ (.slice none 0 0)).alloc (.cells #[.int .i64 y.1.kind, .int .i64 y.1.lit, .slice av y.1.ins.length cv] 67))) := fun z =>
          ((((Below.refl _ _).setCell (show w.heap.size + 2 ≤ (⟨g, k * 3, none⟩ : Addr).block from HGB.out) _).setCell (show w.heap.size + 2 ≤ (⟨g, k * 3 + 1, none⟩ : Addr).block from HGB.out) _).setCell (show w.heap.size + 2 ≤ (⟨g, k * 3 + 2, none⟩ : Addr).block from HGB.out) _).alloc (by rw [World.size_setCell', World.size_setCell', World.size_setCell']; have := HGB.out; omega) _
        clear hput
        cases hc1 : has xs y.1.lit
        · have hn1 : ¬ (y.1.lit ∈ xs) := fun h => by rw [has_iff.2 h] at hc1; simp at hc1
          have HC1 := Lib.hid hc1
          cases hc2 : has xs (-y.1.lit)
          · have hn2 : ¬ (-y.1.lit ∈ xs) := fun h => by rw [has_iff.2 h] at hc2; simp at hc2
            have HC2 := Lib.hid hc2
            have HG : Hid (gvP xs y = y) := by show _ = _; unfold gvP; rw [if_neg (fun h => hn1 h.2), if_neg (fun h => hn2 h.2)]
            clear hc1 hc2 hn1 hn2 h2
            go_wp2_with fail
            refine (HCT.out y.1.lit).mono ?_
            rw [HC1.out]
            rintro e w' ⟨rfl, rfl⟩
            go_wp2_with fail
            refine (HCT.out (-y.1.lit)).mono ?_
            rw [HC2.out]
            rintro e w' ⟨rfl, rfl⟩
            go_wp2
            go_roundw
            case rel => exact ⟨k + 1, by omega, by go_num, by rw [HNX.out, HG.out, List.append_assoc]; exact HOW.out.later ((Below.refl _ _).alloc (Nat.le_refl _) _), HB.out.trans ((Below.refl _ _).alloc (by have := HGB.out; omega) _)⟩
            case measure => simp [intOf]; omega
          · have hn2 : -y.1.lit ∈ xs := has_iff.1 hc2
            have HC2 := Lib.hid hc2
            have HG : Hid (gvP xs y = (⟨0, 0, []⟩, .slice none 0 0)) := by show _ = _; unfold gvP; rw [if_neg (fun h => hn1 h.2), if_pos ⟨h2, hn2⟩]
            clear hc1 hc2 hn1 hn2 h2
            go_wp2_with fail
            refine (HCT.out y.1.lit).mono ?_
            rw [HC1.out]
            rintro e w' ⟨rfl, rfl⟩
            go_wp2_with fail
            refine (HCT.out (-y.1.lit)).mono ?_
            rw [HC2.out]
            rintro e w' ⟨rfl, rfl⟩
            go_wp2
            go_roundw
            case rel => exact ⟨k + 1, by omega, by go_num, by rw [HNX.out, HG.out, List.append_assoc]; exact HPUT.out 0, HB.out.trans (HBP.out 0)⟩
            case measure => simp [intOf]; omega
        · have hn1 : y.1.lit ∈ xs := has_iff.1 hc1
          have HC1 := Lib.hid hc1
          have HG : Hid (gvP xs y = (⟨1, 0, []⟩, .slice none 0 0)) := by show _ = _; unfold gvP; rw [if_pos ⟨h2, hn1⟩]
          clear hc1 hn1 h2
          go_wp2_with fail
          refine (HCT.out y.1.lit).mono ?_
          rw [HC1.out]
          rintro e w' ⟨rfl, rfl⟩
          go_wp2
          go_roundw
          case rel => exact ⟨k + 1, by omega, by go_num, by rw [HNX.out, HG.out, List.append_assoc]; exact HPUT.out 1, HB.out.trans (HBP.out 1)⟩
          case measure => simp [intOf]; omega
      · have h2' : (y.1.kind != 2) = true := bne_iff_ne.2 h2
        have HG : Hid (gvP xs y = y) := by show _ = _; unfold gvP; rw [if_neg (fun h => h2 h.1), if_neg (fun h => h2 h.1)]
        clear h2
        go_wp2
        go_roundw
        case rel => exact ⟨k + 1, by omega, by go_num, by rw [HNX.out, HG.out, List.append_assoc]; exact HOW.out.later ((Below.refl _ _).alloc (Nat.le_refl _) _), HB.out.trans ((Below.refl _ _).alloc (by have := HGB.out; omega) _)⟩
        case measure => simp [intOf]; omega
    · have : k = l.length := by omega
      subst this
      have hown := HO.out
      rw [← HLL.out, List.take_length, List.drop_length, List.append_nil, HLL.out] at hown
      have hnd : NdCells wr (some ⟨g, 0, none⟩) (l.map (gvNd xs)) := by
        have h1 := hown.nds (by rw [List.length_map, HLL.out]) (fun x hx => by
          rw [List.mem_map] at hx
          obtain ⟨y, hy, rfl⟩ := hx
          exact gvP_rd ((HPR.out.2.1 y hy).keep HBW.out))
        rw [List.map_map, show (Prod.fst ∘ gvP xs) = gvNd xs ∘ Prod.fst from funext fun y => gvP_fst xs y, ← List.map_map, HPR.out.1] at h1
        exact h1
      have q0 : wr.cell? ⟨w.heap.size, 0, none⟩ = some (.int .i64 n) := HQ.out.cell 0
      have HRC := Lib.hid (HRED.out (some ⟨g, 0, none⟩) cap1 wr hnd (HT.out.keep HBW.out))
      have hq6 := HQ6.out.laterB HB.out (by omega)
      have HQ7 := Lib.hid hq6
      have hz6 : w.heap.size + 1 < wr.heap.size := hq6.lt
      clear hown hnd hq6
      go_wp2_with fail
      refine HRC.out.mono ?_
      rintro e w7 ⟨a7, cap7, rfl, hn7, hb7⟩
      have hb1 := HQ.out.later hb7
      have hb2 := HQ7.out.later hb7
      have p0 : w7.cell? ⟨w.heap.size, 0, none⟩ = some (.int .i64 n) := hb1.cell 0
      have p1 : w7.cell? ⟨w.heap.size, 1, none⟩ = some (.slice (some ⟨g, 0, none⟩) l.length cap1) := hb1.cell 1
      have p2 := hb1.fr 0
      have p3 := hb1.fr 1
      have p4 : w7.cell? ⟨w.heap.size + 1, 0, none⟩ = some (.int .i64 0) := hb2.cell 0
      have p5 : w7.cell? ⟨w.heap.size + 1, 1, none⟩ = some (.slice none 0 0) := hb2.cell 1
      have p6 := hb2.fr 0
      have p7 := hb2.fr 1
      have hz7 : w.heap.size + 1 < w7.heap.size := hb2.lt
      have HR2 := Lib.hid hb2
      have HN7 := Lib.hid hn7
      have HB7 := Lib.hid (HBW.out.trans (hb7.mono HBW.out.size))
      have HWZ : Hid (w.heap.size + 2 ≤ wr.heap.size) := by show _ ≤ _; omega
      clear hb1 hb2 hn7 hb7
      go_wp2
      have hbr2 := (((HR2.out.other ⟨w.heap.size, 0, none⟩ (.int .i64 n) (by simp)).other ⟨w.heap.size, 1, none⟩ (.slice a7 (gvL n xs l).length cap7) (by simp)).set 0 (.int .i64 n)).set 1 (.slice a7 (gvL n xs l).length cap7)
      have HK9 : Hid (Kp (fun k => k < w.heap.size + 2) w7 ((((w7.setCell ⟨w.heap.size, 0, none⟩ (.int .i64 n)).setCell ⟨w.heap.size, 1, none⟩ (.slice a7 (gvL n xs l).length cap7)).setCell ⟨w.heap.size + 1, 0, none⟩ (.int .i64 n)).setCell ⟨w.heap.size + 1, 1, none⟩ (.slice a7 (gvL n xs l).length cap7))) :=
        (((Kp.setCell (M := fun k => k < w.heap.size + 2) w7 ⟨w.heap.size, 0, none⟩ (.int .i64 n) (by simp)).trans (Kp.setCell (M := fun k => k < w.heap.size + 2) _ ⟨w.heap.size, 1, none⟩ (.slice a7 (gvL n xs l).length cap7) (by simp))).trans (Kp.setCell (M := fun k => k < w.heap.size + 2) _ ⟨w.heap.size + 1, 0, none⟩ (.int .i64 n) (by simp))).trans (Kp.setCell (M := fun k => k < w.heap.size + 2) _ ⟨w.heap.size + 1, 1, none⟩ (.slice a7 (gvL n xs l).length cap7) (by simp))
      have HB9 : Hid (Below w.heap.size w7 ((((w7.setCell ⟨w.heap.size, 0, none⟩ (.int .i64 n)).setCell ⟨w.heap.size, 1, none⟩ (.slice a7 (gvL n xs l).length cap7)).setCell ⟨w.heap.size + 1, 0, none⟩ (.int .i64 n)).setCell ⟨w.heap.size + 1, 1, none⟩ (.slice a7 (gvL n xs l).length cap7))) :=
        ((((Below.refl _ _).setCell (show w.heap.size ≤ (⟨w.heap.size, 0, none⟩ : Addr).block from Nat.le_refl _) _).setCell (show w.heap.size ≤ (⟨w.heap.size, 1, none⟩ : Addr).block from Nat.le_refl _) _).setCell (show w.heap.size ≤ (⟨w.heap.size + 1, 0, none⟩ : Addr).block from Nat.le_succ _) _).setCell (show w.heap.size ≤ (⟨w.heap.size + 1, 1, none⟩ : Addr).block from Nat.le_succ _) _
      have e0 : ((((w7.setCell ⟨w.heap.size, 0, none⟩ (.int .i64 n)).setCell ⟨w.heap.size, 1, none⟩ (.slice a7 (gvL n xs l).length cap7)).setCell ⟨w.heap.size + 1, 0, none⟩ (.int .i64 n)).setCell ⟨w.heap.size + 1, 1, none⟩ (.slice a7 (gvL n xs l).length cap7)).cell? ⟨w.heap.size + 1, 0, none⟩ = some (.int .i64 n) := hbr2.cell 0
      have e1 : ((((w7.setCell ⟨w.heap.size, 0, none⟩ (.int .i64 n)).setCell ⟨w.heap.size, 1, none⟩ (.slice a7 (gvL n xs l).length cap7)).setCell ⟨w.heap.size + 1, 0, none⟩ (.int .i64 n)).setCell ⟨w.heap.size + 1, 1, none⟩ (.slice a7 (gvL n xs l).length cap7)).cell? ⟨w.heap.size + 1, 1, none⟩ = some (.slice a7 (gvL n xs l).length cap7) := hbr2.cell 1
      exact bodyPost_ret (v := .agg #[.int .i64 n, .slice a7 (gvL n xs l).length cap7]) (by simp [results, Tryz.results69, go_sem, e0, e1]) rfl ⟨a7, cap7, rfl, ((HN7.out.lower HWZ.out).kept HK9.out (fun b hb => hb)).lower (by omega), HB7.out.trans HB9.out⟩
end Go.Proofs.YtkaojolofaanfaaGreatDoor

/- The walk of shape.Decomposable. -/
namespace Go.Proofs.YtkaojolofaanfaaGreatDoor
open Go.RowKit Cen
set_option maxHeartbeats 1000000
set_option maxRecDepth 100000

theorem run_equalIn_set (d : Nat) (a b c e : Int) (w : World) :
    (Op.equalIn (d + 2) 54 (.agg #[.int .u64 a, .int .u64 b]) (.agg #[.int .u64 c, .int .u64 e])).run Tryz.prog w = .ok (a == c && b == e) w := by
  have hsz : ∀ w, (sizeOf 52).run Tryz.prog w = .ok 1 w := fun w => by kernel_rfl
  have hp0 : ∀ (x y : Value) w, (part 52 #[x, y] 0).run Tryz.prog w = .ok x w := fun x y w => by kernel_rfl
  have hp1 : ∀ (x y : Value) w, (part 52 #[x, y] 1).run Tryz.prog w = .ok y w := fun x y w => by kernel_rfl
  rw [Op.equalIn.eq_def]
  simp only [Sem.run_bind, run_underlying Tryz.underlying54, Result.andThen_ok, hsz]
  simp [List.range']
  simp [hp0, hp1, run_equalIn_int _ _ _ _ _ _ _ Tryz.underlying52]
  by_cases h1 : a = c <;> by_cases h2 : b = e <;> simp [h1, h2]
def eqSt (s t : St) : Bool := decide (s = t)
theorem eqSt_int (s t : St) : ((s.a : Int) == (t.a : Int) && (s.b : Int) == (t.b : Int)) = eqSt s t := by
  unfold eqSt
  rw [Bool.eq_iff_iff]
  cases s; cases t; simp; omega
theorem run_neq_set (s t : St) (w : World) : (binOp .neq 54 (stv s) (stv t)).run Tryz.prog w = .ok (.bool !(eqSt s t)) w := by
  rw [run_neq_struct, run_equalIn_set 9998]
  simp [Result.andThen_ok, ← eqSt_int]
theorem run_eql_set (s t : St) (w : World) : (binOp .eql 54 (stv s) (stv t)).run Tryz.prog w = .ok (.bool (eqSt s t)) w := by
  rw [run_eql_struct, run_equalIn_set 9998]
  simp [Result.andThen_ok, ← eqSt_int]
theorem eqGuard_set : Tryz.prog.eqGuardType Tryz.prog.depth 54 = false := by kernel_rfl

theorem decomposable_any (n : Int) (a : Option Addr) (cap : Nat) (l : List Nd) (w : World) (hok : netOk ⟨n, l⟩ = true) (hx : NdCells w a l) :
    Calls Tryz.prog 47 #[.agg #[.int .i64 n, .slice a l.length cap]] w fun e w' => e = .returned (.bool (decL l)) ∧ Below w.heap.size w w' := by
  have HB0 := Lib.hid ((Below.refl w.heap.size w).alloc (Nat.le_refl _) (.cells #[.int .i64 n, .slice a l.length cap] 24))
  have HX0 := Lib.hid (hx.keep HB0.out)
  have HK := Lib.hid hok
  have hl1 : Hid (l.length ≤ 65536) := (netOk_head hok).2.2.2
  have hl2 : l.length ≤ 1073741824 := by have := hl1.out; omega
  have HCH := Lib.hid (fun W (h : NdCells W a l) => (check_any n a cap l W hl2 h).mono (R' := fun e w' => e = .returned (.int .i64 0) ∧ Below W.heap.size W w') (fun e w' ⟨h1, h2⟩ => ⟨by rw [h1]; simp [chk, HK.out], h2⟩))
  clear hx hok
  go_enter Tryz.func47, Tryz.ntmps47
  go_wp2_with fail
  refine (HCH.out _ HX0.out).mono ?_
  rintro e w1 ⟨rfl, hb1⟩
  have hbx := Blk.later (Blk.new w #[.int .i64 n, .slice a l.length cap] 24) hb1
  have c0 : w1.cell? ⟨w.heap.size, 0, none⟩ = some (.int .i64 n) := hbx.cell 0
  have c1 : w1.cell? ⟨w.heap.size, 1, none⟩ = some (.slice a l.length cap) := hbx.cell 1
  have HBX := Lib.hid hbx
  have HB1 := Lib.hid hb1
  clear hbx hb1
  go_wp2_with fail
  refine (nodeVars_any n a cap l _ HK.out hl1.out (HX0.out.keep HB1.out)).mono ?_
  rintro e w2 ⟨g, rfl, hrow, hb2⟩
  have c0' := cell_keep hb2 c0
  have c1' := cell_keep hb2 c1
  have HR := Lib.hid hrow
  have HB2 := Lib.hid hb2
  have HX2 := Lib.hid ((HX0.out.keep HB1.out).keep HB2.out)
  clear c0 c1 hrow hb2
  go_wp2
  go_loopw [17] (fun i wr => ∃ k : Nat, k ≤ l.length ∧ i = .int .i64 k ∧ (∀ j, j < k → ndSep (varsL l) (l.getD j default) = true) ∧ Below w2.heap.size w2 wr) (fun i _ => l.length - (intOf i).toNat)
  case atStart => exact ⟨0, Nat.zero_le _, rfl, fun j h => absurd h (Nat.not_lt_zero _), Below.refl _ _⟩
  case round =>
    obtain ⟨wo, rfl⟩ : ∃ wo : World, wo = wr := ⟨_, rfl⟩
    obtain ⟨k, hk, rfl, hno, hbel⟩ := hrel
    have HN := Lib.hid hno
    have HB := Lib.hid hbel
    clear hno hbel
    by_cases hlt : k < l.length
    · obtain ⟨b, off, rfl, hc0⟩ := HX2.out k hlt
      generalize hxe : l.getD k default = x at hc0
      have HXG := Lib.hid hxe
      have HXE : Hid (l[k] = x) := by show _ = _; rw [← hxe]; simp [List.getD_eq_getElem?_getD, hlt]
      clear hxe
      obtain ⟨r1, r2, a', cap', r3, pi, pl⟩ := hc0
      have p1 := cell_keep HB.out r1
      have p2 := cell_keep HB.out r2
      have p3 := cell_keep HB.out r3
      have HPI := Lib.hid pi
      have hbz : b < wo.heap.size := cell_block p1
      have HSZ := Lib.hid HB.out.size
      have hin := netOk_ins HK.out hlt
      rw [HXE.out] at hin
      have HIN := Lib.hid hin
      clear hin pi r1 r2 r3
      by_cases hk3 : x.kind = 3
      · have hk3' : (x.kind != 3) = false := by simp [hk3]
        have HND : Hid (ndSep (varsL l) x = sepF (varsL l) St.zero x.ins) := by show _ = _; simp [ndSep, hk3]
        clear hk3
        have hvo := varsL_ok l
        have hvl := varsL_length l
        have HVN : Hid (∀ q : Nat, q < (varsL l).length → ∃ h : q < (varsL l).length, True) := fun q h => ⟨h, trivial⟩
        have HROW := HR.out
        have HALL : Hid (Below w.heap.size w wo) := HB0.out.trans (((HB1.out.mono (by simp)).trans (HB2.out.mono (by have := HB1.out.size; simp at this; omega))).trans (HB.out.mono (by have := HB1.out.size; have := HB2.out.size; simp at *; omega)))
        have HSO := Lib.hid HALL.out.size
        generalize hvsd : varsL l = vs at *
        have HVSD := Lib.hid hvsd
        clear hvsd
        have HVO := Lib.hid hvo
        have HVL := Lib.hid hvl
        clear hvo hvl HVN
        go_wp2
        go_loopw [27] (fun i wi => ∃ m : Nat, m ≤ x.ins.length ∧ i = .int .i64 m ∧ Blk wi (wo.heap.size + 1) (sts (insU vs St.zero (x.ins.take m))) 54 ∧
          sepF vs St.zero x.ins = sepF vs (insU vs St.zero (x.ins.take m)) (x.ins.drop m) ∧ Below wo.heap.size wo wi) (fun i _ => x.ins.length - (intOf i).toNat)
        case atStart => exact ⟨0, Nat.zero_le _, rfl, Blk.new' (wo.alloc _) (by simp) (sts St.zero) 54, rfl, ((Below.refl _ _).alloc (Nat.le_refl _) _).alloc (by simp) _⟩
        case round =>
          obtain ⟨wi, rfl⟩ : ∃ wi : World, wi = wr := ⟨_, rfl⟩
          obtain ⟨m, hm, rfl, hblk, hsep, hbel⟩ := hrel
          have HBi := Lib.hid (hbel)
          have HBI := Lib.hid (HB.out.trans (hbel.mono HSZ.out))
          have HSEP := Lib.hid hsep
          clear hsep
          by_cases hlm : m < x.ins.length
          · obtain ⟨b2, off2, rfl, hi0⟩ := HPI.out m hlm
            have hi1 := cell_keep HBI.out hi0
            have hq := HIN.out (x.ins.getD m 0) (by simp [List.getD_eq_getElem?_getD, hlm])
            generalize hye : x.ins.getD m 0 = y at hi1 hq
            have HYE : Hid (x.ins[m] = y) := by show _ = _; rw [← hye]; simp [List.getD_eq_getElem?_getD, hlm]
            clear hi0 hye
            obtain ⟨hq0, hq1⟩ := hq
            obtain ⟨q, rfl⟩ := Int.eq_ofNat_of_zero_le hq0
            have hqk : q < vs.length := by have := HVL.out; omega
            have hql : q < l.length := by omega
            have hrow := HROW.later HBI.out
            have HRI := Lib.hid hrow
            have q0 : wi.cell? ⟨g, q * 2, none⟩ = some (.int .u64 (vs[q].a : Int)) := hrow.cell HVL.out.symm stc_len q 0 hqk (by omega)
            have q1 : wi.cell? ⟨g, q * 2 + 1, none⟩ = some (.int .u64 (vs[q].b : Int)) := hrow.cell HVL.out.symm stc_len q 1 hqk (by omega)
            have HTO : Hid (vs[q].ok) := HVO.out _ (List.getElem_mem hqk)
            have HCO : Hid ((insU vs St.zero (x.ins.take m)).ok) := insU_ok HVO.out _ St.zero_ok
            have hgq : vs.getD q St.zero = vs[q] := by simp [List.getD_eq_getElem?_getD, hqk]
            have HST : Hid (insU vs St.zero (x.ins.take (m + 1)) = (insU vs St.zero (x.ins.take m)).union vs[q]) := by
              show _ = _; rw [List.take_succ_eq_append_getElem hlm, insU_snoc, HYE.out, Int.toNat_natCast, hgq]
            have HSD : Hid (sepF vs (insU vs St.zero (x.ins.take m)) (x.ins.drop m) = if (insU vs St.zero (x.ins.take m)).cut vs[q] = St.zero then sepF vs ((insU vs St.zero (x.ins.take m)).union vs[q]) (x.ins.drop (m + 1)) else false) := by
              show _ = _; rw [sepF_drop _ _ _ _ hlm, HYE.out, Int.toNat_natCast, hgq]
            generalize insU vs St.zero (x.ins.take m) = cur at *
            generalize vs[q] = tq at *
            obtain ⟨m0, m1, f0, f1⟩ := hblk.sc
            have HBLK := Lib.hid hblk
            clear hblk hbel hrow hgq
            have hgd := eqGuard_set
            have hnq : ∀ w : World, (binOp .neq 54 (.agg #[.int .u64 ((cur.cut tq).a : Int), .int .u64 ((cur.cut tq).b : Int)]) (.agg #[.int .u64 0, .int .u64 0])).run Tryz.prog w = .ok (.bool !(eqSt (cur.cut tq) St.zero)) w := fun w => run_neq_set _ St.zero w
            have HNQ := Lib.hid hnq
            cases hcz : eqSt (cur.cut tq) St.zero
            all_goals
              have HCZ := Lib.hid hcz
              have hn2 : ∀ w : World, (binOp .neq 54 (.agg #[.int .u64 ((cur.cut tq).a : Int), .int .u64 ((cur.cut tq).b : Int)]) (.agg #[.int .u64 0, .int .u64 0])).run Tryz.prog w = .ok (.bool !(eqSt (cur.cut tq) St.zero)) w := HNQ.out
              rw [hcz] at hn2
              clear hcz hnq
              clear HNQ
            · have HFIN : Hid (decL l = false) := by
                refine decL_false hlt ?_
                rw [HVSD.out, HXE.out, HND.out, HSEP.out, HSD.out, if_neg]
                intro h; have := HCZ.out; simp [eqSt, h] at this
              go_wp2_with fail
              go_region_with (go_at_call 109; refine (cut_any cur tq _ HCO.out HTO.out).mono ?_; rintro e w5 ⟨rfl, hb5⟩)
              all_goals
                have HB5 := Lib.hid (below_drew hb5)
                clear hb5
                go_wp2
                go_ret
                exact ⟨ret_bool HFIN.out.symm, HALL.out.trans ((HBi.out.trans (HB5.out.mono HBi.out.size)).mono HSO.out)⟩
            · have HZ : Hid (cur.cut tq = St.zero) := by show cur.cut tq = St.zero; have := HCZ.out; simpa [eqSt] using this
              go_wp2_with fail
              go_region_with (go_at_call 109; refine (cut_any cur tq _ HCO.out HTO.out).mono ?_; rintro e w5 ⟨rfl, hb5⟩)
              all_goals
                have hb5' := below_drew hb5
                have hblk5 := HBLK.out.later hb5'
                obtain ⟨k0, k1, g0, g1⟩ := hblk5.sc
                have v0 := cell_keep hb5' q0
                have v1 := cell_keep hb5' q1
                have HB5 := Lib.hid hb5'
                have HBL5 := Lib.hid hblk5
                clear hb5 hb5' hblk5 q0 q1 m0 m1 f0 f1
                go_wp2_with fail
                go_region_with (go_at_call 96; refine (union_any cur tq _ HCO.out HTO.out).mono ?_; rintro e w6 ⟨rfl, hb6⟩; obtain ⟨j0, j1, i0, i1⟩ := HBL5.out.drewCall hb6)
                all_goals
                  have HB6 := Lib.hid (below_drew hb6)
                  clear hb6
                  go_wp2
                  go_roundw
                  case rel =>
                    refine ⟨m + 1, by omega, by go_num, ?_, ?_, ?_⟩
                    · rw [HST.out]; exact (HBL5.out.later HB6.out).putSet _
                    · rw [HSEP.out, HSD.out, if_pos HZ.out, HST.out]
                    · exact ((HBi.out.trans ((HB5.out.trans (HB6.out.mono HB5.out.size)).mono HBi.out.size)).setCell (by simp) _).setCell (by simp) _
                  case measure => simp [intOf]; omega
          · have : m = x.ins.length := by omega
            subst this
            go_wp2
            go_roundw
            case rel =>
              refine ⟨k + 1, by omega, by go_num, fun j hj => ?_, HBI.out⟩
              by_cases e : j = k
              · subst e; rw [HXG.out, HND.out, HSEP.out]; simp [sepF]
              · exact HN.out j (by omega)
            case measure => simp [intOf]; omega
      · have hk3' : (x.kind != 3) = true := by simp [hk3]
        have HND : Hid (ndSep (varsL l) x = true) := by show _ = _; simp [ndSep, hk3]
        clear hk3
        go_wp2
        go_roundw
        case rel =>
          refine ⟨k + 1, by omega, by go_num, fun j hj => ?_, HB.out.trans (((Below.refl _ _).alloc (Nat.le_refl _) _).mono HSZ.out)⟩
          by_cases e : j = k
          · subst e; rw [HXG.out]; exact HND.out
          · exact HN.out j (by omega)
        case measure => simp [intOf]; omega
    · have : k = l.length := by omega
      subst this
      go_wp2
      go_ret
      exact ⟨ret_bool (decL_true HN.out).symm, HB0.out.trans (((HB1.out.mono (by simp)).trans (HB2.out.mono (by have := HB1.out.size; simp at this; omega))).trans (HB.out.mono (by have := HB1.out.size; have := HB2.out.size; simp at *; omega)))⟩
end Go.Proofs.YtkaojolofaanfaaGreatDoor
