/- Part of the proofs that laws of censuslaw38 return true for every input, where the tables that the rows list are laid. Texts: Put, InAdd. -/
import Derived.Test.YtkaojolofaanfaaGreatDoorZA6

/- The walk of (*Builder).put. -/
namespace Go.Proofs.YtkaojolofaanfaaGreatDoor
open Go.RowKit Cen
set_option maxHeartbeats 2000000
set_option maxRecDepth 100000

theorem bmap_key (l : List Nd) (x : Nd) : bmap l (.string (keyL x)) = (l.findIdx? fun y => decide (y = x)).map (fun i : Nat => Lit.int .i64 (i : Int)) := by
  show (l.findIdx? fun y => keyL y == keyL x).map _ = _
  rw [show (fun y => keyL y == keyL x) = fun y => decide (y = x) from funext fun y => key_beq x y]

theorem bmap_snoc (l : List Nd) (x : Nd) (hx : x ∉ l) : bmap (l ++ [x]) = fun y => if y.sameKey (.string (keyL x)) then some (.int .i64 (l.length : Int)) else bmap l y := by
  funext y
  cases y with
  | string s =>
    show ((l ++ [x]).findIdx? fun y => keyL y == s).map _ = if (s == keyL x) = true then _ else (l.findIdx? fun y => keyL y == s).map _
    rw [List.findIdx?_append]
    by_cases hs : s = keyL x
    · subst hs
      have hn : (l.findIdx? fun y => keyL y == keyL x) = none := by
        rw [List.findIdx?_eq_none_iff]
        intro z hz
        rw [key_beq]; simp; intro e; subst e; exact hx hz
      rw [hn]; simp
    · have h1 : (s == keyL x) = false := by simpa using hs
      have h2 : (keyL x == s) = false := by simpa using fun e => hs e.symm
      rw [h1]; simp [h2]
  | _ => simp [bmap, Lit.sameKey]
theorem put_end {A F : Nat → Prop} {w w1 w3 w5 : World} {p mb g3 cap3 : Nat} {n : Int} {lv : Value} {L : List (Nd × Value)} {x : Nd} {v : Value}
    (h : BAt A w p mb lv n L) (hF : ∀ k, F k ↔ (k = p ∨ k = mb ∨ lv.ownBlock = some k)) (hins : InsAt (fun k => A k ∨ F k) w v x.ins) (hok : ndOk x n L.length = true) (hl : L.length < 65536) (hil : x.ins.length ≤ 1048576) (hx : x ∉ L.map Prod.fst)
    (hb1 : Below w.heap.size w w1) (hg : w1.grownBy w3 lv.ownBlock) (ho : OwnL ndc 67 3 w3 0 (.slice (some ⟨g3, 0, none⟩) (L.length + 1) cap3) (L ++ [(x, v)])) (h3 : lv.ownBlock = some g3 ∨ w1.heap.size ≤ g3)
    (hb3 : Blk w3 p #[.int .i64 n, lv, .map (some mb)] 210)
    (hm : MapL 9 3 w5 mb (L.length + 1) (fun y => if y.sameKey (.string (keyL x)) then some (.int .i64 (L.length : Int)) else bmap (L.map Prod.fst) y))
    (hg5 : (w3.setCell ⟨p, 1, none⟩ (.slice (some ⟨g3, 0, none⟩) (L.length + 1) cap3)).grownBy w5 (some mb)) :
    Bld A (fun k => k = p ∨ k = mb ∨ k = g3) w5 p n (L.map Prod.fst ++ [x]) ∧ Kp F w w5 ∧ (∀ k, (k = p ∨ k = mb ∨ k = g3) → F k ∨ w.heap.size ≤ k) := by
  have hp : p < w.heap.size := h.blk.lt
  have hmb : mb < w.heap.size := h.map.lt
  have hz := hb1.size
  have e1 : g3 ≠ p := by
    rcases h3 with h4 | h4
    · intro e; subst e; exact h.sep.1 h4
    · omega
  have e2 : g3 ≠ mb := by
    rcases h3 with h4 | h4
    · intro e; subst e; exact h.sep.2.1 h4
    · omega
  have hk1 : Kp F w w1 := Kp.below hb1
  have hk3 : Kp F w1 w3 := Kp.grown hg fun k hk => (hF k).2 (.inr (.inr hk))
  have hk4 : Kp F w3 (w3.setCell ⟨p, 1, none⟩ (.slice (some ⟨g3, 0, none⟩) (L.length + 1) cap3)) := Kp.setCell w3 _ _ ((hF p).2 (.inl rfl))
  have hk5 : Kp F (w3.setCell ⟨p, 1, none⟩ (.slice (some ⟨g3, 0, none⟩) (L.length + 1) cap3)) w5 := Kp.grown hg5 fun k hk => by
    simp only [Option.some.injEq] at hk; subst hk; exact (hF mb).2 (.inr (.inl rfl))
  have hk : Kp F w w5 := hk1.trans (hk3.trans (hk4.trans hk5))
  have hsub : ∀ k, (k = p ∨ k = mb ∨ k = g3) → F k ∨ w.heap.size ≤ k := by
    intro k hk'
    rcases hk' with h4 | h4 | h4
    · exact .inl ((hF k).2 (.inl h4))
    · exact .inl ((hF k).2 (.inr (.inl h4)))
    · subst h4
      rcases h3 with h5 | h5
      · exact .inl ((hF k).2 (.inr (.inr h5)))
      · exact .inr (by omega)
  have hFk : ∀ k, k < w.heap.size → (k = p ∨ k = mb ∨ (Value.slice (some ⟨g3, 0, none⟩) (L.length + 1) cap3).ownBlock = some k) → F k := by
    intro k hkw hk'
    have : k = p ∨ k = mb ∨ k = g3 := by
      rcases hk' with h4 | h4 | h4
      · exact .inl h4
      · exact .inr (.inl h4)
      · simp [Value.ownBlock] at h4; exact .inr (.inr h4.symm)
    rcases hsub k this with h4 | h4
    · exact h4
    · omega
  refine ⟨⟨mb, .slice (some ⟨g3, 0, none⟩) (L.length + 1) cap3, L ++ [(x, v)], ?_, by simp, fun k => by simp [Value.ownBlock, eq_comm]⟩, hk, hsub⟩
  have hm5 : Kp (fun k => k = mb) (w3.setCell ⟨p, 1, none⟩ (.slice (some ⟨g3, 0, none⟩) (L.length + 1) cap3)) w5 := Kp.grown hg5 fun k hk => by simp only [Option.some.injEq] at hk; exact hk.symm
  refine ⟨(hb3.set 1 _).kept hm5 h.sep.2.2, ?_, ?_, ?_, ⟨by simp [Value.ownBlock]; exact e1, by simp [Value.ownBlock]; exact e2, h.sep.2.2⟩, ?_, ?_, ⟨by simp; omega, h.bd.2⟩, fun y hy => by
    rcases List.mem_append.1 hy with hy | hy
    · exact h.len y hy
    · simp at hy; subst hy; exact hil⟩
  · have hA : OwnL ndc 67 3 (w3.setCell ⟨p, 1, none⟩ (.slice (some ⟨g3, 0, none⟩) (L.length + 1) cap3)) 0 (.slice (some ⟨g3, 0, none⟩) (L.length + 1) cap3) (L ++ [(x, v)]) :=
      ho.kept (Kp.setCell (M := fun k => k = p) w3 _ _ rfl) fun g hgg => by simp [Value.ownBlock] at hgg; subst hgg; exact e1
    exact hA.kept hm5 fun g hgg => by simp [Value.ownBlock] at hgg; subst hgg; exact e2
  · intro y hy
    rcases List.mem_append.1 hy with hy | hy
    · refine (h.ins y hy).kept hk (fun k hk' => .inr ((hF k).1 hk')) fun k hkw hk' => hk'.imp id fun h => (hF k).1 (hFk k hkw h)
    · simp at hy; subst hy
      exact hins.kept hk (fun _ hk' => .inr hk') fun k hkw hk' => hk'.imp id (hFk k hkw)
  · rw [List.map_append]
    have := bmap_snoc (L.map Prod.fst) x hx
    rw [List.length_map] at this
    rw [show (List.map Prod.fst [(x, v)]) = [x] from rfl, this]
    simpa using hm
  · rw [List.map_append]
    refine List.nodup_append.2 ⟨h.nodup, by simp, ?_⟩
    intro y hy z hz
    simp at hz; subst hz
    intro e; subst e; exact hx hy
  · have h1 := h.ok
    have h2 : ndsOk (L.map Prod.fst) n (L.map Prod.fst).length := by rw [List.length_map]; exact h1
    have h3 := ndsOk_snoc h2 (by rw [List.length_map]; exact hok)
    rw [List.map_append, List.length_append]
    simpa using h3

theorem put_any (A F : Nat → Prop) (p : Nat) (n : Int) (l : List Nd) (x : Nd) (a : Option Addr) (cap : Nat) (w : World) (hb : Bld A F w p n l) (hins : InsAt (fun k => A k ∨ F k) w (.slice a x.ins.length cap) x.ins)
    (hok : ndOk x n l.length = true) (hl : l.length < 65536) (hil : x.ins.length ≤ 1048576) (ht : Tab w) :
    Calls Tryz.prog 208 #[.pointer (some ⟨p, 0, none⟩), .agg #[.int .i64 x.kind, .int .i64 x.lit, .slice a x.ins.length cap]] w
      fun e w' => ∃ F', e = .returned (.tuple #[.int .i64 (putL l x).2.1, .int .i64 0]) ∧ Bld A F' w' p n (putL l x).1 ∧ Kp F w w' ∧ (∀ k, F' k → F k ∨ w.heap.size ≤ k) := by
  obtain ⟨mb, lv, L, HAt, rfl, hF⟩ := hb
  have HINS := Lib.hid hins
  have HIL := Lib.hid hil
  obtain ⟨a', cap', hv, hcells, _⟩ := hins
  simp only [Value.slice.injEq, true_and] at hv
  obtain ⟨rfl, rfl⟩ := hv
  rw [List.length_map] at hl hok
  obtain ⟨hs1, hs2, hs3⟩ := ndOk_small hok (by omega)
  have HOK := Lib.hid hok
  have hW0 := (Below.refl w.heap.size w).alloc (Nat.le_refl _) (.cells #[.int .i64 x.kind, .int .i64 x.lit, .slice a x.ins.length cap] 67)
  have HW0 := Lib.hid hW0
  have HKEY := Lib.hid (nodeKey_any x.kind x.lit a cap x.ins (w.alloc (.cells #[.int .i64 x.kind, .int .i64 x.lit, .slice a x.ins.length cap] 67)) hil (hcells.keep hW0) hs1 hs2 hs3 (ht.keep hW0))
  clear hW0
  have HBD := Lib.hid HAt
  clear HAt
  go_enter Tryz.func208, Tryz.ntmps208
  go_wp2_with fail
  refine HKEY.out.mono ?_
  rintro e w1 ⟨rfl, hb1⟩
  have hb1' : Below w.heap.size w w1 := HW0.out.trans (hb1.mono (by simp))
  have hblk := HBD.out.blk.later hb1'
  have k0 : w1.cell? ⟨p, 0, none⟩ = some (.int .i64 n) := hblk.cell 0
  have k1 : w1.cell? ⟨p, 1, none⟩ = some lv := hblk.cell 1
  have k2 : w1.cell? ⟨p, 2, none⟩ = some (.map (some mb)) := hblk.cell 2
  have HB1 := Lib.hid hb1'
  have HBK := Lib.hid hblk
  have HBX : Hid (Blk w1 w.heap.size #[.int .i64 x.kind, .int .i64 x.lit, .slice a x.ins.length cap] 67) := (Blk.new w _ _).later hb1
  have HMP := Lib.hid (HBD.out.map.later hb1')
  clear hb1 hb1' hblk
  have hkl : (keyL x).length ≤ 1073741824 := by
    have h1 := itoaS_len x.kind hs1.1 hs1.2
    have h2 := itoaS_len x.lit hs2.1 hs2.2
    have h3 := flat_len x.ins hs3
    unfold keyL; simp only [List.length_append]; omega
  have HKF : Hid (keyOf Tryz.prog 9 (.string ⟨(keyL x).toArray⟩) = some (.string (keyL x))) := by
    have := Go.WideMaps.keyOf_string_mk (P := Tryz.prog) Tryz.underlying9 (s := ⟨(keyL x).toArray⟩) (by show (keyL x).toArray.size ≤ maxLen; unfold maxLen; simp; omega)
    show keyOf _ _ _ = _
    simpa using this
  have HBM := Lib.hid (bmap_key (L.map Prod.fst) x)
  cases hfi : (L.map Prod.fst).findIdx? (fun y => decide (y = x)) with
  | some i =>
    have HP : Hid (putL (L.map Prod.fst) x = (L.map Prod.fst, (i : Int), 0)) := by show _ = _; simp [putL, hfi]
    have HBI : Hid (bmap (L.map Prod.fst) (.string (keyL x)) = some (.int .i64 (i : Int))) := by show _ = _; rw [HBM.out, hfi]; rfl
    clear hfi
    go_wp2_with (at_lookup; refine look_okInt rfl _ _ rfl keyed_str Tryz.underlying108 Tryz.underlying3 zero_int rfl HMP.out _ _ rfl HKF.out ?_; rw [HBI.out])
    go_ret2
    refine ⟨F, by rw [HP.out]; rfl, ?_, Kp.below HB1.out, fun k h => .inl h⟩
    rw [HP.out]
    exact ⟨mb, lv, L, HBD.out.later HB1.out, rfl, hF⟩
  | none =>
    have HP : Hid (putL (L.map Prod.fst) x = (L.map Prod.fst ++ [x], ((L.map Prod.fst).length : Int), 0)) := by
      show _ = _; simp only [putL, hfi, List.length_map]; rw [if_neg (by omega)]
    have HBI : Hid (bmap (L.map Prod.fst) (.string (keyL x)) = none) := by show _ = _; rw [HBM.out, hfi]; rfl
    have HNX : Hid (x ∉ L.map Prod.fst) := by
      intro hmem
      rw [List.findIdx?_eq_none_iff] at hfi
      have := hfi x hmem; simp at this
    clear hfi
    obtain ⟨ao, capl, rfl⟩ := HBD.out.row.sliced
    have h65 : decide ((65536 : Int) ≤ (L.length : Int)) = false := by simp; omega
    have HL := Lib.hid hl
    have hlb : L.length ≤ 1073741824 := by omega
    clear hl
    go_wp2_with (at_lookup; refine look_okInt rfl _ _ rfl keyed_str Tryz.underlying108 Tryz.underlying3 zero_int rfl HMP.out _ _ rfl HKF.out ?_; rw [HBI.out])
    have HRW : Hid (OwnL ndc 67 3 w1 0 (.slice ao L.length capl) L) := HBD.out.row.later HB1.out
    have HNW : Hid (∀ j u, (ndc (x, .slice a x.ins.length cap))[j]? = some u → (w1.alloc (.cells #[.int .i64 x.kind, .int .i64 x.lit, .slice a x.ins.length cap] 67)).cell? ⟨w1.heap.size, j, none⟩ = some u) := fun j u h => by
      rw [World.cell?_alloc_at _ _ _ _ rfl]; simpa [ndc] using h
    have HON : Hid (∀ u ∈ ndc (x, .slice a x.ins.length cap), u.oneCell' = true) := by intro u hu; simp [ndc] at hu; rcases hu with rfl | rfl | rfl <;> rfl
    have HLL : Hid (L.length ≤ 1073741824) := by show _ ≤ _; have := HL.out; omega
    have HSP : Hid (¬ ((Value.slice ao L.length capl).ownBlock = some p)) := HBD.out.sep.1
    have HPL : Hid (plainElem (H := Unit) Tryz.prog 3 (.int .i64 (L.length : Int)) = some (.lit (.int .i64 (L.length : Int)), [])) := plainElem_int Tryz.underlying3 (WalkArith.wf_i64 (by have := HL.out; omega))
    have j0 : w1.cell? ⟨w.heap.size, 0, none⟩ = some (.int .i64 x.kind) := HBX.out.cell 0
    have j1 : w1.cell? ⟨w.heap.size, 1, none⟩ = some (.int .i64 x.lit) := HBX.out.cell 1
    have j2 : w1.cell? ⟨w.heap.size, 2, none⟩ = some (.slice a x.ins.length cap) := HBX.out.cell 2
    have jz : w.heap.size < w1.heap.size := HBX.out.lt
    have jp : p < w1.heap.size := HBK.out.lt
    go_region_law (first | (refine step_appL elemNd rfl _ _ rfl 0 (.slice ao L.length capl) L (x, .slice a x.ins.length cap) rfl (HRW.out.alloc _).drew w1.heap.size rfl rfl HNW.out HON.out HLL.out (by decide) (Nat.zero_le _) ?_; intro g3 cap3 w3 ho3 hg3 hl3; have hk3 := Kp.grown (M := fun k => (Value.slice ao L.length capl).ownBlock = some k) hg3 (fun k hk => hk); have hb3 : Blk w3 p #[.int .i64 n, .slice ao L.length capl, .map (some mb)] 210 := Blk.kept (by exact HBK.out.alloc _) hk3 HSP.out; have m1 : w3.cell? ⟨p, 1, none⟩ = some (.slice ao L.length capl) := hb3.cell 1; have m2 := hb3.fr 1))
    all_goals
      have HG3 : Hid (w1.grownBy w3 (Value.slice ao L.length capl).ownBlock) := by first | exact grownBy_stepD hg3 | exact grownBy_step hg3
      have HO3 := Lib.hid ho3
      have HL3 : Hid ((Value.slice ao L.length capl).ownBlock = some g3 ∨ w1.heap.size ≤ g3) := hl3.imp id (fun h => by rw [h]; simp)
      have HB3 := Lib.hid hb3
      clear hg3 ho3 hl3 hk3 hb3
      have m0 : w3.cell? ⟨p, 0, none⟩ = some (.int .i64 n) := HB3.out.cell 0
      have m3 : w3.cell? ⟨p, 2, none⟩ = some (.map (some mb)) := HB3.out.cell 2
      have HM3 : Hid (MapL 9 3 w3 mb L.length (bmap (L.map Prod.fst))) := HMP.out.kept (Kp.grown (M := fun k => (Value.slice ao L.length capl).ownBlock = some k) HG3.out (fun k hk => hk)) HBD.out.sep.2.1
      have HM4 : Hid (MapL 9 3 (w3.setCell ⟨p, 1, none⟩ (.slice (some ⟨g3, 0, none⟩) (L.length + 1) cap3)) mb L.length (bmap (L.map Prod.fst))) := HM3.out.kept (Kp.setCell (M := fun k => k = p) w3 _ _ rfl) (fun e => HBD.out.sep.2.2 e.symm)
      have hwr : IntKind.i64.wrap (L.length : Int) = (L.length : Int) := IntWalk.i64_in _ (by omega)
      go_wp2_with fail
      refine wp_region_still_tail 11 (by kernel_rfl) (by kernel_rfl) ?_
      simp only [List.take_succ_cons, List.take_zero, List.drop_succ_cons, List.drop_zero]
      change wpStill _ _ (World.drew _) _ _ _
      repeat still_step
      refine wpStill_nil ?_
      go_wp2_with (at_mapUpdate; (refine store_lit rfl _ _ _ rfl keyed_str Tryz.underlying108 rfl HM4.out HLL.out (.string ⟨(keyL x).toArray⟩) (.int .i64 (L.length : Int)) (.string (keyL x)) (.int .i64 (L.length : Int)) rfl rfl HKF.out trivial HPL.out ?_))
      intro w5 hm5 hg5d
      have hg5 : (w3.setCell ⟨p, 1, none⟩ (.slice (some ⟨g3, 0, none⟩) (L.length + 1) cap3)).grownBy w5 (some mb) := ⟨hg5d.os, hg5d.tape, hg5d.output, hg5d.size, hg5d.block⟩
      clear hg5d
      have q0 : w5.cell? ⟨p, 1, none⟩ = some (.slice (some ⟨g3, 0, none⟩) (L.length + 1) cap3) := (((HB3.out.set 1 _).kept (Kp.grown (M := fun k => k = mb) hg5 (fun k hk => (Option.some.inj hk).symm)) HBD.out.sep.2.2).cell 1)
      have HM5 := Lib.hid hm5
      have HG5 := Lib.hid hg5
      clear hm5 hg5
      go_wp2
      go_ret2
      obtain ⟨z1, z2, z3⟩ := put_end HBD.out hF HINS.out HOK.out HL.out HIL.out HNX.out HB1.out HG3.out HO3.out HL3.out HB3.out HM5.out HG5.out
      rw [HP.out]
      exact ⟨_, by rw [List.length_map]; rfl, z1, z2, z3⟩
end Go.Proofs.YtkaojolofaanfaaGreatDoor

/- The walk of the closure of (*Builder).inputs. -/
namespace Go.Proofs.YtkaojolofaanfaaGreatDoor
open Go.RowKit Cen
open Go.Maps (Keyed string_keyed int_keyed)
set_option maxHeartbeats 2000000
set_option maxRecDepth 100000

def litf (lits : List Int) : Lit → Option Lit
  | .int .i64 c => if lits.contains c then some (.bool true) else none
  | _ => none
theorem keyed_int : Keyed Tryz.prog 3 := int_keyed Tryz.underlying3
theorem zero_bool (w : World) : (zeroValue 4).run Tryz.prog w = .ok (.bool false) w := by kernel_rfl
/-- The variables that the closure shares with inputs, in blocks from B on. -/
structure InSt (w : World) (B p : Nat) (drop endk : Int) (v : Value) (c : Nat) (s : InS) : Prop where
  b0 : Blk w B #[.pointer (some ⟨p, 0, none⟩)] 186
  b1 : Blk w (B + 1) #[.int .i64 drop] 3
  b2 : Blk w (B + 2) #[.int .i64 endk] 3
  b3 : Blk w (B + 3) #[v] 40
  own : OwnInts w (B + 7) v s.out
  b4 : MapL 3 4 w (B + 4) c (litf s.lits)
  b5 : Blk w (B + 5) #[.map (some (B + 4))] 224
  b6 : Blk w (B + 6) #[.bool s.opn] 4

theorem InSt.later {w w' : World} {B p : Nat} {drop endk : Int} {v : Value} {c : Nat} {s : InS} (h : InSt w B p drop endk v c s) (hb : Below w.heap.size w w') : InSt w' B p drop endk v c s :=
  ⟨h.b0.later hb, h.b1.later hb, h.b2.later hb, h.b3.later hb, h.own.kept (Kp.below (M := fun _ => False) hb) (fun _ _ x => x), h.b4.later hb, h.b5.later hb, h.b6.later hb⟩

theorem litf_snoc (lits : List Int) (y : Int) : (fun x' : Lit => if x'.sameKey (.int .i64 y) then some (.bool true) else litf lits x') = litf (lits ++ [y]) := by
  funext x'
  cases x' with
  | int k c =>
    cases k <;> simp [litf, Lit.sameKey]
    by_cases h : c = y <;> simp [h]
  | _ => simp [litf, Lit.sameKey]
theorem OwnInts.lt {w : World} {base : Nat} {v : Value} {xs : List Int} (h : OwnInts w base v xs) : ∀ k, v.ownBlock = some k → base ≤ k ∧ k < w.heap.size := World.ownsRow.lt h
theorem InSt.setOpen {w : World} {B p : Nat} {drop endk : Int} {v : Value} {c : Nat} {s : InS} (h : InSt w B p drop endk v c s) (o : Bool) : InSt (w.setCell ⟨B + 6, 0, none⟩ (.bool o)) B p drop endk v c ⟨s.out, s.lits, o⟩ :=
  ⟨h.b0.other _ _ (by simp), h.b1.other _ _ (by simp), h.b2.other _ _ (by simp), h.b3.other _ _ (by simp), h.own.kept (Kp.setCell (M := fun k => k = B + 6) _ _ _ rfl) (fun k hk e => by have := (h.own.lt k hk).1; omega),
    h.b4.kept (Kp.setCell (M := fun k => k = B + 6) _ _ _ rfl) (by omega), h.b5.other _ _ (by simp), h.b6.set 0 _⟩
theorem InSt.setOut {w w' : World} {B p : Nat} {drop endk : Int} {v v' : Value} {c : Nat} {s : InS} {out' : List Int} (h : InSt w B p drop endk v c s) (ho : OwnInts w' (B + 7) v' out') (hg : w.grownBy w' v.ownBlock) :
    InSt (w'.setCell ⟨B + 3, 0, none⟩ v') B p drop endk v' c ⟨out', s.lits, s.opn⟩ := by
  have hk : Kp (fun k => v.ownBlock = some k) w w' := Kp.grown hg fun k hk => hk
  have hn : ∀ b, b < B + 7 → ¬ (v.ownBlock = some b) := fun b hb e => by have := (h.own.lt b e).1; omega
  exact ⟨(h.b0.kept hk (hn _ (by omega))).other _ _ (by simp), (h.b1.kept hk (hn _ (by omega))).other _ _ (by simp), (h.b2.kept hk (hn _ (by omega))).other _ _ (by simp), (h.b3.kept hk (hn _ (by omega))).set 0 _,
    ho.kept (Kp.setCell (M := fun k => k = B + 3) _ _ _ rfl) (fun k hk e => by have := (ho.lt k hk).1; omega),
    (h.b4.kept hk (hn _ (by omega))).kept (Kp.setCell (M := fun k => k = B + 3) _ _ _ rfl) (by omega), (h.b5.kept hk (hn _ (by omega))).other _ _ (by simp), (h.b6.kept hk (hn _ (by omega))).other _ _ (by simp)⟩
theorem InSt.store {w w5 : World} {B p : Nat} {drop endk : Int} {v : Value} {c : Nat} {s : InS} {y : Int} (h : InSt w B p drop endk v c s)
    (hm : MapL 3 4 w5 (B + 4) (c + 1) (fun x' => if x'.sameKey (.int .i64 y) then some (.bool true) else litf s.lits x'))
    (hg : w.grownBy w5 (some (B + 4))) : InSt w5 B p drop endk v (c + 1) ⟨s.out, s.lits ++ [y], s.opn⟩ := by
  have hk : Kp (fun k => k = B + 4) w w5 := Kp.grown hg fun k hk => (Option.some.inj hk).symm
  rw [litf_snoc] at hm
  exact ⟨h.b0.kept hk (by omega), h.b1.kept hk (by omega), h.b2.kept hk (by omega), h.b3.kept hk (by omega), h.own.kept hk (fun k hk' e => by have := (h.own.lt k hk').1; omega), hm, h.b5.kept hk (by omega), h.b6.kept hk (by omega)⟩
theorem has_contains (l : List Int) (x : Int) : has l x = l.contains x := by rw [Bool.eq_iff_iff, has_iff]; simp
theorem addS_of {L : List Nd} {drop endk : Int} {s : InS} {i : Int} {x : Nd} (h : nd L i = x) : addS L drop endk s i =
    ⟨if (decide (x.kind = endk) || (decide (x.kind = 2) && s.lits.contains (-x.lit))) then s.out else if x.kind ≠ drop ∧ s.out.contains i = false then s.out ++ [i] else s.out,
     if x.kind = 2 then s.lits ++ [x.lit] else s.lits, s.opn && !(decide (x.kind = endk) || (decide (x.kind = 2) && s.lits.contains (-x.lit)))⟩ := by subst h; rfl
theorem inAdd_any (A F : Nat → Prop) (p : Nat) (n : Int) (L : List Nd) (B : Nat) (drop endk : Int) (v : Value) (c : Nat) (s : InS) (i : Int) (w : World) (hb : Bld A F w p n L) (hs : InSt w B p drop endk v c s)
    (hi0 : 0 ≤ i) (hi1 : i < L.length) (hc : c ≤ 1000000) (hol : s.out.length ≤ 1000000) :
    Calls Tryz.prog 230 #[.int .i64 i, .pointer (some ⟨B, 0, none⟩), .pointer (some ⟨B + 2, 0, none⟩), .pointer (some ⟨B + 5, 0, none⟩), .pointer (some ⟨B + 6, 0, none⟩), .pointer (some ⟨B + 1, 0, none⟩), .pointer (some ⟨B + 3, 0, none⟩)] w
      fun e w' => e = .returned (.tuple #[]) ∧ ∃ v' c', c' ≤ c + 1 ∧ InSt w' B p drop endk v' c' (addS L drop endk s i) ∧ Below B w w' := by
  obtain ⟨mb, lv, LL, HAt, rfl, hF⟩ := hb
  rw [List.length_map] at hi1
  obtain ⟨q, rfl⟩ := Int.eq_ofNat_of_zero_le hi0
  have hq : q < LL.length := by omega
  have hll : LL.length ≤ 65536 := HAt.bd.1
  obtain ⟨ao, capl, rfl⟩ := HAt.row.sliced
  obtain ⟨g, rfl⟩ : ∃ g, ao = some ⟨g, 0, none⟩ := by
    rcases HAt.row.shape with ⟨_, h2⟩ | ⟨g, cap', h1, _⟩
    · rw [h2] at hq; simp at hq
    · simp only [Value.slice.injEq, true_and] at h1; exact ⟨g, h1.1⟩
  have hnd : nd (LL.map Prod.fst) (q : Int) = (LL[q]).1 := by simp [nd, List.getD_eq_getElem?_getD, hq]
  have r0 : w.cell? ⟨g, q * 3, none⟩ = some (.int .i64 (LL[q]).1.kind) := HAt.row.cell rfl ndc_len q 0 hq (by omega)
  have r1 : w.cell? ⟨g, q * 3 + 1, none⟩ = some (.int .i64 (LL[q]).1.lit) := HAt.row.cell rfl ndc_len q 1 hq (by omega)
  have r2 : w.cell? ⟨g, q * 3 + 2, none⟩ = some (LL[q]).2 := HAt.row.cell rfl ndc_len q 2 hq (by omega)
  have hnok : ndOk (LL[q]).1 n q = true := by
    have := HAt.ok q hq
    simpa [List.getD_eq_getElem?_getD, hq] using this
  obtain ⟨hsk, hsl, _⟩ := ndOk_small hnok (by omega)
  obtain ⟨av, capv, hav⟩ : ∃ av capv, (LL[q]).2 = .slice av (LL[q]).1.ins.length capv := let ⟨a, c, h, _⟩ := HAt.ins _ (List.getElem_mem hq); ⟨a, c, h⟩
  rw [hav] at r2
  have hadd := addS_of (drop := drop) (endk := endk) (s := s) hnd
  have HNOK := Lib.hid hnok
  generalize (LL[q]).1 = x at *
  clear hav hnok
  have k0 : w.cell? ⟨p, 1, none⟩ = some (.slice (some ⟨g, 0, none⟩) LL.length capl) := HAt.blk.cell 1
  have k1 : w.cell? ⟨B, 0, none⟩ = some (.pointer (some ⟨p, 0, none⟩)) := hs.b0.cell 0
  have k2 : w.cell? ⟨B + 1, 0, none⟩ = some (.int .i64 drop) := hs.b1.cell 0
  have k3 : w.cell? ⟨B + 2, 0, none⟩ = some (.int .i64 endk) := hs.b2.cell 0
  have k4 : w.cell? ⟨B + 3, 0, none⟩ = some v := hs.b3.cell 0
  have k5 : w.cell? ⟨B + 5, 0, none⟩ = some (.map (some (B + 4))) := hs.b5.cell 0
  have k6 : w.cell? ⟨B + 6, 0, none⟩ = some (.bool s.opn) := hs.b6.cell 0
  have f6 := hs.b6.fr 0
  have z0 : B + 6 < w.heap.size := hs.b6.lt
  have z1 : B < w.heap.size := by omega
  have z2 : B + 1 < w.heap.size := by omega
  have z3 : B + 2 < w.heap.size := by omega
  have z4 : B + 3 < w.heap.size := by omega
  have z5 : B + 5 < w.heap.size := by omega
  have zp : p < w.heap.size := HAt.blk.lt
  have zg : g < w.heap.size := cell_block r0
  have hqq : (q : Int) < (LL.length : Int) := by omega
  have HS := Lib.hid hs
  have HADD := Lib.hid hadd
  have HLK : Hid (∀ o : Obj, (Instr.lookup 224 (.map (some (B + 4))) (.int .i64 (-x.lit)) false).run Tryz.prog (w.alloc o) = .ok (.bool (boolVal (litf s.lits (.int .i64 (-x.lit))))) (w.alloc o)) := fun o =>
    (hs.b4.later ((Below.refl _ _).alloc (Nat.le_refl _) o)).look_bool keyed_int Tryz.underlying224 Tryz.underlying4 zero_bool (Go.Maps.keyOf_int_mk Tryz.underlying3 (WalkArith.wf_i64 (by have := hsl.1; have := hsl.2; omega)))
  have HKF : Hid (keyOf Tryz.prog 3 (.int .i64 x.lit) = some (.int .i64 x.lit)) := Go.Maps.keyOf_int_mk Tryz.underlying3 (WalkArith.wf_i64 (by have := hsl.1; have := hsl.2; omega))
  have HPB : Hid (plainElem (H := Unit) Tryz.prog 4 (.bool true) = some (.lit (.bool true), [])) := plainElem_bool Tryz.underlying4 true
  have HMAP : Hid (∀ o : Obj, MapL 3 4 ((w.setCell ⟨B + 6, 0, none⟩ (.bool false)).alloc o) (B + 4) c (litf s.lits)) := fun o =>
    (hs.setOpen false).b4.later ((Below.refl _ _).alloc (Nat.le_refl _) o)
  have HC : Hid (c ≤ 1073741824) := by show c ≤ _; omega
  have hl0 : -65536 ≤ x.lit := hsl.1
  have hl1 : x.lit ≤ 65536 := hsl.2
  clear hs hadd hnd hsk hsl
  have HOL : Hid (s.out.length ≤ 1073741824) := by show _ ≤ _; omega
  have HMAP0 : Hid (∀ o : Obj, MapL 3 4 (w.alloc o) (B + 4) c (litf s.lits)) := fun o => HS.out.b4.later ((Below.refl _ _).alloc (Nat.le_refl _) o)
  obtain ⟨va, vcap, rfl, hvc, _⟩ := HS.out.own.cells
  have HVC : Hid (∀ o : Obj, IntCells (w.alloc o) va s.out) := fun o => hvc.keep ((Below.refl _ _).alloc (Nat.le_refl _) o)
  have HOWN : Hid (∀ o : Obj, OwnInts (w.alloc o) (B + 7) (.slice va s.out.length vcap) s.out) := fun o => HS.out.own.kept (Kp.alloc (fun _ => False) w o) (fun _ _ x => x)
  have HSZ : Hid (∀ o : Obj, B + 7 ≤ (w.alloc o).heap.size) := fun o => by simp; omega
  have HNO : Hid (∀ b, (b < B + 7 ∨ b = w.heap.size) → ¬ ((Value.slice va s.out.length vcap).ownBlock = some b)) := fun b hb e => by
    have := HS.out.own.lt b e
    omega
  clear hvc
  by_cases he : x.kind = endk
  · have he' : (x.kind == endk) = true := by simpa using he
    by_cases h2 : x.kind = 2
    · have h2' : (x.kind == 2) = true := by simpa using h2
      have HHIT : Hid (addS (LL.map Prod.fst) drop endk s (q : Int) = ⟨s.out, s.lits ++ [x.lit], false⟩) := by
        show _ = _; rw [HADD.out, if_pos h2]; simp [he]
      clear he h2
      go_enter Tryz.func230, Tryz.ntmps230
      go_wp2_with (at_mapUpdate; refine store_lit rfl _ _ _ rfl keyed_int Tryz.underlying224 rfl (HMAP.out _) HC.out (.int .i64 x.lit) (.bool true) (.int .i64 x.lit) (.bool true) rfl rfl HKF.out trivial HPB.out ?_)
      intro w5 hm5 hg5
      have HM5 := Lib.hid hm5
      have HG5 := Lib.hid hg5
      clear hm5 hg5
      go_wp2
      go_end0
      rw [HHIT.out]
      exact ⟨rfl, _, c + 1, Nat.le_refl _, ((HS.out.setOpen false).later ((Below.refl _ _).alloc (Nat.le_refl _) _)).store HM5.out HG5.out,
        (((Below.refl B w).setCell (by simp) _).alloc (by simp; omega) _).grown HG5.out (by simp; omega) (fun k hk => by have := Option.some.inj hk; omega)⟩
    · have h2' : (x.kind == 2) = false := by simpa using h2
      have HHIT : Hid (addS (LL.map Prod.fst) drop endk s (q : Int) = ⟨s.out, s.lits, false⟩) := by
        show _ = _; rw [HADD.out, if_neg h2]; simp [he]
      clear he h2
      go_enter Tryz.func230, Tryz.ntmps230
      go_wp2
      go_end0
      rw [HHIT.out]
      exact ⟨rfl, _, c, by omega, (HS.out.setOpen false).later ((Below.refl _ _).alloc (Nat.le_refl _) _), (((Below.refl B w).setCell (by simp) _).alloc (by simp; omega) _)⟩
  · have he' : (x.kind == endk) = false := by simpa using he
    by_cases h2 : x.kind = 2
    · have h2' : (x.kind == 2) = true := by simpa using h2
      have hlk := HLK.out
      cases hct : s.lits.contains (-x.lit)
      · have hbv : boolVal (litf s.lits (.int .i64 (-x.lit))) = false := by simp only [litf, hct]; rfl
        rw [hbv] at hlk
        have hm : (-x.lit) ∉ s.lits := by simpa using hct
        have HA2 : Hid (addS (LL.map Prod.fst) drop endk s (q : Int) = ⟨if x.kind ≠ drop ∧ s.out.contains (q : Int) = false then s.out ++ [(q : Int)] else s.out, s.lits ++ [x.lit], s.opn⟩) := by
          show _ = _; rw [HADD.out, if_pos h2]; simp [he, hm]
        clear hbv he h2 hct hm
        by_cases hd : x.kind = drop
        · have hd' : (x.kind != drop) = false := by simpa using hd
          have HHIT : Hid (addS (LL.map Prod.fst) drop endk s (q : Int) = ⟨s.out, s.lits ++ [x.lit], s.opn⟩) := by
            show _ = _; rw [HA2.out, if_neg (fun h => h.1 hd)]
          have HCN : Hid (has s.out (q : Int) = has s.out (q : Int)) := rfl
          clear hd
          go_enter Tryz.func230, Tryz.ntmps230
          go_wp2_with (first | (go_at_call 137; refine (contains_any _ _ _ _ _ HOL.out (HVC.out _)).mono ?_; rw [HCN.out]; rintro e w' ⟨rfl, rfl⟩) | (at_mapUpdate; refine store_lit rfl _ _ _ rfl keyed_int Tryz.underlying224 rfl (HMAP0.out _) HC.out (.int .i64 x.lit) (.bool true) (.int .i64 x.lit) (.bool true) rfl rfl HKF.out trivial HPB.out ?_))
          intro w5 hm5 hg5
          have HM5 := Lib.hid hm5
          have HG5 := Lib.hid hg5
          clear hm5 hg5
          go_wp2
          go_end0
          rw [HHIT.out]
          exact ⟨rfl, _, c + 1, Nat.le_refl _, (HS.out.later ((Below.refl _ _).alloc (Nat.le_refl _) _)).store HM5.out HG5.out,
            ((Below.refl B w).alloc (by omega) _).grown HG5.out (by simp; omega) (fun k hk => by have := Option.some.inj hk; omega)⟩
        · have hd' : (x.kind != drop) = true := by simpa using hd
          cases hcn : has s.out (q : Int)
          · have HHIT : Hid (addS (LL.map Prod.fst) drop endk s (q : Int) = ⟨s.out ++ [(q : Int)], s.lits ++ [x.lit], s.opn⟩) := by
              show _ = _; rw [HA2.out, if_pos ⟨hd, by rw [← has_contains]; exact hcn⟩]
            have HCN := Lib.hid hcn
            clear hd hcn
            go_enter Tryz.func230, Tryz.ntmps230
            go_wp2_with (first | (go_at_call 137; refine (contains_any _ _ _ _ _ HOL.out (HVC.out _)).mono ?_; rw [HCN.out]; rintro e w' ⟨rfl, rfl⟩) | (at_builtin; go_loud (refine appInt rfl _ _ rfl (B + 7) (.slice va s.out.length vcap) s.out (q : Int) rfl (HOWN.out _) (by rw [World.size_alloc]; rfl) HOL.out (HSZ.out _) ?_)))
            intro v2 w2 ho2 hg2 _
            have hkp := Kp.grown (M := fun k => (Value.slice va s.out.length vcap).ownBlock = some k) hg2 (fun k hk => hk)
            have hnx := (Blk.new w #[.int .i64 x.kind, .int .i64 x.lit, .slice av x.ins.length capv] 67).kept hkp (HNO.out _ (.inr rfl))
            have u0 : w2.cell? ⟨w.heap.size, 0, none⟩ = some (.int .i64 x.kind) := hnx.cell 0
            have u1 : w2.cell? ⟨w.heap.size, 1, none⟩ = some (.int .i64 x.lit) := hnx.cell 1
            have hb3' := (HS.out.b3.alloc (.cells #[.int .i64 x.kind, .int .i64 x.lit, .slice av x.ins.length capv] 67)).kept hkp (HNO.out _ (.inl (by omega)))
            have u2 : w2.cell? ⟨B + 3, 0, none⟩ = some (.slice va s.out.length vcap) := hb3'.cell 0
            have u3 := hb3'.fr 0
            have u4 : w2.cell? ⟨B + 5, 0, none⟩ = some (.map (some (B + 4))) := ((HS.out.b5.alloc (.cells #[.int .i64 x.kind, .int .i64 x.lit, .slice av x.ins.length capv] 67)).kept hkp (HNO.out _ (.inl (by omega)))).cell 0
            have HG2 := Lib.hid hg2
            have HST := Lib.hid ((HS.out.later ((Below.refl _ _).alloc (Nat.le_refl _) _)).setOut ho2 hg2)
            obtain ⟨va2, vcap2, hv2, _, _⟩ := ho2.cells
            rw [List.length_append] at hv2
            simp only [List.length_cons, List.length_nil, Nat.zero_add] at hv2
            subst hv2
            clear hg2 hkp hnx hb3' ho2
            go_wp2_with (at_mapUpdate; refine store_lit rfl _ _ _ rfl keyed_int Tryz.underlying224 rfl (HST.out.b4) HC.out (.int .i64 x.lit) (.bool true) (.int .i64 x.lit) (.bool true) rfl rfl HKF.out trivial HPB.out ?_)
            intro w5 hm5 hg5
            have HM5 := Lib.hid hm5
            have HG5 := Lib.hid hg5
            clear hm5 hg5
            go_wp2
            go_end0
            rw [HHIT.out]
            exact ⟨rfl, _, c + 1, Nat.le_refl _, HST.out.store HM5.out HG5.out, ((((Below.refl B w).alloc (by omega) _).grown HG2.out (by simp; omega) (fun k hk => by have := (HS.out.own.lt k hk).1; omega)).setCell (by simp) _).grown HG5.out (by simp; have := HG2.out.size; simp at this; omega) (fun k hk => by have := Option.some.inj hk; omega)⟩
          · have HHIT : Hid (addS (LL.map Prod.fst) drop endk s (q : Int) = ⟨s.out, s.lits ++ [x.lit], s.opn⟩) := by
              show _ = _; rw [HA2.out, if_neg (fun h => by have := h.2; rw [← has_contains, hcn] at this; simp at this)]
            have HCN := Lib.hid hcn
            clear hd hcn
            go_enter Tryz.func230, Tryz.ntmps230
            go_wp2_with (first | (go_at_call 137; refine (contains_any _ _ _ _ _ HOL.out (HVC.out _)).mono ?_; rw [HCN.out]; rintro e w' ⟨rfl, rfl⟩) | (at_mapUpdate; refine store_lit rfl _ _ _ rfl keyed_int Tryz.underlying224 rfl (HMAP0.out _) HC.out (.int .i64 x.lit) (.bool true) (.int .i64 x.lit) (.bool true) rfl rfl HKF.out trivial HPB.out ?_))
            intro w5 hm5 hg5
            have HM5 := Lib.hid hm5
            have HG5 := Lib.hid hg5
            clear hm5 hg5
            go_wp2
            go_end0
            rw [HHIT.out]
            exact ⟨rfl, _, c + 1, Nat.le_refl _, (HS.out.later ((Below.refl _ _).alloc (Nat.le_refl _) _)).store HM5.out HG5.out,
              ((Below.refl B w).alloc (by omega) _).grown HG5.out (by simp; omega) (fun k hk => by have := Option.some.inj hk; omega)⟩
      · have hbv : boolVal (litf s.lits (.int .i64 (-x.lit))) = true := by simp only [litf, hct]; rfl
        rw [hbv] at hlk
        have HHIT : Hid (addS (LL.map Prod.fst) drop endk s (q : Int) = ⟨s.out, s.lits ++ [x.lit], false⟩) := by
          have hm : -x.lit ∈ s.lits := by simpa using hct
          show _ = _; rw [HADD.out]; simp [h2, hm]
        clear hbv he h2 hct
        go_enter Tryz.func230, Tryz.ntmps230
        go_wp2_with (at_mapUpdate; refine store_lit rfl _ _ _ rfl keyed_int Tryz.underlying224 rfl (HMAP.out _) HC.out (.int .i64 x.lit) (.bool true) (.int .i64 x.lit) (.bool true) rfl rfl HKF.out trivial HPB.out ?_)
        intro w5 hm5 hg5
        have HM5 := Lib.hid hm5
        have HG5 := Lib.hid hg5
        clear hm5 hg5
        go_wp2
        go_end0
        rw [HHIT.out]
        exact ⟨rfl, _, c + 1, Nat.le_refl _, ((HS.out.setOpen false).later ((Below.refl _ _).alloc (Nat.le_refl _) _)).store HM5.out HG5.out,
          (((Below.refl B w).setCell (by simp) _).alloc (by simp; omega) _).grown HG5.out (by simp; omega) (fun k hk => by have := Option.some.inj hk; omega)⟩
    · have h2' : (x.kind == 2) = false := by simpa using h2
      have HA2 : Hid (addS (LL.map Prod.fst) drop endk s (q : Int) = ⟨if x.kind ≠ drop ∧ s.out.contains (q : Int) = false then s.out ++ [(q : Int)] else s.out, s.lits, s.opn⟩) := by
        show _ = _; rw [HADD.out, if_neg h2]; simp [he, h2]
      clear he h2
      by_cases hd : x.kind = drop
      · have hd' : (x.kind != drop) = false := by simpa using hd
        have HHIT : Hid (addS (LL.map Prod.fst) drop endk s (q : Int) = ⟨s.out, s.lits, s.opn⟩) := by
          show _ = _; rw [HA2.out, if_neg (fun h => h.1 hd)]
        have HCN : Hid (has s.out (q : Int) = has s.out (q : Int)) := rfl
        clear hd
        go_enter Tryz.func230, Tryz.ntmps230
        go_wp2_with (go_at_call 137; refine (contains_any _ _ _ _ _ HOL.out (HVC.out _)).mono ?_; rw [HCN.out]; rintro e w' ⟨rfl, rfl⟩)
        go_end0
        rw [HHIT.out]
        exact ⟨rfl, _, c, by omega, HS.out.later ((Below.refl _ _).alloc (Nat.le_refl _) _), (Below.refl B w).alloc (by omega) _⟩
      · have hd' : (x.kind != drop) = true := by simpa using hd
        cases hcn : has s.out (q : Int)
        · have HHIT : Hid (addS (LL.map Prod.fst) drop endk s (q : Int) = ⟨s.out ++ [(q : Int)], s.lits, s.opn⟩) := by
            show _ = _; rw [HA2.out, if_pos ⟨hd, by rw [← has_contains]; exact hcn⟩]
          have HCN := Lib.hid hcn
          clear hd hcn
          go_enter Tryz.func230, Tryz.ntmps230
          go_wp2_with (first | (go_at_call 137; refine (contains_any _ _ _ _ _ HOL.out (HVC.out _)).mono ?_; rw [HCN.out]; rintro e w' ⟨rfl, rfl⟩) | (at_builtin; go_loud (refine appInt rfl _ _ rfl (B + 7) (.slice va s.out.length vcap) s.out (q : Int) rfl (HOWN.out _) (by rw [World.size_alloc]; rfl) HOL.out (HSZ.out _) ?_)))
          intro v2 w2 ho2 hg2 _
          have hkp := Kp.grown (M := fun k => (Value.slice va s.out.length vcap).ownBlock = some k) hg2 (fun k hk => hk)
          have hnx := (Blk.new w #[.int .i64 x.kind, .int .i64 x.lit, .slice av x.ins.length capv] 67).kept hkp (HNO.out _ (.inr rfl))
          have u0 : w2.cell? ⟨w.heap.size, 0, none⟩ = some (.int .i64 x.kind) := hnx.cell 0
          have u1 : w2.cell? ⟨w.heap.size, 1, none⟩ = some (.int .i64 x.lit) := hnx.cell 1
          have hb3' := (HS.out.b3.alloc (.cells #[.int .i64 x.kind, .int .i64 x.lit, .slice av x.ins.length capv] 67)).kept hkp (HNO.out _ (.inl (by omega)))
          have u2 : w2.cell? ⟨B + 3, 0, none⟩ = some (.slice va s.out.length vcap) := hb3'.cell 0
          have u3 := hb3'.fr 0
          have u4 : w2.cell? ⟨B + 5, 0, none⟩ = some (.map (some (B + 4))) := ((HS.out.b5.alloc (.cells #[.int .i64 x.kind, .int .i64 x.lit, .slice av x.ins.length capv] 67)).kept hkp (HNO.out _ (.inl (by omega)))).cell 0
          have HG2 := Lib.hid hg2
          have HST := Lib.hid ((HS.out.later ((Below.refl _ _).alloc (Nat.le_refl _) _)).setOut ho2 hg2)
          obtain ⟨va2, vcap2, hv2, _, _⟩ := ho2.cells
          rw [List.length_append] at hv2
          simp only [List.length_cons, List.length_nil, Nat.zero_add] at hv2
          subst hv2
          clear hg2 hkp hnx hb3' ho2
          go_wp2
          go_end0
          rw [HHIT.out]
          exact ⟨rfl, _, c, by omega, HST.out, (((Below.refl B w).alloc (by omega) _).grown HG2.out (by simp; omega) (fun k hk => by have := (HS.out.own.lt k hk).1; omega)).setCell (by simp) _⟩
        · have HHIT : Hid (addS (LL.map Prod.fst) drop endk s (q : Int) = ⟨s.out, s.lits, s.opn⟩) := by
            show _ = _; rw [HA2.out, if_neg (fun h => by have := h.2; rw [← has_contains, hcn] at this; simp at this)]
          have HCN := Lib.hid hcn
          clear hd hcn
          go_enter Tryz.func230, Tryz.ntmps230
          go_wp2_with (go_at_call 137; refine (contains_any _ _ _ _ _ HOL.out (HVC.out _)).mono ?_; rw [HCN.out]; rintro e w' ⟨rfl, rfl⟩)
          go_end0
          rw [HHIT.out]
          exact ⟨rfl, _, c, by omega, HS.out.later ((Below.refl _ _).alloc (Nat.le_refl _) _), (Below.refl B w).alloc (by omega) _⟩
end Go.Proofs.YtkaojolofaanfaaGreatDoor
