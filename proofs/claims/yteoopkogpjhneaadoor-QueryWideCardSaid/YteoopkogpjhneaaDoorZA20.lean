/- Part of the proofs that laws of censuslaw38 return true for every input, where the tables that the rows list are laid. Texts: PairQ, KnownP, LFlat, Known. -/
import Derived.Test.YteoopkogpjhneaaDoorZA19
import Derived.Test.YteoopkogpjhneaaDoorZA18
import Derived.Deep.DeepCutAuto
import Derived.Deep.CutRange

/- Plain: what Counter and Same answer, said by assignments. -/
namespace Go.Proofs.YteoopkogpjhneaaDoor
open Cen
/-- The set that is found, of the variables that are found. -/
theorem found_bd {N : Nat} {a b : List Nd} {m : List Int} (h : Least N 1 a b m) (hn : N ≤ 128) (v : Int) (h1 : 1 ≤ v) : (foundOf St.zero (some m)).mem v = memL m v := by
  rw [foundOf_mem, St.mem_zero, decide_eq_true h1]
  unfold memL
  cases hc : m.contains v with
  | false => rfl
  | true =>
    have := h.bd v (by simpa using hc)
    rw [decide_eq_true (by omega)]; rfl
theorem chk2_symm {s t : Nt} (h : chk2 s t = 0) : chk2 t s = 0 := by
  obtain ⟨a, b, c, d, e⟩ := chk2_ok h
  unfold chk2; rw [a, b, d, e, c]; simp
theorem chk2_self {t u : Nt} (h : chk2 t u = 0) : chk2 t t = 0 := by
  obtain ⟨a, b, c, d, e⟩ := chk2_ok h
  unfold chk2; rw [a, d]; simp
theorem chk2_one {t u : Nt} (h : chk2 t u = 0) : chkR [] t = 0 := by
  obtain ⟨a, b, c, d, e⟩ := chk2_ok h
  unfold chkR; rw [a, d]; simp
theorem flat_dec (k : Int) : decL [⟨k, 0, []⟩] = true := by
  unfold decL
  simp only [List.all_cons, List.all_nil, Bool.and_true]
  unfold ndSep
  simp [sepF]
theorem chk2_flat {n : Int} {l : List Nd} {u : Nt} (h : chk2 ⟨n, l⟩ u = 0) (k : Int) (hk : k = 0 ∨ k = 1) : chk2 ⟨n, l⟩ ⟨n, [⟨k, 0, []⟩]⟩ = 0 ∧ chk2 ⟨n, [⟨k, 0, []⟩]⟩ ⟨n, l⟩ = 0 := by
  obtain ⟨a, b, c, d, e⟩ := chk2_ok h
  obtain ⟨hn0, hn1, _, _⟩ := netOk_head a
  have h1 : chk2 ⟨n, l⟩ ⟨n, [⟨k, 0, []⟩]⟩ = 0 := by
    simp only at d
    unfold chk2; rw [a, true_ok hn0 hn1 k hk]; simp [d, flat_dec]
  exact ⟨h1, chk2_symm h1⟩
theorem ev_false (s : Int → Bool) (n : Int) : ev s ⟨n, [⟨0, 0, []⟩]⟩ = false := by simp [ev, truth, evs, evNd]
theorem cnt_some_iff {n : Int} {a b : List Nd} (sa : Small a) (sb : Small b) (h : chk2 ⟨n, a⟩ ⟨n, b⟩ = 0) : (cntR ⟨n, a⟩ ⟨n, b⟩).isSome = true ↔ ∃ s, cex n a b s := by
  obtain ⟨ha, hb, _, _, _⟩ := chk2_ok h
  obtain ⟨h1, h2⟩ := cntL_spec ha hb sa sb
  unfold cntR
  rw [if_pos h]
  simp only
  cases hc : cntL n a b with
  | none => simp only [Option.isSome_none, Bool.false_eq_true, false_iff]; rintro ⟨s, hs⟩; exact h1 hc s hs
  | some m => simp only [Option.isSome_some, true_iff]; exact ⟨_, (h2 m hc).is⟩
theorem same_sides {s t : Nt} (h : chk2 s t = 0) (h' : chk2 t s = 0) : sameR s t = (!(cntR s t).isSome && !(cntR t s).isSome) := by
  have hn : s.n = t.n := (chk2_ok h).2.2.1
  unfold sameR cntR
  rw [decide_eq_true h, if_pos h, if_pos h', hn]
  cases cntL t.n s.l t.l <;> cases cntL t.n t.l s.l <;> rfl
theorem same_back {s t : Nt} (h : chk2 s t = 0) : sameR t s = sameR s t := by
  rw [same_sides h (chk2_symm h), same_sides (chk2_symm h) h, Bool.and_comm]
theorem same_self {n : Int} {l : List Nd} (sl : Small l) (h : chk2 ⟨n, l⟩ ⟨n, l⟩ = 0) : sameR ⟨n, l⟩ ⟨n, l⟩ = true := by
  rw [same_sides h h]
  cases hc : (cntR ⟨n, l⟩ ⟨n, l⟩).isSome with
  | false => rfl
  | true =>
    obtain ⟨s, h1, h2⟩ := (cnt_some_iff sl sl h).1 hc
    rw [h1] at h2; simp at h2
theorem cons_side {n : Int} {l : List Nd} {u : Nt} (sl : Small l) (h : chk2 ⟨n, l⟩ u = 0) : consR ⟨n, l⟩ = (cntR ⟨n, l⟩ ⟨n, [⟨0, 0, []⟩]⟩).isSome := by
  rw [Bool.eq_iff_iff, cons_iff (chk2_one h), cnt_some_iff sl (true_small 0) (chk2_flat h 0 (.inl rfl)).1]
  exact ⟨fun ⟨s, hs⟩ => ⟨s, hs, ev_false _ _⟩, fun ⟨s, hs, _⟩ => ⟨s, hs⟩⟩
theorem imp_side {n : Int} {l : List Nd} {u : Nt} (sl : Small l) (h : chk2 ⟨n, l⟩ u = 0) : impR ⟨n, l⟩ [] = !(cntR ⟨n, [⟨1, 0, []⟩]⟩ ⟨n, l⟩).isSome := by
  rw [Bool.eq_iff_iff, imp_iffL sl (chk2_one h), Bool.not_eq_true', ← Bool.not_eq_true, cnt_some_iff (true_small 1) sl (chk2_flat h 1 (.inr rfl)).2]
  constructor
  · rintro hr ⟨s, _, hs⟩
    rw [hr s rfl] at hs; simp at hs
  · intro hn s _
    cases he : ev s ⟨n, l⟩ with
    | true => rfl
    | false => exact absurd ⟨s, ev_true _ _, he⟩ hn
end Go.Proofs.YteoopkogpjhneaaDoor

/- Plain: what the functions answer on the chapter's examples. -/
namespace Go.Proofs.YteoopkogpjhneaaDoor
open Cen
def bothN : List Nd := [⟨2, 1, []⟩, ⟨2, -1, []⟩, ⟨4, 0, [0, 1]⟩]
def twiceN : List Nd := [⟨2, 1, []⟩, ⟨3, 0, [0, 0]⟩]
def trueN : List Nd := [⟨1, 0, []⟩]
theorem both_small : Small bothN := ⟨by decide, by intro y hy; simp [bothN] at hy; rcases hy with rfl | rfl | rfl <;> decide⟩
theorem twice_small : Small twiceN := ⟨by decide, by intro y hy; simp [twiceN] at hy; rcases hy with rfl | rfl <;> decide⟩
theorem ev_both (s : Int → Bool) : ev s ⟨2, bothN⟩ = true := by
  simp [ev, truth, bothN, evs, evNd, at', holds, litVar]
theorem chk_both : chkR [] ⟨2, bothN⟩ = 0 := by decide +kernel
theorem chk_or1 : chkR [1] ⟨2, orN⟩ = 0 := by decide +kernel
theorem chk_or1n : chkR [1, -1] ⟨2, orN⟩ = 0 := by decide +kernel
theorem chk_twice : chkR [] ⟨2, twiceN⟩ = 210 := by decide +kernel
theorem chk_twice3 : chkR [3] ⟨2, twiceN⟩ = 1 := by decide +kernel
theorem chk_or3 : chk2 ⟨2, orN⟩ ⟨3, orN⟩ = 1 := by decide +kernel
theorem chk_empty : chkR [] ⟨0, []⟩ = 1 := by decide +kernel
theorem chk_ort : chk2 ⟨2, orN⟩ ⟨2, twiceN⟩ = 210 := by decide +kernel
theorem chk_bt : chk2 ⟨2, bothN⟩ ⟨2, trueN⟩ = 0 := by decide +kernel
theorem chk_t0 : chkR [] ⟨0, trueN⟩ = 0 := by decide +kernel
theorem imp_both : impR ⟨2, bothN⟩ [] = true := (imp_iffL both_small chk_both).2 fun s _ => ev_both s
theorem ent_or1 : entR ⟨2, orN⟩ [1] = false := by
  rw [Bool.eq_false_iff]
  intro h
  have := (ent_iff chk_or1).1 h (fun v => decide (v = 2)) (by rw [ev_or]; rfl)
  simp [anyL, holds, litVar] at this
theorem ent_or1n : entR ⟨2, orN⟩ [1, -1] = true := by
  unfold entR; rw [decide_eq_true chk_or1n, show clash [1, -1] = true from rfl]; rfl
theorem imp_or1n : impR ⟨2, orN⟩ [1, -1] = true := by
  unfold impR; rw [decide_eq_true chk_or1n, show clash [1, -1] = true from rfl]; rfl
theorem cons_twice : consR ⟨2, twiceN⟩ = false := by unfold consR; rw [chk_twice]; rfl
theorem ent_twice : entR ⟨2, twiceN⟩ [3] = false := by unfold entR; rw [chk_twice3]; rfl
theorem same_or3 : sameR ⟨2, orN⟩ ⟨3, orN⟩ = false := by unfold sameR; rw [chk_or3]; rfl
theorem cons_empty : consR ⟨0, []⟩ = false := by unfold consR; rw [chk_empty]; rfl
theorem same_ort : sameR ⟨2, orN⟩ ⟨2, twiceN⟩ = false := by unfold sameR; rw [chk_ort]; rfl
theorem same_bt : sameR ⟨2, bothN⟩ ⟨2, trueN⟩ = true := by
  rw [same_sides chk_bt (chk2_symm chk_bt)]
  have h1 : (cntR ⟨2, bothN⟩ ⟨2, trueN⟩).isSome = false := by
    rw [Bool.eq_false_iff]; intro h
    obtain ⟨s, _, h2⟩ := (cnt_some_iff both_small (true_small 1) chk_bt).1 h
    rw [ev_true] at h2; simp at h2
  have h2 : (cntR ⟨2, trueN⟩ ⟨2, bothN⟩).isSome = false := by
    rw [Bool.eq_false_iff]; intro h
    obtain ⟨s, _, h2⟩ := (cnt_some_iff (true_small 1) both_small (chk2_symm chk_bt)).1 h
    rw [ev_both] at h2; simp at h2
  rw [h1, h2]; rfl
theorem cons_t0 : consR ⟨0, trueN⟩ = true := (cons_iff chk_t0).2 ⟨fun _ => true, ev_true _ 0⟩
theorem imp_t0 : impR ⟨0, trueN⟩ [] = true := (imp_iffL (true_small 1) chk_t0).2 fun s _ => ev_true s 0
end Go.Proofs.YteoopkogpjhneaaDoor

/- The walk of the law's own function flat. -/
namespace Go.Proofs.YteoopkogpjhneaaDoor
open Go.RowKit Cen
set_option maxHeartbeats 4000000
set_option maxRecDepth 100000
theorem lflat_any (n kind : Int) (w : World) :
    Calls Tryd.prog 12 #[.int .i64 n, .int .i64 kind] w fun e w' => ∃ b, e = .returned (.agg #[.int .i64 n, .slice (some ⟨b, 0, none⟩) 1 1]) ∧ NdCells w' (some ⟨b, 0, none⟩) [⟨kind, 0, []⟩] ∧ Below w.heap.size w w' := by
  go_enter Tryd.func12, Tryd.ntmps12
  go_wp2
  refine bodyPost_ret (v := .agg #[.int .i64 n, .slice (some ⟨w.heap.size + 1, 0, none⟩) 1 1]) (by simp [results, Tryd.results12, go_sem]) rfl ⟨w.heap.size + 1, rfl, ?_, ((Below.refl _ _).alloc (Nat.le_refl _) _).alloc (by simp) _⟩
  intro i hi
  have : i = 0 := by simpa using hi
  subst this
  refine ⟨_, _, rfl, ?_⟩
  have hc : ∀ j, ((w.alloc (.cells #[.int .i64 n, .slice (some ⟨w.heap.size + 1, 0, none⟩) 1 1] 25)).alloc (.cells #[.int .i64 kind, .int .i64 0, .slice none 0 0] 28)).cell? ⟨w.heap.size + 1, j, none⟩ = (#[.int .i64 kind, .int .i64 0, .slice none 0 0] : Array Value)[j]? := by
    intro j; rw [World.cell?_alloc_at _ _ _ _ (by simp)]
  refine ⟨hc 0, hc 1, none, 0, hc 2, IntCells.nil _ _, by simp⟩
end Go.Proofs.YteoopkogpjhneaaDoor

/- The walk of QueryKnown. -/
namespace Go.Proofs.YteoopkogpjhneaaDoor
open Go.RowKit Cen
set_option maxHeartbeats 4000000
set_option maxRecDepth 100000
theorem up0 {w W w' : World} (h : Below w.heap.size w W) (hb : Below W.heap.size W w') : Below w.heap.size w w' := h.trans (hb.mono h.size)
theorem up1 {w W w' : World} {o : Obj} (h : Below w.heap.size w W) (hb : Below (W.alloc o).heap.size (W.alloc o) w') : Below w.heap.size w w' := up0 (h.alloc h.size o) hb
theorem up3 {w W w' : World} {o p q : Obj} (h : Below w.heap.size w W) (hb : Below (((W.alloc o).alloc p).alloc q).heap.size (((W.alloc o).alloc p).alloc q) w') : Below w.heap.size w w' := by
  have z := h.size
  exact up0 (((h.alloc z o).alloc (by simp only [World.size_alloc]; omega) p).alloc (by simp only [World.size_alloc]; omega) q) hb
theorem klit_any (x : Int) (w : World) : Calls Tryd.prog 14 #[.int .i64 x] w fun e w' => e = .returned (.agg #[.int .i64 2, .int .i64 x, .slice none 0 0]) ∧ Below w.heap.size w w' := by
  go_enter Tryd.func14, Tryd.ntmps14
  go_wp2
  exact bodyPost_ret (v := .agg #[.int .i64 2, .int .i64 x, .slice none 0 0]) (by simp [results, Tryd.results14, go_sem]) rfl ⟨rfl, (Below.refl _ _).alloc (Nat.le_refl _) _⟩
theorem callable_klit : Callable 14 := fun _ _ => by kernel_rfl
theorem both_cells {W : World} {g i : Nat} (hb : Blk W g #[.int .i64 2, .int .i64 1, .slice none 0 0, .int .i64 2, .int .i64 (-1), .slice none 0 0, .int .i64 4, .int .i64 0, .slice (some ⟨i, 0, none⟩) 2 2] 28) (hi : Blk W i #[.int .i64 0, .int .i64 1] 3) : NdCells W (some ⟨g, 0, none⟩) bothN := by
  intro k hlt
  have h3 : k = 0 ∨ k = 1 ∨ k = 2 := by simp [bothN] at hlt; omega
  rcases h3 with rfl | rfl | rfl
  · exact ⟨_, _, rfl, hb.cell 0, hb.cell 1, none, 0, hb.cell 2, IntCells.nil _ _, by simp [bothN]⟩
  · exact ⟨_, _, rfl, hb.cell 3, hb.cell 4, none, 0, hb.cell 5, IntCells.nil _ _, by simp [bothN]⟩
  · refine ⟨_, _, rfl, hb.cell 6, hb.cell 7, some ⟨i, 0, none⟩, 2, hb.cell 8, ?_, by simp [bothN]⟩
    intro j hj
    have h2 : j = 0 ∨ j = 1 := by simp [bothN] at hj; omega
    rcases h2 with rfl | rfl
    · exact ⟨_, _, rfl, hi.cell 0⟩
    · exact ⟨_, _, rfl, hi.cell 1⟩
theorem twice_cells {W : World} {g i : Nat} (hb : Blk W g #[.int .i64 2, .int .i64 1, .slice none 0 0, .int .i64 3, .int .i64 0, .slice (some ⟨i, 0, none⟩) 2 2] 28) (hi : Blk W i #[.int .i64 0, .int .i64 0] 3) : NdCells W (some ⟨g, 0, none⟩) twiceN := by
  intro k hlt
  have h3 : k = 0 ∨ k = 1 := by simp [twiceN] at hlt; omega
  rcases h3 with rfl | rfl
  · exact ⟨_, _, rfl, hb.cell 0, hb.cell 1, none, 0, hb.cell 2, IntCells.nil _ _, by simp [twiceN]⟩
  · refine ⟨_, _, rfl, hb.cell 3, hb.cell 4, some ⟨i, 0, none⟩, 2, hb.cell 5, ?_, by simp [twiceN]⟩
    intro j hj
    have h2 : j = 0 ∨ j = 1 := by simp [twiceN] at hj; omega
    rcases h2 with rfl | rfl
    · exact ⟨_, _, rfl, hi.cell 0⟩
    · exact ⟨_, _, rfl, hi.cell 1⟩
theorem ints_two {W : World} {b : Nat} {x y : Int} (hk : Blk W b #[.int .i64 x, .int .i64 y] 3) : IntCells W (some ⟨b, 0, none⟩) [x, y] := by
  intro j hj
  have h2 : j = 0 ∨ j = 1 := by simp at hj; omega
  rcases h2 with rfl | rfl
  · exact ⟨_, _, rfl, hk.cell 0⟩
  · exact ⟨_, _, rfl, hk.cell 1⟩
theorem zero_small : Small [] := ⟨by simp, by simp⟩
theorem cheap2 {n : Int} (hn : n ≤ 20) {a b : List Nd} {m : Int} : cntCost ⟨n, a⟩ ⟨m, b⟩ ∧ (chk2 ⟨n, a⟩ ⟨m, b⟩ = 0 → costP n n.toNat (gvL n [] b) (gvL n [] a) ≤ 1000000000) := ⟨fun _ => cheap_cost hn _ _, fun _ => cheap_cost hn _ _⟩
theorem known_any (w : World) (ht : Tab w) : Calls Tryd.prog 4 #[] w fun e w' => e = .returned (.bool true) ∧ Below w.heap.size w w' := by
  have HT := Lib.hid ht
  have HW := Lib.hid (fun V (hb : Below w.heap.size w V) => works_any V (ht.keep hb))
  clear ht
  have hcf : ∀ (args : Array Value) (w : World), (callFunc 14 args).run Tryd.prog w = .ok (.enter 14 args) w := callable_klit
  have hol : orN.length = 3 := rfl
  have hnl : bothN.length = 3 := rfl
  have htl : twiceN.length = 2 := rfl
  have H4 : Hid (∀ (V : World), Below w.heap.size w V → ∀ (g : Nat), NdCells V (some ⟨g, 0, none⟩) bothN → Calls Tryd.prog 9 #[.agg #[.int .i64 2, .slice (some ⟨g, 0, none⟩) 3 3]] V fun e w' => e = .returned (.tuple #[.bool true, .int .i64 0]) ∧ Below V.heap.size V w') := Lib.hid fun V hV g hg => by
    have h := valid_any 2 (some ⟨g, 0, none⟩) 3 bothN V hg (by decide) (fun _ => both_small) (fun _ _ => cheap_cost (by decide) _ _) (HT.out.keep hV)
    rw [imp_both, chk_both] at h; exact h
  have H6 : Hid (∀ (V : World), Below w.heap.size w V → ∀ (g : Nat) (c : Nat), NdCells V (some ⟨g, 0, none⟩) orN → IntCells V (some ⟨c, 0, none⟩) [1] → Calls Tryd.prog 7 #[.agg #[.int .i64 2, .slice (some ⟨g, 0, none⟩) 3 3], .slice (some ⟨c, 0, none⟩) 1 1] V fun e w' => e = .returned (.tuple #[.bool false, .int .i64 0]) ∧ Below V.heap.size V w') := Lib.hid fun V hV g c hg hc => by
    have h := entails_any 2 (some ⟨g, 0, none⟩) 3 orN (some ⟨c, 0, none⟩) 1 [1] V hg (by decide) hc (by decide) (fun _ => or_small) (HT.out.keep hV)
    rw [ent_or1, chk_or1] at h; exact h
  have H8 : Hid (∀ (V : World), Below w.heap.size w V → ∀ (g : Nat) (c : Nat), NdCells V (some ⟨g, 0, none⟩) orN → IntCells V (some ⟨c, 0, none⟩) [1, -1] → Calls Tryd.prog 7 #[.agg #[.int .i64 2, .slice (some ⟨g, 0, none⟩) 3 3], .slice (some ⟨c, 0, none⟩) 2 2] V fun e w' => e = .returned (.tuple #[.bool true, .int .i64 0]) ∧ Below V.heap.size V w') := Lib.hid fun V hV g c hg hc => by
    have h := entails_any 2 (some ⟨g, 0, none⟩) 3 orN (some ⟨c, 0, none⟩) 2 [1, -1] V hg (by decide) hc (by decide) (fun _ => or_small) (HT.out.keep hV)
    rw [ent_or1n, chk_or1n] at h; exact h
  have H10 : Hid (∀ (V : World), Below w.heap.size w V → ∀ (g : Nat), NdCells V (some ⟨g, 0, none⟩) orN → Calls Tryd.prog 8 #[.agg #[.int .i64 2, .slice (some ⟨g, 0, none⟩) 3 3], .slice none 0 0] V fun e w' => e = .returned (.tuple #[.bool false, .int .i64 0]) ∧ Below V.heap.size V w') := Lib.hid fun V hV g hg => by
    have h := implies_any 2 (some ⟨g, 0, none⟩) 3 orN none 0 [] V hg (by decide) (IntCells.nil _ _) (by decide) (fun _ => or_small) (fun _ _ => cheap_cost (by decide) _ _) (HT.out.keep hV)
    rw [imp_or, chk_or] at h; exact h
  have H12 : Hid (∀ (V : World), Below w.heap.size w V → ∀ (g : Nat) (c : Nat), NdCells V (some ⟨g, 0, none⟩) orN → IntCells V (some ⟨c, 0, none⟩) [1, -1] → Calls Tryd.prog 8 #[.agg #[.int .i64 2, .slice (some ⟨g, 0, none⟩) 3 3], .slice (some ⟨c, 0, none⟩) 2 2] V fun e w' => e = .returned (.tuple #[.bool true, .int .i64 0]) ∧ Below V.heap.size V w') := Lib.hid fun V hV g c hg hc => by
    have h := implies_any 2 (some ⟨g, 0, none⟩) 3 orN (some ⟨c, 0, none⟩) 2 [1, -1] V hg (by decide) hc (by decide) (fun _ => or_small) (fun _ _ => cheap_cost (by decide) _ _) (HT.out.keep hV)
    rw [imp_or1n, chk_or1n] at h; exact h
  have H13 : Hid (∀ (V : World), Below w.heap.size w V → ∀ (g : Nat), NdCells V (some ⟨g, 0, none⟩) twiceN → Calls Tryd.prog 6 #[.agg #[.int .i64 2, .slice (some ⟨g, 0, none⟩) 2 2]] V fun e w' => e = .returned (.tuple #[.bool false, .int .i64 210]) ∧ Below V.heap.size V w') := Lib.hid fun V hV g hg => by
    have h := consistent_any 2 (some ⟨g, 0, none⟩) 2 twiceN V hg (by decide) (fun _ => twice_small) (HT.out.keep hV)
    rw [cons_twice, chk_twice] at h; exact h
  have H14 : Hid (∀ (V : World), Below w.heap.size w V → ∀ (g : Nat) (c : Nat), NdCells V (some ⟨g, 0, none⟩) twiceN → IntCells V (some ⟨c, 0, none⟩) [3] → Calls Tryd.prog 7 #[.agg #[.int .i64 2, .slice (some ⟨g, 0, none⟩) 2 2], .slice (some ⟨c, 0, none⟩) 1 1] V fun e w' => e = .returned (.tuple #[.bool false, .int .i64 1]) ∧ Below V.heap.size V w') := Lib.hid fun V hV g c hg hc => by
    have h := entails_any 2 (some ⟨g, 0, none⟩) 2 twiceN (some ⟨c, 0, none⟩) 1 [3] V hg (by decide) hc (by decide) (fun _ => twice_small) (HT.out.keep hV)
    rw [ent_twice, chk_twice3] at h; exact h
  have H17 : Hid (∀ (V : World), Below w.heap.size w V → ∀ (g : Nat) (k : Nat), NdCells V (some ⟨g, 0, none⟩) orN → NdCells V (some ⟨k, 0, none⟩) orN → Calls Tryd.prog 10 #[.agg #[.int .i64 2, .slice (some ⟨g, 0, none⟩) 3 3], .agg #[.int .i64 3, .slice (some ⟨k, 0, none⟩) 3 3]] V fun e w' => e = .returned (.tuple #[.bool false, .int .i64 1]) ∧ Below V.heap.size V w') := Lib.hid fun V hV g k hg hk => by
    have h := same2_any 2 3 (some ⟨g, 0, none⟩) (some ⟨k, 0, none⟩) 3 3 orN orN V hg hk (by decide) (by decide) (fun _ => or_small) (fun _ => or_small) (cheap2 (by decide)) (HT.out.keep hV)
    rw [same_or3, chk_or3] at h; exact h
  have H18 : Hid (∀ (V : World), Below w.heap.size w V → Calls Tryd.prog 6 #[.agg #[.int .i64 0, .slice none 0 0]] V fun e w' => e = .returned (.tuple #[.bool false, .int .i64 1]) ∧ Below V.heap.size V w') := Lib.hid fun V hV  => by
    have h := consistent_any 0 none 0 [] V (fun i hi => absurd hi (Nat.not_lt_zero _)) (by decide) (fun _ => zero_small) (HT.out.keep hV)
    rw [cons_empty, chk_empty] at h; exact h
  have H20 : Hid (∀ (V : World), Below w.heap.size w V → ∀ (g : Nat) (k : Nat), NdCells V (some ⟨g, 0, none⟩) orN → NdCells V (some ⟨k, 0, none⟩) twiceN → Calls Tryd.prog 10 #[.agg #[.int .i64 2, .slice (some ⟨g, 0, none⟩) 3 3], .agg #[.int .i64 2, .slice (some ⟨k, 0, none⟩) 2 2]] V fun e w' => e = .returned (.tuple #[.bool false, .int .i64 210]) ∧ Below V.heap.size V w') := Lib.hid fun V hV g k hg hk => by
    have h := same2_any 2 2 (some ⟨g, 0, none⟩) (some ⟨k, 0, none⟩) 3 2 orN twiceN V hg hk (by decide) (by decide) (fun _ => or_small) (fun _ => twice_small) (cheap2 (by decide)) (HT.out.keep hV)
    rw [same_ort, chk_ort] at h; exact h
  have H22 : Hid (∀ (V : World), Below w.heap.size w V → ∀ (g : Nat) (k : Nat), NdCells V (some ⟨g, 0, none⟩) bothN → NdCells V (some ⟨k, 0, none⟩) trueN → Calls Tryd.prog 10 #[.agg #[.int .i64 2, .slice (some ⟨g, 0, none⟩) 3 3], .agg #[.int .i64 2, .slice (some ⟨k, 0, none⟩) 1 1]] V fun e w' => e = .returned (.tuple #[.bool true, .int .i64 0]) ∧ Below V.heap.size V w') := Lib.hid fun V hV g k hg hk => by
    have h := same2_any 2 2 (some ⟨g, 0, none⟩) (some ⟨k, 0, none⟩) 3 1 bothN trueN V hg hk (by decide) (by decide) (fun _ => both_small) (fun _ => true_small 1) (cheap2 (by decide)) (HT.out.keep hV)
    rw [same_bt, chk_bt] at h; exact h
  have H24 : Hid (∀ (V : World), Below w.heap.size w V → ∀ (g : Nat), NdCells V (some ⟨g, 0, none⟩) trueN → Calls Tryd.prog 6 #[.agg #[.int .i64 0, .slice (some ⟨g, 0, none⟩) 1 1]] V fun e w' => e = .returned (.tuple #[.bool true, .int .i64 0]) ∧ Below V.heap.size V w') := Lib.hid fun V hV g hg => by
    have h := consistent_any 0 (some ⟨g, 0, none⟩) 1 trueN V hg (by decide) (fun _ => true_small 1) (HT.out.keep hV)
    rw [cons_t0, chk_t0] at h; exact h
  have H26 : Hid (∀ (V : World), Below w.heap.size w V → ∀ (g : Nat), NdCells V (some ⟨g, 0, none⟩) trueN → Calls Tryd.prog 9 #[.agg #[.int .i64 0, .slice (some ⟨g, 0, none⟩) 1 1]] V fun e w' => e = .returned (.tuple #[.bool true, .int .i64 0]) ∧ Below V.heap.size V w') := Lib.hid fun V hV g hg => by
    have h := valid_any 0 (some ⟨g, 0, none⟩) 1 trueN V hg (by decide) (fun _ => true_small 1) (fun _ _ => cheap_cost (by decide) _ _) (HT.out.keep hV)
    rw [imp_t0, chk_t0] at h; exact h
  clear hol hnl htl
  have hfd : ∀ (g : Nat) (w : World), (Instr.field 25 (.agg #[.int .i64 2, .slice (some ⟨g, 0, none⟩) 3 3]) 1).run Tryd.prog w = .ok (.slice (some ⟨g, 0, none⟩) 3 3) w := fun _ _ => by kernel_rfl
  go_enter Tryd.func4, Tryd.ntmps4
  go_wp2_with fail
  refine (klit_any 1 _).mono ?_
  rintro e w1 ⟨rfl, hb1⟩
  have B1 := Lib.hid (up0 (Below.refl w.heap.size w) hb1)
  clear hb1
  go_wp2_with fail
  refine (klit_any (-1) _).mono ?_
  rintro e w2 ⟨rfl, hb2⟩
  have B2 := Lib.hid (up0 B1.out hb2)
  clear hb2
  go_wp2_with fail
  refine (klit_any 1 _).mono ?_
  rintro e w3 ⟨rfl, hb3⟩
  have B3 := Lib.hid (up3 B2.out hb3)
  have QB3 := Lib.hid ((Blk.new' ((w2.alloc (.cells #[.int .i64 0, .int .i64 1] 3)).alloc (.cells #[.int .i64 2, .int .i64 1, .slice none 0 0, .int .i64 2, .int .i64 (-1), .slice none 0 0, .int .i64 4, .int .i64 0, .slice (some ⟨w2.heap.size, 0, none⟩) 2 2] 28)) (by simp only [World.size_alloc]) #[.int .i64 2, .slice (some ⟨w2.heap.size + 1, 0, none⟩) 3 3] 25).later hb3 : Blk w3 (w2.heap.size + 1 + 1) #[.int .i64 2, .slice (some ⟨w2.heap.size + 1, 0, none⟩) 3 3] 25)
  have NB3 := Lib.hid (both_cells (g := w2.heap.size + 1) (((Blk.new' (w2.alloc (.cells #[.int .i64 0, .int .i64 1] 3)) (by simp only [World.size_alloc]) #[.int .i64 2, .int .i64 1, .slice none 0 0, .int .i64 2, .int .i64 (-1), .slice none 0 0, .int .i64 4, .int .i64 0, .slice (some ⟨w2.heap.size, 0, none⟩) 2 2] 28).alloc (.cells #[.int .i64 2, .slice (some ⟨w2.heap.size + 1, 0, none⟩) 3 3] 25)).later hb3) ((((Blk.new w2 #[.int .i64 0, .int .i64 1] 3).alloc (.cells #[.int .i64 2, .int .i64 1, .slice none 0 0, .int .i64 2, .int .i64 (-1), .slice none 0 0, .int .i64 4, .int .i64 0, .slice (some ⟨w2.heap.size, 0, none⟩) 2 2] 28)).alloc (.cells #[.int .i64 2, .slice (some ⟨w2.heap.size + 1, 0, none⟩) 3 3] 25)).later hb3))
  have z3 : w2.heap.size + 1 + 1 < w3.heap.size := QB3.out.lt
  have z3a : w2.heap.size < w3.heap.size := by omega
  have z3b : w2.heap.size + 1 < w3.heap.size := by omega
  have c0 : w3.cell? ⟨w2.heap.size + 1 + 1, 0, none⟩ = some (.int .i64 2) := QB3.out.cell 0
  have c1 : w3.cell? ⟨w2.heap.size + 1 + 1, 1, none⟩ = some (.slice (some ⟨w2.heap.size + 1, 0, none⟩) 3 3) := QB3.out.cell 1
  clear hb3
  have NBU := Lib.hid (NB3.out.keep ((((Below.refl w3.heap.size w3).alloc (Nat.le_refl _) (.cells #[.int .i64 0, .int .i64 0] 3)).alloc (by simp only [World.size_alloc]; omega) (.cells #[.int .i64 2, .int .i64 1, .slice none 0 0, .int .i64 3, .int .i64 0, .slice (some ⟨w3.heap.size, 0, none⟩) 2 2] 28)).alloc (by simp only [World.size_alloc]; omega) (.cells #[.int .i64 2, .slice (some ⟨w3.heap.size + 1, 0, none⟩) 2 2] 25)))
  have BU : Hid (Below w.heap.size w ((((w3).alloc (.cells #[.int .i64 0, .int .i64 0] 3)).alloc (.cells #[.int .i64 2, .int .i64 1, .slice none 0 0, .int .i64 3, .int .i64 0, .slice (some ⟨w3.heap.size, 0, none⟩) 2 2] 28)).alloc (.cells #[.int .i64 2, .slice (some ⟨w3.heap.size + 1, 0, none⟩) 2 2] 25))) := Lib.hid (by have z := B3.out.size; exact ((B3.out.alloc z _).alloc (by simp only [World.size_alloc]; omega) _).alloc (by simp only [World.size_alloc]; omega) _)
  go_wp2_with fail
  refine (H4.out _ BU.out _ NBU.out).mono ?_
  rintro e w4 ⟨rfl, hb4⟩
  have B4 := Lib.hid (up3 B3.out hb4)
  clear c0 c1 z3 z3a z3b
  have QB4 := Lib.hid ((((QB3.out.alloc _).alloc _).alloc _).later hb4)
  have NB4 := Lib.hid (NBU.out.keep hb4)
  have QT4 := Lib.hid ((Blk.new' ((w3.alloc (.cells #[.int .i64 0, .int .i64 0] 3)).alloc (.cells #[.int .i64 2, .int .i64 1, .slice none 0 0, .int .i64 3, .int .i64 0, .slice (some ⟨w3.heap.size, 0, none⟩) 2 2] 28)) (by simp only [World.size_alloc]) #[.int .i64 2, .slice (some ⟨w3.heap.size + 1, 0, none⟩) 2 2] 25).later hb4 : Blk w4 (w3.heap.size + 1 + 1) #[.int .i64 2, .slice (some ⟨w3.heap.size + 1, 0, none⟩) 2 2] 25)
  have NT4 := Lib.hid (twice_cells (g := w3.heap.size + 1) (((Blk.new' (w3.alloc (.cells #[.int .i64 0, .int .i64 0] 3)) (by simp only [World.size_alloc]) #[.int .i64 2, .int .i64 1, .slice none 0 0, .int .i64 3, .int .i64 0, .slice (some ⟨w3.heap.size, 0, none⟩) 2 2] 28).alloc (.cells #[.int .i64 2, .slice (some ⟨w3.heap.size + 1, 0, none⟩) 2 2] 25)).later hb4) ((((Blk.new w3 #[.int .i64 0, .int .i64 0] 3).alloc (.cells #[.int .i64 2, .int .i64 1, .slice none 0 0, .int .i64 3, .int .i64 0, .slice (some ⟨w3.heap.size, 0, none⟩) 2 2] 28)).alloc (.cells #[.int .i64 2, .slice (some ⟨w3.heap.size + 1, 0, none⟩) 2 2] 25)).later hb4))
  clear QB3 NB3 NBU BU
  clear hb4
  go_wp2_with fail
  refine (or_any _).mono ?_
  rintro e w5 ⟨g5, rfl, hx5, hb5⟩
  have B5 := Lib.hid (up0 B4.out hb5)
  have QB5 := Lib.hid (QB4.out.later hb5)
  have NB5 := Lib.hid (NB4.out.keep hb5)
  have QT5 := Lib.hid (QT4.out.later hb5)
  have NT5 := Lib.hid (NT4.out.keep hb5)
  clear QB4 NB4 QT4 NT4
  have X5 := Lib.hid hx5
  clear hx5
  clear hb5
  have I5 : Hid (IntCells (w5.alloc (.cells #[.int .i64 1] 3)) (some ⟨w5.heap.size, 0, none⟩) [1]) := IntCells.one (Blk.new _ _ _)
  have BA5 : Hid (Below w.heap.size w (w5.alloc (.cells #[.int .i64 1] 3))) := B5.out.alloc B5.out.size _
  go_wp2_with fail
  refine (H6.out _ BA5.out _ _ (X5.out.keep ((Below.refl _ _).alloc (Nat.le_refl _) _)) I5.out).mono ?_
  rintro e w6 ⟨rfl, hb6⟩
  have B6 := Lib.hid (up1 B5.out hb6)
  have QB6 := Lib.hid ((QB5.out.alloc _).later hb6)
  have NB6 := Lib.hid ((NB5.out.keep ((Below.refl _ _).alloc (Nat.le_refl _) _)).keep hb6)
  have QT6 := Lib.hid ((QT5.out.alloc _).later hb6)
  have NT6 := Lib.hid ((NT5.out.keep ((Below.refl _ _).alloc (Nat.le_refl _) _)).keep hb6)
  clear QB5 NB5 QT5 NT5
  clear hb6
  go_wp2_with fail
  refine (or_any _).mono ?_
  rintro e w7 ⟨g7, rfl, hx7, hb7⟩
  have B7 := Lib.hid (up0 B6.out hb7)
  have QB7 := Lib.hid (QB6.out.later hb7)
  have NB7 := Lib.hid (NB6.out.keep hb7)
  have QT7 := Lib.hid (QT6.out.later hb7)
  have NT7 := Lib.hid (NT6.out.keep hb7)
  clear QB6 NB6 QT6 NT6
  have X7 := Lib.hid hx7
  clear hx7
  clear hb7
  have I7 : Hid (IntCells (w7.alloc (.cells #[.int .i64 1, .int .i64 (-1)] 3)) (some ⟨w7.heap.size, 0, none⟩) [1, -1]) := ints_two (Blk.new _ _ _)
  have BA7 : Hid (Below w.heap.size w (w7.alloc (.cells #[.int .i64 1, .int .i64 (-1)] 3))) := B7.out.alloc B7.out.size _
  go_wp2_with fail
  refine (H8.out _ BA7.out _ _ (X7.out.keep ((Below.refl _ _).alloc (Nat.le_refl _) _)) I7.out).mono ?_
  rintro e w8 ⟨rfl, hb8⟩
  have B8 := Lib.hid (up1 B7.out hb8)
  have QB8 := Lib.hid ((QB7.out.alloc _).later hb8)
  have NB8 := Lib.hid ((NB7.out.keep ((Below.refl _ _).alloc (Nat.le_refl _) _)).keep hb8)
  have QT8 := Lib.hid ((QT7.out.alloc _).later hb8)
  have NT8 := Lib.hid ((NT7.out.keep ((Below.refl _ _).alloc (Nat.le_refl _) _)).keep hb8)
  clear QB7 NB7 QT7 NT7
  clear hb8
  go_wp2_with fail
  refine (or_any _).mono ?_
  rintro e w9 ⟨g9, rfl, hx9, hb9⟩
  have B9 := Lib.hid (up0 B8.out hb9)
  have QB9 := Lib.hid (QB8.out.later hb9)
  have NB9 := Lib.hid (NB8.out.keep hb9)
  have QT9 := Lib.hid (QT8.out.later hb9)
  have NT9 := Lib.hid (NT8.out.keep hb9)
  clear QB8 NB8 QT8 NT8
  have X9 := Lib.hid hx9
  clear hx9
  clear hb9
  go_wp2_with fail
  refine (H10.out _ B9.out _ X9.out).mono ?_
  rintro e w10 ⟨rfl, hb10⟩
  have B10 := Lib.hid (up0 B9.out hb10)
  have QB10 := Lib.hid (QB9.out.later hb10)
  have NB10 := Lib.hid (NB9.out.keep hb10)
  have QT10 := Lib.hid (QT9.out.later hb10)
  have NT10 := Lib.hid (NT9.out.keep hb10)
  clear QB9 NB9 QT9 NT9
  clear hb10
  go_wp2_with fail
  refine (or_any _).mono ?_
  rintro e w11 ⟨g11, rfl, hx11, hb11⟩
  have B11 := Lib.hid (up0 B10.out hb11)
  have QB11 := Lib.hid (QB10.out.later hb11)
  have NB11 := Lib.hid (NB10.out.keep hb11)
  have QT11 := Lib.hid (QT10.out.later hb11)
  have NT11 := Lib.hid (NT10.out.keep hb11)
  clear QB10 NB10 QT10 NT10
  have X11 := Lib.hid hx11
  clear hx11
  clear hb11
  have I11 : Hid (IntCells (w11.alloc (.cells #[.int .i64 1, .int .i64 (-1)] 3)) (some ⟨w11.heap.size, 0, none⟩) [1, -1]) := ints_two (Blk.new _ _ _)
  have BA11 : Hid (Below w.heap.size w (w11.alloc (.cells #[.int .i64 1, .int .i64 (-1)] 3))) := B11.out.alloc B11.out.size _
  go_wp2_with fail
  refine (H12.out _ BA11.out _ _ (X11.out.keep ((Below.refl _ _).alloc (Nat.le_refl _) _)) I11.out).mono ?_
  rintro e w12 ⟨rfl, hb12⟩
  have B12 := Lib.hid (up1 B11.out hb12)
  have QB12 := Lib.hid ((QB11.out.alloc _).later hb12)
  have NB12 := Lib.hid ((NB11.out.keep ((Below.refl _ _).alloc (Nat.le_refl _) _)).keep hb12)
  have QT12 := Lib.hid ((QT11.out.alloc _).later hb12)
  have NT12 := Lib.hid ((NT11.out.keep ((Below.refl _ _).alloc (Nat.le_refl _) _)).keep hb12)
  clear QB11 NB11 QT11 NT11
  have zb : w2.heap.size + 1 + 1 < w12.heap.size := QB12.out.lt
  have zt : w3.heap.size + 1 + 1 < w12.heap.size := QT12.out.lt
  have d0 : w12.cell? ⟨w3.heap.size + 1 + 1, 0, none⟩ = some (.int .i64 2) := QT12.out.cell 0
  have d1 : w12.cell? ⟨w3.heap.size + 1 + 1, 1, none⟩ = some (.slice (some ⟨w3.heap.size + 1, 0, none⟩) 2 2) := QT12.out.cell 1
  clear hb12
  go_wp2_with fail
  refine (H13.out _ B12.out _ NT12.out).mono ?_
  rintro e w13 ⟨rfl, hb13⟩
  have B13 := Lib.hid (up0 B12.out hb13)
  clear zb zt d0 d1
  have QB13 := Lib.hid (QB12.out.later hb13)
  have NB13 := Lib.hid (NB12.out.keep hb13)
  have QT13 := Lib.hid (QT12.out.later hb13)
  have NT13 := Lib.hid (NT12.out.keep hb13)
  clear QB12 NB12 QT12 NT12
  have zb : w2.heap.size + 1 + 1 < w13.heap.size := QB13.out.lt
  have zt : w3.heap.size + 1 + 1 < w13.heap.size := QT13.out.lt
  have d0 : w13.cell? ⟨w3.heap.size + 1 + 1, 0, none⟩ = some (.int .i64 2) := QT13.out.cell 0
  have d1 : w13.cell? ⟨w3.heap.size + 1 + 1, 1, none⟩ = some (.slice (some ⟨w3.heap.size + 1, 0, none⟩) 2 2) := QT13.out.cell 1
  clear hb13
  have I13 : Hid (IntCells (w13.alloc (.cells #[.int .i64 3] 3)) (some ⟨w13.heap.size, 0, none⟩) [3]) := IntCells.one (Blk.new _ _ _)
  have BA13 : Hid (Below w.heap.size w (w13.alloc (.cells #[.int .i64 3] 3))) := B13.out.alloc B13.out.size _
  go_wp2_with fail
  refine (H14.out _ BA13.out _ _ (NT13.out.keep ((Below.refl _ _).alloc (Nat.le_refl _) _)) I13.out).mono ?_
  rintro e w14 ⟨rfl, hb14⟩
  have B14 := Lib.hid (up1 B13.out hb14)
  clear zb zt d0 d1
  have QB14 := Lib.hid ((QB13.out.alloc _).later hb14)
  have NB14 := Lib.hid ((NB13.out.keep ((Below.refl _ _).alloc (Nat.le_refl _) _)).keep hb14)
  have QT14 := Lib.hid ((QT13.out.alloc _).later hb14)
  have NT14 := Lib.hid ((NT13.out.keep ((Below.refl _ _).alloc (Nat.le_refl _) _)).keep hb14)
  clear QB13 NB13 QT13 NT13
  clear hb14
  go_wp2_with fail
  refine (or_any _).mono ?_
  rintro e w15 ⟨g15, rfl, hx15, hb15⟩
  have B15 := Lib.hid (up0 B14.out hb15)
  have QB15 := Lib.hid (QB14.out.later hb15)
  have NB15 := Lib.hid (NB14.out.keep hb15)
  have QT15 := Lib.hid (QT14.out.later hb15)
  have NT15 := Lib.hid (NT14.out.keep hb15)
  clear QB14 NB14 QT14 NT14
  have X15 := Lib.hid hx15
  clear hx15
  clear hb15
  go_wp2_with fail
  refine (or_any _).mono ?_
  rintro e w16 ⟨g16, rfl, hx16, hb16⟩
  have B16 := Lib.hid (up0 B15.out hb16)
  have QB16 := Lib.hid (QB15.out.later hb16)
  have NB16 := Lib.hid (NB15.out.keep hb16)
  have QT16 := Lib.hid (QT15.out.later hb16)
  have NT16 := Lib.hid (NT15.out.keep hb16)
  clear QB15 NB15 QT15 NT15
  have X16 := Lib.hid hx16
  have X15' := Lib.hid (X15.out.keep hb16)
  clear hx16
  clear hb16
  go_wp2_with fail
  refine (H17.out _ B16.out _ _ X15'.out X16.out).mono ?_
  rintro e w17 ⟨rfl, hb17⟩
  have B17 := Lib.hid (up0 B16.out hb17)
  have QB17 := Lib.hid (QB16.out.later hb17)
  have NB17 := Lib.hid (NB16.out.keep hb17)
  have QT17 := Lib.hid (QT16.out.later hb17)
  have NT17 := Lib.hid (NT16.out.keep hb17)
  clear QB16 NB16 QT16 NT16
  clear hb17
  go_wp2_with fail
  refine (H18.out _ B17.out).mono ?_
  rintro e w18 ⟨rfl, hb18⟩
  have B18 := Lib.hid (up0 B17.out hb18)
  have QB18 := Lib.hid (QB17.out.later hb18)
  have NB18 := Lib.hid (NB17.out.keep hb18)
  have QT18 := Lib.hid (QT17.out.later hb18)
  have NT18 := Lib.hid (NT17.out.keep hb18)
  clear QB17 NB17 QT17 NT17
  have zb : w2.heap.size + 1 + 1 < w18.heap.size := QB18.out.lt
  have zt : w3.heap.size + 1 + 1 < w18.heap.size := QT18.out.lt
  have d0 : w18.cell? ⟨w3.heap.size + 1 + 1, 0, none⟩ = some (.int .i64 2) := QT18.out.cell 0
  have d1 : w18.cell? ⟨w3.heap.size + 1 + 1, 1, none⟩ = some (.slice (some ⟨w3.heap.size + 1, 0, none⟩) 2 2) := QT18.out.cell 1
  clear hb18
  go_upto_region 13 with fail
  have HKS : Hid (∀ w' : World, Below w18.heap.size w18 w' → w'.cell? ⟨w3.heap.size + 1 + 1, 0, none⟩ = some (.int .i64 2) ∧ w'.cell? ⟨w3.heap.size + 1 + 1, 1, none⟩ = some (.slice (some ⟨w3.heap.size + 1, 0, none⟩) 2 2) ∧ Below w18.heap.size w18 w') := Lib.hid fun w' hb => ⟨cell_keep hb d0, cell_keep hb d1, hb⟩
  go_cut [23] (fun sx wx => sx = .int .i64 210 ∧ Below w18.heap.size w18 wx)
  case first =>
    go_region_held3 (fun w' => w'.cell? ⟨w3.heap.size + 1 + 1, 0, none⟩ = some (.int .i64 2) ∧ w'.cell? ⟨w3.heap.size + 1 + 1, 1, none⟩ = some (.slice (some ⟨w3.heap.size + 1, 0, none⟩) 2 2) ∧ Below w18.heap.size w18 w')
      (first
        | exact HKS.out _ (by first | (with_reducible exact (Below.refl _ _).drew) | (with_reducible exact (last3 (by assumption))))
        | exact HKS.out _ hv7
        | exact HKS.out _ hv5)
      (first
        | (go_at_call 15
           refine (or_any _).mono ?_
           rintro e v5 ⟨b5, rfl, hf5, hb5⟩
           have hv5 : Below w18.heap.size w18 v5 := Below.trans (by first | (with_reducible exact (Below.refl _ _).drew) | (with_reducible exact (last3 (by assumption)))) (hb5.mono (Below.size (B := w18.heap.size) (w := w18) (by first | (with_reducible exact (Below.refl _ _).drew) | (with_reducible exact (last3 (by assumption)))))))
        | (go_at_call 10
           refine (H20.out _ (B18.out.trans (Below.mono (by first | (with_reducible exact (Below.refl _ _).drew) | (with_reducible exact (last3 (by assumption)))) B18.out.size)) b5 _ hf5 (NT18.out.keep (last3 (by assumption)))).mono ?_
           rintro e v7 ⟨rfl, hb7⟩
           have hv7 : Below w18.heap.size w18 v7 := Below.trans (by first | (with_reducible exact (Below.refl _ _).drew) | (with_reducible exact (last3 (by assumption)))) (hb7.mono (Below.size (B := w18.heap.size) (w := w18) (by first | (with_reducible exact (Below.refl _ _).drew) | (with_reducible exact (last3 (by assumption))))))))
    all_goals (go_wp2_with fail; go_meet; exact ⟨rfl, last3 (by assumption)⟩)
  case rest =>
    clear zb zt d0 d1 HKS
    obtain ⟨rfl, hb19⟩ := hcut
    obtain ⟨w19, rfl⟩ : ∃ w19 : World, w19 = wc := ⟨_, rfl⟩
    have B19 := Lib.hid (up0 B18.out hb19)
    have QB19 := Lib.hid (QB18.out.later hb19)
    have NB19 := Lib.hid (NB18.out.keep hb19)
    have QT19 := Lib.hid (QT18.out.later hb19)
    have NT19 := Lib.hid (NT18.out.keep hb19)
    clear QB18 NB18 QT18 NT18
    clear hb19
    have zb : w2.heap.size + 1 + 1 < w19.heap.size := QB19.out.lt
    have zt : w3.heap.size + 1 + 1 < w19.heap.size := QT19.out.lt
    have c0 : w19.cell? ⟨w2.heap.size + 1 + 1, 0, none⟩ = some (.int .i64 2) := QB19.out.cell 0
    have c1 : w19.cell? ⟨w2.heap.size + 1 + 1, 1, none⟩ = some (.slice (some ⟨w2.heap.size + 1, 0, none⟩) 3 3) := QB19.out.cell 1
    go_upto_region 14 with fail
    have HKS : Hid (∀ w' : World, Below w19.heap.size w19 w' → w'.cell? ⟨w2.heap.size + 1 + 1, 0, none⟩ = some (.int .i64 2) ∧ w'.cell? ⟨w2.heap.size + 1 + 1, 1, none⟩ = some (.slice (some ⟨w2.heap.size + 1, 0, none⟩) 3 3) ∧ Below w19.heap.size w19 w') := Lib.hid fun w' hb => ⟨cell_keep hb c0, cell_keep hb c1, hb⟩
    go_cut [24] (fun sx wx => sx = .bool true ∧ Below w19.heap.size w19 wx)
    case first =>
      go_region_held3 (fun w' => w'.cell? ⟨w2.heap.size + 1 + 1, 0, none⟩ = some (.int .i64 2) ∧ w'.cell? ⟨w2.heap.size + 1 + 1, 1, none⟩ = some (.slice (some ⟨w2.heap.size + 1, 0, none⟩) 3 3) ∧ Below w19.heap.size w19 w')
        (first
          | exact HKS.out _ (by first | (with_reducible exact (Below.refl _ _).drew) | (with_reducible exact (last3 (by assumption))))
          | exact HKS.out _ hv7
          | exact HKS.out _ hv5)
        (first
          | (go_at_call 12
             refine (lflat_any 2 1 _).mono ?_
             rintro e v5 ⟨b5, rfl, hf5, hb5⟩
             have hv5 : Below w19.heap.size w19 v5 := Below.trans (by first | (with_reducible exact (Below.refl _ _).drew) | (with_reducible exact (last3 (by assumption)))) (hb5.mono (Below.size (B := w19.heap.size) (w := w19) (by first | (with_reducible exact (Below.refl _ _).drew) | (with_reducible exact (last3 (by assumption)))))))
          | (go_at_call 10
             refine (H22.out _ (B19.out.trans (Below.mono (by first | (with_reducible exact (Below.refl _ _).drew) | (with_reducible exact (last3 (by assumption)))) B19.out.size)) _ b5 (NB19.out.keep (last3 (by assumption))) hf5).mono ?_
             rintro e v7 ⟨rfl, hb7⟩
             have hv7 : Below w19.heap.size w19 v7 := Below.trans (by first | (with_reducible exact (Below.refl _ _).drew) | (with_reducible exact (last3 (by assumption)))) (hb7.mono (Below.size (B := w19.heap.size) (w := w19) (by first | (with_reducible exact (Below.refl _ _).drew) | (with_reducible exact (last3 (by assumption))))))))
      all_goals (go_wp2_with fail; go_meet; exact ⟨rfl, last3 (by assumption)⟩)
    case rest =>
      clear zb zt c0 c1 HKS
      obtain ⟨rfl, hb20⟩ := hcut
      obtain ⟨w20, rfl⟩ : ∃ w20 : World, w20 = wc := ⟨_, rfl⟩
      have B20 := Lib.hid (up0 B19.out hb20)
      have QB20 := Lib.hid (QB19.out.later hb20)
      have NB20 := Lib.hid (NB19.out.keep hb20)
      have QT20 := Lib.hid (QT19.out.later hb20)
      have NT20 := Lib.hid (NT19.out.keep hb20)
      clear QB19 NB19 QT19 NT19
      clear hb20
      go_wp2_with fail
      refine (lflat_any 0 1 _).mono ?_
      rintro e w21 ⟨g21, rfl, hx21, hb21⟩
      have B21 := Lib.hid (up0 B20.out hb21)
      have X21 := Lib.hid hx21
      clear hx21
      clear hb21
      go_wp2_with fail
      refine (H24.out _ B21.out _ X21.out).mono ?_
      rintro e w22 ⟨rfl, hb22⟩
      have B22 := Lib.hid (up0 B21.out hb22)
      clear hb22
      go_wp2_with fail
      refine (lflat_any 0 1 _).mono ?_
      rintro e w23 ⟨g23, rfl, hx23, hb23⟩
      have B23 := Lib.hid (up0 B22.out hb23)
      have X23 := Lib.hid hx23
      clear hx23
      clear hb23
      go_wp2_with fail
      refine (H26.out _ B23.out _ X23.out).mono ?_
      rintro e w24 ⟨rfl, hb24⟩
      have B24 := Lib.hid (up0 B23.out hb24)
      clear hb24
      go_wp2_with fail
      refine (HW.out _ B24.out).mono ?_
      rintro e w25 ⟨rfl, hb25⟩
      have B25 := Lib.hid (up0 B24.out hb25)
      clear hb25
      go_wp2
      go_ret
      exact ⟨rfl, B25.out⟩
end Go.Proofs.YteoopkogpjhneaaDoor
