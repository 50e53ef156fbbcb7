/- censuslaw38.QueryWide returns true for every input, and the input reads as before: the tied card. Conditions: the tables that the row lists are laid. Texts: WCard. -/
import Derived.Test.YteoopkogpjhneaaDoorZB6
import Derived.Test.YteoopkogpjhneaaDoorZB7
import Derived.Test.YteoopkogpjhneaaDoorCards
import Derived.Test.YteoopkogpjhneaaDoorTie
import Derived.SevenTiedAt

/- censuslaw38.QueryWide returns true for every input, and the input reads as before: the tied card. Conditions: the tables that the row lists are laid. -/
namespace Go.Proofs.YteoopkogpjhneaaDoor
open Go.ChangeShapes Go.WideShapes Go.ChangeAt Go.RowKit Cen
set_option maxRecDepth 100000

theorem wide_lifted (os : Os) (started : os.Started) (H : Type) (enc : TypeId × Value → H) :
    ReturnsInHanded {} Tryd.checked os 3 .any (fun w args => (Rows.queryWideSpec.pre enc Tryd.prog Tryd.f3 [] false w args ∧ laidMetH Tryd.prog laidOf w) ∧ sizedMet enc Tryd.prog Tryd.f3 (OpenSpec.ofChange Rows.queryWideSpec) false w args)
      (Rows.queryWideSpec.post enc Tryd.prog Tryd.f3 false true false false) := by
  refine returnsInHanded_of_change_and (C := Tryd.checked) (X := fun w _ => laidMetH Tryd.prog laidOf w) (fun _ _ _ hh h => h.of_heap hh) ownOf started (by kernel_rfl) Tryd.func3
    (ChangeSpec.witness_shaped (enc := enc) (C := Tryd.checked) (os := os) (X := fun w _ => laidMetH Tryd.prog laidOf w) false (World.laidAll Tryd.prog os laidOf) #[.int .u8 0, .bool false, .int .u8 0] 8 (World.laidAll_os _ _ _)
      (World.shaped_of_ZipB (by kernel_rfl) (by kernel_rfl)) (by kernel_rfl) (by kernel_rfl) (by kernel_rfl)
      (by rw [MakeChecks.laidMetH_plain _ _ _ laid_plain]; exact laidMet_laidAll _ (by kernel_rfl) (by kernel_rfl))) ?_
  intro W base args ds gs before hval0 hW _ _ hL _
  have hval : ∀ (j : Nat) t v, Tryd.f3.params[j]? = some t → args[j]? = some v → Value.okWide Tryd.prog W .any base t v := hval0
  have hW' := hW
  obtain ⟨p, q, hA0, hV, rfl, _, _⟩ := hW
  have hA : DataW.TrodAll enc Tryd.prog W 0 (fun _ => true) true Tryd.f3.params.toList args.toList ds p := hA0
  rw [Tryd.params3] at hA hval
  obtain ⟨v0, v1, v2, d0, d1, d2, p0, p1, p2, rfl, rfl, rfl, h0, h1, h2⟩ := trodAll_three hA
  obtain ⟨rfl, rfl⟩ := trodVars_none hV
  obtain ⟨z0, e0, _, _, hw0⟩ := open_int Tryd.underlying5 (hval 0 5 v0 rfl rfl) h0
  subst e0
  have hz0 : 0 ≤ z0 ∧ z0 ≤ 255 := u8_of hw0
  obtain ⟨b1, e1, _, _⟩ := open_bool Tryd.underlying4 (hval 1 4 v1 rfl rfl) h1
  subst e1
  obtain ⟨z2, e2, _, _, hw2⟩ := open_int Tryd.underlying5 (hval 2 5 v2 rfl rfl) h2
  subst e2
  have hz2 : 0 ≤ z2 ∧ z2 ≤ 255 := u8_of hw2
  have ht := tab_of_laid hL
  clear hA0 hval0 hval hA hV
  simp only [List.append_nil] at hW'
  refine (wide_any z0 z2 b1 W hz0 hz2 ht).mono fun e W' ⟨he, hb⟩ => ?_
  subst he
  have hlt : ∀ x ∈ p0 ++ p1 ++ p2, x.block < W.heap.size := fun x hx => hW'.lt x hx
  refine ⟨_, rfl, post_of_below (pa := p0 ++ p1 ++ p2) (pv := []) hW' (fun _ _ _ => trodAll_mk1 (shut_bool Tryd.underlying4 true)) (fun sp hsp => ?_) (fun _ _ => rfl) (by simp) hb (ok_one (by kernel_rfl) rfl (okWide_bool_mk Tryd.underlying4 _))⟩
  exact (by rw [List.append_assoc]; exact trodAll_mk3 (WideElems.Trod_stays laidOutOf (by kernel_rfl) (of_decide_eq_true (by kernel_rfl)) h0 (fun x hx => hb.same (hlt x (List.mem_append_left _ (List.mem_append_left _ hx)))) (fun x hx => hsp x (List.mem_append_left _ (List.mem_append_left _ hx)))) (WideElems.Trod_stays laidOutOf (by kernel_rfl) (of_decide_eq_true (by kernel_rfl)) h1 (fun x hx => hb.same (hlt x (List.mem_append_left _ (List.mem_append_right _ hx)))) (fun x hx => hsp x (List.mem_append_left _ (List.mem_append_right _ hx)))) (WideElems.Trod_stays laidOutOf (by kernel_rfl) (of_decide_eq_true (by kernel_rfl)) h2 (fun x hx => hb.same (hlt x (List.mem_append_right _ hx))) (fun x hx => hsp x (List.mem_append_right _ hx))))

theorem wide_holds : Rows.QueryWideSaid :=
  OpenClaim.holds_of_wide 3 Tryd.f3 rfl rfl rfl rfl rfl rfl rfl ⟨rfl, rfl, rfl, rfl, rfl⟩ rfl rfl rfl rfl rfl (by kernel_rfl) Tryd.func3 (by kernel_rfl)
    (of_decide_eq_true (by kernel_rfl)) (by unfold Func.isWrapper; first | (rw [if_pos (by decide +kernel)]; kernel_rfl) | (rw [if_neg (by decide +kernel)]; exact ⟨rfl, rfl⟩))
    (fun os started H enc _ => wide_lifted os started H enc)

theorem queryWide_card : Rows.QueryWideCardSaid :=
  Claim7.holds_tied_plain_at .later [] [.data, .data, .data] true (true, "76ac70cf165dd1226335417d098b14675593aae8b7c2421168703bcb30518bd2") false
    wide_holds (fun _ h => by cases h) (by kernel_rfl) (fun _ h => by cases h) queryWide_row_tie rfl ⟨rfl, rfl⟩ (by kernel_rfl) rfl
    (fun f fn hf hfn => by
      obtain rfl : f = 3 := Option.some.inj ((show Tryd.prog.funcNamed "census/censuslaw38.QueryWide" = some 3 by kernel_rfl).symm.trans hf) |>.symm
      obtain rfl : fn = Tryd.f3 := (Option.some.inj (Tryd.func3.symm.trans hfn)).symm
      exact ⟨by kernel_rfl, fun j t ht => by
        rw [Tryd.params3] at ht
        have hm : t ∈ [5, 4, 5] := by simpa using Array.mem_of_getElem? ht
        have hall : ([5, 4, 5].all fun u => !Tryd.prog.wantsStandIn u) = true := by kernel_rfl
        exact (show Tryd.prog.wantsStandIn t = false by simpa using List.all_eq_true.1 hall t hm)⟩)
    (by kernel_rfl)
#print axioms queryWide_card
end Go.Proofs.YteoopkogpjhneaaDoor
