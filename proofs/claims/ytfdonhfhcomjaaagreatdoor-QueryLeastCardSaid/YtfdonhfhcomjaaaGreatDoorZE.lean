/- censuslaw38.QueryLeast returns true for every input, where the tables that the row lists are laid. Texts: ECard. -/
import Derived.Test.YtfdonhfhcomjaaaGreatDoorZJ1
import Derived.Test.YtfdonhfhcomjaaaGreatDoorZH4
import Derived.Test.YtfdonhfhcomjaaaGreatDoorCards
import Derived.Test.YtfdonhfhcomjaaaGreatDoorTie
import Derived.SevenTiedAt

/- censuslaw38.QueryLeast returns true for every input, and the input reads as before: the tied card. Conditions: the tables that the row lists are laid. -/
namespace Go.Proofs.YtfdonhfhcomjaaaGreatDoor
open Go.ChangeShapes Go.WideShapes Go.ChangeAt Go.RowKit Cen
set_option maxRecDepth 100000

theorem least_lifted (os : Os) (started : os.Started) (H : Type) (enc : TypeId × Value → H) :
    ReturnsInHanded {} Tryz.checked os 8 .any (fun w args => (Rows.queryLeastSpec.pre enc Tryz.prog Tryz.f8 [] false w args ∧ laidMetH Tryz.prog laidOf w) ∧ sizedMet enc Tryz.prog Tryz.f8 (OpenSpec.ofChange Rows.queryLeastSpec) false w args)
      (Rows.queryLeastSpec.post enc Tryz.prog Tryz.f8 false true false false) := by
  refine returnsInHanded_of_change_and (C := Tryz.checked) (X := fun w _ => laidMetH Tryz.prog laidOf w) (fun _ _ _ hh h => h.of_heap hh) ownOf started (by kernel_rfl) Tryz.func8
    (ChangeSpec.witness_shaped (enc := enc) (C := Tryz.checked) (os := os) (X := fun w _ => laidMetH Tryz.prog laidOf w) false (World.laidAll Tryz.prog os laidOf) #[.agg #[.int .i64 0, .slice none 0 0], .agg #[.int .i64 0, .slice none 0 0], .agg #[.int .u64 0, .int .u64 0]] 8 (World.laidAll_os _ _ _)
      (World.shaped_of_ZipB (by kernel_rfl) (by kernel_rfl)) (by kernel_rfl) (by kernel_rfl) (by kernel_rfl)
      (by rw [MakeChecks.laidMetH_plain _ _ _ laid_plain]; exact laidMet_laidAll _ (by kernel_rfl) (by kernel_rfl))) ?_
  intro W base args ds gs before hval0 hW _ _ hL _
  have hval : ∀ (j : Nat) t v, Tryz.f8.params[j]? = some t → args[j]? = some v → Value.okWide Tryz.prog W .any base t v := hval0
  have hW' := hW
  obtain ⟨p, q, hA0, hV, rfl, _, _⟩ := hW
  have hA : DataW.TrodAll enc Tryz.prog W 0 (fun _ => true) true Tryz.f8.params.toList args.toList ds p := hA0
  rw [Tryz.params8] at hA hval
  obtain ⟨v0, v1, v2, d0, d1, d2, p0, p1, p2, rfl, rfl, rfl, h0, h1, h2⟩ := trodAll_three hA
  obtain ⟨rfl, rfl⟩ := trodVars_none hV
  obtain ⟨n0, a0, l0, cap0, e0, hl0, hx0, _⟩ := open_net (hval 0 24 v0 rfl rfl) h0
  subst e0
  obtain ⟨n1, a1, l1, cap1, e1, hl1, hx1, _⟩ := open_net (hval 1 24 v1 rfl rfl) h1
  subst e1
  obtain ⟨s2, e2, hs2⟩ := open_set (hval 2 38 v2 rfl rfl) h2
  subst e2
  have ht := tab_of_laid hL
  have hdt := dtab_of_laid hL
  clear hA0 hval0 hval hA hV
  simp only [List.append_nil] at hW'
  refine (least_any n0 a0 cap0 l0 n1 a1 cap1 l1 s2 W hl0 hx0 hl1 hx1 hs2 ht hdt).mono fun e W' ⟨he, hb⟩ => ?_
  subst he
  have hlt : ∀ x ∈ p0 ++ p1 ++ p2, x.block < W.heap.size := fun x hx => hW'.lt x hx
  refine ⟨_, rfl, post_of_below (pa := p0 ++ p1 ++ p2) (pv := []) hW' (fun _ _ _ => trodAll_mk1 (shut_bool Tryz.underlying4 true)) (fun sp hsp => ?_) (fun _ _ => rfl) (by simp) hb (ok_one (by kernel_rfl) rfl (okWide_bool_mk Tryz.underlying4 _))⟩
  exact (by rw [List.append_assoc]; exact trodAll_mk3 (WideElems.Trod_stays laidOutOf (by kernel_rfl) (of_decide_eq_true (by kernel_rfl)) h0 (fun x hx => hb.same (hlt x (List.mem_append_left _ (List.mem_append_left _ hx)))) (fun x hx => hsp x (List.mem_append_left _ (List.mem_append_left _ hx)))) (WideElems.Trod_stays laidOutOf (by kernel_rfl) (of_decide_eq_true (by kernel_rfl)) h1 (fun x hx => hb.same (hlt x (List.mem_append_left _ (List.mem_append_right _ hx)))) (fun x hx => hsp x (List.mem_append_left _ (List.mem_append_right _ hx)))) (WideElems.Trod_stays laidOutOf (by kernel_rfl) (of_decide_eq_true (by kernel_rfl)) h2 (fun x hx => hb.same (hlt x (List.mem_append_right _ hx))) (fun x hx => hsp x (List.mem_append_right _ hx))))

theorem least_holds : Rows.QueryLeastSaid :=
  OpenClaim.holds_of_wide 8 Tryz.f8 rfl rfl rfl rfl rfl rfl rfl ⟨rfl, rfl, rfl, rfl, rfl⟩ rfl rfl rfl rfl rfl (by kernel_rfl) Tryz.func8 (by kernel_rfl)
    (of_decide_eq_true (by kernel_rfl)) (by unfold Func.isWrapper; first | (rw [if_pos (by decide +kernel)]; kernel_rfl) | (rw [if_neg (by decide +kernel)]; exact ⟨rfl, rfl⟩))
    (fun os started H enc _ => least_lifted os started H enc)

theorem queryLeast_card : Rows.QueryLeastCardSaid :=
  Claim7.holds_tied_plain_at .later [] [.data, .data, .data] true (true, "a9f43706c970987c0e069c91bef144d424fd05d38f22d54a2eb9f887ae7060a2") true
    least_holds (fun _ h => by cases h) (by kernel_rfl) (fun _ h => by cases h) queryLeast_row_tie rfl ⟨rfl, rfl⟩ (by kernel_rfl) rfl
    (fun f fn hf hfn => by
      obtain rfl : f = 8 := Option.some.inj ((show Tryz.prog.funcNamed "census/censuslaw38.QueryLeast" = some 8 by kernel_rfl).symm.trans hf) |>.symm
      obtain rfl : fn = Tryz.f8 := (Option.some.inj (Tryz.func8.symm.trans hfn)).symm
      exact ⟨by kernel_rfl, fun j t ht => by
        rw [Tryz.params8] at ht
        have hm : t ∈ [24, 24, 38] := by simpa using Array.mem_of_getElem? ht
        have hall : ([24, 24, 38].all fun u => !Tryz.prog.wantsStandIn u) = true := by kernel_rfl
        exact (show Tryz.prog.wantsStandIn t = false by simpa using List.all_eq_true.1 hall t hm)⟩)
    (by kernel_rfl)
#print axioms queryLeast_card
end Go.Proofs.YtfdonhfhcomjaaaGreatDoor
