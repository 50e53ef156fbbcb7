/- CompileKnown returns true: the chapter's theories for which little choice is left are compiled to nets with the models that they have, with claims that are accepted, and orders that are none are refused. Conditions: the tables that the row lists are laid. Texts: NCard. -/
import Derived.Test.YtkaojolofaanfaaGreatDoorYK2
import Derived.Test.YtkaojolofaanfaaGreatDoorCards
import Derived.Test.YtkaojolofaanfaaGreatDoorTie
import Derived.SevenTiedAt
import Derived.Test.YtkaojolofaanfaaGreatDoorYA1
set_option maxHeartbeats 8000000
set_option maxRecDepth 100000
set_option linter.unusedSimpArgs false
set_option linter.unusedVariables false
namespace Go.Proofs.YtkaojolofaanfaaGreatDoor
open Go.ChangeShapes Go.WideShapes Go.ChangeAt Go.RowKit Cen
theorem compileknown_lifted (os : Os) (started : os.Started) (H : Type) (enc : TypeId × Value -> H) :
 ReturnsInHanded {} Tryz.checked os 9 .any (fun w args => (Rows.compileKnownSpec.pre enc Tryz.prog Tryz.f9 [] false w args /\ laidMetH Tryz.prog laidOf w) /\ sizedMet enc Tryz.prog Tryz.f9 (OpenSpec.ofChange Rows.compileKnownSpec) false w args)
  (Rows.compileKnownSpec.post enc Tryz.prog Tryz.f9 false true false false) := by
 refine returnsInHanded_of_change_and (C := Tryz.checked) (X := fun w _ => laidMetH Tryz.prog laidOf w) (fun _ _ _ hh h => h.of_heap hh) zwi started (by kernel_rfl) Tryz.func9
  (ChangeSpec.witness_shaped (enc := enc) (C := Tryz.checked) (os := os) (X := fun w _ => laidMetH Tryz.prog laidOf w) false (World.laidAll Tryz.prog os laidOf) #[] 8 (World.laidAll_os _ _ _)
    (World.shaped_of_ZipB (by kernel_rfl) (by kernel_rfl)) (by kernel_rfl) (by kernel_rfl) (by kernel_rfl)
    (by rw [MakeChecks.laidMetH_plain _ _ _ zgk]; exact laidMet_laidAll _ (by kernel_rfl) (by kernel_rfl))) ?_
 intro W base args ds gs before hval0 hW _ _ hL _;have hval : ∀ (j : Nat) t v, Tryz.f9.params[j]? = some t -> args[j]? = some v -> Value.okWide Tryz.prog W .any base t v := hval0;have hW' := hW;obtain ⟨p, q, hA0, hV, rfl, _, _⟩ := hW;have hA : DataW.TrodAll enc Tryz.prog W 0 (fun _ => true) true Tryz.f9.params.toList args.toList ds p := hA0;rw [Tryz.params9] at hA hval;obtain ⟨rfl, rfl, rfl⟩ := trodAll_zero hA;obtain ⟨rfl, rfl⟩ := trodVars_none hV;have ht := zfh hL;clear hA0 hval0 hval hA hV;simp only [List.append_nil] at hW'
 refine (knownC_any W ht).mono fun e W' ⟨he, hb⟩ => ?_
 subst he;refine ⟨_, rfl, zd2 (pa := []) (pv := []) hW' (fun _ _ _ => trodAll_mk1 (shut_bool Tryz.underlying4 true)) (fun sp hsp => ?_) (fun _ _ => rfl) (by simp) hb (ok_one (by kernel_rfl) rfl (okWide_bool_mk Tryz.underlying4 _))⟩;exact trodAll_mk0
theorem compileknown_holds : Rows.CompileKnownSaid :=
 OpenClaim.holds_of_wide 9 Tryz.f9 rfl rfl rfl rfl rfl rfl rfl ⟨rfl, rfl, rfl, rfl, rfl⟩ rfl rfl rfl rfl rfl (by as_aux_lemma => kernel_rfl) Tryz.func9 (by as_aux_lemma => kernel_rfl)
  (of_decide_eq_true (by as_aux_lemma => kernel_rfl)) (by unfold Func.isWrapper; first | (rw [if_pos (by decide +kernel)]; kernel_rfl) | (rw [if_neg (by decide +kernel)]; exact ⟨rfl, rfl⟩))
  (fun os started H enc _ => compileknown_lifted os started H enc)
theorem compileKnown_card : Rows.CompileKnownCardSaid :=
 Claim7.holds_tied_plain_at .later [] [.data, .data, .data] true (true, "e81533f6c986c1ab1d0b6e2161312ec05acb7ce0efe5b85dd1cadb70c795efc0") true
  compileknown_holds (fun _ h => by cases h) (by as_aux_lemma => kernel_rfl) (fun _ h => by cases h) compileKnown_row_tie rfl ⟨rfl, rfl⟩ (by as_aux_lemma => kernel_rfl) rfl
  (fun f fn hf hfn => by
    obtain rfl : f = 9 := Option.some.inj ((show Tryz.prog.funcNamed "census/censuslaw24.CompileKnown" = some 9 by as_aux_lemma => kernel_rfl).symm.trans hf) |>.symm
    obtain rfl : fn = Tryz.f9 := (Option.some.inj (Tryz.func9.symm.trans hfn)).symm
    exact ⟨by as_aux_lemma => kernel_rfl, fun j t ht => by
     rw [Tryz.params9] at ht
     simp at ht⟩)
  (by as_aux_lemma => kernel_rfl)
#print axioms compileKnown_card
end Go.Proofs.YtkaojolofaanfaaGreatDoor
