/- the examples of the chapter hash hold. Texts: KHCard. -/
import Derived.Test.YtflhbcnhaeijbaaGreatDoorYH41
import Derived.Test.YtflhbcnhaeijbaaGreatDoorYH40
import Derived.Test.YtflhbcnhaeijbaaGreatDoorCards
import Derived.Test.YtflhbcnhaeijbaaGreatDoorTie
import Derived.SevenTiedAt
import Derived.Test.YtflhbcnhaeijbaaGreatDoorYH1
set_option maxHeartbeats 8000000
set_option maxRecDepth 100000
set_option linter.unusedSimpArgs false
set_option linter.unusedVariables false
namespace Go.Proofs.YtflhbcnhaeijbaaGreatDoor
open Go.ChangeShapes Go.WideShapes Go.ChangeAt Go.RowKit Cen
theorem hashknown_lifted (os : Os) (started : os.Started) (H : Type) (enc : TypeId × Value -> H) :
 ReturnsInHanded {} Tryz.checked os 4 .any (fun w args => (Rows.hashKnownSpec.pre enc Tryz.prog Tryz.f4 [] false w args /\ laidMetH Tryz.prog laidOf w) /\ sizedMet enc Tryz.prog Tryz.f4 (OpenSpec.ofChange Rows.hashKnownSpec) false w args)
  (Rows.hashKnownSpec.post enc Tryz.prog Tryz.f4 false true false false) := by
 refine returnsInHanded_of_change_and (C := Tryz.checked) (X := fun w _ => laidMetH Tryz.prog laidOf w) (fun _ _ _ hh h => h.of_heap hh) zwi started (by kernel_rfl) Tryz.func4
  (ChangeSpec.witness_shaped (enc := enc) (C := Tryz.checked) (os := os) (X := fun w _ => laidMetH Tryz.prog laidOf w) false (World.laidAll Tryz.prog os laidOf) #[] 8 (World.laidAll_os _ _ _)
    (World.shaped_of_ZipB (by kernel_rfl) (by kernel_rfl)) (by kernel_rfl) (by kernel_rfl) (by kernel_rfl)
    (by rw [MakeChecks.laidMetH_plain _ _ _ zgk]; exact laidMet_laidAll _ (by kernel_rfl) (by kernel_rfl))) ?_
 intro W base args ds gs before hval0 hW _ _ hL _;have hval : ∀ (j : Nat) t v, Tryz.f4.params[j]? = some t -> args[j]? = some v -> Value.okWide Tryz.prog W .any base t v := hval0;have hW' := hW;obtain ⟨p, q, hA0, hV, rfl, _, _⟩ := hW;have hA : DataW.TrodAll enc Tryz.prog W 0 (fun _ => true) true Tryz.f4.params.toList args.toList ds p := hA0;rw [Tryz.params4] at hA hval;obtain ⟨rfl, rfl, rfl⟩ := trodAll_zero hA;obtain ⟨rfl, rfl⟩ := trodVars_none hV;have ht := zfh hL;have hdt := dtab_of_laid hL;clear hA0 hval0 hval hA hV;simp only [List.append_nil] at hW'
 refine (hknown_any W ht hdt).mono fun e W' ⟨he, hb⟩ => ?_
 subst he;refine ⟨_, rfl, zd2 (pa := []) (pv := []) hW' (fun _ _ _ => trodAll_mk1 (shut_bool Tryz.underlying4 true)) (fun sp hsp => ?_) (fun _ _ => rfl) (by simp) hb (ok_one (by kernel_rfl) rfl (okWide_bool_mk Tryz.underlying4 _))⟩;exact trodAll_mk0
theorem hashknown_holds : Rows.HashKnownSaid :=
 OpenClaim.holds_of_wide 4 Tryz.f4 rfl rfl rfl rfl rfl rfl rfl ⟨rfl, rfl, rfl, rfl, rfl⟩ rfl rfl rfl rfl rfl (by as_aux_lemma => kernel_rfl) Tryz.func4 (by as_aux_lemma => kernel_rfl)
  (of_decide_eq_true (by as_aux_lemma => kernel_rfl)) (by unfold Func.isWrapper; first | (rw [if_pos (by decide +kernel)]; kernel_rfl) | (rw [if_neg (by decide +kernel)]; exact ⟨rfl, rfl⟩))
  (fun os started H enc _ => hashknown_lifted os started H enc)
theorem hashKnown_card : Rows.HashKnownCardSaid :=
 Claim7.holds_tied_plain_at .later [] [.data, .data, .data] true (true, "2275053241a6e81a13d0700730c9d32eec1fe74bf0b1373ab9206dc3f2d14bf8") true
  hashknown_holds (fun _ h => by cases h) (by as_aux_lemma => kernel_rfl) (fun _ h => by cases h) hashKnown_row_tie rfl ⟨rfl, rfl⟩ (by as_aux_lemma => kernel_rfl) rfl
  (fun f fn hf hfn => by
    obtain rfl : f = 4 := Option.some.inj ((show Tryz.prog.funcNamed "census/censuslaw45.HashKnown" = some 4 by as_aux_lemma => kernel_rfl).symm.trans hf) |>.symm
    obtain rfl : fn = Tryz.f4 := (Option.some.inj (Tryz.func4.symm.trans hfn)).symm
    exact ⟨by as_aux_lemma => kernel_rfl, fun j t ht => by
     rw [Tryz.params4] at ht
     simp at ht⟩)
  (by as_aux_lemma => kernel_rfl)
#print axioms hashKnown_card
end Go.Proofs.YtflhbcnhaeijbaaGreatDoor
