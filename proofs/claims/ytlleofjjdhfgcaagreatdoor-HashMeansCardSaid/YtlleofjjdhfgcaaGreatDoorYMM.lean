/- HashMeans returns true for every input, where the tables that the rows list are laid. Texts: MHCard. -/
import Derived.Test.YtlleofjjdhfgcaaGreatDoorYM50
import Derived.Test.YtlleofjjdhfgcaaGreatDoorYM51
import Derived.Test.YtlleofjjdhfgcaaGreatDoorCards
import Derived.Test.YtlleofjjdhfgcaaGreatDoorTie
set_option maxHeartbeats 8000000
set_option maxRecDepth 100000
set_option linter.unusedSimpArgs false
set_option linter.unusedVariables false
namespace Go.Proofs.YtlleofjjdhfgcaaGreatDoor
open Go.ChangeShapes Go.WideShapes Go.ChangeAt Go.RowKit Cen
theorem zh5 (os : Os) (started : os.Started) (H : Type) (enc : TypeId × Value -> H) :
 ReturnsInHanded {} Tryz.checked os 3 .any (fun w args => (Rows.hashMeansSpec.pre enc Tryz.prog Tryz.f3 [] false w args /\ laidMetH Tryz.prog laidOf4 w) /\ sizedMet enc Tryz.prog Tryz.f3 (OpenSpec.ofChange Rows.hashMeansSpec) false w args)
  (Rows.hashMeansSpec.post enc Tryz.prog Tryz.f3 false true false false) := by
 refine returnsInHanded_of_change_and (C := Tryz.checked) (X := fun w _ => laidMetH Tryz.prog laidOf4 w) (fun _ _ _ hh h => h.of_heap hh) ycy started (by kernel_rfl) Tryz.func3
  (ChangeSpec.witness_shaped (enc := enc) (C := Tryz.checked) (os := os) (X := fun w _ => laidMetH Tryz.prog laidOf4 w) false (World.laidAll Tryz.prog os laidOf4) #[.agg #[.int .i64 0, .slice none 0 0], .int .u8 0] 8 (World.laidAll_os _ _ _)
    (World.shaped_of_ZipB (by kernel_rfl) (by kernel_rfl)) (by kernel_rfl) (by kernel_rfl) (by kernel_rfl)
    (by rw [MakeChecks.laidMetH_plain _ _ _ zjd]; exact laidMet_laidAll _ (by kernel_rfl) (by kernel_rfl))) ?_
 intro W base args ds gs before hval0 hW _ _ hL _;have hval : ∀ (j : Nat) t v, Tryz.f3.params[j]? = some t -> args[j]? = some v -> Value.okWide Tryz.prog W .any base t v := hval0;have hW' := hW;obtain ⟨p, q, hA0, hV, rfl, _, _⟩ := hW;have hA : DataW.TrodAll enc Tryz.prog W 0 (fun _ => true) true Tryz.f3.params.toList args.toList ds p := hA0;rw [Tryz.params3] at hA hval;obtain ⟨v0, v1, d0, d1, p0, p1, rfl, rfl, rfl, h0, h1⟩ := trodAll_two hA;obtain ⟨rfl, rfl⟩ := trodVars_none hV;obtain ⟨n0, a0, l0, cap0, e0, hl0, hx0, hi0⟩ := zhq (hval 0 24 v0 rfl rfl) h0;subst e0;obtain ⟨z1, e1, _, _, hw1⟩ := open_int Tryz.underlying5 (hval 1 5 v1 rfl rfl) h1
 subst e1;have hz1 : 0 <= z1 /\ z1 <= 255 := zyz hw1;obtain ⟨m1, rfl⟩ := Int.eq_ofNat_of_zero_le hz1.1
 have hm1 : m1 < 256 := by omega
 have hst := zhv hL
 replace hL := zk7 hL
 have ht := zj3 hL;have hdt := zho hL;clear hA0 hval0 hval hA hV;simp only [List.append_nil] at hW'
 refine (zmh n0 a0 cap0 l0 m1 W hm1 hl0 hx0 hi0 hst ht hdt).mono fun e W' ⟨he, hb⟩ => ?_
 subst he
 have hlt : ∀ x ∈ p0 ++ p1, x.block < W.heap.size := fun x hx => hW'.lt x hx
 refine ⟨_, rfl, zgi (pa := p0 ++ p1) (pv := []) hW' (fun _ _ _ => trodAll_mk1 (shut_bool Tryz.underlying4 true)) (fun sp hsp => ?_) (fun _ _ => rfl) (by simp) hb (ok_one (by kernel_rfl) rfl (okWide_bool_mk Tryz.underlying4 _))⟩;exact trodAll_mk2 (WideElems.Trod_stays zdy (by kernel_rfl) (of_decide_eq_true (by kernel_rfl)) h0 (fun x hx => hb.same (hlt x (List.mem_append_left _ hx))) (fun x hx => hsp x (List.mem_append_left _ hx))) (WideElems.Trod_stays zdy (by kernel_rfl) (of_decide_eq_true (by kernel_rfl)) h1 (fun x hx => hb.same (hlt x (List.mem_append_right _ hx))) (fun x hx => hsp x (List.mem_append_right _ hx)))
theorem zi5 : Rows.HashMeansSaid :=
 OpenClaim.holds_of_wide 3 Tryz.f3 rfl rfl rfl rfl rfl rfl rfl ⟨rfl, rfl, rfl, rfl, rfl⟩ rfl rfl rfl rfl rfl (by as_aux_lemma => kernel_rfl) Tryz.func3 (by as_aux_lemma => kernel_rfl)
  (of_decide_eq_true (by as_aux_lemma => kernel_rfl)) (by unfold Func.isWrapper; first | (rw [if_pos (by decide +kernel)]; kernel_rfl) | (rw [if_neg (by decide +kernel)]; exact ⟨rfl, rfl⟩))
  (fun os started H enc _ => zh5 os started H enc)
theorem hashMeans_card : Rows.HashMeansCardSaid :=
 Claim7.holds_tied_plain_at .later [] [.data, .data, .data, .data] true (true, "e10f979341d911ce589d7d278f4a5550de3dbc2f3dbb7a1f2b4b1265b2a7beb5") true
  zi5 (fun _ h => by cases h) (by as_aux_lemma => kernel_rfl) (fun _ h => by cases h) hashMeans_row_tie rfl ⟨rfl, rfl⟩ (by as_aux_lemma => kernel_rfl) rfl
  (fun f fn hf hfn => by
    obtain rfl : f = 3 := Option.some.inj ((show Tryz.prog.funcNamed "census/censuslaw45.HashMeans" = some 3 by as_aux_lemma => kernel_rfl).symm.trans hf) |>.symm
    obtain rfl : fn = Tryz.f3 := (Option.some.inj (Tryz.func3.symm.trans hfn)).symm
    exact ⟨by as_aux_lemma => kernel_rfl, fun j t ht => by
     rw [Tryz.params3] at ht
     have hm : t ∈ [24, 5] := by simpa using Array.mem_of_getElem? ht
     have hall : ([24, 5].all fun u => !Tryz.prog.wantsStandIn u) = true := by as_aux_lemma => kernel_rfl
     exact (show Tryz.prog.wantsStandIn t = false by simpa using List.all_eq_true.1 hall t hm)⟩)
  (by as_aux_lemma => kernel_rfl)
#print axioms hashMeans_card
end Go.Proofs.YtlleofjjdhfgcaaGreatDoor
