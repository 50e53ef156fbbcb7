/- HashAdds returns true for every input, where the tables that the rows list are laid. Texts: AHCard. -/
import Derived.Test.YtlleofjjdhfgcaaGreatDoorYA49
import Derived.Test.YtlleofjjdhfgcaaGreatDoorYA50
import Derived.Test.YtlleofjjdhfgcaaGreatDoorCards
import Derived.Test.YtlleofjjdhfgcaaGreatDoorTie
set_option maxHeartbeats 8000000
set_option maxRecDepth 100000
set_option linter.all false
namespace Go.Proofs.YtlleofjjdhfgcaaGreatDoor
open Go.ChangeShapes Go.WideShapes Go.ChangeAt Go.RowKit Cen
theorem hashadds_lifted (os : Os) (started : os.Started) (H : Type) (enc : TypeId × Value -> H) :
 ReturnsInHanded {} Tryz.checked os 5 .any (fun w args => (Rows.hashAddsSpec.pre enc Tryz.prog Tryz.f5 [] false w args /\ laidMetH Tryz.prog laidOf w) /\ sizedMet enc Tryz.prog Tryz.f5 (OpenSpec.ofChange Rows.hashAddsSpec) false w args)
  (Rows.hashAddsSpec.post enc Tryz.prog Tryz.f5 false true false false) := by
 refine returnsInHanded_of_change_and (C := Tryz.checked) (X := fun w _ => laidMetH Tryz.prog laidOf w) (fun _ _ _ hh h => h.of_heap hh) ycy started (by kernel_rfl) Tryz.func5
  (ChangeSpec.witness_shaped (enc := enc) (C := Tryz.checked) (os := os) (X := fun w _ => laidMetH Tryz.prog laidOf w) false (World.laidAll Tryz.prog os laidOf) #[.agg #[.int .i64 0, .slice none 0 0], .int .u8 0, .slice none 0 0, .agg #[.int .u64 0, .int .u64 0]] 8 (World.laidAll_os _ _ _)
    (World.shaped_of_ZipB (by kernel_rfl) (by kernel_rfl)) (by kernel_rfl) (by kernel_rfl) (by kernel_rfl)
    (by rw [MakeChecks.laidMetH_plain _ _ _ laid_plain]; exact laidMet_laidAll _ (by kernel_rfl) (by kernel_rfl))) ?_
 intro W base args ds gs before hval0 hW _ _ hL _;have hval : ∀ (j : Nat) t v, Tryz.f5.params[j]? = some t -> args[j]? = some v -> Value.okWide Tryz.prog W .any base t v := hval0;have hW' := hW;obtain ⟨p, q, hA0, hV, rfl, _, _⟩ := hW;have hA : DataW.TrodAll enc Tryz.prog W 0 (fun _ => true) true Tryz.f5.params.toList args.toList ds p := hA0;rw [Tryz.params5] at hA hval;obtain ⟨v0, v1, v2, v3, d0, d1, d2, d3, p0, p1, p2, p3, rfl, rfl, rfl, h0, h1, h2, h3⟩ := trodAll_four hA;obtain ⟨rfl, rfl⟩ := trodVars_none hV;obtain ⟨n0, a0, l0, cap0, e0, hl0, hx0, hi0⟩ := zhq (hval 0 24 v0 rfl rfl) h0;subst e0
 obtain ⟨z1, e1, _, _, hw1⟩ := open_int Tryz.underlying5 (hval 1 5 v1 rfl rfl) h1;subst e1;have hz1 : 0 <= z1 /\ z1 <= 255 := zyz hw1;obtain ⟨m1, rfl⟩ := Int.eq_ofNat_of_zero_le hz1.1
 have hm1 : m1 < 256 := by omega
 obtain ⟨a2, l2, cap2, e2, hl2, hx2, hk2⟩ := open_pars (hval 2 38 v2 rfl rfl) h2;subst e2;obtain ⟨s3, e3, hs3⟩ := zrl (hval 3 40 v3 rfl rfl) h3;subst e3;have ht := zj3 hL;have hdt := zho hL;clear hA0 hval0 hval hA hV;simp only [List.append_nil] at hW'
 refine (hadds_any n0 a0 cap0 l0 m1 a2 cap2 l2 s3 W hm1 hl0 hx0 hi0 hl2 hx2 hk2 hs3 ht hdt).mono fun e W' ⟨he, hb⟩ => ?_
 subst he
 have hlt : ∀ x ∈ p0 ++ p1 ++ p2 ++ p3, x.block < W.heap.size := fun x hx => hW'.lt x hx
 refine ⟨_, rfl, zgi (pa := p0 ++ p1 ++ p2 ++ p3) (pv := []) hW' (fun _ _ _ => trodAll_mk1 (shut_bool Tryz.underlying4 true)) (fun sp hsp => ?_) (fun _ _ => rfl) (by simp) hb (ok_one (by kernel_rfl) rfl (okWide_bool_mk Tryz.underlying4 _))⟩;exact (by rw [List.append_assoc, List.append_assoc]; exact trodAll_mk4 (WideElems.Trod_stays zdy (by kernel_rfl) (of_decide_eq_true (by kernel_rfl)) h0 (fun x hx => hb.same (hlt x (List.mem_append_left _ (List.mem_append_left _ (List.mem_append_left _ hx))))) (fun x hx => hsp x (List.mem_append_left _ (List.mem_append_left _ (List.mem_append_left _ hx))))) (WideElems.Trod_stays zdy (by kernel_rfl) (of_decide_eq_true (by kernel_rfl)) h1 (fun x hx => hb.same (hlt x (List.mem_append_left _ (List.mem_append_left _ (List.mem_append_right _ hx))))) (fun x hx => hsp x (List.mem_append_left _ (List.mem_append_left _ (List.mem_append_right _ hx))))) (WideElems.Trod_stays zdy (by kernel_rfl) (of_decide_eq_true (by kernel_rfl)) h2 (fun x hx => hb.same (hlt x (List.mem_append_left _ (List.mem_append_right _ hx)))) (fun x hx => hsp x (List.mem_append_left _ (List.mem_append_right _ hx)))) (WideElems.Trod_stays zdy (by kernel_rfl) (of_decide_eq_true (by kernel_rfl)) h3 (fun x hx => hb.same (hlt x (List.mem_append_right _ hx))) (fun x hx => hsp x (List.mem_append_right _ hx))))
theorem hashadds_holds : Rows.HashAddsSaid :=
 OpenClaim.holds_of_wide 5 Tryz.f5 rfl rfl rfl rfl rfl rfl rfl ⟨rfl, rfl, rfl, rfl, rfl⟩ rfl rfl rfl rfl rfl (by as_aux_lemma => kernel_rfl) Tryz.func5 (by as_aux_lemma => kernel_rfl)
  (of_decide_eq_true (by as_aux_lemma => kernel_rfl)) (by unfold Func.isWrapper; first | (rw [if_pos (by decide +kernel)]; kernel_rfl) | (rw [if_neg (by decide +kernel)]; exact ⟨rfl, rfl⟩))
  (fun os started H enc _ => hashadds_lifted os started H enc)
theorem hashAdds_card : Rows.HashAddsCardSaid :=
 Claim7.holds_tied_plain_at .later [] [.data, .data, .data] true (true, "e10f979341d911ce589d7d278f4a5550de3dbc2f3dbb7a1f2b4b1265b2a7beb5") true
  hashadds_holds (fun _ h => by cases h) (by as_aux_lemma => kernel_rfl) (fun _ h => by cases h) hashAdds_row_tie rfl ⟨rfl, rfl⟩ (by as_aux_lemma => kernel_rfl) rfl
  (fun f fn hf hfn => by
    obtain rfl : f = 5 := Option.some.inj ((show Tryz.prog.funcNamed "census/censuslaw45.HashAdds" = some 5 by as_aux_lemma => kernel_rfl).symm.trans hf) |>.symm
    obtain rfl : fn = Tryz.f5 := (Option.some.inj (Tryz.func5.symm.trans hfn)).symm
    exact ⟨by as_aux_lemma => kernel_rfl, fun j t ht => by
     rw [Tryz.params5] at ht
     have hm : t ∈ [24, 5, 38, 40] := by simpa using Array.mem_of_getElem? ht
     have hall : ([24, 5, 38, 40].all fun u => !Tryz.prog.wantsStandIn u) = true := by as_aux_lemma => kernel_rfl
     exact (show Tryz.prog.wantsStandIn t = false by simpa using List.all_eq_true.1 hall t hm)⟩)
  (by as_aux_lemma => kernel_rfl)
#print axioms hashAdds_card
end Go.Proofs.YtlleofjjdhfgcaaGreatDoor
