/- censuslaw45.HashEstimates returns true for every input, and the input reads as before. Conditions: the tables that the row lists are laid. Texts: EHCard. -/
import Derived.Test.YtnlaakmglhjjmaaGreatDoorYC48
import Derived.Test.YtnlaakmglhjjmaaGreatDoorCards
import Derived.Test.YtnlaakmglhjjmaaGreatDoorTie
set_option maxHeartbeats 8000000
set_option maxRecDepth 100000
set_option linter.all false
namespace Go.Proofs.YtnlaakmglhjjmaaGreatDoor
open Go.ChangeShapes Go.WideShapes Go.ChangeAt Go.RowKit Cen
theorem hashestimates_lifted(os:Os)(started:os.Started)(H:Type)(enc:TypeId×Value->H):
 ReturnsInHanded {} Tryz.checked os 5 .any (fun w args=>(Rows.hashEstimatesSpec.pre enc Tryz.prog Tryz.f5 [] false w args/\laidMetH Tryz.prog laidOf w)/\sizedMet enc Tryz.prog Tryz.f5 (OpenSpec.ofChange Rows.hashEstimatesSpec) false w args)
  (Rows.hashEstimatesSpec.post enc Tryz.prog Tryz.f5 false true false false):=by
 refine returnsInHanded_of_change_and (C:=Tryz.checked) (X:=fun w _=>laidMetH Tryz.prog laidOf w) (fun _ _ _ hh h=>h.of_heap hh) ycy started (by kernel_rfl) Tryz.func5
  (ChangeSpec.witness_shaped (enc:=enc) (C:=Tryz.checked) (os:=os) (X:=fun w _=>laidMetH Tryz.prog laidOf w) false (World.laidAll Tryz.prog os laidOf) #[.agg #[.int .i64 0,.slice none 0 0],.slice none 0 0,.int .i64 0] 8 (World.laidAll_os _ _ _)
    (World.shaped_of_ZipB (by kernel_rfl) (by kernel_rfl)) (by kernel_rfl) (by kernel_rfl) (by kernel_rfl)
    (by rw[MakeChecks.laidMetH_plain _ _ _ laid_plain];exact laidMet_laidAll _ (by kernel_rfl) (by kernel_rfl))) ?_
 intro W base args ds gs before hval0 hW _ _ hL _;have hval:∀(j:Nat)t v,Tryz.f5.params[j]?=some t->args[j]?=some v->Value.okWide Tryz.prog W .any base t v:=hval0;have hW':=hW;obtain⟨p,q,hA0,hV,rfl,_,_⟩:=hW;have hA:DataW.TrodAll enc Tryz.prog W 0 (fun _=>true) true Tryz.f5.params.toList args.toList ds p:=hA0;rw[Tryz.params5]at hA hval;obtain⟨v0,v1,v2,d0,d1,d2,p0,p1,p2,rfl,rfl,rfl,h0,h1,h2⟩:=trodAll_three hA;obtain⟨rfl,rfl⟩:=trodVars_none hV;obtain⟨n0,a0,l0,cap0,e0,hl0,hx0,hi0⟩:=zhq (hval 0 26 v0 rfl rfl) h0;subst e0;obtain⟨a1,l1,cap1,e1,hl1,hx1⟩:=open_u8s (hval 1 50 v1 rfl rfl) h1
 subst e1;obtain⟨z2,e2,_,_,hw2⟩:=open_int Tryz.underlying3 (hval 2 3 v2 rfl rfl) h2;subst e2;have ht:=zj3 hL;have hdt:=zho hL;clear hA0 hval0 hval hA hV;simp only[List.append_nil]at hW'
 refine(hests_any n0 a0 cap0 l0 a1 cap1 l1 z2 W hl0 hx0 hl1 hx1 ht hdt).mono fun e W'⟨he,hb⟩=>?_
 subst he
 have hlt:∀x∈p0++p1++p2,x.block<W.heap.size:=fun x hx=>hW'.lt x hx
 refine⟨_,rfl,zgi (pa:=p0++p1++p2) (pv:=[]) hW' (fun _ _ _=>trodAll_mk1 (shut_bool Tryz.underlying4 true)) (fun sp hsp=>?_) (fun _ _=>rfl) (by simp) hb (ok_one (by kernel_rfl) rfl (okWide_bool_mk Tryz.underlying4 _))⟩;exact(by rw[List.append_assoc];exact trodAll_mk3 (WideElems.Trod_stays zdy (by kernel_rfl) (of_decide_eq_true (by kernel_rfl)) h0 (fun x hx=>hb.same (hlt x (List.mem_append_left _ (List.mem_append_left _ hx)))) (fun x hx=>hsp x (List.mem_append_left _ (List.mem_append_left _ hx)))) (WideElems.Trod_stays zdy (by kernel_rfl) (of_decide_eq_true (by kernel_rfl)) h1 (fun x hx=>hb.same (hlt x (List.mem_append_left _ (List.mem_append_right _ hx)))) (fun x hx=>hsp x (List.mem_append_left _ (List.mem_append_right _ hx)))) (WideElems.Trod_stays zdy (by kernel_rfl) (of_decide_eq_true (by kernel_rfl)) h2 (fun x hx=>hb.same (hlt x (List.mem_append_right _ hx))) (fun x hx=>hsp x (List.mem_append_right _ hx))))
theorem hashestimates_holds:Rows.HashEstimatesSaid:=
 OpenClaim.holds_of_wide 5 Tryz.f5 rfl rfl rfl rfl rfl rfl rfl ⟨rfl,rfl,rfl,rfl,rfl⟩ rfl rfl rfl rfl rfl (by as_aux_lemma=>kernel_rfl) Tryz.func5 (by as_aux_lemma=>kernel_rfl)
  (of_decide_eq_true (by as_aux_lemma=>kernel_rfl)) (by unfold Func.isWrapper;first|(rw[if_pos (by decide+kernel)];kernel_rfl)|(rw[if_neg (by decide+kernel)];exact⟨rfl,rfl⟩))
  (fun os started H enc _=>hashestimates_lifted os started H enc)
theorem hashEstimates_card:Rows.HashEstimatesCardSaid:=
 Claim7.holds_tied_plain_at .later [] [.data,.data,.data] true (true, "8e765df1d6c3d76c51dcffed01fbc5249fbac2688f069d9648aa34aa8b620046") true
  hashestimates_holds (fun _ h=>by cases h) (by as_aux_lemma=>kernel_rfl) (fun _ h=>by cases h) hashEstimates_row_tie rfl ⟨rfl,rfl⟩ (by as_aux_lemma=>kernel_rfl) rfl
  (fun f fn hf hfn=>by
    obtain rfl:f=5:=Option.some.inj ((show Tryz.prog.funcNamed "census/censuslaw45.HashEstimates"=some 5 by as_aux_lemma=>kernel_rfl).symm.trans hf)|>.symm
    obtain rfl:fn=Tryz.f5:=(Option.some.inj (Tryz.func5.symm.trans hfn)).symm
    exact⟨by as_aux_lemma=>kernel_rfl,fun j t ht=>by
     rw[Tryz.params5]at ht
     have hm:t∈[26,50,3]:=by simpa using Array.mem_of_getElem? ht
     have hall:([26,50,3].all fun u=>!Tryz.prog.wantsStandIn u)=true:=by as_aux_lemma=>kernel_rfl
     exact(show Tryz.prog.wantsStandIn t=false by simpa using List.all_eq_true.1 hall t hm)⟩)
  (by as_aux_lemma=>kernel_rfl)
#print axioms hashEstimates_card
end Go.Proofs.YtnlaakmglhjjmaaGreatDoor
