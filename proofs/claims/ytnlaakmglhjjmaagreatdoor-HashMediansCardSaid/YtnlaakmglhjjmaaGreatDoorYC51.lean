/- Parts of the proofs of laws. Texts: Kn, ArgW. -/
import Derived.Test.YtnlaakmglhjjmaaGreatDoorYC50
import Derived.Test.YtnlaakmglhjjmaaGreatDoorYC48
set_option maxHeartbeats 8000000
set_option maxRecDepth 100000
set_option linter.all false
namespace Go.Proofs.YtnlaakmglhjjmaaGreatDoor
open Go.RowKit Cen
theorem sd_pairwise{l:List Nat}(h:Sd leN l 0 l.length):l.Pairwise (·<=·):=by
 rw[List.pairwise_iff_getElem];intro i j hi hj hij;have:=h i j (Nat.zero_le _) hij hj;rw[zar hi,zar hj]at this;exact this
theorem meds_both(z:Int)(a:Option Addr)(cap:Nat)(t:List Cl)(sa:Option Addr)(sc:Nat)(S:List (List Nat))(m:Int)(w:World)(h5:lgt45 z t=true)(h9:S.length<=9)(h300:∀i,i<S.length->(S.getD i []).length<=300)(hx:LsCells w a t)(hs:SdCells w sa S)(htab:Tab w)(hdt:Dtab w):
 ∃(Q:Nat)(c:Int),Q<=16777216/\(∀V,Below w.heap.size w V->Calls Tryz.prog 19 #[.agg #[.int .i64 z,.slice a t.length cap],.slice sa S.length sc,.int .i64 m] V (zls Q c V))/\
  ∀V,Below w.heap.size w V->Calls Tryz.prog 20 #[.agg #[.int .i64 z,.slice a t.length cap],.slice sa S.length sc,.int .i64 m] V (R45 (decB Q) c V):=by
 obtain⟨h60,hz⟩:=light45_is h5
 have htl:∀c∈t,c.length<=1073741824:=fun c hc=>by have:=h60.2 c hc;omega
 by_cases hc:chkT z t=0
 ·obtain⟨n,rfl,hn8⟩:=hz hc
  by_cases h0:S.length=0
  ·rw[h0];refine⟨0,1,by decide,fun V hV=>med_none n a cap t sa sc m V (hx.keep hV) (by omega) htl hc,fun V hV=>?_⟩;rw[dec_nil];exact med45_none n a cap t sa sc m V (hx.keep hV) (by omega) hc
  obtain⟨xs,hxs⟩:∃xs:List Nat,xs=S.map fun bs=>(estV n t m bs).1:=⟨_,rfl⟩
  obtain⟨ok,hok⟩:∃ok:Nat->Bool,ok=fun k=>(estV n t m (S.getD k [])).2:=⟨_,rfl⟩
  have hxl:xs.length=S.length:=by rw[hxs,List.length_map]
  have hgd:∀k,k<S.length->gd xs k=(estV n t m (S.getD k [])).1:=fun k hk=>by
   rw[zar (by omega)]
   simp[hxs,List.getD_eq_getElem?_getD,hk]
  have two:=fun V(hV:Below w.heap.size w V)k(hk:k<S.length)ka kc(hc2:U8Cells V ka (S.getD k []))=>est_two n a cap t ka kc (S.getD k []) m V hn8 hc h60 (h300 k hk) (hx.keep hV) hc2 (htab.keep hV) (hdt.keep hV)
  have hbn:bN xs:=fun x hx1=>by
   obtain⟨k,hk,rfl⟩:=List.getElem_of_mem hx1;rw[<-zar hk,hgd k (by omega)];obtain⟨_,_,ka,kc,_,_,hu⟩:=hs k (by omega);exact(two w (Below.refl _ _) k (by omega) ka kc hu).2.2
  have hA:=fun V(hV:Below w.heap.size w V)=>med_gen n a cap t sa sc S m ok xs V (hx.keep hV) (by omega) htl hc (hs.keep hV) (by omega) (by omega) hxl hbn fun U hU k hk ka kc hc2=>by
   rw[hgd k hk,hok];exact(two U (hV.trans (hU.mono hV.size)) k hk ka kc hc2).1
  have hB:=fun V(hV:Below w.heap.size w V)=>med45_gen n a cap t sa sc S m ok xs V (hx.keep hV) (by omega) hc (hs.keep hV) (by omega) (by omega) hxl hbn fun U hU k hk ka kc hc2=>by
   rw[hgd k hk,hok];exact(two U (hV.trans (hU.mono hV.size)) k hk ka kc hc2).2.1
  by_cases hall:∀k,k<S.length->ok k=true
  ·obtain⟨Q,hQ⟩:=nm (gd (xs.mergeSort (·<=·)) ((S.length-1)/2));have hps:(xs.mergeSort (·<=·)).Perm xs:=List.mergeSort_perm _ _
   have hpw:(xs.mergeSort (·<=·)).Pairwise (·<=·):=(List.pairwise_mergeSort (le:=fun a b=>decide (a<=b)) (fun a b c h1 h2=>by simp at*;omega) (fun a b=>by simp;omega) xs).imp fun h=>by simpa using h
   have huq:∀l:List Nat,l.Perm xs->l.Pairwise (·<=·)->gd l ((S.length-1)/2)=Q:=fun l h1 h2=>by
    rw[hQ,List.Perm.eq_of_pairwise (fun a b _ _ h3 h4=>Nat.le_antisymm h3 h4) h2 hpw (h1.trans hps.symm)]
   refine⟨Q,0,?_,fun V hV=>(hA V hV).mono fun e w' h=>?_,fun V hV=>(hB V hV).mono fun e w' h=>?_⟩
   ·have hl:(xs.mergeSort (·<=·)).length=S.length:=by rw[hps.length_eq,hxl]
    rw[hQ,zar (by omega)];exact hbn _ (hps.mem_iff.1 (List.getElem_mem _))
   ·rcases h with⟨k,hk,h1,_⟩|⟨_,l',h1,h2,h3,h4⟩
    ·rw[hall k hk]at h1;simp at h1
    rw[<-h1.length_eq]at h2;have:=huq l' h1 (sd_pairwise h2);rw[hxl,this]at h3;exact⟨h3,h4⟩
   rcases h with⟨k,hk,h1,_⟩|⟨_,l',h1,h2,h3⟩
   ·rw[hall k hk]at h1;simp at h1
   rw[huq l' h1 h2]at h3;exact h3
  refine⟨0,1,by decide,fun V hV=>(hA V hV).mono fun e w' h=>?_,fun V hV=>(hB V hV).mono fun e w' h=>?_⟩
  ·rcases h with⟨_,_,_,h⟩|⟨h,_⟩
   ·exact h
   exact absurd h hall
  rcases h with⟨_,_,_,h⟩|⟨h,_⟩
  ·rw[dec_nil];exact h
  exact absurd h hall
 refine⟨0,chkT z t,by decide,fun V hV=>med_bad z a cap t sa sc S.length m (chkT z t) V (hx.keep hV) (by omega) htl rfl hc,fun V hV=>?_⟩;rw[dec_nil];exact med45_bad z a cap t sa sc S.length m (chkT z t) V (hx.keep hV) (by omega) rfl hc
theorem hmeds_any(z:Int)(a:Option Addr)(cap:Nat)(t:List Cl)(sa:Option Addr)(sc:Nat)(S:List (List Nat))(m:Int)(w:World)(hl:t.length<=9223372036854775807)(hx:LsCells w a t)(hll:S.length<=9223372036854775807)(hs:SdCells w sa S)(htab:Tab w)(hdt:Dtab w):
 Calls Tryz.prog 6 #[.agg #[.int .i64 z,.slice a t.length cap],.slice sa S.length sc,.int .i64 m] w fun e w'=>e=.returned (.bool true)/\Below w.heap.size w w':=by
 obtain⟨w0,hw0⟩:=nm (w.alloc (.cells #[.int .i64 z,.slice a t.length cap] 26))
 have hb0:Below w.heap.size w w0:=by rw[hw0];exact ba _ _
 have q0:Blk w0 w.heap.size #[.int .i64 z,.slice a t.length cap] 26:=by rw[hw0];exact Blk.new _ _ _
 have HLI:=lh (light45_any z a cap t w0 hl (hx.keep hb0));have HWK:=lh (fun V(hV:Below w.heap.size w V)=>zfz V (htab.keep hV) (hdt.keep hV));have HB0:=lh hb0;have HQ0:=lh q0;have k0:=q0.cell 0;have k1:=q0.cell 1;have kz:=q0.lt
 by_cases hc:lgt45 z t=true/\S.length<=9
 case' neg=>
  cases hlt:lgt45 z t
  case' true=>
   have h20:(9:Int)<(S.length:Int):=by
    have:¬S.length<=9:=fun h=>hc ⟨hlt,h⟩
    omega
  all_goals
   rw[hlt]at HLI;clear hb0 q0 hx hl hlt hll hs htab hdt hc;go_enter Tryz.func6,Tryz.ntmps6;go_wp2_with fail;rw[<-hw0];clear hw0;refine HLI.o.mono ?_;rintro e w1⟨rfl,hb1⟩;have HB1:=bt HB0 hb1;clear hb1 k0 k1 kz;go_wp2_with fail;refine(HWK.o _ HB1.o).mono ?_;rintro e w2⟨rfl,hb2⟩;go_wp2;go_ret;exact⟨rfl,HB1.o.trans (hb2.mono HB1.o.size)⟩
 obtain⟨hlt,h20⟩:=hc;have HBO:=lh (fun h=>meds_both z a cap t sa sc S m w hlt h20 h hx hs htab hdt);have HSD:=lh (fun V(hV:Below w.heap.size w V)=>hs.keep hV);have HTX:=lh (fun Q hQ V=>text2_any Q hQ V)
 have h20i:¬(9:Int)<(S.length:Int):=by omega
 rw[hlt]at HLI;clear hb0 q0 hx hl hlt hll hs htab hdt h20;obtain⟨N,hN⟩:=nm S.length;have HNL:=lh hN;rw[<-hN]at h20i HBO⊢;clear hN;go_enter Tryz.func6,Tryz.ntmps6;go_wp2_with fail;rw[<-hw0];clear hw0;refine HLI.o.mono ?_;rintro e w1⟨rfl,hb1⟩;have HB1:=bt HB0 hb1;have HQ1:=lh (HQ0.o.later hb1);clear hb1 k0 k1 kz HLI HB0 HQ0;go_wp2_with fail
 go_loopw[24](fun i wr=>∃k:Nat,k<=N/\i=.int .i64 k/\Hid (∀j,j<k->(S.getD j []).length<=300)/\wr=w1)(fun i _=>N-(intOf i).toNat)
 case atStart=>exact⟨0,Nat.zero_le _,rfl,fun j hj=>absurd hj (Nat.not_lt_zero _),rfl⟩
 obtain⟨k,hk,rfl,HSL,rfl⟩:=hrel
 by_cases hlt:k<N
 ·have hki:(k:Int)<(N:Int):=by omega
  obtain⟨b,off,ka,kc,hsa,c0,_⟩:=HSD.o _ HB1.o k (by have:=HNL.o;omega);have cz:=zai c0;subst hsa
  by_cases h3:(S.getD k []).length<=300
  ·have HS2:Hid (∀j,j<k+1->(S.getD j []).length<=300):=fun j hj=>by
    by_cases e:j=k
    ·rw[e];exact h3
    exact HSL.o j (by omega)
   have h3i:¬(300:Int)<((S.getD k []).length:Int):=by omega
   generalize(S.getD k []).length=sl at*;clear h3 HSL;go_wp2_with fail;go_roundw
   case rel=>exact⟨k+1,by omega,by go_num,HS2,by first|rfl|trivial⟩
   case measure=>simp[intOf];omega
  have h3i:(300:Int)<((S.getD k []).length:Int):=by omega
  generalize(S.getD k []).length=sl at*;clear h3 HSL;go_wp2_with fail;refine(HWK.o _ HB1.o).mono ?_;rintro e w2⟨rfl,hb2⟩;go_wp2;go_ret;exact⟨rfl,HB1.o.trans (hb2.mono HB1.o.size)⟩
 obtain rfl:k=N:=by omega
 have hkn:¬((k:Int)<(k:Int)):=by omega
 obtain⟨Q,c,hQ,hca,hcb⟩:=HBO.o HSL.o;have HCA:=lh hca;have HCB:=lh hcb;have HTQ:=lh (HTX.o Q hQ);clear hca hcb hQ HBO HTX;have k0:=HQ1.o.cell 0;have k1:=HQ1.o.cell 1;have kz:=HQ1.o.lt;go_wp2_with fail;refine(HCA.o _ HB1.o).mono ?_;rintro e w2⟨rfl,hb2⟩;have HB2:=bt HB1 hb2;have HQ2:=lh (HQ1.o.later hb2);clear hb2 k0 k1 kz HQ1 HB1 HCA;obtain⟨nb,hnb⟩:=nm w2.heap.size;obtain⟨w3,hw3⟩:=nm (w2.alloc (.cells #[.string (natB Q)] 36))
 have hb3:Below w2.heap.size w2 w3:=by rw[hw3];exact ba _ _
 have q3:Blk w3 nb #[.string (natB Q)] 36:=by rw[hw3,hnb];exact Blk.new _ _ _
 have HB3:=bt HB2 hb3;have HQ3:=lh (HQ2.o.later hb3);have HN3:=lh q3
 go_upto_region 10 with fail
 rw[<-hw3,<-hnb];clear hw3 hnb hb3 q3 HQ2 HB2;have k0:=HQ3.o.cell 0;have k1:=HQ3.o.cell 1;have kz:=HQ3.o.lt;go_wp2_with fail;refine(HCB.o _ HB3.o).mono ?_;rintro e wx⟨rfl,hbx⟩;have HBX:=bt HB3 hbx;have q4:=HN3.o.later hbx;have n0:=q4.cell 0;have nz:=q4.lt;clear hbx k0 k1 kz;go_wp2_with fail;refine(HTQ.o _).mono ?_;rintro e w5⟨rfl,hb5⟩;have HB5:=bt HBX hb5;clear hb5 n0 nz q4;go_wp2_with fail;refine(HWK.o _ HB5.o).mono ?_;rintro e w6⟨rfl,hb6⟩;go_wp2;go_ret;exact⟨rfl,HB5.o.trans (hb6.mono HB5.o.size)⟩
end Go.Proofs.YtnlaakmglhjjmaaGreatDoor
namespace Go.Proofs.YtnlaakmglhjjmaaGreatDoor
open Go.Joins Go.ChangeShapes Go.WideShapes Go.ChangeAt Go.Deep Go.RowKit Cen
section
variable{H:Type}{enc:TypeId×Value->H}{W:World}{base:Nat}{spare:Nat->Bool}{held:Bool}
theorem open_sds{fuel:Nat}{v:Value}{x:DataW H×List MemPlace}(h:DataW.trod enc Tryz.prog W base spare held fuel 54 [v]=some x):
 ∃(a:Option Addr)(l:List (List Nat))(cap:Nat),v=.slice a l.length cap/\l.length<=9223372036854775807/\SdCells W a l:=by
 rcases open_slice Tryz.underlying54 h with⟨hcs,_⟩|⟨a,len,cap,m,n,D,Pl,hcs,_,hl,hm,hmm,_,hi⟩
 ·simp only[List.cons.injEq,and_true]at hcs;subst hcs;exact⟨none,[],0,rfl,by simp,SdCells.nil _ _⟩
 simp only[List.cons.injEq,and_true]at hcs;subst hcs
 have hlm:len<=m:=by rw[hmm];split<;>omega
 clear hmm
 have hC:Tryz.prog.cellsOf 50=1:=by kernel_rfl
 have each:∀i,i<len->∃x:List Nat,∃ai ci,W.cell? (a.add i)=some (.slice ai x.length ci)/\U8Cells W ai x:=by
  intro i hil;obtain⟨cs',hc,ht'⟩:=hi i (by omega);rw[hC,Nat.mul_one]at hc;obtain⟨_,hcl,hat⟩:=World.cells?_some hc
  obtain⟨v0,rfl⟩:∃v0,cs'=[v0]:=by
   match cs',hcl with
   |[v0],_=>exact⟨v0,rfl⟩
  have hcell:=hat 0 (by omega);rw[Go.Deep.add_add,Nat.add_zero]at hcell;obtain⟨ai,li,ci,e2,_,h3⟩:=open_u8 ht';subst e2;exact⟨li,ai,ci,hcell,h3⟩
 obtain⟨l,hll,hq⟩:=zvb len each;refine⟨some a,l,cap,by rw[hll],?_,fun i hil=>?_⟩
 ·have:maxLen=9223372036854775807:=rfl;omega
 rw[hll]at hil;obtain⟨ai,ci,h1,h2⟩:=hq i hil;have ea:=zv5 (hq 0 (by omega)).choose_spec.choose_spec.1;exact⟨a.block,a.off,ai,ci,by rw[<-ea],zts h1,h2⟩
theorem open_seeds{r:Reach}{b0:Nat}{v:Value}{d:DataW H}{p:List MemPlace}(hv:Value.okWide Tryz.prog W r b0 54 v)(h:DataW.Trod enc Tryz.prog W base spare held 54 v d p):
 ∃(a:Option Addr)(l:List (List Nat))(cap:Nat),v=.slice a l.length cap/\l.length<=9223372036854775807/\SdCells W a l:=by
 obtain⟨a0,la,ca,rfl⟩:=okWide_slice Tryz.underlying54 hv;obtain⟨fuel,hf⟩:=h;exact open_sds (v:=.slice a0 la ca) hf
end
end Go.Proofs.YtnlaakmglhjjmaaGreatDoor
