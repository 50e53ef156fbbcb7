/- Parts of the proofs of laws. Texts: Cp7. -/
import Derived.Test.YtnlaakmglhjjmaaGreatDoorYC11
set_option maxHeartbeats 8000000
set_option maxRecDepth 100000
set_option linter.all false
namespace Go.Proofs.YtnlaakmglhjjmaaGreatDoor
open Go.RowKit Cen
def zzv(g cap base:Nat)(l:List Ce)(w:World)(e:Ending)(w':World):Prop:=
 e=.returned (.slice (some ⟨g,0,none⟩) (za6 l l.length).length cap)/\OwnC w' base (.slice (some ⟨g,0,none⟩) (za6 l l.length).length cap) (za6 l l.length)/\Kp (fun y=>y=g) w w'
theorem zia{l:List Ce}{k:Nat}(hk:0<k):zf9 l k=!decide ((gd l k).xs=(gd l (k-1)).xs):=by
 unfold zf9;rw[decide_eq_false (show¬k=0 by omega)]
 by_cases h:(gd l k).xs=(gd l (k-1)).xs<;>simp[h]
theorem OwnC.room{w:World}{base g cap n:Nat}{l:List Ce}(h:OwnC w base (.slice (some ⟨g,0,none⟩) n cap) l)(hn:n=l.length):n<=cap:=by
 subst hn
 rcases h.2 with⟨h1,_⟩|⟨g',cap',cur,hv,_,_,hnc,_⟩
 ·simp at h1
 simp only[Value.slice.injEq]at hv;omega
theorem ziw(g cap base:Nat)(l:List Ce)(w:World)(ho:OwnC w base (.slice (some ⟨g,0,none⟩) l.length cap) l)(hc:CsOk w g l)(hm:l.length<=1073741824):
 Calls Tryz.prog 129 #[.slice (some ⟨g,0,none⟩) l.length cap,FN2] w (zzv g cap base l w):=by
 have HO:=lh ho;have HC:=lh hc;have hcf:=zo2;have hcap:=OwnC.room ho rfl;clear ho hc
 by_cases h2:l.length<2
 ·have hd:decide ((l.length:Int)<2)=true:=by simp;omega
  have hd2:decide (l.length<2)=true:=by simp;omega
  have HE:Hid (za6 l l.length=l):=by
   show _=_
   rw[zf3 _ (Nat.le_refl _) fun t ht=>by rw[show t=0 by omega];rfl,List.take_length]
  clear h2;go_enter Tryz.func129,Tryz.ntmps129;go_wp2;go_ret;exact⟨by rw[HE.o];rfl,by rw[HE.o];exact HO.o,Kp.refl _ _⟩
 have hd:decide ((l.length:Int)<2)=false:=by simp;omega
 have hd2:decide (l.length<2)=false:=by simp;omega
 go_enter Tryz.func129,Tryz.ntmps129;go_wp2_with fail;clear hd hd2
 go_loopw[5](fun i wr=>∃k:Nat,1<=k/\k<=l.length/\i=.int .i64 k/\(∀t,t<k->zf9 l t=true)/\Below w.heap.size w wr)(fun i _=>l.length-(intOf i).toNat)
 case atStart=>exact⟨1,by omega,by omega,rfl,fun t ht=>by rw[show t=0 by omega];rfl,Below.refl _ _⟩
 obtain⟨k,hk1,hk2,rfl,hall,hb⟩:=hrel;have HALL:=lh hall;have HB:=lh hb;have HOR:Hid (OwnC wr base (.slice (some ⟨g,0,none⟩) l.length cap) l):=OwnL.later HO.o hb;clear hall hb
 by_cases hlt:k<l.length
 ·have hki:((k:Nat):Int)<(l.length:Int):=by omega
  have hkj:((k-1:Nat):Int)<(l.length:Int):=by omega
  have gl:=HOR.o.lt.1
  have e1:IntKind.i64.wrap ((k:Int)-1)=((k-1:Nat):Int):=by rw[IntWalk.i64_in _ (by omega)];omega
  have E1:=lh e1;clear e1;have a0:=OwnC.c0 HOR.o rfl (show k<l.length by omega);have a1:=OwnC.c1 HOR.o rfl (show k<l.length by omega);have b0:=OwnC.c0 HOR.o rfl (show k-1<l.length by omega);have b1:=OwnC.c1 HOR.o rfl (show k-1<l.length by omega);have HCA:=lh (fun V hV=>ycn HC.o (i:=k) (j:=(k-1)) (by omega) (by omega) V hV)
  have HKS:Hid (∀w':World,Below wr.heap.size wr w'->w'.cell? ⟨g,k*2,none⟩=some (.slice (gd l k).a (gd l k).xs.length (gd l k).c)/\w'.cell? ⟨g,k*2+1,none⟩=some (.int .i64 (gd l k).i)/\w'.cell? ⟨g,(k-1)*2,none⟩=some (.slice (gd l (k-1)).a (gd l (k-1)).xs.length (gd l (k-1)).c)/\w'.cell? ⟨g,(k-1)*2+1,none⟩=some (.int .i64 (gd l (k-1)).i)):=lh fun w' h=>⟨zab h a0,zab h a1,zab h b0,zab h b1⟩
  obtain⟨eb,heb⟩:=nm (decide ((gd l (k)).xs=(gd l ((k-1))).xs));rw[<-heb]at HCA;have HEB:=lh heb;clear heb
  cases eb
  ·go_wp2_with fail;have e1:=E1.o
   go_region_held3(fun w'=>w'.cell? ⟨g,k*2,none⟩=some (.slice (gd l k).a (gd l k).xs.length (gd l k).c)/\w'.cell? ⟨g,k*2+1,none⟩=some (.int .i64 (gd l k).i)/\w'.cell? ⟨g,(k-1)*2,none⟩=some (.slice (gd l (k-1)).a (gd l (k-1)).xs.length (gd l (k-1)).c)/\w'.cell? ⟨g,(k-1)*2+1,none⟩=some (.int .i64 (gd l (k-1)).i))
    (first
      |exact HKS.o _ (Below.refl _ _).drew
      |exact HKS.o _ hv5)
    (first
      | (go_at_call 130
         refine Calls.mono (HCA.o _ (Kp.below (HB.o.trans ((Below.refl wr.heap.size wr).drew.mono HB.o.size)))) ?_;rintro e v5⟨rfl,hb5⟩
         have hv5:Below wr.heap.size wr v5:=(Below.refl wr.heap.size wr).drew.trans (hb5.mono (Nat.le_refl _))))
   all_goals
    have HV5:=lh hv5;clear hb5 hv5 e1
    have HKB:Hid (zf9 l k=true):=by show _=_;rw[zia (by omega),<-HEB.o];rfl
    clear a0 a1 b0 b1;go_wp2;go_roundw
    case rel=>exact⟨k+1,by omega,by omega,by go_num,fun t ht=>if e:t<k then HALL.o t e else by rw[show t=k by omega];exact HKB.o,HB.o.trans (HV5.o.mono HB.o.size)⟩
    case measure=>simp[intOf];omega
  go_wp2_with fail;have e1:=E1.o
  go_region_held3(fun w'=>w'.cell? ⟨g,k*2,none⟩=some (.slice (gd l k).a (gd l k).xs.length (gd l k).c)/\w'.cell? ⟨g,k*2+1,none⟩=some (.int .i64 (gd l k).i)/\w'.cell? ⟨g,(k-1)*2,none⟩=some (.slice (gd l (k-1)).a (gd l (k-1)).xs.length (gd l (k-1)).c)/\w'.cell? ⟨g,(k-1)*2+1,none⟩=some (.int .i64 (gd l (k-1)).i))
   (first
     |exact HKS.o _ (Below.refl _ _).drew
     |exact HKS.o _ hv5)
   (first
     | (go_at_call 130
        refine Calls.mono (HCA.o _ (Kp.below (HB.o.trans ((Below.refl wr.heap.size wr).drew.mono HB.o.size)))) ?_;rintro e v5⟨rfl,hb5⟩
        have hv5:Below wr.heap.size wr v5:=(Below.refl wr.heap.size wr).drew.trans (hb5.mono (Nat.le_refl _))))
  all_goals
   have HV5:=lh hv5;clear hb5 hv5 e1
   have HKB:Hid (zf9 l k=false):=by show _=_;rw[zia (by omega),<-HEB.o];rfl
   have HC1:Hid (za6 l (k+1)=l.take k):=by
    show _=_
    rw[zdv,HKB.o,zf3 k hk2 HALL.o];rfl
   have HC1L:Hid ((za6 l (k+1)).length=k):=by show _=_;rw[HC1.o,List.length_take];omega
   clear a0 a1 b0 b1;have HO5':Hid (OwnC v5 base (.slice (some ⟨g,0,none⟩) l.length cap) l):=OwnL.later HOR.o HV5.o;have HB5:=lh (HB.o.trans (HV5.o.mono HB.o.size));go_wp2_with fail
   go_loopw[5,7](fun i jj wr=>∃j:Nat,1<=j/\j<=l.length-k/\(za6 l (k+j)).length<=k+j-1/\i=.int .i64 ((za6 l (k+j)).length:Nat)/\jj=.int .i64 j/\∃M,OwnC wr base (.slice (some ⟨g,0,none⟩) l.length cap) M/\l.length=M.length/\M.take (za6 l (k+j)).length=za6 l (k+j)/\(∀t,(za6 l (k+j)).length<=t->gd M t=gd l t)/\Kp (fun y=>y=g) w wr)(fun _ jj _=>l.length-k-(intOf jj).toNat)
   case atStart=>exact⟨1,by omega,by omega,by rw[HC1L.o];omega,by rw[HC1L.o],rfl,l,HO5'.out,rfl,by rw[HC1L.o,HC1.o],fun _ _=>rfl,Kp.below HB5.o⟩
   obtain⟨j,hj1,hj2,hcl,rfl,rfl,M,hom,hml,htk,hsa,hkp⟩:=hrel;have HCL:=lh hcl;have HOM:=lh hom;have HML:=lh hml;have HTK:=lh htk;have HSA:=lh hsa;have HKP:=lh hkp;clear hcl hom hml htk hsa hkp
   by_cases hlj:j<l.length-k
   ·have hj1:k+j<l.length:=by omega
    have hji:((j:Nat):Int)<((l.length-k:Nat):Int):=by omega
    have hjn:j<l.length-k:=by omega
    have hjj:((j-1:Nat):Int)<((l.length-k:Nat):Int):=by omega
    have hjm:j-1<l.length-k:=by omega
    have gl:=HOM.o.lt.1
    have e1:IntKind.i64.wrap ((j:Int)-1)=((j-1:Nat):Int):=by rw[IntWalk.i64_in _ (by omega)];omega
    have E1:=lh e1;clear e1;have q1:gd M (k+j)=gd l (k+j):=HSA.o _ (Nat.le_trans HCL.o (by omega));have q2:gd M (k+j-1)=gd l (k+j-1):=HSA.o _ HCL.o
    have a0:wr.cell? ⟨g,k*2+j*2,none⟩=some (.slice (gd l (k+j)).a (gd l (k+j)).xs.length (gd l (k+j)).c):=by
     have:=OwnC.c0 HOM.o HML.o (show k+j<M.length by have:=HML.o;omega);rw[q1,show(k+j)*2=k*2+j*2 by omega]at this;exact this
    have a1:wr.cell? ⟨g,k*2+j*2+1,none⟩=some (.int .i64 (gd l (k+j)).i):=by
     have:=OwnC.c1 HOM.o HML.o (show k+j<M.length by have:=HML.o;omega);rw[q1,show(k+j)*2+1=k*2+j*2+1 by omega]at this;exact this
    have b0:wr.cell? ⟨g,k*2+(j-1)*2,none⟩=some (.slice (gd l (k+j-1)).a (gd l (k+j-1)).xs.length (gd l (k+j-1)).c):=by
     have:=OwnC.c0 HOM.o HML.o (show k+j-1<M.length by have:=HML.o;omega);rw[q2,show(k+j-1)*2=k*2+(j-1)*2 by omega]at this;exact this
    have b1:wr.cell? ⟨g,k*2+(j-1)*2+1,none⟩=some (.int .i64 (gd l (k+j-1)).i):=by
     have:=OwnC.c1 HOM.o HML.o (show k+j-1<M.length by have:=HML.o;omega);rw[q2,show(k+j-1)*2+1=k*2+(j-1)*2+1 by omega]at this;exact this
    clear q1 q2;have HCA:=lh (fun V hV=>ycn HC.o (i:=(k+j)) (j:=(k+j-1)) (by omega) (by omega) V hV)
    have HKS:Hid (∀w':World,Below wr.heap.size wr w'->w'.cell? ⟨g,k*2+j*2,none⟩=some (.slice (gd l (k+j)).a (gd l (k+j)).xs.length (gd l (k+j)).c)/\w'.cell? ⟨g,k*2+j*2+1,none⟩=some (.int .i64 (gd l (k+j)).i)/\w'.cell? ⟨g,k*2+(j-1)*2,none⟩=some (.slice (gd l (k+j-1)).a (gd l (k+j-1)).xs.length (gd l (k+j-1)).c)/\w'.cell? ⟨g,k*2+(j-1)*2+1,none⟩=some (.int .i64 (gd l (k+j-1)).i)):=lh fun w' h=>⟨zab h a0,zab h a1,zab h b0,zab h b1⟩
    obtain⟨eb,heb⟩:=nm (decide ((gd l ((k+j))).xs=(gd l ((k+j-1))).xs));rw[<-heb]at HCA;have HEB:=lh heb;clear heb
    cases eb
    ·go_wp2_with fail;have e1:=E1.o
     go_region_held3(fun w'=>w'.cell? ⟨g,k*2+j*2,none⟩=some (.slice (gd l (k+j)).a (gd l (k+j)).xs.length (gd l (k+j)).c)/\w'.cell? ⟨g,k*2+j*2+1,none⟩=some (.int .i64 (gd l (k+j)).i)/\w'.cell? ⟨g,k*2+(j-1)*2,none⟩=some (.slice (gd l (k+j-1)).a (gd l (k+j-1)).xs.length (gd l (k+j-1)).c)/\w'.cell? ⟨g,k*2+(j-1)*2+1,none⟩=some (.int .i64 (gd l (k+j-1)).i))
      (first
        |exact HKS.o _ (Below.refl _ _).drew
        |exact HKS.o _ hv5)
      (first
        | (go_at_call 130
           refine Calls.mono (HCA.o _ (Kp.trans (M:=fun y=>y=g) HKP.o (Kp.below ((Below.refl wr.heap.size wr).drew)))) ?_;rintro e v5⟨rfl,hb5⟩
           have hv5:Below wr.heap.size wr v5:=(Below.refl wr.heap.size wr).drew.trans (hb5.mono (Nat.le_refl _))))
     all_goals
      have HV5:=lh hv5;clear hb5 hv5 e1
      have HKB:Hid (za6 l (k+j+1)=za6 l (k+j)++[gd l (k+j)]):=by show _=_;rw[zdv,zia (by omega),<-HEB.o];rfl
      obtain⟨x0,x1,_,_⟩:=HKS.o v5 HV5.o;have HO5:Hid (OwnC v5 base (.slice (some ⟨g,0,none⟩) l.length cap) M):=OwnL.later HOM.o HV5.o
      have hcm:(za6 l (k+j)).length<M.length:=by have:=HML.o;have:=HCL.o;omega
      have HPUT:Hid (OwnC ((v5.setCell ⟨g,(za6 l (k+j)).length*2,none⟩ (.slice (gd l (k+j)).a (gd l (k+j)).xs.length (gd l (k+j)).c)).setCell ⟨g,(za6 l (k+j)).length*2+1,none⟩ (.int .i64 (gd l (k+j)).i)) base (.slice (some ⟨g,0,none⟩) l.length cap) (M.set (za6 l (k+j)).length (gd l (k+j)))):=HO5.o.put2 HML.o ziq _ hcm (gd l (k+j)) _ _ rfl
      have HKK:Hid (∀c d,Kp (fun y=>y=g) w ((v5.setCell ⟨g,(za6 l (k+j)).length*2,none⟩ c).setCell ⟨g,(za6 l (k+j)).length*2+1,none⟩ d)):=fun c d=>Kp.trans (M:=fun y=>y=g) (Kp.trans (M:=fun y=>y=g) (Kp.trans (M:=fun y=>y=g) HKP.o (Kp.below HV5.o)) (Kp.setCell (M:=fun y=>y=g) _ _ _ rfl)) (Kp.setCell (M:=fun y=>y=g) _ _ _ rfl)
      have HTK2:Hid ((M.set (za6 l (k+j)).length (gd l (k+j))).take ((za6 l (k+j)).length+1)=za6 l (k+j)++[gd l (k+j)]):=by
       show _=_
       rw[List.take_succ_eq_append_getElem (by simpa using hcm),List.take_set_of_le (Nat.le_refl _),HTK.o]
       simp
      have HSA2:Hid (∀t,(za6 l (k+j)).length+1<=t->gd (M.set (za6 l (k+j)).length (gd l (k+j))) t=gd l t):=fun t ht=>by
       rw[<-HSA.o t (by omega)]
       show(M.set _ _).getD t default=M.getD t default
       simp[List.getD_eq_getElem?_getD,List.getElem?_set_ne (show(za6 l (k+j)).length≠t by omega)]
      have f1:=HO5.o.fr HML.o ((za6 l (k+j)).length*2);have f2:=HO5.o.fr HML.o ((za6 l (k+j)).length*2+1);have g5:=HO5.o.lt.1;have y0:=OwnC.c0 HO5.o HML.o hcm;have y1:=OwnC.c1 HO5.o HML.o hcm;have hcl:=HCL.o
      have hci:(((za6 l (k+j)).length:Nat):Int)<(l.length:Int):=by omega
      generalize hcn:(za6 l (k+j)).length=cn at*;have HCN:=lh hcn;clear a0 a1 b0 b1 hcn hcm;go_wp2;go_roundw
      case rel=>exact⟨j+1,by omega,by omega,by rw[show k+(j+1)=k+j+1 by omega,HKB.o,List.length_append,HCN.o];simp;omega,by rw[show k+(j+1)=k+j+1 by omega,HKB.o,List.length_append,HCN.o];simp,by go_num,_,HPUT.o,by rw[List.length_set];exact HML.o,by rw[show k+(j+1)=k+j+1 by omega,HKB.o,List.length_append,HCN.o];exact HTK2.o,by rw[show k+(j+1)=k+j+1 by omega,HKB.o,List.length_append,HCN.o];exact HSA2.o,HKK.o _ _⟩
      case measure=>simp[intOf];omega
    go_wp2_with fail;have e1:=E1.o
    go_region_held3(fun w'=>w'.cell? ⟨g,k*2+j*2,none⟩=some (.slice (gd l (k+j)).a (gd l (k+j)).xs.length (gd l (k+j)).c)/\w'.cell? ⟨g,k*2+j*2+1,none⟩=some (.int .i64 (gd l (k+j)).i)/\w'.cell? ⟨g,k*2+(j-1)*2,none⟩=some (.slice (gd l (k+j-1)).a (gd l (k+j-1)).xs.length (gd l (k+j-1)).c)/\w'.cell? ⟨g,k*2+(j-1)*2+1,none⟩=some (.int .i64 (gd l (k+j-1)).i))
     (first
       |exact HKS.o _ (Below.refl _ _).drew
       |exact HKS.o _ hv5)
     (first
       | (go_at_call 130
          refine Calls.mono (HCA.o _ (Kp.trans (M:=fun y=>y=g) HKP.o (Kp.below ((Below.refl wr.heap.size wr).drew)))) ?_;rintro e v5⟨rfl,hb5⟩
          have hv5:Below wr.heap.size wr v5:=(Below.refl wr.heap.size wr).drew.trans (hb5.mono (Nat.le_refl _))))
    all_goals
     have HV5:=lh hv5;clear hb5 hv5 e1
     have HKB:Hid (za6 l (k+j+1)=za6 l (k+j)):=by show _=_;rw[zdv,zia (by omega),<-HEB.o];rfl
     clear a0 a1 b0 b1;go_wp2;go_roundw
     case rel=>exact⟨j+1,by omega,by omega,by rw[show k+(j+1)=k+j+1 by omega,HKB.o];exact Nat.le_trans HCL.o (by omega),by rw[show k+(j+1)=k+j+1 by omega,HKB.o],by go_num,M,HOM.o.later HV5.o,HML.o,by rw[show k+(j+1)=k+j+1 by omega,HKB.o];exact HTK.o,by rw[show k+(j+1)=k+j+1 by omega,HKB.o];exact HSA.o,Kp.trans (M:=fun y=>y=g) HKP.o (Kp.below HV5.o)⟩
     case measure=>simp[intOf];omega
   have hje:k+j=l.length:=by omega
   have HJE:=lh hje;rw[hje]at HCL HTK HSA⊢;have hcl:=HCL.o;obtain⟨vs,hvs⟩:=zt3 HOM.o HML.o (i:=(za6 l l.length).length) (by omega) 0 (cap-(za6 l l.length).length);have HCT:=lh (OwnC.cutTo HOM.o HML.o (i:=(za6 l l.length).length) (by omega) vs);have HKV:=lh (Kp.trans (M:=fun y=>y=g) HKP.o (zfr g vs ((za6 l l.length).length*2) wr));rw[HTK.o]at HCT;generalize hcn:(za6 l l.length).length=cn at*;have HCN:=lh hcn;clear hcn hje
   have hnlt:¬((j:Int)<((l.length-k:Nat):Int)):=by omega
   have hcn2:(cn:Int)<(l.length:Int):=by omega
   go_wp2_with fail;go_ret;exact⟨by rw[HCN.o];rfl,by rw[HCN.o];exact HCT.o,HKV.o⟩
 have:k=l.length:=by omega
 have HE:Hid (za6 l l.length=l):=by
  show _=_
  rw[zf3 _ (Nat.le_refl _) fun t ht=>HALL.o t (by omega),List.take_length]
 subst this;go_wp2;go_ret;exact⟨by rw[HE.o];rfl,by rw[HE.o];exact HOR.o,Kp.below HB.o⟩
end Go.Proofs.YtnlaakmglhjjmaaGreatDoor
