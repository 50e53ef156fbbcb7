/- Parts of the proofs of laws. Texts: Cp4. -/
import Derived.Test.YtnlaakmglhjjmaaGreatDoorYC9
import Derived.Deep.DeepCutAuto
set_option maxHeartbeats 8000000
set_option maxRecDepth 100000
set_option linter.all false
namespace Go.Proofs.YtnlaakmglhjjmaaGreatDoor
open Go.RowKit Cen
theorem zfs{e f h:Ce}(h1:leC e f)(h2:ltC f.xs h.xs):ltC e.xs h.xs:=by
 unfold leC at h1;unfold ltC at*
 rcases Int.lt_trichotomy (cmpC e.xs f.xs) 0 with k|k|k
 ·exact zgd k h2
 ·rw[zit.1 k];exact h2
 exact absurd (ziu k) h1
theorem zyu(g cap base a b:Nat)(l:List Ce)(w:World)(ho:OwnC w base (.slice (some ⟨g,0,none⟩) l.length cap) l)(hc:CsOk w g l)(h1:a+1<b)(h2:b<=l.length)(hm:l.length<=1073741824)(hs:Sd leC l (a+1) b):
 Calls Tryz.prog 171 #[(.slice (some ⟨g,0,none⟩) l.length cap),.int .i64 (a:Int),.int .i64 ((a+1:Nat):Int),.int .i64 (b:Int),FN] w (zik g cap base l a b w):=by
 have HO:=lh ho;have HC:=lh hc;have HS:=lh hs;have hcf:=zd4;obtain⟨m,hm1⟩:=nm (a+1);rw[<-hm1]at HS⊢
 have e0:((m:Int)-(a:Int)==1)=true:=by simp;omega
 have HM:=lh hm1
 have hma:a+1<=m/\m<=a+1:=by omega
 clear ho hc hs hm1;go_enter Tryz.func171,Tryz.ntmps171;go_wp2_with fail;clear e0
 go_loopw[10,11,12](fun i j _ wr=>∃p q:Nat,m<=p/\p<=q/\q<=b/\i=.int .i64 p/\j=.int .i64 q/\(∀t,m<=t->t<p->ltC (gd l t).xs (gd l a).xs)/\(∀t,q<=t->t<b->¬ltC (gd l t).xs (gd l a).xs)/\Below w.heap.size w wr)(fun i j _ _=>(intOf j).toNat-(intOf i).toNat)
 case atStart=>exact⟨m,b,Nat.le_refl _,by omega,Nat.le_refl _,rfl,rfl,fun t h1 h2=>by omega,fun t h1 h2=>by omega,Below.refl _ _⟩
 obtain⟨p,q,hp1,hpq,hq3,rfl,rfl,hlo,hhi,hb⟩:=hrel;have HLO:=lh hlo;have HHI:=lh hhi;have HBR:=lh hb;have HOR:Hid (OwnC wr base (.slice (some ⟨g,0,none⟩) l.length cap) l):=OwnL.later HO.o hb;clear hlo hhi hb
 by_cases hlt:p<q
 ·obtain⟨h,hh⟩:=nm ((p+q)/2)
  have hh1:p<=h:=by omega
  have hh2:h<q:=by omega
  have eh:((p:Int)+(q:Int))/2=(h:Int):=by omega
  clear hh
  have hil:h<l.length:=by omega
  have hjl:a<l.length:=by omega
  have HCA:=lh (fun V hV=>zqu HC.o hil hjl V hV);have gl:=HOR.o.lt.1
  have hii:((h:Nat):Int)<(l.length:Int):=by omega
  have hjj:((a:Nat):Int)<(l.length:Int):=by omega
  obtain⟨cv,hcv⟩:=nm (cmpC (gd l h).xs (gd l a).xs);rw[<-hcv]at HCA;have HCV:=lh hcv;clear hcv;have a0:=OwnC.c0 HOR.o rfl hil;have a1:=OwnC.c1 HOR.o rfl hil;have b0:=OwnC.c0 HOR.o rfl hjl;have b1:=OwnC.c1 HOR.o rfl hjl
  have HKS:Hid (∀w':World,Below wr.heap.size wr w'->w'.cell? ⟨g,h*2,none⟩=some (.slice (gd l h).a (gd l h).xs.length (gd l h).c)/\w'.cell? ⟨g,h*2+1,none⟩=some (.int .i64 (gd l h).i)/\w'.cell? ⟨g,a*2,none⟩=some (.slice (gd l a).a (gd l a).xs.length (gd l a).c)/\w'.cell? ⟨g,a*2+1,none⟩=some (.int .i64 (gd l a).i)):=lh fun w' h=>⟨zab h a0,zab h a1,zab h b0,zab h b1⟩
  by_cases hneg:cv<0
  ·have hd1:decide (cv<0)=true:=by simpa using hneg
   have HNEG:Hid (ltC (gd l h).xs (gd l a).xs):=by show _;unfold ltC;rw[<-HCV.o];exact hneg
   clear hneg
   as_aux_lemma=>
   go_wp2_with fail
   go_region_held3(fun w'=>w'.cell? ⟨g,h*2,none⟩=some (.slice (gd l h).a (gd l h).xs.length (gd l h).c)/\w'.cell? ⟨g,h*2+1,none⟩=some (.int .i64 (gd l h).i)/\w'.cell? ⟨g,a*2,none⟩=some (.slice (gd l a).a (gd l a).xs.length (gd l a).c)/\w'.cell? ⟨g,a*2+1,none⟩=some (.int .i64 (gd l a).i))
    (first
      |exact HKS.o _ (Below.refl _ _).drew
      |exact HKS.o _ hv5)
    (first
      | (go_at_call 126
         refine Calls.mono (HCA.o _ (Kp.below (HBR.o.trans ((Below.refl wr.heap.size wr).drew.mono HBR.o.size)))) ?_;rintro e v5⟨rfl,hb5⟩
         have hv5:Below wr.heap.size wr v5:=(Below.refl wr.heap.size wr).drew.trans (hb5.mono (Nat.le_refl _))))
   all_goals
    have HB5:=bt HBR hv5;clear hb5 hv5 a0 a1 b0 b1;go_wp2;go_roundw
    case rel=>exact⟨h+1,q,by omega,by omega,hq3,ival (by omega),rfl,fun t h1 h2=>if c:t<p then HLO.o t h1 c else by
     by_cases e:t=h
     ·rw[e];exact HNEG.o
     exact zfs (HS.o t h h1 (by omega) (by omega)) HNEG.o,HHI.o,HB5.o⟩
    case measure=>simp[intOf];omega
  have hd1:decide (cv<0)=false:=by simpa using hneg
  have HNEG:Hid (¬ltC (gd l h).xs (gd l a).xs):=by show¬_;unfold ltC;rw[<-HCV.o];exact hneg
  clear hneg
  as_aux_lemma=>
  go_wp2_with fail
  go_region_held3(fun w'=>w'.cell? ⟨g,h*2,none⟩=some (.slice (gd l h).a (gd l h).xs.length (gd l h).c)/\w'.cell? ⟨g,h*2+1,none⟩=some (.int .i64 (gd l h).i)/\w'.cell? ⟨g,a*2,none⟩=some (.slice (gd l a).a (gd l a).xs.length (gd l a).c)/\w'.cell? ⟨g,a*2+1,none⟩=some (.int .i64 (gd l a).i))
   (first
     |exact HKS.o _ (Below.refl _ _).drew
     |exact HKS.o _ hv5)
   (first
     | (go_at_call 126
        refine Calls.mono (HCA.o _ (Kp.below (HBR.o.trans ((Below.refl wr.heap.size wr).drew.mono HBR.o.size)))) ?_;rintro e v5⟨rfl,hb5⟩
        have hv5:Below wr.heap.size wr v5:=(Below.refl wr.heap.size wr).drew.trans (hb5.mono (Nat.le_refl _))))
  all_goals
   have HB5:=bt HBR hv5;clear hb5 hv5 a0 a1 b0 b1;go_wp2;go_roundw
   case rel=>exact⟨p,h,hp1,by omega,by omega,rfl,rfl,HLO.o,fun t h1 h2=>if c:q<=t then HHI.o t c h2 else fun hn=>HNEG.o (by
    by_cases e:t=h
    ·rw[<-e];exact hn
    exact zfs (HS.o h t (by omega) (by omega) (by omega)) hn),HB5.o⟩
   case measure=>simp[intOf];omega
 have hpe:q=p:=by omega
 subst hpe
 have hdq:decide (q<q)=false:=by simp
 have HLE:Hid (∀t,a+1<=t->t<q->leC (gd l t) (gd l a)):=fun t h1 h2=>zre (HLO.o t (by omega) h2)
 have HGE:Hid (∀t,q<=t->t<b->leC (gd l a) (gd l t)):=fun t h1 h2=>HHI.o t h1 h2
 have hqb:q<=b:=hq3
 have hqm:a+1<=q:=by omega
 go_wp2_with fail;clear hdq
 go_loopw[13](fun k wr=>∃u:Nat,a<=u/\u<=q-1/\k=.int .i64 u/\∃M,OwnC wr base (.slice (some ⟨g,0,none⟩) l.length cap) M/\M.Perm l/\Mov l M a u/\Kp (fun y=>y=g) w wr)(fun k _=>q-(intOf k).toNat)
 case atStart=>exact⟨a,Nat.le_refl _,by omega,rfl,l,HOR.o,List.Perm.refl _,Mov.start _ _,Kp.below HBR.o⟩
 obtain⟨u,hu1,hu2,rfl,M,hown,hperm,hmov,hkp⟩:=hrel;have HOW:=lh hown;have HPE:=lh hperm;have HMV:=lh hmov;have HKP:=lh hkp;have hml:M.length=l.length:=hperm.length_eq;have HML:Hid (l.length=M.length):=hml.symm;clear hown hperm hmov hkp
 by_cases hlt:u<q-1
 ·have hil:u<M.length:=by omega
  have hjl:u+1<M.length:=by omega
  have hkk:((u:Nat):Int)<(l.length:Int):=by omega
  have hkj:((u+1:Nat):Int)<(l.length:Int):=by omega
  have hil2:u<l.length:=by omega
  have hjl2:u+1<l.length:=by omega
  have e1:IntKind.i64.wrap ((u:Int)+1)=((u+1:Nat):Int):=by rw[IntWalk.i64_in _ (by omega)];omega
  have E1:=lh e1;clear e1
  have hdk:decide ((u:Int)<(q:Int)-1)=true:=by simp;omega
  have HSW:=lh (HOW.o.swp HML.o hil hjl);have a0:=HOW.o.c0 HML.o hil;have a1:=HOW.o.c1 HML.o hil;have b0:=HOW.o.c0 HML.o hjl;have b1:=HOW.o.c1 HML.o hjl;have f1:=HOW.o.fr HML.o (u*2);have f2:=HOW.o.fr HML.o (u*2+1);have f3:=HOW.o.fr HML.o ((u+1)*2);have f4:=HOW.o.fr HML.o ((u+1)*2+1);have gl:=HOW.o.lt.1
  have HKK:Hid (∀c d e f,Kp (fun y=>y=g) w ((((wr.setCell ⟨g,u*2,none⟩ c).setCell ⟨g,u*2+1,none⟩ d).setCell ⟨g,(u+1)*2,none⟩ e).setCell ⟨g,(u+1)*2+1,none⟩ f)):=fun c d e f=>by
   have N:=Kp.setCell (M:=fun y=>y=g);exact Kp.trans (M:=fun y=>y=g) (Kp.trans (M:=fun y=>y=g) (Kp.trans (M:=fun y=>y=g) (Kp.trans (M:=fun y=>y=g) HKP.o (N _ _ _ rfl)) (N _ _ _ rfl)) (N _ _ _ rfl)) (N _ _ _ rfl)
  generalize(gd M (u)).a=ya at*;generalize(gd M (u)).xs.length=yl at*;generalize(gd M (u)).c=yc at*;generalize(gd M (u)).i=yi at*;generalize(gd M (u+1)).a=za at*;generalize(gd M (u+1)).xs.length=zl at*;generalize(gd M (u+1)).c=zc at*;generalize(gd M (u+1)).i=zi at*;go_wp2_with fail;have e1:=E1.o;go_region
  all_goals
   clear e1;go_wp2;go_roundw
   case rel=>exact⟨u+1,by omega,by omega,ival (by omega),swp M u (u+1),HSW.o.later (Below.refl _ _).drew,(zgp hil hjl).trans HPE.o,HMV.o.step hu1 (by omega),Kp.trans (M:=fun y=>y=g) (HKK.o _ _ _ _) (Kp.below (Below.refl _ _).drew)⟩
   case measure=>simp[intOf];omega
 have hdk:decide ((u:Int)<(q:Int)-1)=false:=by simp;omega
 have hue:u=q-1:=by omega
 have HMG:Hid (Mg leC l M a b):=Mov.merge (by rw[<-hue];exact HMV.o) HPE.o hqm hqb (by rw[<-HM.o];exact HS.o) HLE.o HGE.o;clear hue;go_wp2
 go_end0
 exact⟨M,HMG.o,rfl,HOW.o,HKP.o⟩
theorem zji{e f h:Ce}(h1:ltC e.xs f.xs)(h2:leC f h):ltC e.xs h.xs:=by
 unfold leC at h2;unfold ltC at*
 rcases Int.lt_trichotomy (cmpC f.xs h.xs) 0 with k|k|k
 ·exact zgd h1 k
 ·rw[<-zit.1 k];exact h1
 exact absurd (ziu k) h2
theorem zyv(g cap base a m:Nat)(l:List Ce)(w:World)(ho:OwnC w base (.slice (some ⟨g,0,none⟩) l.length cap) l)(hc:CsOk w g l)(h1:a+1<m)(h2:m+1<=l.length)(hm:l.length<=1073741824)(hs:Sd leC l a m):
 Calls Tryz.prog 171 #[(.slice (some ⟨g,0,none⟩) l.length cap),.int .i64 (a:Int),.int .i64 (m:Int),.int .i64 ((m+1:Nat):Int),FN] w (zik g cap base l a (m+1) w):=by
 have HO:=lh ho;have HC:=lh hc;have HS:=lh hs;have hcf:=zd4;obtain⟨b,hb1⟩:=nm (m+1);rw[<-hb1]
 have e0:((m:Int)-(a:Int)==1)=false:=by simp;omega
 have e2:((b:Int)-(m:Int)==1)=true:=by simp;omega
 have HM:=lh hb1
 have hba:m+1<=b/\b<=m+1:=by omega
 clear ho hc hs hb1;go_enter Tryz.func171,Tryz.ntmps171;go_wp2_with fail;clear e0 e2
 go_loopw[14,15,16](fun i j _ wr=>∃p q:Nat,a<=p/\p<=q/\q<=m/\i=.int .i64 p/\j=.int .i64 q/\(∀t,a<=t->t<p->leC (gd l t) (gd l m))/\(∀t,q<=t->t<m->ltC (gd l m).xs (gd l t).xs)/\Below w.heap.size w wr)(fun i j _ _=>(intOf j).toNat-(intOf i).toNat)
 case atStart=>exact⟨a,m,Nat.le_refl _,by omega,Nat.le_refl _,rfl,rfl,fun t h1 h2=>by omega,fun t h1 h2=>by omega,Below.refl _ _⟩
 obtain⟨p,q,hp1,hpq,hq3,rfl,rfl,hlo,hhi,hb⟩:=hrel;have HLO:=lh hlo;have HHI:=lh hhi;have HBR:=lh hb;have HOR:Hid (OwnC wr base (.slice (some ⟨g,0,none⟩) l.length cap) l):=OwnL.later HO.o hb;clear hlo hhi hb
 by_cases hlt:p<q
 ·obtain⟨h,hh⟩:=nm ((p+q)/2)
  have hh1:p<=h:=by omega
  have hh2:h<q:=by omega
  have eh:((p:Int)+(q:Int))/2=(h:Int):=by omega
  clear hh
  have hil:m<l.length:=by omega
  have hjl:h<l.length:=by omega
  have HCA:=lh (fun V hV=>zqu HC.o hil hjl V hV);have gl:=HOR.o.lt.1
  have hii:((m:Nat):Int)<(l.length:Int):=by omega
  have hjj:((h:Nat):Int)<(l.length:Int):=by omega
  obtain⟨cv,hcv⟩:=nm (cmpC (gd l m).xs (gd l h).xs);rw[<-hcv]at HCA;have HCV:=lh hcv;clear hcv;have a0:=OwnC.c0 HOR.o rfl hil;have a1:=OwnC.c1 HOR.o rfl hil;have b0:=OwnC.c0 HOR.o rfl hjl;have b1:=OwnC.c1 HOR.o rfl hjl
  have HKS:Hid (∀w':World,Below wr.heap.size wr w'->w'.cell? ⟨g,m*2,none⟩=some (.slice (gd l m).a (gd l m).xs.length (gd l m).c)/\w'.cell? ⟨g,m*2+1,none⟩=some (.int .i64 (gd l m).i)/\w'.cell? ⟨g,h*2,none⟩=some (.slice (gd l h).a (gd l h).xs.length (gd l h).c)/\w'.cell? ⟨g,h*2+1,none⟩=some (.int .i64 (gd l h).i)):=lh fun w' h=>⟨zab h a0,zab h a1,zab h b0,zab h b1⟩
  by_cases hneg:cv<0
  ·have hd1:decide (cv<0)=true:=by simpa using hneg
   have HNEG:Hid (ltC (gd l m).xs (gd l h).xs):=by show _;unfold ltC;rw[<-HCV.o];exact hneg
   clear hneg
   as_aux_lemma=>
   go_wp2_with fail
   go_region_held3(fun w'=>w'.cell? ⟨g,m*2,none⟩=some (.slice (gd l m).a (gd l m).xs.length (gd l m).c)/\w'.cell? ⟨g,m*2+1,none⟩=some (.int .i64 (gd l m).i)/\w'.cell? ⟨g,h*2,none⟩=some (.slice (gd l h).a (gd l h).xs.length (gd l h).c)/\w'.cell? ⟨g,h*2+1,none⟩=some (.int .i64 (gd l h).i))
    (first
      |exact HKS.o _ (Below.refl _ _).drew
      |exact HKS.o _ hv5)
    (first
      | (go_at_call 126
         refine Calls.mono (HCA.o _ (Kp.below (HBR.o.trans ((Below.refl wr.heap.size wr).drew.mono HBR.o.size)))) ?_;rintro e v5⟨rfl,hb5⟩
         have hv5:Below wr.heap.size wr v5:=(Below.refl wr.heap.size wr).drew.trans (hb5.mono (Nat.le_refl _))))
   all_goals
    have HB5:=bt HBR hv5;clear hb5 hv5 a0 a1 b0 b1;go_wp2;go_roundw
    case rel=>exact⟨p,h,hp1,by omega,by omega,rfl,rfl,HLO.o,fun t h1 h2=>if c:q<=t then HHI.o t c h2 else(by
     by_cases e:t=h
     ·rw[e];exact HNEG.o
     exact zji HNEG.o (HS.o h t (by omega) (by omega) h2)),HB5.o⟩
    case measure=>simp[intOf];omega
  have hd1:decide (cv<0)=false:=by simpa using hneg
  have HNEG:Hid (¬ltC (gd l m).xs (gd l h).xs):=by show¬_;unfold ltC;rw[<-HCV.o];exact hneg
  clear hneg
  as_aux_lemma=>
  go_wp2_with fail
  go_region_held3(fun w'=>w'.cell? ⟨g,m*2,none⟩=some (.slice (gd l m).a (gd l m).xs.length (gd l m).c)/\w'.cell? ⟨g,m*2+1,none⟩=some (.int .i64 (gd l m).i)/\w'.cell? ⟨g,h*2,none⟩=some (.slice (gd l h).a (gd l h).xs.length (gd l h).c)/\w'.cell? ⟨g,h*2+1,none⟩=some (.int .i64 (gd l h).i))
   (first
     |exact HKS.o _ (Below.refl _ _).drew
     |exact HKS.o _ hv5)
   (first
     | (go_at_call 126
        refine Calls.mono (HCA.o _ (Kp.below (HBR.o.trans ((Below.refl wr.heap.size wr).drew.mono HBR.o.size)))) ?_;rintro e v5⟨rfl,hb5⟩
        have hv5:Below wr.heap.size wr v5:=(Below.refl wr.heap.size wr).drew.trans (hb5.mono (Nat.le_refl _))))
  all_goals
   have HB5:=bt HBR hv5;clear hb5 hv5 a0 a1 b0 b1;go_wp2;go_roundw
   case rel=>exact⟨h+1,q,by omega,by omega,hq3,ival (by omega),rfl,fun t h1 h2=>if c:t<p then HLO.o t h1 c else by
    by_cases e:t=h
    ·rw[e];exact HNEG.o
    exact ordC_leC.tr _ _ _ (HS.o t h (by omega) (by omega) (by omega)) HNEG.o,HHI.o,HB5.o⟩
   case measure=>simp[intOf];omega
 have hpe:q=p:=by omega
 subst hpe
 have hdq:decide (q<q)=false:=by simp
 have HLE:Hid (∀t,a<=t->t<q->leC (gd l t) (gd l m)):=fun t h1 h2=>HLO.o t h1 h2
 have HGE:Hid (∀t,q<=t->t<m->leC (gd l m) (gd l t)):=fun t h1 h2=>zre (HHI.o t h1 h2)
 have hqb:q<=m:=hq3
 have hqm:a<=q:=by omega
 go_wp2_with fail;clear hdq
 go_loopw[17](fun k wr=>∃u:Nat,q<=u/\u<=m/\k=.int .i64 u/\∃M,OwnC wr base (.slice (some ⟨g,0,none⟩) l.length cap) M/\M.Perm l/\Ins l M m u/\Kp (fun y=>y=g) w wr)(fun k _=>(intOf k).toNat)
 case atStart=>exact⟨m,by omega,Nat.le_refl _,rfl,l,HOR.o,List.Perm.refl _,Ins.start _ _,Kp.below HBR.o⟩
 obtain⟨u,hu1,hu2,rfl,M,hown,hperm,hmov,hkp⟩:=hrel;have HOW:=lh hown;have HPE:=lh hperm;have HMV:=lh hmov;have HKP:=lh hkp;have hml:M.length=l.length:=hperm.length_eq;have HML:Hid (l.length=M.length):=hml.symm;clear hown hperm hmov hkp
 by_cases hlt:q<u
 ·have hil:u<M.length:=by omega
  have hjl:u-1<M.length:=by omega
  have hkk:((u:Nat):Int)<(l.length:Int):=by omega
  have hkj:((u-1:Nat):Int)<(l.length:Int):=by omega
  have hil2:u<l.length:=by omega
  have hjl2:u-1<l.length:=by omega
  have e1:IntKind.i64.wrap ((u:Int)-1)=((u-1:Nat):Int):=by rw[IntWalk.i64_in _ (by omega)];omega
  have E1:=lh e1;clear e1
  have hdk:decide ((q:Int)<(u:Int))=true:=by simp;omega
  have hdk2:decide (q<u)=true:=by simp;omega
  have HSW:=lh (HOW.o.swp HML.o hil hjl);have a0:=HOW.o.c0 HML.o hil;have a1:=HOW.o.c1 HML.o hil;have b0:=HOW.o.c0 HML.o hjl;have b1:=HOW.o.c1 HML.o hjl;have f1:=HOW.o.fr HML.o (u*2);have f2:=HOW.o.fr HML.o (u*2+1);have f3:=HOW.o.fr HML.o ((u-1)*2);have f4:=HOW.o.fr HML.o ((u-1)*2+1);have gl:=HOW.o.lt.1
  have HKK:Hid (∀c d e f,Kp (fun y=>y=g) w ((((wr.setCell ⟨g,u*2,none⟩ c).setCell ⟨g,u*2+1,none⟩ d).setCell ⟨g,(u-1)*2,none⟩ e).setCell ⟨g,(u-1)*2+1,none⟩ f)):=fun c d e f=>by
   have N:=Kp.setCell (M:=fun y=>y=g);exact Kp.trans (M:=fun y=>y=g) (Kp.trans (M:=fun y=>y=g) (Kp.trans (M:=fun y=>y=g) (Kp.trans (M:=fun y=>y=g) HKP.o (N _ _ _ rfl)) (N _ _ _ rfl)) (N _ _ _ rfl)) (N _ _ _ rfl)
  generalize(gd M (u)).a=ya at*;generalize(gd M (u)).xs.length=yl at*;generalize(gd M (u)).c=yc at*;generalize(gd M (u)).i=yi at*;generalize(gd M (u-1)).a=za at*;generalize(gd M (u-1)).xs.length=zl at*;generalize(gd M (u-1)).c=zc at*;generalize(gd M (u-1)).i=zi at*;go_wp2_with fail;have e1:=E1.o;go_region
  all_goals
   clear e1;go_wp2;go_roundw
   case rel=>exact⟨u-1,by omega,by omega,ival (by omega),swp M u (u-1),HSW.o.later (Below.refl _ _).drew,(zgp hil hjl).trans HPE.o,HMV.o.step (by omega) hu2 (by omega),Kp.trans (M:=fun y=>y=g) (HKK.o _ _ _ _) (Kp.below (Below.refl _ _).drew)⟩
   case measure=>simp[intOf];omega
 have hdk:decide ((q:Int)<(u:Int))=false:=by simp;omega
 have hdk2:decide (q<u)=false:=by simp;omega
 have hue:u=q:=by omega
 have HMG:Hid (Mg leC l M a b):=by rw[HM.o];exact Ins.merge ordC_leC (by rw[<-hue];exact HMV.o) HPE.o hqm hqb HS.o HLE.o HGE.o
 clear hue;go_wp2
 go_end0
 exact⟨M,HMG.o,rfl,HOW.o,HKP.o⟩
theorem ycu{l l':List Ce}{a b:Nat}(h:Mg leC l l' a b):l'.length=l.length:=h.perm.length_eq
def ztp(N:Nat):Prop:=∀(g cap base a m b:Nat)(l:List Ce)(w:World),b-a<=N->OwnC w base (.slice (some ⟨g,0,none⟩) l.length cap) l->CsOk w g l->a<m->m<b->b<=l.length->l.length<=1073741824->Sd leC l a m->Sd leC l m b->
 Calls Tryz.prog 171 #[(.slice (some ⟨g,0,none⟩) l.length cap),.int .i64 (a:Int),.int .i64 (m:Int),.int .i64 (b:Int),FN] w (zik g cap base l a b w)
def ztm(g cap base:Nat)(l:List Ce)(start m en:Nat)(w V:World):Prop:=∃r,OwnC V base (.slice (some ⟨g,0,none⟩) l.length cap) r/\r.Perm l/\(∀t,gd r t=gd l (rot start (m-start) (en-m) t))/\Kp (fun y=>y=g) w V
def zij(g cap base:Nat)(l r:List Ce)(a b:Nat)(w V:World):Prop:=∃p,OwnC V base (.slice (some ⟨g,0,none⟩) l.length cap) p/\Mg leC r p a b/\Kp (fun y=>y=g) w V
theorem ybl(p j t:Nat):rot p 0 j t=t:=by unfold rot;(repeat' split)<;>omega
theorem ybm(p i t:Nat):rot p i 0 t=t:=by unfold rot;(repeat' split)<;>omega
theorem zyw(N:Nat)(ih:ztp N)(g cap base a m b:Nat)(l:List Ce)(w:World)(hN:b-a<=N+1)(ho:OwnC w base (.slice (some ⟨g,0,none⟩) l.length cap) l)(hc:CsOk w g l)(h1:a+1<m)(h2:m+1<b)(h3:b<=l.length)(hm:l.length<=1073741824)(hs1:Sd leC l a m)(hs2:Sd leC l m b):
 Calls Tryz.prog 171 #[(.slice (some ⟨g,0,none⟩) l.length cap),.int .i64 (a:Int),.int .i64 (m:Int),.int .i64 (b:Int),FN] w (zik g cap base l a b w):=by
 have HO:=lh ho;have HC:=lh hc;have HS1:=lh hs1;have HS2:=lh hs2;have HIH:=lh ih;have hcf:=zd4
 have e0:((m:Int)-(a:Int)==1)=false:=by simp;omega
 have e2:((b:Int)-(m:Int)==1)=false:=by simp;omega
 obtain⟨mid,hmid⟩:=nm ((a+b)/2)
 have em:((a:Int)+(b:Int))/2=(mid:Int):=by omega
 have hm1:a<mid:=by omega
 have hm2:mid<b:=by omega
 have hm3:2*mid<=a+b:=by omega
 have hm4:a+b<=2*mid+1:=by omega
 obtain⟨s0,hs0⟩:=nm (if mid<m then mid+m-b else a);obtain⟨r0,hr0⟩:=nm (if mid<m then mid else m);have HS0:=lh hs0;have HR0:=lh hr0
 have b1:a<=s0:=by rw[hs0];split<;>omega
 have b2:s0<=r0:=by rw[hs0,hr0];split<;>omega
 have b3:r0<=m:=by rw[hr0];split<;>omega
 have b4:r0<=mid:=by rw[hr0];split<;>omega
 have HB5:Hid (mid+m<=b+s0):=by show _<=_;rw[hs0];split<;>omega
 have HB6:Hid (∀c,s0<=c->c<r0->m<=mid+m-1-c/\mid+m-1-c<b/\a<=c/\c<m):=fun c h1 h2=>by rw[hs0]at h1;rw[hr0]at h2;split at h1<;>split at h2<;>omega
 clear ho hc hs1 hs2 ih hmid hs0 hr0;go_enter Tryz.func171,Tryz.ntmps171
 go_upto_if 140 with fail
 go_cut[20,21](fun x y wx=>x=.int .i64 (s0:Int)/\y=.int .i64 (r0:Int)/\wx=w)
 case first=>
  as_aux_lemma=>
  by_cases hc:mid<m
  ·have hd:decide ((mid:Int)<(m:Int))=true:=by simp;omega
   have hd2:decide (mid<m)=true:=by simp;omega
   rw[hd2];have q1:=HS0.o;have q2:=HR0.o;rw[if_pos hc]at q1 q2
   have hcle:b<=mid+m:=by omega
   have Q1:=lh q1;have Q2:=lh q2;clear hc q1 q2;go_wp2_with fail
   go_meet
   exact⟨ival (by have:=Q1.o;omega),ival (by have:=Q2.o;omega),rfl⟩
  have hd:decide ((mid:Int)<(m:Int))=false:=by simp;omega
  have hd2:decide (mid<m)=false:=by simp;omega
  rw[hd2];have q1:=HS0.o;have q2:=HR0.o;rw[if_neg hc]at q1 q2;have Q1:=lh q1;have Q2:=lh q2;clear hc q1 q2;go_wp2_with fail
  go_meet
  exact⟨ival (by have:=Q1.o;omega),ival (by have:=Q2.o;omega),rfl⟩
 as_aux_lemma=>
 obtain⟨rfl,rfl,hwc⟩:=hcut;obtain rfl:w=wc:=hwc.symm;clear e0 e2 em;go_wp2_with fail
 go_loopw[20,21,23](fun i j _ wr=>∃p q:Nat,s0<=p/\p<=q/\q<=r0/\i=.int .i64 p/\j=.int .i64 q/\(∀t,s0<=t->t<p->leC (gd l t) (gd l (mid+m-1-t)))/\(∀t,q<=t->t<r0->ltC (gd l (mid+m-1-t)).xs (gd l t).xs)/\Below w.heap.size w wr)(fun i j _ _=>(intOf j).toNat-(intOf i).toNat)
 case atStart=>exact⟨s0,r0,Nat.le_refl _,by omega,Nat.le_refl _,rfl,rfl,fun t h1 h2=>by omega,fun t h1 h2=>by omega,Below.refl _ _⟩
 obtain⟨p,q,hp1,hpq,hq3,rfl,rfl,hlo,hhi,hb⟩:=hrel;have HLO:=lh hlo;have HHI:=lh hhi;have HBR:=lh hb;have HOR:Hid (OwnC wr base (.slice (some ⟨g,0,none⟩) l.length cap) l):=OwnL.later HO.o hb;clear hlo hhi hb
 by_cases hlt:p<q
 ·obtain⟨h,hh⟩:=nm ((p+q)/2)
  have hh1:p<=h:=by omega
  have hh2:h<q:=by omega
  have eh:((p:Int)+(q:Int))/2=(h:Int):=by omega
  clear hh;have k6:=HB6.o h (by omega) (by omega)
  have hil:(mid+m-1-h)<l.length:=by omega
  have ew:IntKind.i64.wrap ((mid:Int)+(m:Int)-1-(h:Int))=((mid+m-1-h:Nat):Int):=by rw[IntWalk.i64_in _ (by omega)];omega
  have EW:=lh ew;clear ew
  have hjl:h<l.length:=by omega
  have HCA:=lh (fun V hV=>zqu HC.o hil hjl V hV);have gl:=HOR.o.lt.1
  have hii:(((mid+m-1-h):Nat):Int)<(l.length:Int):=by omega
  have hjj:((h:Nat):Int)<(l.length:Int):=by omega
  obtain⟨cv,hcv⟩:=nm (cmpC (gd l (mid+m-1-h)).xs (gd l h).xs);rw[<-hcv]at HCA;have HCV:=lh hcv;clear hcv;have a0:=OwnC.c0 HOR.o rfl hil;have a1:=OwnC.c1 HOR.o rfl hil;have b0:=OwnC.c0 HOR.o rfl hjl;have b1:=OwnC.c1 HOR.o rfl hjl
  have HKS:Hid (∀w':World,Below wr.heap.size wr w'->w'.cell? ⟨g,(mid+m-1-h)*2,none⟩=some (.slice (gd l (mid+m-1-h)).a (gd l (mid+m-1-h)).xs.length (gd l (mid+m-1-h)).c)/\w'.cell? ⟨g,(mid+m-1-h)*2+1,none⟩=some (.int .i64 (gd l (mid+m-1-h)).i)/\w'.cell? ⟨g,h*2,none⟩=some (.slice (gd l h).a (gd l h).xs.length (gd l h).c)/\w'.cell? ⟨g,h*2+1,none⟩=some (.int .i64 (gd l h).i)):=lh fun w' h=>⟨zab h a0,zab h a1,zab h b0,zab h b1⟩
  by_cases hneg:cv<0
  ·have hd1:decide (cv<0)=true:=by simpa using hneg
   have HNEG:Hid (ltC (gd l (mid+m-1-h)).xs (gd l h).xs):=by show _;unfold ltC;rw[<-HCV.o];exact hneg
   clear hneg
   as_aux_lemma=>
   go_wp2_with fail;have ew:=EW.o
   go_region_held3(fun w'=>w'.cell? ⟨g,(mid+m-1-h)*2,none⟩=some (.slice (gd l (mid+m-1-h)).a (gd l (mid+m-1-h)).xs.length (gd l (mid+m-1-h)).c)/\w'.cell? ⟨g,(mid+m-1-h)*2+1,none⟩=some (.int .i64 (gd l (mid+m-1-h)).i)/\w'.cell? ⟨g,h*2,none⟩=some (.slice (gd l h).a (gd l h).xs.length (gd l h).c)/\w'.cell? ⟨g,h*2+1,none⟩=some (.int .i64 (gd l h).i))
    (first
      |exact HKS.o _ (Below.refl _ _).drew
      |exact HKS.o _ hv5)
    (first
      | (go_at_call 126
         refine Calls.mono (HCA.o _ (Kp.below (HBR.o.trans ((Below.refl wr.heap.size wr).drew.mono HBR.o.size)))) ?_;rintro e v5⟨rfl,hb5⟩
         have hv5:Below wr.heap.size wr v5:=(Below.refl wr.heap.size wr).drew.trans (hb5.mono (Nat.le_refl _))))
   all_goals
    have HB5:=bt HBR hv5;clear hb5 hv5 a0 a1 b0 b1 ew;go_wp2;go_roundw
    case rel=>exact⟨p,h,hp1,by omega,by omega,rfl,rfl,HLO.o,fun t h1 h2=>if c:q<=t then HHI.o t c h2 else(by
     by_cases e:t=h
     ·rw[e];exact HNEG.o
     have k1:=HB6.o t (by omega) h2;have k2:=HB6.o h (by omega) (by omega)
     exact zji (zfs (HS2.o _ _ k1.1 (by omega) k2.2.1) HNEG.o) (HS1.o h t k2.2.2.1 (by omega) k1.2.2.2)),HB5.o⟩
    case measure=>simp[intOf];omega
  have hd1:decide (cv<0)=false:=by simpa using hneg
  have HNEG:Hid (¬ltC (gd l (mid+m-1-h)).xs (gd l h).xs):=by show¬_;unfold ltC;rw[<-HCV.o];exact hneg
  clear hneg
  as_aux_lemma=>
  go_wp2_with fail;have ew:=EW.o
  go_region_held3(fun w'=>w'.cell? ⟨g,(mid+m-1-h)*2,none⟩=some (.slice (gd l (mid+m-1-h)).a (gd l (mid+m-1-h)).xs.length (gd l (mid+m-1-h)).c)/\w'.cell? ⟨g,(mid+m-1-h)*2+1,none⟩=some (.int .i64 (gd l (mid+m-1-h)).i)/\w'.cell? ⟨g,h*2,none⟩=some (.slice (gd l h).a (gd l h).xs.length (gd l h).c)/\w'.cell? ⟨g,h*2+1,none⟩=some (.int .i64 (gd l h).i))
   (first
     |exact HKS.o _ (Below.refl _ _).drew
     |exact HKS.o _ hv5)
   (first
     | (go_at_call 126
        refine Calls.mono (HCA.o _ (Kp.below (HBR.o.trans ((Below.refl wr.heap.size wr).drew.mono HBR.o.size)))) ?_;rintro e v5⟨rfl,hb5⟩
        have hv5:Below wr.heap.size wr v5:=(Below.refl wr.heap.size wr).drew.trans (hb5.mono (Nat.le_refl _))))
  all_goals
   have HB5:=bt HBR hv5;clear hb5 hv5 a0 a1 b0 b1 ew;go_wp2;go_roundw
   case rel=>exact⟨h+1,q,by omega,by omega,hq3,ival (by omega),rfl,fun t h1 h2=>if c:t<p then HLO.o t h1 c else by
    by_cases e:t=h
    ·rw[e];exact HNEG.o
    have k1:=HB6.o t h1 (by omega);have k2:=HB6.o h (by omega) (by omega)
    exact ordC_leC.tr _ _ _ (HS1.o t h k1.2.2.1 (by omega) k2.2.2.2) (ordC_leC.tr _ _ _ HNEG.o (HS2.o _ _ k2.1 (by omega) k1.2.1)),HHI.o,HB5.o⟩
   case measure=>simp[intOf];omega
 have hpe:q=p:=by omega
 subst hpe
 have hdq:decide (q<q)=false:=by simp
 have hqs:s0<=q:=hp1;have hqr:q<=r0:=hq3;obtain⟨en,hen⟩:=nm (mid+m-q)
 have hen1:en+q=mid+m:=by omega
 have hen2:m<=en:=by omega
 have hen3:en<=b:=by have:=HB5.o;omega
 have HFL:Hid (∀t,a<=t->t<q->∀u,en<=u->u<b->leC (gd l t) (gd l u)):=fun t h1 h2 u h3 h4=>by
  have k0:=HS0.o
  by_cases c:s0<=q-1/\1<=q
  ·have h9:=HLO.o (q-1) c.1 (by omega);rw[show mid+m-1-(q-1)=en by omega]at h9
   have h10:leC (gd l t) (gd l (q-1)):=if e:t=q-1 then by rw[e];exact ordC_leC.rf _ else HS1.o t (q-1) h1 (by omega) (by omega)
   have h11:leC (gd l en) (gd l u):=if e:u=en then by rw[e];exact ordC_leC.rf _ else HS2.o en u hen2 (by omega) h4
   exact ordC_leC.tr _ _ _ h10 (ordC_leC.tr _ _ _ h9 h11)
  split at k0<;>omega
 have HFH:Hid (∀t,q<=t->t<m->∀u,m<=u->u<en->leC (gd l u) (gd l t)):=fun t h1 h2 u h3 h4=>by
  have k0:=HR0.o
  by_cases c:q<r0
  ·have h9:=zre (HHI.o q (Nat.le_refl _) c);rw[show mid+m-1-q=en-1 by omega]at h9
   have h10:leC (gd l u) (gd l (en-1)):=if e:u=en-1 then by rw[e];exact ordC_leC.rf _ else HS2.o u (en-1) h3 (by omega) (by omega)
   have h11:leC (gd l q) (gd l t):=if e:t=q then by rw[e];exact ordC_leC.rf _ else HS1.o q t (by omega) (by omega) h2
   exact ordC_leC.tr _ _ _ h10 (ordC_leC.tr _ _ _ h9 h11)
  split at k0<;>omega
 have een:(mid:Int)+(m:Int)-(q:Int)=(en:Int):=by omega
 have HROT:Hid (∀V,OwnC V base (.slice (some ⟨g,0,none⟩) l.length cap) l->Kp (fun y=>y=g) w V->q<m->m<en->Calls Tryz.prog 186 #[(.slice (some ⟨g,0,none⟩) l.length cap),.int .i64 (q:Int),.int .i64 (m:Int),.int .i64 (en:Int),FN] V (ztn g cap base l q (m-q) (en-m) V)):=lh fun V hV _ h1 h2=>zs1 g cap base q m en l FN V hV h1 h2 (by omega) hm
 clear hen
 go_upto_region 39 with fail
 clear hdq een
 go_cut[185](fun x wx=>x=.bool (decide (q<m/\m<en))/\wx=wr)
 case first=>
  as_aux_lemma=>
  by_cases c1:q<m
  ·by_cases c2:m<en
   ·have d0:Hid (decide (q<m/\m<en)=true):=decide_eq_true ⟨c1,c2⟩
    have d1:decide ((q:Int)<(m:Int))=true:=by simp;omega
    have d2:decide (q<m)=true:=by simp;omega
    have d3:decide ((m:Int)<(en:Int))=true:=by simp;omega
    have d4:decide (m<en)=true:=by simp;omega
    clear c1 c2;go_wp2_with fail
    go_meet
    exact⟨by rw[d0.out],rfl⟩
   have d0:Hid (decide (q<m/\m<en)=false):=decide_eq_false fun h=>c2 h.2
   have d1:decide ((q:Int)<(m:Int))=true:=by simp;omega
   have d2:decide (q<m)=true:=by simp;omega
   have d3:decide ((m:Int)<(en:Int))=false:=by simp;omega
   have d4:decide (m<en)=false:=by simp;omega
   clear c1 c2;go_wp2_with fail
   go_meet
   exact⟨by rw[d0.out],rfl⟩
  have d0:Hid (decide (q<m/\m<en)=false):=decide_eq_false fun h=>c1 h.1
  have d1:decide ((q:Int)<(m:Int))=false:=by simp;omega
  have d2:decide (q<m)=false:=by simp;omega
  clear c1;go_wp2_with fail
  go_meet
  exact⟨by rw[d0.out],rfl⟩
 as_aux_lemma=>
 obtain⟨rfl,hwc⟩:=hcut;obtain rfl:wr=wc:=hwc.symm
 go_upto_if 185 with fail
 go_cut[191](fun _ wx=>ztm g cap base l q m en w wx)
 case first=>
  as_aux_lemma=>
  by_cases c:q<m/\m<en
  ·have d0:decide (q<m/\m<en)=true:=decide_eq_true c;rw[d0];obtain⟨c1,c2⟩:=c;go_wp2_with fail;refine Calls.mono (HROT.o _ HOR.o (Kp.below HBR.o) c1 c2) ?_;rintro e w5⟨r,hrot,hperm,rfl,hown,hkp⟩
   have HR1:Hid (ztm g cap base l q m en w w5):=⟨r,hown,hperm,hrot.2,Kp.trans (M:=fun y=>y=g) (Kp.below HBR.o) hkp⟩
   clear hrot hperm hown hkp;go_wp2_with fail
   go_meet
   exact HR1.o
  have d0:decide (q<m/\m<en)=false:=decide_eq_false c;rw[d0]
  have HR1:Hid (∀V,OwnC V base (.slice (some ⟨g,0,none⟩) l.length cap) l->Kp (fun y=>y=g) w V->ztm g cap base l q m en w V):=fun V h k=>⟨l,h,List.Perm.refl _,fun t=>by
   by_cases e:q<m
   ·rw[show en-m=0 by omega,ybm]
   rw[show m-q=0 by omega,ybl],k⟩
  clear c;go_wp2_with fail
  go_meet
  exact HR1.o _ HOR.o (Kp.below HBR.o)
 as_aux_lemma=>
 obtain⟨r,hro,hrp,hrt,hrk⟩:=hcut
 obtain⟨wx,rfl⟩:∃wx:World,wx=wc:=⟨_,rfl⟩
 have HRO:=lh hro;have HRP:=lh hrp;have HRT:=lh hrt;have HRK:=lh hrk;have hrl:r.length=l.length:=hrp.length_eq;have HRC:Hid (CsOk wx g r):=(HC.o.kept hrk).perm hrp;clear hro hrp hrt hrk
 have HA1:Hid (Sd leC r a q):=fun i j h1 h2 h3=>by
  rw[HRT.o i,HRT.o j,show rot q (m-q) (en-m) i=i by unfold rot;(repeat' split)<;>omega,show rot q (m-q) (en-m) j=j by unfold rot;(repeat' split)<;>omega];exact HS1.o i j h1 h2 (by omega)
 have HA2:Hid (Sd leC r q mid):=fun i j h1 h2 h3=>by
  rw[HRT.o i,HRT.o j,show rot q (m-q) (en-m) i=i+(m-q)by unfold rot;(repeat' split)<;>omega,show rot q (m-q) (en-m) j=j+(m-q)by unfold rot;(repeat' split)<;>omega];exact HS2.o _ _ (by omega) (by omega) (by omega)
 have HA3:Hid (Sd leC r mid en):=fun i j h1 h2 h3=>by
  rw[HRT.o i,HRT.o j,show rot q (m-q) (en-m) i=i-(en-m)by unfold rot;(repeat' split)<;>omega,show rot q (m-q) (en-m) j=j-(en-m)by unfold rot;(repeat' split)<;>omega];exact HS1.o _ _ (by omega) (by omega) (by omega)
 have HA4:Hid (Sd leC r en b):=fun i j h1 h2 h3=>by
  rw[HRT.o i,HRT.o j,show rot q (m-q) (en-m) i=i by unfold rot;(repeat' split)<;>omega,show rot q (m-q) (en-m) j=j by unfold rot;(repeat' split)<;>omega];exact HS2.o _ _ (by omega) (by omega) (by omega)
 have HM1:Hid (∀V,OwnC V base (.slice (some ⟨g,0,none⟩) l.length cap) r->Kp (fun y=>y=g) wx V->a<q->q<mid->Calls Tryz.prog 171 #[(.slice (some ⟨g,0,none⟩) l.length cap),.int .i64 (a:Int),.int .i64 (q:Int),.int .i64 (mid:Int),FN] V (zik g cap base r a mid V)):=lh fun V hV hk h1 h2=>by
  have h9:=HIH.o g cap base a q mid r V (by omega) (by rw[hrl];exact hV) (HRC.o.kept hk) h1 h2 (by omega) (by omega) HA1.o HA2.o;rw[hrl]at h9;exact h9
 go_upto_region 41 with fail
 go_cut[199](fun x wy=>x=.bool (decide (a<q/\q<mid))/\wy=wx)
 case first=>
  as_aux_lemma=>
  by_cases c1:a<q
  ·by_cases c2:q<mid
   ·have d0:Hid (decide (a<q/\q<mid)=true):=decide_eq_true ⟨c1,c2⟩
    have d1:decide ((a:Int)<(q:Int))=true:=by simp;omega
    have d2:decide (a<q)=true:=by simp;omega
    have d3:decide ((q:Int)<(mid:Int))=true:=by simp;omega
    have d4:decide (q<mid)=true:=by simp;omega
    clear c1 c2;go_wp2_with fail
    go_meet
    exact⟨by rw[d0.out],rfl⟩
   have d0:Hid (decide (a<q/\q<mid)=false):=decide_eq_false fun h=>c2 h.2
   have d1:decide ((a:Int)<(q:Int))=true:=by simp;omega
   have d2:decide (a<q)=true:=by simp;omega
   have d3:decide ((q:Int)<(mid:Int))=false:=by simp;omega
   have d4:decide (q<mid)=false:=by simp;omega
   clear c1 c2;go_wp2_with fail
   go_meet
   exact⟨by rw[d0.out],rfl⟩
  have d0:Hid (decide (a<q/\q<mid)=false):=decide_eq_false fun h=>c1 h.1
  have d1:decide ((a:Int)<(q:Int))=false:=by simp;omega
  have d2:decide (a<q)=false:=by simp;omega
  clear c1;go_wp2_with fail
  go_meet
  exact⟨by rw[d0.out],rfl⟩
 as_aux_lemma=>
 obtain⟨rfl,hwc⟩:=hcut;obtain rfl:wx=wc:=hwc.symm
 go_upto_if 199 with fail
 go_cut[205](fun _ wy=>zij g cap base l r a mid wx wy)
 case first=>
  as_aux_lemma=>
  by_cases c:a<q/\q<mid
  ·have d0:decide (a<q/\q<mid)=true:=decide_eq_true c;rw[d0];obtain⟨c1,c2⟩:=c;go_wp2_with fail;refine Calls.mono (HM1.o _ HRO.o (Kp.refl _ _) c1 c2) ?_;rintro e w6⟨pp,hmg,rfl,hown,hkp⟩;rw[hrl]at hown
   have HR1:Hid (zij g cap base l r a mid wx w6):=⟨pp,hown,hmg,hkp⟩
   clear hmg hown hkp;go_wp2_with fail
   go_meet
   exact HR1.o
  have d0:decide (a<q/\q<mid)=false:=decide_eq_false c;rw[d0]
  have HR1:Hid (zij g cap base l r a mid wx wx):=⟨r,HRO.o,Mg.nil (if e:a=q then by rw[e];exact HA2.o else by rw[show mid=q by omega];exact HA1.o),Kp.refl _ _⟩
  clear c;go_wp2_with fail
  go_meet
  exact HR1.o
 as_aux_lemma=>
 obtain⟨P,hpo,hpm,hpk⟩:=hcut
 obtain⟨wz,rfl⟩:∃wz:World,wz=wc:=⟨_,rfl⟩
 have HPO:=lh hpo;have HPM:=lh hpm;have HPK:=lh hpk;have hpl:P.length=l.length:=(ycu hpm).trans hrl;have HPC:Hid (CsOk wz g P):=(HRC.o.kept hpk).perm hpm.perm
 have HD3:Hid (Sd leC P mid en):=fun i j h1 h2 h3=>by rw[HPM.o.out i (by omega),HPM.o.out j (by omega)];exact HA3.o i j h1 h2 h3
 have HD4:Hid (Sd leC P en b):=fun i j h1 h2 h3=>by rw[HPM.o.out i (by omega),HPM.o.out j (by omega)];exact HA4.o i j h1 h2 h3
 clear hpo hpm hpk
 have HM2:Hid (∀V,OwnC V base (.slice (some ⟨g,0,none⟩) l.length cap) P->Kp (fun y=>y=g) wz V->mid<en->en<b->Calls Tryz.prog 171 #[(.slice (some ⟨g,0,none⟩) l.length cap),.int .i64 (mid:Int),.int .i64 (en:Int),.int .i64 (b:Int),FN] V (zik g cap base P mid b V)):=lh fun V hV hk h1 h2=>by
  have h9:=HIH.o g cap base mid en b P V (by omega) (by rw[hpl];exact hV) (HPC.o.kept hk) h1 h2 (by omega) (by omega) HD3.o HD4.o;rw[hpl]at h9;exact h9
 go_upto_region 43 with fail
 by_cases c:mid<en/\en<b
 ·obtain⟨c1,c2⟩:=c
  have d1:decide ((mid:Int)<(en:Int))=true:=by simp;omega
  have d2:decide (mid<en)=true:=by simp;omega
  have d3:decide ((en:Int)<(b:Int))=true:=by simp;omega
  have d4:decide (en<b)=true:=by simp;omega
  go_wp2_with fail;refine Calls.mono (HM2.o _ HPO.o (Kp.refl _ _) c1 c2) ?_;rintro e w6⟨pp,hmg,rfl,hown,hkp⟩;rw[hpl]at hown
  have hcut:zij g cap base l P mid b wz w6:=⟨pp,hown,hmg,hkp⟩
  clear hmg hown hkp;obtain⟨Q,hqo,hqm',hqk⟩:=hcut;have HFIN:Hid (Mg leC l Q a b):=Mg.sym (m:=m) (mid:=mid) (start:=q) (n:=mid+m) (en:=en) (r:=r) (p:=P) rfl hen1 (by omega) (by omega) hen2 hen3 (by omega) (by omega) HS1.o HS2.o HRP.o HRT.o HFL.o HFH.o HPM.o hqm';have HQO:=lh hqo;have HQK:=lh hqk;clear hqo hqm' hqk;go_wp2
  go_end0
  exact⟨Q,HFIN.o,rfl,HQO.o,Kp.trans (M:=fun y=>y=g) HRK.o (Kp.trans (M:=fun y=>y=g) HPK.o HQK.o)⟩
 have hcut:zij g cap base l P mid b wz wz:=⟨P,HPO.o,Mg.nil (if e:mid=en then by rw[e];exact HD4.o else by rw[show b=en by omega];exact HD3.o),Kp.refl _ _⟩
 by_cases c1:mid<en
 ·have c2:¬en<b:=fun h=>c ⟨c1,h⟩
  have d1:decide ((mid:Int)<(en:Int))=true:=by simp;omega
  have d2:decide (mid<en)=true:=by simp;omega
  have d3:decide ((en:Int)<(b:Int))=false:=by simp;omega
  have d4:decide (en<b)=false:=by simp;omega
  clear c c1 c2;obtain⟨Q,hqo,hqm',hqk⟩:=hcut;have HFIN:Hid (Mg leC l Q a b):=Mg.sym (m:=m) (mid:=mid) (start:=q) (n:=mid+m) (en:=en) (r:=r) (p:=P) rfl hen1 (by omega) (by omega) hen2 hen3 (by omega) (by omega) HS1.o HS2.o HRP.o HRT.o HFL.o HFH.o HPM.o hqm';have HQO:=lh hqo;have HQK:=lh hqk;clear hqo hqm' hqk;go_wp2
  go_end0
  exact⟨Q,HFIN.o,rfl,HQO.o,Kp.trans (M:=fun y=>y=g) HRK.o (Kp.trans (M:=fun y=>y=g) HPK.o HQK.o)⟩
 have c2:True:=trivial
 have d1:decide ((mid:Int)<(en:Int))=false:=by simp;omega
 have d2:decide (mid<en)=false:=by simp;omega
 clear c c1 c2;obtain⟨Q,hqo,hqm',hqk⟩:=hcut;have HFIN:Hid (Mg leC l Q a b):=Mg.sym (m:=m) (mid:=mid) (start:=q) (n:=mid+m) (en:=en) (r:=r) (p:=P) rfl hen1 (by omega) (by omega) hen2 hen3 (by omega) (by omega) HS1.o HS2.o HRP.o HRT.o HFL.o HFH.o HPM.o hqm';have HQO:=lh hqo;have HQK:=lh hqk;clear hqo hqm' hqk;go_wp2
 go_end0
 exact⟨Q,HFIN.o,rfl,HQO.o,Kp.trans (M:=fun y=>y=g) HRK.o (Kp.trans (M:=fun y=>y=g) HPK.o HQK.o)⟩
theorem zhw:∀N,ztp N
 |0=>fun g cap base a m b l w hN _ _ h1 h2 _ _ _ _=>by omega
 |N+1=>fun g cap base a m b l w hN ho hc h1 h2 h3 hm hs1 hs2=>by
   by_cases c1:m=a+1
   ·subst c1;exact zyu g cap base a b l w ho hc (by omega) h3 hm hs2
   by_cases c2:b=m+1
   ·subst c2;exact zyv g cap base a m l w ho hc (by omega) h3 hm hs1
   exact zyw N (zhw N) g cap base a m b l w hN ho hc (by omega) (by omega) h3 hm hs1 hs2
end Go.Proofs.YtnlaakmglhjjmaaGreatDoor
