/- Parts of the proofs of laws. Texts: Cp3. -/
import Derived.Test.YtnlaakmglhjjmaaGreatDoorYC8
set_option maxHeartbeats 8000000
set_option maxRecDepth 100000
set_option linter.all false
namespace Go.Proofs.YtnlaakmglhjjmaaGreatDoor
open Go.RowKit Cen
def leC(e f:Ce):Prop:=¬ltC f.xs e.xs
theorem zal{B:Nat}(w:World)(n:Nat):Below B w (w.drewN n):=let h:=Below.refl B w;⟨h.os,h.tape,h.output,h.size,h.block⟩
theorem ordC_leC:Ord leC:=⟨fun x y=>by
 unfold leC
 by_cases h:ltC y.xs x.xs
 ·exact .inr (zce h)
 ·exact .inl h,fun x y z h1 h2 h3=>by
 unfold leC at*
 by_cases h4:ltC y.xs z.xs
 ·exact h1 (by
   by_cases h5:ltC y.xs x.xs
   ·exact h5
   exact absurd (zgd h4 h3) h5)
 by_cases e:y.xs=z.xs
 ·rw[e]at h1;exact h1 h3
 have h6:ltC z.xs y.xs:=by
  unfold ltC at*
  rcases Int.lt_trichotomy (cmpC y.xs z.xs) 0 with h|h|h
  ·exact absurd h h4
  ·exact absurd (zit.1 h) e
  exact ziu h
 exact h2 h6⟩
theorem zre{e f:Ce}(h:ltC e.xs f.xs):leC e f:=zce h
def CsOk(w:World)(g:Nat)(l:List Ce):Prop:=∀e∈l,e.xs.length<=1073741824/\litB e.xs/\IntCells w e.a e.xs/\∀p,e.a=some p->p.block≠g
theorem CsOk.kept{w w':World}{g:Nat}{l:List Ce}(h:CsOk w g l)(hk:Kp (fun y=>y=g) w w'):CsOk w' g l:=fun e he=>by
 obtain⟨h1,h2,h3,h4⟩:=h e he;refine⟨h1,h2,fun i hi=>?_,h4⟩;obtain⟨b,off,e',hc⟩:=h3 i hi;exact⟨b,off,e',hk.cell hc (show b≠g from h4 _ e')⟩
theorem CsOk.perm{w:World}{g:Nat}{l m:List Ce}(h:CsOk w g l)(hp:m.Perm l):CsOk w g m:=fun e he=>h e (hp.mem_iff.1 he)
theorem CsOk.at{w:World}{g:Nat}{l:List Ce}(h:CsOk w g l){i:Nat}(hi:i<l.length):(gd l i).xs.length<=1073741824/\litB (gd l i).xs/\IntCells w (gd l i).a (gd l i).xs:=by
 rw[zar hi];obtain⟨h1,h2,h3,_⟩:=h _ (List.getElem_mem hi);exact⟨h1,h2,h3⟩
theorem zd4:∀(args:Array Value)(w:World),(callFunc 126 args).run Tryz.prog w=.ok (.enter 126 args) w:=fun _ _=>by kernel_rfl
theorem zqu{w:World}{g:Nat}{l:List Ce}(h:CsOk w g l){i j:Nat}(hi:i<l.length)(hj:j<l.length)(V:World)(hV:Kp (fun y=>y=g) w V):
 Calls Tryz.prog 126 #[clv (gd l i).a (gd l i).xs.length (gd l i).c (gd l i).i,clv (gd l j).a (gd l j).xs.length (gd l j).c (gd l j).i] V fun e w'=>e=.returned (.int .i64 (cmpC (gd l i).xs (gd l j).xs))/\Below V.heap.size V w':=by
 obtain⟨a1,a2,a3⟩:=(h.kept hV).at hi;obtain⟨b1,b2,b3⟩:=(h.kept hV).at hj;exact zsy _ _ _ _ _ _ _ _ V a1 b1 a3 b3 a2 b2
abbrev FN:Value:=.func (.func 126) #[] #[]
structure InsAtC(g cap base:Nat)(l:List Ce)(a k:Nat)(w wr:World)(cur:List Ce):Prop where
 own:OwnC wr base (.slice (some ⟨g,0,none⟩) l.length cap) cur
 mg:Mg leC l cur a k
 kp:Kp (fun y=>y=g) w wr
def zik(g cap base:Nat)(l:List Ce)(a b:Nat)(w:World)(e:Ending)(w':World):Prop:=
 ∃l',Mg leC l l' a b/\e=.returned (.tuple #[])/\OwnC w' base (.slice (some ⟨g,0,none⟩) l.length cap) l'/\Kp (fun y=>y=g) w w'
theorem Mg.one{l:List Ce}{a b:Nat}(h:b<=a+1):Mg leC l l a b:=Mg.nil fun i j h1 h2 h3=>by omega
theorem Mg.shrink{l l':List Ce}{a b:Nat}(h:Mg leC l l' a (a+1))(h1:a<=b)(h2:b<=a+1):Mg leC l l' a b:=by
 by_cases e:b=a+1
 ·rw[e];exact h
 have e':b=a:=by omega
 subst e';refine⟨h.perm,fun t _=>?_,fun t h3 h4=>by omega,fun i j h3 h4 h5=>by omega⟩
 by_cases c:t=b
 ·subst c;obtain⟨s,s1,s2,e⟩:=h.inn t (Nat.le_refl _) (by omega);rw[e,show s=t by omega]
 exact h.out t (by omega)
theorem zg4(g cap base a b:Nat)(l:List Ce)(w:World)(ho:OwnC w base (.slice (some ⟨g,0,none⟩) l.length cap) l)(hc:CsOk w g l)(h1:a<=b)(h2:b<=l.length)(hm:l.length<=1073741824):
 Calls Tryz.prog 170 #[.slice (some ⟨g,0,none⟩) l.length cap,.int .i64 (a:Int),.int .i64 (b:Int),FN] w (zik g cap base l a b w):=by
 have HI:Hid (InsAtC g cap base l a (a+1) w w l):=⟨ho,Mg.one (by omega),Kp.refl _ _⟩
 have HC:=lh hc;have hcf:=zd4;clear ho hc;go_enter Tryz.func170,Tryz.ntmps170;go_wp2
 go_loopw[8](fun i wr=>∃k:Nat,a+1<=k/\(k<=b\/k=a+1)/\i=.int .i64 k/\∃cur,InsAtC g cap base l a k w wr cur)(fun i _=>b-(intOf i).toNat)
 case atStart=>exact⟨a+1,Nat.le_refl _,.inr rfl,ival (by omega),l,HI.o⟩
 obtain⟨wo,rfl⟩:∃wo:World,wo=wr:=⟨_,rfl⟩
 obtain⟨k,hk1,hk2,rfl,cur,hcur⟩:=hrel;have HCU:=lh hcur;have hlen:cur.length=l.length:=hcur.mg.perm.length_eq;clear hcur
 by_cases hlt:k<b
 ·have HCK:Hid (CsOk wo g cur):=(HC.o.kept HCU.o.kp).perm HCU.o.mg.perm;have HOW:=lh HCU.o.own;go_wp2_with fail
  go_loopw[9](fun j wr=>∃p:Nat,a<=p/\p<=k/\j=.int .i64 p/\(∀t,p<=t->t<k->leC (gd cur k) (gd cur t))/\∃m,OwnC wr base (.slice (some ⟨g,0,none⟩) l.length cap) m/\m.Perm cur/\Ins cur m k p/\Kp (fun y=>y=g) wo wr)(fun j _=>(intOf j).toNat)
  case atStart=>exact⟨k,by omega,Nat.le_refl _,rfl,fun t h1 h2=>by omega,cur,HOW.o,List.Perm.refl _,Ins.start _ _,Kp.refl _ _⟩
  obtain⟨wi,rfl⟩:∃wi:World,wi=wr:=⟨_,rfl⟩
  obtain⟨p,hp1,hp2,rfl,hle,m,hown,hperm,hins,hkp⟩:=hrel;have HLE:=lh hle;have HOI:=lh hown;have HPE:=lh hperm;have HIN:=lh hins;have HKP:=lh hkp;have hml:m.length=l.length:=hperm.length_eq.trans hlen;have HML:Hid (l.length=m.length):=hml.symm;clear hle hperm hins hkp
  have HEND:Hid (p=a\/leC (gd cur (p-1)) (gd cur k)->∀(V:World)(n:Nat),OwnC V base (.slice (some ⟨g,0,none⟩) l.length cap) m->Kp (fun y=>y=g) wi V->InsAtC g cap base l a (k+1) w V m):=fun h V _ hV hkV=>by
   have hmi:Mg leC cur m a (k+1):=by
    refine⟨HPE.o,fun t ht=>?_,fun t h3 h4=>⟨_,?_,?_,HIN.o.2 t⟩,HIN.o.sorted ordC_leC HCU.o.mg.so hp1 hp2 h HLE.o⟩
    ·rw[HIN.o.2 t];congr 1;unfold insI;(repeat' split)<;>omega
    ·unfold insI;(repeat' split)<;>omega
    unfold insI;(repeat' split)<;>omega
   refine⟨hV,⟨hmi.perm.trans HCU.o.mg.perm,fun t ht=>?_,fun t h3 h4=>?_,hmi.so⟩,Kp.trans (M:=fun y=>y=g) HCU.o.kp (Kp.trans (M:=fun y=>y=g) HKP.o hkV)⟩
   ·rw[hmi.out t ht,HCU.o.mg.out t (by omega)]
   obtain⟨s,s1,s2,e⟩:=hmi.inn t h3 h4
   by_cases c:s<k
   ·obtain⟨u,u1,u2,e'⟩:=HCU.o.mg.inn s s1 c;exact⟨u,u1,by omega,by rw[e,e']⟩
   exact⟨s,s1,s2,by rw[e,HCU.o.mg.out s (by omega)]⟩
  by_cases hpa:a<p
  ·have hpl:p<m.length:=by omega
   have hpl2:p-1<m.length:=by omega
   have epk:gd m p=gd cur k:=by rw[HIN.o.2 p];congr 1;unfold insI;(repeat' split)<;>omega
   have epj:gd m (p-1)=gd cur (p-1):=by rw[HIN.o.2 (p-1)];congr 1;unfold insI;(repeat' split)<;>omega
   have HCA:=lh (fun V hV=>zqu ((HCK.o.kept HKP.o).perm HPE.o) hpl hpl2 V hV);have a0:=hown.c0 HML.o hpl;have a1:=hown.c1 HML.o hpl;have b0:=hown.c0 HML.o hpl2;have b1:=hown.c1 HML.o hpl2;have gl:=hown.lt.1
   have e1:IntKind.i64.wrap ((p:Int)-1)=((p-1:Nat):Int):=by rw[IntWalk.i64_in _ (by omega)];omega
   have E1:=lh e1
   have hpi:((p-1:Nat):Int)<(l.length:Int):=by omega
   have hpi2:(p:Int)<(l.length:Int):=by omega
   have hpi3:p-1<l.length:=by omega
   have hpi4:p<l.length:=by omega
   have hgd:decide ((a:Int)<(p:Int))=true:=by simp;omega
   have hgd2:decide (a<p)=true:=by simp;omega
   have HSW:=lh (fun(V:World)(h:OwnC V base (.slice (some ⟨g,0,none⟩) l.length cap) m)=>h.swp HML.o hpl hpl2)
   have HCV:Hid (cmpC (gd m p).xs (gd m (p-1)).xs=cmpC (gd cur k).xs (gd cur (p-1)).xs):=by show _=_;rw[epk,epj]
   have HFR:=lh (fun(V:World)(h:OwnC V base (.slice (some ⟨g,0,none⟩) l.length cap) m)(j:Nat)=>h.fr HML.o j);generalize hcv:cmpC (gd m p).xs (gd m (p-1)).xs=cv at*
   have HST:Hid (cv<0->∀t,p-1<=t->t<k->leC (gd cur k) (gd cur t)):=fun h t h1 h2=>by
    by_cases c:p<=t
    ·exact HLE.o t c h2
    rw[show t=p-1 by omega];exact zre (by unfold ltC;rw[<-HCV.o];exact h)
   have HNO:Hid (¬cv<0->leC (gd cur (p-1)) (gd cur k)):=fun h hn=>h (by rw[HCV.o];exact hn)
   generalize hya:(gd m p).a=ya at*;generalize hyl:(gd m p).xs.length=yl at*;generalize hyc:(gd m p).c=yc at*;generalize hyi:(gd m p).i=yi at*;generalize hza:(gd m (p-1)).a=za at*;generalize hzl:(gd m (p-1)).xs.length=zl at*;generalize hzc:(gd m (p-1)).c=zc at*;generalize hzi:(gd m (p-1)).i=zi at*;clear hown epk epj e1 hcv hya hyl hyc hyi hza hzl hzc hzi
   have HKS:Hid (∀w':World,Below wi.heap.size wi w'->w'.cell? ⟨g,p*2,none⟩=some (.slice ya yl yc)/\w'.cell? ⟨g,p*2+1,none⟩=some (.int .i64 yi)/\w'.cell? ⟨g,(p-1)*2,none⟩=some (.slice za zl zc)/\w'.cell? ⟨g,(p-1)*2+1,none⟩=some (.int .i64 zi)):=lh fun w' h=>⟨zab h a0,zab h a1,zab h b0,zab h b1⟩
   by_cases hneg:cv<0
   ·have hd1:decide (cv<0)=true:=by simpa using hneg
    have HS2:=lh (HST.o hneg);clear hneg;go_wp2_with fail;have e1:=E1.o
    go_region_held3(fun w'=>w'.cell? ⟨g,p*2,none⟩=some (.slice ya yl yc)/\w'.cell? ⟨g,p*2+1,none⟩=some (.int .i64 yi)/\w'.cell? ⟨g,(p-1)*2,none⟩=some (.slice za zl zc)/\w'.cell? ⟨g,(p-1)*2+1,none⟩=some (.int .i64 zi))
     (first
       |exact HKS.o _ (Below.refl _ _).drew
       |exact HKS.o _ hv5)
     (first
       | (go_at_call 126
          refine Calls.mono (HCA.o _ (Kp.below (Below.refl _ _).drew)) ?_;rintro e v5⟨rfl,hb5⟩
          have hv5:Below wi.heap.size wi v5:=(Below.refl wi.heap.size wi).drew.trans (hb5.mono (Nat.le_refl _))))
    all_goals
     go_wp2_with fail;obtain⟨x0,x1,x2,x3⟩:=HKS.o v5 hv5;have HO5:=lh (HOI.o.later hv5);have f1:=HFR.o v5 HO5.o (p*2);have f2:=HFR.o v5 HO5.o (p*2+1);have f3:=HFR.o v5 HO5.o ((p-1)*2);have f4:=HFR.o v5 HO5.o ((p-1)*2+1);have gl5:=HO5.o.lt.1
     have HKK:Hid (∀c d e f,Kp (fun y=>y=g) wo ((((v5.setCell ⟨g,p*2,none⟩ c).setCell ⟨g,p*2+1,none⟩ d).setCell ⟨g,(p-1)*2,none⟩ e).setCell ⟨g,(p-1)*2+1,none⟩ f)):=fun c d e f=>by
      have M:=Kp.setCell (M:=fun y=>y=g);exact Kp.trans (M:=fun y=>y=g) (Kp.trans (M:=fun y=>y=g) (Kp.trans (M:=fun y=>y=g) (Kp.trans (M:=fun y=>y=g) (Kp.trans (M:=fun y=>y=g) HKP.o (Kp.below hv5)) (M _ _ _ rfl)) (M _ _ _ rfl)) (M _ _ _ rfl)) (M _ _ _ rfl)
     have HOS:=lh (HSW.o v5 HO5.o);clear a0 a1 b0 b1 hb5;have HV5:=lh hv5;clear hv5;go_region
     all_goals
      clear e1;go_wp2;go_roundw
      case rel=>exact⟨p-1,by omega,by omega,ival (by omega),HS2.o,swp m p (p-1),HOS.o.later (Below.refl _ _).drew,(zgp hpl hpl2).trans HPE.o,HIN.o.step (by omega) hp2 (by omega),Kp.trans (M:=fun y=>y=g) (HKK.o _ _ _ _) (Kp.below (Below.refl _ _).drew)⟩
      case measure=>simp[intOf];omega
   have hd1:decide (cv<0)=false:=by simpa using hneg
   have HS2:=lh (HNO.o hneg);clear hneg;go_wp2_with fail;have e1:=E1.o
   go_region_held3(fun w'=>w'.cell? ⟨g,p*2,none⟩=some (.slice ya yl yc)/\w'.cell? ⟨g,p*2+1,none⟩=some (.int .i64 yi)/\w'.cell? ⟨g,(p-1)*2,none⟩=some (.slice za zl zc)/\w'.cell? ⟨g,(p-1)*2+1,none⟩=some (.int .i64 zi))
    (first
      |exact HKS.o _ (Below.refl _ _).drew
      |exact HKS.o _ hv5)
    (first
      | (go_at_call 126
         refine Calls.mono (HCA.o _ (Kp.below (Below.refl _ _).drew)) ?_;rintro e v5⟨rfl,hb5⟩
         have hv5:Below wi.heap.size wi v5:=(Below.refl wi.heap.size wi).drew.trans (hb5.mono (Nat.le_refl _))))
   all_goals
    have HE5:=lh (HEND.o (.inr HS2.o) v5 0 (HOI.o.later hv5) (Kp.below hv5));clear e1 hb5 hv5 a0 a1 b0 b1;go_wp2;go_roundw
    case rel=>exact⟨k+1,by omega,.inl (by omega),ival (by omega),m,HE5.o⟩
    case measure=>simp[intOf];omega
  have hpe:p=a:=by omega
  have hgd:decide ((a:Int)<(p:Int))=false:=by simp;omega
  have hgd2:decide (a<p)=false:=by simp;omega
  have HE5:=lh (fun V h1 h2=>HEND.o (.inl hpe) V 0 h1 h2);clear hown hpe hpa;go_wp2_with fail
  go_quiet(fail)
  all_goals
   go_wp2;go_roundw
   case rel=>exact⟨k+1,by omega,.inl (by omega),ival (by omega),m,HE5.o _ (HOI.o.later (zal _ _)) (Kp.below (zal _ _))⟩
   case measure=>simp[intOf];omega
 have HE:Hid (Mg leC l cur a b):=by
  by_cases e:k<=b
  ·rw[show b=k by omega];exact HCU.o.mg
  have:=HCU.o.mg;rw[show k=a+1 by omega]at this;exact Mg.shrink this h1 (by omega)
 go_wp2
 go_end0
 exact⟨cur,HE.o,rfl,HCU.o.own,HCU.o.kp⟩
end Go.Proofs.YtnlaakmglhjjmaaGreatDoor
