/- Parts of the proofs of laws. Texts: Cp5, CpZ, Cp6. -/
import Derived.Test.YtnlaakmglhjjmaaGreatDoorYC10
set_option maxHeartbeats 8000000
set_option maxRecDepth 100000
set_option linter.all false
namespace Go.Proofs.YtnlaakmglhjjmaaGreatDoor
open Go.RowKit Cen
def AllB(s n:Nat)(l:List Ce):Prop:=∀p,s∣p->Sd leC l p (min (p+s) n)
def Two(s n a:Nat)(l:List Ce):Prop:=(∀p,(2*s)∣p->p<a->Sd leC l p (min (p+2*s) n))/\∀p,s∣p->a<=p->Sd leC l p (min (p+s) n)
def zhz(g cap base:Nat)(l:List Ce)(w wr:World)(cur:List Ce):Prop:=OwnC wr base (.slice (some ⟨g,0,none⟩) l.length cap) cur/\cur.Perm l/\Kp (fun y=>y=g) w wr
def zto(g cap base:Nat)(l:List Ce)(w:World)(e:Ending)(w':World):Prop:=∃cur,zhz g cap base l w w' cur/\Sd leC cur 0 l.length/\e=.returned (.tuple #[])
theorem zdp{s a p:Nat}(hs:0<s)(ha:s∣a)(hp:s∣p)(h:a<p):a+s<=p:=by
 have h1:s∣p-a:=(Nat.dvd_sub hp ha)
 have:=Nat.le_of_dvd (by omega) h1;omega
theorem zgf{l m:List Ce}{a b p q:Nat}(h:Mg leC l m a b)(hs:Sd leC l p q)(hd:q<=a\/b<=p):Sd leC m p q:=fun i j h1 h2 h3=>by
 rw[h.out i (by omega),h.out j (by omega)];exact hs i j h1 h2 h3
theorem Sd.short{l:List Ce}{p q:Nat}(h:q<=p+1):Sd leC l p q:=fun i j h1 h2 h3=>by omega
theorem zs6(g cap base:Nat)(l:List Ce)(w:World)(ho:OwnC w base (.slice (some ⟨g,0,none⟩) l.length cap) l)(hc:CsOk w g l)(hm:l.length<=1073741824):
 Calls Tryz.prog 154 #[.slice (some ⟨g,0,none⟩) l.length cap,.int .i64 (l.length:Int),FN] w (zto g cap base l w):=by
 have HC:=lh hc
 have HI:Hid (zhz g cap base l w w l):=⟨ho,List.Perm.refl _,Kp.refl _ _⟩
 obtain⟨n,hn⟩:=nm l.length;have HN:=lh hn;rw[<-hn]at hm⊢;clear ho hc hn
 have HINS:Hid (∀(V:World)(cur:List Ce)(a b:Nat),zhz g cap base l w V cur->a<=b->b<=n->Calls Tryz.prog 170 #[.slice (some ⟨g,0,none⟩) n cap,.int .i64 (a:Int),.int .i64 (b:Int),FN] V fun e w'=>∃c,zhz g cap base l w w' c/\Mg leC cur c a b/\e=.returned (.tuple #[])):=lh fun V cur a b h h1 h2=>by
  obtain⟨k1,k2,k3⟩:=h;have hl:=k2.length_eq;have h9:=zg4 g cap base a b cur V (by rw[hl];exact k1) ((HC.o.kept k3).perm k2) h1 (by rw[hl,<-HN.o];exact h2) (by rw[hl,<-HN.o];exact hm);rw[hl,<-HN.o]at h9
  refine h9.mono fun e w'⟨c,c1,c2,c3,c4⟩=>⟨c,⟨by rw[<-hl];exact c3,c1.perm.trans k2,Kp.trans (M:=fun y=>y=g) k3 c4⟩,c1,c2⟩
 have HSYM:Hid (∀(V:World)(cur:List Ce)(a m b:Nat),zhz g cap base l w V cur->a<m->m<b->b<=n->Sd leC cur a m->Sd leC cur m b->Calls Tryz.prog 171 #[.slice (some ⟨g,0,none⟩) n cap,.int .i64 (a:Int),.int .i64 (m:Int),.int .i64 (b:Int),FN] V fun e w'=>∃c,zhz g cap base l w w' c/\Mg leC cur c a b/\e=.returned (.tuple #[])):=lh fun V cur a m b h h1 h2 h3 s1 s2=>by
  obtain⟨k1,k2,k3⟩:=h;have hl:=k2.length_eq;have h9:=zhw (b-a) g cap base a m b cur V (Nat.le_refl _) (by rw[hl];exact k1) ((HC.o.kept k3).perm k2) h1 h2 (by rw[hl,<-HN.o];exact h3) (by rw[hl,<-HN.o];exact hm) s1 s2;rw[hl,<-HN.o]at h9
  refine h9.mono fun e w'⟨c,c1,c2,c3,c4⟩=>⟨c,⟨by rw[<-hl];exact c3,c1.perm.trans k2,Kp.trans (M:=fun y=>y=g) k3 c4⟩,c1,c2⟩
 go_enter Tryz.func154,Tryz.ntmps154;go_wp2
 go_loopw[7,8](fun x y wr=>∃a:Nat,20∣a/\a<=n/\x=.int .i64 a/\y=.int .i64 ((a:Int)+20)/\∃cur,zhz g cap base l w wr cur/\∀p,20∣p->p<a->Sd leC cur p (min (p+20) n))(fun x _ _=>n-(intOf x).toNat)
 case atStart=>exact⟨0,Nat.dvd_zero _,Nat.zero_le _,rfl,rfl,l,HI.o,fun p _ h=>absurd h (Nat.not_lt_zero _)⟩
 obtain⟨a,ha,han,rfl,rfl,cur,hst,hbl⟩:=hrel;have HST:=lh hst;have HBL:=lh hbl;have HDV:=lh ha;clear hst hbl ha
 by_cases hlt:a+20<=n
 ·have hd:decide ((a:Int)+20<=(n:Int))=true:=by simp;omega
  have HCI:Hid (Calls Tryz.prog 170 #[.slice (some ⟨g,0,none⟩) n cap,.int .i64 (a:Int),.int .i64 ((a:Int)+20),FN] wr fun e w'=>∃c,zhz g cap base l w w' c/\Mg leC cur c a (a+20)/\e=.returned (.tuple #[])):=HINS.o wr cur a (a+20) HST.o (by omega) hlt;go_wp2_with fail;refine Calls.mono HCI.o ?_;rintro e w5⟨c,hc1,hc2,rfl⟩;have HC1:=lh hc1;have HC2:=lh hc2;clear hc1 hc2;go_wp2;go_roundw
  case rel=>
   refine⟨a+20,(Nat.dvd_add_right HDV.o).2 (Nat.dvd_refl _),hlt,ival (by omega),ival (by omega),c,HC1.o,fun p h1 h2=>?_⟩
   by_cases e:p<a
   ·have:=zdp (by omega) h1 HDV.o e;exact zgf HC2.o (HBL.o p h1 e) (.inl (by omega))
   have e2:p=a:=by
    rcases Nat.eq_or_lt_of_le (Nat.le_of_not_lt e)with h|h
    ·exact h.symm
    have:=zdp (by omega) HDV.o h1 h;omega
   rw[e2,show min (a+20) n=a+20 by omega];exact HC2.o.so
  case measure=>simp[intOf];omega
 have hd:decide ((a:Int)+20<=(n:Int))=false:=by simp;omega
 have HCI:=lh (HINS.o wr cur a n HST.o han (Nat.le_refl _));go_wp2_with fail;refine Calls.mono HCI.o ?_;rintro e w5⟨c,hc1,hc2,rfl⟩
 have HAB:Hid (AllB 20 n c):=fun p hp=>by
  by_cases e:p<a
  ·have:=zdp (by omega) hp HDV.o e;exact zgf hc2 (HBL.o p hp e) (.inl (by omega))
  by_cases e2:p=a
  ·rw[e2,show min (a+20) n=n by omega];exact hc2.so
  have:=zdp (by omega) HDV.o hp (by omega);exact Sd.short (by omega)
 have HC1:=lh hc1;clear hc1 hc2 hd hlt;go_wp2_with fail
 go_loopw[6,7,8,9](fun x _ _ _ wr=>∃s:Nat,1<=s/\s<=2147483648/\x=.int .i64 s/\∃c,zhz g cap base l w wr c/\AllB s n c)(fun x _ _ _ _=>n-(intOf x).toNat)
 case atStart=>exact⟨20,by omega,by omega,rfl,c,HC1.o,HAB.o⟩
 obtain⟨s,hs1,hs2,rfl,c,hst,hab⟩:=hrel;have HST2:=lh hst;have HAB2:=lh hab;clear hst hab
 by_cases hsn:s<n
 ·have HTW:Hid (Two s n 0 c):=⟨fun p _ h=>absurd h (Nat.not_lt_zero _),fun p hp _=>HAB2.o p hp⟩
  go_wp2_with fail
  go_loopw[7,8](fun x y wr=>∃a:Nat,(2*s)∣a/\a<=n/\x=.int .i64 a/\y=.int .i64 ((a:Int)+2*(s:Int))/\∃c,zhz g cap base l w wr c/\Two s n a c)(fun x _ _=>n-(intOf x).toNat)
  case atStart=>exact⟨0,Nat.dvd_zero _,Nat.zero_le _,rfl,ival (by omega),c,HST2.o,HTW.o⟩
  obtain⟨a2,ha2,han2,rfl,rfl,d,hst,htw⟩:=hrel;have HST3:=lh hst;have HTW3:=lh htw;have HDV2:=lh ha2;have HDV3:Hid (s∣a2):=Nat.dvd_trans (Nat.dvd_mul_left s 2) ha2;clear hst htw ha2
  by_cases hlt2:a2+2*s<=n
  ·have hd:decide ((a2:Int)+2*(s:Int)<=(n:Int))=true:=by simp;omega
   have HCS:Hid (Calls Tryz.prog 171 #[.slice (some ⟨g,0,none⟩) n cap,.int .i64 (a2:Int),.int .i64 ((a2:Int)+(s:Int)),.int .i64 ((a2:Int)+2*(s:Int)),FN] wr fun e w'=>∃c,zhz g cap base l w w' c/\Mg leC d c a2 (a2+2*s)/\e=.returned (.tuple #[])):=lh (by
    have h9:=HSYM.o wr d a2 (a2+s) (a2+2*s) HST3.o (by omega) (by omega) hlt2 (by have:=HTW3.o.2 a2 HDV3.o (Nat.le_refl _);rwa[show min (a2+s) n=a2+s by omega]at this) (by
     have:=HTW3.o.2 (a2+s) ((Nat.dvd_add_right HDV3.o).2 (Nat.dvd_refl _)) (by omega)
     rwa[show min (a2+s+s) n=a2+2*s by omega]at this)
    rw[show((a2+s:Nat):Int)=(a2:Int)+(s:Int)by omega,show((a2+2*s:Nat):Int)=(a2:Int)+2*(s:Int)by omega]at h9
    exact h9)
   go_wp2_with fail;refine Calls.mono HCS.o ?_;rintro e w6⟨c2,hc1,hc2,rfl⟩;have HC6:=lh hc1;have HC7:=lh hc2;clear hc1 hc2;go_wp2;go_roundw
   case rel=>
    refine⟨a2+2*s,(Nat.dvd_add_right HDV2.o).2 (Nat.dvd_refl _),hlt2,ival (by omega),ival (by omega),c2,HC6.o,fun p h1 h2=>?_,fun p h1 h2=>zgf HC7.o (HTW3.o.2 p h1 (by omega)) (.inr h2)⟩
    by_cases e:p<a2
    ·have:=zdp (by omega) h1 HDV2.o e;exact zgf HC7.o (HTW3.o.1 p h1 e) (.inl (by omega))
    have e2:p=a2:=by
     rcases Nat.eq_or_lt_of_le (Nat.le_of_not_lt e)with h|h
     ·exact h.symm
     have:=zdp (by omega) HDV2.o h1 h;omega
    rw[e2,show min (a2+2*s) n=a2+2*s by omega];exact HC7.o.so
   case measure=>simp[intOf];omega
  have hd:decide ((a2:Int)+2*(s:Int)<=(n:Int))=false:=by simp;omega
  have HFIN:Hid (∀(m:List Ce),(∀p,s∣p->p<a2->Sd leC m p (min (p+s) n))\/True->(∀p,(2*s)∣p->p<a2->Sd leC m p (min (p+2*s) n))->Sd leC m a2 n->AllB (s*2) n m):=fun m _ h1 h2 p hp=>by
   rw[Nat.mul_comm]at hp;rw[Nat.mul_comm]
   by_cases e:p<a2
   ·exact h1 p hp e
   by_cases e2:p=a2
   ·rw[e2,show min (a2+2*s) n=n by omega];exact h2
   have:=zdp (by omega) HDV2.o hp (by omega);exact Sd.short (by omega)
  by_cases hm2:a2+s<n
  ·have hd2:decide ((a2:Int)+(s:Int)<(n:Int))=true:=by simp;omega
   have HCS:Hid (Calls Tryz.prog 171 #[.slice (some ⟨g,0,none⟩) n cap,.int .i64 (a2:Int),.int .i64 ((a2:Int)+(s:Int)),.int .i64 (n:Int),FN] wr fun e w'=>∃c,zhz g cap base l w w' c/\Mg leC d c a2 n/\e=.returned (.tuple #[])):=lh (by
    have h9:=HSYM.o wr d a2 (a2+s) n HST3.o (by omega) hm2 (Nat.le_refl _) (by have:=HTW3.o.2 a2 HDV3.o (Nat.le_refl _);rwa[show min (a2+s) n=a2+s by omega]at this) (by
     have:=HTW3.o.2 (a2+s) ((Nat.dvd_add_right HDV3.o).2 (Nat.dvd_refl _)) (by omega)
     rwa[show min (a2+s+s) n=n by omega]at this)
    rw[show((a2+s:Nat):Int)=(a2:Int)+(s:Int)by omega]at h9
    exact h9)
   go_wp2_with fail;refine Calls.mono HCS.o ?_;rintro e w6⟨c2,hc1,hc2,rfl⟩;have HC6:=lh hc1;have HAB6:Hid (AllB (s*2) n c2):=HFIN.o c2 (.inr trivial) (fun p h1 h2=>zgf hc2 (HTW3.o.1 p h1 h2) (.inl (by have:=zdp (by omega) h1 HDV2.o h2;omega))) hc2.so;clear hc1 hc2;go_wp2;go_roundw
   case rel=>exact⟨s*2,by omega,by omega,ival (by omega),c2,HC6.o,HAB6.o⟩
   case measure=>simp[intOf];omega
  have hd2:decide ((a2:Int)+(s:Int)<(n:Int))=false:=by simp;omega
  have HAB6:Hid (AllB (s*2) n d):=HFIN.o d (.inr trivial) HTW3.o.1 (by have:=HTW3.o.2 a2 HDV3.o (Nat.le_refl _);rwa[show min (a2+s) n=n by omega]at this);go_wp2;go_roundw
  case rel=>exact⟨s*2,by omega,by omega,ival (by omega),d,HST3.o,HAB6.o⟩
  case measure=>simp[intOf];omega
 have HFS:Hid (Sd leC c 0 n):=by
  have:=HAB2.o 0 (Nat.dvd_zero _)
  rwa[show min (0+s) n=n by omega]at this
 go_wp2
 go_end0
 exact⟨c,HST2.o,by rw[<-HN.o];exact HFS.o,rfl⟩
theorem zkl(g cap base:Nat)(l:List Ce)(w:World)(ho:OwnC w base (.slice (some ⟨g,0,none⟩) l.length cap) l)(hc:CsOk w g l)(hm:l.length<=1073741824):
 Calls Tryz.prog 125 #[.slice (some ⟨g,0,none⟩) l.length cap,FN] w (zto g cap base l w):=by
 have HS:=lh (zs6 g cap base l w ho hc hm);clear ho hc;go_enter Tryz.func125,Tryz.ntmps125;go_wp2_with fail;refine Calls.mono HS.o ?_;rintro e w5⟨c,hst,hsd,rfl⟩;have HST:=lh hst;have HSD:=lh hsd;clear hst hsd;go_wp2
 go_end0
 exact⟨c,HST.o,HSD.o,rfl⟩
theorem zpu(w:World):Calls Tryz.prog 170 #[.slice none 0 0,.int .i64 0,.int .i64 0,FN] w fun e w'=>e=.returned (.tuple #[])/\w=w':=by
 go_enter Tryz.func170,Tryz.ntmps170;go_wp2;refine wp_loop_rounds 1 ?_;rw[rounds_succ];go_wp2
 go_end0
 exact⟨rfl,rfl⟩
theorem zs7(w:World):Calls Tryz.prog 154 #[.slice none 0 0,.int .i64 0,FN] w fun e w'=>e=.returned (.tuple #[])/\w=w':=by
 go_enter Tryz.func154,Tryz.ntmps154;go_wp2;refine wp_loop_rounds 1 ?_;rw[rounds_succ];go_wp2_with fail;refine(zpu _).mono ?_;rintro e w1⟨rfl,rfl⟩;go_wp2;refine wp_loop_rounds 1 ?_;rw[rounds_succ];go_wp2
 go_end0
 exact⟨rfl,rfl⟩
theorem zkm(w:World):Calls Tryz.prog 125 #[.slice none 0 0,FN] w fun e w'=>e=.returned (.tuple #[])/\w=w':=by
 go_enter Tryz.func125,Tryz.ntmps125;go_wp2_with fail;refine(zs7 _).mono ?_;rintro e w1⟨rfl,rfl⟩;go_wp2
 go_end0
 exact⟨rfl,rfl⟩
end Go.Proofs.YtnlaakmglhjjmaaGreatDoor
namespace Go.Proofs.YtnlaakmglhjjmaaGreatDoor
open Cen
def zf9(l:List Ce)(k:Nat):Bool:=decide (k=0)||decide ((gd l k).xs≠(gd l (k-1)).xs)
def za6(l:List Ce)(k:Nat):List Ce:=((List.range k).filter (zf9 l)).map (gd l)
theorem zdv(l:List Ce)(k:Nat):za6 l (k+1)=if zf9 l k then za6 l k++[gd l k]else za6 l k:=by
 unfold za6;rw[List.range_succ,List.filter_append,List.map_append]
 cases h:zf9 l k<;>simp[h]
theorem zt7(l:List Ce):∀k,(za6 l k).length<=k
 |0=>by simp[za6]
 |k+1=>by
   have:=zt7 l k;rw[zdv];split
   ·rw[List.length_append];simp;omega
   omega
theorem znl{l:List Ce}{k:Nat}{e:Ce}(h:e∈za6 l k):∃t,t<k/\zf9 l t=true/\e=gd l t:=by
 unfold za6 at h;obtain⟨t,ht,rfl⟩:=List.mem_map.1 h;obtain⟨h1,h2⟩:=List.mem_filter.1 ht;exact⟨t,List.mem_range.1 h1,h2,rfl⟩
theorem zf3{l:List Ce}:∀k,k<=l.length->(∀t,t<k->zf9 l t=true)->za6 l k=l.take k
 |0,_,_=>by simp[za6]
 |k+1,hk,h=>by
   rw[zdv,if_pos (h k (by omega)),zf3 k (by omega) fun t ht=>h t (by omega),zar (by omega)];exact(List.take_succ_eq_append_getElem (by omega)).symm
theorem zzp{e f:Ce}(h:leC e f)(hn:e.xs≠f.xs):ltC e.xs f.xs:=by
 unfold leC at h;unfold ltC at*
 rcases Int.lt_trichotomy (cmpC e.xs f.xs) 0 with k|k|k
 ·exact k
 ·exact absurd (zit.1 k) hn
 exact absurd (ziu k) h
theorem znm{l:List Ce}(hs:Sd leC l 0 l.length):((za6 l l.length).map fun e=>e.xs).Pairwise ltC:=by
 unfold za6;rw[List.map_map,List.pairwise_map];refine List.Pairwise.imp_of_mem ?_ ((List.pairwise_lt_range (n:=l.length)).filter (zf9 l));intro s t hs1 ht1 hst;obtain⟨h1,_⟩:=List.mem_filter.1 hs1;obtain⟨h2,h3⟩:=List.mem_filter.1 ht1;rw[List.mem_range]at h1 h2;have hle:=hs s t (Nat.zero_le _) hst h2
 refine zzp hle fun e=>?_
 simp only[zf9,Bool.or_eq_true,decide_eq_true_eq]at h3
 rcases h3 with h3|h3
 ·omega
 apply h3
 by_cases c:s=t-1
 ·rw[<-c];exact e.symm
 have a1:=hs s (t-1) (Nat.zero_le _) (by omega) (by omega);have a2:=hs (t-1) t (Nat.zero_le _) (by omega) h2
 apply Classical.byContradiction
 intro hne
 have b2:=zzp a2 fun e'=>hne e'.symm
 rw[<-e]at b2;exact a1 b2
theorem zku{l:List Ce}:∀t,∃s,s<=t/\zf9 l s=true/\(gd l s).xs=(gd l t).xs
 |0=>⟨0,Nat.le_refl _,rfl,rfl⟩
 |t+1=>by
   by_cases h:(gd l (t+1)).xs=(gd l t).xs
   ·obtain⟨s,h1,h2,h3⟩:=zku (l:=l) t;exact⟨s,by omega,h2,h3.trans h.symm⟩
   exact⟨t+1,Nat.le_refl _,by simp[zf9,h],rfl⟩
theorem zt8{l:List Ce}(hs:Sd leC l 0 l.length):(za6 l l.length).map (fun e=>e.xs)=ordC (l.map fun e=>e.xs):=by
 refine zfv (znm hs) fun x=>?_
 rw[List.mem_map,List.mem_map]
 constructor
 ·rintro⟨e,he,rfl⟩;obtain⟨t,h1,_,rfl⟩:=znl he;exact⟨_,by rw[zar h1];exact List.getElem_mem h1,rfl⟩
 rintro⟨e,he,rfl⟩;obtain⟨t,h1,rfl⟩:=List.getElem_of_mem he;obtain⟨s,k1,k2,k3⟩:=zku (l:=l) t;refine⟨gd l s,?_,by rw[k3,zar h1]⟩;unfold za6;exact List.mem_map.2 ⟨s,List.mem_filter.2 ⟨List.mem_range.2 (by omega),k2⟩,rfl⟩
theorem ycm{xs ys:Cl}(hl:xs.length=ys.length)(h:∀j,j<xs.length->xs.getD j 0=ys.getD j 0):xs=ys:=by
 apply List.ext_getElem hl
 intro i h1 h2;have:=h i h1
 simpa[List.getD_eq_getElem?_getD,h1,h2]using this
end Go.Proofs.YtnlaakmglhjjmaaGreatDoor
namespace Go.Proofs.YtnlaakmglhjjmaaGreatDoor
open Go.RowKit Cen
theorem zsf(a b:Option Addr)(c d:Nat)(xs ys:Cl)(w:World)(hm:xs.length<=1073741824)(hm2:ys.length<=1073741824)(hx:IntCells w a xs)(hy:IntCells w b ys):
 Calls Tryz.prog 131 #[.slice a xs.length c,.slice b ys.length d] w fun e w'=>e=.returned (.bool (decide (xs=ys)))/\Below w.heap.size w w':=by
 have HX:=lh hx;have HY:=lh hy;clear hx hy
 by_cases hl:xs.length=ys.length
 ·have HL:=lh hl
  have hlb:((xs.length:Int)!=(ys.length:Int))=false:=by simp[hl]
  have hlb2:(xs.length !=ys.length)=false:=by simp[hl]
  clear hl;go_enter Tryz.func131,Tryz.ntmps131;go_wp2_with fail
  go_loopw[5,13](fun _ i wr=>∃k:Nat,k<=xs.length/\i=.int .i64 k/\(∀j,j<k->xs.getD j 0=ys.getD j 0)/\Below w.heap.size w wr)(fun _ i _=>xs.length-(intOf i).toNat)
  case atStart=>exact⟨0,Nat.zero_le _,rfl,fun j h=>absurd h (Nat.not_lt_zero _),Below.refl _ _⟩
  obtain⟨k,hk,rfl,hz,hb⟩:=hrel;have HZ:=lh hz;have HB:=lh hb;clear hz hb
  by_cases hlt:k<xs.length
  ·have hlt2:k<ys.length:=by have:=HL.o;omega
   obtain⟨b1,o1,rfl,e1⟩:=HX.o k hlt;obtain⟨b2,o2,rfl,e2⟩:=HY.o k hlt2
   have HST:Hid (xs.getD k 0=ys.getD k 0->∀j,j<k+1->xs.getD j 0=ys.getD j 0):=fun h j hj=>by
    rcases Nat.lt_or_ge j k with h'|h'
    ·exact HZ.o j h'
    rw[show j=k by omega];exact h
   have HNE:Hid (xs.getD k 0≠ys.getD k 0->decide (xs=ys)=false):=fun h=>decide_eq_false fun e=>h (by rw[e])
   have c1:=zab HB.o e1;have c2:=zab HB.o e2
   have hki:(k:Int)<(xs.length:Int):=by omega
   have hki2:(k:Int)<(ys.length:Int):=by omega
   generalize xs.getD k 0=x at*;generalize ys.getD k 0=y at*
   by_cases hxy:x=y
   ·have hb1:(x !=y)=false:=by simp[hxy]
    have HS:=lh (HST.o hxy);clear hxy e1 e2;go_wp2_with fail
    go_quiet(fail)
    all_goals
     go_wp2;go_roundw
     case rel=>exact⟨k+1,by omega,by go_num,HS.o,HB.o.trans ((zal _ _).mono HB.o.size)⟩
     case measure=>simp[intOf];omega
   have hb1:(x !=y)=true:=by simp[hxy]
   have HS:=lh (HNE.o hxy);clear hxy e1 e2;go_wp2_with fail
   go_quiet(fail)
   all_goals
    go_wp2;go_ret;exact⟨zbg HS.o.symm,HB.o.trans ((zal _ _).mono HB.o.size)⟩
  have:k=xs.length:=by omega
  subst this;have HE:Hid (decide (xs=ys)=true):=decide_eq_true (ycm HL.o HZ.o);go_wp2;go_ret;exact⟨zbg HE.o.symm,HB.o⟩
 have HE:Hid (decide (xs=ys)=false):=decide_eq_false fun e=>hl (by rw[e])
 have hlb:((xs.length:Int)!=(ys.length:Int))=true:=by simp;omega
 have hlb2:(xs.length !=ys.length)=true:=by simp[hl]
 clear hl;go_enter Tryz.func131,Tryz.ntmps131;go_wp2;go_ret;exact⟨zbg HE.o.symm,Below.refl _ _⟩
theorem zsz(a b:Option Addr)(c d:Nat)(i j:Int)(xs ys:Cl)(w:World)(hm:xs.length<=1073741824)(hm2:ys.length<=1073741824)(hx:IntCells w a xs)(hy:IntCells w b ys):
 Calls Tryz.prog 130 #[clv a xs.length c i,clv b ys.length d j] w fun e w'=>e=.returned (.bool (decide (xs=ys)))/\Below w.heap.size w w':=by
 have hb0:Below w.heap.size w ((w.alloc (.cells #[.slice a xs.length c,.int .i64 i] 163)).alloc (.cells #[.slice b ys.length d,.int .i64 j] 163)):=(ba _ _).alloc (by simp) _;have HB0:=lh hb0;have HCF:=lh (zsf a b c d xs ys _ hm hm2 (hx.keep hb0) (hy.keep hb0));clear hb0 hx hy;go_enter Tryz.func130,Tryz.ntmps130;go_wp2_with fail;refine HCF.o.mono ?_;rintro e w1⟨rfl,hb1⟩;have HB1:=bt HB0 hb1;clear hb1;go_wp2;go_ret;exact⟨rfl,HB1.o⟩
theorem zqi:∀(M:List Ce)(i:Nat),(M.flatMap ce).take (i*2)=(M.take i).flatMap ce
 |_,0=>by simp
 |[],i+1=>by simp
 |e::M,i+1=>by
   rw[List.flatMap_cons,List.take_succ_cons,List.flatMap_cons,Nat.add_mul,Nat.one_mul,List.take_append,ziq];rw[show i*2+2-2=i*2 by omega,zqi M i,List.take_of_length_le (by rw[ziq];omega)]
theorem zc1{base e k g cap n:Nat}:∀(vs:List Value)(o:Nat)(w:World)(xs:List Value),w.ownsRow base e k (.slice (some ⟨g,0,none⟩) n cap) n xs->∃ys,(w.setCells g o vs).ownsRow base e k (.slice (some ⟨g,0,none⟩) n cap) n ys/\ys.take o=xs.take o
 |[],o,w,xs,h=>⟨xs,h,rfl⟩
 |v::vs,o,w,xs,h=>by
   obtain⟨ys,h1,h2⟩:=zc1 vs (o+1) _ _ (World.ownsRow.stored h o v).1;refine⟨ys,h1,?_⟩;have h3:=congrArg (List.take o) h2;rw[List.take_take,List.take_take,show min o (o+1)=o by omega]at h3;rw[h3,List.take_set_of_le (Nat.le_refl o)]
theorem OwnC.cutTo{w:World}{base g cap n i:Nat}{M:List Ce}(h:OwnC w base (.slice (some ⟨g,0,none⟩) n cap) M)(hn:n=M.length)(hi:i<=n)(vs:List Value):OwnC (w.setCells g (i*2) vs) base (.slice (some ⟨g,0,none⟩) i cap) (M.take i):=by
 subst hn;obtain⟨ys,h1,h2⟩:=zc1 vs (i*2) w _ h
 have hl:(M.take i).length=i:=by rw[List.length_take];omega
 show World.ownsRow _ _ _ _ _ _ _
 rw[hl];refine⟨by rw[<-zqi,List.length_take,h.1];omega,?_⟩
 rcases h1.2 with⟨h3,_⟩|⟨g',cap',cur,hv,hb,hg,hnc,hcm,hcs,ht⟩
 ·simp at h3
 simp only[Value.slice.injEq,Option.some.injEq,Addr.mk.injEq,and_true,true_and]at hv;obtain⟨rfl,rfl⟩:=hv;refine .inr ⟨_,_,cur,rfl,hb,hg,by omega,hcm,hcs,?_⟩;have h3:=congrArg (List.take (i*2)) ht;rw[List.take_take,h2,zqi,show min (i*2) (M.length*2)=i*2 by omega]at h3;exact h3
theorem zfr(g:Nat):∀(vs:List Value)(o:Nat)(w:World),Kp (fun y=>y=g) w (w.setCells g o vs)
 |[],_,w=>Kp.refl _ _
 |v::vs,o,w=>Kp.trans (M:=fun y=>y=g) (Kp.setCell (M:=fun y=>y=g) _ _ _ rfl) (zfr g vs (o+1) _)
theorem zqm(w:World):(zeroValue 163).run Tryz.prog w=.ok (.agg #[.slice none 0 0,.int .i64 0]) w:=by kernel_rfl
theorem zt3{w:World}{base g cap n i:Nat}{M:List Ce}(h:OwnC w base (.slice (some ⟨g,0,none⟩) n cap) M)(hn:n=M.length)(hi:i<n)(ty:TypeId)(c:Nat):
 ∃vs,(Builtin.clear_ #[130] ty #[.slice (some ⟨g,i*2,none⟩) (n-i) c]).run Tryz.prog w=.ok (.tuple #[]) (w.setCells g (i*2) vs):=by
 refine⟨(Builtin.zeroCells #[.slice none 0 0,.int .i64 0] (n-i)).toList,?_⟩
 have hlen:(Builtin.zeroCells #[.slice none 0 0,.int .i64 0] (n-i)).toList.length=(n-i)*2:=by simp[Builtin.zeroCells]
 have hone:∀v∈(Builtin.zeroCells #[.slice none 0 0,.int .i64 0] (n-i)).toList,v.oneCell'=true:=by
  intro v hv;simp only[Builtin.zeroCells,Array.toList_map,List.mem_map]at hv;obtain⟨k,_,rfl⟩:=hv
  have hk:k%2=0\/k%2=1:=by omega
  rcases hk with e|e
  ·simp[e,Value.oneCell']
  simp[e,Value.oneCell']
 have hst:=run_storeCells_cells (P:=Tryz.prog) g (i*2) _ 0 w (fun j hj=>by
  rw[hlen]at hj
  have hk:(i*2+0+j)/2<M.length:=by omega
  rcases Nat.mod_two_eq_zero_or_one (i*2+0+j)with e|e
  ·have:=OwnC.c0 h hn hk;rw[show(i*2+0+j)/2*2=i*2+0+j by omega]at this;rw[this];rfl
  have:=OwnC.c1 h hn hk
  rw[show(i*2+0+j)/2*2+1=i*2+0+j by omega]at this;rw[this];rfl) (fun j _=>h.fr hn _) hone
 simp only[Nat.add_zero]at hst
 obtain⟨m,hm⟩:∃m,n-i=m+1:=⟨n-i-1,by omega⟩
 rw[hm]at hst⊢
 simp[Builtin.clear_,run_underlying Tryz.underlying130,zqm,hst,Value.cells]
abbrev FN2:Value:=.func (.func 130) #[] #[]
theorem zo2:∀(args:Array Value)(w:World),(callFunc 130 args).run Tryz.prog w=.ok (.enter 130 args) w:=fun _ _=>by kernel_rfl
theorem ycn{w:World}{g:Nat}{l:List Ce}(h:CsOk w g l){i j:Nat}(hi:i<l.length)(hj:j<l.length)(V:World)(hV:Kp (fun y=>y=g) w V):
 Calls Tryz.prog 130 #[clv (gd l i).a (gd l i).xs.length (gd l i).c (gd l i).i,clv (gd l j).a (gd l j).xs.length (gd l j).c (gd l j).i] V fun e w'=>e=.returned (.bool (decide ((gd l i).xs=(gd l j).xs)))/\Below V.heap.size V w':=by
 obtain⟨a1,_,a3⟩:=(h.kept hV).at hi;obtain⟨b1,_,b3⟩:=(h.kept hV).at hj;exact zsz _ _ _ _ _ _ _ _ V a1 b1 a3 b3
end Go.Proofs.YtnlaakmglhjjmaaGreatDoor
