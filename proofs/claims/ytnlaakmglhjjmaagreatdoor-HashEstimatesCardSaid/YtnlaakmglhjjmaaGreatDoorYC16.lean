/- Parts of the proofs of laws. Texts: CpG, CpK, QKey, CpW, CpV. -/
import Derived.Test.YtnlaakmglhjjmaaGreatDoorYC15
set_option maxHeartbeats 8000000
set_option maxRecDepth 100000
set_option linter.all false
namespace Go.Proofs.YtnlaakmglhjjmaaGreatDoor
open Go.RowKit Cen
theorem zsl(y x:Int)(hx1:-128<=x)(hx2:x<=128)(a:Addr)(w:World)(h:w.cell? a=some (.int .i64 x)):
 Calls Tryz.prog 134 #[.int .i64 y,.pointer (some a)] w fun e w'=>e=.returned (.bool (decide (y=-x)))/\w=w':=by
 have HY:Hid (IntKind.i64.wrap (-x)=-x):=IntWalk.i64_in _ (by omega)
 by_cases hd:y=-x
 ·have HD:Hid (decide (y=-x)=true):=by show _=_;simp[hd]
  have h1:(y==-x)=true:=by simp[hd]
  have hy:=HY.o;subst hd;clear HY;go_enter Tryz.func134,Tryz.ntmps134;go_wp2;go_ret;exact⟨zbg HD.o.symm,rfl⟩
 have HD:Hid (decide (y=-x)=false):=by show _=_;simp[hd]
 have h1:(y==-x)=false:=by simp[hd]
 have h2:decide (y=-x)=false:=by simp[hd]
 have hy:=HY.o;clear HY hd;go_enter Tryz.func134,Tryz.ntmps134;go_wp2;go_ret;exact⟨zbg HD.o.symm,rfl⟩
theorem zin:za8 134:=fun _ _=>by kernel_rfl
theorem zke(p:Int->Bool)(f:FuncId)(cs:Array Value)(w:World)(hcf:za8 f):
 Calls Tryz.prog 133 #[.slice none 0 0,.func (.func f) #[] cs] w fun e w'=>e=.returned (.slice none 0 0)/\w=w':=by
 have HI:=lh (zd7 none 0 [] f cs p w (by decide) (IntCells.nil _ _) (fun x h=>by simp at h) hcf);clear hcf;go_enter Tryz.func133,Tryz.ntmps133;go_wp2_with fail;refine HI.o.mono ?_;rintro e w1⟨rfl,rfl⟩;go_wp2;go_ret;exact⟨rfl,rfl⟩
def zwk(base:Nat)(v:Value)(l:List Int)(p:Int->Bool)(w:World)(e:Ending)(w':World):Prop:=
 ∃v',e=.returned v'/\OwnI w' base v' (l.filter fun x=>!p x)/\Kp (fun y=>v.ownBlock=some y) w w'/\∀k,v'.ownBlock=some k->v.ownBlock=some k
theorem yap(base:Nat)(v:Value)(l:List Int)(p:Int->Bool)(f:FuncId)(cs:Array Value)(w:World)(ho:OwnI w base v l)(hm:l.length<=1073741824)
 (hp:∀V,Kp (fun y=>v.ownBlock=some y) w V->∀x,x∈l->Calls Tryz.prog f (#[.int .i64 x]++cs) V fun e w'=>e=.returned (.bool (p x))/\V=w')(hcf:za8 f):
 Calls Tryz.prog 133 #[v,.func (.func f) #[] cs] w (zwk base v l p w):=by
 rcases ho.shape with⟨rfl,rfl⟩|⟨g,cap,rfl,hg1,hg2⟩
 ·refine(zke p f cs w hcf).mono ?_;rintro e w'⟨rfl,rfl⟩;exact⟨_,rfl,OwnL.nil _ _,Kp.refl _ _,fun k h=>h⟩
 refine(zkd g cap base l p f cs w ho hm (fun V hV=>hp V (hV.mono fun k _ h=>by rw[h];rfl)) hcf).mono ?_;rintro e w'⟨rfl,h1,h2⟩;exact⟨_,rfl,h1,h2.mono fun k _ h=>by rw[h];rfl,fun k h=>h⟩
def CcCells(w:World)(a:Option Addr)(l:List Ce):Prop:=∀i,i<l.length->∃b off,a=some ⟨b,off,none⟩/\w.cell? ⟨b,off+i*2,none⟩=some (.slice (gd l i).a (gd l i).xs.length (gd l i).c)/\w.cell? ⟨b,off+i*2+1,none⟩=some (.int .i64 (gd l i).i)/\IntCells w (gd l i).a (gd l i).xs
theorem CcCells.keep{w w':World}{a:Option Addr}{l:List Ce}(h:CcCells w a l)(hb:Below w.heap.size w w'):CcCells w' a l:=fun i hi=>by
 obtain⟨b,off,e,h1,h2,h3⟩:=h i hi;exact⟨b,off,e,zab hb h1,zab hb h2,h3.keep hb⟩
def GvAt(x:Int)(l m:List Ce):Prop:=∀e∈m,∃f∈l,e.i=f.i/\x∉f.xs/\e.xs=f.xs.filter fun y=>decide (y≠-x)
structure GvSt(x:Int)(l:List Ce)(B k:Nat)(w:World)(v:Value)(m:List Ce):Prop where
 own:OwnC w B v m
 ins:CsIn w B v m
 at':GvAt x l m
 len:m.length<=k
 xs:(m.map fun e=>e.xs)=(((l.map fun e=>e.xs).take k).filter fun c=>!c.contains x).map fun c=>c.filter fun y=>decide (y≠-x)
def zz0(x:Int)(l:List Ce)(w:World)(e:Ending)(w':World):Prop:=
 ∃v m,e=.returned v/\OwnC w' w.heap.size v m/\CsIn w' w.heap.size v m/\GvAt x l m/\(m.map fun e=>e.xs)=zah (l.map fun e=>e.xs) x/\Below w.heap.size w w'
theorem GvSt.later{x:Int}{l:List Ce}{B k:Nat}{w w':World}{v:Value}{m:List Ce}(h:GvSt x l B k w v m)(hb:Below w.heap.size w w'):GvSt x l B k w' v m:=
 ⟨h.own.later hb,h.ins.kept (Kp.below hb) fun _ h=>.inl h,h.at',h.len,h.xs⟩
theorem GvSt.skip{x:Int}{l:List Ce}{B k:Nat}{w:World}{v:Value}{m:List Ce}(h:GvSt x l B k w v m)(hk:k<l.length)(ht:(gd l k).xs.contains x=true):GvSt x l B (k+1) w v m:=
 ⟨h.own,h.ins,h.at',Nat.le_succ_of_le h.len,by
   rw[zar hk]at ht;rw[h.xs,List.take_succ_eq_append_getElem (by rw[List.length_map];exact hk),List.filter_append,List.map_append,List.getElem_map]
   have hx:x∈l[k].xs:=by simpa using ht
   simp[hx]⟩
theorem zny(a:Option Addr)(cap:Nat)(l:List Ce)(x:Int)(hx1:-128<=x)(hx2:x<=128)(w:World)(hl:l.length<=1073741823)(hc:CcCells w a l)(hs:∀e∈l,e.xs.length<=1073741824/\litB e.xs):
 Calls Tryz.prog 97 #[.slice a l.length cap,.int .i64 x] w (zz0 x l w):=by
 have hb0:Below w.heap.size w (w.alloc (.cells #[.int .i64 x] 3)):=ba _ _;obtain⟨w0,hw0⟩:=nm (w.alloc (.cells #[.int .i64 x] 3))
 have b0:w0.cell? ⟨w.heap.size,0,none⟩=some (.int .i64 x):=by rw[hw0,World.cell?_alloc_at _ _ _ _ rfl];rfl
 have hs0:w0.heap.size=w.heap.size+1:=by rw[hw0];simp
 rw[<-hw0]at hb0;have HX:=lh (hc.keep hb0);have HB0:=lh hb0;have HT:=lh hs;have HS0:=lh hs0
 have HIN:Hid (GvSt x l w0.heap.size 0 w0 (.slice none 0 0) []):=⟨OwnL.nil _ _,CsIn.nil _ _ _,fun e h=>by simp at h,Nat.le_refl _,rfl⟩
 clear hc hs hb0 hs0;go_enter Tryz.func97,Tryz.ntmps97;go_wp2_with fail;rw[<-hw0];clear hw0;go_wp2_with fail
 go_loopw[5,11](fun v i wr=>∃k:Nat,k<=l.length/\i=.int .i64 k/\Below w0.heap.size w0 wr/\∃m va vc,v=.slice va m.length vc/\GvSt x l w0.heap.size k wr (.slice va m.length vc) m)(fun _ i _=>l.length-(intOf i).toNat)
 case atStart=>exact⟨0,Nat.zero_le _,rfl,Below.refl _ _,[],none,0,rfl,HIN.o⟩
 obtain⟨k,hk,rfl,hb,m,va,vc,rfl,hst⟩:=hrel;have HB:=lh hb;have HST:=lh hst;clear hb hst
 by_cases hlt:k<l.length
 ·obtain⟨b,off,rfl,hc0,hc1,hi⟩:=HX.o.keep HB.o k hlt;have b2:=zab HB.o b0;obtain⟨hlen,hval⟩:=HT.o (gd l k) (by rw[zar hlt];exact List.getElem_mem hlt)
  have hki:(k:Int)<(l.length:Int):=by omega
  have HI:=lh hi;have HVL:=lh hval;have HLN:=lh hlen;have HCN:=lh (fun V(hV:Below wr.heap.size wr V)=>znq (gd l k).a (gd l k).c (gd l k).xs x V hlen (hi.keep hV))
  have hbl:w.heap.size<wr.heap.size:=by have h1:=HB.o.size;have h2:=HS0.o;omega
  have hb1:Below wr.heap.size wr (wr.alloc (.cells #[.slice (gd l k).a (gd l k).xs.length (gd l k).c,.int .i64 (gd l k).i] 163)):=ba _ _;have HB1:=lh hb1;clear hi hval hlen hb1;have HCN1:=lh (HCN.o _ HB1.o)
  cases hcx:has (gd l k).xs x with
  |true=>
    rw[hcx]at HCN1;have HSK:=lh ((HST.o.skip hlt (by rw[<-hcx];unfold has;rw[List.contains_eq_any_beq])).later HB1.o);clear hcx;go_wp2_with fail;refine HCN1.o.mono ?_;rintro e w2⟨rfl,rfl⟩;go_wp2;go_roundw
    case rel=>exact⟨k+1,by omega,by go_num,HB.o.trans (HB1.o.mono HB.o.size),m,va,vc,rfl,HSK.o⟩
    case measure=>simp[intOf];omega
  |false=>
    rw[hcx]at HCN1;have HCL:=lh (zaz (gd l k).a (gd l k).c (gd l k).xs _ HLN.o (HI.o.keep HB1.o));go_wp2_with fail;refine HCN1.o.mono ?_;rintro e w2⟨rfl,rfl⟩;go_wp2_with fail;refine HCL.o.mono ?_;rintro e w3⟨v3,rfl,hown3,hb3⟩
    have hs1:(wr.alloc (.cells #[.slice (gd l k).a (gd l k).xs.length (gd l k).c,.int .i64 (gd l k).i] 163)).heap.size=wr.heap.size+1:=by simp
    have hb3':Below wr.heap.size wr w3:=HB1.o.trans (hb3.mono (by rw[hs1];omega));have c3:=zab hb3' b2;have hown3:=zao.1 hown3;rw[hs1]at hown3
    have hob3:∀g,v3.ownBlock=some g->wr.heap.size<g:=fun g hg=>(World.ownsRow.lt hown3 g hg).1
    have HDE:=lh (yap (wr.heap.size+1) v3 (gd l k).xs (fun y=>decide (y=-x)) 134 #[.pointer (some ⟨w.heap.size,0,none⟩)] w3 hown3 HLN.o
     (fun V hV y _=>zsl y x hx1 hx2 ⟨w.heap.size,0,none⟩ V (hV.cell c3 (fun h=>by have:=hob3 _ h;simp only at this;omega))) zin)
    have HB3:=lh hb3';have d0:w3.cell? ⟨wr.heap.size,1,none⟩=some (.int .i64 (gd l k).i):=zab hb3 (by rw[World.cell?_alloc_at _ _ _ _ rfl];rfl);have HD0:=lh d0;have HOB:=lh hob3;clear hown3 hb3 hb3' c3 hob3 d0 hs1;go_wp2_with fail;refine HDE.o.mono ?_;rintro e w4⟨v4,rfl,hown4,hk4,ho4⟩;have d4:w4.cell? ⟨wr.heap.size,1,none⟩=some (.int .i64 (gd l k).i):=hk4.cell HD0.o (fun h=>by have:=HOB.o _ h;simp only at this;omega);have hb4:Below wr.heap.size wr w4:=HB3.o.trans (hk4.toBelow HB3.o.size fun k hk h=>by have:=HOB.o _ h;omega)
    have hdn:((gd l k).xs.filter fun y=>!decide (y=-x))=(gd l k).xs.filter fun y=>decide (y≠-x):=by
     congr 1;funext y;by_cases c:y=-x<;>simp[c]
    rw[hdn]at hown4;obtain⟨av,cv,rfl,hcells,hav⟩:=(zao.2 hown4).cells;have hlt2:=(zao.2 hown4).lt;have HCE2:=lh hcells;have HAV:=lh hav;have HL2:=lh hlt2;have HST2:=lh (HST.o.later hb4);have HB4:=lh hb4;have HLT:=lh (show∀g,(Value.slice va m.length vc).ownBlock=some g->g<wr.heap.size from fun g hg=>(World.ownsRow.lt HST.o.own g hg).2);have HSZ2:Hid (w0.heap.size<=w4.heap.size):=Nat.le_trans HB.o.size hb4.size;have hml:=HST.o.len;have HLL:=lh (show m.length<=1073741824 by omega)
    have HNI:Hid (x∉(gd l k).xs):=fun h=>by have:=ya8.2 h;rw[hcx]at this;simp at this
    have hdb:litB ((gd l k).xs.filter fun y=>decide (y≠-x)):=fun y hy=>HVL.o y (List.mem_filter.1 hy).1
    have hdl:((gd l k).xs.filter fun y=>decide (y≠-x)).length<=1073741824:=Nat.le_trans (List.length_filter_le _ _) HLN.o;have HDB:=lh hdb;have HDL:=lh hdl;obtain⟨d,hd⟩:=nm ((gd l k).xs.filter fun y=>decide (y≠-x));rw[<-hd]at HCE2 HL2 HDB HDL⊢;have HD:=lh hd;clear hcells hav hlt2 hown4 hk4 ho4 hb4 hml hdb hdl hd hdn;go_wp2_with(at_builtin;go_loud(refine zlx (C:=#[.slice av d.length cv,.int .i64 (gd l k).i]) zma rfl _ _ rfl w0.heap.size (.slice va m.length vc) m ⟨av,cv,d,(gd l k).i⟩ rfl HST2.o.own rfl rfl rfl (by intro u hu;simp[ce]at hu;rcases hu with rfl|rfl<;>rfl) HLL.o (by decide) HSZ2.o ?_))
    intro g cap5 w5 ho5 hg5 hgn
    have HN:Hid (GvSt x l w0.heap.size (k+1) w5 (.slice (some ⟨g,0,none⟩) (m.length+1) cap5) (m++[⟨av,cv,d,(gd l k).i⟩])):=by
     have hob:∀g0,(Value.slice va m.length vc).ownBlock=some g0->g0<wr.heap.size:=HLT.o
     have hkp:Kp (fun y=>(Value.slice va m.length vc).ownBlock=some y) w4 w5:=Kp.grown hg5 fun k h=>h
     have hgn':∀k,(Value.slice (some ⟨g,0,none⟩) (m.length+1) cap5).ownBlock=some k->(Value.slice va m.length vc).ownBlock=some k\/w4.heap.size<=k:=fun k h=>by
      cases h;exact hgn
     refine⟨ho5,fun e he=>?_,fun e he=>?_,by rw[List.length_append];have:=HST.o.len;simp;omega,?_⟩
     ·rcases List.mem_append.1 he with he|he
      ·exact(HST2.o.ins.kept hkp hgn') e he
      simp only[List.mem_singleton]at he;subst he;refine⟨HDL.o,HDB.o,HCE2.o.kept hkp fun p hp e'=>?_,fun p hp=>?_⟩
      ·have h1:=hob _ e';have h2:=(HAV.o p hp).1;omega
      subst hp;have h1:=(HAV.o p rfl).1;have h2:=(HL2.o p.block rfl).2;have h3:=HB.o.size;refine⟨by omega,Nat.lt_of_lt_of_le h2 hkp.size,fun e'=>?_⟩
      rcases hgn' _ e' with h4|h4
      ·have:=hob _ h4;omega
      omega
     ·rcases List.mem_append.1 he with he|he
      ·exact HST2.o.at' e he
      simp only[List.mem_singleton]at he;subst he;exact⟨gd l k,by rw[zar hlt];exact List.getElem_mem hlt,rfl,HNI.o,HD.o⟩
     have hx:x∉l[k].xs:=by rw[<-zar hlt];exact HNI.o
     rw[List.map_append,HST2.o.xs,List.take_succ_eq_append_getElem (by rw[List.length_map];exact hlt),List.filter_append,List.map_append,List.getElem_map];rw[show[l[k].xs].filter (fun c=>!c.contains x)=[l[k].xs]by simp[hx],show List.map (fun c:Cl=>c.filter fun y=>decide (y≠-x)) [l[k].xs]=[l[k].xs.filter fun y=>decide (y≠-x)]from rfl,<-zar hlt,<-HD.o]
     rfl
    have HB5:Hid (Below w0.heap.size w0 w5):=(HB.o.trans (HB4.o.mono HB.o.size)).trans (Kp.toBelow (Kp.grown (M:=fun y=>(Value.slice va m.length vc).ownBlock=some y) hg5 fun k h=>h) HSZ2.o fun k hk h=>by
     have:=(World.ownsRow.lt HST.o.own k h).1;omega)
    clear ho5 hg5 hgn;go_wp2;go_roundw
    case rel=>exact⟨k+1,by omega,by go_num,HB5.o,m++[⟨av,cv,d,(gd l k).i⟩],some ⟨g,0,none⟩,cap5,by rw[List.length_append];rfl,by rw[List.length_append];exact HN.o⟩
    case measure=>simp[intOf];omega
 have hke:k=l.length:=by omega
 subst hke
 have HXS:Hid (ordC (m.map fun e=>e.xs)=zah (l.map fun e=>e.xs) x):=by
  show _=_
  rw[HST.o.xs,show(l.map fun e=>e.xs).take l.length=l.map fun e=>e.xs by rw[List.take_of_length_le (by simp)]]
  rfl
 have HSB:=lh (HB0.o.trans (HB.o.mono HB0.o.size));have HZ:Hid (w.heap.size<=w0.heap.size):=HB0.o.size;have hml:=HST.o.len
 rcases HST.o.own.shape with⟨hv,h0⟩|⟨g,cp,hv,hg1,hg2⟩
 ·simp only[Value.slice.injEq]at hv;obtain⟨rfl,_,rfl⟩:=hv;subst h0;go_wp2_with fail;refine(zog _).mono ?_;rintro e w2⟨rfl,rfl⟩;go_wp2;go_ret;exact⟨_,[],rfl,OwnL.nil _ _,CsIn.nil _ _ _,fun e h=>by simp at h,HXS.o,HSB.o⟩
 simp only[Value.slice.injEq]at hv;obtain⟨rfl,_,rfl⟩:=hv;have HOR:=lh (zjr g vc w0.heap.size m wr HST.o.own HST.o.ins.ok (by omega));have HG1:=lh hg1;clear hg1 hg2;go_wp2_with fail;refine HOR.o.mono ?_;rintro e w2⟨l',rfl,hown,hxs,hsub,hkp⟩;have HO2:=lh (hown.lower HZ.o)
 have HC2:Hid (CsIn w2 w.heap.size (.slice (some ⟨g,0,none⟩) l'.length vc) l'):=by
  have h1:=(HST.o.ins.sub hsub).kept (hkp.mono fun k _ h=>by rw[h];rfl) (v':=.slice (some ⟨g,0,none⟩) l'.length vc) (fun k h=>.inl h)
  exact fun e he=>let⟨a1,a2,a3,a4⟩:=h1 e he;⟨a1,a2,a3,fun p hp=>⟨Nat.le_trans HZ.o (a4 p hp).1,(a4 p hp).2⟩⟩
 have HAT:Hid (GvAt x l l'):=fun e he=>HST.o.at' e (hsub e he)
 have HNF:Hid ((l'.map fun e=>e.xs)=zah (l.map fun e=>e.xs) x):=by
  show _=_
  rw[hxs,HXS.o]
 have HBB:=lh (HSB.o.trans (hkp.fresh (Nat.le_trans HZ.o HG1.o) HSB.o.size));clear hown hxs hsub hkp;go_wp2;go_ret;exact⟨_,l',rfl,HO2.o,HC2.o,HAT.o,HNF.o,HBB.o⟩
end Go.Proofs.YtnlaakmglhjjmaaGreatDoor
namespace Cen
def zcc(c:Cl):List UInt8:=c.flatMap zdl++[48]
def keyC(l:List Cl):List UInt8:=l.flatMap zcc
theorem zkc(u:Nat):u≠0->(Go.Lib.decDigits u).head?≠some 48:=by
 induction u using Nat.strongRecOn with
 |_ u ih=>
   intro hu;rw[Go.Lib.decDigits]
   split
   ·rename_i h
    intro e;simp only[List.head?_cons,Option.some.injEq]at e;have:=congrArg UInt8.toNat e;rw[zdf h]at this;have h48:(48:UInt8).toNat=48:=rfl;omega
   rename_i h
   have h2:=ih (u/10) (by omega) (by omega);have h3:=zhm (u/10)
   cases hd:Go.Lib.decDigits (u/10)with
   |nil=>exact absurd hd h3
   |cons y t=>rw[hd]at h2;simpa using h2
theorem zn0{x:Int}(h:x≠0)(r:List UInt8):(zdl x++r).head?≠some 48:=by
 unfold zdl Go.Lib.itoa
 split
 ·simp
 have h2:=zkc x.toNat (by omega);have h3:=zhm x.toNat
 cases hd:Go.Lib.decDigits x.toNat with
 |nil=>exact absurd hd h3
 |cons y t=>rw[hd]at h2;simpa using h2
theorem zn2:∀{c d:Cl}{r s:List UInt8},(0∉c)->(0∉d)->zcc c++r=zcc d++s->c=d/\r=s
 |[],[],r,s,_,_,h=>by simpa[zcc]using h
 |[],y::d,r,s,_,hd,h=>by
   have h1:=congrArg List.head? h;simp only[zcc,List.flatMap_nil,List.nil_append,List.flatMap_cons,List.append_assoc,List.singleton_append,List.head?_cons]at h1;exact absurd h1.symm (zn0 (fun e=>hd (by simp[e])) _)
 |x::c,[],r,s,hc,_,h=>by
   have h1:=congrArg List.head? h;simp only[zcc,List.flatMap_nil,List.nil_append,List.flatMap_cons,List.append_assoc,List.singleton_append,List.head?_cons]at h1;exact absurd h1 (zn0 (fun e=>hc (by simp[e])) _)
 |x::c,y::d,r,s,hc,hd,h=>by
   have h':zdl x++(zcc c++r)=zdl y++(zcc d++s):=by simpa[zcc]using h
   obtain⟨h1,h2⟩:=zu4 h';simp only[List.mem_cons,not_or]at hc hd;obtain⟨h3,h4⟩:=zn2 hc.2 hd.2 h2;exact⟨by rw[h1,h3],h4⟩
theorem zrd(c:Cl):zcc c≠[]:=by simp[zcc]
theorem zrc:∀{l m:List Cl},(∀c∈l,0∉c)->(∀c∈m,0∉c)->keyC l=keyC m->l=m
 |[],[],_,_,_=>rfl
 |[],d::m,_,_,h=>by
   simp only[keyC,List.flatMap_nil,List.flatMap_cons]at h;exact absurd (List.append_eq_nil_iff.1 h.symm).1 (zrd d)
 |c::l,[],_,_,h=>by
   simp only[keyC,List.flatMap_nil,List.flatMap_cons]at h;exact absurd (List.append_eq_nil_iff.1 h).1 (zrd c)
 |c::l,d::m,hl,hm,h=>by
   simp only[keyC,List.flatMap_cons]at h;obtain⟨h1,h2⟩:=zn2 (hl c (by simp)) (hm d (by simp)) h;rw[h1,zrc (fun x hx=>hl x (by simp[hx])) (fun x hx=>hm x (by simp[hx])) h2]
theorem zu8{c:Cl}(h:∀x∈c,-65536<=x/\x<=65536):(zcc c).length<=21*c.length+1:=by
 have:=zxh c h;unfold zcc;simp only[List.length_append,List.length_singleton];omega
end Cen
namespace Go.Proofs.YtnlaakmglhjjmaaGreatDoor
open Go.RowKit Cen
theorem zq1:Elem 50 5 1 1 (.int .u8 0):=.mk Tryz.underlying50 (by kernel_rfl) rfl (by decide)
def OwnB(w:World)(base:Nat)(v:Value)(l:List UInt8):Prop:=w.ownsRow base 5 1 v l.length (Lib.byteCells l)
theorem OwnB.nil(w:World)(base:Nat):OwnB w base (.slice none 0 0) []:=World.ownsRow_nil _ _ _ _
theorem OwnB.later{w w':World}{base:Nat}{v:Value}{l:List UInt8}(h:OwnB w base v l)(hb:Below w.heap.size w w'):OwnB w' base v l:=by
 refine⟨h.1,?_⟩
 rcases h.2 with h1|⟨g,cap,cur,hv,hg,hh,r⟩
 ·exact .inl h1
 exact .inr ⟨g,cap,cur,hv,hg,by rw[hb.block g (lt_of_block hh)];exact hh,r⟩
theorem OwnB.row{w:World}{base:Nat}{v:Value}{l:List UInt8}(h:OwnB w base v l):∀g,v.ownBlock=some g->∃c fz,w.heap[g]?=some (.cells c 5 fz):=by
 intro g hg
 rcases h.2 with⟨h1,_⟩|⟨g',cap,cur,hv,_,hh,_⟩
 ·rw[h1]at hg;simp[Value.ownBlock]at hg
 rw[hv]at hg;simp[Value.ownBlock]at hg;subst hg;exact⟨cur,_,hh⟩
section
variable{ops:Array Oper}{o:Oper}{a:Act}{w:World}{K:Act->World->Prop}{Q:Exit->Act->World->Prop}{EE:Prop}
theorem zfg(l:List UInt8)(c:UInt8):Lib.byteCells l++[Value.int .u8 c.toNat]=Lib.byteCells (l++[c]):=by simp[Lib.byteCells]
end
theorem zvl{W W1 W3 W4:World}{B:Nat}{v:Value}{l:List UInt8}(hBW:B<=W.heap.size)(hown:OwnB W B v l)(h1:Below W.heap.size W W1)(hg:W1.grownBy W3 v.ownBlock)(h4:Below B W3 W4)(hk:Lib.OthersKept 5 none W3 W4):
 Below B W W4/\Lib.OthersKept 5 none W W4:=by
 have k1:Lib.OthersKept 5 none W W1:=fun k o ho _ _=>by rw[h1.block k (lt_of_block ho)];exact ho
 refine⟨(((h1.mono hBW)).grown hg (Nat.le_trans hBW h1.size) fun k hk=>?_).trans h4,(k1.grown hg fun g hg'=>?_).trans hk⟩
 ·rcases hown.2 with⟨e,_⟩|⟨g,cap,cur,hv,hgB,_⟩
  ·rw[e]at hk;simp[Value.ownBlock]at hk
  rw[hv]at hk;simp[Value.ownBlock]at hk;subst hk;exact hgB
 exact(hown.later h1).row g hg'
theorem zm8{W W1 W3:World}{B:Nat}{v:Value}{l:List UInt8}(hBW:B<=W.heap.size)(hown:OwnB W B v l)(h1:Below W.heap.size W W1)(hg:W1.grownBy W3 v.ownBlock):Below B W W3/\Lib.OthersKept 5 none W W3:=
 zvl hBW hown h1 hg (Below.refl _ _) (Lib.OthersKept.refl _ _ _)
def Pfx(tot cur:List UInt8):Prop:=∃r,tot=cur++r
theorem Pfx.le{tot cur:List UInt8}(h:Pfx tot cur):cur.length<=tot.length:=by obtain⟨r,rfl⟩:=h;simp
theorem Pfx.left{tot a b:List UInt8}(h:Pfx tot (a++b)):Pfx tot a:=by obtain⟨r,rfl⟩:=h;exact⟨b++r,by simp⟩
theorem zos{α:Type}{l:List α}{k:Nat}(h:k<l.length){β:Type}(f:α->List β):l.flatMap f=(l.take k).flatMap f++(f l[k]++(l.drop (k+1)).flatMap f):=by
 conv=>lhs;rw[show l=l.take k++l[k]::l.drop (k+1)by simp]
 rw[List.flatMap_append,List.flatMap_cons]
theorem zlm{α:Type}{l:List α}{k:Nat}(h:k<l.length){β:Type}(f:α->List β):(l.take (k+1)).flatMap f=(l.take k).flatMap f++f l[k]:=by
 rw[List.take_succ_eq_append_getElem h,List.flatMap_append];simp
theorem zly(B:Nat)(i:Int)(hi:small i)(sv:Value)(l:List UInt8)(w:World)(hown:OwnB w B sv l)(hBw:B<=w.heap.size)(hl:l.length<=1073741824)
 (ht:Lib.TabBelow Tryz.prog B w "internal/strconv.uint64pow10" .u64 Lib.pow10Tab):
 Calls Tryz.prog 157 #[sv,.int .i64 i,.int .i64 10] w fun e w'=>∃v',e=.returned v'/\OwnB w' B v' (l++Lib.itoa i)/\Below B w w'/\Lib.OthersKept 5 none w w':=by
 refine(Tryz.strconv_AppendInt_10 B l.length i (by have:=hi.1;omega) (by have:=hi.2;omega) sv (Lib.byteCells l) w hown hBw (by omega) ht).mono ?_;rintro e w'⟨v',rfl,h1,h2,h3⟩;refine⟨v',rfl,?_,h2,h3⟩;unfold OwnB;rw[<-zh0,List.length_append];exact h1
theorem zg6:∀l:List Ce,(∀e∈l,e.xs.length<=256/\litB e.xs)->(l.flatMap fun e=>zcc e.xs).length<=5377*l.length
 |[],_=>by simp
 |e::l,h=>by
   have h1:=zg6 l fun x hx=>h x (by simp[hx])
   obtain⟨h2,h3⟩:=h e (by simp)
   have h4:=zu8 (c:=e.xs) fun x hx=>by have:=h3 x hx;omega
   rw[List.flatMap_cons,List.length_append,List.length_cons];omega
theorem zkb(a:Option Addr)(cap:Nat)(l:List Ce)(w:World)(hl:l.length<=4096)(hne:l≠[])(hx:CcCells w a l)(hs:∀e∈l,e.xs.length<=256/\litB e.xs)(ht:Tab w):
 Calls Tryz.prog 135 #[.slice a l.length cap] w fun e w'=>e=.returned (.string ⟨(keyC (l.map fun e=>e.xs)).toArray⟩)/\Below w.heap.size w w':=by
 have HX:=lh hx;have HT:=lh hs;have HTB:Hid (Lib.TabBelow Tryz.prog w.heap.size w "internal/strconv.uint64pow10" .u64 Lib.pow10Tab):=Lib.tabBelow_of_tabIs ht
 have htot:keyC (l.map fun e=>e.xs)=l.flatMap fun e=>zcc e.xs:=by simp[keyC,List.flatMap_map]
 have HTOT:=lh htot
 have HLEN:Hid ((keyC (l.map fun e=>e.xs)).length<=22024192):=by show _<=_;rw[htot];have:=zg6 l hs;omega
 have HNE:Hid (keyC (l.map fun e=>e.xs)≠[]):=by
  show _≠_
  rw[htot]
  match l,hne with
  |e::l,_=>simp[zcc]
 generalize keyC (l.map fun e=>e.xs)=tot at*;clear hx hs ht htot hne;go_enter Tryz.func135,Tryz.ntmps135;go_wp2
 go_loopw[3,10](fun v i wr=>∃k:Nat,k<=l.length/\i=.int .i64 k/\OwnB wr w.heap.size v ((l.take k).flatMap fun e=>zcc e.xs)/\Below w.heap.size w wr)(fun _ i _=>l.length-(intOf i).toNat)
 case atStart=>exact⟨0,Nat.zero_le _,rfl,OwnB.nil _ _,Below.refl _ _⟩
 obtain⟨k,hk,rfl,hown,hb⟩:=hrel;have HO:=lh hown;have HB:=lh hb;clear hown hb
 by_cases hlt:k<l.length
 ·obtain⟨b,off,rfl,hc0,hc1,hi⟩:=HX.o k hlt;have d0:=zab HB.o hc0;have d1:=zab HB.o hc1
  have hki:(k:Int)<(l.length:Int):=by omega
  have hmem:=List.getElem_mem hlt
  have HXN:Hid ((l.take (k+1)).flatMap (fun e=>zcc e.xs)=(l.take k).flatMap (fun e=>zcc e.xs)++zcc (gd l k).xs):=by show _=_;rw[zar hlt];exact zlm hlt _
  have HPX:Hid (Pfx tot ((l.take k).flatMap (fun e=>zcc e.xs)++zcc (gd l k).xs)):=⟨(l.drop (k+1)).flatMap fun e=>zcc e.xs,by rw[HTOT.o,zos hlt,zar hlt];simp⟩
  have HSM:Hid (∀x∈(gd l k).xs,small x):=fun x hx=>by
   have:=(HT.o (gd l k) (by rw[zar hlt];exact hmem)).2 x hx;exact⟨by omega,by omega⟩
  have hxl:=(HT.o (gd l k) (by rw[zar hlt];exact hmem)).1;have HI:=lh hi;have HZ:=lh HB.o.size;have hob:HO.o=HO.o:=rfl;clear hc0 hc1 hi hmem hob;generalize(gd l k).xs=xs at*;generalize(gd l k).a=xa at*;generalize(gd l k).c=xc at*;generalize(gd l k).i=xi at*;generalize(l.take k).flatMap (fun e=>zcc e.xs)=p1 at*;have HOW:=lh (HO.o.later ((Below.refl _ _).alloc (Nat.le_refl _) (.cells #[.slice xa xs.length xc,.int .i64 xi] 163)));have HBW:=lh (HB.o.alloc HZ.o (.cells #[.slice xa xs.length xc,.int .i64 xi] 163));go_wp2
  go_loopw[3,17](fun v i wi=>∃q:Nat,q<=xs.length/\i=.int .i64 q/\OwnB wi w.heap.size v (p1++(xs.take q).flatMap zdl)/\Below w.heap.size w wi)(fun _ i _=>xs.length-(intOf i).toNat)
  case atStart=>exact⟨0,Nat.zero_le _,rfl,by simpa using HOW.o,HBW.o⟩
  obtain⟨q,hq,rfl,hown,hb⟩:=hrel;have HO7:=lh hown;have HB7:=lh hb;have HZ7:=lh hb.size;clear hown hb
  by_cases hlt3:q<xs.length
  ·obtain⟨b7,off7,rfl,e0'⟩:=HI.o q hlt3
   have hgd:xs.getD q 0=xs[q]:=by simp[List.getD_eq_getElem?_getD,hlt3]
   have HX3:Hid (p1++(xs.take (q+1)).flatMap zdl=(p1++(xs.take q).flatMap zdl)++Lib.itoa xs[q]++[32]):=by
    show _=_;rw[zlm hlt3];simp[zdl]
   have HPX3:Hid (Pfx tot ((p1++(xs.take q).flatMap zdl)++(Lib.itoa xs[q]++[32]))):=by
    obtain⟨r,hr⟩:=HPX.o;exact⟨(xs.drop (q+1)).flatMap zdl++[48]++r,by rw[hr];unfold zcc;rw[zos hlt3];simp[zdl]⟩
   have HSI:Hid (small xs[q]):=HSM.o _ (List.getElem_mem hlt3);rw[hgd]at e0';generalize xs[q]=y at*;generalize p1++(xs.take q).flatMap zdl=p5 at*;have e0:=zab HB7.o e0'
   have hqi:(q:Int)<(xs.length:Int):=by omega
   have HLQ:Hid (p5.length<=22024192):=by show _<=_;have h1:=HPX3.o.left.le;have h2:=HLEN.o;omega
   have HLY:Hid ((Lib.itoa y).length<=21):=by show _<=_;have:=zra y HSI.o.1 HSI.o.2;omega
   clear hgd e0';go_wp2_with fail;refine(zly w.heap.size y HSI.o _ p5 wr HO7.o HZ7.o (by have:=HLQ.o;omega) (HTB.o.on HB7.o)).mono ?_;rintro e w8⟨v8,rfl,hown8,hb8,_⟩;have HO8:=lh hown8;have HB8:=lh (HB7.o.trans hb8);have HZ8:=lh (HB7.o.trans hb8).size
   have HL8:Hid ((p5++Lib.itoa y).length<=23000000):=by show _<=_;have h1:=HLQ.o;have h2:=HLY.o;rw[List.length_append];omega
   clear hown8 hb8;generalize p5++Lib.itoa y=p6 at*;go_wp2_with(at_builtin;refine app1 (C:=#[.int .u8 32]) zq1 rfl _ _ rfl w.heap.size _ _ _ rfl HO8.o rfl rfl (by simp[Value.oneCell']) (by unfold maxLen;have:=HL8.o;omega) (by have:=HL8.o;omega) HZ8.o ?_);intro v9 w9 hown9 hgrow9 _
   have ho9:OwnB w9 w.heap.size v9 (p6++[32]):=by unfold OwnB;rw[<-zfg,List.length_append];exact hown9
   have hf9:=zm8 HZ8.o HO8.o (Below.refl _ _) hgrow9;have HO9:=lh ho9;have HB9:=lh (HB8.o.trans hf9.1);clear hown9 hgrow9 hf9 ho9;go_wp2;go_roundw
   case rel=>exact⟨q+1,by omega,by go_num,by rw[HX3.o];exact HO9.o,HB9.o⟩
   case measure=>simp[intOf];omega
  have:q=xs.length:=by omega
  subst this;have ho:=HO7.o;rw[List.take_length]at ho
  have HLQ:Hid ((p1++xs.flatMap zdl).length<=22024192):=by
   show _<=_
   have h1:=HPX.o;unfold zcc at h1;rw[<-List.append_assoc]at h1;have h3:=h1.left.le;have h2:=HLEN.o;omega
  have HO3:=lh ho;clear ho
  have HX4:Hid (p1++zcc xs=(p1++xs.flatMap zdl)++[48]):=by show _=_;simp[zcc]
  generalize p1++xs.flatMap zdl=p6 at*;go_wp2_with(at_builtin;refine app1 (C:=#[.int .u8 48]) zq1 rfl _ _ rfl w.heap.size _ _ _ rfl HO3.o rfl rfl (by simp[Value.oneCell']) (by unfold maxLen;have:=HLQ.o;omega) (by have:=HLQ.o;omega) HZ7.o ?_);intro v8 w8 hown8 hgrow8 _
  have ho8:OwnB w8 w.heap.size v8 (p6++[48]):=by unfold OwnB;rw[<-zfg,List.length_append];exact hown8
  have hf8:=zm8 HZ7.o HO3.o (Below.refl _ _) hgrow8;have HO8:=lh ho8;have HB8:=lh (HB7.o.trans hf8.1);clear hown8 hgrow8 hf8 ho8;go_wp2;go_roundw
  case rel=>exact⟨k+1,by omega,by go_num,by rw[HXN.o,HX4.o];exact HO8.o,HB8.o⟩
  case measure=>simp[intOf];omega
 have:k=l.length:=by omega
 subst this;have ho:=HO.o;rw[List.take_length,<-HTOT.o]at ho
 rcases ho.2 with⟨_,h0⟩|⟨g,cap',cur,rfl,_⟩
 ·exact absurd (List.eq_nil_of_length_eq_zero h0) HNE.o
 have hcv:=run_convert_bytes_back (P:=Tryz.prog) wr 50 9 5 ⟨g,0,none⟩ cap' tot Tryz.underlying50 Tryz.underlying5 Tryz.underlying9 (fun j hj=>ho.cells (g:=g) rfl j _ (by simp[Lib.byteCells,hj]));clear ho;go_wp2;go_ret;exact⟨rfl,HB.o⟩
end Go.Proofs.YtnlaakmglhjjmaaGreatDoor
namespace Cen
def Left1(n:Nat)(t:List Cl)(term:Cl)(i:Int)(c:Cl):Prop:=
 ∃j:Nat,j<t.length/\i=j/\taut (t.getD j [])=false/\(∀x∈term,x∉zcg n (t.getD j []))/\c=(zcg n (t.getD j [])).filter fun y=>!term.contains (-y)
theorem Left1.given{n:Nat}{t:List Cl}{term:Cl}{i:Int}{c:Cl}(h:Left1 n t term i c){x:Int}(hx:x∉c)(h2:-x∉term):Left1 n t (term++[x]) i (c.filter fun y=>decide (y≠-x)):=by
 obtain⟨j,hj,hi,ht,h3,rfl⟩:=h;refine⟨j,hj,hi,ht,fun y hy=>?_,?_⟩
 ·rcases List.mem_append.1 hy with hy|hy
  ·exact h3 y hy
  simp at hy;subst hy;intro hm;exact hx (List.mem_filter.2 ⟨hm,by simpa using h2⟩)
 rw[List.filter_filter]
 apply List.filter_congr
 intro y _
 by_cases e:y=-x
 ·subst e;simp
 have e2:¬(-y=x):=fun h=>e (by omega)
 simp[e,e2]
theorem Left1.off{n:Nat}{t:List Cl}{term:Cl}{i:Int}{c:Cl}(h:Left1 n t term i c){y:Int}(hy:y∈c):y∉term/\-y∉term:=by
 obtain⟨j,hj,hi,ht,h3,rfl⟩:=h;obtain⟨h4,h5⟩:=List.mem_filter.1 hy;exact⟨fun h=>h3 y h h4,by simpa using h5⟩
def ClOf(n:Nat)(t:List Cl)(l:List Cl)(term:Cl)(at':List Int):Prop:=
 ∃m:List (Int×Cl),at'=zc4 (m.map Prod.fst)/\m.map Prod.snd=l/\∀e∈m,Left1 n t term e.1 e.2
def lmap(st:List Nc):Go.Lit->Option Go.Lit
 |.int .i64 x=>(st.findIdx? (zdq x)).map fun(i:Nat)=>Go.Lit.int .i64 (i:Int)
 |_=>none
def dok(cache:Bool)(st:List Nc)(d:Go.Lit->Option Go.Lit):Prop:=
 (∀s y,d (.string s)=some y->∃i:Nat,y=.int .i64 (i:Int)/\i<st.length)/\
 (cache=true->∀l:List Cl,(∀c∈l,0∉c)->d (.string (keyC l))=(st.findIdx? (zbt l)).map fun(i:Nat)=>Go.Lit.int .i64 (i:Int))
theorem zxv:lmap []=fun _=>none:=by
 funext y
 cases y with
 |int k x=>cases k<;>rfl
 |_=>rfl
theorem zg7(st:List Nc)(x:Int):lmap st (.int .i64 x)=(st.findIdx? (zdq x)).map fun(i:Nat)=>Go.Lit.int .i64 (i:Int):=rfl
theorem zn5{st:List Nc}{c:Nc}(h:c.nd.kind≠2):lmap (st++[c])=lmap st:=by
 funext y
 cases y with
 |int k x=>
   cases k with
   |i64=>
     rw[zg7,zg7,List.findIdx?_append]
     have:List.findIdx? (zdq x) [c]=none:=by simp[zdq,h]
     rw[this];cases st.findIdx? (zdq x)<;>rfl
   |_=>rfl
 |_=>rfl
theorem zxu{st:List Nc}{x:Int}(h:st.findIdx? (zdq x)=none):lmap (st++[⟨⟨2,x,[]⟩,none⟩])=fun y=>if y.sameKey (.int .i64 x)then some (.int .i64 (st.length:Int))else lmap st y:=by
 funext y
 cases y with
 |int k z=>
   cases k with
   |i64=>
     rw[zg7,zg7,List.findIdx?_append]
     by_cases e:z=x
     ·subst e;rw[h];simp[zdq,Go.Lit.sameKey]
     have e2:¬(x=z):=fun h=>e h.symm
     have:List.findIdx? (zdq z) [(⟨⟨2,x,[]⟩,none⟩:Nc)]=none:=by simp[zdq,e2]
     rw[this];simp[Go.Lit.sameKey,e]; 
   |_=>simp[lmap,Go.Lit.sameKey]
 |_=>simp[lmap,Go.Lit.sameKey]
theorem zq0{cache:Bool}{st:List Nc}{c:Nc}{d:Go.Lit->Option Go.Lit}(h:dok cache st d)(ht:c.tag=none):dok cache (st++[c]) d:=by
 refine⟨fun s y hy=>?_,fun hc l hl=>?_⟩
 ·obtain⟨i,h1,h2⟩:=h.1 s y hy;exact⟨i,h1,by simp;omega⟩
 rw[h.2 hc l hl,List.findIdx?_append]
 have:List.findIdx? (zbt l) [c]=none:=by simp[zbt,ht]
 rw[this];cases st.findIdx? (zbt l)<;>rfl
theorem yar{cache:Bool}{st:List Nc}{c:Nc}{l:List Cl}{term:Cl}{d:Go.Lit->Option Go.Lit}(h:dok cache st d)(ht:c.tag=some (l,term))(hl:∀x∈l,0∉x)(hn:cache=true->st.findIdx? (zbt l)=none):
 dok cache (st++[c]) (fun y=>if y.sameKey (.string (keyC l))then some (.int .i64 (st.length:Int))else d y):=by
 refine⟨fun s y hy=>?_,fun hc m hm=>?_⟩
 ·simp only at hy
  split at hy
  ·simp at hy;exact⟨st.length,hy.symm,by simp⟩
  obtain⟨i,h1,h2⟩:=h.1 s y hy;exact⟨i,h1,by simp;omega⟩
 rw[List.findIdx?_append]
 by_cases e:m=l
 ·subst e;rw[hn hc];simp[Go.Lit.sameKey,zbt,ht]
 have e1:¬(keyC m=keyC l):=fun h=>e (zrc hm hl h)
 have e2:¬(l=m):=fun h=>e h.symm
 have:List.findIdx? (zbt m) [c]=none:=by simp[zbt,ht,e2]
 rw[this]
 have e3:(Go.Lit.string (keyC m)).sameKey (Go.Lit.string (keyC l))=false:=by simp[Go.Lit.sameKey,e1]
 show(if(Go.Lit.string (keyC m)).sameKey (Go.Lit.string (keyC l))=true then some (Go.Lit.int Go.IntKind.i64 (st.length:Int))else d (Go.Lit.string (keyC m)))=_
 rw[e3,if_neg (by simp),h.2 hc m hm]
 cases st.findIdx? (zbt m)<;>rfl
end Cen
