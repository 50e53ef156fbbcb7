/- Parts of the proofs of laws. Texts: Hc, Hd, Hi, Ea, Eb, R21. -/
import Derived.Test.YtnlaakmglhjjmaaGreatDoorYC36
import Derived.Test.YtnlaakmglhjjmaaGreatDoorYC21
set_option maxHeartbeats 8000000
set_option maxRecDepth 100000
set_option linter.all false
namespace Go.Proofs.YtnlaakmglhjjmaaGreatDoor
open Go.RowKit Cen
theorem PrCells.at{w:World}{a:Option Addr}{l:List Pr}(h:PrCells w a l){k:Nat}(hk:k<l.length):∃b off,a=some ⟨b,off,none⟩/\w.cell? ⟨b,off+k*3,none⟩=some (.int .u64 ((l[k]).v.a:Int))/\w.cell? ⟨b,off+k*3+1,none⟩=some (.int .u64 ((l[k]).v.b:Int))/\w.cell? ⟨b,off+k*3+2,none⟩=some (.bool (l[k]).odd):=by
 have:=h k hk
 rwa[show l.getD k default=l[k]by simp[List.getD_eq_getElem?_getD,hk]]at this
def ztl(L:List Pr)(w:World)(e:Ending)(w':World):Prop:=∃v,e=.returned v/\OwnP w' w.heap.size v L/\Below w.heap.size w w'
def zeh(q:Pr):Bool:=!eqPr q Pr.zero
theorem zsj(a:Option Addr)(cap:Nat)(l:List Pr)(w:World)(hl:l.length<=1073741824)(hx:PrCells w a l):
 Calls Tryz.prog 69 #[.slice a l.length cap,.func (.func 70) #[] #[]] w (ztl (l.filter zeh) w):=by
 have HX:=lh hx;clear hx
 have HLF:Hid (∀k,(l.take k).filter zeh=(l.take k).filter zeh):=fun _=>rfl
 go_enter Tryz.func69,Tryz.ntmps69;go_wp2_with fail
 go_loopw[5,10](fun v i wr=>∃(k:Nat)(va:Option Addr)(vc:Nat),k<=l.length/\i=.int .i64 k/\v=.slice va ((l.take k).filter zeh).length vc/\OwnP wr w.heap.size (.slice va ((l.take k).filter zeh).length vc) ((l.take k).filter zeh)/\Below w.heap.size w wr)(fun _ i _=>l.length-(intOf i).toNat)
 case atStart=>exact⟨0,none,0,Nat.zero_le _,rfl,rfl,OwnL.nil _ _,Below.refl _ _⟩
 obtain⟨k,va,vc,hk,rfl,rfl,hown,hb⟩:=hrel;have HO:=lh hown;have HB:=lh hb;have HZ:=lh hb.size;have HXR:=lh (HX.o.keep hb);clear hown hb
 by_cases hlt:k<l.length
 ·obtain⟨b2,off2,hae,c0,c1,c2⟩:=HXR.o.at hlt
  have hki:(k:Int)<(l.length:Int):=by omega
  have zb:=zai c0
  have HNX:Hid ((l.take (k+1)).filter zeh=if zeh l[k]then(l.take k).filter zeh++[l[k]]else(l.take k).filter zeh):=by
   show _=_;rw[List.take_succ_eq_append_getElem hlt,List.filter_append];cases h:zeh l[k]<;>simp[h]
  have HLN:Hid (((l.take k).filter zeh).length<=1073741824):=by
   have:=List.length_filter_le zeh (l.take k);rw[List.length_take]at this
   show _<=_;omega
  generalize l[k]=p at*;generalize(l.take k).filter zeh=L at*;have HRD:=lh (fun W=>zoj p W);have HKP:Hid (zeh p=!eqPr p Pr.zero):=rfl;unfold prv at HRD;subst hae;obtain⟨V,hV⟩:=nm (wr.alloc (.cells #[.int .u64 (p.v.a:Int),.int .u64 (p.v.b:Int),.bool p.odd] 31))
  have hbv:Below wr.heap.size wr V:=by rw[hV];exact ba _ _
  have qv:Blk V wr.heap.size #[.int .u64 (p.v.a:Int),.int .u64 (p.v.b:Int),.bool p.odd] 31:=by rw[hV];exact Blk.new _ _ _
  have QV:=lh qv;have HBV:=lh hbv;clear qv hbv
  cases hq:eqPr p Pr.zero with
  |true=>
    rw[hq]at HRD HKP
    have HN2:Hid ((l.take (k+1)).filter zeh=L):=by show _=_;rw[HNX.o,HKP.o];rfl
    clear hq;go_wp2_with fail;rw[<-hV];refine(HRD.o _).mono ?_;rintro e w2⟨rfl,hb2⟩;have HB2:=bt HBV hb2;clear hb2 hV;go_wp2;go_roundw
    case rel=>exact⟨k+1,va,vc,by omega,by go_num,by rw[HN2.o],by rw[HN2.o];exact HO.o.later HB2.o,HB.o.trans (HB2.o.mono HB.o.size)⟩
    case measure=>simp[intOf];omega
  |false=>
    rw[hq]at HRD HKP
    have HN2:Hid ((l.take (k+1)).filter zeh=L++[p]):=by show _=_;rw[HNX.o,HKP.o];rfl
    clear hq;go_wp2_with fail;rw[<-hV];refine(HRD.o _).mono ?_;rintro e w2⟨rfl,hb2⟩;have HB2:=bt HBV hb2;have q2:=QV.o.later hb2;have d0:=q2.cell 0;have d1:=q2.cell 1;have d2:=q2.cell 2;have dz:=q2.lt;have HO2:=lh (HO.o.later HB2.o);have HZ2:Hid (w.heap.size<=w2.heap.size):=Nat.le_trans HZ.o HB2.o.size;have HBX:=lh (HB.o.trans (HB2.o.mono HB.o.size));clear hb2 hV q2 c0 c1 c2 zb;go_wp2_with(at_builtin;go_loud(refine zlx (C:=#[.int .u64 (p.v.a:Int),.int .u64 (p.v.b:Int),.bool p.odd]) zq2 rfl _ _ rfl w.heap.size (.slice va L.length vc) L p rfl HO2.o rfl rfl rfl (zp8 p) HLN.o (by decide) HZ2.o ?_))
    intro g5 cap5 w5 ho5 hg5 hgn5;have HO5:=lh ho5;have HB5:Hid (Below w.heap.size w w5):=HBX.o.grown hg5 HZ2.o (fun q hq=>(World.ownsRow.lt HO2.o q hq).1);clear ho5 hg5 hgn5;go_wp2;go_roundw
    case rel=>exact⟨k+1,some ⟨g5,0,none⟩,cap5,by omega,by go_num,by rw[HN2.o];simp,by rw[HN2.o];simpa using HO5.o,HB5.o⟩
    case measure=>simp[intOf];omega
 have hke:k=l.length:=by omega
 subst hke;rw[List.take_length]at HO⊢;go_wp2;go_ret;exact⟨_,rfl,HO.o,HB.o⟩
theorem zvw{w:World}{ad:Addr}{l:List Pr}(h:PrCells w (some ad) l):∀j u,(l.flatMap prc)[j]?=some u->w.cell? (ad.add j)=some u:=by
 intro j u hj
 have hlen:j<l.length*3:=by
  have:=(List.getElem?_eq_some_iff.1 hj).1
  rwa[zbl zax]at this
 have hq:j/3<l.length:=by omega
 obtain⟨b,off,hae,c0,c1,c2⟩:=h.at hq;simp only[Option.some.injEq]at hae;subst hae;have hg:=zmc zax l (j/3) (j%3) hq (by omega);rw[show j/3*3+j%3=j by omega,hj]at hg;unfold prc at hg
 have hr:j%3=0\/j%3=1\/j%3=2:=by omega
 rw[show(⟨b,off,none⟩:Addr).add j=⟨b,off+j,none⟩by simp[Addr.add]]
 rcases hr with hr|hr|hr<;>rw[hr]at hg<;>simp at hg<;>subst hg
 ·rw[<-c0];congr 2;omega
 ·rw[<-c1];congr 2;omega
 rw[<-c2];congr 2;omega
theorem zyg(l:List Pr):∀u∈l.flatMap prc,u.oneCell'=true:=by
 intro u hu;obtain⟨p,_,h⟩:=List.mem_flatMap.1 hu;exact zp8 p u h
theorem zo5(a:Option Addr)(cap:Nat)(l:List Pr)(w:World)(hl:l.length<=65536)(hx:PrCells w a l):
 Calls Tryz.prog 66 #[.slice a l.length cap] w (ztl l w):=by
 have hsl:=fun(w:World)(a:Option Addr)(l c n1 c1:Nat)=>Lib.run_eql_slice_nil w 22 31 a l c n1 c1 Tryz.underlying22
 cases a with
 |none=>
   have hn:l=[]:=by
    cases l with
    |nil=>rfl
    |cons x xs=>obtain⟨_,_,e,_⟩:=hx 0 (by simp);simp at e
   subst hn;clear hx;go_enter Tryz.func66,Tryz.ntmps66;go_wp2;go_ret;exact⟨_,rfl,OwnL.nil _ _,Below.refl _ _⟩
 |some ad=>
   have H0:Hid ((w.alloc (.cells #[] 31)).ownsRow w.heap.size 31 3 (.slice (some ⟨w.heap.size,0,none⟩) 0 0) 0 []):=World.ownsRow_lit w #[] 0 (Nat.le_refl _) (by unfold maxLen;omega) rfl
   have HC:Hid (∀j u,(l.flatMap prc)[j]?=some u->(w.alloc (.cells #[] 31)).cell? (ad.add j)=some u):=fun j u h=>zab (ba _ _) (zvw hx j u h)
   have HFL:Hid ((l.flatMap prc).length=l.length*3):=by show _=_;rw[zbl zax]
   have H1:Hid (0+l.length<=maxLen):=by show _<=_;unfold maxLen;omega
   have H2:Hid ((0+l.length)*24<=140737488355328):=by show _<=_;omega
   have HON:=lh (zyg l);clear hx;go_enter Tryz.func66,Tryz.ntmps66;go_wp2_with(at_builtin;go_loud(refine app zq2 rfl _ _ rfl w.heap.size _ _ _ rfl H0.o ad l.length cap (l.flatMap prc) rfl HFL.o HC.o HON.o H1.o H2.o (by simp) ?_));intro v' w1 hown hgrow _
   have HO:Hid (OwnP w1 w.heap.size v' l):=by show OwnP _ _ _ _;unfold OwnP OwnL;simpa using hown
   have HG:=lh hgrow;clear hown hgrow;go_wp2;go_ret;exact⟨_,rfl,HO.o,(ba _ _).grown HG.o (by simp) (by simp[Value.ownBlock])⟩
theorem zvy(p:Pr)(rest:List Pr):zbo p rest=(zbs p rest).filter zeh:=rfl
theorem zyh{p:Pr}{rest:List Pr}(hp:p.ok)(h:∀q∈rest,q.ok):∀q∈zbs p rest,q.ok:=by
 intro q hq;obtain⟨r,hr,rfl⟩:=List.mem_map.1 hq
 split
 ·exact zv7 hp (h r hr)
 exact h r hr
theorem zoi{p:Pr}{rest:List Pr}(hp:p.ok)(h:∀q∈rest,q.ok):∀q∈zbo p rest,q.ok:=fun q hq=>zyh hp h q (List.mem_filter.1 hq).1
theorem zec(p:Pr)(rest:List Pr):(zbo p rest).length<=rest.length:=by
 unfold zbo zbs;refine Nat.le_trans (List.length_filter_le _ _) ?_;rw[List.length_map];exact Nat.le_refl _
theorem zrq:∀(f g:Nat)(rest out:List Pr),rest.length<f->rest.length<g->rdF f rest out=rdF g rest out
 |0,_,_,_,h,_=>by omega
 |_+1,0,_,_,_,h=>by omega
 |f+1,g+1,[],out,_,_=>rfl
 |f+1,g+1,p::rest,out,h1,h2=>by
   rw[rdF,rdF]
   split
   ·rfl
   have:=zec p rest;simp only[List.length_cons]at h1 h2;exact zrq f g _ _ (by omega) (by omega)
def RdR(l:List Pr)(w wr:World)(v4 v5:Value):Prop:=
 ∃(rest out:List Pr)(oa ra:Option Addr)(oc rc:Nat),v4=.slice oa out.length oc/\v5=.slice ra rest.length rc/\OwnP wr w.heap.size (.slice oa out.length oc) out/\OwnP wr w.heap.size (.slice ra rest.length rc) rest/\(∀k,(Value.slice oa out.length oc).ownBlock=some k->(Value.slice ra rest.length rc).ownBlock≠some k)/\
  rdF (rest.length+1) rest out=zay l/\out.length+rest.length<=l.length/\(∀q∈rest,q.ok)/\(∀q∈out,q.ok)/\Below w.heap.size w wr
def zz5(R:List Pr×Bool)(w:World)(e:Ending)(w':World):Prop:=∃v,e=.returned (.tuple #[v,.bool R.2])/\OwnP w' w.heap.size v R.1/\Below w.heap.size w w'
theorem zmu{w:World}{base:Nat}{v:Value}{l:List Pr}(h:OwnP w base v l):∃a c,v=.slice a l.length c:=OwnL.sliced h
theorem ybk{p:Pr}{rest:List Pr}{i:Nat}(hi:i<(p::rest).length)(h0:i≠0):(p::zbs p rest)[i]'(by simpa[zbs]using hi)=if((p::rest)[i]).v.mem (za4 p.v)then sumP p ((p::rest)[i])else(p::rest)[i]:=by
 obtain⟨j,rfl⟩:∃j,i=j+1:=⟨i-1,by omega⟩
 simp only[List.getElem_cons_succ,zbs,List.getElem_map]
theorem znv(s:St):0<=za4 s/\za4 s<=128:=by
 unfold za4
 cases h:memS s with
 |nil=>simp
 |cons v l=>
   have:=zg8 ((zd8 s v).1 (by rw[h];simp));simp only[List.headD_cons];omega
theorem OwnP.room{w:World}{base g cap n:Nat}{l:List Pr}(h:OwnP w base (.slice (some ⟨g,0,none⟩) n cap) l)(hn:n=l.length):n<=cap:=by
 subst hn
 rcases h.2 with⟨h1,_⟩|⟨g',cap',cur,hv,_,_,hnc,_⟩
 ·simp at h1
 simp only[Value.slice.injEq]at hv;omega
theorem OwnP.tail{w:World}{base g cap n:Nat}{p:Pr}{l:List Pr}(h:OwnP w base (.slice (some ⟨g,0,none⟩) n cap) (p::l))(hn:n=(p::l).length):PrCells w (some ⟨g,3,none⟩) l:=fun i hi=>by
 have e:l.getD i default=(p::l)[i+1]'(by simp;omega):=by simp[List.getD_eq_getElem?_getD,hi]
 have c0:=h.cell hn zax (i+1) 0 (by simp;omega) (by omega);have c1:=h.cell hn zax (i+1) 1 (by simp;omega) (by omega);have c2:=h.cell hn zax (i+1) 2 (by simp;omega) (by omega);rw[e];refine⟨g,3,rfl,?_,?_,?_⟩
 ·rw[show 3+i*3=(i+1)*3+0 by omega];exact c0
 ·rw[show 3+i*3+1=(i+1)*3+1 by omega];exact c1
 rw[show 3+i*3+2=(i+1)*3+2 by omega];exact c2
theorem zp9(a:Option Addr)(cap:Nat)(l:List Pr)(w:World)(hl:l.length<=65536)(hx:PrCells w a l)(hok:∀q∈l,q.ok)(hT:Dtab w):
 Calls Tryz.prog 30 #[.slice a l.length cap] w (zz5 (zay l) w):=by
 have HCL:=lh (zo5 a cap l w hl hx);have HOK:=lh hok;have HT:=lh hT;clear hx hok hT;go_enter Tryz.func30,Tryz.ntmps30;go_wp2_with fail;refine HCL.o.mono ?_;rintro e w1⟨v,rfl,hown,hb1⟩;obtain⟨va,vc,rfl⟩:=zmu hown
 have HS:Hid (RdR l w w1 (.slice none 0 0) (.slice va l.length vc)):=⟨l,[],none,va,0,vc,rfl,rfl,OwnL.nil _ _,hown,fun k h=>by simp[Value.ownBlock]at h,rfl,by simp,HOK.o,fun q h=>by simp at h,hb1⟩
 clear hown hb1 HCL;go_wp2_with fail
 go_loopw[4,5](fun v4 v5 wr=>RdR l w wr v4 v5)(fun _ v5 _=>match v5 with|.slice _ n _=>n|_=>0)
 case atStart=>exact HS.o
 obtain⟨rest,out,oa,ra,oc,rc,rfl,rfl,ho,hr,hap,hf,hle,hro,hoo,hb⟩:=hrel;have HO:=lh ho;have HR:=lh hr;have HAP:=lh hap;have HF:=lh hf;have HLE:=lh hle;have HRO:=lh hro;have HOO:=lh hoo;have HB:=lh hb;have HTR:=lh (HT.o.keep hb)
 have hrl:rest.length<=65536:=by omega
 clear ho hr hap hf hle hro hoo hb
 cases hrest:rest with
 |nil=>
   subst hrest;have HRE:Hid (zay l=(out,true)):=HF.o.symm;go_wp2;go_ret2;rw[HRE.o];exact⟨_,rfl,HO.o,HB.o⟩
 |cons p rs=>
   subst hrest
   obtain⟨g,gc,hsh⟩:∃g gc,(Value.slice ra (p::rs).length rc)=.slice (some ⟨g,0,none⟩) (p::rs).length gc:=by
    rcases HR.o.shape with⟨_,h2⟩|⟨g,gc,h1,_⟩
    ·simp at h2
    exact⟨g,gc,h1⟩
   simp only[Value.slice.injEq,true_and]at hsh;obtain⟨rfl,rfl⟩:=hsh;have hpo:=HRO.o p (by simp);have HPO:=lh hpo
   have HRSO:Hid (∀q∈rs,q.ok):=fun q hq=>HRO.o q (by simp[hq])
   have c0:=HR.o.cell rfl zax 0 0 (by simp) (by omega);have c1:=HR.o.cell rfl zax 0 1 (by simp) (by omega);have c2:=HR.o.cell rfl zax 0 2 (by simp) (by omega);simp only[List.getElem_cons_zero,prc,List.getElem?_cons_zero,List.getElem?_cons_succ,Nat.zero_mul,Nat.zero_add]at c0 c1 c2;have gz:=HR.o.lt.1;have hsz:=HB.o.size;obtain⟨bp,hbp⟩:=nm wr.heap.size;obtain⟨V,hV⟩:=nm (wr.alloc (.cells #[.int .u64 (p.v.a:Int),.int .u64 (p.v.b:Int),.bool p.odd] 31))
   have hbv:Below wr.heap.size wr V:=by rw[hV];exact ba _ _
   have qv:Blk V bp #[.int .u64 (p.v.a:Int),.int .u64 (p.v.b:Int),.bool p.odd] 31:=by rw[hV,hbp];exact Blk.new _ _ _
   have HFI:=lh (zum p.v V hpo (HTR.o.keep hbv));have QV:=lh qv;have HBV:=lh hbv;have HBPZ:Hid (bp=wr.heap.size):=hbp
   have HGB:Hid (g<bp):=by show g<bp;omega
   have HWB:Hid (w.heap.size<=bp):=by show _<=bp;omega
   have hlen:(p::rs).length=rs.length+1:=rfl;have HLEN:=lh hlen;have HRD:Hid (rdF ((p::rs).length+1) (p::rs) out=if za4 p.v=0/\p.odd=true then([],false)else rdF (rs.length+1) (zbo p rs) (if 0<za4 p.v then out++[p]else out)):=rfl;have hfl:0<=za4 p.v/\za4 p.v<=128:=znv p.v;generalize hfv:za4 p.v=v at*;have HFV:=lh hfv
   have hl1:(0:Int)<((p::rs).length:Int):=by simp only[List.length_cons];omega
   clear qv hbv hpo hlen hfv hsz
   by_cases hbad:v=0/\p.odd=true
   ·have HRE:Hid (zay l=([],false)):=by show _=_;rw[<-HF.o,HRD.o,if_pos hbad]
    have hv0:=hbad.1;have hpo:=hbad.2;rw[hpo]at c2 hV QV;subst hv0;clear hbad;go_wp2_with fail;rw[<-hV,<-hbp];clear hV hbp c0 c1 c2 gz;refine HFI.o.mono ?_;rintro e w2⟨rfl,hb2⟩;have q2:=QV.o.later hb2;have d2:=q2.cell 2;have dz:=q2.lt;have HB2:=lh (HB.o.trans ((HBV.o.trans (hb2.mono HBV.o.size)).mono HB.o.size));clear hb2 q2;go_wp2;go_ret2;rw[HRE.o];exact⟨_,rfl,OwnL.nil _ _,HB2.o⟩
   have hodd:v=0->p.odd=false:=fun h=>by
    cases ho:p.odd with
    |false=>rfl
    |true=>exact absurd ⟨h,ho⟩ hbad
   have HRE:Hid (zay l=rdF (rs.length+1) (zbo p rs) (if 0<v then out++[p]else out)):=by show _=_;rw[<-HF.o,HRD.o,if_neg hbad]
   clear hbad HF HRD
   by_cases hv0:v=0
   case' pos=>
    have hpo:=hodd hv0;have HPD:=lh hpo;rw[hpo]at c2 hV QV
    have e1:(v==0)=true:=by simpa using hv0
    have e2:¬0<v:=by omega
    have HRE2:Hid (zay l=rdF (rs.length+1) (zbo p rs) out):=by show _=_;rw[HRE.o,if_neg e2]
    clear hv0 hpo;go_wp2_with fail;rw[<-hV,<-hbp];clear hV hbp c0 c1 c2 gz;refine HFI.o.mono ?_;rintro e w2⟨rfl,hb2⟩;have q2:=QV.o.later hb2;have d2:=q2.cell 2;have dz:=q2.lt;have HB2:=bt HBV hb2
    have HQ4:Hid (Blk w2 bp #[.int .u64 (p.v.a:Int),.int .u64 (p.v.b:Int),.bool p.odd] 31):=by show Blk _ _ _ _;rw[HPD.o];exact q2
    have HR4:=lh (HR.o.later HB2.o);have HO4:=lh (HO.o.later HB2.o)
    have HAP4:Hid (∀k,(Value.slice oa out.length oc).ownBlock=some k->k≠g):=fun k hk e=>HAP.o k hk (by rw[e];rfl)
    have HB4:=lh (HB.o.trans (HB2.o.mono HB.o.size))
    have HLE4:Hid (out.length+rs.length<=l.length):=by show _<=_;have:=HLE.o;rw[HLEN.o]at this;omega
    have HOO4:=lh HOO.o;have HZB:Hid (bp<w2.heap.size):=q2.lt;clear hb2 q2 HO HAP HLE HOO HB HR HPD hodd HRE;go_wp2_with fail;clear d2 dz e1 e2
    obtain⟨w4,rfl⟩:∃w4:World,w4=w2:=⟨_,rfl⟩
    obtain⟨out4,rfl⟩:∃o:List Pr,o=out:=⟨_,rfl⟩
    obtain⟨oc4,rfl⟩:∃o:Nat,o=oc:=⟨_,rfl⟩
    obtain⟨oa4,rfl⟩:∃o:Option Addr,o=oa:=⟨_,rfl⟩
   case' neg=>
    have e1:(v==0)=false:=by simpa using hv0
    have e2:0<v:=by omega
    have HRE2:Hid (zay l=rdF (rs.length+1) (zbo p rs) (out++[p])):=by show _=_;rw[HRE.o,if_pos e2]
    clear hv0;go_wp2_with fail;rw[<-hV,<-hbp];clear hV hbp c0 c1 c2 gz;refine HFI.o.mono ?_;rintro e w2⟨rfl,hb2⟩;have q2:=QV.o.later hb2;have d0:=q2.cell 0;have d1:=q2.cell 1;have d2:=q2.cell 2;have dz:=q2.lt;have HB2:=bt HBV hb2;have HO2:=lh (HO.o.later HB2.o);have HBX:=lh (HB.o.trans (HB2.o.mono HB.o.size));have HZ2:Hid (w.heap.size<=w2.heap.size):=HBX.o.size;have HQ2:=lh q2
    have HLN:Hid (out.length<=1073741824):=by show _<=_;have:=HLE.o;rw[HLEN.o]at this;omega
    clear hb2 q2;go_wp2_with(at_builtin;go_loud(refine zlx (C:=#[.int .u64 (p.v.a:Int),.int .u64 (p.v.b:Int),.bool p.odd]) zq2 rfl _ _ rfl w.heap.size (.slice oa out.length oc) out p rfl HO2.o rfl rfl rfl (zp8 p) HLN.o (by decide) HZ2.o ?_));intro g5 cap5 w5 ho5 hg5 hgn5
    have hkp:Kp (fun k=>(Value.slice oa out.length oc).ownBlock=some k) w2 w5:=Kp.grown hg5 fun k h=>h
    have hob:∀k,(Value.slice oa out.length oc).ownBlock=some k->k≠g:=fun k hk e=>HAP.o k hk (by rw[e];rfl)
    have hlt9:∀k,(Value.slice oa out.length oc).ownBlock=some k->k<bp:=fun k hk=>by have:=(World.ownsRow.lt HO.o k hk).2;have:=HBPZ.o;omega
    have HQ4:Hid (Blk w5 bp #[.int .u64 (p.v.a:Int),.int .u64 (p.v.b:Int),.bool p.odd] 31):=HQ2.o.kept hkp fun h=>by have:=hlt9 _ h;omega
    have HR4:Hid (OwnP w5 w.heap.size (.slice (some ⟨g,0,none⟩) (p::rs).length rc) (p::rs)):=(HR.o.later HB2.o).kept hkp fun k hk h=>by
     simp[Value.ownBlock]at hk;subst hk;exact hob _ h rfl
    obtain⟨out4,ho4⟩:=nm (out++[p])
    have hl4:out4.length=out.length+1:=by rw[ho4];simp
    rw[<-ho4]at ho5 HRE2;rw[<-hl4]at ho5;have HO4:=lh ho5
    have HAP4:Hid (∀k,(Value.slice (some ⟨g5,0,none⟩) out4.length cap5).ownBlock=some k->k≠g):=fun k hk e=>by
     simp[Value.ownBlock]at hk
     rcases hgn5 with h|h
     ·exact hob _ h (by omega)
     have:=HGB.o;have:=HQ2.o.lt;omega
    have HB4:Hid (Below w.heap.size w w5):=HBX.o.grown hg5 HZ2.o (fun q hq=>(World.ownsRow.lt HO2.o q hq).1)
    have HLE4:Hid (out4.length+rs.length<=l.length):=by show _<=_;have:=HLE.o;rw[HLEN.o]at this;omega
    have HOO4:Hid (∀q∈out4,q.ok):=fun q hq=>by
     rw[ho4]at hq
     rcases List.mem_append.1 hq with hq|hq
     ·exact HOO.o q hq
     simp at hq;subst hq;exact HPO.o
    have HZB:Hid (bp<w5.heap.size):=HQ4.o.lt;rw[<-hl4];clear ho5 hg5 hgn5 hkp hob hlt9 ho4 hl4 HQ2 HO HO2 HBX HZ2 HAP HLE HOO HB HR hodd HRE HLN;go_wp2_with fail;clear d0 d1 d2 dz e1 e2
    obtain⟨w4,rfl⟩:∃w4:World,w4=w5:=⟨_,rfl⟩
    obtain⟨oc4,rfl⟩:∃o:Nat,o=cap5:=⟨_,rfl⟩
    obtain⟨oa4,hoa⟩:∃o:Option Addr,o=some ⟨g5,0,none⟩:=⟨_,rfl⟩
    rw[<-hoa]at HO4 HAP4⊢;clear hoa
   all_goals
    have hml:(p::zbs p rs).length=(p::rs).length:=by simp[zbs]
    have HML:=lh hml;have hrc:=OwnP.room HR4.o rfl;have hrl2:(p::rs).length<=65536:=hrl;have HST:Hid (OwnP w4 w.heap.size (.slice (some ⟨g,0,none⟩) (p::rs).length rc) ((p::zbs p rs).take 0++(p::rs).drop 0)):=HR4.o;generalize hLN:(p::rs).length=n at*;have HLNN:=lh hLN;obtain rfl:n=rs.length+1:=HLEN.o;clear hml hLN
    go_loopw[35](fun i wi=>∃k:Nat,k<=rs.length+1/\i=.int .i64 k/\OwnP wi w.heap.size (.slice (some ⟨g,0,none⟩) (rs.length+1) rc) ((p::zbs p rs).take k++(p::rs).drop k)/\Kp (fun y=>y=g) w4 wi)(fun i _=>rs.length+1-(intOf i).toNat)
    case atStart=>exact⟨0,Nat.zero_le _,rfl,HST.o,Kp.below (Below.refl _ _)⟩
    obtain⟨k,hk,rfl,hown,hkp⟩:=hrel
    rename World=>wi
    have HKP:=lh hkp;have HWI:=lh hown;clear hown hkp
    by_cases hlt:k<rs.length+1
    ·have hkl:k<(p::rs).length:=by rw[HLNN.o];exact hlt
     have hkm:k<(p::zbs p rs).length:=by rw[HML.o];exact hlt
     have hki:(k:Int)<(rs.length:Int)+1:=by omega
     have hkc:(k:Int)<(rc:Int):=by omega
     have htl:((p::zbs p rs).take k).length=k:=by rw[List.length_take];omega
     have hll:((p::zbs p rs).take k++(p::rs).drop k).length=rs.length+1:=by rw[List.length_append,htl,List.length_drop,HLNN.o];omega
     have hge:∀h:k<((p::zbs p rs).take k++(p::rs).drop k).length,((p::zbs p rs).take k++(p::rs).drop k)[k]=(p::rs)[k]:=fun h=>by
      rw[List.getElem_append_right (by omega)];simp only[htl,Nat.sub_self,List.getElem_drop,Nat.add_zero]
     have c0:=HWI.o.cell hll.symm zax k 0 (by omega) (by omega);have c1:=HWI.o.cell hll.symm zax k 1 (by omega) (by omega);have c2:=HWI.o.cell hll.symm zax k 2 (by omega) (by omega);rw[hge,Nat.add_zero]at c0;rw[hge]at c1 c2;simp only[prc,List.getElem?_cons_zero,List.getElem?_cons_succ]at c0 c1 c2;have gz:=HWI.o.lt.1;have HQO:Hid ((p::rs)[k]).ok:=HRO.o _ (List.getElem_mem _)
     have HWJ:Hid (OwnP wi w.heap.size (.slice (some ⟨g,0,none⟩) (rs.length+1) rc) ((p::zbs p rs).take k++(p::rs)[k]::(p::rs).drop (k+1))):=by
      have:=HWI.o;rw[List.drop_eq_getElem_cons hkl]at this;exact this
     have HNX:Hid ((p::zbs p rs).take (k+1)=(p::zbs p rs).take k++[(p::zbs p rs)[k]]):=List.take_succ_eq_append_getElem hkm
     have HGT:Hid (k≠0->(p::zbs p rs)[k]=if((p::rs)[k]).v.mem v then sumP p ((p::rs)[k])else(p::rs)[k]):=fun h=>by rw[<-HFV.o];exact ybk hkl h
     have HGZ:Hid (k=0->(p::zbs p rs)[k]=(p::rs)[k]):=fun h=>by subst h;rfl
     have hqi:Blk wi bp #[.int .u64 (p.v.a:Int),.int .u64 (p.v.b:Int),.bool p.odd] 31:=HQ4.o.kept HKP.o (by have:=HGB.o;omega);have HQI:=lh hqi;generalize(p::rs)[k]=q at*;generalize(p::zbs p rs)[k]=y at*
     have HLL:Hid (((p::zbs p rs).take k++q::(p::rs).drop (k+1)).length=rs.length+1):=by
      show _=_;rw[List.length_append,List.length_cons,htl,List.length_drop,HLNN.o];omega
     have HTL:=lh htl;obtain⟨V2,hV2⟩:=nm (wi.alloc (.cells #[.int .u64 (q.v.a:Int),.int .u64 (q.v.b:Int),.bool q.odd] 31))
     have hbv2:Below wi.heap.size wi V2:=by rw[hV2];exact ba _ _
     have qv2:Blk V2 wi.heap.size #[.int .u64 (q.v.a:Int),.int .u64 (q.v.b:Int),.bool q.odd] 31:=by rw[hV2];exact Blk.new _ _ _
     have HHA:=lh (zpq q.v v V2 HQO.o);have HSU:=lh (fun W=>zry p q W HPO.o HQO.o);have QV2:=lh qv2;have HBV2:=lh hbv2;clear hkl hkm htl hll hge hqi hbv2 qv2 HWI
     by_cases hk0:k=0
     ·subst hk0;simp only[Nat.zero_mul,Nat.zero_add]at c0 c1 c2;go_wp2_with fail;rw[<-hV2];clear hV2 c0 c1 c2;refine⟨⟨1,by omega,rfl,?_,HKP.o.trans (Kp.below HBV2.o)⟩,by simp[intOf]⟩;rw[HNX.o,HGZ.o rfl]
      simpa using HWJ.o.later HBV2.o
     have hf0:(0:Int)<(k:Int):=by omega
     have HYE:=lh (HGT.o hk0);clear hk0;go_wp2_with fail;rw[<-hV2];clear hV2 c0 c1 c2;refine HHA.o.mono ?_;rintro e w6⟨rfl,hb6⟩;have HB6:=bt HBV2 hb6;have HK6:=lh (HKP.o.trans (Kp.below HB6.o));have HW6:=lh (HWJ.o.later HB6.o);have q6:=HQI.o.later HB6.o;have v6:=QV2.o.later hb6;have d0:=q6.cell 0;have d1:=q6.cell 1;have d2:=q6.cell 2;have dz:=q6.lt;have f0:=v6.cell 0;have f1:=v6.cell 1;have f2:=v6.cell 2;have fz:=v6.lt;clear hb6 q6 v6
     cases hm:q.v.mem v with
     |false=>
       rw[hm]at HYE
       have HY:Hid (y=q):=by show _=_;rw[HYE.o];rfl
       clear hm;go_wp2_with fail;clear d0 d1 d2 dz f0 f1 f2 fz;go_roundw
       case rel=>
        refine⟨k+1,by omega,by go_num,?_,HK6.o⟩;rw[HNX.o,HY.o]
        simpa using HW6.o
       case measure=>simp[intOf];omega
     |true=>
       rw[hm]at HYE
       have HY:Hid (y=sumP p q):=by show _=_;rw[HYE.o];rfl
       clear hm;have HSP:=lh (HSU.o w6);unfold prv at HSP;generalize sumP p q=z at*;go_wp2_with fail;clear d0 d1 d2 dz f0 f1 f2 fz;refine HSP.o.mono ?_;rintro e w7⟨rfl,hb7⟩;have HK7:=lh (HK6.o.trans (Kp.below hb7));have HW7:=lh (HW6.o.later hb7);have gz7:=HW7.o.lt.1
       have hgq:∀h:k<((p::zbs p rs).take k++q::(p::rs).drop (k+1)).length,((p::zbs p rs).take k++q::(p::rs).drop (k+1))[k]=q:=fun h=>by
        rw[List.getElem_append_right (by rw[HTL.o];exact Nat.le_refl _)];simp only[HTL.o,Nat.sub_self,List.getElem_cons_zero]
       have e0:=HW7.o.cell HLL.o.symm zax k 0 (by rw[HLL.o];omega) (by omega);have e1:=HW7.o.cell HLL.o.symm zax k 1 (by rw[HLL.o];omega) (by omega);have e2:=HW7.o.cell HLL.o.symm zax k 2 (by rw[HLL.o];omega) (by omega);rw[hgq,Nat.add_zero]at e0;rw[hgq]at e1 e2;simp only[prc,List.getElem?_cons_zero,List.getElem?_cons_succ]at e0 e1 e2;have f3:=HW7.o.fr HLL.o.symm (k*3);have f4:=HW7.o.fr HLL.o.symm (k*3+1);have f5:=HW7.o.fr HLL.o.symm (k*3+2);have HP7:=lh (HW7.o.midput3 HTL.o.symm HLL.o.symm zax z _ _ _ rfl);clear hgq hb7;go_wp2_with fail;clear e0 e1 e2 f3 f4 f5
       refine⟨⟨k+1,by omega,by go_num,?_,?_⟩,by simp[intOf];omega⟩
       ·rw[HNX.o,HY.o]
        simpa using HP7.o
       exact((HK7.o.trans (Kp.setCell _ _ _ rfl)).trans (Kp.setCell _ _ _ rfl)).trans (Kp.setCell _ _ _ rfl)
    have hke:k=rs.length+1:=by omega
    subst hke
    have htk:(p::zbs p rs).take (rs.length+1)++(p::rs).drop (rs.length+1)=p::zbs p rs:=by
     rw[List.take_of_length_le (by rw[HML.o];exact Nat.le_refl _),List.drop_of_length_le (by rw[HLNN.o];exact Nat.le_refl _),List.append_nil]
    have hown:OwnP wi w.heap.size (.slice (some ⟨g,0,none⟩) (rs.length+1) rc) (p::zbs p rs):=by rw[<-htk];exact HWI.o
    have hml1:(zbs p rs).length=rs.length:=by simp[zbs]
    have htail:PrCells wi (some ⟨g,3,none⟩) (zbs p rs):=OwnP.tail hown HML.o.symm
    have HFL:Hid (∀(ad:Addr)(cp:Nat),(ad=⟨g,3,none⟩\/rs.length=0)->Calls Tryz.prog 69 #[.slice (some ad) rs.length cp,.func (.func 70) #[] #[]] wi (ztl (zbo p rs) wi)):=fun ad cp h=>by
     rw[zvy,<-hml1];refine zsj (some ad) cp (zbs p rs) wi (by rw[hml1];omega) ?_
     rcases h with rfl|h
     ·exact htail
     intro j hj;rw[hml1]at hj;omega
    have HKI:=lh (HKP.o)
    have HOI:Hid (OwnP wi w.heap.size (.slice oa4 out4.length oc4) out4):=HO4.o.kept HKP.o fun y hy h=>HAP4.o y hy h
    have HBI:Hid (Below w.heap.size w wi):=HB4.o.trans (HKP.o.toBelow HB4.o.size fun y hy h=>by
     have h1:w.heap.size<=g:=HR4.o.lt.2
     omega)
    have HLS:=lh (zec p rs);have HSO:=lh (zoi HPO.o HRSO.o)
    have hlt4:∀y,(Value.slice oa4 out4.length oc4).ownBlock=some y->y<wi.heap.size:=fun y hy=>(World.ownsRow.lt HOI.o y hy).2
    have HLT4:=lh hlt4;clear htk htail hml1 HWI hown hlt4;go_wp2_with fail
    all_goals
     refine(HFL.o _ _ (by first|exact .inl rfl|(right;omega))).mono ?_;rintro e w8⟨v8,rfl,hown8,hb8⟩;obtain⟨a8,c8,rfl⟩:=zmu hown8;have HB8:=bt HBI hb8;have HO8:=lh (HOI.o.later hb8)
     have hlt8:∀y,(Value.slice a8 (zbo p rs).length c8).ownBlock=some y->wi.heap.size<=y:=fun y hy=>(World.ownsRow.lt hown8 y hy).1
     have HR8:Hid (OwnP w8 w.heap.size (.slice a8 (zbo p rs).length c8) (zbo p rs)):=hown8.lower HBI.o.size;have HLT8:=lh hlt8;clear hown8 hb8 hlt8;go_wp2_with fail;refine⟨⟨zbo p rs,out4,oa4,a8,oc4,c8,rfl,rfl,HO8.o,HR8.o,fun y hy h=>?_,?_,?_,HSO.o,HOO4.o,HB8.o⟩,?_⟩
     ·have h1:=HLT4.o y hy;have h2:=HLT8.o y h;omega
     ·rw[HRE2.o];exact zrq _ _ _ _ (Nat.lt_succ_self _) (Nat.lt_succ_of_le HLS.o)
     ·exact Nat.le_trans (Nat.add_le_add_left HLS.o _) HLE4.o
     show(zbo p rs).length<(p::rs).length
     rw[HLNN.o];exact Nat.lt_succ_of_le HLS.o
def prAt(bs:List Nat)(n i:Nat):Pr:=⟨setB (fun v=>bitN bs (i*(n+1)+(v-1))) n,bitN bs (i*(n+1)+n)⟩
def zbr(bs:List Nat)(n m:Nat):List Pr:=(List.range m).map (prAt bs n)
def parsBad(n m:Int)(len:Nat):Prop:=n<0\/128<n\/m<0\/16<m\/8*(len:Int)<m*(n+1)
theorem zxj(vs zs:List Pr)(c:Pr)(a b:Nat):(((vs++c::zs).flatMap prc).set (vs.length*3) (.int .u64 (a:Int))).set (vs.length*3+1) (.int .u64 (b:Int))=(vs++⟨⟨a,b⟩,c.odd⟩::zs).flatMap prc:=by
 have hl:=zbl zax vs;rw[List.flatMap_append,List.flatMap_append,List.set_append_right _ _ (by omega),hl,Nat.sub_self,List.set_append_right _ _ (by omega),hl,show vs.length*3+1-vs.length*3=1 by omega]
 rfl
theorem zxi(vs zs:List Pr)(c:Pr)(x:Bool):((vs++c::zs).flatMap prc).set (vs.length*3+2) (.bool x)=(vs++⟨c.v,x⟩::zs).flatMap prc:=by
 have hl:=zbl zax vs;rw[List.flatMap_append,List.flatMap_append,List.set_append_right _ _ (by omega),hl,show vs.length*3+2-vs.length*3=2 by omega]
 rfl
theorem ybj{w:World}{base g cap n i:Nat}{vs zs:List Pr}{c:Pr}(h:OwnP w base (.slice (some ⟨g,0,none⟩) n cap) (vs++c::zs))(hi:i=vs.length)(hn:n=(vs++c::zs).length)(a b:Nat):
 OwnP ((w.setCell ⟨g,i*3,none⟩ (.int .u64 (a:Int))).setCell ⟨g,i*3+1,none⟩ (.int .u64 (b:Int))) base (.slice (some ⟨g,0,none⟩) n cap) (vs++⟨⟨a,b⟩,c.odd⟩::zs):=by
 subst hi;subst hn;have:=(World.ownsRow.stored (World.ownsRow.stored h (vs.length*3) (.int .u64 (a:Int))).1 (vs.length*3+1) (.int .u64 (b:Int))).1;rw[zxj]at this
 show World.ownsRow _ _ _ _ _ _ _
 simpa using this
theorem ybi{w:World}{base g cap n i:Nat}{vs zs:List Pr}{c:Pr}(h:OwnP w base (.slice (some ⟨g,0,none⟩) n cap) (vs++c::zs))(hi:i=vs.length)(hn:n=(vs++c::zs).length)(x:Bool):
 OwnP (w.setCell ⟨g,i*3+2,none⟩ (.bool x)) base (.slice (some ⟨g,0,none⟩) n cap) (vs++⟨c.v,x⟩::zs):=by
 subst hi;subst hn;have:=(World.ownsRow.stored h (vs.length*3+2) (.bool x)).1;rw[zxi]at this
 show World.ownsRow _ _ _ _ _ _ _
 simpa using this
theorem zl4:za8 55:=fun _ _=>by kernel_rfl
theorem pars_bad(a:Option Addr)(cap:Nat)(bs:List Nat)(n m:Int)(w:World)(hl:bs.length<=1073741824)(hb:parsBad n m bs.length):
 Calls Tryz.prog 21 #[.slice a bs.length cap,.int .i64 n,.int .i64 m] w fun e w'=>e=.returned (.tuple #[.slice none 0 0,.int .i64 1])/\Below w.heap.size w w':=by
 unfold parsBad at hb;have HB0:Hid (Below w.heap.size w (w.alloc (.cells #[.slice a bs.length cap] 50))):=ba _ _
 have h1:n<0\/¬n<0:=by omega
 rcases h1 with h1|h1
 ·clear hb;go_enter Tryz.func21,Tryz.ntmps21;go_wp2_with fail
  go_quiet(fail)
  go_wp2;go_ret2;exact⟨rfl,HB0.o.trans (zl9 _ _)⟩
 have h2:128<n\/¬128<n:=by omega
 rcases h2 with h2|h2
 ·clear hb;go_enter Tryz.func21,Tryz.ntmps21;go_wp2_with fail
  go_quiet(fail)
  go_wp2;go_ret2;exact⟨rfl,HB0.o.trans (zl9 _ _)⟩
 have h3:m<0\/¬m<0:=by omega
 rcases h3 with h3|h3
 ·clear hb;go_enter Tryz.func21,Tryz.ntmps21;go_wp2_with fail
  go_quiet(fail)
  go_wp2;go_ret2;exact⟨rfl,HB0.o.trans (zl9 _ _)⟩
 have h4:16<m\/¬16<m:=by omega
 rcases h4 with h4|h4
 ·clear hb;go_enter Tryz.func21,Tryz.ntmps21;go_wp2_with fail
  go_quiet(fail)
  go_wp2;go_ret2;exact⟨rfl,HB0.o.trans (zl9 _ _)⟩
 have h5:8*(bs.length:Int)<m*(n+1):=by omega
 have HSE:=lh (fun V=>zom n m V);rw[show zjy n m=m*(n+1)by unfold zjy;rw[if_neg (by omega)]]at HSE;clear hb;generalize m*(n+1)=s at*;have HWP:Hid (IntKind.i64.wrap (8*(bs.length:Int))=8*(bs.length:Int)):=IntWalk.i64_in _ (by omega);go_enter Tryz.func21,Tryz.ntmps21;go_wp2_with fail;have hwp:=HWP.o
 go_quiet(exact Calls.quiet_of_same ((HSE.o _).mono fun _ _ hh=>⟨hh.1,hh.2.symm⟩))
 clear hwp;go_wp2;go_ret2;exact⟨rfl,HB0.o.trans (zl9 _ _)⟩
theorem ybh(bs:List Nat)(n i:Nat):prAt bs n i=⟨setB (fun v=>bitN bs (i*(n+1)+(v-1))) n,bitN bs (i*(n+1)+n)⟩:=rfl
theorem zb8(bs:List Nat)(n m:Nat):(zbr bs n m).length=m:=by simp[zbr]
theorem zs0(bs:List Nat)(n m k:Nat)(h:k<m):(zbr bs n m).take (k+1)=(zbr bs n m).take k++[prAt bs n k]:=by
 rw[List.take_succ_eq_append_getElem (by rw[zb8];exact h)]
 simp[zbr]
end Go.Proofs.YtnlaakmglhjjmaaGreatDoor
namespace Cen
theorem any_succ{α:Type}(f:α->Bool)(d:α){l:List α}{k:Nat}(h:k<l.length):(l.take (k+1)).any f=((l.take k).any f||f (l.getD k d)):=by
 rw[List.take_succ_eq_append_getElem h,List.any_append]
 simp[List.getD_eq_getElem?_getD,h]
end Cen
namespace Go.Proofs.YtnlaakmglhjjmaaGreatDoor
open Go.RowKit Cen
def IntIn(X:Nat->Prop)(w:World)(a:Option Addr)(xs:Cl):Prop:=IntCells w a xs/\∀p,a=some p->xs≠[]->X p.block
def LsIn(X:Nat->Prop)(w:World)(a:Option Addr)(t:List Cl):Prop:=
 ∀i,i<t.length->∃b off ai ci,a=some ⟨b,off,none⟩/\X b/\w.cell? ⟨b,off+i,none⟩=some (.slice ai (t.getD i []).length ci)/\IntIn X w ai (t.getD i [])
theorem IntIn.mono{X Y:Nat->Prop}{w:World}{a:Option Addr}{xs:Cl}(h:IntIn X w a xs)(hm:∀k,k<w.heap.size->X k->Y k):IntIn Y w a xs:=⟨h.1,fun p hp hn=>by
 refine hm _ ?_ (h.2 p hp hn);obtain⟨b,off,e,hc⟩:=h.1 0 (List.length_pos_iff.2 hn);rw[hp]at e;simp only[Option.some.injEq]at e;subst e
 exact zai hc⟩
theorem LsIn.mono{X Y:Nat->Prop}{w:World}{a:Option Addr}{t:List Cl}(h:LsIn X w a t)(hm:∀k,k<w.heap.size->X k->Y k):LsIn Y w a t:=fun i hi=>
 let⟨b,off,ai,ci,h1,h2,h3,h4⟩:=h i hi;⟨b,off,ai,ci,h1,hm _ (zai h3) h2,h3,h4.mono hm⟩
theorem mem_out{s:St}{v:Int}(h:¬(1<=v/\v<=128)):s.mem v=false:=by
 unfold St.mem;rw[if_neg (by omega),if_neg (by omega)]
theorem has5_any(s:St)(v:Int)(w:World)(_hs:s.ok):Calls Tryz.prog 81 #[stv s,.int .i64 v] w fun e w'=>e=.returned (.bool (s.mem v))/\Below w.heap.size w w':=by
 by_cases h1:1<=v
 ·have d1:decide (1<=v)=true:=by simpa using h1
  by_cases h2:v<=128
  ·have d2:decide (v<=128)=true:=by simpa using h2
   by_cases hv:v<=64
   ·have e1:(v-1)/64=0:=by omega
    have e2:(v-1)%64=v-1:=by omega
    go_enter Tryz.func81,Tryz.ntmps81;go_wp2;go_ret;exact⟨zbg (mem_lo s h1 hv),ba _ _⟩
   have e1:(v-1)/64=1:=by omega
   have e2:(v-1)%64=v-65:=by omega
   have hv2:65<=v:=by omega
   go_enter Tryz.func81,Tryz.ntmps81;go_wp2;go_ret;exact⟨zbg (mem_hi s hv2 h2 _ (by omega)),ba _ _⟩
  have d2:decide (v<=128)=false:=by simpa using h2
  have HR:Hid (s.mem v=false):=mem_out (by omega);clear h2;go_enter Tryz.func81,Tryz.ntmps81;go_wp2;go_ret;exact⟨zbg HR.o.symm,ba _ _⟩
 have d1:decide (1<=v)=false:=by simpa using h1
 have HR:Hid (s.mem v=false):=mem_out (by omega);clear h1;go_enter Tryz.func81,Tryz.ntmps81;go_wp2;go_ret;exact⟨zbg HR.o.symm,ba _ _⟩
theorem valid5_any(l n:Int)(w:World)(hn0:0<=n)(hn1:n<=128)(hl:zbn l n=true):Calls Tryz.prog 80 #[.int .i64 l,.int .i64 n] w fun e w'=>e=.returned (.bool true)/\w=w':=by
 simp only[zbn,Bool.and_eq_true,decide_eq_true_eq]at hl;have h:=zes hl.1
 have d1:(l !=0)=true:=by simp;omega
 have d2:decide (-n<=l)=true:=by simp;omega
 have d3:decide (l<=n)=true:=by simp;omega
 clear hl h;go_enter Tryz.func80,Tryz.ntmps80;go_wp2;go_ret;exact⟨rfl,rfl⟩
end Go.Proofs.YtnlaakmglhjjmaaGreatDoor
