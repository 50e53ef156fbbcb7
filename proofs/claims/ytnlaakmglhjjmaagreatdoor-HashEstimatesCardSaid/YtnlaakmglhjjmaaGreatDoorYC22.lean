/- Parts of the proofs of laws. Texts: CqK. -/
import Derived.Test.YtnlaakmglhjjmaaGreatDoorYC21
set_option maxHeartbeats 8000000
set_option maxRecDepth 100000
set_option linter.all false
namespace Go.Proofs.YtnlaakmglhjjmaaGreatDoor
open Go.RowKit Cen
theorem zsp(n:Nat)(hn:n<=128)(a:Option Addr)(cap:Nat)(c:List Int)(w:World)(hl:c.length<=256)(hx:IntCells w a c)(hc:gT n c):
 Calls Tryz.prog 189 #[.slice a c.length cap,.int .i64 n] w fun e w'=>(∃v,e=.returned (.tuple #[v,.bool true]))/\Below w.heap.size w w':=by
 have hcr:∀x∈c,x≠0/\-(n:Int)<=x/\x<=n:=hc.rg;have htt:taut c=false:=hc.taut hn
 have hlb:litB c:=fun x hx=>by have:=hcr x hx;omega
 have hok:(c.all fun x=>zbn x n)=true:=by
  rw[List.all_eq_true];intro x hx;obtain⟨h1,h2,h3⟩:=hcr x hx;have:=zam h1 (by omega) (by omega);unfold zbn
  split at this<;>simp<;>omega
 have HV:=lh (zld a cap c n w (by omega) hx);rw[hok]at HV;have HO:=lh (fun(V:World)(h:Below w.heap.size w V)=>zlc a cap c V hl (hx.keep h) hlb);have HC:=lh hcr;have HTT:=lh htt;clear hx hok hlb hc hcr htt;go_enter Tryz.func189,Tryz.ntmps189;go_wp2_with fail;refine HV.o.mono ?_;rintro e w1⟨rfl,hb1⟩;have H1:=lh (HO.o w1 hb1);have HB1:=lh hb1;clear hb1;go_wp2_with fail;refine H1.o.mono ?_;rintro e w2⟨v,d,rfl,hown,hpw,hmem,hdc,hb2⟩;obtain⟨av,cv,rfl,hcells,_⟩:=(zao.2 hown).cells;have hdl:d.length<=256:=Nat.le_trans hdc hl
 have hdv:∀x∈d,x≠0/\-128<=x/\x<=128:=fun x hx=>by have:=HC.o x ((hmem x).1 hx);omega
 have hop:=zhr av cv d w2 (by omega) hcells fun x hx=>(hdv x hx).2
 have hno:¬oppT d d.length:=fun h=>by
  have h1:=(zof hpw hdv).1 h;rw[zln hmem,HTT.o]at h1;simp at h1
 have hop2:Calls Tryz.prog 124 #[.slice av d.length cv] w2 fun e w'=>e=.returned (.bool false)/\Below w2.heap.size w2 w':=hop.mono fun e w' h=>by
  obtain⟨⟨r,h1,h2⟩,h3⟩:=h
  cases r with
  |true=>exact absurd (h2.1 rfl) hno
  |false=>exact⟨h1,h3⟩
 have HOP:=lh hop2;have HB2:=bt HB1 hb2;clear hop hop2 hno hown hpw hmem hdc hb2 hcells hdv;go_wp2_with fail;refine HOP.o.mono ?_;rintro e w3⟨rfl,hb3⟩;have HB3:=bt HB2 hb3;clear hb3;go_wp2;go_ret2;exact⟨⟨_,rfl⟩,HB3.o⟩
theorem zo6(n:Nat)(hn:n<=12)(a:Option Addr)(cap:Nat)(t:List Cl)(ad:Option Addr)(cd:Nat)(d:Int)(w:World)(hx:LsCells w a t)(ht:t.length<=4096)(hc:∀c∈t,c.length<=128/\∀x∈c,litN n x)(hd:litN n d)(hi:IntCells w ad [d]):
 Calls Tryz.prog 173 #[.agg #[.int .i64 n,.slice a t.length cap],.slice ad 1 cd] w fun e w'=>(∃v,e=.returned (.tuple #[v,.bool (!zb2 n t d)]))/\Below w.heap.size w w':=by
 obtain⟨w0,hw0⟩:=nm (w.alloc (.cells #[.int .i64 n,.slice a t.length cap] 26))
 have hb0:Below w.heap.size w w0:=by rw[hw0];exact ba _ _
 have q0:Blk w0 w.heap.size #[.int .i64 n,.slice a t.length cap] 26:=by rw[hw0];exact Blk.new w _ _
 have HTR:=lh (zwd n (by omega) a cap t ad cd d w0 (hx.keep hb0) ht hc hd (hi.keep hb0));have Q0:=lh q0;have HB0:=lh hb0;clear hx hi q0 hc hd hb0;go_enter Tryz.func173,Tryz.ntmps173;go_wp2_with fail;rw[<-hw0];clear hw0;refine HTR.o.mono ?_;rintro e w1⟨v,i,er,rfl,hb1,hcase⟩;have hbw:=HB0.o.trans (hb1.mono HB0.o.size);have HBW:=lh hbw;have q1:=Q0.o.later hb1
 rcases hcase with⟨rfl,hi0,hf⟩|⟨rfl,hf⟩|⟨rfl,hi0,hf,S,hown,hg⟩
 ·have HF:=lh hf;clear hf hb1 hbw q1;go_wp2;go_ret2;exact⟨⟨_,by rw[HF.o];rfl⟩,HBW.o⟩
 ·have HF:=lh hf;clear hf hb1 hbw q1;go_wp2;go_ret2;exact⟨⟨_,by rw[HF.o];rfl⟩,HBW.o⟩
 have HF:=lh hf
 have hni:¬(0<=i):=by omega
 have hSl:S.length<=256:=by have:=hg.len (by omega);rw[List.length_map]at this;omega
 obtain⟨av,cv,rfl⟩:=hown.sliced;have HOW:=lh hown;have HG:=lh hg;have Q1:=lh q1;clear hf hb1 hbw q1 hown hg;go_wp2_with fail
 go_loopw[9,27](fun ov i wr=>∃k:Nat,k<=S.length/\i=.int .i64 k/\Below w1.heap.size w1 wr/\∃(M:List Int)(va:Option Addr)(vc:Nat),Hid (M=(S.map fun e=>e.l).take k)/\ov=.slice va M.length vc/\OwnI wr w1.heap.size (.slice va M.length vc) M)(fun _ i _=>S.length-(intOf i).toNat)
 case atStart=>exact⟨0,Nat.zero_le _,rfl,Below.refl _ _,[],none,0,rfl,rfl,OwnL.nil _ _⟩
 obtain⟨k,hk,rfl,hb,M,va,vc,HM,rfl,hov⟩:=hrel;have HB:=lh hb;have HOV:=lh hov
 by_cases hlt:k<S.length
 ·have hki:(k:Int)<(S.length:Int):=by omega
  have how:=HOW.o.later hb
  obtain⟨g0,rfl⟩:∃g0,av=some ⟨g0,0,none⟩:=by
   rcases how.shape with⟨_,h2⟩|⟨g0,cp,h1,_⟩
   ·rw[h2]at hlt;simp at hlt
   simp only[Value.slice.injEq,true_and]at h1;exact⟨g0,h1.1⟩
  have c0:wr.cell? ⟨g0,k*3,none⟩=some (.int .i64 S[k].l):=how.cell rfl zqh k 0 hlt (by omega);have c1:wr.cell? ⟨g0,k*3+1,none⟩=some (.int .i64 S[k].from'):=how.cell rfl zqh k 1 hlt (by omega);have c2:wr.cell? ⟨g0,k*3+2,none⟩=some (.int .i64 S[k].lev):=how.cell rfl zqh k 2 hlt (by omega);have hbA:Below wr.heap.size wr ((wr.alloc (.cells #[.int .i64 S[k].l,.int .i64 S[k].from',.int .i64 S[k].lev] 241)).alloc (.cells #[.int .i64 S[k].l] 3)):=(ba _ _).alloc (by simp) _;have HOA:=lh (hov.later hbA)
  have HIC:Hid (IntCells ((wr.alloc (.cells #[.int .i64 S[k].l,.int .i64 S[k].from',.int .i64 S[k].lev] 241)).alloc (.cells #[.int .i64 S[k].l] 3)) (some ⟨wr.heap.size+1,0,none⟩) [S[k].l]):=fun j hj=>by
   have:j=0:=by simpa using hj
   subst this;exact⟨_,_,rfl,by rw[World.cell?_alloc_at _ _ _ _ (by simp)];rfl⟩
  have HBA:=lh hbA
  have hln:M.length=k:=by rw[HM.o];simp;omega
  have HM2:Hid (M++[S[k].l]=(S.map fun e=>e.l).take (k+1)):=by
   show _=_
   rw[HM.o,List.take_succ_eq_append_getElem (by simpa using hlt)];simp
  have HLN:=lh hln;have hz:w1.heap.size<=wr.heap.size:=HB.o.size;generalize S[k].l=y at*;generalize S[k].from'=y2 at*;generalize S[k].lev=y3 at*;clear hb hov how hbA hln;go_wp2_with(at_builtin;go_loud(refine zdk rfl _ _ rfl w1.heap.size (.slice va M.length vc) M rfl HOA.o ⟨wr.heap.size+1,0,none⟩ 1 [y] rfl HIC.o (by simp) (by have:=HLN.o;omega) (by simp) (by simp;omega) ?_));intro gg cg w2 ho hg hnw
  have hb2:Below w1.heap.size w1 w2:=HB.o.trans ((HBA.o.mono HB.o.size).trans (Kp.toBelow (M:=fun j=>(Value.slice va M.length vc).ownBlock=some j) (Kp.grown hg fun j hj=>hj) (by simp;omega) fun j hj e=>by
   have:=(OwnI.blk HOV.o e).1;omega))
  have HB2:=lh hb2;have HO2:=lh ho;clear ho hg hnw hb2;go_wp2;go_roundw
  case rel=>
   refine⟨k+1,by omega,by go_num,HB2.o,M++[y],some ⟨gg,0,none⟩,cg,HM2.o,by simp,?_⟩;rw[List.length_append];exact HO2.o
  case measure=>simp[intOf];omega
 have hke:k=S.length:=by omega
 have hMS:M=S.map fun e=>e.l:=by rw[HM.o,hke,List.take_of_length_le (by simp)]
 have hki:¬((k:Int)<(S.length:Int)):=by omega
 have hMl:M.length<=256:=by rw[hMS];simp;omega
 have hgM:gT n M:=by rw[hMS];exact HG.o
 have HLT:=lh (zsp n (by omega) va vc M wr hMl (by
  obtain⟨a',c',h1,h2,_⟩:=(zao.2 hov).cells;simp only[Value.slice.injEq,true_and]at h1
  obtain⟨rfl,_⟩:=h1;exact h2) hgM)
 clear hMS hgM;have q2:=Q1.o.later hb;have k0:=q2.cell 0;clear hb hov q2;go_wp2_with fail;refine HLT.o.mono ?_;rintro e w2⟨⟨v2,rfl⟩,hb2⟩;have HB2:=lh (HBW.o.trans ((HB.o.trans (hb2.mono HB.o.size)).mono HBW.o.size));clear hb2;go_wp2;go_ret2;exact⟨⟨_,by rw[HF.o];rfl⟩,HB2.o⟩
theorem znu(n:Nat)(hn:n<=12)(a:Option Addr)(cap:Nat)(t:List Cl)(d:Int)(w:World)(hx:LsCells w a t)(ht:t.length<=4096)(hc:∀c∈t,c.length<=128/\∀x∈c,litN n x)(hd:litN n d):
 Calls Tryz.prog 158 #[.agg #[.int .i64 n,.slice a t.length cap],.int .i64 d] w fun e w'=>e=.returned (.bool (zb2 n t d))/\Below w.heap.size w w':=by
 have hb0:Below w.heap.size w ((w.alloc (.cells #[.int .i64 n,.slice a t.length cap] 26)).alloc (.cells #[.int .i64 d] 3)):=(ba _ _).alloc (by simp) _
 have HCL:=lh (zo6 n hn a cap t (some ⟨w.heap.size+1,0,none⟩) 1 d _ (hx.keep hb0) ht hc hd (fun j hj=>by
  have:j=0:=by simpa using hj
  subst this
  exact⟨_,_,rfl,by rw[World.cell?_alloc_at _ _ _ _ (by simp)];rfl⟩))
 have HB0:=lh hb0;clear hx hc hd hb0;go_enter Tryz.func158,Tryz.ntmps158;go_wp2_with fail;refine HCL.o.mono ?_;rintro e w1⟨⟨v,rfl⟩,hb1⟩;have HB1:=bt HB0 hb1;clear hb1;go_wp2;go_ret;exact⟨by cases zb2 n t d<;>rfl,HB1.o⟩
end Go.Proofs.YtnlaakmglhjjmaaGreatDoor
