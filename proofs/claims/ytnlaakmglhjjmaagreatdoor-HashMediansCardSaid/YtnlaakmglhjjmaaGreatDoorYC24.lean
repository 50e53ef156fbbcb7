/- Parts of the proofs of laws. Texts: CqD. -/
import Derived.Test.YtnlaakmglhjjmaaGreatDoorYC23
set_option maxHeartbeats 8000000
set_option maxRecDepth 100000
set_option linter.all false
namespace Go.Proofs.YtnlaakmglhjjmaaGreatDoor
open Go.RowKit Cen
theorem Aft.kept{g:Cfg}{F F' M:Nat->Prop}{w w' w'':World}{p:Nat}{st:List Nc}(h:Aft g F p st w w' F')(hk:Kp M w' w'')(hM:∀k,M k->¬F' k/\w.heap.size<=k):Aft g F p st w w'' F':=by
 obtain⟨⟨L',h1,h2⟩,h3,h4⟩:=h;refine⟨⟨L',h1,h2.kept hk fun k hk=>(hM k hk).1⟩,h3.then (Kp.toBelow hk h3.size fun k hk' e=>by have:=(hM k e).2;omega),h4⟩
def zlt(g:Cfg)(ch:List Cl->Int):Prop:=
 ∀(F:Nat->Prop)(p:Nat)(L:List Me)(a:Option Addr)(cap:Nat)(l:List Ce)(term:Cl)(w:World),Cmp g ch F w p L->ClsIn g F w a l term->gL g.n (l.map fun e=>e.xs)->l≠[]->(∀e∈l,2<=e.xs.length)->
  Calls Tryz.prog 136 #[.pointer (some ⟨p,0,none⟩),.slice a l.length cap] w fun e w'=>e=.returned (.int .i64 (ch (l.map fun e=>e.xs)))/\Below w.heap.size w w'
theorem zsd(g:Cfg)(ch:List Cl->Int)(f:Nat)(hx:Fx g ch)(HF:FitC g ch f)(HCH:zlt g ch)(F:Nat->Prop)(p:Nat)(L:List Me)(a:Option Addr)(cap:Nat)(l:List Ce)(at':Option Addr)(ct:Nat)(term:Cl)(w:World)
 (hC:Cmp g ch F w p L)(hE:Env g F w a l at' term)(hne:l≠[])(h2:∀e∈l,2<=e.xs.length)(hcard:card (zae (l.map fun e=>e.xs))<=f)
 (hlen:(zav (fitF ch g.cache f) ch (L.map fun e=>e.c) (l.map fun e=>e.xs) term).1.length<=65536):
 Calls Tryz.prog 102 #[.pointer (some ⟨p,0,none⟩),.slice a l.length cap,.slice at' term.length ct] w (zqn g F p (zav (fitF ch g.cache f) ch (L.map fun e=>e.c) (l.map fun e=>e.xs) term).1 (zav (fitF ch g.cache f) ch (L.map fun e=>e.c) (l.map fun e=>e.xs) term).2 w):=by
 have hn:=hx.n
 have hF:∀k,F k->k<w.heap.size:=fun k hk=>(hC.cc.low hk).2
 have hB:g.B<=w.heap.size:=hC.lo;obtain⟨w0,hw0⟩:=nm ((((w.alloc (.cells #[.pointer (some ⟨p,0,none⟩)] 124)).alloc (.cells #[.slice a l.length cap] 130)).alloc (.cells #[.slice at' term.length ct] 75)).alloc (.cells #[.int .i64 0,.int .i64 0,.slice none 0 0] 134))
 have hb0:Below w.heap.size w w0:=by
  rw[hw0];exact(((ba _ _).alloc (by simp) _).alloc (by simp;omega) _).alloc (by simp;omega) _
 have hs0:w0.heap.size=w.heap.size+4:=by rw[hw0];simp
 have q0:Blk w0 w.heap.size #[.pointer (some ⟨p,0,none⟩)] 124:=by rw[hw0];exact(((Blk.new w _ _).alloc _).alloc _).alloc _
 have q1:Blk w0 (w.heap.size+1) #[.slice a l.length cap] 130:=by rw[hw0];exact((Blk.new' _ (by simp) _ _).alloc _).alloc _
 have q2:Blk w0 (w.heap.size+1+1) #[.slice at' term.length ct] 75:=by rw[hw0];exact(Blk.new' _ (by simp) _ _).alloc _
 have q3:Blk w0 (w.heap.size+1+1+1) #[.int .i64 0,.int .i64 0,.slice none 0 0] 134:=by rw[hw0];exact Blk.new' _ (by simp) _ _
 obtain⟨st,hst⟩:=nm (L.map fun e=>e.c);obtain⟨xs,hxs⟩:=nm (l.map fun e=>e.xs)
 have hgd:gL g.n xs:=by rw[hxs];exact hE.good
 have hrt:RT g.n g.t xs term:=by rw[hxs];exact hE.rt
 have hinv:InvR ch (RT g.n g.t) g.cache g.n st:=by rw[hst];exact hC.inv
 have hne':xs≠[]:=by rw[hxs];intro e;exact hne (List.map_eq_nil_iff.1 e)
 have h2':∀c∈xs,2<=c.length:=by
  rw[hxs];intro c hc;obtain⟨e,he,rfl⟩:=List.mem_map.1 hc;exact h2 e he
 obtain⟨c1,c2,c3⟩:=hx.ch.ch xs hgd hne' h2';have HCHO:=lh (HCH F p L a cap l term w0 (hC.later hb0) (hE.later hb0).ci hE.good hne h2);rw[<-hst,<-hxs]at hlen⊢;rw[<-hxs]at hcard HCHO;obtain⟨x,hxe⟩:=nm (ch xs);obtain⟨A,hA⟩:=nm (zc2 (fitF ch g.cache f) st xs term (-x));obtain⟨R,hR⟩:=nm (zc2 (fitF ch g.cache f) A.1 xs term x)
 have hP:zav (fitF ch g.cache f) ch st xs term=(R.1,⟨4,0,[(A.2:Int),(R.2:Int)]⟩):=by
  unfold zav;rw[<-hxe,<-hA,<-hR]
 rw[hP]at hlen⊢;rw[<-hxe]at c1 c2 c3 HCHO
 have hxn:litN g.n x:=⟨by omega,by omega,c2⟩
 have hlv:zac x=x:=by rw[zam (by omega) (by omega) (by omega),if_neg (by omega)]
 have hv1:(zae xs).mem (zac x)=true:=by rw[hlv];exact c3
 have hv2:(zae xs).mem (zac (-x))=true:=by rw[zbw,hlv];exact c3
 have hfs:=zdw (R:=RT g.n g.t) (cache:=g.cache) hn (zb0 hn g.t) hx.ch f;obtain⟨r1,a1,a2,_⟩:=ze8 hn (zb0 hn g.t) hfs hinv hgd hrt (zgg hxn) hv2 hcard;rw[<-hA]at a1;rw[<-a1]at a2;obtain⟨r2,b1,b2,_⟩:=ze8 hn (zb0 hn g.t) hfs a2 hgd hrt hxn hv1 hcard;rw[<-hR]at b1;rw[<-b1]at b2
 have hm2:A.1.length<=R.1.length:=by rw[hR];exact zhc (zeo ch g.cache f) A.1 xs term x
 have hxb1:(1:Int)<=x:=c1
 have hxb2:x<=128:=by omega
 have HX:=lh hx;have HE:=lh hE;have HC:=lh hC;have HFI:=lh HF;have HHF:=lh hF;have HST:=lh hst;have HXS:=lh hxs;have HI1:=lh a2;have HI2:=lh b2;have HXN:=lh hxn;have HV1:=lh hv1;have HV2:=lh hv2;have HCD:=lh hcard;have HLN:=lh hlen;have HM2:=lh hm2;have HA:=lh hA;have HR:=lh hR;have HB0:=lh hb0;have HS0:=lh hs0;have Q0:=lh q0;have Q1:=lh q1;have Q2:=lh q2;have Q3:=lh q3;have HWR:Hid (IntKind.i64.wrap (-x)=-x):=IntWalk.i64_in _ (by omega);clear hx HF HCH hE hC hF hst hxs hgd hrt hinv hne' h2' c1 c2 c3 hlen hxe hA hR hP hxn hlv hv1 hv2 hfs a1 a2 b1 b2 hm2 hcard hb0 hs0 q0 q1 q2 q3 hne h2
 go_enter Tryz.func102,Tryz.ntmps102;go_wp2_with fail;rw[<-hw0];refine HCHO.o.mono ?_;rintro e w1⟨rfl,hb1⟩;have hB1:Below w.heap.size w w1:=HB0.o.trans (hb1.mono HB0.o.size);have k0:w1.cell? ⟨w.heap.size,0,none⟩=some (.pointer (some ⟨p,0,none⟩)):=(Q0.o.later hb1).cell 0;have k1:w1.cell? ⟨w.heap.size+1,0,none⟩=some (.slice a l.length cap):=(Q1.o.later hb1).cell 0;have k2:w1.cell? ⟨w.heap.size+1+1,0,none⟩=some (.slice at' term.length ct):=(Q2.o.later hb1).cell 0;have hC1:=HC.o.later hB1;have hE1:=HE.o.later hB1
 have hnF:∀j,¬F (w.heap.size+j):=fun j hf=>by have:=HHF.o _ hf;omega
 have HS1:=lh (zru g ch f HX.o HFI.o F p L a cap l at' ct term (-x) (w.heap.size+1) w.heap.size (w.heap.size+1+1) w1 hC1 hE1 k1 k0 k2 ⟨hnF 0,hnF 2⟩ (zgg HXN.o) (by rw[<-HXS.o];exact HV2.o) (by rw[<-HXS.o];exact HCD.o)
  (by rw[<-HST.o,<-HXS.o,<-HA.o];have h1:=HM2.o;have h2:=HLN.o;omega))
 rw[<-HST.o,<-HXS.o,<-HA.o]at HS1;have HB1:=lh hB1;have HC1:=lh hC1;have HE1:=lh hE1;have HNF:=lh hnF;have K0:=lh k0;have K1:=lh k1;have K2:=lh k2;have Q31:=lh (Q3.o.later hb1);have hwr:=HWR.o;clear hb1 hB1 hC1 hE1 hnF k0 k1 k2 HCHO hw0;go_wp2_with fail;refine HS1.o.mono ?_;rintro e w2⟨rfl,F1,ha1⟩;clear hwr;obtain⟨L1,hL1,hC2⟩:=HC1.o.aft HX.o ha1 HI1.o;have hE2:=HE1.o.aft ha1;have hz1:=HB1.o.size
 have hsz0:w.heap.size+4<=w1.heap.size:=by
  have:=Q31.o.lt;omega
 have hnF1:∀j,j<4->¬F1 (w.heap.size+j):=fun j hj hf=>by
  rcases ha1.2.2 _ hf with h|h
  ·exact HNF.o j h
  omega
 have k0:=ha1.2.1.cell K0.o (HNF.o 0);have k1:=ha1.2.1.cell K1.o (HNF.o 1);have k2:=ha1.2.1.cell K2.o (HNF.o 2);have q3:=Q31.o.kept ha1.2.1 (HNF.o 3)
 have HS2:=lh (zru g ch f HX.o HFI.o F1 p L1 a cap l at' ct term x (w.heap.size+1) w.heap.size (w.heap.size+1+1) w2 hC2 hE2 k1 k0 k2 ⟨hnF1 0 (by omega),hnF1 2 (by omega)⟩ HXN.o (by rw[<-HXS.o];exact HV1.o) (by rw[<-HXS.o];exact HCD.o)
  (by rw[hL1,<-HXS.o,<-HR.o];exact HLN.o))
 rw[hL1,<-HXS.o,<-HR.o]at HS2;have HA1:=lh ha1;have HC2:=lh hC2;have HNF1:=lh hnF1;have Q32:=lh q3;have HZ:=lh hsz0;clear ha1 hC2 hE2 hnF1 k0 k1 k2 q3 hz1 hsz0;go_wp2_with fail;refine HS2.o.mono ?_;rintro e w3⟨rfl,F2,ha2⟩;obtain⟨L2,hL2,hC3⟩:=HC2.o.aft HX.o ha2 HI2.o;have q3:=Q32.o.kept ha2.2.1 (HNF1.o 3 (by omega))
 have hnF2:¬F2 (w.heap.size+1+1+1):=fun hf=>by
  rcases ha2.2.2 _ hf with h|h
  ·exact HNF1.o 3 (by omega) h
  have:=HA1.o.2.1.size;have:=HZ.o;omega
 have ha12:=HA1.o.trans ha2;have hw3:w.heap.size+1+1+1<w3.heap.size:=q3.lt;have g0:=q3.fr 0;have g1:=q3.fr 1;have g2:=q3.fr 2;have c0:=q3.cell 0;have c1:=q3.cell 1;have c2:=q3.cell 2;have HQ:=lh q3;have HC3:=lh hC3;have HA12:=lh ha12;have HNF2:=lh hnF2;have HL2:=lh hL2;clear ha2 hC3 q3 hnF2 ha12 hL2;go_wp2;obtain⟨w4,hw4⟩:=nm (((w3.setCell ⟨w.heap.size+1+1+1,0,none⟩ (.int .i64 4)).setCell ⟨w.heap.size+1+1+1,1,none⟩ (.int .i64 0)).setCell ⟨w.heap.size+1+1+1,2,none⟩ (.slice (some ⟨w3.heap.size,0,none⟩) 2 2))
 have hs4:w4.heap.size=w3.heap.size:=by rw[hw4];simp[World.setCell]
 have hq4:Blk w4 (w.heap.size+1+1+1) #[.int .i64 4,.int .i64 0,.slice (some ⟨w3.heap.size,0,none⟩) 2 2] 134:=by
  rw[hw4];exact((HQ.o.set 0 (.int .i64 4)).set 1 (.int .i64 0)).set 2 (.slice (some ⟨w3.heap.size,0,none⟩) 2 2)
 have hk4:Kp (fun k=>k=w.heap.size+1+1+1) w3 (w4.alloc (.cells #[.int .i64 (A.2:Int),.int .i64 (R.2:Int)] 3)):=by
  rw[hw4];exact(((Kp.setCell (M:=fun k=>k=w.heap.size+1+1+1) _ _ _ rfl).trans (Kp.setCell _ _ _ rfl)).trans (Kp.setCell _ _ _ rfl)).trans (Kp.alloc _ _ _)
 have hrow:OwnI (w4.alloc (.cells #[.int .i64 (A.2:Int),.int .i64 (R.2:Int)] 3)) w.heap.size (.slice (some ⟨w3.heap.size,0,none⟩) 2 2) [(A.2:Int),(R.2:Int)]:=by
  rw[<-hs4];exact World.ownsRow_lit w4 #[.int .i64 (A.2:Int),.int .i64 (R.2:Int)] 2 (by omega) (by decide) rfl
 have hq5:=hq4.alloc (.cells #[.int .i64 (A.2:Int),.int .i64 (R.2:Int)] 3);have r0:=hq5.cell 0;have r1:=hq5.cell 1;have r2:=hq5.cell 2;rw[<-hw4];refine bodyPost_ret (v:=.agg #[.int .i64 4,.int .i64 0,.slice (some ⟨w3.heap.size,0,none⟩) 2 2]) (by simp[results,Tryz.func102,go_sem,r0,r1,r2]) rfl ⟨_,F2,rfl,(((Aft.refl HC.o.cc HB1.o).trans (by rw[<-HST.o]at*;exact HA12.o)).kept hk4 fun k hk=>?_),hrow,fun k hk hf=>?_⟩
 ·subst hk;exact⟨HNF2.o,by omega⟩
 have h1:w3.heap.size=k:=by simpa[Value.ownBlock]using hk
 have:=(HC3.o.cc.low hf).2;omega
end Go.Proofs.YtnlaakmglhjjmaaGreatDoor
