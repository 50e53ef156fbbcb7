/- Parts of the proofs of laws. Texts: CqE, CqF. -/
import Derived.Test.YtnlaakmglhjjmaaGreatDoorYC24
set_option maxHeartbeats 8000000
set_option maxRecDepth 100000
set_option linter.all false
namespace Go.Proofs.YtnlaakmglhjjmaaGreatDoor
open Go.RowKit Cen
theorem zxd(g:Cfg)(F:Nat->Prop)(p:Nat)(L:List Me)(w:World)(hC:CC g F w p L):Calls Tryz.prog 99 #[] w (zqn g F p (L.map fun e=>e.c) ⟨0,0,[]⟩ w):=by
 have q:=Blk.new w #[.int .i64 0,.int .i64 0,.slice none 0 0] 134;have hb:Below w.heap.size w (w.alloc (.cells #[.int .i64 0,.int .i64 0,.slice none 0 0] 134)):=ba _ _;have HA:=lh (Aft.refl hC hb)
 have HF:Hid (¬F w.heap.size):=fun hf=>by have:=(hC.low hf).2;omega
 have HQ:=lh q;clear q hb hC;go_enter Tryz.func99,Tryz.ntmps99;go_wp2;have r0:=HQ.o.cell 0;have r1:=HQ.o.cell 1;have r2:=HQ.o.cell 2;refine bodyPost_ret (v:=.agg #[.int .i64 0,.int .i64 0,.slice none 0 0]) (by simp[results,Tryz.func99,go_sem,r0,r1,r2]) rfl ⟨_,F,rfl,HA.o,OwnL.nil _ _,fun k hk=>by simp[Value.ownBlock]at hk⟩
theorem zxe(g:Cfg)(ch:List Cl->Int)(f:Nat)(hx:Fx g ch)(HF:FitC g ch f)(HCH:zlt g ch)(F:Nat->Prop)(p:Nat)(L:List Me)(a:Option Addr)(cap:Nat)(l:List Ce)(at':Option Addr)(ct:Nat)(term:Cl)(bc bp bt:Nat)(w:World)
 (hC:Cmp g ch F w p L)(hE:Env g F w a l at' term)(hne:l≠[])(h2:∀e∈l,2<=e.xs.length)(hcard:card (zae (l.map fun e=>e.xs))<=f)
 (hlen:(zav (fitF ch g.cache f) ch (L.map fun e=>e.c) (l.map fun e=>e.xs) term).1.length<=65536)
 (k0:w.cell? ⟨bc,0,none⟩=some (.pointer (some ⟨p,0,none⟩)))(k1:w.cell? ⟨bp,0,none⟩=some (.slice a l.length cap))(k2:w.cell? ⟨bt,0,none⟩=some (.slice at' term.length ct)):
 Calls Tryz.prog 101 #[.pointer (some ⟨bc,0,none⟩),.pointer (some ⟨bp,0,none⟩),.pointer (some ⟨bt,0,none⟩)] w (zqn g F p (zav (fitF ch g.cache f) ch (L.map fun e=>e.c) (l.map fun e=>e.xs) term).1 (zav (fitF ch g.cache f) ch (L.map fun e=>e.c) (l.map fun e=>e.xs) term).2 w):=by
 obtain⟨w0,hw0⟩:=nm (w.alloc (.cells #[.int .i64 0,.int .i64 0,.slice none 0 0] 134))
 have hb0:Below w.heap.size w w0:=by rw[hw0];exact ba _ _
 have hs0:w0.heap.size=w.heap.size+1:=by rw[hw0];simp
 have q0:Blk w0 w.heap.size #[.int .i64 0,.int .i64 0,.slice none 0 0] 134:=by rw[hw0];exact Blk.new w _ _
 have HD:=lh (zsd g ch f hx HF HCH F p L a cap l at' ct term w0 (hC.later hb0) (hE.later hb0) hne h2 hcard hlen)
 have hF:¬F w.heap.size:=fun hf=>by have:=(hC.cc.low hf).2;omega
 have l0:bc<w.heap.size:=zai k0;have l1:bp<w.heap.size:=zai k1;have l2:bt<w.heap.size:=zai k2;have HCC:=lh hC.cc;have HNF:=lh hF;have HB0:=lh hb0;have HS0:=lh hs0;have HQ:=lh q0;clear hx HF HCH hC hE hne h2 hcard hlen hF hb0 hs0 q0;generalize zav (fitF ch g.cache f) ch (L.map fun e=>e.c) (l.map fun e=>e.xs) term=D at*;go_enter Tryz.func101,Tryz.ntmps101;go_wp2_with fail;rw[<-hw0];clear hw0;refine HD.o.mono ?_;rintro e w1⟨v,F',rfl,ha,hv,hvF⟩;have q1:=HQ.o.kept ha.2.1 HNF.o;have g0:=q1.fr 0;have g1:=q1.fr 1;have g2:=q1.fr 2;have d0:=q1.cell 0
 have d1:=q1.cell 1;have d2:=q1.cell 2;have hlt:=q1.lt
 have hF':¬F' w.heap.size:=fun hf=>by
  rcases ha.2.2 _ hf with h|h
  ·exact HNF.o h
  have:=HS0.o;omega
 obtain⟨av,cv,hvs⟩:=hv.sliced;have HQ1:=lh q1;have HA:=lh ((Aft.refl HCC.o HB0.o).trans ha);have HV:=lh hv;have HVF:=lh hvF;have HF':=lh hF';subst hvs;clear q1 ha hv hvF hF';go_wp2
 have hk4:Kp (fun k=>k=w.heap.size) w1 (((w1.setCell ⟨w.heap.size,0,none⟩ (.int .i64 D.2.kind)).setCell ⟨w.heap.size,1,none⟩ (.int .i64 D.2.lit)).setCell ⟨w.heap.size,2,none⟩ (.slice av D.2.ins.length cv)):=
  ((Kp.setCell (M:=fun k=>k=w.heap.size) _ _ _ rfl).trans (Kp.setCell _ _ _ rfl)).trans (Kp.setCell _ _ _ rfl)
 have hq4:=((HQ1.o.set 0 (.int .i64 D.2.kind)).set 1 (.int .i64 D.2.lit)).set 2 (.slice av D.2.ins.length cv);have r0:=hq4.cell 0;have r1:=hq4.cell 1;have r2:=hq4.cell 2;simp only[Array.setIfInBounds]at r0 r1 r2;refine bodyPost_ret (v:=.agg #[.int .i64 D.2.kind,.int .i64 D.2.lit,.slice av D.2.ins.length cv]) (by simp[results,Tryz.func101,go_sem,r0,r1,r2]) rfl ⟨_,F',rfl,HA.o.kept hk4 fun k hk=>?_,?_,HVF.o⟩
 ·subst hk;exact⟨HF'.out,Nat.le_refl _⟩
 refine(HV.o.kept hk4 fun k hk e=>?_).lower HB0.o.size;have h1:=(HV.o.blk hk).1;have:=HS0.o;omega
theorem zl1:za8 99:=fun _ _=>by kernel_rfl
theorem zl2:za8 101:=fun _ _=>by kernel_rfl
def Gd(F':Nat->Prop)(vin:Value)(bc bt:Nat)(k:Nat):Prop:=F' k\/vin.ownBlock=some k\/k=bc\/k=bt
def zkr(P:(Nat->Prop)->World->Prop):Prop:=∀(G G':Nat->Prop)(V V':World),P G V->Kp G V V'->(∀k,G' k->G k\/V.heap.size<=k)->P G' V'
theorem zbp(g:Cfg)(b:Option Addr)(l:List Ce)(t:Cl):zkr fun G V=>ClsIn g G V b l t:=fun _ _ _ _ h hk hs=>h.kept hk hs
structure FW(g:Cfg)(ch:List Cl->Int)(F:Nat->Prop)(p:Nat)(w:World)(bc bt:Nat)(P:(Nat->Prop)->World->Prop)(F':Nat->Prop)(L':List Me)(vin:Value)(ins:List Nat)(a2:Option Addr)(ct2:Nat)(tT:Cl)(V:World):Prop where
 kp:Kp F w V
 sub:∀k,F' k->F k\/w.heap.size<=k
 cmp:Cmp g ch F' V p L'
 own:OwnO F' V w.heap.size vin (zaf ins)
 bx:Blk V bc #[.pointer (some ⟨p,0,none⟩)] 124
 tm:Blk V bt #[.slice a2 tT.length ct2] 75
 nb:(¬F' bc/\¬F' bt)/\bc≠bt/\w.heap.size<=bt
 ob:∀k,vin.ownBlock=some k->k≠bc/\k≠bt
 ti:TrmIn (Gd F' vin bc bt) V a2 tT
 ci:P (Gd F' vin bc bt) V
section
variable{g:Cfg}{ch:List Cl->Int}{F:Nat->Prop}{p:Nat}{w:World}{bc bt:Nat}{P:(Nat->Prop)->World->Prop}{F' F'':Nat->Prop}{L':List Me}{vin:Value}{ins:List Nat}{a2:Option Addr}{ct2:Nat}{tT:Cl}{V V':World}{st:List Nc}
theorem FW.low(h:FW g ch F p w bc bt P F' L' vin ins a2 ct2 tT V):∀k,Gd F' vin bc bt k->k<V.heap.size:=fun k hk=>by
 rcases hk with hk|hk|rfl|rfl
 ·exact(h.cmp.cc.low hk).2
 ·exact(h.own.1.blk hk).2
 ·exact h.bx.lt
 exact h.tm.lt
theorem FW.later(hP:zkr P)(h:FW g ch F p w bc bt P F' L' vin ins a2 ct2 tT V)(hb:Below V.heap.size V V'):FW g ch F p w bc bt P F' L' vin ins a2 ct2 tT V':=
 ⟨h.kp.trans (Kp.below hb),h.sub,h.cmp.later hb,h.own.later hb,h.bx.later hb,h.tm.later hb,h.nb,h.ob,h.ti.kept (Kp.below hb) fun _ h=>.inl h,hP _ _ _ _ h.ci (Kp.below hb) fun _ h=>.inl h⟩
theorem FW.aft(hx:Fx g ch)(hP:zkr P)(h:FW g ch F p w bc bt P F' L' vin ins a2 ct2 tT V)(ha:Aft g F' p st V V' F'')(hi:InvR ch (RT g.n g.t) g.cache g.n st):
 ∃L'':List Me,(L''.map fun e=>e.c)=st/\FW g ch F p w bc bt P F'' L'' vin ins a2 ct2 tT V':=by
 obtain⟨L'',h1,h2⟩:=h.cmp.aft hx ha hi
 have hkG:Kp (Gd F' vin bc bt) V V':=ha.2.1.mono fun k _ hk=>.inl hk
 have hs:∀k,Gd F'' vin bc bt k->Gd F' vin bc bt k\/V.heap.size<=k:=fun k hk=>by
  rcases hk with hk|hk
  ·exact(ha.2.2 k hk).imp .inl id
  exact .inl (.inr hk)
 have hnb:∀k,k<V.heap.size->¬F' k->¬F'' k:=fun k hk hn hf=>(ha.2.2 k hf).elim hn fun h=>by omega
 exact⟨L'',h1,h.kp.trans' ha.2.1 h.sub,fun k hk=>(ha.2.2 k hk).elim (h.sub k) fun h'=>.inr (Nat.le_trans h.kp.size h'),h2,h.own.aft ha,h.bx.kept ha.2.1 h.nb.1.1,h.tm.kept ha.2.1 h.nb.1.2,
  ⟨⟨hnb _ h.bx.lt h.nb.1.1,hnb _ h.tm.lt h.nb.1.2⟩,h.nb.2⟩,h.ob,h.ti.kept hkG hs,hP _ _ _ _ h.ci hkG hs⟩
theorem FW.app{gg cap n i:Nat}(hx:Fx g ch)(hP:zkr P)(hB:g.B<=w.heap.size)(h:FW g ch F p w bc bt P F' L' vin ins a2 ct2 tT V)(ho:OwnI V' w.heap.size (.slice (some ⟨gg,0,none⟩) n cap) (zaf ins++[(i:Int)]))(hg:V.grownBy V' vin.ownBlock)(hn:vin.ownBlock=some gg\/gg=V.heap.size):
 FW g ch F p w bc bt P F' L' (.slice (some ⟨gg,0,none⟩) n cap) (ins++[i]) a2 ct2 tT V':=by
 have hk:Kp (fun k=>vin.ownBlock=some k) V V':=Kp.grown hg fun k hk=>hk
 have hkG:Kp (Gd F' vin bc bt) V V':=hk.mono fun k _ hk=>.inr (.inl hk)
 have hgg:∀k,(Value.slice (some ⟨gg,0,none⟩) n cap).ownBlock=some k->k=gg:=fun k hk=>by simpa[Value.ownBlock]using hk.symm
 have hs:∀k,Gd F' (.slice (some ⟨gg,0,none⟩) n cap) bc bt k->Gd F' vin bc bt k\/V.heap.size<=k:=fun k hk=>by
  rcases hk with hk|hk|hk
  ·exact .inl (.inl hk)
  ·have:=hgg k hk;subst this
   exact hn.imp (fun h=>.inr (.inl h)) fun h=>by omega
  exact .inl (.inr (.inr hk))
 refine⟨h.kp.then (Kp.toBelow hk h.kp.size fun k hk' e=>by have:=(h.own.1.blk e).1;omega),h.sub,h.cmp.kept hx hk h.own.2 (fun k e=>by have:=(h.own.1.blk e).1;omega),⟨by unfold zaf at*;simpa using ho,fun k hk hf=>?_⟩,h.bx.kept hk fun e=>(h.ob _ e).1 rfl,h.tm.kept hk fun e=>(h.ob _ e).2 rfl,h.nb,fun k hk=>?_,h.ti.kept hkG hs,hP _ _ _ _ h.ci hkG hs⟩
 ·have:=hgg k hk;subst this
  rcases hn with hn|hn
  ·exact h.own.2 _ hn hf
  have:=(h.cmp.cc.low hf).2;omega
 have:=hgg k hk;subst this
 rcases hn with hn|hn
 ·exact h.ob _ hn
 have h1:=h.bx.lt;have h2:=h.tm.lt;omega
theorem FW.term{a3:Option Addr}{ct3 n:Nat}{tN:Cl}(hx:Fx g ch)(hP:zkr P)(hB:g.B<=w.heap.size)(h:FW g ch F p w bc bt P F' L' vin ins a2 ct2 tT V)(ht:TrmIn (Gd F' vin bc bt) V a3 tN)(e0:n=tN.length):
 FW g ch F p w bc bt P F' L' vin ins a3 ct3 tN (V.setCell ⟨bt,0,none⟩ (.slice a3 n ct3)):=by
 subst e0;have hk:Kp (fun k=>k=bt) V (V.setCell ⟨bt,0,none⟩ (.slice a3 tN.length ct3)):=Kp.setCell _ _ _ rfl
 have hkG:Kp (Gd F' vin bc bt) V (V.setCell ⟨bt,0,none⟩ (.slice a3 tN.length ct3)):=hk.mono fun k _ hk=>.inr (.inr (.inr hk))
 exact⟨h.kp.then (Kp.toBelow hk h.kp.size fun k hk' e=>by have:=h.nb.2.2;omega),h.sub,h.cmp.kept hx hk (fun k e=>by rw[e];exact h.nb.1.2) (fun k e=>by have:=h.nb.2.2;omega),⟨h.own.1.kept hk fun k hv e=>(h.ob k hv).2 e,h.own.2⟩,
  h.bx.kept hk h.nb.2.1,h.tm.set 0 _,h.nb,h.ob,ht.kept hkG fun _ h=>.inl h,hP _ _ _ _ h.ci hkG fun _ h=>.inl h⟩
theorem FW.swap{P':(Nat->Prop)->World->Prop}(h:FW g ch F p w bc bt P F' L' vin ins a2 ct2 tT V)(hc:P' (Gd F' vin bc bt) V):FW g ch F p w bc bt P' F' L' vin ins a2 ct2 tT V:=
 ⟨h.kp,h.sub,h.cmp,h.own,h.bx,h.tm,h.nb,h.ob,h.ti,hc⟩
end
def PS(g:Cfg)(b:Option Addr)(ps:List (List Ce))(term:Cl)(G:Nat->Prop)(V:World):Prop:=
 ∀j,j<ps.length->∃blk off ak ck,b=some ⟨blk,off,none⟩/\¬G blk/\blk<V.heap.size/\V.cell? ⟨blk,off+j,none⟩=some (.slice ak (ps.getD j []).length ck)/\ClsIn g G V ak (ps.getD j []) term
theorem zgm(g:Cfg)(b:Option Addr)(ps:List (List Ce))(t:Cl):zkr (PS g b ps t):=fun G G' V V' h hk hs j hj=>by
 obtain⟨blk,off,ak,ck,h1,h2,h3,h4,h5⟩:=h j hj;exact⟨blk,off,ak,ck,h1,fun hg=>(hs _ hg).elim h2 fun h=>by omega,Nat.lt_of_lt_of_le h3 hk.size,hk.cell h4 h2,h5.kept hk hs⟩
def zy7(g:Cfg):Prop:=
 ∀(F:Nat->Prop)(a:Option Addr)(cap:Nat)(l:List Ce)(term:Cl)(w:World),ClsIn g F w a l term->gL g.n (l.map fun e=>e.xs)->(∀k,F k->k<w.heap.size)->
  Calls Tryz.prog 100 #[.slice a l.length cap] w fun e w'=>Below w.heap.size w w'/\∃b cp ps,e=.returned (.slice b ps.length cp)/\(ps.map fun(q:List Ce)=>q.map fun e=>e.xs)=zaj (l.map fun e=>e.xs)/\PS g b ps term F w'
theorem zq5{ch:List Cl->Int}{cache:Bool}{f:Nat}{st:List Nc}{l:List Cl}{term:Cl}{U:Us}(hU:zaq l.length ⟨st,l,term,[]⟩=U)(he:zbm U.l=true):
 fitF ch cache (f+1) st l term=((zan cache U.st U.l U.term fun s=>(s,⟨0,0,[]⟩)).1,U.ins++[(zan cache U.st U.l U.term fun s=>(s,⟨0,0,[]⟩)).2]):=by
 subst hU;rw[fitF,if_pos he]
theorem zk0{ch:List Cl->Int}{cache:Bool}{f:Nat}{st:List Nc}{l:List Cl}{term:Cl}{U:Us}(hU:zaq l.length ⟨st,l,term,[]⟩=U)(he:zbm U.l=false):
 fitF ch cache (f+1) st l term=za7 cache (fun s part=>zav (fitF ch cache f) ch s part U.term) U.term (zaj U.l) (U.st,U.ins):=by
 subst hU;rw[fitF,if_neg (by simp[he])]
theorem zxg{ch:List Cl->Int}{cache:Bool}{f:Nat}{st:List Nc}{l:List Cl}{term:Cl}{U:Us}(hU:zaq l.length ⟨st,l,term,[]⟩=U):U.st.length<=(fitF ch cache (f+1) st l term).1.length:=by
 cases he:zbm U.l with
 |true=>rw[zq5 hU he];exact zev _ _ _ _ _ (Nat.le_refl _)
 |false=>
   rw[zk0 hU he];exact zea cache (fun s part=>zav (fitF ch cache f) ch s part U.term) (fun s p=>zen (zeo ch cache f) ch s p U.term) U.term (zaj U.l) (U.st,U.ins)
theorem zqj{u:Us}(h:zez u.l=true):∀f,zaq f u=u
 |0=>rfl
 |f+1=>by
   obtain⟨st,l,term,ins⟩:=u
   match l,h with
   |[],_=>rfl
   |[]::l,_=>rfl
   |(x::y::c)::l,_=>rfl
def ycs:Value->Nat
 |.slice _ n _=>n
 |_=>0
def FR(g:Cfg)(ch:List Cl->Int)(F:Nat->Prop)(p:Nat)(w:World)(bc bt:Nat)(st:List Nc)(xs:List Cl)(term:Cl)(wr:World)(lv v:Value):Prop:=
 ∃(u:Us)(fu:Nat)(F':Nat->Prop)(L':List Me)(a2:Option Addr)(ct2:Nat)(b:Option Addr)(cp:Nat)(lc:List Ce)(va:Option Addr)(vc:Nat),lv=.slice b lc.length cp/\v=.slice va (zaf u.ins).length vc/\
  FW g ch F p w bc bt (fun G V=>ClsIn g G V b lc u.term) F' L' (.slice va (zaf u.ins).length vc) u.ins a2 ct2 u.term wr/\(L'.map fun e=>e.c)=u.st/\(lc.map fun e=>e.xs)=u.l/\gL g.n u.l/\RT g.n g.t u.l u.term/\
  zaq xs.length ⟨st,xs,term,[]⟩=zaq fu u/\u.l.length<=fu/\card (zae u.l)<=card (zae xs)/\u.ins.length+fu<=xs.length
def FR2(g:Cfg)(ch:List Cl->Int)(F:Nat->Prop)(p:Nat)(w:World)(bc bt:Nat)(dec:List Nc->List Cl->List Nc×Nd)(us:List Nc)(ui:List Nat)(ut:Cl)(qs:List (List Cl))(b:Option Addr)(ps:List (List Ce))(wr:World)(v i:Value):Prop:=
 ∃(k:Nat)(F':Nat->Prop)(L':List Me)(a2:Option Addr)(ct2:Nat)(va:Option Addr)(vc:Nat),k<=ps.length/\i=.int .i64 (k:Int)/\v=.slice va (zaf (za7 g.cache dec ut (qs.take k) (us,ui)).2).length vc/\
  FW g ch F p w bc bt (PS g b ps ut) F' L' v (za7 g.cache dec ut (qs.take k) (us,ui)).2 a2 ct2 ut wr/\(L'.map fun e=>e.c)=(za7 g.cache dec ut (qs.take k) (us,ui)).1
theorem zun{g:Cfg}{G:Nat->Prop}{w:World}{b:Option Addr}{lc:List Ce}{term:Cl}(h:ClsIn g G w b lc term)(h2:∀c∈lc.map (fun e=>e.xs),2<=c.length):
 lc=[]\/∃e lt blk off,lc=e::lt/\b=some ⟨blk,off,none⟩/\w.cell? ⟨blk,off,none⟩=some (.slice e.a e.xs.length e.c)/\2<=e.xs.length:=by
 cases lc with
 |nil=>exact .inl rfl
 |cons e lt=>
   right
   obtain⟨blk,off,hb,c0,_,_⟩:=h.cc 0 (by simp);simp only[gd,List.getD_cons_zero,Nat.zero_mul,Nat.add_zero]at c0;exact⟨e,lt,blk,off,rfl,hb,c0,h2 e.xs (by simp)⟩
theorem ya0(g:Cfg)(ch:List Cl->Int)(f:Nat)(hx:Fx g ch)(HF:FitC g ch f)(HCH:zlt g ch)(HSP:zy7 g):FitC g ch (f+1):=by
 intro F p L a cap l at' ct term w hC hE hcard hlen;have hn:=hx.n
 have hF:∀k,F k->k<w.heap.size:=fun k hk=>(hC.cc.low hk).2
 have hB:g.B<=w.heap.size:=hC.lo;obtain⟨w0,hw0⟩:=nm ((w.alloc (.cells #[.pointer (some ⟨p,0,none⟩)] 124)).alloc (.cells #[.slice at' term.length ct] 75))
 have hb0:Below w.heap.size w w0:=by rw[hw0];exact(ba _ _).alloc (by simp) _
 have hs0:w0.heap.size=w.heap.size+2:=by rw[hw0];simp
 have q0:Blk w0 w.heap.size #[.pointer (some ⟨p,0,none⟩)] 124:=by rw[hw0];exact(Blk.new w _ _).alloc _
 have q1:Blk w0 (w.heap.size+1) #[.slice at' term.length ct] 75:=by rw[hw0];exact Blk.new' _ (by simp) _ _
 obtain⟨st,hst⟩:=nm (L.map fun e=>e.c);obtain⟨xs,hxs⟩:=nm (l.map fun e=>e.xs)
 have hGd:∀k,Gd F (.slice none 0 0) w.heap.size (w.heap.size+1) k->F k\/w.heap.size<=k:=fun k hk=>by
  rcases hk with hk|hk|hk|hk
  ·exact .inl hk
  ·simp[Value.ownBlock]at hk
  ·exact .inr (by omega)
  exact .inr (by omega)
 have hFW:FW g ch F p w w.heap.size (w.heap.size+1) (fun G V=>ClsIn g G V a l term) F L (.slice none 0 0) [] at' ct term w0:=
  ⟨Kp.below hb0,fun k hk=>.inl hk,hC.later hb0,⟨OwnL.nil _ _,fun k hk=>by simp[Value.ownBlock]at hk⟩,q0,q1,⟨⟨fun hf=>by have:=hF _ hf;omega,fun hf=>by have:=hF _ hf;omega⟩,by omega,by omega⟩,fun k hk=>by simp[Value.ownBlock]at hk,
    hE.ti.kept (Kp.below hb0) hGd,hE.ci.kept (Kp.below hb0) hGd⟩
 have hIN:FR g ch F p w w.heap.size (w.heap.size+1) st xs term w0 (.slice a l.length cap) (.slice none 0 0):=
  ⟨⟨st,xs,term,[]⟩,xs.length,F,L,at',ct,a,cap,l,none,0,rfl,rfl,hFW,hst.symm,hxs.symm,by rw[hxs];exact hE.good,by rw[hxs];exact hE.rt,rfl,Nat.le_refl _,Nat.le_refl _,by simp⟩
 have hxl:xs.length<=4096:=by rw[hxs,List.length_map];exact hE.ci.len
 rw[<-hst,<-hxs]at hlen⊢;rw[<-hxs]at hcard;have HX:=lh hx;have HFI:=lh HF;have HCHO:=lh HCH;have HSPL:=lh HSP;have HHF:=lh hF;have HCD:=lh hcard;have HLN:=lh hlen;have HIN:=lh hIN;have HB0:=lh hb0;have HST:=lh hst;have HC0:=lh hC
 have HG0:Hid (gL g.n xs):=by show gL _ _;rw[hxs];exact hE.good
 have HRT0:Hid (RT g.n g.t xs term):=by show RT _ _ _ _;rw[hxs];exact hE.rt
 clear hx HF HCH HSP hF hcard hlen hIN hFW hGd q0 q1 hb0 hC hE hst hxs;go_enter Tryz.func64,Tryz.ntmps64;go_wp2_with fail;rw[<-hw0];clear hw0
 go_loopw[1,7](fun lv v wr=>FR g ch F p w w.heap.size (w.heap.size+1) st xs term wr lv v)(fun lv _ _=>ycs lv)
 case atStart=>exact HIN.o
 obtain⟨⟨ust,ul,ut,ui⟩,fu,F',L',a2,ct2,b,cp,lc,va,vc,rfl,rfl,hfw,hL,hlx,hg,hrt,hU,hfu,hcu,hil⟩:=hrel;simp only at hfw hL hlx hg hrt hU hfu hcu hil;have HIL:=lh hil;have HFW:=lh hfw;have HL:=lh hL;have HLX:=lh hlx;have HG:=lh hg;have HRT:=lh hrt;have HU:=lh hU;have HFU:=lh hfu;have HCU:=lh hcu;clear hfw hL hlx hg hrt hU hfu hcu hil
 by_cases hunit:∃e lt x,lc=e::lt/\e.xs=[x]
 ·obtain⟨e,lt,x,rfl,hex⟩:=hunit
  have hul:ul=[x]::lt.map fun e=>e.xs:=by rw[<-HLX.o,List.map_cons,hex]
  have hg:=HG.o;have hrt:=HRT.o
  have hxn:litN g.n x:=by rw[hul]at hg;exact(hg.gc [x] (by simp)).rg x (by simp)
  have hxv:(zae ul).mem (zac x)=true:=by rw[hul];exact zge (l:=[x]::lt.map fun e=>e.xs) (c:=[x]) (by simp) (x:=x) (by simp) (hxn.ok hn).1
  obtain⟨fu1,rfl⟩:∃k,fu=k+1:=⟨fu-1,by have:=HFU.o;rw[hul]at this;simp at this;omega⟩
  obtain⟨s1,hs1⟩:=nm ((litF ust x).1);obtain⟨i1,hi1⟩:=nm ((litF ust x).2)
  have hstep:zaq (fu1+1) ⟨ust,ul,ut,ui⟩=zaq fu1 ⟨s1,zah ul x,ut++[x],ui++[i1]⟩:=by rw[hul,hs1,hi1];rfl
  have hU:=HU.o;rw[hstep]at hU
  have hs1l:s1.length<=65536:=by
   have h1:=zfy fu1 ⟨s1,zah ul x,ut++[x],ui++[i1]⟩;have h2:=zxg (ch:=ch) (cache:=g.cache) (f:=f) hU;have h3:=HLN.o;simp only at h1;omega
  have hinv:InvR ch (RT g.n g.t) g.cache g.n ust:=by rw[<-HL.o];exact HFW.o.cmp.inv
  obtain⟨r1,k1,k2,_⟩:=zgb hinv hxn;rw[<-k1,<-hs1]at k2;have hoff:=hrt.off hn hg.gc hxn hxv
  have htl:ut.length+1<=128:=by have:=(hrt.1.snoc hxn hn hoff.1 hoff.2).len hn;simp at this;omega
  have hgl:(zah ul x).length<lt.length+1:=by
   have:=znz (x:=x) (l:=lt.map fun e=>e.xs);rw[<-hul]at this;simp at this;omega
  have hcg:card (zae (zah ul x))<=card (zae ul):=zip fun v hv=>(za1 (hxn.ok hn).1 hv).1
  obtain⟨blk,off,rfl,c0,_,ic⟩:=HFW.o.ci.cc 0 (by simp);simp only[gd,List.getD_cons_zero,Nat.zero_mul,Nat.add_zero]at c0 ic;rw[hex]at c0 ic;obtain⟨b2,off2,hea,c2⟩:=ic 0 (by simp);rw[hea]at c0;simp only[Nat.add_zero,List.getD_cons_zero]at c2;have kb:=HFW.o.bx.cell 0
  have hx1:-128<=x:=by have:=hxn.2.1;omega
  have hx2:x<=128:=by have:=hxn.2.2;omega
  have HLIT:=lh (zfn g F' p L' x wr HFW.o.cmp.cc hx1 hx2 (by rw[HL.o,<-hs1];exact hs1l) HFW.o.cmp.lo);rw[HL.o,<-hs1,<-hi1]at HLIT;have hlci:(e::lt).length<=4096:=HFW.o.ci.len
  have hlci':lt.length+1<=4096:=by simpa using hlci
  have hcil:(zaf ui).length<=1073741823:=by simp[zaf];have:=HIL.o;omega
  have HI1:=lh k2;have HUX:=lh hU;have HXN:=lh hxn;have HXV:=lh hxv;have HTL:=lh htl;have HGL:=lh hgl;have HCG:=lh hcg;have HCL:=lh hcil;have HLC:=lh hlci'
  have hl1:(0:Int)<((e::lt).length:Int):=by simp
  have hl2:((e::lt).length:Int)<=4096:=by omega
  clear hul hg hrt hxn hxv hstep hU hs1l hinv k1 k2 hoff htl hgl hcg hcil hs1 hi1 hlci hlci';go_wp2_with fail;refine HLIT.o.mono ?_;rintro e1 w1⟨rfl,F1,ha⟩;obtain⟨L1,hL1,hfw1⟩:=HFW.o.aft HX.o (zbp _ _ _ _) ha HI1.o;have HL1:=lh hL1;have HA1:=lh (hfw1.later (zbp _ _ _ _) ((Below.refl _ _).alloc (Nat.le_refl _) (.cells #[.int .i64 (i1:Int)] 3)))
  have HIC:Hid (IntCells (w1.alloc (.cells #[.int .i64 (i1:Int)] 3)) (some ⟨w1.heap.size,0,none⟩) [(i1:Int)]):=fun j hj=>by
   have:j=0:=by simpa using hj
   subst this;exact⟨_,_,rfl,by rw[World.cell?_alloc_at _ _ _ _ rfl];rfl⟩
  clear ha hL1 hfw1 c0 c2 kb;go_wp2_with(at_builtin;go_loud(refine zdk rfl _ _ rfl w.heap.size (.slice va (zaf ui).length vc) (zaf ui) rfl HA1.o.own.1 ⟨w1.heap.size,0,none⟩ 1 [(i1:Int)] rfl HIC.o (by simp) (by have:=HCL.o;omega) (by simp) HA1.o.kp.size ?_));intro gg cg w2 ho hg hnw;have hfw2:=HA1.o.app HX.o (zbp _ _ _ _) hB ho hg (by simpa using hnw);have HFW2:=lh hfw2;have kt:=hfw2.tm.cell 0;have HCLO:=lh (zaz a2 ct2 ut w2 (by have:=HTL.o;omega) hfw2.ti.ic);clear ho hg hnw hfw2;go_wp2_with fail;refine HCLO.o.mono ?_;rintro e1 w3⟨v4,rfl,ho4,hb4⟩;have HO4:=lh ((zao.1 ho4:OwnI w3 w2.heap.size v4 ut).later ((Below.refl _ _).alloc (Nat.le_refl _) (.cells #[.int .i64 x] 3)))
  have HB4:=lh (hb4.trans (((Below.refl _ _).alloc (Nat.le_refl _) (.cells #[.int .i64 x] 3)).mono hb4.size))
  have HIX:Hid (IntCells (w3.alloc (.cells #[.int .i64 x] 3)) (some ⟨w3.heap.size,0,none⟩) [x]):=fun j hj=>by
   have:j=0:=by simpa using hj
   subst this;exact⟨_,_,rfl,by rw[World.cell?_alloc_at _ _ _ _ rfl];rfl⟩
  clear ho4 hb4 kt;go_wp2_with(at_builtin;go_loud(refine zdk rfl _ _ rfl w2.heap.size v4 ut rfl HO4.o ⟨w3.heap.size,0,none⟩ 1 [x] rfl HIX.o (by simp) (by have:=HTL.o;omega) (by simp) HB4.o.size ?_));intro g4 c4 w4 ho5 hg5 hn5;have hb24:Below w2.heap.size w2 w4:=HB4.o.trans (Kp.toBelow (M:=fun k=>v4.ownBlock=some k) (Kp.grown hg5 fun k hk=>hk) HB4.o.size fun k hk e=>by have:=(OwnI.blk (l:=ut) HO4.o e).1;omega);have hfw4:=HFW2.o.later (zbp _ _ _ _) hb24
  have hg4:w2.heap.size<=g4/\g4<w4.heap.size:=by
   have:=ho5.blk (k:=g4) rfl;exact this
  have htr:TrmIn (Gd F1 (.slice (some ⟨gg,0,none⟩) ((zaf ui).length+[(i1:Int)].length) cg) w.heap.size (w.heap.size+1)) w4 (some ⟨g4,0,none⟩) (ut++[x]):=
   ⟨ho5.intCells (by simp),fun q hq=>by
     simp only[Option.some.injEq]at hq;subst hq
     exact⟨fun hf=>by have:=HFW2.o.low _ hf;simp only at this;omega,hg4.2⟩,by simp;have:=HTL.o;omega⟩
  have HFW5:=lh (hfw4.term (ct3:=c4) HX.o (zbp _ _ _ _) hB htr (n:=ut.length+1) (by simp));have kt:=hfw4.tm.cell 0;have kf:=hfw4.tm.fr 0;have kl:=hfw4.tm.lt;clear ho5 hg5 hn5 hb24 hfw4 hg4 htr;go_wp2_with fail;obtain⟨w5,hw5⟩:=nm (w4.setCell ⟨w.heap.size+1,0,none⟩ (.slice (some ⟨g4,0,none⟩) (ut.length+1) c4));rw[<-hw5]at HFW5⊢;clear hw5 kt kf kl
  have hgv:=zny (some ⟨blk,off,none⟩) cp (e::lt) x hx1 hx2 w5 (by have:=HLC.o;simp;omega) HFW5.o.ci.cc fun e he=>⟨by have:=(HFW5.o.ci.xs e he).1;omega,(HFW5.o.ci.xs e he).2.1⟩
  rw[List.length_cons]at hgv;refine hgv.mono ?_;clear hgv;rintro e1 w6⟨v6,m,rfl,ho6,hc6,hg6,he6,hb6⟩;obtain⟨b6,cap6,rfl,hci6,hgd6,hrt6,_,_⟩:=zni HX.o HFW5.o.ci (by rw[HLX.o];exact HG.o) (by rw[HLX.o];exact HRT.o) HXN.o (by rw[HLX.o];exact HXV.o) HFW5.o.low ho6 hc6 hg6 he6;have hfw6:=(HFW5.o.later (zbp _ _ _ _) hb6).swap (P':=fun G V=>ClsIn g G V b6 m (ut++[x])) hci6
  have en:(zaf ui).length+1=(zaf (ui++[i1])).length:=by simp[zaf]
  rw[en]at hfw6;rw[HLX.o]at he6
  have hml:m.length<lt.length+1:=by have:=HGL.o;rw[<-he6,List.length_map]at this;exact this
  have hR:FR g ch F p w w.heap.size (w.heap.size+1) st xs term w6 (.slice b6 m.length cap6) (.slice (some ⟨gg,0,none⟩) (zaf (ui++[i1])).length cg):=
   ⟨⟨s1,zah ul x,ut++[x],ui++[i1]⟩,fu1,F1,L1,some ⟨g4,0,none⟩,c4,b6,cap6,m,some ⟨gg,0,none⟩,cg,rfl,rfl,hfw6,HL1.o,he6,by rw[<-he6];exact hgd6,by rw[<-he6];exact hrt6,HUX.o,by have h1:=HGL.o;have h2:=HFU.o;rw[<-HLX.o]at h2;simp at h2;simp only;omega,Nat.le_trans HCG.o HCU.o,by have:=HIL.o;simp;omega⟩
  have HR:=lh hR;clear hR ho6 hc6 hg6 he6 hb6 hci6 hgd6 hrt6 hfw6;go_wp2;go_roundw
  case rel=>exact HR.o
  case measure=>simp[ycs];omega
 have hnu:zez ul=true:=by
  rw[<-HLX.o]
  match lc,hunit with
  |[],_=>rfl
  |e::lt,h=>
    match he:e.xs with
    |[]=>simp[zez,he]
    |[x]=>exact absurd ⟨e,lt,x,rfl,he⟩ h
    |x::y::c=>simp[zez,he]
 have hU:=HU.o;rw[zqj (u:=⟨ust,ul,ut,ui⟩) hnu]at hU
 have hst0:InvR ch (RT g.n g.t) g.cache g.n st:=by rw[HST.o];exact HC0.o.inv
 obtain⟨rf,f1,f2,f3,_⟩:=zdw (R:=RT g.n g.t) (cache:=g.cache) hn (zb0 hn g.t) HX.o.ch (f+1) st xs term hst0 HG0.o HRT0.o HCD.o;rw[<-f1]at f2
 have hcil:(zaf ui).length<=4096:=by have:=HIL.o;simp[zaf];omega
 have HINVF:=lh f2;have kb:=HFW.o.bx.cell 0;have kt:=HFW.o.tm.cell 0;clear f1 f2 f3 hst0 hunit
 cases he:zbm ul with
 |true=>
   obtain⟨e,lt,rfl,hex⟩:∃e lt,lc=e::lt/\e.xs=[]:=by
    rw[<-HLX.o]at he
    match lc,he with
    |[],he=>simp[zbm]at he
    |e::lt,he=>
      match hx:e.xs with
      |[]=>exact⟨e,lt,rfl,hx⟩
      |x::c=>simp[zbm,hx]at he
   have hFB:=zq5 (ch:=ch) (cache:=g.cache) (f:=f) hU he;simp only at hFB;obtain⟨R,hR⟩:=nm (zan g.cache ust ul ut fun s=>(s,(⟨0,0,[]⟩:Nd)));rw[<-hR]at hFB;obtain⟨blk,off,rfl,c0,_,ic⟩:=HFW.o.ci.cc 0 (by simp);simp only[gd,List.getD_cons_zero,Nat.zero_mul,Nat.add_zero]at c0;rw[hex]at c0
   have hnd:=zle g F' p L' (some ⟨blk,off,none⟩) cp (e::lt) a2 ct2 ut 99 #[] (fun s=>(s,(⟨0,0,[]⟩:Nd))) wr HFW.o.cmp.cc (HFW.o.ci.mono fun k hk=>.inl hk) (by simp) (HFW.o.ti.mono fun k hk=>.inl hk) HFW.o.cmp.tab HFW.o.cmp.lo zl1
    (fun _ W hb=>zxd g F' p L' W (HFW.o.cmp.cc.later hb)) (by simp) (fun _ h=>h) (by rw[HL.o,HLX.o,<-hR];have:=HLN.o;rw[hFB]at this;exact this)
   rw[HL.o,HLX.o,<-hR,List.length_cons]at hnd;have HND:=lh hnd;have HFB:=lh hFB;have HRE:=lh hR
   have hlci:lt.length+1<=4096:=by have:=HFW.o.ci.len;simpa using this
   have hl1:(0:Int)<((e::lt).length:Int):=by simp
   clear hnd hFB hR hU hnu;go_wp2_with fail;refine HND.o.mono ?_;rintro e1 w1⟨rfl,F1,ha⟩;obtain⟨L1,hL1,hfw1⟩:=HFW.o.aft HX.o (zbp _ _ _ _) ha (by have:=HINVF.o;rw[HFB.o]at this;exact this);have HL1:=lh hL1;have HA1:=lh (hfw1.later (zbp _ _ _ _) ((Below.refl _ _).alloc (Nat.le_refl _) (.cells #[.int .i64 (R.2:Int)] 3)))
   have HIC:Hid (IntCells (w1.alloc (.cells #[.int .i64 (R.2:Int)] 3)) (some ⟨w1.heap.size,0,none⟩) [(R.2:Int)]):=fun j hj=>by
    have:j=0:=by simpa using hj
    subst this;exact⟨_,_,rfl,by rw[World.cell?_alloc_at _ _ _ _ rfl];rfl⟩
   clear ha hL1 hfw1 c0 kb kt;go_wp2_with(at_builtin;go_loud(refine zdk rfl _ _ rfl w.heap.size (.slice va (zaf ui).length vc) (zaf ui) rfl HA1.o.own.1 ⟨w1.heap.size,0,none⟩ 1 [(R.2:Int)] rfl HIC.o (by simp) (by omega) (by simp) HA1.o.kp.size ?_));intro gg cg w2 ho hg hnw;have HFW2:=lh (HA1.o.app HX.o (zbp _ _ _ _) hB ho hg (by simpa using hnw));clear ho hg hnw;go_wp2;go_ret;refine⟨_,F1,rfl,?_,?_⟩
   ·rw[HFB.o];exact⟨⟨L1,HL1.o,HFW2.o.cmp.cc⟩,HFW2.o.kp,HFW2.o.sub⟩
   rw[HFB.o];exact HFW2.o.own
 |false=>
   have hFB:=zk0 (ch:=ch) (cache:=g.cache) (f:=f) hU he;simp only at hFB;have hl2:∀c∈ul,2<=c.length:=zpy HG.o.so hnu he;obtain⟨dec,hdec⟩:=nm (fun s part=>zav (fitF ch g.cache f) ch s part ut);rw[<-hdec]at hFB;have hsp:=HSPL.o (Gd F' (.slice va (zaf ui).length vc) w.heap.size (w.heap.size+1)) b cp lc ut wr HFW.o.ci (by rw[HLX.o];exact HG.o) HFW.o.low;rw[HLX.o]at hsp;have HSP:=lh hsp;have HFB:=lh hFB;have HDEC:=lh hdec;have HL2:=lh hl2;have hlci:=HFW.o.ci.len;have htst:=zun HFW.o.ci (by rw[HLX.o];exact hl2);clear hsp hFB hdec hU hnu hl2 he
   rcases htst with rfl|⟨e,lt,blk,off,rfl,rfl,c0,hx2⟩
   case' inl=>
    rw[List.length_nil]at HSP
   case' inr=>
    rw[List.length_cons]at HSP
    have hl1:(0:Int)<((e::lt).length:Int):=by simp
    have hl3:(2:Int)<=(e.xs.length:Int):=by omega
    have hl4:¬((e.xs.length:Int)=1):=by omega
    have hl5:¬((e.xs.length:Int)=0):=by omega
    have hlci2:lt.length+1<=4096:=by simpa using hlci
   all_goals
    go_wp2_with fail;refine HSP.o.mono ?_;rintro e1 w1⟨hb1,b1,cp1,ps,rfl,hps,hPS⟩;have hfw1:=(HFW.o.later (zbp _ _ _ _) hb1).swap (P':=PS g b1 ps ut) hPS;have HFW1:=lh hfw1;have HPS:=lh hps
    have hpl:ps.length<=4096:=by
     have h1:=congrArg List.length hps;rw[List.length_map]at h1;have h2:=zhu ul;have h3:=congrArg List.length HLX.o;rw[List.length_map]at h3;omega
    clear hb1 hps hPS hfw1 kb kt;have HRT2:=lh (fun q(hq:q∈zaj ul)=>(zb0 hn g.t).split ul ut q HRT.o HG.o hq)
    have h0R:FR2 g ch F p w w.heap.size (w.heap.size+1) dec ust ui ut (zaj ul) b1 ps w1 (.slice va (zaf ui).length vc) (.int .i64 ((0:Nat):Int)):=
     ⟨0,F',L',a2,ct2,va,vc,Nat.zero_le _,rfl,rfl,HFW1.o,HL.o⟩
    have H0R:=lh h0R;clear h0R;go_wp2_with fail
    go_loopw[7,63](fun v i wr2=>FR2 g ch F p w w.heap.size (w.heap.size+1) dec ust ui ut (zaj ul) b1 ps wr2 v i)(fun _ i _=>ps.length-(intOf i).toNat)
    case atStart=>exact H0R.o
    obtain⟨k,F2,L2,a3,ct3,va2,vc2,hk,rfl,rfl,hfw2,hL2⟩:=hrel;obtain⟨A,hA⟩:=nm (za7 g.cache dec ut ((zaj ul).take k) (ust,ui));rw[<-hA]at hfw2 hL2⊢
    have hAl:A.2.length=ui.length+k:=by
     have h1:=congrArg List.length HPS.o;rw[List.length_map]at h1;rw[hA,zg9,List.length_take];simp only;omega
    have HFW2:=lh hfw2;have HL2':=lh hL2;have HAE:=lh hA
    have hcA:(zaf A.2).length<=8192:=by simp[zaf]at hcil⊢;omega
    by_cases hlt:k<ps.length
    ·have kb:=hfw2.bx.cell 0;have kt:=hfw2.tm.cell 0;obtain⟨blk2,off2,ak,ck,hbb,_,_,c2,hci⟩:=hfw2.ci k hlt;subst hbb;obtain⟨pt,hpt⟩:=nm (ps.getD k []);rw[<-hpt]at c2 hci
     have hki:(k:Int)<(ps.length:Int):=by omega
     have HCI:=lh hci;have HPT:=lh hpt;clear hfw2 hL2 hA hci hpt
     have hsk:k<(zaj ul).length:=by
      have h1:=congrArg List.length HPS.o;rw[List.length_map]at h1;omega
     obtain⟨q,hq⟩:=nm ((zaj ul)[k])
     have hpq:(pt.map fun e=>e.xs)=q:=by
      have h2:(ps.map fun(q:List Ce)=>q.map fun e=>e.xs)[k]?=(zaj ul)[k]?:=by rw[HPS.o]
      rw[List.getElem?_map,List.getElem?_eq_getElem hlt,List.getElem?_eq_getElem hsk]at h2;simp only[Option.map_some,Option.some.injEq]at h2;rw[HPT.o,hq,<-h2];simp[List.getD_eq_getElem?_getD,hlt]
     have hqm:q∈zaj ul:=hq▸List.getElem_mem hsk;obtain⟨g1,g2,g3⟩:=zda HG.o.gc hqm
     have g4:∀c∈q,2<=c.length:=fun c hc=>HL2.o c (g3 c hc)
     have g5:card (zae q)<=f:=by have h1:=zgl hqm;have h2:=HCU.o;have h3:=HCD.o;omega
     have hinv:InvR ch (RT g.n g.t) g.cache g.n A.1:=by rw[<-HL2'.out];exact HFW2.o.cmp.inv
     have hrq:=HRT2.o q hqm;obtain⟨r,d1,d2,d3,d4,d5,d6,d7⟩:=zhn (R:=RT g.n g.t) hn (zb0 hn g.t) HX.o.ch (zdw hn (zb0 hn g.t) HX.o.ch f) hinv g1 hrq g2 g4 g5;obtain⟨R,hR⟩:=nm (zan g.cache A.1 q ut (fun s=>dec s q))
     have hdq:∀s,dec s q=zav (fitF ch g.cache f) ch s q ut:=fun s=>by rw[HDEC.o]
     obtain⟨r2,n1,n2,_⟩:=zew hinv q ut hrq (fun s=>dec s q) (FB (card (zae q))) (fun x=>x.kind=4) (fun i c t hc ht=>zrz hinv.inv g2 g4 i c t hc ht)
      ⟨r,by rw[hdq];exact d1,d2,d3,d4,d5,by rw[hdq];exact d6,by rw[hdq];exact d7,by rw[hdq,d7];omega⟩
     rw[<-hR]at n1;rw[<-n1]at n2
     have hsucc:za7 g.cache dec ut ((zaj ul).take (k+1)) (ust,ui)=(R.1,A.2++[R.2]):=by
      rw[zp7 _ _ _ _ _ hsk,<-HAE.o,<-hq,<-hR]
     have hRl:R.1.length<=65536:=by
      have h1:=zp6 g.cache dec ut (zaj ul) (ust,ui) (k+1);rw[hsucc]at h1;have h2:=zea g.cache dec (fun s p=>by rw[HDEC.o];exact zen (zeo ch g.cache f) ch s p ut) ut ((zaj ul).drop (k+1)) (R.1,A.2++[R.2]);rw[h1,<-HFB.o]at h2;have:=HLN.o;simp only at h2;omega
     have hbW:Below wr.heap.size wr (wr.alloc (.cells #[.slice ak pt.length ck] 130)):=ba _ _;have hfwW:=HFW2.o.later (zgm _ _ _ _) hbW
     have hciW:=HCI.o.kept (F':=Gd F2 (.slice va2 (zaf A.2).length vc2) w.heap.size (w.heap.size+1)) (Kp.below hbW) fun _ h=>.inl h
     have hpne:pt≠[]:=fun e=>g2 (by rw[<-hpq,e];rfl)
     have hp2:∀e∈pt,2<=e.xs.length:=fun e he=>g4 e.xs (by rw[<-hpq];exact List.mem_map.2 ⟨e,he,rfl⟩)
     have kp1:(wr.alloc (.cells #[.slice ak pt.length ck] 130)).cell? ⟨wr.heap.size,0,none⟩=some (.slice ak pt.length ck):=by rw[World.cell?_alloc_at _ _ _ _ rfl];rfl
     have hnd:=zle g F2 p L2 ak ck pt a3 ct3 ut 101 #[.pointer (some ⟨w.heap.size,0,none⟩),.pointer (some ⟨wr.heap.size,0,none⟩),.pointer (some ⟨w.heap.size+1,0,none⟩)] (fun s=>dec s q) _
      hfwW.cmp.cc (hciW.mono fun k hk=>.inl hk) hpne (hfwW.ti.mono fun k hk=>.inl hk) hfwW.cmp.tab hfwW.cmp.lo zl2
      (fun hnf W hb=>by
        have h:=zxe g ch f HX.o HFI.o HCHO.o F2 p L2 ak ck pt a3 ct3 ut w.heap.size wr.heap.size (w.heap.size+1) W (hfwW.cmp.later hb)
         ⟨(hciW.kept (Kp.below hb) fun _ h=>.inl h).mono fun k hk=>.inl hk,(hfwW.ti.kept (Kp.below hb) fun _ h=>.inl h).mono fun k hk=>.inl hk,by rw[hpq];exact g1,by rw[hpq];exact hrq⟩ hpne hp2 (by rw[hpq];exact g5)
         (by
           rw[HL2'.out,hpq]at hnf⊢
           have hm:R.1.length=(dec A.1 q).1.length+1:=by
            have:(if g.cache=true then A.1.findIdx? (zbt q)else none)=none:=by
             cases hc:g.cache with
             |true=>rw[if_pos rfl];exact hnf hc
             |false=>rfl
            rw[hR];unfold zan;rw[this];simp
           rw[hdq]at hm;omega)
         (zab hb (hfwW.bx.cell 0)) (zab hb kp1) (zab hb (hfwW.tm.cell 0))
        rw[HL2'.out,hpq,<-hdq]at h;rw[HL2'.out]
        exact h)
      (by rw[hdq];simp[zav]) (fun hc hf=>by
        rw[HL2'.out,hpq]at hf⊢
        show(dec A.1 q).1.findIdx? _=none
        rw[hdq,d1]
        exact zyy (cache:=g.cache) hf d5) (by rw[HL2'.out,hpq,<-hR];exact hRl)
     rw[HL2'.out,hpq,<-hR]at hnd;have HND:=lh hnd;have HFWW:=lh hfwW;have HINV2:=lh n2;have HSUC:=lh hsucc;have HRE:=lh hR;have hbl:=kb;have hw1:w.heap.size<wr.heap.size:=HFW2.o.bx.lt;have hw2:w.heap.size+1<wr.heap.size:=HFW2.o.tm.lt;clear hsk hq hpq hqm g1 g2 g3 g4 g5 hinv hrq d1 d2 d3 d4 d5 d6 d7 hR hdq n1 n2 hsucc hRl hfwW hciW hpne hp2 kp1 hnd hbl hbW;go_wp2_with fail;refine HND.o.mono ?_;rintro e1 w2⟨rfl,F3,ha⟩;obtain⟨L3,hL3,hfw3⟩:=HFWW.o.aft HX.o (zgm _ _ _ _) ha HINV2.o;have HL3:=lh hL3;have HA1:=lh (hfw3.later (zgm _ _ _ _) ((Below.refl _ _).alloc (Nat.le_refl _) (.cells #[.int .i64 (R.2:Int)] 3)))
     have HIC:Hid (IntCells (w2.alloc (.cells #[.int .i64 (R.2:Int)] 3)) (some ⟨w2.heap.size,0,none⟩) [(R.2:Int)]):=fun j hj=>by
      have:j=0:=by simpa using hj
      subst this;exact⟨_,_,rfl,by rw[World.cell?_alloc_at _ _ _ _ rfl];rfl⟩
     clear ha hL3 hfw3 c2 kb kt;go_wp2_with(at_builtin;go_loud(refine zdk rfl _ _ rfl w.heap.size (.slice va2 (zaf A.2).length vc2) (zaf A.2) rfl HA1.o.own.1 ⟨w2.heap.size,0,none⟩ 1 [(R.2:Int)] rfl HIC.o (by simp) (by omega) (by simp) HA1.o.kp.size ?_));intro gg cg w3 ho hg hnw;have hfw4:=HA1.o.app HX.o (zgm _ _ _ _) hB ho hg (by simpa using hnw)
     have en:(zaf A.2).length+1=(zaf (A.2++[R.2])).length:=by simp[zaf]
     rw[en]at hfw4
     have hR2:FR2 g ch F p w w.heap.size (w.heap.size+1) dec ust ui ut (zaj ul) (some ⟨blk2,off2,none⟩) ps w3 (.slice (some ⟨gg,0,none⟩) (zaf (A.2++[R.2])).length cg) (.int .i64 ((k+1:Nat):Int)):=
      ⟨k+1,F3,L3,a3,ct3,some ⟨gg,0,none⟩,cg,by omega,rfl,by rw[HSUC.o],by rw[HSUC.o];exact hfw4,by rw[HSUC.o];exact HL3.o⟩
     have HR2:=lh hR2;clear ho hg hnw hfw4 hR2;go_wp2;go_roundw
     case rel=>
      have h:=HR2.o;rw[<-en]at h;exact h
     case measure=>simp[intOf];omega
    have hke:k=ps.length:=by omega
    have hall:(zaj ul).take k=zaj ul:=by
     have h1:=congrArg List.length HPS.o;rw[List.length_map]at h1;rw[List.take_of_length_le (by omega)]
    have HF2:Hid (fitF ch g.cache (f+1) st xs term=A):=by
     show _=_
     rw[HFB.o,HAE.o,hall]
    subst hke;clear hfw2 hL2 hA hall;go_wp2;go_ret;refine⟨_,F2,rfl,?_,?_⟩
    ·rw[HF2.o];exact⟨⟨L2,HL2'.out,HFW2.o.cmp.cc⟩,HFW2.o.kp,HFW2.o.sub⟩
    rw[HF2.o];exact HFW2.o.own
end Go.Proofs.YtnlaakmglhjjmaaGreatDoor
