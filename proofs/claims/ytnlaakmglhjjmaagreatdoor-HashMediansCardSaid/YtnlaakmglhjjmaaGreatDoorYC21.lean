/- Parts of the proofs of laws. Texts: CqZ, CqB. -/
import Derived.Test.YtnlaakmglhjjmaaGreatDoorYC20
set_option maxHeartbeats 8000000
set_option maxRecDepth 100000
set_option linter.all false
namespace Cen
section
variable{ch:List Cl->Int}{n:Nat}{t:List Cl}{cache:Bool}
theorem za9(h:zaa n t=[]):zad ch cache n t=[⟨⟨1,0,[]⟩,some ([],[])⟩]:=by unfold zad;rw[if_pos h]
theorem zcp(h:zaa n t≠[])(hr:zcl (zak ch cache (zaa n t)) (zaa n t)=true):
 zad ch cache n t=(zak ch cache (zaa n t)).1++[⟨⟨3,0,zaf (zak ch cache (zaa n t)).2⟩,some (zaa n t,[])⟩]:=by
 unfold zad capF;rw[if_neg h,if_pos hr]
theorem zcq(h:zaa n t≠[])(hr:zcl (zak ch cache (zaa n t)) (zaa n t)=false):
 zad ch cache n t=(zak ch cache (zaa n t)).1.set ((zak ch cache (zaa n t)).1.length-1) ⟨nd (nds (zak ch cache (zaa n t)).1) ((zak ch cache (zaa n t)).1.length-1:Nat),some (zaa n t,[])⟩:=by
 unfold zad capF;rw[if_neg h,if_neg (by simp[hr])]
theorem zft(h:zaa n t≠[])(hr:zcl (zak ch cache (zaa n t)) (zaa n t)=true):
 nds (zad ch cache n t)=nds (zak ch cache (zaa n t)).1++[⟨3,0,zaf (zak ch cache (zaa n t)).2⟩]:=by
 rw[zcp h hr,zsu];rfl
theorem zfu(h:zaa n t≠[])(hr:zcl (zak ch cache (zaa n t)) (zaa n t)=false):
 nds (zad ch cache n t)=nds (zak ch cache (zaa n t)).1:=by
 rw[zcq h hr,zeu]
theorem zub(hn:n<=128)(hch:Chooses ch n)(ht:tOk n t){p:Prf}(hpn:p.n=n)(hpt:p.t=t)(hpN:p.N=nds (zad ch cache n t))
 (hpC:∀(i:Nat)(c:Nc)(l:List Cl)(term:Cl),(zad ch cache n t)[i]?=some c->c.tag=some (l,term)->∃a,p.C.getD i ⟨[],[]⟩=⟨term,a⟩/\ClOf n t l term a):∀i,i<p.N.length->p.node i:=by
 obtain⟨pn,pt,pN,pC⟩:=p;simp only at hpn hpt hpN hpC;subst hpn;subst hpt;subst hpN;have hg:=za2 hn ht.rg;have hal:(zaa pn pt).length<=4096:=Nat.le_trans (zco pn pt) ht.len
 have hres0:∀(i:Nat)(c:Nc)(l:List Cl)(term:Cl),(zad ch cache pn pt)[i]?=some c->c.tag=some (l,term)->gL pn l->gT pn term->Prf.res ⟨pn,pt,nds (zad ch cache pn pt),pC⟩ i=some l:=fun i c l term hc htag hgl hgt=>by
  obtain⟨a,h1,h2⟩:=hpC i c l term hc htag;unfold Prf.res;simp only[Int.toNat_natCast];rw[h1];exact yda hn ht.rg hgl hgt h2
 by_cases h0:zaa pn pt=[]
 ·have hN:nds (zad ch cache pn pt)=[⟨1,0,[]⟩]:=by rw[za9 h0];rfl
  have hr0:=hres0 0 ⟨⟨1,0,[]⟩,some ([],[])⟩ [] [] (by rw[za9 h0];rfl) rfl (by rw[<-h0];exact hg) (gT.nil pn);intro i hi;simp only at hi;rw[hN]at hi hr0⊢
  have:i=0:=by simpa using hi
  subst this;refine⟨.inl (by simp[zp4]),fun _=>⟨[],hr0,?_,fun _=>h0.symm⟩⟩;unfold Prf.acc
  simp[nd]
 have hC:=core hn hch ht cache
 have htg:∀i l,tagged (zak ch cache (zaa pn pt)).1 i l->gL pn l/\l≠[]:=fun i l h=>zfx hC.inv.inv h
 have hlen:∀i l,tagged (zak ch cache (zaa pn pt)).1 i l->l.length<=4096:=fun i l⟨c,tm,hc,e⟩=>by
  obtain⟨_,hR⟩:=hC.inv.tg i c l tm hc e;have hgl:=(htg i l ⟨c,tm,hc,e⟩).1
  have hex:∀c∈l,∃j:Nat,j<pt.length/\Left1 pn pt tm j c:=fun c hc=>by
   obtain⟨i,hi⟩:=hR c hc;obtain⟨j,hj,e,r⟩:=hi;exact⟨j,hj,by subst e;exact⟨j,hj,rfl,r⟩⟩
  have:l.length<=pt.length:=by
   have hch:∀c:Cl,∃j:Nat,c∈l->j<pt.length/\Left1 pn pt tm j c:=fun c=>by
    by_cases h:c∈l
    ·obtain⟨j,h1,h2⟩:=hex c h;exact⟨j,fun _=>⟨h1,h2⟩⟩
    exact⟨0,fun h'=>absurd h' h⟩
   obtain⟨f,hf⟩:=Classical.axiomOfChoice hch
   have:=zb7 (l:=l.map fun c=>(f c:Int)) (b:=pt.length) (by
    show List.Pairwise _ _
    rw[List.pairwise_map];refine List.Pairwise.imp_of_mem (fun{a b}ha hb hab e=>?_) hgl.so
    have e':f a=f b:=by omega
    have h1:=(hf a ha).2;rw[e']at h1;have:=h1.fun (hf b hb).2;subst this
    exact ze5 _ hab) (fun y hy=>by
    obtain⟨c,hc,rfl⟩:=List.mem_map.1 hy;have:=(hf c hc).1
    omega)
   simpa using this
  exact Nat.le_trans this ht.len
 have hRT:∀(i:Nat)(c:Nc)(l:List Cl)(tm:Cl),(zak ch cache (zaa pn pt)).1[i]?=some c->c.tag=some (l,tm)->gT pn tm:=fun i c l tm hc e=>(hC.inv.tg i c l tm hc e).1
 cases hr:zcl (zak ch cache (zaa pn pt)) (zaa pn pt)with
 |true=>
   have hN:=zft (ch:=ch) (cache:=cache) h0 hr;have hF:=zcp (ch:=ch) (cache:=cache) h0 hr
   have hnd:∀(i:Nat)(c:Nc),(zak ch cache (zaa pn pt)).1[i]?=some c->nd (nds (zad ch cache pn pt)) i=c.nd:=fun i c hc=>by
    rw[hN,zn9 (by omega) (by rw[zat];have:=zb3 hc;omega),zc0 hc]
   have hres:∀(i:Nat)(l:List Cl),tagged (zak ch cache (zaa pn pt)).1 i l->Prf.res ⟨pn,pt,nds (zad ch cache pn pt),pC⟩ i=some l:=fun i l⟨c,tm,hc,e⟩=>
    hres0 i c l tm (by rw[hF];exact zd6 hc) e (htg i l ⟨c,tm,hc,e⟩).1 (hRT i c l tm hc e)
   have hmem:∀c∈(zak ch cache (zaa pn pt)).1,c.nd∈nds (zad ch cache pn pt):=fun c hc=>by
    rw[hN];exact List.mem_append_left _ (List.mem_map.2 ⟨c,hc,rfl⟩)
   intro i hi;simp only at hi
   have hNl:(nds (zad ch cache pn pt)).length=(zak ch cache (zaa pn pt)).1.length+1:=by rw[hN];simp[zat]
   rcases Nat.lt_or_ge i (zak ch cache (zaa pn pt)).1.length with hlt|hge
   ·have hc:(zak ch cache (zaa pn pt)).1[i]?=some (zak ch cache (zaa pn pt)).1[i]:=List.getElem?_eq_getElem hlt;refine zlf (ch:=ch) hn hnd hres hC.inv.inv hlen hmem hc (by simp only;omega) (fun hk=>?_) ?_
    ·cases hb:zdh (nds (zad ch cache pn pt)) i 3 with
     |false=>rfl
     |true=>
       exfalso
       obtain⟨x,hx,hm,hk3⟩:=zk4.1 hb;rw[hN]at hx
       rcases List.mem_append.1 hx with hx|hx
       ·obtain⟨d,hd,rfl⟩:=List.mem_map.1 hx;exact zvj hC.inv.inv hc hk d hd hm hk3
       simp at hx;subst hx;simp only[zaf,List.mem_map]at hm;obtain⟨m,hm,e⟩:=hm
       have:m=i:=by omega
       subst this;obtain⟨y,hy,ey⟩:=hC.fit.kind hC.inv.inv m hm;rw[hc]at hy;simp at hy;subst hy;exact ey hk
    rcases hC.use i _ hc with h|⟨h1,h2⟩
    ·exact .inl h
    refine .inr ⟨zi7 (x:=⟨3,0,zaf (zak ch cache (zaa pn pt)).2⟩) (by simp only;rw[hN];simp) ?_ rfl,h2⟩;simp only[zaf,List.mem_map];exact⟨i,h1,rfl⟩
   have hi2:i=(zak ch cache (zaa pn pt)).1.length:=by omega
   subst hi2
   have hx:nd (nds (zad ch cache pn pt)) ((zak ch cache (zaa pn pt)).1.length:Nat)=⟨3,0,zaf (zak ch cache (zaa pn pt)).2⟩:=by
    rw[hN];unfold nd
    simp[List.getD_eq_getElem?_getD,zat,nds]
   have hr1:=hres0 (zak ch cache (zaa pn pt)).1.length ⟨⟨3,0,zaf (zak ch cache (zaa pn pt)).2⟩,some (zaa pn pt,[])⟩ (zaa pn pt) [] (by rw[hF];simp) rfl hg (gT.nil pn);refine⟨.inl (by unfold zp4;simp only;rw[hNl];simp),fun _=>⟨_,hr1,?_,fun _=>rfl⟩⟩;unfold Prf.acc;simp only[hx];simp only[show¬((3:Int)=1)by decide,show¬((3:Int)=0)by decide,show¬((3:Int)=2)by decide,if_false,if_true];exact zzj hn hnd hres hC.fit hg hal
 |false=>
   have hN:=zfu (ch:=ch) (cache:=cache) h0 hr;have hF:=zcq (ch:=ch) (cache:=cache) h0 hr;obtain⟨k,d,hF2,hk,hd,hend⟩:=zrv hC hg h0 hr
   have hnd:∀(i:Nat)(c:Nc),(zak ch cache (zaa pn pt)).1[i]?=some c->nd (nds (zad ch cache pn pt)) i=c.nd:=fun i c hc=>by
    rw[hN,zc0 hc]
   have hk1:(zak ch cache (zaa pn pt)).1.length-1=k:=by omega
   have hroot:(zad ch cache pn pt)[k]?=some ⟨d.nd,some (zaa pn pt,[])⟩:=by
    rw[hF,hk1,zc0 hd,List.getElem?_set];simp;omega
   have hr1:=hres0 k _ (zaa pn pt) [] hroot rfl hg (gT.nil pn)
   have hres:∀(i:Nat)(l:List Cl),tagged (zak ch cache (zaa pn pt)).1 i l->Prf.res ⟨pn,pt,nds (zad ch cache pn pt),pC⟩ i=some l:=fun i l⟨c,tm,hc,e⟩=>by
    by_cases hik:i=k
    ·subst hik;rw[hd]at hc;simp at hc;subst hc
     rcases hend with⟨x,_,_,h3⟩|⟨tm',h3,_⟩
     ·rw[h3]at e;simp at e
     rw[h3]at e;simp at e;rw[<-e.1];exact hr1
    refine hres0 i c l tm ?_ e (htg i l ⟨c,tm,hc,e⟩).1 (hRT i c l tm hc e);rw[hF,hk1,List.getElem?_set_ne (by omega)];exact hc
   have hmem:∀c∈(zak ch cache (zaa pn pt)).1,c.nd∈nds (zad ch cache pn pt):=fun c hc=>by
    rw[hN];exact List.mem_map.2 ⟨c,hc,rfl⟩
   have hNl:(nds (zad ch cache pn pt)).length=(zak ch cache (zaa pn pt)).1.length:=by rw[hN,zat]
   intro i hi;simp only at hi
   have hlt:i<(zak ch cache (zaa pn pt)).1.length:=by omega
   have hc:(zak ch cache (zaa pn pt)).1[i]?=some (zak ch cache (zaa pn pt)).1[i]:=List.getElem?_eq_getElem hlt
   by_cases hik:i=k
   ·subst hik;refine⟨.inl (by unfold zp4;simp only;rw[hNl,hk];simp),fun _=>⟨_,hr1,?_,fun _=>rfl⟩⟩;have hx:=hnd i d hd;unfold Prf.acc;simp only[hx]
    rcases hend with⟨x,h1,h2,_⟩|⟨tm,h3,⟨h1,h2⟩|h1⟩
    ·rw[h1,h2];simp[hasU]
    ·rw[h1];simp[h2]
    have hform:=hC.inv.inv i d hd
    cases hform with
    |lit a b=>simp at h1
    |bad a=>simp at h1
    |and=>simp at h1
    |@dec l tt a b g1 g2 g3 g4 g5 g6 g7 g8 s1 s2=>
      simp only[Option.some.injEq,Prod.mk.injEq]at h3;obtain⟨rfl,_⟩:=h3;simp only[show¬((4:Int)=1)by decide,show¬((4:Int)=0)by decide,show¬((4:Int)=2)by decide,show¬((4:Int)=3)by decide,if_false,List.length_cons,List.length_nil,Bool.and_eq_true,decide_eq_true_eq,List.any_eq_true,List.mem_range];refine⟨trivial,(ch (zaa pn pt)-1).toNat,by omega,?_⟩;rw[show(((ch (zaa pn pt)-1).toNat:Nat):Int)+1=ch (zaa pn pt)by omega];unfold Prf.onv
      have hv:(zhi pn (zaa pn pt)).mem (ch (zaa pn pt))=true:=by unfold zhi;rw[if_pos ((zms hn).2 (gL.ok hn hg.gc hal))];exact g6
      have e1:=zmy (p:=⟨pn,pt,nds (zad ch cache pn pt),pC⟩) hn hnd hres s1 hg hal;have e2:=zmy (p:=⟨pn,pt,nds (zad ch cache pn pt),pC⟩) hn hnd hres s2 hg hal
      show((zhi pn (zaa pn pt)).mem (ch (zaa pn pt))&&((Prf.side ⟨pn,pt,nds (zad ch cache pn pt),pC⟩ (zaa pn pt) (a:Int) (ch (zaa pn pt))&&Prf.side ⟨pn,pt,nds (zad ch cache pn pt),pC⟩ (zaa pn pt) (b:Int) (-ch (zaa pn pt)))||(Prf.side ⟨pn,pt,nds (zad ch cache pn pt),pC⟩ (zaa pn pt) (a:Int) (-ch (zaa pn pt))&&Prf.side ⟨pn,pt,nds (zad ch cache pn pt),pC⟩ (zaa pn pt) (b:Int) (ch (zaa pn pt)))))=true
      rw[hv,e1,e2];simp
   refine zlf (ch:=ch) hn hnd hres hC.inv.inv hlen hmem hc (by simp only;omega) (fun hk3=>?_) ?_
   ·cases hb:zdh (nds (zad ch cache pn pt)) i 3 with
    |false=>rfl
    |true=>
      exfalso
      obtain⟨x,hx,hm,hk3'⟩:=zk4.1 hb;rw[hN]at hx;obtain⟨e,he,rfl⟩:=List.mem_map.1 hx;exact zvj hC.inv.inv hc hk3 e he hm hk3'
   rcases hC.use i _ hc with h|⟨h1,h2⟩
   ·exact .inl h
   rw[hF2]at h1;simp at h1;exact absurd h1 hik
theorem zh8(hn:n<=128)(hch:Chooses ch n)(ht:tOk n t):(zad ch cache n t).length<=FB (card (zae (zaa n t)))+2*n+1/\1<=(zad ch cache n t).length:=by
 by_cases h0:zaa n t=[]
 ·rw[za9 h0];simp
 have hC:=core hn hch ht cache;have h1:=zrf hC.inv;have h2:=hC.few
 cases hr:zcl (zak ch cache (zaa n t)) (zaa n t)with
 |true=>rw[zcp h0 hr];simp;omega
 |false=>
   have hg:=za2 hn ht.rg;obtain⟨k,d,_,hk,_⟩:=zrv hC hg h0 hr;rw[zcq h0 hr];simp;omega
theorem zwt{l:List Nat}{b:Nat}(h:∀j∈l,j<b):zeg (zaf l) b=true:=by
 rw[zer];intro i hi;simp only[zaf,List.mem_map]at hi;obtain⟨j,hj,rfl⟩:=hi;have:=h j hj;omega
theorem zqw(hn:n<=128)(hch:Chooses ch n)(ht:tOk n t):zds (nds (zad ch cache n t)) n (nds (zad ch cache n t)).length:=by
 by_cases h0:zaa n t=[]
 ·rw[za9 h0];intro j hj
  have:j=0:=by simpa[nds]using hj
  subst this
  simp[nds,ndOk,zeg,zch]
 have hC:=core hn hch ht cache
 cases hr:zcl (zak ch cache (zaa n t)) (zaa n t)with
 |false=>rw[zfu h0 hr];exact hC.inv.inv.nds hn
 |true=>
   rw[zft h0 hr];intro j hj
   rcases Nat.lt_or_ge j (nds (zak ch cache (zaa n t)).1).length with h|h
   ·rw[List.getD_eq_getElem?_getD,List.getElem?_append_left h,<-List.getD_eq_getElem?_getD];exact hC.inv.inv.nds hn j h
   have e:j=(nds (zak ch cache (zaa n t)).1).length:=by simp at hj;omega
   subst e;rw[List.getD_eq_getElem?_getD,List.getElem?_append_right (Nat.le_refl _)];simp only[Nat.sub_self,List.getElem?_cons_zero,Option.getD_some];unfold ndOk;rw[zwt fun j hj=>by rw[zat];exact hC.fit.lt j hj]
   simp[zch]
theorem zqx(hn:n<=128)(hch:Chooses ch n)(ht:tOk n t)(hl:(zad ch cache n t).length<=65536):zcv ⟨n,nds (zad ch cache n t)⟩=true:=by
 have:=(zh8 (cache:=cache) hn hch ht).2;unfold zcv zf7;simp only[Bool.and_eq_true,decide_eq_true_eq,zat];refine⟨⟨⟨⟨by omega,by omega⟩,by omega⟩,by omega⟩,?_⟩;have:=zqw (cache:=cache) hn hch ht;rw[zat]at this;exact this
theorem yaj(hn:n<=128)(hch:Chooses ch n)(ht:tOk n t)(s:Int->Bool):ev s ⟨n,nds (zad ch cache n t)⟩=evL s t:=by
 rw[<-zsg hn ht.rg];have hl:=(zh8 (cache:=cache) hn hch ht).2;rw[yco s _ (by simp only[zat];exact hl)]
 by_cases h0:zaa n t=[]
 ·rw[za9 h0,h0]
  simp[nds,T,zhf,evs,evNd,at',evL]
 have hC:=core hn hch ht cache;have hg:=za2 hn ht.rg
 have hs:=hC.fit.says hn hg.gc (s:=s) fun j hj=>zyi hn s hC.inv.inv j j rfl (hC.fit.lt j hj)
 cases hr:zcl (zak ch cache (zaa n t)) (zaa n t)with
 |true=>
   simp only[zft h0 hr];rw[show(nds (zak ch cache (zaa n t)).1++[(⟨3,0,zaf (zak ch cache (zaa n t)).2⟩:Nd)]).length-1=(nds (zak ch cache (zaa n t)).1).length by simp];rw[zy8,<-hs]
   simp[evNd,zaf,List.all_map,Function.comp_def]
 |false=>
   simp only[zfu h0 hr];obtain⟨k,d,hF2,hk,hd,hend⟩:=zrv hC hg h0 hr;rw[hF2]at hs;rw[zat,show(zak ch cache (zaa n t)).1.length-1=k by omega,<-hs]
   simp
end
end Cen
namespace Go.Proofs.YtnlaakmglhjjmaaGreatDoor
open Go.RowKit Cen
section
variable{ops:Array Oper}{rest:List Oper}{o:Oper}{a:Act}{w:World}{K:Act->World->Prop}{Q:Exit->Act->World->Prop}{EE:Prop}
theorem zwj(s x:Operand)(ho:o.op=.call {callee:=.builtin .append,args:=#[s,x],argTypes:=#[75,75]})
 (base:Nat)(v:Value)(ys:List Int)(hs:a.eval s=v)(hown:OwnI w base v ys)(ad:Addr)(c:Nat)(xs:List Int)(hx:a.eval x=.slice (some ad) xs.length c)(hxc:IntCells w (some ad) xs)
 (h0:0<xs.length)(h1:ys.length<=1073741824)(h2:xs.length<=1073741824)(hbase:base<=w.heap.size)
 (h:∀g cap w',OwnI w' base (.slice (some ⟨g,0,none⟩) (ys.length+xs.length) cap) (ys++xs)->w.grownBy w' v.ownBlock->(v.ownBlock=some g\/g=w.heap.size)->K (a.put o.dst (.slice (some ⟨g,0,none⟩) (ys.length+xs.length) cap)) w'):o.wp Tryz.prog a w K Q:=by
 obtain⟨ht,i,hi,hz,hsz,hby,hzs,hk⟩:=ziz;refine wp_append_lies w s x 75 ho base 3 i _ 1 8 ht hi hz hsz hby hzs hk v ys.length (ys.map (Value.int .i64)) hs (zao.2 hown) ad xs.length c (xs.map (Value.int .i64)) hx (by simp) (zir hxc) (zvo xs) h0 (by unfold maxLen;omega) (by omega) hbase w.heap.size rfl ?_;intro g cap w' r1 r2 r3 _;refine h g cap w' (zao.1 ?_) r2 r3;unfold OwnInts;rw[List.length_append,List.map_append];exact r1
theorem zdk(hgd:o.guard=none)(s x:Operand)(ho:o.op=.call {callee:=.builtin .append,args:=#[s,x],argTypes:=#[75,75]})
 (base:Nat)(v:Value)(ys:List Int)(hs:a.eval s=v)(hown:OwnI w base v ys)(ad:Addr)(c:Nat)(xs:List Int)(hx:a.eval x=.slice (some ad) xs.length c)(hxc:IntCells w (some ad) xs)
 (h0:0<xs.length)(h1:ys.length<=1073741824)(h2:xs.length<=1073741824)(hbase:base<=w.heap.size)
 (h:∀g cap w',OwnI w' base (.slice (some ⟨g,0,none⟩) (ys.length+xs.length) cap) (ys++xs)->w.grownBy w' v.ownBlock->(v.ownBlock=some g\/g=w.heap.size)->wpList Tryz.prog ops Q rest (a.put o.dst (.slice (some ⟨g,0,none⟩) (ys.length+xs.length) cap)) w'):wpList Tryz.prog ops Q (o::rest) a w:=
 wpList_plain hgd fun _ hK=>zwj s x ho base v ys hs hown ad c xs hx hxc h0 h1 h2 hbase fun g cap w' r1 r2 r3=>hK _ _ (h g cap w' r1 r2 r3)
theorem zas(hgd:o.guard=none)(s x:Operand)(ho:o.op=.call {callee:=.builtin .append,args:=#[s,x],argTypes:=#[75,75]})
 (base:Nat)(v:Value)(ys:List Int)(hs:a.eval s=v)(hown:OwnI w base v ys)(ad:Addr)(c:Nat)(xs:List Int)(hx:a.eval x=.slice (some ad) xs.length c)(hxc:IntCells w (some ad) xs)
 (h0:0<xs.length)(h1:ys.length<=1073741824)(h2:xs.length<=1073741824)(hbase:base<=w.heap.size)
 (h:∀g cap w',OwnI w' base (.slice (some ⟨g,0,none⟩) (ys.length+xs.length) cap) (ys++xs)->w.grownBy w' v.ownBlock->(v.ownBlock=some g\/g=w.heap.size)->K (a.put o.dst (.slice (some ⟨g,0,none⟩) (ys.length+xs.length) cap)) w'):if Region.wanted o (yielded ops a.tmps)=true then Oper.wp Tryz.prog o a w K Q else EE:=by
 have hw:Region.wanted o (yielded ops a.tmps)=true:=by simp[Region.wanted,hgd]
 rw[if_pos hw];exact zwj s x ho base v ys hs hown ad c xs hx hxc h0 h1 h2 hbase h
end
theorem ClsIn.mono{g:Cfg}{F F':Nat->Prop}{w:World}{a:Option Addr}{l:List Ce}{term:Cl}(h:ClsIn g F' w a l term)(hs:∀k,F k->F' k):ClsIn g F w a l term:=
 ⟨h.cc,fun q hq=>⟨fun hf=>(h.aF q hq).1 (hs _ hf),(h.aF q hq).2⟩,fun e he q hq=>⟨fun hf=>(h.eF e he q hq).1 (hs _ hf),(h.eF e he q hq).2⟩,h.len,h.xs,h.left⟩
theorem TrmIn.mono{F F':Nat->Prop}{w:World}{a:Option Addr}{term:Cl}(h:TrmIn F' w a term)(hs:∀k,F k->F' k):TrmIn F w a term:=
 ⟨h.ic,fun q hq=>⟨fun hf=>(h.aF q hq).1 (hs _ hf),(h.aF q hq).2⟩,h.len⟩
theorem OwnO.mono{F F':Nat->Prop}{w:World}{base:Nat}{v:Value}{l:List Int}(h:OwnO F' w base v l)(hs:∀k,F k->F' k):OwnO F w base v l:=⟨h.1,fun k hk hf=>h.2 k hk (hs k hf)⟩
theorem Kp.then{F:Nat->Prop}{w V V':World}(h:Kp F w V)(k:Below w.heap.size V V'):Kp F w V':=
 ⟨k.os.trans h.os,k.tape.trans h.tape,k.output.trans h.output,Nat.le_trans h.size k.size,fun i hi hf=>(k.block i hi).trans (h.block i hi hf)⟩
theorem Cmp.kept{g:Cfg}{ch:List Cl->Int}{F M:Nat->Prop}{w w':World}{p:Nat}{L:List Me}(hx:Fx g ch)(h:Cmp g ch F w p L)(hk:Kp M w w')(hM:∀k,M k->¬F k)(hB:∀k,M k->g.B<=k):Cmp g ch F w' p L:=
 ⟨h.cc.kept hk hM,h.inv,h.tab.kp hk fun k hk=>Nat.lt_of_lt_of_le hx.gb (hB k hk),Nat.le_trans h.lo hk.size,h.ord.kept0 hk fun q hq hne hf=>by have h1:=hx.ob q hq hne;have h2:=hB _ hf;omega⟩
theorem zni{g:Cfg}{ch:List Cl->Int}(hx:Fx g ch){F:Nat->Prop}{w w':World}{a:Option Addr}{l m:List Ce}{term:Cl}{x:Int}{v:Value}(hci:ClsIn g F w a l term)(hgd:gL g.n (l.map fun e=>e.xs))(hrt:RT g.n g.t (l.map fun e=>e.xs) term)
 (hl:litN g.n x)(hv:(zae (l.map fun e=>e.xs)).mem (zac x)=true)
 (hF:∀k,F k->k<w.heap.size)(ho:OwnC w' w.heap.size v m)(hc:CsIn w' w.heap.size v m)(hg:GvAt x l m)(he:(m.map fun e=>e.xs)=zah (l.map fun e=>e.xs) x):
 ∃b cap,v=.slice b m.length cap/\ClsIn g F w' b m (term++[x])/\gL g.n (m.map fun e=>e.xs)/\RT g.n g.t (m.map fun e=>e.xs) (term++[x])/\(∀q,b=some q->w.heap.size<=q.block)/\∀e∈m,∀q,e.a=some q->w.heap.size<=q.block:=by
 obtain⟨b,cap,rfl⟩:=ho.sliced;have hoff:=hrt.off hx.n hgd.gc hl hv
 have hlen:m.length<=l.length:=by
  have h1:=congrArg List.length he;rw[List.length_map]at h1;rw[h1];unfold zah;refine Nat.le_trans (zbc _) ?_;rw[List.length_map];refine Nat.le_trans (List.length_filter_le _ _) ?_;rw[List.length_map];exact Nat.le_refl _
 have hb1:∀q,b=some q->w.heap.size<=q.block/\q.block<w'.heap.size:=fun q hq=>by
  rcases ho.shape with⟨h1,h2⟩|⟨g0,cp,h1,h2,h3⟩
  ·simp only[Value.slice.injEq]at h1;rw[h1.1]at hq;simp at hq
  simp only[Value.slice.injEq]at h1;rw[h1.1]at hq;simp only[Option.some.injEq]at hq;subst hq;exact⟨h2,h3⟩
 have hb2:∀e∈m,∀q,e.a=some q->w.heap.size<=q.block/\q.block<w'.heap.size:=fun e he' q hq=>by
  obtain⟨k1,k2,_⟩:=(hc e he').2.2.2 q hq;exact⟨k1,k2⟩
 refine⟨b,cap,rfl,⟨fun i hi=>?_,fun q hq=>⟨fun hf=>by have:=hF _ hf;have:=(hb1 q hq).1;omega,(hb1 q hq).2⟩,fun e he' q hq=>⟨fun hf=>by have:=hF _ hf;have:=(hb2 e he' q hq).1;omega,(hb2 e he' q hq).2⟩,Nat.le_trans hlen hci.len,fun e he'=>?_,fun e he'=>?_⟩,?_,?_,fun q hq=>(hb1 q hq).1,fun e he' q hq=>(hb2 e he' q hq).1⟩
 ·rcases ho.shape with⟨h1,h2⟩|⟨g0,cp,h1,h2,h3⟩
  ·subst h2;simp at hi
  simp only[Value.slice.injEq]at h1;obtain⟨rfl,_,rfl⟩:=h1;refine⟨g0,0,rfl,?_,?_,(hc (gd m i) (by rw[zar hi];exact List.getElem_mem hi)).2.2.1⟩
  ·have:=ho.c0 rfl hi;simpa using this
  have:=ho.c1 rfl hi;simpa using this
 ·obtain⟨f,hf,e1,e2,e3⟩:=hg e he';obtain⟨x1,x2,x3⟩:=hci.xs f hf;rw[e3];exact⟨Nat.le_trans (List.length_filter_le _ _) x1,fun y hy=>x2 y (List.mem_filter.1 hy).1,fun h0=>x3 (List.mem_filter.1 h0).1⟩
 ·obtain⟨f,hf,e1,e2,e3⟩:=hg e he';rw[e1,e3];exact(hci.left f hf).given e2 hoff.2
 ·rw[he];exact zbh hgd.gc x
 rw[he];exact(zb0 hx.n g.t).given _ _ _ hrt hgd hl hv
structure SA(g:Cfg)(ch:List Cl->Int)(F:Nat->Prop)(p:Nat)(L:List Me)(wS:World)(b:Option Addr)(m:List Ce)(at':Option Addr)(term:Cl)(x:Int)(V:World)(oX:Option Nat):Prop where
 kp:Kp F wS V
 cmp:Cmp g ch F V p L
 cls:ClsIn g F V b m (term++[x])
 trm:TrmIn F V at' term
 X:∀q,oX=some q->OwnO F V wS.heap.size (.slice (some ⟨q,0,none⟩) 1 1) [x]
section
variable{g:Cfg}{ch:List Cl->Int}{F:Nat->Prop}{p:Nat}{L:List Me}{wS:World}{b:Option Addr}{m:List Ce}{at':Option Addr}{term:Cl}{x:Int}{V V':World}{oX:Option Nat}
theorem SA.later(h:SA g ch F p L wS b m at' term x V oX)(hb:Below V.heap.size V V'):SA g ch F p L wS b m at' term x V' oX:=
 ⟨h.kp.trans (Kp.below hb),h.cmp.later hb,h.cls.kept (Kp.below hb) fun _ h=>.inl h,h.trm.kept (Kp.below hb) fun _ h=>.inl h,fun q hq=>(h.X q hq).later hb⟩
theorem SA.allocX{q0:Nat}(h:SA g ch F p L wS b m at' term x V none)(e0:V.heap.size=q0):SA g ch F p L wS b m at' term x (V.alloc (.cells #[.int .i64 x] 3)) (some q0):=by
 subst e0
 exact
  let h1:=h.later ((Below.refl _ _).alloc (Nat.le_refl _) (.cells #[.int .i64 x] 3))
  ⟨h1.kp,h1.cmp,h1.cls,h1.trm,fun q hq=>by
    simp only[Option.some.injEq]at hq;subst hq
    exact OwnO.new x (fun k hk=>(h.cmp.cc.low hk).2) h.kp.size⟩
end
structure SB(g:Cfg)(ch:List Cl->Int)(F F1:Nat->Prop)(p:Nat)(L1:List Me)(wS:World)(b:Option Addr)(m:List Ce)(at':Option Addr)(term:Cl)(x:Int)(i:Nat)(V:World)(oX oL:Option Nat)(oT:Option (Value×Cl)):Prop where
 kp:Kp F wS V
 sub:∀k,F1 k->F k\/wS.heap.size<=k
 cmp:Cmp g ch F1 V p L1
 cls:ClsIn g (fun k=>F1 k\/∃v l,oT=some (v,l)/\v.ownBlock=some k) V b m (term++[x])
 trm:TrmIn (fun k=>F1 k\/∃v l,oT=some (v,l)/\v.ownBlock=some k) V at' term
 X:∀q,oX=some q->OwnO F1 V wS.heap.size (.slice (some ⟨q,0,none⟩) 1 1) [x]
 Lt:∀q,oL=some q->OwnO F1 V wS.heap.size (.slice (some ⟨q,0,none⟩) 1 1) [(i:Int)]
 T:∀v l,oT=some (v,l)->OwnO F1 V wS.heap.size v l/\(∀q,oX=some q->v.ownBlock≠some q)/\∀q,oL=some q->v.ownBlock≠some q
section
variable{g:Cfg}{ch:List Cl->Int}{F F1:Nat->Prop}{p:Nat}{L L1:List Me}{wS:World}{b:Option Addr}{m:List Ce}{at':Option Addr}{term:Cl}{x:Int}{i:Nat}{V V':World}{oX oL:Option Nat}{oT:Option (Value×Cl)}{st:List Nc}
theorem SA.lit(hx:Fx g ch)(h:SA g ch F p L wS b m at' term x V oX)(ha:Aft g F p st V V' F1)(hi:InvR ch (RT g.n g.t) g.cache g.n st)(i:Nat):
 ∃L1:List Me,(L1.map fun e=>e.c)=st/\SB g ch F F1 p L1 wS b m at' term x i V' oX none none:=by
 obtain⟨L1,h1,h2⟩:=h.cmp.aft hx ha hi;refine⟨L1,h1,h.kp.trans ha.2.1,fun k hk=>(ha.2.2 k hk).imp id fun h'=>Nat.le_trans h.kp.size h',h2,(h.cls.kept ha.2.1 ha.2.2).mono (F:=fun k=>F1 k\/∃v l,(none:Option (Value×Cl))=some (v,l)/\v.ownBlock=some k) ?_,(h.trm.kept ha.2.1 ha.2.2).mono (F:=fun k=>F1 k\/∃v l,(none:Option (Value×Cl))=some (v,l)/\v.ownBlock=some k) ?_,fun q hq=>(h.X q hq).aft ha,fun q hq=>by simp at hq,fun v l hv=>by simp at hv⟩
 ·rintro k(hk|⟨v,l,e,_⟩)
  ·exact hk
  simp at e
 rintro k(hk|⟨v,l,e,_⟩)
 ·exact hk
 simp at e
theorem SB.later(h:SB g ch F F1 p L1 wS b m at' term x i V oX oL oT)(hb:Below V.heap.size V V'):SB g ch F F1 p L1 wS b m at' term x i V' oX oL oT:=
 ⟨h.kp.trans (Kp.below hb),h.sub,h.cmp.later hb,h.cls.kept (Kp.below hb) fun _ h=>.inl h,h.trm.kept (Kp.below hb) fun _ h=>.inl h,fun q hq=>(h.X q hq).later hb,fun q hq=>(h.Lt q hq).later hb,fun v l hv=>⟨(h.T v l hv).1.later hb,(h.T v l hv).2⟩⟩
theorem SB.allocX{q0:Nat}(h:SB g ch F F1 p L1 wS b m at' term x i V none oL oT)(e0:V.heap.size=q0):SB g ch F F1 p L1 wS b m at' term x i (V.alloc (.cells #[.int .i64 x] 3)) (some q0) oL oT:=by
 subst e0
 exact
  let h1:=h.later ((Below.refl _ _).alloc (Nat.le_refl _) (.cells #[.int .i64 x] 3))
  ⟨h1.kp,h1.sub,h1.cmp,h1.cls,h1.trm,fun q hq=>by
    simp only[Option.some.injEq]at hq;subst hq
    exact OwnO.new x (fun k hk=>(h.cmp.cc.low hk).2) h.kp.size,h1.Lt,fun v l hv=>⟨(h1.T v l hv).1,fun q hq e=>by
     simp only[Option.some.injEq]at hq;subst hq
     have:=((h.T v l hv).1.1.blk e).2;omega,(h1.T v l hv).2.2⟩⟩
theorem SB.allocL{q0:Nat}(h:SB g ch F F1 p L1 wS b m at' term x i V oX none oT)(e0:V.heap.size=q0):SB g ch F F1 p L1 wS b m at' term x i (V.alloc (.cells #[.int .i64 (i:Int)] 3)) oX (some q0) oT:=by
 subst e0
 exact
  let h1:=h.later ((Below.refl _ _).alloc (Nat.le_refl _) (.cells #[.int .i64 (i:Int)] 3))
  ⟨h1.kp,h1.sub,h1.cmp,h1.cls,h1.trm,h1.X,fun q hq=>by
    simp only[Option.some.injEq]at hq;subst hq
    exact OwnO.new (i:Int) (fun k hk=>(h.cmp.cc.low hk).2) h.kp.size,fun v l hv=>⟨(h1.T v l hv).1,(h1.T v l hv).2.1,fun q hq e=>by
     simp only[Option.some.injEq]at hq;subst hq
     have:=((h.T v l hv).1.1.blk e).2;omega⟩⟩
theorem SB.clone{v:Value}(h:SB g ch F F1 p L1 wS b m at' term x i V oX oL none)(ho:OwnInts V' V.heap.size v term)(hb:Below V.heap.size V V'):SB g ch F F1 p L1 wS b m at' term x i V' oX oL (some (v,term)):=by
 have h1:=h.later hb;have ho':OwnI V' V.heap.size v term:=zao.1 ho
 have hlt:∀k,v.ownBlock=some k->V.heap.size<=k:=fun k hk=>(ho'.blk hk).1
 refine⟨h1.kp,h1.sub,h1.cmp,h.cls.kept (Kp.below hb) ?_,h.trm.kept (Kp.below hb) ?_,h1.X,h1.Lt,fun v' l hv=>?_⟩
 ·rintro k(hk|⟨v',l,e,hk⟩)
  ·exact .inl (.inl hk)
  simp only[Option.some.injEq,Prod.mk.injEq]at e;obtain⟨rfl,rfl⟩:=e;exact .inr (hlt k hk)
 ·rintro k(hk|⟨v',l,e,hk⟩)
  ·exact .inl (.inl hk)
  simp only[Option.some.injEq,Prod.mk.injEq]at e;obtain⟨rfl,rfl⟩:=e;exact .inr (hlt k hk)
 simp only[Option.some.injEq,Prod.mk.injEq]at hv;obtain⟨rfl,rfl⟩:=hv;refine⟨⟨ho'.lower h.kp.size,fun k hk hf=>?_⟩,fun q hq e=>?_,fun q hq e=>?_⟩
 ·have:=(h.cmp.cc.low hf).2;have:=hlt k hk;omega
 ·have:=((h.X q hq).1.blk (k:=q) rfl).2;have:=hlt q e;omega
 have:=((h.Lt q hq).1.blk (k:=q) rfl).2;have:=hlt q e;omega
theorem SB.app{v:Value}{q gg cap:Nat}(hx:Fx g ch)(h:SB g ch F F1 p L1 wS b m at' term x i V (some q) oL (some (v,term)))(hB:g.B<=wS.heap.size)(hF:∀k,F k->k<wS.heap.size)
 (ho:OwnI V' wS.heap.size (.slice (some ⟨gg,0,none⟩) (term.length+1) cap) (term++[x]))(hg:V.grownBy V' v.ownBlock)(hn:v.ownBlock=some gg\/gg=V.heap.size):
 SB g ch F F1 p L1 wS b m at' term x i V' none oL (some (.slice (some ⟨gg,0,none⟩) (term.length+1) cap,term++[x])):=by
 have hT:=h.T v term rfl
 have hk:Kp (fun k=>v.ownBlock=some k) V V':=Kp.grown hg fun k hk=>hk
 have hsz:=h.kp.size
 have hbk:∀k,v.ownBlock=some k->wS.heap.size<=k/\k<V.heap.size:=fun k hk=>hT.1.1.blk hk
 have hnF:∀k,v.ownBlock=some k->¬F1 k:=hT.1.2
 have hstep:∀k,(F1 k\/∃v' l,(some (Value.slice (some ⟨gg,0,none⟩) (term.length+1) cap,term++[x]):Option (Value×Cl))=some (v',l)/\v'.ownBlock=some k)->(F1 k\/∃v' l,(some (v,term):Option (Value×Cl))=some (v',l)/\v'.ownBlock=some k)\/V.heap.size<=k:=by
  rintro k(hk|⟨v',l,e,hk⟩)
  ·exact .inl (.inl hk)
  simp only[Option.some.injEq,Prod.mk.injEq]at e;obtain⟨rfl,rfl⟩:=e
  have:gg=k:=by simpa[Value.ownBlock]using hk
  subst this
  rcases hn with hn|hn
  ·exact .inl (.inr ⟨v,term,rfl,hn⟩)
  exact .inr (by omega)
 have hst:∀q,v.ownBlock≠some q->q<V.heap.size->∀k,(Value.slice (some ⟨gg,0,none⟩) (term.length+1) cap).ownBlock=some k->k≠q:=fun q hq hlt k hk e=>by
  have:gg=k:=by simpa[Value.ownBlock]using hk
  subst this;subst e
  rcases hn with hn|hn
  ·exact hq hn
  omega
 refine⟨h.kp.then (Kp.toBelow hk hsz fun k hk' e=>by have:=(hbk k e).1;omega),h.sub,h.cmp.kept hx hk hnF (fun k hk=>Nat.le_trans hB (hbk k hk).1),h.cls.kept (hk.mono fun k _ hk=>.inr ⟨v,term,rfl,hk⟩) hstep,h.trm.kept (hk.mono fun k _ hk=>.inr ⟨v,term,rfl,hk⟩) hstep,fun q hq=>by simp at hq,fun q' hq'=>⟨(h.Lt q' hq').1.kept hk fun k hk e=>hT.2.2 q' hq' (by rw[e];simpa[Value.ownBlock]using hk.symm),(h.Lt q' hq').2⟩,fun v' l hv=>?_⟩;simp only[Option.some.injEq,Prod.mk.injEq]at hv;obtain⟨rfl,rfl⟩:=hv;refine⟨⟨ho,fun k hk hf=>?_⟩,fun q hq=>by simp at hq,fun q' hq' e=>?_⟩
 ·have:gg=k:=by simpa[Value.ownBlock]using hk
  subst this
  rcases hn with hn|hn
  ·exact hnF _ hn hf
  have:=(h.cmp.cc.low hf).2;omega
 exact hst q' (hT.2.2 q' hq') ((h.Lt q' hq').1.blk (k:=q') rfl).2 q' e rfl
structure SC(g:Cfg)(ch:List Cl->Int)(F F2:Nat->Prop)(p:Nat)(L2:List Me)(wS:World)(i:Nat)(V:World)(oL:Option Nat)(vR:Value)(ids:List Int):Prop where
 kp:Kp F wS V
 sub:∀k,F2 k->F k\/wS.heap.size<=k
 cmp:Cmp g ch F2 V p L2
 Lt:∀q,oL=some q->OwnO F2 V wS.heap.size (.slice (some ⟨q,0,none⟩) 1 1) [(i:Int)]
 R:OwnO F2 V wS.heap.size vR ids
 ne:∀q,oL=some q->vR.ownBlock≠some q
theorem SB.fit{F2:Nat->Prop}{vR:Value}{ids:List Int}(hx:Fx g ch)(h:SB g ch F F1 p L1 wS b m at' term x i V none oL oT)(ha:Aft g F1 p st V V' F2)(hi:InvR ch (RT g.n g.t) g.cache g.n st)(hr:OwnO F2 V' V.heap.size vR ids)(hF:∀k,F k->k<wS.heap.size):
 ∃L2:List Me,(L2.map fun e=>e.c)=st/\SC g ch F F2 p L2 wS i V' oL vR ids:=by
 obtain⟨L2,h1,h2⟩:=h.cmp.aft hx ha hi;have hsz:=h.kp.size;refine⟨L2,h1,h.kp.trans' ha.2.1 h.sub,fun k hk=>(ha.2.2 k hk).elim (h.sub k) fun h'=>.inr (Nat.le_trans hsz h'),h2,fun q hq=>(h.Lt q hq).aft ha,⟨hr.1.lower hsz,hr.2⟩,fun q hq e=>?_⟩;have h3:=((h.Lt q hq).1.blk (k:=q) rfl).2;have h4:=(hr.1.blk e).1;omega
end
section
variable{g:Cfg}{ch:List Cl->Int}{F F2:Nat->Prop}{p:Nat}{L2:List Me}{wS:World}{i:Nat}{V V':World}{oL:Option Nat}{vR:Value}{ids:List Int}
theorem SC.later(h:SC g ch F F2 p L2 wS i V oL vR ids)(hb:Below V.heap.size V V'):SC g ch F F2 p L2 wS i V' oL vR ids:=
 ⟨h.kp.trans (Kp.below hb),h.sub,h.cmp.later hb,fun q hq=>(h.Lt q hq).later hb,h.R.later hb,h.ne⟩
theorem SC.allocL{q0:Nat}(h:SC g ch F F2 p L2 wS i V none vR ids)(e0:V.heap.size=q0):SC g ch F F2 p L2 wS i (V.alloc (.cells #[.int .i64 (i:Int)] 3)) (some q0) vR ids:=by
 subst e0
 exact
  let h1:=h.later ((Below.refl _ _).alloc (Nat.le_refl _) (.cells #[.int .i64 (i:Int)] 3))
  ⟨h1.kp,h1.sub,h1.cmp,fun q hq=>by
    simp only[Option.some.injEq]at hq;subst hq
    exact OwnO.new (i:Int) (fun k hk=>(h.cmp.cc.low hk).2) h.kp.size,h1.R,fun q hq e=>by
     simp only[Option.some.injEq]at hq;subst hq
     have:=(h.R.1.blk e).2;omega⟩
structure SD(g:Cfg)(ch:List Cl->Int)(F F2:Nat->Prop)(p:Nat)(L2:List Me)(wS:World)(V:World)(v:Value)(l:List Int):Prop where
 kp:Kp F wS V
 sub:∀k,F2 k->F k\/wS.heap.size<=k
 cmp:Cmp g ch F2 V p L2
 R:OwnO F2 V wS.heap.size v l
theorem SC.app{q gg cap n:Nat}(hx:Fx g ch)(h:SC g ch F F2 p L2 wS i V (some q) vR ids)(hB:g.B<=wS.heap.size)
 (ho:OwnI V' wS.heap.size (.slice (some ⟨gg,0,none⟩) n cap) ((i:Int)::ids))(hg:V.grownBy V' (some q))(hn:some q=some gg\/gg=V.heap.size):SD g ch F F2 p L2 wS V' (.slice (some ⟨gg,0,none⟩) n cap) ((i:Int)::ids):=by
 have hq:=h.Lt q rfl;have hqb:=hq.1.blk (k:=q) rfl;have hqF:=hq.2 q rfl
 have hk:Kp (fun k=>k=q) V V':=Kp.grown hg fun k hk=>by simpa using hk.symm
 refine⟨h.kp.then (Kp.toBelow hk h.kp.size fun k hk' e=>by omega),h.sub,h.cmp.kept hx hk (fun k e=>by rw[e];exact hqF) (fun k e=>by omega),⟨ho,fun k hk hf=>?_⟩⟩
 have:gg=k:=by simpa[Value.ownBlock]using hk
 subst this
 rcases hn with hn|hn
 ·simp only[Option.some.injEq]at hn;subst hn;exact hqF hf
 have:=(h.cmp.cc.low hf).2;omega
end
end Go.Proofs.YtnlaakmglhjjmaaGreatDoor
