/- Parts of the proofs of laws. Texts: CpR, CpT, CpJ, CqA. -/
import Derived.Test.YtnlaakmglhjjmaaGreatDoorYC17
set_option maxHeartbeats 8000000
set_option maxRecDepth 100000
set_option linter.all false
namespace Go.Proofs.YtnlaakmglhjjmaaGreatDoor
open Go.RowKit Cen
structure ClsIn(g:Cfg)(F:Nat->Prop)(w:World)(a:Option Addr)(l:List Ce)(term:Cl):Prop where
 cc:CcCells w a l
 aF:∀q,a=some q->¬F q.block/\q.block<w.heap.size
 eF:∀e∈l,∀q,e.a=some q->¬F q.block/\q.block<w.heap.size
 len:l.length<=4096
 xs:∀e∈l,e.xs.length<=256/\litB e.xs/\0∉e.xs
 left:∀e∈l,Left1 g.n g.t term e.i e.xs
structure TrmIn(F:Nat->Prop)(w:World)(a:Option Addr)(term:Cl):Prop where
 ic:IntCells w a term
 aF:∀q,a=some q->¬F q.block/\q.block<w.heap.size
 len:term.length<=128
theorem ClsIn.kept{g:Cfg}{F F':Nat->Prop}{w w':World}{a:Option Addr}{l:List Ce}{term:Cl}(h:ClsIn g F w a l term)(hk:Kp F w w')(hs:∀k,F' k->F k\/w.heap.size<=k):ClsIn g F' w' a l term:=
 ⟨fun i hi=>by
   obtain⟨b,off,e,c0,c1,c2⟩:=h.cc i hi;have hb:=(h.aF _ e).1
   exact⟨b,off,e,hk.cell c0 hb,hk.cell c1 hb,c2.kept hk fun p hp=>(h.eF _ (by rw[zar hi];exact List.getElem_mem hi) p hp).1⟩,
  fun q hq=>⟨fun hf=>(hs _ hf).elim (h.aF q hq).1 fun h1=>by have:=(h.aF q hq).2;omega,Nat.lt_of_lt_of_le (h.aF q hq).2 hk.size⟩,
  fun e he q hq=>⟨fun hf=>(hs _ hf).elim (h.eF e he q hq).1 fun h1=>by have:=(h.eF e he q hq).2;omega,Nat.lt_of_lt_of_le (h.eF e he q hq).2 hk.size⟩,h.len,h.xs,h.left⟩
theorem TrmIn.kept{F F':Nat->Prop}{w w':World}{a:Option Addr}{term:Cl}(h:TrmIn F w a term)(hk:Kp F w w')(hs:∀k,F' k->F k\/w.heap.size<=k):TrmIn F' w' a term:=
 ⟨h.ic.kept hk fun p hp=>(h.aF p hp).1,
  fun q hq=>⟨fun hf=>(hs _ hf).elim (h.aF q hq).1 fun h1=>by have:=(h.aF q hq).2;omega,Nat.lt_of_lt_of_le (h.aF q hq).2 hk.size⟩,h.len⟩
def zqn(g:Cfg)(F:Nat->Prop)(p:Nat)(st':List Nc)(nd:Nd)(w:World)(r:Ending)(w':World):Prop:=
 ∃v F',r=.returned (.agg #[.int .i64 nd.kind,.int .i64 nd.lit,v])/\Aft g F p st' w w' F'/\OwnI w' w.heap.size v nd.ins/\∀k,v.ownBlock=some k->¬F' k
theorem zle(g:Cfg)(F:Nat->Prop)(p:Nat)(L:List Me)(a:Option Addr)(cap:Nat)(l:List Ce)(at':Option Addr)(ct:Nat)(term:Cl)(mf:FuncId)(cs:Array Value)(mk:List Nc->List Nc×Nd)(w:World)
 (h:CC g F w p L)(hc:ClsIn g F w a l term)(hne:l≠[])(ht:TrmIn F w at' term)(htab:Tab w)(hB:g.B<=w.heap.size)(hcf:za8 mf)
 (hmk:(g.cache=true->(L.map fun e=>e.c).findIdx? (zbt (l.map fun e=>e.xs))=none)->∀W,Below w.heap.size w W->Calls Tryz.prog mf cs W (zqn g F p (mk (L.map fun e=>e.c)).1 (mk (L.map fun e=>e.c)).2 W))
 (hk2:(mk (L.map fun e=>e.c)).2.kind≠2)(hnt:g.cache=true->(L.map fun e=>e.c).findIdx? (zbt (l.map fun e=>e.xs))=none->(mk (L.map fun e=>e.c)).1.findIdx? (zbt (l.map fun e=>e.xs))=none)
 (hl:(zan g.cache (L.map fun e=>e.c) (l.map fun e=>e.xs) term mk).1.length<=65536):
 Calls Tryz.prog 98 #[.pointer (some ⟨p,0,none⟩),.slice a l.length cap,.slice at' term.length ct,.func (.func mf) #[] cs] w
  fun r w'=>r=.returned (.int .i64 (zan g.cache (L.map fun e=>e.c) (l.map fun e=>e.xs) term mk).2)/\∃F',Aft g F p (zan g.cache (L.map fun e=>e.c) (l.map fun e=>e.xs) term mk).1 w w' F':=by
 have HKEY:=lh (zkb a cap l w hc.len hne hc.cc (fun e he=>⟨(hc.xs e he).1,(hc.xs e he).2.1⟩) htab)
 have hkl:(keyC (l.map fun e=>e.xs)).length<=22024192:=by
  have h1:=zg6 l fun e he=>⟨(hc.xs e he).1,(hc.xs e he).2.1⟩
  have h2:=hc.len
  have:keyC (l.map fun e=>e.xs)=l.flatMap fun e=>zcc e.xs:=by simp[keyC,List.flatMap_map]
  rw[this];omega
 have HKF:Hid (keyOf Tryz.prog 9 (.string ⟨(keyC (l.map fun e=>e.xs)).toArray⟩)=some (.string (keyC (l.map fun e=>e.xs)))):=by
  have:=Go.WideMaps.keyOf_string_mk (P:=Tryz.prog) Tryz.underlying9 (s:=⟨(keyC (l.map fun e=>e.xs)).toArray⟩) (by show(keyC (l.map fun e=>e.xs)).toArray.size<=maxLen;unfold maxLen;simp;omega)
  show keyOf _ _ _=_
  simpa using this
 have h0:∀c∈(l.map fun e=>e.xs),0∉c:=fun c hc'=>by
  obtain⟨e,he,rfl⟩:=List.mem_map.1 hc';exact(hc.xs e he).2.2
 have HCLO:Hid (ClOf g.n g.t (l.map fun e=>e.xs) term (zc4 (l.map fun e=>e.i))):=⟨l.map fun e=>(e.i,e.xs),by simp[Function.comp_def],by simp[Function.comp_def],fun e he=>by
  obtain⟨e',he',rfl⟩:=List.mem_map.1 he
  exact hc.left e' he'⟩
 obtain⟨m,d,hm,hcs,hdok⟩:=h
 have HCC:Hid (CC g F w p L):=⟨m,d,hm,hcs,hdok⟩
 obtain⟨lb,db,nv,cv,hAt,hF⟩:=hcs;have HAT:=lh hAt;have HDOK:=lh hdok;have HC:=lh hc;have HT:=lh ht;have HMK:=lh hmk;have HH0:=lh h0;have HNT:=lh hnt;have HL:=lh hl;have hle:=hc.len;generalize hst:(L.map fun e=>e.c)=st at*;generalize hxs:(l.map fun e=>e.xs)=xs at*;have HST:=lh hst;have hcf':∀(args:Array Value)(w:World),(callFunc mf args).run Tryz.prog w=.ok (.enter mf args) w:=hcf
 have hcase:(∃i:Nat,d (.string (keyC xs))=some (.int .i64 (i:Int))/\g.cache=true/\zan g.cache st xs term mk=(st,i))\/
  (∃b,(d (.string (keyC xs))).isSome=b/\(b=true->g.cache=false)/\zan g.cache st xs term mk=((mk st).1++[⟨(mk st).2,some (xs,term)⟩],(mk st).1.length)/\(g.cache=true->st.findIdx? (zbt xs)=none)):=by
  cases hca:g.cache with
  |true=>
    have h1:=hdok.2 hca xs h0
    cases hfi:st.findIdx? (zbt xs)with
    |some j=>
      rw[hfi]at h1;exact .inl ⟨j,h1,rfl,by unfold zan;rw[if_pos rfl,hfi]⟩
    |none=>
      rw[hfi]at h1;exact .inr ⟨false,by rw[h1];rfl,fun h=>by simp at h,by unfold zan;rw[if_pos rfl,hfi],fun _=>rfl⟩
  |false=>exact .inr ⟨_,rfl,fun _=>rfl,by unfold zan;rw[if_neg (by simp)],fun h=>by simp at h⟩
 rcases hcase with⟨i,hdk,hca,hP⟩|⟨b,hb,hbc,hP,hfn⟩
 ·have HDK:=lh hdk;have HP:=lh hP;clear hdk hP hst hxs hkl hc h0 ht hmk hnt hl hAt hdok;go_enter Tryz.func98,Tryz.ntmps98;go_wp2_with fail;refine HKEY.o.mono ?_;rintro e w1⟨rfl,hb1⟩;have hblk:=HAT.o.blk.later hb1;have k3:w1.cell? ⟨p,3,none⟩=some (.bool g.cache):=hblk.cell 3;have k7:w1.cell? ⟨p,7,none⟩=some (.map (some db)):=hblk.cell 7;rw[hca]at k3;have HB1:=lh hb1;have HMP:=lh (HAT.o.dm.later hb1);clear hblk hb1;go_wp2_with(at_lookup;refine ze4 rfl _ _ rfl zjc Tryz.underlying126 Tryz.underlying3 zgt rfl HMP.o _ _ rfl HKF.o ?_;rw[HDK.o]);go_ret;rw[HP.o];exact⟨rfl,F,by rw[<-HST.o];exact Aft.refl HCC.o HB1.o⟩
 have HP:=lh hP;have HFN:=lh hfn;clear hP hfn hst hxs hkl hc h0 ht hmk hnt hl hAt hdok;have HBS:=lh hb;go_enter Tryz.func98,Tryz.ntmps98;go_wp2_with fail;refine HKEY.o.mono ?_;rintro e w1⟨rfl,hb1⟩;have hblk:=HAT.o.blk.later hb1;have k3:w1.cell? ⟨p,3,none⟩=some (.bool g.cache):=hblk.cell 3;have k7:w1.cell? ⟨p,7,none⟩=some (.map (some db)):=hblk.cell 7;have HB1:=lh hb1;have HMP:=lh (HAT.o.dm.later hb1);clear hblk hb1 hb
 cases b
 case' true=>rw[hbc rfl]at k3
 all_goals
  clear hbc;go_wp2_with(at_lookup;refine ze4 rfl _ _ rfl zjc Tryz.underlying126 Tryz.underlying3 zgt rfl HMP.o _ _ rfl HKF.o ?_;rw[HBS.o]);refine(HMK.o HFN.o _ HB1.o).mono ?_;rintro e w2⟨v,F',rfl,⟨⟨L',hL',m',d',hm',hcs',hdok'⟩,hk2',hs2⟩,hv,hvF⟩;have hcl:=(HC.o.kept (Kp.below HB1.o) (fun k h=>.inl h)).kept hk2' hs2;have htr:=(HT.o.kept (Kp.below HB1.o) (fun k h=>.inl h)).kept hk2' hs2;have HCM:=lh (znh a cap l at' ct term w2 (by omega) (by have:=htr.len;omega) hcl.cc htr.ic);have HK2:=lh hk2';have HS2:=lh hs2;have HV:=lh hv;have HVF:=lh hvF;have HLE:=lh hL'
  have HCS:=lh hcs';have HDK2:=lh hdok';have HM':=lh hm';clear hcl htr hk2' hs2 hv hvF hL' hcs' hdok' hm';go_wp2_with fail;refine HCM.o.mono ?_;rintro e w3⟨vt,va,rfl,hvt,hva,hb3⟩;have hBw:g.B<=w2.heap.size:=Nat.le_trans hB (Nat.le_trans HB1.o.size HK2.o.size)
  have hFlt:∀k,F' k->k<w2.heap.size:=fun k hk=>(HCS.o.low hk).2
  have HME:Hid (MeAt g F' w3 ⟨⟨(mk st).2,some (xs,term)⟩,v,vt,va,term,zc4 (l.map fun e=>e.i)⟩):=
   ⟨(HV.o.later hb3).lower (Nat.le_trans hB HB1.o.size),HVF.o,hvt.lower hBw,fun k hk hf=>by have h1:=(hvt.blk hk).1;have h2:=hFlt k hf;omega,hva.lower hBw,fun k hk hf=>by have h1:=(hva.blk hk).1;have h2:=hFlt k hf;omega,rfl,HCLO.o⟩
  have hll:L'.length<65536:=by
   have h1:=HL.o;rw[HP.o]at h1;have h2:=congrArg List.length HLE.o;simp at h1 h2;omega
  have HADD:=lh (zim g F' p L' m' _ d' ⟨⟨(mk st).2,some (xs,term)⟩,v,vt,va,term,zc4 (l.map fun e=>e.i)⟩ w3 (HCS.o.later hb3) HME.o hll (Nat.le_trans hBw hb3.size));have HB3:=lh hb3;have HLL:=lh hll
  have HVB:Hid (∀k,(v.ownBlock=some k\/vt.ownBlock=some k\/va.ownBlock=some k)->w.heap.size<=k):=by
   show∀k,_
   intro k hk;have h1:=HB1.o.size;have h2:=HK2.o.size
   rcases hk with hk|hk|hk
   ·have:=(HV.o.blk hk).1;omega
   ·have:=(hvt.blk hk).1;omega
   have:=(hva.blk hk).1;omega
  clear hvt hva hb3 hBw hFlt hll;go_wp2_with fail;refine HADD.o.mono ?_;rintro e w4⟨rfl,F'',⟨lb',db',nv',cv',hAt',hF'⟩,hk4,hs4⟩;have q7:w4.cell? ⟨p,7,none⟩=some (.map (some db')):=hAt'.blk.cell 7;have HAT':=lh hAt';have HK4:=lh hk4;have HS4:=lh hs4;have HMQ:=lh hAt'.dm;have HPL:Hid (plainElem (H:=Unit) Tryz.prog 3 (.int .i64 (L'.length:Int))=some (.lit (.int .i64 (L'.length:Int)),[])):=plainElem_int Tryz.underlying3 (WalkArith.wf_i64 (by have:=HLL.o;omega))
  have HNB:Hid (m'<=1073741824):=by show _<=_;have h1:=HM'.out;have h2:=HLL.o;omega
  clear hAt' hk4 hs4;go_wp2_with(at_mapUpdate;refine zor rfl _ _ _ rfl zjc Tryz.underlying126 rfl HMQ.o HNB.o (.string ⟨(keyC xs).toArray⟩) (.int .i64 (L'.length:Int)) (.string (keyC xs)) (.int .i64 (L'.length:Int)) rfl rfl HKF.o trivial HPL.o ?_);intro w5 hm5 hg5;obtain⟨z1,z2⟩:=HAT'.out.dones hm5 hg5;have Z1:=lh z1;have Z2:=lh z2;clear hm5 hg5 z1 z2;go_wp2;go_ret;rw[HP.o]
  have hlen:(mk st).1.length=L'.length:=by rw[<-HLE.o];simp
  refine⟨by rw[hlen];rfl,F'',?_⟩
  have hsF:∀k,F' k->F k\/w.heap.size<=k:=fun k hk=>(HS2.o k hk).imp id fun h=>Nat.le_trans HB1.o.size h
  have hk03:Kp F w w3:=((Kp.below HB1.o).trans HK2.o).trans (Kp.below HB3.o)
  have hs04:∀k,F'' k->F k\/w.heap.size<=k:=fun k hk=>(HS4.o k hk).elim (hsF k) fun h=>.inr (h.elim (fun h=>Nat.le_trans hk03.size h) fun⟨y,hy,h⟩=>by
   simp only[List.mem_singleton]at hy;subst hy;exact HVB.o k h)
  have hk05:Kp F w w5:=(hk03.trans' HK4.o hsF).trans' (Z2.o.mono fun k _ hk=>(hF' k).2 (.inl hk)) hs04;have hd:=HDK2.o;rw[HLE.o]at hd
  have hput:=yar (c:=(⟨(mk st).2,some (xs,term)⟩:Nc)) (l:=xs) (term:=term) hd rfl HH0.o fun hc=>HNT.o hc (HFN.o hc)
  rw[hlen]at hput;refine⟨⟨L'++[⟨⟨(mk st).2,some (xs,term)⟩,v,vt,va,term,zc4 (l.map fun e=>e.i)⟩],by rw[List.map_append,HLE.o];rfl,m'+1,_,by have:=HM'.out;simp;omega,⟨lb',db',nv',cv',?_,hF'⟩,by rw[List.map_append,HLE.o];exact hput⟩,hk05,hs04⟩
  have e:lmap ((L'++[(⟨⟨(mk st).2,some (xs,term)⟩,v,vt,va,term,zc4 (l.map fun e=>e.i)⟩:Me)]).map fun(e:Me)=>e.c)=lmap (L'.map fun e=>e.c):=by
   rw[List.map_append];exact zn5 hk2
  rw[e];exact Z1.o
end Go.Proofs.YtnlaakmglhjjmaaGreatDoor
namespace Cen
def FB(v:Nat):Nat:=2^(v+2)-3
theorem zmf(v:Nat):4<=2^(v+2):=by
 have:2^2<=2^(v+2):=Nat.pow_le_pow_right (by omega) (by omega)
 simpa using this
theorem zlv{a b:Nat}(h:a<=b):FB a<=FB b:=by
 unfold FB;have:2^(a+2)<=2^(b+2):=Nat.pow_le_pow_right (by omega) (by omega);omega
theorem zzy{c:Nat}:2*(FB c+1)+1=FB (c+1):=by
 unfold FB;have:=zmf c
 have e:2^(c+1+2)=2^(c+2)*2:=by rw[<-Nat.pow_succ]
 rw[e];generalize 2^(c+2)=x at*;omega
theorem yb4{a b:Nat}(ha:1<=a)(hb:1<=b):FB a+FB b<=FB (a+b):=by
 unfold FB
 obtain⟨a,rfl⟩:∃k,a=k+1:=⟨a-1,by omega⟩
 have h1:=zmf (a+1);have h2:=zmf b
 have e:2^(a+1+b+2)=2^(a+1)*2^(b+2):=by rw[<-Nat.pow_add];congr 1
 have e2:2^(a+1+2)=2^(a+1)*4:=by rw[Nat.pow_add]
 have h3:2<=2^(a+1):=by rw[Nat.pow_succ];have:1<=2^a:=Nat.one_le_two_pow;omega
 have h4:8<=2^(b+2):=by
  have:2^3<=2^(b+2):=Nat.pow_le_pow_right (by omega) (by omega)
  simpa using this
 rw[e,e2];generalize 2^(a+1)=x at*;generalize 2^(b+2)=y at*
 obtain⟨p,rfl⟩:∃p,x=p+2:=⟨x-2,by omega⟩
 obtain⟨q,rfl⟩:∃q,y=q+8:=⟨y-8,by omega⟩
 have:(p+2)*(q+8)=p*q+8*p+2*q+16:=by
  rw[Nat.add_mul,Nat.mul_add,Nat.mul_add,Nat.mul_comm p 8];omega
 rw[this];have:0<=p*q:=Nat.zero_le _;omega
theorem zy5:∀cs:List Nat,(∀c∈cs,1<=c)->(cs.map FB).sum<=FB cs.sum
 |[],_=>by simp
 |[c],_=>by simp
 |c::d::cs,h=>by
   have ih:=zy5 (d::cs) fun x hx=>h x (by simp[hx])
   have h1:=h c (by simp)
   have h2:1<=(d::cs).sum:=by have:=h d (by simp);simp;omega
   rw[List.map_cons,List.sum_cons,List.sum_cons];exact Nat.le_trans (Nat.add_le_add_left ih _) (yb4 h1 h2)
theorem zkw{l:List Nat}:∀(ps:List (Nat->Bool))(q:Nat->Bool),(ps.Pairwise fun f g=>∀j,¬(f j=true/\g j=true))->(∀f∈ps,∀j,f j=true->q j=true)->(ps.map fun f=>l.countP f).sum<=l.countP q
 |[],_,_,_=>by simp
 |f::ps,q,hd,hs=>by
   rw[List.pairwise_cons]at hd
   have e:l.countP q=l.countP f+l.countP (fun j=>q j&&!f j):=by
    rw[<-ziy (fun j=>by rintro⟨a,b⟩;rw[a]at b;simp at b)]
    congr 1;funext j
    cases hf:f j with
    |true=>simp[hs f (by simp) j hf]
    |false=>simp
   have ih:=zkw (l:=l) ps (fun j=>q j&&!f j) hd.2 fun g hg j hj=>by
    rw[hs g (by simp[hg]) j hj]
    cases hf:f j with
    |false=>rfl
    |true=>exact absurd ⟨hf,hj⟩ (hd.1 g hg j)
   rw[List.map_cons,List.sum_cons,e];omega
theorem zs5(l:List Cl):((zaj l).map fun p=>card (zae p)).sum<=card (zae l):=by
 have h:=zkw (l:=List.range 128) ((zaj l).map fun p=>fun(j:Nat)=>(zae p).mem ((j:Int)+1)) (fun(j:Nat)=>(zae l).mem ((j:Int)+1)) (by
  rw[List.pairwise_map]
  exact(zm3 l).imp fun h j=>h _) (fun f hf j hj=>by
  obtain⟨p,hp,rfl⟩:=List.mem_map.1 hf
  exact ze9 hp hj)
 rw[List.map_map]at h;exact h
theorem zgl{l p:List Cl}(hp:p∈zaj l):card (zae p)<=card (zae l):=zip fun _ h=>ze9 hp h
theorem zqq{n:Nat}(hn:n<=128){l:List Cl}(hg:gL n l)(hne:l≠[])(h2:∀c∈l,2<=c.length):1<=card (zae l):=by
 match l,hne with
 |c::l,_=>
   have hl:=h2 c (by simp)
   match c,hl with
   |x::c,_=>
     have hx:=(hg.gc (x::c) (by simp)).lv hn (x:=x) (by simp);have hm:=zge (l:=(x::c)::l) (c:=x::c) (by simp) (x:=x) (by simp) hx;have hr:=zg8 hm;have:=zo4 (s:=zae ((x::c)::l)) (t:=St.zero) (fun v h=>by rw[St.mem_zero]at h;simp at h) hm (St.mem_zero _) hr.1 hr.2;omega
section
variable{ch:List Cl->Int}{R:List Cl->Cl->Prop}{cache:Bool}{n:Nat}
def zoy(ch:List Cl->Int)(R:List Cl->Cl->Prop)(cache:Bool)(n:Nat)(f:Nat)(fit:List Nc->List Cl->Cl->List Nc×List Nat):Prop:=
 ∀st l term,InvR ch R cache n st->gL n l->R l term->card (zae l)<f->
  ∃r,(fit st l term).1=st++r/\InvR ch R cache n (st++r)/\Fit (st++r) l (fit st l term).2/\r.countP zbk<=FB (card (zae l))/\Under st r l
theorem ze8(hn:n<=128)(hC:Closed R n){f:Nat}{fit:List Nc->List Cl->Cl->List Nc×List Nat}(hf:zoy ch R cache n f fit){st:List Nc}{l:List Cl}{term:Cl}{x:Int}
 (h:InvR ch R cache n st)(hg:gL n l)(hR:R l term)(hx:litN n x)(hv:(zae l).mem (zac x)=true)(hc:card (zae l)<=f):
 ∃r,(zc2 fit st l term x).1=st++r/\InvR ch R cache n (st++r)/\Side (st++r) l x (zc2 fit st l term x).2/\(zc2 fit st l term x).2<(st++r).length/\r.countP zbk<=FB (card (zae l)-1)+1/\Under st r (zah l x):=by
 have hx0:=(hx.ok hn).1;have hrg:=zg8 hv
 have hlt:card (zae (zah l x))<card (zae l):=zo4 (fun v hv=>(za1 hx0 hv).1) hv (by
  cases e:(zae (zah l x)).mem (zac x)with
  |false=>rfl
  |true=>exact absurd rfl (za1 hx0 e).2) hrg.1 hrg.2
 obtain⟨r,h1,h2,h3,h4,h5⟩:=zgb h hx;unfold zc2
 by_cases hz:zah l x=[]
 ·rw[if_pos hz];exact⟨r,h1,h2,.inl ⟨hz,h3⟩,h3.lt,by rw[h4];omega,h5 _⟩
 rw[if_neg hz];obtain⟨q,k1,k2,k3,k4,k5⟩:=hf (litF st x).1 (zah l x) (term++[x]) (by rw[h1];exact h2) (zbh hg.gc x) (hC.given _ _ _ hR hg hx hv) (by omega);generalize fit (litF st x).1 (zah l x) (term++[x])=F at*;rw[h1]at k1 k2 k3 k5
 have e:F.1++[(⟨⟨3,0,((litF st x).2:Int)::F.2.map fun(i:Nat)=>(i:Int)⟩,none⟩:Nc)]=st++(r++q++[⟨⟨3,0,zaf ((litF st x).2::F.2)⟩,none⟩]):=by rw[k1];simp[zaf]
 have e2:F.1.length=(st++(r++q)).length:=by rw[k1,List.append_assoc]
 have e3:st++(r++q++[(⟨⟨3,0,zaf ((litF st x).2::F.2)⟩,none⟩:Nc)])=(st++(r++q))++[⟨⟨3,0,zaf ((litF st x).2::F.2)⟩,none⟩]:=by simp
 rw[List.append_assoc]at k2 k3
 have hl2:isLit (st++(r++q)) (litF st x).2 x:=by rw[<-List.append_assoc];exact h3.more
 refine⟨r++q++[⟨⟨3,0,zaf ((litF st x).2::F.2)⟩,none⟩],e,?_,?_,?_,?_,?_⟩
 ·rw[e3];exact k2.snoc (.and hl2.lt k3.lt hg hl2 hz k3) (fun l t e=>by simp at e) (fun y e=>by simp at e) (fun _ l t e=>by simp at e)
 ·rw[e3];refine .inr ⟨hz,⟨⟨3,0,zaf ((litF st x).2::F.2)⟩,none⟩,(litF st x).2,F.2,by rw[e2];simp,rfl,rfl,hl2.more,k3.more,by rw[e2];exact hl2.lt,by rw[e2];exact k3.lt⟩
 ·rw[e3,e2];simp
 ·rw[List.countP_append,List.countP_append,h4];have:FB (card (zae (zah l x)))<=FB (card (zae l)-1):=zlv (by omega);have:List.countP zbk [(⟨⟨3,0,zaf ((litF st x).2::F.2)⟩,none⟩:Nc)]<=1:=List.countP_le_length;omega
 exact((h5 _).app k5).app (Under.one fun l' t e=>by simp at e)
theorem zgg{x:Int}(h:litN n x):litN n (-x):=⟨by have:=h.1;omega,by have:=h.2;omega,by have:=h.2;omega⟩
theorem zhn(hn:n<=128)(hC:Closed R n)(hch:Chooses ch n){f:Nat}{fit:List Nc->List Cl->Cl->List Nc×List Nat}(hf:zoy ch R cache n f fit){st:List Nc}{l:List Cl}{term:Cl}
 (h:InvR ch R cache n st)(hg:gL n l)(hR:R l term)(hne:l≠[])(h2:∀c∈l,2<=c.length)(hc:card (zae l)<=f):
 ∃r,(zav fit ch st l term).1=st++r/\InvR ch R cache n (st++r)/\r.countP zbk+1<=FB (card (zae l))/\Under st r l/\(∀i,st.length<=i->¬tagged (st++r) i l)/\
  Form ch n (st++r) (st++r).length ⟨(zav fit ch st l term).2,some (l,term)⟩/\(zav fit ch st l term).2.kind=4:=by
 obtain⟨c1,c2,c3⟩:=hch.ch l hg hne h2
 have hx:litN n (ch l):=⟨by omega,by omega,c2⟩
 have hlv:zac (ch l)=ch l:=by rw[zam (by omega) (by omega) (by omega),if_neg (by omega)]
 have hx0:=(hx.ok hn).1;have hnx0:=((zgg hx).ok hn).1;obtain⟨r,a1,a2,a3,a4,a5,a6⟩:=ze8 hn hC hf h hg hR (zgg hx) (by rw[zbw,hlv];exact c3) hc;unfold zav;generalize zc2 fit st l term (-ch l)=A at*
 have a2':InvR ch R cache n A.1:=by rw[a1];exact a2
 obtain⟨q,b1,b2,b3,b4,b5,b6⟩:=ze8 hn hC hf a2' hg hR hx (by rw[hlv];exact c3) hc;generalize zc2 fit A.1 l term (ch l)=B at*;rw[a1,List.append_assoc]at b1 b2 b3 b4;rw[a1]at b6
 have hu1:=a6.mono fun v hv=>(za1 hnx0 hv).1
 have hu2:=b6.mono fun v hv=>(za1 hx0 hv).1
 refine⟨r++q,b1,b2,?_,hu1.app hu2,fun i hi ht=>?_,?_,rfl⟩
 ·rw[List.countP_append];have hp:=zqq hn hg hne h2
  have:FB (card (zae l))=2*(FB (card (zae l)-1)+1)+1:=by rw[zzy];congr 1;omega
  omega
 ·rw[<-List.append_assoc]at ht
  rcases Nat.lt_or_ge i (st++r).length with hj|hj
  ·obtain⟨c,t,p,s⟩:=ht;rw[List.getElem?_append_left hj]at p;have:=za1 hnx0 (a6 i l hi ⟨c,t,p,s⟩ (ch l) c3);rw[zbw,hlv]at this;exact this.2 rfl
  have:=za1 hx0 (b6 i l hj ht (ch l) c3);rw[hlv]at this;exact this.2 rfl
 refine .dec hg hne h2 c1 c2 c3 ?_ b4 ?_ b3
 ·rw[<-List.append_assoc,List.length_append];omega
 rw[<-List.append_assoc];exact a3.more
theorem zrz{st:List Nc}(h:Inv ch n st){l:List Cl}(hne:l≠[])(h2:∀c∈l,2<=c.length)(i:Nat)(c:Nc)(t:Cl)(hc:st[i]?=some c)(ht:c.tag=some (l,t)):c.nd.kind=4:=by
 have hf:=h i c hc
 cases hf with
 |lit a b=>rw[b]at ht;simp at ht
 |bad a=>simp at ht;have:=h2 [] (by rw[<-ht.1];simp);simp at this
 |dec=>rfl
 |and=>simp at ht
theorem zwa{st:List Nc}(h:Inv ch n st){l:List Cl}(i:Nat)(c:Nc)(t:Cl)(hc:st[i]?=some c)(ht:c.tag=some ([]::l,t)):c.nd=⟨0,0,[]⟩:=by
 have hf:=h i c hc
 cases hf with
 |lit a b=>rw[b]at ht;simp at ht
 |bad a=>rfl
 |dec g _ g2=>simp at ht;have:=g2 [] (by rw[ht.1];simp);simp at this
 |and=>simp at ht
theorem zjs(f:Nat)(dec:List Nc->List Cl->List Nc×Nd)(term:Cl)
 (hd:∀st p,InvR ch R cache n st->gL n p->R p term->p≠[]->(∀c∈p,2<=c.length)->card (zae p)<=f->
   ∃r,(dec st p).1=st++r/\InvR ch R cache n (st++r)/\r.countP zbk+1<=FB (card (zae p))/\Under st r p/\(∀i,st.length<=i->¬tagged (st++r) i p)/\Form ch n (st++r) (st++r).length ⟨(dec st p).2,some (p,term)⟩/\(dec st p).2.kind=4):
 ∀(ps:List (List Cl))(acc:List Nc×List Nat),InvR ch R cache n acc.1->(∀p∈ps,gL n p/\R p term/\p≠[]/\(∀c∈p,2<=c.length)/\card (zae p)<=f)->
 ∃r i',(za7 cache dec term ps acc).1=acc.1++r/\InvR ch R cache n (acc.1++r)/\(za7 cache dec term ps acc).2=acc.2++i'/\i'.length=ps.length/\
  (∀k,k<i'.length->tagged (acc.1++r) (i'.getD k 0) (ps.getD k [])/\∃c,(acc.1++r)[i'.getD k 0]?=some c/\c.nd.kind=4)/\r.countP zbk<=(ps.map fun p=>FB (card (zae p))).sum/\
  (∀m,(∀p∈ps,∀v,(zae p).mem v=true->(zae m).mem v=true)->Under acc.1 r m)
 |[],acc,h,_=>⟨[],[],by simp[za7],by simpa using h,by simp[za7],rfl,fun k hk=>by simp at hk,by simp,fun m _=>Under.nil _ _⟩
 |p::ps,acc,h,hp=>by
   obtain⟨g1,g2,g3,g4,g5⟩:=hp p (by simp);obtain⟨r,d1,d2,d3,d4,d5,d6,d7⟩:=hd acc.1 p h g1 g2 g3 g4 g5;obtain⟨q,a1,a2,a3,a4,a5,a6⟩:=zew h p term g2 (fun s=>dec s p) (FB (card (zae p))) (fun x=>x.kind=4) (fun i c t hc ht=>zrz h.inv g3 g4 i c t hc ht) ⟨r,d1,d2,d3,d4,d5,d6,d7,by rw[d7];omega⟩;have e:za7 cache dec term (p::ps) acc=za7 cache dec term ps ((zan cache acc.1 p term fun s=>dec s p).1,acc.2++[(zan cache acc.1 p term fun s=>dec s p).2]):=rfl;rw[e];generalize zan cache acc.1 p term (fun s=>dec s p)=Z at*;obtain⟨r',i',b1,b2,b3,b4,b5,b6,b7⟩:=zjs f dec term hd ps (Z.1,acc.2++[Z.2]) (by rw[a1];exact a2) (fun p' hp'=>hp p' (by simp[hp']))
   simp only at b1 b2 b3 b5 b6 b7;generalize za7 cache dec term ps (Z.1,acc.2++[Z.2])=Y at*;rw[a1]at b1 b2 b5 b7;rw[List.append_assoc]at b1 b2 b5;refine⟨q++r',Z.2::i',b1,b2,by rw[b3];simp,by simp[b4],fun k hk=>?_,?_,fun m hm=>?_⟩
   ·cases k with
    |zero=>
      refine⟨by rw[<-List.append_assoc];exact a3.more,?_⟩;obtain⟨c,hc,hk⟩:=a4;exact⟨c,by rw[<-List.append_assoc];exact zd6 hc,hk⟩
    |succ k=>exact b5 k (by simpa using hk)
   ·rw[List.countP_append,List.map_cons,List.sum_cons];omega
   exact(a6.mono (hm p (by simp))).app (b7 m fun p' hp'=>hm p' (by simp[hp']))
theorem zdw(hn:n<=128)(hC:Closed R n)(hch:Chooses ch n):∀f,zoy ch R cache n f (fitF ch cache f)
 |0=>fun st l term _ _ _ hc=>absurd hc (by omega)
 |f+1=>fun st l term h hg hR hc=>by
   obtain⟨r,i',u1,u2,u3,u4,u5,u6,u7,u8,u9,u10⟩:=zj6 hn hC l.length ⟨st,l,term,[]⟩ h hg hR;simp only at u1 u2 u5 u7 u8 u9 u10;rw[fitF];generalize zaq l.length ⟨st,l,term,[]⟩=U at*
   have hu1:InvR ch R cache n U.st:=by rw[u1];exact u2
   have hcu:card (zae U.l)<=card (zae l):=zip u8;have hfb:FB (card (zae U.l))<=FB (card (zae l)):=zlv hcu
   have h1:1<=FB (card (zae l)):=by unfold FB;have:=zmf (card (zae l));omega
   by_cases he:zbm U.l=true
   ·rw[if_pos he]
    obtain⟨L,hL⟩:∃L,U.l=[]::L:=by
     match hh:U.l with
     |[]=>rw[hh]at he;simp[zbm]at he
     |[]::L=>exact⟨L,rfl⟩
     |(x::c)::L=>rw[hh]at he;simp[zbm]at he
    obtain⟨q,a1,a2,a3,a4,a5,a6⟩:=zew hu1 U.l U.term u4 (fun s=>(s,⟨0,0,[]⟩)) 1 (fun x=>x=⟨0,0,[]⟩) (fun i c t hc ht=>zwa hu1.inv i c t hc (by rw[ht,hL]))
     ⟨[],by simp,by simpa using hu1,by simp,Under.nil _ _,fun i hi ht=>by have:=ht.lt;simp at this;omega,by rw[hL];exact .bad (by rw[<-hL];exact u3),rfl,by simp⟩
    generalize zan cache U.st U.l U.term (fun s=>(s,⟨0,0,[]⟩))=Z at*;rw[u1]at a1 a2 a3 a4 a6;rw[List.append_assoc]at a1 a2 a3 a4;refine⟨r++q,a1,a2,?_,by rw[List.countP_append];omega,(u7 l).app (a6.mono u8)⟩;rw[u5,List.nil_append]
    have:=u9 q [Z.2] (by
     rw[hL,List.append_assoc]
     refine .bad (by rw[<-hL];exact a3) a4)
    rw[List.append_assoc]at this;exact this
   rw[if_neg he];have h2:=zpy u3.so;have hnu:=u10 (Nat.le_refl _);have hl2:=zpy u3.so hnu (by simpa using he)
   obtain⟨q,j',a1,a2,a3,a4,a5,a6,a7⟩:=zjs (R:=R) f (fun s part=>zav (fitF ch cache f) ch s part U.term) U.term
    (fun st p hi hg hR hne h2 hc=>zhn hn hC hch (zdw hn hC hch f) hi hg hR hne h2 hc) (zaj U.l) (U.st,U.ins) hu1 (fun p hp=>by
      obtain⟨g1,g2,g3⟩:=zda u3.gc hp
      exact⟨g1,hC.split _ _ _ u4 u3 hp,g2,fun c hc=>hl2 c (g3 c hc),by have:=zgl hp;omega⟩)
   simp only at a1 a2 a3 a5 a7;generalize za7 cache (fun s part=>zav (fitF ch cache f) ch s part U.term) U.term (zaj U.l) (U.st,U.ins)=Z at*;rw[u1]at a1 a2 a5 a7;rw[List.append_assoc]at a1 a2 a5;refine⟨r++q,a1,a2,?_,?_,(u7 l).app (a7 l fun p hp v hv=>u8 v (ze9 hp hv))⟩
   ·rw[a3,u5,List.nil_append]
    have:=u9 q j' (by
     rw[List.append_assoc]
     exact .parts hl2 a4 a5)
    rw[List.append_assoc]at this;exact this
   rw[List.countP_append,u6]
   have hs:=zy5 ((zaj U.l).map fun p=>card (zae p)) (fun c hc=>by
    obtain⟨p,hp,rfl⟩:=List.mem_map.1 hc;obtain⟨g1,g2,g3⟩:=zda u3.gc hp
    exact zqq hn g1 g2 fun c hc=>hl2 c (g3 c hc))
   rw[List.map_map]at hs;have hs2:((zaj U.l).map fun p=>FB (card (zae p))).sum<=FB ((zaj U.l).map fun p=>card (zae p)).sum:=hs;have:=zlv (zs5 U.l);omega
end
def RT(n:Nat)(t:List Cl)(l:List Cl)(term:Cl):Prop:=gT n term/\∀c∈l,∃i,Left1 n t term i c
theorem RT.off{n:Nat}(hn:n<=128){t l:List Cl}{term:Cl}(h:RT n t l term)(hg:∀c∈l,gC n c){x:Int}(hx:litN n x)(hv:(zae l).mem (zac x)=true):x∉term/\-x∉term:=by
 obtain⟨c,hc,hm⟩:=zbf.1 hv;obtain⟨_,y,hy,e⟩:=zd3.1 hm;have hr:=(hg c hc).rg y hy;have h0:=hx.1;have h2:=hx.2
 have e2:y=x\/y=-x:=by
  rw[zam hr.1 (by omega) (by omega),zam h0 (by omega) (by omega)]at e;exact ztq e
 obtain⟨i,hi⟩:=h.2 c hc;obtain⟨a,b⟩:=hi.off hy
 rcases e2 with rfl|rfl
 ·exact⟨a,b⟩
 exact⟨by simpa using b,a⟩
theorem zb0{n:Nat}(hn:n<=128)(t:List Cl):Closed (RT n t) n:=⟨fun l term x h hg hx hv=>by
 obtain⟨h1,h2⟩:=h.off hn hg.gc hx hv;refine⟨h.1.snoc hx hn h1 h2,fun d hd=>?_⟩;obtain⟨c,hc,hxc,rfl⟩:=zck.1 hd;obtain⟨i,hi⟩:=h.2 c hc
 exact⟨i,hi.given hxc h2⟩,
 fun l term p h _ hp=>⟨h.1,fun c hc=>h.2 c (zct.1 ⟨p,hp,hc⟩)⟩⟩
theorem zga(st:List Nc)(x:Int):st.length<=(litF st x).1.length:=by
 unfold litF
 split
 ·exact Nat.le_refl _
 simp
theorem zev(cache:Bool)(st:List Nc)(l:List Cl)(term:Cl)(mk:List Nc->List Nc×Nd)(h:st.length<=(mk st).1.length):st.length<=(zan cache st l term mk).1.length:=by
 unfold zan
 split
 ·exact Nat.le_refl _
 simp;omega
theorem zfy:∀(f:Nat)(u:Us),u.st.length<=(zaq f u).st.length
 |0,u=>Nat.le_refl _
 |f+1,⟨st,l,term,ins⟩=>by
   match l with
   |[x]::l=>exact Nat.le_trans (zga st x) (zfy f ⟨(litF st x).1,zah ([x]::l) x,term++[x],ins++[(litF st x).2]⟩)
   |[]=>exact Nat.le_refl _
   |[]::l=>exact Nat.le_refl _
   |(x::y::c)::l=>exact Nat.le_refl _
section
variable{fit:List Nc->List Cl->Cl->List Nc×List Nat}(hf:∀st l term,st.length<=(fit st l term).1.length)
include hf
theorem zhc(st:List Nc)(l:List Cl)(term:Cl)(x:Int):st.length<=(zc2 fit st l term x).1.length:=by
 unfold zc2
 split
 ·exact zga st x
 have h1:=zga st x;have h2:=hf (litF st x).1 (zah l x) (term++[x]);simp only[List.length_append,List.length_cons,List.length_nil];omega
theorem zen(ch:List Cl->Int)(st:List Nc)(l:List Cl)(term:Cl):st.length<=(zav fit ch st l term).1.length:=
 Nat.le_trans (zhc hf st l term (-ch l)) (zhc hf _ l term (ch l))
end
theorem zea(cache:Bool)(dec:List Nc->List Cl->List Nc×Nd)(hd:∀st p,st.length<=(dec st p).1.length)(term:Cl):∀(ps:List (List Cl))(acc:List Nc×List Nat),acc.1.length<=(za7 cache dec term ps acc).1.length
 |[],acc=>Nat.le_refl _
 |p::ps,acc=>Nat.le_trans (zev cache acc.1 p term (fun s=>dec s p) (hd acc.1 p)) (zea cache dec hd term ps ((zan cache acc.1 p term fun s=>dec s p).1,acc.2++[(zan cache acc.1 p term fun s=>dec s p).2]))
theorem zeo(ch:List Cl->Int)(cache:Bool):∀(f:Nat)(st:List Nc)(l:List Cl)(term:Cl),st.length<=(fitF ch cache f st l term).1.length
 |0,st,l,term=>Nat.le_refl _
 |f+1,st,l,term=>by
   have h:st.length<=(zaq l.length ⟨st,l,term,[]⟩).st.length:=zfy l.length ⟨st,l,term,[]⟩;rw[fitF];generalize zaq l.length ⟨st,l,term,[]⟩=U at*
   split
   ·exact Nat.le_trans h (zev _ _ _ _ _ (Nat.le_refl _))
   exact Nat.le_trans h (zea cache (fun s p=>zav (fitF ch cache f) ch s p U.term) (fun s p=>zen (zeo ch cache f) ch s p U.term) U.term (zaj U.l) (U.st,U.ins))
theorem zp6(cache:Bool)(dec:List Nc->List Cl->List Nc×Nd)(term:Cl)(ps:List (List Cl))(acc:List Nc×List Nat)(k:Nat):za7 cache dec term (ps.drop k) (za7 cache dec term (ps.take k) acc)=za7 cache dec term ps acc:=by
 unfold za7;rw[<-List.foldl_append,List.take_append_drop]
theorem zp7(cache:Bool)(dec:List Nc->List Cl->List Nc×Nd)(term:Cl)(ps:List (List Cl))(acc:List Nc×List Nat){k:Nat}(hk:k<ps.length):
 za7 cache dec term (ps.take (k+1)) acc=((zan cache (za7 cache dec term (ps.take k) acc).1 ps[k] term fun s=>dec s ps[k]).1,(za7 cache dec term (ps.take k) acc).2++[(zan cache (za7 cache dec term (ps.take k) acc).1 ps[k] term fun s=>dec s ps[k]).2]):=by
 rw[List.take_succ_eq_append_getElem hk];unfold za7;rw[List.foldl_append]
 rfl
theorem zyy{cache:Bool}{st r:List Nc}{l:List Cl}(h:st.findIdx? (zbt l)=none)(hr:∀i,st.length<=i->¬tagged (st++r) i l):(st++r).findIdx? (zbt l)=none:=by
 rw[List.findIdx?_eq_none_iff]at h⊢;intro c hc
 rcases List.mem_append.1 hc with hc|hc
 ·exact h c hc
 cases e:zbt l c with
 |false=>rfl
 |true=>
   obtain⟨t,ht⟩:=zg5.1 e;obtain⟨i,hi,rfl⟩:=List.getElem_of_mem hc;exact absurd ⟨r[i],t,by rw[List.getElem?_append_right (by omega),show st.length+i-st.length=i by omega,List.getElem?_eq_getElem hi],ht⟩ (hr (st.length+i) (by omega))
end Cen
namespace Go.Proofs.YtnlaakmglhjjmaaGreatDoor
open Go.RowKit Cen
def OwnO(F:Nat->Prop)(w:World)(base:Nat)(v:Value)(l:List Int):Prop:=OwnI w base v l/\∀k,v.ownBlock=some k->¬F k
theorem OwnO.kept{F F':Nat->Prop}{w w':World}{base:Nat}{v:Value}{l:List Int}(h:OwnO F w base v l)(hk:Kp F w w')(hs:∀k,F' k->F k\/w.heap.size<=k):OwnO F' w' base v l:=
 ⟨h.1.kept hk fun g hg hf=>h.2 g hg hf,fun k hv hf=>(hs k hf).elim (h.2 k hv) fun h1=>by have:=(h.1.blk hv).2;omega⟩
theorem OwnO.aft{g:Cfg}{F F':Nat->Prop}{p:Nat}{st:List Nc}{w w':World}{base:Nat}{v:Value}{l:List Int}(h:OwnO F w base v l)(ha:Aft g F p st w w' F'):OwnO F' w' base v l:=h.kept ha.2.1 ha.2.2
theorem OwnO.later{F:Nat->Prop}{w w':World}{base:Nat}{v:Value}{l:List Int}(h:OwnO F w base v l)(hb:Below w.heap.size w w'):OwnO F w' base v l:=⟨h.1.later hb,h.2⟩
theorem OwnO.new{F:Nat->Prop}{w:World}{base:Nat}(x:Int)(hF:∀k,F k->k<w.heap.size)(hb:base<=w.heap.size):OwnO F (w.alloc (.cells #[.int .i64 x] 3)) base (.slice (some ⟨w.heap.size,0,none⟩) 1 1) [x]:=
 ⟨World.ownsRow_lit w #[.int .i64 x] 1 hb (by decide) rfl,fun k hk hf=>by
   simp[Value.ownBlock]at hk
   have:=hF k hf
   omega⟩
theorem OwnO.trm{F:Nat->Prop}{w:World}{base n c:Nat}{a:Option Addr}{l:List Int}(h:OwnO F w base (.slice a n c) l)(hl:l.length<=128):n=l.length/\TrmIn F w a l:=by
 rcases h.1.shape with⟨h1,h2⟩|⟨g,cap,h1,h2,h3⟩
 ·simp only[Value.slice.injEq]at h1;obtain⟨rfl,rfl,rfl⟩:=h1;subst h2;exact⟨rfl,IntCells.nil _ _,fun q hq=>by simp at hq,by simp⟩
 simp only[Value.slice.injEq]at h1;obtain⟨rfl,rfl,rfl⟩:=h1
 exact⟨rfl,h.1.intCells rfl,fun q hq=>by
  simp only[Option.some.injEq]at hq;subst hq
  exact⟨h.2 g rfl,h3⟩,hl⟩
theorem IntCells.kept0{M:Nat->Prop}{w w':World}{a:Option Addr}{xs:List Int}(h:IntCells w a xs)(hb:Kp M w w')(hm:∀p,a=some p->xs≠[]->¬M p.block):IntCells w' a xs:=
 fun i hi=>let⟨b,off,e,hc⟩:=h i hi;⟨b,off,e,hb.cell hc (hm ⟨b,off,none⟩ e fun hn=>by rw[hn]at hi;simp at hi)⟩
structure Fx(g:Cfg)(ch:List Cl->Int):Prop where
 n:g.n<=128
 gb:1<g.B
 ch:Chooses ch g.n
 ob:∀q,g.oa=some q->g.order≠[]->q.block<g.B
 od:∀v∈g.order,1<=v/\v<=g.n
 ol:g.order.length<=1073741824
structure Env(g:Cfg)(F:Nat->Prop)(w:World)(a:Option Addr)(l:List Ce)(at':Option Addr)(term:Cl):Prop where
 ci:ClsIn g F w a l term
 ti:TrmIn F w at' term
 good:gL g.n (l.map fun e=>e.xs)
 rt:RT g.n g.t (l.map fun e=>e.xs) term
theorem Env.kept{g:Cfg}{F F':Nat->Prop}{w w':World}{a:Option Addr}{l:List Ce}{at':Option Addr}{term:Cl}(h:Env g F w a l at' term)(hk:Kp F w w')(hs:∀k,F' k->F k\/w.heap.size<=k):Env g F' w' a l at' term:=
 ⟨h.ci.kept hk hs,h.ti.kept hk hs,h.good,h.rt⟩
theorem Env.aft{g:Cfg}{F F':Nat->Prop}{p:Nat}{st:List Nc}{w w':World}{a:Option Addr}{l:List Ce}{at':Option Addr}{term:Cl}(h:Env g F w a l at' term)(ha:Aft g F p st w w' F'):Env g F' w' a l at' term:=h.kept ha.2.1 ha.2.2
theorem Env.later{g:Cfg}{F:Nat->Prop}{w w':World}{a:Option Addr}{l:List Ce}{at':Option Addr}{term:Cl}(h:Env g F w a l at' term)(hb:Below w.heap.size w w'):Env g F w' a l at' term:=h.kept (Kp.below hb) fun _ h=>.inl h
structure Cmp(g:Cfg)(ch:List Cl->Int)(F:Nat->Prop)(w:World)(p:Nat)(L:List Me):Prop where
 cc:CC g F w p L
 inv:InvR ch (RT g.n g.t) g.cache g.n (L.map fun e=>e.c)
 tab:Tab w
 lo:g.B<=w.heap.size
 ord:IntCells w g.oa g.order
theorem Tab.kp{F:Nat->Prop}{w w':World}(h:Tab w)(hk:Kp F w w')(hF:∀k,F k->1<k):Tab w':=by
 unfold Tab Lib.TabIs World.var? at*;rw[show Tryz.prog.globalNamed "internal/strconv.uint64pow10"=some 1 from by kernel_rfl]at*;simp only[Option.bind_some]at*
 rcases Nat.lt_or_ge 1 w.heap.size with h'|h'
 ·rw[hk.block _ h' fun hf=>by have:=hF _ hf;omega];exact h
 rw[Array.getElem?_eq_none h']at h;simp at h
theorem Cmp.aft{g:Cfg}{ch:List Cl->Int}{F F':Nat->Prop}{w w':World}{p:Nat}{L:List Me}{st:List Nc}(hx:Fx g ch)(h:Cmp g ch F w p L)(ha:Aft g F p st w w' F')(hi:InvR ch (RT g.n g.t) g.cache g.n st):
 ∃L':List Me,(L'.map fun e=>e.c)=st/\Cmp g ch F' w' p L':=by
 obtain⟨⟨L',h1,h2⟩,hk,hs⟩:=ha;exact⟨L',h1,h2,by rw[h1];exact hi,h.tab.kp hk fun k hk=>Nat.lt_of_lt_of_le hx.gb (h.cc.low hk).1,Nat.le_trans h.lo hk.size,h.ord.kept0 hk fun q hq hne hf=>by have h1:=hx.ob q hq hne;have h2:=(h.cc.low hf).1;omega⟩
theorem Cmp.later{g:Cfg}{ch:List Cl->Int}{F:Nat->Prop}{w w':World}{p:Nat}{L:List Me}(h:Cmp g ch F w p L)(hb:Below w.heap.size w w'):Cmp g ch F w' p L:=
 ⟨h.cc.later hb,h.inv,h.tab.keep hb,Nat.le_trans h.lo hb.size,h.ord.keep hb⟩
def zwl(g:Cfg)(F:Nat->Prop)(p:Nat)(r:List Nc×List Nat)(w:World)(e:Ending)(w':World):Prop:=
 ∃v F',e=.returned v/\Aft g F p r.1 w w' F'/\OwnO F' w' w.heap.size v (zaf r.2)
def FitC(g:Cfg)(ch:List Cl->Int)(f:Nat):Prop:=
 ∀(F:Nat->Prop)(p:Nat)(L:List Me)(a:Option Addr)(cap:Nat)(l:List Ce)(at':Option Addr)(ct:Nat)(term:Cl)(w:World),Cmp g ch F w p L->Env g F w a l at' term->card (zae (l.map fun e=>e.xs))<f->
  (fitF ch g.cache f (L.map fun e=>e.c) (l.map fun e=>e.xs) term).1.length<=65536->
  Calls Tryz.prog 64 #[.pointer (some ⟨p,0,none⟩),.slice a l.length cap,.slice at' term.length ct] w (zwl g F p (fitF ch g.cache f (L.map fun e=>e.c) (l.map fun e=>e.xs) term) w)
end Go.Proofs.YtnlaakmglhjjmaaGreatDoor
