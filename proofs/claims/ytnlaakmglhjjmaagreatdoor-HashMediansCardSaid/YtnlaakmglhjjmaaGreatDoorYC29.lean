/- Parts of the proofs of laws. Texts: Da, De, Dg, Dh, Di, Cm, Dj, Dk, Dm, Dn. -/
import Derived.Test.YtnlaakmglhjjmaaGreatDoorYC25
import Derived.Test.YtnlaakmglhjjmaaGreatDoorYC28
set_option maxHeartbeats 8000000
set_option maxRecDepth 100000
set_option linter.all false
namespace Go.Proofs.YtnlaakmglhjjmaaGreatDoor
open Go.RowKit Cen
theorem zuo(g:Cfg)(h12:g.n<=12)(hx:Fx g (chF g.order g.probe g.n)):∀f,FitC g (chF g.order g.probe g.n) f
 |0=>fun _ _ _ _ _ _ _ _ _ _ _ _ h=>absurd h (Nat.not_lt_zero _)
 |f+1=>ya0 g _ f hx (zuo g h12 hx f) (zr9 g h12 hx) (zv3 g hx.n)
theorem CC.fresh(g:Cfg)(w:World)(p lb db:Nat)(hb:Blk w p #[.int .i64 g.n,.slice g.oa g.order.length g.oc,.bool g.probe,.bool g.cache,.slice none 0 0,.slice none 0 0,.map (some lb),.map (some db)] 128)
 (lm:MapL 3 3 w lb 0 (fun _=>none))(dm:MapL 9 3 w db 0 (fun _=>none))(s1:p≠lb/\p≠db/\lb≠db)(lo:g.B<=p/\g.B<=lb/\g.B<=db):
 CC g (Fr p lb db (.slice none 0 0) (.slice none 0 0)) w p []:=
 ⟨0,fun _=>none,Nat.le_refl _,⟨lb,db,.slice none 0 0,.slice none 0 0,⟨hb,OwnL.nil _ _,OwnL.nil _ _,fun e he=>by simp at he,by rw[List.map_nil,zxv];exact lm,dm,s1,⟨by simp[Value.ownBlock],by simp[Value.ownBlock],by simp[Value.ownBlock]⟩,⟨by simp[Value.ownBlock],by simp[Value.ownBlock],by simp[Value.ownBlock]⟩,fun k h=>by simp[Value.ownBlock]at h,lo,by simp⟩,fun k=>⟨.inl,fun h=>h.elim id fun⟨e,he,_⟩=>by simp at he⟩⟩,
   ⟨fun s y h=>by simp at h,fun _ l _=>by simp⟩⟩
theorem InvR.fresh(ch:List Cl->Int)(R:List Cl->Cl->Prop)(cache:Bool)(n:Nat):InvR ch R cache n []:=
 ⟨by intro i c h;simp at h,fun i c l t h=>by simp at h,fun i j x h=>by simp[isLit]at h,fun _ i j l h=>by simp[tagged]at h⟩
theorem Cmp.fresh(g:Cfg)(ch:List Cl->Int)(w:World)(p lb db:Nat)(hb:Blk w p #[.int .i64 g.n,.slice g.oa g.order.length g.oc,.bool g.probe,.bool g.cache,.slice none 0 0,.slice none 0 0,.map (some lb),.map (some db)] 128)
 (lm:MapL 3 3 w lb 0 (fun _=>none))(dm:MapL 9 3 w db 0 (fun _=>none))(s1:p≠lb/\p≠db/\lb≠db)(lo:g.B<=p/\g.B<=lb/\g.B<=db)(ht:Tab w)(hB:g.B<=w.heap.size)(ho:IntCells w g.oa g.order):
 Cmp g ch (Fr p lb db (.slice none 0 0) (.slice none 0 0)) w p []:=
 ⟨CC.fresh g w p lb db hb lm dm s1 lo,InvR.fresh _ _ _ _,ht,hB,ho⟩
theorem MeAt.true(g:Cfg)(F:Nat->Prop)(w:World):MeAt g F w ⟨⟨⟨1,0,[]⟩,some ([],[])⟩,.slice none 0 0,.slice none 0 0,.slice none 0 0,[],[]⟩:=
 ⟨OwnL.nil _ _,fun k h=>by simp[Value.ownBlock]at h,OwnL.nil _ _,fun k h=>by simp[Value.ownBlock]at h,OwnL.nil _ _,fun k h=>by simp[Value.ownBlock]at h,⟨rfl,[],by simp[zc4],rfl,fun e h=>by simp at h⟩⟩
theorem pig:∀(l m:List Int),l.Nodup->(∀x∈l,x∈m)->m.length<=l.length->∀x∈m,x∈l
 |[],m,_,_,h,x,hx=>by
   have:m=[]:=List.eq_nil_of_length_eq_zero (Nat.le_zero.1 h);rw[this]at hx;simp at hx
 |a::l,m,hn,hs,h,x,hx=>by
   obtain⟨h1,h2⟩:=List.nodup_cons.1 hn;have ha:a∈m:=hs a List.mem_cons_self;have hl:(m.erase a).length=m.length-1:=List.length_erase_of_mem ha;have hr:=pig l (m.erase a) h2 (fun y hy=>(List.mem_erase_of_ne (fun e:y=a=>h1 (by rw[<-e];exact hy))).2 (hs y (List.mem_cons_of_mem _ hy))) (by rw[hl];simp at h;omega)
   by_cases e:x=a
   ·rw[e];exact List.mem_cons_self
   exact List.mem_cons_of_mem _ (hr x ((List.mem_erase_of_ne e).2 hx))
theorem zjk{v:Int}:∀(xs:List Int)(s:St),(xs.foldl St.add s).mem v=true->s.mem v=true\/v∈xs
 |[],s,h=>.inl h
 |x::xs,s,h=>by
   rcases zjk xs (s.add x) h with h'|h'
   ·rw[St.mem_add]at h';simp at h'
    rcases h' with h'|h'
    ·exact .inl h'
    exact .inr (by rw[h'.1.1];exact List.mem_cons_self)
   exact .inr (List.mem_cons_of_mem _ h')
theorem zyb{n:Nat}(hn:n<=128){t:List Cl}{order:List Int}(h:zc3 n t order=0):∀v∈order,1<=v/\v<=n:=by
 unfold zc3 at h
 split at h
 ·contradiction
 split at h
 ·simp at h
 rename_i _ h2
 intro v hv
 have hp:0<order.length:=List.length_pos_iff.2 fun e=>by rw[e]at hv;simp at hv
 have h3:(order.length:Int)=n:=by
  refine Classical.byContradiction fun e=>h2 ⟨hp,.inl e⟩
 have h4:ofL order=zbq n:=Classical.byContradiction fun e=>h2 ⟨hp,.inr e⟩
 have h5:=pig ((List.range n).map fun(j:Nat)=>(j:Int)+1) order (by
  refine List.Pairwise.map _ ?_ List.nodup_range;intro a b hab e
  exact hab (by omega)) (fun x hx=>by
  obtain⟨j,hj,rfl⟩:=List.mem_map.1 hx;have hj:=List.mem_range.1 hj
  have hm:(ofL order).mem ((j:Int)+1)=true:=by
   rw[h4,zdc]
   simp;omega
  rcases zjk order St.zero hm with h'|h'
  ·simp[St.mem_zero]at h'
  exact h') (by simp;omega) v hv
 obtain⟨j,hj,rfl⟩:=List.mem_map.1 h5;have hj:=List.mem_range.1 hj;omega
theorem fx_of(g:Cfg)(hn:g.n<=128)(gb:1<g.B)(ob:∀q,g.oa=some q->g.order≠[]->q.block<g.B)(ol:g.order.length<=1073741824)(hok:zc3 g.n g.t g.order=0):Fx g (chF g.order g.probe g.n):=
 ⟨hn,gb,zfm hn,ob,zyb hn hok,ol⟩
def zox(w:World)(a:Option Addr)(C:List Clm):Prop:=
 ∀i,i<C.length->∃b off ta tc aa ac,a=some ⟨b,off,none⟩/\w.cell? ⟨b,off+i*2,none⟩=some (.slice ta (C.getD i ⟨[],[]⟩).tm.length tc)/\w.cell? ⟨b,off+i*2+1,none⟩=some (.slice aa (C.getD i ⟨[],[]⟩).at'.length ac)/\
  IntCells w ta (C.getD i ⟨[],[]⟩).tm/\IntCells w aa (C.getD i ⟨[],[]⟩).at'
def zz1(w:World)(a:Option Addr)(N:List Nd):Prop:=∀i,i<N.length->∀b off xa m xc,a=some ⟨b,off,none⟩->w.cell? ⟨b,off+i*3+2,none⟩=some (.slice xa m xc)->m<=xc
theorem OwnI.ic{w:World}{base:Nat}{v:Value}{l:List Int}(h:OwnI w base v l):∃a cap,v=.slice a l.length cap/\IntCells w a l:=by
 rcases h.shape with⟨h1,h2⟩|⟨g,cap,h1,_⟩
 ·subst h2;exact⟨none,0,h1,IntCells.nil _ _⟩
 subst h1;exact⟨_,cap,rfl,h.intCells rfl⟩
def clms(L:List Me):List Clm:=L.map fun e=>⟨e.tm,e.at'⟩
structure CpMem(w:World)(base:Nat)(nv cv:Value)(L:List Me):Prop where
 rn:OwnL nde 134 3 w base nv L
 rc:OwnL cle 136 2 w base cv L
 me:∀e∈L,OwnI w base e.v e.c.nd.ins/\OwnI w base e.vt e.tm/\OwnI w base e.va e.at'
 ap:∀e∈L,∀k,(e.v.ownBlock=some k\/e.vt.ownBlock=some k\/e.va.ownBlock=some k)->nv.ownBlock≠some k/\cv.ownBlock≠some k
 ne:∀k,nv.ownBlock=some k->cv.ownBlock≠some k
theorem CpMem.nodes{w:World}{base nc:Nat}{na:Option Addr}{cv:Value}{L:List Me}(h:CpMem w base (.slice na L.length nc) cv L)(hll:∀e∈L,e.c.nd.ins.length<=1073741824):NdCells w na (nds (L.map fun e=>e.c))/\zz1 w na (nds (L.map fun e=>e.c)):=by
 have hr:=h.rn
 have hil:∀i,i<(nds (L.map fun e=>e.c)).length->i<L.length:=fun i hi=>by simpa[nds]using hi
 rcases hr.shape with⟨h1,h2⟩|⟨q,cp,h1,_⟩
 ·subst h2;exact⟨fun i hi=>by have:=hil i hi;simp at this,fun i hi=>by have:=hil i hi;simp at this⟩
 simp only[Value.slice.injEq,true_and]at h1;obtain⟨rfl,rfl⟩:=h1
 constructor
 ·intro i hi;have hil:=hil i hi
  have hgd:(nds (L.map fun e=>e.c)).getD i default=L[i].c.nd:=by simp[nds,List.getD_eq_getElem?_getD,hil]
  have c0:=hr.cell rfl zjo i 0 hil (by omega);have c1:=hr.cell rfl zjo i 1 hil (by omega);have c2:=hr.cell rfl zjo i 2 hil (by omega);obtain⟨av,cv,hv,hic⟩:=(h.me _ (List.getElem_mem hil)).1.ic;simp only[nde,List.getElem?_cons_zero,List.getElem?_cons_succ,Nat.add_zero]at c0 c1 c2;rw[hv]at c2;refine⟨q,0,rfl,?_⟩;rw[hgd,Nat.zero_add];exact⟨c0,c1,av,cv,c2,hic,hll _ (List.getElem_mem hil)⟩
 intro i hi b off xa m xc he hc;have hil:=hil i hi;simp only[Option.some.injEq,Addr.mk.injEq,and_true]at he;obtain⟨rfl,rfl⟩:=he;have c2:=hr.cell rfl zjo i 2 hil (by omega);simp only[nde,List.getElem?_cons_zero,List.getElem?_cons_succ]at c2;rw[Nat.zero_add,c2]at hc;have hv:=Option.some.inj hc;have ho:=(h.me _ (List.getElem_mem hil)).1
 rcases ho.shape with⟨e1,_⟩|⟨g',cp',e1,_⟩
 ·rw[hv]at e1;simp only[Value.slice.injEq]at e1;omega
 have hr2:=ho;rw[e1]at hr2;have:=OwnI.room hr2 rfl;rw[hv]at e1;simp only[Value.slice.injEq]at e1;omega
theorem CpMem.claims{w:World}{base cc:Nat}{ca:Option Addr}{nv:Value}{L:List Me}(h:CpMem w base nv (.slice ca L.length cc) L):zox w ca (clms L):=by
 have hr:=h.rc
 have hil:∀i,i<(clms L).length->i<L.length:=fun i hi=>by simpa[clms]using hi
 rcases hr.shape with⟨h1,h2⟩|⟨q,cp,h1,_⟩
 ·subst h2
  exact fun i hi=>by have:=hil i hi;simp at this
 simp only[Value.slice.injEq,true_and]at h1;obtain⟨rfl,rfl⟩:=h1;intro i hi;have hil:=hil i hi;have c0:=hr.cell rfl zis i 0 hil (by omega);have c1:=hr.cell rfl zis i 1 hil (by omega);simp only[cle,List.getElem?_cons_zero,List.getElem?_cons_succ,Nat.add_zero]at c0 c1
 have hgd:(clms L).getD i ⟨[],[]⟩=⟨L[i].tm,L[i].at'⟩:=by simp[clms,List.getD_eq_getElem?_getD,hil]
 rw[hgd];obtain⟨a1,q1,hv1,i1⟩:=(h.me _ (List.getElem_mem hil)).2.1.ic;obtain⟨a2,q2,hv2,i2⟩:=(h.me _ (List.getElem_mem hil)).2.2.ic;rw[hv1]at c0;rw[hv2]at c1;exact⟨q,0,a1,q1,a2,q2,rfl,by rw[Nat.zero_add];exact c0,by rw[Nat.zero_add];exact c1,i1,i2⟩
theorem CpMem.lower{w:World}{base B:Nat}{nv cv:Value}{L:List Me}(h:CpMem w base nv cv L)(hB:B<=base):CpMem w B nv cv L:=
 ⟨h.rn.lower hB,h.rc.lower hB,fun e he=>let⟨a,b,c⟩:=h.me e he;⟨a.lower hB,b.lower hB,c.lower hB⟩,h.ap,h.ne⟩
theorem zt9{g:Cfg}{W W5:World}{p lb db:Nat}{cv:Value}{na:Option Addr}{nc cb cc:Nat}{L:List Me}{m:Nat}{f d:Lit->Option Lit}(h:CAt g W p lb db (.slice na L.length nc) cv L m f d)(hcv:cv=.slice (some ⟨cb,0,none⟩) L.length cc)(hne:L≠[])
 (hb:Below W.heap.size W W5){vt va:Value}{ix:List Int}(hvt:OwnI W5 W.heap.size vt [])(hva:OwnI W5 W.heap.size va ix){M:Nat->Prop}{W7:World}
 (hk:Kp M ((W5.setCell ⟨cb,(L.length-1)*2,none⟩ vt).setCell ⟨cb,(L.length-1)*2+1,none⟩ va) W7)(hM:∀k,M k->k<g.B)(hBW:g.B<=W.heap.size):
 ∃L':List Me,L'.length=L.length/\(L'.map fun e=>e.c)=(L.map fun e=>e.c)/\clms L'=(clms L).set (L.length-1) ⟨[],ix⟩/\CpMem W7 g.B (.slice na L.length nc) (.slice (some ⟨cb,0,none⟩) L.length cc) L':=by
 subst hcv;have hk6:Kp (fun y=>y=cb) W5 ((W5.setCell ⟨cb,(L.length-1)*2,none⟩ vt).setCell ⟨cb,(L.length-1)*2+1,none⟩ va):=Kp.trans (M:=fun y=>y=cb) (Kp.setCell W5 ⟨cb,(L.length-1)*2,none⟩ vt rfl) (Kp.setCell _ ⟨cb,(L.length-1)*2+1,none⟩ va rfl)
 have hlp:L.length-1<L.length:=by have:=List.length_pos_iff.2 hne;omega
 have hcb:g.B<=cb:=(World.ownsRow.lt h.rc cb rfl).1;have hcW:cb<W.heap.size:=(World.ownsRow.lt h.rc cb rfl).2
 have keepI:∀{v:Value}{l:List Int},OwnI W g.B v l->(∀k,v.ownBlock=some k->¬Fr p lb db (.slice na L.length nc) (.slice (some ⟨cb,0,none⟩) L.length cc) k)->OwnI W7 g.B v l:=fun ho hF=>
  ((ho.later hb).kept hk6 fun k hv e=>hF k hv (by rw[e];exact .inr (.inr (.inr (.inr rfl))))).kept hk fun k hv hm=>by have:=(ho.blk hv).1;have:=hM k hm;omega
 have keepN:∀{v:Value}{l:List Int},OwnI W5 W.heap.size v l->OwnI W7 g.B v l:=fun ho=>
  ((ho.kept hk6 fun k hv e=>by have:=(ho.blk hv).1;omega).kept hk fun k hv hm=>by have:=(ho.blk hv).1;have:=hM k hm;omega).lower hBW
 have hrn:=((h.rn.later hb).kept hk6 fun k hv e=>h.s4 k hv (by rw[e];rfl)).kept hk fun k hv hm=>by have:=(World.ownsRow.lt h.rn k hv).1;have:=hM k hm;omega
 have hr5:=h.rc.later hb;have hr6:=OwnL.put2 rfl hr5 zis (L.length-1) hlp ⟨L[L.length-1].c,L[L.length-1].v,vt,va,[],ix⟩ vt va rfl
 have hrc:=hr6.kept hk fun k hv hm=>by have:=(World.ownsRow.lt hr5 k hv).1;have:=hM k hm;omega
 have hnd:L.flatMap nde=(L.set (L.length-1) ⟨L[L.length-1].c,L[L.length-1].v,vt,va,[],ix⟩).flatMap nde:=by
  rw[List.flatMap_def,List.flatMap_def,List.map_set]
  congr 1
  refine List.ext_getElem (by simp) fun i h1 h2=>?_
  rw[List.getElem_set]
  split
  ·rename_i e;subst e;simp[nde]
  rfl
 have hnvlt:∀k,(Value.slice na L.length nc).ownBlock=some k->k<W.heap.size:=fun k hv=>(World.ownsRow.lt h.rn k hv).2
 refine⟨L.set (L.length-1) ⟨L[L.length-1].c,L[L.length-1].v,vt,va,[],ix⟩,by rw[List.length_set],?_,?_,?_⟩
 ·rw[List.map_set]
  refine List.ext_getElem (by simp) fun i h1 h2=>?_
  rw[List.getElem_set]
  split
  ·rename_i e;subst e;simp
  rfl
 ·unfold clms;rw[List.map_set]
 have hmem:∀e∈L.set (L.length-1) ⟨L[L.length-1].c,L[L.length-1].v,vt,va,[],ix⟩,e∈L\/e=⟨L[L.length-1].c,L[L.length-1].v,vt,va,[],ix⟩:=fun e he=>List.mem_or_eq_of_mem_set he
 refine⟨?_,hrc,?_,?_,h.s4⟩
 ·unfold OwnL at hrn⊢;rw[<-hnd,List.length_set];exact hrn
 ·intro e he
  rcases hmem e he with he|rfl
  ·have hme:=h.me e he;exact⟨keepI hme.v hme.vF,keepI hme.vt hme.vtF,keepI hme.va hme.vaF⟩
  have hme:=h.me _ (List.getElem_mem hlp);exact⟨keepI hme.v hme.vF,keepN hvt,keepN hva⟩
 intro e he k hk'
 rcases hmem e he with he|rfl
 ·have hme:=h.me e he
  have hf:¬Fr p lb db (.slice na L.length nc) (.slice (some ⟨cb,0,none⟩) L.length cc) k:=by
   rcases hk' with h1|h1|h1
   ·exact hme.vF k h1
   ·exact hme.vtF k h1
   exact hme.vaF k h1
  exact⟨fun h1=>hf (.inr (.inr (.inr (.inl h1)))),fun h1=>hf (.inr (.inr (.inr (.inr h1))))⟩
 have hme:=h.me _ (List.getElem_mem hlp)
 have far:W.heap.size<=k->(Value.slice na L.length nc).ownBlock≠some k/\(Value.slice (some ⟨cb,0,none⟩) L.length cc).ownBlock≠some k:=fun hge=>⟨fun e=>by have:=hnvlt k e;omega,fun e=>by simp[Value.ownBlock]at e;omega⟩
 rcases hk' with h1|h1|h1
 ·exact⟨fun h2=>hme.vF k h1 (.inr (.inr (.inr (.inl h2)))),fun h2=>hme.vF k h1 (.inr (.inr (.inr (.inr h2))))⟩
 ·exact far (hvt.blk h1).1
 exact far (hva.blk h1).1
def CEnd(g:Cfg)(p:Nat)(F0:Nat->Prop)(w2:World)(all:List Cl)(W:World):Prop:=
 ∃(F:Nat->Prop)(L:List Me)(m:Nat)(f d:Lit->Option Lit),CS g F W p L m f d/\L≠[]/\zad (chF g.order g.probe g.n) g.cache g.n g.t=(L.map fun e=>e.c).set (L.length-1) ⟨nd (nds (L.map fun e=>e.c)) (L.length-1:Nat),some (all,[])⟩/\Kp F0 w2 W/\∀k,F k->F0 k\/w2.heap.size<=k
theorem zvk(c:Cl):∀k,(zcg k c).length<=2*k:=fun k=>by
 unfold zcg;rw[List.length_flatMap]
 have:∀l:List Nat,(l.map fun(j:Nat)=>((if-((j:Int)+1)∈c then[-((j:Int)+1)]else[])++(if((j:Int)+1)∈c then[(j:Int)+1]else[])).length).sum<=2*l.length:=by
  intro l
  induction l with
  |nil=>simp
  |cons j l ih=>
    rw[List.map_cons,List.sum_cons,List.length_cons,List.length_append]
    have h1:(if-((j:Int)+1)∈c then[-((j:Int)+1)]else[]).length<=1:=by split<;>simp
    have h2:(if((j:Int)+1)∈c then[(j:Int)+1]else[]).length<=1:=by split<;>simp
    omega
 have:=this (List.range k)
 simpa using this
theorem yb5{a b:Nat}(h:a<=b):FB a<=FB b:=by
 unfold FB;have:=Nat.pow_le_pow_right (show 0<2 by omega) (show a+2<=b+2 by omega);omega
theorem zw8{ch:List Cl->Int}{n:Nat}(hn:n<=12)(hch:Chooses ch n){t:List Cl}(ht:tOk n t)(cache:Bool):(zak ch cache (zaa n t)).1.length<=20000:=by
 have hC:=core (show n<=128 by omega) hch ht cache;have h1:=zrf hC.inv;have h2:=hC.few;have hg:=za2 (show n<=128 by omega) ht.rg
 have h3:=zj8 (show n<=128 by omega) (l:=zaa n t) fun c hc x hx=>(hg.gc c hc).rg x hx
 have h4:=yb5 (show card (zae (zaa n t))<=12 by omega);have h5:FB 12=16381:=rfl;omega
theorem CEnd.nil{g:Cfg}{p:Nat}{F0 F:Nat->Prop}{w2 W:World}{m:Nat}{f d:Lit->Option Lit}(h0:zaa g.n g.t=[])(h:CS g F W p [⟨⟨⟨1,0,[]⟩,some ([],[])⟩,.slice none 0 0,.slice none 0 0,.slice none 0 0,[],[]⟩] m f d)(hk:Kp F0 w2 W)
 (hs:∀k,F k->F0 k\/w2.heap.size<=k\/Hd [⟨⟨⟨1,0,[]⟩,some ([],[])⟩,.slice none 0 0,.slice none 0 0,.slice none 0 0,[],[]⟩] k):CEnd g p F0 w2 (zaa g.n g.t) W:=by
 refine⟨F,_,m,f,d,h,by simp,by rw[za9 h0,h0];rfl,hk,fun k hk=>?_⟩
 rcases hs k hk with h|h|⟨e,he,h⟩
 ·exact .inl h
 ·exact .inr h
 simp only[List.mem_singleton]at he;subst he
 simp[Value.ownBlock]at h
theorem CEnd.and{g:Cfg}{p:Nat}{F0 F1 F:Nat->Prop}{w2 w3 W:World}{L:List Me}{m:Nat}{f d:Lit->Option Lit}{v:Value}(h0:zaa g.n g.t≠[])(hr:zcl (zak (chF g.order g.probe g.n) g.cache (zaa g.n g.t)) (zaa g.n g.t)=true)
 (hL:(L.map fun e=>e.c)=(zak (chF g.order g.probe g.n) g.cache (zaa g.n g.t)).1)(h:CS g F W p (L++[⟨⟨⟨3,0,zaf (zak (chF g.order g.probe g.n) g.cache (zaa g.n g.t)).2⟩,none⟩,v,.slice none 0 0,.slice none 0 0,[],[]⟩]) m f d)
 (hk1:Kp F0 w2 w3)(hs1:∀k,F1 k->F0 k\/w2.heap.size<=k)(hk:Kp F1 w3 W)(hs:∀k,F k->F1 k\/w3.heap.size<=k\/Hd [⟨⟨⟨3,0,zaf (zak (chF g.order g.probe g.n) g.cache (zaa g.n g.t)).2⟩,none⟩,v,.slice none 0 0,.slice none 0 0,[],[]⟩] k)
 (hv:∀k,v.ownBlock=some k->w2.heap.size<=k):CEnd g p F0 w2 (zaa g.n g.t) W:=by
 refine⟨F,_,m,f,d,h,by simp,?_,hk1.trans' hk hs1,fun k hk=>?_⟩
 ·rw[zcp h0 hr,List.map_append,hL]
  have e1:(L++[(⟨⟨⟨3,0,zaf (zak (chF g.order g.probe g.n) g.cache (zaa g.n g.t)).2⟩,none⟩,v,.slice none 0 0,.slice none 0 0,[],[]⟩:Me)]).length-1=(zak (chF g.order g.probe g.n) g.cache (zaa g.n g.t)).1.length:=by
   rw[<-hL];simp
  rw[e1]
  have e2:nd (nds ((zak (chF g.order g.probe g.n) g.cache (zaa g.n g.t)).1++List.map (fun(e:Me)=>e.c) [(⟨⟨⟨3,0,zaf (zak (chF g.order g.probe g.n) g.cache (zaa g.n g.t)).2⟩,none⟩,v,.slice none 0 0,.slice none 0 0,[],[]⟩:Me)])) (((zak (chF g.order g.probe g.n) g.cache (zaa g.n g.t)).1.length:Nat):Int)=⟨3,0,zaf (zak (chF g.order g.probe g.n) g.cache (zaa g.n g.t)).2⟩:=by
   refine zc0 (c:=⟨⟨3,0,zaf (zak (chF g.order g.probe g.n) g.cache (zaa g.n g.t)).2⟩,none⟩) ?_
   simp
  rw[e2];simp
 rcases hs k hk with h|h|⟨e,he,h⟩
 ·exact hs1 k h
 ·exact .inr (Nat.le_trans hk1.size h)
 simp only[List.mem_singleton]at he;subst he
 rcases h with h|h|h
 ·exact .inr (hv k h)
 ·simp[Value.ownBlock]at h
 simp[Value.ownBlock]at h
theorem CEnd.one{g:Cfg}{p:Nat}{F0 F:Nat->Prop}{w2 W:World}{L:List Me}(hn:g.n<=128)(hch:Chooses (chF g.order g.probe g.n) g.n)(ht:tOk g.n g.t)(h0:zaa g.n g.t≠[])(hr:zcl (zak (chF g.order g.probe g.n) g.cache (zaa g.n g.t)) (zaa g.n g.t)=false)
 (hL:(L.map fun e=>e.c)=(zak (chF g.order g.probe g.n) g.cache (zaa g.n g.t)).1)(h:CC g F W p L)(hk1:Kp F0 w2 W)(hs1:∀k,F k->F0 k\/w2.heap.size<=k):CEnd g p F0 w2 (zaa g.n g.t) W:=by
 obtain⟨m,d,_,hcs,_⟩:=h;have hC:=core hn hch ht g.cache;obtain⟨k,e,_,hk,_⟩:=zrv hC (za2 hn ht.rg) h0 hr;refine⟨F,L,m,_,d,hcs,fun e=>?_,?_,hk1,hs1⟩
 ·rw[e]at hL;rw[<-hL]at hk;simp at hk
 rw[zcq h0 hr,hL]
 have:L.length=(zak (chF g.order g.probe g.n) g.cache (zaa g.n g.t)).1.length:=by rw[<-hL,List.length_map]
 rw[this]
theorem zx3(g:Cfg)(hn:g.n<=128)(F0:Nat->Prop)(w2:World)(B:Nat)(va:Option Addr)(vc:Nat)(l:List Ce)(hown:OwnC w2 B (.slice va l.length vc) l)(hin:CsIn w2 B (.slice va l.length vc) l)(hat:AtN g.n g.t g.t.length l)(hxs:(l.map fun e=>e.xs)=zaa g.n g.t)(ht:tOk g.n g.t)(hF:∀k,F0 k->k<B):Env g F0 w2 va l none []:=by
 have hlen:l.length<=4096:=by
  have:=congrArg List.length hxs;rw[List.length_map]at this;rw[this];exact Nat.le_trans (zco _ _) ht.len
 refine⟨⟨fun i hi=>?_,fun q hq=>?_,fun e he q hq=>?_,hlen,fun e he=>?_,fun e he=>?_⟩,⟨IntCells.nil _ _,fun q hq=>by simp at hq,by simp⟩,?_,?_⟩
 ·rcases hown.shape with⟨h1,h2⟩|⟨g0,cp,h1,h2,h3⟩
  ·subst h2;simp at hi
  simp only[Value.slice.injEq]at h1;obtain⟨rfl,_,rfl⟩:=h1;refine⟨g0,0,rfl,?_,?_,(hin (gd l i) (by rw[zar hi];exact List.getElem_mem hi)).2.2.1⟩
  ·have:=hown.c0 rfl hi;simpa using this
  have:=hown.c1 rfl hi;simpa using this
 ·rcases hown.shape with⟨h1,h2⟩|⟨g0,cp,h1,h2,h3⟩
  ·simp only[Value.slice.injEq]at h1;rw[h1.1]at hq;simp at hq
  simp only[Value.slice.injEq]at h1;rw[h1.1]at hq;simp only[Option.some.injEq]at hq;subst hq;exact⟨fun hf=>by have:=hF _ hf;simp only at this;omega,h3⟩
 ·obtain⟨k1,k2,_⟩:=(hin e he).2.2.2 q hq;exact⟨fun hf=>by have:=hF _ hf;omega,k2⟩
 ·obtain⟨j,hj,_,_,hx⟩:=hat e he;rw[hx];have h1:=zvk (g.t.getD j []) g.n;refine⟨by omega,fun y hy=>?_,fun h0=>?_⟩
  ·have:=(zb4.1 hy).2;exact⟨by omega,by omega⟩
  exact(zb4.1 h0).2.1 rfl
 ·obtain⟨j,hj,hi,htt,hx⟩:=hat e he;refine⟨j,hj,hi,htt,fun x hx=>by simp at hx,?_⟩;rw[hx];exact(List.filter_eq_self.2 fun y _=>by simp).symm
 ·rw[hxs];exact za2 hn ht.rg
 rw[hxs];exact zod
def ybz(n:Nat)(t:List Cl)(order:List Int)(o1 o2:Bool)(w:World)(e:Ending)(w':World):Prop:=
 ∃(na:Option Addr)(nc:Nat)(ca:Option Addr)(cc:Nat)(C:List Clm)(L:List Me),e=.returned (.tuple #[.agg #[.int .i64 (n:Int),.slice na (zad (chF order o1 n) o2 n t).length nc],.slice ca (zad (chF order o1 n) o2 n t).length cc,.int .i64 0])/\
  C.length=(zad (chF order o1 n) o2 n t).length/\NdCells w' na (nds (zad (chF order o1 n) o2 n t))/\zz1 w' na (nds (zad (chF order o1 n) o2 n t))/\zox w' ca C/\CpMem w' w.heap.size (.slice na L.length nc) (.slice ca L.length cc) L/\nds (L.map fun e=>e.c)=nds (zad (chF order o1 n) o2 n t)/\clms L=C/\Below w.heap.size w w'/\
  ∀(i:Nat)(c:Nc),(zad (chF order o1 n) o2 n t)[i]?=some c->match c.tag with|none=>C.getD i ⟨[],[]⟩=⟨[],[]⟩|some (l,term)=>∃a,C.getD i ⟨[],[]⟩=⟨term,a⟩/\ClOf n t l term a
theorem zw9{g:Cfg}{n:Nat}{t:List Cl}{order:List Int}{o1 o2:Bool}{w WE w5 w7:World}{p lb db:Nat}{na:Option Addr}{nc cb cc:Nat}{L:List Me}{m:Nat}{f d:Lit->Option Lit}{l:List Ce}{q:Nat}{vt va:Value}{ix:List Int}
 (hn:g.n=n)(ht:g.t=t)(ho:g.order=order)(hp:g.probe=o1)(hc:g.cache=o2)
 (h:CAt g WE p lb db (.slice na L.length nc) (.slice (some ⟨cb,0,none⟩) L.length cc) L m f d)(hq:L.length=q+1)
 (hcm:zad (chF g.order g.probe g.n) g.cache g.n g.t=(L.map fun e=>e.c).set (L.length-1) ⟨nd (nds (L.map fun e=>e.c)) (L.length-1:Nat),some (zaa g.n g.t,[])⟩)
 (hb:Below WE.heap.size WE w5)(hvt:OwnI w5 WE.heap.size vt [])(hva:OwnI w5 WE.heap.size va ix)(hix:ix=zc4 (l.map fun e=>e.i))(_hil:ix.length<=1073741824)
 (hleft:∀e∈l,Left1 g.n g.t [] e.i e.xs)(hxs:(l.map fun e=>e.xs)=zaa g.n g.t)
 (hll:∀e∈L,e.c.nd.ins.length<=1073741824){M:Nat->Prop}(hk:Kp M ((w5.setCell ⟨cb,q*2,none⟩ vt).setCell ⟨cb,q*2+1,none⟩ va) w7)(hM:∀k,M k->k<g.B)(hBW:g.B<=WE.heap.size)(hBw:w.heap.size<=g.B)(hw:Below w.heap.size w w7):
 ybz n t order o1 o2 w (.returned (.tuple #[.agg #[.int .i64 (n:Int),.slice na L.length nc],.slice (some ⟨cb,0,none⟩) L.length cc,.int .i64 0])) w7:=by
 subst hn ht ho hp hc
 have hq1:L.length-1=q:=by omega
 have hne:L≠[]:=fun e=>by rw[e]at hq;simp at hq
 obtain⟨L',hL1,hL2,hL3,hmem⟩:=zt9 h rfl hne hb hvt hva (M:=M) (W7:=w7) (by rw[hq1];exact hk) hM hBW
 have hlen:(zad (chF g.order g.probe g.n) g.cache g.n g.t).length=L.length:=by rw[hcm,List.length_set,List.length_map]
 have hnds:nds (zad (chF g.order g.probe g.n) g.cache g.n g.t)=nds (L.map fun e=>e.c):=by rw[hcm];exact zeu
 rw[<-hL1]at hmem
 have hll':∀e∈L',e.c.nd.ins.length<=1073741824:=fun e he=>by
  have h1:e.c∈L'.map fun e=>e.c:=List.mem_map.2 ⟨e,he,rfl⟩
  rw[hL2]at h1;obtain⟨e2,he2,he3⟩:=List.mem_map.1 h1;rw[<-he3];exact hll e2 he2
 have hN:=hmem.nodes hll';have hC:=hmem.claims;rw[hL2]at hN;rw[hL3]at hC;refine⟨na,nc,some ⟨cb,0,none⟩,cc,(clms L).set (L.length-1) ⟨[],ix⟩,L',by rw[hlen],by rw[hlen,List.length_set];simp[clms],by rw[hnds];exact hN.1,by rw[hnds];exact hN.2,hC,hmem.lower hBw,by rw[hnds,hL2],hL3,hw,?_⟩;intro i c hi;rw[hcm,List.getElem?_set]at hi
 by_cases e:L.length-1=i
 ·rw[if_pos e]at hi
  split at hi
  ·obtain rfl:=(Option.some.inj hi).symm;refine⟨ix,?_,?_⟩
   ·subst e;rw[List.getD_eq_getElem?_getD,List.getElem?_set_self (by simp[clms];omega)];rfl
   rw[hix,<-hxs]
   exact⟨l.map fun e=>(e.i,e.xs),by simp[Function.comp_def],by simp[Function.comp_def],fun e he=>by
    obtain⟨x,hx,rfl⟩:=List.mem_map.1 he
    exact hleft x hx⟩
  simp at hi
 rw[if_neg e,List.getElem?_map]at hi;obtain⟨x,hx,rfl⟩:=Option.map_eq_some_iff.1 hi;have htag:=(h.me x (List.mem_of_getElem? hx)).tag
 have hgd:((clms L).set (L.length-1) ⟨[],ix⟩).getD i ⟨[],[]⟩=⟨x.tm,x.at'⟩:=by
  rw[List.getD_eq_getElem?_getD,List.getElem?_set_ne e,clms,List.getElem?_map,hx];rfl
 rw[hgd];unfold ydj at htag
 split
 ·rename_i hh
  rw[hh]at htag;rw[htag.1,htag.2]
 rename_i l' term' hh
 rw[hh]at htag;exact⟨x.at',by rw[htag.1],htag.2⟩
theorem zwb{ch:List Cl->Int}{n:Nat}{t:List Cl}{cache:Bool}(hn:n<=128)(hch:Chooses ch n)(ht:tOk n t){i:Nat}{l:List Cl}(htl:tagged (zak ch cache (zaa n t)).1 i l):l.length<=4096:=by
 have hC:=core hn hch ht cache
 have htg:∀i l,tagged (zak ch cache (zaa n t)).1 i l->gL n l/\l≠[]:=fun i l h=>zfx hC.inv.inv h
 obtain⟨c,tm,hc,e⟩:=htl;obtain⟨_,hR⟩:=hC.inv.tg i c l tm hc e;have hgl:=(htg i l ⟨c,tm,hc,e⟩).1
 have hex:∀c∈l,∃j:Nat,j<t.length/\Left1 n t tm j c:=fun c hc=>by
  obtain⟨i,hi⟩:=hR c hc;obtain⟨j,hj,e,r⟩:=hi;exact⟨j,hj,by subst e;exact⟨j,hj,rfl,r⟩⟩
 have:l.length<=t.length:=by
  have hch:∀c:Cl,∃j:Nat,c∈l->j<t.length/\Left1 n t tm j c:=fun c=>by
   by_cases h:c∈l
   ·obtain⟨j,h1,h2⟩:=hex c h;exact⟨j,fun _=>⟨h1,h2⟩⟩
   exact⟨0,fun h'=>absurd h' h⟩
  obtain⟨f,hf⟩:=Classical.axiomOfChoice hch
  have:=zb7 (l:=l.map fun c=>(f c:Int)) (b:=t.length) (by
   show List.Pairwise _ _
   rw[List.pairwise_map];refine List.Pairwise.imp_of_mem (fun{a b}ha hb hab e=>?_) hgl.so
   have e':f a=f b:=by omega
   have h1:=(hf a ha).2;rw[e']at h1;have:=h1.fun (hf b hb).2;subst this
   exact ze5 _ hab) (fun y hy=>by
   obtain⟨c,hc,rfl⟩:=List.mem_map.1 hy;have:=(hf c hc).1
   omega)
  simpa using this
 exact Nat.le_trans this ht.len
theorem zw7{ch:List Cl->Int}{n:Nat}{t:List Cl}{cache:Bool}(hn:n<=128)(hch:Chooses ch n)(ht:tOk n t){i:Nat}{c:Nc}(hc:(zak ch cache (zaa n t)).1[i]?=some c):c.nd.ins.length<=8192:=by
 have hC:=core hn hch ht cache;have hF:=hC.inv.inv i c hc
 by_cases hk3:c.nd.kind=3
 ·have side:∀(l:List Cl)(x:Int)(j:Nat),tagged (zak ch cache (zaa n t)).1 j l->Side (zak ch cache (zaa n t)).1 l x i->c.nd.ins.length<=8192:=fun l x j htl hs=>by
   rcases hs with⟨_,d,hd,hdn⟩|⟨_,d,k,ins,hd,hdn,_,_,hf,_⟩
   ·rw[hc]at hd;simp at hd;subst hd;simp_all
   rw[hc]at hd;simp at hd;subst hd;have h1:=zwb hn hch ht htl;have hgl:=(zfx hC.inv.inv htl).1;have h2:=hf.len hn (zbh hgl.gc x)
   have h3:(zah l x).length<=l.length:=by
    unfold zah;refine Nat.le_trans (zbc _) ?_;rw[List.length_map];exact List.length_filter_le _ _
   rw[hdn]
   simp[zaf]
   omega
  rcases hC.use i c hc with(h|⟨_,d,hd,hm,hdk⟩|⟨d,hd,hm,hdk⟩)|⟨_,h⟩
  ·omega
  ·obtain⟨j,hj⟩:=List.getElem?_of_mem hd;have hF2:=hC.inv.inv j d hj
   cases hF2 with
   |dec h1 h2 h3 h4 h5 h6 h7 h8 h9 h10=>
     rename_i l tm a b
     have htl:tagged (zak ch cache (zaa n t)).1 j l:=⟨_,_,hj,rfl⟩
     simp[zaf]at hm
     rcases hm with e|e
     ·have:i=a:=by omega
      subst this;exact side l _ j htl h9
     have:i=b:=by omega
     subst this;exact side l _ j htl h10
   |_=>simp at hdk
  ·exact absurd (zvj hC.inv.inv hc hk3 d hd hm hdk) (by simp)
  exact absurd hk3 h
 cases hF<;>simp_all
theorem zqv{ch:List Cl->Int}{n:Nat}{t:List Cl}{cache:Bool}(hn:n<=128)(hch:Chooses ch n)(ht:tOk n t):∀x∈nds (zad ch cache n t),x.ins.length<=8192:=by
 by_cases h0:zaa n t=[]
 ·rw[za9 h0];intro x hx
  simp[nds]at hx
  subst hx
  simp
 have hC:=core hn hch ht cache
 have hcore:∀x∈nds (zak ch cache (zaa n t)).1,x.ins.length<=8192:=fun x hx=>by
  obtain⟨c,hc,rfl⟩:=List.mem_map.1 hx;obtain⟨i,hi⟩:=List.getElem?_of_mem hc;exact zw7 hn hch ht hi
 cases hr:zcl (zak ch cache (zaa n t)) (zaa n t)with
 |false=>rw[zfu h0 hr];exact hcore
 |true=>
   rw[zft h0 hr];intro x hx
   rcases List.mem_append.1 hx with hx|hx
   ·exact hcore x hx
   simp at hx;subst hx;have h1:=hC.fit.len hn (za2 hn ht.rg);have h2:=zco n t;have h3:=ht.len
   simp[zaf]
   omega
theorem zw5{g:Cfg}{L:List Me}(hn:g.n<=128)(hch:Chooses (chF g.order g.probe g.n) g.n)(ht:tOk g.n g.t){c:Nc}{k:Nat}(hcm:zad (chF g.order g.probe g.n) g.cache g.n g.t=(L.map fun e=>e.c).set k c)(hc:c.nd=nd (nds (L.map fun e=>e.c)) (k:Nat)):∀e∈L,e.c.nd.ins.length<=1073741824:=fun e he=>by
 obtain⟨nd0,tg⟩:=c;simp only at hc;subst hc;have h1:=zqv (cache:=g.cache) hn hch ht e.c.nd (by rw[hcm,zeu];exact List.mem_map.2 ⟨e.c,List.mem_map.2 ⟨e,he,rfl⟩,rfl⟩);omega
end Go.Proofs.YtnlaakmglhjjmaaGreatDoor
