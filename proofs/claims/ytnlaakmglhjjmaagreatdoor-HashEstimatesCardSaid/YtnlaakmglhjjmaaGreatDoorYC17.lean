/- Parts of the proofs of laws. Texts: CpM, CpP, CpL, CpH. -/
import Derived.Test.YtnlaakmglhjjmaaGreatDoorYC16
set_option maxHeartbeats 8000000
set_option maxRecDepth 100000
set_option linter.all false
namespace Go.Proofs.YtnlaakmglhjjmaaGreatDoor
open Go.RowKit Cen
structure Me where
 c:Nc
 v:Value
 vt:Value
 va:Value
 tm:List Int
 at':List Int
def nde(e:Me):List Value:=[.int .i64 e.c.nd.kind,.int .i64 e.c.nd.lit,e.v]
theorem zjo(e:Me):(nde e).length=3:=rfl
def cle(e:Me):List Value:=[e.vt,e.va]
theorem zis(e:Me):(cle e).length=2:=rfl
theorem yas:Elem 72 136 2 48 (.agg #[.slice none 0 0,.slice none 0 0]):=.mk Tryz.underlying72 (by kernel_rfl) rfl (by decide)
theorem MapL.more{k e:TypeId}{w:World}{b n m:Nat}{f:Lit->Option Lit}(h:MapL k e w b n f)(hm:n<=m):MapL k e w b m f:=by
 obtain⟨D,⟨es,clock,h1,h2,h3,h4⟩,r⟩:=h;exact⟨D,⟨es,clock,h1,h2,Nat.le_trans h3 hm,h4⟩,r⟩
structure Cfg where
 B:Nat
 n:Nat
 t:List Cl
 oa:Option Addr
 oc:Nat
 order:List Int
 probe:Bool
 cache:Bool
def ydj(g:Cfg)(e:Me):Prop:=match e.c.tag with
 |none=>e.tm=[]/\e.at'=[]
 |some (l,term)=>e.tm=term/\ClOf g.n g.t l term e.at'
structure MeAt(g:Cfg)(F:Nat->Prop)(w:World)(e:Me):Prop where
 v:OwnI w g.B e.v e.c.nd.ins
 vF:∀k,e.v.ownBlock=some k->¬F k
 vt:OwnI w g.B e.vt e.tm
 vtF:∀k,e.vt.ownBlock=some k->¬F k
 va:OwnI w g.B e.va e.at'
 vaF:∀k,e.va.ownBlock=some k->¬F k
 tag:ydj g e
theorem OwnI.blk{w:World}{base:Nat}{v:Value}{l:List Int}(h:OwnI w base v l){k:Nat}(hk:v.ownBlock=some k):base<=k/\k<w.heap.size:=World.ownsRow.lt h k hk
theorem MeAt.kept{g:Cfg}{F F' M:Nat->Prop}{w w':World}{e:Me}(h:MeAt g F w e)(hk:Kp M w w')(hm:∀k,M k->F k)(hF:∀k,k<w.heap.size->F' k->F k):MeAt g F' w' e:=
 ⟨h.v.kept hk fun k hv hM=>h.vF k hv (hm k hM),fun k hv hf=>h.vF k hv (hF k (h.v.blk hv).2 hf),
  h.vt.kept hk fun k hv hM=>h.vtF k hv (hm k hM),fun k hv hf=>h.vtF k hv (hF k (h.vt.blk hv).2 hf),
  h.va.kept hk fun k hv hM=>h.vaF k hv (hm k hM),fun k hv hf=>h.vaF k hv (hF k (h.va.blk hv).2 hf),h.tag⟩
def Fr(p lb db:Nat)(nv cv:Value)(k:Nat):Prop:=k=p\/k=lb\/k=db\/nv.ownBlock=some k\/cv.ownBlock=some k
structure CAt(g:Cfg)(w:World)(p lb db:Nat)(nv cv:Value)(L:List Me)(m:Nat)(f d:Lit->Option Lit):Prop where
 blk:Blk w p #[.int .i64 g.n,.slice g.oa g.order.length g.oc,.bool g.probe,.bool g.cache,nv,cv,.map (some lb),.map (some db)] 128
 rn:OwnL nde 134 3 w g.B nv L
 rc:OwnL cle 136 2 w g.B cv L
 me:∀e∈L,MeAt g (Fr p lb db nv cv) w e
 lm:MapL 3 3 w lb m f
 dm:MapL 9 3 w db m d
 s1:p≠lb/\p≠db/\lb≠db
 s2:nv.ownBlock≠some p/\nv.ownBlock≠some lb/\nv.ownBlock≠some db
 s3:cv.ownBlock≠some p/\cv.ownBlock≠some lb/\cv.ownBlock≠some db
 s4:∀k,nv.ownBlock=some k->cv.ownBlock≠some k
 lo:g.B<=p/\g.B<=lb/\g.B<=db
 bd:L.length<=65536
def Hd(L:List Me)(k:Nat):Prop:=∃e∈L,e.v.ownBlock=some k\/e.vt.ownBlock=some k\/e.va.ownBlock=some k
def CS(g:Cfg)(F:Nat->Prop)(w:World)(p:Nat)(L:List Me)(m:Nat)(f d:Lit->Option Lit):Prop:=
 ∃lb db nv cv,CAt g w p lb db nv cv L m f d/\∀k,F k↔(Fr p lb db nv cv k\/Hd L k)
theorem CAt.later{g:Cfg}{w w':World}{p lb db:Nat}{nv cv:Value}{L:List Me}{m:Nat}{f d:Lit->Option Lit}(h:CAt g w p lb db nv cv L m f d)(hb:Below w.heap.size w w'):CAt g w' p lb db nv cv L m f d:=
 ⟨h.blk.later hb,h.rn.later hb,h.rc.later hb,fun e he=>(h.me e he).kept (Kp.below (M:=fun _=>False) hb) (fun _ hf=>hf.elim) (fun _ _ hf=>hf),h.lm.later hb,h.dm.later hb,h.s1,h.s2,h.s3,h.s4,h.lo,h.bd⟩
theorem CS.later{g:Cfg}{F:Nat->Prop}{w w':World}{p:Nat}{L:List Me}{m:Nat}{f d:Lit->Option Lit}(h:CS g F w p L m f d)(hb:Below w.heap.size w w'):CS g F w' p L m f d:=
 let⟨lb,db,nv,cv,h1,h2⟩:=h;⟨lb,db,nv,cv,h1.later hb,h2⟩
theorem CS.low{g:Cfg}{F:Nat->Prop}{w:World}{p:Nat}{L:List Me}{m:Nat}{f d:Lit->Option Lit}(h:CS g F w p L m f d){k:Nat}(hk:F k):g.B<=k/\k<w.heap.size:=by
 obtain⟨lb,db,nv,cv,h1,h2⟩:=h
 rcases(h2 k).1 hk with(rfl|rfl|rfl|hk|hk)|⟨e,he,hk|hk|hk⟩
 ·exact⟨h1.lo.1,h1.blk.lt⟩
 ·exact⟨h1.lo.2.1,h1.lm.lt⟩
 ·exact⟨h1.lo.2.2,h1.dm.lt⟩
 ·exact World.ownsRow.lt h1.rn k hk
 ·exact World.ownsRow.lt h1.rc k hk
 ·exact(h1.me e he).v.blk hk
 ·exact(h1.me e he).vt.blk hk
 exact(h1.me e he).va.blk hk
theorem CS.kept{g:Cfg}{F M:Nat->Prop}{w w':World}{p:Nat}{L:List Me}{m:Nat}{f d:Lit->Option Lit}(h:CS g F w p L m f d)(hk:Kp M w w')(hM:∀k,M k->¬F k):CS g F w' p L m f d:=by
 obtain⟨lb,db,nv,cv,h1,h2⟩:=h
 have hn:∀k,Fr p lb db nv cv k->¬M k:=fun k hf hm=>hM k hm ((h2 k).2 (.inl hf))
 refine⟨lb,db,nv,cv,⟨h1.blk.kept hk (hn _ (.inl rfl)),h1.rn.kept hk fun k hv=>hn k (.inr (.inr (.inr (.inl hv)))),h1.rc.kept hk fun k hv=>hn k (.inr (.inr (.inr (.inr hv)))),fun e he=>?_,
  h1.lm.kept hk (hn _ (.inr (.inl rfl))),h1.dm.kept hk (hn _ (.inr (.inr (.inl rfl)))),h1.s1,h1.s2,h1.s3,h1.s4,h1.lo,h1.bd⟩,h2⟩
 have hm:=h1.me e he
 exact⟨hm.v.kept hk fun k hv hx=>hM k hx ((h2 k).2 (.inr ⟨e,he,.inl hv⟩)),hm.vF,hm.vt.kept hk fun k hv hx=>hM k hx ((h2 k).2 (.inr ⟨e,he,.inr (.inl hv)⟩)),hm.vtF,
  hm.va.kept hk fun k hv hx=>hM k hx ((h2 k).2 (.inr ⟨e,he,.inr (.inr hv)⟩)),hm.vaF,hm.tag⟩
theorem zz9{g:Cfg}{w w3 w5:World}{p lb db g3 g5 cap3 cap5:Nat}{nv cv:Value}{L:List Me}{m:Nat}{f d:Lit->Option Lit}{e:Me}{w1:World}
 (h:CAt g w p lb db nv cv L m f d)(he:MeAt g (Fr p lb db nv cv) w e)(hl:L.length<65536)(hb1:Below w.heap.size w w1)
 (hg3:w1.grownBy w3 nv.ownBlock)(ho3:OwnL nde 134 3 w3 g.B (.slice (some ⟨g3,0,none⟩) (L.length+1) cap3) (L++[e]))(h3:nv.ownBlock=some g3\/w1.heap.size<=g3)
 (hg5:(w3.setCell ⟨p,4,none⟩ (.slice (some ⟨g3,0,none⟩) (L.length+1) cap3)).grownBy w5 cv.ownBlock)(ho5:OwnL cle 136 2 w5 g.B (.slice (some ⟨g5,0,none⟩) (L.length+1) cap5) (L++[e]))(h5:cv.ownBlock=some g5\/w3.heap.size<=g5)
 (hblk:Blk w5 p #[.int .i64 g.n,.slice g.oa g.order.length g.oc,.bool g.probe,.bool g.cache,.slice (some ⟨g3,0,none⟩) (L.length+1) cap3,cv,.map (some lb),.map (some db)] 128):
 CAt g (w5.setCell ⟨p,5,none⟩ (.slice (some ⟨g5,0,none⟩) (L.length+1) cap5)) p lb db (.slice (some ⟨g3,0,none⟩) (L.length+1) cap3) (.slice (some ⟨g5,0,none⟩) (L.length+1) cap5) (L++[e]) m f d/\
 Kp (Fr p lb db nv cv) w (w5.setCell ⟨p,5,none⟩ (.slice (some ⟨g5,0,none⟩) (L.length+1) cap5))/\
 ∀k,Fr p lb db (.slice (some ⟨g3,0,none⟩) (L.length+1) cap3) (.slice (some ⟨g5,0,none⟩) (L.length+1) cap5) k->Fr p lb db nv cv k\/w.heap.size<=k:=by
 have hpl:p<w.heap.size:=h.blk.lt;have hll:=h.lm.lt;have hdl:=h.dm.lt;have hz1:=hb1.size;have hz3:w1.heap.size<=w3.heap.size:=hg3.size
 have hk3:Kp (fun k=>nv.ownBlock=some k) w1 w3:=Kp.grown hg3 fun k hk=>hk
 have hks:Kp (fun k=>k=p) w3 (w3.setCell ⟨p,4,none⟩ (.slice (some ⟨g3,0,none⟩) (L.length+1) cap3)):=Kp.setCell _ _ _ rfl
 have hk5:Kp (fun k=>cv.ownBlock=some k) (w3.setCell ⟨p,4,none⟩ (.slice (some ⟨g3,0,none⟩) (L.length+1) cap3)) w5:=Kp.grown hg5 fun k hk=>hk
 have hks2:Kp (fun k=>k=p) w5 (w5.setCell ⟨p,5,none⟩ (.slice (some ⟨g5,0,none⟩) (L.length+1) cap5)):=Kp.setCell _ _ _ rfl
 have hkF:Kp (Fr p lb db nv cv) w (w5.setCell ⟨p,5,none⟩ (.slice (some ⟨g5,0,none⟩) (L.length+1) cap5)):=
  (Kp.below (M:=Fr p lb db nv cv) hb1).trans ((hk3.mono fun k _ hk=>.inr (.inr (.inr (.inl hk)))).trans ((hks.mono fun k _ hk=>.inl hk).trans ((hk5.mono fun k _ hk=>.inr (.inr (.inr (.inr hk)))).trans (hks2.mono fun k _ hk=>.inl hk))))
 have n3:g3≠p/\g3≠lb/\g3≠db:=by
  rcases h3 with h4|h4
  ·exact⟨fun x=>h.s2.1 (x▸h4),fun x=>h.s2.2.1 (x▸h4),fun x=>h.s2.2.2 (x▸h4)⟩
  exact⟨by omega,by omega,by omega⟩
 have n5:g5≠p/\g5≠lb/\g5≠db:=by
  rcases h5 with h4|h4
  ·exact⟨fun x=>h.s3.1 (x▸h4),fun x=>h.s3.2.1 (x▸h4),fun x=>h.s3.2.2 (x▸h4)⟩
  exact⟨by omega,by omega,by omega⟩
 have l3:g3<w3.heap.size:=ho3.lt.1
 have c3:¬(cv.ownBlock=some g3):=fun x=>by
  rcases h3 with h4|h4
  ·exact h.s4 g3 h4 x
  have:=(World.ownsRow.lt h.rc g3 x).2;omega
 have n35:g3≠g5:=by
  rcases h5 with h4|h4
  ·intro x;exact c3 (x▸h4)
  omega
 have hsub:∀k,Fr p lb db (.slice (some ⟨g3,0,none⟩) (L.length+1) cap3) (.slice (some ⟨g5,0,none⟩) (L.length+1) cap5) k->Fr p lb db nv cv k\/w.heap.size<=k:=fun k hk=>by
  rcases hk with hk|hk|hk|hk|hk
  ·exact .inl (.inl hk)
  ·exact .inl (.inr (.inl hk))
  ·exact .inl (.inr (.inr (.inl hk)))
  ·simp[Value.ownBlock]at hk;subst hk
   rcases h3 with h4|h4
   ·exact .inl (.inr (.inr (.inr (.inl h4))))
   exact .inr (by omega)
  simp[Value.ownBlock]at hk;subst hk
  rcases h5 with h4|h4
  ·exact .inl (.inr (.inr (.inr (.inr h4))))
  exact .inr (by omega)
 refine⟨⟨?_,?_,?_,?_,?_,?_,h.s1,?_,?_,?_,h.lo,by rw[List.length_append];simp;omega⟩,hkF,hsub⟩
 ·exact hblk.set 5 _
 ·have e1:(L++[e]).length=L.length+1:=by simp
  have o4:OwnL nde 134 3 (w3.setCell ⟨p,4,none⟩ (.slice (some ⟨g3,0,none⟩) (L.length+1) cap3)) g.B (.slice (some ⟨g3,0,none⟩) (L.length+1) cap3) (L++[e]):=ho3.kept hks fun k hk=>by simp[Value.ownBlock]at hk;subst hk;exact n3.1
  have o5:=o4.kept hk5 fun k hk=>by simp[Value.ownBlock]at hk;subst hk;exact c3
  exact o5.kept hks2 fun k hk=>by simp[Value.ownBlock]at hk;subst hk;exact n3.1
 ·exact ho5.kept hks2 fun k hk=>by simp[Value.ownBlock]at hk;subst hk;exact n5.1
 ·intro x hx
  have hx':MeAt g (Fr p lb db nv cv) w x:=by
   rcases List.mem_append.1 hx with hx|hx
   ·exact h.me x hx
   simp at hx;subst hx;exact he
  exact hx'.kept hkF (fun _ hk=>hk) fun k hkw hk=>(hsub k hk).elim id fun h=>by omega
 ·have m1:=h.lm.later hb1;have m3:=m1.kept hk3 h.s2.2.1
  have m4:=m3.kept hks fun x=>h.s1.1 x.symm
  have m5:=m4.kept hk5 h.s3.2.1
  exact m5.kept hks2 fun x=>h.s1.1 x.symm
 ·have m1:=h.dm.later hb1;have m3:=m1.kept hk3 h.s2.2.2
  have m4:=m3.kept hks fun x=>h.s1.2.1 x.symm
  have m5:=m4.kept hk5 h.s3.2.2
  exact m5.kept hks2 fun x=>h.s1.2.1 x.symm
 ·simp[Value.ownBlock];exact n3
 ·simp[Value.ownBlock];exact n5
 intro k hk;simp[Value.ownBlock]at hk⊢;subst hk;exact fun x=>n35 x.symm
theorem CAt.lits{g:Cfg}{w w':World}{p lb db:Nat}{nv cv:Value}{L:List Me}{m:Nat}{f f' d:Lit->Option Lit}(h:CAt g w p lb db nv cv L m f d)(hm:MapL 3 3 w' lb (m+1) f')(hg:w.grownBy w' (some lb)):
 CAt g w' p lb db nv cv L (m+1) f' d/\Kp (Fr p lb db nv cv) w w':=by
 have hk:Kp (fun k=>k=lb) w w':=Kp.grown hg fun k hk=>by simp only[Option.some.injEq]at hk;exact hk.symm
 have hkF:Kp (Fr p lb db nv cv) w w':=hk.mono fun k _ hk=>.inr (.inl hk)
 refine⟨⟨h.blk.kept hk h.s1.1,h.rn.kept hk fun k hv e=>h.s2.2.1 (by rw[hv,e]),h.rc.kept hk fun k hv e=>h.s3.2.1 (by rw[hv,e]),fun e he=>(h.me e he).kept hkF (fun _ hk=>hk) (fun _ _ hk=>hk),hm,?_,h.s1,h.s2,h.s3,h.s4,h.lo,h.bd⟩,hkF⟩;exact(h.dm.kept hk fun e=>h.s1.2.2 e.symm).more (Nat.le_succ _)
theorem CAt.dones{g:Cfg}{w w':World}{p lb db:Nat}{nv cv:Value}{L:List Me}{m:Nat}{f d d':Lit->Option Lit}(h:CAt g w p lb db nv cv L m f d)(hm:MapL 9 3 w' db (m+1) d')(hg:w.grownBy w' (some db)):
 CAt g w' p lb db nv cv L (m+1) f d'/\Kp (Fr p lb db nv cv) w w':=by
 have hk:Kp (fun k=>k=db) w w':=Kp.grown hg fun k hk=>by simp only[Option.some.injEq]at hk;exact hk.symm
 have hkF:Kp (Fr p lb db nv cv) w w':=hk.mono fun k _ hk=>.inr (.inr (.inl hk))
 refine⟨⟨h.blk.kept hk h.s1.2.1,h.rn.kept hk fun k hv e=>h.s2.2.2 (by rw[hv,e]),h.rc.kept hk fun k hv e=>h.s3.2.2 (by rw[hv,e]),fun e he=>(h.me e he).kept hkF (fun _ hk=>hk) (fun _ _ hk=>hk),?_,hm,h.s1,h.s2,h.s3,h.s4,h.lo,h.bd⟩,hkF⟩;exact(h.lm.kept hk fun e=>h.s1.2.2 e).more (Nat.le_succ _)
def CC(g:Cfg)(F:Nat->Prop)(w:World)(p:Nat)(L:List Me):Prop:=
 ∃m d,m<=L.length/\CS g F w p L m (lmap (L.map fun e=>e.c)) d/\dok g.cache (L.map fun e=>e.c) d
theorem CC.later{g:Cfg}{F:Nat->Prop}{w w':World}{p:Nat}{L:List Me}(h:CC g F w p L)(hb:Below w.heap.size w w'):CC g F w' p L:=
 let⟨m,d,h1,h2,h3⟩:=h;⟨m,d,h1,h2.later hb,h3⟩
theorem CC.kept{g:Cfg}{F M:Nat->Prop}{w w':World}{p:Nat}{L:List Me}(h:CC g F w p L)(hk:Kp M w w')(hM:∀k,M k->¬F k):CC g F w' p L:=
 let⟨m,d,h1,h2,h3⟩:=h;⟨m,d,h1,h2.kept hk hM,h3⟩
theorem CC.low{g:Cfg}{F:Nat->Prop}{w:World}{p:Nat}{L:List Me}(h:CC g F w p L){k:Nat}(hk:F k):g.B<=k/\k<w.heap.size:=
 let⟨_,_,_,h2,_⟩:=h;h2.low hk
theorem Kp.trans'{F F':Nat->Prop}{w w' w'':World}(h:Kp F w w')(k:Kp F' w' w'')(hs:∀x,F' x->F x\/w.heap.size<=x):Kp F w w'':=
 ⟨k.os.trans h.os,k.tape.trans h.tape,k.output.trans h.output,Nat.le_trans h.size k.size,fun x hx hn=>
   (k.block x (Nat.lt_of_lt_of_le hx h.size) fun hf=>(hs x hf).elim hn fun h1=>by omega).trans (h.block x hx hn)⟩
def Aft(g:Cfg)(F:Nat->Prop)(p:Nat)(st':List Nc)(w w':World)(F':Nat->Prop):Prop:=
 (∃L',L'.map (fun e=>e.c)=st'/\CC g F' w' p L')/\Kp F w w'/\∀k,F' k->F k\/w.heap.size<=k
theorem Aft.refl{g:Cfg}{F:Nat->Prop}{w w':World}{p:Nat}{L:List Me}(h:CC g F w p L)(hb:Below w.heap.size w w'):Aft g F p (L.map fun e=>e.c) w w' F:=
 ⟨⟨L,rfl,h.later hb⟩,Kp.below hb,fun _ h=>.inl h⟩
theorem Aft.trans{g:Cfg}{F F' F'':Nat->Prop}{w w' w'':World}{p:Nat}{st st':List Nc}(h:Aft g F p st w w' F')(k:Aft g F' p st' w' w'' F''):Aft g F p st' w w'' F'':=by
 refine⟨k.1,?_,fun x hx=>?_⟩
 ·exact h.2.1.trans' k.2.1 h.2.2
 rcases k.2.2 x hx with h1|h1
 ·exact h.2.2 x h1
 exact .inr (Nat.le_trans h.2.1.size h1)
theorem zim(g:Cfg)(F:Nat->Prop)(p:Nat)(L:List Me)(m:Nat)(f d:Lit->Option Lit)(e:Me)(w:World)(h:CS g F w p L m f d)(he:MeAt g F w e)(hl:L.length<65536)(hB:g.B<=w.heap.size):
 Calls Tryz.prog 63 #[.pointer (some ⟨p,0,none⟩),.agg #[.int .i64 e.c.nd.kind,.int .i64 e.c.nd.lit,e.v],.agg #[e.vt,e.va]] w
  fun r w'=>r=.returned (.int .i64 L.length)/\∃F',CS g F' w' p (L++[e]) m f d/\Kp F w w'/\∀k,F' k->F k\/w.heap.size<=k\/Hd [e] k:=by
 obtain⟨lb,db,nv,cv,hAt,hF⟩:=h
 have he':MeAt g (Fr p lb db nv cv) w e:=he.kept (Kp.refl (fun _=>False) w) (fun _ h=>h.elim) fun k _ hk=>(hF k).2 (.inl hk)
 obtain⟨na,nc,rfl⟩:=hAt.rn.sliced;obtain⟨ca,cc,rfl⟩:=hAt.rc.sliced;obtain⟨⟨⟨kind,lit,ins⟩,tag⟩,v,vt,va,tm,at'⟩:=e;obtain⟨av,c1,hv⟩:=he'.v.sliced;obtain⟨at1,c2,hvt⟩:=he'.vt.sliced;obtain⟨aa1,c3,hva⟩:=he'.va.sliced;simp only at hv hvt hva
 obtain⟨e,hee⟩:∃e:Me,e=⟨⟨⟨kind,lit,ins⟩,tag⟩,v,vt,va,tm,at'⟩:=⟨_,rfl⟩
 have hen:nde e=[.int .i64 kind,.int .i64 lit,v]:=by rw[hee];rfl
 have hec:cle e=[vt,va]:=by rw[hee];rfl
 rw[<-hee]at he';have HE:=lh he';have HAT:=lh hAt;have HEE:=lh hee
 have HON:Hid (∀u∈nde e,u.oneCell'=true):=by intro u hu;rw[hen]at hu;simp at hu;rcases hu with rfl|rfl|rfl<;>first|rfl|(rw[hv];rfl)
 have HOC:Hid (∀u∈cle e,u.oneCell'=true):=by intro u hu;rw[hec]at hu;simp at hu;rcases hu with rfl|rfl<;>first|(rw[hvt];rfl)|(rw[hva];rfl)
 have HEN:=lh hen;have HEC:=lh hec;obtain⟨w0,hw0⟩:=nm ((w.alloc (.cells #[.int .i64 kind,.int .i64 lit,v] 134)).alloc (.cells #[vt,va] 136))
 have hb0:Below w.heap.size w w0:=by rw[hw0];exact(ba _ _).alloc (by simp) _
 have hx0:Blk w0 w.heap.size #[.int .i64 kind,.int .i64 lit,v] 134:=by rw[hw0];exact(Blk.new w _ _).alloc _
 have hx1:Blk w0 (w.heap.size+1) #[vt,va] 136:=by rw[hw0];exact Blk.new' _ (by simp) _ _
 have hs0:w0.heap.size=w.heap.size+2:=by rw[hw0];simp
 have hbk:=hAt.blk.later hb0;have k4:w0.cell? ⟨p,4,none⟩=some (.slice na L.length nc):=hbk.cell 4;have hpz:p<w.heap.size:=hAt.blk.lt;have k4':w.cell? ⟨p,4,none⟩=some (.slice na L.length nc):=hAt.blk.cell 4;have j0:w0.cell? ⟨w.heap.size,0,none⟩=some (.int .i64 kind):=hx0.cell 0;have j1:w0.cell? ⟨w.heap.size,1,none⟩=some (.int .i64 lit):=hx0.cell 1;have j2:w0.cell? ⟨w.heap.size,2,none⟩=some v:=hx0.cell 2
 have h65:decide ((L.length:Int)=65536)=false:=by simp;omega
 have h65':((L.length:Int)==65536)=false:=by simp;omega
 have HL:=lh hl;have HX1:=lh hx1;have HS0:=lh hs0;have HB0:=lh hb0;have HBK:=lh hbk
 have HZB:Hid (g.B<=w0.heap.size):=by show _<=_;omega
 have HRW:Hid (OwnL nde 134 3 w0 g.B (.slice na L.length nc) L):=hAt.rn.later hb0
 have HNW:Hid (∀j u,(nde e)[j]?=some u->(w0.alloc (.cells #[.int .i64 kind,.int .i64 lit,v] 134)).cell? ⟨w0.heap.size,j,none⟩=some u):=fun j u h=>by
  rw[World.cell?_alloc_at _ _ _ _ rfl];rw[HEN.o]at h;simpa using h
 have HLL:Hid (L.length<=1073741824):=by show _<=_;omega
 have HSP:Hid (¬((Value.slice na L.length nc).ownBlock=some p)):=hAt.s2.1
 have HN1:Hid (∀k,(Value.slice na L.length nc).ownBlock=some k->k<w.heap.size):=fun k hk=>(World.ownsRow.lt hAt.rn k hk).2
 have hpz0:p<w0.heap.size:=by omega
 have hwz0:w.heap.size<w0.heap.size:=by omega
 clear hAt he he' hv hvt hva hee hen hec hb0 hx0 hx1 hs0 hbk hl;go_enter Tryz.func63,Tryz.ntmps63;go_wp2_with fail;rw[<-hw0];clear hw0;go_wp2_with fail
 go_region_law(first|(refine zd1 ycj rfl _ _ rfl g.B (.slice na L.length nc) L e rfl (HRW.o.alloc _).drew w0.heap.size rfl rfl HNW.o HON.o HLL.o (by decide) (Nat.le_trans HZB.o (by simp[World.drew])) ?_;intro g3 cap3 w3 ho3 hg3 hl3;have hk3:=Kp.grown (M:=fun k=>(Value.slice na L.length nc).ownBlock=some k) hg3 (fun k hk=>hk);have hb3:Blk w3 p #[.int .i64 g.n,.slice g.oa g.order.length g.oc,.bool g.probe,.bool g.cache,.slice na L.length nc,.slice ca L.length cc,.map (some lb),.map (some db)] 128:=Blk.kept (by exact HBK.o.alloc _) hk3 HSP.o;have m1:w3.cell? ⟨p,4,none⟩=some (.slice na L.length nc):=hb3.cell 4;have m2:=hb3.fr 4))
 all_goals
  have HG3:Hid (w0.grownBy w3 (Value.slice na L.length nc).ownBlock):=by first|exact zcb hg3|exact zb6 hg3
  have HO3:=lh ho3;have HL3:Hid ((Value.slice na L.length nc).ownBlock=some g3\/w0.heap.size<=g3):=hl3.imp id (fun h=>by rw[h];simp)
  have hkg:Kp (fun k=>(Value.slice na L.length nc).ownBlock=some k) w0 w3:=Kp.grown HG3.o fun k hk=>hk
  have hks:Kp (fun k=>k=p) w3 (w3.setCell ⟨p,4,none⟩ (.slice (some ⟨g3,0,none⟩) (L.length+1) cap3)):=Kp.setCell _ _ _ rfl;have HB3:Hid (Blk (w3.setCell ⟨p,4,none⟩ (.slice (some ⟨g3,0,none⟩) (L.length+1) cap3)) p #[.int .i64 g.n,.slice g.oa g.order.length g.oc,.bool g.probe,.bool g.cache,.slice (some ⟨g3,0,none⟩) (L.length+1) cap3,.slice ca L.length cc,.map (some lb),.map (some db)] 128):=hb3.set 4 _
  have HX3:Hid (Blk (w3.setCell ⟨p,4,none⟩ (.slice (some ⟨g3,0,none⟩) (L.length+1) cap3)) (w.heap.size+1) #[vt,va] 136):=(HX1.o.kept hkg fun e=>by have:=HN1.o _ e;omega).kept hks fun e=>by omega
  have HRC:Hid (OwnL cle 136 2 (w3.setCell ⟨p,4,none⟩ (.slice (some ⟨g3,0,none⟩) (L.length+1) cap3)) g.B (.slice ca L.length cc) L):=
   ((HAT.o.rc.later HB0.o).kept hkg fun k hk e=>HAT.o.s4 k e hk).kept hks fun k hk e=>HAT.o.s3.1 (by rw[<-e];exact hk)
  have HZ3:Hid (w0.heap.size<=(w3.setCell ⟨p,4,none⟩ (.slice (some ⟨g3,0,none⟩) (L.length+1) cap3)).heap.size):=Nat.le_trans hkg.size hks.size;clear hg3 ho3 hl3 hk3 hb3 hkg hks m1 m2;obtain⟨W3,hW3⟩:=nm (w3.setCell ⟨p,4,none⟩ (.slice (some ⟨g3,0,none⟩) (L.length+1) cap3));rw[<-hW3]at HB3 HX3 HRC HZ3;rw[<-hW3];have HW3:=lh hW3;clear hW3;have n5:W3.cell? ⟨p,5,none⟩=some (.slice ca L.length cc):=HB3.o.cell 5;have i0:W3.cell? ⟨w.heap.size+1,0,none⟩=some vt:=HX3.o.cell 0;have i1:W3.cell? ⟨w.heap.size+1,1,none⟩=some va:=HX3.o.cell 1;have hpz3:p<W3.heap.size:=HB3.o.lt
  have hwz3:w.heap.size+1<W3.heap.size:=HX3.o.lt
  have HNC:Hid (∀j u,(cle e)[j]?=some u->(W3.alloc (.cells #[vt,va] 136)).cell? ⟨W3.heap.size,j,none⟩=some u):=fun j u h=>by
   rw[World.cell?_alloc_at _ _ _ _ rfl];rw[HEC.o]at h;simpa using h
  have HSC:Hid (¬((Value.slice ca L.length cc).ownBlock=some p)):=HAT.o.s3.1;go_wp2_with fail
  go_region_law(first|(refine zd1 yas rfl _ _ rfl g.B (.slice ca L.length cc) L e rfl (HRC.o.alloc _).drew W3.heap.size rfl rfl HNC.o HOC.o HLL.o (by decide) (Nat.le_trans HZB.o (Nat.le_trans HZ3.o (by simp[World.drew]))) ?_;intro g5 cap5 w5 ho5 hg5 hl5;have hk5:=Kp.grown (M:=fun k=>(Value.slice ca L.length cc).ownBlock=some k) hg5 (fun k hk=>hk);have hb5:Blk w5 p #[.int .i64 g.n,.slice g.oa g.order.length g.oc,.bool g.probe,.bool g.cache,.slice (some ⟨g3,0,none⟩) (L.length+1) cap3,.slice ca L.length cc,.map (some lb),.map (some db)] 128:=Blk.kept (by exact HB3.o.alloc _) hk5 HSC.o;have m1:w5.cell? ⟨p,5,none⟩=some (.slice ca L.length cc):=hb5.cell 5;have m2:=hb5.fr 5))
  all_goals
   have HG5:Hid (W3.grownBy w5 (Value.slice ca L.length cc).ownBlock):=by first|exact zcb hg5|exact zb6 hg5
   have HO5:=lh ho5;have HL5:Hid ((Value.slice ca L.length cc).ownBlock=some g5\/W3.heap.size<=g5):=hl5.imp id (fun h=>by rw[h];simp);have HB5:=lh hb5;have m4:w5.cell? ⟨p,4,none⟩=some (.slice (some ⟨g3,0,none⟩) (L.length+1) cap3):=hb5.cell 4;clear hg5 ho5 hl5 hk5 hb5;have hll:=HL.o;go_wp2;go_ret;have h3:=HW3.o;subst h3;have hend:=zz9 HAT.o HE.o HL.o HB0.o HG3.o HO3.o HL3.o HG5.o HO5.o (HL5.o.imp id fun h=>by simpa[World.setCell]using h) HB5.o;obtain⟨z1,z2,z3⟩:=hend;have hee:=HEE.o;subst hee;refine⟨rfl,_,⟨lb,db,_,_,z1,fun k=>Iff.rfl⟩,z2.mono fun k _ hk=>(hF k).2 (.inl hk),fun k hk=>?_⟩
   rcases hk with hk|⟨y,hy,hk⟩
   ·exact(z3 k hk).imp (fun h=>(hF k).2 (.inl h)) .inl
   rcases List.mem_append.1 hy with hy|hy
   ·exact .inl ((hF k).2 (.inr ⟨y,hy,hk⟩))
   exact .inr (.inr ⟨y,hy,hk⟩)
def zkj(x:Int):Me:=⟨⟨⟨2,x,[]⟩,none⟩,.slice none 0 0,.slice none 0 0,.slice none 0 0,[],[]⟩
theorem zxs(g:Cfg)(F:Nat->Prop)(w:World)(x:Int):MeAt g F w (zkj x):=
 ⟨OwnL.nil _ _,fun k h=>by simp[zkj,Value.ownBlock]at h,OwnL.nil _ _,fun k h=>by simp[zkj,Value.ownBlock]at h,OwnL.nil _ _,fun k h=>by simp[zkj,Value.ownBlock]at h,⟨rfl,rfl⟩⟩
theorem zfn(g:Cfg)(F:Nat->Prop)(p:Nat)(L:List Me)(x:Int)(w:World)(h:CC g F w p L)(hx1:-128<=x)(hx2:x<=128)(hl:(litF (L.map fun e=>e.c) x).1.length<=65536)(hB:g.B<=w.heap.size):
 Calls Tryz.prog 95 #[.pointer (some ⟨p,0,none⟩),.int .i64 x] w
  fun r w'=>r=.returned (.int .i64 (litF (L.map fun e=>e.c) x).2)/\∃F',Aft g F p (litF (L.map fun e=>e.c) x).1 w w' F':=by
 obtain⟨m,d,hm,hcs,hdok⟩:=h
 have hcc:CC g F w p L:=⟨m,d,hm,hcs,hdok⟩
 obtain⟨lb,db,nv,cv,hAt,hF⟩:=hcs;have HKF:Hid (keyOf Tryz.prog 3 (.int .i64 x)=some (.int .i64 x)):=Go.Maps.keyOf_int_mk Tryz.underlying3 (WalkArith.wf_i64 (by omega));have HMP:=lh hAt.lm;have k6:w.cell? ⟨p,6,none⟩=some (.map (some lb)):=hAt.blk.cell 6;have HCC:=lh hcc
 cases hfi:(L.map fun e=>e.c).findIdx? (zdq x)with
 |some i=>
   have HP:Hid (litF (L.map fun e=>e.c) x=(L.map fun e=>e.c,i)):=by show _=_;unfold litF;rw[hfi]
   have HBI:Hid (lmap (L.map fun e=>e.c) (.int .i64 x)=some (.int .i64 (i:Int))):=by show _=_;rw[zg7,hfi];rfl
   clear hfi hl hAt hcc hdok;go_enter Tryz.func95,Tryz.ntmps95;go_wp2_with(at_lookup;refine ze4 rfl _ _ rfl zjb Tryz.underlying125 Tryz.underlying3 zgt rfl HMP.o _ _ rfl HKF.o ?_;rw[HBI.o]);go_ret;rw[HP.o];exact⟨rfl,F,Aft.refl HCC.o (Below.refl _ _)⟩
 |none=>
   have HP:Hid (litF (L.map fun e=>e.c) x=((L.map fun e=>e.c)++[⟨⟨2,x,[]⟩,none⟩],L.length)):=by show _=_;unfold litF;rw[hfi];simp
   have HBI:Hid (lmap (L.map fun e=>e.c) (.int .i64 x)=none):=by show _=_;rw[zg7,hfi];rfl
   have hll:L.length<65536:=by
    have:=HP.o;rw[this]at hl;simp at hl;omega
   have HADD:=lh (zim g F p L m _ d (zkj x) w ⟨lb,db,nv,cv,hAt,hF⟩ (zxs _ _ _ _) hll hB);have HLM:=lh (zxu hfi);have HDK:Hid (dok g.cache ((L.map fun e=>e.c)++[⟨⟨2,x,[]⟩,none⟩]) d):=zq0 hdok rfl;have HLL:=lh hll;have HM:=lh hm;clear hfi hl hAt hcc hdok hm;go_enter Tryz.func95,Tryz.ntmps95;go_wp2_with(at_lookup;refine ze4 rfl _ _ rfl zjb Tryz.underlying125 Tryz.underlying3 zgt rfl HMP.o _ _ rfl HKF.o ?_;rw[HBI.o]);refine HADD.o.mono ?_;rintro e w1⟨rfl,F',⟨lb',db',nv',cv',hAt',hF'⟩,hk1,hsub0⟩
   have hsub:∀k,F' k->F k\/w.heap.size<=k:=fun k hk=>(hsub0 k hk).imp id fun h=>h.resolve_right fun⟨y,hy,h⟩=>by
    simp only[List.mem_singleton]at hy;subst hy;simp[zkj,Value.ownBlock]at h
   clear hsub0;have q6:w1.cell? ⟨p,6,none⟩=some (.map (some lb')):=hAt'.blk.cell 6;have HAT:=lh hAt';have HK1:=lh hk1;have HMQ:=lh hAt'.lm;have HPL:Hid (plainElem (H:=Unit) Tryz.prog 3 (.int .i64 (L.length:Int))=some (.lit (.int .i64 (L.length:Int)),[])):=plainElem_int Tryz.underlying3 (WalkArith.wf_i64 (by have:=HLL.o;omega))
   have HNB:Hid (m<=1073741824):=by show _<=_;have h1:=HM.o;have h2:=HLL.o;omega
   clear hAt' hk1;go_wp2_with(at_mapUpdate;refine zor rfl _ _ _ rfl zjb Tryz.underlying125 rfl HMQ.o HNB.o (.int .i64 x) (.int .i64 (L.length:Int)) (.int .i64 x) (.int .i64 (L.length:Int)) rfl rfl HKF.o trivial HPL.o ?_);intro w5 hm5 hg5;obtain⟨z1,z2⟩:=HAT.o.lits hm5 hg5;have Z1:=lh z1;have Z2:=lh z2;clear hm5 hg5 z1 z2;go_wp2;go_ret;rw[HP.o];refine⟨rfl,F',⟨⟨L++[zkj x],by simp[zkj],m+1,d,by have:=HM.o;simp;omega,⟨lb',db',nv',cv',?_,hF'⟩,by simpa[zkj]using HDK.o⟩,HK1.o.trans' (Z2.o.mono fun k _ hk=>(hF' k).2 (.inl hk)) hsub,hsub⟩⟩
   have e:lmap ((L++[zkj x]).map fun e=>e.c)=fun y=>if y.sameKey (.int .i64 x)then some (.int .i64 (L.length:Int))else lmap (L.map fun e=>e.c) y:=by
    rw[List.map_append];have:=HLM.o;rw[List.length_map]at this;exact this
   rw[e];exact Z1.o
def ztj(l:List Ce)(term:List Int)(w:World)(e:Ending)(w':World):Prop:=
 ∃vt va,e=.returned (.agg #[vt,va])/\OwnI w' w.heap.size vt term/\OwnI w' w.heap.size va (zc4 (l.map fun e=>e.i))/\Below w.heap.size w w'
theorem znh(a:Option Addr)(cap:Nat)(l:List Ce)(at':Option Addr)(ct:Nat)(term:List Int)(w:World)(hl:l.length<=1073741823)(ht:term.length<=1073741823)(hc:CcCells w a l)(hx:IntCells w at' term):
 Calls Tryz.prog 65 #[.slice a l.length cap,.slice at' term.length ct] w (ztj l term w):=by
 obtain⟨w0,hw0⟩:=nm (w.alloc (.cells #[.slice none 0 0,.slice none 0 0] 136))
 have hb0:Below w.heap.size w w0:=by rw[hw0];exact ba _ _
 have hs0:w0.heap.size=w.heap.size+1:=by rw[hw0];simp
 have HX:=lh (hc.keep hb0);have HT:=lh (hx.keep hb0);have HB0:=lh hb0;have HS0:=lh hs0
 have HBK:Hid (w0.heap[w.heap.size]?=some (.cells #[.slice none 0 0,.slice none 0 0] 136 (0,0))):=by show _=_;rw[hw0];exact Blk.new' _ rfl _ _
 have HM:Hid (l.length<=maxLen):=by show _<=_;unfold maxLen;omega
 clear hc hx hb0 hs0;go_enter Tryz.func65,Tryz.ntmps65;go_wp2_with(at_make;go_loud(refine mk ziz rfl _ _ rfl (w.heap.size+1) .i64 .i64 _ _ l.length rfl rfl rfl rfl (by omega) HM.o (by simp) I1 0 rfl ?_));intro w1 ho1 hg1;rw[<-hw0]at hg1;have HG1:Hid (Below w.heap.size w w1):=HB0.o.trans (Kp.toBelow (M:=fun _=>False) (Kp.grown hg1 fun k h=>by cases h) HB0.o.size fun k _ h=>h)
 have HK1:Hid (Below w0.heap.size w0 w1):=Kp.toBelow (M:=fun _=>False) (Kp.grown hg1 fun k h=>by cases h) (Nat.le_refl _) fun k _ h=>h
 have HO1:=lh ho1;clear hw0 ho1 hg1;go_wp2_with fail
 go_loopw[12](fun i wr=>∃k:Nat,k<=l.length/\i=.int .i64 k/\∃M,OwnI wr (w.heap.size+1) (.slice (some ⟨w.heap.size+1,0,none⟩) l.length l.length) M/\l.length=M.length/\M.take k=(l.take k).map (fun e=>e.i)/\Kp (fun y=>y=w.heap.size+1) w1 wr)(fun i _=>l.length-(intOf i).toNat)
 case atStart=>exact⟨0,Nat.zero_le _,rfl,_,HO1.o,by simp,rfl,Kp.refl _ _⟩
 obtain⟨k,hk,rfl,M,hown,hml,htk,hkp⟩:=hrel;have hbr:Below w0.heap.size w0 wr:=HK1.o.trans (hkp.toBelow HK1.o.size fun y hy h=>by have:=HS0.o;omega);have HBR:=lh hbr;have HOW:=lh hown;have HML:=lh hml;have HTK:=lh htk;have HKP:=lh hkp;clear hbr hown hml htk hkp
 by_cases hlt:k<l.length
 ·obtain⟨b,off,rfl,c0,c1,_⟩:=HX.o.keep HBR.o k hlt
  have hki:(k:Int)<(l.length:Int):=by omega
  have hkM:k<M.length:=by rw[<-HML.o];exact hlt
  have gl:=HOW.o.lt.1;have f1:=HOW.o.fr HML.o k;have a0:=OwnI.c0 HOW.o HML.o hkM;have HPUT:Hid (OwnI (wr.setCell ⟨w.heap.size+1,k,none⟩ (.int .i64 (gd l k).i)) (w.heap.size+1) (.slice (some ⟨w.heap.size+1,0,none⟩) l.length l.length) (M.set k (gd l k).i)):=HOW.o.put1 HML.o ztk k hkM _ _ rfl
  have HTK2:Hid ((M.set k (gd l k).i).take (k+1)=(l.take (k+1)).map fun e=>e.i):=by
   show _=_
   rw[List.take_succ_eq_append_getElem (by rw[List.length_set];exact hkM),List.take_set_of_le (Nat.le_refl _),HTK.o,List.take_succ_eq_append_getElem hlt,List.map_append,zar hlt]
   simp
  have HKK:Hid (∀c,Kp (fun y=>y=w.heap.size+1) w1 (wr.setCell ⟨w.heap.size+1,k,none⟩ c)):=fun c=>Kp.trans (M:=fun y=>y=w.heap.size+1) HKP.o (Kp.setCell (M:=fun y=>y=w.heap.size+1) _ _ _ rfl)
  clear c0;go_wp2;go_roundw
  case rel=>exact⟨k+1,by omega,by go_num,_,HPUT.o,by rw[List.length_set];exact HML.o,HTK2.o,HKK.o _⟩
  case measure=>simp[intOf];omega
 have hke:k=l.length:=by omega
 subst hke
 have hM:M=l.map fun e=>e.i:=by
  have h1:=HTK.o
  rwa[List.take_length,List.take_of_length_le (by rw[<-HML.o];exact Nat.le_refl _)]at h1
 have hlen:=HML.o;have HSO:=lh (zyo (w.heap.size+1) (.slice (some ⟨w.heap.size+1,0,none⟩) l.length l.length) M wr (zao.2 HOW.o) (by omega));rw[hM]at HSO;clear hM hlen;go_wp2_with fail;refine HSO.o.mono ?_;rintro e w5⟨rfl,hown5,hg5⟩;have hb5:Below w0.heap.size w0 w5:=HBR.o.trans (Kp.toBelow (M:=fun y=>y=w.heap.size+1) (Kp.grown hg5 fun k h=>by cases h;rfl) HBR.o.size fun y hy h=>by have:=HS0.o;omega);have HCL:=lh (zaz at' ct term w5 (by omega) (HT.o.keep hb5));have HB5:=lh hb5;have HO5:=lh hown5;clear hb5 hown5 hg5;go_wp2_with fail;refine HCL.o.mono ?_;rintro e w6⟨v6,rfl,hown6,hb6⟩
 have hb6':Below w0.heap.size w0 w6:=HB5.o.trans (hb6.mono HB5.o.size)
 have hbk:Blk w6 w.heap.size #[.slice none 0 0,.slice none 0 0] 136:=by
  show w6.heap[w.heap.size]?=_
  rw[hb6'.block _ (by have:=HS0.o;omega)];exact HBK.o
 have k0:=hbk.cell 0;have k1:=hbk.cell 1;have g0:=hbk.fr 0;have g1:=hbk.fr 1;have hlt6:=hbk.lt;have HSET:=lh (fun u v=>(hbk.set 0 u).set 1 v);clear hbk;have hown6:=zao.1 hown6;obtain⟨av,cv,rfl⟩:=hown6.sliced;have HO6:=lh hown6;have HB6:=lh hb6';have HO56:=lh ((zao.1 HO5.o).later hb6);clear hown6 hb6 hb6';go_wp2;have r0:=(HSET.o (.slice av term.length cv) (.slice (some ⟨w.heap.size+1,0,none⟩) l.length l.length)).cell 0;have r1:=(HSET.o (.slice av term.length cv) (.slice (some ⟨w.heap.size+1,0,none⟩) l.length l.length)).cell 1;simp only[Array.setIfInBounds]at r0 r1
 have hkk:∀u v,Kp (fun y=>y=w.heap.size) w6 ((w6.setCell ⟨w.heap.size,0,none⟩ u).setCell ⟨w.heap.size,1,none⟩ v):=fun u v=>Kp.trans (M:=fun y=>y=w.heap.size) (Kp.setCell (M:=fun y=>y=w.heap.size) _ _ _ rfl) (Kp.setCell (M:=fun y=>y=w.heap.size) _ _ _ rfl)
 refine bodyPost_ret (v:=.agg #[.slice av term.length cv,.slice (some ⟨w.heap.size+1,0,none⟩) l.length l.length]) ?_ rfl ⟨_,_,rfl,?_,?_,?_⟩
 ·simp[results,Tryz.func65,go_sem,r0,r1]
 ·refine(HO6.o.kept (hkk _ _) fun g hg e=>?_).lower (Nat.le_trans HB0.o.size HB5.o.size);have h1:=(World.ownsRow.lt HO6.o g hg).1;have h2:=HB5.o.size;have h3:=HS0.o;omega
 ·refine(HO56.o.kept (hkk _ _) fun g hg e=>?_).lower (Nat.le_succ _);have h1:=(World.ownsRow.lt HO56.o g hg).1;omega
 exact(((HB0.o.trans (HB6.o.mono HB0.o.size))).setCell (Nat.le_refl _) _).setCell (Nat.le_refl _) _
end Go.Proofs.YtnlaakmglhjjmaaGreatDoor
