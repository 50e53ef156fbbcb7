/- Parts of the proofs of laws. Texts: CqM, CqO, CqP. -/
import Derived.Test.YtnlaakmglhjjmaaGreatDoorYC26
set_option maxHeartbeats 8000000
set_option maxRecDepth 100000
set_option linter.all false
namespace Go.Proofs.YtnlaakmglhjjmaaGreatDoor
open Go.RowKit Cen
structure Grp where
 a:Option Addr
 c:Nat
 l:List Ce
 s:St
def encG(x:Grp):List Value:=[.slice x.a x.l.length x.c]
theorem zd5(x:Grp):(encG x).length=1:=rfl
theorem yat:Elem 169 130 1 24 (.slice none 0 0):=.mk Tryz.underlying169 (by kernel_rfl) rfl (by decide)
theorem OwnL.rowAt{α:Type}{enc:α->List Value}{e k:Nat}{w:World}{base g cap n:Nat}{l:List α}(hn:n=l.length)(h:OwnL enc e k w base (.slice (some ⟨g,0,none⟩) n cap) l):∀j u,(l.flatMap enc)[j]?=some u->w.cell? ((⟨g,0,none⟩:Addr).add j)=some u:=fun j u hj=>by
 subst hn;have hlen:=h.1
 have hlt:j<(l.flatMap enc).length:=by
  rcases Nat.lt_or_ge j (l.flatMap enc).length with h'|h'
  ·exact h'
  rw[List.getElem?_eq_none h']at hj;simp at hj
 have e1:(⟨g,0,none⟩:Addr).add j=⟨g,j,none⟩:=by
  unfold Addr.add;split
  ·rename_i hj0;rw[hj0]
  simp
 rw[e1,World.ownsRow.cellAt h j (by omega)];exact hj
theorem OwnL.cutL{α:Type}{enc:α->List Value}{e k:Nat}{w:World}{base g cap n m:Nat}{xs ys:List α}(hk:∀x,(enc x).length=k)(hn:n=(xs++ys).length)(hm:m=xs.length)(h:OwnL enc e k w base (.slice (some ⟨g,0,none⟩) n cap) (xs++ys)):OwnL enc e k w base (.slice (some ⟨g,0,none⟩) m cap) xs:=by
 subst hn;subst hm
 have hfl:∀l:List α,(l.flatMap enc).length=l.length*k:=fun l=>by
  induction l with
  |nil=>simp
  |cons x l ih=>rw[List.flatMap_cons,List.length_append,ih,hk];simp[Nat.succ_mul];omega
 refine⟨hfl xs,?_⟩
 rcases h.2 with⟨h3,_⟩|⟨g',cap',cur,hv,hb,hg,hnc,hcm,hcs,ht⟩
 ·simp at h3
 simp only[Value.slice.injEq,Option.some.injEq,Addr.mk.injEq,and_true,true_and]at hv;obtain⟨rfl,rfl⟩:=hv;refine .inr ⟨_,_,cur,rfl,hb,hg,by rw[List.length_append]at hnc;omega,hcm,hcs,?_⟩;have h3:=congrArg (List.take (xs.length*k)) ht;have hle:xs.length*k<=(xs++ys).length*k:=Nat.mul_le_mul_right k (by simp);rw[List.take_take,List.flatMap_append,List.take_left' (hfl xs),Nat.min_eq_left hle]at h3;exact h3
structure SPL(w:World)(l0:List Ce)(wr:World)(vg vs:Value)(gs:List Grp):Prop where
 hb:Below w.heap.size w wr
 og:OwnL encG 130 1 wr w.heap.size vg gs
 os:OwnL stc 29 2 wr w.heap.size vs (gs.map fun x=>x.s)
 ne:∀k,vg.ownBlock=some k->vs.ownBlock≠some k
 gr:∀x∈gs,x.s.ok/\x.l≠[]/\∃b,x.a=some ⟨b,0,none⟩/\OwnC wr w.heap.size (.slice x.a x.l.length x.c) x.l/\vg.ownBlock≠some b/\vs.ownBlock≠some b
 dj:gs.Pairwise fun x y=>x.a≠y.a
 ci:∀x∈gs,∀e∈x.l,e∈l0
def modG(gs:List Grp):List (List Cl×St):=gs.map fun x=>(x.l.map fun e=>e.xs,x.s)
theorem SPL.later{w wr w':World}{l0:List Ce}{vg vs:Value}{gs:List Grp}(h:SPL w l0 wr vg vs gs)(hb:Below wr.heap.size wr w'):SPL w l0 w' vg vs gs:=
 ⟨h.hb.trans (hb.mono h.hb.size),h.og.later hb,h.os.later hb,h.ne,fun x hx=>let⟨h1,h2,b,h3,h4,h5⟩:=h.gr x hx;⟨h1,h2,b,h3,h4.later hb,h5⟩,h.dj,h.ci⟩
def ze3(acc:List (List Cl×St)×List Cl×St)(g:List Cl×St):List (List Cl×St)×List Cl×St:=
 if g.2.cut acc.2.2≠St.zero then(acc.1,acc.2.1++g.1,acc.2.2.union g.2)else(acc.1++[g],acc.2.1,acc.2.2)
theorem zs4(c:Cl)(gs:List (List Cl×St)):zdt c gs=gs.foldl ze3 ([],[],zdn c):=rfl
section
variable{ops:Array Oper}{rest:List Oper}{o:Oper}{a:Act}{w:World}{K:Act->World->Prop}{Q:Exit->Act->World->Prop}{EE:Prop}
theorem zzd(l:List Ce):∀u∈l.flatMap ce,u.oneCell'=true:=fun u hu=>by
 obtain⟨e,_,hu⟩:=List.mem_flatMap.1 hu
 simp[ce]at hu
 rcases hu with rfl|rfl<;>rfl
theorem zql(hgd:o.guard=none)(s x:Operand)(ho:o.op=.call {callee:=.builtin .append,args:=#[s,x],argTypes:=#[130,130]})
 (base:Nat)(v:Value)(ys:List Ce)(hs:a.eval s=v)(hown:OwnC w base v ys)(b2 c2 base2:Nat)(xs:List Ce)(hx:a.eval x=.slice (some ⟨b2,0,none⟩) xs.length c2)(hxc:OwnC w base2 (.slice (some ⟨b2,0,none⟩) xs.length c2) xs)
 (h0:xs≠[])(h1:ys.length<=1073741824)(h2:xs.length<=1073741824)(hbase:base<=w.heap.size)
 (h:∀g cap w',OwnC w' base (.slice (some ⟨g,0,none⟩) (ys.length+xs.length) cap) (ys++xs)->w.grownBy w' v.ownBlock->(v.ownBlock=some g\/g=w.heap.size)->wpList Tryz.prog ops Q rest (a.put o.dst (.slice (some ⟨g,0,none⟩) (ys.length+xs.length) cap)) w'):wpList Tryz.prog ops Q (o::rest) a w:=by
 obtain⟨ht,i,hi,hz,hsz,hby,hzs,hk⟩:=zma;have hl:(xs.flatMap ce).length=xs.length*2:=hxc.1;refine wpList_append_lies w hgd s x 130 ho base 163 i _ 2 32 ht hi hz hsz hby hzs hk v ys.length (ys.flatMap ce) hs hown ⟨b2,0,none⟩ xs.length c2 (xs.flatMap ce) hx hl (hxc.rowAt rfl) (zzd xs) (List.length_pos_iff.2 h0) (by unfold maxLen;omega) (by omega) hbase w.heap.size rfl ?_;intro g cap w' r1 r2 r3 _;refine h g cap w' ?_ r2 r3;unfold OwnC OwnL;rw[List.length_append,List.flatMap_append];exact r1
end
def zkq(ys:List Int):St:=ys.foldl (fun s x=>s.add (zac x)) St.zero
theorem zte(ys:List Int)(y:Int):zkq (ys++[y])=(zkq ys).add (zac y):=by unfold zkq;rw[List.foldl_append];rfl
theorem zy2(ys:List Int):(zkq ys).ok:=zii ys
structure SPI(w:World)(l0:List Ce)(gs:List Grp)(ex:List Int)(vg vs:Value)(bs bx bg:Nat)(E:Array Value)(wr:World)(i:Nat)(K:List Grp)(vG:Value)(GL:List Ce)(cur:St):Prop where
 hb:Below w.heap.size w wr
 og:OwnL encG 130 1 wr w.heap.size vg (K++gs.drop K.length)
 os:OwnL stc 29 2 wr w.heap.size vs ((K++gs.drop K.length).map fun x=>x.s)
 sub:K.Sublist (gs.take i)
 grp:OwnC wr w.heap.size vG GL
 gb:∀k,vG.ownBlock=some k->bg<=k
 grs:∀x∈gs,OwnC wr w.heap.size (.slice x.a x.l.length x.c) x.l
 ci:∀e∈GL,e∈l0
 box:Blk wr bs (sts cur) 29
 cok:cur.ok
 bxE:Blk wr bx E 163
 md:(modG K,GL.map (fun e=>e.xs),cur)=(modG (gs.take i)).foldl ze3 ([],[],zdn ex)
def SPR(w:World)(l0:List Ce)(gs:List Grp)(ex:List Int)(vg vs:Value)(bs bx bg:Nat)(E:Array Value)(wr:World)(i vG kp:Value):Prop:=
 ∃(j:Nat)(K:List Grp)(gG:Option Addr)(cG:Nat)(GL:List Ce)(cur:St),j<=gs.length/\i=.int .i64 (j:Int)/\kp=.int .i64 (K.length:Int)/\vG=.slice gG GL.length cG/\
  SPI w l0 gs ex vg vs bs bx bg E wr j K (.slice gG GL.length cG) GL cur/\GL.length<=4096*j/\bg<=wr.heap.size
structure SPB(gs:List Grp)(w:World)(vg vs:Value)(bs bx bg:Nat):Prop where
 g:∀k,vg.ownBlock=some k->w.heap.size<=k/\k<bx
 s:∀k,vs.ownBlock=some k->w.heap.size<=k/\k<bx
 ne:∀k,vg.ownBlock=some k->vs.ownBlock≠some k
 gr:∀x∈gs,∀k,(Value.slice x.a x.l.length x.c).ownBlock=some k->k<bx/\vg.ownBlock≠some k/\vs.ownBlock≠some k
 o:w.heap.size<=bx/\bx<bs/\bs<bg
section
variable{w:World}{l0:List Ce}{gs:List Grp}{ex:List Int}{vg vs:Value}{bs bx bg:Nat}{E:Array Value}{wr w5 w6:World}{i:Nat}{K:List Grp}{vG:Value}{GL:List Ce}{cur:St}
theorem SPI.later(h:SPI w l0 gs ex vg vs bs bx bg E wr i K vG GL cur)(hb:Below wr.heap.size wr w5):SPI w l0 gs ex vg vs bs bx bg E w5 i K vG GL cur:=
 ⟨h.hb.trans (hb.mono h.hb.size),h.og.later hb,h.os.later hb,h.sub,h.grp.later hb,h.gb,fun x hx=>(h.grs x hx).later hb,h.ci,h.box.later hb,h.cok,h.bxE.later hb,h.md⟩
theorem zrh{x:Grp}(hx:gs[i]?=some x)(h:SPI w l0 gs ex vg vs bs bx bg E wr i K vG GL cur):(modG (gs.take (i+1))).foldl ze3 ([],[],zdn ex)=ze3 (modG K,GL.map (fun e=>e.xs),cur) (x.l.map (fun e=>e.xs),x.s):=by
 have hi:i<gs.length:=by
  rcases Nat.lt_or_ge i gs.length with h'|h'
  ·exact h'
  rw[List.getElem?_eq_none h']at hx;simp at hx
 rw[List.getElem?_eq_getElem hi]at hx;simp only[Option.some.injEq]at hx;rw[List.take_succ_eq_append_getElem hi];unfold modG;rw[List.map_append,List.foldl_append];have:=h.md;unfold modG at this;rw[<-this,hx]
 rfl
theorem zje{x:Grp}:∀{gs:List Grp},x∈gs->x.l.length<=gLen (modG gs)
 |[],h=>by simp at h
 |y::gs,h=>by
   unfold gLen modG;rw[List.map_cons,List.map_cons,List.sum_cons]
   rcases List.mem_cons.1 h with rfl|h
   ·simp
   have:=zje h;unfold gLen modG at this;omega
theorem SPI.join{x:Grp}{gg n cap:Nat}(hB:SPB gs w vg vs bs bx bg)(hx:gs[i]?=some x)(hxok:x.s.ok)(hxc:∀e∈x.l,e∈l0)(h:SPI w l0 gs ex vg vs bs bx bg E wr i K vG GL cur)(hc:x.s.cut cur≠St.zero)
 (ho:OwnC w5 w.heap.size (.slice (some ⟨gg,0,none⟩) n cap) (GL++x.l))(hg:wr.grownBy w5 vG.ownBlock)(hn:vG.ownBlock=some gg\/gg=wr.heap.size)(hbgw:bg<=wr.heap.size)(hb6:Below w5.heap.size w5 w6):
 SPI w l0 gs ex vg vs bs bx bg E ((w6.setCell ⟨bs,0,none⟩ (.int .u64 ((cur.union x.s).a:Int))).setCell ⟨bs,1,none⟩ (.int .u64 ((cur.union x.s).b:Int))) (i+1) K (.slice (some ⟨gg,0,none⟩) n cap) (GL++x.l) (cur.union x.s):=by
 have⟨o1,o2,o3⟩:=hB.o
 have hk:Kp (fun k=>vG.ownBlock=some k) wr w5:=Kp.grown hg fun k hk=>hk
 have hgk:∀k,vG.ownBlock=some k->bg<=k:=h.gb;have hbgr:bs<wr.heap.size:=h.box.lt;have hgg:bg<=gg\/wr.heap.size<=gg:=hn.imp (hgk gg) (fun e=>by omega)
 have hk2:Kp (fun k=>k=bs) w6 ((w6.setCell ⟨bs,0,none⟩ (.int .u64 ((cur.union x.s).a:Int))).setCell ⟨bs,1,none⟩ (.int .u64 ((cur.union x.s).b:Int))):=
  (Kp.setCell (M:=fun k=>k=bs) _ _ _ rfl).trans (Kp.setCell (M:=fun k=>k=bs) _ _ _ rfl)
 have hall:Kp (fun k=>bg<=k\/k=bs) wr ((w6.setCell ⟨bs,0,none⟩ (.int .u64 ((cur.union x.s).a:Int))).setCell ⟨bs,1,none⟩ (.int .u64 ((cur.union x.s).b:Int))):=
  ((hk.mono fun k _ e=>.inl (hgk k e)).trans (Kp.below hb6)).trans (hk2.mono fun k _ e=>.inr e)
 have hlow:∀k,k<bx->¬(bg<=k\/k=bs):=fun k hk=>by omega
 refine⟨h.hb.trans (Kp.toBelow hall h.hb.size fun k hk' e=>by omega),h.og.kept hall fun k hk'=>hlow k (hB.g k hk').2,h.os.kept hall fun k hk'=>hlow k (hB.s k hk').2,?_,(ho.later hb6).kept hk2 fun k hk' e=>?_,fun k hk'=>?_,fun y hy=>(h.grs y hy).kept hall fun k hk'=>hlow k (hB.gr y hy k hk').1,fun e he=>?_,?_,St.union_ok h.cok hxok,(h.bxE.kept hall (by omega)),?_⟩
 ·have hi:i<gs.length:=by
   rcases Nat.lt_or_ge i gs.length with h'|h'
   ·exact h'
   rw[List.getElem?_eq_none h']at hx;simp at hx
  rw[List.take_succ_eq_append_getElem hi];exact h.sub.trans (List.sublist_append_left _ _)
 ·have:gg=k:=by simpa[Value.ownBlock]using hk'
  omega
 ·have:gg=k:=by simpa[Value.ownBlock]using hk'
  omega
 ·rcases List.mem_append.1 he with he|he
  ·exact h.ci e he
  exact hxc e he
 ·have hbx:=(h.box.kept hk (fun e=>by have:=hgk _ e;omega)).later hb6;exact hbx.putSet _
 rw[zrh hx h];unfold ze3;rw[if_pos hc,List.map_append]
theorem SPI.keep{x:Grp}{gA gS:Nat}{cA cS:Nat}(hB:SPB gs w (.slice (some ⟨gA,0,none⟩) gs.length cA) (.slice (some ⟨gS,0,none⟩) gs.length cS) bs bx bg)(hx:gs[i]?=some x)
 (h:SPI w l0 gs ex (.slice (some ⟨gA,0,none⟩) gs.length cA) (.slice (some ⟨gS,0,none⟩) gs.length cS) bs bx bg E wr i K vG GL cur)(hc:x.s.cut cur=St.zero):
 SPI w l0 gs ex (.slice (some ⟨gA,0,none⟩) gs.length cA) (.slice (some ⟨gS,0,none⟩) gs.length cS) bs bx bg E (((wr.setCell ⟨gA,K.length,none⟩ (.slice x.a x.l.length x.c)).setCell ⟨gS,K.length*2,none⟩ (.int .u64 (x.s.a:Int))).setCell ⟨gS,K.length*2+1,none⟩ (.int .u64 (x.s.b:Int))) (i+1) (K++[x]) vG GL cur:=by
 have⟨o1,o2,o3⟩:=hB.o;obtain⟨hA1,hA2⟩:=hB.g gA rfl;obtain⟨hS1,hS2⟩:=hB.s gS rfl
 have hne:gA≠gS:=fun e=>hB.ne gA rfl (by rw[e];rfl)
 have hi:i<gs.length:=by
  rcases Nat.lt_or_ge i gs.length with h'|h'
  ·exact h'
  rw[List.getElem?_eq_none h']at hx;simp at hx
 have hKl:K.length<=i:=by
  have:=h.sub.length_le;rw[List.length_take]at this;omega
 have hal:(K++gs.drop K.length).length=gs.length:=by simp;omega
 have hk1:Kp (fun k=>k=gA) wr (wr.setCell ⟨gA,K.length,none⟩ (.slice x.a x.l.length x.c)):=Kp.setCell _ _ _ rfl
 have hk2:Kp (fun k=>k=gS) (wr.setCell ⟨gA,K.length,none⟩ (.slice x.a x.l.length x.c)) (((wr.setCell ⟨gA,K.length,none⟩ (.slice x.a x.l.length x.c)).setCell ⟨gS,K.length*2,none⟩ (.int .u64 (x.s.a:Int))).setCell ⟨gS,K.length*2+1,none⟩ (.int .u64 (x.s.b:Int))):=
  (Kp.setCell (M:=fun k=>k=gS) _ _ _ rfl).trans (Kp.setCell (M:=fun k=>k=gS) _ _ _ rfl)
 have hall:Kp (fun k=>k=gA\/k=gS) wr (((wr.setCell ⟨gA,K.length,none⟩ (.slice x.a x.l.length x.c)).setCell ⟨gS,K.length*2,none⟩ (.int .u64 (x.s.a:Int))).setCell ⟨gS,K.length*2+1,none⟩ (.int .u64 (x.s.b:Int))):=
  (hk1.mono fun k _ e=>.inl e).trans (hk2.mono fun k _ e=>.inr e)
 have harr:(K++gs.drop K.length).set K.length x=(K++[x])++gs.drop (K++[x]).length:=by
  have hd:gs.drop K.length=gs[K.length]'(by omega)::gs.drop (K.length+1):=List.drop_eq_getElem_cons (by omega);rw[List.set_append_right _ _ (Nat.le_refl _),Nat.sub_self,hd,List.set_cons_zero]
  simp
 have harrS:((K++gs.drop K.length).map fun x=>x.s).set K.length x.s=((K++[x])++gs.drop (K++[x]).length).map fun x=>x.s:=by
  rw[<-harr,List.map_set]
 refine⟨h.hb.trans (Kp.toBelow hall h.hb.size fun k hk' e=>by omega),?_,?_,?_,h.grp.kept hall fun k hk' e=>?_,h.gb,fun y hy=>(h.grs y hy).kept hall fun k hk' e=>?_,h.ci,h.box.kept hall (by omega),h.cok,h.bxE.kept hall (by omega),?_⟩
 ·have:=h.og.put1 hal.symm zd5 K.length (by omega) x (.slice x.a x.l.length x.c) rfl;rw[harr]at this
  exact this.kept hk2 fun k hk' e=>by
   have:gA=k:=by simpa[Value.ownBlock]using hk'
   omega
 ·have h1:=h.os.kept hk1 fun k hk' e=>by
   have:gS=k:=by simpa[Value.ownBlock]using hk'
   omega
  have:=h1.put2 (by rw[List.length_map];exact hal.symm) zbi K.length (by rw[List.length_map];omega) x.s (.int .u64 (x.s.a:Int)) (.int .u64 (x.s.b:Int)) rfl;rw[harrS]at this;exact this
 ·rw[List.take_succ_eq_append_getElem hi];rw[List.getElem?_eq_getElem hi]at hx;simp only[Option.some.injEq]at hx;rw[hx];exact h.sub.append (List.Sublist.refl _)
 ·have:=h.gb k hk';omega
 ·have:=(hB.gr y hy k hk')
  rcases e with e|e
  ·exact this.2.1 (by rw[e];rfl)
  exact this.2.2 (by rw[e];rfl)
 rw[zrh hx h];unfold ze3;rw[if_neg (by simp[hc])]
 simp[modG]
end
theorem kpOf{α:Type}{enc:α->List Value}{e k base:Nat}{w w0 w':World}{v:Value}{l:List α}(_:OwnL enc e k w0 base v l)(hg:w.grownBy w' v.ownBlock):Kp (fun k=>v.ownBlock=some k) w w':=Kp.grown hg fun _ hk=>hk
theorem obOf{α:Type}{enc:α->List Value}{e k base:Nat}{w0:World}{v:Value}{l:List α}{P:Nat->Prop}{g:Nat}(_:OwnL enc e k w0 base v l)(h:v.ownBlock=some g\/P g):v.ownBlock=some g\/P g:=h
theorem zrj(a:Option Addr)(n m c:Nat):(Value.slice a n c).ownBlock=(Value.slice a m c).ownBlock:=by
 cases a with
 |none=>rfl
 |some p=>obtain⟨b,o,q⟩:=p;cases o<;>cases q<;>rfl
section
variable{w:World}{l0:List Ce}{gs:List Grp}{ex:List Int}{vg vs:Value}{bs bx bg:Nat}{E:Array Value}{wr w3 w4 w5:World}{i:Nat}{K:List Grp}{vG:Value}{GL:List Ce}{cur:St}
theorem SPI.all(h:SPI w l0 gs ex vg vs bs bx bg E wr i K vG GL cur)(hi:gs.length<=i):zdt ex (modG gs)=(modG K,GL.map (fun e=>e.xs),cur):=by
 rw[zs4,h.md,List.take_of_length_le hi]
theorem SPL.next{wx:World}{gg ga2 gs2 c3 c4 c5 n3:Nat}(hsp:SPL w l0 wx vg vs gs)(hB:SPB gs w vg vs bs bx bg)(h:SPI w l0 gs ex vg vs bs bx bg E wr i K vG GL cur)(hbg:bg<=wr.heap.size)(e:Ce)(he:e∈l0)(hn3:n3=(GL++[e]).length)
 (k1:Kp (fun k=>vG.ownBlock=some k) wr w3)(o1:OwnC w3 w.heap.size (.slice (some ⟨gg,0,none⟩) n3 c3) (GL++[e]))(n1:vG.ownBlock=some gg\/wr.heap.size<=gg)
 (k2:Kp (fun k=>vg.ownBlock=some k) w3 w4)(o2:OwnL encG 130 1 w4 w.heap.size (.slice (some ⟨ga2,0,none⟩) (K.length+1) c4) (K++[⟨some ⟨gg,0,none⟩,c3,GL++[e],cur⟩]))(n2:vg.ownBlock=some ga2\/w3.heap.size<=ga2)
 (k3:Kp (fun k=>vs.ownBlock=some k) w4 w5)(o3:OwnL stc 29 2 w5 w.heap.size (.slice (some ⟨gs2,0,none⟩) (K.length+1) c5) ((K.map fun x=>x.s)++[cur]))(n4:vs.ownBlock=some gs2\/w4.heap.size<=gs2):
 SPL w l0 w5 (.slice (some ⟨ga2,0,none⟩) (K.length+1) c4) (.slice (some ⟨gs2,0,none⟩) (K.length+1) c5) (K++[⟨some ⟨gg,0,none⟩,c3,GL++[e],cur⟩]):=by
 have⟨q1,q2,q3⟩:=hB.o
 have hlg:=fun k hk=>(hB.g k hk)
 have hls:=fun k hk=>(hB.s k hk)
 have hbr:bs<wr.heap.size:=h.box.lt;have s1:=k1.size;have s2:=k2.size;have s3:=k3.size;have lgg:gg<w3.heap.size:=(World.ownsRow.lt o1 gg rfl).2;have lga:ga2<w4.heap.size:=(World.ownsRow.lt o2 ga2 rfl).2
 have hgg:bg<=gg:=by
  rcases n1 with e|e
  ·exact h.gb gg e
  omega
 have hga:ga2<bx\/w3.heap.size<=ga2:=n2.imp (fun e=>(hlg _ e).2) id;have hgs:gs2<bx\/w4.heap.size<=gs2:=n4.imp (fun e=>(hls _ e).2) id;have k12:Kp (fun k=>vG.ownBlock=some k\/vg.ownBlock=some k) wr w4:=(k1.mono fun k _ e=>.inl e).trans (k2.mono fun k _ e=>.inr e);have kall:Kp (fun k=>(vG.ownBlock=some k\/vg.ownBlock=some k)\/vs.ownBlock=some k) wr w5:=(k12.mono fun k _ e=>.inl e).trans (k3.mono fun k _ e=>.inr e)
 have hKm:∀x∈K,x∈gs:=fun x hx=>List.mem_of_mem_take (h.sub.subset hx)
 refine⟨h.hb.trans (Kp.toBelow kall h.hb.size fun k hk e=>?_),o2.kept k3 fun k hk e=>?_,?_,fun k hk e=>?_,fun x hx=>?_,?_,fun x hx=>?_⟩
 ·rcases e with(e|e)|e
  ·have:=h.gb k e;omega
  ·have:=(hlg k e).1;omega
  have:=(hls k e).1;omega
 ·have hk:ga2=k:=by simpa[Value.ownBlock]using hk
  subst hk
  rcases n2 with e2|e2
  ·exact hB.ne _ e2 e
  have:=(hls _ e).2;omega
 ·rw[List.map_append];exact o3
 ·have hk:ga2=k:=by simpa[Value.ownBlock]using hk
  have e:gs2=k:=by simpa[Value.ownBlock]using e
  subst hk;subst e
  rcases n2 with e2|e2<;>rcases n4 with e4|e4
  ·exact hB.ne _ e2 e4
  ·have:=(hlg _ e2).2;omega
  ·have:=(hls _ e4).2;omega
  omega
 ·rcases List.mem_append.1 hx with hx|hx
  ·obtain⟨g1,g2,b,g3,g4,g5,g6⟩:=hsp.gr x (hKm x hx);have hbb:=hB.gr x (hKm x hx) b (by rw[g3];rfl);have hg4:=h.grs x (hKm x hx);refine⟨g1,g2,b,g3,hg4.kept kall fun k hk e=>?_,fun e=>?_,fun e=>?_⟩
   ·have hk:b=k:=by rw[g3]at hk;simpa[Value.ownBlock]using hk
    subst hk
    rcases e with(e|e)|e
    ·have:=h.gb _ e;omega
    ·exact hbb.2.1 e
    exact hbb.2.2 e
   ·have e:ga2=b:=by simpa[Value.ownBlock]using e
    subst e
    rcases n2 with e2|e2
    ·exact g5 e2
    omega
   have e:gs2=b:=by simpa[Value.ownBlock]using e
   subst e
   rcases n4 with e2|e2
   ·exact g6 e2
   omega
  have hx:x=⟨some ⟨gg,0,none⟩,c3,GL++[e],cur⟩:=by simpa using hx
  subst hx;subst hn3;refine⟨h.cok,by simp,gg,rfl,?_,fun e=>?_,fun e=>?_⟩
  ·refine(OwnL.kept (M:=fun k=>vg.ownBlock=some k\/vs.ownBlock=some k) o1 ((k2.mono fun k _ e=>.inl e).trans (k3.mono fun k _ e=>.inr e)) fun k hk e=>?_)
   have hk:gg=k:=by simpa[Value.ownBlock]using hk
   subst hk
   rcases e with e|e
   ·have:=(hlg _ e).2;omega
   have:=(hls _ e).2;omega
  ·have e:ga2=gg:=by simpa[Value.ownBlock]using e
   omega
  have e:gs2=gg:=by simpa[Value.ownBlock]using e
  omega
 ·refine List.pairwise_append.2 ⟨hsp.dj.sublist (h.sub.trans (List.take_sublist _ _)),List.pairwise_singleton _ _,fun x hx y hy=>?_⟩
  have hy:y=⟨some ⟨gg,0,none⟩,c3,GL++[e],cur⟩:=by simpa using hy
  subst hy;obtain⟨_,_,b,g3,_⟩:=hsp.gr x (hKm x hx);have hbb:=hB.gr x (hKm x hx) b (by rw[g3];rfl);rw[g3];intro e;simp only[Option.some.injEq,Addr.mk.injEq,and_true]at e;omega
 rcases List.mem_append.1 hx with hx|hx
 ·exact hsp.ci x (hKm x hx)
 have hx:x=⟨some ⟨gg,0,none⟩,c3,GL++[e],cur⟩:=by simpa using hx
 subst hx;intro d hd
 rcases List.mem_append.1 hd with hd|hd
 ·exact h.ci d hd
 rw[List.mem_singleton.1 hd];exact he
theorem zxz(h:SPI w l0 gs ex vg vs bs bx bg E wr i K vG GL cur)(hi:gs.length<=i)(a:Option Addr)(c:Nat)(e:Ce)(he:e.xs=ex):modG (K++[⟨a,c,GL++[e],cur⟩])=za5 (modG gs) ex:=by
 unfold za5;rw[h.all hi]
 simp[modG,he]
end
structure SPO(w:World)(l0:List Ce)(gs:List Grp)(wr:World)(vg:Value)(i:Nat)(D:List Grp):Prop where
 hb:Below w.heap.size w wr
 og:OwnL encG 130 1 wr w.heap.size vg (D++gs.drop i)
 len:D.length=i
 md:(D.map fun x=>x.l.map fun e=>e.xs)=(gs.take i).map fun x=>ordC (x.l.map fun e=>e.xs)
 gr:∀x∈D++gs.drop i,∃b,x.a=some ⟨b,0,none⟩/\OwnC wr w.heap.size (.slice x.a x.l.length x.c) x.l/\vg.ownBlock≠some b
 dj:(D++gs.drop i).Pairwise fun x y=>x.a≠y.a
 ci:∀x∈D++gs.drop i,∀e∈x.l,e∈l0
section
variable{w:World}{l0:List Ce}{gs:List Grp}{wr w5:World}{i:Nat}{D:List Grp}
theorem SPL.first{vg vs:Value}(h:SPL w l0 wr vg vs gs):SPO w l0 gs wr vg 0 []:=
 ⟨h.hb,by simpa using h.og,rfl,rfl,fun x hx=>(let⟨_,_,b,h3,h4,h5,_⟩:=h.gr x (by simpa using hx);⟨b,h3,h4,h5⟩),by simpa using h.dj,fun x hx=>h.ci x (by simpa using hx)⟩
theorem SPO.step{gA cA b xc:Nat}{xl l':List Ce}{s:St}(hx:gs[i]?=some ⟨some ⟨b,0,none⟩,xc,xl,s⟩)(h:SPO w l0 gs wr (.slice (some ⟨gA,0,none⟩) gs.length cA) i D)
 (ho:OwnC w5 w.heap.size (.slice (some ⟨b,0,none⟩) l'.length xc) l')(hm:(l'.map fun e=>e.xs)=ordC (xl.map fun e=>e.xs))(hs:∀e∈l',e∈xl)(hk:Kp (fun y=>y=b) wr w5):
 SPO w l0 gs (w5.setCell ⟨gA,i,none⟩ (.slice (some ⟨b,0,none⟩) l'.length xc)) (.slice (some ⟨gA,0,none⟩) gs.length cA) (i+1) (D++[⟨some ⟨b,0,none⟩,xc,l',s⟩]):=by
 have hi:i<gs.length:=by
  rcases Nat.lt_or_ge i gs.length with h'|h'
  ·exact h'
  rw[List.getElem?_eq_none h']at hx;simp at hx
 rw[List.getElem?_eq_getElem hi]at hx;simp only[Option.some.injEq]at hx
 have hd:gs.drop i=⟨some ⟨b,0,none⟩,xc,xl,s⟩::gs.drop (i+1):=by rw[List.drop_eq_getElem_cons hi,hx]
 have hlen:=h.len;have hgr:=h.gr;have hdj:=h.dj;have hci:=h.ci;have hog:=h.og;rw[hd]at hgr hdj hci hog
 have hbm:(⟨some ⟨b,0,none⟩,xc,xl,s⟩:Grp)∈D++⟨some ⟨b,0,none⟩,xc,xl,s⟩::gs.drop (i+1):=by simp
 obtain⟨b',e1,g2,g3⟩:=hgr _ hbm
 have e1:b=b':=by simpa using e1
 subst e1
 have hgb:gA≠b:=fun e=>g3 (by rw[e];rfl)
 have hbw:w.heap.size<=b:=(World.ownsRow.lt g2 b rfl).1;have hAw:w.heap.size<=gA:=(World.ownsRow.lt hog gA rfl).1;have hks:Kp (fun k=>k=gA) w5 (w5.setCell ⟨gA,i,none⟩ (.slice (some ⟨b,0,none⟩) l'.length xc)):=Kp.setCell _ _ _ rfl;have hall:Kp (fun k=>k=b\/k=gA) wr (w5.setCell ⟨gA,i,none⟩ (.slice (some ⟨b,0,none⟩) l'.length xc)):=(hk.mono fun k _ e=>.inl e).trans (hks.mono fun k _ e=>.inr e)
 have hll:(D++⟨some ⟨b,0,none⟩,xc,xl,s⟩::gs.drop (i+1)).length=gs.length:=by
  simp;omega
 have hset:(D++⟨some ⟨b,0,none⟩,xc,xl,s⟩::gs.drop (i+1)).set i ⟨some ⟨b,0,none⟩,xc,l',s⟩=(D++[⟨some ⟨b,0,none⟩,xc,l',s⟩])++gs.drop (i+1):=by
  rw[List.set_append_right _ _ (by omega),hlen,Nat.sub_self,List.set_cons_zero];simp
 have hmem:∀x∈D++[⟨some ⟨b,0,none⟩,xc,l',s⟩]++gs.drop (i+1),x=⟨some ⟨b,0,none⟩,xc,l',s⟩\/(x∈D++⟨some ⟨b,0,none⟩,xc,xl,s⟩::gs.drop (i+1)/\x.a≠some ⟨b,0,none⟩):=fun x hx=>by
  obtain⟨d1,d2,d3⟩:=List.pairwise_append.1 hdj;obtain⟨d4,_⟩:=List.pairwise_cons.1 d2;rw[List.mem_append,List.mem_append]at hx
  rcases hx with(hx|hx)|hx
  ·exact .inr ⟨List.mem_append_left _ hx,d3 x hx ⟨some ⟨b,0,none⟩,xc,xl,s⟩ List.mem_cons_self⟩
  ·exact .inl (by simpa using hx)
  exact .inr ⟨List.mem_append_right _ (List.mem_cons_of_mem _ hx),fun e=>d4 x hx e.symm⟩
 refine⟨h.hb.trans (Kp.toBelow hall h.hb.size fun k hk' e=>by omega),?_,by simp[hlen],?_,fun x hx'=>?_,?_,fun x hx'=>?_⟩
 ·have h1:=(hog.kept hk fun k hk' e=>by
   have:gA=k:=by simpa[Value.ownBlock]using hk'
   omega).put1 hll.symm zd5 i (by omega) ⟨some ⟨b,0,none⟩,xc,l',s⟩ (.slice (some ⟨b,0,none⟩) l'.length xc) rfl
  rw[hset]at h1;exact h1
 ·rw[List.map_append,h.md,List.take_succ_eq_append_getElem hi,List.map_append,hx]
  simp[hm]
 ·rcases hmem x hx' with rfl|⟨hx1,hx2⟩
  ·exact⟨b,rfl,ho.kept hks fun k hk' e=>by
    have:b=k:=by simpa[Value.ownBlock]using hk'
    omega,g3⟩
  obtain⟨b2,f1,f2,f3⟩:=hgr x hx1;refine⟨b2,f1,f2.kept hall fun k hk' e=>?_,f3⟩
  have hkb:b2=k:=by rw[f1]at hk';simpa[Value.ownBlock]using hk'
  subst hkb
  rcases e with e|e
  ·subst e;exact hx2 f1
  subst e;exact f3 rfl
 ·have:=hdj;rw[List.append_assoc];refine List.pairwise_append.2 ?_;obtain⟨d1,d2,d3⟩:=List.pairwise_append.1 hdj;obtain⟨d4,d5⟩:=List.pairwise_cons.1 d2;refine⟨d1,List.pairwise_cons.2 ⟨fun y hy=>d4 y hy,d5⟩,fun x hx y hy=>?_⟩
  rcases List.mem_cons.1 hy with rfl|hy
  ·exact d3 x hx ⟨some ⟨b,0,none⟩,xc,xl,s⟩ List.mem_cons_self
  exact d3 x hx y (List.mem_cons_of_mem _ hy)
 rcases hmem x hx' with rfl|⟨hx1,_⟩
 ·intro e he;exact hci _ hbm e (hs e he)
 exact hci x hx1
theorem SPO.csok{g:Cfg}{F:Nat->Prop}{a:Option Addr}{term:Cl}{vg:Value}{x:Grp}{b:Nat}(h:SPO w l0 gs wr vg i D)(hc:ClsIn g F w a l0 term)(hx:x∈D++gs.drop i)(hb:x.a=some ⟨b,0,none⟩):CsOk wr b x.l:=fun e he=>by
 have hel:=h.ci x hx e he
 have hck:=hc.kept (F':=F) (Kp.below h.hb) fun k hk=>.inl hk
 obtain⟨b',g1,g2,_⟩:=h.gr x hx;rw[hb]at g1
 have e1:b=b':=by simpa using g1
 subst e1;have hbb:=(World.ownsRow.lt g2 b (by rw[hb];rfl)).1;obtain⟨u,hu,hue⟩:=List.getElem_of_mem hel;obtain⟨_,_,_,_,_,hic⟩:=hck.cc u hu;rw[zar hu,hue]at hic;have h3:=hc.xs e hel;exact⟨by omega,h3.2.1,hic,fun p hp=>by have:=(hc.eF e hel p hp).2;omega⟩
theorem SPO.small{vg:Value}(h:SPO w l0 gs wr vg i D)(hl:∀x∈gs,x.l.length<=4096):∀x∈D,x.l.length<=4096:=fun x hx=>by
 have h1:(x.l.map fun e=>e.xs)∈(gs.take i).map fun x=>ordC (x.l.map fun e=>e.xs):=by rw[<-h.md];exact List.mem_map_of_mem hx
 obtain⟨y,hy,he⟩:=List.mem_map.1 h1;have h2:=congrArg List.length he;have h3:=zbc (y.l.map fun e=>e.xs);rw[h2,List.length_map,List.length_map]at h3;exact Nat.le_trans h3 (hl y (List.mem_of_mem_take hy))
theorem SPI.nilcase{w:World}{l0:List Ce}{gs:List Grp}{ex:List Int}{ga sa:Option Addr}{gc sc:Nat}{bs bx bg:Nat}{E:Array Value}{wr:World}{i:Nat}{K:List Grp}{vG:Value}{GL:List Ce}{cur:St}(h:SPI w l0 gs ex (.slice ga gs.length gc) (.slice sa gs.length sc) bs bx bg E wr i K vG GL cur)(hK:K.length<=gs.length):
 ((ga=none/\gc=0/\gs=[]/\K=[])\/∃gA,ga=some ⟨gA,0,none⟩/\gs.length<=gc)/\((sa=none/\sc=0/\gs=[]/\K=[])\/∃gA,sa=some ⟨gA,0,none⟩/\gs.length<=sc):=by
 have hal:(K++gs.drop K.length).length=gs.length:=by simp;omega
 have nk:gs.length=0->gs=[]/\K=[]:=fun e=>⟨List.eq_nil_of_length_eq_zero e,List.eq_nil_of_length_eq_zero (by omega)⟩
 refine⟨?_,?_⟩
 ·rcases h.og.2 with⟨h1,h2⟩|⟨gA,cp,cu,h1,_,_,h4,_⟩
  ·simp only[Value.slice.injEq]at h1;exact .inl ⟨h1.1,h1.2.2,nk h1.2.1⟩
  simp only[Value.slice.injEq]at h1;exact .inr ⟨gA,h1.1,by omega⟩
 rcases h.os.2 with⟨h1,h2⟩|⟨gA,cp,cu,h1,_,_,h4,_⟩
 ·simp only[Value.slice.injEq]at h1;exact .inl ⟨h1.1,h1.2.2,nk h1.2.1⟩
 simp only[Value.slice.injEq]at h1;rw[List.length_map]at h4;exact .inr ⟨gA,h1.1,by omega⟩
theorem SPO.last{g:Cfg}{F:Nat->Prop}{a:Option Addr}{term:Cl}{ga:Option Addr}{gc:Nat}{xs:List Cl}(h:SPO w l0 gs wr (.slice ga gs.length gc) i D)(hi:gs.length<=i)(hc:ClsIn g F w a l0 term)(hF:∀k,F k->k<w.heap.size)
 (hmd:modG gs=zdg xs)(hl:∀x∈D,x.l.length<=4096):D.length=gs.length/\((D.map fun x=>x.l).map fun(q:List Ce)=>q.map fun e=>e.xs)=zaj xs/\PS g ga (D.map fun x=>x.l) term F wr:=by
 have hd:gs.drop i=[]:=List.drop_eq_nil_of_le hi;have ht:gs.take i=gs:=List.take_of_length_le hi
 have hDl:D.length=gs.length:=by
  have h1:=congrArg List.length h.md;rw[ht,List.length_map,List.length_map]at h1;exact h1
 have hmd2:=h.md;rw[ht]at hmd2;refine⟨hDl,?_,?_⟩
 ·rw[List.map_map];unfold zaj;rw[<-hmd];unfold modG;rw[List.map_map];exact hmd2
 intro j hj;rw[List.length_map]at hj;have hog:=h.og;have hgr:=h.gr;have hci:=h.ci;rw[hd,List.append_nil]at hog hgr hci
 obtain⟨gA,rfl⟩:∃gA,ga=some ⟨gA,0,none⟩:=by
  rcases hog.shape with⟨_,h2⟩|⟨gA,cp,h1,_⟩
  ·rw[h2]at hj;simp at hj
  simp only[Value.slice.injEq]at h1;exact⟨gA,h1.1⟩
 have hcell:=hog.cell hDl.symm zd5 j 0 hj (by omega);obtain⟨b,g1,g2,g3⟩:=hgr _ (List.getElem_mem hj)
 have hgd:(D.map fun x=>x.l).getD j []=D[j].l:=by
  rw[List.getD_eq_getElem?_getD,List.getElem?_map,List.getElem?_eq_getElem hj];rfl
 have hbA:=World.ownsRow.lt hog gA rfl;have hbb:=World.ownsRow.lt g2 b (by rw[g1];rfl);refine⟨gA,0,D[j].a,D[j].c,rfl,fun hf=>by have:=hF _ hf;omega,hbA.2,?_,?_⟩
 ·rw[hgd,Nat.zero_add]
  simpa[encG]using hcell
 rw[hgd];have hk:Kp F w wr:=Kp.below h.hb
 have hck:=hc.kept (F':=F) hk fun k hk'=>.inl hk'
 have hdi:=hci _ (List.getElem_mem hj);rw[g1]at g2;refine⟨fun q hq=>⟨b,0,g1,by rw[Nat.zero_add];exact OwnC.c0 g2 rfl hq,by rw[Nat.zero_add];exact OwnC.c1 g2 rfl hq,?_⟩,fun q hq=>?_,fun e he=>hck.eF e (hdi e he),hl _ (List.getElem_mem hj),fun e he=>hck.xs e (hdi e he),fun e he=>hck.left e (hdi e he)⟩
 ·have hdm:gd D[j].l q∈D[j].l:=by rw[zar hq];exact List.getElem_mem hq
  obtain⟨u,hu,hue⟩:=List.getElem_of_mem (hdi _ hdm);obtain⟨_,_,_,_,_,hic⟩:=hck.cc u hu;rw[zar hu,hue]at hic;exact hic
 rw[g1]at hq;simp only[Option.some.injEq]at hq;subst hq;have h1:=hbb.1;exact⟨fun hf=>by have:=hF b hf;omega,hbb.2⟩
end
end Go.Proofs.YtnlaakmglhjjmaaGreatDoor
