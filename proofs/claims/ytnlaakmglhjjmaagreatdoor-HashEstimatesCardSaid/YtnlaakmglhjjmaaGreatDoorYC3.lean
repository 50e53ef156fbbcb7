/- Parts of the proofs of laws. Texts: Mem, NetVars, CpO, KeyL, BldL, RedL, RedT, RedS, Cex. -/
import Derived.Test.YtnlaakmglhjjmaaGreatDoorYC2
import Derived.Lib.ItoaNum
set_option maxHeartbeats 8000000
set_option maxRecDepth 100000
set_option linter.all false
namespace Go.Proofs.YtnlaakmglhjjmaaGreatDoor
open Go.RowKit Cen
structure Kp(M:Nat->Prop)(w w':World):Prop where
 os:w'.os=w.os
 tape:w'.tape=w.tape
 output:w'.output=w.output
 size:w.heap.size<=w'.heap.size
 block:∀k,k<w.heap.size->¬M k->w'.heap[k]?=w.heap[k]?
theorem Kp.refl(M:Nat->Prop)(w:World):Kp M w w:=⟨rfl,rfl,rfl,Nat.le_refl _,fun _ _ _=>rfl⟩
theorem Kp.trans{M:Nat->Prop}{a b c:World}(h:Kp M a b)(k:Kp M b c):Kp M a c:=
 ⟨k.os.trans h.os,k.tape.trans h.tape,k.output.trans h.output,Nat.le_trans h.size k.size,fun i hi hm=>(k.block i (Nat.lt_of_lt_of_le hi h.size) hm).trans (h.block i hi hm)⟩
theorem Kp.mono{M M':Nat->Prop}{w w':World}(h:Kp M w w')(hm:∀k,k<w.heap.size->M k->M' k):Kp M' w w':=
 ⟨h.os,h.tape,h.output,h.size,fun k hk hn=>h.block k hk fun x=>hn (hm k hk x)⟩
theorem Kp.below{M:Nat->Prop}{w w':World}(h:Below w.heap.size w w'):Kp M w w':=⟨h.os,h.tape,h.output,h.size,fun k hk _=>h.block k hk⟩
theorem Kp.belowB{B:Nat}{M:Nat->Prop}{w w':World}(h:Below B w w')(hm:∀k,B<=k->M k):Kp M w w':=
 ⟨h.os,h.tape,h.output,h.size,fun k _ hn=>h.block k (Nat.lt_of_not_le fun x=>hn (hm k x))⟩
theorem Kp.toBelow{B:Nat}{M:Nat->Prop}{w w':World}(h:Kp M w w')(hB:B<=w.heap.size)(hm:∀k,k<B->¬M k):Below B w w':=
 ⟨h.os,h.tape,h.output,h.size,fun k hk=>h.block k (Nat.lt_of_lt_of_le hk hB) (hm k hk)⟩
theorem Kp.grown{M:Nat->Prop}{w w':World}{row:Option Nat}(h:w.grownBy w' row)(hm:∀k,row=some k->M k):Kp M w w':=
 ⟨h.os,h.tape,h.output,h.size,fun k hk hn=>h.block k hk fun e=>hn (hm k e.symm)⟩
theorem Kp.alloc(M:Nat->Prop)(w:World)(o:Obj):Kp M w (w.alloc o):=.below ((Below.refl _ _).alloc (Nat.le_refl _) o)
theorem Kp.setCell{M:Nat->Prop}(w:World)(a:Addr)(u:Value)(h:M a.block):Kp M w (w.setCell a u):=
 ⟨rfl,rfl,rfl,by simp[World.setCell],fun k _ hk=>Below.heap_setCell _ _ _ _ fun e=>hk (e▸h)⟩
theorem Kp.drew(M:Nat->Prop)(w:World):Kp M w w.drew:=.below (Below.refl _ _).drew
theorem Kp.cell{M:Nat->Prop}{w w':World}(h:Kp M w w'){p:Addr}{v:Value}(hc:w.cell? p=some v)(hm:¬M p.block):w'.cell? p=some v:=by
 rw[World.cell?_of_block (w:=w) (h.block p.block (zai hc) hm)];exact hc
theorem Kp.heap{M:Nat->Prop}{w w':World}(h:Kp M w w'){k:Nat}{o:Obj}(hc:w.heap[k]?=some o)(hm:¬M k):w'.heap[k]?=some o:=by
 rw[h.block k (lt_of_block hc) hm];exact hc
theorem IntCells.kept{M:Nat->Prop}{w w':World}{a:Option Addr}{xs:List Int}(h:IntCells w a xs)(hb:Kp M w w')(hm:∀p,a=some p->¬M p.block):IntCells w' a xs:=
 fun i hi=>let⟨b,off,e,hc⟩:=h i hi;⟨b,off,e,hb.cell hc (hm ⟨b,off,none⟩ e)⟩
def Blk(w:World)(b:Nat)(cs:Array Value)(t:TypeId):Prop:=w.heap[b]?=some (.cells cs t (0,0))
theorem Blk.cell{w:World}{b:Nat}{cs:Array Value}{t:TypeId}(h:Blk w b cs t)(j:Nat):w.cell? ⟨b,j,none⟩=cs[j]?:=by simp only[World.cell?];rw[show w.heap[b]?=_ from h];rfl
theorem Blk.fr{w:World}{b:Nat}{cs:Array Value}{t:TypeId}(h:Blk w b cs t)(j:Nat):w.frozen? ⟨b,j,none⟩=false:=by simp only[World.frozen?];rw[show w.heap[b]?=_ from h];simp
theorem Blk.lt{w:World}{b:Nat}{cs:Array Value}{t:TypeId}(h:Blk w b cs t):b<w.heap.size:=lt_of_block h
theorem Blk.new(w:World)(cs:Array Value)(t:TypeId):Blk (w.alloc (.cells cs t)) w.heap.size cs t:=heap_alloc_new w _
theorem Blk.new'(w:World){b:Nat}(h:w.heap.size=b)(cs:Array Value)(t:TypeId):Blk (w.alloc (.cells cs t)) b cs t:=h▸heap_alloc_new w _
theorem Blk.kept{M:Nat->Prop}{w w':World}{b:Nat}{cs:Array Value}{t:TypeId}(h:Blk w b cs t)(k:Kp M w w')(hm:¬M b):Blk w' b cs t:=k.heap h hm
theorem Blk.alloc{w:World}{b:Nat}{cs:Array Value}{t:TypeId}(h:Blk w b cs t)(o:Obj):Blk (w.alloc o) b cs t:=by
 show(w.alloc o).heap[b]?=_;rw[Below.heap_alloc _ _ _ h.lt];exact h
theorem Blk.set{w:World}{b:Nat}{cs:Array Value}{t:TypeId}(h:Blk w b cs t)(j:Nat)(v:Value):Blk (w.setCell ⟨b,j,none⟩ v) b (cs.setIfInBounds j v) t:=heap_setCell_same w b j cs t v h
theorem Blk.other{w:World}{b:Nat}{cs:Array Value}{t:TypeId}(h:Blk w b cs t)(p:Addr)(v:Value)(hp:p.block≠b):Blk (w.setCell p v) b cs t:=by
 show(w.setCell p v).heap[b]?=_;rw[Below.heap_setCell _ _ _ _ (fun e=>hp e.symm)];exact h
theorem Blk.later{w w':World}{b:Nat}{cs:Array Value}{t:TypeId}(h:Blk w b cs t)(k:Below w.heap.size w w'):Blk w' b cs t:=by
 show w'.heap[b]?=_;rw[k.block b h.lt];exact h
theorem Blk.laterB{B:Nat}{w w':World}{b:Nat}{cs:Array Value}{t:TypeId}(h:Blk w b cs t)(k:Below B w w')(hb:b<B):Blk w' b cs t:=by
 show w'.heap[b]?=_;rw[k.block b hb];exact h
theorem World.size_setCell'(w:World)(p:Addr)(v:Value):(w.setCell p v).heap.size=w.heap.size:=by simp[World.setCell]
def Elem(t e:TypeId)(size bytes:Nat)(z:Value):Prop:=
 Tryz.prog.underlying t=some (.slice e)/\∃i,Tryz.prog.info? e=some i/\i.zero=some z/\i.size=size/\i.bytes=bytes/\z.cells.size=size/\0<size
theorem Elem.mk{t e:TypeId}{size bytes:Nat}{z:Value}(h:Tryz.prog.underlying t=some (.slice e))(k:(Tryz.prog.info? e).map (fun i=>(i.zero,i.size,i.bytes))=some (some z,size,bytes))
 (hz:z.cells.size=size)(h0:0<size):Elem t e size bytes z:=by
 refine⟨h,?_⟩
 cases hi:Tryz.prog.info? e with
 |none=>rw[hi]at k;simp at k
 |some i=>
   rw[hi]at k;simp at k;exact⟨i,rfl,k.1,k.2.1,k.2.2,hz,h0⟩
section
variable{ops:Array Oper}{rest:List Oper}{o:Oper}{a:Act}{Q:Exit->Act->World->Prop}{t e:TypeId}{size bytes:Nat}{z:Value}
theorem app{w:World}(E:Elem t e size bytes z)(hgd:o.guard=none)(s x:Operand)(ho:o.op=.call {callee:=.builtin .append,args:=#[s,x],argTypes:=#[t,t]})
 (base:Nat)(v:Value)(n:Nat)(xs:List Value)(hs:a.eval s=v)(hown:w.ownsRow base e size v n xs)
 (ad:Addr)(m c:Nat)(news:List Value)(hx:a.eval x=.slice (some ad) m c)(hl:news.length=m*size)(hnews:∀j u,news[j]?=some u->w.cell? (ad.add j)=some u)(h1:∀u∈news,u.oneCell'=true)
 (h63:n+m<=maxLen)(hbytes:(n+m)*bytes<=140737488355328)(hbase:base<=w.heap.size)
 (h:∀v' w',w'.ownsRow base e size v' (n+m) (xs++news)->w.grownBy w' v.ownBlock->(v'=.slice none 0 0↔v=.slice none 0 0/\m=0)->wpList Tryz.prog ops Q rest (a.put o.dst v') w'):
 wpList Tryz.prog ops Q (o::rest) a w:=by
 obtain⟨ht,i,hi,hz,hsz,hby,hzs,h0⟩:=E;exact wpList_append_own w hgd s x t ho base e i z size bytes ht hi hz hsz hby hzs h0 v n xs hs hown ad m c news hx hl hnews h1 h63 hbytes hbase h
theorem zb6{W w':World}{ob:Obj}{row:Option Nat}(h:(W.alloc ob).grownBy w' row):W.grownBy w' row:=
 ⟨h.os,h.tape,h.output,Nat.le_trans (by simp) h.size,fun k hk hn=>by rw[h.block k (by simp;omega) hn,Below.heap_alloc _ _ _ hk]⟩
theorem app1{W:World}{C:Array Value}(E:Elem t e size bytes z)(hgd:o.guard=none)(s x:Operand)(ho:o.op=.call {callee:=.builtin .append,args:=#[s,x],argTypes:=#[t,t]})
 (base:Nat)(v:Value)(n:Nat)(xs:List Value)(hs:a.eval s=v)(hown:W.ownsRow base e size v n xs)
 (hx:a.eval x=.slice (some ⟨W.heap.size,0,none⟩) 1 1)(hC:C.size=size)(h1:∀u∈C.toList,u.oneCell'=true)
 (h63:n+1<=maxLen)(hbytes:(n+1)*bytes<=140737488355328)(hbase:base<=W.heap.size)
 (h:∀v' w',w'.ownsRow base e size v' (n+1) (xs++C.toList)->W.grownBy w' v.ownBlock->v'≠.slice none 0 0->wpList Tryz.prog ops Q rest (a.put o.dst v') w'):
 wpList Tryz.prog ops Q (o::rest) a (W.alloc (.cells C e)):=by
 refine app E hgd s x ho base v n xs hs (hown.alloc _) ⟨W.heap.size,0,none⟩ 1 1 C.toList hx (by simpa using hC) ?_ h1 h63 hbytes (by simp;omega) ?_
 ·intro j u hj
  have hlt:j<C.size:=by
   rcases Nat.lt_or_ge j C.size with h'|h'
   ·exact h'
   rw[List.getElem?_eq_none (by simpa using h')]at hj;simp at hj
  have e1:(⟨W.heap.size,0,none⟩:Addr).add j=⟨W.heap.size,j,none⟩:=by
   unfold Addr.add;split
   ·rename_i hj0;rw[hj0]
   simp
  rw[e1,World.cell?_alloc_at _ _ _ _ rfl]
  simpa using hj
 intro v' w' h2 h3 h4;exact h v' w' h2 (zb6 h3) (fun hv=>by have:=h4.1 hv;omega)
end
def OwnL{α:Type}(enc:α->List Value)(e k:Nat)(w:World)(base:Nat)(v:Value)(l:List α):Prop:=w.ownsRow base e k v l.length (l.flatMap enc)
section
variable{α:Type}{enc:α->List Value}{e k:Nat}{w:World}{base:Nat}{l:List α}
theorem OwnL.nil(w:World)(base:Nat):OwnL enc e k w base (.slice none 0 0) []:=World.ownsRow_nil _ _ _ _
theorem OwnL.shape{v:Value}(h:OwnL enc e k w base v l):(v=.slice none 0 0/\l=[])\/∃g cap,v=.slice (some ⟨g,0,none⟩) l.length cap/\base<=g/\g<w.heap.size:=by
 rcases h.2 with⟨h1,h2⟩|⟨g,cap,cur,hv,hb,hh,_⟩
 ·exact .inl ⟨h1,List.eq_nil_of_length_eq_zero h2⟩
 exact .inr ⟨g,cap,hv,hb,lt_of_block hh⟩
theorem OwnL.kept{M:Nat->Prop}{w':World}{v:Value}(h:OwnL enc e k w base v l)(hb:Kp M w w')(hm:∀g,v.ownBlock=some g->¬M g):OwnL enc e k w' base v l:=by
 refine⟨h.1,?_⟩
 rcases h.2 with h1|⟨g,cap,cur,hv,hg,hh,r⟩
 ·exact .inl h1
 exact .inr ⟨g,cap,cur,hv,hg,hb.heap hh (hm g (by rw[hv];rfl)),r⟩
theorem OwnL.later{w':World}{v:Value}(h:OwnL enc e k w base v l)(hb:Below w.heap.size w w'):OwnL enc e k w' base v l:=h.kept (Kp.below (M:=fun _=>False) hb) (fun _ _ x=>x)
theorem OwnL.lower{B:Nat}{v:Value}(h:OwnL enc e k w base v l)(hB:B<=base):OwnL enc e k w B v l:=by
 refine⟨h.1,?_⟩
 rcases h.2 with h1|⟨g,cap,cur,hv,hg,r⟩
 ·exact .inl h1
 exact .inr ⟨g,cap,cur,hv,Nat.le_trans hB hg,r⟩
theorem OwnL.lt{g cap n:Nat}(h:OwnL enc e k w base (.slice (some ⟨g,0,none⟩) n cap) l):g<w.heap.size/\base<=g:=by
 rcases h.shape with⟨h1,_⟩|⟨g',cap',h1,h2,h3⟩
 ·simp at h1
 simp only[Value.slice.injEq,Option.some.injEq,Addr.mk.injEq,and_true]at h1;rw[h1.1];exact⟨h3,h2⟩
theorem OwnL.cell{g cap:Nat}{n:Nat}(hn:n=l.length)(h:OwnL enc e k w base (.slice (some ⟨g,0,none⟩) n cap) l)(hk:∀x,(enc x).length=k)(i j:Nat)(hi:i<l.length)(hj:j<k):
 w.cell? ⟨g,i*k+j,none⟩=(enc l[i])[j]?:=by
 subst hn;rw[<-zmc hk l i j hi hj];exact World.ownsRow.cellAt h _ (by have:=Nat.mul_le_mul_right k (show i+1<=l.length from hi);rw[Nat.succ_mul]at this;omega)
theorem OwnL.fr{g cap:Nat}{n:Nat}(hn:n=l.length)(h:OwnL enc e k w base (.slice (some ⟨g,0,none⟩) n cap) l)(j:Nat):w.frozen? ⟨g,j,none⟩=false:=by subst hn;exact World.ownsRow.frozenAt h j
theorem OwnL.put1{g cap:Nat}{n:Nat}(hn:n=l.length)(h:OwnL enc e 1 w base (.slice (some ⟨g,0,none⟩) n cap) l)(hk:∀x,(enc x).length=1)(i:Nat)(hi:i<l.length)(y:α)(c:Value)(hy:enc y=[c]):
 OwnL enc e 1 (w.setCell ⟨g,i,none⟩ c) base (.slice (some ⟨g,0,none⟩) n cap) (l.set i y):=by
 subst hn;have:=(World.ownsRow.stored h i c).1;rw[zur hk l i y c hi hy]at this
 show World.ownsRow _ _ _ _ _ _ _
 simpa using this
theorem OwnL.put2{g cap:Nat}{n:Nat}(hn:n=l.length)(h:OwnL enc e 2 w base (.slice (some ⟨g,0,none⟩) n cap) l)(hk:∀x,(enc x).length=2)(i:Nat)(hi:i<l.length)(y:α)(c d:Value)(hy:enc y=[c,d]):
 OwnL enc e 2 ((w.setCell ⟨g,i*2,none⟩ c).setCell ⟨g,i*2+1,none⟩ d) base (.slice (some ⟨g,0,none⟩) n cap) (l.set i y):=by
 subst hn;have:=(World.ownsRow.stored (World.ownsRow.stored h (i*2) c).1 (i*2+1) d).1;rw[zus hk l i y c d hi hy]at this
 show World.ownsRow _ _ _ _ _ _ _
 simpa using this
theorem OwnL.put3{g cap:Nat}{n:Nat}(hn:n=l.length)(h:OwnL enc e 3 w base (.slice (some ⟨g,0,none⟩) n cap) l)(hk:∀x,(enc x).length=3)(i:Nat)(hi:i<l.length)(y:α)(c d f:Value)(hy:enc y=[c,d,f]):
 OwnL enc e 3 (((w.setCell ⟨g,i*3,none⟩ c).setCell ⟨g,i*3+1,none⟩ d).setCell ⟨g,i*3+2,none⟩ f) base (.slice (some ⟨g,0,none⟩) n cap) (l.set i y):=by
 subst hn;have:=(World.ownsRow.stored (World.ownsRow.stored (World.ownsRow.stored h (i*3) c).1 (i*3+1) d).1 (i*3+2) f).1;rw[zut hk l i y c d f hi hy]at this
 show World.ownsRow _ _ _ _ _ _ _
 simpa using this
end
section
variable{α:Type}{enc:α->List Value}{e k:Nat}{w:World}{base:Nat}{vs zs:List α}{c:α}{g cap n i:Nat}
theorem OwnL.mid(h:OwnL enc e k w base (.slice (some ⟨g,0,none⟩) n cap) (vs++c::zs))(hi:i=vs.length)(hn:n=(vs++c::zs).length)(hk:∀x,(enc x).length=k)(j:Nat)(hj:j<k):
 w.cell? ⟨g,i*k+j,none⟩=(enc c)[j]?:=by
 subst hi;rw[h.cell hn hk vs.length j (by simp) hj];simp
theorem OwnL.left(h:OwnL enc e k w base (.slice (some ⟨g,0,none⟩) n cap) (vs++c::zs))(hi:i<vs.length)(hn:n=(vs++c::zs).length)(hk:∀x,(enc x).length=k)(j:Nat)(hj:j<k):
 w.cell? ⟨g,i*k+j,none⟩=(enc vs[i])[j]?:=by
 rw[h.cell hn hk i j (by simp;omega) hj,List.getElem_append_left hi]
theorem OwnL.midput2(h:OwnL enc e 2 w base (.slice (some ⟨g,0,none⟩) n cap) (vs++c::zs))(hi:i=vs.length)(hn:n=(vs++c::zs).length)(hk:∀x,(enc x).length=2)(y:α)(c0 c1:Value)(hy:enc y=[c0,c1]):
 OwnL enc e 2 ((w.setCell ⟨g,i*2,none⟩ c0).setCell ⟨g,i*2+1,none⟩ c1) base (.slice (some ⟨g,0,none⟩) n cap) (vs++y::zs):=by
 subst hi;have:=h.put2 hn hk vs.length (by simp) y c0 c1 hy
 rwa[List.set_append_right _ _ (Nat.le_refl _),Nat.sub_self]at this
theorem OwnL.midput3(h:OwnL enc e 3 w base (.slice (some ⟨g,0,none⟩) n cap) (vs++c::zs))(hi:i=vs.length)(hn:n=(vs++c::zs).length)(hk:∀x,(enc x).length=3)(y:α)(c0 c1 c2:Value)(hy:enc y=[c0,c1,c2]):
 OwnL enc e 3 (((w.setCell ⟨g,i*3,none⟩ c0).setCell ⟨g,i*3+1,none⟩ c1).setCell ⟨g,i*3+2,none⟩ c2) base (.slice (some ⟨g,0,none⟩) n cap) (vs++y::zs):=by
 subst hi;have:=h.put3 hn hk vs.length (by simp) y c0 c1 c2 hy
 rwa[List.set_append_right _ _ (Nat.le_refl _),Nat.sub_self]at this
end
section
variable{ops:Array Oper}{rest:List Oper}{o:Oper}{a:Act}{Q:Exit->Act->World->Prop}
theorem zkk{α:Type}{enc:α->List Value}{k n:Nat}{z:Array Value}{y:α}(hk:z.size=k)(h0:0<k)(hy:enc y=z.toList):
 (madeCells z (n*k)).toList=(List.replicate n y).flatMap enc:=by
 rw[zkf,hy]
 have hl:((List.replicate n z.toList).flatten).length=n*k:=by simp[hk]
 apply List.ext_getElem?
 intro i
 by_cases hi:i<n*k
 ·have e:i=(i/k)*k+i%k:=by rw[Nat.mul_comm];exact(Nat.div_add_mod i k).symm
  have hm:i%k<k:=Nat.mod_lt _ h0
  have hd:i/k<n:=by rw[Nat.div_lt_iff_lt_mul h0];exact hi
  have h1:(madeCells z (n*k)).toList[i]?=some z[i%k]!:=by
   have hs:i<(madeCells z (n*k)).size:=by rw[size_madeCells];exact hi
   rw[Array.getElem?_toList,Array.getElem?_eq_getElem hs]
   simp[madeCells,hk]
  have h2:=zmc (enc:=fun x:List Value=>x) (k:=k) (l:=List.replicate n z.toList);rw[h1];have hz:z[i%k]! =z[i%k]:=getElem!_pos z (i%k) (by omega);rw[hz]
  have gen:∀(m q:Nat),q<m->((List.replicate m z.toList).flatten)[q*k+i%k]?=z.toList[i%k]?:=by
   intro m
   induction m with
   |zero=>intro q hq;omega
   |succ m ih=>
     intro q hq;rw[List.replicate_succ,List.flatten_cons]
     cases q with
     |zero=>rw[List.getElem?_append_left (by simp[hk];omega)];simp
     |succ q=>
       have e2:(q+1)*k+i%k=z.toList.length+(q*k+i%k):=by rw[Array.length_toList,hk,Nat.succ_mul];omega
       rw[e2,List.getElem?_append_right (by omega),Nat.add_sub_cancel_left,ih q (by omega)]
  have:=gen n (i/k) hd;rw[<-e]at this;rw[this,Array.getElem?_toList,Array.getElem?_eq_getElem (by omega)]
 rw[List.getElem?_eq_none (by rw[Array.length_toList,size_madeCells];omega),List.getElem?_eq_none (by omega)]
theorem mk{w:World}{t e k bytes:Nat}{z:Value}(E:Elem t e k bytes z)(hg:o.guard=none)(l c:Operand)(hop:o.op=Op.makeSlice t l c)(base:Nat)(kl kc:IntKind)(L C:Int)(n:Nat)
 (hl:a.eval l=.int kl L)(hc:a.eval c=.int kc C)(hL:L=(n:Int))(hC:C=(n:Int))(b2:bytes*n<=281474976710656)(b3:n<=maxLen)(b4:base<=w.heap.size)
 {α:Type}(enc:α->List Value)(y:α)(hy:enc y=z.cells.toList)
 (h:∀w',OwnL enc e k w' base (.slice (some ⟨w.heap.size,0,none⟩) n n) (List.replicate n y)->w.grownBy w' none->wpList Tryz.prog ops Q rest (a.put o.dst (.slice (some ⟨w.heap.size,0,none⟩) n n)) w'):
 wpList Tryz.prog ops Q (o::rest) a w:=by
 obtain⟨ht,i,hi,hzz,hsz,hby,hzs,h0⟩:=E
 refine wpList_make_full w hg l c t hop base e i z k ht hi hzz hsz kl kc L C n hl hc hL hC (by rw[hby];exact b2) b3 b4 fun w' h1 h2=>h w' ?_ h2
 unfold OwnL;rw[<-zkk (z:=z.cells) (k:=k) (n:=n) hzs h0 hy];simpa using h1
end
def OwnInts(w:World)(base:Nat)(v:Value)(xs:List Int):Prop:=w.ownsRow base 3 1 v xs.length (xs.map (Value.int .i64))
theorem ziz:Elem 75 3 1 8 (.int .i64 0):=.mk Tryz.underlying75 (by kernel_rfl) rfl (by decide)
theorem OwnInts.nil(w:World)(base:Nat):OwnInts w base (.slice none 0 0) []:=World.ownsRow_nil _ _ _ _
theorem OwnInts.cells{w:World}{base:Nat}{v:Value}{xs:List Int}(h:OwnInts w base v xs):
 ∃a cap,v=.slice a xs.length cap/\IntCells w a xs/\(∀p,a=some p->base<=p.block/\p.off=0/\p.spot=none):=by
 rcases h.2 with⟨h1,h2⟩|⟨g,cap,cur,hv,hb,hh,hn,hm,hs,ht⟩
 ·refine⟨none,0,by rw[h1,h2],?_,by simp⟩;intro i hi;omega
 refine⟨some ⟨g,0,none⟩,cap,hv,?_,by simp;exact hb⟩;intro i hi;refine⟨g,0,rfl,?_⟩;subst hv;have:=World.ownsRow.cellAt h i (by omega);rw[Nat.zero_add,this]
 simp[List.getD_eq_getElem?_getD,hi]
section
variable{ops:Array Oper}{rest:List Oper}{o:Oper}{a:Act}{Q:Exit->Act->World->Prop}
end
end Go.Proofs.YtnlaakmglhjjmaaGreatDoor
namespace Cen
def ofL(xs:List Int):St:=xs.foldl St.add St.zero
theorem zvm(xs:List Int):(ofL xs).ok:=by
 have:∀s:St,s.ok->(xs.foldl St.add s).ok:=by
  induction xs with
  |nil=>intro s h;exact h
  |cons x xs ih=>intro s h;exact ih _ (St.add_ok h x)
 exact this _ St.zero_ok
def insU(vs:List St)(s:St)(ins:List Int):St:=ins.foldl (fun s k=>s.union (vs.getD k.toNat St.zero)) s
def zcn:List Nd->List St->List St
 |[],vs=>vs
 |x::l,vs=>zcn l (vs++[insU vs (ofL [zac x.lit]) x.ins])
def zau(l:List Nd):List St:=zcn l []
theorem zdu(l r:List Nd)(vs:List St):zcn (l++r) vs=zcn r (zcn l vs):=by
 induction l generalizing vs with
 |nil=>rfl
 |cons y l ih=>simp only[List.cons_append,zcn];exact ih _
theorem zhh(l:List Nd)(x:Nd):zau (l++[x])=zau l++[insU (zau l) (ofL [zac x.lit]) x.ins]:=zdu l [x] []
theorem zkp(l:List Nd)(vs:List St):(zcn l vs).length=vs.length+l.length:=by
 induction l generalizing vs with
 |nil=>rfl
 |cons y l ih=>simp only[zcn,ih];simp;omega
theorem zba(l:List Nd):(zau l).length=l.length:=by simp[zau,zkp]
theorem zu2{vs:List St}(hv:∀s∈vs,s.ok)(ins:List Int):∀{s:St},s.ok->(insU vs s ins).ok:=by
 induction ins with
 |nil=>intro s h;exact h
 |cons k ins ih=>
   intro s h;refine ih (s:=s.union (vs.getD k.toNat St.zero)) (St.union_ok h ?_)
   by_cases hk:k.toNat<vs.length
   ·simp only[List.getD_eq_getElem?_getD,List.getElem?_eq_getElem hk];exact hv _ (List.getElem_mem hk)
   simp only[List.getD_eq_getElem?_getD,List.getElem?_eq_none (Nat.le_of_not_lt hk)];exact St.zero_ok
theorem ztd(l:List Nd):∀{vs:List St},(∀s∈vs,s.ok)->∀s∈zcn l vs,s.ok:=by
 induction l with
 |nil=>intro vs h;exact h
 |cons y l ih=>
   intro vs h
   refine ih fun s hs=>?_
   rcases List.mem_append.1 hs with h1|h1
   ·exact h s h1
   simp at h1;subst h1;exact zu2 h _ (zvm _)
theorem zfe(l:List Nd):∀s∈zau l,s.ok:=ztd l (by simp)
theorem zu3(vs:List St)(s:St)(ins:List Int)(k:Int):insU vs s (ins++[k])=(insU vs s ins).union (vs.getD k.toNat St.zero):=by simp[insU]
def sepF(vs:List St):St->List Int->Bool
 |_,[]=>true
 |s,k::r=>if s.cut (vs.getD k.toNat St.zero)=St.zero then sepF vs (s.union (vs.getD k.toNat St.zero)) r else false
def zst(vs:List St)(x:Nd):Bool:=decide (x.kind≠3)||sepF vs St.zero x.ins
def decL(l:List Nd):Bool:=l.all (zst (zau l))
theorem zud{l:List Nd}(h:∀j,j<l.length->zst (zau l) (l.getD j default)=true):decL l=true:=by
 rw[decL,List.all_eq_true];intro x hx;obtain⟨j,hj,rfl⟩:=List.getElem_of_mem hx;have:=h j hj
 simpa[List.getD_eq_getElem?_getD,hj]using this
abbrev Cl:=List Int
def cmpL(a b:Int):Int:=if zac a-zac b≠0 then zac a-zac b else a-b
theorem znk(a:Int):cmpL a a=0:=by unfold cmpL;rw[if_neg (by omega)];omega
theorem zo7{a b:Int}:cmpL a b=0↔a=b:=by
 constructor
 ·intro h;unfold cmpL at h;split at h<;>omega
 rintro rfl;exact znk a
theorem zde{a b:Int}:cmpL a b<0↔zac a<zac b\/(zac a=zac b/\a<b):=by unfold cmpL;split<;>omega
theorem zt5{a b:Int}:cmpL b a=-cmpL a b:=by unfold cmpL;split<;>split<;>omega
theorem zsc{a b c:Int}(h:cmpL a b<0)(k:cmpL b c<0):cmpL a c<0:=by rw[zde]at*;omega
def ltL(a b:Int):Prop:=cmpL a b<0
def lexC:Cl->Cl->Int
 |[],[]=>0
 |[],_::_=>-1
 |_::_,[]=>1
 |a::as',b::bs=>if cmpL a b≠0 then cmpL a b else lexC as' bs
theorem zn4:∀a:Cl,lexC a a=0
 |[]=>rfl
 |x::a=>by rw[lexC,if_neg (by simp[znk])];exact zn4 a
theorem zva:∀{a b:Cl},lexC a b=0->a=b
 |[],[],_=>rfl
 |[],_::_,h=>by simp[lexC]at h
 |_::_,[],h=>by simp[lexC]at h
 |x::a,y::b,h=>by
   rw[lexC]at h
   by_cases e:cmpL x y=0
   ·rw[if_neg (by simpa using e)]at h;rw[zo7.1 e,zva h]
   rw[if_pos e]at h;exact absurd h e
theorem zjf:∀a b:Cl,(0<lexC a b->lexC b a<0)/\(lexC a b<0->0<lexC b a)
 |[],[]=>by simp[lexC]
 |[],_::_=>by simp[lexC]
 |_::_,[]=>by simp[lexC]
 |x::a,y::b=>by
   have h:=zt5 (a:=x) (b:=y);have ih:=zjf a b;rw[lexC,lexC]
   by_cases e:cmpL x y=0
   ·rw[if_neg (by simpa using e),if_neg (by simp;omega)];exact ih
   rw[if_pos e,if_pos (by simp;omega)];omega
theorem zk9:∀{a b c:Cl},lexC a b<0->lexC b c<0->lexC a c<0
 |[],[],_,h,_=>by simp[lexC]at h
 |[],_::_,[],_,k=>by simp[lexC]at k
 |[],_::_,_::_,_,_=>by simp[lexC]
 |_::_,[],_,h,_=>by simp[lexC]at h
 |_::_,_::_,[],_,k=>by simp[lexC]at k
 |x::a,y::b,z::c,h,k=>by
   rw[lexC]at*
   by_cases e:cmpL x y=0
   ·rw[if_neg (by simpa using e)]at h;have e':=zo7.1 e;subst e'
    by_cases f:cmpL x z=0
    ·rw[if_neg (by simpa using f)]at*;exact zk9 h k
    rw[if_pos f]at*;exact k
   rw[if_pos e]at h
   by_cases f:cmpL y z=0
   ·have f':=zo7.1 f;subst f';rw[if_pos e];exact h
   rw[if_pos f]at k;have:=zsc h k;rw[if_pos (by omega)];exact this
def cmpC(a b:Cl):Int:=if(a.length:Int)-b.length≠0 then(a.length:Int)-b.length else lexC a b
theorem znj(a:Cl):cmpC a a=0:=by unfold cmpC;rw[if_neg (by omega)];exact zn4 a
theorem zit{a b:Cl}:cmpC a b=0↔a=b:=by
 constructor
 ·intro h;unfold cmpC at h;split at h
  ·omega
  exact zva h
 rintro rfl;exact znj a
def ltC(a b:Cl):Prop:=cmpC a b<0
instance(a b:Cl):Decidable (ltC a b):=inferInstanceAs(Decidable (cmpC a b<0))
theorem ziu{a b:Cl}(h:0<cmpC a b):ltC b a:=by
 unfold ltC cmpC at*
 split at h
 ·rw[if_pos (by omega)];omega
 rw[if_neg (by omega)];exact(zjf a b).1 h
theorem zsb{a b:Cl}(h:cmpC a b<0):0<cmpC b a:=by
 unfold cmpC at*
 split at h
 ·rw[if_pos (by omega)];omega
 rw[if_neg (by omega)];exact(zjf a b).2 h
theorem zce{a b:Cl}(h:ltC a b):¬ltC b a:=by have:=zsb h;unfold ltC;omega
theorem ze5(a:Cl):¬ltC a a:=by unfold ltC;rw[znj];omega
theorem zgd{a b c:Cl}(h:ltC a b)(k:ltC b c):ltC a c:=by
 unfold ltC cmpC at*
 split at h<;>split at k
 ·rw[if_pos (by omega)];omega
 ·rw[if_pos (by omega)];omega
 ·rw[if_pos (by omega)];omega
 rw[if_neg (by omega)];exact zk9 h k
theorem zve{a b:Int}(h:ltL a b):¬ltL b a:=by unfold ltL at*;rw[zde]at*;omega
theorem zbx{α:Type}{r:α->α->Prop}(as':∀a b,r a b->¬r b a):∀{l m:List α},l.Pairwise r->m.Pairwise r->(∀x,x∈l↔x∈m)->l=m
 |[],[],_,_,_=>rfl
 |[],b::m,_,_,h=>by have:=(h b).2 (by simp);simp at this
 |a::l,[],_,_,h=>by have:=(h a).1 (by simp);simp at this
 |a::l,b::m,hl,hm,h=>by
   rw[List.pairwise_cons]at hl hm
   have e:a=b:=by
    rcases List.mem_cons.1 ((h a).1 (by simp))with e|ha
    ·exact e
    rcases List.mem_cons.1 ((h b).2 (by simp))with e|hb
    ·exact e.symm
    exact absurd (hl.1 b hb) (as' _ _ (hm.1 a ha))
   subst e
   have ir:∀x,¬r x x:=fun x hx=>as' x x hx hx
   rw[zbx as' hl.2 hm.2 fun x=>?_]
   constructor
   ·intro hx
    rcases List.mem_cons.1 ((h x).1 (by simp[hx]))with e|h2
    ·subst e;exact absurd (hl.1 x hx) (ir x)
    exact h2
   intro hx
   rcases List.mem_cons.1 ((h x).2 (by simp[hx]))with e|h2
   ·subst e;exact absurd (hm.1 x hx) (ir x)
   exact h2
def insC(c:Cl):List Cl->List Cl
 |[]=>[c]
 |d::l=>if cmpC c d<0 then c::d::l else if cmpC c d=0 then d::l else d::insC c l
theorem zml{c x:Cl}:∀{l:List Cl},x∈insC c l↔x=c\/x∈l
 |[]=>by simp[insC]
 |d::l=>by
   rw[insC]
   by_cases h:cmpC c d<0
   ·rw[if_pos h];simp
   rw[if_neg h]
   by_cases k:cmpC c d=0
   ·rw[if_pos k,zit.1 k];simp
   rw[if_neg k,List.mem_cons,zml];simp only[List.mem_cons];constructor
   ·rintro(h|h|h)<;>simp[h]
   rintro(h|h|h)<;>simp[h]
theorem zi9{c:Cl}:∀{l:List Cl},l.Pairwise ltC->(insC c l).Pairwise ltC
 |[],_=>by simp[insC]
 |d::l,h=>by
   rw[insC]
   by_cases h1:cmpC c d<0
   ·rw[if_pos h1,List.pairwise_cons];refine⟨fun x hx=>?_,h⟩
    rcases List.mem_cons.1 hx with rfl|hx
    ·exact h1
    exact zgd h1 ((List.pairwise_cons.1 h).1 x hx)
   rw[if_neg h1]
   by_cases k:cmpC c d=0
   ·rw[if_pos k];exact h
   rw[if_neg k,List.pairwise_cons];rw[List.pairwise_cons]at h;refine⟨fun x hx=>?_,zi9 h.2⟩
   rcases zml.1 hx with rfl|hx
   ·exact ziu (by omega)
   exact h.1 x hx
def ordC(l:List Cl):List Cl:=l.foldr insC []
theorem zbd{x:Cl}:∀{l:List Cl},x∈ordC l↔x∈l
 |[]=>by simp[ordC]
 |c::l=>by
   show x∈insC c (ordC l)↔_
   rw[zml,zbd,List.mem_cons]
theorem za0:∀l:List Cl,(ordC l).Pairwise ltC
 |[]=>List.Pairwise.nil
 |c::l=>zi9 (za0 l)
theorem zfv{l m:List Cl}(h:m.Pairwise ltC)(hm:∀x,x∈m↔x∈l):m=ordC l:=
 zbx (fun _ _=>zce) h (za0 l) fun x=>by rw[hm,zbd]
theorem zvr{l:List Cl}(h:l.Pairwise ltC):ordC l=l:=(zfv h fun _=>Iff.rfl).symm
theorem zlh{l m:List Cl}(h:∀x,x∈l↔x∈m):ordC l=ordC m:=zfv (za0 l) fun x=>by rw[zbd,h]
theorem zi8(c:Cl):∀l:List Cl,(insC c l).length<=l.length+1
 |[]=>by simp[insC]
 |d::l=>by
   rw[insC];split
   ·simp
   split
   ·simp
   have:=zi8 c l;simp;omega
theorem zbc:∀l:List Cl,(ordC l).length<=l.length
 |[]=>by simp[ordC]
 |c::l=>by
   have h1:=zi8 c (ordC l);have h2:=zbc l
   show(insC c (ordC l)).length<=_
   simp;omega
theorem zx9{l:List Cl}:ordC l=[]↔l=[]:=by
 constructor
 ·intro h
  cases l with
  |nil=>rfl
  |cons c l=>have:c∈ordC (c::l):=zbd.2 (by simp);rw[h]at this;simp at this
 rintro rfl;rfl
def zcg(n:Nat)(c:Cl):Cl:=
 (List.range n).flatMap fun(j:Nat)=>(if-((j:Int)+1)∈c then[-((j:Int)+1)]else[])++(if((j:Int)+1)∈c then[(j:Int)+1]else[])
theorem zb4{n:Nat}{c:Cl}{x:Int}:x∈zcg n c↔x∈c/\x≠0/\-(n:Int)<=x/\x<=n:=by
 unfold zcg;rw[List.mem_flatMap]
 constructor
 ·rintro⟨j,hj,hx⟩;rw[List.mem_range]at hj
  rcases List.mem_append.1 hx with h|h
  ·split at h
   ·simp at h;subst h;exact⟨‹_›,by omega,by omega,by omega⟩
   simp at h
  split at h
  ·simp at h;subst h;exact⟨‹_›,by omega,by omega,by omega⟩
  simp at h
 rintro⟨h1,h2,h3,h4⟩
 rcases Int.lt_or_gt_of_ne h2 with h|h
 ·refine⟨(-x-1).toNat,List.mem_range.2 (by omega),List.mem_append_left _ ?_⟩;rw[show-((((-x-1).toNat:Nat):Int)+1)=x by omega,if_pos h1];simp
 refine⟨(x-1).toNat,List.mem_range.2 (by omega),List.mem_append_right _ ?_⟩;rw[show((((x-1).toNat:Nat):Int)+1)=x by omega,if_pos h1];simp
theorem zam{x:Int}(h:x≠0)(h1:-128<=x)(h2:x<=128):zac x=if x<0 then-x else x:=by
 unfold zac;split
 ·rw[if_neg (by omega)]
 rw[if_pos (by omega),if_pos (by omega)]
theorem zex{n:Nat}(hn:n<=128)(c:Cl):(zcg n c).Pairwise ltL:=by
 unfold zcg;rw[List.flatMap_def,List.pairwise_flatten]
 have key:∀j:Nat,∀x∈((if-((j:Int)+1)∈c then[-((j:Int)+1)]else[])++(if((j:Int)+1)∈c then[(j:Int)+1]else[])),x=-((j:Int)+1)\/x=(j:Int)+1:=fun j x hx=>by
  rcases List.mem_append.1 hx with h|h
  ·split at h<;>simp at h;exact .inl h
  split at h<;>simp at h;exact .inr h
 constructor
 ·intro l hl;rw[List.mem_map]at hl;obtain⟨j,hj,rfl⟩:=hl;rw[List.mem_range]at hj;rw[List.pairwise_append];refine⟨by split<;>simp,by split<;>simp,fun a ha b hb=>?_⟩
  split at ha<;>simp at ha
  split at hb<;>simp at hb
  subst ha;subst hb;unfold ltL;rw[zde,zam (by omega) (by omega) (by omega),zam (by omega) (by omega) (by omega)];rw[if_pos (by omega),if_neg (by omega)];omega
 rw[List.pairwise_map];refine List.Pairwise.imp_of_mem ?_ (List.pairwise_lt_range (n:=n));intro j k hj hk hjk x hx y hy;rw[List.mem_range]at hj hk;have hx:=key j x hx;have hy:=key k y hy;unfold ltL;rw[zde,zam (by omega) (by omega) (by omega),zam (by omega) (by omega) (by omega)]
 split<;>split<;>omega
theorem zey{n:Nat}(hn:n<=128){c d:Cl}(hd:d.Pairwise ltL)(hm:∀x,x∈d↔x∈c)(hc:∀x∈c,x≠0/\-(n:Int)<=x/\x<=n):d=zcg n c:=
 zbx (fun _ _=>zve) hd (zex hn c) fun x=>by
  rw[hm,zb4];exact⟨fun h=>⟨h,hc x h⟩,fun h=>h.1⟩
end Cen
namespace Cen
open Go
def zdl(n:Int):List UInt8:=Lib.itoa n++[32]
theorem zra(n:Int)(h0:-65536<=n)(h1:n<=65536):(Lib.itoa n).length<=20:=by
 have key:∀k:Nat,k<10^7->(Lib.decDigits k).length<=8:=fun k hk=>by
  rw[Lib.decDigits_length]
  have h2:∀(f m:Nat),m<10^f->Lib.nDigits m<=f+1:=by
   intro f
   induction f with
   |zero=>intro m hm;rw[Lib.nDigits_small (by omega)];omega
   |succ f ih=>
     intro m hm
     by_cases h10:m<10
     ·rw[Lib.nDigits_small h10];omega
     rw[Lib.nDigits_big h10];have:=ih (m/10) (by rw[Nat.pow_succ]at hm;omega);omega
  exact h2 7 k hk
 unfold Lib.itoa
 split
 ·simp;have:=key n.natAbs (by omega);omega
 have:=key n.toNat (by omega);omega
theorem zu5(n:Int)(h0:-65536<=n)(h1:n<=65536):(zdl n).length<=21:=by have:=zra n h0 h1;simp[zdl];omega
def zx4:List UInt8->Nat:=List.foldl (fun a c=>10*a+(c.toNat-48)) 0
theorem zsw(l:List UInt8)(c:UInt8):zx4 (l++[c])=10*zx4 l+(c.toNat-48):=by simp[zx4]
theorem zdf{k:Nat}(h:k<10):(UInt8.ofNat (48+k)).toNat=48+k:=by
 simp[UInt8.toNat_ofNat'];omega
theorem zf5(u:Nat):zx4 (Lib.decDigits u)=u:=by
 induction u using Nat.strongRecOn with
 |_ u ih=>
   rw[Lib.decDigits]
   split
   ·rename_i h;show 10*0+((UInt8.ofNat (48+u)).toNat-48)=u;rw[zdf h];omega
   rename_i h
   rw[zsw,ih (u/10) (by omega),zdf (by omega)];omega
theorem zca(u:Nat):∀c∈Lib.decDigits u,48<=c.toNat/\c.toNat<=57:=by
 induction u using Nat.strongRecOn with
 |_ u ih=>
   rw[Lib.decDigits]
   split
   ·rename_i h;intro c hc;rw[List.mem_singleton.1 hc,zdf h];omega
   rename_i h
   intro c hc
   rcases List.mem_append.1 hc with h1|h1
   ·exact ih (u/10) (by omega) c h1
   rw[List.mem_singleton.1 h1,zdf (by omega)];omega
theorem zf4{u v:Nat}(h:Lib.decDigits u=Lib.decDigits v):u=v:=by rw[<-zf5 u,h,zf5]
theorem zhm(u:Nat):Lib.decDigits u≠[]:=by
 rw[Lib.decDigits];split<;>simp
theorem zxn{m n:Int}(h:Lib.itoa m=Lib.itoa n):m=n:=by
 unfold Lib.itoa at h
 by_cases h1:m<0<;>by_cases h2:n<0
 ·rw[if_pos h1,if_pos h2]at h;have:=zf4 (List.cons.inj h).2;omega
 ·rw[if_pos h1,if_neg h2]at h;have:=zca n.toNat 45 (by rw[<-h];simp);exact absurd this.1 (by decide)
 ·rw[if_neg h1,if_pos h2]at h;have:=zca m.toNat 45 (by rw[h];simp);exact absurd this.1 (by decide)
 rw[if_neg h1,if_neg h2]at h;have:=zf4 h;omega
theorem zn1(n:Int):(32:UInt8)∉Lib.itoa n:=by
 unfold Lib.itoa
 split
 ·intro h
  rcases List.mem_cons.1 h with h1|h1
  ·exact absurd h1 (by decide)
  have:=(zca _ _ h1).1;exact absurd this (by decide)
 intro h;have:=(zca _ _ h).1;exact absurd this (by decide)
theorem cut32{a b r s:List UInt8}(ha:(32:UInt8)∉a)(hb:(32:UInt8)∉b)(h:a++32::r=b++32::s):a=b/\r=s:=by
 induction a generalizing b with
 |nil=>
   cases b with
   |nil=>simpa using h
   |cons y b=>simp at h hb;exact absurd h.1 hb.1
 |cons x a ih=>
   cases b with
   |nil=>simp at h ha;exact absurd h.1.symm ha.1
   |cons y b=>
     simp only[List.cons_append,List.cons.injEq]at h;simp at ha hb;obtain⟨h1,h2⟩:=ih ha.2 hb.2 h.2;exact⟨by rw[h.1,h1],h2⟩
theorem zu4{m n:Int}{r s:List UInt8}(h:zdl m++r=zdl n++s):m=n/\r=s:=by
 unfold zdl at h;simp only[List.append_assoc,List.singleton_append]at h;obtain⟨h1,h2⟩:=cut32 (zn1 m) (zn1 n) h;exact⟨zxn h1,h2⟩
theorem zxh(l:List Int)(h:∀x∈l,-65536<=x/\x<=65536):(l.flatMap zdl).length<=21*l.length:=by
 induction l with
 |nil=>simp
 |cons x l ih=>
   have h1:=zu5 x (h x (by simp)).1 (h x (by simp)).2
   have h2:=ih fun y hy=>h y (by simp[hy])
   simp only[List.flatMap_cons,List.length_append,List.length_cons];omega
end Cen
namespace Cen
end Cen
namespace Cen
def nd(L:List Nd)(i:Int):Nd:=L.getD i.toNat default
def zc4(l:List Int):List Int:=l.mergeSort fun x y=>decide (x<=y)
end Cen
namespace Cen
theorem zop{l:List Int}{y:Int}:y∈zc4 l↔y∈l:=by unfold zc4;exact List.mem_mergeSort
theorem zvf{x:Nd}{n b:Int}(h:ndOk x n b=true)(h3:¬(x.kind=3\/x.kind=4)):ndOk ⟨x.kind,x.lit,[]⟩ n b=true/\x.ins=[]:=by
 simp only[ndOk,Bool.and_eq_true]at*;obtain⟨h1,h2⟩:=h;unfold zch at*
 by_cases c1:x.kind=0\/x.kind=1
 ·rw[if_pos c1]at h2;simp at h2;simp[zeg,h2,c1]
 rw[if_neg c1]at h2
 by_cases c2:x.kind=2
 ·rw[if_pos c2]at h2;simp at h2;simp[zeg,h2,c2]
 rw[if_neg c2,if_neg h3]at h2;simp at h2
end Cen
namespace Cen
structure RedOk(n:Int)(st:List Nd×List Int)(k:Nat):Prop where
 nds:zds st.1 n st.1.length
 le:st.1.length<=k
 len:st.2.length=k
 at_:∀i∈st.2,0<=i/\i<(st.1.length:Int)
theorem RedOk.getD{n:Int}{st:List Nd×List Int}{k:Nat}(h:RedOk n st k)(i:Nat)(hi:i<k):0<=st.2.getD i 0/\st.2.getD i 0<(st.1.length:Int):=by
 have hi':i<st.2.length:=by rw[h.len];exact hi
 have:=h.at_ (st.2[i]) (List.getElem_mem hi')
 simpa[List.getD_eq_getElem?_getD,hi']using this
theorem zvg{L:List Nd}{i:Int}(h0:0<=i)(h1:i<L.length):nd L i=L[i.toNat]'(by omega):=by
 unfold nd;simp[List.getD_eq_getElem?_getD,show i.toNat<L.length by omega]
theorem zn9{L r:List Nd}{i:Int}(h0:0<=i)(h1:i<L.length):nd (L++r) i=nd L i:=by
 unfold nd;simp only[List.getD_eq_getElem?_getD];rw[List.getElem?_append_left (by omega)]
theorem zoa{L:List Nd}{n:Int}(hL:zds L n L.length){i:Int}(h0:0<=i)(h1:i<L.length):ndOk (nd L i) n i=true:=by
 have:=hL i.toNat (by omega);rw[show((i.toNat:Nat):Int)=i by omega]at this;exact this
theorem zd9{x:Nd}{n b:Int}(h:ndOk x n b=true):∀i∈x.ins,0<=i/\i<b:=by
 simp only[ndOk,Bool.and_eq_true]at h;exact zer.1 h.1
theorem zmp{x:Nd}{n b:Int}(h:ndOk x n b=true)(h2:x.kind=2):zac x.lit≠0/\zac x.lit<=n:=by
 simp only[ndOk,Bool.and_eq_true]at h;have h3:=h.2;unfold zch at h3;rw[if_neg (by omega),if_pos h2]at h3;simp only[zbn,Bool.and_eq_true,decide_eq_true_eq]at h3;exact h3.1
theorem T_nd(s:Int->Bool){L:List Nd}{n:Int}(hL:zds L n L.length){i:Int}(h0:0<=i)(h1:i<L.length):T s L i=evNd s (T s L) (nd L i):=by
 have e:((i.toNat:Nat):Int)=i:=by omega
 have h:=hL i.toNat (by omega);simp only[ndOk,Bool.and_eq_true]at h;have:=T_eq s L i.toNat (by omega) h.1;rw[e]at this;exact this
theorem zz7{s:Int->Bool}{L:List Nd}{n:Int}(hL:zds L n L.length){i:Int}(h0:0<=i)(h1:i<L.length)(h:(nd L i).kind=2):T s L i=zcj s (nd L i).lit:=by
 rw[T_nd s hL h0 h1];unfold evNd;rw[if_neg (by omega),if_pos h]
theorem zb7{l:List Int}(h:l.Nodup){b:Nat}(hb:∀i∈l,0<=i/\i<(b:Int)):l.length<=b:=by
 induction b generalizing l with
 |zero=>
   match l with
   |[]=>simp
   |x::l=>have:=hb x (by simp);omega
 |succ b ih=>
   have h2:=ih (l:=l.filter fun x=>decide (x≠(b:Int))) (h.filter _) (by
    intro i hi;simp only[List.mem_filter,decide_eq_true_eq]at hi;have:=hb i hi.1
    omega)
   have h3:l.length<=(l.filter fun x=>decide (x≠(b:Int))).length+1:=by
    clear h2 ih hb
    induction l with
    |nil=>simp
    |cons x l ih=>
      rw[List.nodup_cons]at h
      by_cases e:x=(b:Int)
      ·have:(l.filter fun x=>decide (x≠(b:Int)))=l:=by
        rw[List.filter_eq_self];intro a ha;simp only[decide_eq_true_eq];intro e2;exact h.1 (by rw[e,<-e2];exact ha)
       rw[List.filter_cons_of_neg (by simp[e]),this];simp
      rw[List.filter_cons_of_pos (by simp[e])];have:=ih h.2;simp only[List.length_cons];omega
   omega
theorem zi2{x:Nd}{n b:Int}(h:ndOk x n b=true):x.kind=0\/x.kind=1\/x.kind=2\/x.kind=3\/x.kind=4:=by
 simp only[ndOk,Bool.and_eq_true]at h;have h2:=h.2;unfold zch at h2
 by_cases h0:x.kind=0\/x.kind=1
 ·omega
 rw[if_neg h0]at h2
 by_cases h1:x.kind=2
 ·omega
 rw[if_neg h1]at h2
 by_cases h3:x.kind=3\/x.kind=4
 ·omega
 rw[if_neg h3]at h2;simp at h2
end Cen
