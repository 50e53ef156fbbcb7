/- Parts of the proofs of laws. Texts: Key, Bld, InAdd, Sort, NetOf, CpF, CpI. -/
import Derived.Test.YtnlaakmglhjjmaaGreatDoorYC5
import Derived.Deep.AppendLies
import Derived.StillTailTactics
import Derived.Sort.OwnSortedInts
set_option maxHeartbeats 8000000
set_option maxRecDepth 100000
set_option linter.all false
namespace Go.Proofs.YtnlaakmglhjjmaaGreatDoor
open Go.RowKit Cen
theorem sizeBuilder:(Tryz.prog.info? 102).map (·.size)=some 2:=by kernel_rfl
theorem liesBuilder:liesAt Tryz.prog Tryz.prog.depth 102 (2/Tryz.prog.cellsOf 102) 0 102 1=true:=by kernel_rfl
theorem copyCheck_used(b:Nat)(w:World)(h0:w.cell? ⟨b,0,none⟩=some (.pointer (some ⟨b,0,none⟩))):
 Calls Tryz.prog 85 #[.pointer (some ⟨b,0,none⟩)] w fun e w'=>e=.returned (.tuple #[])/\w'=w:=by
 obtain⟨j,hj,_⟩:=Option.map_eq_some_iff.1 sizeBuilder;go_enter Tryz.func85,Tryz.ntmps85;go_wp2;rw[Lib.run_neq_ptr_same w _ Tryz.underlying100 hj];go_wp2
 go_end0
 exact⟨rfl,rfl⟩
theorem copyCheck_fresh(b:Nat)(w:World)(h0:w.cell? ⟨b,0,none⟩=some (.pointer none))(hsh:w.shape? b=some (102,2))(hfz:w.frozen? ⟨b,0,none⟩=false):
 Calls Tryz.prog 85 #[.pointer (some ⟨b,0,none⟩)] w fun e w'=>e=.returned (.tuple #[])/\w'=w.setCell ⟨b,0,none⟩ (.pointer (some ⟨b,0,none⟩)):=by
 obtain⟨j,hj,hjs⟩:=Option.map_eq_some_iff.1 sizeBuilder;go_enter Tryz.func85,Tryz.ntmps85;go_wp2;rw[Lib.run_to_unsafe w ⟨b,0,none⟩ Tryz.underlying100 Tryz.underlying179 hj (by rw[hjs];decide) hsh (Nat.zero_lt_succ 1)];simp only[Result.andThen];rw[Oper.upon_value];go_wp2;rw[run_callFunc_extern Tryz.func112 (by kernel_rfl) (by kernel_rfl) (by kernel_rfl) (e:=Extern.AbiNoEscape.same) (by kernel_rfl)];rw[Lib.run_noEscape];simp only[Result.andThen];rw[Oper.upon_value];go_wp2;rw[Lib.run_from_unsafe w ⟨b,0,none⟩ Tryz.underlying179 Tryz.underlying100 hj hsh liesBuilder];simp only[Result.andThen]
 rw[Oper.upon_value];go_wp2
 go_end0
 exact⟨rfl,rfl⟩
abbrev SBld:=Lib.IsBuilder 102 5
abbrev SBldAt:=Lib.BuilderAt 102 5
theorem copyCheck_any(B b:Nat)(bs:List Value)(w:World)(h:SBld B b bs w):
 Calls Tryz.prog 85 #[.pointer (some ⟨b,0,none⟩)] w fun e w'=>e=.returned (.tuple #[])/\(SBldAt B b (.pointer (some ⟨b,0,none⟩)) bs w'/\Below B w w'):=by
 rcases h with h|h
 ·refine(copyCheck_fresh b w h.cell0 h.shape h.frozen0).mono ?_;rintro e w'⟨rfl,rfl⟩;exact⟨rfl,h.used _,(Below.refl B w).setCell (p:=⟨b,0,none⟩) h.1 _⟩
 refine(copyCheck_used b w h.cell0).mono ?_;rintro e w'⟨rfl,rfl⟩;exact⟨rfl,h,Below.refl B _⟩
abbrev Tab(w:World):Prop:=Lib.TabIs Tryz.prog w "internal/strconv.uint64pow10" .u64 Lib.pow10Tab
theorem Tab.keep{w w':World}(h:Tab w)(hb:Below w.heap.size w w'):Tab w':=by
 unfold Tab Lib.TabIs World.var? at*;rw[show Tryz.prog.globalNamed "internal/strconv.uint64pow10"=some 1 from by kernel_rfl]at*;simp only[Option.bind_some]at*
 rcases Nat.lt_or_ge 1 w.heap.size with h'|h'
 ·rw[hb.block _ h'];exact h
 rw[Array.getElem?_eq_none h']at h;simp at h
theorem SBld.fresh(w:World){b:Nat}(h:w.heap.size=b):SBld b b [] (w.alloc (.cells #[.pointer none,.slice none 0 0] 102)):=
 .inl ⟨Nat.le_refl _,.slice none 0 0,by rw[<-h];exact heap_alloc_new w _,World.ownsRow_nil _ _ _ _,by simp[Value.ownBlock]⟩
theorem zh0(l m:List UInt8):Lib.byteCells l++Lib.byteCells m=Lib.byteCells (l++m):=by simp[Lib.byteCells]
def small(x:Int):Prop:=-65536<=x/\x<=65536
end Go.Proofs.YtnlaakmglhjjmaaGreatDoor
namespace Go.Proofs.YtnlaakmglhjjmaaGreatDoor
open Go.RowKit Cen
open Go.Maps(Keyed string_keyed int_keyed)
theorem OwnL.alloc{α:Type}{enc:α->List Value}{e k:Nat}{w:World}{base:Nat}{v:Value}{l:List α}(h:OwnL enc e k w base v l)(o:Obj):OwnL enc e k (w.alloc o) base v l:=World.ownsRow.alloc h o
theorem OwnL.drew{α:Type}{enc:α->List Value}{e k:Nat}{w:World}{base:Nat}{v:Value}{l:List α}(h:OwnL enc e k w base v l):OwnL enc e k w.drew base v l:=h
section
variable{P:Program}{ops:Array Oper}{o:Oper}{a:Act}{w:World}{K:Act->World->Prop}{Q:Exit->Act->World->Prop}{EE:Prop}
theorem zd1{α:Type}{enc:α->List Value}{t e k bytes:Nat}{z:Value}(E:Elem t e k bytes z)(hgd:o.guard=none)(s x:Operand)(ho:o.op=.call {callee:=.builtin .append,args:=#[s,x],argTypes:=#[t,t]})
 (base:Nat)(v:Value)(l:List α)(y:α)(hs:a.eval s=v)(hown:OwnL enc e k w base v l)(bc:Nat)(hx:a.eval x=.slice (some ⟨bc,0,none⟩) 1 1)(hk:(enc y).length=k)
 (hnews:∀j u,(enc y)[j]?=some u->w.cell? ⟨bc,j,none⟩=some u)(h1:∀u∈enc y,u.oneCell'=true)(hl:l.length<=1073741824)(hby:bytes<=1000)(hbase:base<=w.heap.size)
 (h:∀g cap w',OwnL enc e k w' base (.slice (some ⟨g,0,none⟩) (l.length+1) cap) (l++[y])->w.grownBy w' v.ownBlock->(v.ownBlock=some g\/g=w.heap.size)->K (a.put o.dst (.slice (some ⟨g,0,none⟩) (l.length+1) cap)) w'):
 if Region.wanted o (yielded ops a.tmps)=true then Oper.wp Tryz.prog o a w K Q else EE:=by
 obtain⟨ht,i,hi,hz,hsz,hby',hzs,h0⟩:=E;refine step_append_lies w hgd s x t ho base e i z k bytes ht hi hz hsz hby' hzs h0 v l.length (l.flatMap enc) hs hown ⟨bc,0,none⟩ 1 1 (enc y) hx (by rw[hk];omega) ?_ h1 (by omega) (by unfold maxLen;omega) ?_ hbase w.heap.size rfl ?_
 ·intro j u hj
  have e1:(⟨bc,0,none⟩:Addr).add j=⟨bc,j,none⟩:=by
   unfold Addr.add;split
   ·rename_i hj0;rw[hj0]
   simp
  rw[e1];exact hnews j u hj
 ·have:=Nat.mul_le_mul (show l.length+1<=1073741825 by omega) hby;omega
 intro g cap w' h2 h3 h4 _;exact h g cap w' (by unfold OwnL;rw[List.length_append,List.flatMap_append];simpa using h2) h3 h4
end
theorem zcb{W w':World}{ob:Obj}{row:Option Nat}(h:((W.alloc ob).drew).grownBy w' row):W.grownBy w' row:=
 ⟨h.os,h.tape,h.output,Nat.le_trans (by simp[World.drew]) h.size,fun k hk hn=>(h.block k (by simp[World.drew];omega) hn).trans (Below.heap_alloc W ob k hk)⟩
theorem ycj:Elem 69 134 3 40 (.agg #[.int .i64 0,.int .i64 0,.slice none 0 0]):=.mk Tryz.underlying69 (by kernel_rfl) rfl (by decide)
theorem OwnL.sliced{α:Type}{enc:α->List Value}{e k:Nat}{w:World}{base:Nat}{v:Value}{l:List α}(h:OwnL enc e k w base v l):∃a cap,v=.slice a l.length cap:=by
 rcases h.shape with⟨h1,h2⟩|⟨g,cap,h1,_⟩
 ·exact⟨none,0,by rw[h1,h2];rfl⟩
 exact⟨_,_,h1⟩
theorem zjc:Keyed Tryz.prog 9:=string_keyed Tryz.underlying9
theorem zgt(w:World):(zeroValue 3).run Tryz.prog w=.ok (.int .i64 0) w:=by kernel_rfl
theorem zjb:Keyed Tryz.prog 3:=int_keyed Tryz.underlying3
theorem OwnInts.lt{w:World}{base:Nat}{v:Value}{xs:List Int}(h:OwnInts w base v xs):∀k,v.ownBlock=some k->base<=k/\k<w.heap.size:=World.ownsRow.lt h
end Go.Proofs.YtnlaakmglhjjmaaGreatDoor
namespace Go.Proofs.YtnlaakmglhjjmaaGreatDoor
open Go.RowKit Cen
theorem zmj(w:World):Calls Tryz.prog 159 #[.slice none 0 0,.int .i64 0,.int .i64 0] w fun e w'=>e=.returned (.tuple #[])/\w=w':=by
 go_enter Tryz.func159,Tryz.ntmps159;go_wp2;refine wp_loop_rounds 1 ?_;rw[rounds_succ];go_wp2
 go_end0
 exact⟨rfl,rfl⟩
theorem ybg(l:Int)(w:World):Calls Tryz.prog 138 #[.slice none 0 0,.int .i64 0,.int .i64 0,.int .i64 l] w fun e w'=>e=.returned (.tuple #[])/\w=w':=by
 go_enter Tryz.func138,Tryz.ntmps138;go_wp2;refine wp_loop_rounds 1 ?_;rw[rounds_succ];go_wp2_with fail;refine(zmj _).mono ?_;rintro e w1⟨rfl,rfl⟩;go_wp2;exact bodyPost_ret (v:=.tuple #[]) (by simp[results,Tryz.results138,go_sem]) rfl ⟨rfl,rfl⟩
theorem zyp(w:World):Calls Tryz.prog 103 #[.slice none 0 0] w fun e w'=>e=.returned (.tuple #[])/\w=w':=by
 go_enter Tryz.func103,Tryz.ntmps103;go_wp2_with fail;refine(Tryz.bits_Len 0 w (by omega) (by omega)).mono ?_;rintro e w1⟨rfl,rfl⟩;go_wp2_with fail;refine(ybg _ _).mono ?_;rintro e w1⟨rfl,rfl⟩;go_wp2
 go_end0
 exact⟨rfl,rfl⟩
theorem zyo(base:Nat)(v:Value)(xs:List Int)(w:World)(h:OwnInts w base v xs)(hl:xs.length<=1073741824):
 Calls Tryz.prog 103 #[v] w fun e w'=>e=.returned (.tuple #[])/\OwnInts w' base v (zc4 xs)/\w.grownBy w' v.ownBlock:=by
 have hsl:(zc4 xs).length=xs.length:=by unfold zc4;exact List.length_mergeSort _
 rcases h.2 with⟨hv,h0⟩|⟨g,cap,cur,hv,hg,hh,hn,hm,hs,ht⟩
 ·have:xs=[]:=List.eq_nil_of_length_eq_zero h0;subst this;subst hv
  refine(zyp w).mono fun e w'⟨h1,h2⟩=>⟨h1,?_,?_⟩
  ·subst h2;unfold zc4;simpa using h
  subst h2;exact⟨rfl,rfl,rfl,Nat.le_refl _,fun _ _ _=>rfl⟩
 subst hv;rw[Nat.mul_one]at ht
 refine(Tryz.slices_Sort_int g 0 cap xs w (Go.holds_of_blockI hh ht) (lt_of_block hh) (by omega)).mono fun e w'⟨h1,n,os,h2⟩=>⟨h1,?_,?_⟩
 ·rw[h2]
  show World.ownsRow _ _ _ _ _ _ _
  rw[hsl];exact Go.ownsRow_sortedI hsl hg hh hn hm hs
 rw[h2];exact Go.grownBy_sortedI _
def I1(x:Int):List Value:=[.int .i64 x]
theorem ztk(x:Int):(I1 x).length=1:=rfl
theorem zao{w:World}{base:Nat}{v:Value}{xs:List Int}:OwnInts w base v xs↔OwnL I1 3 1 w base v xs:=by
 have e:xs.map (Value.int .i64)=xs.flatMap I1:=by
  induction xs with
  |nil=>rfl
  |cons x xs ih=>simp[I1]at*;exact ih
 unfold OwnInts OwnL;rw[e]
theorem OwnL.cell1{w:World}{base:Nat}{xs:List Int}{g cap n:Nat}(hn:n=xs.length)(h:OwnL I1 3 1 w base (.slice (some ⟨g,0,none⟩) n cap) xs)(i:Nat)(hi:i<xs.length):
 w.cell? ⟨g,i,none⟩=some (.int .i64 xs[i]):=by
 have:=h.cell hn ztk i 0 hi (by omega)
 simpa[I1]using this
section
variable{ops:Array Oper}{rest:List Oper}{o:Oper}{a:Act}{Q:Exit->Act->World->Prop}
theorem zlx{α:Type}{enc:α->List Value}{t e k bytes:Nat}{z:Value}{W:World}{C:Array Value}(E:Elem t e k bytes z)(hgd:o.guard=none)(s x:Operand)(ho:o.op=.call {callee:=.builtin .append,args:=#[s,x],argTypes:=#[t,t]})
 (base:Nat)(v:Value)(l:List α)(y:α)(hs:a.eval s=v)(hown:OwnL enc e k W base v l)(hx:a.eval x=.slice (some ⟨W.heap.size,0,none⟩) 1 1)(hk:(enc y).length=k)
 (hC:enc y=C.toList)(h1:∀u∈enc y,u.oneCell'=true)(hl:l.length<=1073741824)(hby:bytes<=1000)(hbase:base<=W.heap.size)
 (h:∀g cap w',OwnL enc e k w' base (.slice (some ⟨g,0,none⟩) (l.length+1) cap) (l++[y])->W.grownBy w' v.ownBlock->(v.ownBlock=some g\/W.heap.size<=g)->wpList Tryz.prog ops Q rest (a.put o.dst (.slice (some ⟨g,0,none⟩) (l.length+1) cap)) w'):
 wpList Tryz.prog ops Q (o::rest) a (W.alloc (.cells C e)):=by
 obtain⟨ht,i,hi,hz,hsz,hby',hzs,h0⟩:=E;refine wpList_append_lies _ hgd s x t ho base e i z k bytes ht hi hz hsz hby' hzs h0 v l.length (l.flatMap enc) hs (World.ownsRow.alloc hown _) ⟨W.heap.size,0,none⟩ 1 1 (enc y) hx (by rw[hk];omega) ?_ h1 (by omega) (by unfold maxLen;omega) ?_ (by simp;omega) (W.heap.size+1) (by simp) ?_
 ·intro j u hj
  have e1:(⟨W.heap.size,0,none⟩:Addr).add j=⟨W.heap.size,j,none⟩:=by
   unfold Addr.add;split
   ·rename_i hj0;rw[hj0]
   simp
  rw[e1,World.cell?_alloc_at _ _ _ _ rfl,<-Array.getElem?_toList,<-hC];exact hj
 ·have:=Nat.mul_le_mul (show l.length+1<=1073741825 by omega) hby;omega
 intro g cap w' h2 h3 h4 _;exact h g cap w' (by unfold OwnL;rw[List.length_append,List.flatMap_append];simpa using h2) (zb6 h3) (h4.imp id (fun e=>by omega))
end
section
variable{w w':World}{B bo:Nat}{n:Int}{m:Nat}{ats:List Int}{lv:Value}{LL:List (Nd×Value)}
end
end Go.Proofs.YtnlaakmglhjjmaaGreatDoor
namespace Cen
def taut(c:Cl):Bool:=c.any fun x=>c.contains (-x)
structure gC(n:Nat)(c:Cl):Prop where
 so:c.Pairwise ltL
 rg:∀x∈c,x≠0/\-(n:Int)<=x/\x<=n
 nt:∀x∈c,-x∉c
structure gL(n:Nat)(l:List Cl):Prop where
 so:l.Pairwise ltC
 gc:∀c∈l,gC n c
def zaa(n:Nat)(t:List Cl):List Cl:=ordC ((t.filter fun c=>!taut c).map (zcg n))
def zah(l:List Cl)(x:Int):List Cl:=ordC ((l.filter fun c=>!c.contains x).map fun c=>c.filter fun y=>decide (y≠-x))
def zdn(c:Cl):St:=c.foldl (fun s x=>s.add (zac x)) St.zero
def zdt(c:Cl)(gs:List (List Cl×St)):List (List Cl×St)×List Cl×St:=
 gs.foldl (fun acc g=>if g.2.cut acc.2.2≠St.zero then(acc.1,acc.2.1++g.1,acc.2.2.union g.2)else(acc.1++[g],acc.2.1,acc.2.2)) ([],[],zdn c)
def za5(gs:List (List Cl×St))(c:Cl):List (List Cl×St):=
 (zdt c gs).1++[((zdt c gs).2.1++[c],(zdt c gs).2.2)]
def zdg(l:List Cl):List (List Cl×St):=l.foldl za5 []
def zaj(l:List Cl):List (List Cl):=(zdg l).map fun g=>ordC g.1
structure Nc where
 nd:Nd
 tag:Option (List Cl×Cl)
def zdq(x:Int)(c:Nc):Bool:=decide (c.nd.kind=2)&&decide (c.nd.lit=x)
def zbt(l:List Cl)(c:Nc):Bool:=match c.tag with|some t=>decide (t.1=l)|none=>false
def litF(st:List Nc)(x:Int):List Nc×Nat:=
 match st.findIdx? (zdq x)with
 |some i=>(st,i)
 |none=>(st++[⟨⟨2,x,[]⟩,none⟩],st.length)
def zan(cache:Bool)(st:List Nc)(l:List Cl)(term:Cl)(mk:List Nc->List Nc×Nd):List Nc×Nat:=
 match(if cache then st.findIdx? (zbt l)else none)with
 |some i=>(st,i)
 |none=>((mk st).1++[⟨(mk st).2,some (l,term)⟩],(mk st).1.length)
structure Us where
 st:List Nc
 l:List Cl
 term:Cl
 ins:List Nat
def zaq:Nat->Us->Us
 |0,u=>u
 |f+1,u=>match u.l with
   |[x]::_=>zaq f ⟨(litF u.st x).1,zah u.l x,u.term++[x],u.ins++[(litF u.st x).2]⟩
   |_=>u
def zc2(fit:List Nc->List Cl->Cl->List Nc×List Nat)(st:List Nc)(l:List Cl)(term:Cl)(x:Int):List Nc×Nat:=
 if zah l x=[]then litF st x
 else((fit (litF st x).1 (zah l x) (term++[x])).1++[⟨⟨3,0,((litF st x).2:Int)::(fit (litF st x).1 (zah l x) (term++[x])).2.map fun(i:Nat)=>(i:Int)⟩,none⟩],
  (fit (litF st x).1 (zah l x) (term++[x])).1.length)
def zav(fit:List Nc->List Cl->Cl->List Nc×List Nat)(ch:List Cl->Int)(st:List Nc)(l:List Cl)(term:Cl):List Nc×Nd:=
 ((zc2 fit (zc2 fit st l term (-ch l)).1 l term (ch l)).1,⟨4,0,[((zc2 fit st l term (-ch l)).2:Int),((zc2 fit (zc2 fit st l term (-ch l)).1 l term (ch l)).2:Int)]⟩)
def za7(cache:Bool)(dec:List Nc->List Cl->List Nc×Nd)(term:Cl)(ps:List (List Cl))(acc:List Nc×List Nat):List Nc×List Nat:=
 ps.foldl (fun acc part=>((zan cache acc.1 part term (fun s=>dec s part)).1,acc.2++[(zan cache acc.1 part term (fun s=>dec s part)).2])) acc
def zbm:List Cl->Bool|[]::_=>true|_=>false
def fitF(ch:List Cl->Int)(cache:Bool):Nat->List Nc->List Cl->Cl->List Nc×List Nat
 |0,st,_,_=>(st,[])
 |f+1,st,l,term=>
   let u:=zaq l.length ⟨st,l,term,[]⟩
   if zbm u.l then((zan cache u.st u.l u.term fun s=>(s,⟨0,0,[]⟩)).1,u.ins++[(zan cache u.st u.l u.term fun s=>(s,⟨0,0,[]⟩)).2])
   else za7 cache (fun s part=>zav (fitF ch cache f) ch s part u.term) u.term (zaj u.l) (u.st,u.ins)
def evC(s:Int->Bool)(c:Cl):Bool:=c.any (zcj s)
def evL(s:Int->Bool)(l:List Cl):Bool:=l.all (evC s)
theorem zug{s:Int->Bool}{l m:List Cl}(h:∀x,x∈l↔x∈m):evL s l=evL s m:=by
 rw[Bool.eq_iff_iff];unfold evL;rw[List.all_eq_true,List.all_eq_true];exact⟨fun k x hx=>k x ((h x).2 hx),fun k x hx=>k x ((h x).1 hx)⟩
theorem yax(s:Int->Bool)(l:List Cl):evL s (ordC l)=evL s l:=zug fun _=>zbd
theorem zns{s:Int->Bool}{c d:Cl}(h:∀x,x∈c↔x∈d):evC s c=evC s d:=by
 rw[Bool.eq_iff_iff];unfold evC;rw[List.any_eq_true,List.any_eq_true];exact⟨fun⟨x,hx,k⟩=>⟨x,(h x).1 hx,k⟩,fun⟨x,hx,k⟩=>⟨x,(h x).2 hx,k⟩⟩
theorem zbw(x:Int):zac (-x)=zac x:=by unfold zac;(repeat' split)<;>omega
theorem zf8{s:Int->Bool}{x:Int}(h:zac x≠0):zcj s (-x)=!zcj s x:=by
 unfold zcj;rw[zbw,show decide (zac x≠0)=true by simpa using h]
 have:decide (0< -x)=!decide (0<x):=by
  rcases zes h with h|h
  ·rw[decide_eq_false (by omega),decide_eq_true (by omega)];rfl
  rw[decide_eq_true (by omega),decide_eq_false (by omega)];rfl
 rw[this]
 cases s (zac x)<;>cases decide (0<x)<;>rfl
theorem gC.lv{n:Nat}(hn:n<=128){c:Cl}(h:gC n c){x:Int}(hx:x∈c):zac x≠0:=by
 have:=h.rg x hx
 rw[zam this.1 (by omega) (by omega)];split<;>omega
theorem zck{l:List Cl}{x:Int}{d:Cl}:d∈zah l x↔∃c∈l,x∉c/\d=c.filter fun y=>decide (y≠-x):=by
 unfold zah;rw[zbd,List.mem_map]
 constructor
 ·rintro⟨c,hc,rfl⟩;rw[List.mem_filter]at hc;exact⟨c,hc.1,by simpa using hc.2,rfl⟩
 rintro⟨c,hc,hx,rfl⟩;exact⟨c,List.mem_filter.2 ⟨hc,by simpa using hx⟩,rfl⟩
theorem zbh{n:Nat}{l:List Cl}(h:∀c∈l,gC n c)(x:Int):gL n (zah l x):=
 ⟨za0 _,fun d hd=>by
   obtain⟨c,hc,_,rfl⟩:=zck.1 hd;have g:=h c hc
   exact⟨g.so.filter _,fun y hy=>g.rg y (List.mem_filter.1 hy).1,fun y hy hn=>g.nt y (List.mem_filter.1 hy).1 (List.mem_filter.1 hn).1⟩⟩
theorem zi0{n:Nat}(hn:n<=128){l:List Cl}(h:∀c∈l,gC n c){s:Int->Bool}{x:Int}(hx:zcj s x=true)(hl:zac x≠0):evL s (zah l x)=evL s l:=by
 rw[Bool.eq_iff_iff];unfold evL;rw[List.all_eq_true,List.all_eq_true]
 have hne:zcj s (-x)=false:=by rw[zf8 hl,hx];rfl
 constructor
 ·intro k c hc
  by_cases m:x∈c
  ·exact List.any_eq_true.2 ⟨x,m,hx⟩
  have:=k _ (zck.2 ⟨c,hc,m,rfl⟩);obtain⟨y,hy,hs⟩:=List.any_eq_true.1 this;exact List.any_eq_true.2 ⟨y,(List.mem_filter.1 hy).1,hs⟩
 intro k d hd;obtain⟨c,hc,m,rfl⟩:=zck.1 hd;obtain⟨y,hy,hs⟩:=List.any_eq_true.1 (k c hc);refine List.any_eq_true.2 ⟨y,List.mem_filter.2 ⟨hy,?_⟩,hs⟩;simp only[decide_eq_true_eq];rintro rfl;rw[hne]at hs;simp at hs
theorem zlg{n:Nat}{c:Cl}(hc:∀x∈c,x≠0/\-(n:Int)<=x/\x<=n)(x:Int):x∈zcg n c↔x∈c:=by
 rw[zb4];exact⟨fun h=>h.1,fun h=>⟨h,hc x h⟩⟩
theorem zc5{c:Cl}:taut c=true↔∃x∈c,-x∈c:=by
 unfold taut;rw[List.any_eq_true];exact⟨fun⟨x,hx,h⟩=>⟨x,hx,by simpa using h⟩,fun⟨x,hx,h⟩=>⟨x,hx,by simpa using h⟩⟩
theorem za2{n:Nat}(hn:n<=128){t:List Cl}(ht:∀c∈t,∀x∈c,x≠0/\-(n:Int)<=x/\x<=n):gL n (zaa n t):=
 ⟨za0 _,fun d hd=>by
   unfold zaa at hd;rw[zbd,List.mem_map]at hd;obtain⟨c,hc,rfl⟩:=hd;rw[List.mem_filter]at hc;refine⟨zex hn c,fun x hx=>(zb4.1 hx).2,fun x hx hnx=>?_⟩;have:taut c=true:=zc5.2 ⟨x,(zb4.1 hx).1,(zb4.1 hnx).1⟩
   rw[this]at hc;simp at hc⟩
theorem ybv{n:Nat}(hn:n<=128){c:Cl}(hc:∀x∈c,x≠0/\-(n:Int)<=x/\x<=n)(h:taut c=true)(s:Int->Bool):evC s c=true:=by
 obtain⟨x,hx,hnx⟩:=zc5.1 h
 have hl:zac x≠0:=by have:=hc x hx;rw[zam this.1 (by omega) (by omega)];split<;>omega
 cases hs:zcj s x with
 |true=>exact List.any_eq_true.2 ⟨x,hx,hs⟩
 |false=>exact List.any_eq_true.2 ⟨-x,hnx,by rw[zf8 hl,hs];rfl⟩
theorem zsg{n:Nat}(hn:n<=128){t:List Cl}(ht:∀c∈t,∀x∈c,x≠0/\-(n:Int)<=x/\x<=n)(s:Int->Bool):evL s (zaa n t)=evL s t:=by
 unfold zaa;rw[yax,Bool.eq_iff_iff];unfold evL;rw[List.all_eq_true,List.all_eq_true]
 constructor
 ·intro k c hc
  cases h:taut c with
  |true=>exact ybv hn (ht c hc) h s
  |false=>
    have:=k (zcg n c) (List.mem_map.2 ⟨c,List.mem_filter.2 ⟨hc,by rw[h];rfl⟩,rfl⟩)
    rwa[zns (zlg (ht c hc))]at this
 intro k d hd;obtain⟨c,hc,rfl⟩:=List.mem_map.1 hd;have hc:=(List.mem_filter.1 hc).1;rw[zns (zlg (ht c hc))];exact k c hc
theorem zqk(c:Cl):∀(s:St)(v:Int),(c.foldl (fun s x=>s.add (zac x)) s).mem v=(s.mem v||c.any fun x=>decide (v=zac x)&&decide (1<=zac x)):=by
 induction c with
 |nil=>intro s v;simp
 |cons x c ih=>
   intro s v;rw[List.foldl_cons,ih,St.mem_add,List.any_cons,Bool.or_assoc];have:=zcd x;rw[show decide (zac x<=128)=true by simpa using this.2,Bool.and_true]
theorem zd3{c:Cl}{v:Int}:(zdn c).mem v=true↔1<=v/\∃x∈c,zac x=v:=by
 unfold zdn;rw[zqk,St.mem_zero,Bool.false_or,List.any_eq_true]
 constructor
 ·rintro⟨x,hx,h⟩;simp only[Bool.and_eq_true,decide_eq_true_eq]at h;exact⟨by omega,x,hx,h.1.symm⟩
 rintro⟨h,x,hx,rfl⟩;exact⟨x,hx,by simp;exact h⟩
theorem zii(c:Cl):(zdn c).ok:=by
 unfold zdn
 have:∀s:St,s.ok->(c.foldl (fun s x=>s.add (zac x)) s).ok:=by
  induction c with
  |nil=>intro s h;exact h
  |cons x c ih=>intro s h;exact ih _ (St.add_ok h _)
 exact this _ St.zero_ok
def grps(gs:List (List Cl×St)):List Cl:=gs.flatMap fun g=>g.1
structure gGs(gs:List (List Cl×St)):Prop where
 ok:∀g∈gs,g.2.ok
 ne:∀g∈gs,g.1≠[]
 vs:∀g∈gs,∀v,g.2.mem v=true↔∃c∈g.1,(zdn c).mem v=true
 dj:gs.Pairwise fun g h=>∀v,¬(g.2.mem v=true/\h.2.mem v=true)
theorem zze{s t:St}(hs:s.ok)(h:s.cut t≠St.zero):∃v,s.mem v=true/\t.mem v=true:=by
 by_cases e:∃v,s.mem v=true/\t.mem v=true
 ·exact e
 refine absurd (St.ext (St.cut_ok hs) St.zero_ok fun v _ _=>?_) h;rw[St.mem_cut,St.mem_zero]
 cases hs:s.mem v<;>cases ht:t.mem v<;>simp
 exact e ⟨v,hs,ht⟩
theorem ycg{s t:St}(h:s.cut t=St.zero)(v:Int):¬(s.mem v=true/\t.mem v=true):=fun⟨a,b⟩=>by
 have:(s.cut t).mem v=true:=by rw[St.mem_cut,a,b];rfl
 rw[h,St.mem_zero]at this;simp at this
theorem zib{gs:List (List Cl×St)}{d:Cl}:d∈grps gs↔∃g∈gs,d∈g.1:=List.mem_flatMap
structure sIn(c:Cl)(gs0:List (List Cl×St))(acc:List (List Cl×St)×List Cl×St)(rest:List (List Cl×St)):Prop where
 gg:gGs (acc.1++rest)
 dj:∀g∈acc.1,∀v,¬(g.2.mem v=true/\acc.2.2.mem v=true)
 vs:∀v,acc.2.2.mem v=true↔(zdn c).mem v=true\/∃d∈acc.2.1,(zdn d).mem v=true
 ok:acc.2.2.ok
 al:∀d,(d∈grps acc.1\/d∈acc.2.1\/d∈grps rest)↔d∈grps gs0
theorem zht(c:Cl)(gs0:List (List Cl×St)):∀(rest:List (List Cl×St))(acc:List (List Cl×St)×List Cl×St),sIn c gs0 acc rest->
 sIn c gs0 (rest.foldl (fun acc g=>if g.2.cut acc.2.2≠St.zero then(acc.1,acc.2.1++g.1,acc.2.2.union g.2)else(acc.1++[g],acc.2.1,acc.2.2)) acc) []
 |[],acc,h=>h
 |g::rest,acc,h=>by
   rw[List.foldl_cons];refine zht c gs0 rest _ ?_;have gg:=h.gg
   by_cases hz:g.2.cut acc.2.2=St.zero
   ·rw[if_neg (by simpa using hz)];refine⟨by simpa[List.append_assoc]using gg,fun k hk v=>?_,h.vs,h.ok,fun d=>?_⟩
    ·rcases List.mem_append.1 hk with hk|hk
     ·exact h.dj k hk v
     simp at hk;subst hk;exact ycg hz v
    rw[<-h.al d];simp only[zib,List.mem_append,List.mem_cons,List.not_mem_nil,or_false]
    constructor
    ·rintro(⟨k,hk|rfl,hd⟩|hd|⟨k,hk,hd⟩)
     ·exact .inl ⟨k,hk,hd⟩
     ·exact .inr (.inr ⟨k,.inl rfl,hd⟩)
     ·exact .inr (.inl hd)
     exact .inr (.inr ⟨k,.inr hk,hd⟩)
    rintro(⟨k,hk,hd⟩|hd|⟨k,rfl|hk,hd⟩)
    ·exact .inl ⟨k,.inl hk,hd⟩
    ·exact .inr (.inl hd)
    ·exact .inl ⟨k,.inr rfl,hd⟩
    exact .inr (.inr ⟨k,hk,hd⟩)
   rw[if_pos hz];have sub:(acc.1++rest).Sublist (acc.1++g::rest):=List.Sublist.append_left (List.sublist_cons_self g rest) acc.1
   have hg:g∈acc.1++g::rest:=by simp
   refine⟨⟨fun k hk=>gg.ok k (sub.mem hk),fun k hk=>gg.ne k (sub.mem hk),fun k hk=>gg.vs k (sub.mem hk),gg.dj.sublist sub⟩,fun k hk v=>?_,fun v=>?_,St.union_ok h.ok (gg.ok g hg),fun d=>?_⟩
   ·rintro⟨a,b⟩;rw[St.mem_union,Bool.or_eq_true]at b
    rcases b with b|b
    ·exact h.dj k hk v ⟨a,b⟩
    exact(List.pairwise_append.1 gg.dj).2.2 k hk g (by simp) v ⟨a,b⟩
   ·show(acc.2.2.union g.2).mem v=true↔_
    rw[St.mem_union,Bool.or_eq_true,h.vs v,gg.vs g hg v];simp only[List.mem_append]
    constructor
    ·rintro((h1|⟨d,hd,h1⟩)|⟨d,hd,h1⟩)
     ·exact .inl h1
     ·exact .inr ⟨d,.inl hd,h1⟩
     exact .inr ⟨d,.inr hd,h1⟩
    rintro(h1|⟨d,hd|hd,h1⟩)
    ·exact .inl (.inl h1)
    ·exact .inl (.inr ⟨d,hd,h1⟩)
    exact .inr ⟨d,hd,h1⟩
   rw[<-h.al d];simp only[zib,List.mem_append,List.mem_cons]
   constructor
   ·rintro(h1|(hd|hd)|⟨k,hk,hd⟩)
    ·exact .inl h1
    ·exact .inr (.inl hd)
    ·exact .inr (.inr ⟨g,.inl rfl,hd⟩)
    exact .inr (.inr ⟨k,.inr hk,hd⟩)
   rintro(h1|hd|⟨k,rfl|hk,hd⟩)
   ·exact .inl h1
   ·exact .inr (.inl (.inl hd))
   ·exact .inr (.inl (.inr hd))
   exact .inr (.inr ⟨k,hk,hd⟩)
theorem zko{gs:List (List Cl×St)}(h:gGs gs)(c:Cl):gGs (za5 gs c)/\∀d,d∈grps (za5 gs c)↔d∈grps gs\/d=c:=by
 have k:sIn c gs (zdt c gs) []:=by
  unfold zdt;refine zht c gs gs _ ⟨by simpa using h,by simp,by simp,zii c,fun d=>by simp[grps]⟩
 unfold za5;generalize zdt c gs=r at k;have gg:=k.gg;rw[List.append_nil]at gg;refine⟨⟨fun g hg=>?_,fun g hg=>?_,fun g hg v=>?_,?_⟩,fun d=>?_⟩
 ·rcases List.mem_append.1 hg with hg|hg
  ·exact gg.ok g hg
  simp at hg;subst hg;exact k.ok
 ·rcases List.mem_append.1 hg with hg|hg
  ·exact gg.ne g hg
  simp at hg;subst hg;simp
 ·rcases List.mem_append.1 hg with hg|hg
  ·exact gg.vs g hg v
  simp at hg;subst hg;simp only;rw[k.vs v];simp only[List.mem_append,List.mem_cons,List.not_mem_nil,or_false]
  constructor
  ·rintro(h1|⟨d,hd,h1⟩)
   ·exact⟨c,.inr rfl,h1⟩
   exact⟨d,.inl hd,h1⟩
  rintro⟨d,hd|rfl,h1⟩
  ·exact .inr ⟨d,hd,h1⟩
  exact .inl h1
 ·rw[List.pairwise_append];refine⟨gg.dj,by simp,fun g hg x hx v=>?_⟩;simp at hx;subst hx;exact k.dj g hg v
 have:=k.al d;rw[<-this];simp only[zib,List.mem_append,List.mem_cons,List.not_mem_nil,or_false]
 constructor
 ·rintro⟨g,hg|rfl,hd⟩
  ·exact .inl (.inl ⟨g,hg,hd⟩)
  simp only[List.mem_append,List.mem_cons,List.not_mem_nil,or_false]at hd
  rcases hd with hd|rfl
  ·exact .inl (.inr (.inl hd))
  exact .inr rfl
 rintro((⟨g,hg,hd⟩|hd|⟨g,hg,hd⟩)|rfl)
 ·exact⟨g,.inl hg,hd⟩
 ·exact⟨_,.inr rfl,by simp[hd]⟩
 ·simp at hg
 exact⟨_,.inr rfl,by simp⟩
theorem zpp(l:List Cl):∀gs,gGs gs->gGs (l.foldl za5 gs)/\∀d,d∈grps (l.foldl za5 gs)↔d∈grps gs\/d∈l:=by
 induction l with
 |nil=>intro gs h;exact⟨h,fun d=>by simp⟩
 |cons c l ih=>
   intro gs h;obtain⟨h1,h2⟩:=zko h c;obtain⟨h3,h4⟩:=ih _ h1;refine⟨h3,fun d=>?_⟩;rw[List.foldl_cons,h4,h2,List.mem_cons,or_assoc]
theorem zfq(l:List Cl):gGs (zdg l)/\∀d,d∈grps (zdg l)↔d∈l:=by
 obtain⟨h1,h2⟩:=zpp l [] ⟨by simp,by simp,by simp,by simp⟩;exact⟨h1,fun d=>by rw[show zdg l=l.foldl za5 []from rfl,h2];simp[grps]⟩
theorem zct{l:List Cl}{d:Cl}:(∃p∈zaj l,d∈p)↔d∈l:=by
 rw[<-(zfq l).2 d,zib];unfold zaj
 constructor
 ·rintro⟨p,hp,hd⟩;obtain⟨g,hg,rfl⟩:=List.mem_map.1 hp;exact⟨g,hg,zbd.1 hd⟩
 rintro⟨g,hg,hd⟩;exact⟨_,List.mem_map.2 ⟨g,hg,rfl⟩,zbd.2 hd⟩
theorem zda{n:Nat}{l:List Cl}(h:∀c∈l,gC n c){p:List Cl}(hp:p∈zaj l):gL n p/\p≠[]/\∀d∈p,d∈l:=by
 have hm:∀d∈p,d∈l:=fun d hd=>zct.1 ⟨p,hp,hd⟩
 unfold zaj at hp;obtain⟨g,hg,rfl⟩:=List.mem_map.1 hp;exact⟨⟨za0 _,fun c hc=>h c (hm c hc)⟩,fun e=>(zfq l).1.ne g hg (zx9.1 e),hm⟩
theorem zuh(s:Int->Bool)(l:List Cl):evL s l=(zaj l).all (evL s):=by
 rw[Bool.eq_iff_iff];unfold evL;rw[List.all_eq_true,List.all_eq_true]
 constructor
 ·intro k p hp;rw[List.all_eq_true]
  exact fun d hd=>k d (zct.1 ⟨p,hp,hd⟩)
 intro k d hd;obtain⟨p,hp,hdp⟩:=zct.2 hd;exact(List.all_eq_true.1 (k p hp)) d hdp
def zae(l:List Cl):St:=l.foldl (fun s c=>s.union (zdn c)) St.zero
theorem zbf{l:List Cl}{v:Int}:(zae l).mem v=true↔∃c∈l,(zdn c).mem v=true:=by
 have:∀s:St,(l.foldl (fun s c=>s.union (zdn c)) s).mem v=true↔s.mem v=true\/∃c∈l,(zdn c).mem v=true:=by
  induction l with
  |nil=>intro s;simp
  |cons c l ih=>
    intro s;rw[List.foldl_cons,ih,St.mem_union,Bool.or_eq_true];simp only[List.mem_cons]
    constructor
    ·rintro((h|h)|⟨d,hd,h⟩)
     ·exact .inl h
     ·exact .inr ⟨c,.inl rfl,h⟩
     exact .inr ⟨d,.inr hd,h⟩
    rintro(h|⟨d,rfl|hd,h⟩)
    ·exact .inl (.inl h)
    ·exact .inl (.inr h)
    exact .inr ⟨d,hd,h⟩
 unfold zae;rw[this,St.mem_zero];simp
theorem zm3(l:List Cl):(zaj l).Pairwise fun p q=>∀v,¬((zae p).mem v=true/\(zae q).mem v=true):=by
 unfold zaj;rw[List.pairwise_map];have gg:=(zfq l).1;refine gg.dj.imp_of_mem ?_;intro g h hg hh hd v⟨a,b⟩;rw[zbf]at a b;refine hd v ⟨(gg.vs g hg v).2 ?_,(gg.vs h hh v).2 ?_⟩
 ·obtain⟨c,hc,k⟩:=a;exact⟨c,zbd.1 hc,k⟩
 obtain⟨c,hc,k⟩:=b;exact⟨c,zbd.1 hc,k⟩
def nds(st:List Nc):List Nd:=st.map fun c=>c.nd
def isLit(st:List Nc)(i:Nat)(x:Int):Prop:=∃c,st[i]?=some c/\c.nd=⟨2,x,[]⟩
def tagged(st:List Nc)(i:Nat)(l:List Cl):Prop:=∃c t,st[i]?=some c/\c.tag=some (l,t)
def zaf(l:List Nat):List Int:=l.map fun(i:Nat)=>(i:Int)
inductive Fit(st:List Nc):List Cl->List Nat->Prop
 |unit{x:Int}{l:List Cl}{i:Nat}{ins:List Nat}:isLit st i x->Fit st (zah ([x]::l) x) ins->Fit st ([x]::l) (i::ins)
 |bad{l:List Cl}{i:Nat}:tagged st i ([]::l)->(∃c,st[i]?=some c/\c.nd=⟨0,0,[]⟩)->Fit st ([]::l) [i]
 |parts{l:List Cl}{ins:List Nat}:(∀c∈l,2<=c.length)->ins.length=(zaj l).length->
    (∀k,k<ins.length->tagged st (ins.getD k 0) ((zaj l).getD k [])/\∃c,st[ins.getD k 0]?=some c/\c.nd.kind=4)->Fit st l ins
def Side(st:List Nc)(l:List Cl)(x:Int)(i:Nat):Prop:=
 (zah l x=[]/\isLit st i x)\/(zah l x≠[]/\∃c k ins,st[i]?=some c/\c.nd=⟨3,0,zaf (k::ins)⟩/\c.tag=none/\isLit st k x/\Fit st (zah l x) ins/\k<i/\∀j∈ins,j<i)
def litN(n:Nat)(x:Int):Prop:=x≠0/\-(n:Int)<=x/\x<=n
inductive Form(ch:List Cl->Int)(n:Nat)(st:List Nc)(i:Nat):Nc->Prop
 |lit{x:Int}{t:Option (List Cl×Cl)}:litN n x->t=none->Form ch n st i ⟨⟨2,x,[]⟩,t⟩
 |bad{l:List Cl}{t:Cl}:gL n ([]::l)->Form ch n st i ⟨⟨0,0,[]⟩,some ([]::l,t)⟩
 |dec{l:List Cl}{t:Cl}{a b:Nat}:gL n l->l≠[]->(∀c∈l,2<=c.length)->1<=ch l->ch l<=n->(zae l).mem (ch l)=true->a<i->b<i->Side st l (-ch l) a->Side st l (ch l) b->Form ch n st i ⟨⟨4,0,[(a:Int),(b:Int)]⟩,some (l,t)⟩
 |and{l:List Cl}{x:Int}{k:Nat}{ins:List Nat}:k<i->(∀j∈ins,j<i)->gL n l->isLit st k x->zah l x≠[]->Fit st (zah l x) ins->Form ch n st i ⟨⟨3,0,zaf (k::ins)⟩,none⟩
def Inv(ch:List Cl->Int)(n:Nat)(st:List Nc):Prop:=∀i c,st[i]?=some c->Form ch n st i c
section
variable{ch:List Cl->Int}{st r:List Nc}{n:Nat}
theorem zd6{i:Nat}{c:Nc}(h:st[i]?=some c):(st++r)[i]?=some c:=by
 have:i<st.length:=by
  rcases Nat.lt_or_ge i st.length with h'|h'
  ·exact h'
  rw[List.getElem?_eq_none h']at h;simp at h
 rw[List.getElem?_append_left this];exact h
theorem isLit.more{i:Nat}{x:Int}(h:isLit st i x):isLit (st++r) i x:=let⟨c,a,b⟩:=h;⟨c,zd6 a,b⟩
theorem tagged.more{i:Nat}{l:List Cl}(h:tagged st i l):tagged (st++r) i l:=let⟨c,t,a,b⟩:=h;⟨c,t,zd6 a,b⟩
theorem Fit.more{l:List Cl}{ins:List Nat}(h:Fit st l ins):Fit (st++r) l ins:=by
 induction h with
 |unit a _ ih=>exact .unit a.more ih
 |bad a b=>exact .bad a.more (let⟨c,p,q⟩:=b;⟨c,zd6 p,q⟩)
 |parts a b c=>exact .parts a b fun k hk=>⟨(c k hk).1.more,let⟨d,p,q⟩:=(c k hk).2;⟨d,zd6 p,q⟩⟩
theorem Side.more{l:List Cl}{x:Int}{i:Nat}(h:Side st l x i):Side (st++r) l x i:=by
 rcases h with⟨a,b⟩|⟨a,c,k,ins,d,e,f,g,h1,h2,h3⟩
 ·exact .inl ⟨a,b.more⟩
 exact .inr ⟨a,c,k,ins,zd6 d,e,f,g.more,h1.more,h2,h3⟩
theorem Form.more{i:Nat}{c:Nc}(h:Form ch n st i c):Form ch n (st++r) i c:=by
 cases h with
 |lit a b=>exact .lit a b
 |bad a=>exact .bad a
 |dec a b c d e f g h p q=>exact .dec a b c d e f g h p.more q.more
 |and a b c d e f=>exact .and a b c d.more e f.more
theorem Inv.snoc{c:Nc}(h:Inv ch n st)(hc:Form ch n st st.length c):Inv ch n (st++[c]):=by
 intro i d hd
 rcases Nat.lt_or_ge i st.length with hi|hi
 ·rw[List.getElem?_append_left hi]at hd;exact(h i d hd).more
 rw[List.getElem?_append_right hi]at hd
 have e:i=st.length:=by
  rcases Nat.eq_or_lt_of_le hi with e|e
  ·exact e.symm
  rw[List.getElem?_eq_none (by simp;omega)]at hd;simp at hd
 subst e;simp at hd;subst hd;exact hc.more
theorem Inv.nil(n:Nat):Inv ch n []:=fun i c h=>by simp at h
theorem zb3{i:Nat}{c:Nc}(h:st[i]?=some c):i<st.length:=by
 rcases Nat.lt_or_ge i st.length with h'|h'
 ·exact h'
 rw[List.getElem?_eq_none h']at h;simp at h
theorem isLit.lt{i:Nat}{x:Int}(h:isLit st i x):i<st.length:=let⟨_,a,_⟩:=h;zb3 a
theorem tagged.lt{i:Nat}{l:List Cl}(h:tagged st i l):i<st.length:=let⟨_,_,a,_⟩:=h;zb3 a
theorem Fit.lt{l:List Cl}{ins:List Nat}(h:Fit st l ins):∀j∈ins,j<st.length:=by
 induction h with
 |unit a _ ih=>
   intro j hj
   rcases List.mem_cons.1 hj with rfl|hj
   ·exact a.lt
   exact ih j hj
 |bad a _=>intro j hj;simp at hj;subst hj;exact a.lt
 |parts a b c=>
   intro j hj;obtain⟨k,hk,rfl⟩:=List.getElem_of_mem hj;have:=(c k hk).1.lt
   simpa[List.getD_eq_getElem?_getD,hk]using this
theorem litN.ok{x:Int}(hn:n<=128)(h:litN n x):zac x≠0/\zac x<=n:=by
 obtain⟨h1,h2,h3⟩:=h
 rw[zam h1 (by omega) (by omega)];split<;>omega
theorem Form.ok(hn:n<=128){i:Nat}{c:Nc}(h:Form ch n st i c):ndOk c.nd n i=true:=by
 cases h with
 |lit a b=>
   have:=a.ok hn
   simp[ndOk,zeg,zch,zbn,this]
 |bad a=>simp[ndOk,zeg,zch]
 |dec a b c d e f g h p q=>
   simp only[ndOk,zeg,zch,List.all_cons,List.all_nil,Bool.and_true,Bool.and_eq_true,decide_eq_true_eq];refine⟨⟨⟨by omega,by omega⟩,by omega,by omega⟩,?_⟩
   simp
 |and a b c d e f=>
   simp only[ndOk,Bool.and_eq_true];refine⟨?_,by simp[zch]⟩;unfold zeg zaf;rw[List.all_eq_true];intro y hy;rw[List.mem_map]at hy;obtain⟨j,hj,rfl⟩:=hy;simp only[Bool.and_eq_true,decide_eq_true_eq]
   rcases List.mem_cons.1 hj with rfl|hj
   ·omega
   have:=b j hj;omega
theorem zc0{i:Nat}{c:Nc}(h:st[i]?=some c):nd (nds st) (i:Int)=c.nd:=by
 unfold nd nds
 simp[List.getD_eq_getElem?_getD,h]
theorem Inv.nds(hn:n<=128)(h:Inv ch n st):zds (nds st) n (nds st).length:=by
 intro j hj
 have hl:j<st.length:=by simpa[Cen.nds]using hj
 have hc:st[j]?=some st[j]:=List.getElem?_eq_getElem hl;have:=zc0 hc;unfold nd at this;simp only[Int.toNat_natCast]at this;rw[this];exact(h j _ hc).ok hn
def Says(s:Int->Bool)(st:List Nc)(i:Nat):Prop:=
 (∀x,isLit st i x->T s (nds st) i=zcj s x)/\(∀l,tagged st i l->(∀c,st[i]?=some c->c.nd.kind≠3)->T s (nds st) i=evL s l)
theorem zuy{s:Int->Bool}{x:Int}{l:List Cl}(h:zcj s x=false):evL s ([x]::l)=false:=by
 simp[evL,evC,h]
theorem znt(s:Int->Bool)(l:List Cl):evL s ([]::l)=false:=by simp[evL,evC]
theorem Fit.says(hn:n<=128){s:Int->Bool}{l:List Cl}{ins:List Nat}(h:Fit st l ins)(hg:∀c∈l,gC n c)(hs:∀j∈ins,Says s st j):ins.all (fun(j:Nat)=>T s (Cen.nds st) j)=evL s l:=by
 induction h with
 |@unit x l i ins a hf ih=>
   rw[List.all_cons,(hs i (by simp)).1 x a];have hgx:=hg [x] (by simp);have hl:=hgx.lv hn (x:=x) (by simp)
   cases hx:zcj s x with
   |false=>rw[zuy hx];rfl
   |true=>
     rw[ih (zbh hg x).gc fun j hj=>hs j (by simp[hj]),zi0 hn hg hx hl];rfl
 |@bad l i a b=>
   obtain⟨c,hc,hk⟩:=b;rw[List.all_cons,(hs i (by simp)).2 _ a fun c' hc'=>by rw[hc]at hc';simp at hc';rw[<-hc',hk];simp,znt];rfl
 |@parts l ins a b c=>
   rw[zuh,Bool.eq_iff_iff,List.all_eq_true,List.all_eq_true]
   have key:∀k(h1:k<ins.length)(h2:k<(zaj l).length),T s (Cen.nds st) (ins[k]:Nat)=evL s (zaj l)[k]:=fun k h1 h2=>by
    obtain⟨t,d,hd,hk⟩:=c k h1
    have e1:ins.getD k 0=ins[k]:=by simp[List.getD_eq_getElem?_getD,h1]
    have e2:(zaj l).getD k []=(zaj l)[k]:=by simp[List.getD_eq_getElem?_getD,h2]
    rw[e1]at t hd;rw[e2]at t
    exact(hs _ (List.getElem_mem h1)).2 _ t fun c' hc'=>by rw[hd]at hc';simp at hc';rw[<-hc',hk];simp
   constructor
   ·intro h p hp;obtain⟨k,hk,rfl⟩:=List.getElem_of_mem hp;rw[<-key k (by omega) hk];exact h _ (List.getElem_mem (by omega))
   intro h j hj;obtain⟨k,hk,rfl⟩:=List.getElem_of_mem hj;rw[key k hk (by omega)];exact h _ (List.getElem_mem (by omega))
theorem Side.says(hn:n<=128){s:Int->Bool}{l:List Cl}{x:Int}{i:Nat}(hi:Inv ch n st)(h:Side st l x i)(hg:∀c∈l,gC n c)(hx:litN n x)(hs:∀j,j<=i->Says s st j):T s (nds st) i=(zcj s x&&evL s l):=by
 have hl:=(hx.ok hn).1
 rcases h with⟨a,b⟩|⟨a,c,k,ins,d,e,f,g,h1,h2,h3⟩
 ·rw[(hs i (Nat.le_refl _)).1 x b]
  cases hh:zcj s x with
  |false=>rfl
  |true=>rw[<-zi0 hn hg hh hl,a];rfl
 have hlen:i<(nds st).length:=by rw[show(nds st).length=st.length by simp[nds]];exact zb3 d
 rw[T_nd s (hi.nds hn) (by omega) (by omega),zc0 d,e]
 have:evNd s (T s (nds st)) ⟨3,0,zaf (k::ins)⟩=(zaf (k::ins)).all (T s (nds st)):=by simp[evNd]
 rw[this];unfold zaf;rw[List.all_map,List.all_cons];have e1:((T s (nds st))∘fun(i:Nat)=>(i:Int)) k=zcj s x:=(hs k (by omega)).1 x g
 have e2:=h1.says hn (zbh hg x).gc (s:=s) fun j hj=>hs j (Nat.le_of_lt (h3 j hj))
 rw[e1];have e3:ins.all ((T s (nds st))∘fun(i:Nat)=>(i:Int))=evL s (zah l x):=e2;rw[e3]
 cases hh:zcj s x with
 |false=>rfl
 |true=>rw[zi0 hn hg hh hl]
theorem zyi(hn:n<=128)(s:Int->Bool)(h:Inv ch n st):∀(k i:Nat),i=k->i<st.length->Says s st i:=by
 intro k
 induction k using Nat.strongRecOn with
 |_ k ih=>
   intro i hik hi;have hc:st[i]?=some st[i]:=List.getElem?_eq_getElem hi;have hf:=h i _ hc
   have hlen:i<(nds st).length:=by rw[show(nds st).length=st.length by simp[nds]];exact hi
   have hT:=T_nd s (h.nds hn) (i:=(i:Int)) (by omega) (by omega);rw[zc0 hc]at hT;generalize st[i]=c at*
   have hless:∀j,j<i->Says s st j:=fun j hj=>ih j (by omega) j rfl (by omega)
   cases hf with
   |@lit x t a b=>
     refine⟨fun y⟨d,hd,he⟩=>?_,fun l⟨d,t',hd,he⟩_=>?_⟩
     ·rw[hc]at hd;simp at hd;subst hd;simp at he;subst he;rw[hT];simp[evNd]
     rw[hc]at hd;simp at hd;subst hd;rw[b]at he;simp at he
   |@bad l t a=>
     refine⟨fun y⟨d,hd,he⟩=>?_,fun l'⟨d,t',hd,he⟩_=>?_⟩
     ·rw[hc]at hd;simp at hd;subst hd;simp at he
     rw[hc]at hd;simp at hd;subst hd;simp at he;rw[hT,<-he.1,znt];simp[evNd]
   |@dec l t a b g1 g2 g3 g4 g5 g6 g7 g8 p q=>
     refine⟨fun y⟨d,hd,he⟩=>?_,fun l'⟨d,t',hd,he⟩_=>?_⟩
     ·rw[hc]at hd;simp at hd;subst hd;simp at he
     rw[hc]at hd;simp at hd;subst hd;simp at he;rw[hT,<-he.1]
     have ha:=p.says hn h g1.gc (s:=s) ⟨by omega,by omega,by omega⟩ fun j hj=>hless j (by omega)
     have hb:=q.says hn h g1.gc (s:=s) ⟨by omega,by omega,by omega⟩ fun j hj=>hless j (by omega)
     have hl:=(show litN n (ch l)from⟨by omega,by omega,by omega⟩).ok hn;rw[zf8 hl.1]at ha;simp only[evNd,List.any_cons,List.any_nil];rw[ha,hb]
     simp
     cases zcj s (ch l)<;>simp
   |@and l x k' ins a b c' d e f=>
     refine⟨fun y⟨d,hd,he⟩=>?_,fun l'⟨d,t',hd,he⟩hk=>?_⟩
     ·rw[hc]at hd;simp at hd;subst hd;simp at he
     have:=hk _ hc;simp at this
end
end Cen
