/- Parts of the proofs of laws. Texts: Ec, Ee, R20, Eg, R20T, R21O, Eo, Er, Fd, Fe, Ho, Pc, Ka. -/
import Derived.Test.YtnlaakmglhjjmaaGreatDoorYC37
import Derived.Test.YtnlaakmglhjjmaaGreatDoorYC30
set_option maxHeartbeats 8000000
set_option maxRecDepth 100000
set_option linter.all false
namespace Go.Proofs.YtnlaakmglhjjmaaGreatDoor
open Go.RowKit Cen
theorem valid5g_any(l n:Int)(w:World)(hn0:0<=n)(hn1:n<=128):Calls Tryz.prog 80 #[.int .i64 l,.int .i64 n] w fun e w'=>e=.returned (.bool (zbn l n))/\w=w':=by
 cases hl:zbn l n with
 |true=>exact valid5_any l n w hn0 hn1 hl
 |false=>
   have hl':l=0\/l< -n\/n<l:=by
    refine Classical.byContradiction fun h=>?_
    have:zbn l n=true:=by
     unfold zbn;rw[zam (by omega) (by omega) (by omega)];simp only[Bool.and_eq_true,decide_eq_true_eq]
     split<;>omega
    rw[hl]at this;simp at this
   by_cases h0:l=0
   ·subst h0;clear hl hl';go_enter Tryz.func80,Tryz.ntmps80;go_wp2;go_ret;exact⟨rfl,rfl⟩
   have d1:(l !=0)=true:=by simpa using h0
   by_cases h1:l< -n
   ·have d2:decide (-n<=l)=false:=by simp;omega
    have hw:IntKind.i64.wrap (-n)=-n:=IntWalk.i64_in _ (by omega);clear hl hl';go_enter Tryz.func80,Tryz.ntmps80;go_wp2;go_ret;exact⟨rfl,rfl⟩
   have d2:decide (-n<=l)=true:=by simp;omega
   have d3:decide (l<=n)=false:=by simp;omega
   clear hl hl';go_enter Tryz.func80,Tryz.ntmps80;go_wp2;go_ret;exact⟨rfl,rfl⟩
theorem check5_all(n:Int)(a:Option Addr)(cap:Nat)(t:List Cl)(w:World)(hl:t.length<=1073741824)(hx:LsCells w a t):
 Calls Tryz.prog 38 #[.agg #[.int .i64 n,.slice a t.length cap]] w fun e w'=>e=.returned (.int .i64 (chkT n t))/\Below w.heap.size w w':=by
 have hb0:Below w.heap.size w (w.alloc (.cells #[.int .i64 n,.slice a t.length cap] 26)):=ba _ _;have HB0:=lh hb0
 by_cases hn:n<0\/128<n
 ·have HR:Hid (chkT n t=6):=by show _=_;unfold chkT;rw[if_pos hn]
  clear hx hb0
  rcases hn with hn|hn
  ·go_enter Tryz.func38,Tryz.ntmps38;go_wp2;go_ret;exact⟨by rw[HR.o];rfl,HB0.o⟩
  have hn0:¬n<0:=by omega
  go_enter Tryz.func38,Tryz.ntmps38;go_wp2;go_ret;exact⟨by rw[HR.o];rfl,HB0.o⟩
 have hn0:0<=n:=by omega
 have hn1:n<=128:=by omega
 by_cases hlt:4096<t.length
 ·have HR:Hid (chkT n t=2):=by show _=_;unfold chkT;rw[if_neg hn,if_pos hlt]
  have hli:(4096:Int)<(t.length:Int):=by omega
  clear hx hb0 hn;go_enter Tryz.func38,Tryz.ntmps38;go_wp2;go_ret;exact⟨by rw[HR.o];rfl,HB0.o⟩
 have HR:Hid (chkT n t=zg0 n (t.drop 0)):=by show _=_;unfold chkT;rw[if_neg hn,if_neg hlt];rfl
 have hli:(t.length:Int)<=4096:=by omega
 have HX:=lh (hx.keep hb0);obtain⟨w0,hw0⟩:=nm (w.alloc (.cells #[.int .i64 n,.slice a t.length cap] 26));rw[<-hw0]at HX HB0
 have b0:w0.cell? ⟨w.heap.size,0,none⟩=some (.int .i64 n):=by rw[hw0,World.cell?_alloc_at _ _ _ _ rfl];rfl
 have b1:w0.cell? ⟨w.heap.size,1,none⟩=some (.slice a t.length cap):=by rw[hw0,World.cell?_alloc_at _ _ _ _ rfl];rfl
 clear hx hb0 hn;go_enter Tryz.func38,Tryz.ntmps38;go_wp2_with fail;rw[<-hw0];clear hw0;go_wp2_with fail
 go_loopw[3](fun i wr=>∃k:Nat,k<=t.length/\i=.int .i64 k/\Below w0.heap.size w0 wr/\chkT n t=zg0 n (t.drop k))(fun i _=>t.length-(intOf i).toNat)
 case atStart=>exact⟨0,Nat.zero_le _,rfl,Below.refl _ _,HR.o⟩
 obtain⟨k,hk,rfl,hbr,hch⟩:=hrel;have HC:=lh hch;have HBR:=lh hbr;have HBW:=bt HB0 hbr;have HXR:=lh (HX.o.keep hbr);have r0:=zab hbr b0;have r1:=zab hbr b1;clear hch hbr
 by_cases hkt:k<t.length
 ·obtain⟨b,off,ai,ci,rfl,hc1,hi⟩:=HXR.o k hkt;have HD:=lh (zr8 (n:=n) hkt)
  have hki:(k:Int)<(t.length:Int):=by omega
  have HI:=lh hi;clear hi;generalize t.getD k []=c at*
  by_cases h128:128<c.length
  ·have hci:(128:Int)<(c.length:Int):=by omega
   have HE:Hid (chkT n t=2):=by show _=_;rw[HC.o,HD.o,if_pos h128]
   go_wp2;go_ret;exact⟨by rw[HE.o];rfl,HBW.o⟩
  have hci:(c.length:Int)<=128:=by omega
  have HD2:Hid (chkT n t=if(c.all fun x=>zbn x n)=true then zg0 n (t.drop (k+1))else 1):=by show _=_;rw[HC.o,HD.o,if_neg h128]
  have HWZ:Hid (Below wr.heap.size wr wr):=Below.refl _ _;go_wp2_with fail
  go_loopw[4](fun i wi=>∃q:Nat,q<=c.length/\i=.int .i64 q/\Below wr.heap.size wr wi/\(c.all fun x=>zbn x n)=(c.drop q).all fun x=>zbn x n)(fun i _=>c.length-(intOf i).toNat)
  case atStart=>exact⟨0,Nat.zero_le _,rfl,HWZ.o,rfl⟩
  obtain⟨q,hq,rfl,hwi,hal⟩:=hrel
  rename World=>wi
  have HWI:=lh hwi;have HA:=lh hal;have c0:=zab hwi r0;have c1:=zab hwi r1;have hc2:=zab hwi hc1;have HI2:=lh (HI.o.keep hwi);clear hal hwi
  by_cases hqc:q<c.length
  ·obtain⟨b2,off2,rfl,e0⟩:=HI2.o q hqc
   have hqi:(q:Int)<(c.length:Int):=by omega
   have HDQ:Hid (((c.drop q).all fun x=>zbn x n)=(zbn (c.getD q 0) n&&(c.drop (q+1)).all fun x=>zbn x n)):=by
    show _=_;rw[List.drop_eq_getElem_cons hqc,List.all_cons];simp[List.getD_eq_getElem?_getD,hqc]
   generalize c.getD q 0=y at*;have HV:=lh (fun W=>valid5g_any y n W hn0 hn1)
   cases hy:zbn y n with
   |true=>
     rw[hy]at HV
     have HN:Hid ((c.all fun x=>zbn x n)=(c.drop (q+1)).all fun x=>zbn x n):=by show _=_;rw[HA.o,HDQ.o,hy,Bool.true_and]
     clear hy;go_wp2_with fail
     go_quiet(first|exact Calls.quiet_of_same ((HV.o _).mono fun _ _ hh=>⟨hh.1,hh.2.symm⟩)|exact(HV.o _).mono fun _ _ hh=>⟨hh.1,_,hh.2.symm⟩)
     go_wp2;go_roundw
     case rel=>exact⟨q+1,by omega,by go_num,HWI.o.trans (zal _ _),HN.o⟩
     case measure=>simp[intOf];omega
   |false=>
     rw[hy]at HV
     have HE:Hid (chkT n t=1):=by show _=_;rw[HD2.o,HA.o,HDQ.o,hy,Bool.false_and,if_neg (by simp)]
     clear hy;go_wp2_with fail
     go_quiet(first|exact Calls.quiet_of_same ((HV.o _).mono fun _ _ hh=>⟨hh.1,hh.2.symm⟩)|exact(HV.o _).mono fun _ _ hh=>⟨hh.1,_,hh.2.symm⟩)
     go_wp2;go_ret;exact⟨by rw[HE.o];rfl,HBW.o.trans ((HWI.o.trans (zal _ _)).mono HBW.o.size)⟩
  have hqe:q=c.length:=by omega
  subst hqe
  have HN:Hid (chkT n t=zg0 n (t.drop (k+1))):=by show _=_;rw[HD2.o,HA.o,List.drop_length];rfl
  go_wp2;go_roundw
  case rel=>exact⟨k+1,by omega,by go_num,HBR.o.trans (HWI.o.mono HBR.o.size),HN.o⟩
  case measure=>simp[intOf];omega
 have hke:k=t.length:=by omega
 subst hke
 have HE:Hid (chkT n t=0):=by show _=_;rw[HC.o,List.drop_length];rfl
 go_wp2;go_ret;exact⟨by rw[HE.o];rfl,HBW.o⟩
theorem check5_any(n:Int)(a:Option Addr)(cap:Nat)(t:List Cl)(w:World)(hl:t.length<=1073741824)(_hs:∀c∈t,c.length<=1073741824)(hx:LsCells w a t):
 Calls Tryz.prog 38 #[.agg #[.int .i64 n,.slice a t.length cap]] w fun e w'=>e=.returned (.int .i64 (chkT n t))/\Below w.heap.size w w':=check5_all n a cap t w hl hx
theorem getD_mem0{c:Cl}{k:Nat}(h:k<c.length):c.getD k 0∈c:=by
 rw[List.getD_eq_getElem?_getD,List.getElem?_eq_getElem h];exact List.getElem_mem h
theorem zvh(t:Nt):zcv t=true↔(0<=t.n/\t.n<=128/\1<=t.l.length/\t.l.length<=65536)/\∀j,j<t.l.length->ndOk (t.l.getD j default) t.n j=true:=by
 simp only[zcv,zf7,Bool.and_eq_true,decide_eq_true_eq];exact⟨fun h=>⟨by omega,h.2⟩,fun h=>⟨by omega,h.2⟩⟩
theorem zkt{n:Nat}(hn:n<=128):∀{t:List Cl},zg0 n t=0↔∀c∈t,c.length<=128/\∀x∈c,litN n x
 |[]=>by simp[zg0]
 |c::t=>by
   rw[zg0]
   have hall:(c.all fun x=>zbn x n)=true↔∀x∈c,litN n x:=by
    rw[List.all_eq_true];exact⟨fun h x hx=>(zgc hn).1 (h x hx),fun h x hx=>(zgc hn).2 (h x hx)⟩
   by_cases h1:128<c.length
   ·rw[if_pos h1]
    constructor
    ·intro h;simp at h
    intro h;have:=(h c (by simp)).1;omega
   rw[if_neg h1]
   by_cases h2:(c.all fun x=>zbn x n)=true
   ·rw[if_pos h2,zkt hn]
    constructor
    ·intro h d hd
     rcases List.mem_cons.1 hd with rfl|hd
     ·exact⟨by omega,hall.1 h2⟩
     exact h d hd
    intro h d hd;exact h d (List.mem_cons_of_mem _ hd)
   rw[if_neg h2]
   constructor
   ·intro h;simp at h
   intro h;exact absurd (hall.2 (h c (by simp)).2) h2
theorem zng{n:Nat}(hn:n<=128){t:List Cl}:chkT n t=0↔tOk n t:=by
 unfold chkT;rw[if_neg (by omega)]
 by_cases h:4096<t.length
 ·rw[if_pos h]
  constructor
  ·intro h;simp at h
  intro ht;have:=ht.len;omega
 rw[if_neg h,zkt hn];exact⟨fun k=>⟨by omega,k⟩,fun k=>k.cl⟩
def acc(s f:Int->Bool)(x:Nd)(m:Nat):Bool:=evNd s f ⟨x.kind,x.lit,x.ins.take m⟩
theorem holds5_any(s:St)(l:Int)(w:World)(hs:s.ok)(hl:zac l≠0):Calls Tryz.prog 111 #[stv s,.int .i64 l] w fun e w'=>e=.returned (.bool (zcj s.mem l))/\Below w.heap.size w w':=by
 have HH:=lh (fun v V=>has5_any s v V hs);have HB0:=lh ((Below.refl w.heap.size w).alloc (Nat.le_refl _) (.cells #[.int .u64 (s.a:Int),.int .u64 (s.b:Int)] 29))
 rcases zes hl with⟨h1,h2,h3⟩|⟨h1,h2,h3⟩
 ·have hd:decide (l<0)=false:=by simp;omega
  have HV:Hid (zcj s.mem l=s.mem l):=by show _=_;unfold zcj;rw[h3,decide_eq_true (show l≠0 by omega),decide_eq_true (show 0<l by omega)];simp
  have HH1:=lh (HH.o l);clear hl h3;go_enter Tryz.func111,Tryz.ntmps111;go_wp2_with fail;refine(HH1.o _).mono ?_;rintro e w1⟨rfl,hb1⟩;have HB1:=bt HB0 hb1;clear hb1;go_wp2;go_ret;exact⟨zbg HV.o.symm,HB1.o⟩
 have hd:decide (l<0)=true:=by simp;omega
 have hw:IntKind.i64.wrap (-l)=-l:=IntWalk.i64_in _ (by omega)
 have HV:Hid (zcj s.mem l=!s.mem (-l)):=by show _=_;unfold zcj;rw[h3,decide_eq_true (show-l≠0 by omega),decide_eq_false (show¬0<l by omega)];cases s.mem (-l)<;>rfl
 have HH1:=lh (HH.o (-l));clear hl h3;go_enter Tryz.func111,Tryz.ntmps111;go_wp2_with fail
 try rw[hw]
 refine(HH1.o _).mono ?_;rintro e w1⟨rfl,hb1⟩;have HB1:=bt HB0 hb1;clear hb1 hw;go_wp2;go_ret;exact⟨zbg HV.o.symm,HB1.o⟩
structure PfOk(p:Prf):Prop where
 n:p.n<=128
 t:tOk p.n p.t
 N:zcv ⟨p.n,p.N⟩=true
 C:p.C.length=p.N.length
 cl:∀c∈p.C,c.tm.length<=1073741824/\c.at'.length<=1073741824
structure TB(w0 V:World)(o:Option Nat):Prop where
 bl:Below w0.heap.size w0 V
 x:∀b,o=some b->w0.heap.size<=b/\Blk V b #[.int .i64 0,.slice none 0 0] 26
theorem TB.alloc{w0 V:World}{q:Nat}(h:TB w0 V none)(hq:q=V.heap.size):TB w0 (V.alloc (.cells #[.int .i64 0,.slice none 0 0] 26)) (some q):=by
 subst hq;refine⟨h.bl.alloc h.bl.size _,fun b e=>?_⟩;simp only[Option.some.injEq]at e;subst e;exact⟨h.bl.size,Blk.new _ _ _⟩
structure PfB(p:Prf):Prop where
 ok:PfOk p
 il:∀x∈p.N,x.ins.length<=8192
theorem PfB.ins{p:Prf}(h:PfB p){j:Nat}(hj:j<p.N.length):(p.N.getD j default).ins.length<=8192/\∀i∈(p.N.getD j default).ins,0<=i/\i<p.N.length:=by
 have hm:p.N.getD j default∈p.N:=by rw[List.getD_eq_getElem?_getD,List.getElem?_eq_getElem hj];exact List.getElem_mem hj
 refine⟨h.il _ hm,fun i hi=>?_⟩;have h1:=((zvh _).1 h.ok.N).2 j hj;unfold ndOk at h1;rw[Bool.and_eq_true]at h1;have:=(zer.1 h1.1) i hi;omega
theorem ycq{n:Nat}{T:Cl}(h:gT n T):T.length<=129:=by
 have:=zb7 (l:=T.map zac) (b:=129) (by show List.Pairwise _ _;rw[List.pairwise_map];exact h.nd) (fun i hi=>by
  obtain⟨x,_,rfl⟩:=List.mem_map.1 hi;unfold zac
  split
  ·omega
  split<;>omega)
 simpa using this
theorem zw6{ch:List Cl->Int}{n:Nat}{t:List Cl}{cache:Bool}(hn:n<=128)(hch:Chooses ch n)(ht:tOk n t){i:Nat}{c:Nc}{l:List Cl}{term:Cl}(hc:(zad ch cache n t)[i]?=some c)(htag:c.tag=some (l,term)):gT n term/\l.length<=4096:=by
 have hal:(zaa n t).length<=4096:=Nat.le_trans (zco n t) ht.len
 by_cases h0:zaa n t=[]
 ·rw[za9 h0]at hc;have:=List.mem_of_getElem? hc;simp only[List.mem_singleton]at this;subst this;simp only[Option.some.injEq,Prod.mk.injEq]at htag;obtain⟨rfl,rfl⟩:=htag;exact⟨gT.nil n,by simp⟩
 have hC:=core hn hch ht cache
 have hcore:∀(i:Nat)(c:Nc),(zak ch cache (zaa n t)).1[i]?=some c->c.tag=some (l,term)->gT n term/\l.length<=4096:=fun i c hc htag=>⟨(hC.inv.tg i c l term hc htag).1,zwb hn hch ht ⟨c,term,hc,htag⟩⟩
 cases hr:zcl (zak ch cache (zaa n t)) (zaa n t)with
 |true=>
   rw[zcp h0 hr,List.getElem?_append]at hc
   split at hc
   ·exact hcore i c hc htag
   have:=List.mem_of_getElem? hc;simp only[List.mem_singleton]at this;subst this;simp only[Option.some.injEq,Prod.mk.injEq]at htag;obtain⟨rfl,rfl⟩:=htag;exact⟨gT.nil n,hal⟩
 |false=>
   rw[zcq h0 hr,List.getElem?_set]at hc
   split at hc
   ·split at hc
    ·obtain rfl:=(Option.some.inj hc).symm;simp only[Option.some.injEq,Prod.mk.injEq]at htag;obtain⟨rfl,rfl⟩:=htag;exact⟨gT.nil n,hal⟩
    simp at hc
   exact hcore i c hc htag
theorem zw4{ch:List Cl->Int}{n:Nat}{t:List Cl}{cache:Bool}(hn:n<=12)(hch:Chooses ch n)(ht:tOk n t):(zad ch cache n t).length<=20000:=by
 have h1:=(zh8 (cache:=cache) (show n<=128 by omega) hch ht).1;have hg:=za2 (show n<=128 by omega) ht.rg
 have h3:=zj8 (show n<=128 by omega) (l:=zaa n t) fun c hc x hx=>(hg.gc c hc).rg x hx
 have h4:=yb5 (show card (zae (zaa n t))<=12 by omega);have h5:FB 12=16381:=rfl;omega
def yb1(ch:List Cl->Int)(cache:Bool)(n:Nat)(t:List Cl)(C:List Clm):Prop:=
 ∀(i:Nat)(c:Nc),(zad ch cache n t)[i]?=some c->match c.tag with|none=>C.getD i ⟨[],[]⟩=⟨[],[]⟩|some (l,term)=>∃a,C.getD i ⟨[],[]⟩=⟨term,a⟩/\ClOf n t l term a
theorem yal{ch:List Cl->Int}{n:Nat}{t:List Cl}{cache:Bool}(hn:n<=12)(hch:Chooses ch n)(ht:tOk n t){C:List Clm}(hC:C.length=(zad ch cache n t).length)(hcl:yb1 ch cache n t C):
 PfB ⟨n,t,nds (zad ch cache n t),C⟩/\∀i,i<(nds (zad ch cache n t)).length->Prf.node ⟨n,t,nds (zad ch cache n t),C⟩ i:=by
 have hn2:n<=128:=by omega
 have hfew:=zw4 (cache:=cache) hn hch ht;refine⟨⟨⟨hn2,ht,zqx (n:=n) (t:=t) (cache:=cache) hn2 hch ht (by omega),by simp only[zat];exact hC,fun c hc=>?_⟩,zqv hn2 hch ht⟩,?_⟩
 ·obtain⟨i,hi,rfl⟩:=List.getElem_of_mem hc;simp only at hi⊢
  have hgd:C[i]=C.getD i ⟨[],[]⟩:=by simp[List.getD_eq_getElem?_getD,hi]
  have hci:(zad ch cache n t)[i]?=some ((zad ch cache n t)[i]'(by omega)):=List.getElem?_eq_getElem (by omega);have h1:=hcl i _ hci;rw[hgd]
  split at h1
  ·rw[h1];simp
  rename_i l term htag
  obtain⟨a,e,hcl2⟩:=h1;have h2:=zw6 hn2 hch ht hci htag;rw[e];obtain⟨m,h3,h4,_⟩:=hcl2
  have h5:a.length=l.length:=by
   rw[h3,<-h4];simp[zc4]
  have:=ycq h2.1;exact⟨by simp only;omega,by simp only;omega⟩
 exact zub (p:=⟨n,t,nds (zad ch cache n t),C⟩) hn2 hch ht rfl rfl rfl fun i c l term hci htag=>by
  have h1:=hcl i c hci;rw[htag]at h1;exact h1
structure Gdt(n:Nat)(t:List Cl)(order:List Int):Prop where
 n9:n<=9
 tl:t.length<=4096
 cl:∀c∈t,c.length<=128
 ck:zc3 n t order=0
theorem Gdt.ct{n:Nat}{t:List Cl}{order:List Int}(h:Gdt n t order):chkT n t=0:=by
 have:=h.ck;unfold zc3 at this
 split at this
 ·exact absurd this (by assumption)
 rename_i h;simpa using h
theorem Gdt.tok{n:Nat}{t:List Cl}{order:List Int}(h:Gdt n t order):tOk n t:=(zng (by have:=h.n9;omega)).1 h.ct
theorem Gdt.ol{n:Nat}{t:List Cl}{order:List Int}(h:Gdt n t order):order.length<=n:=by
 have:=h.ck;unfold zc3 at this
 split at this
 ·exact absurd this (by assumption)
 split at this
 ·simp at this
 rename_i h2
 refine Classical.byContradiction fun h3=>h2 ⟨by omega,.inl ?_⟩
 omega
structure CRes(n:Nat)(t:List Cl)(order:List Int)(o1 o2:Bool)(B:Nat)(w:World)(na:Option Addr)(nc:Nat)(ca:Option Addr)(cc:Nat)(N:List Nd)(C:List Clm):Prop where
 eqN:N=nds (zad (chF order o1 n) o2 n t)
 cl:yb1 (chF order o1 n) o2 n t C
 len:C.length=N.length
 n:NdCells w na N
 cp:zz1 w na N
 c:zox w ca C
 mem:∃L:List Me,CpMem w B (.slice na L.length nc) (.slice ca L.length cc) L/\nds (L.map fun e=>e.c)=N/\clms L=C
section
variable{n:Nat}{t:List Cl}{order:List Int}{o1 o2:Bool}{B:Nat}{w:World}{na:Option Addr}{nc:Nat}{ca:Option Addr}{cc:Nat}{N:List Nd}{C:List Clm}
theorem CRes.pf(h:CRes n t order o1 o2 B w na nc ca cc N C)(hg:Gdt n t order):PfB ⟨n,t,N,C⟩/\∀i,i<N.length->Prf.node ⟨n,t,N,C⟩ i:=by
 have h9:=hg.n9;have:=yal (ch:=chF order o1 n) (cache:=o2) (show n<=12 by omega) (zfm (by omega)) hg.tok (by have:=h.len;rw[h.eqN,zat]at this;exact this) h.cl;rw[<-h.eqN]at this;exact this
theorem CRes.ok(h:CRes n t order o1 o2 B w na nc ca cc N C)(hg:Gdt n t order):zcv ⟨n,N⟩=true:=(h.pf hg).1.ok.N
end
def yb0(n:Nat)(t:List Cl)(order:List Int)(o1 o2:Bool)(w:World)(e:Ending)(w':World):Prop:=
 ∃(na:Option Addr)(nc:Nat)(ca:Option Addr)(cc:Nat)(N:List Nd)(C:List Clm),e=.returned (.tuple #[.agg #[.int .i64 (n:Int),.slice na N.length nc],.slice ca N.length cc,.int .i64 0])/\CRes n t order o1 o2 w.heap.size w' na nc ca cc N C/\Below w.heap.size w w'
theorem ydi{w:World}(h:Tab w):1<w.heap.size:=by
 have:=h.cell (g:=1) (by kernel_rfl) 0 (by decide+kernel);exact zai this
theorem zw1(n:Nat)(a:Option Addr)(cap:Nat)(t:List Cl)(oa:Option Addr)(oc:Nat)(order:List Int)(o1 o2:Bool)(w:World)(hg:Gdt n t order)(hx:LsCells w a t)(ho:IntCells w oa order)(htab:Tab w):
 Calls Tryz.prog 29 #[.agg #[.int .i64 (n:Int),.slice a t.length cap],.agg #[.slice oa order.length oc,.bool o1,.bool o2]] w (yb0 n t order o1 o2 w):=by
 have h9:=hg.n9;have htl:=hg.tl;have hol:=hg.ol;refine(zua n (by omega) a cap t oa oc order o1 o2 w (by omega) (fun c hc=>⟨by have:=hg.cl c hc;omega,hg.tok.rg c hc⟩) hx (by omega) ho hg.ck hg.tok htab (ydi htab)).mono ?_;rintro e w'⟨na,nc,ca,cc,C,L,rfl,hC,hN,hcap,hcm,hmem,hL1,hL2,hb,hcl⟩;refine⟨na,nc,ca,cc,nds (zad (chF order o1 n) o2 n t),C,by rw[zat],⟨rfl,hcl,by rw[zat];exact hC,hN,hcap,hcm,L,hmem,hL1,hL2⟩,hb⟩
def subK(rows:List Pr)(s:Nat):Nat->Pr
 |0=>Pr.zero
 |k+1=>if s/2^k%2=1 then sumP (subK rows s k) (rows.getD k Pr.zero)else subK rows s k
def zhe(o:Bool)(c:Ct):Ct:=if o then⟨c.o,c.e⟩else c
def zh3(N:Nat)(L:List Nd)(rows:List Pr):Nat->Option Ct
 |0=>some ⟨0,0⟩
 |t+1=>(zh3 N L rows t).bind fun a=>(zkv N L (subK rows t rows.length).v).bind fun y=>
   if a.e+(zhe (subK rows t rows.length).odd y).e<65536/\a.o+(zhe (subK rows t rows.length).odd y).o<65536 then some ⟨a.e+(zhe (subK rows t rows.length).odd y).e,a.o+(zhe (subK rows t rows.length).odd y).o⟩else none
def zfl(N:Nat)(L:List Nd)(l:List Pr):Option Nat:=
 if(zay l).2=true then(zh3 N L (zay l).1 (2^(zay l).1.length)).bind fun a=>if a.o<=a.e/\(zay l).1.length<=8 then some ((a.e-a.o)/2^(zay l).1.length)else none
 else some 0
theorem zzr:∀(f:Nat)(rest out:List Pr),(∀q∈rest,q.ok)->(∀q∈out,q.ok)->∀q∈(rdF f rest out).1,q.ok
 |0,_,_,_,h=>by rw[rdF];exact h
 |f+1,[],out,_,h=>by rw[rdF];exact h
 |f+1,p::rest,out,h1,h2=>by
   rw[rdF]
   split
   ·intro q hq;simp at hq
   refine zzr f _ _ (zoi (h1 p (by simp)) fun q hq=>h1 q (by simp[hq])) ?_
   split
   ·intro q hq
    rcases List.mem_append.1 hq with hq|hq
    ·exact h2 q hq
    simp at hq;subst hq;exact h1 q (by simp)
   exact h2
theorem zjv(l:List Pr)(h:∀q∈l,q.ok):∀q∈(zay l).1,q.ok:=zzr _ _ _ h fun q hq=>by simp at hq
theorem zj0(rows:List Pr)(s:Nat)(h:∀q∈rows,q.ok):∀k,k<=rows.length->(subK rows s k).ok
 |0,_=>Pr.zero_ok
 |k+1,hk=>by
   rw[subK]
   have hr:(rows.getD k Pr.zero).ok:=by
    rw[List.getD_eq_getElem?_getD,List.getElem?_eq_getElem (by omega)];exact h _ (List.getElem_mem _)
   split
   ·exact zv7 (zj0 rows s h k (by omega)) hr
   exact zj0 rows s h k (by omega)
theorem zgz{N:Nat}{L:List Nd}{rows:List Pr}:∀(T:Nat)(c:Ct),zh3 N L rows T=some c->∀t,t<T->∃a y,zh3 N L rows t=some a/\zkv N L (subK rows t rows.length).v=some y/\a.e+(zhe (subK rows t rows.length).odd y).e<65536/\a.o+(zhe (subK rows t rows.length).odd y).o<65536/\
 zh3 N L rows (t+1)=some ⟨a.e+(zhe (subK rows t rows.length).odd y).e,a.o+(zhe (subK rows t rows.length).odd y).o⟩
 |0,_,_,_,ht=>absurd ht (Nat.not_lt_zero _)
 |T+1,c,h,t,ht=>by
   have h0:=h;rw[zh3]at h;obtain⟨a,ha,h1⟩:=bind_some h;obtain⟨y,hy,h2⟩:=bind_some h1
   by_cases hlt:t<T
   ·exact zgz T a ha t hlt
   obtain rfl:t=T:=by omega
   split at h2
   ·rename_i hc
    refine⟨a,y,ha,hy,hc.1,hc.2,?_⟩;rw[h0];exact h2.symm
   simp at h2
theorem zwu{N:Nat}{L:List Nd}{rows:List Pr}{T:Nat}{c:Ct}(h:zh3 N L rows T=some c):c.e<65536/\c.o<65536:=by
 cases T with
 |zero=>simp[zh3]at h;subst h;exact⟨by decide,by decide⟩
 |succ T=>
   obtain⟨a,y,_,_,h1,h2,h3⟩:=zgz _ _ h T (Nat.lt_succ_self _);rw[h]at h3
   cases h3
   exact⟨h1,h2⟩
def samT:List Cl:=[[1,2],[-1,3]]
def samN:List Nd:=nds (zad (chF [] false 3) false 3 samT)
theorem zzs:Gdt 3 samT []:=⟨by decide,by decide,by decide,by decide+kernel⟩
theorem sam_w:zfl 3 samN [⟨⟨3,0⟩,true⟩,⟨⟨4,0⟩,true⟩]=some 2:=by decide+kernel
theorem sam_p:zbr [193] 3 2=[⟨⟨3,0⟩,false⟩,⟨St.zero,true⟩]:=by decide+kernel
theorem ydb:zfl 3 samN (zbr [192] 3 1)=some 1:=by decide+kernel
theorem ydc:zfl 3 samN (zbr [208] 3 1)=some 3:=by decide+kernel
theorem ydd:zfl 3 samN (zbr [16] 3 1)=some 0:=by decide+kernel
theorem zmm(s t:St)(v:Int):(xorS s t).mem v=(s.mem v !=t.mem v):=by
 unfold St.mem xorS
 split
 ·rw[Nat.testBit_xor]
 split
 ·rw[Nat.testBit_xor]
 rfl
def gP(N:Nat)(p:Pr)(x:Int->Bool):Bool:=par p.v.mem N x !=p.odd
theorem zuv(N:Nat)(p q:Pr)(x:Int->Bool):gP N (sumP p q) x=(gP N p x !=gP N q x):=by
 unfold gP sumP;rw[zp5 (A:=p.v.mem) (B:=q.v.mem) N fun v _ _=>by rw[zmm];cases p.v.mem v<;>cases q.v.mem v<;>cases x v<;>rfl]
 cases par p.v.mem N x<;>cases par q.v.mem N x<;>cases p.odd<;>cases q.odd<;>rfl
theorem zuw(N:Nat)(x:Int->Bool):gP N Pr.zero x=false:=by
 unfold gP;rw[zie N fun v _ _=>by rw[show Pr.zero.v=St.zero from rfl,St.mem_zero];rfl]
 rfl
def satP(N:Nat)(l:List Pr)(x:Int->Bool):Bool:=l.all fun p=>!gP N p x
theorem yad{k s j:Nat}(hj:j<k):(2^k+s)/2^j%2=s/2^j%2:=by
 have e:2^k=2^j*(2*2^(k-j-1)):=by
  rw[<-Nat.pow_succ',<-Nat.pow_add];congr 1;omega
 rw[e,Nat.mul_add_div (Nat.pow_pos (by omega))];rw[Nat.add_mod,Nat.mul_mod_right,Nat.zero_add,Nat.mod_mod]
theorem zrw(rows:List Pr){k s:Nat}:∀j,j<=k->subK rows (2^k+s) j=subK rows s j
 |0,_=>rfl
 |j+1,h=>by rw[subK,subK,yad (show j<k by omega),zrw rows j (by omega)]
theorem zyr(rows:List Pr){k s:Nat}(h:s<2^k):subK rows s (k+1)=subK rows s k:=by
 rw[subK,if_neg];rw[Nat.div_eq_of_lt h];omega
theorem zys(rows:List Pr){k s:Nat}(h:s<2^k):subK rows (2^k+s) (k+1)=sumP (subK rows s k) (rows.getD k Pr.zero):=by
 have e:(2^k+s)/2^k=1:=by
  rw[Nat.add_comm,Nat.add_div_right _ (Nat.pow_pos (by omega)),Nat.div_eq_of_lt h]
 rw[subK,e,if_pos rfl,zrw rows k (Nat.le_refl _)]
section
variable{N:Nat}{rows:List Pr}{z:Int->Bool}
def evE(N:Nat)(rows:List Pr)(z:Int->Bool)(f:(Int->Bool)->Bool)(k:Nat)(s:Nat):Nat:=cnt (fun x=>f x&&!gP N (subK rows s k) x) N z
def odE(N:Nat)(rows:List Pr)(z:Int->Bool)(f:(Int->Bool)->Bool)(k:Nat)(s:Nat):Nat:=cnt (fun x=>f x&&gP N (subK rows s k) x) N z
theorem zb1(f g:(Int->Bool)->Bool):cnt f N z=cnt (fun x=>f x&&!g x) N z+cnt (fun x=>f x&&g x) N z:=by
 rw[<-ziv N z fun x h=>by
  have h1:=h.1;have h2:=h.2;simp only[Bool.and_eq_true,Bool.not_eq_true']at h1 h2
  rw[h1.2]at h2;simp at h2]
 refine zag N z fun x _=>?_
 cases f x<;>cases g x<;>rfl
theorem ycl(f:(Int->Bool)->Bool)(k:Nat):∀t,sumE (evE N rows z f k) t+sumE (odE N rows z f k) t=t*cnt f N z:=fun t=>by
 rw[<-zfa,<-zd2]
 refine za3 t fun s _=>?_
 exact(zb1 f fun x=>gP N (subK rows s k) x).symm
theorem zvz{k:Nat}(h:k<rows.length)(x:Int->Bool):satP N (rows.take (k+1)) x=(satP N (rows.take k) x&&!gP N (rows.getD k Pr.zero) x):=by
 unfold satP;rw[List.take_succ_eq_append_getElem h,List.all_append]
 simp[List.getD_eq_getElem?_getD,h]
theorem zzh:∀(k:Nat)(f:(Int->Bool)->Bool),k<=rows.length->2*sumE (evE N rows z f k) (2^k)=2^k*(cnt f N z+cnt (fun x=>f x&&satP N (rows.take k) x) N z)
 |0,f,_=>by
   have e:evE N rows z f 0 0=cnt f N z:=zag N z fun x _=>by
    show(f x&&!gP N (subK rows 0 0) x)=f x
    rw[show subK rows 0 0=Pr.zero from rfl,zuw];simp
   have e2:cnt (fun x=>f x&&satP N (rows.take 0) x) N z=cnt f N z:=zag N z fun x _=>by simp[satP]
   rw[show sumE (evE N rows z f 0) (2^0)=0+evE N rows z f 0 0 from rfl,e,e2];omega
 |k+1,f,hk=>by
   obtain⟨gk,hgk⟩:∃g:(Int->Bool)->Bool,g=gP N (rows.getD k Pr.zero):=⟨_,rfl⟩
   have h1:sumE (evE N rows z f (k+1)) (2^(k+1))=2*sumE (evE N rows z (fun x=>f x&&!gk x) k) (2^k)+2^k*cnt (fun x=>f x&&gk x) N z:=by
    rw[show 2^(k+1)=2^k+2^k by rw[Nat.pow_succ];omega,zfb,<-zfa,<-zm4,<-zd2,<-zfa]
    refine za3 _ fun s hs=>?_
    unfold evE;rw[zyr rows hs,zys rows hs];have a1:=zb1 (N:=N) (z:=z) (fun x=>f x&&!gP N (subK rows s k) x) gk;have a2:=zb1 (N:=N) (z:=z) (fun x=>f x&&!gP N (sumP (subK rows s k) (rows.getD k Pr.zero)) x) gk;have a3:=zb1 (N:=N) (z:=z) (fun x=>f x&&gk x) (gP N (subK rows s k))
    have b1:cnt (fun x=>(f x&&!gP N (subK rows s k) x)&&!gk x) N z=cnt (fun x=>(f x&&!gk x)&&!gP N (subK rows s k) x) N z:=zag N z fun x _=>by
     cases f x<;>cases gk x<;>cases gP N (subK rows s k) x<;>rfl
    have b2:cnt (fun x=>(f x&&!gP N (sumP (subK rows s k) (rows.getD k Pr.zero)) x)&&!gk x) N z=cnt (fun x=>(f x&&!gk x)&&!gP N (subK rows s k) x) N z:=zag N z fun x _=>by
     rw[zuv,<-hgk]
     cases f x<;>cases gk x<;>cases gP N (subK rows s k) x<;>rfl
    have b3:cnt (fun x=>(f x&&!gP N (subK rows s k) x)&&gk x) N z=cnt (fun x=>(f x&&gk x)&&!gP N (subK rows s k) x) N z:=zag N z fun x _=>by
     cases f x<;>cases gk x<;>cases gP N (subK rows s k) x<;>rfl
    have b4:cnt (fun x=>(f x&&!gP N (sumP (subK rows s k) (rows.getD k Pr.zero)) x)&&gk x) N z=cnt (fun x=>(f x&&gk x)&&gP N (subK rows s k) x) N z:=zag N z fun x _=>by
     rw[zuv,<-hgk]
     cases f x<;>cases gk x<;>cases gP N (subK rows s k) x<;>rfl
    dsimp only at a1 a2 a3⊢;omega
   have ih:=zzh k (fun x=>f x&&!gk x) (by omega);have h2:=zb1 (N:=N) (z:=z) f gk
   have h3:cnt (fun x=>f x&&satP N (rows.take (k+1)) x) N z=cnt (fun x=>(f x&&!gk x)&&satP N (rows.take k) x) N z:=zag N z fun x _=>by
    rw[zvz (by omega),hgk]
    cases f x<;>cases satP N (rows.take k) x<;>cases gP N (rows.getD k Pr.zero) x<;>rfl
   rw[h1,h2,h3,Nat.pow_succ];generalize sumE (evE N rows z (fun x=>f x&&!gk x) k) (2^k)=A at*;generalize cnt (fun x=>f x&&!gk x) N z=B at*;generalize cnt (fun x=>(f x&&!gk x)&&satP N (rows.take k) x) N z=C at*;generalize cnt (fun x=>f x&&gk x) N z=G at*;generalize 2^k=P at*;have e1:P*(B+C)=P*B+P*C:=Nat.mul_add _ _ _
   have e2:P*2*(B+G+C)=2*(P*B+P*G+P*C):=by rw[Nat.mul_comm P 2,Nat.mul_assoc,Nat.mul_add P (B+G) C,Nat.mul_add P B G]
   rw[e2];rw[e1]at ih;omega
theorem zzg(f:(Int->Bool)->Bool):2*sumE (evE N rows z f rows.length) (2^rows.length)=2^rows.length*(cnt f N z+cnt (fun x=>f x&&satP N rows x) N z):=by
 have h:=zzh (N:=N) (z:=z) rows.length f (Nat.le_refl _)
 rwa[List.take_length]at h
theorem yaw(f:(Int->Bool)->Bool):sumE (odE N rows z f rows.length) (2^rows.length)<=sumE (evE N rows z f rows.length) (2^rows.length)/\
 (sumE (evE N rows z f rows.length) (2^rows.length)-sumE (odE N rows z f rows.length) (2^rows.length))/2^rows.length=cnt (fun x=>f x&&satP N rows x) N z:=by
 have h1:=zzg (N:=N) (rows:=rows) (z:=z) f;have h2:=ycl (N:=N) (rows:=rows) (z:=z) f rows.length (2^rows.length);have hp:0<2^rows.length:=Nat.pow_pos (by omega);rw[Nat.mul_add]at h1;generalize sumE (evE N rows z f rows.length) (2^rows.length)=A at*;generalize sumE (odE N rows z f rows.length) (2^rows.length)=B at*;generalize 2^rows.length=P at*;generalize cnt (fun x=>f x&&satP N rows x) N z=C at*
 have h3:A-B=P*C:=by omega
 exact⟨by omega,by rw[h3];exact Nat.mul_div_cancel_left _ hp⟩
end
theorem ze0{s:St}(h:0<za4 s):s.mem (za4 s)=true:=by
 unfold za4 at h⊢
 cases hm:memS s with
 |nil=>rw[hm]at h;simp at h
 |cons v l=>exact(zd8 s v).1 (by rw[hm];simp)
theorem zpl{s:St}(h:¬0<za4 s)(v:Int):s.mem v=false:=by
 rw[Bool.eq_false_iff];intro hv;have h1:=(zd8 s v).2 hv;unfold za4 at h
 cases hm:memS s with
 |nil=>rw[hm]at h1;simp at h1
 |cons u l=>
   rw[hm]at h;have h2:s.mem u=true:=(zd8 s u).1 (by rw[hm];simp);have:=(zg8 h2).1;simp at h;omega
theorem zuu{N:Nat}{p:Pr}(h:¬0<za4 p.v)(x:Int->Bool):gP N p x=p.odd:=by
 unfold gP;rw[zie N fun v _ _=>by rw[zpl h v];rfl]
 cases p.odd<;>rfl
theorem zrs{N:Nat}{p:Pr}{x:Int->Bool}(h:gP N p x=false):∀l:List Pr,satP N (zbs p l) x=satP N l x
 |[]=>rfl
 |q::l=>by
   have ih:=zrs h l;unfold satP zbs at ih⊢;rw[List.map_cons,List.all_cons,List.all_cons,ih]
   congr 2
   split
   ·rw[zuv,h];simp
   rfl
theorem zjx{N:Nat}{x:Int->Bool}:∀l:List Pr,satP N (l.filter fun q=>!decide (q=Pr.zero)) x=satP N l x
 |[]=>rfl
 |q::l=>by
   have ih:=zjx (N:=N) (x:=x) l;unfold satP at ih⊢
   by_cases hq:q=Pr.zero
   ·rw[List.filter_cons_of_neg (by simpa using hq),ih,List.all_cons,hq,zuw];rfl
   rw[List.filter_cons_of_pos (by simpa using hq),List.all_cons,List.all_cons,ih]
theorem zol{N:Nat}{x:Int->Bool}{p:Pr}{l:List Pr}:satP N (p::l) x=(!gP N p x&&satP N (zbo p l) x):=by
 unfold zbo;rw[zjx]
 cases h:gP N p x with
 |true=>unfold satP;rw[List.all_cons,h];rfl
 |false=>rw[zrs h];unfold satP;rw[List.all_cons,h]
theorem zqd{N:Nat}{x:Int->Bool}{l m:List Pr}:satP N (l++m) x=(satP N l x&&satP N m x):=by unfold satP;rw[List.all_append]
structure RdI(N:Nat)(out rest:List Pr):Prop where
 pos:∀p∈out,0<za4 p.v
 pw:out.Pairwise fun p q=>q.v.mem (za4 p.v)=false
 off:∀p∈out,∀q∈rest,q.v.mem (za4 p.v)=false
 ino:∀p∈out,∀v,p.v.mem v=true->v<=N
 inr:∀p∈rest,∀v,p.v.mem v=true->v<=N
theorem zju{p q:Pr}{l:List Pr}(h:q∈zbo p l):∃r∈l,q=if r.v.mem (za4 p.v)=true then sumP p r else r:=by
 unfold zbo zbs at h;obtain⟨r,hr,e⟩:=List.mem_map.1 (List.mem_filter.1 h).1;exact⟨r,hr,e.symm⟩
theorem RdI.step{N:Nat}{out rest:List Pr}{p:Pr}(h:RdI N out (p::rest)):RdI N (if 0<za4 p.v then out++[p]else out) (zbo p rest):=by
 have hst:∀u,p.v.mem u=false->(∀r∈rest,r.v.mem u=false)->∀q∈zbo p rest,q.v.mem u=false:=fun u hp hr q hq=>by
  obtain⟨r,hr1,rfl⟩:=zju hq
  split
  ·show(xorS p.v r.v).mem u=false
   rw[zmm,hp,hr r hr1];rfl
  exact hr r hr1
 have hold:∀a∈out,∀q∈zbo p rest,q.v.mem (za4 a.v)=false:=fun a ha=>hst _ (h.off a ha p (by simp)) fun r hr=>h.off a ha r (by simp[hr])
 have hin:∀q∈zbo p rest,∀v,q.v.mem v=true->v<=N:=fun q hq v hv=>by
  obtain⟨r,hr1,rfl⟩:=zju hq
  split at hv
  ·have hv2:(xorS p.v r.v).mem v=true:=hv;rw[zmm]at hv2
   cases hp:p.v.mem v with
   |true=>exact h.inr p (by simp) v hp
   |false=>rw[hp]at hv2;exact h.inr r (by simp[hr1]) v (by simpa using hv2)
  exact h.inr r (by simp[hr1]) v hv
 split
 ·rename_i hv
  refine⟨fun a ha=>?_,?_,fun a ha q hq=>?_,fun a ha v hvv=>?_,hin⟩
  ·rcases List.mem_append.1 ha with ha|ha
   ·exact h.pos a ha
   simp at ha;subst ha;exact hv
  ·rw[List.pairwise_append];exact⟨h.pw,List.pairwise_singleton _ _,fun a ha b hb=>by simp at hb;subst hb;exact h.off a ha _ (by simp)⟩
  ·rcases List.mem_append.1 ha with ha|ha
   ·exact hold a ha q hq
   simp at ha;subst ha;obtain⟨r,hr1,rfl⟩:=zju hq
   split
   ·rename_i hr
    show(xorS a.v r.v).mem _=false
    rw[zmm,ze0 hv,hr];rfl
   rename_i hr;simpa using hr
  rcases List.mem_append.1 ha with ha|ha
  ·exact h.ino a ha v hvv
  simp at ha;subst ha;exact h.inr a (by simp) v hvv
 exact⟨h.pos,h.pw,hold,h.ino,hin⟩
theorem zvx{N:Nat}:∀(f:Nat)(rest out:List Pr),rest.length<f->RdI N out rest->
 ((rdF f rest out).2=true->RdI N (rdF f rest out).1 []/\∀x,satP N (rdF f rest out).1 x=(satP N out x&&satP N rest x))/\((rdF f rest out).2=false->∀x,(satP N out x&&satP N rest x)=false)
 |0,_,_,h,_=>absurd h (Nat.not_lt_zero _)
 |f+1,[],out,_,h=>by
   rw[rdF];exact⟨fun _=>⟨h,fun x=>by unfold satP;simp⟩,fun h=>by simp at h⟩
 |f+1,p::rest,out,hl,h=>by
   rw[rdF]
   by_cases hc:za4 p.v=0/\p.odd=true
   ·rw[if_pos hc];refine⟨fun h=>by simp at h,fun _ x=>?_⟩;rw[zol,zuu (by omega),hc.2];simp
   rw[if_neg hc];have hl2:=zec p rest;simp only[List.length_cons]at hl;obtain⟨h1,h2⟩:=zvx f (zbo p rest) (if 0<za4 p.v then out++[p]else out) (by omega) h.step
   have e:∀x,(satP N (if 0<za4 p.v then out++[p]else out) x&&satP N (zbo p rest) x)=(satP N out x&&satP N (p::rest) x):=fun x=>by
    rw[zol]
    split
    ·rw[zqd,show satP N [p] x=!gP N p x by unfold satP;simp]
     cases satP N out x<;>cases gP N p x<;>rfl
    rename_i hv
    have ho:p.odd=false:=by
     have hz:za4 p.v=0:=by
      have:=znv p.v;omega
     cases ho:p.odd with
     |false=>rfl
     |true=>exact absurd ⟨hz,ho⟩ hc
    rw[zuu hv,ho];simp
   exact⟨fun hh=>⟨(h1 hh).1,fun x=>by rw[(h1 hh).2 x,e x]⟩,fun hh x=>by rw[<-e x];exact h2 hh x⟩
theorem RdI.len{N:Nat}{out rest:List Pr}(h:RdI N out rest):out.length<=N:=by
 have hn:(out.map fun p=>za4 p.v-1).Nodup:=by
  rw[List.nodup_iff_pairwise_ne,List.pairwise_map];refine(List.Pairwise.imp_of_mem (R:=fun p q=>q.v.mem (za4 p.v)=false) ?_ h.pw);intro a b _ hb hab e;have:=ze0 (h.pos b hb);rw[show za4 b.v=za4 a.v by omega]at this;rw[hab]at this;simp at this
 have:=zb7 (b:=N) hn fun i hi=>by
  obtain⟨p,hp,rfl⟩:=List.mem_map.1 hi;have h1:=h.pos p hp;have h2:=h.ino p hp _ (ze0 h1);omega
 simpa using this
def rvN:Nat->Nat->Nat
 |0,_=>0
 |n+1,k=>k%2*2^n+rvN n (k/2)
theorem rvN_lt:∀n k,rvN n k<2^n
 |0,_=>by simp[rvN]
 |n+1,k=>by
   rw[rvN,Nat.pow_succ];have:=rvN_lt n (k/2)
   have h2:k%2=0\/k%2=1:=by omega
   rcases h2 with h|h<;>rw[h]<;>omega
def asF:Nat->Nat->(Int->Bool)->(Int->Bool)
 |0,_,s=>s
 |n+1,k,s=>asF n (k/2) (setV s ((n:Int)+1) (k%2==1))
theorem asF_mem:∀(n k:Nat),n<=64->St.mem ⟨rvN n k,0⟩=asF n k fun _=>false:=by
 suffices h:∀(n k b:Nat)(s:Int->Bool),n<=64->(∀u:Int,1<=u->u<=n->s u=false)->(∀u:Int,¬(1<=u/\u<=n)->s u=St.mem ⟨b*2^n,0⟩ u)->St.mem ⟨b*2^n+rvN n k,0⟩=asF n k s by
  intro n k hn;have:=h n k 0 (fun _=>false) hn (fun _ _ _=>rfl) (fun u _=>by rw[Nat.zero_mul];exact(St.mem_zero u).symm)
  rwa[Nat.zero_mul,Nat.zero_add]at this
 intro n
 induction n with
 |zero=>
   intro k b s _ _ hs;rw[rvN,asF,Nat.add_zero]
   funext u
   exact(hs u (by omega)).symm
 |succ n ih=>
   intro k b s hn h0 hs;rw[rvN,asF,<-ih (k/2) (2*b+k%2) (setV s ((n:Int)+1) (k%2==1)) (by omega) ?_ ?_]
   ·congr 2
    rw[Nat.pow_succ,Nat.add_mul,<-Nat.add_assoc]
    congr 2
    rw[Nat.mul_comm 2 b,Nat.mul_assoc,Nat.mul_comm 2]
   ·intro u h1 h2;unfold setV;rw[if_neg (by omega)];exact h0 u h1 (by push_cast;omega)
   intro u hu;unfold setV
   have hm:∀B:Nat,St.mem ⟨B,0⟩ u=if 1<=u/\u<=64 then B.testBit (u-1).toNat else false:=fun B=>by
    unfold St.mem
    split
    ·rfl
    split<;>simp
   rw[hm]
   by_cases he:u=(n:Int)+1
   ·subst he;rw[if_pos rfl,if_pos (by omega),show((n:Int)+1-1).toNat=n by omega,Nat.testBit_mul_two_pow,decide_eq_true (Nat.le_refl n),Nat.sub_self]
    simp[Nat.testBit_zero,Nat.add_mod]
    rcases Nat.mod_two_eq_zero_or_one k with h|h<;>rw[h]<;>rfl
   rw[if_neg he]
   by_cases h1:1<=u/\u<=n
   ·exact absurd h1 hu
   have h2:=hs u (by push_cast;omega);rw[h2,hm]
   split
   ·rename_i h64
    rw[Nat.testBit_mul_two_pow,Nat.testBit_mul_two_pow,decide_eq_true (show n+1<=(u-1).toNat by omega),decide_eq_true (show n<=(u-1).toNat by omega)];rw[Bool.true_and,Bool.true_and,show(u-1).toNat-n=((u-1).toNat-(n+1))+1 by omega,Nat.testBit_succ]
    congr 1
    omega
   rfl
theorem sumE_pairs(h:Nat->Nat):∀t,sumE h (2*t)=sumE (fun j=>h (2*j)+h (2*j+1)) t
 |0=>rfl
 |t+1=>by rw[show 2*(t+1)=2*t+1+1 by omega,sumE,sumE,sumE_pairs h t,sumE];omega
theorem cnt_asF(f:(Int->Bool)->Bool):∀(n:Nat)(s:Int->Bool),cnt f n s=sumE (fun k=>if f (asF n k s)then 1 else 0) (2^n)
 |0,s=>by
   rw[cnt]
   show _=0+_
   rw[Nat.zero_add]
   rfl
 |n+1,s=>by
   rw[cnt,Nat.pow_succ,Nat.mul_comm,sumE_pairs,zfa,cnt_asF f n,cnt_asF f n]
   congr 1
   ·refine za3 _ fun j _=>?_
    rw[asF,show 2*j/2=j by omega,show(2*j%2==1)=false by simp]
   refine za3 _ fun j _=>?_
   rw[asF,show(2*j+1)/2=j by omega,show((2*j+1)%2==1)=true by simp]
theorem cnt_rvN{n:Nat}(hn:n<=64)(f:(Int->Bool)->Bool):cnt f n (fun _=>false)=sumE (fun k=>if f (St.mem ⟨rvN n k,0⟩)then 1 else 0) (2^n):=by
 rw[cnt_asF]
 exact za3 _ fun k _=>by rw[asF_mem n k hn]
end Go.Proofs.YtnlaakmglhjjmaaGreatDoor
