/- Parts of the proofs of laws. Texts: CpE, Db, Dc, CpU, CpQ, CqG, CqH. -/
import Derived.Test.YtnlaakmglhjjmaaGreatDoorYC13
import Derived.Test.YtnlaakmglhjjmaaGreatDoorYC7
set_option maxHeartbeats 8000000
set_option maxRecDepth 100000
set_option linter.all false
namespace Go.Proofs.YtnlaakmglhjjmaaGreatDoor
open Go.RowKit Cen
theorem zbj(n:Int)(a:Option Addr)(cap:Nat)(t:List Cl)(w:World)(hl:t.length<=1073741824)(hs:∀c∈t,c.length<=1073741824)(hx:LsCells w a t):
 Calls Tryz.prog 24 #[.agg #[.int .i64 n,.slice a t.length cap]] w fun e w'=>e=.returned (.int .i64 (chkT n t))/\Below w.heap.size w w':=by
 have hb0:Below w.heap.size w (w.alloc (.cells #[.int .i64 n,.slice a t.length cap] 26)):=ba _ _;have HB0:=lh hb0
 by_cases hn:n<0\/128<n
 ·have HR:Hid (chkT n t=6):=by show _=_;unfold chkT;rw[if_pos hn]
  clear hx hb0
  rcases hn with hn|hn
  ·go_enter Tryz.func24,Tryz.ntmps24;go_wp2;go_ret;exact⟨by rw[HR.o];rfl,HB0.o⟩
  have hn0:¬n<0:=by omega
  go_enter Tryz.func24,Tryz.ntmps24;go_wp2;go_ret;exact⟨by rw[HR.o];rfl,HB0.o⟩
 have hn0:0<=n:=by omega
 have hn1:n<=128:=by omega
 by_cases hlt:4096<t.length
 ·have HR:Hid (chkT n t=2):=by show _=_;unfold chkT;rw[if_neg hn,if_pos hlt]
  have hli:(4096:Int)<(t.length:Int):=by omega
  clear hx hb0 hn;go_enter Tryz.func24,Tryz.ntmps24;go_wp2;go_ret;exact⟨by rw[HR.o];rfl,HB0.o⟩
 have HR:Hid (chkT n t=zg0 n (t.drop 0)):=by show _=_;unfold chkT;rw[if_neg hn,if_neg hlt];rfl
 have hli:(t.length:Int)<=4096:=by omega
 have HX:=lh (hx.keep hb0);have HS:=lh hs;obtain⟨w0,hw0⟩:=nm (w.alloc (.cells #[.int .i64 n,.slice a t.length cap] 26));rw[<-hw0]at HX HB0
 have b0:w0.cell? ⟨w.heap.size,0,none⟩=some (.int .i64 n):=by rw[hw0,World.cell?_alloc_at _ _ _ _ rfl];rfl
 have b1:w0.cell? ⟨w.heap.size,1,none⟩=some (.slice a t.length cap):=by rw[hw0,World.cell?_alloc_at _ _ _ _ rfl];rfl
 clear hx hs hb0 hn;go_enter Tryz.func24,Tryz.ntmps24;go_wp2_with fail;rw[<-hw0];clear hw0;go_wp2_with fail
 go_loopw[22](fun i wr=>∃k:Nat,k<=t.length/\i=.int .i64 k/\wr=w0/\chkT n t=zg0 n (t.drop k))(fun i _=>t.length-(intOf i).toNat)
 case atStart=>exact⟨0,Nat.zero_le _,rfl,rfl,HR.o⟩
 obtain⟨k,hk,rfl,rfl,hch⟩:=hrel;have HC:=lh hch;clear hch
 by_cases hkt:k<t.length
 ·obtain⟨b,off,ai,ci,rfl,hc1,hi⟩:=HX.o k hkt;have HD:=lh (zr8 (n:=n) hkt);have hcl:=HS.o _ (by rw[List.getD_eq_getElem?_getD,List.getElem?_eq_getElem hkt];exact List.getElem_mem hkt:t.getD k []∈t)
  have hki:(k:Int)<(t.length:Int):=by omega
  have HI:=lh hi;clear hi;generalize t.getD k []=c at*
  by_cases h128:128<c.length
  ·have hci:(128:Int)<(c.length:Int):=by omega
   have HE:Hid (chkT n t=2):=by show _=_;rw[HC.o,HD.o,if_pos h128]
   go_wp2;go_ret;exact⟨by rw[HE.o];rfl,HB0.o⟩
  have hci:(c.length:Int)<=128:=by omega
  have HD2:Hid (chkT n t=if(c.all fun x=>zbn x n)=true then zg0 n (t.drop (k+1))else 1):=by show _=_;rw[HC.o,HD.o,if_neg h128]
  go_wp2_with fail
  go_loopw[31](fun i wi=>∃q:Nat,q<=c.length/\i=.int .i64 q/\wi=wr/\(c.all fun x=>zbn x n)=(c.drop q).all fun x=>zbn x n)(fun i _=>c.length-(intOf i).toNat)
  case atStart=>exact⟨0,Nat.zero_le _,rfl,rfl,rfl⟩
  obtain⟨q,hq,rfl,hwi,hal⟩:=hrel;obtain rfl:=hwi;have HA:=lh hal;clear hal
  by_cases hqc:q<c.length
  ·obtain⟨b2,off2,rfl,e0⟩:=HI.o q hqc
   have hqi:(q:Int)<(c.length:Int):=by omega
   have HDQ:Hid (((c.drop q).all fun x=>zbn x n)=(zbn (c.getD q 0) n&&(c.drop (q+1)).all fun x=>zbn x n)):=by
    show _=_;rw[List.drop_eq_getElem_cons hqc,List.all_cons];simp[List.getD_eq_getElem?_getD,hqc]
   generalize c.getD q 0=y at*
   cases hy:zbn y n with
   |true=>
     have HV:=lh (zcs y n wr);rw[hy]at HV
     have HN:Hid ((c.all fun x=>zbn x n)=(c.drop (q+1)).all fun x=>zbn x n):=by show _=_;rw[HA.o,HDQ.o,hy,Bool.true_and]
     clear hy;go_wp2_with fail;refine HV.o.mono ?_;rintro e w'⟨rfl,rfl⟩;go_wp2;go_roundw
     case rel=>exact⟨q+1,by omega,by go_num,by first|rfl|trivial,HN.o⟩
     case measure=>simp[intOf];omega
   |false=>
     have HV:=lh (zcs y n wr);rw[hy]at HV
     have HE:Hid (chkT n t=1):=by show _=_;rw[HD2.o,HA.o,HDQ.o,hy,Bool.false_and,if_neg (by simp)]
     clear hy;go_wp2_with fail;refine HV.o.mono ?_;rintro e w'⟨rfl,rfl⟩;go_wp2;go_ret;exact⟨by rw[HE.o];rfl,HB0.o⟩
  have hqe:q=c.length:=by omega
  subst hqe
  have HN:Hid (chkT n t=zg0 n (t.drop (k+1))):=by show _=_;rw[HD2.o,HA.o,List.drop_length];rfl
  go_wp2;go_roundw
  case rel=>exact⟨k+1,by omega,by go_num,by first|rfl|trivial,HN.o⟩
  case measure=>simp[intOf];omega
 have hke:k=t.length:=by omega
 subst hke
 have HE:Hid (chkT n t=0):=by show _=_;rw[HC.o,List.drop_length];rfl
 go_wp2;go_ret;exact⟨by rw[HE.o];rfl,HB0.o⟩
def zc3(n:Int)(t:List Cl)(order:List Int):Int:=
 if chkT n t≠0 then chkT n t else if 0<order.length/\((order.length:Int)≠n\/ofL order≠zbq n)then 1 else 0
theorem zl7(n:Int)(a:Option Addr)(cap:Nat)(t:List Cl)(oa:Option Addr)(oc:Nat)(order:List Int)(w:World)(hl:t.length<=1073741824)(hs:∀c∈t,c.length<=1073741824)(hx:LsCells w a t)(hol:order.length<=1073741824)(ho:IntCells w oa order):
 Calls Tryz.prog 60 #[.agg #[.int .i64 n,.slice a t.length cap],.slice oa order.length oc] w fun e w'=>e=.returned (.int .i64 (zc3 n t order))/\Below w.heap.size w w':=by
 have hb0:Below w.heap.size w (w.alloc (.cells #[.int .i64 n,.slice a t.length cap] 26)):=ba _ _;have HB0:=lh hb0;have HX:=lh hx;have HO:=lh ho;have HS:=lh hs;clear hb0 hx ho hs;go_enter Tryz.func60,Tryz.ntmps60;go_wp2_with fail;refine(zbj n a cap t _ hl HS.o (HX.o.keep HB0.o)).mono ?_;rintro e w1⟨rfl,hb1⟩;have HB1:=bt HB0 hb1;have c0:w1.cell? ⟨w.heap.size,0,none⟩=some (.int .i64 n):=zab hb1 (by rw[World.cell?_alloc_at _ _ _ _ rfl];rfl);have hs1:w.heap.size<w1.heap.size:=Nat.lt_of_lt_of_le (by simp) hb1.size;clear hb1 HB0;obtain⟨c,hc⟩:=nm (chkT n t);have HC:=lh hc
 rw[<-hc];clear hc
 by_cases hz:c=0
 ·subst hz
  have HF:Hid (zc3 n t order=if 0<order.length/\((order.length:Int)≠n\/ofL order≠zbq n)then 1 else 0):=by
   show _=_
   unfold zc3;rw[if_neg (by rw[<-HC.o];simp)]
  by_cases h0:order.length=0
  ·have hi0:¬(0:Int)<(order.length:Int):=by omega
   have HR:Hid (zc3 n t order=0):=by
    show _=_
    rw[HF.o,if_neg (by omega)]
   go_wp2_with fail
   go_quiet(fail)
   go_wp2;go_ret;exact⟨by rw[HR.o];rfl,HB1.o.trans (zal _ _)⟩
  have hi0:(0:Int)<(order.length:Int):=by omega
  have hp0:0<order.length:=by omega
  by_cases h1:(order.length:Int)=n
  ·have HCN:Hid (order.length<=1073741824):=hol
   have HR:Hid (zc3 n t order=if eqSt (ofL order) (zbq n)then 0 else 1):=by
    show _=_
    rw[HF.o]
    by_cases he:ofL order=zbq n
    ·rw[if_neg (by simp[he,h1]),if_pos (by simp[eqSt,he])]
    rw[if_pos ⟨hp0,.inr he⟩,if_neg (by simp[eqSt,he])]
   have HO1:=lh (HO.o.keep HB1.o)
   have HOF:Hid (∀W,IntCells W oa order->Calls Tryz.prog 72 #[.slice oa order.length oc] W fun e w'=>e=.returned (stv (ofL order))/\Below W.heap.size W w'):=fun W hW=>zoo oa oc order W HCN.o hW
   have HAL:Hid (∀W,Calls Tryz.prog 28 #[.int .i64 (order.length:Int)] W fun e w'=>e=.returned (stv (zbq n))/\Below W.heap.size W w'):=fun W=>by rw[h1];exact zlw n W
   subst h1;have hgd:=zfp;generalize ofL order=s1 at*;generalize zbq (order.length:Int)=s2 at*
   cases hcz:eqSt s1 s2
   all_goals
    have hn2:∀w:World,(binOp .neq 29 (.agg #[.int .u64 (s1.a:Int),.int .u64 (s1.b:Int)]) (.agg #[.int .u64 (s2.a:Int),.int .u64 (s2.b:Int)])).run Tryz.prog w=.ok (.bool !(eqSt s1 s2)) w:=fun w=>zjw _ _ w
    rw[hcz]at hn2 HR;clear hcz;go_wp2_with fail
    go_region_with(first
     |(go_at_call 72;refine(HOF.o _ (by first|exact HO1.o.keep (Below.refl _ _).drew|exact HO1.o.keep HB6.o)).mono ?_;rintro e5 w5⟨rfl,hb5⟩;have HB5:Hid (Below w1.heap.size w1 w5):=(by first|exact zci hb5|exact HB6.o.trans (hb5.mono HB6.o.size));have c5:=zab HB5.o c0)
     |(go_at_call 28;refine(HAL.o _).mono ?_;rintro e6 w6⟨rfl,hb6⟩;have HB6:Hid (Below w1.heap.size w1 w6):=(by first|exact zci hb6|exact HB5.o.trans (hb6.mono HB5.o.size));have c6:=zab HB6.o c0))
    all_goals
     go_wp2;go_ret;refine⟨by rw[HR.o];rfl,HB1.o.trans (Below.mono ?_ HB1.o.size)⟩
     first|exact HB5.o|exact HB6.o
  have HR:Hid (zc3 n t order=1):=by
   show _=_
   rw[HF.o,if_pos ⟨by omega,.inl h1⟩]
  have h1b:((order.length:Int)==n)=false:=by simpa using h1
  have h1d:decide ((order.length:Int)=n)=false:=by simpa using h1
  go_wp2_with fail
  go_quiet(fail)
  go_wp2;go_ret;exact⟨by rw[HR.o];rfl,HB1.o.trans (zal _ _)⟩
 have HR:Hid (zc3 n t order=c):=by
  show _=_
  unfold zc3;rw[<-HC.o,if_pos hz]
 go_wp2;go_ret;exact⟨by rw[HR.o];rfl,HB1.o⟩
theorem zr6(x y z:Value)(w:World):
 CallsD Tryz.prog 61 #[x,y,z] .returning w fun e u' w'=>e=.returned (.tuple #[])/\u'=.returning/\w'=w:=by
 refine callsD_of_wpS Tryz.func61 rfl fun c₀ cs hu=>?_
 apply wpS_seq
 apply wpS_region
 simp[wpOpsS,go_sem,recoverD,hu,Tryz.ntmps61,Exit.thenS]
 apply wpS_seq
 apply wpS_region
 simp[wpOpsS,go_sem,hu,Exit.thenS]
 refine wpS_cond (t:=false) (by simp[Act.eval]) ?_;simp only[Bool.false_eq_true,if_false];refine wpS_of_wp (wp_skip ?_)
 cases c₀
 simp_all[bodyPostS,results,Tryz.results61]
end Go.Proofs.YtnlaakmglhjjmaaGreatDoor
namespace Cen
def zcw(T:Cl):Cl->Int->Option Int
 |[],x=>some x
 |l::c,x=>if T.contains l then none else if T.contains (-l)||decide (l=x)then zcw T c x else if x=0 then zcw T c l else none
def zqg(T:Cl)(t:List Cl):Option Int:=t.findSome? fun c=>zcw T c 0
def zdj(t:List Cl):Nat->Cl->Cl×Bool
 |0,T=>(T,false)
 |f+1,T=>match zqg T t with
   |none=>(T,false)
   |some x=>if x=0 then(T,true)else zdj t f (T++[x])
structure gT(n:Nat)(T:Cl):Prop where
 rg:∀x∈T,litN n x
 nd:T.Pairwise fun a b=>zac a≠zac b
theorem ztq{u v:Int}(h:(if u<0 then-u else u)=(if v<0 then-v else v)):u=v\/u=-v:=by
 by_cases h1:u<0<;>by_cases h2:v<0
 ·rw[if_pos h1,if_pos h2]at h;exact .inl (by omega)
 ·rw[if_pos h1,if_neg h2]at h;exact .inr (by omega)
 ·rw[if_neg h1,if_pos h2]at h;exact .inr (by omega)
 rw[if_neg h1,if_neg h2]at h;exact .inl h
theorem gT.nil(n:Nat):gT n []:=⟨by simp,by simp⟩
theorem gT.snoc{n:Nat}{T:Cl}(h:gT n T){x:Int}(hx:litN n x)(hn:n<=128)(h1:x∉T)(h2:-x∉T):gT n (T++[x]):=by
 refine⟨fun y hy=>?_,?_⟩
 ·rcases List.mem_append.1 hy with hy|hy
  ·exact h.rg y hy
  simp at hy;subst hy;exact hx
 rw[List.pairwise_append];refine⟨h.nd,by simp,fun a ha b hb e=>?_⟩;simp at hb;subst hb;have hr:=h.rg a ha;rw[zam hr.1 (by have:=hr.2;omega) (by have:=hr.2;omega),zam hx.1 (by have:=hx.2;omega) (by have:=hx.2;omega)]at e;have:a=b\/a=-b:=ztq e
 rcases this with rfl|rfl
 ·exact h1 ha
 exact h2 ha
theorem gT.len{n:Nat}{T:Cl}(hn:n<=128)(h:gT n T):T.length<=n:=by
 have h1:=zb7 (l:=T.map fun x=>zac x-1) (b:=n) (by
  show List.Pairwise _ _
  rw[List.pairwise_map]
  exact h.nd.imp fun hab e=>hab (by omega)) (fun i hi=>by
  obtain⟨x,hx,rfl⟩:=List.mem_map.1 hi;have hr:=h.rg x hx;have h0:=hr.1;have h2:=hr.2;rw[zam hr.1 (by omega) (by omega)]
  split<;>omega)
 rwa[List.length_map]at h1
theorem gT.nt{n:Nat}{T:Cl}(hn:n<=128)(h:gT n T){x:Int}(hx:x∈T):-x∉T:=fun hy=>by
 have h0:=(h.rg x hx).1;have hv:=zbw x
 have key:∀{l:Cl},(l.Pairwise fun a b=>zac a≠zac b)->∀a∈l,∀b∈l,zac a=zac b->a=b:=by
  intro l hl
  induction l with
  |nil=>intro a ha;simp at ha
  |cons c l ih=>
    rw[List.pairwise_cons]at hl;intro a ha b hb e
    rcases List.mem_cons.1 ha with ea|ha'
    ·rcases List.mem_cons.1 hb with eb|hb'
     ·rw[ea,eb]
     subst ea;exact absurd e (hl.1 b hb')
    rcases List.mem_cons.1 hb with eb|hb'
    ·subst eb;exact absurd e.symm (hl.1 a ha')
    exact ih hl.2 a ha' b hb' e
 have:=key h.nd _ hy _ hx hv;omega
theorem gT.taut{n:Nat}{T:Cl}(hn:n<=128)(h:gT n T):taut T=false:=by
 cases e:Cen.taut T with
 |false=>rfl
 |true=>obtain⟨x,hx,hx'⟩:=zc5.1 e;exact absurd hx' (h.nt hn hx)
theorem zjq{T:Cl}:∀{c:Cl}{x y:Int},zcw T c x=some y->y=x\/(y∈c/\y∉T/\-y∉T)
 |[],x,y,h=>by simp[zcw]at h;exact .inl h.symm
 |l::c,x,y,h=>by
   rw[zcw]at h
   split at h
   ·simp at h
   rename_i h1
   split at h
   ·rcases zjq h with e|⟨a,b⟩
    ·exact .inl e
    exact .inr ⟨by simp[a],b⟩
   rename_i h2
   split at h
   ·rcases zjq h with e|⟨a,b⟩
    ·subst e;simp only[Bool.or_eq_true,decide_eq_true_eq,not_or,List.contains_iff_mem]at h1 h2;exact .inr ⟨by simp,h1,h2.1⟩
    exact .inr ⟨by simp[a],b⟩
   simp at h
theorem zoq{T:Cl}{t:List Cl}{x:Int}(h:zqg T t=some x)(h0:x≠0):(∃c∈t,x∈c)/\x∉T/\-x∉T:=by
 obtain⟨c,hc,hx⟩:=List.exists_of_findSome?_eq_some h
 rcases zjq hx with e|⟨a,b,d⟩
 ·exact absurd e h0
 exact⟨⟨c,hc,a⟩,b,d⟩
theorem zhb{n:Nat}(hn:n<=128){t:List Cl}(ht:∀c∈t,∀x∈c,litN n x):∀(f:Nat)(T:Cl),gT n T->gT n (zdj t f T).1
 |0,T,h=>h
 |f+1,T,h=>by
   rw[zdj]
   cases e:zqg T t with
   |none=>exact h
   |some x=>
     simp only
     by_cases h0:x=0
     ·rw[if_pos h0];exact h
     rw[if_neg h0];obtain⟨⟨c,hc,hx⟩,h1,h2⟩:=zoq e h0;exact zhb hn ht f _ (h.snoc (ht c hc x hx) hn h1 h2)
def zb2(n:Nat)(t:List Cl)(d:Int):Bool:=
 if(zdj t (n+1) []).2 then true
 else if(zdj t (n+1) []).1.contains (-d)then true
 else(zdj t (n+1) (if(zdj t (n+1) []).1.contains d then(zdj t (n+1) []).1 else(zdj t (n+1) []).1++[d])).2
def zap(l:List Cl)(v:Int):Nat:=l.flatten.countP fun y=>decide (zac y=v)
def zdd(probe:Bool)(n:Nat)(l:List Cl):Nat->Nat->Int->Int
 |0,_,b=>b
 |f+1,v,b=>
   if zap l v=0 then zdd probe n l f (v+1) b
   else if probe&&(zb2 n l v||zb2 n l (-(v:Int)))then v
   else if zap l b<zap l v then zdd probe n l f (v+1) v else zdd probe n l f (v+1) b
def chF(order:List Int)(probe:Bool)(n:Nat)(l:List Cl):Int:=
 match order.find? fun v=>decide (0<zap l v)with
 |some v=>v
 |none=>zdd probe n l (n+1) 0 0
theorem zlo{l:List Cl}{v:Int}:0<zap l v↔∃c∈l,∃y∈c,zac y=v:=by
 unfold zap;rw[List.countP_pos_iff]
 constructor
 ·rintro⟨y,hy,h⟩;obtain⟨c,hc,hyc⟩:=List.mem_flatten.1 hy;exact⟨c,hc,y,hyc,by simpa using h⟩
 rintro⟨c,hc,y,hy,h⟩;exact⟨y,List.mem_flatten.2 ⟨c,hc,hy⟩,by simpa using h⟩
theorem zf2{probe:Bool}{n:Nat}{l:List Cl}:∀(f v:Nat)(b:Int),(0<zap l b\/∃u:Nat,v<=u/\u<v+f/\0<zap l u)->0<zap l (zdd probe n l f v b)
 |0,v,b,h=>by
   rcases h with h|⟨u,h1,h2,_⟩
   ·exact h
   omega
 |f+1,v,b,h=>by
   rw[zdd]
   have skip:∀u:Nat,v<=u->u<v+(f+1)->0<zap l u->zap l v=0\/u=v->u≠v->v+1<=u/\u<v+1+f:=fun u h1 h2 _ _ h3=>by omega
   by_cases h0:zap l v=0
   ·rw[if_pos h0];refine zf2 f (v+1) b ?_
    rcases h with h|⟨u,h1,h2,h3⟩
    ·exact .inl h
    refine .inr ⟨u,?_,by omega,h3⟩
    rcases Nat.lt_or_ge v u with h4|h4
    ·exact h4
    have:u=v:=by omega
    subst this;omega
   rw[if_neg h0]
   split
   ·omega
   split
   ·exact zf2 f (v+1) v (.inl (by omega))
   rename_i h5
   exact zf2 f (v+1) b (.inl (by omega))
theorem yag{order:List Int}{probe:Bool}{n:Nat}(hn:n<=128){l:List Cl}(hg:∀c∈l,∀x∈c,litN n x)(hne:∃c∈l,c≠[]):0<zap l (chF order probe n l):=by
 unfold chF
 split
 ·rename_i v e
  have:=List.find?_some e
  simpa using this
 refine zf2 _ _ _ (.inr ?_);obtain⟨c,hc,h0⟩:=hne
 cases c with
 |nil=>exact absurd rfl h0
 |cons y c=>
   have hy:=hg _ hc y (by simp)
   have hv:zac y=((zac y).toNat:Nat)/\zac y<=n:=by
    rw[zam hy.1 (by have:=hy.2;omega) (by have:=hy.2;omega)];have:=hy.2
    split<;>omega
   exact⟨(zac y).toNat,by omega,by omega,zlo.2 ⟨_,hc,y,by simp,hv.1⟩⟩
theorem zlp{n:Nat}(hn:n<=128){l:List Cl}(hg:∀c∈l,∀x∈c,litN n x){v:Int}(h:0<zap l v):1<=v/\v<=n/\(zae l).mem v=true:=by
 obtain⟨c,hc,y,hy,rfl⟩:=zlo.1 h;have hr:=hg c hc y hy
 have hv:1<=zac y/\zac y<=n:=by
  rw[zam hr.1 (by have:=hr.2;omega) (by have:=hr.2;omega)];have:=hr.2;have:=hr.1
  split<;>omega
 exact⟨hv.1,hv.2,zbf.2 ⟨c,hc,zd3.2 ⟨hv.1,y,hy,rfl⟩⟩⟩
theorem zfm{order:List Int}{probe:Bool}{n:Nat}(hn:n<=128):Chooses (chF order probe n) n:=⟨fun l hg hne h2=>by
 have hr:∀c∈l,∀x∈c,litN n x:=fun c hc x hx=>(hg.gc c hc).rg x hx
 refine zlp hn hr (yag hn hr ?_)
 cases l with
 |nil=>exact absurd rfl hne
 |cons c l=>exact⟨c,by simp,fun e=>by have:=h2 c (by simp);rw[e]at this;simp at this⟩⟩
end Cen
namespace Go.Proofs.YtnlaakmglhjjmaaGreatDoor
open Go.RowKit Cen
def ixL(x:Int):Nat:=if x<0 then(-2*x+1).toNat else(2*x).toNat
theorem zfi{x:Int}(h1:-128<=x)(h2:x<=128):ixL x<258:=by unfold ixL;split<;>omega
theorem yba{x y:Int}(hx:x≠0)(hy:y≠0)(h:ixL x=ixL y):x=y:=by
 unfold ixL at h
 by_cases h1:x<0<;>by_cases h2:y<0
 ·rw[if_pos h1,if_pos h2]at h;omega
 ·rw[if_pos h1,if_neg h2]at h;omega
 ·rw[if_neg h1,if_pos h2]at h;omega
 rw[if_neg h1,if_neg h2]at h;omega
theorem zhj(x:Int)(h1:-128<=x)(h2:x<=128)(w:World):Calls Tryz.prog 201 #[.int .i64 x] w fun e w'=>e=.returned (.int .i64 (ixL x))/\w=w':=by
 by_cases h:x<0
 ·have HR:Hid (-2*x+1=(ixL x:Int)):=by show _=_;unfold ixL;rw[if_pos h];omega
  go_enter Tryz.func201,Tryz.ntmps201;go_wp2;go_ret;exact⟨congrArg (fun v=>Ending.returned (Value.int .i64 v)) HR.o,rfl⟩
 have HR:Hid (2*x=(ixL x:Int)):=by show _=_;unfold ixL;rw[if_neg h];omega
 go_enter Tryz.func201,Tryz.ntmps201;go_wp2;go_ret;exact⟨congrArg (fun v=>Ending.returned (Value.int .i64 v)) HR.o,rfl⟩
structure TAt(w:World)(s:Nat)(n:Int)(a:Option Addr)(tl cap:Nat)(lv:Value)(T:Cl)(cs:Array Value):Prop where
 blk:Blk w s cs 253
 sz:cs.size=261
 c0:cs[0]?=some (.int .i64 n)
 c1:cs[1]?=some (.slice a tl cap)
 c2:cs[2]?=some lv
 tr:∀x:Int,x≠0->-128<=x->x<=128->cs[3+ixL x]?=some (.bool (T.contains x))
theorem TAt.cell{w:World}{s:Nat}{n:Int}{a:Option Addr}{tl cap:Nat}{lv:Value}{T:Cl}{cs:Array Value}(h:TAt w s n a tl cap lv T cs){x:Int}(h0:x≠0)(h1:-128<=x)(h2:x<=128):w.cell? ⟨s,3+ixL x,none⟩=some (.bool (T.contains x)):=by
 rw[h.blk.cell];exact h.tr x h0 h1 h2
theorem TAt.later{w w':World}{s:Nat}{n:Int}{a:Option Addr}{tl cap:Nat}{lv:Value}{T:Cl}{cs:Array Value}(h:TAt w s n a tl cap lv T cs)(hb:Below w.heap.size w w'):TAt w' s n a tl cap lv T cs:=
 ⟨h.blk.later hb,h.sz,h.c0,h.c1,h.c2,h.tr⟩
section
variable{l x:Int}{q s:Nat}{T:Cl}{w:World}{n:Int}{a:Option Addr}{tl cap:Nat}{lv:Value}{cs:Array Value}
theorem zyl(hs:TAt w s n a tl cap lv T cs)(h0:w.cell? ⟨q,0,none⟩=some (.pointer (some ⟨s,0,none⟩)))(hl:l≠0)(hl1:-128<=l)(hl2:l<=128)(ht:T.contains l=true):
 Calls Tryz.prog 210 #[.int .i64 l,.pointer (some ⟨q,0,none⟩),.pointer (some ⟨q+1,0,none⟩),.pointer (some ⟨q+2,0,none⟩)] w fun e w'=>e=.returned (.bool false)/\∃m,w'=w.drewN m:=by
 have c:=hs.cell hl hl1 hl2;rw[ht]at c;have HA:=lh (zhj l hl1 hl2);have hix:=zfi hl1 hl2
 have hixi:(ixL l:Int)<258:=by omega
 generalize ixL l=i at*;clear hs ht;go_enter Tryz.func210,Tryz.ntmps210;go_wp2_with fail
 go_quiet(exact Calls.quiet_of_same ((HA.o _).mono fun _ _ hh=>⟨hh.1,hh.2.symm⟩))
 go_wp2;go_ret;exact⟨rfl,_,rfl⟩
theorem zyk(hs:TAt w s n a tl cap lv T cs)(h0:w.cell? ⟨q,0,none⟩=some (.pointer (some ⟨s,0,none⟩)))(h1:w.cell? ⟨q+1,0,none⟩=some (.int .i64 x))(hl:l≠0)(hl1:-128<=l)(hl2:l<=128)(ht:T.contains l=false)(hk:T.contains (-l)=true\/l=x):
 Calls Tryz.prog 210 #[.int .i64 l,.pointer (some ⟨q,0,none⟩),.pointer (some ⟨q+1,0,none⟩),.pointer (some ⟨q+2,0,none⟩)] w fun e w'=>e=.returned (.bool true)/\∃m,w'=w.drewN m:=by
 have c:=hs.cell hl hl1 hl2;rw[ht]at c;have d:=hs.cell (x:=-l) (by omega) (by omega) (by omega);have HA:=lh (zhj l hl1 hl2);have HC:=lh (zhj (-l) (by omega) (by omega));have hix:=zfi hl1 hl2
 have hixi:(ixL l:Int)<258:=by omega
 have hjx:=zfi (x:=-l) (by omega) (by omega)
 have hjxi:(ixL (-l):Int)<258:=by omega
 generalize ixL l=i at*;generalize ixL (-l)=j at*;clear hs ht
 cases hn:T.contains (-l)with
 |true=>
   rw[hn]at d;clear hn hk;go_enter Tryz.func210,Tryz.ntmps210;go_wp2_with fail
   go_quiet(exact Calls.quiet_of_same ((HA.o _).mono fun _ _ hh=>⟨hh.1,hh.2.symm⟩))
   go_wp2_with fail
   go_quiet(exact(HC.o _).mono fun _ _ hh=>⟨hh.1,_,hh.2.symm⟩)
   go_wp2;go_ret;exact⟨rfl,_,World.drewN_drewN _ _ _⟩
 |false=>
   rw[hn]at d hk
   have hlx:l=x:=by simpa using hk
   subst hlx;clear hn hk;go_enter Tryz.func210,Tryz.ntmps210;go_wp2_with fail
   go_quiet(exact Calls.quiet_of_same ((HA.o _).mono fun _ _ hh=>⟨hh.1,hh.2.symm⟩))
   go_wp2_with fail
   go_quiet(exact(HC.o _).mono fun _ _ hh=>⟨hh.1,_,hh.2.symm⟩)
   go_wp2;go_ret;exact⟨rfl,_,World.drewN_drewN _ _ _⟩
theorem ybo(hs:TAt w s n a tl cap lv T cs)(h0:w.cell? ⟨q,0,none⟩=some (.pointer (some ⟨s,0,none⟩)))(hb1:Blk w (q+1) #[.int .i64 x] 3)(hb2:Blk w (q+2) #[.bool true] 4)(hl:l≠0)(hl1:-128<=l)(hl2:l<=128)(ht:T.contains l=false)(hk:T.contains (-l)=false)(hx:l≠x):
 Calls Tryz.prog 210 #[.int .i64 l,.pointer (some ⟨q,0,none⟩),.pointer (some ⟨q+1,0,none⟩),.pointer (some ⟨q+2,0,none⟩)] w fun e w'=>e=.returned (.bool (decide (x=0)))/\∃m,w'=((w.drewN m).setCell ⟨q+2,0,none⟩ (.bool (decide (x=0)))).setCell ⟨q+1,0,none⟩ (.int .i64 l):=by
 have c:=hs.cell hl hl1 hl2;rw[ht]at c;have d:=hs.cell (x:=-l) (by omega) (by omega) (by omega);rw[hk]at d;have h1:w.cell? ⟨q+1,0,none⟩=some (.int .i64 x):=hb1.cell 0;have h2:w.cell? ⟨q+2,0,none⟩=some (.bool true):=hb2.cell 0;have f1:=hb1.fr 0;have f2:=hb2.fr 0;have HA:=lh (zhj l hl1 hl2);have HC:=lh (zhj (-l) (by omega) (by omega));have hix:=zfi hl1 hl2
 have hixi:(ixL l:Int)<258:=by omega
 have hjx:=zfi (x:=-l) (by omega) (by omega)
 have hjxi:(ixL (-l):Int)<258:=by omega
 have hlx:decide (l=x)=false:=by simp[hx]
 have hlx':(l==x)=false:=by simp[hx]
 generalize ixL l=i at*;generalize ixL (-l)=j at*;clear hs ht hk hb1 hb2
 by_cases hz:x=0
 ·have hzd:decide (x=0)=true:=by simp[hz]
  have hze:(x==0)=true:=by simp[hz]
  go_enter Tryz.func210,Tryz.ntmps210;go_wp2_with fail
  go_quiet(exact Calls.quiet_of_same ((HA.o _).mono fun _ _ hh=>⟨hh.1,hh.2.symm⟩))
  go_wp2_with fail
  go_quiet(exact(HC.o _).mono fun _ _ hh=>⟨hh.1,_,hh.2.symm⟩)
  go_wp2;go_ret;refine⟨zbg hzd.symm,?_⟩;rw[hzd];exact⟨_,rfl⟩
 have hzd:decide (x=0)=false:=by simp[hz]
 have hze:(x==0)=false:=by simp[hz]
 go_enter Tryz.func210,Tryz.ntmps210;go_wp2_with fail
 go_quiet(exact Calls.quiet_of_same ((HA.o _).mono fun _ _ hh=>⟨hh.1,hh.2.symm⟩))
 go_wp2_with fail
 go_quiet(exact(HC.o _).mono fun _ _ hh=>⟨hh.1,_,hh.2.symm⟩)
 go_wp2;go_ret;refine⟨zbg hzd.symm,?_⟩;rw[hzd];exact⟨_,rfl⟩
end
def zx7(r:Option Int):Value:=match r with
 |none=>.tuple #[.int .i64 0,.bool false]
 |some y=>.tuple #[.int .i64 y,.bool true]
def seeF(T:Cl)(x l:Int):Option Int:=if T.contains l then none else if T.contains (-l)||decide (l=x)then some x else if x=0 then some l else none
theorem zsx(T:Cl)(l:Int)(c:Cl)(x:Int):zcw T (l::c) x=match seeF T x l with|none=>none|some y=>zcw T c y:=by
 rw[zcw,seeF]
 (repeat' split)<;>simp_all
section
variable{l x:Int}{q s q1 q2:Nat}{T:Cl}{w:World}{n:Int}{a:Option Addr}{tl cap:Nat}{lv:Value}{cs:Array Value}
theorem ybn(hs:TAt w s n a tl cap lv T cs)(e1:q1=q+1)(e2:q2=q+2)(h0:w.cell? ⟨q,0,none⟩=some (.pointer (some ⟨s,0,none⟩)))(hb1:Blk w q1 #[.int .i64 x] 3)(hb2:Blk w q2 #[.bool true] 4)(hl:l≠0)(hl1:-128<=l)(hl2:l<=128):
 Calls Tryz.prog 210 #[.int .i64 l,.pointer (some ⟨q,0,none⟩),.pointer (some ⟨q1,0,none⟩),.pointer (some ⟨q2,0,none⟩)] w fun e w'=>e=.returned (.bool (seeF T x l).isSome)/\Kp (fun k=>k=q1\/k=q2) w w'/\(∃y,Blk w' q1 #[.int .i64 y] 3)/\∀y,seeF T x l=some y->Blk w' q1 #[.int .i64 y] 3/\Blk w' q2 #[.bool true] 4:=by
 subst e1;subst e2
 have hd:∀{w:World}{b:Nat}{cs:Array Value}{t:TypeId}(m:Nat),Blk w b cs t->Blk (w.drewN m) b cs t:=fun m h=>h
 have hk1:w.cell? ⟨q+1,0,none⟩=some (.int .i64 x):=hb1.cell 0
 cases ht:T.contains l with
 |true=>
   refine(zyl hs h0 hl hl1 hl2 ht).mono ?_;rintro e w'⟨rfl,m,rfl⟩
   have hF:seeF T x l=none:=by unfold seeF;rw[ht];rfl
   rw[hF];exact⟨rfl,Kp.below (zal _ _),⟨x,hb1⟩,fun y h=>by simp at h⟩
 |false=>
   cases hk:T.contains (-l)||decide (l=x)with
   |true=>
     refine(zyk hs h0 hk1 hl hl1 hl2 ht (by simpa using hk)).mono ?_;rintro e w'⟨rfl,m,rfl⟩
     have hF:seeF T x l=some x:=by unfold seeF;rw[ht,hk];rfl
     rw[hF];exact⟨rfl,Kp.below (zal _ _),⟨x,hb1⟩,fun y h=>by simp at h;subst h;exact⟨hb1,hb2⟩⟩
   |false=>
     simp only[Bool.or_eq_false_iff,decide_eq_false_iff_not]at hk;refine(ybo hs h0 hb1 hb2 hl hl1 hl2 ht hk.1 hk.2).mono ?_;rintro e w'⟨rfl,m,rfl⟩
     have hF:seeF T x l=if x=0 then some l else none:=by unfold seeF;rw[ht,hk.1];simp[hk.2]
     rw[hF];refine⟨by by_cases hx:x=0<;>simp[hx],?_,⟨l,?_⟩,fun y h=>?_⟩
     ·exact(Kp.below (M:=fun k=>k=q+1\/k=q+2) (zal w m)).trans ((Kp.setCell _ _ _ (.inr rfl)).trans (Kp.setCell _ _ _ (.inl rfl)))
     ·exact(Blk.other (b:=q+1) (hd m hb1) ⟨q+2,0,none⟩ _ (by simp only;omega)).set 0 _
     by_cases hx:x=0
     ·rw[if_pos hx]at h;simp at h;subst h
      have hz:decide (x=0)=true:=by simp[hx]
      rw[hz];exact⟨(Blk.other (b:=q+1) (hd m hb1) ⟨q+2,0,none⟩ _ (by simp only;omega)).set 0 _,((hd m hb2).set 0 (.bool true)).other _ _ (by simp only;omega)⟩
     rw[if_neg hx]at h;simp at h
end
theorem zx8(s:Nat)(n:Int)(a:Option Addr)(tl cap:Nat)(lv:Value)(T:Cl)(cs:Array Value)(ac:Option Addr)(cc:Nat)(c:Cl)(w:World)(hs:TAt w s n a tl cap lv T cs)(hic:IntCells w ac c)(hl:c.length<=1073741824)(hc:∀x∈c,x≠0/\-128<=x/\x<=128):
 Calls Tryz.prog 208 #[.pointer (some ⟨s,0,none⟩),.slice ac c.length cc] w fun e w'=>e=.returned (zx7 (zcw T c 0))/\Below w.heap.size w w':=by
 obtain⟨w0,hw0⟩:=nm (((w.alloc (.cells #[.pointer (some ⟨s,0,none⟩)] 250)).alloc (.cells #[.int .i64 0] 3)).alloc (.cells #[.bool true] 4))
 have hb0:Below w.heap.size w w0:=by rw[hw0];exact((ba _ _).alloc (by simp) _).alloc (by simp;omega) _
 have hs0:w0.heap.size=w.heap.size+3:=by rw[hw0];simp
 have q0:Blk w0 w.heap.size #[.pointer (some ⟨s,0,none⟩)] 250:=by rw[hw0];exact((Blk.new w _ _).alloc _).alloc _
 have q1:Blk w0 (w.heap.size+1) #[.int .i64 0] 3:=by rw[hw0];exact(Blk.new' _ (by simp) _ _).alloc _
 have q2:Blk w0 (w.heap.size+1+1) #[.bool true] 4:=by rw[hw0];exact Blk.new' _ (by simp) _ _
 have HIN:Hid (∃x:Int,Below w.heap.size w w0/\Blk w0 w.heap.size #[.pointer (some ⟨s,0,none⟩)] 250/\Blk w0 (w.heap.size+1) #[.int .i64 x] 3/\Blk w0 (w.heap.size+1+1) #[.bool true] 4/\zcw T c 0=zcw T (c.drop 0) x):=⟨0,hb0,q0,q1,q2,rfl⟩
 have HS:=lh hs;have HIC:=lh hic;have HC:=lh hc;clear hs hic hc hb0 q0 q1 q2;go_enter Tryz.func208,Tryz.ntmps208;go_wp2_with fail;rw[<-hw0];clear hw0
 go_loopw[13](fun i wr=>∃k:Nat,k<=c.length/\i=.int .i64 k/\∃x:Int,Below w.heap.size w wr/\Blk wr w.heap.size #[.pointer (some ⟨s,0,none⟩)] 250/\Blk wr (w.heap.size+1) #[.int .i64 x] 3/\Blk wr (w.heap.size+1+1) #[.bool true] 4/\zcw T c 0=zcw T (c.drop k) x)(fun i _=>c.length-(intOf i).toNat)
 case atStart=>exact⟨0,Nat.zero_le _,rfl,HIN.o⟩
 obtain⟨k,hk,rfl,x,hb,q0,q1,q2,ho⟩:=hrel;have HO:=lh ho;have HB:=lh hb;have k0:=q0.cell 0;have Q0:=lh q0;have Q1:=lh q1;have Q2:=lh q2;clear ho
 by_cases hlt:k<c.length
 ·obtain⟨b,off,rfl,c2⟩:=HIC.o.keep hb k hlt;obtain⟨hy0,hy1,hy2⟩:=HC.o (c.getD k 0) (by rw[List.getD_eq_getElem?_getD,List.getElem?_eq_getElem hlt];exact List.getElem_mem hlt)
  have hdr:c.drop k=c.getD k 0::c.drop (k+1):=by rw[List.drop_eq_getElem_cons hlt];simp[List.getD_eq_getElem?_getD,hlt]
  have HST:=lh (zsx T (c.getD k 0) (c.drop (k+1)) x);have HDR:=lh hdr
  have hki:(k:Int)<(c.length:Int):=by omega
  generalize c.getD k 0=y at*;have hsee:=ybn (T:=T) (l:=y) (x:=x) (HS.o.later hb) (q:=w.heap.size) (q1:=w.heap.size+1) (q2:=w.heap.size+1+1) rfl rfl k0 q1 q2 hy0 hy1 hy2;have HSEE:=lh hsee;clear hsee q0 q1 q2 hb hdr hy0 hy1 hy2
  cases hsF:seeF T x y with
  |none=>
    have HE:Hid (zcw T c 0=none):=by show _=_;rw[HO.o,HDR.o,HST.o,hsF]
    rw[hsF]at HSEE;clear hsF;go_wp2_with fail;refine HSEE.o.mono ?_;rintro e w2⟨rfl,hk2,⟨z,hz⟩,_⟩;have HZ:=lh hz;have HK2:=lh hk2;have m0:=hz.cell 0;have m1:=hz.fr 0;have m2:=hz.lt;clear hk2 hz;go_wp2;have hz':=HZ.o.set 0 (.int .i64 0);have r0:=hz'.cell 0;have hb2:Below w.heap.size w w2:=HB.o.trans (Kp.toBelow HK2.o HB.o.size fun k hk e=>by omega);refine bodyPost_ret (v:=.tuple #[.int .i64 0,.bool false]) (by simp[results,Tryz.results208,Tryz.func208,go_sem,r0]) rfl ⟨by rw[HE.o];rfl,hb2.setCell (by simp only;omega) _⟩
  |some x'=>
    have HE:Hid (zcw T c 0=zcw T (c.drop (k+1)) x'):=by show _=_;rw[HO.o,HDR.o,HST.o,hsF]
    rw[hsF]at HSEE;clear hsF;go_wp2_with fail;refine HSEE.o.mono ?_;rintro e w2⟨rfl,hk2,_,hz⟩;obtain⟨hz1,hz2⟩:=hz x' rfl
    have HR:Hid (∃x:Int,Below w.heap.size w w2/\Blk w2 w.heap.size #[.pointer (some ⟨s,0,none⟩)] 250/\Blk w2 (w.heap.size+1) #[.int .i64 x] 3/\Blk w2 (w.heap.size+1+1) #[.bool true] 4/\zcw T c 0=zcw T (c.drop (k+1)) x):=
     ⟨x',HB.o.trans (Kp.toBelow hk2 HB.o.size fun k hk e=>by omega),Q0.o.kept hk2 (by omega),hz1,hz2,HE.o⟩
    clear hk2 hz hz1 hz2;go_wp2;go_roundw
    case rel=>exact⟨k+1,by omega,by go_num,HR.o⟩
    case measure=>simp[intOf];omega
 have hke:k=c.length:=by omega
 subst hke
 have HE:Hid (zcw T c 0=some x):=by show _=_;rw[HO.o,List.drop_length];rfl
 have m0:=Q1.o.cell 0;have m1:=Q1.o.fr 0;have m2:=Q1.o.lt;have m3:=Q2.o.cell 0;clear q0 q1 q2 hb;go_wp2;go_region
 all_goals
  go_wp2;have hz':=Q1.o.set 0 (.int .i64 x);have r0:=hz'.cell 0;refine bodyPost_ret (v:=.tuple #[.int .i64 x,.bool true]) (by simp[results,Tryz.results208,Tryz.func208,go_sem,r0]) rfl ⟨by rw[HE.o];rfl,HB.o.drew.setCell (by simp only;omega) _⟩
structure Stp where
 l:Int
 from':Int
 lev:Int
def stp(e:Stp):List Value:=[.int .i64 e.l,.int .i64 e.from',.int .i64 e.lev]
theorem zqh(e:Stp):(stp e).length=3:=rfl
theorem yav:Elem 237 241 3 24 (.agg #[.int .i64 0,.int .i64 0,.int .i64 0]):=.mk Tryz.underlying237 (by kernel_rfl) rfl (by decide)
structure TS(w:World)(s:Nat)(n:Int)(a:Option Addr)(tl cap base:Nat)(lv:Value)(S:List Stp):Prop where
 at':∃cs,TAt w s n a tl cap lv (S.map fun e=>e.l) cs
 own:OwnL stp 241 3 w base lv S
 ne:lv.ownBlock≠some s
section
variable{w w':World}{s:Nat}{n:Int}{a:Option Addr}{tl cap base:Nat}{lv:Value}{S:List Stp}
theorem TS.later(h:TS w s n a tl cap base lv S)(hb:Below w.heap.size w w'):TS w' s n a tl cap base lv S:=
 ⟨let⟨cs,h1⟩:=h.at';⟨cs,h1.later hb⟩,h.own.later hb,h.ne⟩
theorem TAt.put{T:Cl}{cs:Array Value}{lv':Value}{w'':World}{l:Int}(h:TAt w s n a tl cap lv T cs)(hl:l≠0)(h1:-128<=l)(h2:l<=128)(hb:Blk w'' s ((cs.setIfInBounds 2 lv').setIfInBounds (3+ixL l) (.bool true)) 253):
 TAt w'' s n a tl cap lv' (T++[l]) ((cs.setIfInBounds 2 lv').setIfInBounds (3+ixL l) (.bool true)):=by
 have hsz:=h.sz;have hi:=zfi h1 h2;refine⟨hb,by simp[hsz],?_,?_,?_,fun x hx hx1 hx2=>?_⟩
 ·rw[Array.getElem?_setIfInBounds_ne (by omega),Array.getElem?_setIfInBounds_ne (by omega)];exact h.c0
 ·rw[Array.getElem?_setIfInBounds_ne (by omega),Array.getElem?_setIfInBounds_ne (by omega)];exact h.c1
 ·rw[Array.getElem?_setIfInBounds_ne (by omega),Array.getElem?_setIfInBounds_self_of_lt (by omega)]
 by_cases e:x=l
 ·subst e;rw[Array.getElem?_setIfInBounds_self_of_lt (by simp;omega)]
  simp
 have hne:ixL x≠ixL l:=fun e'=>e (yba hx hl e')
 rw[Array.getElem?_setIfInBounds_ne (by omega),Array.getElem?_setIfInBounds_ne (by omega),h.tr x hx hx1 hx2]
 simp[e]
end
theorem zqo(w:World)(s:Nat)(n:Int)(a:Option Addr)(tl cap base:Nat)(lv:Value)(S:List Stp)(e:Stp)(h:TS w s n a tl cap base lv S)(hl:e.l≠0)(h1:-128<=e.l)(h2:e.l<=128)(hS:S.length<=1073741824)(hbs:base<=w.heap.size):
 Calls Tryz.prog 202 #[.pointer (some ⟨s,0,none⟩),.agg #[.int .i64 e.l,.int .i64 e.from',.int .i64 e.lev]] w fun r w'=>r=.returned (.tuple #[])/\∃lv',TS w' s n a tl cap base lv' (S++[e])/\Kp (fun k=>k=s\/lv.ownBlock=some k) w w'/\∀k,lv'.ownBlock=some k->lv.ownBlock=some k\/w.heap.size<=k:=by
 obtain⟨cs,hat⟩:=h.at';obtain⟨na,nc,rfl⟩:=h.own.sliced;have hsl:s<w.heap.size:=hat.blk.lt;obtain⟨w0,hw0⟩:=nm (w.alloc (.cells #[.int .i64 e.l,.int .i64 e.from',.int .i64 e.lev] 241))
 have hb0:Below w.heap.size w w0:=by rw[hw0];exact ba _ _
 have hx0:Blk w0 w.heap.size #[.int .i64 e.l,.int .i64 e.from',.int .i64 e.lev] 241:=by rw[hw0];exact Blk.new w _ _
 have hs0:w0.heap.size=w.heap.size+1:=by rw[hw0];simp
 have hbk:=hat.blk.later hb0
 have k2:w0.cell? ⟨s,2,none⟩=some (.slice na S.length nc):=by rw[hbk.cell];exact hat.c2
 have j0:w0.cell? ⟨w.heap.size,0,none⟩=some (.int .i64 e.l):=hx0.cell 0;have j1:w0.cell? ⟨w.heap.size,1,none⟩=some (.int .i64 e.from'):=hx0.cell 1;have j2:w0.cell? ⟨w.heap.size,2,none⟩=some (.int .i64 e.lev):=hx0.cell 2;have HAT:=lh hat;have HNE:=lh h.ne;have HBK:=lh hbk;have HX0:=lh hx0;have HB0:=lh hb0;have HS0:=lh hs0;have HRW:Hid (OwnL stp 241 3 w0 base (.slice na S.length nc) S):=h.own.later hb0
 have HNW:Hid (∀j u,(stp e)[j]?=some u->(w0.alloc (.cells #[.int .i64 e.l,.int .i64 e.from',.int .i64 e.lev] 241)).cell? ⟨w0.heap.size,j,none⟩=some u):=fun j u h=>by
  rw[World.cell?_alloc_at _ _ _ _ rfl];simpa[stp]using h
 have HON:Hid (∀u∈stp e,u.oneCell'=true):=by intro u hu;simp[stp]at hu;rcases hu with rfl|rfl|rfl<;>rfl
 have HLL:=lh hS
 have HN1:Hid (∀k,(Value.slice na S.length nc).ownBlock=some k->k<w.heap.size):=fun k hk=>(World.ownsRow.lt h.own k hk).2
 have HZB:Hid (base<=w0.heap.size):=by show _<=_;omega
 have hsz0:s<w0.heap.size:=by omega
 have hwz0:w.heap.size<w0.heap.size:=by omega
 have hsw:¬(w.heap.size=s):=by omega
 have HA:=lh (zhj e.l h1 h2);have hix:=zfi h1 h2
 have hixi:(ixL e.l:Int)<258:=by omega
 have HI:Hid (∃i,ixL e.l=i):=⟨_,rfl⟩
 clear hat h hb0 hx0 hs0 hbk hS hbs;go_enter Tryz.func202,Tryz.ntmps202;go_wp2_with fail;rw[<-hw0];clear hw0;go_wp2_with fail
 go_region_law(first|(refine zd1 yav rfl _ _ rfl base (.slice na S.length nc) S e rfl (HRW.o.alloc _).drew w0.heap.size rfl rfl HNW.o HON.o HLL.o (by decide) (Nat.le_trans HZB.o (by simp[World.drew])) ?_;intro g3 cap3 w3 ho3 hg3 hl3;have hk3:=Kp.grown (M:=fun k=>(Value.slice na S.length nc).ownBlock=some k) hg3 (fun k hk=>hk);have hb3:Blk w3 s cs 253:=Blk.kept (by exact HBK.o.alloc _) hk3 HNE.o;have m1:=hb3.fr 2;have m3:w3.cell? ⟨s,2,none⟩=some (.slice na S.length nc):=(by rw[hb3.cell];exact HAT.o.c2)))
 all_goals
  have HG3:Hid (w0.grownBy w3 (Value.slice na S.length nc).ownBlock):=by first|exact zcb hg3|exact zb6 hg3
  have HO3:=lh ho3;have HL3:Hid ((Value.slice na S.length nc).ownBlock=some g3\/w0.heap.size<=g3):=hl3.imp id (fun h=>by rw[h];simp)
  have hkg:Kp (fun k=>(Value.slice na S.length nc).ownBlock=some k) w0 w3:=Kp.grown HG3.o fun k hk=>hk
  have hks:Kp (fun k=>k=s) w3 (w3.setCell ⟨s,2,none⟩ (.slice (some ⟨g3,0,none⟩) (S.length+1) cap3)):=Kp.setCell _ _ _ rfl;have HB3:Hid (Blk (w3.setCell ⟨s,2,none⟩ (.slice (some ⟨g3,0,none⟩) (S.length+1) cap3)) s (cs.setIfInBounds 2 (.slice (some ⟨g3,0,none⟩) (S.length+1) cap3)) 253):=hb3.set 2 _
  have HX3:Hid (Blk (w3.setCell ⟨s,2,none⟩ (.slice (some ⟨g3,0,none⟩) (S.length+1) cap3)) w.heap.size #[.int .i64 e.l,.int .i64 e.from',.int .i64 e.lev] 241):=(HX0.o.kept hkg fun e=>by have:=HN1.o _ e;omega).kept hks fun e=>by omega
  have HKG:=lh hkg;clear hg3 ho3 hl3 hk3 hb3 m1 m3 hkg hks;obtain⟨W3,hW3⟩:=nm (w3.setCell ⟨s,2,none⟩ (.slice (some ⟨g3,0,none⟩) (S.length+1) cap3));rw[<-hW3]at HB3 HX3;rw[<-hW3];have HW3:=lh hW3;clear hW3;have i0:W3.cell? ⟨w.heap.size,0,none⟩=some (.int .i64 e.l):=HX3.o.cell 0;have i1:=HB3.o.fr (3+ixL e.l)
  have i2:W3.cell? ⟨s,3+ixL e.l,none⟩=some (.bool ((S.map fun e=>e.l).contains e.l)):=by
   rw[HB3.o.cell,Array.getElem?_setIfInBounds_ne (by omega)];exact HAT.o.tr e.l hl h1 h2
  have hs3:s<W3.heap.size:=HB3.o.lt;have hw3:w.heap.size<W3.heap.size:=HX3.o.lt
  have HFIN:Hid (TAt (W3.setCell ⟨s,3+ixL e.l,none⟩ (.bool true)) s n a tl cap (.slice (some ⟨g3,0,none⟩) (S.length+1) cap3) ((S.map fun e=>e.l)++[e.l]) ((cs.setIfInBounds 2 (.slice (some ⟨g3,0,none⟩) (S.length+1) cap3)).setIfInBounds (3+ixL e.l) (.bool true))):=
   HAT.o.put hl h1 h2 (HB3.o.set _ _)
  have HXI:Hid (∃i,i=ixL e.l):=⟨_,rfl⟩
  have hgs:g3≠s:=fun e'=>by
   rcases HL3.o with h|h
   ·exact HNE.o (by rw[h,e'])
   omega
  have HGS:=lh hgs
  have HKE:Hid (∃lv',TS (W3.setCell ⟨s,3+ixL e.l,none⟩ (.bool true)) s n a tl cap base lv' (S++[e])/\Kp (fun k=>k=s\/(Value.slice na S.length nc).ownBlock=some k) w (W3.setCell ⟨s,3+ixL e.l,none⟩ (.bool true))/\∀k,lv'.ownBlock=some k->(Value.slice na S.length nc).ownBlock=some k\/w.heap.size<=k):=by
   have hk4:Kp (fun k=>k=s) w3 (W3.setCell ⟨s,3+ixL e.l,none⟩ (.bool true)):=by
    rw[HW3.o];exact(Kp.setCell (M:=fun k=>k=s) _ _ _ rfl).trans (Kp.setCell (M:=fun k=>k=s) _ _ _ rfl)
   refine⟨.slice (some ⟨g3,0,none⟩) (S.length+1) cap3,⟨⟨_,by rw[List.map_append];exact HFIN.o⟩,HO3.o.kept hk4 fun k hk e'=>?_,fun e'=>?_⟩,((Kp.below HB0.o).trans (HKG.o.mono fun k _ hk=>.inr hk)).trans (hk4.mono fun k _ hk=>.inl hk),fun k hk=>?_⟩
   ·have:g3=k:=by simpa[Value.ownBlock]using hk
    exact HGS.o (this.trans e')
   ·have:g3=s:=by simpa[Value.ownBlock]using e'
    exact HGS.o this
   have:g3=k:=by simpa[Value.ownBlock]using hk
   subst this
   exact HL3.o.imp id fun h=>by omega
  clear hgs;generalize ixL e.l=i at*;go_wp2_with fail
  go_region_with(go_at_call 201;refine(HA.o _).mono ?_;rintro e5 w5⟨rfl,rfl⟩)
  all_goals
   go_wp2
   go_end0
   obtain⟨lv',t1,t2,t3⟩:=HKE.o;exact⟨rfl,lv',t1.later ((Below.refl _ _).drew),t2.trans (Kp.drew _ _),t3⟩
end Go.Proofs.YtnlaakmglhjjmaaGreatDoor
