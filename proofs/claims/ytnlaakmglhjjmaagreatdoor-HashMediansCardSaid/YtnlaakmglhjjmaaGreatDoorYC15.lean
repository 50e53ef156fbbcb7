/- Parts of the proofs of laws. Texts: CqI, CqJ, CpD. -/
import Derived.Test.YtnlaakmglhjjmaaGreatDoorYC14
set_option maxHeartbeats 8000000
set_option maxRecDepth 100000
set_option linter.all false
namespace Go.Proofs.YtnlaakmglhjjmaaGreatDoor
open Go.RowKit Cen
theorem zs8{T:Cl}{t:List Cl}{k:Nat}(hk:k<t.length)(hno:∀j,j<k->zcw T (t.getD j []) 0=none){x:Int}(h:zcw T (t.getD k []) 0=some x):zqg T t=some x:=by
 unfold zqg
 induction t generalizing k with
 |nil=>simp at hk
 |cons c t ih=>
   rw[List.findSome?_cons]
   cases k with
   |zero=>simp at h;rw[h]
   |succ k=>
     have h0:=hno 0 (by omega);simp at h0;rw[h0];exact ih (k:=k) (by simpa using hk) (fun j hj=>by simpa using hno (j+1) (by omega)) (by simpa using h)
theorem zs9{T:Cl}{t:List Cl}(hno:∀j,j<t.length->zcw T (t.getD j []) 0=none):zqg T t=none:=by
 unfold zqg;rw[List.findSome?_eq_none_iff];intro c hc;obtain⟨j,hj,rfl⟩:=List.getElem_of_mem hc;have:=hno j hj
 simpa[List.getD_eq_getElem?_getD,hj]using this
def zz4(w00:World)(s:Nat)(n:Nat)(a:Option Addr)(t:List Cl)(cap base:Nat)(S:List Stp)(e:Ending)(w':World):Prop:=
 ∃i lv' S',e=.returned (.int .i64 i)/\-1<=i/\i<=1073741824/\TS w' s n a t.length cap base lv' S'/\zdj t (n+1) (S.map fun e=>e.l)=(S'.map fun e=>e.l,decide (0<=i))/\Below w00.heap.size w00 w'
theorem zgj(w00:World)(n:Nat)(hn:n<=128)(s:Nat)(a:Option Addr)(t:List Cl)(cap base:Nat)(lv:Value)(S:List Stp)(lev:Int)(hlev:0<=lev/\lev<=1073741824)(w:World)(hB:Below w00.heap.size w00 w)(hx:LsCells w00 a t)(ht:t.length<=1073741824)(hc:∀c∈t,c.length<=1073741824/\∀x∈c,litN n x)
 (h:TS w s n a t.length cap base lv S)(hs:w00.heap.size<=s)(hb:w00.heap.size<=base)(hbw:base<=w.heap.size)(hg:gT n (S.map fun e=>e.l)):
 Calls Tryz.prog 200 #[.pointer (some ⟨s,0,none⟩),.int .i64 lev] w (zz4 w00 s n a t cap base S):=by
 have HX:=lh hx;have HC:=lh hc
 have HIN:Hid (∃f lv' S',1+n<=f+S'.length/\f<=n+1/\Below w00.heap.size w00 w/\base<=w.heap.size/\TS w s n a t.length cap base lv' S'/\gT n (S'.map fun e=>e.l)/\zdj t (n+1) (S.map fun e=>e.l)=zdj t f (S'.map fun e=>e.l)/\f=n+1):=
  ⟨n+1,lv,S,by omega,Nat.le_refl _,hB,hbw,h,hg,rfl,rfl⟩
 clear hx hc h hg;go_enter Tryz.func200,Tryz.ntmps200;go_wp2_with fail
 go_step3
 go_wp2_with fail
 go_step3
 go_wp2_with fail
 go_loopg[](n+1)(fun f wr=>∃lv' S',1+n<=f+S'.length/\Below w00.heap.size w00 wr/\base<=wr.heap.size/\TS wr s n a t.length cap base lv' S'/\gT n (S'.map fun e=>e.l)/\zdj t (n+1) (S.map fun e=>e.l)=zdj t f (S'.map fun e=>e.l))
 case atStart=>
  obtain⟨f,lv',S',h1,h2,h3,h4,h5,h6,h7,rfl⟩:=HIN.o;exact⟨lv',S',h1,h3,h4,h5,h6,h7⟩
 obtain⟨lv',S',h1,h3,h4,h5,h6,h7⟩:=hrel
 have hlen:S'.length<=n:=by have:=h6.len hn;simpa using this
 obtain⟨f,rfl⟩:∃f,gk=f+1:=⟨gk-1,by omega⟩
 obtain⟨cs,hat⟩:=h5.at';obtain⟨T,hT⟩:=nm (S'.map fun e=>e.l);rw[<-hT]at h6 h7 hat
 have kt:wr.cell? ⟨s,1,none⟩=some (.slice a t.length cap):=by rw[hat.blk.cell];exact hat.c1
 have HT:=lh hT;have HG:=lh h6;have HP:=lh h7;have HTS:=lh h5;have HBW:=lh h3;have HLE:=lh h1;have HSZ:=lh h4;clear h1 h3 h4 h5 h6 h7 hT hat;go_wp2_with fail
 go_loopg[15]t.length(fun g i wr2=>∃k:Nat,k+g=t.length/\i=.int .i64 k/\Below w00.heap.size w00 wr2/\base<=wr2.heap.size/\TS wr2 s n a t.length cap base lv' S'/\∀j,j<k->zcw T (t.getD j []) 0=none)
 case atStart=>exact⟨0,by omega,rfl,HBW.o,HSZ.o,HTS.o,fun j hj=>by omega⟩
 obtain⟨k,hkg,rfl,hb2,hbs2,hts,hno⟩:=hrel;have HNO:=lh hno;have HTS2:=lh hts;have HB2:=lh hb2;have HBS2:=lh hbs2;clear hno
 by_cases hlt:k<t.length
 ·obtain⟨b,off,ai,ci,rfl,c1,ic⟩:=HX.o.keep hb2 k hlt;obtain⟨hcl,hcr⟩:=HC.o (t.getD k []) (by rw[List.getD_eq_getElem?_getD,List.getElem?_eq_getElem hlt];exact List.getElem_mem hlt);obtain⟨cs2,hat2⟩:=hts.at';rw[<-HT.o]at hat2;have HOP:=lh (zx8 s n (some ⟨b,off,none⟩) t.length cap lv' T cs2 ai ci (t.getD k []) wr hat2 ic hcl fun x hx=>⟨(hcr x hx).1,by have:=(hcr x hx).2.1;omega,by have:=(hcr x hx).2.2;omega⟩)
  have hki:(k:Int)<(t.length:Int):=by omega
  have HCR:=lh hcr;clear hb2 hbs2 hts hcr hcl ic hat2
  have HD:Hid (∃c,c=t.getD k []):=⟨_,rfl⟩
  cases hop:zcw T (t.getD k []) 0 with
  |none=>
    rw[hop]at HOP
    have HR:Hid (∀j,j<k+1->zcw T (t.getD j []) 0=none):=lh fun j hj=>by
     rcases Nat.lt_or_ge j k with h|h
     ·exact HNO.o j h
     have:j=k:=by omega
     subst this;exact hop
    clear hop;generalize t.getD k []=c at*;go_wp2_with fail;refine HOP.o.mono ?_;rintro e w3⟨rfl,hb3⟩;have hb3':=HB2.o.trans (hb3.mono HB2.o.size);have HB3:=lh hb3';have HTS3:=lh (HTS2.o.later hb3);have HZ3:=lh (Nat.le_trans HBS2.o hb3.size);clear hb3 hb3';unfold zx7;go_wp2;go_roundg(gk-1)
    case measure=>omega
    case rel=>exact⟨k+1,by omega,by go_num,HB3.o,HZ3.o,HTS3.o,HR.o⟩
  |some y=>
    rw[hop]at HOP;have hst:=zs8 hlt HNO.o hop
    have HPF:Hid (zdj t (f+1) T=if y=0 then(T,true)else zdj t f (T++[y])):=by
     show _=_
     rw[zdj,hst]
    have HMEM:Hid (y≠0->litN n y/\y∉T/\-y∉T):=lh fun h0=>by
     obtain⟨⟨c,hc,hy⟩,h1,h2⟩:=zoq hst h0;exact⟨(HC.o c hc).2 y hy,h1,h2⟩
    clear hop hst;generalize t.getD k []=c at*
    by_cases hy0:y=0
    ·subst hy0;go_wp2_with fail;refine HOP.o.mono ?_;rintro e w3⟨rfl,hb3⟩;have hb3':=HB2.o.trans (hb3.mono HB2.o.size);have HB3:=lh hb3';have HTS3:=lh (HTS2.o.later hb3);clear hb3 hb3';unfold zx7;go_wp2
     try rw[Exit.noGoto_ret]
     go_ret;refine⟨k,lv',S',rfl,by omega,by omega,HTS3.o,?_,HB3.o⟩;rw[HP.o,HPF.o,HT.o]
     simp
    have hyd:decide (y=0)=false:=by simp[hy0]
    obtain⟨hyl,hyT,hyN⟩:=HMEM.o hy0;have HYL:=lh hyl;have HYT:=lh hyT;have HYN:=lh hyN;clear hyl hyT hyN;go_wp2_with fail;refine HOP.o.mono ?_;rintro e w3⟨rfl,hb3⟩;have hb3':=HB2.o.trans (hb3.mono HB2.o.size);have HB3:=lh hb3';have HZ3:=lh (Nat.le_trans HBS2.o hb3.size);have HTS3:=lh (HTS2.o.later hb3);have HAD:=lh (zqo w3 s n (some ⟨b,off,none⟩) t.length cap base lv' S' ⟨y,k,lev⟩ (HTS2.o.later hb3) HYL.o.1 (by have:=HYL.o.2.1;simp only;omega) (by have:=HYL.o.2.2;simp only;omega) (by omega) HZ3.o);clear hb3 hb3';unfold zx7;go_wp2_with fail;refine HAD.o.mono ?_
    rintro e w4⟨rfl,lv2,hts4,hk4,hlv⟩
    have HR:Hid (∃lv' S',1+n<=f+S'.length/\Below w00.heap.size w00 w4/\base<=w4.heap.size/\TS w4 s n (some ⟨b,off,none⟩) t.length cap base lv' S'/\gT n (S'.map fun e=>e.l)/\zdj t (n+1) (S.map fun e=>e.l)=zdj t f (S'.map fun e=>e.l)):=by
     have hm:(S'++[(⟨y,k,lev⟩:Stp)]).map (fun e=>e.l)=T++[y]:=by rw[List.map_append,<-HT.o];rfl
     refine⟨lv2,S'++[⟨y,k,lev⟩],by have:=HLE.o;simp;omega,HB3.o.trans (Kp.toBelow hk4 HB3.o.size fun j hj e=>?_),Nat.le_trans HZ3.o hk4.size,hts4,?_,?_⟩
     ·rcases e with e|e
      ·omega
      have:=(World.ownsRow.lt HTS3.o.own j e).1;omega
     ·rw[hm];exact HG.o.snoc HYL.o hn HYT.o HYN.o
     rw[hm,HP.o,HPF.o,if_neg hy0]
    clear hts4 hk4 hlv;go_wp2;go_roundg f
    case measure=>omega
    case rel=>exact HR.o
 have hke:k=t.length:=by omega
 subst hke
 have HPF:Hid (zdj t (f+1) T=(T,false)):=by
  show _=_
  rw[zdj,zs9 HNO.o]
 clear hb2 hbs2 hts;go_wp2
 try rw[Exit.noGoto_ret]
 go_ret;refine⟨-1,lv',S',rfl,by omega,by omega,HTS2.o,?_,HB2.o⟩;rw[HP.o,HPF.o,HT.o]
 simp
theorem zta(x n:Int)(b:Nat)(w:World)(h:w.cell? ⟨b,0,none⟩=some (.int .i64 n)):
 Calls Tryz.prog 199 #[.int .i64 x,.pointer (some ⟨b,0,none⟩)] w fun e w'=>e=.returned (.bool (!zbn x n))/\w=w':=by
 go_enter Tryz.func199,Tryz.ntmps199;go_wp2_with(go_at_call 57;refine(zcs _ _ _).mono ?_;rintro e w'⟨rfl,rfl⟩);go_ret;exact⟨rfl,rfl⟩
theorem zio:za8 199:=fun _ _=>by kernel_rfl
theorem zt2{n:Nat}(hn:n<=128){t:List Cl}(ht:t.length<=4096)(hc:∀c∈t,c.length<=128/\∀x∈c,litN n x):chkT n t=0:=by
 unfold chkT;rw[if_neg (by omega),if_neg (by omega)];clear ht
 induction t with
 |nil=>rfl
 |cons c t ih=>
   have h:=hc c (by simp);rw[zg0,if_neg (by omega),if_pos,ih fun d hd=>hc d (by simp[hd])];rw[List.all_eq_true];intro x hx;have:=h.2 x hx;unfold zbn;have h0:=this.1;have h2:=this.2;rw[zam h0 (by omega) (by omega)];simp only[Bool.and_eq_true,decide_eq_true_eq]
   split<;>omega
theorem z268:Tryz.zeroCells253.toList=[.int .i64 0,.slice none 0 0,.slice none 0 0]++List.replicate 258 (.bool false):=by kernel_rfl
theorem zr4(j:Nat):Tryz.zeroCells253[j]?=([.int .i64 0,.slice none 0 0,.slice none 0 0]++List.replicate 258 (.bool false))[j]?:=by
 rw[<-z268,Array.getElem?_toList]
theorem newS(W:World)(n:Int)(a:Option Addr)(tl cap base:Nat):
 TS (W.alloc (.cells ((Tryz.zeroCells253.setIfInBounds 0 (.int .i64 n)).setIfInBounds 1 (.slice a tl cap)) 253)) W.heap.size n a tl cap base (.slice none 0 0) []:=by
 have hsz:Tryz.zeroCells253.size=261:=by
  have:=congrArg List.length z268;rw[Array.length_toList]at this;rw[this];simp
 refine⟨⟨_,Blk.new W _ _,by simp[hsz],?_,?_,?_,fun x hx h1 h2=>?_⟩,OwnL.nil _ _,fun h=>by simp[Value.ownBlock]at h⟩
 ·rw[Array.getElem?_setIfInBounds_ne (by omega),Array.getElem?_setIfInBounds_self_of_lt (by omega)]
 ·rw[Array.getElem?_setIfInBounds_self_of_lt (by simp[hsz])]
 ·rw[Array.getElem?_setIfInBounds_ne (by omega),Array.getElem?_setIfInBounds_ne (by omega),zr4];rfl
 have hi:=zfi h1 h2;rw[Array.getElem?_setIfInBounds_ne (by omega),Array.getElem?_setIfInBounds_ne (by omega),zr4,List.getElem?_append_right (by simp),List.getElem?_replicate,if_pos (by simp;omega)]
 simp
theorem zel{B:Nat}{w w':World}(h:Below B w w')(n:Nat):Below B w (w'.drewN n):=⟨h.os,h.tape,h.output,h.size,h.block⟩
def zza(n:Nat)(t:List Cl)(d:Int)(w:World)(e:Ending)(w':World):Prop:=
 ∃v i er,e=.returned (.tuple #[v,.int .i64 i,.int .i64 er])/\Below w.heap.size w w'/\
  ((er=0/\0<=i/\zb2 n t d=true)\/(er=8/\zb2 n t d=true)\/(er=0/\i<0/\zb2 n t d=false/\∃S,OwnL stp 241 3 w' w.heap.size v S/\gT n (S.map fun e=>e.l)))
theorem zwd(n:Nat)(hn:n<=128)(a:Option Addr)(cap:Nat)(t:List Cl)(ad:Option Addr)(cd:Nat)(d:Int)(w:World)(hx:LsCells w a t)(ht:t.length<=4096)(hc:∀c∈t,c.length<=128/\∀x∈c,litN n x)(hd:litN n d)(hi:IntCells w ad [d]):
 Calls Tryz.prog 188 #[.agg #[.int .i64 n,.slice a t.length cap],.slice ad 1 cd] w (zza n t d w):=by
 obtain⟨w0,hw0⟩:=nm (w.alloc (.cells #[.int .i64 n,.slice a t.length cap] 26))
 have hb0:Below w.heap.size w w0:=by rw[hw0];exact ba _ _
 have q0:Blk w0 w.heap.size #[.int .i64 n,.slice a t.length cap] 26:=by rw[hw0];exact Blk.new w _ _
 have HCK:=lh (zbj n a cap t w0 (by omega) (fun c h=>by have:=(hc c h).1;omega) (hx.keep hb0));rw[zt2 hn ht hc]at HCK;have Q0:=lh q0;have HX:=lh hx;have HI:=lh hi;clear hx hi q0;go_enter Tryz.func188,Tryz.ntmps188;go_wp2_with fail;rw[<-hw0];clear hw0;refine HCK.o.mono ?_;rintro e w1⟨rfl,hb1⟩;have hb2:Below w.heap.size w w1:=hb0.trans (hb1.mono hb0.size);have q1:=Q0.o.later hb1;have hcf:=zcz ad cd [d] 199 #[.pointer (some ⟨w.heap.size,0,none⟩)] (fun x=>!zbn x n) w1 (by simp) (HI.o.keep hb2) (fun x _=>zta x n w.heap.size w1 (q1.cell 0)) zio
 have hv:([d].any fun x=>!zbn x n)=false:=by
  have h0:=hd.1;have h1:=hd.2;simp only[List.any_cons,List.any_nil,Bool.or_false,Bool.not_eq_false'];unfold zbn;rw[zam h0 (by omega) (by omega)];simp only[Bool.and_eq_true,decide_eq_true_eq]
  split<;>omega
 rw[hv]at hcf;have HCF:=lh hcf;clear hcf hv hb1;have k0:=q1.cell 0;have k1:=q1.cell 1;go_wp2_with fail;refine HCF.o.mono ?_;rintro e w2⟨rfl,rfl⟩
 have hcc:∀c∈t,c.length<=1073741824/\∀x∈c,litN n x:=fun c h=>⟨by have:=(hc c h).1;omega,(hc c h).2⟩
 have hts:=newS w1 n a t.length cap (w1.heap.size+1);have hbA:Below w1.heap.size w1 (w1.alloc (.cells ((Tryz.zeroCells253.setIfInBounds 0 (.int .i64 (n:Int))).setIfInBounds 1 (.slice a t.length cap)) 253)):=ba _ _;have HPR:=lh (zgj w1 n hn w1.heap.size a t cap (w1.heap.size+1) (.slice none 0 0) [] 0 (by omega) _ hbA (HX.o.keep hb2) (by omega) hcc hts (Nat.le_refl _) (Nat.le_succ _) (by simp) (gT.nil n));have HIC1:=lh (HI.o.keep hb2);have HXK:=lh (HX.o.keep hb2);have HCC:=lh hcc;have HB2:=lh hb2
 have hd1:-128<=d:=by have:=hd.2.1;omega
 have hd2:d<=128:=by have:=hd.2.2;omega
 have HD:=lh hd;have hd0:d≠0:=hd.1;have HA:=lh (zhj d hd1 hd2);have HNA:=lh (zhj (-d) (by omega) (by omega));clear hcc hts hbA hb2 q1 hb0 hc hd;go_wp2_with fail;clear k0 k1;refine HPR.o.mono ?_;rintro e w3⟨i0,lv0,S0,rfl,hi1,hi2,hts0,hpf0,hb3⟩;simp only[List.map_nil]at hpf0;obtain⟨T0,hT0⟩:=nm (S0.map fun e=>e.l);rw[<-hT0]at hpf0
 have hgT0:gT n T0:=by
  have:=zhb hn (fun c hc x hx=>(HCC.o c hc).2 x hx) (n+1) [] (gT.nil n);rw[hpf0]at this;exact this
 have hF:zb2 n t d=(if decide (0<=i0)then true else if T0.contains (-d)then true else(zdj t (n+1) (if T0.contains d then T0 else T0++[d])).2):=by
  unfold zb2;rw[hpf0]
 obtain⟨b,off,rfl,cd0⟩:=(HIC1.o.keep hb3) 0 (by simp);simp only[List.getD_cons_zero,Nat.add_zero]at cd0;have HTS0:=lh hts0;have HT0:=lh hT0;have HGT:=lh hgT0;have HF:=lh hF;have HB3:=lh hb3;have HBW:=bt HB2 hb3;obtain⟨cs0,hat0⟩:=hts0.at'
 have ks:w3.cell? ⟨w1.heap.size,2,none⟩=some lv0:=by rw[hat0.blk.cell];exact hat0.c2
 rw[<-hT0]at hat0;have HAT0:=lh hat0;clear hts0 hT0 hgT0 hF hb3 hpf0 hat0
 by_cases hi0:0<=i0
 ·have HFT:Hid (zb2 n t d=true):=by show _=_;rw[HF.o];simp[hi0]
  go_wp2_with fail;refine wp_loop_rounds 2 ?_;rw[rounds_succ];go_wp2;exact bodyPost_ret (v:=.tuple #[lv0,.int .i64 i0,.int .i64 0]) (by simp[results,Tryz.results188,Tryz.func188,go_sem]) rfl ⟨_,_,_,rfl,HBW.o,.inl ⟨rfl,hi0,HFT.o⟩⟩
 have hdi:decide (0<=i0)=false:=by simp[hi0]
 have hFN:zb2 n t d=(if T0.contains (-d)then true else(zdj t (n+1) (if T0.contains d then T0 else T0++[d])).2):=by rw[HF.o,hdi];rfl
 have hneg:IntKind.i64.wrap (-d)=-d:=IntWalk.i64_in _ (by omega);have kd:=HAT0.o.cell (x:=d) hd0 hd1 hd2;have kn:=HAT0.o.cell (x:=-d) (by omega) (by omega) (by omega);have hix:=zfi hd1 hd2
 have hixi:(ixL d:Int)<258:=by omega
 have hjx:=zfi (x:=-d) (by omega) (by omega)
 have hjxi:(ixL (-d):Int)<258:=by omega
 have HNG:=lh hneg;have HFN:=lh hFN;clear hneg hFN
 cases hcn:T0.contains (-d)with
 |true=>
   have HFT:Hid (zb2 n t d=true):=by show _=_;rw[HFN.o,hcn];rfl
   rw[hcn]at kn;clear hcn kd hix hixi;have hneg:=HNG.o;generalize ixL (-d)=j at*;go_wp2_with fail;refine wp_loop_rounds 2 ?_;rw[rounds_succ];go_wp2_with fail
   go_quiet(exact Calls.quiet_of_same ((HNA.o _).mono fun _ _ hh=>⟨hh.1,hh.2.symm⟩))
   go_wp2;exact bodyPost_ret (v:=.tuple #[.slice none 0 0,.int .i64 0,.int .i64 8]) (by simp[results,Tryz.results188,Tryz.func188,go_sem]) rfl ⟨_,_,_,rfl,zel HBW.o _,.inr (.inl ⟨rfl,HFT.o⟩)⟩
 |false=>
   rw[hcn]at kn;have HCN:=lh hcn
   have hfit:∀(S1:List Stp)(lv1:Value)(V:World),Below w1.heap.size w1 V->TS V w1.heap.size n a t.length cap (w1.heap.size+1) lv1 S1->w1.heap.size+1<=V.heap.size->(S1.map fun e=>e.l)=(if T0.contains d then T0 else T0++[d])->
    Calls Tryz.prog 200 #[.pointer (some ⟨w1.heap.size,0,none⟩),.int .i64 1] V fun e w'=>∃i lv' S',e=.returned (.int .i64 i)/\TS w' w1.heap.size n a t.length cap (w1.heap.size+1) lv' S'/\gT n (S'.map fun e=>e.l)/\zb2 n t d=decide (0<=i)/\Below w.heap.size w w':=fun S1 lv1 V hV hts hsz hm=>by
    have hg1:gT n (S1.map fun e=>e.l):=by
     rw[hm]
     by_cases hcd:T0.contains d=true
     ·rw[if_pos hcd];exact HGT.o
     rw[if_neg hcd];exact HGT.o.snoc HD.o hn (fun h=>hcd (by simpa using h)) (fun h=>by have:=HCN.o;simp at this;exact this h)
    refine(zgj w1 n hn w1.heap.size a t cap (w1.heap.size+1) lv1 S1 1 (by omega) V hV HXK.o (by omega) HCC.o hts (Nat.le_refl _) (Nat.le_succ _) hsz hg1).mono ?_;rintro e w'⟨i,lv',S',rfl,_,_,hts',hpf,hb'⟩;have hg2:=zhb hn (fun c hc x hx=>(HCC.o c hc).2 x hx) (n+1) (S1.map fun e=>e.l) hg1;rw[hpf]at hg2;refine⟨i,lv',S',rfl,hts',hg2,?_,HB2.o.trans (hb'.mono HB2.o.size)⟩;rw[HFN.o,HCN.o,<-hm,hpf];rfl
   have HFIT:=lh hfit
   have hs3:w1.heap.size+1<=w3.heap.size:=by
    have:=HAT0.o.blk.lt;omega
   clear hfit hcn
   have hend:∀{V:World}{i:Int}{lv':Value}{S':List Stp},TS V w1.heap.size n a t.length cap (w1.heap.size+1) lv' S'->gT n (S'.map fun e=>e.l)->zb2 n t d=decide (0<=i)->Below w.heap.size w V->zza n t d w (.returned (.tuple #[lv',.int .i64 i,.int .i64 0])) V:=fun{V i lv' S'}h1 h2 h3 h4=>by
    refine⟨_,i,0,rfl,h4,?_⟩
    by_cases h:0<=i
    ·exact .inl ⟨rfl,h,by rw[h3];simp[h]⟩
    exact .inr (.inr ⟨rfl,by omega,by rw[h3];simp[h],S',h1.own.lower (Nat.le_trans HB2.o.size (Nat.le_succ _)),h2⟩)
   cases hcd:T0.contains d with
   |true=>
     have hms:(S0.map fun e=>e.l)=(if T0.contains d then T0 else T0++[d]):=by rw[hcd,<-HT0.o];rfl
     have HMS:=lh hms;rw[hcd]at kd;have hneg:=HNG.o;have hlen1:([d].length:Int)=1:=rfl;clear hcd hms;generalize ixL (-d)=j at*;generalize ixL d=jj at*;go_wp2_with fail;refine wp_loop_rounds 2 ?_;rw[rounds_succ];go_wp2_with fail
     go_quiet(exact Calls.quiet_of_same ((HNA.o _).mono fun _ _ hh=>⟨hh.1,hh.2.symm⟩))
     go_wp2_with fail
     go_quiet(exact(HA.o _).mono fun _ _ hh=>⟨hh.1,_,hh.2.symm⟩)
     go_wp2_with fail;refine(HFIT.o S0 lv0 _ (zel HB3.o _) (HTS0.o.later (zal _ _)) hs3 HMS.o).mono ?_;rintro e w5⟨i5,lv5,S5,rfl,hts5,hg5,hf5,hb5⟩;obtain⟨cs5,hat5⟩:=hts5.at'
     have k5:w5.cell? ⟨w1.heap.size,2,none⟩=some lv5:=by rw[hat5.blk.cell];exact hat5.c2
     have HEND:=lh (hend hts5 hg5 hf5 hb5);clear hts5 hg5 hf5 hb5 hat5 hend;go_wp2_with fail;rw[rounds_succ];go_wp2;exact bodyPost_ret (v:=.tuple #[lv5,.int .i64 i5,.int .i64 0]) (by simp[results,Tryz.results188,Tryz.func188,go_sem]) rfl HEND.o
   |false=>
     have hms:((S0++[(⟨d,-1,1⟩:Stp)]).map fun e=>e.l)=(if T0.contains d then T0 else T0++[d]):=by rw[hcd,List.map_append,<-HT0.o];rfl
     have HMS:=lh hms;rw[hcd]at kd;have hneg:=HNG.o;have hlen1:([d].length:Int)=1:=rfl
     have hl0:S0.length<=1073741824:=by
      have:=HGT.o.len hn;rw[HT0.o,List.length_map]at this;omega
     have HAD:=lh (fun(V:World)(hV:Below w3.heap.size w3 V)=>zqo V w1.heap.size n a t.length cap (w1.heap.size+1) lv0 S0 ⟨d,-1,1⟩ (HTS0.o.later hV) hd0 hd1 hd2 hl0 (Nat.le_trans hs3 hV.size));clear hcd hms;generalize ixL (-d)=j at*;generalize ixL d=jj at*;go_wp2_with fail;refine wp_loop_rounds 2 ?_;rw[rounds_succ];go_wp2_with fail
     go_quiet(exact Calls.quiet_of_same ((HNA.o _).mono fun _ _ hh=>⟨hh.1,hh.2.symm⟩))
     go_wp2_with fail
     go_quiet(exact(HA.o _).mono fun _ _ hh=>⟨hh.1,_,hh.2.symm⟩)
     go_wp2_with fail;refine(HAD.o _ (zal _ _)).mono ?_;rintro e w4⟨rfl,lv4,hts4,hk4,hlv4⟩
     have hb4:Below w1.heap.size w1 w4:=(zel HB3.o _).trans (Kp.toBelow hk4 (by have:=HB3.o.size;simpa using this) fun k hk e=>by
      rcases e with e|e
      ·omega
      have:=(World.ownsRow.lt HTS0.o.own k e).1;omega)
     have hs4:w1.heap.size+1<=w4.heap.size:=Nat.le_trans hs3 hk4.size;have HF4:=lh (HFIT.o _ lv4 w4 hb4 hts4 hs4 HMS.o);clear hts4 hk4 hlv4 hb4 hs4;go_wp2_with fail;refine HF4.o.mono ?_;rintro e w5⟨i5,lv5,S5,rfl,hts5,hg5,hf5,hb5⟩;obtain⟨cs5,hat5⟩:=hts5.at'
     have k5:w5.cell? ⟨w1.heap.size,2,none⟩=some lv5:=by rw[hat5.blk.cell];exact hat5.c2
     have HEND:=lh (hend hts5 hg5 hf5 hb5);clear hts5 hg5 hf5 hb5 hat5 hend;go_wp2_with fail;rw[rounds_succ];go_wp2;exact bodyPost_ret (v:=.tuple #[lv5,.int .i64 i5,.int .i64 0]) (by simp[results,Tryz.results188,Tryz.func188,go_sem]) rfl HEND.o
theorem zuz(p:Int->Bool)(xs:List Int):(idx p xs=-1/\∀x∈xs,p x=false)\/∃k,k<xs.length/\idx p xs=(k:Int)/\p (gd xs k)=true/\∀j,j<k->p (gd xs j)=false:=by
 unfold idx
 cases h:xs.findIdx? p with
 |none=>exact .inl ⟨rfl,fun x hx=>by have:=List.findIdx?_eq_none_iff.1 h x hx;simpa using this⟩
 |some k=>
   obtain⟨h1,h2,h3⟩:=List.findIdx?_eq_some_iff_getElem.1 h;refine .inr ⟨k,h1,rfl,by rw[zar h1];exact h2,fun j hj=>?_⟩;rw[zar (by omega)];have:=h3 j hj
   simpa using this
theorem OwnI.cutTo{w:World}{base g cap n i:Nat}{M:List Int}(h:OwnI w base (.slice (some ⟨g,0,none⟩) n cap) M)(hn:n=M.length)(hi:i<=n)(vs:List Value):OwnI (w.setCells g i vs) base (.slice (some ⟨g,0,none⟩) i cap) (M.take i):=by
 subst hn;obtain⟨ys,h1,h2⟩:=zc1 vs i w _ (zao.2 h)
 have hl:(M.take i).length=i:=by rw[List.length_take];omega
 refine zao.1 ?_
 show World.ownsRow _ _ _ _ _ _ _
 rw[hl];refine⟨by simp;omega,?_⟩
 rcases h1.2 with⟨h3,_⟩|⟨g',cap',cur,hv,hb,hg,hnc,hcm,hcs,ht⟩
 ·simp at h3
 simp only[Value.slice.injEq,Option.some.injEq,Addr.mk.injEq,and_true,true_and]at hv;obtain⟨rfl,rfl⟩:=hv;refine .inr ⟨_,_,cur,rfl,hb,hg,by omega,hcm,hcs,?_⟩;have h3:=congrArg (List.take i) ht;rw[List.take_take,h2,Nat.mul_one,show min i M.length=i by omega]at h3;rw[Nat.mul_one,h3,List.map_take]
theorem zsa{w:World}{base g cap n i:Nat}{M:List Int}(h:OwnI w base (.slice (some ⟨g,0,none⟩) n cap) M)(hn:n=M.length)(hi:i<n)(ty:TypeId)(c:Nat):
 ∃vs,(Builtin.clear_ #[75] ty #[.slice (some ⟨g,i,none⟩) (n-i) c]).run Tryz.prog w=.ok (.tuple #[]) (w.setCells g i vs):=by
 refine⟨(Builtin.zeroCells #[.int .i64 0] (n-i)).toList,?_⟩
 have hlen:(Builtin.zeroCells #[.int .i64 0] (n-i)).toList.length=n-i:=by simp[Builtin.zeroCells]
 have hone:∀v∈(Builtin.zeroCells #[.int .i64 0] (n-i)).toList,v.oneCell'=true:=by
  intro v hv;simp only[Builtin.zeroCells,Array.toList_map,List.mem_map]at hv;obtain⟨k,_,rfl⟩:=hv
  simp[Nat.mod_one,Value.oneCell']
 have hst:=run_storeCells_cells (P:=Tryz.prog) g i _ 0 w (fun j hj=>by
  rw[hlen]at hj;have:=OwnI.c0 h hn (show i+0+j<M.length by omega)
  rw[this];rfl) (fun j _=>h.fr hn _) hone
 simp only[Nat.add_zero]at hst
 obtain⟨m,hm⟩:∃m,n-i=m+1:=⟨n-i-1,by omega⟩
 rw[hm]at hst⊢
 simp[Builtin.clear_,run_underlying Tryz.underlying75,zgt,hst,Value.cells]
theorem OwnI.room{w:World}{base g cap n:Nat}{l:List Int}(h:OwnI w base (.slice (some ⟨g,0,none⟩) n cap) l)(hn:n=l.length):n<=cap:=by
 subst hn
 rcases h.2 with⟨h1,_⟩|⟨g',cap',cur,hv,_,_,hnc,_⟩
 ·simp at h1
 simp only[Value.slice.injEq]at hv;omega
def zbz(p:Int->Bool)(l:List Int)(j:Nat):List Int:=(l.take j).filter fun x=>!p x
theorem zk6{p:Int->Bool}{l:List Int}{j:Nat}(hj:j<l.length):zbz p l (j+1)=if p (gd l j)then zbz p l j else zbz p l j++[gd l j]:=by
 unfold zbz;rw[List.take_succ_eq_append_getElem hj,List.filter_append,zar hj]
 cases h:p l[j]<;>simp[h]
theorem zu7{p:Int->Bool}{l:List Int}:zbz p l l.length=l.filter fun x=>!p x:=by unfold zbz;rw[List.take_length]
theorem zpw{p:Int->Bool}{l:List Int}{k:Nat}(hk:k<l.length)(h1:p (gd l k)=true)(h2:∀j,j<k->p (gd l j)=false):zbz p l (k+1)=l.take k:=by
 rw[zk6 hk,if_pos h1];unfold zbz;rw[List.filter_eq_self];intro x hx;obtain⟨j,hj,rfl⟩:=List.getElem_of_mem hx;rw[List.length_take]at hj;have:=h2 j (by omega);rw[zar (by omega)]at this
 simp[this]
def zzw(g cap base:Nat)(l:List Int)(p:Int->Bool)(w:World)(e:Ending)(w':World):Prop:=
 e=.returned (.slice (some ⟨g,0,none⟩) (l.filter fun x=>!p x).length cap)/\OwnI w' base (.slice (some ⟨g,0,none⟩) (l.filter fun x=>!p x).length cap) (l.filter fun x=>!p x)/\Kp (fun y=>y=g) w w'
theorem OwnI.intCells{w:World}{base g cap n:Nat}{l:List Int}(h:OwnI w base (.slice (some ⟨g,0,none⟩) n cap) l)(hn:n=l.length):IntCells w (some ⟨g,0,none⟩) l:=fun i hi=>by
 refine⟨g,0,rfl,?_⟩;rw[Nat.zero_add,OwnI.c0 h hn hi];rfl
theorem zkd(g cap base:Nat)(l:List Int)(p:Int->Bool)(f:FuncId)(cs:Array Value)(w:World)(ho:OwnI w base (.slice (some ⟨g,0,none⟩) l.length cap) l)(hm:l.length<=1073741824)
 (hp:∀V,Kp (fun y=>y=g) w V->∀x,x∈l->Calls Tryz.prog f (#[.int .i64 x]++cs) V fun e w'=>e=.returned (.bool (p x))/\V=w')(hcf:za8 f):
 Calls Tryz.prog 133 #[.slice (some ⟨g,0,none⟩) l.length cap,.func (.func f) #[] cs] w (zzw g cap base l p w):=by
 have HO:=lh ho;have HP:=lh hp;have HI:=lh (zd7 (some ⟨g,0,none⟩) cap l f cs p w hm (OwnI.intCells ho rfl) (fun x hx=>hp w (Kp.refl _ _) x hx) hcf);have hcl:=OwnI.room ho rfl;have hcf':∀(args:Array Value)(w:World),(callFunc f args).run Tryz.prog w=.ok (.enter f args) w:=hcf;clear ho hp hcf
 rcases zuz p l with⟨hi,hno⟩|⟨k,hk,hi,hp1,hp2⟩
 ·have HF:Hid ((l.filter fun x=>!p x)=l):=List.filter_eq_self.2 fun x hx=>by rw[hno x hx];rfl
  rw[hi]at HI;clear hno hi;go_enter Tryz.func133,Tryz.ntmps133;go_wp2_with fail;refine HI.o.mono ?_;rintro e w1⟨rfl,rfl⟩;go_wp2;go_ret;exact⟨by rw[HF.o];rfl,by rw[HF.o];exact HO.o,Kp.refl _ _⟩
 have HST:=lh (zpw hk hp1 hp2)
 have HSL:Hid ((zbz p l (k+1)).length=k):=by show _=_;rw[HST.o,List.length_take];omega
 rw[hi]at HI;clear hp1 hp2 hi
 have hkn:((k:Int)==-1)=false:=by simp
 have hkn2:decide ((k:Int)=-1)=false:=by simp
 go_enter Tryz.func133,Tryz.ntmps133;go_wp2_with fail;refine HI.o.mono ?_;rintro e w1⟨rfl,rfl⟩;go_wp2_with fail
 go_loopw[5,6](fun i jj wr=>∃j:Nat,1<=j/\j<=l.length/\(zbz p l j).length<j/\i=.int .i64 ((zbz p l j).length:Nat)/\jj=.int .i64 j/\∃M,OwnI wr base (.slice (some ⟨g,0,none⟩) l.length cap) M/\l.length=M.length/\M.take (zbz p l j).length=zbz p l j/\(∀t,j<=t->gd M t=gd l t)/\Kp (fun y=>y=g) w wr)(fun _ jj _=>l.length-(intOf jj).toNat)
 case atStart=>exact⟨k+1,by omega,by omega,by rw[HSL.o];omega,by rw[HSL.o],by go_num,l,HO.o,rfl,by rw[HSL.o,HST.o],fun _ _=>rfl,Kp.refl _ _⟩
 obtain⟨j,hj1,hj2,hcl2,rfl,rfl,M,hom,hml,htk,hsa,hkp⟩:=hrel;have HCL:=lh hcl2;have HOM:=lh hom;have HML:=lh hml;have HTK:=lh htk;have HSA:=lh hsa;have HKP:=lh hkp;clear hcl2 hom hml htk hsa hkp
 by_cases hlj:j<l.length
 ·have q1:gd M j=gd l j:=HSA.o _ (Nat.le_refl _)
  have hjM:j<M.length:=by rw[<-HML.o];exact hlj
  have a0:=OwnI.c0 HOM.o HML.o hjM;rw[q1]at a0
  have hmem:gd l j∈l:=by rw[zar hlj];exact List.getElem_mem hlj
  have HPC:=lh (HP.o wr HKP.o _ hmem)
  have hji:(j:Int)<(l.length:Int):=by omega
  have HSU:=lh (zk6 (p:=p) hlj);have gl:=HOM.o.lt.1;have HXL:Hid (gd M j=gd l j):=q1;have hcl2:=HCL.o
  have hci:(((zbz p l j).length:Nat):Int)<(l.length:Int):=by omega
  have hcn2:(zbz p l j).length<l.length:=by omega
  have f1:=HOM.o.fr HML.o (zbz p l j).length;have HPUT:Hid (OwnI (wr.setCell ⟨g,(zbz p l j).length,none⟩ (.int .i64 (gd l j))) base (.slice (some ⟨g,0,none⟩) l.length cap) (M.set (zbz p l j).length (gd l j))):=HOM.o.put1 HML.o ztk _ (by rw[<-HML.o];exact hcn2) (gd l j) _ rfl
  have HTK2:Hid ((M.set (zbz p l j).length (gd l j)).take ((zbz p l j).length+1)=zbz p l j++[gd l j]):=by
   show _=_
   rw[List.take_succ_eq_append_getElem (by rw[List.length_set,<-HML.o];exact hcn2),List.take_set_of_le (Nat.le_refl _),HTK.o]
   simp
  have HSA2:Hid (∀t,j+1<=t->gd (M.set (zbz p l j).length (gd l j)) t=gd l t):=fun t ht=>by
   have hc:=HCL.o;rw[<-HSA.o t (by omega)]
   show(M.set _ _).getD t default=M.getD t default
   simp[List.getD_eq_getElem?_getD,List.getElem?_set_ne (show(zbz p l j).length≠t by omega)]
  have HKK:Hid (∀c,Kp (fun y=>y=g) w (wr.setCell ⟨g,(zbz p l j).length,none⟩ c)):=fun c=>Kp.trans (M:=fun y=>y=g) HKP.o (Kp.setCell (M:=fun y=>y=g) _ _ _ rfl)
  have b0:=OwnI.c0 HOM.o HML.o (show(zbz p l j).length<M.length by rw[<-HML.o];exact hcn2);clear q1 hmem
  cases hpx:p (gd l j)with
  |true=>
    have HKB:Hid (zbz p l (j+1)=zbz p l j):=by show _=_;rw[HSU.o,if_pos hpx]
    rw[hpx]at HPC;clear hpx;go_wp2_with fail;refine HPC.o.mono ?_;rintro e w2⟨rfl,rfl⟩;go_wp2;go_roundw
    case rel=>exact⟨j+1,by omega,by omega,by rw[HKB.o];omega,by rw[HKB.o],by go_num,M,HOM.o,HML.o,by rw[HKB.o];exact HTK.o,fun t ht=>HSA.o t (by omega),HKP.o⟩
    case measure=>simp[intOf];omega
  |false=>
    have HKB:Hid (zbz p l (j+1)=zbz p l j++[gd l j]):=by show _=_;rw[HSU.o,if_neg (by rw[hpx];simp)]
    rw[hpx]at HPC;clear hpx;generalize hcn:(zbz p l j).length=cn at*;have HCN:=lh hcn;clear hcn;go_wp2_with fail;refine HPC.o.mono ?_;rintro e w2⟨rfl,rfl⟩;go_wp2;go_roundw
    case rel=>exact⟨j+1,by omega,by omega,by rw[HKB.o,List.length_append,HCN.o];simp;omega,by rw[HKB.o,List.length_append,HCN.o];go_num,by go_num,_,HPUT.o,by rw[List.length_set];exact HML.o,by rw[HKB.o,List.length_append,HCN.o];exact HTK2.o,HSA2.o,HKK.o _⟩
    case measure=>simp[intOf];omega
 have hje:j=l.length:=by omega
 subst hje;have hcl2:=HCL.o;obtain⟨vs,hvs⟩:=zsa HOM.o HML.o hcl2 0 (cap-(zbz p l l.length).length);have HCT:=lh (OwnI.cutTo HOM.o HML.o (Nat.le_of_lt hcl2) vs);have HKV:=lh (Kp.trans (M:=fun y=>y=g) HKP.o (zfr g vs ((zbz p l l.length).length) wr));rw[HTK.o]at HCT;have HFA:=lh (zu7 (p:=p) (l:=l));generalize hcn:(zbz p l l.length).length=cn at*;have HCN:=lh hcn;clear hcn
 have hcn2:(cn:Int)<(l.length:Int):=by omega
 go_wp2_with fail;go_ret;exact⟨by rw[<-HFA.o,HCN.o];rfl,by rw[<-HFA.o,HCN.o];exact HCT.o,HKV.o⟩
end Go.Proofs.YtnlaakmglhjjmaaGreatDoor
