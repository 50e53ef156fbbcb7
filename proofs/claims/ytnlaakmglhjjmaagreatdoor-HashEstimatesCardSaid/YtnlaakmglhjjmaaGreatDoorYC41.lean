/- Parts of the proofs of laws. Texts: Hm, Hw. -/
import Derived.Test.YtnlaakmglhjjmaaGreatDoorYC37
set_option maxHeartbeats 8000000
set_option maxRecDepth 100000
set_option linter.all false
namespace Go.Proofs.YtnlaakmglhjjmaaGreatDoor
open Go.RowKit Cen
def yb6(B:Bool)(w:World)(e:Ending)(w':World):Prop:=∃r:Int,e=.returned (.int .i64 r)/\decide (0<=r)=B/\Below w.heap.size w w'
theorem yaa{p:Pr->Bool}{xs:List Pr}{k:Nat}(hk:k<xs.length)(h:p xs[k]=true):xs.any p=true:=List.any_eq_true.2 ⟨_,List.getElem_mem hk,h⟩
theorem zwp{p:Pr->Bool}{xs:List Pr}(h:∀j(hj:j<xs.length),p xs[j]=false):xs.any p=false:=by
 rw[Bool.eq_false_iff];intro hx;obtain⟨x,hm,hp⟩:=List.any_eq_true.1 hx;obtain⟨j,hj,rfl⟩:=List.getElem_of_mem hm;rw[h j hj]at hp;exact absurd hp (by simp)
theorem zki(a:Option Addr)(cap:Nat)(xs:List Pr)(g:FuncId)(cs:Array Value)(p:Pr->Bool)(w:World)(hl:xs.length<=1073741824)
 (hx:PrCells w a xs)(hp:∀x W,x∈xs->Below w.heap.size w W->Calls Tryz.prog g (#[prv x]++cs) W fun e w'=>e=.returned (.bool (p x))/\Below W.heap.size W w')(hcf0:za8 g):
 Calls Tryz.prog 58 #[.slice a xs.length cap,.func (.func g) #[] cs] w (yb6 (xs.any p) w):=by
 have HX:=lh hx;have HP:=lh hp;have hcf:∀(args:Array Value)(w:World),(callFunc g args).run Tryz.prog w=.ok (.enter g args) w:=hcf0;clear hx hp hcf0;unfold prv at HP;go_enter Tryz.func58,Tryz.ntmps58;go_wp2
 go_loopw[5,8](fun v i wr=>∃k:Nat,k<=xs.length/\i=.int .i64 k/\(∀j(hj:j<xs.length),j<k->p xs[j]=false)/\Below w.heap.size w wr)(fun _ i _=>xs.length-(intOf i).toNat)
 case atStart=>exact⟨0,Nat.zero_le _,rfl,fun j _ h=>absurd h (Nat.not_lt_zero _),Below.refl _ _⟩
 obtain⟨k,hk,rfl,hno,hb⟩:=hrel;have HN:=lh hno;have HB:=lh hb;have HXR:=lh (HX.o.keep hb);clear hno hb
 by_cases hlt:k<xs.length
 ·obtain⟨b,off,rfl,c0,c1,c2⟩:=HXR.o.at hlt
  have hki:(k:Int)<(xs.length:Int):=by omega
  have HAT:Hid (p xs[k]=true->xs.any p=true):=yaa hlt
  have HNN:Hid (p xs[k]=false->∀j(hj:j<xs.length),j<k+1->p xs[j]=false):=fun h j hj hjk=>by
   by_cases e:j=k
   ·subst e;exact h
   exact HN.o j hj (by omega)
  have HC:=lh (fun W h=>HP.o xs[k] W (List.getElem_mem hlt) h);generalize xs[k]=q at*
  cases hpk:p q
  ·have HK:=lh (HNN.o hpk);rw[hpk]at HC;clear hpk HNN HAT;go_wp2_with fail;refine(HC.o _ HB.o).mono ?_;rintro e w1⟨rfl,hb1⟩;have HB1:=bt HB hb1;clear hb1 c0 c1 c2;go_wp2;go_roundw
   case rel=>exact⟨k+1,by omega,by go_num,HK.o,HB1.o⟩
   case measure=>simp[intOf];omega
  have HK:=lh (HAT.o hpk);rw[hpk]at HC;clear hpk HNN HAT;go_wp2_with fail;refine(HC.o _ HB.o).mono ?_;rintro e w1⟨rfl,hb1⟩;have HB1:=bt HB hb1;clear hb1 c0 c1 c2;go_wp2;go_ret;exact⟨(k:Int),rfl,by rw[HK.o];simp,HB1.o⟩
 have hke:k=xs.length:=by omega
 have HK:Hid (xs.any p=false):=zwp fun j hj=>HN.o j hj (by omega)
 subst hke;go_wp2;go_ret;exact⟨-1,rfl,by rw[HK.o];rfl,HB.o⟩
theorem zg2(a:Option Addr)(cap:Nat)(xs:List Pr)(g:FuncId)(cs:Array Value)(p:Pr->Bool)(w:World)(hl:xs.length<=1073741824)
 (hx:PrCells w a xs)(hp:∀x W,x∈xs->Below w.heap.size w W->Calls Tryz.prog g (#[prv x]++cs) W fun e w'=>e=.returned (.bool (p x))/\Below W.heap.size W w')(hcf0:za8 g):
 Calls Tryz.prog 25 #[.slice a xs.length cap,.func (.func g) #[] cs] w fun e w'=>e=.returned (.bool (xs.any p))/\Below w.heap.size w w':=by
 have HI:=lh (zki a cap xs g cs p w hl hx hp hcf0);clear hx hp hcf0;generalize xs.any p=B at*;go_enter Tryz.func25,Tryz.ntmps25;go_wp2_with fail;refine HI.o.mono ?_;rintro e w1⟨r,rfl,hr,hb1⟩;have HB1:=lh hb1;have HR:=lh hr;clear hb1 hr;go_wp2;go_ret;exact⟨by rw[<-HR.o];rfl,HB1.o⟩
def outP(n:Int)(q:Pr):Bool:=!decide (St.minus q.v (zbq n)=St.zero)
theorem zt0(q:Pr)(T:Nat)(n:Int)(v:Value)(w:World)(hq:q.ok)(hT:Blk w T #[.int .i64 n,v] 26):
 Calls Tryz.prog 26 #[prv q,.pointer (some ⟨T,0,none⟩)] w fun e w'=>e=.returned (.bool (outP n q))/\Below w.heap.size w w':=by
 have HAL:=lh (fun V=>zlw n V);have HSU:=lh (fun V=>zv6 q.v (zbq n) V hq (zdo _));have HR:Hid (outP n q=!decide (St.minus q.v (zbq n)=St.zero)):=rfl;generalize decide (St.minus q.v (zbq n)=St.zero)=B at*;generalize zbq n=al at*;unfold stv at HAL HSU;obtain⟨W,hW⟩:=nm (w.alloc (.cells #[.int .u64 (q.v.a:Int),.int .u64 (q.v.b:Int),.bool q.odd] 31))
 have hbw:Below w.heap.size w W:=by rw[hW];exact ba _ _
 have q0:Blk W w.heap.size #[.int .u64 (q.v.a:Int),.int .u64 (q.v.b:Int),.bool q.odd] 31:=by rw[hW];exact Blk.new _ _ _
 have hTW:=hT.later hbw;have HBW:=lh hbw;have k0:=q0.cell 0;have k1:=q0.cell 1;have t0:=hTW.cell 0;have kz:=q0.lt;have tz:=hTW.lt
 have HKS:Hid (∀w':World,Below W.heap.size W w'->(fun w'=>w'.cell? ⟨w.heap.size,0,none⟩=some (.int .u64 (q.v.a:Int))/\w'.cell? ⟨w.heap.size,1,none⟩=some (.int .u64 (q.v.b:Int))/\w'.cell? ⟨T,0,none⟩=some (.int .i64 n)) w'):=lh fun w' hb=>⟨zab hb k0,zab hb k1,zab hb t0⟩
 clear hbw q0 hT hTW hq;unfold prv;go_enter Tryz.func26,Tryz.ntmps26;go_wp2_with fail;rw[<-hW];clear hW
 refine wp_region_held_drew (S:=(fun w'=>w'.cell? ⟨w.heap.size,0,none⟩=some (.int .u64 (q.v.a:Int))/\w'.cell? ⟨w.heap.size,1,none⟩=some (.int .u64 (q.v.b:Int))/\w'.cell? ⟨T,0,none⟩=some (.int .i64 n))) (by kernel_rfl) (by exact HKS.o _ (Below.refl W.heap.size W).drew) fun hH=>?_
 refine tkV 0 4 rfl rfl ?_;try simp only[tkS]
 refine tkV 1 5 rfl rfl ?_;try simp only[tkS]
 refine tkV 2 6 rfl rfl ?_;try simp only[tkS]
 refine tkV 3 7 rfl rfl ?_;try simp only[tkS]
 refine tkR 4 (.cons rfl (fun K hK=>?_) .nil);go_simp;go_at_call 28
 with_reducible refine Calls.mono (HAL.o _) ?_
 rintro e w5⟨rfl,hb5⟩;have hw5:Below W.heap.size W w5:=Below.trans (Below.refl W.heap.size W).drew (Below.mono hb5 (Below.size (Below.refl W.heap.size W).drew));clear hb5;go_wp2_with fail
 refine hK.out _ _ (by exact HKS.o _ hw5) fun hH=>?_
 clear hK K
 try simp only[tkS]
 refine tkR 5 (.cons rfl (fun K hK=>?_) .nil);go_simp;go_at_call 27
 with_reducible refine Calls.mono (HSU.o _) ?_
 rintro e w6⟨rfl,hb6⟩;have hw6:Below W.heap.size W w6:=Below.trans hw5 (Below.mono hb6 (Below.size hw5));clear hb6;go_wp2_with fail
 refine hK.out _ _ (by exact HKS.o _ hw6) fun hH=>?_
 clear hK K
 try simp only[tkS]
 refine tkV 6 10 rfl rfl ?_;try simp only[tkS]
 refine tkV 7 3 rfl rfl ?_;try simp only[tkS]
 refine wpAnyH_done (by kernel_rfl) ?_ _;go_wp2;go_ret;exact⟨by rw[HR.o];rfl,HBW.o.trans (hw6.mono HBW.o.size)⟩
theorem zka:za8 26:=fun _ _=>by kernel_rfl
def zls(q:Nat)(c:Int)(w:World)(e:Ending)(w':World):Prop:=e=.returned (.tuple #[.agg #[.string (natB q)],.int .i64 c])/\Below w.heap.size w w'
theorem cell_bad(n:Int)(ta:Option Addr)(tc:Nat)(t:List Cl)(la:Option Addr)(lc ll:Nat)(c:Int)(w:World)(hx:LsCells w ta t)(ht:t.length<=1073741824)(htl:∀c∈t,c.length<=1073741824)(hc:chkT n t=c)(h0:c≠0):
 Calls Tryz.prog 12 #[.agg #[.int .i64 n,.slice ta t.length tc],.slice la ll lc] w (zls 0 c w):=by
 obtain⟨w0,hw0⟩:=nm ((w.alloc (.cells #[.int .i64 n,.slice ta t.length tc] 26)).alloc (.cells #[.string ⟨#[]⟩] 36))
 have hb0:Below w.heap.size w w0:=by rw[hw0];exact(ba _ _).alloc (by simp) _
 have q1:Blk w0 (w.heap.size+1) #[.string ⟨#[]⟩] 36:=by rw[hw0];exact Blk.new' _ (by simp) _ _
 have HCK:=lh (fun V(hV:Below w.heap.size w V)=>zbj n ta tc t V ht htl (hx.keep hV));rw[hc]at HCK;have HB0:=lh hb0;have HQ1:=lh q1;clear hb0 q1 hx ht htl hc;go_enter Tryz.func12,Tryz.ntmps12;go_wp2_with fail;rw[<-hw0];clear hw0;refine(HCK.o _ HB0.o).mono ?_;rintro e w1⟨rfl,hb1⟩;have HB1:=bt HB0 hb1;have HA1:=lh (HQ1.o.later hb1);clear hb1 HCK;have a0:=HA1.o.cell 0;have af:=HA1.o.fr 0;have al:=HA1.o.lt;go_wp2_with fail;have g0:=(HA1.o.set 0 (.string ⟨#[]⟩)).cell 0;exact bodyPost_ret (v:=.tuple #[.agg #[.string ⟨#[]⟩],.int .i64 c]) (by simp[results,Tryz.results12,go_sem,g0]) rfl ⟨rfl,HB1.o.setCell (show w.heap.size<=w.heap.size+1 by omega) _⟩
theorem cell_out(n:Int)(ta:Option Addr)(tc:Nat)(t:List Cl)(la:Option Addr)(lc:Nat)(l:List Pr)(w:World)(hx:LsCells w ta t)(ht:t.length<=1073741824)(htl:∀c∈t,c.length<=1073741824)(hc:chkT n t=0)(hl:l.length<=16)(hp:PrCells w la l)(hok:∀p∈l,p.ok)(hin:l.any (outP n)=true):
 Calls Tryz.prog 12 #[.agg #[.int .i64 n,.slice ta t.length tc],.slice la l.length lc] w (zls 0 1 w):=by
 obtain⟨w0,hw0⟩:=nm ((w.alloc (.cells #[.int .i64 n,.slice ta t.length tc] 26)).alloc (.cells #[.string ⟨#[]⟩] 36))
 have hb0:Below w.heap.size w w0:=by rw[hw0];exact(ba _ _).alloc (by simp) _
 have q0:Blk w0 w.heap.size #[.int .i64 n,.slice ta t.length tc] 26:=by rw[hw0];exact(Blk.new _ _ _).alloc _
 have q1:Blk w0 (w.heap.size+1) #[.string ⟨#[]⟩] 36:=by rw[hw0];exact Blk.new' _ (by simp) _ _
 have HCK:=lh (fun V(hV:Below w.heap.size w V)=>zbj n ta tc t V ht htl (hx.keep hV));rw[hc]at HCK;have HCF:=lh (fun V(hV:Below w.heap.size w V)(hT:Blk V w.heap.size #[.int .i64 n,.slice ta t.length tc] 26)=>zg2 la lc l 26 #[.pointer (some ⟨w.heap.size,0,none⟩)] (outP n) V (by omega) (hp.keep hV) (fun x W hm hb=>zt0 x w.heap.size n _ W (hok x hm) (hT.later hb)) zka);rw[hin]at HCF;have HB0:=lh hb0;have HQ0:=lh q0;have HQ1:=lh q1
 have hl16:(l.length:Int)<=16:=by omega
 have k0:=q0.cell 0;have k1:=q0.cell 1;have kz:=q0.lt;clear hb0 q0 q1 hx hp hok hin ht htl hc;go_enter Tryz.func12,Tryz.ntmps12;go_wp2_with fail;rw[<-hw0];clear hw0;refine(HCK.o _ HB0.o).mono ?_;rintro e w1⟨rfl,hb1⟩;have HB1:=bt HB0 hb1;have HT1:=lh (HQ0.o.later hb1);have HA1:=lh (HQ1.o.later hb1);clear hb1 k0 k1 kz HCK;go_wp2_with fail;refine(HCF.o _ HB1.o HT1.o).mono ?_;rintro e w2⟨rfl,hb2⟩;have HB2:=bt HB1 hb2;have HA2:=lh (HA1.o.later hb2);clear hb2 HCF;have a0:=HA2.o.cell 0;have af:=HA2.o.fr 0;have al:=HA2.o.lt;go_wp2_with fail;have g0:=(HA2.o.set 0 (.string ⟨#[]⟩)).cell 0
 exact bodyPost_ret (v:=.tuple #[.agg #[.string ⟨#[]⟩],.int .i64 1]) (by simp[results,Tryz.results12,go_sem,g0]) rfl ⟨rfl,HB2.o.setCell (show w.heap.size<=w.heap.size+1 by omega) _⟩
theorem est_refuse(n:Int)(ta:Option Addr)(tc:Nat)(t:List Cl)(sa:Option Addr)(sc:Nat)(bs:List Nat)(m:Int)(w:World)(hx:LsCells w ta t)(ht:t.length<=1073741824)(htl:∀c∈t,c.length<=1073741824)(hc:chkT n t=0)(hl:bs.length<=1073741824)(hb:parsBad n m bs.length):
 Calls Tryz.prog 17 #[.agg #[.int .i64 n,.slice ta t.length tc],.slice sa bs.length sc,.int .i64 m] w (zls 0 1 w):=by
 obtain⟨w0,hw0⟩:=nm ((w.alloc (.cells #[.int .i64 n,.slice ta t.length tc] 26)).alloc (.cells #[.string ⟨#[]⟩] 36))
 have hb0:Below w.heap.size w w0:=by rw[hw0];exact(ba _ _).alloc (by simp) _
 have q0:Blk w0 w.heap.size #[.int .i64 n,.slice ta t.length tc] 26:=by rw[hw0];exact(Blk.new _ _ _).alloc _
 have q1:Blk w0 (w.heap.size+1) #[.string ⟨#[]⟩] 36:=by rw[hw0];exact Blk.new' _ (by simp) _ _
 have HCK:=lh (fun V(hV:Below w.heap.size w V)=>zbj n ta tc t V ht htl (hx.keep hV));rw[hc]at HCK;have HPB:=lh (fun V=>pars_bad sa sc bs n m V hl hb);have HB0:=lh hb0;have HQ0:=lh q0;have HQ1:=lh q1;have k0:=q0.cell 0;have k1:=q0.cell 1;have kz:=q0.lt;clear hb0 q0 q1 hx ht htl hc hb hl;go_enter Tryz.func17,Tryz.ntmps17;go_wp2_with fail;rw[<-hw0];clear hw0;refine(HCK.o _ HB0.o).mono ?_;rintro e w1⟨rfl,hb1⟩;have HB1:=bt HB0 hb1;have HT1:=lh (HQ0.o.later hb1);have HA1:=lh (HQ1.o.later hb1);clear hb1 k0 k1 kz HCK;have k0:=HT1.o.cell 0;have k1:=HT1.o.cell 1;have kz:=HT1.o.lt
 go_wp2_with fail;refine(HPB.o _).mono ?_;rintro e w2⟨rfl,hb2⟩;have HB2:=bt HB1 hb2;have HA2:=lh (HA1.o.later hb2);clear hb2 HPB k0 k1 kz;have a0:=HA2.o.cell 0;have af:=HA2.o.fr 0;have al:=HA2.o.lt;go_wp2_with fail;have g0:=(HA2.o.set 0 (.string ⟨#[]⟩)).cell 0;exact bodyPost_ret (v:=.tuple #[.agg #[.string ⟨#[]⟩],.int .i64 1]) (by simp[results,Tryz.results17,go_sem,g0]) rfl ⟨rfl,HB2.o.setCell (show w.heap.size<=w.heap.size+1 by omega) _⟩
theorem med_bad(n:Int)(ta:Option Addr)(tc:Nat)(t:List Cl)(sa:Option Addr)(sc sl:Nat)(m:Int)(c:Int)(w:World)(hx:LsCells w ta t)(ht:t.length<=1073741824)(htl:∀c∈t,c.length<=1073741824)(hc:chkT n t=c)(h0:c≠0):
 Calls Tryz.prog 19 #[.agg #[.int .i64 n,.slice ta t.length tc],.slice sa sl sc,.int .i64 m] w (zls 0 c w):=by
 obtain⟨w0,hw0⟩:=nm ((w.alloc (.cells #[.int .i64 n,.slice ta t.length tc] 26)).alloc (.cells #[.string ⟨#[]⟩] 36))
 have hb0:Below w.heap.size w w0:=by rw[hw0];exact(ba _ _).alloc (by simp) _
 have q1:Blk w0 (w.heap.size+1) #[.string ⟨#[]⟩] 36:=by rw[hw0];exact Blk.new' _ (by simp) _ _
 have HCK:=lh (fun V(hV:Below w.heap.size w V)=>zbj n ta tc t V ht htl (hx.keep hV));rw[hc]at HCK;have HB0:=lh hb0;have HQ1:=lh q1;clear hb0 q1 hx ht htl hc;go_enter Tryz.func19,Tryz.ntmps19;go_wp2_with fail;rw[<-hw0];clear hw0;refine(HCK.o _ HB0.o).mono ?_;rintro e w1⟨rfl,hb1⟩;have HB1:=bt HB0 hb1;have HA1:=lh (HQ1.o.later hb1);clear hb1 HCK;have a0:=HA1.o.cell 0;have af:=HA1.o.fr 0;have al:=HA1.o.lt;go_wp2_with fail;have g0:=(HA1.o.set 0 (.string ⟨#[]⟩)).cell 0;exact bodyPost_ret (v:=.tuple #[.agg #[.string ⟨#[]⟩],.int .i64 c]) (by simp[results,Tryz.results19,go_sem,g0]) rfl ⟨rfl,HB1.o.setCell (show w.heap.size<=w.heap.size+1 by omega) _⟩
theorem med_none(n:Int)(ta:Option Addr)(tc:Nat)(t:List Cl)(sa:Option Addr)(sc:Nat)(m:Int)(w:World)(hx:LsCells w ta t)(ht:t.length<=1073741824)(htl:∀c∈t,c.length<=1073741824)(hc:chkT n t=0):
 Calls Tryz.prog 19 #[.agg #[.int .i64 n,.slice ta t.length tc],.slice sa 0 sc,.int .i64 m] w (zls 0 1 w):=by
 obtain⟨w0,hw0⟩:=nm ((w.alloc (.cells #[.int .i64 n,.slice ta t.length tc] 26)).alloc (.cells #[.string ⟨#[]⟩] 36))
 have hb0:Below w.heap.size w w0:=by rw[hw0];exact(ba _ _).alloc (by simp) _
 have q1:Blk w0 (w.heap.size+1) #[.string ⟨#[]⟩] 36:=by rw[hw0];exact Blk.new' _ (by simp) _ _
 have HCK:=lh (fun V(hV:Below w.heap.size w V)=>zbj n ta tc t V ht htl (hx.keep hV));rw[hc]at HCK;have HB0:=lh hb0;have HQ1:=lh q1;clear hb0 q1 hx ht htl hc;go_enter Tryz.func19,Tryz.ntmps19;go_wp2_with fail;rw[<-hw0];clear hw0;refine(HCK.o _ HB0.o).mono ?_;rintro e w1⟨rfl,hb1⟩;have HB1:=bt HB0 hb1;have HA1:=lh (HQ1.o.later hb1);clear hb1 HCK;have a0:=HA1.o.cell 0;have af:=HA1.o.fr 0;have al:=HA1.o.lt;go_wp2_with fail;have g0:=(HA1.o.set 0 (.string ⟨#[]⟩)).cell 0;exact bodyPost_ret (v:=.tuple #[.agg #[.string ⟨#[]⟩],.int .i64 1]) (by simp[results,Tryz.results19,go_sem,g0]) rfl ⟨rfl,HB1.o.setCell (show w.heap.size<=w.heap.size+1 by omega) _⟩
end Go.Proofs.YtnlaakmglhjjmaaGreatDoor
