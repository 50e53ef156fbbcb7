/- Parts of the proofs of laws. Texts: CqL. -/
import Derived.Test.YtnlaakmglhjjmaaGreatDoorYC22
import Derived.Test.YtnlaakmglhjjmaaGreatDoorYC24
set_option maxHeartbeats 8000000
set_option maxRecDepth 100000
set_option linter.all false
namespace Go.Proofs.YtnlaakmglhjjmaaGreatDoor
open Go.RowKit Cen
def tmsF(n:Nat)(ys:List Int):List Int:=(List.range (n+1)).map fun(v:Nat)=>((ys.countP fun y=>decide (zac y=(v:Int)):Nat):Int)
theorem zm6(n:Nat)(ys:List Int):(tmsF n ys).length=n+1:=by simp[tmsF]
theorem zgr(n:Nat)(ys:List Int)(v:Nat)(h:v<(tmsF n ys).length):(tmsF n ys)[v]=((ys.countP fun y=>decide (zac y=(v:Int)):Nat):Int):=by simp[tmsF]
theorem zwc(n:Nat)(ys:List Int)(y:Int)(v:Nat)(hv:zac y=v)(h:v<(tmsF n ys).length):(tmsF n ys).set v ((tmsF n ys)[v]+1)=tmsF n (ys++[y]):=by
 apply List.ext_getElem
 ·simp[tmsF]
 intro j h1 h2;simp only[List.getElem_set,zgr,List.countP_append]
 by_cases e:v=j
 ·subst e
  simp[hv]
 rw[if_neg e]
 have:¬((v:Int)=(j:Int)):=by omega
 simp[hv,this]
def cls1(e:Ce):List Value:=[.slice e.a e.xs.length e.c]
theorem zw0(e:Ce):(cls1 e).length=1:=rfl
theorem yci:Elem 24 75 1 24 (.slice none 0 0):=.mk Tryz.underlying24 (by kernel_rfl) rfl (by decide)
structure CHS(n:Nat)(w:World)(bt:Nat)(wr:World)(ys:List Int)(lk:List Ce):Prop where
 hb:Below w.heap.size w wr
 tm:OwnI wr w.heap.size (.slice (some ⟨w.heap.size,0,none⟩) (n+1) (n+1)) (tmsF n ys)
 th:∃la lc,Blk wr bt #[.int .i64 n,.slice la lk.length lc] 26/\OwnL cls1 75 1 wr w.heap.size (.slice la lk.length lc) lk/\(∀q,la=some q->q.block≠w.heap.size/\q.block≠bt/\w.heap.size<=q.block)
 bt':w.heap.size<bt
theorem CHS.later{n bt:Nat}{w wr w':World}{ys:List Int}{lk:List Ce}(h:CHS n w bt wr ys lk)(hb:Below wr.heap.size wr w'):CHS n w bt w' ys lk:=
 ⟨h.hb.trans (hb.mono h.hb.size),h.tm.later hb,let⟨la,lc,h1,h2,h3⟩:=h.th;⟨la,lc,h1.later hb,h2.later hb,h3⟩,h.bt'⟩
theorem CHS.bump{n bt:Nat}{w wr:World}{ys:List Int}{lk:List Ce}(h:CHS n w bt wr ys lk){y:Int}{v:Nat}(hv:zac y=v)(hn:v<=n):
 CHS n w bt (wr.setCell ⟨w.heap.size,v,none⟩ (.int .i64 (((ys.countP fun y=>decide (zac y=(v:Int)):Nat):Int)+1))) (ys++[y]) lk:=by
 have hl:=zm6 n ys
 have hvl:v<(tmsF n ys).length:=by omega
 have hk:Kp (fun k=>k=w.heap.size) wr (wr.setCell ⟨w.heap.size,v,none⟩ (.int .i64 (((ys.countP fun y=>decide (zac y=(v:Int)):Nat):Int)+1))):=Kp.setCell _ _ _ rfl;obtain⟨la,lc,h1,h2,h3⟩:=h.th;have hbt:=h.bt';refine⟨h.hb.setCell (Nat.le_refl _) _,?_,⟨la,lc,h1.kept hk (by omega),h2.kept hk fun k hk' e=>?_,h3⟩,hbt⟩
 ·have:=h.tm.put1 hl.symm (fun _=>rfl) v hvl ((tmsF n ys)[v]+1) (.int .i64 ((tmsF n ys)[v]+1)) rfl;rw[zwc n ys y v hv hvl,zgr]at this;exact this
 cases la with
 |none=>simp[Value.ownBlock]at hk'
 |some q=>
   have h4:=h3 q rfl
   simp[Value.ownBlock]at hk'
   obtain⟨_,_,rfl⟩:=hk';exact h4.1 e
theorem CHS.time{n bt:Nat}{w wr:World}{lk:List Ce}{xs:List Cl}(h:CHS n w bt wr xs.flatten lk){v:Nat}(hv:v<=n):wr.cell? ⟨w.heap.size,v,none⟩=some (.int .i64 ((zap xs (v:Int):Nat):Int)):=by
 have htl:=zm6 n xs.flatten;have:=OwnL.cell htl.symm h.tm (fun _=>rfl) v 0 (by omega) (by omega);rw[zgr]at this
 simpa[I1,zap]using this
theorem CHS.ls{g:Cfg}{F:Nat->Prop}{n bt:Nat}{w wr:World}{ys:List Int}{l:List Ce}{a:Option Addr}{term:Cl}(h:CHS n w bt wr ys l)(hc:ClsIn g F w a l term):
 ∃la lc,wr.cell? ⟨bt,0,none⟩=some (.int .i64 n)/\wr.cell? ⟨bt,1,none⟩=some (.slice la l.length lc)/\LsCells wr la (l.map fun e=>e.xs):=by
 obtain⟨la,lc,h1,h2,h3⟩:=h.th;refine⟨la,lc,h1.cell 0,h1.cell 1,fun i hi=>?_⟩
 have hil:i<l.length:=by simpa using hi
 rcases h2.shape with⟨h4,h5⟩|⟨g0,cp,h4,_⟩
 ·rw[h5]at hil;simp at hil
 simp only[Value.slice.injEq,true_and]at h4;obtain⟨rfl,rfl⟩:=h4;have hcell:=h2.cell rfl zw0 i 0 hil (by omega);simp only[Nat.mul_one,Nat.add_zero,cls1,List.getElem?_cons_zero]at hcell
 have e1:(l.map fun e=>e.xs).getD i []=l[i].xs:=by simp[List.getD_eq_getElem?_getD,hil]
 obtain⟨b,off,_,_,_,ic⟩:=hc.cc i hil;rw[zar hil]at ic;exact⟨g0,0,_,_,rfl,by rw[e1,Nat.zero_add];exact hcell,by rw[e1];exact ic.keep h.hb⟩
theorem zm5{n:Nat}(xs:List Cl)(v:Int)(h:xs.flatten.length<=n):zap xs v<=n:=Nat.le_trans List.countP_le_length h
theorem zwx{order:List Int}{probe:Bool}{n:Nat}{l:List Cl}{k:Nat}(hk:k<order.length)(hno:∀j,j<k->zap l (order.getD j 0)=0)(h:0<zap l (order.getD k 0)):chF order probe n l=order.getD k 0:=by
 have e:order.find? (fun v=>decide (0<zap l v))=some order[k]:=by
  rw[List.find?_eq_some_iff_getElem];refine⟨by simpa[List.getD_eq_getElem?_getD,hk]using h,k,hk,rfl,fun j hj=>?_⟩;have:=hno j hj
  have hjl:j<order.length:=by omega
  simp[List.getD_eq_getElem?_getD,hjl]at this
  simp[this]
 unfold chF;rw[e]
 simp[List.getD_eq_getElem?_getD,hk]
theorem zww{order:List Int}{probe:Bool}{n:Nat}{l:List Cl}(hno:∀j,j<order.length->zap l (order.getD j 0)=0):chF order probe n l=zdd probe n l (n+1) 0 0:=by
 have e:order.find? (fun v=>decide (0<zap l v))=none:=by
  rw[List.find?_eq_none];intro v hv;obtain⟨j,hj,rfl⟩:=List.getElem_of_mem hv;have:=hno j hj
  simp[List.getD_eq_getElem?_getD,hj]at this
  simp[this]
 unfold chF;rw[e]
theorem CHS.push{n bt m gg cg:Nat}{w wr w3:World}{ys:List Int}{lk:List Ce}{e:Ce}{la:Option Addr}{lc:Nat}(h:CHS n w bt wr ys lk)(hm:lk.length=m)(h1:Blk wr bt #[.int .i64 n,.slice la m lc] 26)(h3:∀q,la=some q->q.block≠w.heap.size/\q.block≠bt/\w.heap.size<=q.block)
 (ho:OwnL cls1 75 1 w3 w.heap.size (.slice (some ⟨gg,0,none⟩) (m+1) cg) (lk++[e]))(hg:wr.grownBy w3 (Value.slice la m lc).ownBlock)(hn:(Value.slice la m lc).ownBlock=some gg\/wr.heap.size<=gg):
 CHS n w bt (w3.setCell ⟨bt,1,none⟩ (.slice (some ⟨gg,0,none⟩) (m+1) cg)) ys (lk++[e])/\w3.cell? ⟨bt,1,none⟩=some (.slice la m lc)/\w3.frozen? ⟨bt,1,none⟩=false/\bt<w3.heap.size:=by
 subst hm
 have hob:∀k,(Value.slice la lk.length lc).ownBlock=some k->k≠w.heap.size/\k≠bt/\w.heap.size<=k:=fun k hk=>by
  cases la with
  |none=>simp[Value.ownBlock]at hk
  |some q=>
    simp[Value.ownBlock]at hk
    obtain⟨_,_,rfl⟩:=hk;exact h3 q rfl
 have hbt:=h.bt'
 have hk:Kp (fun k=>(Value.slice la lk.length lc).ownBlock=some k) wr w3:=Kp.grown hg fun k hk=>hk
 have hb:=h1.kept hk fun e=>(hob _ e).2.1 rfl
 have hks:Kp (fun k=>k=bt) w3 (w3.setCell ⟨bt,1,none⟩ (.slice (some ⟨gg,0,none⟩) (lk.length+1) cg)):=Kp.setCell _ _ _ rfl;have hwr:=h.tm.lt.1
 have hg':gg≠w.heap.size/\gg≠bt/\w.heap.size<=gg:=by
  rcases hn with hn|hn
  ·exact hob _ hn
  have:=h1.lt;omega
 refine⟨⟨(h.hb.trans (Kp.toBelow hk h.hb.size fun k hk' e=>by have:=(hob k e).2.2;omega)).setCell (by simp only;omega) _,?_,⟨some ⟨gg,0,none⟩,cg,?_,?_,fun q hq=>?_⟩,hbt⟩,hb.cell 1,hb.fr 1,hb.lt⟩
 ·refine(OwnL.kept h.tm hk fun k hk' e=>?_).kept hks fun k hk' e=>?_
  ·have:w.heap.size=k:=by simpa[Value.ownBlock]using hk'
   exact(hob k e).1 this.symm
  have:w.heap.size=k:=by simpa[Value.ownBlock]using hk'
  omega
 ·have:=hb.set 1 (.slice (some ⟨gg,0,none⟩) (lk.length+1) cg);rw[List.length_append];exact this
 ·rw[List.length_append]
  refine OwnL.kept ho hks fun k hk' e=>?_
  have:gg=k:=by simpa[Value.ownBlock]using hk'
  exact hg'.2.1 (this.trans e)
 simp only[Option.some.injEq]at hq;subst hq;exact hg'
theorem zr9(g:Cfg)(h12:g.n<=12)(hx:Fx g (chF g.order g.probe g.n)):zlt g (chF g.order g.probe g.n):=by
 intro F p L a cap l term w hC hci hg hne h2;obtain⟨m,d,_,⟨lb,db,nv,cv,hAt,_⟩,_⟩:=hC.cc;have k0:w.cell? ⟨p,0,none⟩=some (.int .i64 g.n):=hAt.blk.cell 0;have k1:w.cell? ⟨p,1,none⟩=some (.slice g.oa g.order.length g.oc):=hAt.blk.cell 1;have k2:w.cell? ⟨p,2,none⟩=some (.bool g.probe):=hAt.blk.cell 2
 have hni:(g.n:Int)<=12:=by omega
 have hni0:(0:Int)<=(g.n:Int):=by omega
 have hll:=hci.len;obtain⟨xs,hxs⟩:=nm (l.map fun e=>e.xs);have hplt:p<w.heap.size:=hAt.blk.lt;have HCI:=lh hci;have HG:=lh hg;have HX:=lh hx;have hord0:=hC.ord;obtain⟨oa,hoa⟩:=nm g.oa;rw[<-hoa]at hord0 k1;have HO:=lh hord0;have HXS:=lh hxs
 have HM:Hid (g.n+1<=maxLen):=by show _<=_;unfold maxLen;omega
 clear hC hci hg hx hAt hxs hne h2 hoa hord0;go_enter Tryz.func136,Tryz.ntmps136;go_wp2_with(at_make;go_loud(refine mk ziz rfl _ _ rfl w.heap.size .i64 .i64 _ _ (g.n+1) rfl rfl (by omega) (by omega) (by omega) HM.o (by simp) I1 0 rfl ?_));intro w1 ho1 hg1
 have hb1:Below w.heap.size w w1:=Kp.toBelow (M:=fun _=>False) (Kp.grown hg1 fun k h=>by cases h) (Nat.le_refl _) fun k _ h=>h
 have hk0:=zab hb1 k0;have hk1:=zab hb1 k1;have hk2:=zab hb1 k2;clear k0 hk1 hk2;have hlt1:w.heap.size<w1.heap.size:=(OwnL.lt ho1).1;have hb2:Below w.heap.size w (w1.alloc (.cells #[.int .i64 g.n,.slice none 0 0] 26)):=hb1.alloc (by omega) _
 have h0:CHS g.n w w1.heap.size (w1.alloc (.cells #[.int .i64 g.n,.slice none 0 0] 26)) [] []:=
  ⟨hb2,by
    have e:tmsF g.n []=List.replicate (g.n+1) 0:=by
     apply List.ext_getElem
     ·simp[tmsF]
     intro j h1 h2;rw[zgr];simp
    rw[e];exact ho1.alloc _,⟨none,0,Blk.new w1 _ _,OwnL.nil _ _,fun q hq=>by simp at hq⟩,hlt1⟩
 have H0:=lh h0
 have HSUM:Hid (∀k,(((xs.take k).flatten).length<=k*256)):=lh fun k=>by
  have hx2:∀c∈xs,c.length<=256:=fun c hc=>by
   rw[HXS.o]at hc;obtain⟨e,he,rfl⟩:=List.mem_map.1 hc;exact(HCI.o.xs e he).1
  clear h0 hb2 ho1 hg1
  induction k with
  |zero=>simp
  |succ k ih=>
    rcases Nat.lt_or_ge k xs.length with h|h
    ·rw[List.take_succ_eq_append_getElem h,List.flatten_append,List.length_append];have:=hx2 _ (List.getElem_mem h)
     have e1:([xs[k]]:List Cl).flatten.length=xs[k].length:=by simp
     rw[e1];omega
    rw[List.take_of_length_le (by omega)]at ih⊢;omega
 clear h0 hb2 ho1 hg1 hb1;go_wp2_with fail
 go_loopw[28](fun i wr=>∃k:Nat,k<=l.length/\i=.int .i64 k/\CHS g.n w w1.heap.size wr ((xs.take k).flatten) (l.take k))(fun i _=>l.length-(intOf i).toNat)
 case atStart=>exact⟨0,Nat.zero_le _,rfl,H0.o⟩
 rename World=>wx
 obtain⟨k,hk,rfl,hch⟩:=hrel;have HCH:=lh hch
 by_cases hlt:k<l.length
 ·obtain⟨blk,off,rfl,c0,c1,ic⟩:=HCI.o.cc k hlt;have d0:=zab hch.hb c0;have d1:=zab hch.hb c1
  have hki:(k:Int)<(l.length:Int):=by omega
  obtain⟨e,he⟩:=nm (gd l k);rw[<-he]at d0 d1 ic
  have heM:e∈l:=by rw[he,zar hlt];exact List.getElem_mem hlt
  have hexl:=(HCI.o.xs e heM).1
  have hext:(xs.take (k+1))=xs.take k++[e.xs]:=by
   have hl:k<xs.length:=by rw[HXS.o,List.length_map];exact hlt
   rw[List.take_succ_eq_append_getElem hl]
   congr 1
   have:xs[k]=(l.map fun e=>e.xs)[k]'(by rw[List.length_map];exact hlt):=by simp[HXS.o]
   rw[this,he,zar hlt];simp
  have hltk:l.take (k+1)=l.take k++[e]:=by rw[List.take_succ_eq_append_getElem hlt,he,zar hlt]
  obtain⟨ea,ec,ex,ei⟩:=e;simp only at d0 d1 ic hexl hext hltk
  have hlit:∀y∈ex,litN g.n y:=fun y hy=>(HG.o.gc ex (List.mem_map.2 ⟨⟨ea,ec,ex,ei⟩,heM,rfl⟩)).rg y hy
  have hbx:Below wx.heap.size wx (wx.alloc (.cells #[.slice ea ex.length ec,.int .i64 ei] 163)):=ba _ _;obtain⟨ys,hys⟩:=nm ((xs.take k).flatten)
  have hyl:ys.length<=k*256:=by rw[hys];exact HSUM.o k
  have HYL:=lh hyl;rw[<-hys]at HCH hch;have HYS:=lh hys
  have HIN:Hid (CHS g.n w w1.heap.size (wx.alloc (.cells #[.slice ea ex.length ec,.int .i64 ei] 163)) (ys++ex.take 0) (l.take k)/\Below wx.heap.size wx (wx.alloc (.cells #[.slice ea ex.length ec,.int .i64 ei] 163))/\(wx.alloc (.cells #[.slice ea ex.length ec,.int .i64 ei] 163)).cell? ⟨wx.heap.size,0,none⟩=some (.slice ea ex.length ec)):=
   ⟨by simpa using hch.later hbx,hbx,by rw[World.cell?_alloc_at _ _ _ _ rfl];rfl⟩
  have hbw0:w.heap.size<wx.heap.size:=by have:=hch.hb.size;have:=hch.tm.lt.1;omega
  have hbt0:w1.heap.size<wx.heap.size:=by obtain⟨_,_,h1,_⟩:=hch.th;exact h1.lt
  have HIC:=lh ic;have HXT:=lh hext;have HLK:=lh hltk;have HLIT:=lh hlit;clear hch c0 c1 ic he heM hext hltk hlit hys hyl hbx;go_wp2_with fail
  go_loopw[35](fun i wr2=>∃q:Nat,q<=ex.length/\i=.int .i64 q/\CHS g.n w w1.heap.size wr2 (ys++ex.take q) (l.take k)/\wr2.cell? ⟨wx.heap.size,0,none⟩=some (.slice ea ex.length ec))(fun i _=>ex.length-(intOf i).toNat)
  case atStart=>exact⟨0,Nat.zero_le _,rfl,HIN.o.1,HIN.o.2.2⟩
  obtain⟨q,hq,rfl,hch2,hbc⟩:=hrel;have HCH2:=lh hch2;have HBC:=lh hbc
  by_cases hqt:q<ex.length
  ·obtain⟨b2,off2,rfl,c2⟩:=HIC.o.keep hch2.hb q hqt;obtain⟨y,hy⟩:=nm ex[q]
   have hyg:ex.getD q 0=y:=by rw[hy];simp[List.getD_eq_getElem?_getD,hqt]
   rw[hyg]at c2;have hyn:=HLIT.o y (by rw[hy];exact List.getElem_mem hqt)
   have hvv:zac y=((zac y).toNat:Int)/\1<=(zac y).toNat/\(zac y).toNat<=g.n:=by
    have h0:=hyn.1;have h1:=hyn.2;have:=zam h0 (by omega) (by omega);rw[this]
    split<;>omega
   obtain⟨v,hv⟩:=nm ((zac y).toNat);rw[<-hv]at hvv;obtain⟨hv1,hv2,hv3⟩:=hvv
   have HLV:Hid (∀V,Calls Tryz.prog 73 #[.int .i64 y] V fun e w'=>e=.returned (.int .i64 (v:Int))/\V=w'):=by
    intro V;have:=zbe y V;rw[hv1]at this;exact this
   have htl:=zm6 g.n (ys++ex.take q)
   have ct:wr.cell? ⟨w.heap.size,v,none⟩=some (.int .i64 ((((ys++ex.take q).countP fun y=>decide (zac y=(v:Int)):Nat):Int))):=by
    have:=OwnL.cell htl.symm hch2.tm (fun _=>rfl) v 0 (by omega) (by omega);rw[zgr]at this
    simpa[I1]using this
   have cf:=OwnL.fr htl.symm hch2.tm v;have HB:=lh (hch2.bump (y:=y) hv1 hv3)
   have hcn:((ys++ex.take q).countP fun y=>decide (zac y=(v:Int)))<=2097152:=by
    have h1:=List.countP_le_length (p:=fun y=>decide (zac y=(v:Int))) (l:=ys++ex.take q);have h2:=HYL.o
    have h3:(ys++ex.take q).length<=ys.length+ex.length:=by rw[List.length_append,List.length_take];omega
    omega
   have htk:ex.take (q+1)=ex.take q++[y]:=by rw[List.take_succ_eq_append_getElem hqt,hy]
   have HTK:=lh htk
   have hqi:(q:Int)<(ex.length:Int):=by omega
   have hvi:(v:Int)<(g.n:Int)+1:=by omega
   have hvi0:(0:Int)<=(v:Int):=by omega
   have hwsz:=hch2.tm.lt.1
   obtain⟨c,hc⟩:∃c:Nat,c=((ys++ex.take q).countP fun y=>decide (zac y=(v:Int))):=⟨_,rfl⟩
   rw[<-hc]at ct HB hcn
   have hci1:(c:Int)<=2097152:=by omega
   have hci0:(0:Int)<=(c:Int):=by omega
   have HBK:Hid (∀u,(wr.setCell ⟨w.heap.size,v,none⟩ u).cell? ⟨wx.heap.size,0,none⟩=some (.slice (some ⟨b2,off2,none⟩) ex.length ec)):=lh fun u=>
    (Kp.setCell (M:=fun k=>k=w.heap.size) wr ⟨w.heap.size,v,none⟩ u rfl).cell hbc (by simp only;omega)
   clear hch2 hbc hy hyg hyn hv hv1 htl htk hc;go_wp2_with fail;refine(HLV.o _).mono ?_;rintro e9 w9⟨rfl,rfl⟩;go_wp2;go_roundw
   case rel=>
    refine⟨q+1,by omega,by go_num,?_,HBK.o _⟩;rw[HTK.o,<-List.append_assoc];exact HB.o
   case measure=>simp[intOf];omega
  have hqe:q=ex.length:=by omega
  obtain⟨la,lc,h1,h3,h4⟩:=hch2.th
  have HNX:Hid (CHS g.n w w1.heap.size wr (ys++ex) (l.take k)):=by
   have:=hch2;rw[hqe,List.take_length]at this;exact this
  have kt1:=h1.cell 1;have kf1:=h1.fr 1
  have hltl:(l.take k).length=k:=by simp;omega
  rw[hltl]at h1 h3 kt1;have H1:=lh h1;have H3:=lh h3;have H4:=lh h4
  have hkl:k<=4096:=by omega
  have hbw:=hch2.tm.lt.1;have hbt:=h1.lt;have hsz:w.heap.size<=wr.heap.size:=hch2.hb.size;have hwb:w.heap.size<w1.heap.size:=hch2.bt';have HBB:=lh hch2.hb;clear hch2 h1 h3 h4;go_wp2_with(at_builtin;go_loud(refine zlx (C:=#[.slice ea ex.length ec]) yci rfl _ _ rfl w.heap.size (.slice la k lc) (l.take k) ⟨ea,ec,ex,ei⟩ rfl H3.o rfl rfl rfl (by intro u hu;simp[cls1]at hu;subst hu;rfl) (by omega) (by decide) hsz ?_));intro gg cg w3 ho hg3 hnw;obtain⟨hpu,kt3,kf3,kb3⟩:=HNX.o.push hltl H1.o H4.o ho hg3 hnw;have HPU:=lh hpu;clear ho hg3 hnw hpu kt1 kf1;go_wp2;go_roundw
  case rel=>
   refine⟨k+1,by omega,by go_num,?_⟩;rw[HLK.o,HXT.o,List.flatten_append,<-HYS.o];have:=HPU.o
   simpa using this
  case measure=>simp[intOf];omega
 have hke:k=l.length:=by omega
 have hall:(xs.take k).flatten=xs.flatten/\l.take k=l:=by
  have h1:xs.length=l.length:=by rw[HXS.o,List.length_map]
  exact⟨by rw[List.take_of_length_le (by omega)],by rw[List.take_of_length_le (by omega)]⟩
 rw[hall.1,hall.2]at hch
 have hfl:xs.flatten.length<=1048576:=by
  have h1:=HSUM.o k;rw[hall.1]at h1;omega
 have HCF:=lh hch;have HFL:=lh hfl;have j1:=zab hch.hb k1;have j2:=zab hch.hb k2
 have hki:¬((k:Int)<(l.length:Int)):=by omega
 have HOR:=lh (HO.o.keep hch.hb);have hord:g.order.length<=g.order.length:=Nat.le_refl _;clear hch hall hfl HCH;go_wp2_with fail
 go_loopw[61](fun i wr2=>∃q:Nat,q<=g.order.length/\i=.int .i64 q/\wr2=wx/\∀j,j<q->zap xs (g.order.getD j 0)=0)(fun i _=>g.order.length-(intOf i).toNat)
 case atStart=>exact⟨0,Nat.zero_le _,rfl,rfl,fun j hj=>by omega⟩
 obtain⟨q,hq,rfl,hwr,hno⟩:=hrel;subst hwr;have HNO:=lh hno;clear hno
 by_cases hqt:q<g.order.length
 ·obtain⟨b2,off2,rfl,c2⟩:=HOR.o q hqt;obtain⟨y,hy⟩:=nm (g.order.getD q 0);rw[<-hy]at c2;have hyo:=HX.o.od y (by rw[hy,List.getD_eq_getElem?_getD,List.getElem?_eq_getElem hqt];exact List.getElem_mem hqt)
  obtain⟨v,rfl⟩:∃v:Nat,y=(v:Int):=⟨y.toNat,by omega⟩
  have hvn:v<=g.n:=by omega
  have ct:=HCF.o.time hvn;have htl:=zm5 xs (v:Int) HFL.o
  have hqi:(q:Int)<(g.order.length:Int):=by omega
  have hql:(q:Int)<=1073741824:=by have:=HX.o.ol;omega
  have hvi:(v:Int)<(g.n:Int)+1:=by omega
  have hvi0:(0:Int)<=(v:Int):=by omega
  by_cases hpos:0<zap xs (v:Int)
  ·have hres:=zwx (probe:=g.probe) (n:=g.n) hqt HNO.o (by rw[<-hy];exact hpos);rw[<-hy]at hres;have HRES:=lh hres;have HBW:=lh HCF.o.hb
   have hct:(0:Int)<((zap xs (v:Int):Nat):Int):=by omega
   clear hres hy htl;generalize zap xs (v:Int)=c at*;go_wp2;go_ret;exact⟨by rw[<-HXS.o,HRES.o];rfl,HBW.o⟩
  have hz:zap xs (v:Int)=0:=by omega
  have HR:Hid (∀j,j<q+1->zap xs (g.order.getD j 0)=0):=lh fun j hj=>by
   rcases Nat.lt_or_ge j q with h|h
   ·exact HNO.o j h
   have:j=q:=by omega
   subst this;rw[<-hy];exact hz
  rw[hz]at ct;clear hy htl hpos hz;go_wp2;go_roundw
  case rel=>exact⟨q+1,by omega,by go_num,by first|rfl|trivial,HR.o⟩
  case measure=>simp[intOf];omega
 have hqe:q=g.order.length:=by omega
 subst hqe;have HBF:Hid (chF g.order g.probe g.n xs=zdd g.probe g.n xs (g.n+1) 0 0):=zww HNO.o;clear HNO;go_wp2_with fail
 go_loopw[74,13](fun i b wr2=>∃q:Nat,q<=g.n+1/\i=.int .i64 q/\∃bb:Nat,bb<=g.n/\b=.int .i64 bb/\CHS g.n w w1.heap.size wr2 xs.flatten l/\chF g.order g.probe g.n xs=zdd g.probe g.n xs (g.n+1-q) q bb)(fun i _ _=>g.n+1-(intOf i).toNat)
 case atStart=>exact⟨0,Nat.zero_le _,rfl,0,Nat.zero_le _,rfl,HCF.o,HBF.o⟩
 obtain⟨q,hq,rfl,bb,hbb,rfl,hch3,hbf⟩:=hrel;have HB3:=lh hch3;have HBF3:=lh hbf
 by_cases hqt:q<=g.n
 ·have ct:=hch3.time hqt;have cb:=hch3.time hbb;have htl:=zm5 xs (q:Int) HFL.o;have htl2:=zm5 xs (bb:Int) HFL.o;obtain⟨la,lc,e0,e1,hls⟩:=hch3.ls HCI.o;rw[<-HXS.o]at hls;have j2:=zab hch3.hb k2
  have hstep:zdd g.probe g.n xs (g.n+1-q) q bb=zdd g.probe g.n xs ((g.n-q)+1) q bb:=by rw[show g.n+1-q=(g.n-q)+1 by omega]
  rw[zdd]at hstep;have HST:=lh hstep
  have hqi:(q:Int)<(g.n:Int)+1:=by omega
  have hqi0:(0:Int)<=(q:Int):=by omega
  have hbi:(bb:Int)<(g.n:Int)+1:=by omega
  have hbi0:(0:Int)<=(bb:Int):=by omega
  have HLS:=lh hls
  have hxl:xs.length=l.length:=by rw[HXS.o,List.length_map]
  clear hch3 hbf hstep hls
  by_cases hz:zap xs (q:Int)=0
  ·have HN:Hid (chF g.order g.probe g.n xs=zdd g.probe g.n xs (g.n+1-(q+1)) (q+1) bb):=by
    show _=_
    rw[HBF3.o,HST.o,if_pos hz,show g.n+1-(q+1)=g.n-q by omega]
   rw[hz]at ct;clear hz htl htl2 cb e0 e1;go_wp2;go_roundw
   case rel=>exact⟨q+1,by omega,by go_num,bb,hbb,rfl,HB3.o,HN.o⟩
   case measure=>simp[intOf];omega
  have hqv:=zlp (n:=g.n) (by omega) (fun c hc x hx=>by
   rw[HXS.o]at hc
   exact(HG.o.gc c hc).rg x hx) (show 0<zap xs (q:Int)by omega)
  have hql1:litN g.n (q:Int):=⟨by omega,by omega,by omega⟩
  have hx128:∀c∈xs,c.length<=128/\∀x∈c,litN g.n x:=fun c hc=>by
   rw[HXS.o]at hc;exact⟨(HG.o.gc c hc).len (by omega),(HG.o.gc c hc).rg⟩
  have HFA:Hid (∀V,Below wr.heap.size wr V->Calls Tryz.prog 158 #[.agg #[.int .i64 g.n,.slice la l.length lc],.int .i64 (q:Int)] V fun e w'=>e=.returned (.bool (zb2 g.n xs q))/\Below V.heap.size V w'):=lh fun V hV=>by
   have:=znu g.n h12 la lc xs q V (HLS.o.keep hV) (by omega) hx128 hql1;rw[hxl]at this;exact this
  have HFB:Hid (∀V,Below wr.heap.size wr V->Calls Tryz.prog 158 #[.agg #[.int .i64 g.n,.slice la l.length lc],.int .i64 (-(q:Int))] V fun e w'=>e=.returned (.bool (zb2 g.n xs (-(q:Int))))/\Below V.heap.size V w'):=lh fun V hV=>by
   have:=znu g.n h12 la lc xs (-(q:Int)) V (HLS.o.keep hV) (by omega) hx128 (zgg hql1);rw[hxl]at this;exact this
  have hz0:¬(((zap xs (q:Int):Nat):Int)=0):=by omega
  have HQ1:Hid (1<=(q:Int)):=hqv.1
  have HTS:Hid (chF g.order g.probe g.n xs=if g.probe&&(zb2 g.n xs q||zb2 g.n xs (-(q:Int)))then(q:Int)else if zap xs (bb:Int)<zap xs (q:Int)then zdd g.probe g.n xs (g.n-q) (q+1) q else zdd g.probe g.n xs (g.n-q) (q+1) bb):=by
   show _=_
   rw[HBF3.o,HST.o,if_neg hz]
  have hneg:IntKind.i64.wrap (-(q:Int))=-(q:Int):=IntWalk.i64_in _ (by omega);clear hx128 hql1;obtain⟨pr,hpr⟩:=nm g.probe;rw[<-hpr]at j2;have HPR:=lh hpr;clear hpr
  cases pr with
  |false=>
    have HNX:Hid (chF g.order g.probe g.n xs=if zap xs (bb:Int)<zap xs (q:Int)then zdd g.probe g.n xs (g.n-q) (q+1) q else zdd g.probe g.n xs (g.n-q) (q+1) bb):=by
     show _=_
     rw[HTS.o,<-HPR.o];rfl
    clear hneg;go_wp2_with fail;have ct2:=HB3.o.time hqt;have cb2:=HB3.o.time hbb
    by_cases hgt:zap xs (bb:Int)<zap xs (q:Int)
    ·have HN:Hid (chF g.order g.probe g.n xs=zdd g.probe g.n xs (g.n+1-(q+1)) (q+1) q):=by
      show _=_
      rw[HNX.o,if_pos hgt,show g.n+1-(q+1)=g.n-q by omega]
     have hgi:((zap xs (bb:Int):Nat):Int)<((zap xs (q:Int):Nat):Int):=by omega
     have HHN:=lh HN;clear htl htl2 hz hqv hgt ct cb e0 e1 j2;generalize zap xs (q:Int)=cq at*;generalize zap xs (bb:Int)=cbb at*
     go_quiet(fail)
     go_wp2;go_roundw
     case rel=>exact⟨q+1,by omega,by go_num,q,by omega,rfl,HB3.o.later (zal _ _),HHN.o.out⟩
     case measure=>simp[intOf];omega
    have HN:Hid (chF g.order g.probe g.n xs=zdd g.probe g.n xs (g.n+1-(q+1)) (q+1) bb):=by
     show _=_
     rw[HNX.o,if_neg hgt,show g.n+1-(q+1)=g.n-q by omega]
    have hgi:¬(((zap xs (bb:Int):Nat):Int)<((zap xs (q:Int):Nat):Int)):=by omega
    have HHN:=lh HN;clear htl htl2 hz hqv hgt ct cb e0 e1 j2;generalize zap xs (q:Int)=cq at*;generalize zap xs (bb:Int)=cbb at*
    go_quiet(fail)
    go_wp2;go_roundw
    case rel=>exact⟨q+1,by omega,by go_num,bb,hbb,rfl,HB3.o.later (zal _ _),HHN.o.out⟩
    case measure=>simp[intOf];omega
  |true=>
    cases hf1:zb2 g.n xs (q:Int)with
    |true=>
      have HRES:Hid (chF g.order g.probe g.n xs=(q:Int)):=by
       show _=_
       rw[HTS.o,<-HPR.o,hf1];rfl
      rw[hf1]at HFA;clear hf1 hneg hqv;go_wp2_with fail;refine(HFA.o _ (Below.refl _ _)).mono ?_;rintro e w5⟨rfl,hb5⟩;have HB5:=lh (HB3.o.later hb5).hb;clear hb5;go_wp2;go_ret;exact⟨by rw[<-HXS.o,HRES.o];rfl,HB5.o⟩
    |false=>
      rw[hf1]at HFA
      cases hf2:zb2 g.n xs (-(q:Int))with
      |true=>
        have HRES:Hid (chF g.order g.probe g.n xs=(q:Int)):=by
         show _=_
         rw[HTS.o,<-HPR.o,hf1,hf2];rfl
        rw[hf2]at HFB;clear hf1 hf2 hqv;go_wp2_with fail;refine(HFA.o _ (Below.refl _ _)).mono ?_;rintro e w5⟨rfl,hb5⟩;have e05:=zab hb5 e0;have e15:=zab hb5 e1;have HB5:=lh hb5;clear hb5;go_wp2_with fail;refine(HFB.o _ HB5.o).mono ?_;rintro e w6⟨rfl,hb6⟩;have HB6:=lh (HB3.o.later (HB5.o.trans (hb6.mono HB5.o.size))).hb;clear hb6;go_wp2;go_ret;exact⟨by rw[<-HXS.o,HRES.o];rfl,HB6.o⟩
      |false=>
        have HNX:Hid (chF g.order g.probe g.n xs=if zap xs (bb:Int)<zap xs (q:Int)then zdd g.probe g.n xs (g.n-q) (q+1) q else zdd g.probe g.n xs (g.n-q) (q+1) bb):=by
         show _=_
         rw[HTS.o,<-HPR.o,hf1,hf2];rfl
        rw[hf2]at HFB;clear hf1 hf2;go_wp2_with fail;refine(HFA.o _ (Below.refl _ _)).mono ?_;rintro e w5⟨rfl,hb5⟩;have e05:=zab hb5 e0;have e15:=zab hb5 e1;have HB5:=lh hb5;clear hb5;go_wp2_with fail;refine(HFB.o _ HB5.o).mono ?_;rintro e w6⟨rfl,hb6⟩;have HB6:=lh (HB3.o.later (HB5.o.trans (hb6.mono HB5.o.size)));clear hb6 hneg e05 e15;go_wp2_with fail;have ct2:=HB6.o.time hqt;have cb2:=HB6.o.time hbb
        by_cases hgt:zap xs (bb:Int)<zap xs (q:Int)
        ·have HN:Hid (chF g.order g.probe g.n xs=zdd g.probe g.n xs (g.n+1-(q+1)) (q+1) q):=by
          show _=_
          rw[HNX.o,if_pos hgt,show g.n+1-(q+1)=g.n-q by omega]
         have hgi:((zap xs (bb:Int):Nat):Int)<((zap xs (q:Int):Nat):Int):=by omega
         have HHN:=lh HN;clear htl htl2 hz hqv hgt ct cb e0 e1 j2;generalize zap xs (q:Int)=cq at*;generalize zap xs (bb:Int)=cbb at*
         go_quiet(fail)
         go_wp2;go_roundw
         case rel=>exact⟨q+1,by omega,by go_num,q,by omega,rfl,HB6.o.later (zal _ _),HHN.o.out⟩
         case measure=>simp[intOf];omega
        have HN:Hid (chF g.order g.probe g.n xs=zdd g.probe g.n xs (g.n+1-(q+1)) (q+1) bb):=by
         show _=_
         rw[HNX.o,if_neg hgt,show g.n+1-(q+1)=g.n-q by omega]
        have hgi:¬(((zap xs (bb:Int):Nat):Int)<((zap xs (q:Int):Nat):Int)):=by omega
        have HHN:=lh HN;clear htl htl2 hz hqv hgt ct cb e0 e1 j2;generalize zap xs (q:Int)=cq at*;generalize zap xs (bb:Int)=cbb at*
        go_quiet(fail)
        go_wp2;go_roundw
        case rel=>exact⟨q+1,by omega,by go_num,bb,hbb,rfl,HB6.o.later (zal _ _),HHN.o.out⟩
        case measure=>simp[intOf];omega
 have hqe:q=g.n+1:=by omega
 have HRES:Hid (chF g.order g.probe g.n xs=bb):=by
  show _=_
  rw[HBF3.o,hqe,Nat.sub_self];rfl
 have hqi:¬((q:Int)<(g.n:Int)+1):=by omega
 have HBW:=lh hch3.hb;clear hch3 hbf;go_wp2;go_ret;exact⟨by rw[<-HXS.o,HRES.o];rfl,HBW.o⟩
end Go.Proofs.YtnlaakmglhjjmaaGreatDoor
