/- Parts of the proofs of laws. Texts: CqN. -/
import Derived.Test.YtnlaakmglhjjmaaGreatDoorYC27
set_option maxHeartbeats 8000000
set_option maxRecDepth 100000
set_option linter.all false
namespace Go.Proofs.YtnlaakmglhjjmaaGreatDoor
open Go.RowKit Cen
theorem zv3(g:Cfg)(hn:g.n<=128):zy7 g:=by
 intro F a cap l term w hci hg hF;obtain⟨xs,hxs⟩:=nm (l.map fun e=>e.xs);have hll:=hci.len
 have hxl:xs.length=l.length:=by rw[hxs,List.length_map]
 have HCI:=lh hci;have HG:=lh hg;have HF:=lh hF;have HXS:=lh hxs
 have HIN:Hid (SPL w l w (.slice none 0 0) (.slice none 0 0) []):=⟨Below.refl _ _,OwnL.nil _ _,OwnL.nil _ _,fun k h=>by simp[Value.ownBlock]at h,fun x h=>by simp at h,List.Pairwise.nil,fun x h=>by simp at h⟩
 clear hci hg hF hxs;go_enter Tryz.func100,Tryz.ntmps100;go_wp2_with fail
 go_loopw[3,4,16](fun vg vs i wr=>∃k:Nat,k<=l.length/\i=.int .i64 k/\∃(gs:List Grp)(ga:Option Addr)(gc:Nat)(sa:Option Addr)(sc:Nat),vg=.slice ga gs.length gc/\vs=.slice sa gs.length sc/\SPL w l wr vg vs gs/\modG gs=(xs.take k).foldl za5 []/\gs.length<=k)(fun _ _ i _=>l.length-(intOf i).toNat)
 case atStart=>exact⟨0,Nat.zero_le _,rfl,[],none,0,none,0,rfl,rfl,HIN.o,rfl,Nat.le_refl _⟩
 rename World=>wx
 obtain⟨k,hk,rfl,gs,ga,gc,sa,sc,rfl,rfl,hsp,hmd,hgl⟩:=hrel;have HSP:=lh hsp;have HMD:=lh hmd
 have hgl4:∀x∈gs,x.l.length<=4096:=fun x hx=>by
  have h1:=zje hx;rw[hmd]at h1;have h2:=zk3 (xs.take k);unfold zdg at h2;rw[h2,List.length_take]at h1;omega
 have HGL4:=lh hgl4;have HWX:=lh hsp.hb;clear hmd hgl4
 by_cases hlt:k<l.length
 ·obtain⟨blk,off,rfl,c0,c1,ic⟩:=HCI.o.cc k hlt;have d0:=zab hsp.hb c0;have d1:=zab hsp.hb c1
  have hki:(k:Int)<(l.length:Int):=by omega
  obtain⟨e,he⟩:=nm (gd l k);rw[<-he]at d0 d1 ic
  have heM:e∈l:=by rw[he,zar hlt];exact List.getElem_mem hlt
  have hexl:=(HCI.o.xs e heM).1
  have hext:(xs.take (k+1))=xs.take k++[e.xs]:=by
   have hl:k<xs.length:=by omega
   rw[List.take_succ_eq_append_getElem hl]
   congr 1
   have:xs[k]=(l.map fun e=>e.xs)[k]'(by rw[List.length_map];exact hlt):=by simp[HXS.o]
   rw[this,he,zar hlt];simp
  obtain⟨ea,ec,ex,ei⟩:=e;simp only at d0 d1 ic hexl hext;have HEM:=lh heM;have HXT:=lh hext;have HIC:=lh (ic.keep hsp.hb);have hq1:Blk ((wx.alloc (.cells #[.slice ea ex.length ec,.int .i64 ei] 163)).alloc (.cells #[.int .u64 0,.int .u64 0] 29)) wx.heap.size #[.slice ea ex.length ec,.int .i64 ei] 163:=(Blk.new wx _ _).alloc _;have hq2:Blk ((wx.alloc (.cells #[.slice ea ex.length ec,.int .i64 ei] 163)).alloc (.cells #[.int .u64 0,.int .u64 0] 29)) (wx.heap.size+1) (sts (zkq (ex.take 0))) 29:=Blk.new' _ (by simp) _ _;have hb0:Below wx.heap.size wx ((wx.alloc (.cells #[.slice ea ex.length ec,.int .i64 ei] 163)).alloc (.cells #[.int .u64 0,.int .u64 0] 29)):=(ba _ _).alloc (by simp) _
  have HQ1:=lh hq1;have HQ2:=lh hq2;have HB0:=lh hb0;clear hsp c0 c1 ic he heM hext hq1 hq2 hb0;go_wp2_with fail
  go_loopw[23](fun i wr2=>∃q:Nat,q<=ex.length/\i=.int .i64 q/\Blk wr2 wx.heap.size #[.slice ea ex.length ec,.int .i64 ei] 163/\Blk wr2 (wx.heap.size+1) (sts (zkq (ex.take q))) 29/\Below wx.heap.size wx wr2)(fun i _=>ex.length-(intOf i).toNat)
  case atStart=>exact⟨0,Nat.zero_le _,rfl,HQ1.o,HQ2.o,HB0.o⟩
  obtain⟨q,hq,rfl,hbE,hbS,hbl⟩:=hrel;have HBE:=lh hbE;have HBS:=lh hbS;have HBL:=lh hbl
  by_cases hqt:q<ex.length
  ·obtain⟨b2,off2,rfl,c2⟩:=HIC.o.keep hbl q hqt;obtain⟨y,hy⟩:=nm ex[q]
   have hyg:ex.getD q 0=y:=by rw[hy];simp[List.getD_eq_getElem?_getD,hqt]
   rw[hyg]at c2
   have hqi:(q:Int)<(ex.length:Int):=by omega
   have htk:zkq (ex.take (q+1))=(zkq (ex.take q)).add (zac y):=by rw[List.take_succ_eq_append_getElem hqt,<-hy,zte]
   have HTK:=lh htk;have HOK:=lh (zy2 (ex.take q));obtain⟨m0,m1,f0,f1⟩:=hbS.sc;have hlt1:=hbS.lt;clear hbE hbS hbl hy hyg htk;generalize zkq (ex.take q)=s at*;go_wp2_with fail
   go_region_with(first
    |(go_at_call 73;refine(zbe _ _).mono ?_;rintro e5 w5⟨rfl,rfl⟩)
    |(go_at_call 56;refine(zgs s (zac y) _ HOK.o).mono ?_;rintro e6 w6⟨rfl,hb6⟩;obtain⟨j0,j1,i0,i1⟩:=HBS.o.drewCall hb6))
   all_goals
    have HB6:=lh (zci hb6);clear hb6;go_wp2;go_roundw
    case rel=>
     refine⟨q+1,by omega,by go_num,?_,?_,?_⟩
     ·exact((HBE.o.later HB6.o).other _ _ (by simp)).other _ _ (by simp)
     ·rw[HTK.o];exact(HBS.o.later HB6.o).putSet _
     exact((HBL.o.trans (HB6.o.mono HBL.o.size)).setCell (by simp) _).setCell (by simp) _
    case measure=>simp[intOf];omega
  rename World=>wi
  have hqe:q=ex.length:=by omega
  subst hqe
  have hv:zkq (ex.take ex.length)=zdn ex:=by rw[List.take_length];rfl
  rw[hv]at hbS;have hsz1:wx.heap.size+1<wi.heap.size:=hbS.lt;have HSW:=lh (HSP.o.later hbl);have hbg:Below wi.heap.size wi (wi.alloc (.cells #[] 163)):=ba _ _;have hspw:=HSW.o.later hbg
  have hI:SPI w l gs ex (.slice ga gs.length gc) (.slice sa gs.length sc) (wx.heap.size+1) wx.heap.size wi.heap.size #[.slice ea ex.length ec,.int .i64 ei] (wi.alloc (.cells #[] 163)) 0 [] (.slice (some ⟨wi.heap.size,0,none⟩) 0 0) [] (zdn ex):=
   ⟨hspw.hb,by simpa using hspw.og,by simpa using hspw.os,by simp,World.ownsRow_lit wi #[] 0 (by have:=HSW.o.hb.size;omega) (by decide) rfl,fun k hk=>by
     have:wi.heap.size=k:=by simpa[Value.ownBlock]using hk
     omega,fun x hx=>(let⟨_,_,b,_,h4,_⟩:=hspw.gr x hx;h4),fun e h=>by simp at h,hbS.later hbg,zii ex,hbE.later hbg,by simp[modG]⟩
  have HR0:Hid (SPR w l gs ex (.slice ga gs.length gc) (.slice sa gs.length sc) (wx.heap.size+1) wx.heap.size wi.heap.size #[.slice ea ex.length ec,.int .i64 ei] (wi.alloc (.cells #[] 163)) (.int .i64 ((0:Nat):Int)) (.slice (some ⟨wi.heap.size,0,none⟩) 0 0) (.int .i64 ((0:Nat):Int))):=
   ⟨0,[],some ⟨wi.heap.size,0,none⟩,0,[],zdn ex,Nat.zero_le _,rfl,rfl,rfl,hI,by simp,by simp⟩
  have hSB:SPB gs w (.slice ga gs.length gc) (.slice sa gs.length sc) (wx.heap.size+1) wx.heap.size wi.heap.size:=
   ⟨fun k hk=>World.ownsRow.lt HSP.o.og k hk,fun k hk=>World.ownsRow.lt HSP.o.os k hk,HSP.o.ne,fun x hx k hk=>by
     obtain⟨_,_,b,h3,h4,h5,h6⟩:=HSP.o.gr x hx
     have:b=k:=by rw[h3]at hk;simpa[Value.ownBlock]using hk
     subst this
     exact⟨(World.ownsRow.lt h4 _ hk).2,h5,h6⟩,by have:=HSP.o.hb.size;omega,by omega,by omega⟩
  have HSB:=lh hSB;clear hv hbS hbE hbl hbg hspw hI HIC HBE HBS hSB;go_wp2_with fail
  go_loopw[35,10,11](fun i vG kp wr3=>SPR w l gs ex (.slice ga gs.length gc) (.slice sa gs.length sc) (wx.heap.size+1) wx.heap.size wi.heap.size #[.slice ea ex.length ec,.int .i64 ei] wr3 i vG kp)(fun i _ _ _=>gs.length-(intOf i).toNat)
  case atStart=>exact HR0.o
  obtain⟨j,K,gG,cG,GL,cur,hj,rfl,rfl,rfl,hsi,hgll,hbg3⟩:=hrel;have HSI:=lh hsi;have HBG3:=lh hbg3
  have hKl:K.length<=j:=by
   have:=hsi.sub.length_le;rw[List.length_take]at this;omega
  by_cases hjt:j<gs.length
  ·obtain⟨x,hxe⟩:=nm gs[j]
   have hxj:gs[j]?=some x:=by rw[hxe];exact List.getElem?_eq_getElem hjt
   have hxm:x∈gs:=by rw[hxe];exact List.getElem_mem hjt
   have hal:(K++gs.drop K.length).length=gs.length:=by simp;omega
   have haj:(K++gs.drop K.length)[j]'(by omega)=x:=by
    rw[List.getElem_append_right hKl,List.getElem_drop,hxe];congr 1;omega
   obtain⟨gA,rfl⟩:∃gA,ga=some ⟨gA,0,none⟩:=by
    rcases hsi.og.shape with⟨_,h2⟩|⟨gA,cp,h1,_⟩
    ·rw[h2]at hal;simp at hal;omega
    simp only[Value.slice.injEq]at h1;exact⟨gA,h1.1⟩
   obtain⟨gS,rfl⟩:∃gS,sa=some ⟨gS,0,none⟩:=by
    rcases hsi.os.shape with⟨_,h2⟩|⟨gS,cp,h1,_⟩
    ·have:=congrArg List.length h2;rw[List.length_map]at this;simp at this;omega
    simp only[Value.slice.injEq]at h1;exact⟨gS,h1.1⟩
   have cg:wr.cell? ⟨gA,j,none⟩=some (.slice x.a x.l.length x.c):=by
    have:=hsi.og.cell hal.symm zd5 j 0 (by omega) (by omega);rw[haj]at this;simpa[encG]using this
   have csl:j<((K++gs.drop K.length).map fun x=>x.s).length:=by rw[List.length_map];omega
   have hajs:((K++gs.drop K.length).map fun x=>x.s)[j]=x.s:=by rw[List.getElem_map,haj]
   have cs0:wr.cell? ⟨gS,j*2,none⟩=some (.int .u64 (x.s.a:Int)):=by
    have:=hsi.os.cell (by rw[List.length_map];exact hal.symm) zbi j 0 csl (by omega);rw[hajs]at this;simpa[stc]using this
   have cs1:wr.cell? ⟨gS,j*2+1,none⟩=some (.int .u64 (x.s.b:Int)):=by
    have:=hsi.os.cell (by rw[List.length_map];exact hal.symm) zbi j 1 csl (by omega);rw[hajs]at this;simpa[stc]using this
   have hgr:=HSP.o.gr x hxm;have hcx:=HSP.o.ci x hxm;have hgrs:=hsi.grs x hxm;obtain⟨xa,xc,xl,xS⟩:=x;simp only at cg cs0 cs1 hgr hcx hgrs;obtain⟨hxok,hxne,xb,rfl,_,_,_⟩:=hgr
   have hji:(j:Int)<(gs.length:Int):=by omega
   obtain⟨m0,m1,f0,f1⟩:=hsi.box.sc;have hbsl:=hsi.box.lt;have HXJ:=lh hxj;have HCX:=lh hcx;have HXOK:=lh hxok;have HCOK:=lh hsi.cok;have HGX:=lh hgrs;have HXNE:=lh hxne;have HXL:Hid (xl.length<=4096):=HGL4.o _ hxm;have HAL:=lh hal;have HBGI:Hid (wi.heap.size<=wr.heap.size):=HBG3.o
   have hKi:(K.length:Int)<(gs.length:Int):=by omega
   have hKi2:(K.length:Int)<=4096:=by omega
   have hgd:=zfp
   cases hcz:eqSt (xS.cut cur) St.zero
   all_goals
    have HCZ:=lh hcz
    have hn2:∀w:World,(binOp .neq 29 (.agg #[.int .u64 ((xS.cut cur).a:Int),.int .u64 ((xS.cut cur).b:Int)]) (.agg #[.int .u64 0,.int .u64 0])).run Tryz.prog w=.ok (.bool !(eqSt (xS.cut cur) St.zero)) w:=fun w=>zjw _ St.zero w
    rw[hcz]at hn2;clear hcz hsi hxe hxj hxm hal haj csl hajs hcx hgrs hxok hxne hbg3
   ·go_wp2_with fail
    go_region_with(go_at_call 107;refine(zph xS cur _ HXOK.o HCOK.o).mono ?_;rintro e5 w5⟨rfl,hb5⟩)
    all_goals
     have hb5':=zci hb5;have HB5:=lh hb5';have cg5:=zab hb5' cg;have cs05:=zab hb5' cs0;have cs15:=zab hb5' cs1;have HSI5:=lh (HSI.o.later hb5');have HGX5:=lh (HGX.o.later hb5');have hsz5:w.heap.size<=w5.heap.size:=(HSI.o.later hb5').hb.size;have hxl4:xl.length<=4096:=HXL.o;clear hb5 hb5' m0 m1 f0 f1 cg cs0 cs1;go_wp2_with(at_builtin;go_loud(refine zql rfl _ _ rfl w.heap.size (.slice gG GL.length cG) GL rfl HSI5.o.grp xb xc w.heap.size xl rfl HGX5.o HXNE.o (by omega) (by omega) hsz5 ?_));intro gg cg' w6 ho6 hg6 hn6
     have hk6:Kp (fun k=>(Value.slice gG GL.length cG).ownBlock=some k) w5 w6:=Kp.grown hg6 fun k hk=>hk
     have hgb:=HSI5.o.gb;obtain⟨o1,o2,o3⟩:=HSB.o.o;obtain⟨_,s2⟩:=HSB.o.s gS rfl;have hbl6:=HSI5.o.box.kept hk6 (fun e=>by have:=hgb _ e;omega);have cs06:=hk6.cell cs05 (fun e=>by have:=hgb _ e;simp only at this;omega);have cs16:=hk6.cell cs15 (fun e=>by have:=hgb _ e;simp only at this;omega);obtain⟨m0,m1,f0,f1⟩:=hbl6.sc;have hbl:=hbl6.lt;have HBL6:=lh hbl6;have HO6:=lh ho6;have HG6:=lh hg6;have HN6:=lh hn6
     have HBGW:Hid (wi.heap.size<=w5.heap.size):=by
      show _<=_
      have h1:=HSI5.o.bxE.lt;have h2:=HB5.o.size;have h3:=HBGI.o;omega
     clear hk6 hgb hbl6 cs05 cs15 cg5 ho6 hg6 hn6;go_wp2_with fail
     go_region_with(go_at_call 74;refine(zou cur xS _ HCOK.o HXOK.o).mono ?_;rintro e7 w7⟨rfl,hb7⟩;obtain⟨j0,j1,i0,i1⟩:=HBL6.o.drewCall hb7)
     all_goals
      have HB7:=lh (zci hb7);have HFIN:=lh (SPI.join HSB.o HXJ.o HXOK.o HCX.o HSI5.o (by have:=HCZ.o;intro h;rw[h]at this;simp[eqSt]at this) HO6.o HG6.o HN6.o HBGW.o HB7.o);clear hb7;go_wp2;go_roundw
      case rel=>exact⟨j+1,K,some ⟨gg,0,none⟩,cg',GL++xl,cur.union xS,by omega,by go_num,rfl,by rw[List.length_append],by rw[List.length_append];exact HFIN.o,by rw[List.length_append];omega,by have h1:=HBGW.o;have h2:=HB7.o.size;have h3:=HG6.o.size;simp only[World.size_setCell'];omega⟩
      case measure=>simp[intOf];omega
   go_wp2_with fail
   go_region_with(go_at_call 107;refine(zph xS cur _ HXOK.o HCOK.o).mono ?_;rintro e5 w5⟨rfl,hb5⟩)
   all_goals
    have hb5':=zci hb5;have hsi5:=HSI.o.later hb5';have cg5:=zab hb5' cg;have cs05:=zab hb5' cs0;have cs15:=zab hb5' cs1
    have hzz:xS.cut cur=St.zero:=by have:=HCZ.o;simpa[eqSt]using this
    have HKEEP:=lh (SPI.keep HSB.o HXJ.o hsi5 hzz)
    have hKa:K.length<(K++gs.drop K.length).length:=by rw[HAL.o];omega
    have y0:=hsi5.og.cell HAL.o.symm zd5 K.length 0 hKa (by omega);have y1:=hsi5.os.cell (by rw[List.length_map];exact HAL.o.symm) zbi K.length 0 (by rw[List.length_map];exact hKa) (by omega);have y2:=hsi5.os.cell (by rw[List.length_map];exact HAL.o.symm) zbi K.length 1 (by rw[List.length_map];exact hKa) (by omega);have z0:=hsi5.og.fr HAL.o.symm K.length;have z1:=hsi5.os.fr (by rw[List.length_map];exact HAL.o.symm) (K.length*2);have z2:=hsi5.os.fr (by rw[List.length_map];exact HAL.o.symm) (K.length*2+1);have l0:=(World.ownsRow.lt hsi5.og gA rfl).2;have l1:=(World.ownsRow.lt hsi5.os gS rfl).2
    have hne:gA≠gS:=fun e=>HSB.o.ne gA rfl (by rw[e];rfl)
    simp only[Nat.mul_one,Nat.add_zero]at y0 y1 y2
    obtain⟨v0,hv0⟩:∃v,w5.cell? ⟨gA,K.length,none⟩=some v:=⟨_,y0⟩
    obtain⟨v1,hv1⟩:∃v,w5.cell? ⟨gS,K.length*2,none⟩=some v:=⟨_,y1⟩
    obtain⟨v2,hv2⟩:∃v,w5.cell? ⟨gS,K.length*2+1,none⟩=some v:=⟨_,y2⟩
    have HBG5:Hid (wi.heap.size<=w5.heap.size):=Nat.le_trans HBGI.o hb5'.size;clear hsi5 hb5 hb5' m0 m1 f0 f1 cg cs0 cs1 hzz y0 y1 y2;go_wp2_with fail;go_region
    all_goals
     go_wp2;go_roundw
     case rel=>exact⟨j+1,K++[⟨some ⟨xb,0,none⟩,xc,xl,xS⟩],gG,cG,GL,cur,by omega,by go_num,by rw[List.length_append];rfl,rfl,HKEEP.o.later (Below.refl _ _).drew,by omega,by have:=HBG5.o;simp only[World.size_setCell',World.drew];omega⟩
     case measure=>simp[intOf];omega
  have hje:gs.length<=j:=by omega
  have hje2:gs.drop j=[]:=List.drop_eq_nil_of_le hje
  have hKg:K.length<=gs.length:=by omega
  have hal:(K++gs.drop K.length).length=gs.length:=by simp;omega
  have HMOD:Hid (∀a c,modG (K++[⟨a,c,GL++[⟨ea,ec,ex,ei⟩],cur⟩])=za5 (modG gs) ex):=fun a c=>zxz hsi hje a c _ rfl
  have hgl4:GL.length<=1073741824:=by omega
  have HOGS:Hid (OwnL encG 130 1 wr w.heap.size (.slice ga K.length gc) K/\OwnL stc 29 2 wr w.heap.size (.slice sa K.length sc) (K.map fun x=>x.s)):=by
   refine⟨?_,?_⟩
   ·rcases hsi.og.shape with⟨h1,h2⟩|⟨gA,cp,h1,_⟩
    ·have hK0:K=[]:=by
      cases K with
      |nil=>rfl
      |cons a b=>simp at h2
     simp only[Value.slice.injEq]at h1;obtain⟨rfl,_,rfl⟩:=h1;subst hK0;exact OwnL.nil _ _
    simp only[Value.slice.injEq]at h1;obtain⟨rfl,_,rfl⟩:=h1;exact OwnL.cutL zd5 hal.symm rfl hsi.og
   rcases hsi.os.shape with⟨h1,h2⟩|⟨gA,cp,h1,_⟩
   ·have hK0:K=[]:=by
     cases K with
     |nil=>rfl
     |cons a b=>simp at h2
    simp only[Value.slice.injEq]at h1;obtain⟨rfl,_,rfl⟩:=h1;subst hK0;exact OwnL.nil _ _
   simp only[Value.slice.injEq]at h1;obtain⟨rfl,_,rfl⟩:=h1;have:=hsi.os;rw[List.map_append]at this;exact OwnL.cutL zbi (by rw[<-List.map_append,List.length_map];exact hal.symm) (by rw[List.length_map]) this
  have hca:=(hsi.nilcase hKg).1;have hcs:=(hsi.nilcase hKg).2
  have HSEP:Hid ((∀k,(Value.slice ga K.length gc).ownBlock=some k->¬(Value.slice gG GL.length cG).ownBlock=some k)/\(∀k,(Value.slice sa K.length sc).ownBlock=some k->¬(Value.slice gG GL.length cG).ownBlock=some k)/\(∀k,(Value.slice sa K.length sc).ownBlock=some k->¬(Value.slice ga K.length gc).ownBlock=some k)/\(¬(Value.slice gG GL.length cG).ownBlock=some (wx.heap.size+1))/\¬(Value.slice ga K.length gc).ownBlock=some (wx.heap.size+1)):=by
   obtain⟨o1,o2,o3⟩:=HSB.o.o
   have A:∀k,(Value.slice ga K.length gc).ownBlock=some k->k<wx.heap.size:=fun k hk=>(HSB.o.g k (by rw[zrj _ _ K.length];exact hk)).2
   have B:∀k,(Value.slice sa K.length sc).ownBlock=some k->k<wx.heap.size:=fun k hk=>(HSB.o.s k (by rw[zrj _ _ K.length];exact hk)).2
   refine⟨fun k hk e=>?_,fun k hk e=>?_,fun k hk e=>HSB.o.ne k (by rw[zrj _ _ K.length];exact e) (by rw[zrj _ _ K.length];exact hk),fun e=>?_,fun e=>?_⟩
   ·have h1:=A k hk;have h2:=hsi.gb k e;omega
   ·have h1:=B k hk;have h2:=hsi.gb k e;omega
   ·have h2:=hsi.gb _ e;omega
   have h1:=A _ e;omega
  have c0:=hsi.bxE.cell 0;have c1:=hsi.bxE.cell 1;have hbxl:=hsi.bxE.lt;have HG1:=lh hsi.grp
  have HN1:Hid (∀j u,(ce ⟨ea,ec,ex,ei⟩)[j]?=some u->(wr.alloc (.cells #[.slice ea ex.length ec,.int .i64 ei] 163)).cell? ⟨wr.heap.size,j,none⟩=some u):=fun j u h=>by
   rw[World.cell?_alloc_at _ _ _ _ rfl];simpa[ce]using h
  have HO1:Hid (∀u∈ce ⟨ea,ec,ex,ei⟩,u.oneCell'=true):=fun u hu=>zzd [⟨ea,ec,ex,ei⟩] u (by simpa using hu)
  have HL1:=lh hgl4;have HB1:Hid (w.heap.size<=wr.heap.size):=hsi.hb.size;have HKG:=lh hKg;have HJE:=lh hje;clear hsi hje hje2 hal hgl4 hbg3 hKl
  have HKL:Hid (K.length<=1073741824/\(K.map fun x=>x.s).length<=1073741824):=by
   refine⟨by omega,by rw[List.length_map];omega⟩
  have hKc:K.length<=gs.length:=HKG.o
  rcases hca with⟨rfl,rfl,rfl,hK0⟩|⟨gA,rfl,hca⟩<;>rcases hcs with⟨rfl,rfl,h0,hK0⟩|⟨gS,rfl,hcs⟩
  all_goals
   try subst h0
   try(
    have hKl0:K.length=0:=by rw[hK0];rfl
    rw[hKl0]at HOGS HSEP)
   try clear hK0
   try have hKc1:K.length<=gc:=by omega
   try have hKc2:K.length<=sc:=by omega
   go_wp2_with fail
   go_region_law(first
    |(refine zd1 zma rfl _ _ rfl w.heap.size (.slice gG GL.length cG) GL ⟨ea,ec,ex,ei⟩ rfl (HG1.o.alloc _).drew wr.heap.size rfl rfl HN1.o HO1.o HL1.o (by decide) (Nat.le_trans HB1.o (by simp[World.drew])) ?_;intro gg c3 w3 ho3 hg3 hl3;have HK3:=lh (Kp.grown (M:=fun k=>(Value.slice gG GL.length cG).ownBlock=some k) (zcb hg3) (fun k hk=>hk));have HG2:=lh (HOGS.o.1.kept HK3.o HSEP.o.1);have HN2:Hid (∀j u,(encG ⟨some ⟨gg,0,none⟩,c3,GL++[⟨ea,ec,ex,ei⟩],cur⟩)[j]?=some u->(w3.alloc (.cells #[.slice (some ⟨gg,0,none⟩) (GL.length+1) c3] 130)).cell? ⟨w3.heap.size,j,none⟩=some u):=(fun j u h=>by rw[World.cell?_alloc_at _ _ _ _ rfl];simpa[encG]using h);have HO2:Hid (∀u∈encG ⟨some ⟨gg,0,none⟩,c3,GL++[⟨ea,ec,ex,ei⟩],cur⟩,u.oneCell'=true):=(fun u hu=>by simp[encG]at hu;rw[hu];rfl);have HZ3:Hid (w.heap.size<=w3.heap.size):=(Nat.le_trans HB1.o HK3.o.size))
    |(refine zd1 yat rfl _ _ rfl w.heap.size _ K ⟨some ⟨gg,0,none⟩,c3,GL++[⟨ea,ec,ex,ei⟩],cur⟩ rfl (HG2.o.alloc _) w3.heap.size rfl rfl HN2.o HO2.o HKL.o.1 (by decide) (Nat.le_trans HZ3.o (by simp)) ?_;intro ga2 c4 w4 ho4 hg4 hl4))
   all_goals
    have HO3:=lh ho3;have HL3:Hid ((Value.slice gG GL.length cG).ownBlock=some gg\/wr.heap.size<=gg):=hl3.imp id (fun e=>by rw[e];simp[World.drew]);have HK4:=lh (kpOf HG2.o (zb6 hg4));have HO4:=lh ho4;have HL4:=lh (obOf (P:=fun q=>w3.heap.size<=q) HG2.o (hl4.imp id (fun e=>(by rw[e];simp:w3.heap.size<=ga2))));have hbx4:=(HSI.o.box.kept HK3.o HSEP.o.2.2.2.1).kept HK4.o HSEP.o.2.2.2.2;obtain⟨m0,m1,f0,f1⟩:=hbx4.sc;have hb4:=hbx4.lt;have HS2:=lh ((HOGS.o.2.kept HK3.o HSEP.o.2.1).kept HK4.o HSEP.o.2.2.1)
    have HN4:Hid (∀j u,(stc cur)[j]?=some u->(w4.alloc (.cells #[.int .u64 (cur.a:Int),.int .u64 (cur.b:Int)] 29)).cell? ⟨w4.heap.size,j,none⟩=some u):=fun j u h=>by rw[World.cell?_alloc_at _ _ _ _ rfl];simpa[stc]using h
    have HO5:Hid (∀u∈stc cur,u.oneCell'=true):=fun u hu=>by
     simp[stc]at hu
     rcases hu with rfl|rfl<;>rfl
    have HZ4:Hid (w.heap.size<=w4.heap.size):=Nat.le_trans HZ3.o HK4.o.size;clear hl3 hl4 hg3 hg4 ho3 ho4 hbx4 c0 c1;go_wp2_with fail
    go_region_law(refine zd1 zue rfl _ _ rfl w.heap.size _ (K.map fun x=>x.s) cur rfl (HS2.o.alloc _).drew w4.heap.size rfl rfl HN4.o HO5.o HKL.o.2 (by decide) (Nat.le_trans HZ4.o (by simp[World.drew])) ?_;intro gs2 c5 w5 ho5 hg5 hl5)
    all_goals
     have HK5:=lh (kpOf HS2.o (zcb hg5));have HL5:=lh (obOf (P:=fun q=>w4.heap.size<=q) HS2.o (hl5.imp id (fun e=>(by rw[e];simp[World.drew]:w4.heap.size<=gs2))));have ho6:=ho5;rw[List.length_map]at ho6;have HFIN:=lh (SPL.next HSP.o HSB.o HSI.o HBG3.o ⟨ea,ec,ex,ei⟩ HEM.o (by simp) HK3.o HO3.o HL3.o HK4.o HO4.o HL4.o HK5.o ho6 HL5.o)
     have HMD5:Hid (modG (K++[⟨some ⟨gg,0,none⟩,c3,GL++[⟨ea,ec,ex,ei⟩],cur⟩])=(xs.take (k+1)).foldl za5 []):=by
      show _=_
      rw[HMOD.o,HMD.o,HXT.o,List.foldl_append]
      rfl
     clear hl5 hg5 ho5 ho6;go_wp2;refine⟨⟨k+1,by omega,by go_num,K++[⟨some ⟨gg,0,none⟩,c3,GL++[⟨ea,ec,ex,ei⟩],cur⟩],some ⟨ga2,0,none⟩,c4,some ⟨gs2,0,none⟩,c5,by first|(rw[List.length_append];rfl)|(rw[List.length_append,hKl0];rfl),by first|(rw[List.length_append];simp;done)|(rw[List.length_append,hKl0];rfl),?_,HMD5.o,by rw[List.length_append];simp;omega⟩,by simp[intOf];omega⟩
     first|exact HFIN.o|(have hf:=HFIN.o;rw[hKl0]at hf;exact hf)
 have hke:k=l.length:=by omega
 have HO0:Hid (SPO w l gs wx (.slice ga gs.length gc) 0 []):=HSP.o.first
 have HMG:Hid (modG gs=zdg xs):=by
  show _=_
  rw[HMD.o,hke,<-hxl,List.take_length]
  rfl
 clear hsp;subst hke;go_wp2_with fail
 go_loopw[93](fun i wr=>∃(j:Nat)(D:List Grp),j<=gs.length/\i=.int .i64 (j:Int)/\SPO w l gs wr (.slice ga gs.length gc) j D)(fun i _=>gs.length-(intOf i).toNat)
 case atStart=>exact⟨0,[],Nat.zero_le _,rfl,HO0.o⟩
 obtain⟨j,D,hj,rfl,hso⟩:=hrel;have HSO:=lh hso
 by_cases hjt:j<gs.length
 ·obtain⟨x,hxe⟩:=nm gs[j]
  have hxj:gs[j]?=some x:=by rw[hxe];exact List.getElem?_eq_getElem hjt
  have hxm:x∈gs:=by rw[hxe];exact List.getElem_mem hjt
  have hdl:=hso.len
  have hal:(D++gs.drop j).length=gs.length:=by simp;omega
  have haj:(D++gs.drop j)[j]'(by omega)=x:=by
   rw[List.getElem_append_right (by omega),List.getElem_drop,hxe];congr 1;omega
  have hxd:x∈D++gs.drop j:=by rw[<-haj];exact List.getElem_mem _
  obtain⟨gA,rfl⟩:∃gA,ga=some ⟨gA,0,none⟩:=by
   rcases hso.og.shape with⟨_,h2⟩|⟨gA,cp,h1,_⟩
   ·rw[h2]at hal;simp at hal;omega
   simp only[Value.slice.injEq]at h1;exact⟨gA,h1.1⟩
  have cg:=hso.og.cell hal.symm zd5 j 0 (by omega) (by omega);rw[haj]at cg;have fg:=hso.og.fr hal.symm j;have hgl:=(World.ownsRow.lt hso.og gA rfl).2;have hxl4:x.l.length<=4096:=HGL4.o x hxm;obtain⟨xb,hxa,hxo,hxn⟩:=hso.gr x hxd;have HCO:=lh (hso.csok HCI.o hxd hxa);obtain⟨xa,xc,xl,xS⟩:=x;simp only at hxa;subst hxa;simp only[encG,Nat.mul_one,Nat.add_zero,List.getElem_cons_zero]at cg;simp only at hxo hxl4 hxn
  have hne:gA≠xb:=fun e=>hxn (by rw[e];rfl)
  have HORD:=lh (zjr xb xc w.heap.size xl wr hxo HCO.o (by omega));have HXJ:=lh hxj
  have hji:(j:Int)<(gs.length:Int):=by omega
  clear hxj hxe hxm hdl hal haj hxd hxo hxn hso;go_wp2_with fail;refine Calls.mono HORD.o ?_;rintro e5 w5⟨l',rfl,ho5,hm5,hs5,hk5⟩
  have fg5:w5.frozen? ⟨gA,j,none⟩=false:=(HSO.o.og.kept hk5 (fun k hk e=>by
   have:gA=k:=by simpa[Value.ownBlock]using hk
   exact hne (this.trans e))).fr (by simp[HSO.o.len];omega) j
  have cg5:=hk5.cell cg hne;have hgl5:gA<w5.heap.size:=Nat.lt_of_lt_of_le hgl hk5.size;have HSTEP:=lh (SPO.step HXJ.o HSO.o ho5 hm5 hs5 hk5);clear fg cg ho5 hm5 hs5 hk5;go_wp2;exact⟨⟨j+1,D++[⟨some ⟨xb,0,none⟩,xc,l',xS⟩],by omega,by go_num,HSTEP.o⟩,by simp[intOf];omega⟩
 have hje:gs.length<=j:=by omega
 have hji:¬(j:Int)<(gs.length:Int):=by omega
 obtain⟨hDl,hmap,hps⟩:=hso.last hje HCI.o HF.o HMG.o (hso.small HGL4.o);have HB:=lh hso.hb;have HP:=lh hps;have HM:=lh hmap;have HD:=lh hDl;clear hDl hmap hps hso;go_wp2;go_ret;refine⟨HB.o,ga,gc,D.map (fun x=>x.l),by rw[List.length_map,HD.o];rfl,?_,HP.o⟩;rw[HM.o,HXS.o]
end Go.Proofs.YtnlaakmglhjjmaaGreatDoor
