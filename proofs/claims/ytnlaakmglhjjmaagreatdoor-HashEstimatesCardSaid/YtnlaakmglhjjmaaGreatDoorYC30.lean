/- Parts of the proofs of laws. Texts: Dl. -/
import Derived.Test.YtnlaakmglhjjmaaGreatDoorYC29
set_option maxHeartbeats 8000000
set_option maxRecDepth 100000
set_option linter.all false
namespace Go.Proofs.YtnlaakmglhjjmaaGreatDoor
open Go.RowKit Cen
theorem zua(n:Nat)(h12:n<=12)(a:Option Addr)(cap:Nat)(t:List Cl)(oa:Option Addr)(oc:Nat)(order:List Int)(o1 o2:Bool)(w:World)(hl:t.length<=1073741823)(ht:∀c∈t,c.length<=256/\∀x∈c,x≠0/\-(n:Int)<=x/\x<=n)(hx:LsCells w a t)(hol:order.length<=1073741824)(ho:IntCells w oa order)(hok:zc3 n t order=0)(htok:tOk n t)(htab:Tab w)(hub:1<w.heap.size):
 Calls Tryz.prog 29 #[.agg #[.int .i64 (n:Int),.slice a t.length cap],.agg #[.slice oa order.length oc,.bool o1,.bool o2]] w (ybz n t order o1 o2 w):=by
 have ho2:=ho
 have hoblk:∀q,oa=some q->order≠[]->q.block<w.heap.size:=fun q hq hne=>by
  obtain⟨b,off,e,hc⟩:=ho 0 (List.length_pos_iff.2 hne);rw[e]at hq;simp only[Option.some.injEq]at hq;subst hq;exact zai hc
 have hmf:∀(fn:Fn)(first cap:Array Value)(w:World),(Instr.makeFunc fn first cap).run Tryz.prog w=.ok (.func fn first cap) w:=fun _ _ _ _=>rfl
 have hm1:∀w:World,(Instr.makeMap 125 none).run Tryz.prog w=.ok (.map (some w.heap.size)) (w.alloc (.map #[] 0)):=fun _=>rfl
 have hm2:∀w:World,(Instr.makeMap 126 none).run Tryz.prog w=.ok (.map (some w.heap.size)) (w.alloc (.map #[] 0)):=fun _=>rfl
 obtain⟨W,hW⟩:=nm ((((((w.alloc (Obj.cells #[Value.int IntKind.i64 (n:Int),Value.slice a t.length cap] 26)).alloc (Obj.cells #[Value.slice oa order.length oc,Value.bool o1,Value.bool o2] 77)).alloc (Obj.cells #[Value.int IntKind.i64 0,Value.slice none 0 0] 71)).alloc (Obj.cells #[Value.slice none 0 0] 72)).alloc (Obj.cells #[Value.int IntKind.i64 0] 39)))
 have hb:Below w.heap.size w W:=by rw[hW];exact((((ba _ _).alloc (by simp) _).alloc (by simp;omega) _).alloc (by simp;omega) _).alloc (by simp;omega) _
 have q0:Blk W w.heap.size #[.int .i64 (n:Int),.slice a t.length cap] 26:=by rw[hW];exact((((Blk.new w _ _).alloc _).alloc _).alloc _).alloc _
 have q1:Blk W (w.heap.size+1) #[.slice oa order.length oc,.bool o1,.bool o2] 77:=by rw[hW];exact(((Blk.new' _ (by simp) _ _).alloc _).alloc _).alloc _
 have q2:Blk W (w.heap.size+1+1) #[.int .i64 0,.slice none 0 0] 71:=by rw[hW];exact((Blk.new' _ (by simp) _ _).alloc _).alloc _
 have q3:Blk W (w.heap.size+1+1+1) #[.slice none 0 0] 72:=by rw[hW];exact(Blk.new' _ (by simp) _ _).alloc _
 have q4:Blk W (w.heap.size+1+1+1+1) #[.int .i64 0] 39:=by rw[hW];exact Blk.new' _ (by simp) _ _
 go_enter_defers Tryz.func29,Tryz.ntmps29
 go_wp2_with fail;rw[<-hW];clear hW;refine(zl7 n a cap t oa oc order _ (by omega) (fun c hc=>by have:=(ht c hc).1;omega) (hx.keep hb) hol (ho.keep hb)).mono ?_;rintro e w1⟨rfl,hb1⟩;rw[hok];have r0:=q0.later hb1;have r1:=q1.later hb1;have r2:=q2.later hb1;have r3:=q3.later hb1;have r4:=q4.later hb1;have HB:=lh (hb.trans (hb1.mono hb.size));have a0:=r0.cell 0;have a1:=r0.cell 1;have b0:=r1.cell 0;have b1:=r1.cell 1;have b2:=r1.cell 2;have s0:=r0.lt;have s1:=r1.lt;have s2:=r2.lt;have s3:=r3.lt;have s4:=r4.lt;have HX:=lh hx;have HO:=lh ho
 have s0a:w.heap.size<w1.heap.size+1:=by omega
 have s0b:w.heap.size<w1.heap.size+1+1:=by omega
 have s0c:w.heap.size<w1.heap.size+1+1+1:=by omega
 clear hb hb1 q0 q1 q2 q3 q4;go_wp2_with fail;have hbc:Below w1.heap.size w1 (((w1.alloc (Obj.map #[] 0)).alloc (Obj.map #[] 0)).alloc (Obj.cells #[.int .i64 (n:Int),.slice oa order.length oc,.bool o1,.bool o2,.slice none 0 0,.slice none 0 0,.map (some w1.heap.size),.map (some (w1.heap.size+1))] 128)):=((ba _ _).alloc (by simp) _).alloc (by simp;omega) _;have m0:MapL 3 3 (((w1.alloc (Obj.map #[] 0)).alloc (Obj.map #[] 0)).alloc (Obj.cells #[.int .i64 (n:Int),.slice oa order.length oc,.bool o1,.bool o2,.slice none 0 0,.slice none 0 0,.map (some w1.heap.size),.map (some (w1.heap.size+1))] 128)) w1.heap.size 0 (fun _=>none):=(MapL.made w1).later ((ba _ _).alloc (by simp) _)
 have m1:MapL 9 3 (((w1.alloc (Obj.map #[] 0)).alloc (Obj.map #[] 0)).alloc (Obj.cells #[.int .i64 (n:Int),.slice oa order.length oc,.bool o1,.bool o2,.slice none 0 0,.slice none 0 0,.map (some w1.heap.size),.map (some (w1.heap.size+1))] 128)) (w1.heap.size+1) 0 (fun _=>none):=by
  have:=(MapL.made (k:=9) (e:=3) (w1.alloc (Obj.map #[] 0))).later ((Below.refl _ _).alloc (Nat.le_refl _) (Obj.cells #[.int .i64 (n:Int),.slice oa order.length oc,.bool o1,.bool o2,.slice none 0 0,.slice none 0 0,.map (some w1.heap.size),.map (some (w1.heap.size+1))] 128))
  simpa using this
 have cb:=Blk.new' ((w1.alloc (Obj.map #[] 0)).alloc (Obj.map #[] 0)) (b:=w1.heap.size+1+1) (by simp) #[.int .i64 (n:Int),.slice oa order.length oc,.bool o1,.bool o2,.slice none 0 0,.slice none 0 0,.map (some w1.heap.size),.map (some (w1.heap.size+1))] 128;refine(zsv n (by omega) a cap t _ hl ((HX.o.keep HB.o).keep hbc) ht).mono ?_;rintro e w2⟨v,l,rfl,hown,hin,hat,hxs,hb2⟩;have hbw:=hbc.trans (hb2.mono hbc.size)
 obtain⟨g,hg⟩:∃g:Cfg,g=⟨w1.heap.size,n,t,oa,oc,order,o1,o2⟩:=⟨_,rfl⟩
 have hww1:=HB.o.size;have hbw2:=hbc.trans (hb2.mono hbc.size);have HW12:=lh hbw2.size;have HM0:=lh (m0.later hb2);have HM1:=lh (m1.later hb2);have HCB:=lh (cb.later hb2);have HR:=lh (And.intro (r0.later hbw) (And.intro (r1.later hbw) (And.intro (r2.later hbw) (And.intro (r3.later hbw) (r4.later hbw)))));have HBW:=bt HB hbw;have z2:w1.heap.size+1+1<w2.heap.size:=Nat.lt_of_lt_of_le (by simp) hb2.size;have k0:=(r0.later hbw).cell 0;have HOWN:=lh hown;have HIN:=lh hin;have HAT:=lh hat;have HXS:=lh hxs
 have t0:w.heap.size<w2.heap.size:=by omega
 obtain⟨va,vc,rfl⟩:∃va vc,v=.slice va l.length vc:=by
  rcases hown.shape with⟨h1,h2⟩|⟨g',cp,h1,_⟩
  ·exact⟨none,0,by rw[h1,h2];rfl⟩
  exact⟨_,_,h1⟩
 clear hbc m0 m1 cb hb2 hbw hown hin hat hxs a0 a1 b0 b1 b2 r0 r1 r2 r3 r4
 have HFX:Hid (Fx g (chF g.order g.probe g.n)):=by
  show Fx _ _
  rw[hg];exact fx_of _ (by simp only;omega) (by simp only;omega) (fun q hq hne=>by simp only at hq hne;have:=hoblk q hq hne;simp only;omega) hol hok
 have HTOK:Hid (tOk g.n g.t):=by show tOk _ _;rw[hg];exact htok
 have HCMP:Hid (Cmp g (chF g.order g.probe g.n) (Fr (w1.heap.size+1+1) w1.heap.size (w1.heap.size+1) (.slice none 0 0) (.slice none 0 0)) w2 (w1.heap.size+1+1) []):=by
  show Cmp _ _ _ _ _ _
  rw[hg];exact Cmp.fresh _ _ w2 _ _ _ HCB.o HM0.o HM1.o ⟨by omega,by omega,by omega⟩ ⟨by simp only;omega,by simp only;omega,by simp only;omega⟩ (htab.keep HBW.o) (by simp only;have:=HW12.o;omega) (ho2.keep HBW.o)
 have HENV:Hid (Env g (Fr (w1.heap.size+1+1) w1.heap.size (w1.heap.size+1) (.slice none 0 0) (.slice none 0 0)) w2 va l none []):=by
  show Env _ _ _ _ _ _ _
  rw[hg]
  exact zx3 _ (show n<=128 by omega) _ w2 _ va vc l HOWN.o HIN.o HAT.o HXS.o htok (fun k hk=>by
   rcases hk with rfl|rfl|rfl|hk|hk
   ·simp
   ·simp;omega
   ·simp
   ·simp[Value.ownBlock]at hk
   simp[Value.ownBlock]at hk)
 have hgn:g.n=n:=by rw[hg]
 have hgt:g.t=t:=by rw[hg]
 have hgo:g.order=order:=by rw[hg]
 have hgp:g.probe=o1:=by rw[hg]
 have hgc:g.cache=o2:=by rw[hg]
 have hgB:g.B=w1.heap.size:=by rw[hg]
 have HGN:=lh hgn;have HGT:=lh hgt;have HGO:=lh hgo;have HGP:=lh hgp;have HGC:=lh hgc;have HGB:=lh hgB
 have HXG:Hid ((l.map fun e=>e.xs)=zaa g.n g.t):=by show _=_;rw[hgn,hgt];exact HXS.o
 have hp2:g.B<=w2.heap.size:=by rw[hgB];have:=HW12.o;omega
 have HP2:=lh hp2;clear hgn hgt hgo hgp hgc hgB hg hp2;obtain⟨p,hp⟩:=nm (w1.heap.size+1+1);obtain⟨F0,hF0⟩:=nm (Fr (w1.heap.size+1+1) w1.heap.size (w1.heap.size+1) (.slice none 0 0) (.slice none 0 0));rw[<-hF0,<-hp]at HCMP;rw[<-hF0]at HENV;rw[<-hp];have HPP:=lh hp;have HFF:=lh hF0;clear hp hF0
 go_upto_if 31 with fail
 go_cut[10]from 31 to 65(fun _ wx=>CEnd g p F0 w2 (zaa g.n g.t) wx)
 case first=>
  by_cases hl0:l.length=0
  case' pos=>
   have hl1:=List.eq_nil_of_length_eq_zero hl0;subst hl1;clear hl0
   have hn0:zaa g.n g.t=[]:=by rw[<-HXG.o];rfl
   obtain⟨m,d,hm,hcs,hd⟩:=HCMP.o.cc;have HADD:=lh (zim g F0 p [] m _ d ⟨⟨⟨1,0,[]⟩,some ([],[])⟩,.slice none 0 0,.slice none 0 0,.slice none 0 0,[],[]⟩ w2 hcs (MeAt.true _ _ w2) (by decide) HP2.o);have HN0:=lh hn0;clear hcs hd hm hn0;go_wp2_with fail;refine HADD.o.mono ?_;rintro e w3⟨rfl,F3,hc3,hk3,hs3⟩;have HEND:=lh (CEnd.nil (g:=g) (p:=p) HN0.o hc3 hk3 hs3);clear hc3 hk3 hs3;go_wp2_with fail
  case' neg=>
   have hli:¬(l.length:Int)=0:=by omega
   have hnn:zaa g.n g.t≠[]:=by
    rw[<-HXG.o];intro e;have:=congrArg List.length e;simp at this;exact hl0 (by rw[this];rfl)
   have HNN:=lh hnn;have HCH:=lh HFX.o.ch;have hcl:=zw8 (n:=g.n) (by rw[HGN.o];exact h12) HCH.o HTOK.o g.cache
   have HFIT:Hid (Calls Tryz.prog 64 #[.pointer (some ⟨p,0,none⟩),.slice va l.length vc,.slice none 0 0] w2 (zwl g F0 p (zak (chF g.order g.probe g.n) g.cache (zaa g.n g.t)) w2)):=by
    have:=zuo g (by rw[HGN.o];exact h12) HFX.o (card (zae (l.map fun e=>e.xs))+1) F0 p [] va vc l none 0 [] w2 HCMP.o HENV.o (Nat.lt_succ_self _);rw[HXG.o]at this;exact this (by have:=hcl;unfold zak at this;simp;omega)
   have HCORE:=lh (core (n:=g.n) (by rw[HGN.o];omega) HCH.o HTOK.o g.cache)
   have HALL:Hid ((zaa g.n g.t).length=l.length):=by show _=_;rw[<-HXG.o,List.length_map]
   obtain⟨Q,hQ⟩:=nm (zak (chF g.order g.probe g.n) g.cache (zaa g.n g.t));rw[<-hQ]at HFIT HCORE hcl;have HQ:=lh hQ;have HCL:=lh hcl;clear hnn hcl hQ;go_wp2_with fail;refine HFIT.o.mono ?_;rintro e w3⟨v,F1,rfl,⟨⟨L3,hL3,hcc3⟩,hk3,hs3⟩,ho3⟩;obtain⟨ia,ic,rfl,hic⟩:=ho3.1.ic;have HL3:=lh hL3;have HCC3:=lh hcc3;have HK3:=lh hk3;have HS3:=lh hs3;have HO3:=lh ho3;have HIC:=lh hic;clear hL3 hcc3 hk3 hs3 ho3 hic;have hne2:Q.2≠[]:=HCORE.o.fit.ne HNN.o
   have hcll:(zaf Q.2).length=Q.2.length:=by simp[zaf]
   have hfl:=HCORE.o.fit.len (n:=g.n) (by rw[HGN.o];omega) (za2 (by rw[HGN.o];omega) HTOK.o.rg)
   have hil:(zaf Q.2).length<=1073741824:=by rw[hcll];have:=HALL.o;have:=HGN.o;have:=HENV.o.ci.len;omega
   have hL3l:L3.length=Q.1.length:=by rw[<-HL3.o,List.length_map]
   have HADD:Hid (∀W,Below w3.heap.size w3 W->zcl (zak (chF g.order g.probe g.n) g.cache (zaa g.n g.t)) (zaa g.n g.t)=true->Calls Tryz.prog 63 #[.pointer (some ⟨p,0,none⟩),.agg #[.int .i64 3,.int .i64 0,.slice ia (zaf Q.2).length ic],.agg #[.slice none 0 0,.slice none 0 0]] W fun r w'=>r=.returned (.int .i64 L3.length)/\CEnd g p F0 w2 (zaa g.n g.t) w'):=fun W hW hr=>by
    obtain⟨m,d,_,hcs,_⟩:=HCC3.o;have hzz:g.B<=w3.heap.size:=Nat.le_trans HP2.o HK3.o.size
    have he:MeAt g F1 W ⟨⟨⟨3,0,zaf Q.2⟩,none⟩,.slice ia (zaf Q.2).length ic,.slice none 0 0,.slice none 0 0,[],[]⟩:=
     ⟨(HO3.o.1.later hW).lower HP2.o,HO3.o.2,OwnL.nil _ _,fun k hk=>by simp[Value.ownBlock]at hk,OwnL.nil _ _,fun k hk=>by simp[Value.ownBlock]at hk,⟨rfl,rfl⟩⟩
    refine(zim g F1 p L3 m _ d ⟨⟨⟨3,0,zaf Q.2⟩,none⟩,.slice ia (zaf Q.2).length ic,.slice none 0 0,.slice none 0 0,[],[]⟩ W (hcs.later hW) he (by have:=HCL.o;omega) (Nat.le_trans hzz hW.size)).mono ?_;rintro r w'⟨rfl,F',hc',hk',hs'⟩;rw[HQ.o]at hc' hs';exact⟨rfl,CEnd.and HNN.o hr (by rw[<-HQ.o];exact HL3.o) hc' (HK3.o.trans' (Kp.below (M:=fun _=>False) hW) fun _ h=>h.elim) HS3.o hk' hs' fun k hk=>(HO3.o.1.blk (by rw[HQ.o];exact hk)).1⟩
   have HONE:Hid (∀W,Below w3.heap.size w3 W->zcl (zak (chF g.order g.probe g.n) g.cache (zaa g.n g.t)) (zaa g.n g.t)=false->CEnd g p F0 w2 (zaa g.n g.t) W):=fun W hW hr=>
    CEnd.one (by rw[HGN.o];omega) HCH.o HTOK.o HNN.o hr (by rw[<-HQ.o];exact HL3.o) (HCC3.o.later hW) (HK3.o.trans' (Kp.below (M:=fun _=>False) hW) fun _ h=>h.elim) HS3.o
   by_cases hm1:1<(zaf Q.2).length
   case' pos=>
    have HRB:Hid (zcl (zak (chF g.order g.probe g.n) g.cache (zaa g.n g.t)) (zaa g.n g.t)=true):=by
     show _=_;rw[<-HQ.o];unfold zcl;rw[decide_eq_true (show 1<Q.2.length by omega)];rfl
    have hmi:(1:Int)<((zaf Q.2).length:Int):=by omega
    clear hne2 hcll hfl hL3l;generalize(zaf Q.2).length=cln at*;go_wp2_with fail
    go_quiet(fail)
    go_wp2_with fail;refine(HADD.o _ (zal _ _) HRB.o).mono ?_;rintro e w4⟨rfl,hend⟩;have HEND:=lh hend;clear hend;go_wp2_with fail
   case' neg=>
    obtain⟨i0,hq2⟩:∃i0,Q.2=[i0]:=by
     match hh:Q.2,hne2 with
     |[i0],_=>exact⟨i0,rfl⟩
     |i0::i1::rest,_=>rw[hcll,hh]at hm1;simp at hm1
    have hln1:(zaf Q.2).length=1:=by rw[hq2];rfl
    have hi0:i0<Q.1.length:=HCORE.o.fit.lt i0 (by rw[hq2];simp)
    have hd1:decide ((1:Int)<(1:Int))=false:=by decide
    obtain⟨b9,o9,hia,h9⟩:=HIC.o 0 (by omega)
    have h9':w3.cell? ⟨b9,o9,none⟩=some (.int .i64 (i0:Int)):=by
     have:(zaf Q.2).getD 0 0=(i0:Int):=by rw[hq2];rfl
     rw[this]at h9;exact h9
    obtain⟨m,d,_,⟨lb',db',nv,cv,hAt,_⟩,_⟩:=HCC3.o
    have hi0L:i0<L3.length:=by omega
    obtain⟨nb,nc,hnv⟩:∃nb nc,nv=.slice (some ⟨nb,0,none⟩) L3.length nc:=by
     rcases hAt.rn.shape with⟨_,h2⟩|⟨q,cp,h1,_⟩
     ·rw[h2]at hi0L;simp at hi0L
     exact⟨q,cp,h1⟩
    subst hnv;have hkc:=hAt.rn.cell rfl zjo i0 0 hi0L (by omega);have p4:=hAt.blk.cell 4;have pz:=hAt.blk.lt
    have hkd:(nd (nds Q.1) ((Q.2.getD 0 0:Nat):Int)).kind=L3[i0].c.nd.kind:=by
     rw[hq2];have:nd (nds Q.1) ((i0:Nat):Int)=L3[i0].c.nd:=zc0 (by rw[<-HL3.o,List.getElem?_map,List.getElem?_eq_getElem hi0L];rfl)
     show(nd (nds Q.1) ((i0:Nat):Int)).kind=_
     rw[this]
    have hkc':w3.cell? ⟨nb,i0*3,none⟩=some (.int .i64 L3[i0].c.nd.kind):=by simpa[nde]using hkc
    have HRB:Hid (zcl (zak (chF g.order g.probe g.n) g.cache (zaa g.n g.t)) (zaa g.n g.t)=(decide (1<l.length)&&decide (L3[i0].c.nd.kind=2))):=by
     show _=_;rw[<-HQ.o];unfold zcl;rw[hkd,HALL.o,hq2];rfl
    have hi0i:(i0:Int)<(L3.length:Int):=by omega
    have hL65:L3.length<=65536:=hAt.bd;generalize L3[i0].c.nd.kind=kd at*;subst hia;rw[hln1];have HLN1:=lh hln1;rw[hln1]at HADD;clear hne2 hcll hfl hL3l hq2 hi0 h9 hAt hkc hkd hm1 hln1 hi0L
    by_cases hla:1<l.length
    case' neg=>
     have hlad:decide ((1:Int)<(l.length:Int))=false:=by simp;omega
     have HRB2:Hid (zcl (zak (chF g.order g.probe g.n) g.cache (zaa g.n g.t)) (zaa g.n g.t)=false):=by show _=_;rw[HRB.o,decide_eq_false hla];rfl
     go_wp2_with fail
     go_quiet(fail)
     have HEND:=lh (HONE.o _ (zal w3 nq) HRB2.o);go_wp2_with fail
    case' pos=>
     have hlai:(1:Int)<(l.length:Int):=by omega
     by_cases hk2:kd=2
     case' neg=>
      have HRB2:Hid (zcl (zak (chF g.order g.probe g.n) g.cache (zaa g.n g.t)) (zaa g.n g.t)=false):=by show _=_;rw[HRB.o,decide_eq_false hk2];simp
      have e2:(kd==2)=false:=by simpa using hk2
      clear hk2;go_wp2_with fail
      go_quiet(fail)
      have HEND:=lh (HONE.o _ (zal w3 nq) HRB2.o);go_wp2_with fail
     case' pos=>
      have HRB2:Hid (zcl (zak (chF g.order g.probe g.n) g.cache (zaa g.n g.t)) (zaa g.n g.t)=true):=by show _=_;rw[HRB.o,decide_eq_true hla,decide_eq_true hk2];rfl
      have e2:(kd==2)=true:=by simpa using hk2
      clear hk2;go_wp2_with fail
      go_quiet(fail)
      go_wp2_with fail;refine(HADD.o _ (zal _ _) HRB2.o).mono ?_;rintro e w4⟨rfl,hend⟩;have HEND:=lh hend;clear hend;go_wp2_with fail
  all_goals
   go_meet
   exact HEND.o
 have HEND:=lh hcut;clear hcut;go_wp2_with fail
 obtain⟨WE,hWE⟩:∃W',W'=wc:=⟨_,rfl⟩
 rw[<-hWE]at HEND⊢;clear hWE;obtain⟨F9,L9,m9,f9,d9,⟨lb9,db9,nv9,cv9,hA9,hF9⟩,hne9,hcm9,hk9,hs9⟩:=HEND.o;have HCCW:Hid (CcCells WE va l):=(HENV.o.kept hk9 hs9).ci.cc
 have hF0lo:∀k,F0 k->w1.heap.size<=k:=fun k hk=>by have:=HFF.o;subst this;rcases hk with rfl|rfl|rfl|hk|hk<;>first|omega|(simp[Value.ownBlock]at hk)
 have HRE:Hid (Below w1.heap.size w2 WE):=hk9.toBelow HW12.o fun k hk hf=>by have:=hF0lo k hf;omega
 have r0:Blk WE w.heap.size _ _:=HR.o.1.laterB HRE.o s0;have r2:Blk WE (w.heap.size+1+1) _ _:=HR.o.2.2.1.laterB HRE.o s2;have r3:Blk WE (w.heap.size+1+1+1) _ _:=HR.o.2.2.2.1.laterB HRE.o s3;have r4:Blk WE (w.heap.size+1+1+1+1) _ _:=HR.o.2.2.2.2.laterB HRE.o s4
 obtain⟨cb,cc,hcv⟩:∃cb cc,cv9=.slice (some ⟨cb,0,none⟩) L9.length cc:=by
  rcases hA9.rc.shape with⟨_,h2⟩|⟨q,cp,h1,_⟩
  ·exact absurd (List.eq_nil_of_length_eq_zero (by simpa using h2)) hne9
  exact⟨q,cp,h1⟩
 obtain⟨na,nc,hnv⟩:∃na nc,nv9=.slice na L9.length nc:=by
  rcases hA9.rn.shape with⟨h1,h2⟩|⟨q,cp,h1,_⟩
  ·exact⟨none,0,by rw[h1,h2];rfl⟩
  exact⟨_,cp,h1⟩
 subst hcv;subst hnv;have HA9:=lh hA9;have p0:=hA9.blk.cell 5;have pz:=hA9.blk.lt
 have hpc:¬cb=p:=fun e=>hA9.s3.1 (by rw[e];rfl)
 have hcz:cb<WE.heap.size:=(World.ownsRow.lt hA9.rc cb rfl).2
 obtain⟨q,hq⟩:∃q,L9.length=q+1:=⟨L9.length-1,by have:=List.length_pos_iff.2 hne9;omega⟩
 have hq6:q<65536:=by have:=hA9.bd;omega
 have HQ9:=lh hq;have HNE9:=lh hne9;have HCM9:=lh hcm9;have HK9:=lh hk9;rw[hq]at p0
 have HCLM:Hid (∀W',Below WE.heap.size WE W'->Calls Tryz.prog 65 #[.slice va l.length vc,.slice none 0 0] W' (ztj l [] W')):=fun W' hb=>by have hcla:=znh va vc l none 0 [] W' (by have:=HENV.o.ci.len;omega) (by simp) (HCCW.o.keep hb) (IntCells.nil _ _);rw[List.length_nil]at hcla;exact hcla
 have HKS:Hid (∀W',Below WE.heap.size WE W'->W'.cell? ⟨p,5,none⟩=some (.slice (some ⟨cb,0,none⟩) (q+1) cc)):=fun W' hb=>by rw[hb.cell (p:=⟨p,5,none⟩) pz];exact p0
 clear hA9 hF9 hne9 hcm9 hk9 hs9 hq hF0lo;refine wp_region_noPanic ?_
 refine wp_region_held_drew (S:=(fun w'=>w'.cell? ⟨p,5,none⟩=some (.slice (some ⟨cb,0,none⟩) (q+1) cc))) (by kernel_rfl) (by exact HKS.o _ (Below.refl _ _).drew) fun hH=>?_
 refine tkV 0 65 rfl rfl ?_;try simp only[tkS]
 refine tkV 1 66 rfl rfl ?_;try simp only[tkS]
 refine tkV 2 67 rfl rfl ?_;try simp only[tkS]
 refine tkV 3 68 rfl rfl ?_;try simp only[tkS]
 refine tkV 4 69 rfl rfl ?_;try simp only[tkS]
 refine tkV 5 70 rfl rfl ?_;try simp only[tkS]
 refine tkV 6 71 rfl rfl ?_;try simp only[tkS]
 refine tkV 7 72 rfl rfl ?_;try simp only[tkS]
 refine tkV 8 73 rfl rfl ?_;try simp only[tkS]
 have hwq:IntKind.i64.wrap (q:Int)=(q:Int):=IntWalk.i64_in _ (by omega)
 refine tkV 9 74 rfl rfl ?_;try simp only[tkS]
 clear hwq
 refine tkV 10 75 rfl rfl ?_;try simp only[tkS]
 refine tkR 11 (.cons rfl (fun K hK=>?_) .nil);go_simp;go_at_call 65;refine(HCLM.o _ (Below.refl _ _).drew).mono ?_;rintro e w5⟨vt,va',rfl,hvt,hva,hb5'⟩;have hb5:Below WE.heap.size WE w5:=(Below.refl _ _).drew.trans (hb5'.mono (Nat.le_refl _));clear hb5';obtain⟨ix,hix⟩:=nm (zc4 (l.map fun e=>e.i));rw[<-hix]at hva;obtain⟨ta,tc,hvte,-⟩:=hvt.ic;rw[List.length_nil]at hvte;subst hvte;obtain⟨ua,uc,rfl,-⟩:=hva.ic;have HIX:=lh hix;clear hix;generalize hixl:ix.length=nix at*;have HIXL:=lh hixl;clear hixl;go_wp2_with fail
 refine hK.out _ _ (by exact HKS.o _ hb5) fun hH=>?_
 clear hK K
 try simp only[tkS]
 have rc5:=HA9.o.rc.later hb5;have hx0:=rc5.cell rfl zis q 0 (by have:=HQ9.o;omega) (by omega);have hx1:=rc5.cell rfl zis q 1 (by have:=HQ9.o;omega) (by omega);simp only[cle,List.getElem?_cons_zero,List.getElem?_cons_succ,Nat.add_zero]at hx0 hx1;have fz0:=rc5.fr rfl (q*2);have fz1:=rc5.fr rfl (q*2+1)
 have hcz5:cb<w5.heap.size:=by have:=hb5.size;omega
 clear rc5
 have hqi:(q:Int)<(q:Int)+1:=by omega
 refine tkV 12 77 rfl rfl ?_;try simp only[tkS]
 clear hqi;refine tkR 13 (.cons rfl (fun K hK=>?_) .nil);go_simp
 refine hK.out _ _ (by exact(Kp.trans (M:=fun y=>y=cb) (Kp.setCell _ _ _ rfl) (Kp.setCell _ _ _ rfl)).cell (HKS.o _ hb5) (fun e=>hpc e.symm)) fun hH=>?_
 clear hK K
 try simp only[tkS]
 refine wpAnyH_done (by kernel_rfl) ?_ _;refine NoPanic.normal ?_;obtain⟨w6,hw6⟩:=nm ((w5.setCell ⟨cb,q*2,none⟩ (.slice ta 0 tc)).setCell ⟨cb,q*2+1,none⟩ (.slice ua nix uc));rw[<-hw6]
 have hk6:Kp (fun y=>y=cb) w5 w6:=by rw[hw6];exact Kp.trans (M:=fun y=>y=cb) (Kp.setCell _ _ _ rfl) (Kp.setCell _ _ _ rfl)
 have HW6:=lh hw6
 have hcbB:w1.heap.size<=cb:=by have:=(World.ownsRow.lt HA9.o.rc cb rfl).1;have:=HGB.o;omega
 have hpB:w1.heap.size<p:=by have:=HPP.o;omega
 have t0':Blk w6 w.heap.size _ _:=(r0.later hb5).kept hk6 (by omega);have t2':Blk w6 (w.heap.size+1+1) _ _:=(r2.later hb5).kept hk6 (by omega);have t3':Blk w6 (w.heap.size+1+1+1) _ _:=(r3.later hb5).kept hk6 (by omega);have t4':Blk w6 (w.heap.size+1+1+1+1) _ _:=(r4.later hb5).kept hk6 (by omega);have t5':Blk w6 p _ _:=(HA9.o.blk.later hb5).kept hk6 (fun e=>hpc e.symm);have d0:=t0'.cell 0;have d1:=t2'.cell 0;have d2:=t2'.cell 1;have d3:=t3'.cell 0;have d4:=t4'.cell 0;have d5:=t5'.cell 4;have d6:=t5'.cell 5;have e1:=t2'.fr 0;have e2:=t2'.fr 1
 have e3:=t3'.fr 0;have e4:=t4'.fr 0;have l0:=t0'.lt;have l2:=t2'.lt;have l3:=t3'.lt;have l4:=t4'.lt;have l5:=t5'.lt;have HK6:=lh hk6;have HB5:=lh hb5;have HVT:=lh hvt;have HVA:=lh hva;clear hw6 hk6 t0' t2' t3' t4' t5' r0 r2 r3 r4 fz0 fz1 hx0 hx1 hb5 hvt hva p0 pz;go_wp2_with fail;go_region;go_wp2_with fail;unfold bodyPostD;dsimp only;refine leaves_cons (f:=61) (args:=#[.pointer (some ⟨w.heap.size+1+1,0,none⟩),.pointer (some ⟨w.heap.size+1+1+1,0,none⟩),.pointer (some ⟨w.heap.size+1+1+1+1,0,none⟩)]) (by simp) (by simp[go_sem]) ?_;refine(zr6 _ _ _ _).mono ?_
 rintro e u' w8⟨rfl,rfl,rfl⟩
 simp[Leaves,settle,results,Tryz.results29,go_sem,d0,d1,d2,d3,d4,l0,l2,l3,l4]
 generalize hW8:World.drew _=w8
 have hk7:Kp (fun y=>y=w.heap.size+1+1\/y=w.heap.size+1+1+1\/y=w.heap.size+1+1+1+1) w6 w8:=by rw[<-hW8];exact(Kp.trans (Kp.trans (Kp.trans (Kp.trans (Kp.setCell _ _ _ (.inl rfl)) (Kp.setCell _ _ _ (.inl rfl))) (Kp.setCell _ _ _ (.inr (.inl rfl)))) (Kp.setCell _ _ _ (.inr (.inr rfl)))) (Kp.drew _ _))
 clear hW8;have hww0:w.heap.size<=w2.heap.size:=HBW.o.size;have hz3:=HRE.o.size;have hz5:=HB5.o.size;have hz6:=HK6.o.size;have hb8:Below w.heap.size w w8:=(((HBW.o.trans (HRE.o.mono hww1)).trans (HB5.o.mono (by omega))).trans (HK6.o.toBelow (by omega) (fun k hk e=>by omega))).trans (hk7.toBelow (by omega) (fun k hk e=>by omega));exact zw9 HGN.o HGT.o HGO.o HGP.o HGC.o HA9.o HQ9.o HCM9.o HB5.o HVT.o HVA.o HIX.o (by rw[HIX.o];have:=HENV.o.ci.len;simp[zc4];omega) HENV.o.ci.left HXG.o (zw5 (by rw[HGN.o];omega) HFX.o.ch HTOK.o HCM9.o rfl) (by rw[<-HW6.o];exact hk7) (fun k hk=>by have:=HGB.o;omega) (by have:=HP2.o;omega) (by have:=HGB.o;omega) hb8
end Go.Proofs.YtnlaakmglhjjmaaGreatDoor
