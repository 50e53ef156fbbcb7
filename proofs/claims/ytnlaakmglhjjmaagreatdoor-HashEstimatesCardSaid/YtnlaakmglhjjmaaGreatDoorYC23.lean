/- Parts of the proofs of laws. Texts: CqC. -/
import Derived.Test.YtnlaakmglhjjmaaGreatDoorYC21
set_option maxHeartbeats 8000000
set_option maxRecDepth 100000
set_option linter.all false
namespace Go.Proofs.YtnlaakmglhjjmaaGreatDoor
open Go.RowKit Cen
section
variable{g:Cfg}{ch:List Cl->Int}{F F1 F2:Nat->Prop}{p:Nat}{L L1 L2:List Me}{wS:World}{b:Option Addr}{m:List Ce}{at':Option Addr}{term:Cl}{x:Int}{i:Nat}{V V':World}{oX oL:Option Nat}{st:List Nc}
theorem SB.callfit{f n gg cg cap1:Nat}{l:List Cl}(HF:FitC g ch f)(h:SB g ch F F1 p L1 wS b m at' term x i V none oL (some (.slice (some ⟨gg,0,none⟩) n cg,term++[x])))(hst:(L1.map fun e=>e.c)=st)(hl:(m.map fun e=>e.xs)=l)(hn:n=(term++[x]).length)(h128:(term++[x]).length<=128)
 (hgd:gL g.n l)(hrt:RT g.n g.t l (term++[x]))(hcard:card (zae l)<f)(hlen:(fitF ch g.cache f st l (term++[x])).1.length<=65536):
 Calls Tryz.prog 64 #[.pointer (some ⟨p,0,none⟩),.slice b m.length cap1,.slice (some ⟨gg,0,none⟩) n cg] V (zwl g F1 p (fitF ch g.cache f st l (term++[x])) V):=by
 subst hst;subst hl;subst hn;have hT:=(h.T _ _ rfl).1;exact HF F1 p L1 b cap1 m (some ⟨gg,0,none⟩) cg (term++[x]) V h.cmp ⟨h.cls.mono fun k hk=>.inl hk,(hT.trm h128).2,hgd,hrt⟩ hcard hlen
theorem SD.add{v:Value}{l:List Int}(h:SD g ch F F2 p L2 wS V v l)(hst:(L2.map fun e=>e.c)=st)(hlen:L2.length<65536)(hB:g.B<=wS.heap.size):
 Calls Tryz.prog 63 #[.pointer (some ⟨p,0,none⟩),.agg #[.int .i64 3,.int .i64 0,v],.agg #[.slice none 0 0,.slice none 0 0]] V
  fun r w'=>r=.returned (.int .i64 st.length)/\∃F',Aft g F p (st++[⟨⟨3,0,l⟩,none⟩]) wS w' F':=by
 obtain⟨mm,d,h1,h2,h3⟩:=h.cmp.cc;have hBV:g.B<=V.heap.size:=Nat.le_trans hB h.kp.size
 have he:MeAt g F2 V ⟨⟨⟨3,0,l⟩,none⟩,v,.slice none 0 0,.slice none 0 0,[],[]⟩:=
  ⟨h.R.1.lower hB,h.R.2,OwnL.nil _ _,fun k hk=>by simp[Value.ownBlock]at hk,OwnL.nil _ _,fun k hk=>by simp[Value.ownBlock]at hk,⟨rfl,rfl⟩⟩
 refine(zim g F2 p L2 mm _ d ⟨⟨⟨3,0,l⟩,none⟩,v,.slice none 0 0,.slice none 0 0,[],[]⟩ V h2 he hlen hBV).mono ?_;rintro r w'⟨rfl,F',hcs,hk,hs⟩;refine⟨by rw[<-hst,List.length_map],F',⟨L2++[⟨⟨⟨3,0,l⟩,none⟩,v,.slice none 0 0,.slice none 0 0,[],[]⟩],by rw[List.map_append,hst];rfl,mm,d,by simp;omega,?_,?_⟩,h.kp.trans' hk h.sub,fun k hk'=>?_⟩
 ·rw[List.map_append,show List.map (fun(e:Me)=>e.c) [(⟨⟨⟨3,0,l⟩,none⟩,v,.slice none 0 0,.slice none 0 0,[],[]⟩:Me)]=[⟨⟨3,0,l⟩,none⟩]from rfl,zn5 (by simp)];exact hcs
 ·rw[List.map_append];exact zq0 h3 rfl
 rcases hs k hk' with h4|h4|⟨e,he',h4⟩
 ·exact h.sub k h4
 ·exact .inr (Nat.le_trans h.kp.size h4)
 simp only[List.mem_singleton]at he';subst he'
 rcases h4 with h4|h4|h4
 ·exact .inr (h.R.1.blk h4).1
 ·simp[Value.ownBlock]at h4
 simp[Value.ownBlock]at h4
end
def SPost(g:Cfg)(F:Nat->Prop)(p:Nat)(r:List Nc×Nat)(w:World)(e:Ending)(w':World):Prop:=
 e=.returned (.int .i64 r.2)/\∃F',Aft g F p r.1 w w' F'
theorem zru(g:Cfg)(ch:List Cl->Int)(f:Nat)(hx:Fx g ch)(HF:FitC g ch f)(F:Nat->Prop)(p:Nat)(L:List Me)(a:Option Addr)(cap:Nat)(l:List Ce)(at':Option Addr)(ct:Nat)(term:Cl)(x:Int)(bl bc bt:Nat)(w:World)
 (hC:Cmp g ch F w p L)(hE:Env g F w a l at' term)(hl:w.cell? ⟨bl,0,none⟩=some (.slice a l.length cap))(hc:w.cell? ⟨bc,0,none⟩=some (.pointer (some ⟨p,0,none⟩)))(ht:w.cell? ⟨bt,0,none⟩=some (.slice at' term.length ct))
 (hnb:¬F bc/\¬F bt)(hxn:litN g.n x)(hv:(zae (l.map fun e=>e.xs)).mem (zac x)=true)(hcard:card (zae (l.map fun e=>e.xs))<=f)
 (hlen:(zc2 (fitF ch g.cache f) (L.map fun e=>e.c) (l.map fun e=>e.xs) term x).1.length<=65536):
 Calls Tryz.prog 137 #[.int .i64 x,.pointer (some ⟨bl,0,none⟩),.pointer (some ⟨bc,0,none⟩),.pointer (some ⟨bt,0,none⟩)] w (SPost g F p (zc2 (fitF ch g.cache f) (L.map fun e=>e.c) (l.map fun e=>e.xs) term x) w):=by
 have hn:=hx.n
 have hx1:-128<=x:=by have:=hxn.2.1;omega
 have hx2:x<=128:=by have:=hxn.2.2;omega
 have hF:∀k,F k->k<w.heap.size:=fun k hk=>(hC.cc.low hk).2
 have hB:g.B<=w.heap.size:=hC.lo;have hle:=hE.ci.len;have HGV:=lh (zny a cap l x hx1 hx2 w (by omega) hE.ci.cc fun e he=>⟨by have:=(hE.ci.xs e he).1;omega,(hE.ci.xs e he).2.1⟩);obtain⟨st,hst⟩:=nm (L.map fun e=>e.c);obtain⟨xs,hxs⟩:=nm (l.map fun e=>e.xs);rw[<-hst,<-hxs]at hlen⊢;rw[<-hxs]at hv hcard
 have hinv:InvR ch (RT g.n g.t) g.cache g.n st:=by rw[hst];exact hC.inv
 obtain⟨r1,hs1,hinv1,hlit1,_,_⟩:=zgb hinv hxn;rw[<-hs1]at hinv1
 have htl:term.length+1<=128/\term.length<=128:=by
  have h1:=hE.rt.off hn hE.good.gc hxn (by rw[<-hxs];exact hv);have:=(hE.rt.1.snoc hxn hn h1.1 h1.2).len hn;simp at this;omega
 have hlm:st.length<=(litF st x).1.length:=zga st x;have HX:=lh hx;have HE:=lh hE;have HC:=lh hC;have HFI:=lh HF;have HHF:=lh hF;have HST:=lh hst;have HXS:=lh hxs;have HI1:=lh hinv1;have HV:=lh hv;have HCD:=lh hcard;have HLN:=lh hlen;have HXN:=lh hxn;have HTL:=lh htl
 have HKS:Hid (∀V,Kp F w V->V.cell? ⟨bc,0,none⟩=some (.pointer (some ⟨p,0,none⟩))/\V.cell? ⟨bt,0,none⟩=some (.slice at' term.length ct)):=lh fun V hk=>⟨hk.cell hc hnb.1,hk.cell ht hnb.2⟩
 clear hE hC HF hF hst hxs hinv hinv1 hs1 hlit1 hv hcard hlen hxn htl hx hnb;go_enter Tryz.func137,Tryz.ntmps137;go_wp2_with fail;refine HGV.o.mono ?_;rintro e w1⟨v,m,rfl,ho,hcs,hg,he,hb1⟩;obtain⟨b,cap1,rfl,hci,hgd,hrt,_,_⟩:=zni HX.o HE.o.ci HE.o.good HE.o.rt HXN.o (by rw[<-HXS.o];exact HV.o) HHF.o ho hcs hg he;rw[<-HXS.o]at he;have HB1:=lh hb1;have hk0:Kp F w w1:=Kp.below hb1
 have HSA:Hid (SA g ch F p L w b m at' term x w1 none):=⟨hk0,HC.o.later hb1,hci,HE.o.ti.kept hk0 fun _ h=>.inl h,fun q hq=>by simp at hq⟩
 obtain⟨c1,c2⟩:=HKS.o w1 hk0;have HM:=lh he;have HGD:=lh hgd;have HRT:=lh hrt;clear ho hcs hg he hb1 hci hgd hrt hk0
 by_cases hm:m=[]
 ·have hP:zc2 (fitF ch g.cache f) st xs term x=litF st x:=by unfold zc2;rw[if_pos (by rw[<-HM.o,hm];rfl)]
  have hlen:=HLN.o;rw[hP]at hlen;have HLIT:=lh (zfn g F p L x w1 HSA.o.cmp.cc hx1 hx2 (by rw[<-HST.o];exact hlen) HSA.o.cmp.lo);have HP:=lh hP;subst hm;clear hP hlen;go_wp2_with fail;refine HLIT.o.mono ?_;rintro e w2⟨rfl,F',ha⟩;have HA:=lh ha;clear ha;go_wp2;go_ret;rw[HP.o,HST.o];exact⟨rfl,F',(Aft.refl HC.o.cc HB1.o).trans HA.o⟩
 have hml:0<m.length:=by
  cases m with
  |nil=>exact absurd rfl hm
  |cons _ _=>simp
 have hne:zah xs x≠[]:=fun e=>hm (by
  have:=HM.o;rw[e]at this
  exact List.map_eq_nil_iff.1 this)
 obtain⟨s1,hs1⟩:=nm ((litF st x).1);obtain⟨i1,hi1⟩:=nm ((litF st x).2);obtain⟨R,hR⟩:=nm (fitF ch g.cache f s1 (zah xs x) (term++[x]))
 have hP:zc2 (fitF ch g.cache f) st xs term x=(R.1++[⟨⟨3,0,(i1:Int)::zaf R.2⟩,none⟩],R.1.length):=by
  unfold zc2;rw[if_neg hne,hR,hs1,hi1];rfl
 have hlen:=HLN.o;rw[hP]at hlen
 have hlen2:R.1.length<65536:=by simp at hlen;omega
 have hmono:s1.length<=R.1.length:=by rw[hR];exact zeo ch g.cache f s1 (zah xs x) (term++[x])
 have hcard2:card (zae (zah xs x))<f:=by
  have hx0:=(HXN.o.ok hn).1;have hrg:=zg8 HV.o
  have:=zo4 (s:=zae xs) (t:=zae (zah xs x)) (fun v hv=>(za1 hx0 hv).1) HV.o (by
   cases e:(zae (zah xs x)).mem (zac x)with
   |false=>rfl
   |true=>exact absurd rfl (za1 hx0 e).2) hrg.1 hrg.2
  have:=HCD.o;omega
 have hI1:InvR ch (RT g.n g.t) g.cache g.n s1:=by rw[hs1];exact HI1.o
 have hgd1:gL g.n (zah xs x):=by rw[<-HM.o];exact HGD.o
 have hrt1:RT g.n g.t (zah xs x) (term++[x]):=by rw[<-HM.o];exact HRT.o
 obtain⟨r2,k1,k2,k3,_,_⟩:=zdw (R:=RT g.n g.t) (cache:=g.cache) hn (zb0 hn g.t) HX.o.ch f s1 (zah xs x) (term++[x]) hI1 hgd1 hrt1 hcard2;rw[<-hR]at k1 k3;rw[<-k1]at k2 k3
 have hRne:0<(zaf R.2).length:=by
  have:=k3.ne hne
  cases hh:R.2 with
  |nil=>exact absurd hh this
  |cons _ _=>simp[zaf]
 have hRl:(zaf R.2).length<=1073741824:=by
  have h1:=k3.len hn hgd1
  have h2:(zah xs x).length<=l.length:=by
   unfold zah;refine Nat.le_trans (zbc _) ?_;rw[List.length_map];refine Nat.le_trans (List.length_filter_le _ _) ?_;rw[HXS.o,List.length_map];exact Nat.le_refl _
  simp[zaf];omega
 have HP:=lh hP;have HI2:=lh k2;have HMN:=lh hmono;have HL2:=lh hlen2;have HRN:=lh hRne;have HRL:=lh hRl
 have HCALL:Hid (∀(F1:Nat->Prop)(L1:List Me)(V:World)(oL:Option Nat)(n gg cg:Nat),SB g ch F F1 p L1 w b m at' term x i1 V none oL (some (.slice (some ⟨gg,0,none⟩) n cg,term++[x]))->(L1.map fun e=>e.c)=s1->n=(term++[x]).length->
  Calls Tryz.prog 64 #[.pointer (some ⟨p,0,none⟩),.slice b m.length cap1,.slice (some ⟨gg,0,none⟩) n cg] V (zwl g F1 p R V)):=by
  show∀(F1:Nat->Prop)(L1:List Me)(V:World)(oL:Option Nat)(n gg cg:Nat),_
  intro F1 L1 V oL n gg cg h h1 h2;have:=SB.callfit (cap1:=cap1) HFI.o h h1 HM.o h2 (by simp;have:=HTL.o.1;omega) hgd1 hrt1 hcard2 (by rw[<-hR];omega);rw[<-hR]at this;exact this
 have hLIT:∀(V:World)(oX:Option Nat),SA g ch F p L w b m at' term x V oX->Calls Tryz.prog 95 #[.pointer (some ⟨p,0,none⟩),.int .i64 x] V fun r w'=>r=.returned (.int .i64 i1)/\∃F1 L1,(L1.map fun(e:Me)=>e.c)=s1/\SB g ch F F1 p L1 w b m at' term x i1 w' oX none none:=by
  intro V oX h;have h1:=zfn g F p L x V h.cmp.cc hx1 hx2 (by rw[<-HST.o,<-hs1];omega) h.cmp.lo;rw[<-HST.o,<-hi1,<-hs1]at h1;refine h1.mono ?_;rintro e w'⟨rfl,F1,ha⟩;obtain⟨L1,hL1,hB⟩:=h.lit HX.o ha hI1 i1;exact⟨rfl,F1,L1,hL1,hB⟩
 have HLIT:=lh hLIT;clear hP hlen hlen2 hmono hcard2 hI1 hgd1 hrt1 k1 k2 k3 hRne hRl hLIT hs1 hi1 hR hm hne hlm
 have h0:¬((m.length:Int)=0):=by omega
 go_wp2_with fail;have h0A:=HSA.o.later (V':=w1.drew) ((Below.refl _ _).drew)
 refine wp_region_held_drew (S:=(fun w'=>w'.cell? ⟨bc,0,none⟩=some (.pointer (some ⟨p,0,none⟩))/\w'.cell? ⟨bt,0,none⟩=some (.slice at' term.length ct))) (by kernel_rfl) (by exact HKS.o _ h0A.kp) fun hH=>?_
 refine tkV 0 17 rfl rfl ?_;try simp only[tkS]
 refine tkV 1 18 rfl rfl ?_;try simp only[tkS]
 refine tkV 4 21 rfl rfl ?_;try simp only[tkS]
 refine tkV 5 22 rfl rfl ?_;try simp only[tkS]
 refine tkV 6 23 rfl rfl ?_;try simp only[tkS]
 refine tkV 8 25 rfl rfl ?_;try simp only[tkS]
 refine wpAnyH_ready (rs:=[2,9]) (by kernel_rfl) (by simp) ?_;refine AllReadyH.cons rfl (fun K hK=>?_) (AllReadyH.cons rfl (fun K hK=>?_) AllReadyH.nil)
 focus
  go_simp;go_at_call 95;refine(HLIT.o _ _ h0A).mono ?_;rintro e V11⟨rfl,F1,L1,hL1,h11⟩;go_wp2_with fail
  refine hK.out _ _ (by exact HKS.o _ h11.kp) fun hH=>?_
  clear hK K
  try simp only[tkS]
  refine wpAnyH_ready (rs:=[3,7,9]) (by kernel_rfl) (by simp) ?_;refine AllReadyH.cons rfl (fun K hK=>?_) (AllReadyH.cons rfl (fun K hK=>?_) (AllReadyH.cons rfl (fun K hK=>?_) AllReadyH.nil))
  focus
   go_simp;have h12:=h11.allocL (q0:=V11.heap.size) (by simp)
   refine hK.out _ _ (by exact HKS.o _ h12.kp) fun hH=>?_
   clear hK K
   try simp only[tkS]
   refine wpAnyH_ready (rs:=[7,9]) (by kernel_rfl) (by simp) ?_;refine AllReadyH.cons rfl (fun K hK=>?_) (AllReadyH.cons rfl (fun K hK=>?_) AllReadyH.nil)
   focus
    go_simp;go_at_call 96;refine(zaz at' ct term _ (by have:=HTL.o;omega) h12.trm.ic).mono ?_;rintro e V13⟨vT,rfl,hoT,hbT⟩;have h13:=h12.clone hoT hbT;clear hoT hbT;go_wp2_with fail
    refine hK.out _ _ (by exact HKS.o _ h13.kp) fun hH=>?_
    clear hK K
    try simp only[tkS]
    refine tkR 9 (.cons rfl (fun K hK=>?_) .nil);go_simp;have h14:=h13.allocX (q0:=V13.heap.size) (by simp)
    refine hK.out _ _ (by exact HKS.o _ h14.kp) fun hH=>?_
    clear hK K
    try simp only[tkS]
    refine tkR 10 (.cons rfl (fun K hK=>?_) .nil);refine zas rfl _ _ rfl w.heap.size vT term rfl (h14.T _ _ rfl).1.1 ⟨V13.heap.size,0,none⟩ 1 [x] rfl ((h14.X _ rfl).1.intCells rfl) (by simp) (by have:=HTL.o;omega) (by simp) h14.kp.size ?_;intro gg cg V15 hog hgg hng;have h15:=h14.app HX.o hB HHF.o hog hgg hng;clear hog hgg hng
    try go_simp
    refine hK.out _ _ (by exact HKS.o _ h15.kp) fun hH=>?_
    clear hK K
    try simp only[tkS]
    refine tkR 11 (.cons rfl (fun K hK=>?_) .nil);go_simp;go_at_call 64;refine(HCALL.o _ _ _ _ _ _ _ h15 hL1 (by simp)).mono ?_;rintro e V16⟨vR,F2,rfl,ha2,hr2⟩;obtain⟨L2,hL2,h16⟩:=h15.fit HX.o ha2 HI2.o hr2 HHF.o
    obtain⟨gR,cR,rfl⟩:∃gR cR,vR=.slice (some ⟨gR,0,none⟩) (zaf R.2).length cR:=by
     rcases hr2.1.shape with⟨_,h0⟩|⟨gR,cR,h0,_⟩
     ·have:=HRN.o;rw[h0]at this;simp at this
     exact⟨gR,cR,h0⟩
    clear ha2 hr2;go_wp2_with fail
    refine hK.out _ _ (by exact HKS.o _ h16.kp) fun hH=>?_
    clear hK K
    try simp only[tkS]
    refine tkR 12 (.cons rfl (fun K hK=>?_) .nil);refine zas rfl _ _ rfl w.heap.size (.slice (some ⟨V11.heap.size,0,none⟩) 1 1) [(i1:Int)] rfl (h16.Lt _ rfl).1 ⟨gR,0,none⟩ cR (zaf R.2) rfl (h16.R.1.intCells rfl) HRN.o (by simp) HRL.o h16.kp.size ?_
   rotate_left
   focus
    go_simp;have h13:=h12.allocX (q0:=V11.heap.size+1) (by simp)
    refine hK.out _ _ (by exact HKS.o _ h13.kp) fun hH=>?_
    clear hK K
    try simp only[tkS]
    refine tkR 7 (.cons rfl (fun K hK=>?_) .nil);go_simp;go_at_call 96;refine(zaz at' ct term _ (by have:=HTL.o;omega) h13.trm.ic).mono ?_;rintro e V14⟨vT,rfl,hoT,hbT⟩;have h14:=h13.clone hoT hbT;clear hoT hbT;go_wp2_with fail
    refine hK.out _ _ (by exact HKS.o _ h14.kp) fun hH=>?_
    clear hK K
    try simp only[tkS]
    refine tkR 10 (.cons rfl (fun K hK=>?_) .nil);refine zas rfl _ _ rfl w.heap.size vT term rfl (h14.T _ _ rfl).1.1 ⟨V11.heap.size+1,0,none⟩ 1 [x] rfl ((h14.X _ rfl).1.intCells rfl) (by simp) (by have:=HTL.o;omega) (by simp) h14.kp.size ?_;intro gg cg V15 hog hgg hng;have h15:=h14.app HX.o hB HHF.o hog hgg hng;clear hog hgg hng
    try go_simp
    refine hK.out _ _ (by exact HKS.o _ h15.kp) fun hH=>?_
    clear hK K
    try simp only[tkS]
    refine tkR 11 (.cons rfl (fun K hK=>?_) .nil);go_simp;go_at_call 64;refine(HCALL.o _ _ _ _ _ _ _ h15 hL1 (by simp)).mono ?_;rintro e V16⟨vR,F2,rfl,ha2,hr2⟩;obtain⟨L2,hL2,h16⟩:=h15.fit HX.o ha2 HI2.o hr2 HHF.o
    obtain⟨gR,cR,rfl⟩:∃gR cR,vR=.slice (some ⟨gR,0,none⟩) (zaf R.2).length cR:=by
     rcases hr2.1.shape with⟨_,h0⟩|⟨gR,cR,h0,_⟩
     ·have:=HRN.o;rw[h0]at this;simp at this
     exact⟨gR,cR,h0⟩
    clear ha2 hr2;go_wp2_with fail
    refine hK.out _ _ (by exact HKS.o _ h16.kp) fun hH=>?_
    clear hK K
    try simp only[tkS]
    refine tkR 12 (.cons rfl (fun K hK=>?_) .nil);refine zas rfl _ _ rfl w.heap.size (.slice (some ⟨V11.heap.size,0,none⟩) 1 1) [(i1:Int)] rfl (h16.Lt _ rfl).1 ⟨gR,0,none⟩ cR (zaf R.2) rfl (h16.R.1.intCells rfl) HRN.o (by simp) HRL.o h16.kp.size ?_
   rotate_left
  rotate_left 2
  focus
   go_simp;go_at_call 96;refine(zaz at' ct term _ (by have:=HTL.o;omega) h11.trm.ic).mono ?_;rintro e V12⟨vT,rfl,hoT,hbT⟩;have h12:=h11.clone hoT hbT;clear hoT hbT;go_wp2_with fail
   refine hK.out _ _ (by exact HKS.o _ h12.kp) fun hH=>?_
   clear hK K
   try simp only[tkS]
   refine wpAnyH_ready (rs:=[3,9]) (by kernel_rfl) (by simp) ?_;refine AllReadyH.cons rfl (fun K hK=>?_) (AllReadyH.cons rfl (fun K hK=>?_) AllReadyH.nil)
   focus
    go_simp;have h13:=h12.allocL (q0:=V12.heap.size) (by simp)
    refine hK.out _ _ (by exact HKS.o _ h13.kp) fun hH=>?_
    clear hK K
    try simp only[tkS]
    refine tkR 9 (.cons rfl (fun K hK=>?_) .nil);go_simp;have h14:=h13.allocX (q0:=V12.heap.size+1) (by simp)
    refine hK.out _ _ (by exact HKS.o _ h14.kp) fun hH=>?_
    clear hK K
    try simp only[tkS]
    refine tkR 10 (.cons rfl (fun K hK=>?_) .nil);refine zas rfl _ _ rfl w.heap.size vT term rfl (h14.T _ _ rfl).1.1 ⟨V12.heap.size+1,0,none⟩ 1 [x] rfl ((h14.X _ rfl).1.intCells rfl) (by simp) (by have:=HTL.o;omega) (by simp) h14.kp.size ?_;intro gg cg V15 hog hgg hng;have h15:=h14.app HX.o hB HHF.o hog hgg hng;clear hog hgg hng
    try go_simp
    refine hK.out _ _ (by exact HKS.o _ h15.kp) fun hH=>?_
    clear hK K
    try simp only[tkS]
    refine tkR 11 (.cons rfl (fun K hK=>?_) .nil);go_simp;go_at_call 64;refine(HCALL.o _ _ _ _ _ _ _ h15 hL1 (by simp)).mono ?_;rintro e V16⟨vR,F2,rfl,ha2,hr2⟩;obtain⟨L2,hL2,h16⟩:=h15.fit HX.o ha2 HI2.o hr2 HHF.o
    obtain⟨gR,cR,rfl⟩:∃gR cR,vR=.slice (some ⟨gR,0,none⟩) (zaf R.2).length cR:=by
     rcases hr2.1.shape with⟨_,h0⟩|⟨gR,cR,h0,_⟩
     ·have:=HRN.o;rw[h0]at this;simp at this
     exact⟨gR,cR,h0⟩
    clear ha2 hr2;go_wp2_with fail
    refine hK.out _ _ (by exact HKS.o _ h16.kp) fun hH=>?_
    clear hK K
    try simp only[tkS]
    refine tkR 12 (.cons rfl (fun K hK=>?_) .nil);refine zas rfl _ _ rfl w.heap.size (.slice (some ⟨V12.heap.size,0,none⟩) 1 1) [(i1:Int)] rfl (h16.Lt _ rfl).1 ⟨gR,0,none⟩ cR (zaf R.2) rfl (h16.R.1.intCells rfl) HRN.o (by simp) HRL.o h16.kp.size ?_
   rotate_left
   focus
    go_simp;have h13:=h12.allocX (q0:=V12.heap.size) (by simp)
    refine hK.out _ _ (by exact HKS.o _ h13.kp) fun hH=>?_
    clear hK K
    try simp only[tkS]
    refine wpAnyH_ready (rs:=[3,10]) (by kernel_rfl) (by simp) ?_;refine AllReadyH.cons rfl (fun K hK=>?_) (AllReadyH.cons rfl (fun K hK=>?_) AllReadyH.nil)
    focus
     go_simp;have h14:=h13.allocL (q0:=V12.heap.size+1) (by simp)
     refine hK.out _ _ (by exact HKS.o _ h14.kp) fun hH=>?_
     clear hK K
     try simp only[tkS]
     refine tkR 10 (.cons rfl (fun K hK=>?_) .nil);refine zas rfl _ _ rfl w.heap.size vT term rfl (h14.T _ _ rfl).1.1 ⟨V12.heap.size,0,none⟩ 1 [x] rfl ((h14.X _ rfl).1.intCells rfl) (by simp) (by have:=HTL.o;omega) (by simp) h14.kp.size ?_;intro gg cg V15 hog hgg hng;have h15:=h14.app HX.o hB HHF.o hog hgg hng;clear hog hgg hng
     try go_simp
     refine hK.out _ _ (by exact HKS.o _ h15.kp) fun hH=>?_
     clear hK K
     try simp only[tkS]
     refine tkR 11 (.cons rfl (fun K hK=>?_) .nil);go_simp;go_at_call 64;refine(HCALL.o _ _ _ _ _ _ _ h15 hL1 (by simp)).mono ?_;rintro e V16⟨vR,F2,rfl,ha2,hr2⟩;obtain⟨L2,hL2,h16⟩:=h15.fit HX.o ha2 HI2.o hr2 HHF.o
     obtain⟨gR,cR,rfl⟩:∃gR cR,vR=.slice (some ⟨gR,0,none⟩) (zaf R.2).length cR:=by
      rcases hr2.1.shape with⟨_,h0⟩|⟨gR,cR,h0,_⟩
      ·have:=HRN.o;rw[h0]at this;simp at this
      exact⟨gR,cR,h0⟩
     clear ha2 hr2;go_wp2_with fail
     refine hK.out _ _ (by exact HKS.o _ h16.kp) fun hH=>?_
     clear hK K
     try simp only[tkS]
     refine tkR 12 (.cons rfl (fun K hK=>?_) .nil);refine zas rfl _ _ rfl w.heap.size (.slice (some ⟨V12.heap.size+1,0,none⟩) 1 1) [(i1:Int)] rfl (h16.Lt _ rfl).1 ⟨gR,0,none⟩ cR (zaf R.2) rfl (h16.R.1.intCells rfl) HRN.o (by simp) HRL.o h16.kp.size ?_
    rotate_left
    focus
     refine zas rfl _ _ rfl w.heap.size vT term rfl (h13.T _ _ rfl).1.1 ⟨V12.heap.size,0,none⟩ 1 [x] rfl ((h13.X _ rfl).1.intCells rfl) (by simp) (by have:=HTL.o;omega) (by simp) h13.kp.size ?_;intro gg cg V14 hog hgg hng;have h14:=h13.app HX.o hB HHF.o hog hgg hng;clear hog hgg hng
     try go_simp
     refine hK.out _ _ (by exact HKS.o _ h14.kp) fun hH=>?_
     clear hK K
     try simp only[tkS]
     refine wpAnyH_ready (rs:=[3,11]) (by kernel_rfl) (by simp) ?_;refine AllReadyH.cons rfl (fun K hK=>?_) (AllReadyH.cons rfl (fun K hK=>?_) AllReadyH.nil)
     focus
      go_simp;have h15:=h14.allocL (q0:=V14.heap.size) (by simp)
      refine hK.out _ _ (by exact HKS.o _ h15.kp) fun hH=>?_
      clear hK K
      try simp only[tkS]
      refine tkR 11 (.cons rfl (fun K hK=>?_) .nil);go_simp;go_at_call 64;refine(HCALL.o _ _ _ _ _ _ _ h15 hL1 (by simp)).mono ?_;rintro e V16⟨vR,F2,rfl,ha2,hr2⟩;obtain⟨L2,hL2,h16⟩:=h15.fit HX.o ha2 HI2.o hr2 HHF.o
      obtain⟨gR,cR,rfl⟩:∃gR cR,vR=.slice (some ⟨gR,0,none⟩) (zaf R.2).length cR:=by
       rcases hr2.1.shape with⟨_,h0⟩|⟨gR,cR,h0,_⟩
       ·have:=HRN.o;rw[h0]at this;simp at this
       exact⟨gR,cR,h0⟩
      clear ha2 hr2;go_wp2_with fail
      refine hK.out _ _ (by exact HKS.o _ h16.kp) fun hH=>?_
      clear hK K
      try simp only[tkS]
      refine tkR 12 (.cons rfl (fun K hK=>?_) .nil);refine zas rfl _ _ rfl w.heap.size (.slice (some ⟨V14.heap.size,0,none⟩) 1 1) [(i1:Int)] rfl (h16.Lt _ rfl).1 ⟨gR,0,none⟩ cR (zaf R.2) rfl (h16.R.1.intCells rfl) HRN.o (by simp) HRL.o h16.kp.size ?_
     rotate_left
     focus
      go_simp;go_at_call 64;refine(HCALL.o _ _ _ _ _ _ _ h14 hL1 (by simp)).mono ?_;rintro e V15⟨vR,F2,rfl,ha2,hr2⟩;obtain⟨L2,hL2,h15⟩:=h14.fit HX.o ha2 HI2.o hr2 HHF.o
      obtain⟨gR,cR,rfl⟩:∃gR cR,vR=.slice (some ⟨gR,0,none⟩) (zaf R.2).length cR:=by
       rcases hr2.1.shape with⟨_,h0⟩|⟨gR,cR,h0,_⟩
       ·have:=HRN.o;rw[h0]at this;simp at this
       exact⟨gR,cR,h0⟩
      clear ha2 hr2;go_wp2_with fail
      refine hK.out _ _ (by exact HKS.o _ h15.kp) fun hH=>?_
      clear hK K
      try simp only[tkS]
      refine tkR 3 (.cons rfl (fun K hK=>?_) .nil);go_simp;have h16:=h15.allocL (q0:=V15.heap.size) (by simp)
      refine hK.out _ _ (by exact HKS.o _ h16.kp) fun hH=>?_
      clear hK K
      try simp only[tkS]
      refine tkR 12 (.cons rfl (fun K hK=>?_) .nil);refine zas rfl _ _ rfl w.heap.size (.slice (some ⟨V15.heap.size,0,none⟩) 1 1) [(i1:Int)] rfl (h16.Lt _ rfl).1 ⟨gR,0,none⟩ cR (zaf R.2) rfl (h16.R.1.intCells rfl) HRN.o (by simp) HRL.o h16.kp.size ?_
     rotate_left
    rotate_left 2
   rotate_left 3
  rotate_left 4
  focus
   go_simp;have h12:=h11.allocX (q0:=V11.heap.size) (by simp)
   refine hK.out _ _ (by exact HKS.o _ h12.kp) fun hH=>?_
   clear hK K
   try simp only[tkS]
   refine wpAnyH_ready (rs:=[3,7]) (by kernel_rfl) (by simp) ?_;refine AllReadyH.cons rfl (fun K hK=>?_) (AllReadyH.cons rfl (fun K hK=>?_) AllReadyH.nil)
   focus
    go_simp;have h13:=h12.allocL (q0:=V11.heap.size+1) (by simp)
    refine hK.out _ _ (by exact HKS.o _ h13.kp) fun hH=>?_
    clear hK K
    try simp only[tkS]
    refine tkR 7 (.cons rfl (fun K hK=>?_) .nil);go_simp;go_at_call 96;refine(zaz at' ct term _ (by have:=HTL.o;omega) h13.trm.ic).mono ?_;rintro e V14⟨vT,rfl,hoT,hbT⟩;have h14:=h13.clone hoT hbT;clear hoT hbT;go_wp2_with fail
    refine hK.out _ _ (by exact HKS.o _ h14.kp) fun hH=>?_
    clear hK K
    try simp only[tkS]
    refine tkR 10 (.cons rfl (fun K hK=>?_) .nil);refine zas rfl _ _ rfl w.heap.size vT term rfl (h14.T _ _ rfl).1.1 ⟨V11.heap.size,0,none⟩ 1 [x] rfl ((h14.X _ rfl).1.intCells rfl) (by simp) (by have:=HTL.o;omega) (by simp) h14.kp.size ?_;intro gg cg V15 hog hgg hng;have h15:=h14.app HX.o hB HHF.o hog hgg hng;clear hog hgg hng
    try go_simp
    refine hK.out _ _ (by exact HKS.o _ h15.kp) fun hH=>?_
    clear hK K
    try simp only[tkS]
    refine tkR 11 (.cons rfl (fun K hK=>?_) .nil);go_simp;go_at_call 64;refine(HCALL.o _ _ _ _ _ _ _ h15 hL1 (by simp)).mono ?_;rintro e V16⟨vR,F2,rfl,ha2,hr2⟩;obtain⟨L2,hL2,h16⟩:=h15.fit HX.o ha2 HI2.o hr2 HHF.o
    obtain⟨gR,cR,rfl⟩:∃gR cR,vR=.slice (some ⟨gR,0,none⟩) (zaf R.2).length cR:=by
     rcases hr2.1.shape with⟨_,h0⟩|⟨gR,cR,h0,_⟩
     ·have:=HRN.o;rw[h0]at this;simp at this
     exact⟨gR,cR,h0⟩
    clear ha2 hr2;go_wp2_with fail
    refine hK.out _ _ (by exact HKS.o _ h16.kp) fun hH=>?_
    clear hK K
    try simp only[tkS]
    refine tkR 12 (.cons rfl (fun K hK=>?_) .nil);refine zas rfl _ _ rfl w.heap.size (.slice (some ⟨V11.heap.size+1,0,none⟩) 1 1) [(i1:Int)] rfl (h16.Lt _ rfl).1 ⟨gR,0,none⟩ cR (zaf R.2) rfl (h16.R.1.intCells rfl) HRN.o (by simp) HRL.o h16.kp.size ?_
   rotate_left
   focus
    go_simp;go_at_call 96;refine(zaz at' ct term _ (by have:=HTL.o;omega) h12.trm.ic).mono ?_;rintro e V13⟨vT,rfl,hoT,hbT⟩;have h13:=h12.clone hoT hbT;clear hoT hbT;go_wp2_with fail
    refine hK.out _ _ (by exact HKS.o _ h13.kp) fun hH=>?_
    clear hK K
    try simp only[tkS]
    refine wpAnyH_ready (rs:=[3,10]) (by kernel_rfl) (by simp) ?_;refine AllReadyH.cons rfl (fun K hK=>?_) (AllReadyH.cons rfl (fun K hK=>?_) AllReadyH.nil)
    focus
     go_simp;have h14:=h13.allocL (q0:=V13.heap.size) (by simp)
     refine hK.out _ _ (by exact HKS.o _ h14.kp) fun hH=>?_
     clear hK K
     try simp only[tkS]
     refine tkR 10 (.cons rfl (fun K hK=>?_) .nil);refine zas rfl _ _ rfl w.heap.size vT term rfl (h14.T _ _ rfl).1.1 ⟨V11.heap.size,0,none⟩ 1 [x] rfl ((h14.X _ rfl).1.intCells rfl) (by simp) (by have:=HTL.o;omega) (by simp) h14.kp.size ?_;intro gg cg V15 hog hgg hng;have h15:=h14.app HX.o hB HHF.o hog hgg hng;clear hog hgg hng
     try go_simp
     refine hK.out _ _ (by exact HKS.o _ h15.kp) fun hH=>?_
     clear hK K
     try simp only[tkS]
     refine tkR 11 (.cons rfl (fun K hK=>?_) .nil);go_simp;go_at_call 64;refine(HCALL.o _ _ _ _ _ _ _ h15 hL1 (by simp)).mono ?_;rintro e V16⟨vR,F2,rfl,ha2,hr2⟩;obtain⟨L2,hL2,h16⟩:=h15.fit HX.o ha2 HI2.o hr2 HHF.o
     obtain⟨gR,cR,rfl⟩:∃gR cR,vR=.slice (some ⟨gR,0,none⟩) (zaf R.2).length cR:=by
      rcases hr2.1.shape with⟨_,h0⟩|⟨gR,cR,h0,_⟩
      ·have:=HRN.o;rw[h0]at this;simp at this
      exact⟨gR,cR,h0⟩
     clear ha2 hr2;go_wp2_with fail
     refine hK.out _ _ (by exact HKS.o _ h16.kp) fun hH=>?_
     clear hK K
     try simp only[tkS]
     refine tkR 12 (.cons rfl (fun K hK=>?_) .nil);refine zas rfl _ _ rfl w.heap.size (.slice (some ⟨V13.heap.size,0,none⟩) 1 1) [(i1:Int)] rfl (h16.Lt _ rfl).1 ⟨gR,0,none⟩ cR (zaf R.2) rfl (h16.R.1.intCells rfl) HRN.o (by simp) HRL.o h16.kp.size ?_
    rotate_left
    focus
     refine zas rfl _ _ rfl w.heap.size vT term rfl (h13.T _ _ rfl).1.1 ⟨V11.heap.size,0,none⟩ 1 [x] rfl ((h13.X _ rfl).1.intCells rfl) (by simp) (by have:=HTL.o;omega) (by simp) h13.kp.size ?_;intro gg cg V14 hog hgg hng;have h14:=h13.app HX.o hB HHF.o hog hgg hng;clear hog hgg hng
     try go_simp
     refine hK.out _ _ (by exact HKS.o _ h14.kp) fun hH=>?_
     clear hK K
     try simp only[tkS]
     refine wpAnyH_ready (rs:=[3,11]) (by kernel_rfl) (by simp) ?_;refine AllReadyH.cons rfl (fun K hK=>?_) (AllReadyH.cons rfl (fun K hK=>?_) AllReadyH.nil)
     focus
      go_simp;have h15:=h14.allocL (q0:=V14.heap.size) (by simp)
      refine hK.out _ _ (by exact HKS.o _ h15.kp) fun hH=>?_
      clear hK K
      try simp only[tkS]
      refine tkR 11 (.cons rfl (fun K hK=>?_) .nil);go_simp;go_at_call 64;refine(HCALL.o _ _ _ _ _ _ _ h15 hL1 (by simp)).mono ?_;rintro e V16⟨vR,F2,rfl,ha2,hr2⟩;obtain⟨L2,hL2,h16⟩:=h15.fit HX.o ha2 HI2.o hr2 HHF.o
      obtain⟨gR,cR,rfl⟩:∃gR cR,vR=.slice (some ⟨gR,0,none⟩) (zaf R.2).length cR:=by
       rcases hr2.1.shape with⟨_,h0⟩|⟨gR,cR,h0,_⟩
       ·have:=HRN.o;rw[h0]at this;simp at this
       exact⟨gR,cR,h0⟩
      clear ha2 hr2;go_wp2_with fail
      refine hK.out _ _ (by exact HKS.o _ h16.kp) fun hH=>?_
      clear hK K
      try simp only[tkS]
      refine tkR 12 (.cons rfl (fun K hK=>?_) .nil);refine zas rfl _ _ rfl w.heap.size (.slice (some ⟨V14.heap.size,0,none⟩) 1 1) [(i1:Int)] rfl (h16.Lt _ rfl).1 ⟨gR,0,none⟩ cR (zaf R.2) rfl (h16.R.1.intCells rfl) HRN.o (by simp) HRL.o h16.kp.size ?_
     rotate_left
     focus
      go_simp;go_at_call 64;refine(HCALL.o _ _ _ _ _ _ _ h14 hL1 (by simp)).mono ?_;rintro e V15⟨vR,F2,rfl,ha2,hr2⟩;obtain⟨L2,hL2,h15⟩:=h14.fit HX.o ha2 HI2.o hr2 HHF.o
      obtain⟨gR,cR,rfl⟩:∃gR cR,vR=.slice (some ⟨gR,0,none⟩) (zaf R.2).length cR:=by
       rcases hr2.1.shape with⟨_,h0⟩|⟨gR,cR,h0,_⟩
       ·have:=HRN.o;rw[h0]at this;simp at this
       exact⟨gR,cR,h0⟩
      clear ha2 hr2;go_wp2_with fail
      refine hK.out _ _ (by exact HKS.o _ h15.kp) fun hH=>?_
      clear hK K
      try simp only[tkS]
      refine tkR 3 (.cons rfl (fun K hK=>?_) .nil);go_simp;have h16:=h15.allocL (q0:=V15.heap.size) (by simp)
      refine hK.out _ _ (by exact HKS.o _ h16.kp) fun hH=>?_
      clear hK K
      try simp only[tkS]
      refine tkR 12 (.cons rfl (fun K hK=>?_) .nil);refine zas rfl _ _ rfl w.heap.size (.slice (some ⟨V15.heap.size,0,none⟩) 1 1) [(i1:Int)] rfl (h16.Lt _ rfl).1 ⟨gR,0,none⟩ cR (zaf R.2) rfl (h16.R.1.intCells rfl) HRN.o (by simp) HRL.o h16.kp.size ?_
     rotate_left
    rotate_left 2
   rotate_left 3
  rotate_left 4
 rotate_left 10
 focus
  go_simp;have h11:=h0A.allocX (q0:=w1.heap.size) (by simp)
  refine hK.out _ _ (by exact HKS.o _ h11.kp) fun hH=>?_
  clear hK K
  try simp only[tkS]
  refine tkR 2 (.cons rfl (fun K hK=>?_) .nil);go_simp;go_at_call 95;refine(HLIT.o _ _ h11).mono ?_;rintro e V12⟨rfl,F1,L1,hL1,h12⟩;go_wp2_with fail
  refine hK.out _ _ (by exact HKS.o _ h12.kp) fun hH=>?_
  clear hK K
  try simp only[tkS]
  refine wpAnyH_ready (rs:=[3,7]) (by kernel_rfl) (by simp) ?_;refine AllReadyH.cons rfl (fun K hK=>?_) (AllReadyH.cons rfl (fun K hK=>?_) AllReadyH.nil)
  focus
   go_simp;have h13:=h12.allocL (q0:=V12.heap.size) (by simp)
   refine hK.out _ _ (by exact HKS.o _ h13.kp) fun hH=>?_
   clear hK K
   try simp only[tkS]
   refine tkR 7 (.cons rfl (fun K hK=>?_) .nil);go_simp;go_at_call 96;refine(zaz at' ct term _ (by have:=HTL.o;omega) h13.trm.ic).mono ?_;rintro e V14⟨vT,rfl,hoT,hbT⟩;have h14:=h13.clone hoT hbT;clear hoT hbT;go_wp2_with fail
   refine hK.out _ _ (by exact HKS.o _ h14.kp) fun hH=>?_
   clear hK K
   try simp only[tkS]
   refine tkR 10 (.cons rfl (fun K hK=>?_) .nil);refine zas rfl _ _ rfl w.heap.size vT term rfl (h14.T _ _ rfl).1.1 ⟨w1.heap.size,0,none⟩ 1 [x] rfl ((h14.X _ rfl).1.intCells rfl) (by simp) (by have:=HTL.o;omega) (by simp) h14.kp.size ?_;intro gg cg V15 hog hgg hng;have h15:=h14.app HX.o hB HHF.o hog hgg hng;clear hog hgg hng
   try go_simp
   refine hK.out _ _ (by exact HKS.o _ h15.kp) fun hH=>?_
   clear hK K
   try simp only[tkS]
   refine tkR 11 (.cons rfl (fun K hK=>?_) .nil);go_simp;go_at_call 64;refine(HCALL.o _ _ _ _ _ _ _ h15 hL1 (by simp)).mono ?_;rintro e V16⟨vR,F2,rfl,ha2,hr2⟩;obtain⟨L2,hL2,h16⟩:=h15.fit HX.o ha2 HI2.o hr2 HHF.o
   obtain⟨gR,cR,rfl⟩:∃gR cR,vR=.slice (some ⟨gR,0,none⟩) (zaf R.2).length cR:=by
    rcases hr2.1.shape with⟨_,h0⟩|⟨gR,cR,h0,_⟩
    ·have:=HRN.o;rw[h0]at this;simp at this
    exact⟨gR,cR,h0⟩
   clear ha2 hr2;go_wp2_with fail
   refine hK.out _ _ (by exact HKS.o _ h16.kp) fun hH=>?_
   clear hK K
   try simp only[tkS]
   refine tkR 12 (.cons rfl (fun K hK=>?_) .nil);refine zas rfl _ _ rfl w.heap.size (.slice (some ⟨V12.heap.size,0,none⟩) 1 1) [(i1:Int)] rfl (h16.Lt _ rfl).1 ⟨gR,0,none⟩ cR (zaf R.2) rfl (h16.R.1.intCells rfl) HRN.o (by simp) HRL.o h16.kp.size ?_
  rotate_left
  focus
   go_simp;go_at_call 96;refine(zaz at' ct term _ (by have:=HTL.o;omega) h12.trm.ic).mono ?_;rintro e V13⟨vT,rfl,hoT,hbT⟩;have h13:=h12.clone hoT hbT;clear hoT hbT;go_wp2_with fail
   refine hK.out _ _ (by exact HKS.o _ h13.kp) fun hH=>?_
   clear hK K
   try simp only[tkS]
   refine wpAnyH_ready (rs:=[3,10]) (by kernel_rfl) (by simp) ?_;refine AllReadyH.cons rfl (fun K hK=>?_) (AllReadyH.cons rfl (fun K hK=>?_) AllReadyH.nil)
   focus
    go_simp;have h14:=h13.allocL (q0:=V13.heap.size) (by simp)
    refine hK.out _ _ (by exact HKS.o _ h14.kp) fun hH=>?_
    clear hK K
    try simp only[tkS]
    refine tkR 10 (.cons rfl (fun K hK=>?_) .nil);refine zas rfl _ _ rfl w.heap.size vT term rfl (h14.T _ _ rfl).1.1 ⟨w1.heap.size,0,none⟩ 1 [x] rfl ((h14.X _ rfl).1.intCells rfl) (by simp) (by have:=HTL.o;omega) (by simp) h14.kp.size ?_;intro gg cg V15 hog hgg hng;have h15:=h14.app HX.o hB HHF.o hog hgg hng;clear hog hgg hng
    try go_simp
    refine hK.out _ _ (by exact HKS.o _ h15.kp) fun hH=>?_
    clear hK K
    try simp only[tkS]
    refine tkR 11 (.cons rfl (fun K hK=>?_) .nil);go_simp;go_at_call 64;refine(HCALL.o _ _ _ _ _ _ _ h15 hL1 (by simp)).mono ?_;rintro e V16⟨vR,F2,rfl,ha2,hr2⟩;obtain⟨L2,hL2,h16⟩:=h15.fit HX.o ha2 HI2.o hr2 HHF.o
    obtain⟨gR,cR,rfl⟩:∃gR cR,vR=.slice (some ⟨gR,0,none⟩) (zaf R.2).length cR:=by
     rcases hr2.1.shape with⟨_,h0⟩|⟨gR,cR,h0,_⟩
     ·have:=HRN.o;rw[h0]at this;simp at this
     exact⟨gR,cR,h0⟩
    clear ha2 hr2;go_wp2_with fail
    refine hK.out _ _ (by exact HKS.o _ h16.kp) fun hH=>?_
    clear hK K
    try simp only[tkS]
    refine tkR 12 (.cons rfl (fun K hK=>?_) .nil);refine zas rfl _ _ rfl w.heap.size (.slice (some ⟨V13.heap.size,0,none⟩) 1 1) [(i1:Int)] rfl (h16.Lt _ rfl).1 ⟨gR,0,none⟩ cR (zaf R.2) rfl (h16.R.1.intCells rfl) HRN.o (by simp) HRL.o h16.kp.size ?_
   rotate_left
   focus
    refine zas rfl _ _ rfl w.heap.size vT term rfl (h13.T _ _ rfl).1.1 ⟨w1.heap.size,0,none⟩ 1 [x] rfl ((h13.X _ rfl).1.intCells rfl) (by simp) (by have:=HTL.o;omega) (by simp) h13.kp.size ?_;intro gg cg V14 hog hgg hng;have h14:=h13.app HX.o hB HHF.o hog hgg hng;clear hog hgg hng
    try go_simp
    refine hK.out _ _ (by exact HKS.o _ h14.kp) fun hH=>?_
    clear hK K
    try simp only[tkS]
    refine wpAnyH_ready (rs:=[3,11]) (by kernel_rfl) (by simp) ?_;refine AllReadyH.cons rfl (fun K hK=>?_) (AllReadyH.cons rfl (fun K hK=>?_) AllReadyH.nil)
    focus
     go_simp;have h15:=h14.allocL (q0:=V14.heap.size) (by simp)
     refine hK.out _ _ (by exact HKS.o _ h15.kp) fun hH=>?_
     clear hK K
     try simp only[tkS]
     refine tkR 11 (.cons rfl (fun K hK=>?_) .nil);go_simp;go_at_call 64;refine(HCALL.o _ _ _ _ _ _ _ h15 hL1 (by simp)).mono ?_;rintro e V16⟨vR,F2,rfl,ha2,hr2⟩;obtain⟨L2,hL2,h16⟩:=h15.fit HX.o ha2 HI2.o hr2 HHF.o
     obtain⟨gR,cR,rfl⟩:∃gR cR,vR=.slice (some ⟨gR,0,none⟩) (zaf R.2).length cR:=by
      rcases hr2.1.shape with⟨_,h0⟩|⟨gR,cR,h0,_⟩
      ·have:=HRN.o;rw[h0]at this;simp at this
      exact⟨gR,cR,h0⟩
     clear ha2 hr2;go_wp2_with fail
     refine hK.out _ _ (by exact HKS.o _ h16.kp) fun hH=>?_
     clear hK K
     try simp only[tkS]
     refine tkR 12 (.cons rfl (fun K hK=>?_) .nil);refine zas rfl _ _ rfl w.heap.size (.slice (some ⟨V14.heap.size,0,none⟩) 1 1) [(i1:Int)] rfl (h16.Lt _ rfl).1 ⟨gR,0,none⟩ cR (zaf R.2) rfl (h16.R.1.intCells rfl) HRN.o (by simp) HRL.o h16.kp.size ?_
    rotate_left
    focus
     go_simp;go_at_call 64;refine(HCALL.o _ _ _ _ _ _ _ h14 hL1 (by simp)).mono ?_;rintro e V15⟨vR,F2,rfl,ha2,hr2⟩;obtain⟨L2,hL2,h15⟩:=h14.fit HX.o ha2 HI2.o hr2 HHF.o
     obtain⟨gR,cR,rfl⟩:∃gR cR,vR=.slice (some ⟨gR,0,none⟩) (zaf R.2).length cR:=by
      rcases hr2.1.shape with⟨_,h0⟩|⟨gR,cR,h0,_⟩
      ·have:=HRN.o;rw[h0]at this;simp at this
      exact⟨gR,cR,h0⟩
     clear ha2 hr2;go_wp2_with fail
     refine hK.out _ _ (by exact HKS.o _ h15.kp) fun hH=>?_
     clear hK K
     try simp only[tkS]
     refine tkR 3 (.cons rfl (fun K hK=>?_) .nil);go_simp;have h16:=h15.allocL (q0:=V15.heap.size) (by simp)
     refine hK.out _ _ (by exact HKS.o _ h16.kp) fun hH=>?_
     clear hK K
     try simp only[tkS]
     refine tkR 12 (.cons rfl (fun K hK=>?_) .nil);refine zas rfl _ _ rfl w.heap.size (.slice (some ⟨V15.heap.size,0,none⟩) 1 1) [(i1:Int)] rfl (h16.Lt _ rfl).1 ⟨gR,0,none⟩ cR (zaf R.2) rfl (h16.R.1.intCells rfl) HRN.o (by simp) HRL.o h16.kp.size ?_
    rotate_left
   rotate_left 2
  rotate_left 3
 rotate_left 4
 all_goals
  intro gg2 cg2 V17 hog hgg hng;have h17:=h16.app HX.o hB hog hgg hng;clear hog hgg hng
  try go_simp
  refine hK.out _ _ (by exact HKS.o _ h17.kp) fun hH=>?_
  clear hK K
  try simp only[tkS]
  refine tkV 13 7 rfl rfl ?_;try simp only[tkS]
  refine wpAnyH_done (by kernel_rfl) ?_ _;have HD:=lh h17
  have hl2:L2.length<65536:=by have h1:=HL2.o;rw[<-hL2,List.length_map]at h1;exact h1
  have HADD:=lh (HD.o.add hL2 hl2 hB);have HV6:=HKS.o _ HD.o.kp;obtain⟨c6,_⟩:=HV6;clear hl2;go_wp2_with fail;refine HADD.o.mono ?_;rintro e w9⟨rfl,F9,ha9⟩;have HA9:=lh ha9;clear ha9;go_wp2;go_ret;rw[HP.o];exact⟨rfl,F9,HA9.o⟩
end Go.Proofs.YtnlaakmglhjjmaaGreatDoor
