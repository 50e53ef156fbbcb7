/- Parts of the proofs of laws. Texts: Hp. -/
import Derived.Test.YtnlaakmglhjjmaaGreatDoorYC41
import Derived.Test.YtnlaakmglhjjmaaGreatDoorYC38
set_option maxHeartbeats 8000000
set_option maxRecDepth 100000
set_option linter.all false
namespace Go.Proofs.YtnlaakmglhjjmaaGreatDoor
open Go.RowKit Cen
theorem ztw:∀b,b<256->∀k,k<8->(bits .and .i64 ((b/2^k:Nat):Int) 1==1)=(b/2^k%2==1):=by decide+kernel
def AtQ(wi:World)(q:Nat)(v:Value)(wx:World):Prop:=∃j,v=.pointer (some ⟨j,0,none⟩)/\wi.heap.size<=j/\Blk wx j #[.string (natB q)] 36/\Below wi.heap.size wi wx
theorem zqs(n:Nat)(ta:Option Addr)(tc:Nat)(t:List Cl)(la:Option Addr)(lc:Nat)(l:List Pr)(q:Nat)(w:World)(hg:Gdt n t [])(hx:LsCells w ta t)(hl:l.length<=16)(hp:PrCells w la l)(hok:∀p∈l,p.ok)
 (hin:l.any (outP n)=false)(hcell:zfl n (nds (zad (chF [] false n) false n t)) l=some q)(htab:Tab w)(hdt:Dtab w):
 Calls Tryz.prog 12 #[.agg #[.int .i64 (n:Int),.slice ta t.length tc],.slice la l.length lc] w (zls q 0 w):=by
 obtain⟨w0,hw0⟩:=nm ((w.alloc (.cells #[.int .i64 (n:Int),.slice ta t.length tc] 26)).alloc (.cells #[.string ⟨#[]⟩] 36))
 have hb0:Below w.heap.size w w0:=by rw[hw0];exact(ba _ _).alloc (by simp) _
 have q0:Blk w0 w.heap.size #[.int .i64 (n:Int),.slice ta t.length tc] 26:=by rw[hw0];exact(Blk.new _ _ _).alloc _
 have q1:Blk w0 (w.heap.size+1) #[.string ⟨#[]⟩] 36:=by rw[hw0];exact Blk.new' _ (by simp) _ _
 have h40:t.length<=1073741824:=by have:=hg.tl;omega
 have HCK:=lh (fun V(hV:Below w.heap.size w V)=>zbj (n:Int) ta tc t V h40 (fun c hc=>by have:=hg.cl c hc;omega) (hx.keep hV));rw[hg.ct]at HCK;have HCM:=lh (fun V(hV:Below w.heap.size w V)=>zw1 n ta tc t none 0 [] false false V hg (hx.keep hV) (IntCells.nil _ _) (htab.keep hV));have HCF:=lh (fun V(hV:Below w.heap.size w V)(hT:Blk V w.heap.size #[.int .i64 (n:Int),.slice ta t.length tc] 26)=>zg2 la lc l 26 #[.pointer (some ⟨w.heap.size,0,none⟩)] (outP n) V (by omega) (hp.keep hV) (fun x W hm hb=>zt0 x w.heap.size (n:Int) _ W (hok x hm) (hT.later hb)) zka)
 rw[hin]at HCF;have HRD:=lh (fun V(hV:Below w.heap.size w V)=>zp9 la lc l V (by omega) (hp.keep hV) hok (hdt.keep hV));have HB0:=lh hb0;have HQ0:=lh q0;have HQ1:=lh q1
 have hl16:(l.length:Int)<=16:=by omega
 have HCE:=lh hcell;have HRK:=lh (zjv l hok);have HGD:=lh hg;have HDT:=lh hdt;have k0:=q0.cell 0;have k1:=q0.cell 1;have kz:=q0.lt;clear hb0 q0 q1 hx hp hok hin hcell htab hdt hg h40;go_enter Tryz.func12,Tryz.ntmps12;go_wp2_with fail;rw[<-hw0];clear hw0;refine(HCK.o _ HB0.o).mono ?_;rintro e w1⟨rfl,hb1⟩;have HB1:=bt HB0 hb1;have HT1:=lh (HQ0.o.later hb1);have HA1:=lh (HQ1.o.later hb1);clear hb1 k0 k1 kz HCK;have k0:=HT1.o.cell 0;have k1:=HT1.o.cell 1;have kz:=HT1.o.lt;go_wp2_with fail;refine(HCF.o _ HB1.o HT1.o).mono ?_;rintro e w2⟨rfl,hb2⟩;have HB2:=bt HB1 hb2
 have HT2:=lh (HT1.o.later hb2);have HA2:=lh (HA1.o.later hb2);clear hb2 k0 k1 kz HCF;have k0:=HT2.o.cell 0;have k1:=HT2.o.cell 1;have kz:=HT2.o.lt;go_wp2_with fail;refine(HCM.o _ HB2.o).mono ?_;rintro e w3⟨na,nc,ca,cc,NN,C,rfl,hr,hb3⟩;have HB3:=bt HB2 hb3;have HA3:=lh (HA2.o.later hb3);have HNL:=lh hr.n;have hok:zcv ⟨(n:Int),NN⟩=true:=hr.ok HGD.o;have HOK:=lh hok;have heq:=hr.eqN;rw[<-heq]at HCE;clear hb3 k0 k1 kz HCM hr heq hok;go_wp2_with fail;obtain⟨tb,htb⟩:=nm w3.heap.size;obtain⟨w4,hw4⟩:=nm (w3.alloc (.cells #[.int .i64 (n:Int),.slice na NN.length nc] 71))
 have hb4:Below w3.heap.size w3 w4:=by rw[hw4];exact ba _ _
 have q4:Blk w4 tb #[.int .i64 (n:Int),.slice na NN.length nc] 71:=by rw[hw4,htb];exact Blk.new _ _ _
 have HB4:=bt HB3 hb4;have HA4:=lh (HA3.o.later hb4);have HN4:=lh (HNL.o.keep hb4);have HQ4:=lh q4;rw[<-hw4,<-htb];clear hb4 q4 hw4 htb HA3 HNL;refine(HRD.o _ HB4.o).mono ?_;rintro e w5⟨rv,rfl,hrv,hb5⟩;obtain⟨ra,rc,rfl⟩:=zmu hrv;have HB5:=bt HB4 hb5;have HA5:=lh (HA4.o.later hb5);have HN5:=lh (HN4.o.keep hb5);have HQ5:=lh (HQ4.o.later hb5);have HRV:=lh hrv;clear hb5 hrv HRD HA4 HN4 HQ4
 cases hrd:(zay l).2 with
 |false=>
   have HQE:Hid (q=0):=by
    have h:=HCE.o;unfold zfl at h;rw[hrd,if_neg (by simp)]at h;simp only[Option.some.injEq]at h;exact h.symm
   have a0:=HA5.o.cell 0;have af:=HA5.o.fr 0;have al:=HA5.o.lt;clear hrd;go_wp2_with fail;have g0:=(HA5.o.set 0 (.string ⟨#[]⟩)).cell 0;exact bodyPost_ret (v:=.tuple #[.agg #[.string ⟨#[]⟩],.int .i64 0]) (by simp[results,Tryz.results12,go_sem,g0]) rfl ⟨by rw[HQE.o];rfl,HB5.o.setCell (show w.heap.size<=w.heap.size+1 by omega) _⟩
 |true=>
   have HRL:Hid (zfl n NN l=(zh3 n NN (zay l).1 (2^(zay l).1.length)).bind fun a=>if a.o<=a.e/\(zay l).1.length<=8 then some ((a.e-a.o)/2^(zay l).1.length)else none):=by show _=_;unfold zfl;rw[hrd,if_pos rfl]
   have hce:=HCE.o;rw[HRL.o]at hce;obtain⟨ca2,hca,hfin⟩:=bind_some hce;have HCA:=lh hca;have HFI:=lh hfin;clear hce hca hfin hrd HRL HCE;generalize(zay l).1=rows at*;have HVA:=lh (fun V(hV:Below w5.heap.size w5 V)=>zob (n:Int) na nc NN V HOK.o (ze7 HOK.o).2.2.2 (HN5.o.keep hV));have t0:=HQ5.o.cell 0;have t1:=HQ5.o.cell 1;have tz:=HQ5.o.lt
   have HKS:Hid (∀w':World,Below w5.heap.size w5 w'->w'.cell? ⟨tb,0,none⟩=some (.int .i64 (n:Int))/\w'.cell? ⟨tb,1,none⟩=some (.slice na NN.length nc)):=fun w' hb=>⟨zab hb t0,zab hb t1⟩
   go_upto_region 12 with fail
   refine wp_region_held_drew (S:=(fun w'=>w'.cell? ⟨tb,0,none⟩=some (.int .i64 (n:Int))/\w'.cell? ⟨tb,1,none⟩=some (.slice na NN.length nc))) (by kernel_rfl) (by exact HKS.o _ (Below.refl w5.heap.size w5).drew) fun hH=>?_
   refine tkV 0 59 rfl rfl ?_;try simp only[tkS]
   refine tkV 1 60 rfl rfl ?_;try simp only[tkS]
   refine tkR 2 (.cons rfl (fun K hK=>?_) .nil);go_simp;go_at_call 31;refine Calls.mono (HVA.o _ (Below.refl w5.heap.size w5).drew) ?_;rintro e v6⟨g,rfl,hov,hb6⟩;have hv6:Below w5.heap.size w5 v6:=Below.trans (Below.refl w5.heap.size w5).drew (Below.mono hb6 (Nat.le_refl _));go_wp2_with fail
   refine hK.out _ _ (by exact HKS.o _ hv6) fun hH=>?_
   clear hK K
   try simp only[tkS]
   refine tkV 3 62 rfl rfl ?_;try simp only[tkS]
   refine tkR 4 (.cons rfl (fun K hK=>?_) .nil);go_simp
   refine hK.out _ _ (by exact HKS.o _ (Below.alloc hv6 (Below.size hv6) _)) fun hH=>?_
   clear hK K
   try simp only[tkS]
   refine tkV 5 12 rfl rfl ?_;try simp only[tkS]
   refine wpAnyH_done (by kernel_rfl) ?_ _
   have hr8:rows.length<=8:=by
    have h:=HFI.o
    split at h
    ·rename_i h1;exact h1.2
    simp at h
   obtain⟨r,hr⟩:=nm rows.length;have HRR:=lh hr;rw[<-hr]at hr8
   obtain⟨P,hP⟩:∃P:Nat,P=2^r:=⟨_,rfl⟩
   have HPP:=lh hP
   have hsh:wrap64 ((2:Int)^r)=(P:Int):=by
    have h1:2^r<=2^8:=Nat.pow_le_pow_right (by omega) hr8;rw[show((2:Int)^r)=((2^r:Nat):Int)by norm_cast,<-hP];unfold wrap64;omega
   clear hP;rw[<-hr];clear hr;go_wp2_with fail
   try rw[hsh]
   clear hsh;obtain⟨cb,hcb⟩:=nm v6.heap.size;obtain⟨w7,hw7⟩:=nm ((((v6.alloc (.cells #[.int .i64 (n:Int),.slice na NN.length nc,.slice (some ⟨g,0,none⟩) NN.length NN.length] 84)).alloc (.cells #[.string ⟨#[]⟩] 36)).alloc (.cells #[.string ⟨#[]⟩] 36)))
   have hb7:Below v6.heap.size v6 w7:=by rw[hw7];exact((ba _ _).alloc (by simp) _).alloc (by simp;omega) _
   have qC:Blk w7 cb #[.int .i64 (n:Int),.slice na NN.length nc,.slice (some ⟨g,0,none⟩) NN.length NN.length] 84:=by rw[hw7,hcb];exact((Blk.new _ _ _).alloc _).alloc _
   have qM:Blk w7 (cb+1) #[.string (natB 0)] 36:=by rw[hw7,hcb];exact(Blk.new' _ (by simp) _ _).alloc _
   have qL:Blk w7 (cb+1+1) #[.string (natB 0)] 36:=by rw[hw7,hcb];exact Blk.new' _ (by simp) _ _
   have HB7:=lh (HB5.o.trans ((hv6.trans (hb7.mono hv6.size)).mono HB5.o.size));rw[<-hw7,<-hcb];have HC7:=lh qC;have HM7:=lh qM;have HL7:=lh qL;have HB67:=lh hb7;obtain⟨ov,hovv⟩:=nm w5.drew.heap.size;rw[<-hovv]at hov;have HOV:=lh hov;have HN6:=lh (HN5.o.keep hv6);have HA6:=lh (HA5.o.later hv6);have HB6:=bt HB5 hv6;obtain⟨ra2,rc2,hrv2,hrp⟩:=OwnP.pc HRV.o;simp only[Value.slice.injEq,true_and]at hrv2;obtain⟨rfl,rfl⟩:=hrv2;have HP6:=lh (hrp.keep hv6);have HCB:Hid (v6.heap.size=cb):=hcb.symm;clear hov hv6 hb7 qC qM qL hw7 hcb t0 t1 tz hrp hovv
   go_loopw[68](fun i wr=>∃(s:Nat)(A:Ct),s<=P/\i=.int .i64 s/\zh3 n NN rows s=some A/\Blk wr cb #[.int .i64 (n:Int),.slice na NN.length nc,.slice (some ⟨g,0,none⟩) NN.length NN.length] 84/\Blk wr (cb+1) #[.string (natB A.e)] 36/\Blk wr (cb+1+1) #[.string (natB A.o)] 36/\Below v6.heap.size v6 wr)(fun i _=>P-(intOf i).toNat)
   case atStart=>exact⟨0,⟨0,0⟩,Nat.zero_le _,rfl,rfl,HC7.o,HM7.o,HL7.o,HB67.o⟩
   obtain⟨wo,rfl⟩:∃wo:World,wo=wr:=⟨_,rfl⟩
   obtain⟨s,A,hs,rfl,hcA,hC,hM,hL,hbo⟩:=hrel;have HCS:=lh hcA;have HCO:=lh hC;have HMO:=lh hM;have HLO:=lh hL;have HBO:=lh hbo;clear hcA hC hM hL hbo HC7 HM7 HL7
   by_cases hlt:s<P
   ·have hsi:(s:Int)<(P:Int):=by omega
    have hs8:s<256:=by
     have h1:2^r<=2^8:=Nat.pow_le_pow_right (by omega) hr8;have h2:=HPP.o;omega
    have HS8:=lh hs8;have HLT:=lh hlt;clear hs hlt;go_wp2_with fail;obtain⟨pb,hpb⟩:=nm wo.heap.size;obtain⟨wa,hwa⟩:=nm (wo.alloc (.cells #[.int .u64 0,.int .u64 0,.bool false] 31))
    have hba:Below wo.heap.size wo wa:=by rw[hwa];exact ba _ _
    have qP:Blk wa pb #[.int .u64 0,.int .u64 0,.bool false] 31:=by rw[hwa,hpb];exact Blk.new _ _ _
    have HPA:=lh qP;have HBA:=bt HBO hba;have HCBA:=lh (HCO.o.later hba);have HMA:=lh (HMO.o.later hba);have HLA:=lh (HLO.o.later hba)
    have HPM:Hid (cb+1+1<pb):=by have:=HLO.o.lt;show _<_;omega
    rw[<-hwa,<-hpb];clear hba qP hwa hpb HMO HLO HCO
    go_loopw[73](fun i wi=>∃k:Nat,k<=r/\i=.int .i64 k/\Blk wi pb #[.int .u64 ((subK rows s k).v.a:Int),.int .u64 ((subK rows s k).v.b:Int),.bool (subK rows s k).odd] 31/\Kp (fun y=>y=pb) wa wi)(fun i _=>r-(intOf i).toNat)
    case atStart=>exact⟨0,Nat.zero_le _,rfl,HPA.o,Kp.refl _ _⟩
    obtain⟨k,hk,rfl,hpk,hkp⟩:=hrel
    rename World=>wi
    by_cases hlt2:k<r
    ·have HKI:=lh hkp;have HBI:=lh (HBA.o.trans (hkp.toBelow HBA.o.size (by intro y hy e;have:=HPM.o;have:=HCB.o;omega)));have HPK:=lh hpk
     have hkr:k<rows.length:=by rw[<-HRR.o];exact hlt2
     have hqe:rows.getD k default=rows.getD k Pr.zero:=by simp[List.getD_eq_getElem?_getD,hkr]
     obtain⟨b,off,hra,c0',c1',c2'⟩:=HP6.o k hkr;rw[hqe]at c0' c1' c2';have c0:=zab HBI.o c0';have c1:=zab HBI.o c1';have c2:=zab HBI.o c2';have cz:=zai c0
     have HQO:Hid ((rows.getD k Pr.zero).ok):=by
      show(rows.getD k Pr.zero).ok
      rw[List.getD_eq_getElem?_getD,List.getElem?_eq_getElem hkr];exact HRK.o _ (List.getElem_mem _)
     have HSO:=lh (zj0 rows s HRK.o k (Nat.le_of_lt hkr));have HSN:Hid (subK rows s (k+1)=if s/2^k%2=1 then sumP (subK rows s k) (rows.getD k Pr.zero)else subK rows s k):=rfl;have HS1:=lh (fun V=>zry (subK rows s k) (rows.getD k Pr.zero) V HSO.o HQO.o)
     have hki:(k:Int)<(r:Int):=by omega
     have hk64:(k:Int)<64:=by omega
     have hk0:(0:Int)<=(k:Int):=by omega
     subst hra;clear hpk hkp c0' c1' c2' hqe hk;generalize hp1e:subK rows s (k+1)=p1 at*;have HP1E:=lh hp1e;clear hp1e;generalize subK rows s k=p at*;generalize rows.getD k Pr.zero=qq at*
     have hbe:(bits .and .i64 ((s:Int)/2^k) 1==1)=(s/2^k%2==1):=by rw[zv2,ztw s HS8.o k (by omega)]
     have p0:=HPK.o.cell 0;have p1':=HPK.o.cell 1;have p2:=HPK.o.cell 2;have pz:=HPK.o.lt;have pf0:=HPK.o.fr 0;have pf1:=HPK.o.fr 1;have pf2:=HPK.o.fr 2;obtain⟨V,hV⟩:=nm (wi.alloc (.cells #[.int .u64 (qq.v.a:Int),.int .u64 (qq.v.b:Int),.bool qq.odd] 31))
     have HBV:Hid (Below wi.heap.size wi V):=by show Below _ _ _;rw[hV];exact ba _ _
     have HPV:=lh (HPK.o.later HBV.o)
     by_cases hbit:s/2^k%2=1
     ·have hb1:(bits .and .i64 ((s:Int)/2^k) 1==1)=true:=by rw[hbe];simpa using hbit
      have HPE:Hid (p1=sumP p qq):=by show _=_;rw[HSN.o,if_pos hbit]
      have HSV:=lh (HS1.o V);rw[<-HPE.o]at HSV;unfold prv at HSV;clear hbe hbit;go_wp2_with fail;rw[<-hV];clear hV c0 c1 c2 p0 p1' p2 pf0 pf1 pf2 pz;refine HSV.o.mono ?_;rintro e V2⟨rfl,hb2⟩;have q2:=HPV.o.later hb2;have d0:=q2.cell 0;have d1:=q2.cell 1;have d2:=q2.cell 2;have df0:=q2.fr 0;have df1:=q2.fr 1;have df2:=q2.fr 2;have dz:=q2.lt;have HQ2:=lh (((q2.set 0 (.int .u64 (p1.v.a:Int))).set 1 (.int .u64 (p1.v.b:Int))).set 2 (.bool p1.odd));have HK2:Hid (Kp (fun y=>y=pb) wa V2):=HKI.o.trans (Kp.below (HBV.o.trans (hb2.mono HBV.o.size)));clear hb2 q2;go_wp2_with fail
      clear d0 d1 d2 df0 df1 df2 dz;go_roundw
      case rel=>exact⟨k+1,by omega,by go_num,by rw[HP1E.o];exact HQ2.o,((HK2.o.trans (Kp.setCell _ _ _ rfl)).trans (Kp.setCell _ _ _ rfl)).trans (Kp.setCell _ _ _ rfl)⟩
      case measure=>simp[intOf];omega
     have hb1:(bits .and .i64 ((s:Int)/2^k) 1==1)=false:=by rw[hbe];simpa using hbit
     have HPE:Hid (p1=p):=by show _=_;rw[HSN.o,if_neg hbit]
     clear hbe hbit;go_wp2_with fail;rw[<-hV];clear hV c0 c1 c2 p0 p1' p2 pf0 pf1 pf2 pz;go_roundw
     case rel=>exact⟨k+1,by omega,by go_num,by rw[HP1E.o,HPE.o];exact HPV.o,HKI.o.trans (Kp.below HBV.o)⟩
     case measure=>simp[intOf];omega
    obtain rfl:k=r:=by omega
    have hna:¬((k:Int)<(k:Int)):=by omega
    have HBI:=lh (HBA.o.trans (hkp.toBelow HBA.o.size (by intro y hy e;have:=HPM.o;have:=HCB.o;omega)));have hpm:=HPM.o;have HCJ:=lh (HCBA.o.kept hkp (by omega));have HMJ:=lh (HMA.o.kept hkp (by omega));have HLJ:=lh (HLA.o.kept hkp (by omega));have HPK:=lh hpk;have hlt3:=HLT.o;rw[HPP.o,HRR.o]at hlt3;obtain⟨A',y,hA1,hy,hs1,hs2,hnx⟩:=zgz _ _ HCA.o s hlt3
    obtain rfl:A'=A:=by have h:=HCS.o;rw[hA1]at h;exact Option.some.inj h
    rw[<-HRR.o]at hy hs1 hs2 hnx;have hso:(subK rows s k).ok:=zj0 rows s HRK.o k (by rw[HRR.o];exact Nat.le_refl _);have HSO:=lh hso;have HCN:=lh (fun V(hV:Below wi.heap.size wi V)=>zsm n cb g ov na nc NN (subK rows s k).v y V HOK.o (HN6.o.keep (HBI.o.trans (hV.mono HBI.o.size))) (HCJ.o.later hV) (HOV.o.later (HBI.o.trans (hV.mono HBI.o.size))) hso hy);unfold ctv stv at HCN;have HNX:=lh hnx;have HS1:=lh hs1;have HS2:=lh hs2;have p0:=HPK.o.cell 0;have p1:=HPK.o.cell 1;have p2:=HPK.o.cell 2;have pz:=HPK.o.lt;clear hpk hkp hpm hlt3 hA1 hy hs1 hs2 hnx hso hk hlt2;generalize subK rows s k=p at*
    go_wp2_with fail;refine(HCN.o _ (Below.refl _ _)).mono ?_;rintro e w8⟨rfl,hb8⟩;have HB8:=bt HBI hb8;have HC8:=lh (HCJ.o.later hb8);have HM8:=lh (HMJ.o.later hb8);have HL8:=lh (HLJ.o.later hb8);have q8:=HPK.o.later hb8;clear p0 p1 p2 pz HCN hb8;have p2:=q8.cell 2;have pz:=q8.lt;clear q8;obtain⟨kb,hkb⟩:=nm w8.heap.size;have HKB:=lh hkb
    have q9:Blk (w8.alloc (.cells #[.string (natB y.e),.string (natB y.o)] 87)) kb #[.string (natB y.e),.string (natB y.o)] 87:=by rw[hkb];exact Blk.new _ _ _
    have hb9:Below w8.heap.size w8 (w8.alloc (.cells #[.string (natB y.e),.string (natB y.o)] 87)):=ba _ _;have HQ9:=lh q9;have HB9:=lh hb9;have l9:=q9.lt;have x0:=q9.cell 0;have x1:=q9.cell 1;have xf0:=q9.fr 0;have xf1:=q9.fr 1;clear q9 hb9
    obtain⟨z,hz⟩:∃z:Ct,z=zhe p.odd y:=⟨_,rfl⟩
    rw[<-hz]at HS1 HS2 HNX;have HZZ:=lh hz;clear hz
    cases ho:p.odd
    case' true=>
     rw[ho]at p2 HZZ;have HZ2:Hid (z=⟨y.o,y.e⟩):=HZZ.o
     go_upto_region 27 with fail
     rw[<-hkb];obtain⟨wx,hwx⟩:=nm (w8.alloc (.cells #[.string (natB y.o),.string (natB y.e)] 87))
     have qx:Blk wx kb #[.string (natB z.e),.string (natB z.o)] 87:=by rw[hwx,hkb,HZ2.o];exact Blk.new _ _ _
     have hbx:Below w8.heap.size w8 wx:=by rw[hwx];exact ba _ _
     rw[<-hwx];clear hwx HZ2
    case' false=>
     rw[ho]at p2 HZZ;have HZ2:Hid (z=y):=HZZ.o
     go_upto_region 27 with fail
     rw[<-hkb];obtain⟨wx,hwx⟩:=nm (w8.alloc (.cells #[.string (natB y.e),.string (natB y.o)] 87))
     have qx:Blk wx kb #[.string (natB z.e),.string (natB z.o)] 87:=by rw[hwx,hkb,HZ2.o];exact Blk.new _ _ _
     have hbx:Below w8.heap.size w8 wx:=by rw[hwx];exact ba _ _
     rw[<-hwx];clear hwx HZ2
    all_goals
     have HBX:=bt HB8 hbx;have HCX:=lh (HC8.o.later hbx);have HMX:=lh (HM8.o.later hbx);have HLX:=lh (HL8.o.later hbx);have HKX:=lh qx
     have HLK:Hid (cb+1+1<kb):=by have:=HL8.o.lt;have:=HKB.o;show _<_;omega
     clear p2 pz hkb l9 x0 x1 xf0 xf1 hbx qx HC8 HM8 HL8 HQ9 HB9 HB8 HZZ HCJ HMJ HLJ HBI HPK HSO ho;have x0:=HKX.o.cell 0;have x1:=HKX.o.cell 1;have xl:=HKX.o.lt;have m0:=HMX.o.cell 0;have ml:=HMX.o.lt;have l0:=HLX.o.cell 0;have ll:=HLX.o.lt
     have HKS:Hid (∀w':World,Kp (fun y=>y=cb+1\/y=cb+1+1) wx w'->(fun w'=>w'.cell? ⟨kb,0,none⟩=some (.string (natB z.e))/\w'.cell? ⟨kb,1,none⟩=some (.string (natB z.o))) w'):=fun w' hb=>⟨hb.cell x0 (by have:=HLK.o;dsimp only;omega),hb.cell x1 (by have:=HLK.o;dsimp only;omega)⟩
     have HAD1:=lh (fun V=>ze6 A'.e z.e (by have:=HS1.o;omega) (by have:=HS1.o;omega) (by have:=HS1.o;omega) V);have HAD2:=lh (fun V=>ze6 A'.o z.o (by have:=HS2.o;omega) (by have:=HS2.o;omega) (by have:=HS2.o;omega) V);unfold natv at HAD1 HAD2
     refine wp_region_held_drew (S:=(fun w'=>w'.cell? ⟨kb,0,none⟩=some (.string (natB z.e))/\w'.cell? ⟨kb,1,none⟩=some (.string (natB z.o)))) (by kernel_rfl) (by exact HKS.o _ (Kp.below (Below.refl _ _).drew)) fun hH=>?_
     refine tkV 1 101 rfl rfl ?_;try simp only[tkS]
     refine tkV 2 102 rfl rfl ?_;try simp only[tkS]
     refine tkV 5 105 rfl rfl ?_;try simp only[tkS]
     refine tkV 6 106 rfl rfl ?_;try simp only[tkS]
     clear m0 l0 x0 x1;refine wpAnyH_ready (rs:=[0,4]) (by kernel_rfl) (by simp) ?_;refine AllReadyH.cons rfl (fun K hK=>?_) (AllReadyH.cons rfl (fun K hK=>?_) AllReadyH.nil)
     focus
      have d0:=(HMX.o.later (Below.refl wx.heap.size wx).drew).cell 0;have dl:=(HMX.o.later (Below.refl wx.heap.size wx).drew).lt;go_simp;clear d0 dl
      refine hK.out _ _ (by exact HKS.o _ (Kp.below (Below.refl wx.heap.size wx).drew)) fun hH=>?_
      clear hK K
      try simp only[tkS]
      refine wpAnyH_ready (rs:=[3,4]) (by kernel_rfl) (by simp) ?_;refine AllReadyH.cons rfl (fun K hK=>?_) (AllReadyH.cons rfl (fun K hK=>?_) AllReadyH.nil)
      focus
       go_simp;go_at_call 34;refine Calls.mono (HAD1.o _) ?_;rintro e V11⟨rfl,hb11⟩;have hv11:Below wx.heap.size wx V11:=Below.trans (Below.refl wx.heap.size wx).drew (Below.mono hb11 (Below.size (Below.refl wx.heap.size wx).drew));clear hb11;go_wp2_with fail
       refine hK.out _ _ (by exact HKS.o _ (Kp.below hv11)) fun hH=>?_
       clear hK K
       try simp only[tkS]
       refine tkR 4 (.cons rfl (fun K hK=>?_) .nil);have d0:=(HLX.o.later hv11).cell 0;have dl:=(HLX.o.later hv11).lt;go_simp;clear d0 dl
      rotate_left
      focus
       have d0:=(HLX.o.later (Below.refl wx.heap.size wx).drew).cell 0;have dl:=(HLX.o.later (Below.refl wx.heap.size wx).drew).lt;go_simp;clear d0 dl
       refine hK.out _ _ (by exact HKS.o _ (Kp.below (Below.refl wx.heap.size wx).drew)) fun hH=>?_
       clear hK K
       try simp only[tkS]
       refine tkR 3 (.cons rfl (fun K hK=>?_) .nil);go_simp;go_at_call 34;refine Calls.mono (HAD1.o _) ?_;rintro e V11⟨rfl,hb11⟩;have hv11:Below wx.heap.size wx V11:=Below.trans (Below.refl wx.heap.size wx).drew (Below.mono hb11 (Below.size (Below.refl wx.heap.size wx).drew));clear hb11;go_wp2_with fail
      rotate_left
     rotate_left 2
     focus
      have d0:=(HLX.o.later (Below.refl wx.heap.size wx).drew).cell 0;have dl:=(HLX.o.later (Below.refl wx.heap.size wx).drew).lt;go_simp;clear d0 dl
      refine hK.out _ _ (by exact HKS.o _ (Kp.below (Below.refl wx.heap.size wx).drew)) fun hH=>?_
      clear hK K
      try simp only[tkS]
      refine tkR 0 (.cons rfl (fun K hK=>?_) .nil);have d0:=(HMX.o.later (Below.refl wx.heap.size wx).drew).cell 0;have dl:=(HMX.o.later (Below.refl wx.heap.size wx).drew).lt;go_simp;clear d0 dl
      refine hK.out _ _ (by exact HKS.o _ (Kp.below (Below.refl wx.heap.size wx).drew)) fun hH=>?_
      clear hK K
      try simp only[tkS]
      refine tkR 3 (.cons rfl (fun K hK=>?_) .nil);go_simp;go_at_call 34;refine Calls.mono (HAD1.o _) ?_;rintro e V11⟨rfl,hb11⟩;have hv11:Below wx.heap.size wx V11:=Below.trans (Below.refl wx.heap.size wx).drew (Below.mono hb11 (Below.size (Below.refl wx.heap.size wx).drew));clear hb11;go_wp2_with fail
     rotate_left
     all_goals
      refine hK.out _ _ (by exact HKS.o _ (Kp.below hv11)) fun hH=>?_
      clear hK K
      try simp only[tkS]
      refine tkR 7 (.cons rfl (fun K hK=>?_) .nil);go_simp;go_at_call 34;refine Calls.mono (HAD2.o _) ?_;rintro e V12⟨rfl,hb12⟩;have hv12:Below wx.heap.size wx V12:=Below.trans hv11 (Below.mono hb12 (Below.size hv11));clear hb12;go_wp2_with fail
      refine hK.out _ _ (by exact HKS.o _ (Kp.below hv12)) fun hH=>?_
      clear hK K
      try simp only[tkS]
      refine tkR 8 (.cons rfl (fun K hK=>?_) .nil);have d0:=(HMX.o.later hv12).cell 0;have df:=(HMX.o.later hv12).fr 0;have dl:=(HMX.o.later hv12).lt;go_simp;clear d0 df dl;have hk1:Kp (fun y=>y=cb+1\/y=cb+1+1) wx (V12.setCell ⟨cb+1,0,none⟩ (.string (natB (A'.e+z.e)))):=(Kp.below hv12).trans (Kp.setCell _ _ _ (.inl rfl));have ql:=(HLX.o.later hv12).other ⟨cb+1,0,none⟩ (.string (natB (A'.e+z.e))) (by dsimp only;omega)
      refine hK.out _ _ (by exact HKS.o _ hk1) fun hH=>?_
      clear hK K
      try simp only[tkS]
      refine tkR 9 (.cons rfl (fun K hK=>?_) .nil);have d0:=ql.cell 0;have df:=ql.fr 0;have dl:=ql.lt;go_simp;clear d0 df dl;have hk2:=hk1.trans (Kp.setCell (M:=fun y=>y=cb+1\/y=cb+1+1) _ ⟨cb+1+1,0,none⟩ (.string (natB (A'.o+z.o))) (.inr rfl))
      refine hK.out _ _ (by exact HKS.o _ hk2) fun hH=>?_
      clear hK K
      try simp only[tkS]
      refine wpAnyH_done (by kernel_rfl) ?_ _;go_wp2_with fail;go_roundw
      case rel=>exact⟨s+1,⟨A'.e+z.e,A'.o+z.o⟩,by have:=HLT.o;omega,by go_num,HNX.o,((HCX.o.later hv12).other _ _ (by dsimp only;omega)).other _ _ (by dsimp only;omega),((HMX.o.later hv12).set 0 _).other _ _ (by dsimp only;omega),ql.set 0 _,((HBX.o.trans (Below.mono hv12 HBX.o.size)).setCell (by have:=HCB.o;dsimp only;omega) _).setCell (by have:=HCB.o;dsimp only;omega) _⟩
      case measure=>simp[intOf];have:=HLT.o;omega
   obtain rfl:s=P:=by omega
   have hnn:¬((s:Int)<(s:Int)):=by omega
   have hca2:=HCA.o;rw[<-HRR.o,<-HPP.o]at hca2
   obtain rfl:ca2=A:=by have h:=HCS.o;rw[hca2]at h;exact Option.some.inj h
   obtain⟨hle,hq⟩:ca2.o<=ca2.e/\(ca2.e-ca2.o)/2^r=q:=by
    have h:=HFI.o;rw[<-HRR.o]at h
    split at h
    ·rename_i h1;exact⟨h1.1,Option.some.inj h⟩
    simp at h
   have h256:ca2.e<65536:=(zwu hca2).1;have HSU:=lh (fun V=>zyq ca2.e ca2.o h256 hle V);have h2r:2^r<=2^8:=Nat.pow_le_pow_right (by omega) hr8;have h2r1:1<=2^r:=Nat.one_le_two_pow;have HPW:=lh (fun V=>zif r hr8 V);have HDV:=lh (fun V=>zxa (ca2.e-ca2.o) (2^r) (by omega) h2r1 (by omega) V);rw[hq]at HDV;generalize ca2.e-ca2.o=d at*;unfold natv at HSU HPW HDV;have m0:=HMO.o.cell 0;have ml:=HMO.o.lt;have l0:=HLO.o.cell 0;have ll:=HLO.o.lt;have HBZ:=lh (HB6.o.trans (HBO.o.mono HB6.o.size));clear hs hlt hca2 hle hq h256 h2r h2r1 HCS HCA HFI HKS
   go_wp2_with fail;refine(HSU.o _).mono ?_;rintro e w9⟨rfl,hb9⟩;have HB9:=bt HBZ hb9;have HA9:=lh ((HA6.o.later HBO.o).later hb9);clear m0 ml l0 ll hb9
   go_upto_region 30 with fail
   obtain⟨db,hdb⟩:=nm w9.heap.size;obtain⟨wd,hwd⟩:=nm (w9.alloc (.cells #[.string (natB d)] 36))
   have hbd:Below w9.heap.size w9 wd:=by rw[hwd];exact ba _ _
   have qd:Blk wd db #[.string (natB d)] 36:=by rw[hwd,hdb];exact Blk.new _ _ _
   have HBD:=bt HB9 hbd;have HAD:=lh (HA9.o.later hbd);have x0:=qd.cell 0;have xl:=qd.lt
   have HKS:Hid (∀w':World,Below wd.heap.size wd w'->w'.cell? ⟨db,0,none⟩=some (.string (natB d))):=fun w' hb=>zab hb x0
   rw[<-hwd,<-hdb];clear hbd qd hwd hdb
   go_cut[22](fun v wx=>AtQ wd q v wx)
   case first=>
    refine wp_region_held_drew (S:=(fun w'=>w'.cell? ⟨db,0,none⟩=some (.string (natB d)))) (by kernel_rfl) (by exact HKS.o _ (Below.refl wd.heap.size wd).drew) fun hH=>?_
    refine tkV 0 116 rfl rfl ?_;try simp only[tkS]
    refine tkV 1 117 rfl rfl ?_;try simp only[tkS]
    refine tkV 2 118 rfl rfl ?_;try simp only[tkS]
    refine wpAnyH_ready (rs:=[3,9,10]) (by kernel_rfl) (by simp) ?_;refine AllReadyH.cons rfl (fun K hK=>?_) (AllReadyH.cons rfl (fun K hK=>?_) (AllReadyH.cons rfl (fun K hK=>?_) AllReadyH.nil))
    focus
     go_simp;go_at_call 10;refine Calls.mono (HPW.o _) ?_;rintro e V21⟨rfl,hb21⟩;have hv21:Below wd.heap.size wd V21:=Below.trans (Below.refl wd.heap.size wd).drew (Below.mono hb21 (Below.size (Below.refl wd.heap.size wd).drew));clear hb21;go_wp2_with fail
     refine hK.out _ _ (by exact HKS.o _ hv21) fun hH=>?_
     clear hK K
     try simp only[tkS]
     refine wpAnyH_ready (rs:=[4,9,10]) (by kernel_rfl) (by simp) ?_;refine AllReadyH.cons rfl (fun K hK=>?_) (AllReadyH.cons rfl (fun K hK=>?_) (AllReadyH.cons rfl (fun K hK=>?_) AllReadyH.nil))
     focus
      go_simp;go_at_call 36;refine Calls.mono (HDV.o _) ?_;rintro e V22⟨rfl,hb22⟩;have hv22:Below wd.heap.size wd V22:=Below.trans hv21 (Below.mono hb22 (Below.size hv21));clear hb22;go_wp2_with fail
      refine hK.out _ _ (by exact HKS.o _ hv22) fun hH=>?_
      clear hK K
      try simp only[tkS]
      refine tkV 5 115 rfl rfl ?_;try simp only[tkS]
      refine tkV 6 121 rfl rfl ?_;try simp only[tkS]
      refine tkV 7 122 rfl rfl ?_;try simp only[tkS]
      refine tkV 8 123 rfl rfl ?_;try simp only[tkS]
      refine wpAnyH_ready (rs:=[9,10]) (by kernel_rfl) (by simp) ?_;refine AllReadyH.cons rfl (fun K hK=>?_) (AllReadyH.cons rfl (fun K hK=>?_) AllReadyH.nil)
      focus
       go_simp;obtain⟨ja,hj⟩:=nm V22.heap.size
       have hwja:wd.heap.size<=ja:=by rw[hj];exact Below.size hv22
       have hv23:Below wd.heap.size wd (V22.alloc (.cells #[.string ⟨#[]⟩] 36)):=Below.alloc hv22 (Below.size hv22) _;have qja23:Blk (V22.alloc (.cells #[.string ⟨#[]⟩] 36)) ja #[.string ⟨#[]⟩] 36:=Blk.new' _ hj.symm _ _
       refine hK.out _ _ (by exact HKS.o _ hv23) fun hH=>?_
       clear hK K
       try simp only[tkS]
       rw[<-hj];generalize V22.alloc (.cells #[.string ⟨#[]⟩] 36)=V23 at*;clear hj;refine tkR 10 (.cons rfl (fun K hK=>?_) .nil);go_simp;obtain⟨jb,hj⟩:=nm V23.heap.size
       have hwjb:wd.heap.size<=jb:=by rw[hj];exact Below.size hv23
       have hv24:Below wd.heap.size wd (V23.alloc (.cells #[.string ⟨#[]⟩] 36)):=Below.alloc hv23 (Below.size hv23) _;have qjb24:Blk (V23.alloc (.cells #[.string ⟨#[]⟩] 36)) jb #[.string ⟨#[]⟩] 36:=Blk.new' _ hj.symm _ _;have qja24:Blk (V23.alloc (.cells #[.string ⟨#[]⟩] 36)) ja #[.string ⟨#[]⟩] 36:=qja23.alloc _
       have hneja:ja<jb:=by rw[hj];exact qja23.lt
       refine hK.out _ _ (by exact HKS.o _ hv24) fun hH=>?_
       clear hK K
       try simp only[tkS]
       rw[<-hj];generalize V23.alloc (.cells #[.string ⟨#[]⟩] 36)=V24 at*;clear hj
      rotate_left
      focus
       go_simp;obtain⟨jb,hj⟩:=nm V22.heap.size
       have hwjb:wd.heap.size<=jb:=by rw[hj];exact Below.size hv22
       have hv23:Below wd.heap.size wd (V22.alloc (.cells #[.string ⟨#[]⟩] 36)):=Below.alloc hv22 (Below.size hv22) _;have qjb23:Blk (V22.alloc (.cells #[.string ⟨#[]⟩] 36)) jb #[.string ⟨#[]⟩] 36:=Blk.new' _ hj.symm _ _
       refine hK.out _ _ (by exact HKS.o _ hv23) fun hH=>?_
       clear hK K
       try simp only[tkS]
       rw[<-hj];generalize V22.alloc (.cells #[.string ⟨#[]⟩] 36)=V23 at*;clear hj;refine tkR 9 (.cons rfl (fun K hK=>?_) .nil);go_simp;obtain⟨ja,hj⟩:=nm V23.heap.size
       have hwja:wd.heap.size<=ja:=by rw[hj];exact Below.size hv23
       have hv24:Below wd.heap.size wd (V23.alloc (.cells #[.string ⟨#[]⟩] 36)):=Below.alloc hv23 (Below.size hv23) _;have qja24:Blk (V23.alloc (.cells #[.string ⟨#[]⟩] 36)) ja #[.string ⟨#[]⟩] 36:=Blk.new' _ hj.symm _ _;have qjb24:Blk (V23.alloc (.cells #[.string ⟨#[]⟩] 36)) jb #[.string ⟨#[]⟩] 36:=qjb23.alloc _
       have hnejb:jb<ja:=by rw[hj];exact qjb23.lt
       refine hK.out _ _ (by exact HKS.o _ hv24) fun hH=>?_
       clear hK K
       try simp only[tkS]
       rw[<-hj];generalize V23.alloc (.cells #[.string ⟨#[]⟩] 36)=V24 at*;clear hj
      rotate_left
     rotate_left 2
     focus
      go_simp;obtain⟨ja,hj⟩:=nm V21.heap.size
      have hwja:wd.heap.size<=ja:=by rw[hj];exact Below.size hv21
      have hv22:Below wd.heap.size wd (V21.alloc (.cells #[.string ⟨#[]⟩] 36)):=Below.alloc hv21 (Below.size hv21) _;have qja22:Blk (V21.alloc (.cells #[.string ⟨#[]⟩] 36)) ja #[.string ⟨#[]⟩] 36:=Blk.new' _ hj.symm _ _
      refine hK.out _ _ (by exact HKS.o _ hv22) fun hH=>?_
      clear hK K
      try simp only[tkS]
      rw[<-hj];generalize V21.alloc (.cells #[.string ⟨#[]⟩] 36)=V22 at*;clear hj;refine wpAnyH_ready (rs:=[4,10]) (by kernel_rfl) (by simp) ?_;refine AllReadyH.cons rfl (fun K hK=>?_) (AllReadyH.cons rfl (fun K hK=>?_) AllReadyH.nil)
      focus
       go_simp;go_at_call 36;refine Calls.mono (HDV.o _) ?_;rintro e V23⟨rfl,hb23⟩;have hv23:Below wd.heap.size wd V23:=Below.trans hv22 (Below.mono hb23 (Below.size hv22));have qja23:=qja22.later hb23;clear hb23;go_wp2_with fail
       refine hK.out _ _ (by exact HKS.o _ hv23) fun hH=>?_
       clear hK K
       try simp only[tkS]
       refine tkV 5 115 rfl rfl ?_;try simp only[tkS]
       refine tkV 6 121 rfl rfl ?_;try simp only[tkS]
       refine tkV 7 122 rfl rfl ?_;try simp only[tkS]
       refine tkV 8 123 rfl rfl ?_;try simp only[tkS]
       refine tkR 10 (.cons rfl (fun K hK=>?_) .nil);go_simp;obtain⟨jb,hj⟩:=nm V23.heap.size
       have hwjb:wd.heap.size<=jb:=by rw[hj];exact Below.size hv23
       have hv24:Below wd.heap.size wd (V23.alloc (.cells #[.string ⟨#[]⟩] 36)):=Below.alloc hv23 (Below.size hv23) _;have qjb24:Blk (V23.alloc (.cells #[.string ⟨#[]⟩] 36)) jb #[.string ⟨#[]⟩] 36:=Blk.new' _ hj.symm _ _;have qja24:Blk (V23.alloc (.cells #[.string ⟨#[]⟩] 36)) ja #[.string ⟨#[]⟩] 36:=qja23.alloc _
       have hneja:ja<jb:=by rw[hj];exact qja23.lt
       refine hK.out _ _ (by exact HKS.o _ hv24) fun hH=>?_
       clear hK K
       try simp only[tkS]
       rw[<-hj];generalize V23.alloc (.cells #[.string ⟨#[]⟩] 36)=V24 at*;clear hj
      rotate_left
      focus
       go_simp;obtain⟨jb,hj⟩:=nm V22.heap.size
       have hwjb:wd.heap.size<=jb:=by rw[hj];exact Below.size hv22
       have hv23:Below wd.heap.size wd (V22.alloc (.cells #[.string ⟨#[]⟩] 36)):=Below.alloc hv22 (Below.size hv22) _;have qjb23:Blk (V22.alloc (.cells #[.string ⟨#[]⟩] 36)) jb #[.string ⟨#[]⟩] 36:=Blk.new' _ hj.symm _ _;have qja23:Blk (V22.alloc (.cells #[.string ⟨#[]⟩] 36)) ja #[.string ⟨#[]⟩] 36:=qja22.alloc _
       have hneja:ja<jb:=by rw[hj];exact qja22.lt
       refine hK.out _ _ (by exact HKS.o _ hv23) fun hH=>?_
       clear hK K
       try simp only[tkS]
       rw[<-hj];generalize V22.alloc (.cells #[.string ⟨#[]⟩] 36)=V23 at*;clear hj;refine tkR 4 (.cons rfl (fun K hK=>?_) .nil);go_simp;go_at_call 36;refine Calls.mono (HDV.o _) ?_;rintro e V24⟨rfl,hb24⟩;have hv24:Below wd.heap.size wd V24:=Below.trans hv23 (Below.mono hb24 (Below.size hv23));have qja24:=qja23.later hb24;have qjb24:=qjb23.later hb24;clear hb24;go_wp2_with fail
       refine hK.out _ _ (by exact HKS.o _ hv24) fun hH=>?_
       clear hK K
       try simp only[tkS]
       refine tkV 5 115 rfl rfl ?_;try simp only[tkS]
       refine tkV 6 121 rfl rfl ?_;try simp only[tkS]
       refine tkV 7 122 rfl rfl ?_;try simp only[tkS]
       refine tkV 8 123 rfl rfl ?_;try simp only[tkS]
      rotate_left
     rotate_left 2
     focus
      go_simp;obtain⟨jb,hj⟩:=nm V21.heap.size
      have hwjb:wd.heap.size<=jb:=by rw[hj];exact Below.size hv21
      have hv22:Below wd.heap.size wd (V21.alloc (.cells #[.string ⟨#[]⟩] 36)):=Below.alloc hv21 (Below.size hv21) _;have qjb22:Blk (V21.alloc (.cells #[.string ⟨#[]⟩] 36)) jb #[.string ⟨#[]⟩] 36:=Blk.new' _ hj.symm _ _
      refine hK.out _ _ (by exact HKS.o _ hv22) fun hH=>?_
      clear hK K
      try simp only[tkS]
      rw[<-hj];generalize V21.alloc (.cells #[.string ⟨#[]⟩] 36)=V22 at*;clear hj;refine wpAnyH_ready (rs:=[4,9]) (by kernel_rfl) (by simp) ?_;refine AllReadyH.cons rfl (fun K hK=>?_) (AllReadyH.cons rfl (fun K hK=>?_) AllReadyH.nil)
      focus
       go_simp;go_at_call 36;refine Calls.mono (HDV.o _) ?_;rintro e V23⟨rfl,hb23⟩;have hv23:Below wd.heap.size wd V23:=Below.trans hv22 (Below.mono hb23 (Below.size hv22));have qjb23:=qjb22.later hb23;clear hb23;go_wp2_with fail
       refine hK.out _ _ (by exact HKS.o _ hv23) fun hH=>?_
       clear hK K
       try simp only[tkS]
       refine tkV 5 115 rfl rfl ?_;try simp only[tkS]
       refine tkV 6 121 rfl rfl ?_;try simp only[tkS]
       refine tkV 7 122 rfl rfl ?_;try simp only[tkS]
       refine tkV 8 123 rfl rfl ?_;try simp only[tkS]
       refine tkR 9 (.cons rfl (fun K hK=>?_) .nil);go_simp;obtain⟨ja,hj⟩:=nm V23.heap.size
       have hwja:wd.heap.size<=ja:=by rw[hj];exact Below.size hv23
       have hv24:Below wd.heap.size wd (V23.alloc (.cells #[.string ⟨#[]⟩] 36)):=Below.alloc hv23 (Below.size hv23) _;have qja24:Blk (V23.alloc (.cells #[.string ⟨#[]⟩] 36)) ja #[.string ⟨#[]⟩] 36:=Blk.new' _ hj.symm _ _;have qjb24:Blk (V23.alloc (.cells #[.string ⟨#[]⟩] 36)) jb #[.string ⟨#[]⟩] 36:=qjb23.alloc _
       have hnejb:jb<ja:=by rw[hj];exact qjb23.lt
       refine hK.out _ _ (by exact HKS.o _ hv24) fun hH=>?_
       clear hK K
       try simp only[tkS]
       rw[<-hj];generalize V23.alloc (.cells #[.string ⟨#[]⟩] 36)=V24 at*;clear hj
      rotate_left
      focus
       go_simp;obtain⟨ja,hj⟩:=nm V22.heap.size
       have hwja:wd.heap.size<=ja:=by rw[hj];exact Below.size hv22
       have hv23:Below wd.heap.size wd (V22.alloc (.cells #[.string ⟨#[]⟩] 36)):=Below.alloc hv22 (Below.size hv22) _;have qja23:Blk (V22.alloc (.cells #[.string ⟨#[]⟩] 36)) ja #[.string ⟨#[]⟩] 36:=Blk.new' _ hj.symm _ _;have qjb23:Blk (V22.alloc (.cells #[.string ⟨#[]⟩] 36)) jb #[.string ⟨#[]⟩] 36:=qjb22.alloc _
       have hnejb:jb<ja:=by rw[hj];exact qjb22.lt
       refine hK.out _ _ (by exact HKS.o _ hv23) fun hH=>?_
       clear hK K
       try simp only[tkS]
       rw[<-hj];generalize V22.alloc (.cells #[.string ⟨#[]⟩] 36)=V23 at*;clear hj;refine tkR 4 (.cons rfl (fun K hK=>?_) .nil);go_simp;go_at_call 36;refine Calls.mono (HDV.o _) ?_;rintro e V24⟨rfl,hb24⟩;have hv24:Below wd.heap.size wd V24:=Below.trans hv23 (Below.mono hb24 (Below.size hv23));have qjb24:=qjb23.later hb24;have qja24:=qja23.later hb24;clear hb24;go_wp2_with fail
       refine hK.out _ _ (by exact HKS.o _ hv24) fun hH=>?_
       clear hK K
       try simp only[tkS]
       refine tkV 5 115 rfl rfl ?_;try simp only[tkS]
       refine tkV 6 121 rfl rfl ?_;try simp only[tkS]
       refine tkV 7 122 rfl rfl ?_;try simp only[tkS]
       refine tkV 8 123 rfl rfl ?_;try simp only[tkS]
      rotate_left
     rotate_left 2
    rotate_left 6
    focus
     go_simp;obtain⟨ja,hj⟩:=nm wd.heap.size
     have hwja:wd.heap.size<=ja:=by rw[hj];exact Nat.le_refl _
     have hv21:Below wd.heap.size wd ((wd.alloc (.cells #[.string ⟨#[]⟩] 36)).drew):=(Below.alloc (Below.refl wd.heap.size wd) (Nat.le_refl _) _).drew;have qja21:Blk ((wd.alloc (.cells #[.string ⟨#[]⟩] 36)).drew) ja #[.string ⟨#[]⟩] 36:=Blk.new' _ hj.symm _ _
     refine hK.out _ _ (by exact HKS.o _ hv21) fun hH=>?_
     clear hK K
     try simp only[tkS]
     rw[<-hj];generalize(wd.alloc (.cells #[.string ⟨#[]⟩] 36)).drew=V21 at*;clear hj;refine wpAnyH_ready (rs:=[3,10]) (by kernel_rfl) (by simp) ?_;refine AllReadyH.cons rfl (fun K hK=>?_) (AllReadyH.cons rfl (fun K hK=>?_) AllReadyH.nil)
     focus
      go_simp;go_at_call 10;refine Calls.mono (HPW.o _) ?_;rintro e V22⟨rfl,hb22⟩;have hv22:Below wd.heap.size wd V22:=Below.trans hv21 (Below.mono hb22 (Below.size hv21));have qja22:=qja21.later hb22;clear hb22;go_wp2_with fail
      refine hK.out _ _ (by exact HKS.o _ hv22) fun hH=>?_
      clear hK K
      try simp only[tkS]
      refine wpAnyH_ready (rs:=[4,10]) (by kernel_rfl) (by simp) ?_;refine AllReadyH.cons rfl (fun K hK=>?_) (AllReadyH.cons rfl (fun K hK=>?_) AllReadyH.nil)
      focus
       go_simp;go_at_call 36;refine Calls.mono (HDV.o _) ?_;rintro e V23⟨rfl,hb23⟩;have hv23:Below wd.heap.size wd V23:=Below.trans hv22 (Below.mono hb23 (Below.size hv22));have qja23:=qja22.later hb23;clear hb23;go_wp2_with fail
       refine hK.out _ _ (by exact HKS.o _ hv23) fun hH=>?_
       clear hK K
       try simp only[tkS]
       refine tkV 5 115 rfl rfl ?_;try simp only[tkS]
       refine tkV 6 121 rfl rfl ?_;try simp only[tkS]
       refine tkV 7 122 rfl rfl ?_;try simp only[tkS]
       refine tkV 8 123 rfl rfl ?_;try simp only[tkS]
       refine tkR 10 (.cons rfl (fun K hK=>?_) .nil);go_simp;obtain⟨jb,hj⟩:=nm V23.heap.size
       have hwjb:wd.heap.size<=jb:=by rw[hj];exact Below.size hv23
       have hv24:Below wd.heap.size wd (V23.alloc (.cells #[.string ⟨#[]⟩] 36)):=Below.alloc hv23 (Below.size hv23) _;have qjb24:Blk (V23.alloc (.cells #[.string ⟨#[]⟩] 36)) jb #[.string ⟨#[]⟩] 36:=Blk.new' _ hj.symm _ _;have qja24:Blk (V23.alloc (.cells #[.string ⟨#[]⟩] 36)) ja #[.string ⟨#[]⟩] 36:=qja23.alloc _
       have hneja:ja<jb:=by rw[hj];exact qja23.lt
       refine hK.out _ _ (by exact HKS.o _ hv24) fun hH=>?_
       clear hK K
       try simp only[tkS]
       rw[<-hj];generalize V23.alloc (.cells #[.string ⟨#[]⟩] 36)=V24 at*;clear hj
      rotate_left
      focus
       go_simp;obtain⟨jb,hj⟩:=nm V22.heap.size
       have hwjb:wd.heap.size<=jb:=by rw[hj];exact Below.size hv22
       have hv23:Below wd.heap.size wd (V22.alloc (.cells #[.string ⟨#[]⟩] 36)):=Below.alloc hv22 (Below.size hv22) _;have qjb23:Blk (V22.alloc (.cells #[.string ⟨#[]⟩] 36)) jb #[.string ⟨#[]⟩] 36:=Blk.new' _ hj.symm _ _;have qja23:Blk (V22.alloc (.cells #[.string ⟨#[]⟩] 36)) ja #[.string ⟨#[]⟩] 36:=qja22.alloc _
       have hneja:ja<jb:=by rw[hj];exact qja22.lt
       refine hK.out _ _ (by exact HKS.o _ hv23) fun hH=>?_
       clear hK K
       try simp only[tkS]
       rw[<-hj];generalize V22.alloc (.cells #[.string ⟨#[]⟩] 36)=V23 at*;clear hj;refine tkR 4 (.cons rfl (fun K hK=>?_) .nil);go_simp;go_at_call 36;refine Calls.mono (HDV.o _) ?_;rintro e V24⟨rfl,hb24⟩;have hv24:Below wd.heap.size wd V24:=Below.trans hv23 (Below.mono hb24 (Below.size hv23));have qja24:=qja23.later hb24;have qjb24:=qjb23.later hb24;clear hb24;go_wp2_with fail
       refine hK.out _ _ (by exact HKS.o _ hv24) fun hH=>?_
       clear hK K
       try simp only[tkS]
       refine tkV 5 115 rfl rfl ?_;try simp only[tkS]
       refine tkV 6 121 rfl rfl ?_;try simp only[tkS]
       refine tkV 7 122 rfl rfl ?_;try simp only[tkS]
       refine tkV 8 123 rfl rfl ?_;try simp only[tkS]
      rotate_left
     rotate_left 2
     focus
      go_simp;obtain⟨jb,hj⟩:=nm V21.heap.size
      have hwjb:wd.heap.size<=jb:=by rw[hj];exact Below.size hv21
      have hv22:Below wd.heap.size wd (V21.alloc (.cells #[.string ⟨#[]⟩] 36)):=Below.alloc hv21 (Below.size hv21) _;have qjb22:Blk (V21.alloc (.cells #[.string ⟨#[]⟩] 36)) jb #[.string ⟨#[]⟩] 36:=Blk.new' _ hj.symm _ _;have qja22:Blk (V21.alloc (.cells #[.string ⟨#[]⟩] 36)) ja #[.string ⟨#[]⟩] 36:=qja21.alloc _
      have hneja:ja<jb:=by rw[hj];exact qja21.lt
      refine hK.out _ _ (by exact HKS.o _ hv22) fun hH=>?_
      clear hK K
      try simp only[tkS]
      rw[<-hj];generalize V21.alloc (.cells #[.string ⟨#[]⟩] 36)=V22 at*;clear hj;refine tkR 3 (.cons rfl (fun K hK=>?_) .nil);go_simp;go_at_call 10;refine Calls.mono (HPW.o _) ?_;rintro e V23⟨rfl,hb23⟩;have hv23:Below wd.heap.size wd V23:=Below.trans hv22 (Below.mono hb23 (Below.size hv22));have qja23:=qja22.later hb23;have qjb23:=qjb22.later hb23;clear hb23;go_wp2_with fail
      refine hK.out _ _ (by exact HKS.o _ hv23) fun hH=>?_
      clear hK K
      try simp only[tkS]
      refine tkR 4 (.cons rfl (fun K hK=>?_) .nil);go_simp;go_at_call 36;refine Calls.mono (HDV.o _) ?_;rintro e V24⟨rfl,hb24⟩;have hv24:Below wd.heap.size wd V24:=Below.trans hv23 (Below.mono hb24 (Below.size hv23));have qja24:=qja23.later hb24;have qjb24:=qjb23.later hb24;clear hb24;go_wp2_with fail
      refine hK.out _ _ (by exact HKS.o _ hv24) fun hH=>?_
      clear hK K
      try simp only[tkS]
      refine tkV 5 115 rfl rfl ?_;try simp only[tkS]
      refine tkV 6 121 rfl rfl ?_;try simp only[tkS]
      refine tkV 7 122 rfl rfl ?_;try simp only[tkS]
      refine tkV 8 123 rfl rfl ?_;try simp only[tkS]
     rotate_left
    rotate_left 3
    focus
     go_simp;obtain⟨jb,hj⟩:=nm wd.heap.size
     have hwjb:wd.heap.size<=jb:=by rw[hj];exact Nat.le_refl _
     have hv21:Below wd.heap.size wd ((wd.alloc (.cells #[.string ⟨#[]⟩] 36)).drew):=(Below.alloc (Below.refl wd.heap.size wd) (Nat.le_refl _) _).drew;have qjb21:Blk ((wd.alloc (.cells #[.string ⟨#[]⟩] 36)).drew) jb #[.string ⟨#[]⟩] 36:=Blk.new' _ hj.symm _ _
     refine hK.out _ _ (by exact HKS.o _ hv21) fun hH=>?_
     clear hK K
     try simp only[tkS]
     rw[<-hj];generalize(wd.alloc (.cells #[.string ⟨#[]⟩] 36)).drew=V21 at*;clear hj;refine wpAnyH_ready (rs:=[3,9]) (by kernel_rfl) (by simp) ?_;refine AllReadyH.cons rfl (fun K hK=>?_) (AllReadyH.cons rfl (fun K hK=>?_) AllReadyH.nil)
     focus
      go_simp;go_at_call 10;refine Calls.mono (HPW.o _) ?_;rintro e V22⟨rfl,hb22⟩;have hv22:Below wd.heap.size wd V22:=Below.trans hv21 (Below.mono hb22 (Below.size hv21));have qjb22:=qjb21.later hb22;clear hb22;go_wp2_with fail
      refine hK.out _ _ (by exact HKS.o _ hv22) fun hH=>?_
      clear hK K
      try simp only[tkS]
      refine wpAnyH_ready (rs:=[4,9]) (by kernel_rfl) (by simp) ?_;refine AllReadyH.cons rfl (fun K hK=>?_) (AllReadyH.cons rfl (fun K hK=>?_) AllReadyH.nil)
      focus
       go_simp;go_at_call 36;refine Calls.mono (HDV.o _) ?_;rintro e V23⟨rfl,hb23⟩;have hv23:Below wd.heap.size wd V23:=Below.trans hv22 (Below.mono hb23 (Below.size hv22));have qjb23:=qjb22.later hb23;clear hb23;go_wp2_with fail
       refine hK.out _ _ (by exact HKS.o _ hv23) fun hH=>?_
       clear hK K
       try simp only[tkS]
       refine tkV 5 115 rfl rfl ?_;try simp only[tkS]
       refine tkV 6 121 rfl rfl ?_;try simp only[tkS]
       refine tkV 7 122 rfl rfl ?_;try simp only[tkS]
       refine tkV 8 123 rfl rfl ?_;try simp only[tkS]
       refine tkR 9 (.cons rfl (fun K hK=>?_) .nil);go_simp;obtain⟨ja,hj⟩:=nm V23.heap.size
       have hwja:wd.heap.size<=ja:=by rw[hj];exact Below.size hv23
       have hv24:Below wd.heap.size wd (V23.alloc (.cells #[.string ⟨#[]⟩] 36)):=Below.alloc hv23 (Below.size hv23) _;have qja24:Blk (V23.alloc (.cells #[.string ⟨#[]⟩] 36)) ja #[.string ⟨#[]⟩] 36:=Blk.new' _ hj.symm _ _;have qjb24:Blk (V23.alloc (.cells #[.string ⟨#[]⟩] 36)) jb #[.string ⟨#[]⟩] 36:=qjb23.alloc _
       have hnejb:jb<ja:=by rw[hj];exact qjb23.lt
       refine hK.out _ _ (by exact HKS.o _ hv24) fun hH=>?_
       clear hK K
       try simp only[tkS]
       rw[<-hj];generalize V23.alloc (.cells #[.string ⟨#[]⟩] 36)=V24 at*;clear hj
      rotate_left
      focus
       go_simp;obtain⟨ja,hj⟩:=nm V22.heap.size
       have hwja:wd.heap.size<=ja:=by rw[hj];exact Below.size hv22
       have hv23:Below wd.heap.size wd (V22.alloc (.cells #[.string ⟨#[]⟩] 36)):=Below.alloc hv22 (Below.size hv22) _;have qja23:Blk (V22.alloc (.cells #[.string ⟨#[]⟩] 36)) ja #[.string ⟨#[]⟩] 36:=Blk.new' _ hj.symm _ _;have qjb23:Blk (V22.alloc (.cells #[.string ⟨#[]⟩] 36)) jb #[.string ⟨#[]⟩] 36:=qjb22.alloc _
       have hnejb:jb<ja:=by rw[hj];exact qjb22.lt
       refine hK.out _ _ (by exact HKS.o _ hv23) fun hH=>?_
       clear hK K
       try simp only[tkS]
       rw[<-hj];generalize V22.alloc (.cells #[.string ⟨#[]⟩] 36)=V23 at*;clear hj;refine tkR 4 (.cons rfl (fun K hK=>?_) .nil);go_simp;go_at_call 36;refine Calls.mono (HDV.o _) ?_;rintro e V24⟨rfl,hb24⟩;have hv24:Below wd.heap.size wd V24:=Below.trans hv23 (Below.mono hb24 (Below.size hv23));have qjb24:=qjb23.later hb24;have qja24:=qja23.later hb24;clear hb24;go_wp2_with fail
       refine hK.out _ _ (by exact HKS.o _ hv24) fun hH=>?_
       clear hK K
       try simp only[tkS]
       refine tkV 5 115 rfl rfl ?_;try simp only[tkS]
       refine tkV 6 121 rfl rfl ?_;try simp only[tkS]
       refine tkV 7 122 rfl rfl ?_;try simp only[tkS]
       refine tkV 8 123 rfl rfl ?_;try simp only[tkS]
      rotate_left
     rotate_left 2
     focus
      go_simp;obtain⟨ja,hj⟩:=nm V21.heap.size
      have hwja:wd.heap.size<=ja:=by rw[hj];exact Below.size hv21
      have hv22:Below wd.heap.size wd (V21.alloc (.cells #[.string ⟨#[]⟩] 36)):=Below.alloc hv21 (Below.size hv21) _;have qja22:Blk (V21.alloc (.cells #[.string ⟨#[]⟩] 36)) ja #[.string ⟨#[]⟩] 36:=Blk.new' _ hj.symm _ _;have qjb22:Blk (V21.alloc (.cells #[.string ⟨#[]⟩] 36)) jb #[.string ⟨#[]⟩] 36:=qjb21.alloc _
      have hnejb:jb<ja:=by rw[hj];exact qjb21.lt
      refine hK.out _ _ (by exact HKS.o _ hv22) fun hH=>?_
      clear hK K
      try simp only[tkS]
      rw[<-hj];generalize V21.alloc (.cells #[.string ⟨#[]⟩] 36)=V22 at*;clear hj;refine tkR 3 (.cons rfl (fun K hK=>?_) .nil);go_simp;go_at_call 10;refine Calls.mono (HPW.o _) ?_;rintro e V23⟨rfl,hb23⟩;have hv23:Below wd.heap.size wd V23:=Below.trans hv22 (Below.mono hb23 (Below.size hv22));have qjb23:=qjb22.later hb23;have qja23:=qja22.later hb23;clear hb23;go_wp2_with fail
      refine hK.out _ _ (by exact HKS.o _ hv23) fun hH=>?_
      clear hK K
      try simp only[tkS]
      refine tkR 4 (.cons rfl (fun K hK=>?_) .nil);go_simp;go_at_call 36;refine Calls.mono (HDV.o _) ?_;rintro e V24⟨rfl,hb24⟩;have hv24:Below wd.heap.size wd V24:=Below.trans hv23 (Below.mono hb24 (Below.size hv23));have qjb24:=qjb23.later hb24;have qja24:=qja23.later hb24;clear hb24;go_wp2_with fail
      refine hK.out _ _ (by exact HKS.o _ hv24) fun hH=>?_
      clear hK K
      try simp only[tkS]
      refine tkV 5 115 rfl rfl ?_;try simp only[tkS]
      refine tkV 6 121 rfl rfl ?_;try simp only[tkS]
      refine tkV 7 122 rfl rfl ?_;try simp only[tkS]
      refine tkV 8 123 rfl rfl ?_;try simp only[tkS]
     rotate_left
    rotate_left 3
    all_goals
     refine tkR 11 (.cons rfl (fun K hK=>?_) .nil);have d0:=qja24.cell 0;have df:=qja24.fr 0;have dl:=qja24.lt;go_simp;clear d0 df dl;have hs1:=Below.setCell hv24 (p:=⟨ja,0,none⟩) hwja (.string (natB q));have qa:=qja24.set 0 (.string (natB q));have qb:=qjb24.other ⟨ja,0,none⟩ (.string (natB q)) (by dsimp only;omega)
     refine hK.out _ _ (by exact HKS.o _ hs1) fun hH=>?_
     clear hK K
     try simp only[tkS]
     refine tkR 12 (.cons rfl (fun K hK=>?_) .nil);have d0:=qb.cell 0;have df:=qb.fr 0;have dl:=qb.lt;go_simp;clear d0 df dl;have hs2:=Below.setCell hs1 (p:=⟨jb,0,none⟩) hwjb (.string (natB (d%2^r)));have qa2:=qa.other ⟨jb,0,none⟩ (.string (natB (d%2^r))) (by dsimp only;omega)
     refine hK.out _ _ (by exact HKS.o _ hs2) fun hH=>?_
     clear hK K
     try simp only[tkS]
     refine tkV 13 24 rfl rfl ?_;try simp only[tkS]
     refine wpAnyH_done (by kernel_rfl) ?_ _;go_wp2_with fail
     go_meet
     exact⟨ja,rfl,hwja,qa2,hs2⟩
   obtain⟨j,rfl,hjw,hqj,hbc⟩:=hcut;have HBC:=bt HBD hbc;have HAC:=lh (HAD.o.later hbc);have y0:=hqj.cell 0;have yl:=hqj.lt;have a0:=HAC.o.cell 0;have af:=HAC.o.fr 0;have al:=HAC.o.lt;clear hqj hbc x0 xl HKS;go_wp2_with fail;have g0:=(HAC.o.set 0 (.string (natB q))).cell 0;exact bodyPost_ret (v:=.tuple #[.agg #[.string (natB q)],.int .i64 0]) (by simp[results,Tryz.results12,go_sem,g0]) rfl ⟨rfl,HBC.o.setCell (show w.heap.size<=w.heap.size+1 by omega) _⟩
end Go.Proofs.YtnlaakmglhjjmaaGreatDoor
