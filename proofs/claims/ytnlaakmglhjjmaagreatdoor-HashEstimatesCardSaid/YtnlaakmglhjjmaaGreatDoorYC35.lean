/- Parts of the proofs of laws. Texts: Hg. -/
import Derived.Test.YtnlaakmglhjjmaaGreatDoorYC34
import Derived.Test.YtnlaakmglhjjmaaGreatDoorYC7
set_option maxHeartbeats 8000000
set_option maxRecDepth 100000
set_option linter.all false
namespace Go.Proofs.YtnlaakmglhjjmaaGreatDoor
open Go.RowKit Cen
def zpo(s odd:St):Option Ct:=if s.a<256/\s.b=0/\lenA s<=8/\(s.cut odd=St.zero\/1<=lenA s)then some (zmg (lenA s) (!eqSt (s.cut odd) St.zero))else none
def cAnd(M:List Ct):Ct->List Int->Option Ct
 |c,[]=>some c
 |c,y::ys=>(znb c (M.getD y.toNat default)).bind fun c'=>cAnd M c' ys
def cOr(vs:List St)(s odd:St)(M:List Ct):Ct->List Int->Option Ct
 |c,[]=>some c
 |c,y::ys=>(zpo (St.minus s (vs.getD y.toNat St.zero)) odd).bind fun f=>(znb (M.getD y.toNat default) f).bind fun z=>(addO c z).bind fun c'=>cOr vs s odd M c' ys
def znc(vs:List St)(odd:St)(M:List Ct)(s:St)(x:Nd):Option Ct:=
 if x.kind=1 then some ⟨1,0⟩else if x.kind=2 then some (if 0<x.lit/\odd.mem x.lit=true then⟨0,1⟩else⟨1,0⟩)
 else if x.kind=3 then cAnd M ⟨1,0⟩ x.ins else if x.kind=4 then cOr vs s odd M ⟨0,0⟩ x.ins else some ⟨0,0⟩
def zhk(vs:List St)(odd:St):List Ct->List Nd->Option (List Ct)
 |M,[]=>some M
 |M,x::l=>(znc vs odd M (vs.getD M.length St.zero) x).bind fun c=>zhk vs odd (M++[c]) l
def zkv(N:Nat)(l:List Nd)(odd:St):Option Ct:=
 (zhk (zau l) odd [] l).bind fun M=>(zpo (St.minus (zbq (N:Int)) ((zau l).getD (l.length-1) St.zero)) odd).bind fun f=>znb (M.getD (l.length-1) default) f
theorem bind_some{α β:Type}{x:Option α}{f:α->Option β}{b:β}(h:x.bind f=some b):∃a,x=some a/\f a=some b:=by
 cases x with
 |none=>simp at h
 |some a=>exact⟨a,rfl,h⟩
theorem zk2{s odd:St}{f:Ct}(h:zpo s odd=some f):f=zmg (lenA s) (!eqSt (s.cut odd) St.zero)/\s.a<256/\s.b=0/\lenA s<=8/\(s.cut odd≠St.zero->1<=lenA s):=by
 unfold zpo at h
 split at h
 ·rename_i h1
  simp only[Option.some.injEq]at h;exact⟨h.symm,h1.1,h1.2.1,h1.2.2.1,fun hn=>h1.2.2.2.resolve_left hn⟩
 simp at h
def AtBlk(wi:World)(z:Ct)(v:Value)(wx:World):Prop:=∃j,v=.pointer (some ⟨j,0,none⟩)/\wi.heap.size<=j/\Blk wx j #[.string (natB z.e),.string (natB z.o)] 87/\Below wi.heap.size wi wx
abbrev zgu:=OwnL ctc 87 2
theorem ych:Elem 144 87 2 32 (ctv ⟨0,0⟩):=.mk Tryz.underlying144 (by kernel_rfl) rfl (by decide)
theorem zup(vs zs:List Ct)(c:Ct)(x:Nat):((vs++c::zs).flatMap ctc).set (vs.length*2) (.string (natB x))=(vs++⟨x,c.o⟩::zs).flatMap ctc:=by
 have hl:=zbl zaw vs;rw[List.flatMap_append,List.flatMap_append,List.set_append_right _ _ (by omega),hl,Nat.sub_self]
 rfl
theorem zuq(vs zs:List Ct)(c:Ct)(x:Nat):((vs++c::zs).flatMap ctc).set (vs.length*2+1) (.string (natB x))=(vs++⟨c.e,x⟩::zs).flatMap ctc:=by
 have hl:=zbl zaw vs;rw[List.flatMap_append,List.flatMap_append,List.set_append_right _ _ (by omega),hl,show vs.length*2+1-vs.length*2=1 by omega]
 rfl
theorem zfo{w:World}{base g cap n i:Nat}{vs zs:List Ct}{c:Ct}(h:zgu w base (.slice (some ⟨g,0,none⟩) n cap) (vs++c::zs))(hi:i=vs.length)(hn:n=(vs++c::zs).length)(x:Nat):
 zgu (w.setCell ⟨g,i*2,none⟩ (.string (natB x))) base (.slice (some ⟨g,0,none⟩) n cap) (vs++⟨x,c.o⟩::zs):=by
 subst hi;subst hn;have:=(World.ownsRow.stored h (vs.length*2) (.string (natB x))).1;rw[zup]at this
 show World.ownsRow _ _ _ _ _ _ _
 simpa using this
theorem zl8{w:World}{base g cap n i:Nat}{vs zs:List Ct}{c:Ct}(h:zgu w base (.slice (some ⟨g,0,none⟩) n cap) (vs++c::zs))(hi:i=vs.length)(hn:n=(vs++c::zs).length)(x:Nat):
 zgu (w.setCell ⟨g,i*2+1,none⟩ (.string (natB x))) base (.slice (some ⟨g,0,none⟩) n cap) (vs++⟨c.e,x⟩::zs):=by
 subst hi;subst hn;have:=(World.ownsRow.stored h (vs.length*2+1) (.string (natB x))).1;rw[zuq]at this
 show World.ownsRow _ _ _ _ _ _ _
 simpa using this
structure HEnv(w V:World)(p B g bs N:Nat)(a:Option Addr)(cap:Nat)(l:List Nd)(odd:St)(GB:Nat):Prop where
 c:Blk V p #[.int .i64 (N:Int),.slice a l.length cap,.slice (some ⟨g,0,none⟩) l.length l.length] 84
 r0:Blk V w.heap.size #[.int .u64 (odd.a:Int),.int .u64 (odd.b:Int)] 29
 r1:Blk V (w.heap.size+1) #[.string ⟨#[]⟩,.string ⟨#[]⟩] 87
 p5:Blk V B #[.string (natB 1)] 36
 ov:zil V bs (.slice (some ⟨g,0,none⟩) l.length l.length) (zau l)
 bw:Below w.heap.size w V
 i1:p<w.heap.size
 i2:g<w.heap.size
 i3:w.heap.size+1<B
 i4:B<GB
theorem HEnv.kept{w V V':World}{p B g bs N:Nat}{a:Option Addr}{cap:Nat}{l:List Nd}{odd:St}{GB:Nat}(h:HEnv w V p B g bs N a cap l odd GB)(hk:Kp (fun y=>y=GB) V V'):HEnv w V' p B g bs N a cap l odd GB:=by
 have i1:=h.i1;have i2:=h.i2;have i3:=h.i3;have i4:=h.i4;exact⟨h.c.kept hk (by omega),h.r0.kept hk (by omega),h.r1.kept hk (by omega),h.p5.kept hk (by omega),h.ov.kept hk (by intro y hy e;simp[Value.ownBlock]at hy;omega),h.bw.trans (hk.toBelow h.bw.size (by intro y hy e;omega)),i1,i2,i3,i4⟩
theorem HEnv.later{w V V':World}{p B g bs N:Nat}{a:Option Addr}{cap:Nat}{l:List Nd}{odd:St}{GB:Nat}(h:HEnv w V p B g bs N a cap l odd GB)(hb:Below V.heap.size V V'):HEnv w V' p B g bs N a cap l odd GB:=h.kept (Kp.below hb)
theorem zsm(N p g bs:Nat)(a:Option Addr)(cap:Nat)(l:List Nd)(odd:St)(c:Ct)(w:World)(hok:zcv ⟨(N:Int),l⟩=true)(hx:NdCells w a l)
 (hp:Blk w p #[.int .i64 (N:Int),.slice a l.length cap,.slice (some ⟨g,0,none⟩) l.length l.length] 84)(hv:zil w bs (.slice (some ⟨g,0,none⟩) l.length l.length) (zau l))(hodd:odd.ok)(hc:zkv N l odd=some c):
 Calls Tryz.prog 33 #[.pointer (some ⟨p,0,none⟩),stv odd] w fun e w'=>e=.returned (ctv c)/\Below w.heap.size w w':=by
 obtain⟨R,hR,hc2⟩:=bind_some hc;obtain⟨f,hf,hc3⟩:=bind_some hc2;have HCR:=lh hR;have HCF:=lh hf;have HCB:=lh hc3;have HX:=lh hx;have HK:=lh hok;have HODD:=lh hodd;have hl2:l.length<=65536:=(ze7 hok).2.2.2
 have HM1:Hid (l.length<=maxLen):=by show _<=_;unfold maxLen;omega
 have hOF:Hid (∀V:World,Calls Tryz.prog 11 #[.int .u64 1] V fun e w'=>e=.returned (.agg #[.string (natB 1)])/\Below V.heap.size V w'):=fun V=>zvn 1 (by decide) V
 obtain⟨w0,hw0⟩:=nm ((w.alloc (.cells #[.int .u64 (odd.a:Int),.int .u64 (odd.b:Int)] 29)).alloc (.cells #[.string ⟨#[]⟩,.string ⟨#[]⟩] 87))
 have hb0:Below w.heap.size w w0:=by rw[hw0];exact((Below.refl _ w).alloc (Nat.le_refl _) _).alloc (by simp) _
 have q0:Blk w0 w.heap.size #[.int .u64 (odd.a:Int),.int .u64 (odd.b:Int)] 29:=by rw[hw0];exact(Blk.new _ _ _).alloc _
 have q1:Blk w0 (w.heap.size+1) #[.string ⟨#[]⟩,.string ⟨#[]⟩] 87:=by rw[hw0];exact Blk.new' _ (by simp) _ _
 have HB0:=lh hb0;have Q0:=lh q0;have Q1:=lh q1;have HP:=lh hp;have HV:=lh hv;clear hc hR hc2 hf hc3 hx hok hodd hp hv hb0 q0 q1;go_enter Tryz.func33,Tryz.ntmps33;go_wp2_with fail;rw[<-hw0];clear hw0;refine(hOF.out _).mono ?_;rintro e w1⟨rfl,hb1⟩;have HB1:Hid (Below w.heap.size w w1):=HB0.o.trans (hb1.mono HB0.o.size);have HL1:=lh hb1;clear hb1 hOF;obtain⟨B,hB⟩:=nm w1.heap.size;obtain⟨w2,hw2⟩:=nm (w1.alloc (.cells #[.string (natB 1)] 36))
 have hb2:Below w1.heap.size w1 w2:=by rw[hw2];exact ba _ _
 have hz2:w2.heap.size=B+1:=by rw[hw2,hB];simp
 have q2:Blk w2 B #[.string (natB 1)] 36:=by rw[hw2,hB];exact Blk.new _ _ _
 have h12:Below w.heap.size w w2:=HB1.o.trans (hb2.mono HB1.o.size);have k0:=(HP.o.laterB h12 HP.o.lt).cell 0;have k1:=(HP.o.laterB h12 HP.o.lt).cell 1;have kz:=(HP.o.laterB h12 HP.o.lt).lt;have HR1:=(Q1.o.later HL1.o).lt
 have E2:Hid (HEnv w w2 p B g bs N a cap l odd (B+1)):=⟨HP.o.laterB h12 HP.o.lt,Q0.o.later (HL1.o.trans (hb2.mono HL1.o.size)),Q1.o.later (HL1.o.trans (hb2.mono HL1.o.size)),q2,HV.o.kept (Kp.belowB (M:=fun y=>w.heap.size<=y) h12 fun _ h=>h) (by intro y hy h;have:=HV.o.lt.1;simp[Value.ownBlock]at hy;omega),h12,HP.o.lt,HV.o.lt.1,by omega,Nat.lt_succ_self _⟩
 have HZ2:=lh hz2;have HBB:=lh hB;clear HB1 HL1 Q0 Q1 HB0 hb2 hz2 q2 h12 HR1 HP HV;rw[hw2]at k0 k1 kz;go_wp2_with(at_make;go_loud(refine mk ych rfl _ _ rfl w2.heap.size .i64 .i64 _ _ l.length rfl rfl rfl rfl (by omega) HM1.o (by rw[hw2];exact Nat.le_refl _) ctc ⟨0,0⟩ rfl ?_));intro w3 hown3 hgrow3;rw[<-hw2]at hgrow3;rw[<-hB]at hown3⊢;have HB3:Hid (Below w2.heap.size w2 w3):=(Below.refl _ _).grown hgrow3 (Nat.le_refl _) (by simp);have E3:=lh (E2.o.later HB3.o);have k0:=E3.o.c.cell 0;have k1:=E3.o.c.cell 1;have kz:=E3.o.c.lt;have hown4:zgu w3 (B+1) (.slice (some ⟨B+1,0,none⟩) l.length l.length) (List.replicate l.length ⟨0,0⟩):=hown3
 have HO3:=lh hown4;obtain⟨GB,hGB⟩:=nm (B+1);rw[<-hGB]at HO3 E3⊢;clear hown3 hgrow3 hown4 hw2 E2 HB3 hGB HZ2 hB;go_wp2_with fail;clear k0 k1 kz;have HGB4:Hid (GB<w3.heap.size):=HO3.o.lt.1
 obtain⟨w4,rfl⟩:∃W:World,W=w3:=⟨_,rfl⟩
 go_loopw[29](fun i wr=>∃(k:Nat)(M:List Ct),k<=l.length/\M.length=k/\i=.int .i64 k/\zgu wr GB (.slice (some ⟨GB,0,none⟩) l.length l.length) (M++List.replicate (l.length-k) ⟨0,0⟩)/\zhk (zau l) odd M (l.drop k)=some R/\Kp (fun y=>y=GB) w4 wr)(fun i _=>l.length-(intOf i).toNat)
 case atStart=>exact⟨0,[],Nat.zero_le _,rfl,rfl,by simpa using HO3.o,HCR.o,Kp.refl _ _⟩
 obtain⟨wo,rfl⟩:∃wo:World,wo=wr:=⟨_,rfl⟩
 obtain⟨k,M,hk,hMl,rfl,hown,hcr,hkp⟩:=hrel;have E:=lh (E3.o.kept hkp);have HO:=lh hown;have HKP:=lh hkp;have HW4:Hid (w4.heap.size<=wo.heap.size):=hkp.size;have HML:=lh hMl;clear hown hkp hMl
 by_cases hlt:k<l.length
 ·obtain⟨b,off,rfl,c0',c1',av,cv,c2',hin,hil⟩:=HX.o k hlt
  have hgd:l.getD k default=l[k]:=by simp[List.getD_eq_getElem?_getD,hlt]
  have hnk:=zri HK.o hlt;rw[hgd]at c0' c1' c2' hin hil;simp only at hnk;rw[List.drop_eq_getElem_cons hlt,zhk]at hcr;obtain⟨cx,hcx,hrest⟩:=bind_some hcr;have HCX:=lh hcx;have HRS:=lh hrest;have hbw:b<w.heap.size:=zai c0';have c0:=E.o.bw.cell (p:=⟨b,off+k*3,none⟩) hbw;have c1:=E.o.bw.cell (p:=⟨b,off+k*3+1,none⟩) hbw;have c2:=E.o.bw.cell (p:=⟨b,off+k*3+2,none⟩) hbw;rw[c0']at c0;rw[c1']at c1;rw[c2']at c2;have hbz:b<wo.heap.size:=zai c0;have HNK:=lh hnk;generalize l[k]=x at*;have HIN:=lh hin;have hk5:=zi2 hnk
  rcases x with⟨kd,lt,ins⟩
  simp only at*;have HKD:=lh hk5;have HXB:=lh (Blk.new wo #[.int .i64 kd,.int .i64 lt,.slice av ins.length cv] 134);have EA:=lh (E.o.later ((Below.refl wo.heap.size wo).alloc (Nat.le_refl _) (.cells #[.int .i64 kd,.int .i64 lt,.slice av ins.length cv] 134)));have HOA:=lh (HO.o.later ((Below.refl wo.heap.size wo).alloc (Nat.le_refl _) (.cells #[.int .i64 kd,.int .i64 lt,.slice av ins.length cv] 134)));have HKA:Hid (Kp (fun y=>y=GB) w4 (wo.alloc (.cells #[.int .i64 kd,.int .i64 lt,.slice av ins.length cv] 134))):=Kp.trans (M:=fun y=>y=GB) HKP.o (Kp.below ((Below.refl wo.heap.size wo).alloc (Nat.le_refl _) (.cells #[.int .i64 kd,.int .i64 lt,.slice av ins.length cv] 134)))
  have HRP:Hid (List.replicate (l.length-k) (⟨0,0⟩:Ct)=⟨0,0⟩::List.replicate (l.length-(k+1)) ⟨0,0⟩):=by show _=_;rw[<-List.replicate_succ];congr 1;omega
  have HTL:Hid (k=M.length):=HML.o.symm;obtain⟨Z,hZ⟩:=nm (List.replicate (l.length-(k+1)) (⟨0,0⟩:Ct));have HZE:=lh hZ
  have HNL:Hid (∀c:Ct,l.length=(M++c::Z).length):=fun c=>by rw[hZ];simp[HML.o];omega
  have hoa:=HOA.o;rw[HRP.o,<-hZ]at hoa;have HOB:=lh hoa;have HZA:Hid (wo.heap.size<(wo.alloc (.cells #[.int .i64 kd,.int .i64 lt,.slice av ins.length cv] 134)).heap.size):=HXB.o.lt
  have hkl:(k:Int)<(l.length:Int):=by omega
  have HSQ:Hid (∀(V:World)(c:Ct),zgu V GB (.slice (some ⟨GB,0,none⟩) l.length l.length) (M++c::Z)->∀q:Nat,q<k->V.cell? ⟨GB,q*2,none⟩=some (.string (natB (M.getD q default).e))/\V.cell? ⟨GB,q*2+1,none⟩=some (.string (natB (M.getD q default).o))):=fun V c h q hq=>by
   have hqm:q<M.length:=by rw[HML.o];exact hq
   have h0:=h.left (i:=q) hqm (HNL.o c) zaw 0 (by omega);have h1:=h.left (i:=q) hqm (HNL.o c) zaw 1 (by omega)
   have e:M.getD q default=M[q]:=by simp[List.getD_eq_getElem?_getD,hqm]
   rw[e];exact⟨h0,h1⟩
  have HFIN:Hid (∀(W:World),zgu W GB (.slice (some ⟨GB,0,none⟩) l.length l.length) (M++cx::Z)->Kp (fun y=>y=GB) w4 W->∃(k':Nat)(M':List Ct),k'<=l.length/\M'.length=k'/\Value.int .i64 ((k:Int)+1)=.int .i64 k'/\zgu W GB (.slice (some ⟨GB,0,none⟩) l.length l.length) (M'++List.replicate (l.length-k') ⟨0,0⟩)/\zhk (zau l) odd M' (l.drop k')=some R/\Kp (fun y=>y=GB) w4 W):=fun W h1 h2=>by
   refine⟨k+1,M++[cx],by omega,by simp[HML.o],by go_num,?_,HRS.o,h2⟩;rw[<-HZE.o,List.append_assoc];exact h1
  clear hgd hin hnk c0' c1' c2' hoa hk5 hcr hcx hrest hZ HO HOA HKP HRP
  go_upto_region 7 with fail
  generalize wo.alloc (.cells #[.int .i64 kd,.int .i64 lt,.slice av ins.length cv] 134)=wa at*;have x0:wa.cell? ⟨wo.heap.size,0,none⟩=some (.int .i64 kd):=HXB.o.cell 0;have x1:wa.cell? ⟨wo.heap.size,1,none⟩=some (.int .i64 lt):=HXB.o.cell 1;have x2:wa.cell? ⟨wo.heap.size,2,none⟩=some (.slice av ins.length cv):=HXB.o.cell 2;have xl:=HXB.o.lt
  rcases HKD.o with rfl|rfl|rfl|rfl|rfl
  ·have HV:Hid (cx=⟨0,0⟩):=by have:=HCX.o;simp[znc]at this;exact this.symm
   go_wp2;go_roundw
   case rel=>exact HFIN.o wa (by rw[HV.o];exact HOB.o) HKA.o
   case measure=>simp[intOf];omega
  ·have HV:Hid (cx=⟨1,0⟩):=by have:=HCX.o;simp[znc]at this;exact this.symm
   have p5:=EA.o.p5.cell 0;have p5l:=EA.o.p5.lt;have g0:=HOB.o.mid HTL.o (HNL.o _) zaw 0 (by omega);simp only[ctc,List.getElem?_cons_zero,List.getElem?_cons_succ,Nat.add_zero]at g0;have gf:=HOB.o.fr (HNL.o _) (k*2);have gl:=HOB.o.lt.1;have hi4:=EA.o.i4
   go_upto_region 8 with fail
   refine wp_region_held_drew (S:=(fun w'=>w'.cell? ⟨B,0,none⟩=some (.string (natB 1)))) (by kernel_rfl) (by exact p5) fun hH=>?_
   refine tkV 0 38 rfl rfl ?_;try simp only[tkS]
   refine tkV 1 39 rfl rfl ?_;try simp only[tkS]
   refine tkV 2 40 rfl rfl ?_;try simp only[tkS]
   refine tkV 3 41 rfl rfl ?_;try simp only[tkS]
   refine tkV 4 42 rfl rfl ?_;try simp only[tkS]
   refine tkR 5 (.cons rfl (fun K hK=>?_) .nil);go_simp
   refine hK.out _ _ (by exact(Kp.setCell (M:=fun y=>y=GB) _ _ _ rfl).cell (by exact p5) (by dsimp only;omega)) fun hH=>?_
   clear hK K
   try simp only[tkS]
   refine wpAnyH_done (by kernel_rfl) ?_ _;go_wp2;go_roundw
   case rel=>exact HFIN.o _ (by rw[HV.o];exact zfo (HOB.o.later (Below.refl _ _).drew) HTL.o (HNL.o _) 1) (Kp.trans (M:=fun y=>y=GB) HKA.o (Kp.trans (M:=fun y=>y=GB) (Kp.below (Below.refl _ _).drew) (Kp.setCell (M:=fun y=>y=GB) _ _ _ rfl)))
   case measure=>simp[intOf];omega
  ·have hV2:cx=if 0<lt/\odd.mem lt=true then⟨0,1⟩else⟨1,0⟩:=by have:=HCX.o;simp[znc]at this;exact this.symm
   have HV2:=lh hV2;clear hV2;have e0:=EA.o.r0.cell 0;have e1:=EA.o.r0.cell 1;have el:=EA.o.r0.lt;have HHA:=lh (zpq odd lt wa HODD.o)
   by_cases h0:0<lt
   ·go_wp2_with fail;refine HHA.o.mono ?_;rintro e w5⟨rfl,hb5⟩;have EC:=lh (EA.o.later hb5);have HOC:=lh (HOB.o.later hb5);have HKC:Hid (Kp (fun y=>y=GB) w4 w5):=Kp.trans (M:=fun y=>y=GB) HKA.o (Kp.below hb5);clear hb5 x0 x1 x2 xl e0 e1 el
    cases hm:odd.mem lt with
    |true=>
      have HV:Hid (cx=⟨0,1⟩):=by show _=_;rw[HV2.o,if_pos ⟨h0,hm⟩]
      clear hm;have p5:=EC.o.p5.cell 0;have p5l:=EC.o.p5.lt;have g0:=HOC.o.mid HTL.o (HNL.o _) zaw 1 (by omega);simp only[ctc,List.getElem?_cons_zero,List.getElem?_cons_succ,Nat.add_zero]at g0;have gf:=HOC.o.fr (HNL.o _) (k*2+1);have gl:=HOC.o.lt.1;have hi4:=EC.o.i4
      go_upto_region 11 with fail
      refine wp_region_held_drew (S:=(fun w'=>w'.cell? ⟨B,0,none⟩=some (.string (natB 1)))) (by kernel_rfl) (by exact p5) fun hH=>?_
      refine tkV 0 54 rfl rfl ?_;try simp only[tkS]
      refine tkV 1 55 rfl rfl ?_;try simp only[tkS]
      refine tkV 2 56 rfl rfl ?_;try simp only[tkS]
      refine tkV 3 57 rfl rfl ?_;try simp only[tkS]
      refine tkV 4 58 rfl rfl ?_;try simp only[tkS]
      refine tkR 5 (.cons rfl (fun K hK=>?_) .nil);go_simp
      refine hK.out _ _ (by exact(Kp.setCell (M:=fun y=>y=GB) _ _ _ rfl).cell (by exact p5) (by dsimp only;omega)) fun hH=>?_
      clear hK K
      try simp only[tkS]
      refine wpAnyH_done (by kernel_rfl) ?_ _;go_wp2;go_roundw
      case rel=>exact HFIN.o _ (by rw[HV.o];exact zl8 (HOC.o.later (Below.refl _ _).drew) HTL.o (HNL.o _) 1) (Kp.trans (M:=fun y=>y=GB) HKC.o (Kp.trans (M:=fun y=>y=GB) (Kp.below (Below.refl _ _).drew) (Kp.setCell (M:=fun y=>y=GB) _ _ _ rfl)))
      case measure=>simp[intOf];omega
    |false=>
      have HV:Hid (cx=⟨1,0⟩):=by show _=_;rw[HV2.o,if_neg (fun h=>by rw[hm]at h;exact absurd h.2 (by simp))]
      clear hm;have p5:=EC.o.p5.cell 0;have p5l:=EC.o.p5.lt;have g0:=HOC.o.mid HTL.o (HNL.o _) zaw 0 (by omega);simp only[ctc,List.getElem?_cons_zero,List.getElem?_cons_succ,Nat.add_zero]at g0;have gf:=HOC.o.fr (HNL.o _) (k*2);have gl:=HOC.o.lt.1;have hi4:=EC.o.i4
      go_upto_region 12 with fail
      refine wp_region_held_drew (S:=(fun w'=>w'.cell? ⟨B,0,none⟩=some (.string (natB 1)))) (by kernel_rfl) (by exact p5) fun hH=>?_
      refine tkV 0 59 rfl rfl ?_;try simp only[tkS]
      refine tkV 1 60 rfl rfl ?_;try simp only[tkS]
      refine tkV 2 61 rfl rfl ?_;try simp only[tkS]
      refine tkV 3 62 rfl rfl ?_;try simp only[tkS]
      refine tkV 4 63 rfl rfl ?_;try simp only[tkS]
      refine tkR 5 (.cons rfl (fun K hK=>?_) .nil);go_simp
      refine hK.out _ _ (by exact(Kp.setCell (M:=fun y=>y=GB) _ _ _ rfl).cell (by exact p5) (by dsimp only;omega)) fun hH=>?_
      clear hK K
      try simp only[tkS]
      refine wpAnyH_done (by kernel_rfl) ?_ _;go_wp2;go_roundw
      case rel=>exact HFIN.o _ (by rw[HV.o];exact zfo (HOC.o.later (Below.refl _ _).drew) HTL.o (HNL.o _) 1) (Kp.trans (M:=fun y=>y=GB) HKC.o (Kp.trans (M:=fun y=>y=GB) (Kp.below (Below.refl _ _).drew) (Kp.setCell (M:=fun y=>y=GB) _ _ _ rfl)))
      case measure=>simp[intOf];omega
   have HV:Hid (cx=⟨1,0⟩):=by show _=_;rw[HV2.o,if_neg (fun h=>h0 h.1)]
   have p5:=EA.o.p5.cell 0;have p5l:=EA.o.p5.lt;have g0:=HOB.o.mid HTL.o (HNL.o _) zaw 0 (by omega);simp only[ctc,List.getElem?_cons_zero,List.getElem?_cons_succ,Nat.add_zero]at g0;have gf:=HOB.o.fr (HNL.o _) (k*2);have gl:=HOB.o.lt.1;have hi4:=EA.o.i4
   go_upto_region 12 with fail
   refine wp_region_held_drew (S:=(fun w'=>w'.cell? ⟨B,0,none⟩=some (.string (natB 1)))) (by kernel_rfl) (by exact p5) fun hH=>?_
   refine tkV 0 59 rfl rfl ?_;try simp only[tkS]
   refine tkV 1 60 rfl rfl ?_;try simp only[tkS]
   refine tkV 2 61 rfl rfl ?_;try simp only[tkS]
   refine tkV 3 62 rfl rfl ?_;try simp only[tkS]
   refine tkV 4 63 rfl rfl ?_;try simp only[tkS]
   refine tkR 5 (.cons rfl (fun K hK=>?_) .nil);go_simp
   refine hK.out _ _ (by exact(Kp.setCell (M:=fun y=>y=GB) _ _ _ rfl).cell (by exact p5) (by dsimp only;omega)) fun hH=>?_
   clear hK K
   try simp only[tkS]
   refine wpAnyH_done (by kernel_rfl) ?_ _;go_wp2;go_roundw
   case rel=>exact HFIN.o _ (by rw[HV.o];exact zfo (HOB.o.later (Below.refl _ _).drew) HTL.o (HNL.o _) 1) (Kp.trans (M:=fun y=>y=GB) HKA.o (Kp.trans (M:=fun y=>y=GB) (Kp.below (Below.refl _ _).drew) (Kp.setCell (M:=fun y=>y=GB) _ _ _ rfl)))
   case measure=>simp[intOf];omega
  ·have HCY:Hid (cAnd M ⟨1,0⟩ ins=some cx):=by have:=HCX.o;show _=_;simpa[znc]using this
   clear x0 x1 x2 xl c0 c1 c2 hbz hbw;have x0:wa.cell? ⟨wo.heap.size,0,none⟩=some (.int .i64 3):=HXB.o.cell 0;have xl:=HXB.o.lt;have p5:=EA.o.p5.cell 0;have p5l:=EA.o.p5.lt;have g0:=HOB.o.mid HTL.o (HNL.o _) zaw 0 (by omega);simp only[ctc,List.getElem?_cons_zero,List.getElem?_cons_succ,Nat.add_zero]at g0;have gf:=HOB.o.fr (HNL.o _) (k*2);have gl:=HOB.o.lt.1;have hi4:=EA.o.i4
   go_upto_region 14 with fail
   refine wp_region_held_drew (S:=(fun w'=>w'.cell? ⟨B,0,none⟩=some (.string (natB 1)))) (by kernel_rfl) (by exact p5) fun hH=>?_
   refine tkV 0 66 rfl rfl ?_;try simp only[tkS]
   refine tkV 1 67 rfl rfl ?_;try simp only[tkS]
   refine tkV 2 68 rfl rfl ?_;try simp only[tkS]
   refine tkV 3 69 rfl rfl ?_;try simp only[tkS]
   refine tkV 4 70 rfl rfl ?_;try simp only[tkS]
   refine tkR 5 (.cons rfl (fun K hK=>?_) .nil);go_simp
   refine hK.out _ _ (by exact(Kp.setCell (M:=fun y=>y=GB) _ _ _ rfl).cell (by exact p5) (by dsimp only;omega)) fun hH=>?_
   clear hK K
   try simp only[tkS]
   refine wpAnyH_done (by kernel_rfl) ?_ _
   have HOX:Hid (zgu ((wa.setCell ⟨GB,k*2,none⟩ (.string (natB 1))).drew) GB (.slice (some ⟨GB,0,none⟩) l.length l.length) (M++⟨1,0⟩::Z)):=(zfo (HOB.o.later (Below.refl wa.heap.size wa).drew) HTL.o (HNL.o _) 1)
   clear p5 p5l g0 gf gl x0 xl
   have hkx:Kp (fun y=>y=GB) wa ((wa.setCell ⟨GB,k*2,none⟩ (.string (natB 1))).drew):=(Kp.trans (M:=fun y=>y=GB) (Kp.below (Below.refl _ _).drew) (Kp.setCell (M:=fun y=>y=GB) _ _ _ rfl))
   have EX:=lh (EA.o.kept hkx);have HKX:=lh (Kp.trans (M:=fun y=>y=GB) HKA.o hkx);have HGW:=HGB4.o;have HWX:=HW4.o;have x2:=(HXB.o.kept hkx (by omega)).cell 2;have xl:=(HXB.o.kept hkx (by omega)).lt;generalize(wa.setCell ⟨GB,k*2,none⟩ (.string (natB 1))).drew=wx at*;clear hkx;go_wp2_with fail
   go_loopw[74](fun i wi=>∃(m:Nat)(cc:Ct),m<=ins.length/\i=.int .i64 m/\zgu wi GB (.slice (some ⟨GB,0,none⟩) l.length l.length) (M++cc::Z)/\cAnd M cc (ins.drop m)=some cx/\Kp (fun y=>y=GB) wx wi)(fun i _=>ins.length-(intOf i).toNat)
   case atStart=>exact⟨0,⟨1,0⟩,Nat.zero_le _,rfl,HOX.o,HCY.o,Kp.refl _ _⟩
   obtain⟨wi,rfl⟩:∃wi:World,wi=wr:=⟨_,rfl⟩
   obtain⟨m,cc,hm,rfl,hown,hca,hkp⟩:=hrel;have HOI:=lh hown;have HKX2:=lh hkp;have EI:=lh (EX.o.kept hkp)
   by_cases hlm:m<ins.length
   ·obtain⟨b2,off2,rfl,e0'⟩:=HIN.o m hlm
    have hgd2:ins.getD m 0=ins[m]:=by simp[List.getD_eq_getElem?_getD,hlm]
    have hq:=zd9 HNK.o ins[m] (List.getElem_mem hlm);rw[List.drop_eq_getElem_cons hlm,cAnd]at hca;rw[hgd2]at e0';generalize ins[m]=y at*;have hb2w:b2<w.heap.size:=zai e0'
    have e0:wi.cell? ⟨b2,off2+m,none⟩=some (.int .i64 y):=by rw[EI.o.bw.cell (p:=⟨b2,off2+m,none⟩) hb2w];exact e0'
    obtain⟨q,rfl⟩:=Int.eq_ofNat_of_zero_le hq.1
    have hqk:q<k:=by have:=hq.2;omega
    have hkq:(q:Int)<(l.length:Int):=by omega
    have hml:(m:Int)<(ins.length:Int):=by omega
    rw[Int.toNat_natCast]at hca;obtain⟨v0,v1⟩:=HSQ.o wi _ hown q hqk
    obtain⟨u,hu⟩:∃u:Ct,u=M.getD q default:=⟨_,rfl⟩
    rw[<-hu]at hca v0 v1;have s0:=hown.mid HTL.o (HNL.o _) zaw 0 (by omega);have s1:=hown.mid HTL.o (HNL.o _) zaw 1 (by omega);simp only[ctc,List.getElem?_cons_zero,List.getElem?_cons_succ,Nat.add_zero]at s0 s1;have gl:=hown.lt.1;obtain⟨c2,hb1,hrest⟩:=bind_some hca;obtain⟨hc2,hs1,hs2,hs3⟩:=zgy hb1;have HBT:=lh (fun V=>zi6 cc u V hs1 hs2 hs3);rw[<-hc2]at HBT;unfold ctv at HBT;have HRST:=lh hrest
    have HSK:Hid (∀(W:World)(c:Ct),zgu W GB (.slice (some ⟨GB,0,none⟩) l.length l.length) (M++c::Z)->(fun w'=>w'.cell? ⟨GB,q*2,none⟩=some (.string (natB u.e))/\w'.cell? ⟨GB,q*2+1,none⟩=some (.string (natB u.o))) W):=fun W c h=>by have:=HSQ.o W c h q hqk;rw[<-hu]at this;exact this
    have hi4:=EI.o.i4;clear hu hca hb1 hc2 hs1 hs2 hs3 hrest e0' hgd2 hkp hq;go_wp2_with fail;clear e0
    refine wp_region_held_drew (S:=(fun w'=>w'.cell? ⟨GB,q*2,none⟩=some (.string (natB u.e))/\w'.cell? ⟨GB,q*2+1,none⟩=some (.string (natB u.o)))) (by kernel_rfl) (by exact HSK.o _ _ (HOI.o.later (Below.refl _ _).drew)) fun hH=>?_
    refine tkV 0 78 rfl rfl ?_;try simp only[tkS]
    refine tkV 1 79 rfl rfl ?_;try simp only[tkS]
    refine tkV 2 80 rfl rfl ?_;try simp only[tkS]
    refine tkV 3 81 rfl rfl ?_;try simp only[tkS]
    refine tkV 4 82 rfl rfl ?_;try simp only[tkS]
    refine tkV 6 84 rfl rfl ?_;try simp only[tkS]
    refine tkV 7 85 rfl rfl ?_;try simp only[tkS]
    refine tkV 8 86 rfl rfl ?_;try simp only[tkS]
    refine tkV 9 87 rfl rfl ?_;try simp only[tkS]
    refine tkR 5 (.cons rfl (fun K hK=>?_) .nil);go_simp
    refine hK.out _ _ (by exact HSK.o _ _ (HOI.o.later (Below.refl _ _).drew)) fun hH=>?_
    clear hK K
    try simp only[tkS]
    refine tkR 10 (.cons rfl (fun K hK=>?_) .nil);go_simp;go_at_call 75
    with_reducible refine Calls.mono (HBT.o _) ?_
    rintro e v5⟨rfl,hb5⟩;have hv5:Below wi.heap.size wi v5:=(Below.refl wi.heap.size wi).drew.trans (Below.mono hb5 (Nat.le_refl _));have hoo:=HOI.o.later hv5;go_wp2_with fail
    refine hK.out _ _ (by exact HSK.o _ _ hoo) fun hH=>?_
    clear hK K
    try simp only[tkS]
    have z0:=hoo.mid HTL.o (HNL.o _) zaw 0 (by omega);have z1:=hoo.mid HTL.o (HNL.o _) zaw 1 (by omega);simp only[ctc,List.getElem?_cons_zero,List.getElem?_cons_succ,Nat.add_zero]at z0 z1;have zf0:=hoo.fr (HNL.o _) (k*2);have zf1:=hoo.fr (HNL.o _) (k*2+1);have zl:=hoo.lt.1;have hput:=lh (hoo.midput2 HTL.o (HNL.o _) zaw c2 _ _ rfl)
    refine tkV 11 89 rfl rfl ?_;try simp only[tkS]
    refine tkR 12 (.cons rfl (fun K hK=>?_) .nil);go_simp
    refine hK.out _ _ (by exact HSK.o _ _ hput.out) fun hH=>?_
    clear hK K
    try simp only[tkS]
    refine wpAnyH_done (by kernel_rfl) ?_ _;go_wp2;go_roundw
    case rel=>
     exact⟨m+1,c2,by omega,by go_num,hput.out,HRST.o,Kp.trans (M:=fun y=>y=GB) HKX2.o (Kp.trans (M:=fun y=>y=GB) (Kp.trans (M:=fun y=>y=GB) (Kp.below hv5) (Kp.setCell (M:=fun y=>y=GB) _ _ _ rfl)) (Kp.setCell (M:=fun y=>y=GB) _ _ _ rfl))⟩
    case measure=>simp[intOf];omega
   have:m=ins.length:=by omega
   subst this;rw[List.drop_length]at hca
   have hcc:cc=cx:=by simpa[cAnd]using hca
   subst hcc;have HKE:Hid (Kp (fun y=>y=GB) w4 wi):=Kp.trans (M:=fun y=>y=GB) HKX.o hkp;clear hown hkp;go_wp2;go_roundw
   case rel=>exact HFIN.o wi HOI.o HKE.o
   case measure=>simp[intOf];omega
  have HCY:Hid (cOr (zau l) ((zau l).getD k St.zero) odd M ⟨0,0⟩ ins=some cx):=by have:=HCX.o;rw[HML.o]at this;show _=_;simpa[znc]using this
  clear x0 x1 x2 xl c0 c1 c2 hbz hbw;have x0:wa.cell? ⟨wo.heap.size,0,none⟩=some (.int .i64 4):=HXB.o.cell 0;have HOX:=lh HOB.o
  obtain⟨wx,hwx⟩:∃W:World,W=wa:=⟨_,rfl⟩
  rw[<-hwx]at HOX x0 EA HKA HXB⊢;clear hwx;have EX:=lh EA.o;have HKX:=lh HKA.o;have x2:=HXB.o.cell 2;have xl:=HXB.o.lt;go_wp2_with fail
  go_loopw[96](fun i wi=>∃(m:Nat)(cc:Ct),m<=ins.length/\i=.int .i64 m/\zgu wi GB (.slice (some ⟨GB,0,none⟩) l.length l.length) (M++cc::Z)/\cOr (zau l) ((zau l).getD k St.zero) odd M cc (ins.drop m)=some cx/\Kp (fun y=>y=GB) wx wi)(fun i _=>ins.length-(intOf i).toNat)
  case atStart=>exact⟨0,⟨0,0⟩,Nat.zero_le _,rfl,HOX.o,HCY.o,Kp.refl _ _⟩
  obtain⟨wi,rfl⟩:∃wi:World,wi=wr:=⟨_,rfl⟩
  obtain⟨m,cc,hm,rfl,hown,hca,hkp⟩:=hrel;have HOI:=lh hown;have HKX2:=lh hkp;have EI:=lh (EX.o.kept hkp)
  by_cases hlm:m<ins.length
  ·obtain⟨b2,off2,rfl,e0'⟩:=HIN.o m hlm
   have hgd2:ins.getD m 0=ins[m]:=by simp[List.getD_eq_getElem?_getD,hlm]
   have hq:=zd9 HNK.o ins[m] (List.getElem_mem hlm);rw[List.drop_eq_getElem_cons hlm,cOr]at hca;rw[hgd2]at e0';generalize ins[m]=y at*;have hb2w:b2<w.heap.size:=zai e0'
   have e0:wi.cell? ⟨b2,off2+m,none⟩=some (.int .i64 y):=by rw[EI.o.bw.cell (p:=⟨b2,off2+m,none⟩) hb2w];exact e0'
   obtain⟨q,rfl⟩:=Int.eq_ofNat_of_zero_le hq.1
   have hqk:q<k:=by have:=hq.2;omega
   have hkq:(q:Int)<(l.length:Int):=by omega
   have hml:(m:Int)<(ins.length:Int):=by omega
   rw[Int.toNat_natCast]at hca;obtain⟨v0,v1⟩:=HSQ.o wi _ hown q hqk
   obtain⟨u,hu⟩:∃u:Ct,u=M.getD q default:=⟨_,rfl⟩
   rw[<-hu]at hca v0 v1;have s0:=hown.mid HTL.o (HNL.o _) zaw 0 (by omega);have s1:=hown.mid HTL.o (HNL.o _) zaw 1 (by omega);simp only[ctc,List.getElem?_cons_zero,List.getElem?_cons_succ,Nat.add_zero]at s0 s1;have gl:=hown.lt.1
   obtain⟨sk,hsk⟩:∃s:St,s=(zau l).getD k St.zero:=⟨_,rfl⟩
   obtain⟨sq,hsq⟩:∃s:St,s=(zau l).getD q St.zero:=⟨_,rfl⟩
   have hvl:=zba l
   have hkv:k<(zau l).length:=by omega
   have hqv:q<(zau l).length:=by omega
   have esk:sk=(zau l)[k]:=by rw[hsk];simp[List.getD_eq_getElem?_getD,hkv]
   have esq:sq=(zau l)[q]:=by rw[hsq];simp[List.getD_eq_getElem?_getD,hqv]
   have g0:=EI.o.ov.cell hvl.symm zbi k 0 hkv (by omega);have g1:=EI.o.ov.cell hvl.symm zbi k 1 hkv (by omega);have g2:=EI.o.ov.cell hvl.symm zbi q 0 hqv (by omega);have g3:=EI.o.ov.cell hvl.symm zbi q 1 hqv (by omega);rw[<-esk]at g0 g1;rw[<-esq]at g2 g3;simp only[stc,List.getElem?_cons_zero,List.getElem?_cons_succ,Nat.add_zero]at g0 g1 g2 g3
   have hok1:sk.ok:=by rw[esk];exact zfe l _ (List.getElem_mem hkv)
   have hok2:sq.ok:=by rw[esq];exact zfe l _ (List.getElem_mem hqv)
   rw[<-hsk,<-hsq]at hca;obtain⟨f',hf',h2⟩:=bind_some hca;obtain⟨z,hz,h3⟩:=bind_some h2;obtain⟨c2,hc2,hrest⟩:=bind_some h3;obtain⟨ef,fa,fb,f8,fk⟩:=zk2 hf';obtain⟨ez,hs1,hs2,hs3⟩:=zgy hz;obtain⟨ec,hs4⟩:=ztr hc2;have HMI:=lh (fun V=>zjl sk sq V hok1 hok2);have HFR:=lh (fun V=>zq7 (St.minus sk sq) odd V (St.minus_ok hok1) HODD.o fa fb f8 fk);rw[<-ef]at HFR;have HBT:=lh (fun V=>zi6 u f' V hs1 hs2 hs3);rw[<-ez]at HBT;unfold Ct.s at hs4;have HA0:=lh (fun V=>ze6 cc.e z.e (by omega) (by omega) (by omega) V);have HA1:=lh (fun V=>ze6 cc.o z.o (by omega) (by omega) (by omega) V)
   rw[show cc.e+z.e=c2.e by rw[ec]]at HA0;rw[show cc.o+z.o=c2.o by rw[ec]]at HA1;generalize St.minus sk sq=sm at*;unfold ctv at HFR HBT;unfold stv at HMI HFR;unfold natv at HA0 HA1;rw[hsk]at hrest;have HRST:=lh hrest;have p2:=EI.o.c.cell 2;have o0:=EI.o.r0.cell 0;have o1:=EI.o.r0.cell 1;have hi1:=EI.o.i1;have hi2:=EI.o.i2;have hi3:=EI.o.i3;have hi4:=EI.o.i4;have kz:=EI.o.c.lt;have gz:=EI.o.ov.lt.1;have ol:=EI.o.r0.lt
   have HKS:Hid (∀w':World,Below wi.heap.size wi w'->(fun w'=>w'.cell? ⟨GB,q*2,none⟩=some (.string (natB u.e))/\w'.cell? ⟨GB,q*2+1,none⟩=some (.string (natB u.o))/\w'.cell? ⟨p,2,none⟩=some (.slice (some ⟨g,0,none⟩) l.length l.length)/\w'.cell? ⟨g,k*2,none⟩=some (.int .u64 (sk.a:Int))/\w'.cell? ⟨g,k*2+1,none⟩=some (.int .u64 (sk.b:Int))/\w'.cell? ⟨g,q*2,none⟩=some (.int .u64 (sq.a:Int))/\w'.cell? ⟨g,q*2+1,none⟩=some (.int .u64 (sq.b:Int))/\w'.cell? ⟨w.heap.size,0,none⟩=some (.int .u64 (odd.a:Int))/\w'.cell? ⟨w.heap.size,1,none⟩=some (.int .u64 (odd.b:Int))) w'):=fun w' hb=>⟨zab hb v0,zab hb v1,zab hb p2,zab hb g0,zab hb g1,zab hb g2,zab hb g3,zab hb o0,zab hb o1⟩
   clear hca hf' h2 hz h3 hc2 ef fa fb f8 fk ez hs1 hs2 hs3 hs4 ec hrest hsk hsq esk esq hok1 hok2 hvl hkv hqv hu hkp hq e0' hgd2
   go_upto_region 24 with fail
   clear e0
   go_cut[13](fun v wx=>AtBlk wi z v wx)
   case first=>
    refine wp_region_held_drew (S:=(fun w'=>w'.cell? ⟨GB,q*2,none⟩=some (.string (natB u.e))/\w'.cell? ⟨GB,q*2+1,none⟩=some (.string (natB u.o))/\w'.cell? ⟨p,2,none⟩=some (.slice (some ⟨g,0,none⟩) l.length l.length)/\w'.cell? ⟨g,k*2,none⟩=some (.int .u64 (sk.a:Int))/\w'.cell? ⟨g,k*2+1,none⟩=some (.int .u64 (sk.b:Int))/\w'.cell? ⟨g,q*2,none⟩=some (.int .u64 (sq.a:Int))/\w'.cell? ⟨g,q*2+1,none⟩=some (.int .u64 (sq.b:Int))/\w'.cell? ⟨w.heap.size,0,none⟩=some (.int .u64 (odd.a:Int))/\w'.cell? ⟨w.heap.size,1,none⟩=some (.int .u64 (odd.b:Int)))) (by kernel_rfl) (by exact HKS.o _ ((Below.refl wi.heap.size wi).drew)) fun hH=>?_
    refine tkV 0 100 rfl rfl ?_;try simp only[tkS]
    refine tkV 1 101 rfl rfl ?_;try simp only[tkS]
    refine tkV 2 102 rfl rfl ?_;try simp only[tkS]
    refine tkV 3 103 rfl rfl ?_;try simp only[tkS]
    refine tkV 4 104 rfl rfl ?_;try simp only[tkS]
    refine tkV 5 105 rfl rfl ?_;try simp only[tkS]
    refine tkV 6 106 rfl rfl ?_;try simp only[tkS]
    refine tkV 7 107 rfl rfl ?_;try simp only[tkS]
    refine tkV 8 108 rfl rfl ?_;try simp only[tkS]
    refine tkV 9 109 rfl rfl ?_;try simp only[tkS]
    refine tkV 10 110 rfl rfl ?_;try simp only[tkS]
    refine tkV 11 111 rfl rfl ?_;try simp only[tkS]
    refine tkV 12 112 rfl rfl ?_;try simp only[tkS]
    refine tkV 13 113 rfl rfl ?_;try simp only[tkS]
    refine tkV 14 114 rfl rfl ?_;try simp only[tkS]
    refine tkV 15 115 rfl rfl ?_;try simp only[tkS]
    refine tkV 16 116 rfl rfl ?_;try simp only[tkS]
    refine tkV 17 117 rfl rfl ?_;try simp only[tkS]
    refine tkV 19 119 rfl rfl ?_;try simp only[tkS]
    refine wpAnyH_ready (rs:=[18,22]) (by kernel_rfl) (by simp) ?_;refine AllReadyH.cons rfl (fun K hK=>?_) (AllReadyH.cons rfl (fun K hK=>?_) AllReadyH.nil)
    focus
     go_simp;go_at_call 59;refine Calls.mono (HMI.o _) ?_;rintro e V11⟨rfl,hb11⟩;have hv11:Below wi.heap.size wi V11:=Below.trans (Below.refl wi.heap.size wi).drew (Below.mono hb11 (Below.size (Below.refl wi.heap.size wi).drew));clear hb11;go_wp2_with fail
     refine hK.out _ _ (by exact HKS.o _ hv11) fun hH=>?_
     clear hK K
     try simp only[tkS]
     refine wpAnyH_ready (rs:=[20,22]) (by kernel_rfl) (by simp) ?_;refine AllReadyH.cons rfl (fun K hK=>?_) (AllReadyH.cons rfl (fun K hK=>?_) AllReadyH.nil)
     focus
      go_simp;go_at_call 76;refine Calls.mono (HFR.o _) ?_;rintro e V12⟨rfl,hb12⟩;have hv12:Below wi.heap.size wi V12:=Below.trans hv11 (Below.mono hb12 (Below.size hv11));clear hb12;go_wp2_with fail
      refine hK.out _ _ (by exact HKS.o _ hv12) fun hH=>?_
      clear hK K
      try simp only[tkS]
      refine wpAnyH_ready (rs:=[21,22]) (by kernel_rfl) (by simp) ?_;refine AllReadyH.cons rfl (fun K hK=>?_) (AllReadyH.cons rfl (fun K hK=>?_) AllReadyH.nil)
      focus
       go_simp;go_at_call 75;refine Calls.mono (HBT.o _) ?_;rintro e V13⟨rfl,hb13⟩;have hv13:Below wi.heap.size wi V13:=Below.trans hv12 (Below.mono hb13 (Below.size hv12));clear hb13;go_wp2_with fail
       refine hK.out _ _ (by exact HKS.o _ hv13) fun hH=>?_
       clear hK K
       try simp only[tkS]
       refine tkR 22 (.cons rfl (fun K hK=>?_) .nil);go_simp;obtain⟨j,hj⟩:=nm V13.heap.size
       have hjw:wi.heap.size<=j:=by rw[hj];exact Below.size hv13
       have hv14:Below wi.heap.size wi (V13.alloc (.cells #[.string ⟨#[]⟩,.string ⟨#[]⟩] 87)):=Below.alloc hv13 (Below.size hv13) _;have q14:Blk (V13.alloc (.cells #[.string ⟨#[]⟩,.string ⟨#[]⟩] 87)) j #[.string ⟨#[]⟩,.string ⟨#[]⟩] 87:=Blk.new' _ hj.symm _ _
       refine hK.out _ _ (by exact HKS.o _ hv14) fun hH=>?_
       clear hK K
       try simp only[tkS]
       rw[<-hj];generalize V13.alloc (.cells #[.string ⟨#[]⟩,.string ⟨#[]⟩] 87)=V14 at*;clear hj
      rotate_left
      focus
       go_simp;obtain⟨j,hj⟩:=nm V12.heap.size
       have hjw:wi.heap.size<=j:=by rw[hj];exact Below.size hv12
       have hv13:Below wi.heap.size wi (V12.alloc (.cells #[.string ⟨#[]⟩,.string ⟨#[]⟩] 87)):=Below.alloc hv12 (Below.size hv12) _;have q13:Blk (V12.alloc (.cells #[.string ⟨#[]⟩,.string ⟨#[]⟩] 87)) j #[.string ⟨#[]⟩,.string ⟨#[]⟩] 87:=Blk.new' _ hj.symm _ _
       refine hK.out _ _ (by exact HKS.o _ hv13) fun hH=>?_
       clear hK K
       try simp only[tkS]
       rw[<-hj];generalize V12.alloc (.cells #[.string ⟨#[]⟩,.string ⟨#[]⟩] 87)=V13 at*;clear hj;refine tkR 21 (.cons rfl (fun K hK=>?_) .nil);go_simp;go_at_call 75;refine Calls.mono (HBT.o _) ?_;rintro e V14⟨rfl,hb14⟩;have hv14:Below wi.heap.size wi V14:=Below.trans hv13 (Below.mono hb14 (Below.size hv13));have q14:=q13.later hb14;clear hb14;go_wp2_with fail
       refine hK.out _ _ (by exact HKS.o _ hv14) fun hH=>?_
       clear hK K
       try simp only[tkS]
      rotate_left
     rotate_left 2
     focus
      go_simp;obtain⟨j,hj⟩:=nm V11.heap.size
      have hjw:wi.heap.size<=j:=by rw[hj];exact Below.size hv11
      have hv12:Below wi.heap.size wi (V11.alloc (.cells #[.string ⟨#[]⟩,.string ⟨#[]⟩] 87)):=Below.alloc hv11 (Below.size hv11) _;have q12:Blk (V11.alloc (.cells #[.string ⟨#[]⟩,.string ⟨#[]⟩] 87)) j #[.string ⟨#[]⟩,.string ⟨#[]⟩] 87:=Blk.new' _ hj.symm _ _
      refine hK.out _ _ (by exact HKS.o _ hv12) fun hH=>?_
      clear hK K
      try simp only[tkS]
      rw[<-hj];generalize V11.alloc (.cells #[.string ⟨#[]⟩,.string ⟨#[]⟩] 87)=V12 at*;clear hj;refine tkR 20 (.cons rfl (fun K hK=>?_) .nil);go_simp;go_at_call 76;refine Calls.mono (HFR.o _) ?_;rintro e V13⟨rfl,hb13⟩;have hv13:Below wi.heap.size wi V13:=Below.trans hv12 (Below.mono hb13 (Below.size hv12));have q13:=q12.later hb13;clear hb13;go_wp2_with fail
      refine hK.out _ _ (by exact HKS.o _ hv13) fun hH=>?_
      clear hK K
      try simp only[tkS]
      refine tkR 21 (.cons rfl (fun K hK=>?_) .nil);go_simp;go_at_call 75;refine Calls.mono (HBT.o _) ?_;rintro e V14⟨rfl,hb14⟩;have hv14:Below wi.heap.size wi V14:=Below.trans hv13 (Below.mono hb14 (Below.size hv13));have q14:=q13.later hb14;clear hb14;go_wp2_with fail
      refine hK.out _ _ (by exact HKS.o _ hv14) fun hH=>?_
      clear hK K
      try simp only[tkS]
     rotate_left
    rotate_left 3
    focus
     go_simp;obtain⟨j,hj⟩:=nm wi.heap.size
     have hjw:wi.heap.size<=j:=by rw[hj];exact Nat.le_refl _
     have hv11:Below wi.heap.size wi ((wi.alloc (.cells #[.string ⟨#[]⟩,.string ⟨#[]⟩] 87)).drew):=(Below.alloc (Below.refl wi.heap.size wi) (Nat.le_refl _) _).drew;have q11:Blk ((wi.alloc (.cells #[.string ⟨#[]⟩,.string ⟨#[]⟩] 87)).drew) j #[.string ⟨#[]⟩,.string ⟨#[]⟩] 87:=Blk.new' _ hj.symm _ _
     refine hK.out _ _ (by exact HKS.o _ hv11) fun hH=>?_
     clear hK K
     try simp only[tkS]
     rw[<-hj];generalize(wi.alloc (.cells #[.string ⟨#[]⟩,.string ⟨#[]⟩] 87)).drew=V11 at*;clear hj;refine tkR 18 (.cons rfl (fun K hK=>?_) .nil);go_simp;go_at_call 59;refine Calls.mono (HMI.o _) ?_;rintro e V12⟨rfl,hb12⟩;have hv12:Below wi.heap.size wi V12:=Below.trans hv11 (Below.mono hb12 (Below.size hv11));have q12:=q11.later hb12;clear hb12;go_wp2_with fail
     refine hK.out _ _ (by exact HKS.o _ hv12) fun hH=>?_
     clear hK K
     try simp only[tkS]
     refine tkR 20 (.cons rfl (fun K hK=>?_) .nil);go_simp;go_at_call 76;refine Calls.mono (HFR.o _) ?_;rintro e V13⟨rfl,hb13⟩;have hv13:Below wi.heap.size wi V13:=Below.trans hv12 (Below.mono hb13 (Below.size hv12));have q13:=q12.later hb13;clear hb13;go_wp2_with fail
     refine hK.out _ _ (by exact HKS.o _ hv13) fun hH=>?_
     clear hK K
     try simp only[tkS]
     refine tkR 21 (.cons rfl (fun K hK=>?_) .nil);go_simp;go_at_call 75;refine Calls.mono (HBT.o _) ?_;rintro e V14⟨rfl,hb14⟩;have hv14:Below wi.heap.size wi V14:=Below.trans hv13 (Below.mono hb14 (Below.size hv13));have q14:=q13.later hb14;clear hb14;go_wp2_with fail
     refine hK.out _ _ (by exact HKS.o _ hv14) fun hH=>?_
     clear hK K
     try simp only[tkS]
    rotate_left
    all_goals
     refine tkR 23 (.cons rfl (fun K hK=>?_) .nil);have d0:=q14.cell 0;have d1:=q14.cell 1;have f0:=q14.fr 0;have f1:=q14.fr 1;have dl:=q14.lt;go_simp;have hvs:=Below.setCell (Below.setCell hv14 (p:=⟨j,0,none⟩) hjw (.string (natB z.e))) (p:=⟨j,1,none⟩) hjw (.string (natB z.o))
     refine hK.out _ _ (by exact HKS.o _ hvs) fun hH=>?_
     clear hK K
     try simp only[tkS]
     refine wpAnyH_done (by kernel_rfl) ?_ _;go_wp2_with fail
     go_meet
     exact⟨j,rfl,hjw,(q14.set 0 (.string (natB z.e))).set 1 (.string (natB z.o)),hvs⟩
   obtain⟨j,rfl,hjw,hqj,hbc⟩:=hcut;have HOC:=lh (HOI.o.later hbc);have HBC:=lh hbc;have j0:=hqj.cell 0;have j1:=hqj.cell 1;have jl:=hqj.lt
   have HKT:Hid (∀w':World,Kp (fun y=>y=GB) wc w'->(fun w'=>w'.cell? ⟨j,0,none⟩=some (.string (natB z.e))/\w'.cell? ⟨j,1,none⟩=some (.string (natB z.o))) w'):=fun w' hk=>⟨hk.cell j0 (by dsimp only;omega),hk.cell j1 (by dsimp only;omega)⟩
   clear v0 v1 g0 g1 g2 g3 p2 o0 o1 hi1 hi2 hi3 hi4 kz gz ol hjw hqj hbc s0 s1 gl;have ho20:=HOC.o.later (Below.refl wc.heap.size wc);have ya20:=ho20.mid HTL.o (HNL.o _) zaw 0 (by omega);have yb20:=ho20.mid HTL.o (HNL.o _) zaw 1 (by omega);simp only[ctc,List.getElem?_cons_zero,List.getElem?_cons_succ,Nat.add_zero]at ya20 yb20;have yf20:=ho20.fr (HNL.o _) (k*2);have yg20:=ho20.fr (HNL.o _) (k*2+1);have yl20:=ho20.lt.1
   go_upto_region 25 with fail
   refine wp_region_held_drew (S:=(fun w'=>w'.cell? ⟨j,0,none⟩=some (.string (natB z.e))/\w'.cell? ⟨j,1,none⟩=some (.string (natB z.o)))) (by kernel_rfl) (by exact HKT.o _ (Kp.below (Below.refl _ _).drew)) fun hH=>?_
   refine tkV 0 122 rfl rfl ?_;try simp only[tkS]
   refine tkV 1 123 rfl rfl ?_;try simp only[tkS]
   refine tkV 4 126 rfl rfl ?_;try simp only[tkS]
   refine tkV 5 127 rfl rfl ?_;try simp only[tkS]
   refine tkV 6 128 rfl rfl ?_;try simp only[tkS]
   refine tkV 7 129 rfl rfl ?_;try simp only[tkS]
   refine tkV 9 131 rfl rfl ?_;try simp only[tkS]
   refine tkV 10 132 rfl rfl ?_;try simp only[tkS]
   refine tkV 12 134 rfl rfl ?_;try simp only[tkS]
   refine tkV 13 135 rfl rfl ?_;try simp only[tkS]
   refine tkV 14 136 rfl rfl ?_;try simp only[tkS]
   refine tkV 15 137 rfl rfl ?_;try simp only[tkS]
   refine tkV 17 139 rfl rfl ?_;try simp only[tkS]
   refine tkV 18 140 rfl rfl ?_;try simp only[tkS]
   refine tkV 2 124 rfl rfl ?_;try simp only[tkS]
   refine tkV 3 125 rfl rfl ?_;try simp only[tkS]
   refine tkV 20 142 rfl rfl ?_;try simp only[tkS]
   refine tkV 23 144 rfl rfl ?_;try simp only[tkS]
   refine wpAnyH_ready (rs:=[8,16]) (by kernel_rfl) (by simp) ?_;refine AllReadyH.cons rfl (fun K hK=>?_) (AllReadyH.cons rfl (fun K hK=>?_) AllReadyH.nil)
   focus
    go_simp
    refine hK.out _ _ (by exact HKT.o _ (Kp.below (Below.refl wc.heap.size wc).drew)) fun hH=>?_
    clear hK K
    try simp only[tkS]
    refine wpAnyH_ready (rs:=[11,16]) (by kernel_rfl) (by simp) ?_;refine AllReadyH.cons rfl (fun K hK=>?_) (AllReadyH.cons rfl (fun K hK=>?_) AllReadyH.nil)
    focus
     go_simp;go_at_call 34;refine Calls.mono (HA0.o _) ?_;rintro e V21⟨rfl,hb21⟩;have hv21:Below wc.heap.size wc V21:=Below.trans (Below.refl wc.heap.size wc).drew (Below.mono hb21 (Below.size (Below.refl wc.heap.size wc).drew));clear hb21;have ho21:=HOC.o.later hv21;have ya21:=ho21.mid HTL.o (HNL.o _) zaw 0 (by omega);have yb21:=ho21.mid HTL.o (HNL.o _) zaw 1 (by omega);simp only[ctc,List.getElem?_cons_zero,List.getElem?_cons_succ,Nat.add_zero]at ya21 yb21;have yf21:=ho21.fr (HNL.o _) (k*2);have yg21:=ho21.fr (HNL.o _) (k*2+1);have yl21:=ho21.lt.1;go_wp2_with fail
     refine hK.out _ _ (by exact HKT.o _ (Kp.below hv21)) fun hH=>?_
     clear hK K
     try simp only[tkS]
     refine tkR 16 (.cons rfl (fun K hK=>?_) .nil);go_simp
    rotate_left
    focus
     go_simp
     refine hK.out _ _ (by exact HKT.o _ (Kp.below (Below.refl wc.heap.size wc).drew)) fun hH=>?_
     clear hK K
     try simp only[tkS]
     refine tkR 11 (.cons rfl (fun K hK=>?_) .nil);go_simp;go_at_call 34;refine Calls.mono (HA0.o _) ?_;rintro e V21⟨rfl,hb21⟩;have hv21:Below wc.heap.size wc V21:=Below.trans (Below.refl wc.heap.size wc).drew (Below.mono hb21 (Below.size (Below.refl wc.heap.size wc).drew));clear hb21;have ho21:=HOC.o.later hv21;have ya21:=ho21.mid HTL.o (HNL.o _) zaw 0 (by omega);have yb21:=ho21.mid HTL.o (HNL.o _) zaw 1 (by omega);simp only[ctc,List.getElem?_cons_zero,List.getElem?_cons_succ,Nat.add_zero]at ya21 yb21;have yf21:=ho21.fr (HNL.o _) (k*2);have yg21:=ho21.fr (HNL.o _) (k*2+1)
     have yl21:=ho21.lt.1;go_wp2_with fail
    rotate_left
   rotate_left 2
   focus
    go_simp
    refine hK.out _ _ (by exact HKT.o _ (Kp.below (Below.refl wc.heap.size wc).drew)) fun hH=>?_
    clear hK K
    try simp only[tkS]
    refine tkR 8 (.cons rfl (fun K hK=>?_) .nil);go_simp
    refine hK.out _ _ (by exact HKT.o _ (Kp.below (Below.refl wc.heap.size wc).drew)) fun hH=>?_
    clear hK K
    try simp only[tkS]
    refine tkR 11 (.cons rfl (fun K hK=>?_) .nil);go_simp;go_at_call 34;refine Calls.mono (HA0.o _) ?_;rintro e V21⟨rfl,hb21⟩;have hv21:Below wc.heap.size wc V21:=Below.trans (Below.refl wc.heap.size wc).drew (Below.mono hb21 (Below.size (Below.refl wc.heap.size wc).drew));clear hb21;have ho21:=HOC.o.later hv21;have ya21:=ho21.mid HTL.o (HNL.o _) zaw 0 (by omega);have yb21:=ho21.mid HTL.o (HNL.o _) zaw 1 (by omega);simp only[ctc,List.getElem?_cons_zero,List.getElem?_cons_succ,Nat.add_zero]at ya21 yb21;have yf21:=ho21.fr (HNL.o _) (k*2);have yg21:=ho21.fr (HNL.o _) (k*2+1)
    have yl21:=ho21.lt.1;go_wp2_with fail
   rotate_left
   all_goals
    refine hK.out _ _ (by exact HKT.o _ (Kp.below hv21)) fun hH=>?_
    clear hK K
    try simp only[tkS]
    refine tkR 19 (.cons rfl (fun K hK=>?_) .nil);go_simp;go_at_call 34;refine Calls.mono (HA1.o _) ?_;rintro e V22⟨rfl,hb22⟩;have hv22:Below wc.heap.size wc V22:=Below.trans hv21 (Below.mono hb22 (Below.size hv21));clear hb22;have ho22:=HOC.o.later hv22;have ya22:=ho22.mid HTL.o (HNL.o _) zaw 0 (by omega);have yb22:=ho22.mid HTL.o (HNL.o _) zaw 1 (by omega);simp only[ctc,List.getElem?_cons_zero,List.getElem?_cons_succ,Nat.add_zero]at ya22 yb22;have yf22:=ho22.fr (HNL.o _) (k*2);have yg22:=ho22.fr (HNL.o _) (k*2+1);have yl22:=ho22.lt.1;go_wp2_with fail
    refine hK.out _ _ (by exact HKT.o _ (Kp.below hv22)) fun hH=>?_
    clear hK K
    try simp only[tkS]
    refine tkV 21 143 rfl rfl ?_;try simp only[tkS]
    refine tkR 22 (.cons rfl (fun K hK=>?_) .nil);go_simp;have hp0:=zfo ho22 HTL.o (HNL.o _) c2.e;have hk0:Kp (fun y=>y=GB) wc _:=Kp.trans (M:=fun y=>y=GB) (Kp.below hv22) (Kp.setCell (M:=fun y=>y=GB) _ ⟨GB,k*2,none⟩ (.string (natB c2.e)) rfl)
    refine hK.out _ _ (by exact HKT.o _ hk0) fun hH=>?_
    clear hK K
    try simp only[tkS]
    refine tkV 24 145 rfl rfl ?_;try simp only[tkS]
    refine tkR 25 (.cons rfl (fun K hK=>?_) .nil);go_simp;have hp1:=zl8 hp0 HTL.o (HNL.o _) c2.o;have hk1:Kp (fun y=>y=GB) wc _:=Kp.trans (M:=fun y=>y=GB) hk0 (Kp.setCell (M:=fun y=>y=GB) _ ⟨GB,k*2+1,none⟩ (.string (natB c2.o)) rfl)
    refine hK.out _ _ (by exact HKT.o _ hk1) fun hH=>?_
    clear hK K
    try simp only[tkS]
    refine wpAnyH_done (by kernel_rfl) ?_ _;go_wp2;go_roundw
    case rel=>
     exact⟨m+1,c2,by omega,by go_num,hp1,HRST.o,Kp.trans (M:=fun y=>y=GB) HKX2.o (Kp.trans (M:=fun y=>y=GB) (Kp.below HBC.o) hk1)⟩
    case measure=>simp[intOf];omega
  have:m=ins.length:=by omega
  subst this;rw[List.drop_length]at hca
  have hcc:cc=cx:=by simpa[cOr]using hca
  subst hcc;have HKE:Hid (Kp (fun y=>y=GB) w4 wi):=Kp.trans (M:=fun y=>y=GB) HKX.o hkp;clear hown hkp;go_wp2;go_roundw
  case rel=>exact HFIN.o wi HOI.o HKE.o
  case measure=>simp[intOf];omega
 have hke:k=l.length:=by omega
 have hcr2:M=R:=by have h:=hcr;rw[hke,List.drop_length,zhk]at h;simpa using h
 have ho:=HO.o;rw[hke,Nat.sub_self,List.replicate_zero,List.append_nil,hcr2]at ho
 have hRl:R.length=l.length:=by rw[<-hcr2,HML.o,hke]
 have hN1:1<=l.length:=(ze7 HK.o).2.2.1;obtain⟨r,hr⟩:=nm (l.length-1)
 have hrl:l.length=r+1:=by omega
 have hrR:r<R.length:=by omega
 have hrv:r<(zau l).length:=by rw[zba];omega
 obtain⟨u,hu⟩:∃u:Ct,u=R.getD r default:=⟨_,rfl⟩
 obtain⟨sq,hsq⟩:∃s:St,s=(zau l).getD r St.zero:=⟨_,rfl⟩
 have eu:u=R[r]:=by rw[hu];simp[List.getD_eq_getElem?_getD,hrR]
 have esq:sq=(zau l)[r]:=by rw[hsq];simp[List.getD_eq_getElem?_getD,hrv]
 have v0:=ho.cell hRl.symm zaw r 0 hrR (by omega);have v1:=ho.cell hRl.symm zaw r 1 hrR (by omega);have g0:=E.o.ov.cell (zba l).symm zbi r 0 hrv (by omega);have g1:=E.o.ov.cell (zba l).symm zbi r 1 hrv (by omega);rw[<-eu]at v0 v1;rw[<-esq]at g0 g1;simp only[ctc,stc,List.getElem?_cons_zero,List.getElem?_cons_succ,Nat.add_zero]at v0 v1 g0 g1
 have hok2:sq.ok:=by rw[esq];exact zfe l _ (List.getElem_mem hrv)
 have hcf:=HCF.o;have hcb:=HCB.o;rw[<-hr,<-hsq]at hcf;rw[<-hr,<-hu]at hcb;obtain⟨ef,fa,fb,f8,fk⟩:=zk2 hcf;obtain⟨ec,hs1,hs2,hs3⟩:=zgy hcb;have HAL:=lh (fun V=>zlw (N:Int) V);have HMI:=lh (fun V=>zjl (zbq (N:Int)) sq V (zdo _) hok2);have HFR:=lh (fun V=>zq7 (St.minus (zbq (N:Int)) sq) odd V (St.minus_ok (zdo _)) HODD.o fa fb f8 fk);rw[<-ef]at HFR;have HBT:=lh (fun V=>zi6 u f V hs1 hs2 hs3);rw[<-ec]at HBT;generalize St.minus (zbq (N:Int)) sq=sm at*;generalize zbq (N:Int)=sa at*;unfold ctv at HFR HBT;unfold stv at HMI HFR HAL;have HE:=lh E.o
 have p0:=E.o.c.cell 0;have p2:=E.o.c.cell 2;have o0:=E.o.r0.cell 0;have o1:=E.o.r0.cell 1;have hi1:=E.o.i1;have hi2:=E.o.i2;have hi3:=E.o.i3;have hi4:=E.o.i4;have kz:=E.o.c.lt;have gz:=E.o.ov.lt.1;have ol:=E.o.r0.lt;have gl:=ho.lt.1
 have HKS:Hid (∀w':World,Kp (fun y=>y=w.heap.size+1) wo w'->(fun w'=>w'.cell? ⟨GB,r*2,none⟩=some (.string (natB u.e))/\w'.cell? ⟨GB,r*2+1,none⟩=some (.string (natB u.o))/\w'.cell? ⟨p,0,none⟩=some (.int .i64 (N:Int))/\w'.cell? ⟨p,2,none⟩=some (.slice (some ⟨g,0,none⟩) l.length l.length)/\w'.cell? ⟨g,r*2,none⟩=some (.int .u64 (sq.a:Int))/\w'.cell? ⟨g,r*2+1,none⟩=some (.int .u64 (sq.b:Int))/\w'.cell? ⟨w.heap.size,0,none⟩=some (.int .u64 (odd.a:Int))/\w'.cell? ⟨w.heap.size,1,none⟩=some (.int .u64 (odd.b:Int))) w'):=fun w' hb=>⟨hb.cell v0 (by dsimp only;omega),hb.cell v1 (by dsimp only;omega),hb.cell p0 (by dsimp only;omega),hb.cell p2 (by dsimp only;omega),hb.cell g0 (by dsimp only;omega),hb.cell g1 (by dsimp only;omega),hb.cell o0 (by dsimp only;omega),hb.cell o1 (by dsimp only;omega)⟩
 have hri:(r:Int)<(r:Int)+1:=by omega
 have hkk:¬((k:Int)<(l.length:Int)):=by omega
 have hwr:wrap64 ((l.length:Int)-1)=(r:Int):=by rw[hrl];unfold wrap64;omega
 clear hcr2 ho hRl hN1 hr hrR hrv hu hsq eu esq hok2 hcf hcb ef fa fb f8 fk ec hs1 hs2 hs3 hcr
 go_upto_region 29 with fail
 refine wp_region_held_drew (S:=(fun w'=>w'.cell? ⟨GB,r*2,none⟩=some (.string (natB u.e))/\w'.cell? ⟨GB,r*2+1,none⟩=some (.string (natB u.o))/\w'.cell? ⟨p,0,none⟩=some (.int .i64 (N:Int))/\w'.cell? ⟨p,2,none⟩=some (.slice (some ⟨g,0,none⟩) l.length l.length)/\w'.cell? ⟨g,r*2,none⟩=some (.int .u64 (sq.a:Int))/\w'.cell? ⟨g,r*2+1,none⟩=some (.int .u64 (sq.b:Int))/\w'.cell? ⟨w.heap.size,0,none⟩=some (.int .u64 (odd.a:Int))/\w'.cell? ⟨w.heap.size,1,none⟩=some (.int .u64 (odd.b:Int)))) (by kernel_rfl) (by exact HKS.o _ (Kp.below (Below.refl wo.heap.size wo).drew)) fun hH=>?_
 refine tkV 0 151 rfl rfl ?_;try simp only[tkS]
 refine tkV 1 152 rfl rfl ?_;try simp only[tkS]
 refine tkV 2 153 rfl rfl ?_;try simp only[tkS]
 refine tkV 3 154 rfl rfl ?_;try simp only[tkS]
 refine tkV 4 155 rfl rfl ?_;try simp only[tkS]
 refine tkV 5 156 rfl rfl ?_;try simp only[tkS]
 refine tkV 6 157 rfl rfl ?_;try simp only[tkS]
 refine tkV 7 158 rfl rfl ?_;try simp only[tkS]
 refine tkV 8 159 rfl rfl ?_;try simp only[tkS]
 refine tkV 10 161 rfl rfl ?_;try simp only[tkS]
 refine tkV 11 162 rfl rfl ?_;try simp only[tkS]
 refine tkV 12 163 rfl rfl ?_;try simp only[tkS]
 refine tkV 13 164 rfl rfl ?_;try simp only[tkS]
 refine tkV 14 165 rfl rfl ?_;try simp only[tkS]
 refine tkV 15 166 rfl rfl ?_;try simp only[tkS]
 refine tkV 16 167 rfl rfl ?_;try simp only[tkS]
 refine tkV 18 169 rfl rfl ?_;try simp only[tkS]
 refine tkR 9 (.cons rfl (fun K hK=>?_) .nil);go_simp;go_at_call 28;refine Calls.mono (HAL.o _) ?_;rintro e V5⟨rfl,hb5⟩;have hv5:Below wo.heap.size wo V5:=Below.trans (Below.refl wo.heap.size wo).drew (Below.mono hb5 (Below.size (Below.refl wo.heap.size wo).drew));clear hb5;go_wp2_with fail
 refine hK.out _ _ (by exact HKS.o _ (Kp.below hv5)) fun hH=>?_
 clear hK K
 try simp only[tkS]
 refine tkR 17 (.cons rfl (fun K hK=>?_) .nil);go_simp;go_at_call 59;refine Calls.mono (HMI.o _) ?_;rintro e V6⟨rfl,hb6⟩;have hv6:Below wo.heap.size wo V6:=Below.trans hv5 (Below.mono hb6 (Below.size hv5));clear hb6;go_wp2_with fail
 refine hK.out _ _ (by exact HKS.o _ (Kp.below hv6)) fun hH=>?_
 clear hK K
 try simp only[tkS]
 refine tkR 19 (.cons rfl (fun K hK=>?_) .nil);go_simp;go_at_call 76;refine Calls.mono (HFR.o _) ?_;rintro e V7⟨rfl,hb7⟩;have hv7:Below wo.heap.size wo V7:=Below.trans hv6 (Below.mono hb7 (Below.size hv6));clear hb7;go_wp2_with fail
 refine hK.out _ _ (by exact HKS.o _ (Kp.below hv7)) fun hH=>?_
 clear hK K
 try simp only[tkS]
 refine tkR 20 (.cons rfl (fun K hK=>?_) .nil);go_simp;go_at_call 75;refine Calls.mono (HBT.o _) ?_;rintro e V8⟨rfl,hb8⟩;have hv8:Below wo.heap.size wo V8:=Below.trans hv7 (Below.mono hb8 (Below.size hv7));clear hb8;go_wp2_with fail
 refine hK.out _ _ (by exact HKS.o _ (Kp.below hv8)) fun hH=>?_
 clear hK K
 try simp only[tkS]
 have q8:=HE.o.r1.later hv8;have e0:=q8.cell 0;have e1:=q8.cell 1;have f0:=q8.fr 0;have f1:=q8.fr 1;have ez:=q8.lt;refine tkR 21 (.cons rfl (fun K hK=>?_) .nil);go_simp
 refine hK.out _ _ (by exact HKS.o _ (Kp.trans (M:=fun y=>y=w.heap.size+1) (Kp.below hv8) (Kp.trans (M:=fun y=>y=w.heap.size+1) (Kp.setCell (M:=fun y=>y=w.heap.size+1) _ _ _ rfl) (Kp.setCell (M:=fun y=>y=w.heap.size+1) _ _ _ rfl)))) fun hH=>?_
 clear hK K
 try simp only[tkS]
 refine wpAnyH_done (by kernel_rfl) ?_ _;go_wp2_with fail;have g0:=((q8.set 0 (.string (natB c.e))).set 1 (.string (natB c.o))).cell 0;have g1:=((q8.set 0 (.string (natB c.e))).set 1 (.string (natB c.o))).cell 1;exact bodyPost_ret (v:=.agg #[.string (natB c.e),.string (natB c.o)]) (by simp[results,Tryz.results33,go_sem,g0,g1]) rfl ⟨rfl,((HE.o.bw.trans (hv8.mono HE.o.bw.size)).setCell (show w.heap.size<=w.heap.size+1 by omega) _).setCell (show w.heap.size<=w.heap.size+1 by omega) _⟩
end Go.Proofs.YtnlaakmglhjjmaaGreatDoor
