/- Parts of the proofs of laws. Texts: Cp8, CpA, CpC, ShelfF, SoL, CpB, CpN. -/
import Derived.Test.YtnlaakmglhjjmaaGreatDoorYC12
import Derived.Test.YtnlaakmglhjjmaaGreatDoorYC6
import Derived.Shelf.SlSortCmp.Whole1
import Derived.Lib.RowBridge
set_option maxHeartbeats 8000000
set_option maxRecDepth 100000
set_option linter.all false
namespace Go.Proofs.YtnlaakmglhjjmaaGreatDoor
open Go.RowKit Cen
def zz3(g cap base:Nat)(l:List Ce)(w:World)(e:Ending)(w':World):Prop:=
 ∃l':List Ce,e=.returned (.slice (some ⟨g,0,none⟩) l'.length cap)/\OwnC w' base (.slice (some ⟨g,0,none⟩) l'.length cap) l'/\(l'.map fun e=>e.xs)=ordC (l.map fun e=>e.xs)/\(∀e∈l',e∈l)/\Kp (fun y=>y=g) w w'
theorem zvq{l m:List Cl}(hp:m.Perm l):ordC m=ordC l:=zlh fun x=>hp.mem_iff
theorem zjr(g cap base:Nat)(l:List Ce)(w:World)(ho:OwnC w base (.slice (some ⟨g,0,none⟩) l.length cap) l)(hc:CsOk w g l)(hm:l.length<=1073741824):
 Calls Tryz.prog 94 #[.slice (some ⟨g,0,none⟩) l.length cap] w (zz3 g cap base l w):=by
 have HS:=lh (zkl g cap base l w ho hc hm);have HC:=lh hc;clear ho hc;go_enter Tryz.func94,Tryz.ntmps94;go_wp2_with fail;refine Calls.mono HS.o ?_;rintro e w5⟨c,⟨hown,hperm,hkp⟩,hsd,rfl⟩;have hlen:l.length=c.length:=hperm.length_eq.symm;have HF:=lh (ziw g cap base c w5 (by rw[<-hlen];exact hown) ((HC.o.kept hkp).perm hperm) (by omega))
 have HSD:Hid (Sd leC c 0 c.length):=by have:=lh hsd;rwa[hlen]at this
 have HP:=lh hperm;have HKP:=lh hkp;have HLE:=lh hlen;clear hown hperm hkp hsd hlen;rw[<-HLE.o]at HF;go_wp2_with fail;refine Calls.mono HF.o ?_;rintro e w6⟨rfl,hown,hkp⟩;have HOW:=lh hown;have HK2:=lh hkp;clear hown hkp;go_wp2;go_ret;refine⟨za6 c c.length,by rw[HLE.o];rfl,HOW.o,by rw[zt8 HSD.o];exact zvq (HP.o.map _),fun e he=>?_,Kp.trans (M:=fun y=>y=g) HKP.o HK2.o⟩;obtain⟨t,h1,_,rfl⟩:=znl he;exact HP.o.mem_iff.1 (by rw[zar h1];exact List.getElem_mem h1)
theorem zpf(w:World):Calls Tryz.prog 129 #[.slice none 0 0,FN2] w fun e w'=>e=.returned (.slice none 0 0)/\w=w':=by
 go_enter Tryz.func129,Tryz.ntmps129;go_wp2;go_ret;exact⟨rfl,rfl⟩
theorem zog(w:World):Calls Tryz.prog 94 #[.slice none 0 0] w fun e w'=>e=.returned (.slice none 0 0)/\w=w':=by
 go_enter Tryz.func94,Tryz.ntmps94;go_wp2_with fail;refine(zkm _).mono ?_;rintro e w1⟨rfl,rfl⟩;go_wp2_with fail;refine(zpf _).mono ?_;rintro e w1⟨rfl,rfl⟩;go_wp2;go_ret;exact⟨rfl,rfl⟩
def leL(x y:Int):Prop:=¬cmpL y x<0
theorem zzq{x y:Int}(h:leL x y)(hn:x≠y):ltL x y:=by unfold leL ltL at*;rw[zde]at*;omega
abbrev OwnI(w:World)(base:Nat)(v:Value)(l:List Int):Prop:=OwnL I1 3 1 w base v l
theorem OwnI.c0{w:World}{base g cap n:Nat}{l:List Int}(h:OwnI w base (.slice (some ⟨g,0,none⟩) n cap) l)(hn:n=l.length){i:Nat}(hi:i<l.length):w.cell? ⟨g,i,none⟩=some (.int .i64 (gd l i)):=by
 rw[zar hi];exact OwnL.cell1 hn h i hi
theorem zne:∀(args:Array Value)(w:World),(callFunc 151 args).run Tryz.prog w=.ok (.enter 151 args) w:=fun _ _=>by kernel_rfl
abbrev FNL:Value:=.func (.func 151) #[] #[]
theorem litB.gd{l:List Int}(h:litB l){i:Nat}(hi:i<l.length):-128<=gd l i/\gd l i<=128:=by rw[zar hi];exact h _ (List.getElem_mem hi)
def zz6(g cap base:Nat)(l:List Int)(w:World)(e:Ending)(w':World):Prop:=
 ∃l':List Int,l'.Perm l/\Sd leL l' 0 l.length/\e=.returned (.tuple #[])/\OwnI w' base (.slice (some ⟨g,0,none⟩) l.length cap) l'/\Kp (fun y=>y=g) w w'
end Go.Proofs.YtnlaakmglhjjmaaGreatDoor
namespace Go.Proofs.YtnlaakmglhjjmaaGreatDoor
open Cen
theorem zgv(zs:List Int)(i:Nat):zs.toArray[i]! =gd zs i:=by
 unfold gd
 simp[List.getD_eq_getElem?_getD,Array.getElem!_eq_getD]
theorem zja{zs:List Int}{k:Nat}:Go.Lib.keeps zs.toArray k=true↔k=0\/gd zs k≠gd zs (k-1):=by
 unfold Go.Lib.keeps;rw[zgv,zgv,decide_eq_true_eq]
theorem zpe{zs:List Int}{x:Int}:x∈Go.Lib.compact zs↔∃t,t<zs.length/\Go.Lib.keeps zs.toArray t=true/\x=gd zs t:=by
 unfold Go.Lib.compact Go.Lib.compactUpTo;rw[List.mem_map]
 constructor
 ·rintro⟨t,ht,rfl⟩;obtain⟨h1,h2⟩:=List.mem_filter.1 ht;exact⟨t,List.mem_range.1 h1,h2,zgv _ _⟩
 rintro⟨t,h1,h2,rfl⟩;exact⟨t,List.mem_filter.2 ⟨List.mem_range.2 h1,h2⟩,zgv _ _⟩
theorem zhl{zs:List Int}:∀t,∃s,s<=t/\Go.Lib.keeps zs.toArray s=true/\gd zs s=gd zs t
 |0=>⟨0,Nat.le_refl _,zja.2 (.inl rfl),rfl⟩
 |t+1=>by
   by_cases h:gd zs (t+1)=gd zs t
   ·obtain⟨s,h1,h2,h3⟩:=zhl (zs:=zs) t;exact⟨s,by omega,h2,h3.trans h.symm⟩
   exact⟨t+1,Nat.le_refl _,zja.2 (.inr h),rfl⟩
theorem znp{zs:List Int}(hs:Sd leL zs 0 zs.length):(Go.Lib.compact zs).Pairwise ltL/\∀x,x∈Go.Lib.compact zs↔x∈zs:=by
 refine⟨?_,fun x=>?_⟩
 ·unfold Go.Lib.compact Go.Lib.compactUpTo;rw[List.pairwise_map];refine List.Pairwise.imp_of_mem ?_ ((List.pairwise_lt_range (n:=zs.length)).filter (Go.Lib.keeps zs.toArray));intro s t hs1 ht1 hst;obtain⟨h1,_⟩:=List.mem_filter.1 hs1;obtain⟨h2,h3⟩:=List.mem_filter.1 ht1;rw[List.mem_range]at h1 h2;rw[zgv,zgv];have hle:=hs s t (Nat.zero_le _) hst h2
  refine zzq hle fun e=>?_
  rcases zja.1 h3 with h3|h3
  ·omega
  apply h3
  by_cases c:s=t-1
  ·rw[<-c];exact e.symm
  have a1:=hs s (t-1) (Nat.zero_le _) (by omega) (by omega);have a2:=hs (t-1) t (Nat.zero_le _) (by omega) h2
  apply Classical.byContradiction
  intro hne
  have b2:=zzq a2 fun e'=>hne e'.symm
  rw[<-e]at b2;exact a1 b2
 rw[zpe]
 constructor
 ·rintro⟨t,h1,_,rfl⟩;rw[zar h1];exact List.getElem_mem h1
 intro hx;obtain⟨t,h1,rfl⟩:=List.getElem_of_mem hx;obtain⟨s,k1,k2,k3⟩:=zhl (zs:=zs) t;exact⟨s,by omega,k2,by rw[k3,zar h1]⟩
def oppT(d:List Int)(k:Nat):Prop:=∃i,0<i/\i<k/\gd d i=-gd d (i-1)
theorem zof{d:List Int}(hs:d.Pairwise ltL)(hv:∀x∈d,x≠0/\-128<=x/\x<=128):oppT d d.length↔taut d=true:=by
 rw[zc5]
 constructor
 ·rintro⟨i,h1,h2,h3⟩;refine⟨gd d i,by rw[zar h2];exact List.getElem_mem h2,?_⟩;rw[h3,Int.neg_neg,zar (by omega)];exact List.getElem_mem _
 rintro⟨x,hx,hnx⟩
 have key:∀y,0<y->y∈d->-y∈d->oppT d d.length:=by
  intro y hy h1 h2;obtain⟨b,hb,eb⟩:=List.getElem_of_mem h1;obtain⟨a,ha,ea⟩:=List.getElem_of_mem h2;obtain⟨v1,v2,v3⟩:=hv y h1;have hP:=List.pairwise_iff_getElem.1 hs
  have ly:zac y=y:=by rw[zam v1 v2 v3,if_neg (by omega)]
  have lny:zac (-y)=y:=by rw[zam (by omega) (by omega) (by omega),if_pos (by omega)];omega
  have hab:a<b:=by
   apply Classical.byContradiction
   intro c
   by_cases e:a=b
   ·subst e;rw[eb]at ea;omega
   have:=hP b a hb ha (by omega);rw[eb,ea]at this;unfold ltL at this;rw[zde]at this;omega
  by_cases e:b=a+1
  ·refine⟨b,by omega,hb,?_⟩;rw[zar hb,zar (by omega),eb]
   have:d[b-1]=-y:=by rw[<-ea];congr 1;omega
   rw[this];omega
  have h3:=hP a (a+1) ha (by omega) (by omega);have h4:=hP (a+1) b (by omega) hb (by omega);rw[ea]at h3;rw[eb]at h4;obtain⟨z1,z2,z3⟩:=hv _ (List.getElem_mem (show a+1<d.length by omega));generalize d[a+1]=z at h3 h4 z1 z2 z3;have lz:=zam z1 z2 z3;unfold ltL at h3 h4;rw[zde]at h3 h4
  split at lz<;>omega
 obtain⟨v1,_,_⟩:=hv x hx
 by_cases c:0<x
 ·exact key x c hx hnx
 exact key (-x) (by omega) hnx (by rwa[Int.neg_neg])
end Go.Proofs.YtnlaakmglhjjmaaGreatDoor
namespace Go.Proofs
open Go.Shelf
def Tryz.laysSlF6_f150_ren:Go.Shelf.Ren:=⟨fun|6=>150|15=>91|14=>169|28=>108|29=>121|20=>178|21=>179|22=>180|23=>181|24=>182|25=>183|26=>184|27=>185|46=>191|47=>145|48=>146|49=>192|50=>193|57=>203|n=>n,fun|22=>75|24=>3|25=>115|3=>3|39=>32|0=>0|53=>62|55=>27|4=>4|46=>183|45=>182|50=>187|5=>5|9=>9|66=>203|70=>207|76=>221|77=>222|n=>n,fun|n=>n⟩
theorem Tryz.laysSlF6_f150:Go.Proofs.SlLaysF.n6 Tryz.prog Tryz.laysSlF6_f150_ren:={
 mixed:=by kernel_rfl
 f6:=⟨Tryz.f150.name,by decide,Tryz.func150.trans (congrArg some (by kernel_rfl))⟩
 f14:=⟨Tryz.f169.name,by decide,Tryz.func169.trans (congrArg some (by kernel_rfl))⟩
 f15:=Tryz.func91.trans (congrArg some (by kernel_rfl))
 f20:=⟨Tryz.f178.name,by decide,Tryz.func178.trans (congrArg some (by kernel_rfl))⟩
 f21:=⟨Tryz.f179.name,by decide,Tryz.func179.trans (congrArg some (by kernel_rfl))⟩
 f22:=⟨Tryz.f180.name,by decide,Tryz.func180.trans (congrArg some (by kernel_rfl))⟩
 f23:=⟨Tryz.f181.name,by decide,Tryz.func181.trans (congrArg some (by kernel_rfl))⟩
 f24:=⟨Tryz.f182.name,by decide,Tryz.func182.trans (congrArg some (by kernel_rfl))⟩
 f25:=⟨Tryz.f183.name,by decide,Tryz.func183.trans (congrArg some (by kernel_rfl))⟩
 f26:=⟨Tryz.f184.name,by decide,Tryz.func184.trans (congrArg some (by kernel_rfl))⟩
 f27:=⟨Tryz.f185.name,by decide,Tryz.func185.trans (congrArg some (by kernel_rfl))⟩
 f28:=Tryz.func108.trans (congrArg some (by kernel_rfl))
 f29:=Tryz.func121.trans (congrArg some (by kernel_rfl))
 f46:=⟨Tryz.f191.name,by decide,Tryz.func191.trans (congrArg some (by kernel_rfl))⟩
 f47:=Tryz.func145.trans (congrArg some (by kernel_rfl))
 f48:=Tryz.func146.trans (congrArg some (by kernel_rfl))
 f49:=⟨Tryz.f192.name,by decide,Tryz.func192.trans (congrArg some (by kernel_rfl))⟩
 f50:=⟨Tryz.f193.name,by decide,Tryz.func193.trans (congrArg some (by kernel_rfl))⟩
 f57:=⟨Tryz.f203.name,by decide,Tryz.func203.trans (congrArg some (by kernel_rfl))⟩
 t0:=Tryz.underlying0
 a0:=Tryz.isAgg0
 z0:=Tryz.sizeOf0
 v0:=Tryz.zeroValue0
 t3:=Tryz.underlying3
 a3:=Tryz.isAgg3
 z3:=Tryz.sizeOf3
 v3:=Tryz.zeroValue3
 t4:=Tryz.underlying4
 a4:=Tryz.isAgg4
 z4:=Tryz.sizeOf4
 v4:=Tryz.zeroValue4
 t5:=Tryz.underlying5
 a5:=Tryz.isAgg5
 z5:=Tryz.sizeOf5
 v5:=Tryz.zeroValue5
 t9:=Tryz.underlying9
 a9:=Tryz.isAgg9
 z9:=Tryz.sizeOf9
 v9:=Tryz.zeroValue9
 t22:=Tryz.underlying75
 a22:=Tryz.isAgg75
 z22:=Tryz.sizeOf75
 v22:=Tryz.zeroValue75
 a24:=Tryz.isAgg3
 z24:=Tryz.sizeOf3
 t25:=Tryz.underlying115
 a25:=Tryz.isAgg115
 z25:=Tryz.sizeOf115
 v25:=Tryz.zeroValue115
 t39:=Tryz.underlying32
 a39:=Tryz.isAgg32
 z39:=Tryz.sizeOf32
 v39:=Tryz.zeroValue32
 t45:=Tryz.underlying182
 a45:=Tryz.isAgg182
 z45:=Tryz.sizeOf182
 v45:=Tryz.zeroValue182
 t46:=Tryz.underlying183
 a46:=Tryz.isAgg183
 z46:=Tryz.sizeOf183
 v46:=Tryz.zeroValue183
 t50:=Tryz.underlying187
 a50:=Tryz.isAgg187
 z50:=Tryz.sizeOf187
 v50:=Tryz.zeroValue187
 t53:=Tryz.underlying62
 a53:=Tryz.isAgg62
 z53:=Tryz.sizeOf62
 v53:=Tryz.zeroValue62
 t55:=Tryz.underlying27
 a55:=Tryz.isAgg27
 z55:=Tryz.sizeOf27
 v55:=Tryz.zeroValue27
 t66:=Tryz.underlying203
 a66:=Tryz.isAgg203
 z66:=Tryz.sizeOf203
 v66:=Tryz.zeroValue203
 t70:=Tryz.underlying207
 a70:=Tryz.isAgg207
 z70:=Tryz.sizeOf207
 v70:=Tryz.zeroValue207
 t76:=Tryz.underlying221
 a76:=Tryz.isAgg221
 z76:=Tryz.sizeOf221
 v76:=Tryz.zeroValue221
 t77:=Tryz.underlying222
 a77:=Tryz.isAgg222
 z77:=Tryz.sizeOf222
 v77:=Tryz.zeroValue222}
open Go.RowKit Go.Lib Go.Sort in
theorem Tryz.slices_SortFunc{α:Type}[Inhabited α](enc:α->Value)(h1:OneCell enc)(cf:α->α->Int)(hO:SWO (ltOf cf))(g:Nat)(cb:Array Value)(blk off cap:Nat)(d:Array α)(w:World)(eg:∀args w,(callFunc g args).run Tryz.prog w=.ok (.enter g args) w)(hcmp:CmpLays1 Tryz.prog g cb enc cf blk off d.size w)(hH:Holds enc w blk off d)(hblk:blk<w.heap.size)(hsz:d.size<4611686018427387904):
 Calls Tryz.prog 150 #[.slice (some ⟨blk,off,none⟩) d.size cap,.func (.func g) #[] cb] w fun e w'=>
  e=.returned (.tuple #[])/\∃d' n os,PermIn 0 d.size d d'/\SortedIn (ltOf cf) 0 d.size d'/\w'=sortWorld enc w blk off n d' os:=Any.slices_SortFunc Tryz.laysSlF6_f150 enc h1 cf hO g cb blk off cap d w eg hcmp hH hblk hsz
end Go.Proofs
namespace Go.Proofs.YtnlaakmglhjjmaaGreatDoor
open Go.RowKit Cen
abbrev LB:={x:Int// -128<=x/\x<=128}
instance:Inhabited LB:=⟨⟨0,by omega⟩⟩
def zse(x:LB):Value:=.int .i64 x.1
theorem ybu:Go.Sort.SWO (Go.Proofs.ltOf fun x y:LB=>cmpL x.1 y.1)where
 irrefl x:=by unfold Go.Proofs.ltOf;rw[decide_eq_false];rw[zde];omega
 trans x y z h1 h2:=by
  unfold Go.Proofs.ltOf at*;simp only[decide_eq_true_eq,zde]at*;omega
 ntrans x y z h1 h2:=by
  unfold Go.Proofs.ltOf at*;simp only[decide_eq_false_iff_not,zde]at*;omega
theorem getElem!_map(d:Array LB)(i:Nat)(h:i<d.size):(d.map (·.1))[i]! =(d[i]!).1:=by
 rw[getElem!_pos (d.map (·.1)) i (by simpa using h),getElem!_pos d i h,Array.getElem_map]
theorem zoh(w:World)(b o:Nat)(d:Array LB):Go.Sort.putRow zse w b o d=Go.Sort.putRow (Value.int .i64) w b o (d.map (·.1)):=by
 unfold Go.Sort.putRow
 congr 1
 funext c
 unfold Go.Sort.putCells
 congr 1
 funext k x
 rw[Array.size_map]
 split
 ·rw[getElem!_map d _ (by omega)];rfl
 rfl
theorem zmz(g cap base:Nat)(l:List Int)(w:World)(ho:OwnI w base (.slice (some ⟨g,0,none⟩) l.length cap) l)(hc:litB l)(hm:l.length<=1073741824):
 Calls Tryz.prog 150 #[.slice (some ⟨g,0,none⟩) l.length cap,FNL] w (zz6 g cap base l w):=by
 obtain⟨d,hd⟩:∃d:Array LB,d.map (·.1)=l.toArray:=by
  refine⟨(l.attach.map fun x=>⟨x.1,hc x.1 x.2⟩).toArray,?_⟩
  apply Array.ext'
  simp
 have hds:d.size=l.length:=by have:=congrArg Array.size hd;simpa using this
 have hdg:∀i,i<l.length->(d[i]!).1=gd l i:=fun i hi=>by
  rw[<-getElem!_map d i (by omega),hd,zar hi,getElem!_pos l.toArray i (by simpa using hi)];simp
 have hH:Go.Sort.Holds zse w g 0 d:=fun j hj=>by
  have hj2:j<l.length:=by omega
  refine⟨?_,ho.fr rfl _⟩;rw[Nat.zero_add,ho.c0 rfl hj2]
  show _=some (Value.int .i64 (d[j]!).1)
  rw[hdg j hj2]
 have hcmp:Go.Proofs.CmpLays1 Tryz.prog 151 #[] zse (fun x y:LB=>cmpL x.1 y.1) g 0 d.size w:=fun m os dk hs x y=>
  (zpz x.1 y.1 x.2.1 x.2.2 y.2.1 y.2.2 _).mono fun e w'⟨he,hw⟩=>⟨he,0,#[],by rw[<-hw,Go.Sort.grow_empty];rfl⟩
 have h:=Tryz.slices_SortFunc zse (fun _=>rfl) (fun x y:LB=>cmpL x.1 y.1) ybu 151 #[] g 0 cap d w zne hcmp hH ho.lt.1 (by omega);rw[hds]at h
 refine h.mono fun e w'⟨he,d',n,os,hp,hs,hw⟩=>?_
 have hd's:d'.size=l.length:=by rw[hp.1,hds]
 refine⟨(d'.map (·.1)).toList,?_,?_,he,?_,?_⟩
 ·have h3:=hp.2.2;rw[show l.length=d.size from hds.symm]at h3;rw[Array.extract_size,show d'.extract 0 d.size=d' by rw[<-hp.1];exact Array.extract_size]at h3;have h4:=h3.map (·.1);rw[<-Array.toList_map,<-Array.toList_map,hd]at h4
  simpa using h4
 ·intro i j _ hij hj;have h5:=hs i j (Nat.zero_le _) hij hj;unfold Go.Proofs.ltOf at h5;rw[decide_eq_false_iff_not]at h5
  have e1:∀k,k<l.length->gd (d'.map (·.1)).toList k=(d'[k]!).1:=fun k hk=>by
   rw[zar (by simp;omega),<-getElem!_map d' k (by omega),getElem!_pos (d'.map (·.1)) k (by simp;omega)];simp
  rw[e1 i (by omega),e1 j hj];exact h5
 ·have hoi:OwnInts w base (.slice (some ⟨g,0,none⟩) l.length cap) l:=zao.2 ho
  rcases hoi.2 with⟨hv,_⟩|⟨g',cap',cur,hv,hg,hh,hn,hm2,hs2,ht⟩
  ·cases hv
  cases hv
  have hw2:w'=Go.Sort.grow (Go.Sort.putRow (Value.int .i64) (Go.Sort.ahead w n) g 0 (d'.map (·.1)).toList.toArray) os:=by
   rw[hw];show Go.Sort.grow (Go.Sort.putRow zse (Go.Sort.ahead w n) g 0 d') os=_
   rw[zoh]
  rw[hw2]
  have hl2:(d'.map (·.1)).toList.length=l.length:=by simp;omega
  have h6:=Go.ownsRow_sortedI (w:=w) (base:=base) (g:=g) (cap:=cap) (n:=n) (os:=os) hl2 hg hh hn hm2 hs2
  have h7:OwnInts (Go.Sort.grow (Go.Sort.putRow (Value.int .i64) (Go.Sort.ahead w n) g 0 (d'.map (·.1)).toList.toArray) os) base (.slice (some ⟨g,0,none⟩) l.length cap) (d'.map (·.1)).toList:=by
   unfold OwnInts;rw[hl2];exact h6
  exact zao.1 h7
 have hw2:w'=Go.Sort.grow (Go.Sort.putRow (Value.int .i64) (Go.Sort.ahead w n) g 0 (d'.map (·.1))) os:=by
  rw[hw];show Go.Sort.grow (Go.Sort.putRow zse (Go.Sort.ahead w n) g 0 d') os=_
  rw[zoh]
 rw[hw2]
 exact Kp.grown (row:=some g) (Go.grownBy_sortedI _) fun k h=>by cases h;rfl
theorem zp0(x n:Int)(a:Addr)(w:World)(h:w.cell? a=some (.int .i64 n)):
 Calls Tryz.prog 149 #[.int .i64 x,.pointer (some a)] w fun e w'=>e=.returned (.bool (!zbn x n))/\w=w':=by
 go_enter Tryz.func149,Tryz.ntmps149;go_wp2_with(go_at_call 57;refine(zcs _ _ _).mono ?_;rintro e w'⟨rfl,rfl⟩);go_ret;exact⟨rfl,rfl⟩
theorem zh2:za8 149:=fun _ _=>by kernel_rfl
theorem zoz(xs:List Int)(p:Int->Bool):(!(xs.any fun x=>!p x))=xs.all p:=by
 induction xs with
 |nil=>rfl
 |cons x xs ih=>rw[List.any_cons,List.all_cons,Bool.not_or,Bool.not_not,ih]
theorem zld(a:Option Addr)(cap:Nat)(xs:List Int)(n:Int)(w:World)(hl:xs.length<=1073741824)(hx:IntCells w a xs):
 Calls Tryz.prog 122 #[.slice a xs.length cap,.int .i64 n] w fun e w'=>e=.returned (.bool (xs.all fun x=>zbn x n))/\Below w.heap.size w w':=by
 have hb0:Below w.heap.size w (w.alloc (.cells #[.int .i64 n] 3)):=ba _ _;have HX:=lh (hx.keep hb0);have HB:=lh hb0
 have hne:(!(xs.any fun x=>!zbn x n))=xs.all fun x=>zbn x n:=zoz _ _
 have HNE:=lh hne;clear hx hb0 hne;go_enter Tryz.func122,Tryz.ntmps122;go_wp2_with fail;refine(zcz a cap xs 149 #[.pointer (some ⟨w.heap.size,0,none⟩)] (fun x=>!zbn x n) _ hl HX.o (fun x _=>zp0 x n _ _ (by rw[World.cell?_alloc_at _ _ _ _ (by simp)];rfl)) zh2).mono ?_;rintro e w1⟨rfl,rfl⟩;go_wp2;go_ret;exact⟨zbg HNE.o,HB.o⟩
theorem zhr(a:Option Addr)(cap:Nat)(xs:List Int)(w:World)(hl:xs.length<=1073741824)(hx:IntCells w a xs)(hb:litB xs):
 Calls Tryz.prog 124 #[.slice a xs.length cap] w fun e w'=>(∃r:Bool,e=.returned (.bool r)/\(r=true↔oppT xs xs.length))/\Below w.heap.size w w':=by
 have HX:=lh hx;have HLB:=lh hb;clear hx hb;go_enter Tryz.func124,Tryz.ntmps124;go_wp2
 go_loopw[3](fun i wr=>∃k:Nat,1<=k/\(k<=xs.length\/k=1)/\i=.int .i64 k/\¬oppT xs k/\Below w.heap.size w wr)(fun i _=>xs.length-(intOf i).toNat)
 case atStart=>exact⟨1,Nat.le_refl _,.inr rfl,rfl,fun⟨i,h1,h2,_⟩=>by omega,Below.refl _ _⟩
 obtain⟨k,hk1,hk2,rfl,hno,hb⟩:=hrel;have HNO:=lh hno;have HB:=lh hb;clear hno hb
 by_cases hlt:k<xs.length
 ·obtain⟨b,off,rfl,hc1⟩:=HX.o.keep HB.o k hlt;obtain⟨b',off',e',hc2⟩:=HX.o.keep HB.o (k-1) (by omega);simp only[Option.some.injEq,Addr.mk.injEq,and_true]at e';obtain⟨rfl,rfl⟩:=e';have x1:xs.getD k 0=gd xs k:=rfl;have x2:xs.getD (k-1) 0=gd xs (k-1):=rfl;rw[x1]at hc1;rw[x2]at hc2;obtain⟨y1,y2⟩:=HLB.o.gd (show k-1<xs.length by omega);have HY:Hid (IntKind.i64.wrap (-(gd xs (k-1)))=-(gd xs (k-1))):=IntWalk.i64_in _ (by omega)
  have e1:IntKind.i64.wrap ((k:Int)-1)=((k-1:Nat):Int):=by rw[IntWalk.i64_in _ (by omega)];omega
  have E1:=lh e1
  have hki:((k-1:Nat):Int)<(xs.length:Int):=by omega
  have hki2:(k:Int)<(xs.length:Int):=by omega
  have hki3:k-1<xs.length:=by omega
  have HS:Hid (oppT xs (k+1)↔oppT xs k\/gd xs k=-gd xs (k-1)):=by
   show _↔_
   constructor
   ·rintro⟨i,h1,h2,h3⟩
    by_cases c:i=k
    ·subst c;exact .inr h3
    exact .inl ⟨i,h1,by omega,h3⟩
   rintro(⟨i,h1,h2,h3⟩|h)
   ·exact⟨i,h1,by omega,h3⟩
   exact⟨k,by omega,by omega,h⟩
  have HUP:Hid (oppT xs (k+1)->oppT xs xs.length):=fun⟨i,h1,h2,h3⟩=>⟨i,h1,by omega,h3⟩
  clear x1 x2 e1 y1 y2
  by_cases heq:gd xs k=-gd xs (k-1)
  ·have hd:(gd xs k==-gd xs (k-1))=true:=by simpa using heq
   have hd2:decide (gd xs k=-gd xs (k-1))=true:=by simpa using heq
   have HEQ:=lh heq;clear heq;generalize gd xs k=x at*;generalize gd xs (k-1)=y at*;go_wp2_with fail;have e1:=E1.o;have hy:=HY.o
   go_quiet(fail)
   all_goals
    go_wp2;go_ret;exact⟨⟨true,rfl,fun _=>HUP.o (HS.o.2 (.inr HEQ.o)),fun _=>rfl⟩,HB.o.trans ((zal _ _).mono HB.o.size)⟩
  have hd:(gd xs k==-gd xs (k-1))=false:=by simpa using heq
  have hd2:decide (gd xs k=-gd xs (k-1))=false:=by simpa using heq
  have HEQ:=lh heq;clear heq;generalize gd xs k=x at*;generalize gd xs (k-1)=y at*;go_wp2_with fail;have e1:=E1.o;have hy:=HY.o
  go_quiet(fail)
  all_goals
   clear e1 hy;go_wp2;go_roundw
   case rel=>exact⟨k+1,by omega,.inl (by omega),ival (by omega),fun h=>(HS.o.1 h).elim HNO.o HEQ.o,HB.o.trans ((zal _ _).mono HB.o.size)⟩
   case measure=>simp[intOf];omega
 have HE:Hid (¬oppT xs xs.length):=fun⟨i,h1,h2,h3⟩=>HNO.o ⟨i,h1,by omega,h3⟩
 go_wp2;go_ret;exact⟨⟨false,rfl,fun h=>by simp at h,fun h=>absurd h HE.o⟩,HB.o⟩
theorem OwnI.cut{w:World}{base g cap:Nat}{xs ys:List Int}(h:OwnI w base (.slice (some ⟨g,0,none⟩) (xs++ys).length cap) (xs++ys)):OwnI w base (.slice (some ⟨g,0,none⟩) xs.length cap) xs:=by
 refine zao.1 ?_;have h:=zao.2 h;refine⟨by simp,?_⟩
 rcases h.2 with⟨h3,_⟩|⟨g',cap',cur,hv,hb,hg,hnc,hcm,hcs,ht⟩
 ·simp at h3
 simp only[Value.slice.injEq,Option.some.injEq,Addr.mk.injEq,and_true,true_and]at hv;obtain⟨rfl,rfl⟩:=hv;refine .inr ⟨_,_,cur,rfl,hb,hg,by rw[List.length_append]at hnc;omega,hcm,hcs,?_⟩;have h3:=congrArg (List.take xs.length) ht;rw[List.take_take,List.map_append,List.take_left' (by simp),Nat.mul_one,show min xs.length (xs++ys).length=xs.length by rw[List.length_append];omega]at h3;rw[Nat.mul_one];exact h3
theorem znn(g cap base:Nat)(l:List Int)(w:World)(ho:OwnI w base (.slice (some ⟨g,0,none⟩) l.length cap) l)(hm:l.length<=1073741824):
 Calls Tryz.prog 153 #[.slice (some ⟨g,0,none⟩) l.length cap] w fun e w'=>e=.returned (.slice (some ⟨g,0,none⟩) (Go.Lib.compact l).length cap)/\OwnI w' base (.slice (some ⟨g,0,none⟩) (Go.Lib.compact l).length cap) (Go.Lib.compact l)/\Kp (fun y=>y=g) w w':=by
 rcases(zao.2 ho).2 with⟨h3,_⟩|⟨g',cap',cur,hv,hg,hh,hn,hmx,hs,ht⟩
 ·simp at h3
 simp only[Value.slice.injEq,Option.some.injEq,Addr.mk.injEq,and_true,true_and]at hv;obtain⟨rfl,rfl⟩:=hv;rw[Nat.mul_one]at ht;refine(Tryz.slices_Compact_int g 0 cap l w (Go.holds_of_blockI hh ht) (by omega) (by omega)).mono ?_;rintro e w'⟨rfl,q,rfl⟩;have hle:=Go.Lib.compact_length_le l
 have hsz:(Go.Lib.compact l++List.replicate (l.length-(Go.Lib.compact l).length) 0).length=l.length:=by simp;omega
 have hO:=Go.ownsRow_sortedI (n:=q) (os:=#[]) (w:=w) (base:=base) (e:=3) hsz hg hh hn hmx hs;have hG:=Go.grownBy_sortedI (w:=w) (g:=g) (n:=q) (os:=#[]) (Go.Lib.compact l++List.replicate (l.length-(Go.Lib.compact l).length) 0).toArray;rw[Go.Sort.grow_empty]at hO hG;refine⟨rfl,OwnI.cut (ys:=List.replicate (l.length-(Go.Lib.compact l).length) 0) ?_,?_⟩
 ·refine zao.1 ?_
  show World.ownsRow _ _ _ _ _ _ _
  rw[hsz];exact hO
 exact⟨hG.os,hG.tape,hG.output,hG.size,fun k hk hM=>hG.block k hk fun e=>hM (by cases e;rfl)⟩
theorem zno(w:World):Calls Tryz.prog 153 #[.slice none 0 0] w fun e w'=>e=.returned (.slice none 0 0)/\w=w':=
 (Tryz.slices_Compact_int_empty none 0 w).mono fun _ _⟨h1,h2⟩=>⟨h1,h2.symm⟩
theorem zxl(w:World):Calls Tryz.prog 178 #[.slice none 0 0,.int .i64 0,.int .i64 0,FNL] w fun e w'=>e=.returned (.tuple #[])/\w=w':=by
 go_enter Tryz.func178,Tryz.ntmps178;go_wp2;refine wp_loop_rounds 1 ?_;rw[rounds_succ];go_wp2
 go_end0
 exact⟨rfl,rfl⟩
theorem zye(d:Int)(w:World):Calls Tryz.prog 169 #[.slice none 0 0,.int .i64 0,.int .i64 0,.int .i64 d,FNL] w fun e w'=>e=.returned (.tuple #[])/\w=w':=by
 go_enter Tryz.func169,Tryz.ntmps169;go_wp2;refine wp_loop_rounds 1 ?_;rw[rounds_succ];go_wp2_with fail;refine(zxl _).mono ?_;rintro e w1⟨rfl,rfl⟩;go_wp2;exact bodyPost_ret (v:=.tuple #[]) (by simp[results,Tryz.results169,go_sem]) rfl ⟨rfl,rfl⟩
theorem zm0(w:World):Calls Tryz.prog 150 #[.slice none 0 0,FNL] w fun e w'=>e=.returned (.tuple #[])/\w=w':=by
 go_enter Tryz.func150,Tryz.ntmps150;go_wp2_with fail;refine(Tryz.bits_Len 0 w (by omega) (by omega)).mono ?_;rintro e w1⟨rfl,rfl⟩;go_wp2_with fail;refine(zye _ _).mono ?_;rintro e w1⟨rfl,rfl⟩;go_wp2
 go_end0
 exact⟨rfl,rfl⟩
def zwm(c:List Int)(w:World)(e:Ending)(w':World):Prop:=∃v d,e=.returned v/\OwnI w' w.heap.size v d/\d.Pairwise ltL/\(∀x,x∈d↔x∈c)/\d.length<=c.length/\Below w.heap.size w w'
theorem Kp.fresh{B g:Nat}{w w':World}(h:Kp (fun y=>y=g) w w')(hg:B<=g)(hB:B<=w.heap.size):Below B w w':=⟨h.os,h.tape,h.output,h.size,fun k hk=>h.block k (Nat.lt_of_lt_of_le hk hB) (by omega)⟩
theorem zlc(a:Option Addr)(cap:Nat)(c:List Int)(w:World)(hl:c.length<=256)(hx:IntCells w a c)(hb:litB c):
 Calls Tryz.prog 123 #[.slice a c.length cap] w (zwm c w):=by
 have HL:=lh (zaz a cap c w (by omega) hx);have HB:=lh hb;clear hx hb;go_enter Tryz.func123,Tryz.ntmps123;go_wp2_with fail;refine HL.o.mono ?_;rintro e w1⟨v,rfl,hown,hbl⟩;have hown:=zao.1 hown;have HBL:=lh hbl;clear hbl
 rcases hown.shape with⟨rfl,hc0⟩|⟨g,cp,rfl,hg1,hg2⟩
 ·subst hc0;have HO:=lh hown;clear hown;go_wp2_with fail;refine(zm0 _).mono ?_;rintro e w2⟨rfl,rfl⟩;go_wp2_with fail;refine(zno _).mono ?_;rintro e w2⟨rfl,rfl⟩;go_wp2;go_ret;exact⟨_,[],rfl,HO.o,List.Pairwise.nil,fun x=>Iff.rfl,Nat.le_refl _,HBL.o⟩
 have HS:=lh (zmz g cp _ c w1 hown HB.o (by omega));clear hown;go_wp2_with fail;refine HS.o.mono ?_;rintro e w2⟨d,hp,hsd,rfl,hown2,hkp⟩;have hlen:c.length=d.length:=hp.length_eq.symm;have HC:=lh (znn g cp _ d w2 (by rw[<-hlen];exact hown2) (by omega));rw[<-hlen]at HC;have HLI:=lh (znp (zs:=d) (by rw[<-hlen];exact hsd));have HP:=lh hp;have HK:=lh (hkp.fresh hg1 HBL.o.size);have HSZ:Hid (w.heap.size<=w2.heap.size):=Nat.le_trans HBL.o.size hkp.size;clear hown2 hkp hp hsd hlen;go_wp2_with fail;refine HC.o.mono ?_;rintro e w3⟨rfl,hown3,hkp3⟩;have HO3:=lh hown3
 have HK3:=lh (hkp3.fresh hg1 HSZ.o);clear hown3 hkp3;go_wp2;go_ret;exact⟨_,_,rfl,HO3.o,HLI.o.1,fun x=>(HLI.o.2 x).trans HP.o.mem_iff,by rw[<-HP.o.length_eq];exact Go.Lib.compact_length_le _,(HBL.o.trans HK.o).trans HK3.o⟩
def zzu(n:Nat)(c:List Int)(w:World)(e:Ending)(w':World):Prop:=∃v,e=.returned (.tuple #[v,.bool (taut c),.int .i64 0])/\OwnI w' w.heap.size v (zcg n c)/\(zcg n c).length<=256/\Below w.heap.size w w'
theorem zln{c d:List Int}(h:∀x,x∈c↔x∈d):taut c=taut d:=by
 have:taut c=true↔taut d=true:=by rw[zc5,zc5];exact exists_congr fun x=>and_congr (h x) (h _)
 cases h1:taut c<;>cases h2:taut d<;>simp_all
theorem zmk(n:Nat)(hn:n<=128)(a:Option Addr)(cap:Nat)(c:List Int)(w:World)(hl:c.length<=256)(hx:IntCells w a c)(hc:∀x∈c,x≠0/\-(n:Int)<=x/\x<=n):
 Calls Tryz.prog 93 #[.slice a c.length cap,.int .i64 n] w (zzu n c w):=by
 have hlb:litB c:=fun x hx=>by have:=hc x hx;omega
 have hok:(c.all fun x=>zbn x n)=true:=by
  rw[List.all_eq_true];intro x hx;obtain⟨h1,h2,h3⟩:=hc x hx;have:=zam h1 (by omega) (by omega);unfold zbn
  split at this<;>simp<;>omega
 have HV:=lh (zld a cap c n w (by omega) hx);rw[hok]at HV;have HO:=lh (fun(V:World)(h:Below w.heap.size w V)=>zlc a cap c V hl (hx.keep h) hlb);have HC:=lh hc;clear hx hok hlb hc;go_enter Tryz.func93,Tryz.ntmps93;go_wp2_with fail;refine HV.o.mono ?_;rintro e w1⟨rfl,hb1⟩;have H1:=lh (HO.o w1 hb1);have HB1:=lh hb1;clear hb1;go_wp2_with fail;refine H1.o.mono ?_;rintro e w2⟨v,d,rfl,hown,hpw,hmem,hdc,hb2⟩;have hdn:d=zcg n c:=zey hn hpw hmem HC.o;have hown:OwnI w2 w.heap.size v d:=hown.lower HB1.o.size;obtain⟨av,cv,rfl,hcells,_⟩:=(zao.2 hown).cells;have hdl:d.length<=256:=Nat.le_trans hdc hl
 have hdv:∀x∈d,x≠0/\-128<=x/\x<=128:=fun x hx=>by have:=HC.o x ((hmem x).1 hx);omega
 have HP:=lh (zhr av cv d w2 (by omega) hcells fun x hx=>(hdv x hx).2);have HT:=lh ((zof hpw hdv).trans (by rw[zln hmem]));have HDN:=lh hdn;have HOW:=lh hown;have HB2:=bt HB1 hb2;clear hpw hmem hdv hcells hown hb2 hdn;go_wp2_with fail;refine HP.o.mono ?_;rintro e w3⟨⟨r,rfl,hr⟩,hb3⟩
 have hrt:r=taut c:=by
  have:=hr.trans HT.o
  cases r<;>cases h:taut c<;>simp_all
 subst hrt;have HO3:=lh (HOW.o.later hb3);have HB3:=bt HB2 hb3;clear hr hb3;go_wp2;exact bodyPost_ret (v:=.tuple #[.slice av d.length cv,.bool (taut c),.int .i64 0]) (by simp[results,Tryz.results93,go_sem]) rfl ⟨_,rfl,by rw[<-HDN.o];exact HO3.o,by rw[<-HDN.o];exact hdl,HB3.o⟩
theorem zma:Elem 130 163 2 32 (.agg #[.slice none 0 0,.int .i64 0]):=.mk Tryz.underlying130 (by kernel_rfl) rfl (by decide)
def CsIn(w:World)(base:Nat)(v:Value)(l:List Ce):Prop:=∀e∈l,e.xs.length<=1073741824/\litB e.xs/\IntCells w e.a e.xs/\∀p,e.a=some p->base<=p.block/\p.block<w.heap.size/\¬v.ownBlock=some p.block
theorem CsIn.nil(w:World)(base:Nat)(v:Value):CsIn w base v []:=fun e h=>by simp at h
theorem CsIn.ok{w:World}{base g n cap:Nat}{l:List Ce}(h:CsIn w base (.slice (some ⟨g,0,none⟩) n cap) l):CsOk w g l:=fun e he=>by
 obtain⟨h1,h2,h3,h4⟩:=h e he;exact⟨h1,h2,h3,fun p hp e'=>(h4 p hp).2.2 (by rw[e'];rfl)⟩
theorem CsIn.kept{w w':World}{base:Nat}{v v':Value}{l:List Ce}(h:CsIn w base v l)(hk:Kp (fun y=>v.ownBlock=some y) w w')(hv:∀k,v'.ownBlock=some k->v.ownBlock=some k\/w.heap.size<=k):CsIn w' base v' l:=fun e he=>by
 obtain⟨h1,h2,h3,h4⟩:=h e he;refine⟨h1,h2,h3.kept hk fun p hp=>(h4 p hp).2.2,fun p hp=>?_⟩;obtain⟨k1,k2,k3⟩:=h4 p hp;refine⟨k1,Nat.lt_of_lt_of_le k2 hk.size,fun e'=>?_⟩
 rcases hv _ e' with h5|h5
 ·exact k3 h5
 omega
theorem CsIn.sub{w:World}{base:Nat}{v:Value}{l m:List Ce}(h:CsIn w base v l)(hm:∀e∈m,e∈l):CsIn w base v m:=fun e he=>h e (hm e he)
def AtN(n:Nat)(t:List Cl)(k:Nat)(l:List Ce):Prop:=∀e∈l,∃j:Nat,j<k/\e.i=j/\taut (t.getD j [])=false/\e.xs=zcg n (t.getD j [])
structure NrmSt(n:Nat)(t:List Cl)(B k:Nat)(w:World)(v:Value)(l:List Ce):Prop where
 own:OwnC w B v l
 ins:CsIn w B v l
 at':AtN n t k l
 xs:(l.map fun e=>e.xs)=((t.take k).filter fun c=>!taut c).map (zcg n)
def zz2(n:Nat)(t:List Cl)(w:World)(e:Ending)(w':World):Prop:=
 ∃v l,e=.returned v/\OwnC w' w.heap.size v l/\CsIn w' w.heap.size v l/\AtN n t t.length l/\(l.map fun e=>e.xs)=zaa n t/\Below w.heap.size w w'
theorem NrmSt.skip{n:Nat}{t:List Cl}{B k:Nat}{w:World}{v:Value}{l:List Ce}(h:NrmSt n t B k w v l)(hk:k<t.length)(ht:taut (t.getD k [])=true):NrmSt n t B (k+1) w v l:=
 ⟨h.own,h.ins,fun e he=>let⟨j,h1,h2⟩:=h.at' e he;⟨j,by omega,h2⟩,by
   rw[h.xs,List.take_succ_eq_append_getElem hk,List.filter_append,List.map_append]
   have:taut t[k]=true:=by rw[<-ht];simp[List.getD_eq_getElem?_getD,hk]
   simp[this]⟩
theorem NrmSt.len{n:Nat}{t:List Cl}{B k:Nat}{w:World}{v:Value}{l:List Ce}(h:NrmSt n t B k w v l):l.length<=t.length:=by
 have:=congrArg List.length h.xs;rw[List.length_map,List.length_map]at this;have h2:=List.length_filter_le (fun c=>!taut c) (t.take k);rw[List.length_take]at h2;omega
theorem NrmSt.later{n:Nat}{t:List Cl}{B k:Nat}{w w':World}{v:Value}{l:List Ce}(h:NrmSt n t B k w v l)(hb:Below w.heap.size w w'):NrmSt n t B k w' v l:=
 ⟨h.own.later hb,h.ins.kept (Kp.below hb) fun _ h=>.inl h,h.at',h.xs⟩
theorem zsv(n:Nat)(hn:n<=128)(a:Option Addr)(cap:Nat)(t:List Cl)(w:World)(hl:t.length<=1073741823)(hx:LsCells w a t)(ht:∀c∈t,c.length<=256/\∀x∈c,x≠0/\-(n:Int)<=x/\x<=n):
 Calls Tryz.prog 62 #[.agg #[.int .i64 n,.slice a t.length cap]] w (zz2 n t w):=by
 have hb0:Below w.heap.size w (w.alloc (.cells #[.int .i64 n,.slice a t.length cap] 26)):=ba _ _;obtain⟨w0,hw0⟩:=nm (w.alloc (.cells #[.int .i64 n,.slice a t.length cap] 26))
 have b0:w0.cell? ⟨w.heap.size,0,none⟩=some (.int .i64 n):=by rw[hw0,World.cell?_alloc_at _ _ _ _ rfl];rfl
 have b1:w0.cell? ⟨w.heap.size,1,none⟩=some (.slice a t.length cap):=by rw[hw0,World.cell?_alloc_at _ _ _ _ rfl];rfl
 have hs0:w0.heap.size=w.heap.size+1:=by rw[hw0];simp
 rw[<-hw0]at hb0;have HX:=lh (hx.keep hb0);have HB0:=lh hb0;have HT:=lh ht;have HS0:=lh hs0
 have HIN:Hid (NrmSt n t w0.heap.size 0 w0 (.slice none 0 0) []):=⟨OwnL.nil _ _,CsIn.nil _ _ _,fun e h=>by simp at h,rfl⟩
 clear hx ht hb0 hs0;go_enter Tryz.func62,Tryz.ntmps62;go_wp2_with fail;rw[<-hw0];clear hw0;go_wp2_with fail
 go_loopw[3,12](fun v i wr=>∃k:Nat,k<=t.length/\i=.int .i64 k/\Below w0.heap.size w0 wr/\∃l va vc,v=.slice va l.length vc/\NrmSt n t w0.heap.size k wr (.slice va l.length vc) l)(fun _ i _=>t.length-(intOf i).toNat)
 case atStart=>exact⟨0,Nat.zero_le _,rfl,Below.refl _ _,[],none,0,rfl,HIN.o⟩
 obtain⟨k,hk,rfl,hb,l,va,vc,rfl,hst⟩:=hrel;have HB:=lh hb;have HST:=lh hst;have hle:=hst.len;clear hb hst
 by_cases hlt:k<t.length
 ·obtain⟨b,off,ai,ci,rfl,hc1,hi⟩:=HX.o.keep HB.o k hlt;have b2:=zab HB.o b0
  have hmem:t.getD k []∈t:=by rw[List.getD_eq_getElem?_getD,List.getElem?_eq_getElem hlt];exact List.getElem_mem hlt
  obtain⟨hlen,hval⟩:=HT.o _ hmem;obtain⟨c,hc⟩:=nm (t.getD k []);rw[<-hc]at hc1 hi hlen hval;have HCE:=lh hc;have HCL:=lh (zmk n hn ai ci c wr hlen hi hval);have HVL:=lh hval
  have hki:(k:Int)<(t.length:Int):=by omega
  clear hmem hlen hval hi hc;go_wp2_with fail;refine HCL.o.mono ?_;rintro e w2⟨v2,rfl,hown2,hdl,hb2⟩;have HST2:=lh (HST.o.later hb2);have HB2:=bt HB hb2;have HLT:=lh (show∀g,(Value.slice va l.length vc).ownBlock=some g->g<wr.heap.size from fun g hg=>(World.ownsRow.lt HST.o.own g hg).2)
  cases htc:taut c with
  |true=>
    have HS:=lh (HST2.o.skip hlt (by rw[<-HCE.o];exact htc));clear hown2 hb2 htc;go_wp2;go_roundw
    case rel=>exact⟨k+1,by omega,by go_num,HB2.o,l,va,vc,rfl,HS.o⟩
    case measure=>simp[intOf];omega
  |false=>
    obtain⟨av,cv,rfl,hcells,hav⟩:=(zao.2 hown2).cells;have hlt2:=(zao.2 hown2).lt;have HTC:=lh htc;have HCE2:=lh hcells;have HAV:=lh hav;have HL2:=lh hlt2;have HDL:=lh hdl;have HSZ:=lh hb2.size;have HSZ2:Hid (w0.heap.size<=w2.heap.size):=HB2.o.size;have HLL:=lh (show l.length<=1073741824 by omega);clear hcells hav hlt2 hown2 hb2 htc hdl hle
    have HD:Hid (zcg n c=zcg n (t.getD k [])):=by show _=_;rw[HCE.o]
    have hdb:litB (zcg n c):=fun x hx=>by obtain⟨_,_,h1,h2⟩:=zb4.1 hx;exact⟨by omega,by omega⟩
    have HDB:=lh hdb;clear hdb;generalize zcg n c=d at*;go_wp2_with(at_builtin;go_loud(refine zlx (C:=#[.slice av d.length cv,.int .i64 k]) zma rfl _ _ rfl w0.heap.size (.slice va l.length vc) l ⟨av,cv,d,k⟩ rfl HST2.o.own rfl rfl rfl (by intro u hu;simp[ce]at hu;rcases hu with rfl|rfl<;>rfl) HLL.o (by decide) HSZ2.o ?_));intro g cap5 w5 ho5 hg5 hgn
    have HN:Hid (NrmSt n t w0.heap.size (k+1) w5 (.slice (some ⟨g,0,none⟩) (l.length+1) cap5) (l++[⟨av,cv,d,k⟩])):=by
     have hob:∀g0,(Value.slice va l.length vc).ownBlock=some g0->g0<wr.heap.size:=HLT.o
     have hkp:Kp (fun y=>(Value.slice va l.length vc).ownBlock=some y) w2 w5:=Kp.grown hg5 fun k h=>h
     have hgn':∀k,(Value.slice (some ⟨g,0,none⟩) (l.length+1) cap5).ownBlock=some k->(Value.slice va l.length vc).ownBlock=some k\/w2.heap.size<=k:=fun k h=>by
      cases h;exact hgn
     refine⟨ho5,fun e he=>?_,fun e he=>?_,?_⟩
     ·rcases List.mem_append.1 he with he|he
      ·exact(HST2.o.ins.kept hkp hgn') e he
      simp only[List.mem_singleton]at he;subst he;refine⟨Nat.le_trans HDL.o (by decide),HDB.o,HCE2.o.kept hkp fun p hp e'=>?_,fun p hp=>?_⟩
      ·have h1:=hob _ e';have h2:=(HAV.o p hp).1;omega
      subst hp;have h1:=(HAV.o p rfl).1;have h2:=(HL2.o p.block rfl).2;have h3:=HB.o.size;refine⟨by omega,Nat.lt_of_lt_of_le h2 hkp.size,fun e'=>?_⟩
      rcases hgn' _ e' with h4|h4
      ·have:=hob _ h4;omega
      omega
     ·rcases List.mem_append.1 he with he|he
      ·obtain⟨j,h1,h2⟩:=HST2.o.at' e he;exact⟨j,by omega,h2⟩
      simp only[List.mem_singleton]at he;subst he;exact⟨k,by omega,rfl,by rw[<-HCE.o];exact HTC.o,HD.o⟩
     have ht1:t[k]=t.getD k []:=by simp[List.getD_eq_getElem?_getD,hlt]
     have ht2:taut t[k]=false:=by rw[ht1,<-HCE.o];exact HTC.o
     rw[List.map_append,HST2.o.xs,List.take_succ_eq_append_getElem hlt,List.filter_append,List.map_append];rw[show[t[k]].filter (fun c=>!taut c)=[t[k]]by simp[ht2],ht1,show List.map (zcg n) [t.getD k []]=[zcg n (t.getD k [])]from rfl,<-HD.o]
     rfl
    have HB5:Hid (Below w0.heap.size w0 w5):=HB2.o.trans (Kp.toBelow (Kp.grown (M:=fun y=>(Value.slice va l.length vc).ownBlock=some y) hg5 fun k h=>h) HSZ2.o fun k hk h=>by
     have:=(World.ownsRow.lt HST.o.own k h).1;omega)
    clear ho5 hg5 hgn;go_wp2;go_roundw
    case rel=>exact⟨k+1,by omega,by go_num,HB5.o,l++[⟨av,cv,d,k⟩],some ⟨g,0,none⟩,cap5,by rw[List.length_append];rfl,by rw[List.length_append];exact HN.o⟩
    case measure=>simp[intOf];omega
 have hke:k=t.length:=by omega
 subst hke
 have HXS:Hid ((l.map fun e=>e.xs)=(t.filter fun c=>!taut c).map (zcg n)):=by
  show _=_
  rw[HST.o.xs,List.take_length]
 have HSB:=lh (HB0.o.trans (HB.o.mono HB0.o.size));have HZ:Hid (w.heap.size<=w0.heap.size):=HB0.o.size
 rcases HST.o.own.shape with⟨hv,h0⟩|⟨g,cp,hv,hg1,hg2⟩
 ·simp only[Value.slice.injEq]at hv;obtain⟨rfl,_,rfl⟩:=hv;subst h0
  have HNF:Hid (zaa n t=[]):=by
   show _=_
   unfold zaa;rw[<-HXS.o];rfl
  go_wp2_with fail;refine(zog _).mono ?_;rintro e w2⟨rfl,rfl⟩;go_wp2;go_ret;exact⟨_,[],rfl,OwnL.nil _ _,CsIn.nil _ _ _,fun e h=>by simp at h,HNF.o.symm,HSB.o⟩
 simp only[Value.slice.injEq]at hv;obtain⟨rfl,_,rfl⟩:=hv;have HOR:=lh (zjr g vc w0.heap.size l wr HST.o.own HST.o.ins.ok (by omega));have HG1:=lh hg1;clear hg1 hg2;go_wp2_with fail;refine HOR.o.mono ?_;rintro e w2⟨l',rfl,hown,hxs,hsub,hkp⟩;have HO2:=lh (hown.lower HZ.o)
 have HC2:Hid (CsIn w2 w.heap.size (.slice (some ⟨g,0,none⟩) l'.length vc) l'):=by
  have h1:=(HST.o.ins.sub hsub).kept (hkp.mono fun k _ h=>by rw[h];rfl) (v':=.slice (some ⟨g,0,none⟩) l'.length vc) (fun k h=>.inl h)
  exact fun e he=>let⟨a1,a2,a3,a4⟩:=h1 e he;⟨a1,a2,a3,fun p hp=>⟨Nat.le_trans HZ.o (a4 p hp).1,(a4 p hp).2⟩⟩
 have HAT:Hid (AtN n t t.length l'):=fun e he=>HST.o.at' e (hsub e he)
 have HNF:Hid ((l'.map fun e=>e.xs)=zaa n t):=by
  show _=_
  rw[hxs,HXS.o];rfl
 have HBB:=lh (HSB.o.trans (hkp.fresh (Nat.le_trans HZ.o HG1.o) HSB.o.size));clear hown hxs hsub hkp;go_wp2;go_ret;exact⟨_,l',rfl,HO2.o,HC2.o,HAT.o,HNF.o,HBB.o⟩
end Go.Proofs.YtnlaakmglhjjmaaGreatDoor
