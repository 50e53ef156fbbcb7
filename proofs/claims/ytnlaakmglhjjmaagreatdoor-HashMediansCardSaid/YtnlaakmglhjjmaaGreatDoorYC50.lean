/- Parts of the proofs of laws. Texts: Km. -/
import Derived.Test.YtnlaakmglhjjmaaGreatDoorYC49
set_option maxHeartbeats 8000000
set_option maxRecDepth 100000
set_option linter.all false
namespace Go.Proofs.YtnlaakmglhjjmaaGreatDoor
open Go.RowKit Cen
def sdc(x:Nat):List Value:=[.string (decB x)]
theorem sdc_len:∀x,(sdc x).length=1:=fun _=>rfl
theorem elemStr:Elem 113 9 1 16 (.string ⟨#[]⟩):=.mk Tryz.underlying113 (by kernel_rfl) rfl (by decide)
abbrev OwnS5(w:World)(base:Nat)(v:Value)(l:List Nat):Prop:=OwnL sdc 9 1 w base v l
def StC(w:World)(a:Option Addr)(l:List Nat):Prop:=∀k(hk:k<l.length),∃b off,a=some ⟨b,off,none⟩/\w.cell? ⟨b,off+k,none⟩=some (.string (decB l[k]))
theorem StC.keep{w w':World}{a:Option Addr}{l:List Nat}(h:StC w a l)(hb:Below w.heap.size w w'):StC w' a l:=fun k hk=>
 let⟨b,off,e,h0⟩:=h k hk;⟨b,off,e,zab hb h0⟩
theorem OwnL.sdx{w:World}{base:Nat}{l:List Nat}{a:Option Addr}{c:Nat}(h:OwnS5 w base (.slice a l.length c) l):StC w a l:=fun k hk=>by
 rcases h.shape with⟨_,h2⟩|⟨g,cap,h1,_⟩
 ·subst h2;simp at hk
 simp only[Value.slice.injEq]at h1;obtain⟨rfl,_,_⟩:=h1;have c0:=OwnL.cell rfl h sdc_len k 0 hk (by omega);simp only[sdc,Nat.mul_one,Nat.add_zero,List.getElem?_cons_zero]at c0;exact⟨g,0,rfl,by rw[Nat.zero_add];exact c0⟩
theorem run_append_sts(w:World)(base:Nat)(ty:TypeId)(v:Value)(ys:List Nat)(hown:OwnS5 w base v ys)(b:Option Addr)(c:Nat)(xs:List Nat)(hx:StC w b xs)
 (h1:ys.length<=65536)(h2:xs.length<=65536)(hbase:base<=w.heap.size):
 ∃v' w',(Builtin.append_ #[113,113] ty #[v,.slice b xs.length c]).run Tryz.prog w=.ok v' w'/\OwnS5 w' base v' (ys++xs)/\w.grownBy w' v.ownBlock/\(∀j,j<w.heap.size->v.ownBlock≠some j->v'.ownBlock≠some j):=by
 obtain⟨ht,i,hi,hz,hsz,hby,hzs,h0⟩:=elemStr
 cases b with
 |none=>
   have hn:xs=[]:=by
    cases xs with
    |nil=>rfl
    |cons x xs=>obtain⟨_,_,e,_⟩:=hx 0 (by simp);simp at e
   subst hn;refine⟨v,w,?_,by simpa using hown,World.grownBy.refl w _,fun _ _ h=>h⟩
   rcases hown.2 with⟨rfl,hn⟩|⟨g,cap,cur,rfl,_,_,hnc,_⟩
   ·simp[Builtin.append_,run_underlying ht,sizeOf,typeInfo,hi,Builtin.lenOf,Builtin.firstCells]
   simp[Builtin.append_,run_underlying ht,sizeOf,typeInfo,hi,Builtin.lenOf,Builtin.firstCells,hnc,storeCells]
 |some ad=>
   have hfl:xs.flatMap sdc=xs.map fun x=>Value.string (decB x):=by
    clear h2 hx
    induction xs with
    |nil=>rfl
    |cons x xs ih=>rw[List.flatMap_cons,ih];rfl
   obtain⟨v',w',hrun,r1,r2,_,r4⟩:=run_append_own_at (P:=Tryz.prog) w base 113 ty 9 i _ 1 16 ht hi hz hsz hby hzs h0 v ys.length (ys.flatMap sdc) hown ad xs.length c (xs.flatMap sdc)
    (zbl sdc_len xs) (fun j u hj=>by
      rw[hfl,List.getElem?_map]at hj;obtain⟨x,hx1,rfl⟩:=Option.map_eq_some_iff.1 hj;obtain⟨hj2,e⟩:=List.getElem?_eq_some_iff.1 hx1;obtain⟨b,off,hae,c0⟩:=hx j hj2;simp only[Option.some.injEq]at hae;subst hae;rw[e]at c0;rw[show(⟨b,off,none⟩:Addr).add j=⟨b,off+j,none⟩by simp[Addr.add]]
      exact c0) (fun u hu=>by
      rw[hfl]at hu;obtain⟨x,_,rfl⟩:=List.mem_map.1 hu
      rfl) (by unfold maxLen;omega) (by omega) hbase
   refine⟨v',w',hrun,by unfold OwnS5 OwnL;rw[List.length_append,List.flatMap_append];exact r1,r2,fun j hj hv=>?_⟩
   rcases r4 with h|h
   ·rw[h];exact hv
   rw[h];simp only[ne_eq,Option.some.injEq];omega
theorem step_append_sts{p E:Prop}[Decidable p](hp:p){o:Oper}{a:Act}{w:World}{K:Act->World->Prop}{Q:Exit->Act->World->Prop}(s x:Operand)
 (ho:o.op=.call {callee:=.builtin .append,args:=#[s,x],argTypes:=#[113,113]})
 (base:Nat)(v:Value)(ys:List Nat)(hs:a.eval s=v)(hown:OwnS5 w base v ys)(b:Option Addr)(c:Nat)(xs:List Nat)(hx:a.eval x=.slice b xs.length c)(hxc:StC w b xs)
 (h1:ys.length<=65536)(h2:xs.length<=65536)(hbase:base<=w.heap.size)
 (h:∀v' w',OwnS5 w' base v' (ys++xs)->w.grownBy w' v.ownBlock->(∀j,j<w.heap.size->v.ownBlock≠some j->v'.ownBlock≠some j)->K (a.put o.dst v') w'):if p then o.wp Tryz.prog a w K Q else E:=by
 rw[if_pos hp];obtain⟨v',w',hrun,r1,r2,r3⟩:=run_append_sts w base o.type v ys hown b c xs hxc h1 h2 hbase;unfold Oper.wp execOp;simp only[ho,resolve,invoke,builtin,Sem.run_bind,Sem.run_pure,Result.andThen_ok,List.map_toArray,List.map_cons,List.map_nil,hs,hx,hrun];exact h v' w' r1 r2 r3
theorem StC.take{w:World}{a:Option Addr}{l:List Nat}(h:StC w a l)(k:Nat):StC w a (l.take k):=fun j hj=>by
 rw[List.length_take]at hj;obtain⟨b,off,e,c⟩:=h j (by omega);exact⟨b,off,e,by rw[List.getElem_take];exact c⟩
theorem StC.drop{w:World}{b off:Nat}{l:List Nat}(h:StC w (some ⟨b,off,none⟩) l)(k:Nat):StC w (some ⟨b,off+k,none⟩) (l.drop k):=fun j hj=>by
 rw[List.length_drop]at hj;obtain⟨b',off',e,c⟩:=h (k+j) (by omega);simp only[Option.some.injEq,Addr.mk.injEq,and_true]at e;obtain⟨rfl,rfl⟩:=e;exact⟨b,off+k,rfl,by rw[List.getElem_drop,Nat.add_assoc];exact c⟩
theorem blk_stc{V:World}{b x:Nat}(h:Blk V b #[.string (decB x)] 9):StC V (some ⟨b,0,none⟩) [x]:=fun k hk=>by
 obtain rfl:k=0:=by simpa using hk
 exact⟨b,0,rfl,h.cell 0⟩
theorem ins_perm(x:Nat)(l:List Nat)(k:Nat):(l.take k++[x]++l.drop k).Perm (x::l):=by
 rw[List.append_assoc,List.singleton_append];refine List.perm_middle.trans ?_;rw[List.take_append_drop]
theorem ins_sorted{x:Nat}{l:List Nat}{k:Nat}(hs:l.Pairwise (·<=·))(h1:∀j(hj:j<l.length),j<k->l[j]<x)(h2:∀hk:k<l.length,x<=l[k]):(l.take k++[x]++l.drop k).Pairwise (·<=·):=by
 have hs2:=hs;rw[<-List.take_append_drop k l,List.pairwise_append]at hs2;obtain⟨a1,a2,a3⟩:=hs2
 have b1:∀y∈l.take k,y<x:=fun y hy=>by
  obtain⟨j,hj,rfl⟩:=List.getElem_of_mem hy;rw[List.length_take]at hj;rw[List.getElem_take];exact h1 j (by omega) (by omega)
 have b2:∀y∈l.drop k,x<=y:=fun y hy=>by
  obtain⟨j,hj,rfl⟩:=List.getElem_of_mem hy;rw[List.length_drop]at hj;rw[List.getElem_drop];have h3:=h2 (by omega)
  by_cases e:j=0
  ·subst e;simpa using h3
  exact Nat.le_trans h3 (List.pairwise_iff_getElem.1 hs k (k+j) (by omega) (by omega) (by omega))
 rw[List.append_assoc,List.pairwise_append];refine⟨a1,?_,fun y hy z hz=>?_⟩
 ·rw[List.singleton_append,List.pairwise_cons];exact⟨b2,a2⟩
 rcases List.mem_append.1 hz with h|h
 ·simp at h;subst h;exact Nat.le_of_lt (b1 y hy)
 exact Nat.le_of_lt (Nat.lt_of_lt_of_le (b1 y hy) (b2 z h))
def Me5Post(n:Nat)(ok:Nat->Bool)(l:List Nat)(w:World)(e:Ending)(w':World):Prop:=(∃k,k<n/\ok k=false/\R45 ⟨#[48]⟩ 1 w e w')\/((∀k,k<n->ok k=true)/\∃l':List Nat,l'.Perm l/\l'.Pairwise (·<=·)/\R45 (decB (gd l' ((n-1)/2))) 0 w e w')
theorem med45_bad(n:Int)(ta:Option Addr)(tc:Nat)(t:List Cl)(sa:Option Addr)(sc sl:Nat)(m:Int)(c:Int)(w:World)(hx:LsCells w ta t)(ht:t.length<=1073741824)(hc:chkT n t=c)(h0:c≠0):
 Calls Tryz.prog 20 #[.agg #[.int .i64 n,.slice ta t.length tc],.slice sa sl sc,.int .i64 m] w (R45 ⟨#[48]⟩ c w):=by
 obtain⟨w0,hw0⟩:=nm (w.alloc (.cells #[.int .i64 n,.slice ta t.length tc] 26))
 have hb0:Below w.heap.size w w0:=by rw[hw0];exact ba _ _
 have q0:Blk w0 w.heap.size #[.int .i64 n,.slice ta t.length tc] 26:=by rw[hw0];exact Blk.new _ _ _
 have HCK:=lh (check5_all n ta tc t w0 ht (hx.keep hb0));rw[hc]at HCK;have HB0:=lh hb0;have k0:=q0.cell 0;have k1:=q0.cell 1;have kz:=q0.lt
 have hcd:(c==0)=false:=by simpa using h0
 clear hb0 q0 hx ht hc h0;go_enter Tryz.func20,Tryz.ntmps20;go_wp2_with fail;rw[<-hw0];clear hw0;refine HCK.o.mono ?_;rintro e w1⟨rfl,hb1⟩;have HB1:=bt HB0 hb1;clear hb1 k0 k1 kz;go_wp2;go_ret2;exact⟨rfl,HB1.o⟩
theorem med45_none(n:Int)(ta:Option Addr)(tc:Nat)(t:List Cl)(sa:Option Addr)(sc:Nat)(m:Int)(w:World)(hx:LsCells w ta t)(ht:t.length<=1073741824)(hc:chkT n t=0):
 Calls Tryz.prog 20 #[.agg #[.int .i64 n,.slice ta t.length tc],.slice sa 0 sc,.int .i64 m] w (R45 ⟨#[48]⟩ 1 w):=by
 obtain⟨w0,hw0⟩:=nm (w.alloc (.cells #[.int .i64 n,.slice ta t.length tc] 26))
 have hb0:Below w.heap.size w w0:=by rw[hw0];exact ba _ _
 have q0:Blk w0 w.heap.size #[.int .i64 n,.slice ta t.length tc] 26:=by rw[hw0];exact Blk.new _ _ _
 have HCK:=lh (check5_all n ta tc t w0 ht (hx.keep hb0));rw[hc]at HCK;have HB0:=lh hb0;have k0:=q0.cell 0;have k1:=q0.cell 1;have kz:=q0.lt;clear hb0 q0 hx ht hc;go_enter Tryz.func20,Tryz.ntmps20;go_wp2_with fail;rw[<-hw0];clear hw0;refine HCK.o.mono ?_;rintro e w1⟨rfl,hb1⟩;have HB1:=bt HB0 hb1;clear hb1 k0 k1 kz;go_wp2;go_ret2;exact⟨rfl,HB1.o⟩
def MdRel(S:Nat)(xs:List Nat)(ok:Nat->Bool)(C:Array Value)(w wr:World)(v i:Value):Prop:=∃(k:Nat)(L:List Nat)(oa:Option Addr)(oc:Nat),k<=S/\i=.int .i64 k/\v=.slice oa k oc/\(∀j,j<k->ok j=true)/\L.length=k/\L.Perm (xs.take k)/\L.Pairwise (·<=·)/\OwnS5 wr (w.heap.size+1) (.slice oa k oc) L/\Blk wr w.heap.size C 26/\Below w.heap.size w wr
theorem nD_16{x:Nat}(h:x<=16777216):nD x<=100000:=by
 unfold nD
 split
 ·decide
 exact Nat.le_trans (ndg_le (n:=8) (by decide) (by omega)) (by decide)
theorem med45_gen(n:Int)(ta:Option Addr)(tc:Nat)(t:List Cl)(sa:Option Addr)(sc:Nat)(S:List (List Nat))(m:Int)(ok:Nat->Bool)(xs:List Nat)(w:World)(hx:LsCells w ta t)(ht:t.length<=1073741824)(hc:chkT n t=0)(hs:SdCells w sa S)
 (h0:1<=S.length)(h12:S.length<=12)(hxl:xs.length=S.length)(hbn:bN xs)(hes:∀V,Below w.heap.size w V->∀k,k<S.length->∀ka kc,U8Cells V ka (S.getD k [])->Calls Tryz.prog 18 #[.agg #[.int .i64 n,.slice ta t.length tc],.slice ka (S.getD k []).length kc,.int .i64 m] V (R45 (decB (gd xs k)) (okE (ok k)) V)):
 Calls Tryz.prog 20 #[.agg #[.int .i64 n,.slice ta t.length tc],.slice sa S.length sc,.int .i64 m] w (Me5Post S.length ok xs w):=by
 obtain⟨w0,hw0⟩:=nm (w.alloc (.cells #[.int .i64 n,.slice ta t.length tc] 26))
 have hb0:Below w.heap.size w w0:=by rw[hw0];exact ba _ _
 have q0:Blk w0 w.heap.size #[.int .i64 n,.slice ta t.length tc] 26:=by rw[hw0];exact Blk.new _ _ _
 have HCK:=lh (check5_all n ta tc t w0 ht (hx.keep hb0));rw[hc]at HCK;have HB0:=lh hb0;have k0:=q0.cell 0;have k1:=q0.cell 1;have kz:=q0.lt;have HES:=lh hes;have HSD:=lh (fun V(hV:Below w.heap.size w V)=>hs.keep hV);have HXL:=lh hxl;have HBN:=lh hbn;obtain⟨N,hN⟩:=nm S.length;rw[<-hN]at h0 h12 HXL HES⊢;have HNL:=lh hN
 have hS1:¬((N:Int)=0):=by omega
 have HQ0:=lh q0;clear hb0 q0 hx ht hc hs hes hxl hbn hN;go_enter Tryz.func20,Tryz.ntmps20;go_wp2_with fail;rw[<-hw0];clear hw0;refine HCK.o.mono ?_;rintro e w1⟨rfl,hb1⟩;have HB1:=bt HB0 hb1;have HT1:=lh (HQ0.o.later hb1);clear hb1 k0 k1 kz HCK;go_wp2_with fail;rw[show((N:Int)==0)=false by simpa using hS1]
 go_loopw[9,10](fun v i wr=>MdRel N xs ok #[.int .i64 n,.slice ta t.length tc] w wr v i)(fun _ i _=>N-(intOf i).toNat)
 case atStart=>exact⟨0,[],none,0,Nat.zero_le _,rfl,rfl,fun j hj=>absurd hj (Nat.not_lt_zero _),rfl,List.Perm.refl _,List.Pairwise.nil,OwnL.nil _ _,HT1.o,HB1.o⟩
 obtain⟨k,L,oa,oc,hk,rfl,rfl,hok,hLl,hpm,hsd,ho,ht,hb⟩:=hrel;have HOK:=lh hok;have HLL:=lh hLl;have HPM:=lh hpm;have HSO:=lh hsd;have HO:=lh ho;have HB:=lh hb;have HT:=lh ht;clear hok hLl hpm hsd ho ht hb
 by_cases hlt:k<N
 ·have hki:(k:Int)<(N:Int):=by omega
  have k0:=HT.o.cell 0;have k1:=HT.o.cell 1;have kz:=HT.o.lt;obtain⟨b,off,ka,kc,hsa,c0,hu⟩:=HSD.o _ HB.o k (by have:=HNL.o;omega);have cz:=zai c0;have HEK:=lh (fun V(hV:Below wr.heap.size wr V)=>HES.o V (HB.o.trans (hV.mono HB.o.size)) k hlt ka kc (hu.keep hV))
  have hkx:k<xs.length:=by rw[HXL.o];exact hlt
  have HTK:Hid (xs.take (k+1)=xs.take k++[gd xs k]):=by show _=_;rw[zar hkx];exact List.take_succ_eq_append_getElem hkx
  have HX16:Hid (gd xs k<=16777216):=HBN.o.gd hkx;have HLT:Hid (k<N):=hlt
  have HK12:Hid (k<=12):=by show _<=_;omega
  generalize gd xs k=x at*;generalize(S.getD k []).length=sl at*;clear hu hkx hk hlt;subst hsa
  go_upto_region 11 with fail
  go_cut[11,12](fun s e wx=>s=.string (decB x)/\e=.int .i64 (okE (ok k))/\Below wr.heap.size wr wx)
  case first=>
   go_upto_region 10 with fail
   have HKS:Hid (∀w':World,Below wr.heap.size wr w'->(fun w'=>w'.cell? ⟨w.heap.size,0,none⟩=some (.int .i64 n)/\w'.cell? ⟨w.heap.size,1,none⟩=some (.slice ta t.length tc)/\w'.cell? ⟨b,off+k,none⟩=some (.slice ka sl kc)) w'):=fun w' hb=>⟨zab hb k0,zab hb k1,zab hb c0⟩
   refine wp_region_held_drew (S:=(fun w'=>w'.cell? ⟨w.heap.size,0,none⟩=some (.int .i64 n)/\w'.cell? ⟨w.heap.size,1,none⟩=some (.slice ta t.length tc)/\w'.cell? ⟨b,off+k,none⟩=some (.slice ka sl kc))) (by kernel_rfl) (by exact HKS.o _ ((Below.refl wr.heap.size wr).drew)) fun hH=>?_
   refine tkV 0 29 rfl rfl ?_;try simp only[tkS]
   refine tkV 1 30 rfl rfl ?_;try simp only[tkS]
   refine tkV 2 31 rfl rfl ?_;try simp only[tkS]
   refine tkV 3 32 rfl rfl ?_;try simp only[tkS]
   refine tkV 4 33 rfl rfl ?_;try simp only[tkS]
   refine tkV 5 34 rfl rfl ?_;try simp only[tkS]
   refine tkR 6 (.cons rfl (fun K hK=>?_) .nil);go_simp;go_at_call 18;refine Calls.mono (HEK.o _ (Below.refl wr.heap.size wr).drew) ?_;rintro e V21⟨rfl,hb21⟩;have hv21:Below wr.heap.size wr V21:=Below.trans (Below.refl wr.heap.size wr).drew (Below.mono hb21 (Below.size (Below.refl wr.heap.size wr).drew));clear hb21;go_wp2_with fail
   refine hK.out _ _ (by exact HKS.o _ hv21) fun hH=>?_
   clear hK K
   try simp only[tkS]
   refine tkV 7 28 rfl rfl ?_;try simp only[tkS]
   refine tkV 8 36 rfl rfl ?_;try simp only[tkS]
   refine tkV 9 37 rfl rfl ?_;try simp only[tkS]
   refine tkV 10 11 rfl rfl ?_;try simp only[tkS]
   refine tkV 11 12 rfl rfl ?_;try simp only[tkS]
   refine wpAnyH_done (by kernel_rfl) ?_ _;go_wp2_with fail
   go_meet
   exact⟨rfl,rfl,hv21⟩
  obtain⟨rfl,rfl,hbx⟩:=hcut
  rename World=>wx
  have HO1:=lh (HO.o.later hbx);have HT1:=lh (HT.o.later hbx);have HBX:=bt HB hbx;clear hbx k0 k1 kz c0 cz HEK HO HT HB
  cases hok:ok k with
  |false=>
    have HOF:=lh hok;clear hok HOK;rw[show okE false=1 from rfl];go_wp2;go_ret2;exact .inl ⟨k,HLT.o,HOF.o,rfl,HBX.o⟩
  |true=>
    have HOK2:Hid (∀j,j<k+1->ok j=true):=fun j hj=>by
     by_cases e:j=k
     ·rw[e];exact hok
     exact HOK.o j (by omega)
    clear hok HOK;rw[show okE true=0 from rfl];go_wp2_with fail
    go_loopw[13](fun i wi=>∃p:Nat,p<=k/\i=.int .i64 p/\Hid (∀j(hj:j<L.length),j<p->L[j]<x)/\wi=wx)(fun i _=>k-(intOf i).toNat)
    case atStart=>exact⟨0,Nat.zero_le _,rfl,fun j _ h=>absurd h (Nat.not_lt_zero _),rfl⟩
    rename World=>wi
    obtain⟨p,hp,rfl,HPL,rfl⟩:=hrel;obtain⟨B,hB⟩:=nm (decide (p<k/\gd L p<x));have HBB:=lh hB;clear hB
    go_upto_region 14 with fail
    go_cut[53](fun v wy=>v=.bool B/\wy=wi)
    case first=>
     by_cases h1:p<k
     ·have h1i:(p:Int)<(k:Int):=by omega
      have hpl:p<L.length:=by rw[HLL.o];exact h1
      have ho2:OwnS5 wi (w.heap.size+1) (.slice oa L.length oc) L:=by rw[HLL.o];exact HO1.o
      obtain⟨b',off',hoa,c0⟩:=OwnL.sdx ho2 _ hpl;subst hoa;rw[<-zar hpl]at c0;have cz:=zai c0;have HC:=lh (fun V=>cmp10_any (gd L p) x (nD_16 (by rw[zar hpl];exact HBN.o _ (List.mem_of_mem_take (HPM.o.mem_iff.1 (List.getElem_mem hpl))))) (nD_16 HX16.o) V);clear ho2 hpl
      by_cases h2:gd L p<x
      ·obtain rfl:B=true:=by rw[HBB.o];simp[h1,h2]
       rw[show cmp3 (gd L p) x=-1 by unfold cmp3;rw[if_neg (by omega),if_pos h2]]at HC;generalize decB (gd L p)=s1 at*;generalize decB x=s2 at*;clear h2 HBB HPL;go_wp2_with fail;refine(HC.o _).mono ?_;rintro e w'⟨rfl,rfl⟩;go_wp2_with fail
       go_meet
       exact⟨rfl,rfl⟩
      obtain rfl:B=false:=by rw[HBB.o];simp[h2]
      obtain⟨c,hc,hc0⟩:∃c,c=cmp3 (gd L p) x/\¬c<0:=⟨_,rfl,by rw[zt4];exact h2⟩
      rw[<-hc]at HC;generalize decB (gd L p)=s1 at*;generalize decB x=s2 at*;have HC0:=lh hc0;clear h2 HBB HPL hc hc0;go_wp2_with fail;refine(HC.o _).mono ?_;rintro e w'⟨rfl,rfl⟩;go_wp2_with fail
      go_meet
      exact⟨by rw[decide_eq_false (by have:=HC0.o;omega)],rfl⟩
     have h1i:¬(p:Int)<(k:Int):=by omega
     obtain rfl:B=false:=by rw[HBB.o];simp[h1]
     clear HBB HPL h1;go_wp2_with fail
     go_meet
     exact⟨rfl,rfl⟩
    obtain⟨rfl,rfl⟩:=hcut
    cases hbb:B with
    |true=>
      rw[HBB.o,decide_eq_true_eq]at hbb
      have HPL2:Hid (∀j(hj:j<L.length),j<p+1->L[j]<x):=fun j hj hjp=>by
       by_cases e:j=p
       ·subst e;have:=hbb.2;rwa[zar hj]at this
       exact HPL.o j hj (by omega)
      have hpk:=hbb.1;have hk12:=HK12.o;clear hbb HBB HPL;go_wp2_with fail;go_roundw
      case rel=>exact⟨p+1,by omega,by go_num,HPL2,by first|rfl|trivial⟩
      case measure=>simp[intOf];omega
    |false=>
      rw[HBB.o,decide_eq_false_iff_not]at hbb
      have HGE:Hid (∀hp:p<L.length,x<=L[p]):=fun hp=>by
       rw[<-zar hp];have:=HLL.o
       exact Nat.le_of_not_lt fun h=>hbb ⟨by omega,h⟩
      clear hbb HBB
      go_upto_region 16 with fail
      obtain⟨l1,hl1⟩:=nm (L.take p);obtain⟨l2,hl2⟩:=nm (L.drop p);have hlk:=HLL.o;have h12k:=HK12.o
      have HN1:Hid (l1.length=p):=by show _=_;rw[hl1,List.length_take];omega
      have HN2:Hid (l2.length=k-p):=by show _=_;rw[hl2,List.length_drop,hlk]
      have ho2:OwnS5 wc (w.heap.size+1) (.slice oa L.length oc) L:=by rw[hlk];exact HO1.o
      have hst:=OwnL.sdx ho2
      have HNP:Hid ((l1++[x]++l2).Perm (xs.take (k+1))):=by
       show List.Perm _ _
       rw[HTK.o,hl1,hl2];exact(ins_perm x L p).trans ((HPM.o.cons x).trans (List.perm_append_singleton x _).symm)
      have HNS:Hid ((l1++[x]++l2).Pairwise (·<=·)):=by rw[hl1,hl2];exact ins_sorted HSO.o HPL.o HGE.o
      have HNK:Hid ((l1++[x]++l2).length=k+1):=by show _=_;rw[List.length_append,List.length_append,HN1.o,HN2.o,List.length_singleton];omega
      rcases ho2.2 with⟨he,hn0⟩|⟨g,cap,cur,he,_,_,hnc,_⟩
      case' inl=>
       simp only[Value.slice.injEq]at he;obtain⟨rfl,_,rfl⟩:=he
       obtain rfl:k=0:=by omega
       obtain rfl:p=0:=by omega
       have HX1:Hid (∀V,Below wc.heap.size wc V->StC V none l1):=fun V hV j hj=>absurd hj (by rw[HN1.o];omega)
       have HX2:Hid (∀V,Below wc.heap.size wc V->StC V none l2):=fun V hV j hj=>absurd hj (by rw[HN2.o];omega)
       have hkci:((0:Nat):Int)<=((0:Nat):Int):=by omega
       have hpki:=hkci;have hpci:=hkci;clear hn0
      case' inr=>
       simp only[Value.slice.injEq,true_and]at he;obtain⟨rfl,rfl⟩:=he
       have HX1:Hid (∀V,Below wc.heap.size wc V->StC V (some ⟨g,0,none⟩) l1):=fun V hV=>hl1▸(hst.keep hV).take p
       have HX2:Hid (∀V,Below wc.heap.size wc V->StC V (if oc=p then some ⟨g,0,none⟩else some ⟨g,p,none⟩) l2):=fun V hV=>by
        split
        ·intro j hj;have:=HN2.o;omega
        have h:=(hst.keep hV).drop p;rw[Nat.zero_add]at h;rw[hl2];exact h
       have hkci:(k:Int)<=(oc:Int):=by omega
       have hpki:(p:Int)<=(k:Int):=by omega
       have hpci:(p:Int)<=(oc:Int):=by omega
       clear hnc
      all_goals
       clear hst ho2 hlk hl1 hl2;have t0:=HT1.o.cell 0
       have HKS:Hid (∀w':World,Below wc.heap.size wc w'->(fun w'=>w'.cell? ⟨w.heap.size,0,none⟩=some (.int .i64 n)) w'):=fun w' hb=>zab hb t0
       refine wp_region_held_drew (S:=(fun w'=>w'.cell? ⟨w.heap.size,0,none⟩=some (.int .i64 n))) (by kernel_rfl) (by exact HKS.o _ ((Below.refl wc.heap.size wc).drew)) fun hH=>?_
       refine tkV 1 57 rfl rfl ?_;try simp only[tkS]
       refine tkV 2 58 rfl rfl ?_;try simp only[tkS]
       refine tkV 3 59 rfl rfl ?_;try simp only[tkS]
       refine tkV 5 61 rfl rfl ?_;try simp only[tkS]
       refine tkV 8 64 rfl rfl ?_;try simp only[tkS]
       refine tkV 9 65 rfl rfl ?_;try simp only[tkS]
       refine tkV 10 66 rfl rfl ?_;try simp only[tkS]
       refine wpAnyH_ready (rs:=[0,6]) (by kernel_rfl) (by simp) ?_;refine AllReadyH.cons rfl (fun K hK=>?_) (AllReadyH.cons rfl (fun K hK=>?_) AllReadyH.nil)
       focus
        go_simp;obtain⟨jb,hj⟩:=nm wc.heap.size;have hv21:Below wc.heap.size wc ((wc.alloc (.cells #[] 9)).drew):=(Below.alloc (Below.refl wc.heap.size wc) (Nat.le_refl _) _).drew
        have o21:OwnS5 ((wc.alloc (.cells #[] 9)).drew) wc.heap.size (.slice (some ⟨jb,0,none⟩) 0 0) []:=by rw[hj];exact World.ownsRow_lit wc #[] 0 (Nat.le_refl _) (by unfold maxLen;omega) rfl
        refine hK.out _ _ (by exact HKS.o _ hv21) fun hH=>?_
        clear hK K
        try simp only[tkS]
        rw[<-hj];generalize(wc.alloc (.cells #[] 9)).drew=V21 at*;clear hj;refine wpAnyH_ready (rs:=[4,6]) (by kernel_rfl) (by simp) ?_;refine AllReadyH.cons rfl (fun K hK=>?_) (AllReadyH.cons rfl (fun K hK=>?_) AllReadyH.nil)
        focus
         refine step_append_sts (by kernel_rfl) _ _ rfl wc.heap.size _ [] rfl o21 _ _ l1 (by rw[HN1.o];rfl) (HX1.o _ hv21) (by simp) (by rw[HN1.o];omega) (Below.size hv21) ?_;intro v22 V22 o22 hgr22 hjn22;rw[List.nil_append]at o22;have hv22:Below wc.heap.size wc V22:=hv21.grown hgr22 (Below.size hv21) (fun q hq=>(World.ownsRow.lt o21 q hq).1);clear hgr22 hjn22
         refine hK.out _ _ (by exact HKS.o _ hv22) fun hH=>?_
         clear hK K
         try simp only[tkS]
         refine tkR 6 (.cons rfl (fun K hK=>?_) .nil);go_simp;obtain⟨jx,hj⟩:=nm V22.heap.size;have hv23:Below wc.heap.size wc (V22.alloc (.cells #[.string (decB x)] 9)):=Below.alloc hv22 (Below.size hv22) _;have q23:Blk (V22.alloc (.cells #[.string (decB x)] 9)) jx #[.string (decB x)] 9:=Blk.new' _ hj.symm _ _
         have jn23:Value.ownBlock v22≠some jx:=fun e=>by have h1:=(World.ownsRow.lt o22 _ e).2;omega
         have o23:=OwnL.alloc o22 (.cells #[.string (decB x)] 9)
         refine hK.out _ _ (by exact HKS.o _ hv23) fun hH=>?_
         clear hK K
         try simp only[tkS]
         rw[<-hj];generalize V22.alloc (.cells #[.string (decB x)] 9)=V23 at*;clear hj;refine tkR 7 (.cons rfl (fun K hK=>?_) .nil);refine step_append_sts (by kernel_rfl) _ _ rfl wc.heap.size _ l1 rfl o23 _ _ [x] rfl (blk_stc q23) (by rw[HN1.o];omega) (by simp) (Below.size hv23) ?_;intro v24 V24 o24 hgr24 hjn24;have hv24:Below wc.heap.size wc V24:=hv23.grown hgr24 (Below.size hv23) (fun q hq=>(World.ownsRow.lt o23 q hq).1);clear hgr24 hjn24
         refine hK.out _ _ (by exact HKS.o _ hv24) fun hH=>?_
         clear hK K
         try simp only[tkS]
         refine tkR 11 (.cons rfl (fun K hK=>?_) .nil);refine step_append_sts (by kernel_rfl) _ _ rfl wc.heap.size _ (l1++[x]) rfl o24 _ _ l2 (by rw[HN2.o];rfl) (HX2.o _ hv24) (by have:=HN1.o;rw[List.length_append,List.length_singleton];omega) (by rw[HN2.o];omega) (Below.size hv24) ?_;intro v25 V25 o25 hgr25 hjn25;have hv25:Below wc.heap.size wc V25:=hv24.grown hgr25 (Below.size hv24) (fun q hq=>(World.ownsRow.lt o24 q hq).1);clear hgr25 hjn25
         refine hK.out _ _ (by exact HKS.o _ hv25) fun hH=>?_
         clear hK K
         try simp only[tkS]
         refine tkV 12 9 rfl rfl ?_;try simp only[tkS]
         refine wpAnyH_done (by kernel_rfl) ?_ _
        rotate_left
        focus
         go_simp;obtain⟨jx,hj⟩:=nm V21.heap.size;have hv22:Below wc.heap.size wc (V21.alloc (.cells #[.string (decB x)] 9)):=Below.alloc hv21 (Below.size hv21) _;have q22:Blk (V21.alloc (.cells #[.string (decB x)] 9)) jx #[.string (decB x)] 9:=Blk.new' _ hj.symm _ _
         have jn22:Value.ownBlock (Value.slice (some ⟨jb,0,none⟩) 0 0)≠some jx:=fun e=>by have h1:=(World.ownsRow.lt o21 _ e).2;omega
         have o22:=OwnL.alloc o21 (.cells #[.string (decB x)] 9)
         refine hK.out _ _ (by exact HKS.o _ hv22) fun hH=>?_
         clear hK K
         try simp only[tkS]
         rw[<-hj];generalize V21.alloc (.cells #[.string (decB x)] 9)=V22 at*;clear hj;refine tkR 4 (.cons rfl (fun K hK=>?_) .nil);refine step_append_sts (by kernel_rfl) _ _ rfl wc.heap.size _ [] rfl o22 _ _ l1 (by rw[HN1.o];rfl) (HX1.o _ hv22) (by simp) (by rw[HN1.o];omega) (Below.size hv22) ?_;intro v23 V23 o23 hgr23 hjn23;rw[List.nil_append]at o23;have hv23:Below wc.heap.size wc V23:=hv22.grown hgr23 (Below.size hv22) (fun q hq=>(World.ownsRow.lt o22 q hq).1);have q23:=Blk.kept q22 (Kp.grown (M:=fun y=>Value.ownBlock (Value.slice (some ⟨jb,0,none⟩) 0 0)=some y) hgr23 (fun k e=>e)) jn22
         have jn23:=hjn23 _ q22.lt jn22;clear hgr23 hjn23
         refine hK.out _ _ (by exact HKS.o _ hv23) fun hH=>?_
         clear hK K
         try simp only[tkS]
         refine tkR 7 (.cons rfl (fun K hK=>?_) .nil);refine step_append_sts (by kernel_rfl) _ _ rfl wc.heap.size _ l1 rfl o23 _ _ [x] rfl (blk_stc q23) (by rw[HN1.o];omega) (by simp) (Below.size hv23) ?_;intro v24 V24 o24 hgr24 hjn24;have hv24:Below wc.heap.size wc V24:=hv23.grown hgr24 (Below.size hv23) (fun q hq=>(World.ownsRow.lt o23 q hq).1);clear hgr24 hjn24
         refine hK.out _ _ (by exact HKS.o _ hv24) fun hH=>?_
         clear hK K
         try simp only[tkS]
         refine tkR 11 (.cons rfl (fun K hK=>?_) .nil);refine step_append_sts (by kernel_rfl) _ _ rfl wc.heap.size _ (l1++[x]) rfl o24 _ _ l2 (by rw[HN2.o];rfl) (HX2.o _ hv24) (by have:=HN1.o;rw[List.length_append,List.length_singleton];omega) (by rw[HN2.o];omega) (Below.size hv24) ?_;intro v25 V25 o25 hgr25 hjn25;have hv25:Below wc.heap.size wc V25:=hv24.grown hgr25 (Below.size hv24) (fun q hq=>(World.ownsRow.lt o24 q hq).1);clear hgr25 hjn25
         refine hK.out _ _ (by exact HKS.o _ hv25) fun hH=>?_
         clear hK K
         try simp only[tkS]
         refine tkV 12 9 rfl rfl ?_;try simp only[tkS]
         refine wpAnyH_done (by kernel_rfl) ?_ _
        rotate_left
       rotate_left 2
       focus
        go_simp;obtain⟨jx,hj⟩:=nm wc.heap.size;have hv21:Below wc.heap.size wc ((wc.alloc (.cells #[.string (decB x)] 9)).drew):=(Below.alloc (Below.refl wc.heap.size wc) (Nat.le_refl _) _).drew;have q21:Blk ((wc.alloc (.cells #[.string (decB x)] 9)).drew) jx #[.string (decB x)] 9:=Blk.new' _ hj.symm _ _
        refine hK.out _ _ (by exact HKS.o _ hv21) fun hH=>?_
        clear hK K
        try simp only[tkS]
        rw[<-hj];generalize(wc.alloc (.cells #[.string (decB x)] 9)).drew=V21 at*;clear hj;refine tkR 0 (.cons rfl (fun K hK=>?_) .nil);go_simp;obtain⟨jb,hj⟩:=nm V21.heap.size;have hv22:Below wc.heap.size wc (V21.alloc (.cells #[] 9)):=Below.alloc hv21 (Below.size hv21) _
        have o22:OwnS5 (V21.alloc (.cells #[] 9)) wc.heap.size (.slice (some ⟨jb,0,none⟩) 0 0) []:=by rw[hj];exact World.ownsRow_lit V21 #[] 0 (Below.size hv21) (by unfold maxLen;omega) rfl
        have jn22:Value.ownBlock (Value.slice (some ⟨jb,0,none⟩) 0 0)≠some jx:=fun e=>by have h1:=q21.lt;simp only[Value.ownBlock,Option.some.injEq]at e;rw[<-e,hj]at h1;exact absurd h1 (Nat.lt_irrefl _)
        have q22:=q21.alloc (.cells #[] 9)
        refine hK.out _ _ (by exact HKS.o _ hv22) fun hH=>?_
        clear hK K
        try simp only[tkS]
        rw[<-hj];generalize V21.alloc (.cells #[] 9)=V22 at*;clear hj;refine tkR 4 (.cons rfl (fun K hK=>?_) .nil);refine step_append_sts (by kernel_rfl) _ _ rfl wc.heap.size _ [] rfl o22 _ _ l1 (by rw[HN1.o];rfl) (HX1.o _ hv22) (by simp) (by rw[HN1.o];omega) (Below.size hv22) ?_;intro v23 V23 o23 hgr23 hjn23;rw[List.nil_append]at o23;have hv23:Below wc.heap.size wc V23:=hv22.grown hgr23 (Below.size hv22) (fun q hq=>(World.ownsRow.lt o22 q hq).1);have q23:=Blk.kept q22 (Kp.grown (M:=fun y=>Value.ownBlock (Value.slice (some ⟨jb,0,none⟩) 0 0)=some y) hgr23 (fun k e=>e)) jn22
        have jn23:=hjn23 _ q22.lt jn22;clear hgr23 hjn23
        refine hK.out _ _ (by exact HKS.o _ hv23) fun hH=>?_
        clear hK K
        try simp only[tkS]
        refine tkR 7 (.cons rfl (fun K hK=>?_) .nil);refine step_append_sts (by kernel_rfl) _ _ rfl wc.heap.size _ l1 rfl o23 _ _ [x] rfl (blk_stc q23) (by rw[HN1.o];omega) (by simp) (Below.size hv23) ?_;intro v24 V24 o24 hgr24 hjn24;have hv24:Below wc.heap.size wc V24:=hv23.grown hgr24 (Below.size hv23) (fun q hq=>(World.ownsRow.lt o23 q hq).1);clear hgr24 hjn24
        refine hK.out _ _ (by exact HKS.o _ hv24) fun hH=>?_
        clear hK K
        try simp only[tkS]
        refine tkR 11 (.cons rfl (fun K hK=>?_) .nil);refine step_append_sts (by kernel_rfl) _ _ rfl wc.heap.size _ (l1++[x]) rfl o24 _ _ l2 (by rw[HN2.o];rfl) (HX2.o _ hv24) (by have:=HN1.o;rw[List.length_append,List.length_singleton];omega) (by rw[HN2.o];omega) (Below.size hv24) ?_;intro v25 V25 o25 hgr25 hjn25;have hv25:Below wc.heap.size wc V25:=hv24.grown hgr25 (Below.size hv24) (fun q hq=>(World.ownsRow.lt o24 q hq).1);clear hgr25 hjn25
        refine hK.out _ _ (by exact HKS.o _ hv25) fun hH=>?_
        clear hK K
        try simp only[tkS]
        refine tkV 12 9 rfl rfl ?_;try simp only[tkS]
        refine wpAnyH_done (by kernel_rfl) ?_ _
       rotate_left
       all_goals
        have OF:=lh o25;have BF:=lh hv25;clear o25 hv25 t0 HKS HX1 HX2 HN1 HN2;generalize l1++[x]++l2=M at*;have of:=OF.o;obtain⟨av,cv,hvv⟩:=OwnL.sliced of;subst hvv;rw[HNK.o]at of⊢;have HO5:=lh (OwnL.lower (B:=w.heap.size+1) of (by have:=HT1.o.lt;omega));have HT5:=lh (HT1.o.later BF.o);have HB5:=lh (HBX.o.trans (BF.o.mono HBX.o.size));clear of OF BF;go_wp2_with fail;go_roundw
        case rel=>exact⟨_,M,av,cv,HLT.o,by go_num,rfl,HOK2.o,HNK.o,HNP.o,HNS.o,HO5.o,HT5.o,HB5.o⟩
        case measure=>have:=HLT.o;simp[intOf];omega
 obtain rfl:k=N:=by omega
 have hkn:¬((k:Int)<(k:Int)):=by omega
 have hmid:(k-1)/2<L.length:=by rw[HLL.o];omega
 have hxt:xs.take k=xs:=by rw[<-HXL.o];exact List.take_length
 rw[hxt]at HPM
 have ho2:OwnS5 wr (w.heap.size+1) (.slice oa L.length oc) L:=by rw[HLL.o];exact HO.o
 obtain⟨b,off,hoa,c0⟩:=OwnL.sdx ho2 _ hmid;subst hoa;have hg:L[(k-1)/2]=gd L ((k-1)/2):=(zar hmid).symm;rw[hg]at c0;have cz:=zai c0
 have hm1:(k:Int)-1=((k-1:Nat):Int):=by omega
 have hm2:((k-1:Nat):Int)/2=(((k-1)/2:Nat):Int):=by omega
 have hm3:(((k-1)/2:Nat):Int)<(k:Int):=by omega
 have HRES:Hid (∀e w',R45 (decB (gd L ((k-1)/2))) 0 w e w'->Me5Post k ok xs w e w'):=fun e w' h=>.inr ⟨HOK.o,L,HPM.o,HSO.o,h⟩
 generalize decB (gd L ((k-1)/2))=z at*;generalize(k-1)/2=mid at*;generalize k-1=km at*;clear hxt ho2 hg hmid;go_wp2;go_ret2;exact HRES.o _ _ ⟨rfl,HB.o⟩
end Go.Proofs.YtnlaakmglhjjmaaGreatDoor
