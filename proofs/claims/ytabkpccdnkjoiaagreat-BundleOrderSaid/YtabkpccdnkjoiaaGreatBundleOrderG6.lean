/- Words for the law BundleOrder: SortLay, SUnion, SUnion2, CBy, Has, Has2. -/
import Derived.Test.YtabkpccdnkjoiaaGreatBundleOrderG0
import Derived.Test.YtabkpccdnkjoiaaGreatBundleOrderG2
import Derived.Test.YtabkpccdnkjoiaaGreatBundleOrderG5
import Derived.Shelf.SlSortCmp.WholeK
import Derived.Ground.SlsfProg
import Derived.Test.YtabkpccdnkjoiaaGreatProg
import Derived.Shelf.SlSortCmp.NoneTotal
import Derived.Lib.AppendZerosOnto
set_option linter.unusedSimpArgs false
set_option linter.unusedVariables false
set_option maxHeartbeats 32000000
set_option maxRecDepth 1000000
namespace Go.Proofs
open Go.Shelf
def Tryz.sortRun_ren:Go.Shelf.Ren:=⟨fun|6=>232|15=>166|14=>265|28=>216|29=>217|20=>285|21=>286|22=>287|23=>288|24=>289|25=>290|26=>291|27=>292|46=>299|47=>257|48=>258|49=>300|50=>301|57=>304|n=>n,fun|22=>266|24=>288|25=>300|3=>3|39=>199|0=>0|53=>151|55=>196|4=>4|46=>274|45=>273|50=>189|5=>5|9=>9|66=>322|70=>326|76=>343|77=>344|n=>n,fun|n=>n⟩
theorem Tryz.sortRun:Go.Proofs.SlLaysF0.n6 Tryz.prog Tryz.sortRun_ren:= {
 mixed:=by kernel_rfl
 f6:=⟨Tryz.f232.name,by decide,Tryz.func232.trans (congrArg some (by kernel_rfl))⟩
 f14:=⟨Tryz.f265.name,by decide,Tryz.func265.trans (congrArg some (by kernel_rfl))⟩
 f15:=Tryz.func166.trans (congrArg some (by kernel_rfl))
 f20:=⟨Tryz.f285.name,by decide,Tryz.func285.trans (congrArg some (by kernel_rfl))⟩
 f21:=⟨Tryz.f286.name,by decide,Tryz.func286.trans (congrArg some (by kernel_rfl))⟩
 f22:=⟨Tryz.f287.name,by decide,Tryz.func287.trans (congrArg some (by kernel_rfl))⟩
 f23:=⟨Tryz.f288.name,by decide,Tryz.func288.trans (congrArg some (by kernel_rfl))⟩
 f24:=⟨Tryz.f289.name,by decide,Tryz.func289.trans (congrArg some (by kernel_rfl))⟩
 f25:=⟨Tryz.f290.name,by decide,Tryz.func290.trans (congrArg some (by kernel_rfl))⟩
 f26:=⟨Tryz.f291.name,by decide,Tryz.func291.trans (congrArg some (by kernel_rfl))⟩
 f27:=⟨Tryz.f292.name,by decide,Tryz.func292.trans (congrArg some (by kernel_rfl))⟩
 f28:=Tryz.func216.trans (congrArg some (by kernel_rfl))
 f29:=Tryz.func217.trans (congrArg some (by kernel_rfl))
 f46:=⟨Tryz.f299.name,by decide,Tryz.func299.trans (congrArg some (by kernel_rfl))⟩
 f47:=Tryz.func257.trans (congrArg some (by kernel_rfl))
 f48:=Tryz.func258.trans (congrArg some (by kernel_rfl))
 f49:=⟨Tryz.f300.name,by decide,Tryz.func300.trans (congrArg some (by kernel_rfl))⟩
 f50:=⟨Tryz.f301.name,by decide,Tryz.func301.trans (congrArg some (by kernel_rfl))⟩
 f57:=⟨Tryz.f304.name,by decide,Tryz.func304.trans (congrArg some (by kernel_rfl))⟩
 t0:=Tryz.underlying0
 a0:=Tryz.isAgg0
 z0:=Tryz.sizeOf0
 v0:=Tryz.zeroValue0
 t3:=Tryz.underlying3
 a3:=Tryz.isAgg3
 z3:=Tryz.sizeOf3
 v3:=Tryz.zeroValue3
 t4:=Tryz.underlying4
 a4:=Tryz.isAgg4
 z4:=Tryz.sizeOf4
 v4:=Tryz.zeroValue4
 t5:=Tryz.underlying5
 a5:=Tryz.isAgg5
 z5:=Tryz.sizeOf5
 v5:=Tryz.zeroValue5
 t9:=Tryz.underlying9
 a9:=Tryz.isAgg9
 z9:=Tryz.sizeOf9
 v9:=Tryz.zeroValue9
 t22:=Tryz.underlying266
 a22:=Tryz.isAgg266
 z22:=Tryz.sizeOf266
 v22:=Tryz.zeroValue266
 t25:=Tryz.underlying300
 a25:=Tryz.isAgg300
 z25:=Tryz.sizeOf300
 v25:=Tryz.zeroValue300
 t39:=Tryz.underlying199
 a39:=Tryz.isAgg199
 z39:=Tryz.sizeOf199
 v39:=Tryz.zeroValue199
 t45:=Tryz.underlying273
 a45:=Tryz.isAgg273
 z45:=Tryz.sizeOf273
 v45:=Tryz.zeroValue273
 t46:=Tryz.underlying274
 a46:=Tryz.isAgg274
 z46:=Tryz.sizeOf274
 v46:=Tryz.zeroValue274
 t50:=Tryz.underlying189
 a50:=Tryz.isAgg189
 z50:=Tryz.sizeOf189
 v50:=Tryz.zeroValue189
 t53:=Tryz.underlying151
 a53:=Tryz.isAgg151
 z53:=Tryz.sizeOf151
 v53:=Tryz.zeroValue151
 t55:=Tryz.underlying196
 a55:=Tryz.isAgg196
 z55:=Tryz.sizeOf196
 v55:=Tryz.zeroValue196
 t66:=Tryz.underlying322
 a66:=Tryz.isAgg322
 z66:=Tryz.sizeOf322
 v66:=Tryz.zeroValue322
 t70:=Tryz.underlying326
 a70:=Tryz.isAgg326
 z70:=Tryz.sizeOf326
 v70:=Tryz.zeroValue326
 t76:=Tryz.underlying343
 a76:=Tryz.isAgg343
 z76:=Tryz.sizeOf343
 v76:=Tryz.zeroValue343
 t77:=Tryz.underlying344
 a77:=Tryz.isAgg344
 z77:=Tryz.sizeOf344
 v77:=Tryz.zeroValue344}
end Go.Proofs
namespace Go.Proofs.YtabkpccdnkjoiaaGreat
open Go.RowKit Go.Sort
theorem LP (x y:Int×Int) (W:World):Calls Tryz.prog 233 #[.agg #[.int .i64 x.1, .int .i64 x.2], .agg #[.int .i64 y.1, .int .i64 y.2]] W fun e w'=>e= .returned (.int .i64 (nH x y))∧∃q os',w'=grow (W.drewN q) os':=by
 unfold nH
 go_enter Tryz.func233,Tryz.ntmps233
 go_wp2_with(go_at_call 234;refine(uG _ _ _).mono ?_;rintro e w' ⟨rfl,rfl⟩)
 go_ret
 exact⟨rfl,0,_,by rw[alloc_eq_grow,alloc_eq_grow,grow_grow];rfl⟩
theorem LQ (x y:Int×Int) (W:World):Calls Tryz.prog 268 #[.agg #[.int .i64 x.1, .int .i64 x.2], .agg #[.int .i64 y.1, .int .i64 y.2]] W fun e w'=>e= .returned (.int .i64 (nH x y))∧∃q os',w'=grow (W.drewN q) os':=by
 unfold nH
 go_enter Tryz.func268,Tryz.ntmps268
 go_wp2_with(go_at_call 234;refine(uG _ _ _).mono ?_;rintro e w' ⟨rfl,rfl⟩)
 go_ret
 exact⟨rfl,0,_,by rw[alloc_eq_grow,alloc_eq_grow,grow_grow];rfl⟩
theorem FI (g:Nat) (eg:∀args w,(callFunc g args).run Tryz.prog w= .ok (.enter g args) w)
 (hg:∀x y W,Calls Tryz.prog g #[.agg #[.int .i64 x.1, .int .i64 x.2], .agg #[.int .i64 y.1, .int .i64 y.2]] W fun e w'=>e= .returned (.int .i64 (nH x y))∧∃q os',w'=grow (W.drewN q) os')
 (w0 w:World) (v:Value) (n:Nat) (l:aQ) (h:OwnAt w0 w 288 2 v n (bP l)) (hl:l.length=n) (hn:n≤1000000):
 Calls Tryz.prog 232 #[v, .func (.func g) #[] #[]] w fun e w'=>e= .returned (.tuple #[])∧∃l':aQ,l'.Perm l∧l'.Pairwise (fun a b=>a.1≤b.1)∧OwnAt w0 w' 288 2 v n (bP l'):=by
 rcases Nat.eq_zero_or_pos n with rfl|h0
 ·obtain⟨a,c,rfl⟩:=h.shape
  obtain rfl:l=[]:=List.eq_nil_of_length_eq_zero hl
  exact(AnyF.slices_SortFunc_none Tryz.sortRun a c _ w).mono fun _ _ ⟨he,hw⟩=>⟨he,[],List.Perm.refl _,List.Pairwise.nil,by rw[hw];exact h⟩
 ·obtain⟨g',c',rfl,_,hlt,_⟩:=h.row h0
  have hc:=AnyQ.slices_SortFunc Tryz.sortRun 2 Tryz.isAgg288 Tryz.sizeOf288 encR (fun _=>rfl) (fun x v hv=>by simp[encR]at hv;rcases hv with rfl|rfl<;>rfl) nH LK g #[] g' 0 c' l.toArray w eg (fun _ _ _ _ x y=>hg x y _) (h.LD h0 hl) hlt (by simp;omega)
  have hs:l.toArray.size=n:=by simpa using hl
  rw[hs]at hc
  refine Calls.mono hc fun e w' ⟨he,d',m,os,hp,hq,hw⟩=>⟨he,d'.toList,?_,?_,?_⟩
  ·have:=LJ (d:=l.toArray) (d':=d') (by rw[hs];exact hp)
   simpa using this
  ·have e1:d'.size=n:=by rw[hp.1,hs]
   exact LM (by rw[e1];exact hq)
  ·rw[hw]
   exact h.sorted d' (by rw[hp.1,hs]) h0 m os
theorem yt {l l':aQ} (hp:l'.Perm l) (hs:l'.Pairwise (fun a b=>a.1≤b.1)) (hb:∀r∈l,1≤r.1∧r.1≤r.2∧r.2≤1099511627776):bG (kM l')∧(∀n,aV (kM l') n↔aV l n)∧∀r∈l',Bd r:=by
 have hb':∀r∈l',1≤r.1∧r.1≤r.2∧r.2≤1099511627776:=fun r hr=>hb r (hp.mem_iff.1 hr)
 have FK:kY 1 l':=kY.FH hs fun r hr=>⟨(hb' r hr).1,(hb' r hr).2.1⟩
 have hm:∀n,aV (kM l') n↔aV l n:=fun n=>by
  rw[JH FK]
  exact⟨fun⟨r,hr,h⟩=>⟨r,hp.mem_iff.1 hr,h⟩,fun⟨r,hr,h⟩=>⟨r,hp.mem_iff.2 hr,h⟩⟩
 refine⟨bG.of (JI FK) fun n hn=>?_,hm,fun r hr=>by have:=hb' r hr;unfold Bd;omega⟩
 obtain⟨r,hr,h⟩:=(hm n).1 hn
 have:=hb r hr
 omega
theorem AO:∀(l:aQ) (c:Int×Int),(jn c l).length≤l.length+1
 |[],c=>by simp[jn]
 |r::l,c=>by
  unfold jn
  split
  ·have:=AO l (c.1,max c.2 r.2);simp only[List.length_cons];omega
  ·have:=AO l r;simp only[List.length_cons];omega
theorem FM (l:aQ):(kM l).length≤l.length:=by
 cases l with
 |nil=>exact Nat.le_refl _
 |cons r l=>exact AO l r
theorem LU (n:Nat) (w:World) (hn:n≤1000000):Calls Tryz.prog 264 #[.slice none 0 0, .int .i64 n] w fun e w'=>∃v,e= .returned v∧OwnAt w w' 288 2 v 0 []:=by
 rcases Nat.eq_zero_or_pos n with rfl|h0
 ·go_enter Tryz.func264,Tryz.ntmps264
  go_wp2
  go_ret
  exact⟨_,rfl,OwnAt.nil (aj.refl _ _) _ _⟩
 ·obtain⟨i0,hi,hz0,hz1,hz2⟩:=info_parts rZ
  have hrz:∀ty,(Builtin.append_ #[266,3] ty #[.slice none 0 0, .int .i64 (n:Int)]).run Tryz.prog w=
   .ok (.slice (some ⟨w.heap.size,0,none⟩) n (grownCap w n 0 288)) (w.drew.alloc (.cells (Builtin.zeroCells #[.int .i64 0, .int .i64 0] n++Builtin.zeroCells #[.int .i64 0, .int .i64 0] (grownCap w n 0 288-n)) 288)):=fun ty=>by
   have h:=Lib.run_append_grow_zeros w 266 3 ty 288 i0 _ .i64 .i64 Tryz.underlying266 Tryz.underlying3 hi hz0 none 0 0 [] (by simp[Builtin.firstCells]) n h0 (by omega) (by omega) (by omega) (by rw[hz2];omega) (by rw[hz2];exact growslice_fits (by omega) (by omega))
   simp only[Nat.zero_add,Array.empty_append,List.nil_append]at h
   simpa[Value.cells]using h
  have hG:=grownCap_ge w n 0 288
  have hM:=grownCap_le_maxLen w n 0 288 (by unfold maxLen;omega)
  generalize grownCap w n 0 288=G at*
  have HG:=ah hG;clear hG
  have hM:(G:Int)≤9223372036854775807:=by unfold maxLen at hM;omega
  go_enter Tryz.func264,Tryz.ntmps264
  go_wp2_with(at_builtin;refine Lib.wpList_append_run _ rfl _ _ _ _ rfl _ _ rfl rfl _ _ (hrz _) ?_)
  go_ret
  refine⟨_,rfl,⟨⟨rfl, .inr ⟨w.heap.size,G,_,rfl,Nat.zero_le _,heap_alloc_new _ _,Nat.zero_le _,by unfold maxLen;omega,?_,rfl⟩⟩,?_,(aj.drew _ _).alloc1⟩⟩
  ·rw[Array.size_append,size_zeroCells,size_zeroCells]
   have:=HG.out
   show n*2+(G-n)*2=G*2
   omega
  ·intro k hk
   simp[Value.ownBlock]at hk
   omega
end Go.Proofs.YtabkpccdnkjoiaaGreat
namespace Go.Proofs.YtabkpccdnkjoiaaGreat
open Go.RowKit Go.Sort
theorem LV (w:World) (b c:Nat) (va vb:Value) (a a':aQ) (h0:w.cell? ⟨b,0,none⟩=some va) (h1:w.cell? ⟨b,1,none⟩=some vb) (ha:f_ w va a) (hb:f_ w vb a') (la:a.length≤200000) (lb:a'.length≤200000):
 Calls Tryz.prog 231 #[.slice (some ⟨b,0,none⟩) 2 c] w fun e w'=>∃v',e= .returned v'∧OwnAt w w' 288 2 v' (a.length+a'.length) (bP (a++a')):=by
 obtain⟨i0,hi,hz0,hz1,hz2⟩:=info_parts rZ
 obtain⟨aA,cA,rfl⟩:=ha.sl
 obtain⟨aB,cB,rfl⟩:=hb.sl
 have HA:=ah ha;clear ha
 have HB:=ah hb;clear hb
 have HG:=ah (fun w'=>LU (a.length+a'.length) w' (by omega))
 generalize hn:a.length=n at*
 generalize hm:a'.length=m at*
 have HN:=ah hn;clear hn
 have HM:=ah hm;clear hm
 go_enter Tryz.func231,Tryz.ntmps231
 go_wp2
 go_loop [3,11] (fun s i=>∃k:Nat,k≤2∧i= .int .i64 k∧s= .int .i64 ((if k=0 then 0 else if k=1 then n else n+m:Nat):Int)) (fun _ i=>2-(intOf i).toNat)
 case atStart=>exact⟨0,by omega,rfl,rfl⟩
 case round=>
  obtain⟨k,hk,rfl,rfl⟩:=hrel
  rcases(by omega:k=0∨k=1∨k=2)with rfl|rfl|rfl
  ·rw[if_pos rfl]
   go_wp2
   go_round
   case rel=>exact⟨1,by omega,rfl,by simp⟩
   case measure=>simp[intOf]
  ·rw[if_neg (by decide),if_pos rfl]
   go_wp2
   go_round
   case rel=>exact⟨2,by omega,rfl,by simp⟩
   case measure=>simp[intOf]
  ·rw[if_neg (by decide),if_neg (by decide)]
   go_wp2_with(go_at_call 264;refine(HG.out _).mono ?_;rintro e w1 ⟨v1,rfl,ho1⟩;obtain⟨a1,c1,rfl⟩:=ho1.shape;have bZ:=ah ho1;clear ho1)
   go_loopw [6,27] (fun v i ww=>∃k:Nat,k≤2∧i= .int .i64 k∧OwnAt w ww 288 2 v (if k=0 then 0 else if k=1 then n else n+m) (if k=0 then []else if k=1 then bP a else bP (a++a'))) (fun _ i _=>2-(intOf i).toNat)
   case atStart=>exact⟨0,by omega,rfl,bZ.out⟩
   case round=>
    obtain⟨k,hk,rfl,ho⟩:=hrel
    rcases(by omega:k=0∨k=1∨k=2)with rfl|rfl|rfl
    ·have ho:OwnAt w wr 288 2 _ 0 []:=ho
     obtain⟨a2,c2,rfl⟩:=ho.shape
     have HO:=ah ho;clear ho
     have q0:=HO.out.aH.cell' h0 id
     go_wp2_with(at_builtin;refine lq w _ _ rfl (.tmp 31) (.tmp 32) 266 266 rfl 288 288 i0 _ 2 16 Tryz.underlying266 Tryz.underlying266 hi hz0 hz1 hz2 (by decide) (by decide) _ _ _ HO.out _ n rfl rfl (HN.out▸HA.out.aP HO.out.aH) (by rw[nC,HN.out]) (zY _) (by simp only[maxLen];omega) (by omega) ?_;intro ad cc w5 dF;have OW:=ah dF;clear dF)
     go_roundw
     case rel=>exact⟨1,by omega,rfl,by have:=OW.out;simp at this⊢;exact this⟩
     case measure=>simp[intOf]
    ·have ho:OwnAt w wr 288 2 _ n (bP a):=ho
     obtain⟨a2,c2,rfl⟩:=ho.shape
     have HO:=ah ho;clear ho
     have q1:=HO.out.aH.cell' h1 id
     go_wp2_with(at_builtin;refine lq w _ _ rfl (.tmp 31) (.tmp 32) 266 266 rfl 288 288 i0 _ 2 16 Tryz.underlying266 Tryz.underlying266 hi hz0 hz1 hz2 (by decide) (by decide) _ _ _ HO.out _ m rfl rfl (HM.out▸HB.out.aP HO.out.aH) (by rw[nC,HM.out]) (zY _) (by simp only[maxLen];omega) (by omega) ?_;intro ad cc w5 dF;have OW:=ah dF;clear dF)
     go_roundw
     case rel=>exact⟨2,by omega,rfl,by have:=OW.out;rw[kD];simp at this⊢;exact this⟩
     case measure=>simp[intOf]
    ·have ho:OwnAt w wr 288 2 _ (n+m) (bP (a++a')):=ho
     obtain⟨a2,c2,rfl⟩:=ho.shape
     have HO:=ah ho;clear ho
     go_wp2
     go_ret
     exact⟨_,rfl,HO.out⟩
theorem LW (w:World) (va vb:Value) (a b:aQ) (ha:f_ w va a) (hb:f_ w vb b) (ra:bG a) (rb:bG b) (la:a.length≤100000) (lb:b.length≤100000):
 Calls Tryz.prog 184 #[va,vb] w fun e w'=>∃v' out,e= .returned v'∧OwnAt w w' 288 2 v' out.length (bP out)∧bG out∧(∀n,aV out n↔aV a n∨aV b n)∧out.length≤a.length+b.length:=by
 obtain⟨aA,cA,rfl⟩:=ha.sl
 obtain⟨aB,cB,rfl⟩:=hb.sl
 have oz:=ah (both_any w _ _ a b ha ra.fits hb rb.fits)
 have hboth:tf (bG a∧bG b)=true:=bM ⟨ra,rb⟩
 rw[hboth]at oz
 clear hboth
 have hbd:∀r∈a++b,1≤r.1∧r.1≤r.2∧r.2≤1099511627776:=fun r hr=>by
  rcases List.mem_append.1 hr with hr|hr
  ·have:=iI ra.1 r hr;have:=ra.2 r hr;omega
  ·have:=iI rb.1 r hr;have:=rb.2 r hr;omega
 have lY:=ah hbd;clear hbd
 clear ra rb
 have HA:=ah ha;clear ha
 have HB:=ah hb;clear hb
 have Az:=ah la
 have LX:=ah lb
 have hlab:(a++b).length=a.length+b.length:=List.length_append
 have uN:=ah hlab;clear hlab
 have hl3:a.length+b.length≤200000:=by omega
 have jk:=ah hl3;clear hl3
 generalize hn:a.length=n at*
 generalize hm:b.length=m at*
 have HN:=ah hn;clear hn
 have HM:=ah hm;clear hm
 clear la lb
 have eg:∀args w,(callFunc 233 args).run Tryz.prog w= .ok (.enter 233 args) w:=enters_of Tryz.func233 (by kernel_rfl) rfl
 go_enter Tryz.func184,Tryz.ntmps184
 go_wp2_with(first
  |(go_at_call 230;refine oz.out.mono ?_;rintro e w1 ⟨rfl,hw1⟩;have HW1:=ah hw1;clear hw1;have HX0:=ah (fun X=>aF (heap_alloc_new w1 (.cells #[.slice aA n cA, .slice aB m cB] X)) 0 rfl);have uO:=ah (fun X=>aF (heap_alloc_new w1 (.cells #[.slice aA n cA, .slice aB m cB] X)) 1 rfl))
  |(go_at_call 231;refine(LV _ _ _ _ _ a b (HX0.out _) (uO.out _) (HA.out.aP HW1.out.alloc1) (HB.out.aP HW1.out.alloc1) (by rw[HN.out];exact Nat.le_trans Az.out (by decide)) (by rw[HM.out];exact Nat.le_trans LX.out (by decide))).mono ?_;rintro e w2 ⟨v2,rfl,ho2⟩;rw[HN.out,HM.out]at ho2;obtain⟨a2,c2,rfl⟩:=ho2.shape;have dD:=ah ho2;clear ho2)
  |(go_at_call 232;refine(FI 233 eg LP _ _ _ (n+m) (a++b) dD.out uN.out (Nat.le_trans jk.out (by decide))).mono ?_;rintro e w3 ⟨rfl,l',hp,hs,ho3⟩;have HP:=ah hp;clear hp;have HS:=ah hs;clear hs;have bI:=ah ho3;clear ho3)
  |(go_at_call 235;refine(Fj _ _ l' (by have:=bI.out.rd;rw[←uN.out,←HP.out.length_eq]at this;rw[←uN.out,←HP.out.length_eq];exact this) (by rw[HP.out.length_eq,uN.out];exact jk.out) (yt HP.out HS.out lY.out).2.2).mono ?_;rintro e w4 ⟨v4,rfl,dh⟩;obtain⟨a4,c4,rfl⟩:=dh.shape;have iD:=ah dh;clear dh))
 go_ret
 have hj:=yt HP.out HS.out lY.out
 refine⟨_,kM l',rfl,⟨iD.out.own,fun k hk=>?_,?_⟩,hj.1,fun x=>by rw[hj.2.1,wV],Nat.le_trans (FM l') (by rw[HP.out.length_eq,uN.out];exact Nat.le_refl _)⟩
 ·have:=iD.out.new k hk
  have:=bI.out.aH.size
  have:=HW1.out.size
  simp at*
  omega
 ·exact((HW1.out.alloc1).ay bI.out.aH).ay iD.out.aH
open Go.RowKit
def AP (g:Nat) (how:Int):Prop:=∀(w:World) (va vb:Value) (a b:aQ),f_ w va a→f_ w vb b→bG a→bG b→a.length≤20000→b.length≤20000→
 Calls Tryz.prog g #[va,vb] w fun e w'=>∃v' out,e= .returned v'∧OwnAt w w' 288 2 v' out.length (bP out)∧bG out∧(∀n,aV out n↔cZ how (aV a n) (aV b n))∧out.length≤200000
theorem LY:AP 184 0:=fun w va vb a b ha hb ra rb la lb=>
 (LW w va vb a b ha hb ra rb (by omega) (by omega)).mono fun _ _ ⟨v',out,h1,h2,h3,h4,h5⟩=>⟨v',out,h1,h2,h3,fun n=>by rw[h4];unfold cZ;simp,by omega⟩
theorem yu:∀ {s l:List Int},s.Nodup→(∀x∈s,x∈l)→s.length≤l.length
 |[],_,_,_=>Nat.zero_le _
 |x::s,l,hn,h=>by
  have hx:=h x List.mem_cons_self
  have hn2:=List.nodup_cons.1 hn
  have:=yu (s:=s) (l:=l.erase x) hn2.2 fun y hy=>(List.mem_erase_of_ne (by intro e;subst e;exact hn2.1 hy)).2 (h y (List.mem_cons_of_mem _ hy))
  rw[List.length_erase_of_mem hx]at this
  have hl:0<l.length:=List.length_pos_of_mem hx
  simp only[List.length_cons]
  omega
theorem AQ:∀(b:aQ) (lo hi:Int) (r:Int×Int),r∈iH lo hi b→r.1=lo∨∃x∈b,r.1=x.2+1
 |[],lo,hi,r,h=>by
  have h:r∈(if lo≤hi then [(lo,hi)]else []:aQ):=h
  split at h
  ·simp at h;subst h;exact .inl rfl
  ·cases h
 |x::b,lo,hi,r,h=>by
  have h:r∈(if x.2<lo∨hi<x.1 then iH lo hi b else(if lo<x.1 then [(lo,x.1-1)]else [])++iH (x.2+1) hi b):=h
  split at h
  ·rcases AQ b lo hi r h with h|⟨y,hy,h⟩
   ·exact .inl h
   ·exact .inr ⟨y,List.mem_cons_of_mem _ hy,h⟩
  ·rcases List.mem_append.1 h with h|h
   ·split at h
    ·simp at h;subst h;exact .inl rfl
    ·cases h
   ·rcases AQ b _ hi r h with h|⟨y,hy,h⟩
    ·exact .inr ⟨x,List.mem_cons_self,h⟩
    ·exact .inr ⟨y,List.mem_cons_of_mem _ hy,h⟩
theorem yw:∀ {l:aQ} {lo:Int},dI lo l→(l.map (·.1)).Nodup
 |[],_,_=>List.nodup_nil
 |r::l,lo,h=>by
  rw[List.map_cons,List.nodup_cons]
  refine⟨fun hm=>?_,yw h.2.2⟩
  obtain⟨x,hx,he⟩:=List.mem_map.1 hm
  have:=iI h.2.2 x hx
  have:=h.2.1
  omega
theorem FN {a b:aQ} (ra:bG a) (rb:bG b):(kL a b).length≤a.length+b.length:=by
 have hn:=yw (wW a b 1 1 ra.1 rb.1)
 have:=yu (l:=a.map (·.1)++b.map (fun x=>x.2+1)) hn fun x hx=>by
  obtain⟨r,hr,rfl⟩:=List.mem_map.1 hx
  obtain⟨y,hy,hr⟩:=List.mem_flatMap.1 hr
  rcases AQ b y.1 y.2 r hr with h|⟨z,hz,h⟩
  ·exact List.mem_append_left _ (List.mem_map.2 ⟨y,hy,h.symm⟩)
  ·exact List.mem_append_right _ (List.mem_map.2 ⟨z,hz,h.symm⟩)
 simpa using this
theorem LZ:AP 238 2:=fun w va vb a b ha hb ra rb la lb=>
 (Lr w va vb a b ha hb ra rb la lb).mono fun _ _ ⟨v',h1,h2⟩=>⟨v',kL a b,h1,h2,bG.of (wW a b 1 1 ra.1 rb.1) fun n hn=>(ra.xu ((wX a b 1 n rb.1).1 hn).1).2,fun n=>by rw[wX a b 1 n rb.1];unfold cZ;simp,by have:=FN ra rb;omega⟩
structure AU (how:Int) (a b:aU) (k:Nat) (p:Nat→aQ):Prop where
 done:∀d,d<k→bG (p d)∧(∀n,aV (p d) n↔cZ how (fC a d n) (fC b d n))∧(p d).length≤200000
 todo:∀d,k≤d→d<4→p d=aZ a d
theorem AU.Ai {how:Int} {a b:aU} {p:Nat→aQ} (h:AU how a b 4 p):fU how a b (gZ fun d=>p d.toNat):=by
 refine fU.whole (fun d h0 h4=>?_) fun d n h0 h4=>?_
 ·exact(h.done d.toNat (by omega)).1
 ·have:=(h.done d.toNat (by omega)).2.1 n
  rwa [Int.toNat_of_nonneg h0]at this
structure kE (w0 w:World) (pb:Nat) (A:Nat→Sl) (p:Nat→aQ):Prop where
 blk:w.heap[pb]?=some (.cells #[.slice (A 0).1 (A 0).2.1 (A 0).2.2, .slice (A 1).1 (A 1).2.1 (A 1).2.2, .slice (A 2).1 (A 2).2.1 (A 2).2.2, .slice (A 3).1 (A 3).2.1 (A 3).2.2] 268 (0,0))
 new:w0.heap.size≤pb
 own:∀d,d<4→dM (fun k=>k=pb) w0 w 288 2 (.slice (A d).1 (A d).2.1 (A d).2.2) (p d).length (bP (p d))
theorem kE.cell {w0 w:World} {pb:Nat} {A:Nat→Sl} {p:Nat→aQ} (h:kE w0 w pb A p) {d:Nat} (hd:d<4):w.cell? ⟨pb,d,none⟩=some (.slice (A d).1 (A d).2.1 (A d).2.2):=by
 refine aF h.blk d ?_
 rcases(by omega:d=0∨d=1∨d=2∨d=3)with rfl|rfl|rfl|rfl<;>rfl
theorem kE.keep {w0 w w':World} {pb:Nat} {A:Nat→Sl} {p:Nat→aQ} (h:kE w0 w pb A p) (f:aj au w w'):kE w0 w' pb A p:=
 ⟨f.blk h.blk id,h.new,fun d hd=>(h.own d hd).keep f⟩
theorem kE.start {w0 w:World} {A:Nat→Sl} {p:Nat→aQ} (h:PartsAt w0 w (fun d=> .slice (A d).1 (A d).2.1 (A d).2.2) p):
 kE w0 (w.alloc (.cells #[.slice (A 0).1 (A 0).2.1 (A 0).2.2, .slice (A 1).1 (A 1).2.1 (A 1).2.2, .slice (A 2).1 (A 2).2.1 (A 2).2.2, .slice (A 3).1 (A 3).2.1 (A 3).2.2] 268)) w.heap.size A p:=
 ⟨heap_alloc_new w _,(h.own 0 (by omega)).aH.size,fun d hd=>(h.own d hd).away (aj.alloc _ _ _) fun k hk=>by rw[hk];exact Nat.le_refl _⟩
theorem kE.set {w0 w w':World} {pb:Nat} {A:Nat→Sl} {p:Nat→aQ} (h:kE w0 w pb A p) {d:Nat} (hd:d<4) {t:Sl} {out:aQ} (ho:OwnAt w w' 288 2 (.slice t.1 t.2.1 t.2.2) out.length (bP out)):
 kE w0 (w'.setCell ⟨pb,d,none⟩ (.slice t.1 t.2.1 t.2.2)) pb (upd A d t) (upd p d out):=by
 have hk:=h.keep ho.aH
 have hs:=dY hk.blk d (.slice t.1 t.2.1 t.2.2)
 refine⟨?_,h.new,fun c hc=>?_⟩
 ·rw[hs]
  rcases(by omega:d=0∨d=1∨d=2∨d=3)with rfl|rfl|rfl|rfl<;>rfl
 ·by_cases he:c=d
  ·subst he
   rw[upd_same,upd_same]
   have hb:dM (fun k=>k=pb) w0 w' 288 2 (.slice t.1 t.2.1 t.2.2) out.length (bP out):=
    ⟨⟨ho.own,fun k hk2=>by have:=ho.new k hk2;have:=(h.own c hc).at_.aH.size;omega,(h.own c hc).at_.aH.ay ho.aH⟩,fun k hk2 hp=>by have:=ho.new k hk2;have:=lt_of_block h.blk;omega⟩
   exact hb.set rfl h.new _
  ·rw[jP _ _ he,jP _ _ he]
   exact(hk.own c hc).set rfl h.new _
theorem FP (g:Nat) (how:Int) (eg:∀args w,(callFunc g args).run Tryz.prog w= .ok (.enter g args) w) (HG:AP g how)
 (w:World) (va vb:Value) (a b:aU) (ha:dL w va a) (hb:dL w vb b) (fa:gB a) (fb:gB b) (ra:bH a) (rb:bH b) (la:a.length≤20000) (lb:b.length≤20000):
 Calls Tryz.prog 183 #[va,vb, .func (.func g) #[] #[]] w fun e w'=>∃v' c,e= .returned v'∧OwnAt w w' 144 3 v' c.length (bT c)∧fU how a b c∧c.length≤800000:=by
 obtain⟨aA,cA,rfl⟩:=ha.sl
 obtain⟨aB,cB,rfl⟩:=hb.sl
 have HA:=ah (fun w' (h:aj au w w')=>xY w' _ a (Rd.aP ha h) fa (by omega))
 have HB:=ah (fun w' (h:aj au w w')=>xY w' _ b (Rd.aP hb h) fb (by omega))
 have LA:=ah (fun d=>Nat.le_trans (pG a d) la)
 have LB:=ah (fun d=>Nat.le_trans (pG b d) lb)
 have RA:=ah ra;clear ra
 have RB:=ah rb;clear rb
 have sF:=ah HG;clear HG
 clear ha hb fa fb la lb
 go_enter Tryz.func183,Tryz.ntmps183
 go_wp2_with(first
  |(go_at_call_of 205 aA;refine(HA.out _ (aj.refl _ _)).mono ?_;rintro e w1 ⟨hf1,hp1,-⟩;obtain⟨A,rfl,hvs⟩:=hp1 RA.out;clear hp1;have dN:=ah hf1;clear hf1;have mF:=ah hvs;clear hvs)
  |(go_at_call_of 205 aB;refine(HB.out _ (dN.out.alloc1)).mono ?_;rintro e w2 ⟨hf2,hp2,-⟩;obtain⟨B,rfl,hus⟩:=hp2 RB.out;clear hp2;have HF2:=ah hf2;clear hf2;have FQ:=ah hus;clear hus))
 have AV:=ah (((kE.start mF.out).keep HF2.out).keep (aj.alloc au w2 (.cells #[.slice (B 0).1 (B 0).2.1 (B 0).2.2, .slice (B 1).1 (B 1).2.1 (B 1).2.2, .slice (B 2).1 (B 2).2.1 (B 2).2.2, .slice (B 3).1 (B 3).2.1 (B 3).2.2] 268)))
 have AX:=ah (kE.start FQ.out)
 have hpq:w1.heap.size<w2.heap.size:=by have:=HF2.out.size;simp at this;omega
 have HPQ:=ah hpq;clear hpq
 clear mF FQ HA HB
 go_loopw [28] (fun i ww=>∃(k:Nat) (A':Nat→Sl) (p:Nat→aQ),k≤4∧i= .int .i64 k∧kE w ww w1.heap.size A' p∧AU how a b k p∧
  aj (fun k=>k=w1.heap.size) (w2.alloc (.cells #[.slice (B 0).1 (B 0).2.1 (B 0).2.2, .slice (B 1).1 (B 1).2.1 (B 1).2.2, .slice (B 2).1 (B 2).2.1 (B 2).2.2, .slice (B 3).1 (B 3).2.1 (B 3).2.2] 268)) ww) (fun i _=>4-(intOf i).toNat)
 case atStart=>exact⟨0,A,fun d=>aZ a d,by omega,rfl,AV.out,⟨fun d hd=>by omega,fun d _ _=>rfl⟩,aj.refl _ _⟩
 case round=>
  obtain⟨k,A',p,hk,rfl,hp,hbu,uP⟩:=hrel
  have HP:=ah hp;clear hp
  have uQ:=ah hbu;clear hbu
  have sG:=ah uP;clear uP
  by_cases hlt:k<4
  ·have hki:(k:Int)<4:=by omega
   have hkd:decide ((k:Int)<4)=true:=by simpa using hki
   have hpc:=HP.out.cell hlt
   have hqc:=sG.out.cell' (AX.out.cell hlt) (fun h=>by have:=HPQ.out;have h:w2.heap.size=w1.heap.size:=h;omega)
   have hqo:=Rd.keep (AX.out.own k hlt).at_.rd sG.out (fun j hj h=>by have:=(AX.out.own k hlt).at_.new j hj;have:=HPQ.out;have:=HF2.out.size;have h:j=w1.heap.size:=h;simp at*;omega)
   have htd:=uQ.out.todo k (Nat.le_refl _) hlt
   have hpo:=(HP.out.own k hlt).at_.rd
   rw[htd]at hpo
   have sH:=ah hpo;clear hpo htd
   have L_:=ah hqo;clear hqo
   have jS:=ah (fun w' (h:aj au wr w')=>sF.out w' _ _ (aZ a k) (aZ b k) (sH.out.aP h) (L_.out.aP h) (RA.out.2 k (by omega) (by omega)) (RB.out.2 k (by omega) (by omega)) (LA.out k) (LB.out k))
   generalize A' k=t at*
   generalize B k=u at*
   have hst:aj au wr wr.drew:=aj.drew _ _
   go_wp2_with fail
   refine gX (S:=fun w'=>w'.cell? ⟨w1.heap.size,k,none⟩=some (.slice t.1 t.2.1 t.2.2)∧w'.cell? ⟨w2.heap.size,k,none⟩=some (.slice u.1 u.2.1 u.2.2)) 10 (by kernel_rfl) ⟨hpc,hqc⟩ ?_
   intro hS
   refine aT 0 31 rfl rfl (v:=?_) (.inl ⟨by rfl,?_⟩) ?_
   rotate_left 1
   ·(intro w hSw;(try dsimp only at hSw);go_simp;(try with_reducible rfl))
   refine aT 1 32 rfl rfl (v:=?_) (.inl ⟨by rfl,?_⟩) ?_
   rotate_left 1
   ·(intro w hSw;(try dsimp only at hSw);go_simp;(try with_reducible rfl))
   try simp only[Act.put,aJ,aN,aO]
   refine aT 2 33 rfl rfl (v:=?_) (.inl ⟨by rfl,?_⟩) ?_
   rotate_left 1
   ·(intro w hSw;(try dsimp only at hSw);go_simp;(try with_reducible rfl))
   refine aT 3 34 rfl rfl (v:=?_) (.inl ⟨by rfl,?_⟩) ?_
   rotate_left 1
   ·(intro w hSw;(try dsimp only at hSw);go_simp;(try with_reducible rfl))
   try simp only[Act.put,aJ,aN,aO]
   refine aT 4 35 rfl rfl (v:=?_) (.inl ⟨by rfl,?_⟩) ?_
   rotate_left 1
   ·(intro w hSw;(try dsimp only at hSw);go_simp;(try with_reducible rfl))
   refine aT 5 36 rfl rfl (v:=?_) (.inl ⟨by rfl,?_⟩) ?_
   rotate_left 1
   ·(intro w hSw;(try dsimp only at hSw);go_simp;(try with_reducible rfl))
   try simp only[Act.put,aJ,aN,aO]
   refine aT 6 37 rfl rfl (v:=?_) (.inl ⟨by rfl,?_⟩) ?_
   rotate_left 1
   ·(intro w hSw;(try dsimp only at hSw);go_simp;(try with_reducible rfl))
   refine aT 7 38 rfl rfl (v:=?_) (.inl ⟨by rfl,?_⟩) ?_
   rotate_left 1
   ·(intro w hSw;(try dsimp only at hSw);go_simp;(try with_reducible rfl))
   try simp only[Act.put,aJ,aN,aO]
   refine bD (i:=8) (by kernel_rfl) rfl (fun K hK=>?_)
   go_simp
   refine(jS.out _ hst).mono ?_
   rintro e w3 ⟨v3,out,rfl,ho3,hr3,oD,hl3⟩
   obtain⟨a3,c3,rfl⟩:=ho3.shape
   have bI:=ah ho3;clear ho3
   have HR3:=ah hr3;clear hr3
   have nD:=ah oD;clear oD
   have jk:=ah hl3;clear hl3
   have hS3:w3.cell? ⟨w1.heap.size,k,none⟩=some (.slice t.1 t.2.1 t.2.2)∧w3.cell? ⟨w2.heap.size,k,none⟩=some (.slice u.1 u.2.1 u.2.2):=⟨bI.out.aH.cell' hS.1 id,bI.out.aH.cell' hS.2 id⟩
   refine hK.out _ _ hS3 ?_
   clear hK K
   try simp only[Act.put,aJ,aN,aO]
   refine aT 9 40 rfl rfl (v:=?_) (.inl ⟨by rfl,?_⟩) ?_
   rotate_left 1
   ·(intro w hSw;(try dsimp only at hSw);go_simp;(try with_reducible rfl))
   try simp only[Act.put,aJ,aN,aO]
   refine fD (by kernel_rfl) (by kernel_rfl) rfl (fun K hK=>?_)
   have hcz:=hS3.1
   have hfz:w3.frozen? ⟨w1.heap.size,k,none⟩=false:=aY ((HP.out.keep hst).keep bI.out.aH).blk k
   have AY:=ah ((HP.out.keep hst).set hlt (t:=(a3,out.length,c3)) bI.out)
   clear hS hS3 hpc hqc
   go_simp
   refine hK.out _ _ ?_
   clear hK K hcz hfz
   go_wp2
   go_roundw
   case rel=>exact⟨k+1,_,_,by omega,by go_num,AY.out,⟨fun d hd=>by
    by_cases he:d=k
    ·subst he;rw[upd_same];exact⟨HR3.out,nD.out,jk.out⟩
    ·rw[jP _ _ he];exact uQ.out.done d (by omega),fun d h1 h2=>by
    rw[jP _ _ (by omega)];exact uQ.out.todo d (by omega) h2⟩,((sG.out.ay hst).ay bI.out.aH).trans (aj.setCell (S:=fun k=>k=w1.heap.size) w3 (p:=⟨w1.heap.size,k,none⟩) (.inl rfl) _) fun _ _ h=>h⟩
   case measure=>simp[intOf];omega
  ·obtain rfl:k=4:=by omega
   have c0:wr.cell? ⟨w1.heap.size,0,none⟩=some (.slice (A' 0).1 (A' 0).2.1 (A' 0).2.2):=HP.out.cell (by omega)
   have c1:wr.cell? ⟨w1.heap.size,1,none⟩=some (.slice (A' 1).1 (A' 1).2.1 (A' 1).2.2):=HP.out.cell (by omega)
   have c2:wr.cell? ⟨w1.heap.size,2,none⟩=some (.slice (A' 2).1 (A' 2).2.1 (A' 2).2.2):=HP.out.cell (by omega)
   have c3:wr.cell? ⟨w1.heap.size,3,none⟩=some (.slice (A' 3).1 (A' 3).2.1 (A' 3).2.2):=HP.out.cell (by omega)
   go_wp2_with(go_at_call 229;refine(FB _ A' p (fun d hd=>(HP.out.own d hd).at_.rd) (fun d hd=>(uQ.out.done d hd).2.2)).mono ?_;rintro e w3 ⟨v3,c,rfl,ho3,hc3,hl3⟩;obtain⟨a3,k3,rfl⟩:=ho3.shape;have bI:=ah ho3;clear ho3;have mG:=ah hc3;clear hc3;have jk:=ah hl3;clear hl3)
   go_ret
   exact⟨_,c,rfl,bI.out.base (HP.out.own 0 (by omega)).at_.aH,by rw[mG.out];exact uQ.out.Ai,jk.out⟩
theorem Mc:∀args w,(callFunc 184 args).run Tryz.prog w= .ok (.enter 184 args) w:=enters_of Tryz.func184 (by kernel_rfl) rfl
theorem Md:∀args w,(callFunc 238 args).run Tryz.prog w= .ok (.enter 238 args) w:=enters_of Tryz.func238 (by kernel_rfl) rfl
theorem AZ (w:World) (va vb:Value) (a b:aU) (ha:dL w va a) (hb:dL w vb b) (fa:gB a) (fb:gB b) (ra:bH a) (rb:bH b) (la:a.length≤20000) (lb:b.length≤20000):
 Calls Tryz.prog 144 #[va,vb] w fun e w'=>∃v' c,e= .returned v'∧OwnAt w w' 144 3 v' c.length (bT c)∧fU 0 a b c∧c.length≤800000:=by
 have HC:=ah (FP _ 0 Mc LY w va vb a b ha hb fa fb ra rb la lb)
 clear ha hb fa fb ra rb la lb
 go_enter Tryz.func144,Tryz.ntmps144
 go_wp2_with(go_at_call 183;refine HC.out.mono ?_;rintro e w1 ⟨v1,c,rfl,ho1,hby,hol⟩;obtain⟨a1,c1,rfl⟩:=ho1.shape;have bZ:=ah ho1;clear ho1;have HB:=ah hby;clear hby;have HL:=ah hol;clear hol)
 go_ret
 exact⟨_,c,rfl,bZ.out,HB.out,HL.out⟩
theorem Me (w:World) (va vb:Value) (a b:aU) (ha:dL w va a) (hb:dL w vb b) (fa:gB a) (fb:gB b) (ra:bH a) (rb:bH b) (la:a.length≤20000) (lb:b.length≤20000):
 Calls Tryz.prog 188 #[va,vb] w fun e w'=>∃v' c,e= .returned v'∧OwnAt w w' 144 3 v' c.length (bT c)∧fU 2 a b c∧c.length≤800000:=by
 have HC:=ah (FP _ 2 Md LZ w va vb a b ha hb fa fb ra rb la lb)
 clear ha hb fa fb ra rb la lb
 go_enter Tryz.func188,Tryz.ntmps188
 go_wp2_with(go_at_call 183;refine HC.out.mono ?_;rintro e w1 ⟨v1,c,rfl,ho1,hby,hol⟩;obtain⟨a1,c1,rfl⟩:=ho1.shape;have bZ:=ah ho1;clear ho1;have HB:=ah hby;clear hby;have HL:=ah hol;clear hol)
 go_ret
 exact⟨_,c,rfl,bZ.out,HB.out,HL.out⟩
theorem yx (w:World) (v:Value) (c:aU) (hv:dL w v c) (hf:gB c) (hl:c.length≤100000):
 Calls Tryz.prog 157 #[v] w fun e w'=>e= .returned (.bool (tf (bH c)))∧aj au w w':=by
 have HC:=ah (xY w v c hv hf hl)
 obtain⟨aA,cA,rfl⟩:=hv.sl
 clear hv hf hl
 by_cases hr:bH c
 ·rw[bM hr]
  go_enter Tryz.func157,Tryz.ntmps157
  go_wp2_with(go_at_call 205;refine HC.out.mono ?_;rintro e w1 ⟨hf1,hp1,-⟩;obtain⟨A,rfl,-⟩:=hp1 hr;clear hp1;have dN:=ah hf1;clear hf1)
  go_ret
  exact⟨rfl,dN.out.alloc1⟩
 ·rw[bn hr]
  go_enter Tryz.func157,Tryz.ntmps157
  go_wp2_with(go_at_call 205;refine HC.out.mono ?_;rintro e w1 ⟨hf1,-,hp1⟩;obtain rfl:=hp1 hr;clear hp1;have dN:=ah hf1;clear hf1)
  go_ret
  exact⟨rfl,dN.out.alloc1⟩
theorem FT (w:World) (va vb:Value) (a b:aU) (ha:dL w va a) (hb:dL w vb b) (fa:gB a) (fb:gB b) (la:a.length≤20000) (lb:b.length≤20000):
 Calls Tryz.prog 147 #[va,vb] w fun e w'=>e= .returned (.bool (tf (bH a∧bH b∧fK a b)))∧aj au w w':=by
 obtain⟨aA,cA,rfl⟩:=ha.sl
 obtain⟨aB,cB,rfl⟩:=hb.sl
 have kQ:=ah (yx w _ a ha fa (by omega))
 have lu:=ah (fun w' (h:aj au w w')=>yx w' _ b (Rd.aP hb h) fb (by omega))
 have HCM:=ah (fun w' (h:aj au w w') ra rb=>Me w' _ _ a b (Rd.aP ha h) (Rd.aP hb h) fa fb ra rb la lb)
 clear ha hb fa fb la lb
 by_cases ra:bH a
 ·rw[bM ra]at kQ
  by_cases rb:bH b
  ·rw[bM rb]at lu
   have RA:=ah ra
   have RB:=ah rb
   have hall:tf (bH a∧bH b∧fK a b)=tf (fK a b):=lI ⟨fun h=>h.2.2,fun h=>⟨ra,rb,h⟩⟩
   rw[hall]
   clear ra rb hall
   go_enter Tryz.func147,Tryz.ntmps147
   go_wp2_with(first
    |(go_at_call_of 157 aA;refine kQ.out.mono ?_;rintro e w1 ⟨rfl,hw1⟩;have HW1:=ah hw1;clear hw1)
    |(go_at_call_of 157 aB;refine(lu.out _ HW1.out).mono ?_;rintro e w2 ⟨rfl,hw2⟩;have HW2:=ah (HW1.out.ay hw2);clear hw2)
    |(go_at_call 188;refine(HCM.out _ HW2.out RA.out RB.out).mono ?_;rintro e w3 ⟨v3,c,rfl,ho3,hby,hol⟩;obtain⟨a3,c3,rfl⟩:=ho3.shape;have bI:=ah ho3;clear ho3;have HB:=ah hby;clear hby;clear hol))
   go_ret
   refine⟨bg (uq ?_),HW2.out.ay bI.out.aH⟩
   rw[←HB.out.Ew]
   simp
  ·rw[bn rb]at lu
   rw[bn fun h=>rb h.2.1]
   clear ra rb
   go_enter Tryz.func147,Tryz.ntmps147
   go_wp2_with(first
    |(go_at_call_of 157 aA;refine kQ.out.mono ?_;rintro e w1 ⟨rfl,hw1⟩;have HW1:=ah hw1;clear hw1)
    |(go_at_call_of 157 aB;refine(lu.out _ HW1.out).mono ?_;rintro e w2 ⟨rfl,hw2⟩;have HW2:=ah (HW1.out.ay hw2);clear hw2))
   go_ret
   exact⟨rfl,HW2.out⟩
 ·rw[bn ra]at kQ
  rw[bn fun h=>ra h.1]
  clear ra
  go_enter Tryz.func147,Tryz.ntmps147
  go_wp2_with(go_at_call_of 157 aA;refine kQ.out.mono ?_;rintro e w1 ⟨rfl,hw1⟩;have HW1:=ah hw1;clear hw1)
  go_ret
  exact⟨rfl,HW1.out⟩
open Go.RowKit
def inB (n:Int) (r:Int×Int):Bool:=decide (r.1≤n)&&decide (n≤r.2)
theorem MB (l:aQ) (n:Int):l.any (inB n)=tf (aV l n):=by
 refine uq ?_
 rw[List.any_eq_true]
 unfold aV inB
 simp only[Bool.and_eq_true,decide_eq_true_eq]
theorem MC {α:Type} {p:α→Bool} {l:List α} {k:Nat} (d:α) (hk:k<l.length):(l.take (k+1)).any p=((l.take k).any p||p (l.getD k d)):=by
 rw[take_succ d hk,List.any_append];simp
theorem MF (lo hi n:Int) (b:Nat) (w:World) (hb:w.cell? ⟨b,0,none⟩=some (.int .i64 n)):Calls Tryz.prog 295 #[.agg #[.int .i64 lo, .int .i64 hi], .pointer (some ⟨b,0,none⟩)] w fun e w'=>e= .returned (.bool (inB n (lo,hi)))∧aj au w w':=by
 have hlt:b<w.heap.size:=World.block_lt_of_cell? _ _ hb
 by_cases h1:lo≤n
 ·by_cases h2:n≤hi
  ·have hr:inB n (lo,hi)=true:=by simp[inB,h1,h2]
   rw[hr]
   go_enter Tryz.func295,Tryz.ntmps295
   go_wp2
   go_ret
   exact⟨rfl,aj.alloc _ _ _⟩
  ·have hr:inB n (lo,hi)=false:=by simp[inB,h2]
   have h3:decide (n≤hi)=false:=by simpa using h2
   rw[hr]
   go_enter Tryz.func295,Tryz.ntmps295
   go_wp2
   go_ret
   exact⟨rfl,aj.alloc _ _ _⟩
 ·have hr:inB n (lo,hi)=false:=by simp[inB,h1]
  have h3:decide (lo≤n)=false:=by simpa using h1
  rw[hr]
  go_enter Tryz.func295,Tryz.ntmps295
  go_wp2
  go_ret
  exact⟨rfl,aj.alloc _ _ _⟩
theorem MG (l:aQ) (n:Int) (b:Nat) (w:World) (v:Value) (h:f_ w v l) (hl:l.length≤1000000) (hb:w.cell? ⟨b,0,none⟩=some (.int .i64 n)):
 Calls Tryz.prog 302 #[v, .func (.func 295) #[] #[.pointer (some ⟨b,0,none⟩)]] w fun e w'=>aj au w w'∧(l.any (inB n)=true→∃k:Nat,e= .returned (.int .i64 k))∧(l.any (inB n)=false→e= .returned (.int .i64 (-1))):=by
 have eg:∀args w,(callFunc 295 args).run Tryz.prog w= .ok (.enter 295 args) w:=enters_of Tryz.func295 (by kernel_rfl) rfl
 have HP:=ah (fun lo hi W (f:aj au w W)=>MF lo hi n b W (f.cell' hb id));clear hb
 obtain⟨A,hA⟩:∃A,A=l.any (inB n):=⟨_,rfl⟩
 have HA:=ah hA
 rw[←hA]
 clear hA
 rcases Rd.shape h with⟨ad,rfl,h0⟩|⟨p,off,c,rfl,hmax⟩
 ·have MH:=ah (show A=false by rw[HA.out,List.eq_nil_of_length_eq_zero h0];rfl)
  clear h h0
  go_enter Tryz.func302,Tryz.ntmps302
  go_wp2
  go_loop [8] (fun i=>i= .int .i64 0) (fun _=>0)
  case atStart=>rfl
  case round=>
   obtain rfl:=hrel
   go_wp2
   go_ret
   exact⟨aj.refl _ _,fun h=>(by rw[MH.out]at h;cases h),fun _=>rfl⟩
 ·have HH:=ah h;clear h
  generalize hn:l.length=m at*
  have HN:=ah hn;clear hn
  go_enter Tryz.func302,Tryz.ntmps302
  go_wp2
  go_loopw [8] (fun i W=>∃k:Nat,k≤m∧i= .int .i64 k∧(l.take k).any (inB n)=false∧aj au w W) (fun i _=>m-(intOf i).toNat)
  case atStart=>exact⟨0,Nat.zero_le _,rfl,by simp,aj.refl _ _⟩
  case round=>
   obtain⟨k,hk,rfl,ha,hw⟩:=hrel
   have FU:=ah ha;clear ha
   have HW:=ah hw;clear hw
   by_cases hlt:k<m
   ·have hlk:k<l.length:=by rw[HN.out];exact hlt
    obtain⟨q0,q1⟩:=kN HH.out HN.out.symm k hlk
    replace q0:=HW.out.cell' q0 id
    replace q1:=HW.out.cell' q1 id
    have HT:=ah (MC (p:=inB n) (0,0) hlk)
    have HE:=ah (fun h=>HA.out.trans (List.any_eq_true.2 ⟨_,getD_mem (0,0) hlk,h⟩):inB n (l.getD k (0,0))=true→A=true)
    have HC:=ah (HP.out (l.getD k (0,0)).1 (l.getD k (0,0)).2)
    have hpe:((l.getD k (0,0)).1,(l.getD k (0,0)).2)=l.getD k (0,0):=rfl
    rw[hpe]at HC
    clear hpe hlk
    generalize inB n (l.getD k (0,0))=y at*
    generalize (l.getD k (0,0)).1=x0 at*
    generalize (l.getD k (0,0)).2=x1 at*
    cases y with
    |true=>
     have HEX:=ah (HE.out rfl)
     clear HE HT
     go_wp2_with(go_at_call 295;refine(HC.out _ HW.out).mono ?_;rintro e w1 ⟨rfl,hw1⟩;have HW1:=ah (HW.out.ay hw1);clear hw1)
     go_ret
     exact⟨HW1.out,fun _=>⟨k,rfl⟩,fun h=>(by rw[HEX.out]at h;cases h)⟩
    |false=>
     have MI:=ah (show(l.take (k+1)).any (inB n)=false by rw[HT.out,FU.out];rfl)
     clear HE HT
     go_wp2_with(go_at_call 295;refine(HC.out _ HW.out).mono ?_;rintro e w1 ⟨rfl,hw1⟩;have HW1:=ah (HW.out.ay hw1);clear hw1)
     go_roundw
     case rel=>exact⟨k+1,by omega,by go_num,MI.out,HW1.out⟩
     case measure=>simp[intOf];omega
   ·have hnk:m=k:=by omega
    have hall:A=false:=by
     rw[HA.out]
     have:=FU.out
     rwa [List.take_of_length_le (by rw[HN.out,hnk];exact Nat.le_refl _)]at this
    have MJ:=ah hall;clear hall
    go_wp2
    go_ret
    exact⟨HW.out,fun h=>(by rw[MJ.out]at h;cases h),fun _=>rfl⟩
theorem MK (l:aQ) (n:Int) (b:Nat) (w:World) (v:Value) (h:f_ w v l) (hl:l.length≤1000000) (hb:w.cell? ⟨b,0,none⟩=some (.int .i64 n)):
 Calls Tryz.prog 294 #[v, .func (.func 295) #[] #[.pointer (some ⟨b,0,none⟩)]] w fun e w'=>e= .returned (.bool (tf (aV l n)))∧aj au w w':=by
 have HI:=ah (MG l n b w v h hl hb)
 obtain⟨a,c,rfl⟩:=Rd.sl h
 rw[←MB]
 clear h hb
 generalize l.length=m at*
 generalize l.any (inB n)=y at*
 cases y with
 |true=>
  go_enter Tryz.func294,Tryz.ntmps294
  go_wp2_with(go_at_call 302;refine HI.out.mono ?_;rintro e w1 ⟨hw1,hy,-⟩;obtain⟨k,he⟩:=hy rfl;subst he;have HW1:=ah hw1;clear hw1 hy)
  go_ret
  exact⟨by first|rfl|(simp;omega),HW1.out⟩
 |false=>
  go_enter Tryz.func294,Tryz.ntmps294
  go_wp2_with(go_at_call 302;refine HI.out.mono ?_;rintro e w1 ⟨hw1,-,hy⟩;have he:=hy rfl;subst he;have HW1:=ah hw1;clear hw1 hy)
  go_ret
  exact⟨by first|rfl|(simp;omega),HW1.out⟩
theorem ML (l:aQ) (n:Int) (w:World) (v:Value) (h:f_ w v l) (hr:bG l) (hl:l.length≤1000000):
 Calls Tryz.prog 271 #[v, .int .i64 n] w fun e w'=>e= .returned (.bool (tf (aV l n)))∧aj au w w':=by
 have HR:=ah (fun W (f:aj au w W)=>xM W v l (Rd.aP h f) hr.fits)
 have HC:=ah (fun W b (f:aj au w W) hb=>MK l n b W v (Rd.aP h f) hl hb)
 rw[bM hr]at HR
 obtain⟨a,c,rfl⟩:=Rd.sl h
 clear h hr
 generalize l.length=m at*
 generalize tf (aV l n)=y at*
 go_enter Tryz.func271,Tryz.ntmps271
 go_wp2_with(first
  |(go_at_call 251;refine(HR.out _ (aj.alloc _ _ _)).mono ?_;rintro e w1 ⟨rfl,hw1⟩;have y0:w1.cell? ⟨w.heap.size,0,none⟩=some (.int .i64 n):=hw1.cell' (aF (heap_alloc_new w _) 0 rfl) id;have HW1:=ah ((aj.alloc au w _).ay hw1);clear hw1)
  |(go_at_call 294;refine(HC.out _ _ HW1.out y0).mono ?_;rintro e w2 ⟨rfl,hw2⟩;have HW2:=ah (HW1.out.ay hw2);clear hw2))
 go_ret
 exact⟨by cases y<;>rfl,HW2.out⟩
open Go.RowKit
noncomputable def gq (c:aU) (d n:Int):Bool:=iO d n&&tf (fC c d n)
theorem FV (c:aU) (w:World) (v:Value) (hv:dL w v c) (hf:gB c) (hr:bH c) (hl:c.length≤100000) (dc n:Int):
 Calls Tryz.prog 242 #[v, .agg #[.int .i64 dc, .int .i64 n]] w fun e w'=>e= .returned (.bool (gq c dc n))∧aj au w w':=by
 obtain⟨aA,cA,rfl⟩:=hv.sl
 have HA:=ah (fun w' (h:aj au w w')=>xY w' _ c (Rd.aP hv h) hf hl)
 have RA:=ah hr;clear hr
 have HD:=ah (fun W=>qC dc n W)
 have MN:=ah (fun d=>Nat.le_trans (pG c d) hl)
 clear hv hf hl
 generalize c.length=m at*
 unfold gq
 cases hd:iO dc n with
 |false=>
  rw[hd]at HD
  clear hd
  go_enter Tryz.func242,Tryz.ntmps242
  go_wp2_with(go_at_call 205;refine(HA.out _ (aj.alloc _ _ _)).mono ?_;rintro e w1 ⟨hf1,hp1,-⟩;obtain⟨A,rfl,-⟩:=hp1 RA.out;clear hp1;have b1:=hf1.blk (heap_alloc_new w _) id;have HB1:=ah b1;clear b1;have dN:=ah ((aj.alloc au w _).ay hf1);clear hf1)
  obtain⟨α,hne,K,hK1,hK0,hK2⟩:=worlds (w1.alloc (.cells #[.slice (A 0).1 (A 0).2.1 (A 0).2.2, .slice (A 1).1 (A 1).2.1 (A 1).2.2, .slice (A 2).1 (A 2).2.1 (A 2).2.2, .slice (A 3).1 (A 3).2.1 (A 3).2.2] 268))
  have dH:=ah (fun s=>(dN.out.alloc1).ay (hK1 s))
  have k0:∀s,(K s).cell? ⟨w.heap.size,0,none⟩=some (.int .i64 dc):=fun s=>(hK1 s).cell' ((aj.alloc au w1 _).cell' (aF HB1.out 0 rfl) id) id
  have k1:∀s,(K s).cell? ⟨w.heap.size,1,none⟩=some (.int .i64 n):=fun s=>(hK1 s).cell' ((aj.alloc au w1 _).cell' (aF HB1.out 1 rfl) id) id
  clear hK1
  refine bK K (by kernel_rfl) (by kernel_rfl) hK0 ?_
  repeat(go_big_quiet_step ((go_at_call 236;exact Calls.aW hK2 (HD.out _))))
  refine wpQuiet_nil ?_
  intro w' hw'
  obtain⟨s,rfl⟩:=hw'
  go_wp2
  go_ret
  exact⟨rfl,dH.out s⟩
 |true=>
  rw[hd]at HD
  obtain⟨k,rfl,hk4⟩:∃k:Nat,dc=(k:Int)∧k<4:=by
   unfold iO at hd
   simp only[decide_eq_true_eq]at hd
   exact⟨dc.toNat,by omega,by omega⟩
  clear hd
  have hki:(k:Int)<4:=by omega
  have hkd:decide ((k:Int)<4)=true:=by simpa using hki
  show Calls _ _ _ _ fun e w'=>e= .returned (.bool (true&&tf (aV (aZ c k) n)))∧_
  have RP:=ah (RA.out.2 k (by omega) hki)
  go_enter Tryz.func242,Tryz.ntmps242
  go_wp2_with(go_at_call 205;refine(HA.out _ (aj.alloc _ _ _)).mono ?_;rintro e w1 ⟨hf1,hp1,-⟩;obtain⟨A,rfl,hvs⟩:=hp1 RA.out;clear hp1;have b1:=hf1.blk (heap_alloc_new w _) id;have HB1:=ah b1;clear b1;have dN:=ah ((aj.alloc au w _).ay hf1);clear hf1;have mF:=ah hvs;clear hvs)
  obtain⟨α,hne,K,hK1,hK0,hK2⟩:=worlds (w1.alloc (.cells #[.slice (A 0).1 (A 0).2.1 (A 0).2.2, .slice (A 1).1 (A 1).2.1 (A 1).2.2, .slice (A 2).1 (A 2).2.1 (A 2).2.2, .slice (A 3).1 (A 3).2.1 (A 3).2.2] 268))
  have dH:=ah (fun s=>(dN.out.alloc1).ay (hK1 s))
  have k0:∀s,(K s).cell? ⟨w.heap.size,0,none⟩=some (.int .i64 k):=fun s=>(hK1 s).cell' ((aj.alloc au w1 _).cell' (aF HB1.out 0 rfl) id) id
  have k1:∀s,(K s).cell? ⟨w.heap.size,1,none⟩=some (.int .i64 n):=fun s=>(hK1 s).cell' ((aj.alloc au w1 _).cell' (aF HB1.out 1 rfl) id) id
  have k2:∀s,(K s).cell? ⟨w1.heap.size,k,none⟩=some (.slice (A k).1 (A k).2.1 (A k).2.2):=fun s=>(hK1 s).cell' (aF (heap_alloc_new w1 _) k (by rcases(by omega:k=0∨k=1∨k=2∨k=3)with rfl|rfl|rfl|rfl<;>rfl)) id
  have MO:=ah (fun s=>ML (aZ c k) n (K s) (.slice (A k).1 (A k).2.1 (A k).2.2) (Rd.aP (Rd.aP (mF.out.own k hk4).rd (aj.alloc au w1 _)) (hK1 s)) RP.out (by have:=MN.out (k:Int);omega))
  clear hK1 mF
  generalize A k=t at*
  generalize hy:tf (aV (aZ c k) n)=y at*
  have HY:=ah hy;clear hy
  refine bK K (by kernel_rfl) (by kernel_rfl) hK0 ?_
  repeat(go_big_quiet_step ((first|(go_at_call 236;exact Calls.aW hK2 (HD.out _))|(go_at_call 271;exact Calls.aW hK2 (MO.out _)))))
  refine wpQuiet_nil ?_
  intro w' hw'
  obtain⟨s,rfl⟩:=hw'
  go_wp2
  go_ret
  exact⟨by rw[HY.out];cases y<;>rfl,dH.out s⟩
end Go.Proofs.YtabkpccdnkjoiaaGreat
