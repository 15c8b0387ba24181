/- Words for the law ShardPlays: CaEnt, CaKid, KConcat, StrLay, Strs. -/
import Derived.Test.YtlhmbkjdfjoilaaGreatShardPlaysG0
import Derived.Test.YtlhmbkjdfjoilaaGreatShardPlaysG6
import Derived.Test.YtlhmbkjdfjoilaaGreatShardPlaysG8
import Derived.Test.YtlhmbkjdfjoilaaGreatShardPlaysG9
import Derived.Test.YtlhmbkjdfjoilaaGreatShardPlaysG10
import Derived.Test.YtlhmbkjdfjoilaaGreatShardPlaysG11
import Derived.Shelf.Sort.Plain
import Derived.Shelf.Slices.CompactS
import Derived.Shelf.Slices.In.SortNone
import Derived.Lib.RowBridge
import Derived.Test.YtlhmbkjdfjoilaaGreatProg
import Derived.Sort.OwnSorted
set_option linter.unusedSimpArgs false
set_option linter.unusedVariables false
set_option maxHeartbeats 32000000
set_option maxRecDepth 1000000
namespace Go.Proofs.YtlhmbkjdfjoilaaGreat
open Go.RowKit
theorem drop_at {l:List aQ} {i:Nat} (h:i<l.length):l.drop i=l.getD i aQ.zero::l.drop (i+1):=by
 rw[List.drop_eq_getElem_cons h,getD_at aQ.zero h]
theorem acF {ha hb:Int→Int→Bool} {a b:List aQ} {i k:Nat} (hi:i<a.length) (h:b.length≤k∨k<b.length∧ltD (a.getD i aQ.zero) (b.getD k aQ.zero)=true):
 iG ha hb (a.drop i) (b.drop k)=oC hb (a.getD i aQ.zero)++iG ha hb (a.drop (i+1)) (b.drop k):=by
 rw[drop_at hi]
 rcases h with h|⟨h,hl⟩
 ·rw[List.drop_eq_nil_of_le h];conv=>lhs;rw[iG]
 ·rw[drop_at h];conv=>lhs;rw[iG,if_pos hl]
theorem acG {ha hb:Int→Int→Bool} {a b:List aQ} {i k:Nat} (hk:k<b.length) (h:a.length≤i∨i<a.length∧ltD (a.getD i aQ.zero) (b.getD k aQ.zero)=false∧ltD (b.getD k aQ.zero) (a.getD i aQ.zero)=true):
 iG ha hb (a.drop i) (b.drop k)=oC ha (b.getD k aQ.zero)++iG ha hb (a.drop i) (b.drop (k+1)):=by
 rw[drop_at hk]
 rcases h with h|⟨h,hl,hl'⟩
 ·rw[List.drop_eq_nil_of_le h];conv=>lhs;rw[iG]
 ·rw[drop_at h];conv=>lhs;rw[iG,if_neg (by rw[hl];simp),if_pos hl']
theorem acH {ha hb:Int→Int→Bool} {a b:List aQ} {i k:Nat} (hi:i<a.length) (hk:k<b.length) (hl:ltD (a.getD i aQ.zero) (b.getD k aQ.zero)=false) (hl':ltD (b.getD k aQ.zero) (a.getD i aQ.zero)=false):
 iG ha hb (a.drop i) (b.drop k)=nX (a.getD i aQ.zero) (b.getD k aQ.zero)::iG ha hb (a.drop (i+1)) (b.drop (k+1)):=by
 rw[drop_at hi,drop_at hk,iG,if_neg (by rw[hl];simp),if_neg (by rw[hl'];simp)]
theorem GU (x y:aQ):decide (uO x.dc x.n y.dc y.n<0)=ltD x y:=Uh _ _ _ _
def Ky (w:World) (b o:Nat) (x:aQ):Prop:=w.cell? ⟨b,o,none⟩=some (.int .i64 x.dc)∧w.cell? ⟨b,o+1,none⟩=some (.int .i64 x.n)∧w.cell? ⟨b,o+2,none⟩=some (.string x.s)∧w.cell? ⟨b,o+3,none⟩=some (.int .i64 x.k)
theorem acI (a b:List aQ) (ca cb:bD) (w:World) (va vb zi zk:Value) (ha:Rd w va a.length (jy a)) (hb:Rd w vb b.length (jy b)) (hca:je w zi ca) (hcb:je w zk cb)
 (fa:kU ca) (fb:kU cb) (ra:eP ca) (rb:eP cb) (lca:ca.length≤100000) (Kz:cb.length≤100000) (la:a.length≤100000) (lb:b.length≤100000):
 Calls Tryz.prog 108 #[va,vb,zi,zk] w fun e w'=>∃v',e= .returned v'∧OwnAt w w' 100 4 v' (iG (eU ca) (eU cb) a b).length (jy (iG (eU ca) (eU cb) a b)):=by
 obtain⟨i0,hi,hz0,hz1,hz2⟩:=info_parts UN
 obtain⟨aA,cA,rfl⟩:=ha.sl
 obtain⟨aB,cB,rfl⟩:=hb.sl
 obtain⟨aC,cC,rfl⟩:=hca.sl
 obtain⟨aD,cD,rfl⟩:=hcb.sl
 have jF:=ah (fun W (f:aj aF w W) d n=>Vm ca W _ (Rd.aS hca f) fa ra lca d n)
 have jC:=ah (fun W (f:aj aF w W) d n=>Vm cb W _ (Rd.aS hcb f) fb rb Kz d n)
 have jY:=ah (fun W d n e m=>vU d n e m W)
 have HA:=ah ha;have HB:=ah hb
 clear hca hcb fa fb ra rb lca Kz ha hb
 obtain⟨J,hJ⟩:∃J,J=iG (eU ca) (eU cb) a b:=⟨_,rfl⟩
 rw[←hJ]
 have Ph:=ah hJ;clear hJ
 obtain⟨hA,GV⟩:∃h,h=eU ca:=⟨_,rfl⟩
 obtain⟨hB,GX⟩:∃h,h=eU cb:=⟨_,rfl⟩
 rw[←GV]at jF Ph
 rw[←GX]at jC Ph
 clear GV GX
 generalize hn:a.length=n at*
 have HN:=ah hn;clear hn
 generalize hm:b.length=m at*
 have HM:=ah hm;clear hm
 generalize ca.length=na at*
 generalize cb.length=nb at*
 go_enter Tryz.func108,Tryz.ntmps108
 go_wp2
 go_loopw [9,10,11] (fun ov iv kv W=>∃(i k:Nat) (l:List aQ),i≤n∧k≤m∧iv= .int .i64 i∧kv= .int .i64 k∧OwnAt w W 100 4 ov l.length (jy l)∧l++iG hA hB (a.drop i) (b.drop k)=J∧l.length≤i+k) (fun _ iv kv _=>n+m-(intOf iv).toNat-(intOf kv).toNat)
 case atStart=>exact⟨0,0,[],by omega,by omega,rfl,rfl,OwnAt.nil (aj.refl _ _) _ _,by simp[Ph.out],by simp⟩
 case round=>
  obtain⟨i,k,l,hi',hk',rfl,rfl,ho,hj,hl⟩:=hrel
  obtain⟨av,cv,rfl⟩:=ho.shape
  have HO:=ah ho;clear ho
  have HJ:=ah hj;clear hj
  have HL:=ah hl;clear hl
  generalize hp:l.length=p at*
  have HP:=ah hp;clear hp
  obtain⟨α,hne,K,hK1,hK0,hK2⟩:=worlds wr
  have uw:=ah hK1;clear hK1
  have key:(i<n∧(k=m∨k<m∧ltD (a.getD i aQ.zero) (b.getD k aQ.zero)=true))∨(k<m∧(i=n∨i<n∧ltD (a.getD i aQ.zero) (b.getD k aQ.zero)=false∧ltD (b.getD k aQ.zero) (a.getD i aQ.zero)=true))∨
   (i<n∧k<m∧ltD (a.getD i aQ.zero) (b.getD k aQ.zero)=false∧ltD (b.getD k aQ.zero) (a.getD i aQ.zero)=false)∨(i=n∧k=m):=by
   cases h1:ltD (a.getD i aQ.zero) (b.getD k aQ.zero)<;>cases h2:ltD (b.getD k aQ.zero) (a.getD i aQ.zero)<;>simp<;>omega
  have xA:i<n→∃bA oA,aA=some ⟨bA,oA,none⟩∧(n:Int)≤9223372036854775807∧∀W,aj aF w W→Ky W bA (oA+i*4) (a.getD i aQ.zero):=fun hin=>by
   rcases Rd.shape HA.out with⟨ad,he,h0⟩|⟨bA,oA,cc,he,hmax⟩
   ·omega
   ·injection he with e1 e2 e3
    subst e1 e3
    exact⟨bA,oA,rfl,hmax,fun W f=>ug (HA.out.aS f) i (by rw[HN.out];exact hin)⟩
  have xB:k<m→∃bB oB,aB=some ⟨bB,oB,none⟩∧(m:Int)≤9223372036854775807∧∀W,aj aF w W→Ky W bB (oB+k*4) (b.getD k aQ.zero):=fun hin=>by
   rcases Rd.shape HB.out with⟨ad,he,h0⟩|⟨bB,oB,cc,he,hmax⟩
   ·omega
   ·injection he with e1 e2 e3
    subst e1 e3
    exact⟨bB,oB,rfl,hmax,fun W f=>ug (HB.out.aS f) k (by rw[HM.out];exact hin)⟩
  have Pj:=ah xA;clear xA
  have HXB:=ah xB;clear xB
  rcases key with⟨hin,hcd⟩|⟨hkm,hcd⟩|⟨hin,hkm,h1,h2⟩|⟨rfl,rfl⟩
  ·obtain⟨bA,oA,rfl,hnx,hxa⟩:=Pj.out hin
   have t_:=ah hxa;clear hxa
   have HST:=ah (acF (ha:=hA) (hb:=hB) (a:=a) (b:=b) (i:=i) (k:=k) (by rw[HN.out];exact hin) (by rw[HM.out];exact hcd.imp (fun h=>by omega) id))
   have hr:=jC.out
   have hcc:k=m∨k<m∧(∃bB oB,aB=some ⟨bB,oB,none⟩∧(m:Int)≤9223372036854775807∧∀W,aj aF w W→Ky W bB (oB+k*4) (b.getD k aQ.zero))∧decide (uO (a.getD i aQ.zero).dc (a.getD i aQ.zero).n (b.getD k aQ.zero).dc (b.getD k aQ.zero).n<0)=true:=
    hcd.imp id fun h=>⟨h.1,HXB.out h.1,(GU _ _).trans h.2⟩
   clear hcd hr
   generalize a.getD i aQ.zero=x at*
   generalize b.getD k aQ.zero=y at*
   cases hb:hB x.dc x.n
   all_goals
    have BX:=ah hb;clear hb
    rcases hcc with rfl|⟨hkm,⟨bB,oB,rfl,hmx,hxb⟩,hlt⟩
   all_goals
    have dS:=ah (fun s=>HO.out.aI.aH (uw.out s))
    obtain⟨k0,k1⟩:(∀s,(K s).cell? ⟨bA,oA+i*4,none⟩=some (.int .i64 x.dc))∧∀s,(K s).cell? ⟨bA,oA+i*4+1,none⟩=some (.int .i64 x.n):=⟨fun s=>(t_.out _ (dS.out s)).1,fun s=>(t_.out _ (dS.out s)).2.1⟩
    try have p0:∀s,(K s).cell? ⟨bB,oB+k*4,none⟩=some (.int .i64 y.dc):=fun s=>(hxb _ (dS.out s)).1
    try have p1:∀s,(K s).cell? ⟨bB,oB+k*4+1,none⟩=some (.int .i64 y.n):=fun s=>(hxb _ (dS.out s)).2.1
    try clear hxb
    try have KA:((k:Int)==(m:Int))=false:=by simp;omega
    go_wp2_with fail
    refine dX K (by kernel_rfl) (by kernel_rfl) hK0 ?_
    repeat(go_big_quiet_step ((go_at_call 143;exact Calls.bT hK2 (jY.out _ _ _ _ _))))
    refine wpQuiet_nil ?_
    intro w' hw'
    obtain⟨s,rfl⟩:=hw'
    clear hK0 hK2
    try clear hlt p0 p1 KA
    replace k0:=k0 s
    replace k1:=k1 s
    have hc:=jC.out (K s) (dS.out s) x.dc x.n
    rw[BX.out]at hc
    have HC:=ah hc;clear hc
    go_wp2_with(first
     |(go_at_call 144;refine HC.out.mono ?_;rintro e w3 ⟨rfl,hw3⟩;have gW:=ah ((HO.out.keep (uw.out s)).keep hw3);clear hw3 k0 k1;obtain⟨q0,q1,q2,q3⟩:=t_.out _ gW.out.aI)
     |(at_builtin;refine kT w _ [.int .i64 x.dc, .int .i64 x.n, .string x.s, .int .i64 x.k] rfl (.tmp 71) (.tmp 76) 25 rfl 100 i0 _ 4 40 Tryz.underlying25 hi hz0 hz1 hz2 (by decide) (by decide) _ _ _ gW.out 1 1 rfl rfl rfl (by simp[Value.oneCell']) (by have:=HL.out;simp only[maxLen];omega) (by have:=HL.out;omega) ?_;intro ad cc w5 dP;have OW:=ah dP;clear dP))
    go_roundw
   all_goals try(case measure=>simp[intOf];omega)
   all_goals first
    |exact⟨i+1,k,l++ [x],by omega,by omega,by go_num,by go_num,by rw[List.length_append,JG,HP.out];exact OW.out,by have:=HJ.out;rw[HST.out]at this;unfold oC at this;rw[BX.out]at this;simpa using this,by rw[List.length_append,HP.out];have:=HL.out;simp;omega⟩
    |exact⟨i+1,k,l,by omega,by omega,by go_num,by go_num,by rw[HP.out];exact gW.out,by have:=HJ.out;rw[HST.out]at this;unfold oC at this;rw[BX.out]at this;simpa using this,by rw[HP.out];have:=HL.out;omega⟩
  ·obtain⟨bB,oB,rfl,hmx,hxb⟩:=HXB.out hkm
   have yK:=ah hxb;clear hxb
   have HST:=ah (acG (ha:=hA) (hb:=hB) (a:=a) (b:=b) (i:=i) (k:=k) (by rw[HM.out];exact hkm) (by rw[HN.out];exact hcd.imp (fun h=>by omega) id))
   have hcc:i=n∨i<n∧(∃bA oA,aA=some ⟨bA,oA,none⟩∧(n:Int)≤9223372036854775807∧∀W,aj aF w W→Ky W bA (oA+i*4) (a.getD i aQ.zero))∧decide (uO (a.getD i aQ.zero).dc (a.getD i aQ.zero).n (b.getD k aQ.zero).dc (b.getD k aQ.zero).n<0)=false∧decide (uO (b.getD k aQ.zero).dc (b.getD k aQ.zero).n (a.getD i aQ.zero).dc (a.getD i aQ.zero).n<0)=true:=
    hcd.imp id fun h=>⟨h.1,Pj.out h.1,(GU _ _).trans h.2.1,(GU _ _).trans h.2.2⟩
   clear hcd
   have KA:((k:Int)==(m:Int))=false:=by simp;omega
   generalize a.getD i aQ.zero=x at*
   generalize b.getD k aQ.zero=y at*
   cases hb:hA y.dc y.n
   all_goals
    have BX:=ah hb;clear hb
    rcases hcc with rfl|⟨hin,⟨bA,oA,rfl,hnx,hxa⟩,hlt,hgt⟩
   all_goals
    have dS:=ah (fun s=>HO.out.aI.aH (uw.out s))
    obtain⟨k0,k1⟩:(∀s,(K s).cell? ⟨bB,oB+k*4,none⟩=some (.int .i64 y.dc))∧∀s,(K s).cell? ⟨bB,oB+k*4+1,none⟩=some (.int .i64 y.n):=⟨fun s=>(yK.out _ (dS.out s)).1,fun s=>(yK.out _ (dS.out s)).2.1⟩
    try have p0:∀s,(K s).cell? ⟨bA,oA+i*4,none⟩=some (.int .i64 x.dc):=fun s=>(hxa _ (dS.out s)).1
    try have p1:∀s,(K s).cell? ⟨bA,oA+i*4+1,none⟩=some (.int .i64 x.n):=fun s=>(hxa _ (dS.out s)).2.1
    try clear hxa
    try have hif:((i:Int)==(n:Int))=false:=by simp;omega
    go_wp2_with fail
    refine dX K (by kernel_rfl) (by kernel_rfl) hK0 ?_
    repeat(go_big_quiet_step ((go_at_call 143;exact Calls.bT hK2 (jY.out _ _ _ _ _))))
    refine wpQuiet_nil ?_
    intro w' hw'
    obtain⟨s,rfl⟩:=hw'
    obtain⟨β,hnb,K2,hL1,hL0,hL2⟩:=worlds (K s)
    have nG:=ah hL1;clear hL1
    replace k0:=fun r=>(nG.out r).cell' (k0 s) id
    replace k1:=fun r=>(nG.out r).cell' (k1 s) id
    try replace p0:=fun r=>(nG.out r).cell' (p0 s) id
    try replace p1:=fun r=>(nG.out r).cell' (p1 s) id
    clear hK0 hK2
    go_wp2_with fail
    refine dX K2 (by kernel_rfl) (by kernel_rfl) hL0 ?_
    repeat(go_big_quiet_step ((go_at_call 143;exact Calls.bT hL2 (jY.out _ _ _ _ _))))
    refine wpQuiet_nil ?_
    intro w' hw'
    obtain⟨r,rfl⟩:=hw'
    clear hL0 hL2
    try clear hlt p0 p1 hgt
    try clear hif
    replace k0:=k0 r
    replace k1:=k1 r
    have hc:=jF.out (K2 r) ((dS.out s).aH (nG.out r)) y.dc y.n
    rw[BX.out]at hc
    have HC:=ah hc;clear hc
    go_wp2_with(first
     |(go_at_call 144;refine HC.out.mono ?_;rintro e w3 ⟨rfl,hw3⟩;have gW:=ah (((HO.out.keep (uw.out s)).keep (nG.out r)).keep hw3);clear hw3 k0 k1;obtain⟨q0,q1,q2,q3⟩:=yK.out _ gW.out.aI)
     |(at_builtin;refine kT w _ [.int .i64 y.dc, .int .i64 y.n, .string y.s, .int .i64 y.k] rfl (.tmp 107) (.tmp 112) 25 rfl 100 i0 _ 4 40 Tryz.underlying25 hi hz0 hz1 hz2 (by decide) (by decide) _ _ _ gW.out 1 1 rfl rfl rfl (by simp[Value.oneCell']) (by have:=HL.out;simp only[maxLen];omega) (by have:=HL.out;omega) ?_;intro ad cc w5 dP;have OW:=ah dP;clear dP))
    go_roundw
   all_goals try(case measure=>simp[intOf];omega)
   all_goals first
    |exact⟨i,k+1,l++ [y],by omega,by omega,by go_num,by go_num,by rw[List.length_append,JG,HP.out];exact OW.out,by have:=HJ.out;rw[HST.out]at this;unfold oC at this;rw[BX.out]at this;simpa using this,by rw[List.length_append,HP.out];have:=HL.out;simp;omega⟩
    |exact⟨i,k+1,l,by omega,by omega,by go_num,by go_num,by rw[HP.out];exact gW.out,by have:=HJ.out;rw[HST.out]at this;unfold oC at this;rw[BX.out]at this;simpa using this,by rw[HP.out];have:=HL.out;omega⟩
  ·obtain⟨bA,oA,rfl,hnx,hxa⟩:=Pj.out hin
   obtain⟨bB,oB,rfl,hmx,hxb⟩:=HXB.out hkm
   have HST:=ah (acH (ha:=hA) (hb:=hB) (a:=a) (b:=b) (i:=i) (k:=k) (by rw[HN.out];exact hin) (by rw[HM.out];exact hkm) h1 h2)
   have hlt:=(GU _ _).trans h1
   have hgt:=(GU _ _).trans h2
   clear h1 h2
   generalize a.getD i aQ.zero=x at*
   generalize b.getD k aQ.zero=y at*
   have KA:((k:Int)==(m:Int))=false:=by simp;omega
   have hif:((i:Int)==(n:Int))=false:=by simp;omega
   have dS:=ah (fun s=>HO.out.aI.aH (uw.out s))
   have HS:=ah (fun W (f:aj aF w W)=>(show W.cell? ⟨bA,oA+i*4,none⟩=some (.int .i64 x.dc)∧W.cell? ⟨bA,oA+i*4+1,none⟩=some (.int .i64 x.n)∧W.cell? ⟨bA,oA+i*4+2,none⟩=some (.string x.s)∧W.cell? ⟨bA,oA+i*4+3,none⟩=some (.int .i64 x.k)∧W.cell? ⟨bB,oB+k*4,none⟩=some (.int .i64 y.dc)∧W.cell? ⟨bB,oB+k*4+1,none⟩=some (.int .i64 y.n)∧W.cell? ⟨bB,oB+k*4+2,none⟩=some (.string y.s)∧W.cell? ⟨bB,oB+k*4+3,none⟩=some (.int .i64 y.k)from⟨(hxa W f).1,(hxa W f).2.1,(hxa W f).2.2.1,(hxa W f).2.2.2,(hxb W f).1,(hxb W f).2.1,(hxb W f).2.2.1,(hxb W f).2.2.2⟩))
   have k0:=fun s=>(hxa _ (dS.out s)).1
   have k1:=fun s=>(hxa _ (dS.out s)).2.1
   have p0:=fun s=>(hxb _ (dS.out s)).1
   have p1:=fun s=>(hxb _ (dS.out s)).2.1
   clear hxa hxb
   go_wp2_with fail
   refine dX K (by kernel_rfl) (by kernel_rfl) hK0 ?_
   repeat(go_big_quiet_step ((go_at_call 143;exact Calls.bT hK2 (jY.out _ _ _ _ _))))
   refine wpQuiet_nil ?_
   intro w' hw'
   obtain⟨s,rfl⟩:=hw'
   obtain⟨β,hnb,K2,hL1,hL0,hL2⟩:=worlds (K s)
   have nG:=ah hL1;clear hL1
   replace k0:=fun r=>(nG.out r).cell' (k0 s) id
   replace k1:=fun r=>(nG.out r).cell' (k1 s) id
   replace p0:=fun r=>(nG.out r).cell' (p0 s) id
   replace p1:=fun r=>(nG.out r).cell' (p1 s) id
   clear hK0 hK2
   go_wp2_with fail
   refine dX K2 (by kernel_rfl) (by kernel_rfl) hL0 ?_
   repeat(go_big_quiet_step ((go_at_call 143;exact Calls.bT hL2 (jY.out _ _ _ _ _))))
   refine wpQuiet_nil ?_
   intro w' hw'
   obtain⟨r,rfl⟩:=hw'
   clear hL0 hL2 hlt hgt hif KA k0 k1 p0 p1
   have gW:=ah (((HO.out.keep (uw.out s)).keep (nG.out r)).keep (aj.drew aF _))
   have hg:=acE x y
   generalize nX x y=g at*
   have HG:=ah hg;clear hg
   go_wp2_with fail
   refine iq (S:=fun w'=>w'.cell? ⟨bA,oA+i*4,none⟩=some (.int .i64 x.dc)∧w'.cell? ⟨bA,oA+i*4+1,none⟩=some (.int .i64 x.n)∧w'.cell? ⟨bA,oA+i*4+2,none⟩=some (.string x.s)∧w'.cell? ⟨bA,oA+i*4+3,none⟩=some (.int .i64 x.k)∧w'.cell? ⟨bB,oB+k*4,none⟩=some (.int .i64 y.dc)∧w'.cell? ⟨bB,oB+k*4+1,none⟩=some (.int .i64 y.n)∧w'.cell? ⟨bB,oB+k*4+2,none⟩=some (.string y.s)∧w'.cell? ⟨bB,oB+k*4+3,none⟩=some (.int .i64 y.k)) 12 (by kernel_rfl) (HS.out _ gW.out.aI) ?_
   intro hS
   generalize (K2 r).drew=Y0 at*
   refine aX 0 22 rfl rfl ?_
   refine aX 1 23 rfl rfl ?_
   try simp only[Act.put,aO,aN,aJ]
   refine aX 2 24 rfl rfl ?_
   refine aX 3 25 rfl rfl ?_
   try simp only[Act.put,aO,aN,aJ]
   refine aX 4 26 rfl rfl ?_
   refine aX 5 27 rfl rfl ?_
   try simp only[Act.put,aO,aN,aJ]
   refine aX 6 28 rfl rfl ?_
   refine aX 7 29 rfl rfl ?_
   try simp only[Act.put,aO,aN,aJ]
   refine aX 8 30 rfl rfl ?_
   try simp only[Act.put,aO,aN,aJ]
   refine bg (i:=9) (by kernel_rfl) rfl (fun K hK=>?_)
   go_simp
   refine(HG.out _).mono ?_
   rintro e Y ⟨rfl,hf3⟩
   have Pm:=ah (gW.out.keep hf3);clear hf3
   have hS3:=HS.out Y Pm.out.aI
   refine hK.out _ _ hS3 ?_
   clear hK K hS
   try simp only[Act.put,aO,aN,aJ]
   refine bg (i:=10) (by kernel_rfl) rfl (fun K hK=>?_)
   go_simp
   have hS4:=HS.out (Y.alloc (.cells #[.int .i64 g.dc, .int .i64 g.n, .string g.s, .int .i64 g.k] 100)) (Pm.out.aI.alloc1)
   refine hK.out _ _ hS4 ?_
   clear hK K
   try simp only[Act.put,aO,aN,aJ]
   refine bg (i:=11) (by kernel_rfl) rfl (fun K hK=>?_)
   refine FX w Y [.int .i64 g.dc, .int .i64 g.n, .string g.s, .int .i64 g.k] rfl (.tmp 22) (.tmp 32) 25 rfl 100 i0 _ 4 40 Tryz.underlying25 hi hz0 hz1 hz2 (by decide) (by decide) (.slice av p cv) p _ Pm.out 1 1 (by simp[Act.eval]) (by simp[Act.eval]) rfl (by simp[Value.oneCell']) (by have:=HL.out;simp only[maxLen];omega) (by have:=HL.out;omega) ?_
   intro ad cc w2 bP
   have OW:=ah bP;clear bP
   have hS5:=HS.out w2 OW.out.aI
   refine hK.out _ _ hS5 ?_
   clear hK K hS4 hS3
   try simp only[Act.put,aO,aN,aJ]
   refine gJ (by kernel_rfl) (by kernel_rfl) rfl (fun K hK=>?_)
   clear hS5
   go_simp
   refine hK.out _ _ ?_
   clear hK K
   go_wp2
   go_roundw
   case rel=>exact⟨i+1,k+1,l++ [g],by omega,by omega,by go_num,by go_num,by rw[List.length_append,JG,HP.out];exact OW.out,by have:=HJ.out;rw[HST.out]at this;simpa using this,by rw[List.length_append,HP.out];have:=HL.out;simp;omega⟩
   case measure=>simp[intOf];omega
  ·go_wp2
   go_ret
   have:J=l:=by
    rw[←HJ.out,List.drop_eq_nil_of_le (by rw[HN.out];exact Nat.le_refl _),List.drop_eq_nil_of_le (by rw[HM.out];exact Nat.le_refl _),iG,List.append_nil]
   rw[this]
   exact⟨_,rfl,by rw[HP.out];exact HO.out⟩
open Go.RowKit
theorem aT.sH:∀ks:aT,ks.keys.length=ks.len
 | .nil=>rfl
 | .cons _ _ _ rest=>by simp[aT.keys,aT.len,rest.sH]
theorem aT.KC:∀(t:Nat) {ks:aT} {key:ByteArray} {es:List aQ} {sub rest:aT},ks.drop t= .cons key es sub rest→t<ks.keys.length∧ks.keys.getD t ByteArray.empty=key
 |0, .cons _ _ _ _,_,_,_,_,h=>by cases h;simp[aT.keys]
 |0, .nil,_,_,_,_,h=>by cases h
 |_+1, .nil,_,_,_,_,h=>by cases h
 |t+1, .cons _ _ _ r,_,_,_,_,h=>by
  obtain⟨h1,h2⟩:=aT.KC t (ks:=r) h
  simp only[aT.keys,List.length_cons,List.getD_cons_succ]
  exact⟨by omega,h2⟩
theorem VB:∀(t:Nat) {ks:aT} {key:ByteArray} {es:List aQ} {sub rest:aT},jL ks.keys→ks.drop t= .cons key es sub rest→ks.find key=(es,sub)
 |0, .cons _ _ _ _,_,_,_,_,_,h=>by cases h;simp[aT.find]
 |0, .nil,_,_,_,_,_,h=>by cases h
 |_+1, .nil,_,_,_,_,_,h=>by cases h
 |t+1, .cons k0 _ _ r,key,_,_,_,o,h=>by
  obtain⟨h1,h2⟩:=List.pairwise_cons.1 o
  obtain⟨g1,g2⟩:=aT.KC t (ks:=r) h
  have hk:key∈r.keys:=by rw[←g2,getD_at _ g1];exact List.getElem_mem _
  have hne:k0≠key:=fun e=>by have:=h1 key hk;rw[e,nH]at this;cases this
  unfold aT.find
  rw[if_neg hne]
  exact VB t h2 h
theorem VD:∀ {ks:aT} {s:ByteArray},s∉ks.keys→ks.find s=([], .nil)
 | .nil,_,_=>rfl
 | .cons k0 _ _ r,s,h=>by
   unfold aT.find
   rw[if_neg (fun e=>h (by rw[e];simp[aT.keys]))]
   exact VD fun hm=>h (by simp[aT.keys,hm])
theorem GY {l:List ByteArray} (o:jL l) {a b:Nat} (hab:a<b) (hb:b<l.length):dL (l.getD a ByteArray.empty) (l.getD b ByteArray.empty)=true:=by
 rw[getD_at _ hb,getD_at _ (Nat.lt_trans hab hb)]
 exact(List.pairwise_iff_getElem.1 o) a b _ hb hab
theorem VE {l:List ByteArray} {s:ByteArray} {p:Nat} (o:jL l) (h1:∀t,t<p→dL (l.getD t ByteArray.empty) s=true) (h2:p<l.length→dL s (l.getD p ByteArray.empty)=true):s∉l:=fun hm=>by
 obtain⟨t,ht,he⟩:=List.getElem_of_mem hm
 have hd:l.getD t ByteArray.empty=s:=by rw[getD_at _ ht];exact he
 rcases Nat.lt_trichotomy t p with h|h|h
 ·have:=h1 t h;rw[hd,nH]at this;cases this
 ·subst h;have:=h2 ht;rw[hd,nH]at this;cases this
 ·have:=uY (h2 (by omega)) (GY o h ht);rw[hd,nH]at this;cases this
theorem acJ (a b:ByteArray):decide (pY a b<0)=dL a b:=by
 unfold pY
 cases dL a b
 ·cases dL b a<;>simp
 ·simp
theorem acK (a b:ByteArray):(pY a b==0)=(!dL a b&& !dL b a):=by
 unfold pY
 cases dL a b
 ·cases dL b a<;>simp
 ·simp
theorem acL (key s:ByteArray) (ev kv:Value) (w:World) (h1:∃a n c,ev= .slice a n c) (h2:∃a n c,kv= .slice a n c):Calls Tryz.prog 149 #[.agg #[.string key,ev,kv], .string s] w fun e w'=>e= .returned (.int .i64 (pY key s))∧aj aF w w':=by
 obtain⟨a,n,c,rfl⟩:=h1
 obtain⟨a',n',c',rfl⟩:=h2
 go_enter Tryz.func149,Tryz.ntmps149
 go_wp2_with(go_at_call 150;refine(Pg _ _ _).mono ?_;rintro e w' ⟨rfl,rfl⟩)
 go_ret
 exact⟨rfl,aj.alloc _ _ _⟩
theorem acM (Q:Nat→Prop) (ks:aT) (os:List (Value×Value)) (s:ByteArray) (w:World) (kv:Value) (hk:Rd w kv ks.len (jG ks os)) (hf:jX Q w ks os) (o:jL ks.keys) (hl:ks.len≤100000):
 Calls Tryz.prog 148 #[kv, .string s, .func (.func 149) #[] #[]] w fun e w'=>∃(p:Nat) (f:Bool),e= .returned (.tuple #[.int .i64 p, .bool f])∧aj aF w w'∧(f=true→p<ks.len∧ks.keys.getD p ByteArray.empty=s)∧(f=false→s∉ks.keys):=by
 have eg:∀args w,(callFunc 149 args).run Tryz.prog w= .ok (.enter 149 args) w:=enters_of Tryz.func149 (by kernel_rfl) rfl
 obtain⟨aK,cK,rfl⟩:=hk.sl
 have iZ:=ah ks.sH
 have HK:=ah hk;clear hk
 have HF:=ah hf;clear hf
 have OK:=ah o;clear o
 generalize hn:ks.len=n at*
 have HN:=ah hn;clear hn
 go_enter Tryz.func148,Tryz.ntmps148
 go_wp2
 go_loopw [9,10] (fun iv jv W=>∃lo hi:Nat,iv= .int .i64 lo∧jv= .int .i64 hi∧lo≤hi∧hi≤n∧aj aF w W∧(∀t,t<lo→dL (ks.keys.getD t ByteArray.empty) s=true)∧(∀t,hi≤t→t<n→dL (ks.keys.getD t ByteArray.empty) s=false)) (fun iv jv _=>(intOf jv).toNat-(intOf iv).toNat)
 case atStart=>exact⟨0,n,rfl,rfl,Nat.zero_le _,Nat.le_refl _,aj.refl _ _,fun t ht=>absurd ht (Nat.not_lt_zero _),fun t h1 h2=>by omega⟩
 case round=>
  obtain⟨lo,hi,rfl,rfl,hlh,hin,hw,h1,h2⟩:=hrel
  have HW:=ah hw;clear hw
  have H1:=ah h1;clear h1
  have H2:=ah h2;clear h2
  have xk:∀t,t<n→∃b off,aK=some ⟨b,off,none⟩∧(n:Int)≤9223372036854775807∧∃a0 n0 c0 a1 n1 c1,wr.cell? ⟨b,off+t*3,none⟩=some (.string (ks.keys.getD t ByteArray.empty))∧wr.cell? ⟨b,off+t*3+1,none⟩=some (.slice a0 n0 c0)∧wr.cell? ⟨b,off+t*3+2,none⟩=some (.slice a1 n1 c1):=fun t ht=>by
   rcases Rd.shape HK.out with⟨ad,he,h0⟩|⟨b,off,cc,he,hmax⟩
   ·omega
   ·injection he with e1 e2 e3
    subst e1 e3
    obtain⟨key,es,sub,rest,hdr⟩:=aT.uf (n:=t) (ks:=ks) (by rw[HN.out];exact ht)
    obtain⟨ev',kv',q0,q1,q2,hta⟩:=rD (HN.out.symm▸HK.out.aS HW.out) (HF.out.aS HW.out) hdr
    obtain⟨a0,c0,rfl⟩:=hta.ents.rd.sl
    obtain⟨os',ji,-⟩:=hta.kids
    obtain⟨a1,c1,rfl⟩:=ji.rd.sl
    refine⟨b,off,rfl,hmax,_,_,_,_,_,_,?_,q1,q2⟩
    rw[(aT.KC t hdr).2];exact q0
  have XK:=ah xk;clear xk
  have HC:=ah (fun key a0 n0 c0 a1 n1 c1 W=>acL key s (.slice a0 n0 c0) (.slice a1 n1 c1) W ⟨_,_,_,rfl⟩ ⟨_,_,_,rfl⟩)
  by_cases hlt:lo<hi
  ·obtain⟨b,off,rfl,hmax,a0,n0,c0,a1,n1,c1,q0,q1,q2⟩:=XK.out ((lo+hi)/2) (by omega)
   have HS:=ah (acJ (ks.keys.getD ((lo+hi)/2) ByteArray.empty) s)
   have HY:=ah (rfl:ks.keys.getD ((lo+hi)/2) ByteArray.empty=ks.keys.getD ((lo+hi)/2) ByteArray.empty)
   generalize hy:ks.keys.getD ((lo+hi)/2) ByteArray.empty=y at q0 HS
   have BZ:=ah hy;clear hy HY
   cases hq:dL y s
   all_goals
    have HQ:=ah hq;clear hq
    have hz:=HS.out.trans HQ.out
    go_wp2_with(go_at_call 149;refine(HC.out _ _ _ _ _ _ _ _).mono ?_;rintro e w1 ⟨rfl,hw1⟩;have HW1:=ah (HW.out.aH hw1);clear hw1 q0 q1 q2)
    go_roundw
   all_goals try(case measure=>simp[intOf];omega)
   ·refine⟨lo,(lo+hi)/2,rfl,by rw[show((lo:Int)+(hi:Int))/2=(((lo+hi)/2:Nat):Int) by omega],by omega,by omega,HW1.out,H1.out,fun t ht htn=>?_⟩
    rcases Nat.eq_or_lt_of_le ht with he|he
    ·rw[←he,BZ.out];exact HQ.out
    ·have h0:=GY OK.out he (by rw[iZ.out];exact htn)
     rw[BZ.out]at h0
     cases h3:dL (ks.keys.getD t ByteArray.empty) s with
     |false=>rfl
     |true=>have:=uY h0 h3;rw[HQ.out]at this;cases this
   ·refine⟨(lo+hi)/2+1,hi,by rw[show((lo:Int)+(hi:Int))/2+1=(((lo+hi)/2+1:Nat):Int) by omega],rfl,by omega,by omega,HW1.out,fun t ht=>?_,H2.out⟩
    rcases Nat.eq_or_lt_of_le (Nat.le_of_lt_succ ht)with he|he
    ·rw[he,BZ.out];exact HQ.out
    ·have h0:=GY OK.out he (by rw[iZ.out];omega)
     rw[BZ.out]at h0
     exact uY h0 HQ.out
  ·obtain rfl:lo=hi:=by omega
   by_cases hn:lo<n
   ·obtain⟨b,off,rfl,hmax,a0,n0,c0,a1,n1,c1,q0,q1,q2⟩:=XK.out lo hn
    have hY:=H2.out lo (Nat.le_refl _) hn
    have hz0:=acK (ks.keys.getD lo ByteArray.empty) s
    generalize hy:ks.keys.getD lo ByteArray.empty=y at q0 hY hz0
    have BZ:=ah hy;clear hy
    cases hq:dL s y
    all_goals
     have HQ:=ah hq
     have HY:=ah hY
     rw[hY,hq]at hz0
     have HZ:=ah hz0
     clear hq hz0
     go_wp2_with(go_at_call 149;refine(HC.out _ _ _ _ _ _ _ _).mono ?_;rintro e w1 ⟨rfl,hw1⟩;have HW1:=ah (HW.out.aH hw1);clear hw1 q0 q1 q2)
     go_ret2
    ·refine⟨lo,true,?_,HW1.out,fun _=>⟨hn,?_⟩,fun h=>(by cases h)⟩
     ·show Ending.returned (.tuple #[.int .i64 lo, .bool (pY y s==0)])=_
      rw[HZ.out];rfl
     ·rw[BZ.out];exact BR HY.out HQ.out
    ·refine⟨lo,false,?_,HW1.out,fun h=>(by cases h),fun _=>VE OK.out H1.out fun _=>?_⟩
     ·show Ending.returned (.tuple #[.int .i64 lo, .bool (pY y s==0)])=_
      rw[HZ.out];rfl
     ·rw[BZ.out];exact HQ.out
   ·go_wp2
    go_ret2
    exact⟨lo,false,rfl,HW.out,fun h=>(by cases h),fun _=>VE OK.out H1.out fun h=>absurd (show lo<n by rw[iZ.out]at h;exact h) hn⟩
theorem acN (Q:Nat→Prop) (ks:aT) (os:List (Value×Value)) (s:ByteArray) (w:World) (kv:Value) (hk:Rd w kv ks.len (jG ks os)) (hf:jX Q w ks os) (o:jL ks.keys) (hl:ks.len≤100000):
 Calls Tryz.prog 148 #[kv, .string s, .func (.func 149) #[] #[]] w fun e w'=>∃p:Nat,e= .returned (.tuple #[.int .i64 p, .bool (tf (s∈ks.keys))])∧aj aF w w'∧(s∈ks.keys→p<ks.len∧ks.keys.getD p ByteArray.empty=s):=
 (acM Q ks os s w kv hk hf o hl).mono fun e w' ⟨p,f,he,hw,h1,h2⟩=>by
   cases f with
   |true=>
    obtain⟨g1,g2⟩:=h1 rfl
    have hm:s∈ks.keys:=by
     have h3:p<ks.keys.length:=by rw[aT.sH];exact g1
     rw[←g2,getD_at _ h3];exact List.getElem_mem _
    exact⟨p,by rw[he,gu hm],hw,fun _=>⟨g1,g2⟩⟩
   |false=>exact⟨p,by rw[he,eH (h2 rfl)],hw,fun h=>absurd h (h2 rfl)⟩
theorem acO {l:List ByteArray} (o:jL l) {a b:Nat} (ha:a<l.length) (hb:b<l.length) (h:l.getD a ByteArray.empty=l.getD b ByteArray.empty):a=b:=by
 rcases Nat.lt_trichotomy a b with g|g|g
 ·have:=GY o g hb;rw[h,nH]at this;cases this
 ·exact g
 ·have:=GY o g ha;rw[h,nH]at this;cases this
theorem VF (Q:Nat→Prop) (es:List aQ) (ks:aT) (s:ByteArray) (w:World) (ev kv:Value) (h:bZ Q w ev kv es ks) (o:jL ks.keys) (hl:ks.len≤100000):
 ∃(a:Option Addr) (n c:Nat) (a':Option Addr) (n' c':Nat),bZ Q w (.slice a n c) (.slice a' n' c') (ks.find s).1 (ks.find s).2∧
  ∀W,aj aF w W→Calls Tryz.prog 112 #[.agg #[ev,kv], .string s] W fun e w'=>e= .returned (.agg #[.slice a n c, .slice a' n' c'])∧aj aF W w':=by
 obtain⟨aE,cE,rfl⟩:=h.ents.rd.sl
 obtain⟨os,hk,hf⟩:=h.kids
 obtain⟨aK,cK,rfl⟩:=hk.rd.sl
 have HB:=ah (fun W (f:aj aF w W)=>acN Q ks os s W _ (hk.rd.aS f) (hf.aS f) o hl)
 have HK:=ah hk;clear hk
 have HF:=ah hf;clear hf
 have OK:=ah o;clear o h
 generalize es.length=m at*
 generalize hn:ks.len=n at*
 have HN:=ah hn;clear hn
 have HB0:=ah (fun W:World=>(show((W.alloc (.cells #[.slice aE m cE, .slice aK n cK] 28)).alloc (.cells #[.slice none 0 0, .slice none 0 0] 28)).heap[W.heap.size]?=some (.cells #[.slice aE m cE, .slice aK n cK] 28 (0,0)) by rw[Below.heap_alloc _ _ _ (by simp)];exact heap_alloc_new W _))
 have xR:=ah (fun W:World=>lY W (.cells #[.slice aE m cE, .slice aK n cK] 28) #[.slice none 0 0, .slice none 0 0] 28)
 by_cases hm:s∈ks.keys
 ·rw[gu hm]at HB
  obtain⟨p0,hp0,hs0⟩:=List.getElem_of_mem hm
  have hsd:ks.keys.getD p0 ByteArray.empty=s:=by rw[getD_at _ hp0];exact hs0
  have hpn:p0<n:=by rw[←HN.out,←aT.sH];exact hp0
  rcases Rd.shape HK.out.rd with⟨ad,he,h0⟩|⟨b,off,cc,he,hmax⟩
  ·omega
  injection he with e1 e2 e3
  subst e1 e3
  clear e2
  obtain⟨key,es',sub,rest,hdr⟩:=aT.uf (n:=p0) (ks:=ks) (by rw[HN.out];exact hpn)
  have hkey:=(aT.KC p0 hdr).2.symm.trans hsd
  subst hkey
  obtain⟨ev',kv',-,q1,q2,hta⟩:=rD (HN.out.symm▸HK.out.rd) HF.out hdr
  rw[VB p0 OK.out hdr]
  obtain⟨a0,c0,rfl⟩:=hta.ents.rd.sl
  obtain⟨os',ji,-⟩:=hta.kids
  obtain⟨a1,c1,rfl⟩:=ji.rd.sl
  refine⟨a0,_,c0,a1,_,c1,hta,fun W hW=>?_⟩
  have xU:=ah (fun p (h:p<n) (h2:ks.keys.getD p ByteArray.empty=key)=>acO OK.out (by rw[aT.sH,HN.out];exact h) hp0 (h2.trans hsd.symm))
  have HQ:=ah (fun W (f:aj aF w W)=>(show W.cell? ⟨b,off+p0*3+1,none⟩=some (.slice a0 es'.length c0)∧W.cell? ⟨b,off+p0*3+2,none⟩=some (.slice a1 sub.len c1)from⟨f.cell' q1 id,f.cell' q2 id⟩))
  have HM:=ah hm;clear hm
  clear hta ji q1 q2 hdr hs0 hsd
  generalize es'.length=n0 at*
  generalize sub.len=n1 at*
  have HW:=ah hW;clear hW
  obtain⟨hb1,hfr,-⟩:=xR.out W
  have HB1:=ah hb1;clear hb1
  have nD:=ah hfr;clear hfr
  go_enter Tryz.func112,Tryz.ntmps112
  go_wp2_with(go_at_call 148;refine(HB.out _ (HW.out.aH nD.out)).mono ?_;rintro e w1 ⟨p,rfl,hw1,h1⟩;obtain⟨hp,hps⟩:=h1 HM.out;obtain rfl:=xU.out p hp hps;obtain⟨q1,q2⟩:=HQ.out w1 ((HW.out.aH nD.out).aH hw1);have HW1:=ah hw1;clear hw1;have y1:w1.cell? ⟨W.heap.size,1,none⟩=some (.slice (some ⟨b,off,none⟩) n cK):=HW1.out.cell' (aG (HB0.out W) 1 rfl) id;have z0:=aG (HW1.out.blk HB1.out id) 0 rfl;have z1:=aG (HW1.out.blk HB1.out id) 1 rfl;have f0:=aW (HW1.out.blk HB1.out id) 0;have f1:=aW (HW1.out.blk HB1.out id) 1)
  obtain⟨r0,r1,-⟩:=res2 (HW1.out.blk HB1.out id) (nD.out.aH HW1.out) (by omega) (.slice a0 n0 c0) (.slice a1 n1 c1)
  clear z0 z1
  have y0:=aG r0 0 rfl
  have y1:=aG r0 1 rfl
  exact bodyPost_ret (v:= .agg #[.slice a0 n0 c0, .slice a1 n1 c1]) (by simp[results,Tryz.results112,go_sem,y0,y1]) rfl ⟨rfl,r1⟩
 ·rw[eH hm]at HB
  rw[VD hm]
  clear hm
  refine⟨none,0,0,none,0,0,⟨⟨.inl ⟨none,rfl,rfl,rfl⟩,fun h=>absurd rfl h⟩,[],⟨.inl ⟨none,rfl,rfl,rfl⟩,fun h=>absurd rfl h⟩,rfl⟩,fun W hW=>?_⟩
  have HW:=ah hW;clear hW
  obtain⟨hb1,hfr,-⟩:=xR.out W
  have HB1:=ah hb1;clear hb1
  have nD:=ah hfr;clear hfr
  go_enter Tryz.func112,Tryz.ntmps112
  go_wp2_with(go_at_call 148;refine(HB.out _ (HW.out.aH nD.out)).mono ?_;rintro e w1 ⟨p,rfl,hw1,-⟩;have HW1:=ah hw1;clear hw1;have y1:w1.cell? ⟨W.heap.size,1,none⟩=some (.slice aK n cK):=HW1.out.cell' (aG (HB0.out W) 1 rfl) id;have z0:=aG (HW1.out.blk HB1.out id) 0 rfl;have z1:=aG (HW1.out.blk HB1.out id) 1 rfl;have f0:=aW (HW1.out.blk HB1.out id) 0;have f1:=aW (HW1.out.blk HB1.out id) 1)
  obtain⟨r0,r1,-⟩:=res2 (HW1.out.blk HB1.out id) (nD.out.aH HW1.out) (by omega) (.slice none 0 0) (.slice none 0 0)
  clear z0 z1
  have y0:=aG r0 0 rfl
  have y1:=aG r0 1 rfl
  exact bodyPost_ret (v:= .agg #[.slice none 0 0, .slice none 0 0]) (by simp[results,Tryz.results112,go_sem,y0,y1]) rfl ⟨rfl,r1⟩
open Go.RowKit
theorem acP (n:Nat) (w:World) (hn:n≤1000000):Calls Tryz.prog 146 #[.slice none 0 0, .int .i64 n] w fun e w'=>∃v,e= .returned v∧OwnAt w w' 52 3 v 0 []:=by
 rcases Nat.eq_zero_or_pos n with rfl|h0
 ·go_enter Tryz.func146,Tryz.ntmps146
  go_wp2
  go_ret
  exact⟨_,rfl,OwnAt.nil (aj.refl _ _) _ _⟩
 ·obtain⟨i0,hi,hz0,hz1,hz2⟩:=info_parts BO
  have hrz:∀ty,(Builtin.append_ #[26,3] ty #[.slice none 0 0, .int .i64 (n:Int)]).run Tryz.prog w=
   .ok (.slice (some ⟨w.heap.size,0,none⟩) n (grownCap w n 0 52)) (w.drew.alloc (.cells (Builtin.zeroCells #[.string ByteArray.empty, .slice none 0 0, .slice none 0 0] n++Builtin.zeroCells #[.string ByteArray.empty, .slice none 0 0, .slice none 0 0] (grownCap w n 0 52-n)) 52)):=fun ty=>by
   have h:=Lib.run_append_grow_zeros w 26 3 ty 52 i0 _ .i64 .i64 Tryz.underlying26 Tryz.underlying3 hi hz0 none 0 0 [] (by simp[Builtin.firstCells]) n h0 (by omega) (by omega) (by omega) (by rw[hz2];omega) (by rw[hz2];exact growslice_fits (by omega) (by omega))
   simp only[Nat.zero_add,Array.empty_append,List.nil_append]at h
   simpa[Value.cells]using h
  have hG:=grownCap_ge w n 0 52
  have hM:=grownCap_le_maxLen w n 0 52 (by unfold maxLen;omega)
  generalize grownCap w n 0 52=G at*
  have HG:=ah hG;clear hG
  have hM:(G:Int)≤9223372036854775807:=by unfold maxLen at hM;omega
  go_enter Tryz.func146,Tryz.ntmps146
  go_wp2_with(at_builtin;refine Lib.wpList_append_run _ rfl _ _ _ _ rfl _ _ rfl rfl _ _ (hrz _) ?_)
  go_ret
  refine⟨_,rfl,⟨⟨rfl, .inr ⟨w.heap.size,G,_,rfl,Nat.zero_le _,heap_alloc_new _ _,Nat.zero_le _,by unfold maxLen;omega,?_,rfl⟩⟩,?_,(aj.drew _ _).alloc1⟩⟩
  ·rw[Array.size_append,size_zeroCells,size_zeroCells]
   have:=HG.out
   show n*3+(G-n)*3=G*3
   omega
  ·intro k hk
   simp[Value.ownBlock]at hk
   omega
theorem acQ (w:World) (b c:Nat) (va vb:Value) (xs ys:List Value) (n m:Nat) (h0:w.cell? ⟨b,0,none⟩=some va) (h1:w.cell? ⟨b,1,none⟩=some vb) (ha:Rd w va n xs) (hb:Rd w vb m ys) (lx:xs.length=n*3) (ly:ys.length=m*3) (ox:∀v∈xs,v.oneCell'=true) (oy:∀v∈ys,v.oneCell'=true) (la:n≤200000) (lb:m≤200000):
 Calls Tryz.prog 109 #[.slice (some ⟨b,0,none⟩) 2 c] w fun e w'=>∃v',e= .returned v'∧OwnAt w w' 52 3 v' (n+m) (xs++ys):=by
 obtain⟨i0,hi,hz0,hz1,hz2⟩:=info_parts BO
 obtain⟨aA,cA,rfl⟩:=ha.sl
 obtain⟨aB,cB,rfl⟩:=hb.sl
 have HA:=ah ha;clear ha
 have HB:=ah hb;clear hb
 have HG:=ah (fun w'=>acP (n+m) w' (by omega))
 go_enter Tryz.func109,Tryz.ntmps109
 go_wp2
 go_loop [3,11] (fun s i=>∃k:Nat,k≤2∧i= .int .i64 k∧s= .int .i64 ((if k=0 then 0 else if k=1 then n else n+m:Nat):Int)) (fun _ i=>2-(intOf i).toNat)
 case atStart=>exact⟨0,by omega,rfl,rfl⟩
 case round=>
  obtain⟨k,hk,rfl,rfl⟩:=hrel
  rcases(by omega:k=0∨k=1∨k=2)with rfl|rfl|rfl
  ·rw[if_pos rfl]
   go_wp2
   go_round
   case rel=>exact⟨1,by omega,rfl,by simp⟩
   case measure=>simp[intOf]
  ·rw[if_neg (by decide),if_pos rfl]
   go_wp2
   go_round
   case rel=>exact⟨2,by omega,rfl,by simp⟩
   case measure=>simp[intOf]
  ·rw[if_neg (by decide),if_neg (by decide)]
   go_wp2_with(go_at_call 146;refine(HG.out _).mono ?_;rintro e w1 ⟨v1,rfl,ho1⟩;obtain⟨a1,c1,rfl⟩:=ho1.shape;have dZ:=ah ho1;clear ho1)
   go_loopw [6,27] (fun v i ww=>∃k:Nat,k≤2∧i= .int .i64 k∧OwnAt w ww 52 3 v (if k=0 then 0 else if k=1 then n else n+m) (if k=0 then []else if k=1 then xs else xs++ys)) (fun _ i _=>2-(intOf i).toNat)
   case atStart=>exact⟨0,by omega,rfl,dZ.out⟩
   case round=>
    obtain⟨k,hk,rfl,ho⟩:=hrel
    rcases(by omega:k=0∨k=1∨k=2)with rfl|rfl|rfl
    ·have ho:OwnAt w wr 52 3 _ 0 []:=ho
     obtain⟨a2,c2,rfl⟩:=ho.shape
     have HO:=ah ho;clear ho
     have q0:=HO.out.aI.cell' h0 id
     go_wp2_with(at_builtin;refine rC w _ _ rfl (.tmp 31) (.tmp 32) 26 26 rfl 52 52 i0 _ 3 64 Tryz.underlying26 Tryz.underlying26 hi hz0 hz1 hz2 (by decide) (by decide) _ _ _ HO.out _ n rfl rfl (HA.out.aS HO.out.aI) lx ox (by simp only[maxLen];omega) (by omega) ?_;intro ad cc w5 dP;have OW:=ah dP;clear dP)
     go_roundw
     case rel=>exact⟨1,by omega,rfl,by have:=OW.out;simp at this⊢;exact this⟩
     case measure=>simp[intOf]
    ·have ho:OwnAt w wr 52 3 _ n xs:=ho
     obtain⟨a2,c2,rfl⟩:=ho.shape
     have HO:=ah ho;clear ho
     have q1:=HO.out.aI.cell' h1 id
     go_wp2_with(at_builtin;refine rC w _ _ rfl (.tmp 31) (.tmp 32) 26 26 rfl 52 52 i0 _ 3 64 Tryz.underlying26 Tryz.underlying26 hi hz0 hz1 hz2 (by decide) (by decide) _ _ _ HO.out _ m rfl rfl (HB.out.aS HO.out.aI) ly oy (by simp only[maxLen];omega) (by omega) ?_;intro ad cc w5 dP;have OW:=ah dP;clear dP)
     go_roundw
     case rel=>exact⟨2,by omega,rfl,by have:=OW.out;simp at this⊢;exact this⟩
     case measure=>simp[intOf]
    ·have ho:OwnAt w wr 52 3 _ (n+m) (xs++ys):=ho
     obtain⟨a2,c2,rfl⟩:=ho.shape
     have HO:=ah ho;clear ho
     go_wp2
     go_ret
     exact⟨_,rfl,HO.out⟩
end Go.Proofs.YtlhmbkjdfjoilaaGreat
namespace Go.Proofs
open Go.Shelf
def Tryz.strSortL_ren:Go.Shelf.Ren:=⟨fun|190=>110|125=>76|258=>147|128=>106|129=>107|302=>174|303=>175|304=>176|305=>177|306=>178|307=>179|308=>180|309=>181|310=>182|333=>190|329=>139|330=>140|334=>191|335=>192|336=>183|344=>202|n=>n,fun|31=>101|9=>9|3=>3|46=>130|0=>0|51=>73|53=>153|4=>4|183=>145|182=>144|131=>149|5=>5|218=>190|222=>194|228=>220|229=>221|n=>n,fun|n=>n⟩
theorem Tryz.strSortL:Go.Proofs.Lays.n190 Tryz.prog Tryz.strSortL_ren:= {
 mixed:=by kernel_rfl
 f125:=Tryz.func76.trans (congrArg some (by kernel_rfl))
 f128:=Tryz.func106.trans (congrArg some (by kernel_rfl))
 f129:=Tryz.func107.trans (congrArg some (by kernel_rfl))
 f190:=Tryz.func110.trans (congrArg some (by kernel_rfl))
 f258:=Tryz.func147.trans (congrArg some (by kernel_rfl))
 f302:=Tryz.func174.trans (congrArg some (by kernel_rfl))
 f303:=Tryz.func175.trans (congrArg some (by kernel_rfl))
 f304:=Tryz.func176.trans (congrArg some (by kernel_rfl))
 f305:=Tryz.func177.trans (congrArg some (by kernel_rfl))
 f306:=Tryz.func178.trans (congrArg some (by kernel_rfl))
 f307:=Tryz.func179.trans (congrArg some (by kernel_rfl))
 f308:=Tryz.func180.trans (congrArg some (by kernel_rfl))
 f309:=Tryz.func181.trans (congrArg some (by kernel_rfl))
 f310:=Tryz.func182.trans (congrArg some (by kernel_rfl))
 f329:=Tryz.func139.trans (congrArg some (by kernel_rfl))
 f330:=Tryz.func140.trans (congrArg some (by kernel_rfl))
 f333:=Tryz.func190.trans (congrArg some (by kernel_rfl))
 f334:=Tryz.func191.trans (congrArg some (by kernel_rfl))
 f335:=Tryz.func192.trans (congrArg some (by kernel_rfl))
 f336:=Tryz.func183.trans (congrArg some (by kernel_rfl))
 f344:=Tryz.func202.trans (congrArg some (by kernel_rfl))
 t0:=Tryz.underlying0
 a0:=Tryz.isAgg0
 z0:=Tryz.sizeOf0
 v0:=Tryz.zeroValue0
 t3:=Tryz.underlying3
 a3:=Tryz.isAgg3
 z3:=Tryz.sizeOf3
 v3:=Tryz.zeroValue3
 t4:=Tryz.underlying4
 a4:=Tryz.isAgg4
 z4:=Tryz.sizeOf4
 v4:=Tryz.zeroValue4
 t5:=Tryz.underlying5
 a5:=Tryz.isAgg5
 z5:=Tryz.sizeOf5
 v5:=Tryz.zeroValue5
 t9:=Tryz.underlying9
 a9:=Tryz.isAgg9
 z9:=Tryz.sizeOf9
 v9:=Tryz.zeroValue9
 t31:=Tryz.underlying101
 a31:=Tryz.isAgg101
 z31:=Tryz.sizeOf101
 v31:=Tryz.zeroValue101
 t46:=Tryz.underlying130
 a46:=Tryz.isAgg130
 z46:=Tryz.sizeOf130
 v46:=Tryz.zeroValue130
 t51:=Tryz.underlying73
 a51:=Tryz.isAgg73
 z51:=Tryz.sizeOf73
 v51:=Tryz.zeroValue73
 t53:=Tryz.underlying153
 a53:=Tryz.isAgg153
 z53:=Tryz.sizeOf153
 v53:=Tryz.zeroValue153
 t131:=Tryz.underlying149
 a131:=Tryz.isAgg149
 z131:=Tryz.sizeOf149
 v131:=Tryz.zeroValue149
 t182:=Tryz.underlying144
 a182:=Tryz.isAgg144
 z182:=Tryz.sizeOf144
 v182:=Tryz.zeroValue144
 t183:=Tryz.underlying145
 a183:=Tryz.isAgg145
 z183:=Tryz.sizeOf145
 v183:=Tryz.zeroValue145
 t218:=Tryz.underlying190
 a218:=Tryz.isAgg190
 z218:=Tryz.sizeOf190
 v218:=Tryz.zeroValue190
 t222:=Tryz.underlying194
 a222:=Tryz.isAgg194
 z222:=Tryz.sizeOf194
 v222:=Tryz.zeroValue194
 t228:=Tryz.underlying220
 a228:=Tryz.isAgg220
 z228:=Tryz.sizeOf220
 v228:=Tryz.zeroValue220
 t229:=Tryz.underlying221
 a229:=Tryz.isAgg221
 z229:=Tryz.sizeOf221
 v229:=Tryz.zeroValue221}
def Tryz.strCompL_ren:Go.Shelf.Ren:=⟨fun|194=>111|n=>n,fun|31=>101|9=>9|3=>3|4=>4|0=>0|n=>n,fun|n=>n⟩
theorem Tryz.strCompL:Go.Proofs.Lays.n194 Tryz.prog Tryz.strCompL_ren:= {
 mixed:=by kernel_rfl
 f194:=Tryz.func111.trans (congrArg some (by kernel_rfl))
 t0:=Tryz.underlying0
 a0:=Tryz.isAgg0
 z0:=Tryz.sizeOf0
 v0:=Tryz.zeroValue0
 t3:=Tryz.underlying3
 a3:=Tryz.isAgg3
 z3:=Tryz.sizeOf3
 v3:=Tryz.zeroValue3
 t4:=Tryz.underlying4
 a4:=Tryz.isAgg4
 z4:=Tryz.sizeOf4
 v4:=Tryz.zeroValue4
 t9:=Tryz.underlying9
 a9:=Tryz.isAgg9
 z9:=Tryz.sizeOf9
 v9:=Tryz.zeroValue9
 t31:=Tryz.underlying101
 a31:=Tryz.isAgg101
 z31:=Tryz.sizeOf101
 v31:=Tryz.zeroValue101}
end Go.Proofs
namespace Go.Proofs.YtlhmbkjdfjoilaaGreat
open Go.RowKit Go.Sort Go.Lib
theorem OwnAt.grown {w0 w w':World} {e e':TypeId} {size size':Nat} {g n n' c c':Nat} {xs xs':List Value} (h:OwnAt w0 w e size (.slice (some ⟨g,0,none⟩) n c) n xs) (hg:w.grownBy w' (some g)) (ho:w'.ownsRow 0 e' size' (.slice (some ⟨g,0,none⟩) n' c') n' xs'):
 OwnAt w0 w' e' size' (.slice (some ⟨g,0,none⟩) n' c') n' xs':=
 h.step ho (aj.grown hg fun k hk=> .inl (by cases hk;rfl)) fun k hk=> .inl (by simpa[Value.ownBlock]using hk)
theorem acR (w0 w:World) (e:TypeId) (v:Value) (n:Nat) (ss:List (List UInt8)) (h:OwnAt w0 w e 1 v n (ss.map encStr)) (hl:ss.length=n) (hn:n≤1000000):
 Calls Tryz.prog 110 #[v] w fun r w'=>r= .returned (.tuple #[])∧OwnAt w0 w' e 1 v n ((ss.mergeSort fun x y=>decide (x≤y)).map encStr):=by
 rcases Nat.eq_zero_or_pos n with rfl|h0
 ·obtain⟨a,c,rfl⟩:=h.shape
  obtain rfl:ss=[]:=List.eq_nil_of_length_eq_zero hl
  exact(Any.slices_Sort_string_none Tryz.strSortL a c w).mono fun _ _ ⟨he,hw⟩=>⟨he,by rw[hw];simpa using h⟩
 ·obtain⟨g,c,rfl,_,hlt,_⟩:=h.row h0
  rcases h.own.2 with⟨hnil,_⟩|⟨g',cap,cur,hv,hbase,hb,h1,h2,h3,h4⟩
  ·cases hnil
  ·cases hv
   subst hl
   refine(Any.slices_Sort_string Tryz.strSortL g 0 c ss w (holds_of_block hb (by simpa using h4)) hlt (by omega)).mono fun _ _ ⟨he,m,os,hw⟩=>⟨he,?_⟩
   subst hw
   exact h.grown (grownBy_sorted _) (ownsRow_sorted (by simp) (Nat.zero_le _) hb h1 h2 h3)
theorem acS {w:World} {base g cap n m:Nat} {e:TypeId} {xs:List Value} (h:w.ownsRow base e 1 (.slice (some ⟨g,0,none⟩) n cap) n xs) (hm:m≤n):w.ownsRow base e 1 (.slice (some ⟨g,0,none⟩) m cap) m (xs.take m):=by
 refine⟨by rw[List.length_take,h.1];omega,?_⟩
 rcases h.2 with⟨hnil,_⟩|⟨g',cap',cur,hv,hbase,hb,h1,h2,h3,h4⟩
 ·cases hnil
 ·cases hv
  refine .inr ⟨g,cap,cur,rfl,hbase,hb,by omega,h2,h3,?_⟩
  rw[←h4,List.take_take,Nat.mul_one,Nat.mul_one,Nat.min_eq_left hm]
theorem acT (w0 w:World) (e:TypeId) (v:Value) (n:Nat) (ss:List (List UInt8)) (h:OwnAt w0 w e 1 v n (ss.map encStr)) (hl:ss.length=n) (hn:n≤1000000):
 Calls Tryz.prog 111 #[v] w fun r w'=>∃v',r= .returned v'∧OwnAt w0 w' e 1 v' (compact ss).length ((compact ss).map encStr):=by
 rcases Nat.eq_zero_or_pos n with rfl|h0
 ·obtain⟨a,c,rfl⟩:=h.shape
  obtain rfl:ss=[]:=List.eq_nil_of_length_eq_zero hl
  exact(Any.slices_Compact_string_empty Tryz.strCompL a c w).mono fun _ _ ⟨he,hw⟩=>⟨_,he,by rw[hw];simpa[compact,compactUpTo]using h⟩
 ·obtain⟨g,c,rfl,_,hlt,_⟩:=h.row h0
  rcases h.own.2 with⟨hnil,_⟩|⟨g',cap,cur,hv,hbase,hb,h1,h2,h3,h4⟩
  ·cases hnil
  ·cases hv
   subst hl
   refine(Any.slices_Compact_string Tryz.strCompL g 0 c ss w (holds_of_block hb (by simpa using h4)) (by omega) h1).mono fun _ _ ⟨he,m,hw⟩=>⟨_,he,?_⟩
   have hle:=compact_length_le ss
   have hgw:w.grownBy (grow (putRow encStr (Sort.ahead w m) g 0 (compact ss++List.replicate (ss.length-(compact ss).length) []).toArray) #[]) (some g):=grownBy_sorted _
   have how:=ownsRow_sorted (n:=m) (os:= #[]) (ss:=ss) (ts:=compact ss++List.replicate (ss.length-(compact ss).length) []) (by simp;omega) (Nat.zero_le _) hb h1 h2 h3
   rw[grow_empty]at hgw how
   subst hw
   have hc:=acS how hle
   rw[List.map_append,List.take_left' (by simp)]at hc
   exact h.grown hgw hc
theorem VG (zs:List (List UInt8)) (x:List UInt8):x∈compact zs↔x∈zs:=by
 unfold compact compactUpTo
 simp only[List.mem_map,List.mem_filter,List.mem_range]
 constructor
 ·rintro⟨j,⟨hj,_⟩,rfl⟩
  rw[getElem!_pos _ j (by simpa using hj)]
  simp
 ·intro hx
  obtain⟨j,hj,he⟩:=List.getElem_of_mem hx
  have key:∀j,(hj:j<zs.length)→zs[j]=x→∃i,(i<zs.length∧keeps zs.toArray i=true)∧zs.toArray[i]! =x:=by
   intro j
   induction j with
   |zero=>exact fun hj he=>⟨0,⟨hj,by simp[keeps]⟩,by rw[getElem!_pos _ 0 (by simpa using hj)];simpa using he⟩
   |succ j ih=>
    intro hj he
    by_cases hs:zs[j]'(by omega)=x
    ·exact ih (by omega) hs
    ·refine⟨j+1,⟨hj,?_⟩,by rw[getElem!_pos _ (j+1) (by simpa using hj)];simpa using he⟩
     unfold keeps
     rw[getElem!_pos _ (j+1) (by simpa using hj),getElem!_pos zs.toArray (j+1-1) (by simp;omega)]
     simp only[Nat.add_sub_cancel,List.getElem_toArray,he,decide_eq_true_eq]
     exact .inr fun h=>hs h.symm
  exact key j hj he
theorem acU {zs:List (List UInt8)} (h:zs.Pairwise fun x y=>x≤y):(compact zs).Pairwise fun x y=>x<y:=by
 unfold compact compactUpTo
 rw[List.pairwise_map,List.pairwise_iff_getElem]
 intro a b ha hb hab
 have hm:=fun(i:Nat) (hi:i<((List.range zs.length).filter (keeps zs.toArray)).length)=>List.mem_filter.1 (List.getElem_mem hi)
 have hp:((List.range zs.length).filter (keeps zs.toArray)).Pairwise (·<·):=List.Pairwise.filter _ List.pairwise_lt_range
 have hlt:=(List.pairwise_iff_getElem.1 hp) a b ha hb hab
 obtain⟨h1,_⟩:=hm a ha
 obtain⟨h2,h3⟩:=hm b hb
 generalize ((List.range zs.length).filter (keeps zs.toArray))[a]=i at*
 generalize ((List.range zs.length).filter (keeps zs.toArray))[b]=j at*
 have h1:i<zs.length:=by simpa using h1
 have h2:j<zs.length:=by simpa using h2
 have at_:∀k,(hk:k<zs.length)→zs.toArray[k]! =zs[k]:=fun k hk=>by rw[getElem!_pos _ k (by simpa using hk)];simp
 have le:∀p q,(hp:p<zs.length)→(hq:q<zs.length)→p≤q→zs[p]≤zs[q]:=fun p q hp hq hpq=>by
  rcases Nat.eq_or_lt_of_le hpq with rfl|hpq
  ·exact List.le_refl _
  ·exact(List.pairwise_iff_getElem.1 h) p q hp hq hpq
 unfold keeps at h3
 rw[at_ j h2,at_ (j-1) (by omega)]at h3
 simp only[decide_eq_true_eq]at h3
 rw[at_ i h1,at_ j h2]
 have hne:zs[j]≠zs[j-1]:=by
  rcases h3 with h3|h3
  ·omega
  ·exact h3
 have g1:=le i (j-1) h1 (by omega) (by omega)
 have g2:=le (j-1) j (by omega) h2 (by omega)
 have hle:=List.le_trans g1 g2
 refine Classical.byContradiction fun hn=>?_
 have he:zs[i]=zs[j]:=List.le_antisymm hle (List.not_lt.1 hn)
 exact hne (List.le_antisymm (he▸g1) g2)
def B_ (l:List UInt8):ByteArray:=⟨l.toArray⟩
theorem Pn (b:ByteArray):B_ b.toList=b:=by unfold B_;rw[ByteArray.toList_eq]
theorem Po (l:List UInt8):(B_ l).toList=l:=by unfold B_;rw[ByteArray.toList_eq]
theorem acV {A B:List ByteArray} (oa:jL A) (ob:jL B):compact (((A++B).map ByteArray.toList).mergeSort fun x y=>decide (x≤y))=(kW A B).map ByteArray.toList:=by
 obtain⟨zs,hz⟩:∃zs,zs=((A++B).map ByteArray.toList).mergeSort fun x y=>decide (x≤y):=⟨_,rfl⟩
 have hs:zs.Pairwise fun x y=>x≤y:=by
  rw[hz]
  have:=List.pairwise_mergeSort (le:=fun(x y:List UInt8)=>decide (x≤y)) (fun a b c h1 h2=>by simp only[decide_eq_true_eq]at*;exact List.le_trans h1 h2) (fun a b=>by simp only[Bool.or_eq_true,decide_eq_true_eq];exact List.le_total a b) ((A++B).map ByteArray.toList)
  exact this.imp fun h=>by simpa using h
 rw[←hz]
 have e1:(compact zs).map B_=kW A B:=by
  refine OQ ?_ (GR oa ob) fun k=>?_
  ·rw[jL,List.pairwise_map]
   refine(acU hs).imp fun {x y} h=>?_
   unfold dL
   rw[Po,Po,bytesLess_eq]
   exact decide_eq_true h
  ·rw[uq,List.mem_map]
   constructor
   ·rintro⟨x,hx,rfl⟩
    rw[VG,hz,List.mem_mergeSort,List.mem_map]at hx
    obtain⟨y,hy,rfl⟩:=hx
    rw[Pn]
    exact List.mem_append.1 hy
   ·intro h
    refine⟨k.toList,?_,Pn k⟩
    rw[VG,hz,List.mem_mergeSort,List.mem_map]
    exact⟨k,List.mem_append.2 h,rfl⟩
 rw[←e1,List.map_map]
 have:(ByteArray.toList∘B_)=id:=funext Po
 rw[this,List.map_id]
theorem acW (b:ByteArray):encStr b.toList= .string b:=by
 show Value.string (B_ b.toList)=_
 rw[Pn]
theorem map_encStr (l:List ByteArray):(l.map ByteArray.toList).map encStr=l.map .string:=by
 rw[List.map_map]
 exact List.map_congr_left fun b _=>acW b
end Go.Proofs.YtlhmbkjdfjoilaaGreat
