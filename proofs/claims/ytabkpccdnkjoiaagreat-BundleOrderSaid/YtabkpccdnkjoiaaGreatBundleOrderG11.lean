/- Words for the law BundleOrder: CaEnt, CaKid, KConcat, StrLay, Strs. -/
import Derived.Test.YtabkpccdnkjoiaaGreatBundleOrderG0
import Derived.Test.YtabkpccdnkjoiaaGreatBundleOrderG4
import Derived.Test.YtabkpccdnkjoiaaGreatBundleOrderG6
import Derived.Test.YtabkpccdnkjoiaaGreatBundleOrderG9
import Derived.Test.YtabkpccdnkjoiaaGreatBundleOrderG10
import Derived.Shelf.Sort.Plain
import Derived.Shelf.Slices.CompactS
import Derived.Shelf.Slices.In.SortNone
import Derived.Lib.RowBridge
import Derived.Test.YtabkpccdnkjoiaaGreatProg
import Derived.Sort.OwnSorted
set_option linter.unusedSimpArgs false
set_option linter.unusedVariables false
set_option maxHeartbeats 32000000
set_option maxRecDepth 1000000
namespace Go.Proofs.YtabkpccdnkjoiaaGreat
open Go.RowKit
theorem drop_at {l:List aG} {i:Nat} (h:i<l.length):l.drop i=l.getD i aG.zero::l.drop (i+1):=by
 rw[List.drop_eq_getElem_cons h,getD_at aG.zero h]
theorem Om {ha hb:Int→Int→Bool} {a b:List aG} {i k:Nat} (hi:i<a.length) (h:b.length≤k∨k<b.length∧ltD (a.getD i aG.zero) (b.getD k aG.zero)=true):
 dK ha hb (a.drop i) (b.drop k)=jW hb (a.getD i aG.zero)++dK ha hb (a.drop (i+1)) (b.drop k):=by
 rw[drop_at hi]
 rcases h with h|⟨h,hl⟩
 ·rw[List.drop_eq_nil_of_le h];conv=>lhs;rw[dK]
 ·rw[drop_at h];conv=>lhs;rw[dK,if_pos hl]
theorem Oo {ha hb:Int→Int→Bool} {a b:List aG} {i k:Nat} (hk:k<b.length) (h:a.length≤i∨i<a.length∧ltD (a.getD i aG.zero) (b.getD k aG.zero)=false∧ltD (b.getD k aG.zero) (a.getD i aG.zero)=true):
 dK ha hb (a.drop i) (b.drop k)=jW ha (b.getD k aG.zero)++dK ha hb (a.drop i) (b.drop (k+1)):=by
 rw[drop_at hk]
 rcases h with h|⟨h,hl,hl'⟩
 ·rw[List.drop_eq_nil_of_le h];conv=>lhs;rw[dK]
 ·rw[drop_at h];conv=>lhs;rw[dK,if_neg (by rw[hl];simp),if_pos hl']
theorem Oq {ha hb:Int→Int→Bool} {a b:List aG} {i k:Nat} (hi:i<a.length) (hk:k<b.length) (hl:ltD (a.getD i aG.zero) (b.getD k aG.zero)=false) (hl':ltD (b.getD k aG.zero) (a.getD i aG.zero)=false):
 dK ha hb (a.drop i) (b.drop k)=jE (a.getD i aG.zero) (b.getD k aG.zero)::dK ha hb (a.drop (i+1)) (b.drop (k+1)):=by
 rw[drop_at hi,drop_at hk,dK,if_neg (by rw[hl];simp),if_neg (by rw[hl'];simp)]
theorem vH (x y:aG):decide (lK x.dc x.n y.dc y.n<0)=ltD x y:=EC _ _ _ _
def yM (w:World) (b o:Nat) (x:aG):Prop:=w.cell? ⟨b,o,none⟩=some (.int .i64 x.dc)∧w.cell? ⟨b,o+1,none⟩=some (.int .i64 x.n)∧w.cell? ⟨b,o+2,none⟩=some (.string x.s)∧w.cell? ⟨b,o+3,none⟩=some (.int .i64 x.k)
theorem Ot (a b:List aG) (ca cb:aU) (w:World) (va vb oN oO:Value) (ha:Rd w va a.length (eY a)) (hb:Rd w vb b.length (eY b)) (hca:dL w oN ca) (hcb:dL w oO cb)
 (fa:gB ca) (fb:gB cb) (ra:bH ca) (rb:bH cb) (lca:ca.length≤100000) (yN:cb.length≤100000) (la:a.length≤100000) (lb:b.length≤100000):
 Calls Tryz.prog 195 #[va,vb,oN,oO] w fun e w'=>∃v',e= .returned v'∧OwnAt w w' 172 4 v' (dK (gq ca) (gq cb) a b).length (eY (dK (gq ca) (gq cb) a b)):=by
 obtain⟨i0,hi,hz0,hz1,hz2⟩:=info_parts Gw
 obtain⟨aA,cA,rfl⟩:=ha.sl
 obtain⟨aB,cB,rfl⟩:=hb.sl
 obtain⟨aC,cC,rfl⟩:=hca.sl
 obtain⟨aD,cD,rfl⟩:=hcb.sl
 have jL:=ah (fun W (f:aj au w W) d n=>FV ca W _ (Rd.aP hca f) fa ra lca d n)
 have jw:=ah (fun W (f:aj au w W) d n=>FV cb W _ (Rd.aP hcb f) fb rb yN d n)
 have fE:=ah (fun W d n e m=>lX d n e m W)
 have HA:=ah ha;have HB:=ah hb
 clear hca hcb fa fb ra rb lca yN ha hb
 obtain⟨J,hJ⟩:∃J,J=dK (gq ca) (gq cb) a b:=⟨_,rfl⟩
 rw[←hJ]
 have BU:=ah hJ;clear hJ
 obtain⟨hA,vI⟩:∃h,h=gq ca:=⟨_,rfl⟩
 obtain⟨hB,vJ⟩:∃h,h=gq cb:=⟨_,rfl⟩
 rw[←vI]at jL BU
 rw[←vJ]at jw BU
 clear vI vJ
 generalize hn:a.length=n at*
 have HN:=ah hn;clear hn
 generalize hm:b.length=m at*
 have HM:=ah hm;clear hm
 generalize ca.length=na at*
 generalize cb.length=nb at*
 go_enter Tryz.func195,Tryz.ntmps195
 go_wp2
 go_loopw [9,10,11] (fun ov iv kv W=>∃(i k:Nat) (l:List aG),i≤n∧k≤m∧iv= .int .i64 i∧kv= .int .i64 k∧OwnAt w W 172 4 ov l.length (eY l)∧l++dK hA hB (a.drop i) (b.drop k)=J∧l.length≤i+k) (fun _ iv kv _=>n+m-(intOf iv).toNat-(intOf kv).toNat)
 case atStart=>exact⟨0,0,[],by omega,by omega,rfl,rfl,OwnAt.nil (aj.refl _ _) _ _,by simp[BU.out],by simp⟩
 case round=>
  obtain⟨i,k,l,hi',hk',rfl,rfl,ho,hj,hl⟩:=hrel
  obtain⟨av,cv,rfl⟩:=ho.shape
  have HO:=ah ho;clear ho
  have HJ:=ah hj;clear hj
  have HL:=ah hl;clear hl
  generalize hp:l.length=p at*
  have HP:=ah hp;clear hp
  obtain⟨α,hne,K,hK1,hK0,hK2⟩:=worlds wr
  have oP:=ah hK1;clear hK1
  have key:(i<n∧(k=m∨k<m∧ltD (a.getD i aG.zero) (b.getD k aG.zero)=true))∨(k<m∧(i=n∨i<n∧ltD (a.getD i aG.zero) (b.getD k aG.zero)=false∧ltD (b.getD k aG.zero) (a.getD i aG.zero)=true))∨
   (i<n∧k<m∧ltD (a.getD i aG.zero) (b.getD k aG.zero)=false∧ltD (b.getD k aG.zero) (a.getD i aG.zero)=false)∨(i=n∧k=m):=by
   cases h1:ltD (a.getD i aG.zero) (b.getD k aG.zero)<;>cases h2:ltD (b.getD k aG.zero) (a.getD i aG.zero)<;>simp<;>omega
  have xA:i<n→∃bA oA,aA=some ⟨bA,oA,none⟩∧(n:Int)≤9223372036854775807∧∀W,aj au w W→yM W bA (oA+i*4) (a.getD i aG.zero):=fun hin=>by
   rcases Rd.shape HA.out with⟨ad,he,h0⟩|⟨bA,oA,cc,he,hmax⟩
   ·omega
   ·injection he with e1 e2 e3
    subst e1 e3
    exact⟨bA,oA,rfl,hmax,fun W f=>nJ (HA.out.aP f) i (by rw[HN.out];exact hin)⟩
  have xB:k<m→∃bB oB,aB=some ⟨bB,oB,none⟩∧(m:Int)≤9223372036854775807∧∀W,aj au w W→yM W bB (oB+k*4) (b.getD k aG.zero):=fun hin=>by
   rcases Rd.shape HB.out with⟨ad,he,h0⟩|⟨bB,oB,cc,he,hmax⟩
   ·omega
   ·injection he with e1 e2 e3
    subst e1 e3
    exact⟨bB,oB,rfl,hmax,fun W f=>nJ (HB.out.aP f) k (by rw[HM.out];exact hin)⟩
  have BX:=ah xA;clear xA
  have HXB:=ah xB;clear xB
  rcases key with⟨hin,hcd⟩|⟨hkm,hcd⟩|⟨hin,hkm,h1,h2⟩|⟨rfl,rfl⟩
  ·obtain⟨bA,oA,rfl,hnx,hxa⟩:=BX.out hin
   have rX:=ah hxa;clear hxa
   have HST:=ah (Om (ha:=hA) (hb:=hB) (a:=a) (b:=b) (i:=i) (k:=k) (by rw[HN.out];exact hin) (by rw[HM.out];exact hcd.imp (fun h=>by omega) id))
   have hr:=jw.out
   have hcc:k=m∨k<m∧(∃bB oB,aB=some ⟨bB,oB,none⟩∧(m:Int)≤9223372036854775807∧∀W,aj au w W→yM W bB (oB+k*4) (b.getD k aG.zero))∧decide (lK (a.getD i aG.zero).dc (a.getD i aG.zero).n (b.getD k aG.zero).dc (b.getD k aG.zero).n<0)=true:=
    hcd.imp id fun h=>⟨h.1,HXB.out h.1,(vH _ _).trans h.2⟩
   clear hcd hr
   generalize a.getD i aG.zero=x at*
   generalize b.getD k aG.zero=y at*
   cases hb:hB x.dc x.n
   all_goals
    have qU:=ah hb;clear hb
    rcases hcc with rfl|⟨hkm,⟨bB,oB,rfl,hmx,hxb⟩,hlt⟩
   all_goals
    have dH:=ah (fun s=>HO.out.aH.ay (oP.out s))
    obtain⟨k0,k1⟩:(∀s,(K s).cell? ⟨bA,oA+i*4,none⟩=some (.int .i64 x.dc))∧∀s,(K s).cell? ⟨bA,oA+i*4+1,none⟩=some (.int .i64 x.n):=⟨fun s=>(rX.out _ (dH.out s)).1,fun s=>(rX.out _ (dH.out s)).2.1⟩
    try have p0:∀s,(K s).cell? ⟨bB,oB+k*4,none⟩=some (.int .i64 y.dc):=fun s=>(hxb _ (dH.out s)).1
    try have p1:∀s,(K s).cell? ⟨bB,oB+k*4+1,none⟩=some (.int .i64 y.n):=fun s=>(hxb _ (dH.out s)).2.1
    try clear hxb
    try have yO:((k:Int)==(m:Int))=false:=by simp;omega
    go_wp2_with fail
    refine bK K (by kernel_rfl) (by kernel_rfl) hK0 ?_
    repeat(go_big_quiet_step ((go_at_call 241;exact Calls.aW hK2 (fE.out _ _ _ _ _))))
    refine wpQuiet_nil ?_
    intro w' hw'
    obtain⟨s,rfl⟩:=hw'
    clear hK0 hK2
    try clear hlt p0 p1 yO
    replace k0:=k0 s
    replace k1:=k1 s
    have hc:=jw.out (K s) (dH.out s) x.dc x.n
    rw[qU.out]at hc
    have HC:=ah hc;clear hc
    go_wp2_with(first
     |(go_at_call 242;refine HC.out.mono ?_;rintro e w3 ⟨rfl,hw3⟩;have dD:=ah ((HO.out.keep (oP.out s)).keep hw3);clear hw3 k0 k1;obtain⟨q0,q1,q2,q3⟩:=rX.out _ dD.out.aH)
     |(at_builtin;refine jg w _ [.int .i64 x.dc, .int .i64 x.n, .string x.s, .int .i64 x.k] rfl (.tmp 71) (.tmp 76) 27 rfl 172 i0 _ 4 40 Tryz.underlying27 hi hz0 hz1 hz2 (by decide) (by decide) _ _ _ dD.out 1 1 rfl rfl rfl (by simp[Value.oneCell']) (by have:=HL.out;simp only[maxLen];omega) (by have:=HL.out;omega) ?_;intro ad cc w5 dF;have OW:=ah dF;clear dF))
    go_roundw
   all_goals try(case measure=>simp[intOf];omega)
   all_goals first
    |exact⟨i+1,k,l++ [x],by omega,by omega,by go_num,by go_num,by rw[List.length_append,Bg,HP.out];exact OW.out,by have:=HJ.out;rw[HST.out]at this;unfold jW at this;rw[qU.out]at this;simpa using this,by rw[List.length_append,HP.out];have:=HL.out;simp;omega⟩
    |exact⟨i+1,k,l,by omega,by omega,by go_num,by go_num,by rw[HP.out];exact dD.out,by have:=HJ.out;rw[HST.out]at this;unfold jW at this;rw[qU.out]at this;simpa using this,by rw[HP.out];have:=HL.out;omega⟩
  ·obtain⟨bB,oB,rfl,hmx,hxb⟩:=HXB.out hkm
   have rY:=ah hxb;clear hxb
   have HST:=ah (Oo (ha:=hA) (hb:=hB) (a:=a) (b:=b) (i:=i) (k:=k) (by rw[HM.out];exact hkm) (by rw[HN.out];exact hcd.imp (fun h=>by omega) id))
   have hcc:i=n∨i<n∧(∃bA oA,aA=some ⟨bA,oA,none⟩∧(n:Int)≤9223372036854775807∧∀W,aj au w W→yM W bA (oA+i*4) (a.getD i aG.zero))∧decide (lK (a.getD i aG.zero).dc (a.getD i aG.zero).n (b.getD k aG.zero).dc (b.getD k aG.zero).n<0)=false∧decide (lK (b.getD k aG.zero).dc (b.getD k aG.zero).n (a.getD i aG.zero).dc (a.getD i aG.zero).n<0)=true:=
    hcd.imp id fun h=>⟨h.1,BX.out h.1,(vH _ _).trans h.2.1,(vH _ _).trans h.2.2⟩
   clear hcd
   have yO:((k:Int)==(m:Int))=false:=by simp;omega
   generalize a.getD i aG.zero=x at*
   generalize b.getD k aG.zero=y at*
   cases hb:hA y.dc y.n
   all_goals
    have qU:=ah hb;clear hb
    rcases hcc with rfl|⟨hin,⟨bA,oA,rfl,hnx,hxa⟩,hlt,hgt⟩
   all_goals
    have dH:=ah (fun s=>HO.out.aH.ay (oP.out s))
    obtain⟨k0,k1⟩:(∀s,(K s).cell? ⟨bB,oB+k*4,none⟩=some (.int .i64 y.dc))∧∀s,(K s).cell? ⟨bB,oB+k*4+1,none⟩=some (.int .i64 y.n):=⟨fun s=>(rY.out _ (dH.out s)).1,fun s=>(rY.out _ (dH.out s)).2.1⟩
    try have p0:∀s,(K s).cell? ⟨bA,oA+i*4,none⟩=some (.int .i64 x.dc):=fun s=>(hxa _ (dH.out s)).1
    try have p1:∀s,(K s).cell? ⟨bA,oA+i*4+1,none⟩=some (.int .i64 x.n):=fun s=>(hxa _ (dH.out s)).2.1
    try clear hxa
    try have hif:((i:Int)==(n:Int))=false:=by simp;omega
    go_wp2_with fail
    refine bK K (by kernel_rfl) (by kernel_rfl) hK0 ?_
    repeat(go_big_quiet_step ((go_at_call 241;exact Calls.aW hK2 (fE.out _ _ _ _ _))))
    refine wpQuiet_nil ?_
    intro w' hw'
    obtain⟨s,rfl⟩:=hw'
    obtain⟨β,hnb,K2,hL1,hL0,hL2⟩:=worlds (K s)
    have kT:=ah hL1;clear hL1
    replace k0:=fun r=>(kT.out r).cell' (k0 s) id
    replace k1:=fun r=>(kT.out r).cell' (k1 s) id
    try replace p0:=fun r=>(kT.out r).cell' (p0 s) id
    try replace p1:=fun r=>(kT.out r).cell' (p1 s) id
    clear hK0 hK2
    go_wp2_with fail
    refine bK K2 (by kernel_rfl) (by kernel_rfl) hL0 ?_
    repeat(go_big_quiet_step ((go_at_call 241;exact Calls.aW hL2 (fE.out _ _ _ _ _))))
    refine wpQuiet_nil ?_
    intro w' hw'
    obtain⟨r,rfl⟩:=hw'
    clear hL0 hL2
    try clear hlt p0 p1 hgt
    try clear hif
    replace k0:=k0 r
    replace k1:=k1 r
    have hc:=jL.out (K2 r) ((dH.out s).ay (kT.out r)) y.dc y.n
    rw[qU.out]at hc
    have HC:=ah hc;clear hc
    go_wp2_with(first
     |(go_at_call 242;refine HC.out.mono ?_;rintro e w3 ⟨rfl,hw3⟩;have dD:=ah (((HO.out.keep (oP.out s)).keep (kT.out r)).keep hw3);clear hw3 k0 k1;obtain⟨q0,q1,q2,q3⟩:=rY.out _ dD.out.aH)
     |(at_builtin;refine jg w _ [.int .i64 y.dc, .int .i64 y.n, .string y.s, .int .i64 y.k] rfl (.tmp 107) (.tmp 112) 27 rfl 172 i0 _ 4 40 Tryz.underlying27 hi hz0 hz1 hz2 (by decide) (by decide) _ _ _ dD.out 1 1 rfl rfl rfl (by simp[Value.oneCell']) (by have:=HL.out;simp only[maxLen];omega) (by have:=HL.out;omega) ?_;intro ad cc w5 dF;have OW:=ah dF;clear dF))
    go_roundw
   all_goals try(case measure=>simp[intOf];omega)
   all_goals first
    |exact⟨i,k+1,l++ [y],by omega,by omega,by go_num,by go_num,by rw[List.length_append,Bg,HP.out];exact OW.out,by have:=HJ.out;rw[HST.out]at this;unfold jW at this;rw[qU.out]at this;simpa using this,by rw[List.length_append,HP.out];have:=HL.out;simp;omega⟩
    |exact⟨i,k+1,l,by omega,by omega,by go_num,by go_num,by rw[HP.out];exact dD.out,by have:=HJ.out;rw[HST.out]at this;unfold jW at this;rw[qU.out]at this;simpa using this,by rw[HP.out];have:=HL.out;omega⟩
  ·obtain⟨bA,oA,rfl,hnx,hxa⟩:=BX.out hin
   obtain⟨bB,oB,rfl,hmx,hxb⟩:=HXB.out hkm
   have HST:=ah (Oq (ha:=hA) (hb:=hB) (a:=a) (b:=b) (i:=i) (k:=k) (by rw[HN.out];exact hin) (by rw[HM.out];exact hkm) h1 h2)
   have hlt:=(vH _ _).trans h1
   have hgt:=(vH _ _).trans h2
   clear h1 h2
   generalize a.getD i aG.zero=x at*
   generalize b.getD k aG.zero=y at*
   have yO:((k:Int)==(m:Int))=false:=by simp;omega
   have hif:((i:Int)==(n:Int))=false:=by simp;omega
   have dH:=ah (fun s=>HO.out.aH.ay (oP.out s))
   have HS:=ah (fun W (f:aj au w W)=>(show W.cell? ⟨bA,oA+i*4,none⟩=some (.int .i64 x.dc)∧W.cell? ⟨bA,oA+i*4+1,none⟩=some (.int .i64 x.n)∧W.cell? ⟨bA,oA+i*4+2,none⟩=some (.string x.s)∧W.cell? ⟨bA,oA+i*4+3,none⟩=some (.int .i64 x.k)∧W.cell? ⟨bB,oB+k*4,none⟩=some (.int .i64 y.dc)∧W.cell? ⟨bB,oB+k*4+1,none⟩=some (.int .i64 y.n)∧W.cell? ⟨bB,oB+k*4+2,none⟩=some (.string y.s)∧W.cell? ⟨bB,oB+k*4+3,none⟩=some (.int .i64 y.k)from⟨(hxa W f).1,(hxa W f).2.1,(hxa W f).2.2.1,(hxa W f).2.2.2,(hxb W f).1,(hxb W f).2.1,(hxb W f).2.2.1,(hxb W f).2.2.2⟩))
   have k0:=fun s=>(hxa _ (dH.out s)).1
   have k1:=fun s=>(hxa _ (dH.out s)).2.1
   have p0:=fun s=>(hxb _ (dH.out s)).1
   have p1:=fun s=>(hxb _ (dH.out s)).2.1
   clear hxa hxb
   go_wp2_with fail
   refine bK K (by kernel_rfl) (by kernel_rfl) hK0 ?_
   repeat(go_big_quiet_step ((go_at_call 241;exact Calls.aW hK2 (fE.out _ _ _ _ _))))
   refine wpQuiet_nil ?_
   intro w' hw'
   obtain⟨s,rfl⟩:=hw'
   obtain⟨β,hnb,K2,hL1,hL0,hL2⟩:=worlds (K s)
   have kT:=ah hL1;clear hL1
   replace k0:=fun r=>(kT.out r).cell' (k0 s) id
   replace k1:=fun r=>(kT.out r).cell' (k1 s) id
   replace p0:=fun r=>(kT.out r).cell' (p0 s) id
   replace p1:=fun r=>(kT.out r).cell' (p1 s) id
   clear hK0 hK2
   go_wp2_with fail
   refine bK K2 (by kernel_rfl) (by kernel_rfl) hL0 ?_
   repeat(go_big_quiet_step ((go_at_call 241;exact Calls.aW hL2 (fE.out _ _ _ _ _))))
   refine wpQuiet_nil ?_
   intro w' hw'
   obtain⟨r,rfl⟩:=hw'
   clear hL0 hL2 hlt hgt hif yO k0 k1 p0 p1
   have dD:=ah (((HO.out.keep (oP.out s)).keep (kT.out r)).keep (aj.drew au _))
   have hg:=Ol x y
   generalize jE x y=g at*
   have HG:=ah hg;clear hg
   go_wp2_with fail
   refine gX (S:=fun w'=>w'.cell? ⟨bA,oA+i*4,none⟩=some (.int .i64 x.dc)∧w'.cell? ⟨bA,oA+i*4+1,none⟩=some (.int .i64 x.n)∧w'.cell? ⟨bA,oA+i*4+2,none⟩=some (.string x.s)∧w'.cell? ⟨bA,oA+i*4+3,none⟩=some (.int .i64 x.k)∧w'.cell? ⟨bB,oB+k*4,none⟩=some (.int .i64 y.dc)∧w'.cell? ⟨bB,oB+k*4+1,none⟩=some (.int .i64 y.n)∧w'.cell? ⟨bB,oB+k*4+2,none⟩=some (.string y.s)∧w'.cell? ⟨bB,oB+k*4+3,none⟩=some (.int .i64 y.k)) 12 (by kernel_rfl) (HS.out _ dD.out.aH) ?_
   intro hS
   generalize (K2 r).drew=Y0 at*
   refine aT 0 22 rfl rfl (v:=?_) (.inl ⟨by rfl,?_⟩) ?_
   rotate_left 1
   ·(intro w hSw;(try dsimp only at hSw);go_simp;(try with_reducible rfl))
   refine aT 1 23 rfl rfl (v:=?_) (.inl ⟨by rfl,?_⟩) ?_
   rotate_left 1
   ·(intro w hSw;(try dsimp only at hSw);go_simp;(try with_reducible rfl))
   try simp only[Act.put,aJ,aN,aO]
   refine aT 2 24 rfl rfl (v:=?_) (.inl ⟨by rfl,?_⟩) ?_
   rotate_left 1
   ·(intro w hSw;(try dsimp only at hSw);go_simp;(try with_reducible rfl))
   refine aT 3 25 rfl rfl (v:=?_) (.inl ⟨by rfl,?_⟩) ?_
   rotate_left 1
   ·(intro w hSw;(try dsimp only at hSw);go_simp;(try with_reducible rfl))
   try simp only[Act.put,aJ,aN,aO]
   refine aT 4 26 rfl rfl (v:=?_) (.inl ⟨by rfl,?_⟩) ?_
   rotate_left 1
   ·(intro w hSw;(try dsimp only at hSw);go_simp;(try with_reducible rfl))
   refine aT 5 27 rfl rfl (v:=?_) (.inl ⟨by rfl,?_⟩) ?_
   rotate_left 1
   ·(intro w hSw;(try dsimp only at hSw);go_simp;(try with_reducible rfl))
   try simp only[Act.put,aJ,aN,aO]
   refine aT 6 28 rfl rfl (v:=?_) (.inl ⟨by rfl,?_⟩) ?_
   rotate_left 1
   ·(intro w hSw;(try dsimp only at hSw);go_simp;(try with_reducible rfl))
   refine aT 7 29 rfl rfl (v:=?_) (.inl ⟨by rfl,?_⟩) ?_
   rotate_left 1
   ·(intro w hSw;(try dsimp only at hSw);go_simp;(try with_reducible rfl))
   try simp only[Act.put,aJ,aN,aO]
   refine aT 8 30 rfl rfl (v:=?_) (.inl ⟨by rfl,?_⟩) ?_
   rotate_left 1
   ·(intro w hSw;(try dsimp only at hSw);go_simp;(try with_reducible rfl))
   try simp only[Act.put,aJ,aN,aO]
   refine bD (i:=9) (by kernel_rfl) rfl (fun K hK=>?_)
   go_simp
   refine(HG.out _).mono ?_
   rintro e Y ⟨rfl,hf3⟩
   have BZ:=ah (dD.out.keep hf3);clear hf3
   have hS3:=HS.out Y BZ.out.aH
   refine hK.out _ _ hS3 ?_
   clear hK K hS
   try simp only[Act.put,aJ,aN,aO]
   refine bD (i:=10) (by kernel_rfl) rfl (fun K hK=>?_)
   go_simp
   have hS4:=HS.out (Y.alloc (.cells #[.int .i64 g.dc, .int .i64 g.n, .string g.s, .int .i64 g.k] 172)) (BZ.out.aH.alloc1)
   refine hK.out _ _ hS4 ?_
   clear hK K
   try simp only[Act.put,aJ,aN,aO]
   refine bD (i:=11) (by kernel_rfl) rfl (fun K hK=>?_)
   refine xO w Y [.int .i64 g.dc, .int .i64 g.n, .string g.s, .int .i64 g.k] rfl (.tmp 22) (.tmp 32) 27 rfl 172 i0 _ 4 40 Tryz.underlying27 hi hz0 hz1 hz2 (by decide) (by decide) (.slice av p cv) p _ BZ.out 1 1 (by simp[Act.eval]) (by simp[Act.eval]) rfl (by simp[Value.oneCell']) (by have:=HL.out;simp only[maxLen];omega) (by have:=HL.out;omega) ?_
   intro ad cc w2 bC
   have OW:=ah bC;clear bC
   have hS5:=HS.out w2 OW.out.aH
   refine hK.out _ _ hS5 ?_
   clear hK K hS4 hS3
   try simp only[Act.put,aJ,aN,aO]
   refine fD (by kernel_rfl) (by kernel_rfl) rfl (fun K hK=>?_)
   clear hS5
   go_simp
   refine hK.out _ _ ?_
   clear hK K
   go_wp2
   go_roundw
   case rel=>exact⟨i+1,k+1,l++ [g],by omega,by omega,by go_num,by go_num,by rw[List.length_append,Bg,HP.out];exact OW.out,by have:=HJ.out;rw[HST.out]at this;simpa using this,by rw[List.length_append,HP.out];have:=HL.out;simp;omega⟩
   case measure=>simp[intOf];omega
  ·go_wp2
   go_ret
   have:J=l:=by
    rw[←HJ.out,List.drop_eq_nil_of_le (by rw[HN.out];exact Nat.le_refl _),List.drop_eq_nil_of_le (by rw[HM.out];exact Nat.le_refl _),dK,List.append_nil]
   rw[this]
   exact⟨_,rfl,by rw[HP.out];exact HO.out⟩
open Go.RowKit
theorem aI.mV:∀ks:aI,ks.keys.length=ks.len
 | .nil=>rfl
 | .cons _ _ _ rest=>by simp[aI.keys,aI.len,rest.mV]
theorem aI.yP:∀(t:Nat) {ks:aI} {key:ByteArray} {es:List aG} {sub rest:aI},ks.drop t= .cons key es sub rest→t<ks.keys.length∧ks.keys.getD t ByteArray.empty=key
 |0, .cons _ _ _ _,_,_,_,_,h=>by cases h;simp[aI.keys]
 |0, .nil,_,_,_,_,h=>by cases h
 |_+1, .nil,_,_,_,_,h=>by cases h
 |t+1, .cons _ _ _ r,_,_,_,_,h=>by
  obtain⟨h1,h2⟩:=aI.yP t (ks:=r) h
  simp only[aI.keys,List.length_cons,List.getD_cons_succ]
  exact⟨by omega,h2⟩
theorem GZ:∀(t:Nat) {ks:aI} {key:ByteArray} {es:List aG} {sub rest:aI},jq ks.keys→ks.drop t= .cons key es sub rest→ks.find key=(es,sub)
 |0, .cons _ _ _ _,_,_,_,_,_,h=>by cases h;simp[aI.find]
 |0, .nil,_,_,_,_,_,h=>by cases h
 |_+1, .nil,_,_,_,_,_,h=>by cases h
 |t+1, .cons k0 _ _ r,key,_,_,_,o,h=>by
  obtain⟨h1,h2⟩:=List.pairwise_cons.1 o
  obtain⟨g1,g2⟩:=aI.yP t (ks:=r) h
  have hk:key∈r.keys:=by rw[←g2,getD_at _ g1];exact List.getElem_mem _
  have hne:k0≠key:=fun e=>by have:=h1 key hk;rw[e,nO]at this;cases this
  unfold aI.find
  rw[if_neg hne]
  exact GZ t h2 h
theorem G_:∀ {ks:aI} {s:ByteArray},s∉ks.keys→ks.find s=([], .nil)
 | .nil,_,_=>rfl
 | .cons k0 _ _ r,s,h=>by
   unfold aI.find
   rw[if_neg (fun e=>h (by rw[e];simp[aI.keys]))]
   exact G_ fun hm=>h (by simp[aI.keys,hm])
theorem vK {l:List ByteArray} (o:jq l) {a b:Nat} (hab:a<b) (hb:b<l.length):dW (l.getD a ByteArray.empty) (l.getD b ByteArray.empty)=true:=by
 rw[getD_at _ hb,getD_at _ (Nat.lt_trans hab hb)]
 exact(List.pairwise_iff_getElem.1 o) a b _ hb hab
theorem He {l:List ByteArray} {s:ByteArray} {p:Nat} (o:jq l) (h1:∀t,t<p→dW (l.getD t ByteArray.empty) s=true) (h2:p<l.length→dW s (l.getD p ByteArray.empty)=true):s∉l:=fun hm=>by
 obtain⟨t,ht,he⟩:=List.getElem_of_mem hm
 have hd:l.getD t ByteArray.empty=s:=by rw[getD_at _ ht];exact he
 rcases Nat.lt_trichotomy t p with h|h|h
 ·have:=h1 t h;rw[hd,nO]at this;cases this
 ·subst h;have:=h2 ht;rw[hd,nO]at this;cases this
 ·have:=qP (h2 (by omega)) (vK o h ht);rw[hd,nO]at this;cases this
theorem Ou (a b:ByteArray):decide (jF a b<0)=dW a b:=by
 unfold jF
 cases dW a b
 ·cases dW b a<;>simp
 ·simp
theorem Ov (a b:ByteArray):(jF a b==0)=(!dW a b&& !dW b a):=by
 unfold jF
 cases dW a b
 ·cases dW b a<;>simp
 ·simp
theorem Ox (key s:ByteArray) (ev kv:Value) (w:World) (h1:∃a n c,ev= .slice a n c) (h2:∃a n c,kv= .slice a n c):Calls Tryz.prog 247 #[.agg #[.string key,ev,kv], .string s] w fun e w'=>e= .returned (.int .i64 (jF key s))∧aj au w w':=by
 obtain⟨a,n,c,rfl⟩:=h1
 obtain⟨a',n',c',rfl⟩:=h2
 go_enter Tryz.func247,Tryz.ntmps247
 go_wp2_with(go_at_call 248;refine(BR _ _ _).mono ?_;rintro e w' ⟨rfl,rfl⟩)
 go_ret
 exact⟨rfl,aj.alloc _ _ _⟩
theorem Oy (Q:Nat→Prop) (ks:aI) (os:List (Value×Value)) (s:ByteArray) (w:World) (kv:Value) (hk:Rd w kv ks.len (fM ks os)) (hf:gu Q w ks os) (o:jq ks.keys) (hl:ks.len≤100000):
 Calls Tryz.prog 246 #[kv, .string s, .func (.func 247) #[] #[]] w fun e w'=>∃(p:Nat) (f:Bool),e= .returned (.tuple #[.int .i64 p, .bool f])∧aj au w w'∧(f=true→p<ks.len∧ks.keys.getD p ByteArray.empty=s)∧(f=false→s∉ks.keys):=by
 have eg:∀args w,(callFunc 247 args).run Tryz.prog w= .ok (.enter 247 args) w:=enters_of Tryz.func247 (by kernel_rfl) rfl
 obtain⟨aK,cK,rfl⟩:=hk.sl
 have jB:=ah ks.mV
 have HK:=ah hk;clear hk
 have HF:=ah hf;clear hf
 have OK:=ah o;clear o
 generalize hn:ks.len=n at*
 have HN:=ah hn;clear hn
 go_enter Tryz.func246,Tryz.ntmps246
 go_wp2
 go_loopw [9,10] (fun iv jv W=>∃lo hi:Nat,iv= .int .i64 lo∧jv= .int .i64 hi∧lo≤hi∧hi≤n∧aj au w W∧(∀t,t<lo→dW (ks.keys.getD t ByteArray.empty) s=true)∧(∀t,hi≤t→t<n→dW (ks.keys.getD t ByteArray.empty) s=false)) (fun iv jv _=>(intOf jv).toNat-(intOf iv).toNat)
 case atStart=>exact⟨0,n,rfl,rfl,Nat.zero_le _,Nat.le_refl _,aj.refl _ _,fun t ht=>absurd ht (Nat.not_lt_zero _),fun t h1 h2=>by omega⟩
 case round=>
  obtain⟨lo,hi,rfl,rfl,hlh,hin,hw,h1,h2⟩:=hrel
  have HW:=ah hw;clear hw
  have H1:=ah h1;clear h1
  have H2:=ah h2;clear h2
  have xk:∀t,t<n→∃b off,aK=some ⟨b,off,none⟩∧(n:Int)≤9223372036854775807∧∃a0 n0 c0 a1 n1 c1,wr.cell? ⟨b,off+t*3,none⟩=some (.string (ks.keys.getD t ByteArray.empty))∧wr.cell? ⟨b,off+t*3+1,none⟩=some (.slice a0 n0 c0)∧wr.cell? ⟨b,off+t*3+2,none⟩=some (.slice a1 n1 c1):=fun t ht=>by
   rcases Rd.shape HK.out with⟨ad,he,h0⟩|⟨b,off,cc,he,hmax⟩
   ·omega
   ·injection he with e1 e2 e3
    subst e1 e3
    obtain⟨key,es,sub,rest,hdr⟩:=aI.nI (n:=t) (ks:=ks) (by rw[HN.out];exact ht)
    obtain⟨ev',kv',q0,q1,q2,hta⟩:=lS (HN.out.symm▸HK.out.aP HW.out) (HF.out.aP HW.out) hdr
    obtain⟨a0,c0,rfl⟩:=hta.ents.rd.sl
    obtain⟨os',fJ,-⟩:=hta.kids
    obtain⟨a1,c1,rfl⟩:=fJ.rd.sl
    refine⟨b,off,rfl,hmax,_,_,_,_,_,_,?_,q1,q2⟩
    rw[(aI.yP t hdr).2];exact q0
  have XK:=ah xk;clear xk
  have HC:=ah (fun key a0 n0 c0 a1 n1 c1 W=>Ox key s (.slice a0 n0 c0) (.slice a1 n1 c1) W ⟨_,_,_,rfl⟩ ⟨_,_,_,rfl⟩)
  by_cases hlt:lo<hi
  ·obtain⟨b,off,rfl,hmax,a0,n0,c0,a1,n1,c1,q0,q1,q2⟩:=XK.out ((lo+hi)/2) (by omega)
   have HS:=ah (Ou (ks.keys.getD ((lo+hi)/2) ByteArray.empty) s)
   have HY:=ah (rfl:ks.keys.getD ((lo+hi)/2) ByteArray.empty=ks.keys.getD ((lo+hi)/2) ByteArray.empty)
   generalize hy:ks.keys.getD ((lo+hi)/2) ByteArray.empty=y at q0 HS
   have qV:=ah hy;clear hy HY
   cases hq:dW y s
   all_goals
    have HQ:=ah hq;clear hq
    have hz:=HS.out.trans HQ.out
    go_wp2_with(go_at_call 247;refine(HC.out _ _ _ _ _ _ _ _).mono ?_;rintro e w1 ⟨rfl,hw1⟩;have HW1:=ah (HW.out.ay hw1);clear hw1 q0 q1 q2)
    go_roundw
   all_goals try(case measure=>simp[intOf];omega)
   ·refine⟨lo,(lo+hi)/2,rfl,by rw[show((lo:Int)+(hi:Int))/2=(((lo+hi)/2:Nat):Int) by omega],by omega,by omega,HW1.out,H1.out,fun t ht htn=>?_⟩
    rcases Nat.eq_or_lt_of_le ht with he|he
    ·rw[←he,qV.out];exact HQ.out
    ·have h0:=vK OK.out he (by rw[jB.out];exact htn)
     rw[qV.out]at h0
     cases h3:dW (ks.keys.getD t ByteArray.empty) s with
     |false=>rfl
     |true=>have:=qP h0 h3;rw[HQ.out]at this;cases this
   ·refine⟨(lo+hi)/2+1,hi,by rw[show((lo:Int)+(hi:Int))/2+1=(((lo+hi)/2+1:Nat):Int) by omega],rfl,by omega,by omega,HW1.out,fun t ht=>?_,H2.out⟩
    rcases Nat.eq_or_lt_of_le (Nat.le_of_lt_succ ht)with he|he
    ·rw[he,qV.out];exact HQ.out
    ·have h0:=vK OK.out he (by rw[jB.out];omega)
     rw[qV.out]at h0
     exact qP h0 HQ.out
  ·obtain rfl:lo=hi:=by omega
   by_cases hn:lo<n
   ·obtain⟨b,off,rfl,hmax,a0,n0,c0,a1,n1,c1,q0,q1,q2⟩:=XK.out lo hn
    have hY:=H2.out lo (Nat.le_refl _) hn
    have hz0:=Ov (ks.keys.getD lo ByteArray.empty) s
    generalize hy:ks.keys.getD lo ByteArray.empty=y at q0 hY hz0
    have qV:=ah hy;clear hy
    cases hq:dW s y
    all_goals
     have HQ:=ah hq
     have HY:=ah hY
     rw[hY,hq]at hz0
     have HZ:=ah hz0
     clear hq hz0
     go_wp2_with(go_at_call 247;refine(HC.out _ _ _ _ _ _ _ _).mono ?_;rintro e w1 ⟨rfl,hw1⟩;have HW1:=ah (HW.out.ay hw1);clear hw1 q0 q1 q2)
     go_ret2
    ·refine⟨lo,true,?_,HW1.out,fun _=>⟨hn,?_⟩,fun h=>(by cases h)⟩
     ·show Ending.returned (.tuple #[.int .i64 lo, .bool (jF y s==0)])=_
      rw[HZ.out];rfl
     ·rw[qV.out];exact vC HY.out HQ.out
    ·refine⟨lo,false,?_,HW1.out,fun h=>(by cases h),fun _=>He OK.out H1.out fun _=>?_⟩
     ·show Ending.returned (.tuple #[.int .i64 lo, .bool (jF y s==0)])=_
      rw[HZ.out];rfl
     ·rw[qV.out];exact HQ.out
   ·go_wp2
    go_ret2
    exact⟨lo,false,rfl,HW.out,fun h=>(by cases h),fun _=>He OK.out H1.out fun h=>absurd (show lo<n by rw[jB.out]at h;exact h) hn⟩
theorem Oz (Q:Nat→Prop) (ks:aI) (os:List (Value×Value)) (s:ByteArray) (w:World) (kv:Value) (hk:Rd w kv ks.len (fM ks os)) (hf:gu Q w ks os) (o:jq ks.keys) (hl:ks.len≤100000):
 Calls Tryz.prog 246 #[kv, .string s, .func (.func 247) #[] #[]] w fun e w'=>∃p:Nat,e= .returned (.tuple #[.int .i64 p, .bool (tf (s∈ks.keys))])∧aj au w w'∧(s∈ks.keys→p<ks.len∧ks.keys.getD p ByteArray.empty=s):=
 (Oy Q ks os s w kv hk hf o hl).mono fun e w' ⟨p,f,he,hw,h1,h2⟩=>by
   cases f with
   |true=>
    obtain⟨g1,g2⟩:=h1 rfl
    have hm:s∈ks.keys:=by
     have h3:p<ks.keys.length:=by rw[aI.mV];exact g1
     rw[←g2,getD_at _ h3];exact List.getElem_mem _
    exact⟨p,by rw[he,bM hm],hw,fun _=>⟨g1,g2⟩⟩
   |false=>exact⟨p,by rw[he,bn (h2 rfl)],hw,fun h=>absurd h (h2 rfl)⟩
theorem OA {l:List ByteArray} (o:jq l) {a b:Nat} (ha:a<l.length) (hb:b<l.length) (h:l.getD a ByteArray.empty=l.getD b ByteArray.empty):a=b:=by
 rcases Nat.lt_trichotomy a b with g|g|g
 ·have:=vK o g hb;rw[h,nO]at this;cases this
 ·exact g
 ·have:=vK o g ha;rw[h,nO]at this;cases this
theorem Hf (Q:Nat→Prop) (es:List aG) (ks:aI) (s:ByteArray) (w:World) (ev kv:Value) (h:bJ Q w ev kv es ks) (o:jq ks.keys) (hl:ks.len≤100000):
 ∃(a:Option Addr) (n c:Nat) (a':Option Addr) (n' c':Nat),bJ Q w (.slice a n c) (.slice a' n' c') (ks.find s).1 (ks.find s).2∧
  ∀W,aj au w W→Calls Tryz.prog 199 #[.agg #[ev,kv], .string s] W fun e w'=>e= .returned (.agg #[.slice a n c, .slice a' n' c'])∧aj au W w':=by
 obtain⟨aE,cE,rfl⟩:=h.ents.rd.sl
 obtain⟨os,hk,hf⟩:=h.kids
 obtain⟨aK,cK,rfl⟩:=hk.rd.sl
 have HB:=ah (fun W (f:aj au w W)=>Oz Q ks os s W _ (hk.rd.aP f) (hf.aP f) o hl)
 have HK:=ah hk;clear hk
 have HF:=ah hf;clear hf
 have OK:=ah o;clear o h
 generalize es.length=m at*
 generalize hn:ks.len=n at*
 have HN:=ah hn;clear hn
 have HB0:=ah (fun W:World=>(show((W.alloc (.cells #[.slice aE m cE, .slice aK n cK] 30)).alloc (.cells #[.slice none 0 0, .slice none 0 0] 30)).heap[W.heap.size]?=some (.cells #[.slice aE m cE, .slice aK n cK] 30 (0,0)) by rw[Below.heap_alloc _ _ _ (by simp)];exact heap_alloc_new W _))
 have vM:=ah (fun W:World=>oL W (.cells #[.slice aE m cE, .slice aK n cK] 30) #[.slice none 0 0, .slice none 0 0] 30)
 by_cases hm:s∈ks.keys
 ·rw[bM hm]at HB
  obtain⟨p0,hp0,hs0⟩:=List.getElem_of_mem hm
  have hsd:ks.keys.getD p0 ByteArray.empty=s:=by rw[getD_at _ hp0];exact hs0
  have hpn:p0<n:=by rw[←HN.out,←aI.mV];exact hp0
  rcases Rd.shape HK.out.rd with⟨ad,he,h0⟩|⟨b,off,cc,he,hmax⟩
  ·omega
  injection he with e1 e2 e3
  subst e1 e3
  clear e2
  obtain⟨key,es',sub,rest,hdr⟩:=aI.nI (n:=p0) (ks:=ks) (by rw[HN.out];exact hpn)
  have hkey:=(aI.yP p0 hdr).2.symm.trans hsd
  subst hkey
  obtain⟨ev',kv',-,q1,q2,hta⟩:=lS (HN.out.symm▸HK.out.rd) HF.out hdr
  rw[GZ p0 OK.out hdr]
  obtain⟨a0,c0,rfl⟩:=hta.ents.rd.sl
  obtain⟨os',fJ,-⟩:=hta.kids
  obtain⟨a1,c1,rfl⟩:=fJ.rd.sl
  refine⟨a0,_,c0,a1,_,c1,hta,fun W hW=>?_⟩
  have fV:=ah (fun p (h:p<n) (h2:ks.keys.getD p ByteArray.empty=key)=>OA OK.out (by rw[aI.mV,HN.out];exact h) hp0 (h2.trans hsd.symm))
  have HQ:=ah (fun W (f:aj au w W)=>(show W.cell? ⟨b,off+p0*3+1,none⟩=some (.slice a0 es'.length c0)∧W.cell? ⟨b,off+p0*3+2,none⟩=some (.slice a1 sub.len c1)from⟨f.cell' q1 id,f.cell' q2 id⟩))
  have HM:=ah hm;clear hm
  clear hta fJ q1 q2 hdr hs0 hsd
  generalize es'.length=n0 at*
  generalize sub.len=n1 at*
  have HW:=ah hW;clear hW
  obtain⟨hb1,hfr,-⟩:=vM.out W
  have HB1:=ah hb1;clear hb1
  have jy:=ah hfr;clear hfr
  go_enter Tryz.func199,Tryz.ntmps199
  go_wp2_with(go_at_call 246;refine(HB.out _ (HW.out.ay jy.out)).mono ?_;rintro e w1 ⟨p,rfl,hw1,h1⟩;obtain⟨hp,hps⟩:=h1 HM.out;obtain rfl:=fV.out p hp hps;obtain⟨q1,q2⟩:=HQ.out w1 ((HW.out.ay jy.out).ay hw1);have HW1:=ah hw1;clear hw1;have y1:w1.cell? ⟨W.heap.size,1,none⟩=some (.slice (some ⟨b,off,none⟩) n cK):=HW1.out.cell' (aF (HB0.out W) 1 rfl) id;have z0:=aF (HW1.out.blk HB1.out id) 0 rfl;have z1:=aF (HW1.out.blk HB1.out id) 1 rfl;have f0:=aY (HW1.out.blk HB1.out id) 0;have f1:=aY (HW1.out.blk HB1.out id) 1)
  obtain⟨r0,r1,-⟩:=res2 (HW1.out.blk HB1.out id) (jy.out.ay HW1.out) (by omega) (.slice a0 n0 c0) (.slice a1 n1 c1)
  clear z0 z1
  have y0:=aF r0 0 rfl
  have y1:=aF r0 1 rfl
  exact bodyPost_ret (v:= .agg #[.slice a0 n0 c0, .slice a1 n1 c1]) (by simp[results,Tryz.results199,go_sem,y0,y1]) rfl ⟨rfl,r1⟩
 ·rw[bn hm]at HB
  rw[G_ hm]
  clear hm
  refine⟨none,0,0,none,0,0,⟨⟨.inl ⟨none,rfl,rfl,rfl⟩,fun h=>absurd rfl h⟩,[],⟨.inl ⟨none,rfl,rfl,rfl⟩,fun h=>absurd rfl h⟩,rfl⟩,fun W hW=>?_⟩
  have HW:=ah hW;clear hW
  obtain⟨hb1,hfr,-⟩:=vM.out W
  have HB1:=ah hb1;clear hb1
  have jy:=ah hfr;clear hfr
  go_enter Tryz.func199,Tryz.ntmps199
  go_wp2_with(go_at_call 246;refine(HB.out _ (HW.out.ay jy.out)).mono ?_;rintro e w1 ⟨p,rfl,hw1,-⟩;have HW1:=ah hw1;clear hw1;have y1:w1.cell? ⟨W.heap.size,1,none⟩=some (.slice aK n cK):=HW1.out.cell' (aF (HB0.out W) 1 rfl) id;have z0:=aF (HW1.out.blk HB1.out id) 0 rfl;have z1:=aF (HW1.out.blk HB1.out id) 1 rfl;have f0:=aY (HW1.out.blk HB1.out id) 0;have f1:=aY (HW1.out.blk HB1.out id) 1)
  obtain⟨r0,r1,-⟩:=res2 (HW1.out.blk HB1.out id) (jy.out.ay HW1.out) (by omega) (.slice none 0 0) (.slice none 0 0)
  clear z0 z1
  have y0:=aF r0 0 rfl
  have y1:=aF r0 1 rfl
  exact bodyPost_ret (v:= .agg #[.slice none 0 0, .slice none 0 0]) (by simp[results,Tryz.results199,go_sem,y0,y1]) rfl ⟨rfl,r1⟩
open Go.RowKit
theorem OB (n:Nat) (w:World) (hn:n≤1000000):Calls Tryz.prog 244 #[.slice none 0 0, .int .i64 n] w fun e w'=>∃v,e= .returned v∧OwnAt w w' 83 3 v 0 []:=by
 rcases Nat.eq_zero_or_pos n with rfl|h0
 ·go_enter Tryz.func244,Tryz.ntmps244
  go_wp2
  go_ret
  exact⟨_,rfl,OwnAt.nil (aj.refl _ _) _ _⟩
 ·obtain⟨i0,hi,hz0,hz1,hz2⟩:=info_parts yD
  have hrz:∀ty,(Builtin.append_ #[28,3] ty #[.slice none 0 0, .int .i64 (n:Int)]).run Tryz.prog w=
   .ok (.slice (some ⟨w.heap.size,0,none⟩) n (grownCap w n 0 83)) (w.drew.alloc (.cells (Builtin.zeroCells #[.string ByteArray.empty, .slice none 0 0, .slice none 0 0] n++Builtin.zeroCells #[.string ByteArray.empty, .slice none 0 0, .slice none 0 0] (grownCap w n 0 83-n)) 83)):=fun ty=>by
   have h:=Lib.run_append_grow_zeros w 28 3 ty 83 i0 _ .i64 .i64 Tryz.underlying28 Tryz.underlying3 hi hz0 none 0 0 [] (by simp[Builtin.firstCells]) n h0 (by omega) (by omega) (by omega) (by rw[hz2];omega) (by rw[hz2];exact growslice_fits (by omega) (by omega))
   simp only[Nat.zero_add,Array.empty_append,List.nil_append]at h
   simpa[Value.cells]using h
  have hG:=grownCap_ge w n 0 83
  have hM:=grownCap_le_maxLen w n 0 83 (by unfold maxLen;omega)
  generalize grownCap w n 0 83=G at*
  have HG:=ah hG;clear hG
  have hM:(G:Int)≤9223372036854775807:=by unfold maxLen at hM;omega
  go_enter Tryz.func244,Tryz.ntmps244
  go_wp2_with(at_builtin;refine Lib.wpList_append_run _ rfl _ _ _ _ rfl _ _ rfl rfl _ _ (hrz _) ?_)
  go_ret
  refine⟨_,rfl,⟨⟨rfl, .inr ⟨w.heap.size,G,_,rfl,Nat.zero_le _,heap_alloc_new _ _,Nat.zero_le _,by unfold maxLen;omega,?_,rfl⟩⟩,?_,(aj.drew _ _).alloc1⟩⟩
  ·rw[Array.size_append,size_zeroCells,size_zeroCells]
   have:=HG.out
   show n*3+(G-n)*3=G*3
   omega
  ·intro k hk
   simp[Value.ownBlock]at hk
   omega
theorem OC (w:World) (b c:Nat) (va vb:Value) (xs ys:List Value) (n m:Nat) (h0:w.cell? ⟨b,0,none⟩=some va) (h1:w.cell? ⟨b,1,none⟩=some vb) (ha:Rd w va n xs) (hb:Rd w vb m ys) (lx:xs.length=n*3) (ly:ys.length=m*3) (ox:∀v∈xs,v.oneCell'=true) (oy:∀v∈ys,v.oneCell'=true) (la:n≤200000) (lb:m≤200000):
 Calls Tryz.prog 196 #[.slice (some ⟨b,0,none⟩) 2 c] w fun e w'=>∃v',e= .returned v'∧OwnAt w w' 83 3 v' (n+m) (xs++ys):=by
 obtain⟨i0,hi,hz0,hz1,hz2⟩:=info_parts yD
 obtain⟨aA,cA,rfl⟩:=ha.sl
 obtain⟨aB,cB,rfl⟩:=hb.sl
 have HA:=ah ha;clear ha
 have HB:=ah hb;clear hb
 have HG:=ah (fun w'=>OB (n+m) w' (by omega))
 go_enter Tryz.func196,Tryz.ntmps196
 go_wp2
 go_loop [3,11] (fun s i=>∃k:Nat,k≤2∧i= .int .i64 k∧s= .int .i64 ((if k=0 then 0 else if k=1 then n else n+m:Nat):Int)) (fun _ i=>2-(intOf i).toNat)
 case atStart=>exact⟨0,by omega,rfl,rfl⟩
 case round=>
  obtain⟨k,hk,rfl,rfl⟩:=hrel
  rcases(by omega:k=0∨k=1∨k=2)with rfl|rfl|rfl
  ·rw[if_pos rfl]
   go_wp2
   go_round
   case rel=>exact⟨1,by omega,rfl,by simp⟩
   case measure=>simp[intOf]
  ·rw[if_neg (by decide),if_pos rfl]
   go_wp2
   go_round
   case rel=>exact⟨2,by omega,rfl,by simp⟩
   case measure=>simp[intOf]
  ·rw[if_neg (by decide),if_neg (by decide)]
   go_wp2_with(go_at_call 244;refine(HG.out _).mono ?_;rintro e w1 ⟨v1,rfl,ho1⟩;obtain⟨a1,c1,rfl⟩:=ho1.shape;have bZ:=ah ho1;clear ho1)
   go_loopw [6,27] (fun v i ww=>∃k:Nat,k≤2∧i= .int .i64 k∧OwnAt w ww 83 3 v (if k=0 then 0 else if k=1 then n else n+m) (if k=0 then []else if k=1 then xs else xs++ys)) (fun _ i _=>2-(intOf i).toNat)
   case atStart=>exact⟨0,by omega,rfl,bZ.out⟩
   case round=>
    obtain⟨k,hk,rfl,ho⟩:=hrel
    rcases(by omega:k=0∨k=1∨k=2)with rfl|rfl|rfl
    ·have ho:OwnAt w wr 83 3 _ 0 []:=ho
     obtain⟨a2,c2,rfl⟩:=ho.shape
     have HO:=ah ho;clear ho
     have q0:=HO.out.aH.cell' h0 id
     go_wp2_with(at_builtin;refine lq w _ _ rfl (.tmp 31) (.tmp 32) 28 28 rfl 83 83 i0 _ 3 64 Tryz.underlying28 Tryz.underlying28 hi hz0 hz1 hz2 (by decide) (by decide) _ _ _ HO.out _ n rfl rfl (HA.out.aP HO.out.aH) lx ox (by simp only[maxLen];omega) (by omega) ?_;intro ad cc w5 dF;have OW:=ah dF;clear dF)
     go_roundw
     case rel=>exact⟨1,by omega,rfl,by have:=OW.out;simp at this⊢;exact this⟩
     case measure=>simp[intOf]
    ·have ho:OwnAt w wr 83 3 _ n xs:=ho
     obtain⟨a2,c2,rfl⟩:=ho.shape
     have HO:=ah ho;clear ho
     have q1:=HO.out.aH.cell' h1 id
     go_wp2_with(at_builtin;refine lq w _ _ rfl (.tmp 31) (.tmp 32) 28 28 rfl 83 83 i0 _ 3 64 Tryz.underlying28 Tryz.underlying28 hi hz0 hz1 hz2 (by decide) (by decide) _ _ _ HO.out _ m rfl rfl (HB.out.aP HO.out.aH) ly oy (by simp only[maxLen];omega) (by omega) ?_;intro ad cc w5 dF;have OW:=ah dF;clear dF)
     go_roundw
     case rel=>exact⟨2,by omega,rfl,by have:=OW.out;simp at this⊢;exact this⟩
     case measure=>simp[intOf]
    ·have ho:OwnAt w wr 83 3 _ (n+m) (xs++ys):=ho
     obtain⟨a2,c2,rfl⟩:=ho.shape
     have HO:=ah ho;clear ho
     go_wp2
     go_ret
     exact⟨_,rfl,HO.out⟩
end Go.Proofs.YtabkpccdnkjoiaaGreat
namespace Go.Proofs
open Go.Shelf
def Tryz.strSortL_ren:Go.Shelf.Ren:=⟨fun|190=>197|125=>166|258=>245|128=>216|129=>217|302=>272|303=>273|304=>274|305=>275|306=>276|307=>277|308=>278|309=>279|310=>280|333=>296|329=>257|330=>258|334=>297|335=>298|336=>281|344=>303|n=>n,fun|31=>173|9=>9|3=>3|46=>199|0=>0|51=>151|53=>196|4=>4|183=>274|182=>273|131=>189|5=>5|218=>322|222=>326|228=>343|229=>344|n=>n,fun|n=>n⟩
theorem Tryz.strSortL:Go.Proofs.Lays.n190 Tryz.prog Tryz.strSortL_ren:= {
 mixed:=by kernel_rfl
 f125:=Tryz.func166.trans (congrArg some (by kernel_rfl))
 f128:=Tryz.func216.trans (congrArg some (by kernel_rfl))
 f129:=Tryz.func217.trans (congrArg some (by kernel_rfl))
 f190:=Tryz.func197.trans (congrArg some (by kernel_rfl))
 f258:=Tryz.func245.trans (congrArg some (by kernel_rfl))
 f302:=Tryz.func272.trans (congrArg some (by kernel_rfl))
 f303:=Tryz.func273.trans (congrArg some (by kernel_rfl))
 f304:=Tryz.func274.trans (congrArg some (by kernel_rfl))
 f305:=Tryz.func275.trans (congrArg some (by kernel_rfl))
 f306:=Tryz.func276.trans (congrArg some (by kernel_rfl))
 f307:=Tryz.func277.trans (congrArg some (by kernel_rfl))
 f308:=Tryz.func278.trans (congrArg some (by kernel_rfl))
 f309:=Tryz.func279.trans (congrArg some (by kernel_rfl))
 f310:=Tryz.func280.trans (congrArg some (by kernel_rfl))
 f329:=Tryz.func257.trans (congrArg some (by kernel_rfl))
 f330:=Tryz.func258.trans (congrArg some (by kernel_rfl))
 f333:=Tryz.func296.trans (congrArg some (by kernel_rfl))
 f334:=Tryz.func297.trans (congrArg some (by kernel_rfl))
 f335:=Tryz.func298.trans (congrArg some (by kernel_rfl))
 f336:=Tryz.func281.trans (congrArg some (by kernel_rfl))
 f344:=Tryz.func303.trans (congrArg some (by kernel_rfl))
 t0:=Tryz.underlying0
 a0:=Tryz.isAgg0
 z0:=Tryz.sizeOf0
 v0:=Tryz.zeroValue0
 t3:=Tryz.underlying3
 a3:=Tryz.isAgg3
 z3:=Tryz.sizeOf3
 v3:=Tryz.zeroValue3
 t4:=Tryz.underlying4
 a4:=Tryz.isAgg4
 z4:=Tryz.sizeOf4
 v4:=Tryz.zeroValue4
 t5:=Tryz.underlying5
 a5:=Tryz.isAgg5
 z5:=Tryz.sizeOf5
 v5:=Tryz.zeroValue5
 t9:=Tryz.underlying9
 a9:=Tryz.isAgg9
 z9:=Tryz.sizeOf9
 v9:=Tryz.zeroValue9
 t31:=Tryz.underlying173
 a31:=Tryz.isAgg173
 z31:=Tryz.sizeOf173
 v31:=Tryz.zeroValue173
 t46:=Tryz.underlying199
 a46:=Tryz.isAgg199
 z46:=Tryz.sizeOf199
 v46:=Tryz.zeroValue199
 t51:=Tryz.underlying151
 a51:=Tryz.isAgg151
 z51:=Tryz.sizeOf151
 v51:=Tryz.zeroValue151
 t53:=Tryz.underlying196
 a53:=Tryz.isAgg196
 z53:=Tryz.sizeOf196
 v53:=Tryz.zeroValue196
 t131:=Tryz.underlying189
 a131:=Tryz.isAgg189
 z131:=Tryz.sizeOf189
 v131:=Tryz.zeroValue189
 t182:=Tryz.underlying273
 a182:=Tryz.isAgg273
 z182:=Tryz.sizeOf273
 v182:=Tryz.zeroValue273
 t183:=Tryz.underlying274
 a183:=Tryz.isAgg274
 z183:=Tryz.sizeOf274
 v183:=Tryz.zeroValue274
 t218:=Tryz.underlying322
 a218:=Tryz.isAgg322
 z218:=Tryz.sizeOf322
 v218:=Tryz.zeroValue322
 t222:=Tryz.underlying326
 a222:=Tryz.isAgg326
 z222:=Tryz.sizeOf326
 v222:=Tryz.zeroValue326
 t228:=Tryz.underlying343
 a228:=Tryz.isAgg343
 z228:=Tryz.sizeOf343
 v228:=Tryz.zeroValue343
 t229:=Tryz.underlying344
 a229:=Tryz.isAgg344
 z229:=Tryz.sizeOf344
 v229:=Tryz.zeroValue344}
def Tryz.strCompL_ren:Go.Shelf.Ren:=⟨fun|194=>198|n=>n,fun|31=>173|9=>9|3=>3|4=>4|0=>0|n=>n,fun|n=>n⟩
theorem Tryz.strCompL:Go.Proofs.Lays.n194 Tryz.prog Tryz.strCompL_ren:= {
 mixed:=by kernel_rfl
 f194:=Tryz.func198.trans (congrArg some (by kernel_rfl))
 t0:=Tryz.underlying0
 a0:=Tryz.isAgg0
 z0:=Tryz.sizeOf0
 v0:=Tryz.zeroValue0
 t3:=Tryz.underlying3
 a3:=Tryz.isAgg3
 z3:=Tryz.sizeOf3
 v3:=Tryz.zeroValue3
 t4:=Tryz.underlying4
 a4:=Tryz.isAgg4
 z4:=Tryz.sizeOf4
 v4:=Tryz.zeroValue4
 t9:=Tryz.underlying9
 a9:=Tryz.isAgg9
 z9:=Tryz.sizeOf9
 v9:=Tryz.zeroValue9
 t31:=Tryz.underlying173
 a31:=Tryz.isAgg173
 z31:=Tryz.sizeOf173
 v31:=Tryz.zeroValue173}
end Go.Proofs
namespace Go.Proofs.YtabkpccdnkjoiaaGreat
open Go.RowKit Go.Sort Go.Lib
theorem OwnAt.grown {w0 w w':World} {e e':TypeId} {size size':Nat} {g n n' c c':Nat} {xs xs':List Value} (h:OwnAt w0 w e size (.slice (some ⟨g,0,none⟩) n c) n xs) (hg:w.grownBy w' (some g)) (ho:w'.ownsRow 0 e' size' (.slice (some ⟨g,0,none⟩) n' c') n' xs'):
 OwnAt w0 w' e' size' (.slice (some ⟨g,0,none⟩) n' c') n' xs':=
 h.step ho (aj.grown hg fun k hk=> .inl (by cases hk;rfl)) fun k hk=> .inl (by simpa[Value.ownBlock]using hk)
theorem OD (w0 w:World) (e:TypeId) (v:Value) (n:Nat) (ss:List (List UInt8)) (h:OwnAt w0 w e 1 v n (ss.map encStr)) (hl:ss.length=n) (hn:n≤1000000):
 Calls Tryz.prog 197 #[v] w fun r w'=>r= .returned (.tuple #[])∧OwnAt w0 w' e 1 v n ((ss.mergeSort fun x y=>decide (x≤y)).map encStr):=by
 rcases Nat.eq_zero_or_pos n with rfl|h0
 ·obtain⟨a,c,rfl⟩:=h.shape
  obtain rfl:ss=[]:=List.eq_nil_of_length_eq_zero hl
  exact(Any.slices_Sort_string_none Tryz.strSortL a c w).mono fun _ _ ⟨he,hw⟩=>⟨he,by rw[hw];simpa using h⟩
 ·obtain⟨g,c,rfl,_,hlt,_⟩:=h.row h0
  rcases h.own.2 with⟨hnil,_⟩|⟨g',cap,cur,hv,hbase,hb,h1,h2,h3,h4⟩
  ·cases hnil
  ·cases hv
   subst hl
   refine(Any.slices_Sort_string Tryz.strSortL g 0 c ss w (holds_of_block hb (by simpa using h4)) hlt (by omega)).mono fun _ _ ⟨he,m,os,hw⟩=>⟨he,?_⟩
   subst hw
   exact h.grown (grownBy_sorted _) (ownsRow_sorted (by simp) (Nat.zero_le _) hb h1 h2 h3)
theorem OE {w:World} {base g cap n m:Nat} {e:TypeId} {xs:List Value} (h:w.ownsRow base e 1 (.slice (some ⟨g,0,none⟩) n cap) n xs) (hm:m≤n):w.ownsRow base e 1 (.slice (some ⟨g,0,none⟩) m cap) m (xs.take m):=by
 refine⟨by rw[List.length_take,h.1];omega,?_⟩
 rcases h.2 with⟨hnil,_⟩|⟨g',cap',cur,hv,hbase,hb,h1,h2,h3,h4⟩
 ·cases hnil
 ·cases hv
  refine .inr ⟨g,cap,cur,rfl,hbase,hb,by omega,h2,h3,?_⟩
  rw[←h4,List.take_take,Nat.mul_one,Nat.mul_one,Nat.min_eq_left hm]
theorem OG (w0 w:World) (e:TypeId) (v:Value) (n:Nat) (ss:List (List UInt8)) (h:OwnAt w0 w e 1 v n (ss.map encStr)) (hl:ss.length=n) (hn:n≤1000000):
 Calls Tryz.prog 198 #[v] w fun r w'=>∃v',r= .returned v'∧OwnAt w0 w' e 1 v' (compact ss).length ((compact ss).map encStr):=by
 rcases Nat.eq_zero_or_pos n with rfl|h0
 ·obtain⟨a,c,rfl⟩:=h.shape
  obtain rfl:ss=[]:=List.eq_nil_of_length_eq_zero hl
  exact(Any.slices_Compact_string_empty Tryz.strCompL a c w).mono fun _ _ ⟨he,hw⟩=>⟨_,he,by rw[hw];simpa[compact,compactUpTo]using h⟩
 ·obtain⟨g,c,rfl,_,hlt,_⟩:=h.row h0
  rcases h.own.2 with⟨hnil,_⟩|⟨g',cap,cur,hv,hbase,hb,h1,h2,h3,h4⟩
  ·cases hnil
  ·cases hv
   subst hl
   refine(Any.slices_Compact_string Tryz.strCompL g 0 c ss w (holds_of_block hb (by simpa using h4)) (by omega) h1).mono fun _ _ ⟨he,m,hw⟩=>⟨_,he,?_⟩
   have hle:=compact_length_le ss
   have hgw:w.grownBy (grow (putRow encStr (Sort.ahead w m) g 0 (compact ss++List.replicate (ss.length-(compact ss).length) []).toArray) #[]) (some g):=grownBy_sorted _
   have how:=ownsRow_sorted (n:=m) (os:= #[]) (ss:=ss) (ts:=compact ss++List.replicate (ss.length-(compact ss).length) []) (by simp;omega) (Nat.zero_le _) hb h1 h2 h3
   rw[grow_empty]at hgw how
   subst hw
   have hc:=OE how hle
   rw[List.map_append,List.take_left' (by simp)]at hc
   exact h.grown hgw hc
theorem Hg (zs:List (List UInt8)) (x:List UInt8):x∈compact zs↔x∈zs:=by
 unfold compact compactUpTo
 simp only[List.mem_map,List.mem_filter,List.mem_range]
 constructor
 ·rintro⟨j,⟨hj,_⟩,rfl⟩
  rw[getElem!_pos _ j (by simpa using hj)]
  simp
 ·intro hx
  obtain⟨j,hj,he⟩:=List.getElem_of_mem hx
  have key:∀j,(hj:j<zs.length)→zs[j]=x→∃i,(i<zs.length∧keeps zs.toArray i=true)∧zs.toArray[i]! =x:=by
   intro j
   induction j with
   |zero=>exact fun hj he=>⟨0,⟨hj,by simp[keeps]⟩,by rw[getElem!_pos _ 0 (by simpa using hj)];simpa using he⟩
   |succ j ih=>
    intro hj he
    by_cases hs:zs[j]'(by omega)=x
    ·exact ih (by omega) hs
    ·refine⟨j+1,⟨hj,?_⟩,by rw[getElem!_pos _ (j+1) (by simpa using hj)];simpa using he⟩
     unfold keeps
     rw[getElem!_pos _ (j+1) (by simpa using hj),getElem!_pos zs.toArray (j+1-1) (by simp;omega)]
     simp only[Nat.add_sub_cancel,List.getElem_toArray,he,decide_eq_true_eq]
     exact .inr fun h=>hs h.symm
  exact key j hj he
theorem OH {zs:List (List UInt8)} (h:zs.Pairwise fun x y=>x≤y):(compact zs).Pairwise fun x y=>x<y:=by
 unfold compact compactUpTo
 rw[List.pairwise_map,List.pairwise_iff_getElem]
 intro a b ha hb hab
 have hm:=fun(i:Nat) (hi:i<((List.range zs.length).filter (keeps zs.toArray)).length)=>List.mem_filter.1 (List.getElem_mem hi)
 have hp:((List.range zs.length).filter (keeps zs.toArray)).Pairwise (·<·):=List.Pairwise.filter _ List.pairwise_lt_range
 have hlt:=(List.pairwise_iff_getElem.1 hp) a b ha hb hab
 obtain⟨h1,_⟩:=hm a ha
 obtain⟨h2,h3⟩:=hm b hb
 generalize ((List.range zs.length).filter (keeps zs.toArray))[a]=i at*
 generalize ((List.range zs.length).filter (keeps zs.toArray))[b]=j at*
 have h1:i<zs.length:=by simpa using h1
 have h2:j<zs.length:=by simpa using h2
 have at_:∀k,(hk:k<zs.length)→zs.toArray[k]! =zs[k]:=fun k hk=>by rw[getElem!_pos _ k (by simpa using hk)];simp
 have le:∀p q,(hp:p<zs.length)→(hq:q<zs.length)→p≤q→zs[p]≤zs[q]:=fun p q hp hq hpq=>by
  rcases Nat.eq_or_lt_of_le hpq with rfl|hpq
  ·exact List.le_refl _
  ·exact(List.pairwise_iff_getElem.1 h) p q hp hq hpq
 unfold keeps at h3
 rw[at_ j h2,at_ (j-1) (by omega)]at h3
 simp only[decide_eq_true_eq]at h3
 rw[at_ i h1,at_ j h2]
 have hne:zs[j]≠zs[j-1]:=by
  rcases h3 with h3|h3
  ·omega
  ·exact h3
 have g1:=le i (j-1) h1 (by omega) (by omega)
 have g2:=le (j-1) j (by omega) h2 (by omega)
 have hle:=List.le_trans g1 g2
 refine Classical.byContradiction fun hn=>?_
 have he:zs[i]=zs[j]:=List.le_antisymm hle (List.not_lt.1 hn)
 exact hne (List.le_antisymm (he▸g1) g2)
def qW (l:List UInt8):ByteArray:=⟨l.toArray⟩
theorem B_ (b:ByteArray):qW b.toList=b:=by unfold qW;rw[ByteArray.toList_eq]
theorem Cb (l:List UInt8):(qW l).toList=l:=by unfold qW;rw[ByteArray.toList_eq]
theorem OI {A B:List ByteArray} (oa:jq A) (ob:jq B):compact (((A++B).map ByteArray.toList).mergeSort fun x y=>decide (x≤y))=(fP A B).map ByteArray.toList:=by
 obtain⟨zs,hz⟩:∃zs,zs=((A++B).map ByteArray.toList).mergeSort fun x y=>decide (x≤y):=⟨_,rfl⟩
 have hs:zs.Pairwise fun x y=>x≤y:=by
  rw[hz]
  have:=List.pairwise_mergeSort (le:=fun(x y:List UInt8)=>decide (x≤y)) (fun a b c h1 h2=>by simp only[decide_eq_true_eq]at*;exact List.le_trans h1 h2) (fun a b=>by simp only[Bool.or_eq_true,decide_eq_true_eq];exact List.le_total a b) ((A++B).map ByteArray.toList)
  exact this.imp fun h=>by simpa using h
 rw[←hz]
 have e1:(compact zs).map qW=fP A B:=by
  refine GU ?_ (BM oa ob) fun k=>?_
  ·rw[jq,List.pairwise_map]
   refine(OH hs).imp fun {x y} h=>?_
   unfold dW
   rw[Cb,Cb,bytesLess_eq]
   exact decide_eq_true h
  ·rw[qh,List.mem_map]
   constructor
   ·rintro⟨x,hx,rfl⟩
    rw[Hg,hz,List.mem_mergeSort,List.mem_map]at hx
    obtain⟨y,hy,rfl⟩:=hx
    rw[B_]
    exact List.mem_append.1 hy
   ·intro h
    refine⟨k.toList,?_,B_ k⟩
    rw[Hg,hz,List.mem_mergeSort,List.mem_map]
    exact⟨k,List.mem_append.2 h,rfl⟩
 rw[←e1,List.map_map]
 have:(ByteArray.toList∘qW)=id:=funext Cb
 rw[this,List.map_id]
theorem OJ (b:ByteArray):encStr b.toList= .string b:=by
 show Value.string (qW b.toList)=_
 rw[B_]
theorem map_encStr (l:List ByteArray):(l.map ByteArray.toList).map encStr=l.map .string:=by
 rw[List.map_map]
 exact List.map_congr_left fun b _=>OJ b
end Go.Proofs.YtabkpccdnkjoiaaGreat
