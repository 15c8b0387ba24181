/- Words for the law ShardParts: R7b, R7c, R7d, R7e, Tree, BunLaw, R8a. -/
import Derived.Test.YtlhmbkjdfjoilaaGreatShardPartsG0
import Derived.Test.YtlhmbkjdfjoilaaGreatShardPartsG3
set_option linter.unusedSimpArgs false
set_option linter.unusedVariables false
set_option maxHeartbeats 32000000
set_option maxRecDepth 1000000
namespace Go.Proofs.YtlhmbkjdfjoilaaGreat
open Go.RowKit
theorem Jb:∀ {a b:aU} {lo k:Int},fD lo a→(∀s∈a,s.1≤k)→fD k b→lo≤k→fD lo (a++b)
 |[],_,_,_,_,_,hb,hl=>hb.mono hl
 |s::a,b,lo,k,ha,hk,hb,_=>⟨ha.1,ha.2.1,Jb ha.2.2 (fun x hx=>hk x (List.mem_cons_of_mem _ hx)) hb (hk s List.mem_cons_self)⟩
theorem PL {c:aU} {d:Int} (h:∀s∈c,s.1≠d):bC c d=[]:=by
 unfold bC
 rw[List.filter_eq_nil_iff.2 (by intro s hs;simpa using h s hs)]
 rfl
structure kL (R:Int→aS→Prop) (k:Int) (c:aU):Prop where
 rise:fD 0 c
 below:∀s∈c,s.1<k
 parts:∀d,0≤d→d<k→R d (bC c d)
theorem kL.zero (R:Int→aS→Prop):kL R 0 []:=⟨trivial,(fun s hs=>by cases hs),fun d h0 h1=>by omega⟩
theorem kL.step {R:Int→aS→Prop} {k:Int} {c:aU} (h:kL R k c) (h0:0≤k) (h4:k<4) {o:aS} (ho:R k o):kL R (k+1) (c++dS k o):=by
 have hs:fD k (dS k o):=by
  have:=vW (lo:=k) (d:=k) (Int.le_refl _) h4 o (c:=[]) trivial
  rwa [List.append_nil]at this
 refine⟨Jb h.rise (fun s hs=>Int.le_of_lt (h.below s hs)) hs h0,fun s hs=>?_,fun d hd hdk=>?_⟩
 ·rcases List.mem_append.1 hs with hs|hs
  ·have:=h.below s hs;omega
  ·simp only[dS,List.mem_map]at hs
   obtain⟨r,_,rfl⟩:=hs
   show k<k+1
   omega
 ·rw[xY]
  by_cases he:d=k
  ·subst he
   rw[PL (fun s hs=>by have:=h.below s hs;omega),xZ]
   exact ho
  ·rw[mZ _ (fun e=>he e.symm),List.append_nil]
   exact h.parts d hd (by omega)
def DI (how:Int) (a b:aU) (d:Int) (o:aS):Prop:=bP o∧∀n,aV o n↔dQ how (iM a d n) (iM b d n)
theorem kL.DJ {how:Int} {a b c:aU} (h:kL (DI how a b) 4 c):iO how a b c:=
 ⟨⟨h.rise,fun d h0 h4=>(h.parts d h0 h4).1⟩,fun d n h0 h4=>(h.parts d h0 h4).2 n⟩
theorem dQ.or {how:Int} {p q:Prop} (h:dQ how p q):p∨q:=by
 unfold dQ at h
 split at h
 ·exact .inl h.1
 ·split at h
  ·exact .inl h.1
  ·exact h
theorem qU.PN {how:Int} {a b:aU} {d:Int} {o:aS} (h:qU (bC a d) (bC b d) how o none) (ha:bP (bC a d)) (hb:bP (bC b d)):DI how a b d o:=
 ⟨bP.of h.from_ (fun n hn=>(dQ.or ((h.none_ rfl n).1 hn)).elim (fun h=>(ha.Dk h).2) fun h=>(hb.Dk h).2),h.none_ rfl⟩
theorem sK (d:Int) (l:aS):(dS d l).length=l.length:=by simp[dS]
theorem DK {c:aU} {k j:Nat} {d:Int} {l:aS} (h:c.length≤40000*k) (hk:k≤4) (hl:l.length≤40000):(c++dS d l).length≤40000*(k+1)∧c.length+l.length≤1000000:=by
 rw[List.length_append,sK];omega
def Jc (how:Int):Prop:=∀(w:World) (va vb:Value) (a b:aU) (_:eY w va a) (_:eY w vb b) (_:bZ a) (_:bZ b) (_:a.length≤10000) (_:b.length≤10000),
    Calls Tryz.prog 87 #[va,vb, .int .i64 how] w fun e w'=>∃v' c,e= .returned v'∧OwnAt w w' 92 3 v' c.length (cO c)∧iO how a b c∧c.length≤160000
theorem PO (how:Int) (jR:IX how):Jc how:=by
 intro w va vb a b ha hb ra rb la lb
 obtain⟨i0,hi,hz0,hz1,hz2⟩:=info_parts yj
 obtain⟨aA,cA,rfl⟩:=ha.sl
 obtain⟨aB,cB,rfl⟩:=hb.sl
 have RA:=ah ra;clear ra
 have RB:=ah rb;clear rb
 have wB:=ah (fun w' d h=>DF w' _ a d (Rd.aN ha h) (by omega))
 have iP:=ah (fun w' d h=>DF w' _ b d (Rd.aN hb h) (by omega))
 have LA:=ah (fun d=>Nat.le_trans (wu a d) la)
 have LB:=ah (fun d=>Nat.le_trans (wu b d) lb)
 have jR:=ah jR
 clear ha hb la lb
 go_enter Tryz.func87,Tryz.ntmps87
 go_wp2
 go_loopw [7,9] (fun v i ww=>∃(k:Nat) (c:aU),k≤4∧i= .int .i64 k∧OwnAt w ww 92 3 v c.length (cO c)∧kL (DI how a b) k c∧c.length≤40000*k) (fun _ i _=>4-(intOf i).toNat)
 case atStart=>exact⟨0,[],by omega,rfl,OwnAt.nil (aj.refl _ _) _ _,kL.zero _,Nat.zero_le _⟩
 case round=>
  obtain⟨k,c,hk,rfl,ho,hu,hlen⟩:=hrel
  obtain⟨av,cv,rfl⟩:=ho.shape
  have HO:=ah ho;clear ho
  have HU:=ah hu;clear hu
  have HLEN:=ah hlen;clear hlen
  by_cases hlt:k<4
  ·have hra:=ah (RA.out.2 (k:Int) (by omega) (by omega))
   have hrb:=ah (RB.out.2 (k:Int) (by omega) (by omega))
   go_wp2_with(first
    |(go_at_call_of 86 aA;refine(wB.out _ k HO.out.aI).mono ?_;rintro e w1 ⟨v1,rfl,ho1⟩;obtain⟨a1,c1,rfl⟩:=ho1.shape;have dF:=ah ho1;clear ho1)
    |(go_at_call_of 86 aB;refine(iP.out _ k (HO.out.aI.aG dF.out.aI)).mono ?_;rintro e w2 ⟨v2,rfl,ho2⟩;obtain⟨a2,c2,rfl⟩:=ho2.shape;have fA:=ah ho2;clear ho2)
    |(go_at_call 123;refine(jR.out _ _ _ _ _ (dF.out.rd.aN fA.out.aI) fA.out.rd hra.out hrb.out (LA.out k) (LB.out k)).mono ?_;rintro e w3 ⟨v3,o,rfl,ho3,hby,hol⟩;obtain⟨a3,c3,rfl⟩:=ho3.shape;have bJ:=ah ho3;clear ho3;have HB3:=ah hby;clear hby;have HOL:=ah hol;clear hol)
    |(go_at_call 122;refine(Ja _ _ o k bJ.out.rd (Nat.le_trans HOL.out (by decide))).mono ?_;rintro e w4 ⟨v4,rfl,jG⟩;obtain⟨a4,c4,rfl⟩:=jG.shape;have jS:=ah jG;clear jG;have HKK:=ah (HO.out.keep (dF.out.aI.aG (fA.out.aI.aG (bJ.out.aI.aG jS.out.aI)))))
    |(at_builtin;refine ni w _ _ rfl (.tmp 12) (.tmp 22) 30 30 rfl 92 92 i0 _ 3 24 Tryz.underlying30 Tryz.underlying30 hi hz0 hz1 hz2 (by decide) (by decide) _ _ _ HKK.out _ o.length rfl rfl jS.out.rd (by rw[Af,sK]) (Du _) (by have:=(DK (j:=0) (d:=k) HLEN.out (Nat.le_of_lt hlt) HOL.out).2;simp only[maxLen];omega) (by have:=(DK (j:=0) (d:=k) HLEN.out (Nat.le_of_lt hlt) HOL.out).2;omega) ?_;intro ad cc w5 bU;have OW:=ah bU;clear bU))
   go_roundw
   case rel=>
    refine⟨k+1,c++dS k o,by omega,by go_num,?_,?_,(DK (j:=0) HLEN.out (Nat.le_of_lt hlt) HOL.out).1⟩
    ·rw[List.length_append,sK,Ae];exact OW.out
    ·have:=HU.out.step (by omega) (by omega) (HB3.out.PN hra.out hrb.out)
     exact this
   case measure=>simp[intOf];omega
  ·obtain rfl:k=4:=by omega
   go_wp2
   go_ret
   exact⟨_,c,rfl,HO.out,HU.out.DJ,HLEN.out⟩
theorem PS:Jc 2:=PO 2 PD
theorem PU (w:World) (va vb:Value) (a b:aU) (ha:eY w va a) (hb:eY w vb b) (ra:bZ a) (rb:bZ b) (la:a.length≤10000) (lb:b.length≤10000):
 Calls Tryz.prog 65 #[va,vb] w fun e w'=>e= .returned (.bool (tf (sG a b)))∧aj au w w':=by
 have HC:=ah (PS w va vb a b ha hb ra rb la lb)
 clear ha hb ra rb la lb
 go_enter Tryz.func65,Tryz.ntmps65
 go_wp2_with(go_at_call 87;refine HC.out.mono ?_;rintro e w1 ⟨v1,c,rfl,ho1,hby,hol⟩;obtain⟨a1,c1,rfl⟩:=ho1.shape;have dF:=ah ho1;clear ho1;have HB:=ah hby;clear hby;clear hol)
 go_ret
 refine⟨bI ?_,dF.out.aI⟩
 refine vU ?_
 rw[←HB.out.IB]
 simp
open Go.RowKit
open Go.RowKit
theorem DL:∀ {c:aU} {lo:Int} {s:Int×Int×Int},fD lo (c++ [s])↔fD lo c∧lo≤s.1∧s.1<4∧∀x∈c,x.1≤s.1
 |[],lo,s=>by simp[fD]
 |x::c,lo,s=>by
  rw[List.cons_append]
  show(lo≤x.1∧x.1<4∧fD x.1 (c++ [s]))↔_
  rw[DL]
  constructor
  ·rintro⟨h1,h2,h3,h4,h5,h6⟩
   refine⟨⟨h1,h2,h3⟩,by omega,h5,fun y hy=>?_⟩
   rcases List.mem_cons.1 hy with rfl|hy
   ·exact h4
   ·exact h6 y hy
  ·rintro⟨⟨h1,h2,h3⟩,h4,h5,h6⟩
   exact⟨h1,h2,h3,h6 x List.mem_cons_self,h5,fun y hy=>h6 y (List.mem_cons_of_mem _ hy)⟩
theorem Jd {c:aU} {lo:Int} (h:fD lo c) (k:Nat):fD lo (c.take k):=by
 have:∀ {a b:aU} {lo:Int},fD lo (a++b)→fD lo a:=by
  intro a
  induction a with
  |nil=>intro b lo _;trivial
  |cons s a ih=>intro b lo h;exact⟨h.1,h.2.1,ih h.2.2⟩
 exact this (b:=c.drop k) (by rw[List.take_append_drop];exact h)
theorem DN {c:aU} {k:Nat} (h:fD 0 (c.take k)) (hk:k<c.length):
 fD 0 (c.take (k+1))↔0≤(c.getD k (0,0,0)).1∧(c.getD k (0,0,0)).1<4∧(0<k→(c.getD (k-1) (0,0,0)).1≤(c.getD k (0,0,0)).1):=by
 rw[take_succ (0,0,0) hk,DL]
 generalize c.getD k (0,0,0)=s
 constructor
 ·rintro⟨_,h2,h3,h4⟩
  refine⟨h2,h3,fun h0=>h4 _ ?_⟩
  obtain⟨j,rfl⟩:∃j,k=j+1:=⟨k-1,by omega⟩
  rw[take_succ (0,0,0) (by omega)]
  simp
 ·rintro⟨h1,h2,h3⟩
  refine⟨h,h1,h2,fun x hx=>?_⟩
  rcases Nat.eq_zero_or_pos k with rfl|h0
  ·simp at hx
  ·have h5:=h3 h0
   obtain⟨j,rfl⟩:∃j,k=j+1:=⟨k-1,by omega⟩
   rw[take_succ (0,0,0) (by omega)]at hx h
   obtain⟨_,_,_,h9⟩:=DL.1 h
   rw[show j+1-1=j by omega]at h5
   rcases List.mem_append.1 hx with hx|hx
   ·have:=h9 x hx;omega
   ·simp only[List.mem_singleton]at hx;subst hx;exact h5
theorem PV {c:aU} {k:Nat} (h:fD 0 (c.take k)) (hk:k<c.length)
 (hn:¬(0≤(c.getD k (0,0,0)).1∧(c.getD k (0,0,0)).1<4∧(0<k→(c.getD (k-1) (0,0,0)).1≤(c.getD k (0,0,0)).1))):¬fD 0 c:=
 fun hl=>hn ((DN h hk).1 (Jd hl (k+1)))
def gZ (c:aU):Prop:=∀s∈c,-9223372036854775808≤s.1∧s.1≤9223372036854775807∧-9223372036854775808≤s.2.1∧s.2.1≤9223372036854775807∧-9223372036854775808≤s.2.2∧s.2.2≤9223372036854775807
theorem gZ.part {c:aU} (h:gZ c) (d:Int):Fits (bC c d):=fun r hr=>by
 unfold bC at hr
 obtain⟨s,hs,rfl⟩:=List.mem_map.1 hr
 have:=h s ((List.mem_filter.1 hs).1)
 omega
theorem PW (w:World) (v:Value) (c:aU) (hv:eY w v c) (hf:gZ c) (hl:c.length≤100000):
 Calls Tryz.prog 64 #[v] w fun e w'=>e= .returned (.bool (tf (bZ c)))∧aj au w w':=by
 have hcP:=fun w' d (h:aj au w w')=>DF w' v c d (Rd.aN hv h) hl
 have hfp:=hf.part
 rcases Rd.shape hv with⟨ad,rfl,h0⟩|⟨b,off,cc,rfl,hmax⟩
 ·obtain rfl:c=[]:=List.eq_nil_of_length_eq_zero h0
  have HP:=ah hcP;clear hcP
  have Ap:=ah hfp;clear hfp
  clear hv hf hl
  go_enter Tryz.func64,Tryz.ntmps64
  go_wp2
  go_loopw [7] (fun i ww=>i= .int .i64 0∧ww=w) (fun _ _=>0)
  case atStart=>exact⟨rfl,rfl⟩
  case round=>
   obtain⟨rfl,rfl⟩:=hrel
   go_wp2
   go_loopw [43] (fun i ww=>∃k:Nat,k≤4∧i= .int .i64 k∧aj au wr ww) (fun i _=>4-(intOf i).toNat)
   case atStart=>exact⟨0,by omega,rfl,aj.refl _ _⟩
   case round=>
    obtain⟨k,hk,rfl,hw⟩:=hrel
    have HW:=ah hw;clear hw
    by_cases hlt:k<4
    ·go_wp2_with(first
      |(go_at_call 86;refine(HP.out _ k HW.out).mono ?_;rintro e w1 ⟨v1,rfl,ho1⟩;obtain⟨a1,c1,rfl⟩:=ho1.shape;have dF:=ah ho1;clear ho1)
      |(go_at_call 85;refine(Dw _ _ (bC [] k) dF.out.rd (Ap.out k)).mono ?_;rintro e w2 ⟨rfl,hw2⟩;rw[show bC [] (k:Int)=[]from rfl,dD vV];have HW2:=ah hw2;clear hw2))
     go_roundw
     case rel=>exact⟨k+1,by omega,by go_num,HW.out.aG (dF.out.aI.aG HW2.out)⟩
     case measure=>simp[intOf];omega
    ·go_wp2
     go_ret
     exact⟨bI (dD OX).symm,HW.out⟩
 ·have HH:=ah hv;clear hv
  have HP:=ah hcP;clear hcP
  have Ap:=ah hfp;clear hfp
  clear hf hl
  generalize hn:c.length=n at*
  have HN:=ah hn;clear hn
  go_enter Tryz.func64,Tryz.ntmps64
  go_wp2
  go_loopw [7] (fun i ww=>∃k:Nat,k≤n∧i= .int .i64 k∧fD 0 (c.take k)∧∃q,ww=w.drewN q) (fun i _=>n-(intOf i).toNat)
  case atStart=>exact⟨0,Nat.zero_le _,rfl,trivial,0,rfl⟩
  case round=>
   obtain⟨k,hk,rfl,hr,q,rfl⟩:=hrel
   have HR:=ah hr;clear hr
   by_cases hlt:k<n
   ·obtain⟨q0,-,-⟩:=sJ HH.out HN.out.symm k (by rw[HN.out];exact hlt)
    have HS:=ah (DN HR.out (show k<c.length by rw[HN.out];exact hlt))
    have HX:=ah (PV HR.out (show k<c.length by rw[HN.out];exact hlt))
    generalize c.getD k (0,0,0)=s at*
    by_cases c1:s.1<0
    ·go_wp2_with fail
     go_big_quiet (fail)
     go_wp2
     go_ret
     exact⟨bI (bW (fun h=>HX.out (by omega) h.1)).symm,(aj.drewN _ _ _).fG⟩
    ·have d1:decide (s.1<0)=false:=by simpa using c1
     by_cases c2:4≤s.1
     ·go_wp2_with fail
      go_big_quiet (fail)
      go_wp2
      go_ret
      exact⟨bI (bW (fun h=>HX.out (by omega) h.1)).symm,(aj.drewN _ _ _).fG⟩
     ·have d2:decide (4≤s.1)=false:=by simpa using c2
      rcases Nat.eq_zero_or_pos k with rfl|hk0
      ·simp only[Nat.zero_mul,Nat.add_zero]at q0
       go_wp2_with fail
       go_big_quiet (fail)
       go_wp2
       go_roundw
       case rel=>exact⟨0+1,by omega,by go_num,HS.out.2 ⟨by omega,by omega,by omega⟩,q+nq,by first|rfl|rw[World.drewN_drewN]⟩
       case measure=>simp[intOf];omega
      ·obtain⟨j,rfl⟩:∃j,k=j+1:=⟨k-1,by omega⟩
       obtain⟨p0,-,-⟩:=sJ HH.out HN.out.symm j (by rw[HN.out];omega)
       rw[show j+1-1=j by omega]at HS HX
       generalize c.getD j (0,0,0)=p at*
       have hd:wrap64 (j:Int)=j:=by unfold wrap64;omega
       by_cases c3:s.1<p.1
       ·go_wp2_with fail
        go_big_quiet (fail)
        go_wp2
        go_ret
        exact⟨bI (bW (fun h=>HX.out (by omega) h.1)).symm,(aj.drewN _ _ _).fG⟩
       ·go_wp2_with fail
        go_big_quiet (fail)
        go_wp2
        go_roundw
        case rel=>exact⟨j+1+1,by omega,by go_num,HS.out.2 ⟨by omega,by omega,by omega⟩,q+nq,by first|rfl|rw[World.drewN_drewN]⟩
        case measure=>simp[intOf];omega
   ·obtain rfl:k=n:=by omega
    have hall:fD 0 c:=by
     have:=HR.out
     rwa [List.take_of_length_le (by rw[HN.out];exact Nat.le_refl _)]at this
    have HA:=ah hall;clear hall
    go_wp2
    go_loopw [43] (fun i ww=>∃k:Nat,k≤4∧i= .int .i64 k∧(∀d:Int,0≤d→d<k→bP (bC c d))∧aj au w ww) (fun i _=>4-(intOf i).toNat)
    case atStart=>exact⟨0,by omega,rfl,(fun d h0 h1=>by have:d<0:=h1;omega),aj.drewN _ _ _⟩
    case round=>
     obtain⟨j,hj,rfl,hd,hw⟩:=hrel
     have HW:=ah hw;clear hw
     have HD:=ah hd;clear hd
     by_cases hlt:j<4
     ·cases ht:tf (bP (bC c j))with
      |false=>
       have HT:=ah ht;clear ht
       go_wp2_with(first
        |(go_at_call 86;refine(HP.out _ j HW.out).mono ?_;rintro e w1 ⟨v1,rfl,ho1⟩;obtain⟨a1,c1,rfl⟩:=ho1.shape;have dF:=ah ho1;clear ho1)
        |(go_at_call 85;refine(Dw _ _ (bC c j) dF.out.rd (Ap.out j)).mono ?_;rintro e w2 ⟨rfl,hw2⟩;rw[HT.out];have HW2:=ah hw2;clear hw2))
       go_ret
       exact⟨bI (bW (fun h=>vS.1 HT.out (h.2 j (by omega) (by omega)))).symm,HW.out.aG (dF.out.aI.aG HW2.out)⟩
      |true=>
       have HT:=ah ht;clear ht
       go_wp2_with(first
        |(go_at_call 86;refine(HP.out _ j HW.out).mono ?_;rintro e w1 ⟨v1,rfl,ho1⟩;obtain⟨a1,c1,rfl⟩:=ho1.shape;have dF:=ah ho1;clear ho1)
        |(go_at_call 85;refine(Dw _ _ (bC c j) dF.out.rd (Ap.out j)).mono ?_;rintro e w2 ⟨rfl,hw2⟩;rw[HT.out];have HW2:=ah hw2;clear hw2))
       go_roundw
       case rel=>
        refine⟨j+1,by omega,by go_num,fun d h0 h1=>?_,HW.out.aG (dF.out.aI.aG HW2.out)⟩
        by_cases he:d=j
        ·subst he;exact vP.1 HT.out
        ·exact HD.out d h0 (by omega)
       case measure=>simp[intOf];omega
     ·obtain rfl:j=4:=by omega
      go_wp2
      go_ret
      exact⟨bI (dD ⟨HA.out,fun d h0 h4=>HD.out d h0 h4⟩).symm,HW.out⟩
open Go.RowKit
def numsL (l:aS) (d:Int):List Int:=(l.filter fun r=>r.1==d).map (·.2)
theorem Je {l:aS} {k:Nat} (d:Int) (hk:k<l.length):numsL (l.take (k+1)) d=numsL (l.take k) d++(if(l.getD k (0,0)).1=d then [(l.getD k (0,0)).2]else []):=by
 rw[take_succ (0,0) hk]
 unfold numsL
 rw[List.filter_append,List.map_append]
 congr 1
 generalize l.getD k (0,0)=r
 by_cases h:r.1=d
 ·rw[if_pos h,List.filter_cons_of_pos (by simpa using h)];rfl
 ·rw[if_neg h,List.filter_cons_of_neg (by simpa using h)];rfl
theorem Aq {l:aS} {d n:Int}:n∈numsL l d↔(d,n)∈l:=by
 unfold numsL
 simp only[List.mem_map,List.mem_filter]
 constructor
 ·rintro⟨r,⟨hr,he⟩,rfl⟩
  have:r.1=d:=by simpa using he
  subst this
  exact hr
 ·intro h
  exact⟨(d,n),⟨h,by simp⟩,rfl⟩
theorem DR (l:aS) (d:Int):(numsL l d).length≤l.length:=by
 unfold numsL;rw[List.length_map];exact List.length_filter_le _ _
def qX (l:aS):Prop:=∀r∈l,0≤r.1∧r.1<4∧1≤r.2∧r.2≤1099511627776
def DT (l:aS) (d:Int) (o:aS):Prop:=bP o∧∀n,aV o n↔(d,n)∈l
theorem kL.DU {l:aS} {c:aU} (h:kL (DT l) 4 c):ng l c:=
 ⟨⟨h.rise,fun d h0 h4=>(h.parts d h0 h4).1⟩,fun d n h0 h4=>(h.parts d h0 h4).2 n⟩
theorem uo.PX {l:aS} (hl:qX l) {d:Int} {o:aS} (h:uo (numsL l d) o none):DT l d o:=by
 have hm:∀n,aV o n↔(d,n)∈l:=fun n=>by
  rw[h.none_ rfl n,Aq]
  exact⟨fun h=>h.2,fun h=>⟨by have:=hl _ h;show 0<n;have:1≤n:=this.2.2.1;omega,h⟩⟩
 exact⟨bP.of h.from_ fun n hn=>(hl _ ((hm n).1 hn)).2.2.2,hm⟩
theorem PY {l:aS} (hl:qX l) (d:Int):∀x∈numsL l d,1≤x∧x≤1099511627777:=fun x hx=>by
 have:=hl _ (Aq.1 hx)
 have h1:1≤x:=this.2.2.1
 have h2:x≤1099511627776:=this.2.2.2
 omega
theorem DV {c:aU} {k:Nat} {d:Int} {l o:aS} (h:c.length≤10000*k) (hk:k≤4) (hl:o.length≤10000):(c++dS d o).length≤10000*(k+1)∧c.length+o.length≤1000000:=by
 rw[List.length_append,sK];omega
theorem PZ (w:World) (v:Value) (l:aS) (hv:iF w v l) (hd:qX l) (hl:l.length≤10000):
 Calls Tryz.prog 88 #[v] w fun e w'=>∃v' c,e= .returned v'∧OwnAt w w' 92 3 v' c.length (cO c)∧ng l c∧c.length≤40000:=by
 obtain⟨i0,hi,hz0,hz1,hz2⟩:=info_parts yj
 obtain⟨j0,hji,hy0,hy1,hy2⟩:=info_parts Aj
 obtain⟨aA,cA,rfl⟩:=hv.sl
 have HH:=ah hv;clear hv
 have HD:=ah hd;clear hd
 have HL:=ah hl;clear hl
 generalize hn:l.length=n at*
 have HN:=ah hn;clear hn
 go_enter Tryz.func88,Tryz.ntmps88
 go_wp2
 go_loopw [3,7] (fun v i ww=>∃(k:Nat) (c:aU),k≤4∧i= .int .i64 k∧OwnAt w ww 92 3 v c.length (cO c)∧kL (DT l) k c∧c.length≤10000*k) (fun _ i _=>4-(intOf i).toNat)
 case atStart=>exact⟨0,[],by omega,rfl,OwnAt.nil (aj.refl _ _) _ _,kL.zero _,Nat.zero_le _⟩
 case round=>
  obtain⟨k,c,hk,rfl,ho,hu,hlen⟩:=hrel
  obtain⟨av,cv,rfl⟩:=ho.shape
  have HO:=ah ho;clear ho
  have HU:=ah hu;clear hu
  have HLEN:=ah hlen;clear hlen
  by_cases hlt:k<4
  ·have hki:(k:Int)<4:=by omega
   have hkd:decide ((k:Int)<4)=true:=by simpa using hki
   go_wp2
   go_loopw [5,12] (fun v i ww=>∃(j m:Nat),j≤n∧m≤j∧i= .int .i64 j∧m=(numsL (l.take j) k).length∧OwnAt wr ww 2 1 v m (kY (numsL (l.take j) k))) (fun _ i _=>n-(intOf i).toNat)
   case atStart=>exact⟨0,0,Nat.zero_le _,Nat.le_refl _,rfl,rfl,OwnAt.nil (aj.refl _ _) _ _⟩
   case round=>
    obtain⟨j,m,hj,hmj,rfl,hm,hoi⟩:=hrel
    obtain⟨ai,ci,rfl⟩:=hoi.shape
    have uy:=ah hoi;clear hoi
    have HM:=ah hm;clear hm
    have yt:=ah hmj;clear hmj
    by_cases hjl:j<n
    ·rcases Rd.shape HH.out with⟨ad,he,h0⟩|⟨b,off,cc,he,hmax⟩
     ·exfalso;have:=HN.out;omega
     ·injection he with e1 e2 e3
      subst e1 e3
      clear e2
      rw[HN.out]at hmax
      obtain⟨p0,p1⟩:=lY HH.out HN.out.symm j (by rw[HN.out];exact hjl)
      have q0:=uy.out.aI.cell' (HO.out.aI.cell' p0 id) id
      have q1:=uy.out.aI.cell' (HO.out.aI.cell' p1 id) id
      have hE:=Je (l:=l) (k:=j) k (by rw[HN.out];exact hjl)
      generalize l.getD j (0,0)=s at*
      clear p0 p1
      by_cases he:s.1=k
      ·rw[if_pos he]at hE
       have he':((s.1:Int)==(k:Int))=true:=by simp[he]
       have HE:=ah hE;clear hE
       clear he
       go_wp2_with(at_builtin;refine ku _ _ [.int .i64 s.2] rfl (.tmp 22) (.tmp 28) 171 rfl 2 j0 _ 1 8 Tryz.underlying171 hji hy0 hy1 hy2 (by decide) (by decide) _ _ _ uy.out 1 1 rfl rfl rfl (by simp[Value.oneCell']) (by have:=HL.out;have:=yt.out;simp only[maxLen];omega) (by have:=HL.out;have:=yt.out;omega) ?_;intro ad jd w2 bn;have OW:=ah bn;clear bn)
       go_roundw
       case rel=>
        refine⟨j+1,m+1,by omega,by have:=yt.out;omega,by go_num,by rw[HE.out,List.length_append,←HM.out];rfl,?_⟩
        rw[HE.out,Ad]
        exact OW.out
       case measure=>simp[intOf];omega
      ·rw[if_neg he,List.append_nil]at hE
       have he':((s.1:Int)==(k:Int))=false:=by simpa using he
       have HE:=ah hE;clear hE
       clear he
       go_wp2
       go_roundw
       case rel=>exact⟨j+1,m,by omega,by have:=yt.out;omega,by go_num,by rw[HE.out];exact HM.out,by rw[HE.out];exact uy.out⟩
       case measure=>simp[intOf];omega
    ·obtain rfl:j=n:=by omega
     rw[List.take_of_length_le (by rw[HN.out];exact Nat.le_refl _)]at uy HM
     have hob:=uy.out.rd
     rw[HM.out]at hob
     have yu:=ah hob;clear hob
     have P_:=ah (HO.out.keep uy.out.aI)
     have hlm:m≤10000:=Nat.le_trans yt.out HL.out
     have Jf:=ah (HM.out▸hlm:(numsL l k).length≤10000)
     clear hlm
     rw[HM.out]
     go_wp2_with(first
      |(go_at_call 124;refine(Px _ _ (numsL l k) yu.out (Nat.le_trans Jf.out (by decide)) (PY HD.out k)).mono ?_;rintro e w3 ⟨v3,o,rfl,ho3,hof,hol⟩;obtain⟨a3,c3,rfl⟩:=ho3.shape;have bJ:=ah ho3;clear ho3;have nC:=ah hof;clear hof;have HOL:=ah (Nat.le_trans hol Jf.out);clear hol)
      |(go_at_call 122;refine(Ja _ _ o k bJ.out.rd (Nat.le_trans HOL.out (by decide))).mono ?_;rintro e w4 ⟨v4,rfl,jG⟩;obtain⟨a4,c4,rfl⟩:=jG.shape;have jS:=ah jG;clear jG;have HKK:=ah (P_.out.keep (bJ.out.aI.aG jS.out.aI)))
      |(at_builtin;refine ni w _ _ rfl (.tmp 31) (.tmp 35) 30 30 rfl 92 92 i0 _ 3 24 Tryz.underlying30 Tryz.underlying30 hi hz0 hz1 hz2 (by decide) (by decide) _ _ _ HKK.out _ o.length rfl rfl jS.out.rd (by rw[Af,sK]) (Du _) (by have:=(DV (d:=k) (l:=[]) HLEN.out (Nat.le_of_lt hlt) HOL.out).2;simp only[maxLen];omega) (by have:=(DV (d:=k) (l:=[]) HLEN.out (Nat.le_of_lt hlt) HOL.out).2;omega) ?_;intro ad cc w5 bU;have OW:=ah bU;clear bU))
     go_roundw
     case rel=>
      refine⟨k+1,c++dS k o,by omega,by go_num,?_,?_,(DV (l:=[]) HLEN.out (Nat.le_of_lt hlt) HOL.out).1⟩
      ·rw[List.length_append,sK,Ae];exact OW.out
      ·exact HU.out.step (by omega) (by omega) (nC.out.PX HD.out)
     case measure=>simp[intOf];omega
  ·obtain rfl:k=4:=by omega
   go_wp2
   go_ret
   exact⟨_,c,rfl,HO.out,HU.out.DU,HLEN.out⟩
open Go.RowKit
structure aF where
 dc:Int
 n:Int
 s:ByteArray
 k:Int
inductive aH where
 |nil:aH
 |cons (key:ByteArray) (es:List aF) (sub rest:aH):aH
def aH.len:aH→Nat
 | .nil=>0
 | .cons _ _ _ rest=>rest.len+1
def aF.zero:aF:=⟨0,0,ByteArray.empty,0⟩
def aF.cells (e:aF):List Value:=[.int .i64 e.dc, .int .i64 e.n, .string e.s, .int .i64 e.k]
def fJ (es:List aF):List Value:=es.flatMap aF.cells
theorem Jg (e:aF) (es:List aF):fJ (e::es)= .int .i64 e.dc:: .int .i64 e.n:: .string e.s:: .int .i64 e.k::fJ es:=rfl
theorem Ar (a b:List aF):fJ (a++b)=fJ a++fJ b:=by simp[fJ]
theorem Jh:∀es:List aF,(fJ es).length=es.length*4
 |[]=>rfl
 |e::es=>by rw[Jg];simp only[List.length_cons,Jh es];omega
theorem Qa (es:List aF):∀v∈fJ es,v.oneCell'=true:=by
 intro v hv
 simp only[fJ,List.mem_flatMap]at hv
 obtain⟨r,_,hv⟩:=hv
 simp[aF.cells]at hv
 rcases hv with rfl|rfl|rfl|rfl<;>rfl
theorem DW:∀(es:List aF) (k:Nat),k<es.length→(fJ es)[k*4]?=some (.int .i64 (es.getD k aF.zero).dc)∧(fJ es)[k*4+1]?=some (.int .i64 (es.getD k aF.zero).n)∧
 (fJ es)[k*4+2]?=some (.string (es.getD k aF.zero).s)∧(fJ es)[k*4+3]?=some (.int .i64 (es.getD k aF.zero).k)
 |[],_,h=>by cases h
 |e::es,0,_=>⟨rfl,rfl,rfl,rfl⟩
 |e::es,k+1,h=>by
  obtain⟨h1,h2,h3,h4⟩:=DW es k (by simpa using h)
  rw[Jg,show(k+1)*4=k*4+1+1+1+1 by omega,show k*4+1+1+1+1+1=(k*4+1)+1+1+1+1 by omega,show k*4+1+1+1+1+2=(k*4+2)+1+1+1+1 by omega,show k*4+1+1+1+1+3=(k*4+3)+1+1+1+1 by omega]
  exact⟨h1,h2,h3,h4⟩
def gK:aH→List (Value×Value)→List Value
 | .cons key _ _ rest,o::outs=> .string key::o.1::o.2::gK rest outs
 |_,_=> []
structure gy (Q:Nat→Prop) (w:World) (v:Value) (n:Nat) (xs:List Value):Prop where
 rd:Rd w v n xs
 q:xs≠ []→∀k,v.ownBlock=some k→Q k
theorem gy.keep {Q S:Nat→Prop} {w w':World} {v:Value} {n:Nat} {xs:List Value} (h:gy Q w v n xs) (f:aj S w w') (hs:∀k,k<w.heap.size→S k→¬Q k):gy Q w' v n xs:=by
 refine⟨?_,h.q⟩
 rcases h.rd with h1|⟨b,off,c,rfl,h1,h2,h3⟩
 ·exact .inl h1
 ·refine .inr ⟨b,off,c,rfl,h1,h2,fun j u hu=>f.cell' (h3 j u hu) fun s=>?_⟩
  have hlt:b<w.heap.size:=World.block_lt_of_cell? _ _ (h3 j u hu)
  exact hs b hlt s (h.q (fun e=>by rw[e]at hu;simp at hu) b rfl)
def iw (Q:Nat→Prop) (w:World):aH→List (Value×Value)→Prop
 | .nil,outs=>outs=[]
 | .cons _ es sub rest,outs=>∃ev kv mg os,outs=(ev,kv)::mg∧gy Q w ev es.length (fJ es)∧gy Q w kv sub.len (gK sub os)∧iw Q w sub os∧iw Q w rest mg
structure bg (Q:Nat→Prop) (w:World) (ev kv:Value) (es:List aF) (ks:aH):Prop where
 ents:gy Q w ev es.length (fJ es)
 kids:∃os,gy Q w kv ks.len (gK ks os)∧iw Q w ks os
theorem iw.keep {Q S:Nat→Prop} {w w':World} (f:aj S w w') (hs:∀k,k<w.heap.size→S k→¬Q k):∀ {ks:aH} {os:List (Value×Value)},iw Q w ks os→iw Q w' ks os
 | .nil,_,h=>h
 | .cons _ _ _ _,_,⟨ev,kv,mg,os,h1,h2,h3,h4,h5⟩=>⟨ev,kv,mg,os,h1,h2.keep f hs,h3.keep f hs,h4.keep f hs,h5.keep f hs⟩
theorem bg.keep {Q S:Nat→Prop} {w w':World} {ev kv:Value} {es:List aF} {ks:aH} (h:bg Q w ev kv es ks) (f:aj S w w') (hs:∀k,k<w.heap.size→S k→¬Q k):bg Q w' ev kv es ks:=
 ⟨h.ents.keep f hs,let⟨os,h1,h2⟩:=h.kids;⟨os,h1.keep f hs,h2.keep f hs⟩⟩
theorem bg.aN {Q:Nat→Prop} {w w':World} {ev kv:Value} {es:List aF} {ks:aH} (h:bg Q w ev kv es ks) (f:aj au w w'):bg Q w' ev kv es ks:=h.keep f fun _ _ s=>s.elim
theorem iw.aN {Q:Nat→Prop} {w w':World} {ks:aH} {os:List (Value×Value)} (h:iw Q w ks os) (f:aj au w w'):iw Q w' ks os:=h.keep f fun _ _ s=>s.elim
theorem iw.length {Q:Nat→Prop} {w:World}:∀ {ks:aH} {os:List (Value×Value)},iw Q w ks os→(gK ks os).length=ks.len*3
 | .nil,_,h=>by cases h;rfl
 | .cons _ _ _ _,_,⟨ev,kv,mg,os,h1,_,_,_,h5⟩=>by
   subst h1
   have:=h5.length
   show(_::_::_::gK _ mg).length=_
   simp only[List.length_cons,this,aH.len]
   omega
def aH.drop:Nat→aH→aH
 |0,ks=>ks
 |_+1, .nil=> .nil
 |n+1, .cons _ _ _ rest=>rest.drop n
theorem iw.drop {Q:Nat→Prop} {w:World}:∀(n:Nat) {ks:aH} {os:List (Value×Value)},iw Q w ks os→∃os',iw Q w (ks.drop n) os'∧(gK ks os).drop (n*3)=gK (ks.drop n) os'
 |0,ks,os,h=>⟨os,h,by simp[aH.drop]⟩
 |n+1, .nil,os,h=>by cases h;exact⟨[],rfl,by simp[gK,aH.drop]⟩
 |n+1, .cons key es sub rest,_,⟨ev,kv,mg,os,h1,_,_,_,h5⟩=>by
  subst h1
  obtain⟨os',h6,h7⟩:=iw.drop n h5
  refine⟨os',h6,?_⟩
  show(_::_::_::gK rest mg).drop ((n+1)*3)=_
  rw[show(n+1)*3=n*3+1+1+1 by omega]
  exact h7
theorem aH.Au:∀(n:Nat) (ks:aH),(ks.drop n).len=ks.len-n
 |0,ks=>by simp[aH.drop]
 |n+1, .nil=>by simp[aH.drop,aH.len]
 |n+1, .cons _ _ _ rest=>by
  show(rest.drop n).len=rest.len+1-(n+1)
  rw[aH.Au n rest];omega
theorem aH.qY:∀(n:Nat) (ks:aH) {key:ByteArray} {es:List aF} {sub rest:aH},ks.drop n= .cons key es sub rest→ks.drop (n+1)=rest
 |0, .cons _ _ _ _,_,_,_,_,h=>by cases h;rfl
 |0, .nil,_,_,_,_,h=>by cases h
 |n+1, .nil,_,_,_,_,h=>by cases h
 |n+1, .cons _ _ _ r,_,_,_,_,h=>aH.qY n r h
theorem aH.mD {n:Nat} {ks:aH} (h:n<ks.len):∃key es sub rest,ks.drop n= .cons key es sub rest:=by
 have hl:=aH.Au n ks
 cases hd:ks.drop n with
 |nil=>rw[hd]at hl;simp[aH.len]at hl;omega
 |cons key es sub rest=>exact⟨_,_,_,_,rfl⟩
theorem aH.nZ {n:Nat} {ks:aH} (h:ks.len≤n):ks.drop n= .nil:=by
 have hl:=aH.Au n ks
 cases hd:ks.drop n with
 |nil=>rfl
 |cons key es sub rest=>rw[hd]at hl;simp[aH.len]at hl;omega
theorem k_ {Q:Nat→Prop} {w:World} {b off c m:Nat} {ks:aH} {os:List (Value×Value)} (h:Rd w (.slice (some ⟨b,off,none⟩) m c) m (gK ks os)) (hf:iw Q w ks os) {n:Nat} {key:ByteArray} {es:List aF} {sub rest:aH} (hd:ks.drop n= .cons key es sub rest):
 ∃ev kv,w.cell? ⟨b,off+n*3,none⟩=some (.string key)∧w.cell? ⟨b,off+n*3+1,none⟩=some ev∧w.cell? ⟨b,off+n*3+2,none⟩=some kv∧bg Q w ev kv es sub:=by
 obtain⟨os',h1,h2⟩:=hf.drop n
 rw[hd]at h1 h2
 obtain⟨ev,kv,mg,os2,rfl,g2,g3,g4,_⟩:=h1
 have sN:∀j u,(gK (.cons key es sub rest) ((ev,kv)::mg))[j]?=some u→w.cell? ⟨b,off+n*3+j,none⟩=some u:=fun j u hu=>by
  rw[←h2,List.getElem?_drop]at hu
  have:=h.cell _ u hu
  rwa [←Nat.add_assoc]at this
 exact⟨ev,kv,sN 0 _ rfl,sN 1 _ rfl,sN 2 _ rfl,g2,os2,g3,g4⟩
theorem nD {w:World} {b off c n:Nat} {es:List aF} (h:Rd w (.slice (some ⟨b,off,none⟩) n c) n (fJ es)) (k:Nat) (hk:k<es.length):
 w.cell? ⟨b,off+k*4,none⟩=some (.int .i64 (es.getD k aF.zero).dc)∧w.cell? ⟨b,off+k*4+1,none⟩=some (.int .i64 (es.getD k aF.zero).n)∧w.cell? ⟨b,off+k*4+2,none⟩=some (.string (es.getD k aF.zero).s)∧w.cell? ⟨b,off+k*4+3,none⟩=some (.int .i64 (es.getD k aF.zero).k):=by
 obtain⟨h1,h2,h3,h4⟩:=DW es k hk
 exact⟨h.cell _ _ h1,h.cell (k*4+1) _ h2,h.cell (k*4+2) _ h3,h.cell (k*4+3) _ h4⟩
def aF.fits (e:aF):Prop:=(-9223372036854775808≤e.dc∧e.dc≤9223372036854775807)∧(-9223372036854775808≤e.n∧e.n≤9223372036854775807)∧(-9223372036854775808≤e.k∧e.k≤9223372036854775807)∧e.s.size≤9223372036854775807
structure wC (es:List aF):Prop where
 len:es.length≤140737488351232
 fits:∀e∈es,e.fits
def aH.Ok:aH→Prop
 | .nil=>True
 | .cons key es sub rest=>key.size≤9223372036854775807∧wC es∧sub.len≤140737488351232∧sub.Ok∧rest.Ok
theorem aH.Ok.drop:∀(n:Nat) {ks:aH},ks.Ok→(ks.drop n).Ok
 |0,_,h=>h
 |_+1, .nil,_=>trivial
 |n+1, .cons _ _ _ _,h=>aH.Ok.drop n h.2.2.2.2
structure iQ (es:List aF) (ks:aH):Prop where
 es:wC es
 len:ks.len≤140737488351232
 ks:ks.Ok
def dZ (e:aF):Bool:=lI e.dc e.n&&decide (e.s.size≤30∧e.k≤1099511627776∧-1099511627776≤e.k)
def qB:Option aF→aF→Bool
 |none,_=>true
 |some p,e=>kX p.dc p.n e.dc e.n
def fE:Option aF→List aF→Bool
 |_,[]=>true
 |p,e::l=>dZ e&&qB p e&&fE (some e) l
def bQ (a b:ByteArray):Bool:=Op.bytesLess a.toList b.toList
def ltK:Option ByteArray→ByteArray→Bool
 |none,_=>true
 |some p,s=>bQ p s
def isNil (es:List aF) (ks:aH):Bool:=decide (es.length=0∧ks.len=0)
def fV:aH→Nat→Option ByteArray→Bool
 | .nil,_,_=>true
 | .cons key es sub rest,d,p=>lJ key&&ltK p key&& !isNil es sub&&(decide (1≤d)&&fE none es&&fV sub (d-1) none)&&fV rest d (some key)
def aX (d:Nat) (es:List aF) (ks:aH):Bool:=decide (1≤d)&&fE none es&&fV ks (d-1) none
theorem n_ (key:ByteArray) (es:List aF) (sub rest:aH) (d:Nat) (p:Option ByteArray):fV (.cons key es sub rest) d p=(lJ key&&ltK p key&& !isNil es sub&&aX d es sub&&fV rest d (some key)):=rfl
def kM (es:List aF):aS:=es.map fun e=>(e.dc,e.n)
def g_:aH→aS
 | .nil=> []
 | .cons _ es sub rest=>kM es++g_ sub++g_ rest
def eu (es:List aF) (ks:aH):aS:=kM es++g_ ks
def cu:aH→Nat
 | .nil=>0
 | .cons _ es sub rest=>1+es.length+cu sub+cu rest
def sizeT (es:List aF) (ks:aH):Nat:=es.length+cu ks
end Go.Proofs.YtlhmbkjdfjoilaaGreat
namespace Go.Proofs.YtlhmbkjdfjoilaaGreat
def Ji (l:aS) (c:aU):Prop:=∀r∈l,iM c r.1 r.2
theorem ng.leq {l:aS} {c d:aU} (hd:qX l) (h:ng l d):sG d c↔Ji l c:=by
 constructor
 ·intro hl r hr
  obtain⟨h0,h4,_⟩:=hd r hr
  exact hl r.1 r.2 h0 h4 ((h.mem r.1 r.2 h0 h4).2 hr)
 ·intro hl e n h0 h4 hi
  exact hl (e,n) ((h.mem e n h0 h4).1 hi)
theorem DX:∀ {l:List aF} {p:Option aF},fE p l=true→qX (kM l)
 |[],_,_=>fun r hr=>by cases hr
 |e::l,p,h=>by
  have h:(dZ e&&qB p e&&fE (some e) l)=true:=h
  simp only[Bool.and_eq_true]at h
  intro r hr
  rcases List.mem_cons.1 hr with rfl|hr
  ·have:=h.1.1
   unfold dZ lI at this
   simp at this
   exact this.1
  ·exact DX h.2 r hr
theorem DY:∀ {ks:aH} {d:Nat} {p:Option ByteArray},fV ks d p=true→qX (g_ ks)
 | .nil,_,_,_=>fun r hr=>by cases hr
 | .cons key es sub rest,d,p,h=>by
   rw[n_]at h
   unfold aX at h
   simp only[Bool.and_eq_true]at h
   intro r hr
   have hr:r∈kM es++g_ sub++g_ rest:=hr
   rcases List.mem_append.1 hr with hr|hr
   ·rcases List.mem_append.1 hr with hr|hr
    ·exact DX h.1.2.1.2 r hr
    ·exact DY h.1.2.2 r hr
   ·exact DY h.2 r hr
theorem DZ {d:Nat} {es:List aF} {ks:aH} (h:aX d es ks=true):qX (eu es ks):=by
 unfold aX at h
 simp only[Bool.and_eq_true]at h
 intro r hr
 rcases List.mem_append.1 hr with hr|hr
 ·exact DX h.1.2 r hr
 ·exact DY h.2 r hr
theorem D_ (es:List aF):(kM es).length=es.length:=by simp[kM]
theorem Ea:∀ks:aH,(g_ ks).length≤cu ks
 | .nil=>Nat.le_refl _
 | .cons _ es sub rest=>by
   have h1:=Ea sub
   have h2:=Ea rest
   show(kM es++g_ sub++g_ rest).length≤1+es.length+cu sub+cu rest
   rw[List.length_append,List.length_append,D_]
   omega
theorem Aw (es:List aF) (ks:aH):(eu es ks).length≤sizeT es ks:=by
 have:=Ea ks
 unfold eu sizeT
 rw[List.length_append,D_]
 omega
open Go.RowKit
def aF.v (e:aF):Value:= .agg #[.int .i64 e.dc, .int .i64 e.n, .string e.s, .int .i64 e.k]
theorem yw (e:aF) (hs:e.s.size≤9223372036854775807) (w:World):Calls Tryz.prog 120 #[e.v] w fun x w'=>x= .returned (.bool (dZ e))∧aj au w w':=by
 unfold aF.v
 have c2:(w.alloc (.cells #[.int .i64 e.dc, .int .i64 e.n, .string e.s, .int .i64 e.k] 100)).cell? ⟨w.heap.size,2,none⟩=some (.string e.s):=aJ (heap_alloc_new w _) 2 rfl
 have c3:(w.alloc (.cells #[.int .i64 e.dc, .int .i64 e.n, .string e.s, .int .i64 e.k] 100)).cell? ⟨w.heap.size,3,none⟩=some (.int .i64 e.k):=aJ (heap_alloc_new w _) 3 rfl
 cases hd:lI e.dc e.n with
 |false=>
  go_enter Tryz.func120,Tryz.ntmps120
  go_wp2_with(go_at_call 159;refine(IC _ _ _).mono ?_;rintro x w1 ⟨rfl,hw1⟩;rw[hd])
  go_ret
  exact⟨bI (by simp[dZ,hd]),(aj.alloc _ _ _).aG hw1⟩
 |true=>
  go_enter Tryz.func120,Tryz.ntmps120
  go_wp2_with(go_at_call 159;refine(IC _ _ _).mono ?_;rintro x w1 ⟨rfl,hw1⟩;rw[hd];have k2:=hw1.cell' c2 id;have k3:=hw1.cell' c3 id)
  all_goals
   go_ret
   refine⟨bI ?_,(aj.alloc _ _ _).aG hw1⟩
   rw[Bool.eq_iff_iff]
   simp[dZ,hd]<;>omega
theorem Jj:∀(l:List aF) (p:Option aF) (e:aF),fE p (l++ [e])=(fE p l&&dZ e&&qB (match l.getLast? with|some x=>some x|none=>p) e)
 |[],p,e=>by simp[fE]
 |x::l,p,e=>by
  show(dZ x&&qB p x&&fE (some x) (l++ [e]))=((dZ x&&qB p x&&fE (some x) l)&&dZ e&&_)
  rw[Jj l (some x) e]
  have:(match(x::l).getLast? with|some y=>some y|none=>p)=(match l.getLast? with|some y=>some y|none=>some x):=by
   cases l with
   |nil=>rfl
   |cons y l=>
    rw[List.getLast?_cons_cons]
    cases h:(y::l).getLast? with
    |none=>simp at h
    |some z=>rfl
  rw[this]
  simp only[Bool.and_assoc]
theorem Jk:∀(l:List aF) (p:Option aF) (k:Nat),fE p l=true→fE p (l.take k)=true
 |[],_,_,_=>by simp[fE]
 |_::_,_,0,_=>rfl
 |x::l,p,k+1,h=>by
  have h:(dZ x&&qB p x&&fE (some x) l)=true:=h
  show(dZ x&&qB p x&&fE (some x) (l.take k))=true
  simp only[Bool.and_eq_true]at h⊢
  exact⟨h.1,Jk l _ k h.2⟩
theorem Jl {l:List aF} (h:0<l.length):fE none (l.take (0+1))=dZ (l.getD 0 aF.zero):=by
 rw[take_succ aF.zero h]
 simp[fE,qB]
theorem Jm {l:List aF} {j:Nat} (h:j+1<l.length) (hr:fE none (l.take (j+1))=true):fE none (l.take (j+1+1))=(dZ (l.getD (j+1) aF.zero)&&kX (l.getD j aF.zero).dc (l.getD j aF.zero).n (l.getD (j+1) aF.zero).dc (l.getD (j+1) aF.zero).n):=by
 rw[take_succ aF.zero h,Jj,hr]
 have:(l.take (j+1)).getLast?=some (l.getD j aF.zero):=by
  rw[take_succ aF.zero (by omega)];simp
 rw[this]
 simp[qB]
theorem og {l:List aF} {k:Nat} (h:fE none (l.take k)=false):fE none l=false:=by
 cases hh:fE none l with
 |false=>rfl
 |true=>rw[Jk l none k hh]at h;cases h
theorem wC.at {es:List aF} (h:wC es) {k:Nat} (hk:k<es.length):(es.getD k aF.zero).fits:=h.fits _ (getD_mem _ hk)
end Go.Proofs.YtlhmbkjdfjoilaaGreat
