/- Words for the law ShSet: R7b, R7c, R7d, Own2, HeldLast, Four, SJoin. -/
import Derived.Test.YtlhmbkjdfjoilaaGreatShSetG0
import Derived.Test.YtlhmbkjdfjoilaaGreatShSetG3
import Derived.Deep.RegionHeld
import Derived.StillTailTactics
import Derived.IntWalk
set_option linter.unusedSimpArgs false
set_option linter.unusedVariables false
set_option maxHeartbeats 32000000
set_option maxRecDepth 1000000
namespace Go.Proofs.YtlhmbkjdfjoilaaGreat
open Go.RowKit
theorem GR:∀ {a b:aV} {lo k:Int},eH lo a→(∀s∈a,s.1≤k)→eH k b→lo≤k→eH lo (a++b)
 |[],_,_,_,_,_,hb,hl=>hb.mono hl
 |s::a,b,lo,k,ha,hk,hb,_=>⟨ha.1,ha.2.1,GR ha.2.2 (fun x hx=>hk x (List.mem_cons_of_mem _ hx)) hb (hk s List.mem_cons_self)⟩
theorem Oi {c:aV} {d:Int} (h:∀s∈c,s.1≠d):aZ c d=[]:=by
 unfold aZ
 rw[List.filter_eq_nil_iff.2 (by intro s hs;simpa using h s hs)]
 rfl
structure jP (R:Int→aS→Prop) (k:Int) (c:aV):Prop where
 rise:eH 0 c
 below:∀s∈c,s.1<k
 parts:∀d,0≤d→d<k→R d (aZ c d)
theorem jP.zero (R:Int→aS→Prop):jP R 0 []:=⟨trivial,(fun s hs=>by cases hs),fun d h0 h1=>by omega⟩
theorem jP.step {R:Int→aS→Prop} {k:Int} {c:aV} (h:jP R k c) (h0:0≤k) (h4:k<4) {o:aS} (ho:R k o):jP R (k+1) (c++dR k o):=by
 have hs:eH k (dR k o):=by
  have:=uG (lo:=k) (d:=k) (Int.le_refl _) h4 o (c:=[]) trivial
  rwa [List.append_nil]at this
 refine⟨GR h.rise (fun s hs=>Int.le_of_lt (h.below s hs)) hs h0,fun s hs=>?_,fun d hd hdk=>?_⟩
 ·rcases List.mem_append.1 hs with hs|hs
  ·have:=h.below s hs;omega
  ·simp only[dR,List.mem_map]at hs
   obtain⟨r,_,rfl⟩:=hs
   show k<k+1
   omega
 ·rw[wB]
  by_cases he:d=k
  ·subst he
   rw[Oi (fun s hs=>by have:=h.below s hs;omega),wC]
   exact ho
  ·rw[lY _ (fun e=>he e.symm),List.append_nil]
   exact h.parts d hd (by omega)
def BO (how:Int) (a b:aV) (d:Int) (o:aS):Prop:=bM o∧∀n,aX o n↔dO how (iy a d n) (iy b d n)
theorem jP.BP {how:Int} {a b c:aV} (h:jP (BO how a b) 4 c):iC how a b c:=
 ⟨⟨h.rise,fun d h0 h4=>(h.parts d h0 h4).1⟩,fun d n h0 h4=>(h.parts d h0 h4).2 n⟩
theorem dO.or {how:Int} {p q:Prop} (h:dO how p q):p∨q:=by
 unfold dO at h
 split at h
 ·exact .inl h.1
 ·split at h
  ·exact .inl h.1
  ·exact h
theorem pY.Oj {how:Int} {a b:aV} {d:Int} {o:aS} (h:pY (aZ a d) (aZ b d) how o none) (ha:bM (aZ a d)) (hb:bM (aZ b d)):BO how a b d o:=
 ⟨bM.of h.from_ (fun n hn=>(dO.or ((h.none_ rfl n).1 hn)).elim (fun h=>(ha.Bq h).2) fun h=>(hb.Bq h).2),h.none_ rfl⟩
theorem qU (d:Int) (l:aS):(dR d l).length=l.length:=by simp[dR]
theorem BQ {c:aV} {k j:Nat} {d:Int} {l:aS} (h:c.length≤40000*k) (hk:k≤4) (hl:l.length≤40000):(c++dR d l).length≤40000*(k+1)∧c.length+l.length≤1000000:=by
 rw[List.length_append,qU];omega
def GU (how:Int):Prop:=∀(w:World) (va vb:Value) (a b:aV) (_:fB w va a) (_:fB w vb b) (_:bY a) (_:bY b) (_:a.length≤10000) (_:b.length≤10000),
    Calls Tryz.prog 87 #[va,vb, .int .i64 how] w fun e w'=>∃v' c,e= .returned v'∧OwnAt w w' 92 3 v' c.length (bU c)∧iC how a b c∧c.length≤160000
theorem Ol (how:Int) (mG:GH how):GU how:=by
 intro w va vb a b ha hb ra rb la lb
 obtain⟨i0,hi,hz0,hz1,hz2⟩:=info_parts wH
 obtain⟨aA,cA,rfl⟩:=ha.sl
 obtain⟨aB,cB,rfl⟩:=hb.sl
 have RA:=ah ra;clear ra
 have RB:=ah rb;clear rb
 have Om:=ah (fun w' d h=>BN w' _ a d (Rd.aN ha h) (by omega))
 have iD:=ah (fun w' d h=>BN w' _ b d (Rd.aN hb h) (by omega))
 have LA:=ah (fun d=>Nat.le_trans (uK a d) la)
 have LB:=ah (fun d=>Nat.le_trans (uK b d) lb)
 have mG:=ah mG
 clear ha hb la lb
 go_enter Tryz.func87,Tryz.ntmps87
 go_wp2
 go_loopw [7,9] (fun v i ww=>∃(k:Nat) (c:aV),k≤4∧i= .int .i64 k∧OwnAt w ww 92 3 v c.length (bU c)∧jP (BO how a b) k c∧c.length≤40000*k) (fun _ i _=>4-(intOf i).toNat)
 case atStart=>exact⟨0,[],by omega,rfl,OwnAt.nil (aj.refl _ _) _ _,jP.zero _,Nat.zero_le _⟩
 case round=>
  obtain⟨k,c,hk,rfl,ho,hu,hlen⟩:=hrel
  obtain⟨av,cv,rfl⟩:=ho.shape
  have HO:=ah ho;clear ho
  have HU:=ah hu;clear hu
  have HLEN:=ah hlen;clear hlen
  by_cases hlt:k<4
  ·have hra:=ah (RA.out.2 (k:Int) (by omega) (by omega))
   have hrb:=ah (RB.out.2 (k:Int) (by omega) (by omega))
   go_wp2_with(first
    |(go_at_call_of 86 aA;refine(Om.out _ k HO.out.aJ).mono ?_;rintro e w1 ⟨v1,rfl,ho1⟩;obtain⟨a1,c1,rfl⟩:=ho1.shape;have dB:=ah ho1;clear ho1)
    |(go_at_call_of 86 aB;refine(iD.out _ k (HO.out.aJ.aF dB.out.aJ)).mono ?_;rintro e w2 ⟨v2,rfl,ho2⟩;obtain⟨a2,c2,rfl⟩:=ho2.shape;have dV:=ah ho2;clear ho2)
    |(go_at_call 123;refine(mG.out _ _ _ _ _ (dB.out.rd.aN dV.out.aJ) dV.out.rd hra.out hrb.out (LA.out k) (LB.out k)).mono ?_;rintro e w3 ⟨v3,o,rfl,ho3,hby,hol⟩;obtain⟨a3,c3,rfl⟩:=ho3.shape;have bJ:=ah ho3;clear ho3;have HB3:=ah hby;clear hby;have HOL:=ah hol;clear hol)
    |(go_at_call 122;refine(GN _ _ o k bJ.out.rd (Nat.le_trans HOL.out (by decide))).mono ?_;rintro e w4 ⟨v4,rfl,ji⟩;obtain⟨a4,c4,rfl⟩:=ji.shape;have jy:=ah ji;clear ji;have HKK:=ah (HO.out.keep (dB.out.aJ.aF (dV.out.aJ.aF (bJ.out.aJ.aF jy.out.aJ)))))
    |(at_builtin;refine mD w _ _ rfl (.tmp 12) (.tmp 22) 30 30 rfl 92 92 i0 _ 3 24 Tryz.underlying30 Tryz.underlying30 hi hz0 hz1 hz2 (by decide) (by decide) _ _ _ HKK.out _ o.length rfl rfl jy.out.rd (by rw[yP,qU]) (BG _) (by have:=(BQ (j:=0) (d:=k) HLEN.out (Nat.le_of_lt hlt) HOL.out).2;simp only[maxLen];omega) (by have:=(BQ (j:=0) (d:=k) HLEN.out (Nat.le_of_lt hlt) HOL.out).2;omega) ?_;intro ad cc w5 dw;have OW:=ah dw;clear dw))
   go_roundw
   case rel=>
    refine⟨k+1,c++dR k o,by omega,by go_num,?_,?_,(BQ (j:=0) HLEN.out (Nat.le_of_lt hlt) HOL.out).1⟩
    ·rw[List.length_append,qU,yO];exact OW.out
    ·have:=HU.out.step (by omega) (by omega) (HB3.out.Oj hra.out hrb.out)
     exact this
   case measure=>simp[intOf];omega
  ·obtain rfl:k=4:=by omega
   go_wp2
   go_ret
   exact⟨_,c,rfl,HO.out,HU.out.BP,HLEN.out⟩
theorem Oo:GU 2:=Ol 2 Ob
theorem Oq (w:World) (va vb:Value) (a b:aV) (ha:fB w va a) (hb:fB w vb b) (ra:bY a) (rb:bY b) (la:a.length≤10000) (lb:b.length≤10000):
 Calls Tryz.prog 65 #[va,vb] w fun e w'=>e= .returned (.bool (tf (qQ a b)))∧aj au w w':=by
 have HC:=ah (Oo w va vb a b ha hb ra rb la lb)
 clear ha hb ra rb la lb
 go_enter Tryz.func65,Tryz.ntmps65
 go_wp2_with(go_at_call 87;refine HC.out.mono ?_;rintro e w1 ⟨v1,c,rfl,ho1,hby,hol⟩;obtain⟨a1,c1,rfl⟩:=ho1.shape;have dB:=ah ho1;clear ho1;have HB:=ah hby;clear hby;clear hol)
 go_ret
 refine⟨bH ?_,dB.out.aJ⟩
 refine uD ?_
 rw[←HB.out.Gm]
 simp
open Go.RowKit
open Go.RowKit
theorem BR:∀ {c:aV} {lo:Int} {s:Int×Int×Int},eH lo (c++ [s])↔eH lo c∧lo≤s.1∧s.1<4∧∀x∈c,x.1≤s.1
 |[],lo,s=>by simp[eH]
 |x::c,lo,s=>by
  rw[List.cons_append]
  show(lo≤x.1∧x.1<4∧eH x.1 (c++ [s]))↔_
  rw[BR]
  constructor
  ·rintro⟨h1,h2,h3,h4,h5,h6⟩
   refine⟨⟨h1,h2,h3⟩,by omega,h5,fun y hy=>?_⟩
   rcases List.mem_cons.1 hy with rfl|hy
   ·exact h4
   ·exact h6 y hy
  ·rintro⟨⟨h1,h2,h3⟩,h4,h5,h6⟩
   exact⟨h1,h2,h3,h6 x List.mem_cons_self,h5,fun y hy=>h6 y (List.mem_cons_of_mem _ hy)⟩
theorem GV {c:aV} {lo:Int} (h:eH lo c) (k:Nat):eH lo (c.take k):=by
 have:∀ {a b:aV} {lo:Int},eH lo (a++b)→eH lo a:=by
  intro a
  induction a with
  |nil=>intro b lo _;trivial
  |cons s a ih=>intro b lo h;exact⟨h.1,h.2.1,ih h.2.2⟩
 exact this (b:=c.drop k) (by rw[List.take_append_drop];exact h)
theorem BU {c:aV} {k:Nat} (h:eH 0 (c.take k)) (hk:k<c.length):
 eH 0 (c.take (k+1))↔0≤(c.getD k (0,0,0)).1∧(c.getD k (0,0,0)).1<4∧(0<k→(c.getD (k-1) (0,0,0)).1≤(c.getD k (0,0,0)).1):=by
 rw[take_succ (0,0,0) hk,BR]
 generalize c.getD k (0,0,0)=s
 constructor
 ·rintro⟨_,h2,h3,h4⟩
  refine⟨h2,h3,fun h0=>h4 _ ?_⟩
  obtain⟨j,rfl⟩:∃j,k=j+1:=⟨k-1,by omega⟩
  rw[take_succ (0,0,0) (by omega)]
  simp
 ·rintro⟨h1,h2,h3⟩
  refine⟨h,h1,h2,fun x hx=>?_⟩
  rcases Nat.eq_zero_or_pos k with rfl|h0
  ·simp at hx
  ·have h5:=h3 h0
   obtain⟨j,rfl⟩:∃j,k=j+1:=⟨k-1,by omega⟩
   rw[take_succ (0,0,0) (by omega)]at hx h
   obtain⟨_,_,_,h9⟩:=BR.1 h
   rw[show j+1-1=j by omega]at h5
   rcases List.mem_append.1 hx with hx|hx
   ·have:=h9 x hx;omega
   ·simp only[List.mem_singleton]at hx;subst hx;exact h5
theorem Ot {c:aV} {k:Nat} (h:eH 0 (c.take k)) (hk:k<c.length)
 (hn:¬(0≤(c.getD k (0,0,0)).1∧(c.getD k (0,0,0)).1<4∧(0<k→(c.getD (k-1) (0,0,0)).1≤(c.getD k (0,0,0)).1))):¬eH 0 c:=
 fun hl=>hn ((BU h hk).1 (GV hl (k+1)))
def g_ (c:aV):Prop:=∀s∈c,-9223372036854775808≤s.1∧s.1≤9223372036854775807∧-9223372036854775808≤s.2.1∧s.2.1≤9223372036854775807∧-9223372036854775808≤s.2.2∧s.2.2≤9223372036854775807
theorem g_.part {c:aV} (h:g_ c) (d:Int):Fits (aZ c d):=fun r hr=>by
 unfold aZ at hr
 obtain⟨s,hs,rfl⟩:=List.mem_map.1 hr
 have:=h s ((List.mem_filter.1 hs).1)
 omega
theorem Ou (w:World) (v:Value) (c:aV) (hv:fB w v c) (hf:g_ c) (hl:c.length≤100000):
 Calls Tryz.prog 64 #[v] w fun e w'=>e= .returned (.bool (tf (bY c)))∧aj au w w':=by
 have hcP:=fun w' d (h:aj au w w')=>BN w' v c d (Rd.aN hv h) hl
 have hfp:=hf.part
 rcases Rd.shape hv with⟨ad,rfl,h0⟩|⟨b,off,cc,rfl,hmax⟩
 ·obtain rfl:c=[]:=List.eq_nil_of_length_eq_zero h0
  have HP:=ah hcP;clear hcP
  have yY:=ah hfp;clear hfp
  clear hv hf hl
  go_enter Tryz.func64,Tryz.ntmps64
  go_wp2
  go_loopw [7] (fun i ww=>i= .int .i64 0∧ww=w) (fun _ _=>0)
  case atStart=>exact⟨rfl,rfl⟩
  case round=>
   obtain⟨rfl,rfl⟩:=hrel
   go_wp2
   go_loopw [43] (fun i ww=>∃k:Nat,k≤4∧i= .int .i64 k∧aj au wr ww) (fun i _=>4-(intOf i).toNat)
   case atStart=>exact⟨0,by omega,rfl,aj.refl _ _⟩
   case round=>
    obtain⟨k,hk,rfl,hw⟩:=hrel
    have HW:=ah hw;clear hw
    by_cases hlt:k<4
    ·go_wp2_with(first
      |(go_at_call 86;refine(HP.out _ k HW.out).mono ?_;rintro e w1 ⟨v1,rfl,ho1⟩;obtain⟨a1,c1,rfl⟩:=ho1.shape;have dB:=ah ho1;clear ho1)
      |(go_at_call 85;refine(BI _ _ (aZ [] k) dB.out.rd (yY.out k)).mono ?_;rintro e w2 ⟨rfl,hw2⟩;rw[show aZ [] (k:Int)=[]from rfl,dH uF];have HW2:=ah hw2;clear hw2))
     go_roundw
     case rel=>exact⟨k+1,by omega,by go_num,HW.out.aF (dB.out.aJ.aF HW2.out)⟩
     case measure=>simp[intOf];omega
    ·go_wp2
     go_ret
     exact⟨bH (dH NJ).symm,HW.out⟩
 ·have HH:=ah hv;clear hv
  have HP:=ah hcP;clear hcP
  have yY:=ah hfp;clear hfp
  clear hf hl
  generalize hn:c.length=n at*
  have HN:=ah hn;clear hn
  go_enter Tryz.func64,Tryz.ntmps64
  go_wp2
  go_loopw [7] (fun i ww=>∃k:Nat,k≤n∧i= .int .i64 k∧eH 0 (c.take k)∧∃q,ww=w.drewN q) (fun i _=>n-(intOf i).toNat)
  case atStart=>exact⟨0,Nat.zero_le _,rfl,trivial,0,rfl⟩
  case round=>
   obtain⟨k,hk,rfl,hr,q,rfl⟩:=hrel
   have HR:=ah hr;clear hr
   by_cases hlt:k<n
   ·obtain⟨q0,-,-⟩:=qR HH.out HN.out.symm k (by rw[HN.out];exact hlt)
    have HS:=ah (BU HR.out (show k<c.length by rw[HN.out];exact hlt))
    have HX:=ah (Ot HR.out (show k<c.length by rw[HN.out];exact hlt))
    generalize c.getD k (0,0,0)=s at*
    by_cases c1:s.1<0
    ·go_wp2_with fail
     go_big_quiet (fail)
     go_wp2
     go_ret
     exact⟨bH (bW (fun h=>HX.out (by omega) h.1)).symm,(aj.drewN _ _ _).eX⟩
    ·have d1:decide (s.1<0)=false:=by simpa using c1
     by_cases c2:4≤s.1
     ·go_wp2_with fail
      go_big_quiet (fail)
      go_wp2
      go_ret
      exact⟨bH (bW (fun h=>HX.out (by omega) h.1)).symm,(aj.drewN _ _ _).eX⟩
     ·have d2:decide (4≤s.1)=false:=by simpa using c2
      rcases Nat.eq_zero_or_pos k with rfl|hk0
      ·simp only[Nat.zero_mul,Nat.add_zero]at q0
       go_wp2_with fail
       go_big_quiet (fail)
       go_wp2
       go_roundw
       case rel=>exact⟨0+1,by omega,by go_num,HS.out.2 ⟨by omega,by omega,by omega⟩,q+nq,by first|rfl|rw[World.drewN_drewN]⟩
       case measure=>simp[intOf];omega
      ·obtain⟨j,rfl⟩:∃j,k=j+1:=⟨k-1,by omega⟩
       obtain⟨p0,-,-⟩:=qR HH.out HN.out.symm j (by rw[HN.out];omega)
       rw[show j+1-1=j by omega]at HS HX
       generalize c.getD j (0,0,0)=p at*
       have hd:wrap64 (j:Int)=j:=by unfold wrap64;omega
       by_cases c3:s.1<p.1
       ·go_wp2_with fail
        go_big_quiet (fail)
        go_wp2
        go_ret
        exact⟨bH (bW (fun h=>HX.out (by omega) h.1)).symm,(aj.drewN _ _ _).eX⟩
       ·go_wp2_with fail
        go_big_quiet (fail)
        go_wp2
        go_roundw
        case rel=>exact⟨j+1+1,by omega,by go_num,HS.out.2 ⟨by omega,by omega,by omega⟩,q+nq,by first|rfl|rw[World.drewN_drewN]⟩
        case measure=>simp[intOf];omega
   ·obtain rfl:k=n:=by omega
    have hall:eH 0 c:=by
     have:=HR.out
     rwa [List.take_of_length_le (by rw[HN.out];exact Nat.le_refl _)]at this
    have HA:=ah hall;clear hall
    go_wp2
    go_loopw [43] (fun i ww=>∃k:Nat,k≤4∧i= .int .i64 k∧(∀d:Int,0≤d→d<k→bM (aZ c d))∧aj au w ww) (fun i _=>4-(intOf i).toNat)
    case atStart=>exact⟨0,by omega,rfl,(fun d h0 h1=>by have:d<0:=h1;omega),aj.drewN _ _ _⟩
    case round=>
     obtain⟨j,hj,rfl,hd,hw⟩:=hrel
     have HW:=ah hw;clear hw
     have HD:=ah hd;clear hd
     by_cases hlt:j<4
     ·cases ht:tf (bM (aZ c j))with
      |false=>
       have HT:=ah ht;clear ht
       go_wp2_with(first
        |(go_at_call 86;refine(HP.out _ j HW.out).mono ?_;rintro e w1 ⟨v1,rfl,ho1⟩;obtain⟨a1,c1,rfl⟩:=ho1.shape;have dB:=ah ho1;clear ho1)
        |(go_at_call 85;refine(BI _ _ (aZ c j) dB.out.rd (yY.out j)).mono ?_;rintro e w2 ⟨rfl,hw2⟩;rw[HT.out];have HW2:=ah hw2;clear hw2))
       go_ret
       exact⟨bH (bW (fun h=>uy.1 HT.out (h.2 j (by omega) (by omega)))).symm,HW.out.aF (dB.out.aJ.aF HW2.out)⟩
      |true=>
       have HT:=ah ht;clear ht
       go_wp2_with(first
        |(go_at_call 86;refine(HP.out _ j HW.out).mono ?_;rintro e w1 ⟨v1,rfl,ho1⟩;obtain⟨a1,c1,rfl⟩:=ho1.shape;have dB:=ah ho1;clear ho1)
        |(go_at_call 85;refine(BI _ _ (aZ c j) dB.out.rd (yY.out j)).mono ?_;rintro e w2 ⟨rfl,hw2⟩;rw[HT.out];have HW2:=ah hw2;clear hw2))
       go_roundw
       case rel=>
        refine⟨j+1,by omega,by go_num,fun d h0 h1=>?_,HW.out.aF (dB.out.aJ.aF HW2.out)⟩
        by_cases he:d=j
        ·subst he;exact uw.1 HT.out
        ·exact HD.out d h0 (by omega)
       case measure=>simp[intOf];omega
     ·obtain rfl:j=4:=by omega
      go_wp2
      go_ret
      exact⟨bH (dH ⟨HA.out,fun d h0 h4=>HD.out d h0 h4⟩).symm,HW.out⟩
open Go.RowKit
structure dP (N:Nat→Prop) (w0 w:World) (e:TypeId) (size:Nat) (v:Value) (n:Nat) (xs:List Value):Prop where
 at_:OwnAt w0 w e size v n xs
 but:∀k,v.ownBlock=some k→¬N k
theorem OwnAt.lt {w0 w:World} {e:TypeId} {size:Nat} {v:Value} {n:Nat} {xs:List Value} (h:OwnAt w0 w e size v n xs):∀k,v.ownBlock=some k→k<w.heap.size:=fun k hk=>by
 rcases h.own.2 with⟨rfl,_⟩|⟨g,cap,cur,rfl,_,hg,_⟩
 ·simp[Value.ownBlock]at hk
 ·simp[Value.ownBlock]at hk
  subst hk
  exact lt_of_block hg
theorem OwnAt.away {N:Nat→Prop} {w0 w w':World} {e:TypeId} {size:Nat} {v:Value} {n:Nat} {xs:List Value} (h:OwnAt w0 w e size v n xs) (f:aj au w w') (hN:∀k,N k→w.heap.size≤k):dP N w0 w' e size v n xs:=
 ⟨h.keep f,fun k hk hn=>by have:=h.lt k hk;have:=hN k hn;omega⟩
theorem dP.nil {N:Nat→Prop} {w0 w:World} (f:aj au w0 w) (e:TypeId) (size:Nat):dP N w0 w e size (.slice none 0 0) 0 []:=⟨OwnAt.nil f e size,fun k hk=>by simp[Value.ownBlock]at hk⟩
theorem dP.keep {N:Nat→Prop} {w0 w w':World} {e:TypeId} {size:Nat} {v:Value} {n:Nat} {xs:List Value} (h:dP N w0 w e size v n xs) (f:aj au w w'):dP N w0 w' e size v n xs:=⟨h.at_.keep f,h.but⟩
theorem dP.box {N:Nat→Prop} {w0 w:World} {e:TypeId} {size:Nat} {v:Value} {n:Nat} {xs:List Value} (h:dP N w0 w e size v n xs) (o:Obj):dP (fun k=>N k∨k=w.heap.size) w0 (w.alloc o) e size v n xs:=
 ⟨h.at_.keep (aj.alloc _ _ _),fun k hk hn=>by
   rcases hn with hn|hn
   ·exact h.but k hk hn
   ·have:=h.at_.lt k hk;omega⟩
theorem dP.mono {N M:Nat→Prop} {w0 w:World} {e:TypeId} {size:Nat} {v:Value} {n:Nat} {xs:List Value} (h:dP N w0 w e size v n xs) (hs:∀k,M k→N k):dP M w0 w e size v n xs:=⟨h.at_,fun k hk hm=>h.but k hk (hs k hm)⟩
theorem dP.set {N:Nat→Prop} {w0 w:World} {e:TypeId} {size:Nat} {v:Value} {n:Nat} {xs:List Value} (h:dP N w0 w e size v n xs) {p:Addr} (hp:N p.block) (hn:w0.heap.size≤p.block) (u:Value):dP N w0 (w.setCell p u) e size v n xs:=
 ⟨⟨(aj.setCell (S:=fun k=>k=p.block) w (.inl rfl) u).owns h.at_.own (fun k hk he=>h.but k hk (by have he:k=p.block:=he;rw[he];exact hp)),h.at_.new,h.at_.aJ.set1 (.inr hn)⟩,h.but⟩
def nD (N:Nat→Prop) (w w':World):Prop:=w.heap.size≤w'.heap.size∧∀b,N b→w'.heap[b]?=w.heap[b]?
theorem nD.cell {N:Nat→Prop} {w w':World} (h:nD N w w') {p:Addr} {u:Value} (hp:N p.block) (hu:w.cell? p=some u):w'.cell? p=some u:=
 (World.cell?_of_block (w:=w) (h.2 p.block hp)).trans hu
theorem nD.frozen {N:Nat→Prop} {w w':World} (h:nD N w w') {p:Addr} (hp:N p.block) {b:Bool} (hu:w.frozen? p=b):w'.frozen? p=b:=
 (World.frozen?_of_block (w:=w) (h.2 p.block hp)).trans hu
theorem nD.blk {N:Nat→Prop} {w w':World} (h:nD N w w') {b:Nat} {o:Obj} (hp:N b) (hu:w.heap[b]?=some o):w'.heap[b]?=some o:=(h.2 b hp).trans hu
theorem dP.step {N:Nat→Prop} {w0 w w':World} {e e':TypeId} {size size':Nat} {v v':Value} {n n':Nat} {xs xs':List Value} (h:dP N w0 w e size v n xs) (hN:∀k,N k→k<w.heap.size)
 (own:w'.ownsRow 0 e' size' v' n' xs') (fm:aj (dh v) w w') (fr:jr w v v'):dP N w0 w' e' size' v' n' xs'∧nD N w w':=
 ⟨⟨h.at_.step own fm fr,fun k hk hn=>by
   rcases fr k hk with h1|h1
   ·exact h.but k h1 hn
   ·have:=hN k hn;omega⟩,fm.size,fun b hb=>fm.block b (hN b hb) fun hs=>h.but b hs hb⟩
section
variable {P:Program}
theorem GX {ops:Array Oper} {rest:List Oper} {o:Oper} {a:Act} {Q:Exit→Act→World→Prop} (N:Nat→Prop) (w0 w:World) (news:List Value) (hgd:o.guard=none) (s x:Operand) (t:TypeId)
 (ho:o.op= .call {callee:= .builtin .append,args:= #[s,x],argTypes:= #[t,t]})
 (e:TypeId) (i:TypeInfo) (z:Value) (size bytes:Nat) (ht:P.underlying t=some (.slice e)) (hi:P.info? e=some i) (hz:i.zero=some z)
 (hsize:i.size=size) (hby:i.bytes=bytes) (hzs:z.cells.size=size) (hsz:0<size)
 (v:Value) (n:Nat) (xs:List Value) (hown:dP N w0 w e size v n xs) (hN:∀k,N k→k<w.heap.size) (m c:Nat) (hv:a.eval s=v) (hx:a.eval x= .slice (some ⟨w.heap.size,0,none⟩) m c)
 (hnl:news.length=m*size) (h1:∀u∈news,u.oneCell'=true) (h63:n+m≤maxLen) (hbytes:(n+m)*bytes≤140737488355328)
 (h:∀ad c w',dP N w0 w' e size (.slice ad (n+m) c) (n+m) (xs++news)→nD N w w'→wpList P ops Q rest (a.put o.dst (.slice ad (n+m) c)) w'):
 wpList P ops Q (o::rest) a (w.alloc (.cells news.toArray e)):=
 FV w news hgd s x t ho e i z size bytes ht hi hz hsize hby hzs hsz v n xs hown.at_.own m c hv hx hnl h1 h63 hbytes fun ad c' w' g1 g2 g3=>h ad c' w' (hown.step hN g1 g2 g3).1 (hown.step hN g1 g2 g3).2
end
end Go.Proofs.YtlhmbkjdfjoilaaGreat
namespace Go.Proofs.YtlhmbkjdfjoilaaGreat
section
variable {P:Program} {ops:Array Oper} {Q:Exit→Act→World→Prop} {md:Region.Mode} {S:World→Prop} {z:Nat}
def gy (P:Program) (md:Region.Mode) (ops:Array Oper) (Q:Exit→Act→World→Prop) (S:World→Prop) (z:Nat):Nat→Array Bool→Act→World→Prop
 |0,listed,a,w=>Region.ready md ops listed=[]∧Q .normal a w
 |fuel+1,listed,a,w=>
  (Region.ready md ops listed=[]→Q .normal a w)∧
  ∀i∈Region.ready md ops listed,wpOp P ops Q i (fun a' w'=>(i=z∨S w')∧gy P md ops Q S z fuel (listed.setIfInBounds i true) a' w') a w
theorem GY:∀(fuel:Nat) (listed:Array Bool) (a:Act) (w:World),gy P md ops Q S z fuel listed a w→wpAny P md ops Q fuel listed a w
 |0,_,_,_,h=>h
 |fuel+1,_,_,_,h=>⟨h.1,fun i hi=>wpOp_mono (fun a' w' h'=>GY fuel _ a' w' h'.2) (h.2 i hi)⟩
def lastB (md:Region.Mode) (ops:Array Oper) (z:Nat):Bool:=(List.range ops.size).all fun i=>i==z||(match ops[z]? with|some o=>o.after.any fun e=>Region.binds md e&&e.on==i|none=>false)
theorem Ov {i:Nat} {o oi:Oper} (h:lastB md ops z=true) (hz:ops[z]?=some o) (hi:ops[i]?=some oi) (hne:i≠z):∃e∈o.after,Region.binds md e=true∧e.on=i:=by
 unfold lastB at h
 rw[List.all_eq_true]at h
 have hlt:i<ops.size:=(Array.getElem?_eq_some_iff.1 hi).1
 have h1:=h i (List.mem_range.2 hlt)
 rw[hz]at h1
 simp only[Bool.or_eq_true,beq_iff_eq,hne,false_or,Array.any_eq_true,Bool.and_eq_true]at h1
 obtain⟨k,hk,h2,h3⟩:=h1
 exact⟨o.after[k],Array.getElem_mem hk,h2,h3⟩
theorem Ox {i:Nat} {oi:Oper} {v:Value} (hi:ops[i]?=some oi) (hsel:∀(j:Nat) (o:Oper) cs b,ops[j]?=some o→o.op≠ .select cs b) (hl:lastB md ops z=true) (hiz:i≠z)
 (hQ:∀c a w,Q (.panic c) (a.put oi.dst v) w→Q (.panic c) a w):
 ∀(fuel:Nat) (listed:Array Bool) (a:Act) (w:World),
  (∀j oj,ops[j]?=some oj→j≠i→listed.getD j true=false→(∀e∈oj.after,Region.binds md e=true→e.on≠i)→oi.apart ops oj=true)→
  i∈Region.ready md ops listed→YieldsIf P ops S oi v a→S w→
  gy P md ops Q S z fuel (listed.setIfInBounds i true) (a.put oi.dst v) w→gy P md ops Q S z (fuel+1) listed a w:=by
 intro fuel
 induction fuel with
 |zero=>
  intro listed a w _ hr hy hS H
  refine⟨fun h=>(by rw[h]at hr;cases hr),fun j hj=>?_⟩
  by_cases hji:j=i
  ·subst hji;exact hy.wpOp hi hS ⟨.inr hS,H⟩
  ·have:=ready_mono hj hji
   rw[H.1]at this
   cases this
 |succ fuel ih=>
  intro listed a w hfree hr hy hS H
  refine⟨fun h=>(by rw[h]at hr;cases hr),fun j hj=>?_⟩
  by_cases hji:j=i
  ·subst hji;exact hy.wpOp hi hS ⟨.inr hS,H⟩
  ·have h1:=H.2 j (ready_mono hj hji)
   obtain⟨hjun,oj,hoj,hall⟩:=mem_ready.1 hj
   have hnot:∀e∈oj.after,Region.binds md e=true→e.on≠i:=fun e he hb heq=>by
    have h1:=hall e he hb
    have h0:=(mem_ready.1 hr).1
    rw[heq]at h1
    rcases Nat.lt_or_ge i listed.size with h'|h'
    ·simp[h']at h0 h1;rw[h0]at h1;cases h1
    ·simp[Array.getElem?_eq_none h']at h1
   have hjz:j≠z:=fun hz=>by
    subst hz
    obtain⟨e,he,hb,heq⟩:=Ov hl hoj hi hiz
    exact hnot e he hb heq
   have h2:=wpOp_putIf hoj (hfree j oj hoj hji hjun hnot) (fun cs b=>hsel i oi cs b hi) (fun cs b=>hsel j oj cs b hoj) hQ hy h1
   have hfree':∀k ok,ops[k]?=some ok→k≠i→(listed.setIfInBounds j true).getD k true=false→
    (∀e∈ok.after,Region.binds md e=true→e.on≠i)→oi.apart ops ok=true:=fun k ok hk hki hun hno=>by
    refine hfree k ok hk hki ?_ hno
    by_cases hjk:j=k
    ·subst hjk;exact hjun
    ·rw[getD_set_ne true hjk]at hun;exact hun
   refine wpOp_mono (fun a' w' h3=>?_) h2
   have hS':S w':=h3.2.1.resolve_left hjz
   refine⟨.inr hS',ih (listed.setIfInBounds j true) a' w' hfree' (ready_mono hr (Ne.symm hji)) h3.1 hS' ?_⟩
   rw[Array.setIfInBounds_comm _ _ hji]
   exact h3.2.2
theorem GZ (i d:Nat) {oi:Oper} {v:Value} {fuel:Nat} {listed:Array Bool} {a:Act} {w:World} (hi:ops[i]?=some oi) (hd:oi.dst=some d)
 (hs:Region.noSelect ops=true) (hl:lastB md ops z=true) (hiz:i≠z) (hf:Region.free md ops listed i=true) (hr:(Region.ready md ops listed).contains i=true)
 (hQ:∀c a w,Q (.panic c) (a.put (some d) v) w→Q (.panic c) a w) (hy:YieldsIf P ops S oi v a) (hS:S w)
 (h:gy P md ops Q S z fuel (listed.setIfInBounds i true) (a.put (some d) v) w):gy P md ops Q S z (fuel+1) listed a w:=
 Ox hi (Region.noSelect_spec hs) hl hiz (by rw[hd];exact hQ) fuel listed a w (Region.free_spec hi hf) (by simpa using hr) hy hS (by rw[hd];exact h)
theorem aT (i d:Nat) {oi:Oper} {v:Value} {fuel:Nat} {listed:Array Bool} {a:Act} {w:World} (hi:ops[i]?=some oi) (hd:oi.dst=some d) (hy:YieldsIf P ops S oi v a)
 (h:gy P md ops Q S z fuel (listed.setIfInBounds i true) (a.put (some d) v) w)
 (hs:Region.noSelect ops=true:=by kernel_rfl) (hl:lastB md ops z=true:=by kernel_rfl) (hiz:i≠z:=by decide) (hf:Region.free md ops listed i=true:=by kernel_rfl) (hr:(Region.ready md ops listed).contains i=true:=by kernel_rfl)
 (hQ:∀c a w,Q (.panic c) (a.put (some d) v) w→Q (.panic c) a w:=by exact fun _ _ _ h=>h) (hS:S w:=by assumption):gy P md ops Q S z (fuel+1) listed a w:=
 GZ i d hi hd hs hl hiz hf hr hQ hy hS h
theorem kT (i d:Nat) {oi:Oper} {fuel:Nat} {listed:Array Bool} {a:Act} {w:World} (hi:ops[i]?=some oi) (hd:oi.dst=some d)
 (h:gy P md ops Q S z fuel (listed.setIfInBounds i true) (a.put (some d) undef) w) (hn:Region.wanted oi (yielded ops a.tmps)=false:=by rfl)
 (hs:Region.noSelect ops=true:=by kernel_rfl) (hl:lastB md ops z=true:=by kernel_rfl) (hiz:i≠z:=by decide) (hf:Region.free md ops listed i=true:=by kernel_rfl) (hr:(Region.ready md ops listed).contains i=true:=by kernel_rfl)
 (hQ:∀c a w,Q (.panic c) (a.put (some d) undef) w→Q (.panic c) a w:=by exact fun _ _ _ h=>h) (hS:S w:=by assumption):gy P md ops Q S z (fuel+1) listed a w:=
 GZ i d hi hd hs hl hiz hf hr hQ (Or.inr ⟨hn,rfl⟩) hS h
theorem bP {i:Nat} {o:Oper} {fuel:Nat} {listed:Array Bool} {a:Act} {w:World} (hr:Region.ready md ops listed=[i]) (ho:ops[i]?=some o)
 (h:∀K':Act→World→Prop,Shut (∀a w,S w→gy P md ops Q S z fuel (listed.setIfInBounds i true) a w→K' a w)→if Region.wanted o (yielded ops a.tmps)=true then Oper.wp P o a w K' Q else K' (a.put o.dst undef) w):
 gy P md ops Q S z (fuel+1) listed a w:=
 ⟨fun h0=>(by rw[hr]at h0;cases h0),fun j hj=>by
   rw[hr]at hj
   obtain rfl:j=i:=by simpa using hj
   exact wpOp_step ho fun K' hK=>h K' fun a w hS hW=>hK a w ⟨.inr hS,hW⟩⟩
theorem iK {o:Oper} {fuel:Nat} {listed:Array Bool} {a:Act} {w:World} (hr:Region.ready md ops listed=[z]) (hr2:Region.ready md ops (listed.setIfInBounds z true)=[]) (ho:ops[z]?=some o)
 (h:∀K':Act→World→Prop,Shut (∀a w,Q .normal a w→K' a w)→if Region.wanted o (yielded ops a.tmps)=true then Oper.wp P o a w K' Q else K' (a.put o.dst undef) w):
 gy P md ops Q S z (fuel+1) listed a w:=
 ⟨fun h0=>(by rw[hr]at h0;cases h0),fun j hj=>by
   rw[hr]at hj
   obtain rfl:j=z:=by simpa using hj
   refine wpOp_step ho fun K' hK=>h K' fun a w hQ=>hK a w ⟨.inl rfl,?_⟩
   cases fuel with
   |zero=>exact⟨hr2,hQ⟩
   |succ n=>exact⟨fun _=>hQ,by rw[hr2];simp⟩⟩
theorem iY {id:Nat} {a:Act} {w:World} (z:Nat) (hm:P.follows .mixedOrders=true) (hS:S w.drew)
 (h:S w.drew→gy P .any ops Q S z ops.size (Array.replicate ops.size false) a w.drew):(Code.region id ops true).wp P Q a w:=
 wp_region_any hm (GY _ _ _ _ (h hS))
end
open Go.RowKit
def upd {α:Type} (f:Nat→α) (d:Nat) (x:α):Nat→α:=fun c=>if c=d then x else f c
theorem upd_same {α:Type} (f:Nat→α) (d:Nat) (x:α):upd f d x d=x:=by simp[upd]
theorem kH {α:Type} (f:Nat→α) {d c:Nat} (x:α) (h:c≠d):upd f d x c=f c:=by simp[upd,h]
def yZ (vs:Nat→Value):Array Value:= #[vs 0,vs 1,vs 2,vs 3]
theorem Oy (vs:Nat→Value) {d:Nat} (h:d<4):(yZ vs)[d]?=some (vs d):=by
 rcases(by omega:d=0∨d=1∨d=2∨d=3)with rfl|rfl|rfl|rfl<;>rfl
theorem Oz (vs:Nat→Value) {d:Nat} (h:d<4) (v:Value):(yZ vs).setIfInBounds d v=yZ (upd vs d v):=by
 rcases(by omega:d=0∨d=1∨d=2∨d=3)with rfl|rfl|rfl|rfl<;>rfl
theorem nD.owns {N:Nat→Prop} {w w':World} (h:nD N w w') {base:Nat} {e:TypeId} {size:Nat} {v:Value} {n:Nat} {xs:List Value} (ho:w.ownsRow base e size v n xs) (hn:∀k,v.ownBlock=some k→N k):w'.ownsRow base e size v n xs:=by
 refine⟨ho.1,?_⟩
 rcases ho.2 with hx|⟨g,cap,cur,rfl,hb,hg,rest⟩
 ·exact .inl hx
 ·exact .inr ⟨g,cap,cur,rfl,hb,h.blk (hn g rfl) hg,rest⟩
structure fV (M:Nat→Prop) (T e:TypeId) (size:Nat) (w0 w:World) (pb:Nat) (vs:Nat→Value) (n:Nat→Nat) (xs:Nat→List Value):Prop where
 blk:w.heap[pb]?=some (.cells (yZ vs) T (0,0))
 new:w0.heap.size≤pb
 mlt:∀k,M k→k<w.heap.size
 wI:¬M pb
 own:∀d,d<4→dP (fun k=>k=pb∨M k) w0 w e size (vs d) (n d) (xs d)
 apart:∀d c,d<4→c<4→d≠c→∀k,(vs d).ownBlock=some k→(vs c).ownBlock≠some k
def qV (M:Nat→Prop) (pb:Nat) (vs:Nat→Value) (d k:Nat):Prop:=k=pb∨M k∨∃c,c<4∧c≠d∧(vs c).ownBlock=some k
section
variable {M:Nat→Prop} {T e:TypeId} {size:Nat} {w0 w w':World} {pb:Nat} {vs:Nat→Value} {n:Nat→Nat} {xs:Nat→List Value}
theorem fV.cell (h:fV M T e size w0 w pb vs n xs) {d:Nat} (hd:d<4):w.cell? ⟨pb,d,none⟩=some (vs d):=aI h.blk d (Oy vs hd)
theorem fV.but (h:fV M T e size w0 w pb vs n xs) {d:Nat} (hd:d<4):dP (qV M pb vs d) w0 w e size (vs d) (n d) (xs d):=
 ⟨(h.own d hd).at_,fun k hk hr=>by
   rcases hr with hr|hr|⟨c,hc,hne,hck⟩
   ·exact(h.own d hd).but k hk (.inl hr)
   ·exact(h.own d hd).but k hk (.inr hr)
   ·exact h.apart c d hc hd hne k hck hk⟩
theorem fV.lt (h:fV M T e size w0 w pb vs n xs) (d k:Nat) (hr:qV M pb vs d k):k<w.heap.size:=by
 rcases hr with rfl|hr|⟨c,hc,_,hck⟩
 ·exact lt_of_block h.blk
 ·exact h.mlt k hr
 ·exact(h.own c hc).at_.lt k hck
theorem fV.keep (h:fV M T e size w0 w pb vs n xs) (f:aj au w w'):fV M T e size w0 w' pb vs n xs:=
 ⟨f.blk h.blk id,h.new,fun k hk=>Nat.lt_of_lt_of_le (h.mlt k hk) f.size,h.wI,fun d hd=>(h.own d hd).keep f,h.apart⟩
theorem fV.aJ (h:fV M T e size w0 w pb vs n xs):aj au w0 w:=(h.own 0 (by omega)).at_.aJ
theorem fV.box (h:fV M T e size w0 w pb vs n xs) (o:Obj):fV (fun k=>M k∨k=w.heap.size) T e size w0 (w.alloc o) pb vs n xs:=
 ⟨(aj.alloc au w o).blk h.blk id,h.new,fun k hk=>by
   simp
   rcases hk with hk|hk
   ·have:=h.mlt k hk;omega
   ·omega,fun hm=>hm.elim h.wI fun he=>by have:=lt_of_block h.blk;omega,fun d hd=>⟨((h.own d hd).keep (aj.alloc _ _ _)).at_,fun k hk hr=>by
   rcases hr with hr|hr|hr
   ·exact(h.own d hd).but k hk (.inl hr)
   ·exact(h.own d hd).but k hk (.inr hr)
   ·have:=(h.own d hd).at_.lt k hk;omega⟩,h.apart⟩
theorem fV.mono {M':Nat→Prop} (h:fV M T e size w0 w pb vs n xs) (hm:∀k,M' k→M k):fV M' T e size w0 w pb vs n xs:=
 ⟨h.blk,h.new,fun k hk=>h.mlt k (hm k hk),fun hk=>h.wI (hm _ hk),fun d hd=>(h.own d hd).mono fun k hk=>hk.elim .inl fun hk=> .inr (hm k hk),h.apart⟩
theorem fV.step (h:fV M T e size w0 w pb vs n xs) {d:Nat} (hd:d<4) {v':Value} {n':Nat} {xs':List Value} (kp:nD (qV M pb vs d) w w') (ob:dP (qV M pb vs d) w0 w' e size v' n' xs'):
 fV M T e size w0 (w'.setCell ⟨pb,d,none⟩ v') pb (upd vs d v') (upd n d n') (upd xs d xs'):=by
 have hset:=fF (kp.blk (.inl rfl) h.blk) d v'
 rw[Oz vs hd]at hset
 have hsz:(w'.setCell ⟨pb,d,none⟩ v').heap.size=w'.heap.size:=by simp[World.setCell]
 refine⟨hset,h.new,fun k hk=>by rw[hsz];exact Nat.lt_of_lt_of_le (h.mlt k hk) kp.1,h.wI,fun c hc=>?_,fun a c ha hc hne k hk=>?_⟩
 ·by_cases he:c=d
  ·subst he
   rw[upd_same,upd_same,upd_same]
   exact(ob.mono (M:=fun k=>k=pb∨M k) fun k hk=>hk.elim .inl fun hk=> .inr (.inl hk)).set (.inl rfl) h.new _
  ·rw[kH _ _ he,kH _ _ he,kH _ _ he]
   have hc1:=h.own c hc
   have:dP (fun k=>k=pb∨M k) w0 w' e size (vs c) (n c) (xs c):=
    ⟨⟨kp.owns hc1.at_.own (fun k hk=> .inr (.inr ⟨c,hc,he,hk⟩)),hc1.at_.new,ob.at_.aJ⟩,hc1.but⟩
   exact this.set (.inl rfl) h.new _
 ·by_cases hea:a=d
  ·subst hea
   rw[upd_same]at hk
   rw[kH _ _ (Ne.symm hne)]
   exact fun hck=>ob.but k hk (.inr (.inr ⟨c,hc,Ne.symm hne,hck⟩))
  ·rw[kH _ _ hea]at hk
   by_cases G_:c=d
   ·subst G_
    rw[upd_same]
    exact fun hck=>ob.but k hck (.inr (.inr ⟨a,ha,hea,hk⟩))
   ·rw[kH _ _ G_]
    exact h.apart a c ha hc hne k hk
theorem fV.congr {n':Nat→Nat} {xs':Nat→List Value} (h:fV M T e size w0 w pb vs n xs) (hn:∀d,d<4→n' d=n d) (hx:∀d,d<4→xs' d=xs d):fV M T e size w0 w pb vs n' xs':=
 ⟨h.blk,h.new,h.mlt,h.wI,fun d hd=>by rw[hn d hd,hx d hd];exact h.own d hd,h.apart⟩
end
theorem BX {w0 w:World} {b:Nat} {T:TypeId} {a0 a1 a2 a3:Value} (h:w.heap[b]?=some (.cells #[a0,a1,a2,a3] T (0,0))) (f:aj au w0 w) (hb:w0.heap.size≤b) (v0 v1 v2 v3:Value):
 ((((w.setCell ⟨b,0,none⟩ v0).setCell ⟨b,1,none⟩ v1).setCell ⟨b,2,none⟩ v2).setCell ⟨b,3,none⟩ v3).heap[b]?=some (.cells #[v0,v1,v2,v3] T (0,0))∧
 aj au w0 ((((w.setCell ⟨b,0,none⟩ v0).setCell ⟨b,1,none⟩ v1).setCell ⟨b,2,none⟩ v2).setCell ⟨b,3,none⟩ v3):=
 ⟨fF (fF (fF (fF h 0 v0) 1 v1) 2 v2) 3 v3,(((f.set1 (p:=⟨b,0,none⟩) (.inr hb)).set1 (p:=⟨b,1,none⟩) (.inr hb)).set1 (p:=⟨b,2,none⟩) (.inr hb)).set1 (p:=⟨b,3,none⟩) (.inr hb)⟩
theorem fV.start {M:Nat→Prop} {w0 w:World} (T e:TypeId) (size:Nat) (f:aj au w0 w) (hm:∀k,M k→k<w.heap.size):
 fV M T e size w0 (w.alloc (.cells #[.slice none 0 0, .slice none 0 0, .slice none 0 0, .slice none 0 0] T)) w.heap.size (fun _=> .slice none 0 0) (fun _=>0) (fun _=> []):=
 ⟨heap_alloc_new w _,f.size,fun k hk=>by have:=hm k hk;simp;omega,fun h=>by have:=hm _ h;omega,fun d _=>dP.nil (f.trans (aj.alloc _ _ _) fun _ _ h=>h) _ _,fun d c _ _ _ k hk=>by simp[Value.ownBlock]at hk⟩
section
variable {P:Program}
theorem BZ {ops:Array Oper} {o:Oper} {a:Act} (N:Nat→Prop) (w0 w:World) {K:Act→World→Prop} {Q:Exit→Act→World→Prop} {E:Prop} (news:List Value) (hgd:o.guard=none) (s x:Operand) (t:TypeId)
 (ho:o.op= .call {callee:= .builtin .append,args:= #[s,x],argTypes:= #[t,t]})
 (e:TypeId) (i:TypeInfo) (z:Value) (size bytes:Nat) (ht:P.underlying t=some (.slice e)) (hi:P.info? e=some i) (hz:i.zero=some z)
 (hsize:i.size=size) (hby:i.bytes=bytes) (hzs:z.cells.size=size) (hsz:0<size)
 (v:Value) (n:Nat) (xs:List Value) (hown:dP N w0 w e size v n xs) (hN:∀k,N k→k<w.heap.size) (m c:Nat) (hv:a.eval s=v) (hx:a.eval x= .slice (some ⟨w.heap.size,0,none⟩) m c)
 (hnl:news.length=m*size) (h1:∀u∈news,u.oneCell'=true) (h63:n+m≤maxLen) (hbytes:(n+m)*bytes≤140737488355328)
 (h:∀ad c w',dP N w0 w' e size (.slice ad (n+m) c) (n+m) (xs++news)→nD N w w'→K (a.put o.dst (.slice ad (n+m) c)) w'):
 if Region.wanted o (yielded ops a.tmps)=true then Oper.wp P o a (w.alloc (.cells news.toArray e)) K Q else E:=by
 have hw:Region.wanted o (yielded ops a.tmps)=true:=by simp[Region.wanted,hgd]
 rw[if_pos hw]
 have hs:Src P size t (.slice (some ⟨w.heap.size,0,none⟩) m c) m news (w.alloc (.cells news.toArray e)):=
  Src.ofSlice _ ht ⟨w.heap.size,0,none⟩ m c news hnl (fun j u hj=>by
   have hadd:(⟨w.heap.size,0,none⟩:Addr).add j=⟨w.heap.size,j,none⟩:=by unfold Addr.add;split<;>simp_all
   rw[hadd,cell_of_row (w.alloc (.cells news.toArray e)) w.heap.size j news.toArray e (0,0) (heap_alloc_new w _)]
   simpa using hj) h1
 obtain⟨v',w',hr,h2,h3,h4,⟨ad,c',rfl⟩,h6⟩:=um (P:=P) (w.alloc (.cells news.toArray e)) t t o.type e i z size bytes ht hi hz hsize hby hzs hsz v n xs (hown.at_.own.alloc _) _ m news hs h63 hbytes
 unfold Oper.wp execOp
 simp only[ho,resolve,invoke,builtin,Sem.run_bind,Sem.run_pure,Result.andThen_ok,List.map_toArray,List.map_cons,List.map_nil,hv,hx,hr]
 have hst:=hown.step hN h2 ((aj.alloc (dh v) w _).trans h3 (fun _ _ h=>h)) fun k hk=>(h4 k hk).elim .inl fun h=> .inr (by simp at h;omega)
 exact h ad c' w' hst.1 hst.2
end
open Go.RowKit
theorem uN:(Tryz.prog.info? 206).map (fun i=>(i.zero,i.size,i.bytes))=some (some (.agg #[.int .i64 0, .int .i64 0]),2,16):=by kernel_rfl
def kJ (l:aS) (k:Nat) (out:aS):Prop:=(k=0∧out=[])∨∃acc cur,out=acc++ [cur]∧k_ l=acc++jn cur (l.drop k)
theorem zh {l:aS} {k:Nat} (h:k<l.length):l.drop k=l.getD k (0,0)::l.drop (k+1):=by
 rw[getD_at (0,0) h];exact List.drop_eq_getElem_cons h
theorem kJ.OA {l:aS} (h:0<l.length):kJ l (0+1) [l.getD 0 (0,0)]:=by
 refine .inr ⟨[],l.getD 0 (0,0),rfl,?_⟩
 cases l with
 |nil=>cases h
 |cons r l=>rfl
theorem kJ.open_ {l:aS} {k:Nat} {acc:aS} {cur:Int×Int} (h:kJ l k (acc++ [cur])):k_ l=acc++jn cur (l.drop k):=by
 rcases h with⟨_,h⟩|⟨acc',cur',h1,h2⟩
 ·simp at h
 ·obtain⟨e1,e2⟩:=List.append_inj' h1 rfl
  injection e2 with e2
  rw[e1,e2];exact h2
theorem kJ.meet {l:aS} {k:Nat} {acc:aS} {cur:Int×Int} (h:kJ l k (acc++ [cur])) (hk:k<l.length) (hc:(l.getD k (0,0)).1≤cur.2+1):kJ l (k+1) (acc++ [(cur.1,max cur.2 (l.getD k (0,0)).2)]):=by
 refine .inr ⟨acc,_,rfl,?_⟩
 rw[h.open_,zh hk,jn,if_pos hc]
theorem kJ.away {l:aS} {k:Nat} {acc:aS} {cur:Int×Int} (h:kJ l k (acc++ [cur])) (hk:k<l.length) (hc:¬(l.getD k (0,0)).1≤cur.2+1):kJ l (k+1) (acc++ [cur]++ [l.getD k (0,0)]):=by
 refine .inr ⟨acc++ [cur],_,rfl,?_⟩
 rw[h.open_,zh hk,jn,if_neg hc];simp
theorem kJ.all {l:aS} {k:Nat} {out:aS} (h:kJ l k out) (hk:l.length=k):out=k_ l:=by
 rcases h with⟨h0,rfl⟩|⟨acc,cur,rfl,h⟩
 ·have:l=[]:=List.eq_nil_of_length_eq_zero (by omega)
  subst this;rfl
 ·rw[h,List.drop_of_length_le (by omega),jn]
theorem OwnAt.OB {w0 w:World} {e:TypeId} {g L c:Nat} {lo:aS} {r:Int×Int} (h:OwnAt w0 w e 2 (.slice (some ⟨g,0,none⟩) (L+1) c) (L+1) (bZ (lo++ [r]))) (hL:lo.length=L) (hi:Int):
 OwnAt w0 (w.setCell ⟨g,L*2+1,none⟩ (.int .i64 hi)) e 2 (.slice (some ⟨g,0,none⟩) (L+1) c) (L+1) (bZ (lo++ [(r.1,hi)])):=by
 obtain⟨g',c',he,_,_,_,_,_,hset⟩:=h.row (by omega)
 injection he with e1 e2 e3
 injection e1 with e1
 injection e1 with e4 e5
 subst e4
 have:=hset (L*2+1) (.int .i64 hi)
 rw[←hL,BL,hL]at this
 exact this
theorem OC (a b:Int):(if a<b then b else a)=max a b:=by split<;>omega
def Bd (r:Int×Int):Prop:=1≤r.1∧r.1≤1099511627776∧1≤r.2∧r.2≤1099511627776
theorem He (w:World) (v:Value) (l:aS) (hv:gZ w v l) (hl:l.length≤200000) (hb:∀r∈l,Bd r):
 Calls Tryz.prog 156 #[v] w fun e w'=>∃v',e= .returned v'∧OwnAt w w' 206 2 v' (k_ l).length (bZ (k_ l)):=by
 obtain⟨i0,hi,hz0,hz1,hz2⟩:=info_parts uN
 obtain⟨aA,cA,rfl⟩:=hv.sl
 have HH:=ah hv;clear hv
 have HB:=ah hb;clear hb
 generalize hn:l.length=n at*
 have HN:=ah hn;clear hn
 have nU:=ah hl;clear hl
 go_enter Tryz.func156,Tryz.ntmps156
 go_wp2
 go_loopw [3,9] (fun v i ww=>∃(k:Nat) (out:aS),k≤n∧out.length≤k∧i= .int .i64 k∧OwnAt w ww 206 2 v out.length (bZ out)∧kJ l k out∧∀r∈out,Bd r) (fun _ i _=>n-(intOf i).toNat)
 case atStart=>exact⟨0,[],Nat.zero_le _,Nat.le_refl _,rfl,OwnAt.nil (aj.refl _ _) _ _, .inl ⟨rfl,rfl⟩,(fun r hr=>by cases hr)⟩
 case round=>
  obtain⟨k,out,hk,hok,rfl,ho,hj,Hf⟩:=hrel
  have HO:=ah ho;clear ho
  have HJ:=ah hj;clear hj
  have qh:=ah Hf;clear Hf
  by_cases hlt:k<n
  ·rcases Rd.shape HH.out with⟨ad,he,h0⟩|⟨b,off,cc,he,hmax⟩
   ·exfalso;have:=HN.out;omega
   ·injection he with e1 e2 e3
    subst e1 e3
    clear e2
    rw[HN.out]at hmax
    have hlk:k<l.length:=by rw[HN.out];exact hlt
    obtain⟨p0,p1⟩:=lq HH.out HN.out.symm k hlk
    have q0:=HO.out.aJ.cell' p0 id
    have q1:=HO.out.aJ.cell' p1 id
    clear p0 p1
    have hbr:=HB.out _ (getD_mem (0,0) hlk)
    have Hg:=ah hbr
    obtain⟨r1,r2,r3,r4⟩:=hbr
    have hkm:k≤200000:=Nat.le_trans (Nat.le_of_lt hlt) nU.out
    rcases List.eq_nil_or_concat out with rfl|⟨lo,r,rfl⟩
    ·have hk0:k=0:=by
      rcases HJ.out with⟨h,_⟩|⟨acc,cur,h,_⟩
      ·exact h
      ·simp at h
     subst hk0
     have HST:=ah (kJ.OA hlk)
     generalize l.getD 0 (0,0)=s at*
     simp only[Nat.zero_mul,Nat.add_zero]at q0 q1
     obtain⟨av,cv,rfl⟩:=HO.out.shape
     go_wp2_with fail
     go_big_quiet (fail)
     go_wp2_with(at_builtin;refine jF w _ [.int .i64 s.1, .int .i64 s.2] rfl (.tmp 43) (.tmp 45) 175 rfl 206 i0 _ 2 16 Tryz.underlying175 hi hz0 hz1 hz2 (by decide) (by decide) _ _ _ (HO.out.keep (aj.alloc _ _ _).eX) 1 1 rfl (by simp[Act.eval]) rfl (by simp[Value.oneCell']) (by simp[maxLen]) (by simp) ?_;intro ad iU w2 bI;have OW:=ah bI;clear bI)
     go_roundw
     case rel=>exact⟨0+1,[s],by omega,by simp,by go_num,OW.out,HST.out,fun r hr=>by simp at hr;subst hr;exact Hg.out⟩
     case measure=>simp[intOf];omega
    ·rw[List.concat_eq_append]at*
     have hln:(lo++ [r]).length=lo.length+1:=by simp
     have ho2:=HO.out
     rw[hln]at ho2 hok
     clear HO hln
     obtain⟨g,c2,rfl,hg0,hg,hc2,hcell,hfro,hset⟩:=ho2.row (by simp)
     have cl:=hcell _ _ (BM lo r)
     have fl:=hfro (lo.length*2+1)
     have HO:=ah ho2;clear ho2
     have Hl:=qh.out r (by simp)
     have Xy:=ah Hl
     obtain⟨t1,t2,t3,t4⟩:=Hl
     have HM:=ah (fun hc=>kJ.meet HJ.out hlk hc)
     have HA:=ah (fun hc=>kJ.away HJ.out hlk hc)
     generalize hL:lo.length=L at*
     have kF:=ah hL;clear hL
     have dQ:=ah hok;clear hok
     generalize l.getD k (0,0)=s at*
     have hL5:L+1≤200000:=Nat.le_trans dQ.out hkm
     have hgb:g<wr.heap.size:=hg
     clear hcell hfro hset
     by_cases hc:s.1≤r.2+1
     ·go_wp2_with fail
      go_big_quiet (fail)
      go_wp2_with fail
      have hfr:aj au wr ((wr.alloc (.cells #[.int .i64 s.1, .int .i64 s.2] 206)).drewN nq):=(aj.alloc _ _ _).eX
      have n1:((wr.alloc (.cells #[.int .i64 s.1, .int .i64 s.2] 206)).drewN nq).cell? ⟨wr.heap.size,1,none⟩=some (.int .i64 s.2):=aI (heap_alloc_new wr _) 1 rfl
      have Xz:=hfr.cell' cl id
      have XA:=(hfr.frozen (p:=⟨g,L*2+1,none⟩) hgb id).trans fl
      have hg2:g<((wr.alloc (.cells #[.int .i64 s.1, .int .i64 s.2] 206)).drewN nq).heap.size:=Nat.lt_of_lt_of_le hgb hfr.size
      have iZ:=ah hfr;clear hfr
      clear cl fl q0 q1
      have hgs:wr.heap.size≠g:=by omega
      generalize wr.heap.size=rs at*
      generalize (wr.alloc (.cells #[.int .i64 s.1, .int .i64 s.2] 206)).drewN nq=W2 at*
      have hwr:IntKind.i64.wrap (L:Int)=L:=IntWalk.i64_in _ (by omega)
      have hx0:(0:Int)≤(L:Int):=by omega
      have hx1:(L:Int)<(L:Int)+1:=by omega
      have hx2:(L:Int)<((L+1:Nat):Int):=by omega
      go_still_tail 14,(by kernel_rfl)
      clear hwr
      change wpList _ _ _ _ _ W2.drew
      clear hx0 hx1 hx2
      go_wp2
      go_roundw
      case rel=>
       refine⟨k+1,lo++ [(r.1,max r.2 s.2)],by omega,by rw[List.length_append,kF.out];exact Nat.succ_le_succ (Nat.le_trans (Nat.le_succ _) dQ.out),by go_num,?_,HM.out hc,?_⟩
       ·rw[List.length_append,kF.out]
        try rw[OC]
        exact((HO.out.keep iZ.out).OB kF.out _).keep (aj.drew _ _)
       ·intro x hx
        rcases List.mem_append.1 hx with hx|hx
        ·exact qh.out x (List.mem_append_left _ hx)
        ·simp at hx;subst hx;exact⟨t1,t2,by show 1≤max r.2 s.2;omega,by show max r.2 s.2≤_;omega⟩
      case measure=>simp[intOf];omega
     ·go_wp2_with fail
      go_big_quiet (fail)
      go_wp2_with(at_builtin;refine jF w _ [.int .i64 s.1, .int .i64 s.2] rfl (.tmp 43) (.tmp 45) 175 rfl 206 i0 _ 2 16 Tryz.underlying175 hi hz0 hz1 hz2 (by decide) (by decide) _ _ _ (HO.out.keep (aj.alloc _ _ _).eX) 1 1 rfl (by simp[Act.eval]) rfl (by simp[Value.oneCell']) (by simp only[maxLen];omega) (by omega) ?_;intro ad iU w2 bI;have OW:=ah bI;clear bI)
      go_roundw
      case rel=>exact⟨k+1,lo++ [r]++ [s],by omega,by rw[List.length_append,List.length_append,kF.out];have:=dQ.out;simp;omega,by go_num,by rw[List.length_append,List.length_append,kF.out,kS];exact OW.out,HA.out hc,fun x hx=>by
       rcases List.mem_append.1 hx with hx|hx
       ·exact qh.out x hx
       ·simp at hx;subst hx;exact Hg.out⟩
      case measure=>simp[intOf];omega
  ·obtain rfl:n=k:=by omega
   obtain⟨av,cv,hv⟩:=HO.out.shape
   subst hv
   go_wp2
   go_ret
   have:=HJ.out.all HN.out
   subst this
   exact⟨_,rfl,HO.out⟩
end Go.Proofs.YtlhmbkjdfjoilaaGreat
