/- Words for the law ShardPlays: R7d, R7e, Tree, BunLaw, R8a. -/
import Derived.Test.YtlhmbkjdfjoilaaGreatShardPlaysG0
import Derived.Test.YtlhmbkjdfjoilaaGreatShardPlaysG4
set_option linter.unusedSimpArgs false
set_option linter.unusedVariables false
set_option maxHeartbeats 32000000
set_option maxRecDepth 1000000
namespace Go.Proofs.YtlhmbkjdfjoilaaGreat
open Go.RowKit
theorem NP:∀ {c:bD} {lo:Int} {s:Int×Int×Int},jq lo (c++ [s])↔jq lo c∧lo≤s.1∧s.1<4∧∀x∈c,x.1≤s.1
 |[],lo,s=>by simp[jq]
 |x::c,lo,s=>by
  rw[List.cons_append]
  show(lo≤x.1∧x.1<4∧jq x.1 (c++ [s]))↔_
  rw[NP]
  constructor
  ·rintro⟨h1,h2,h3,h4,h5,h6⟩
   refine⟨⟨h1,h2,h3⟩,by omega,h5,fun y hy=>?_⟩
   rcases List.mem_cons.1 hy with rfl|hy
   ·exact h4
   ·exact h6 y hy
  ·rintro⟨⟨h1,h2,h3⟩,h4,h5,h6⟩
   exact⟨h1,h2,h3,h6 x List.mem_cons_self,h5,fun y hy=>h6 y (List.mem_cons_of_mem _ hy)⟩
theorem Uu {c:bD} {lo:Int} (h:jq lo c) (k:Nat):jq lo (c.take k):=by
 have:∀ {a b:bD} {lo:Int},jq lo (a++b)→jq lo a:=by
  intro a
  induction a with
  |nil=>intro b lo _;trivial
  |cons s a ih=>intro b lo h;exact⟨h.1,h.2.1,ih h.2.2⟩
 exact this (b:=c.drop k) (by rw[List.take_append_drop];exact h)
theorem NQ {c:bD} {k:Nat} (h:jq 0 (c.take k)) (hk:k<c.length):
 jq 0 (c.take (k+1))↔0≤(c.getD k (0,0,0)).1∧(c.getD k (0,0,0)).1<4∧(0<k→(c.getD (k-1) (0,0,0)).1≤(c.getD k (0,0,0)).1):=by
 rw[take_succ (0,0,0) hk,NP]
 generalize c.getD k (0,0,0)=s
 constructor
 ·rintro⟨_,h2,h3,h4⟩
  refine⟨h2,h3,fun h0=>h4 _ ?_⟩
  obtain⟨j,rfl⟩:∃j,k=j+1:=⟨k-1,by omega⟩
  rw[take_succ (0,0,0) (by omega)]
  simp
 ·rintro⟨h1,h2,h3⟩
  refine⟨h,h1,h2,fun x hx=>?_⟩
  rcases Nat.eq_zero_or_pos k with rfl|h0
  ·simp at hx
  ·have h5:=h3 h0
   obtain⟨j,rfl⟩:∃j,k=j+1:=⟨k-1,by omega⟩
   rw[take_succ (0,0,0) (by omega)]at hx h
   obtain⟨_,_,_,h9⟩:=NP.1 h
   rw[show j+1-1=j by omega]at h5
   rcases List.mem_append.1 hx with hx|hx
   ·have:=h9 x hx;omega
   ·simp only[List.mem_singleton]at hx;subst hx;exact h5
theorem aa5 {c:bD} {k:Nat} (h:jq 0 (c.take k)) (hk:k<c.length)
 (hn:¬(0≤(c.getD k (0,0,0)).1∧(c.getD k (0,0,0)).1<4∧(0<k→(c.getD (k-1) (0,0,0)).1≤(c.getD k (0,0,0)).1))):¬jq 0 c:=
 fun hl=>hn ((NQ h hk).1 (Uu hl (k+1)))
def kU (c:bD):Prop:=∀s∈c,-9223372036854775808≤s.1∧s.1≤9223372036854775807∧-9223372036854775808≤s.2.1∧s.2.1≤9223372036854775807∧-9223372036854775808≤s.2.2∧s.2.2≤9223372036854775807
theorem kU.part {c:bD} (h:kU c) (d:Int):Fits (dA c d):=fun r hr=>by
 unfold dA at hr
 obtain⟨s,hs,rfl⟩:=List.mem_map.1 hr
 have:=h s ((List.mem_filter.1 hs).1)
 omega
theorem aa6 (w:World) (v:Value) (c:bD) (hv:je w v c) (hf:kU c) (hl:c.length≤100000):
 Calls Tryz.prog 64 #[v] w fun e w'=>e= .returned (.bool (tf (eP c)))∧aj aF w w':=by
 have hcP:=fun w' d (h:aj aF w w')=>JD w' v c d (Rd.aS hv h) hl
 have hfp:=hf.part
 rcases Rd.shape hv with⟨ad,rfl,h0⟩|⟨b,off,cc,rfl,hmax⟩
 ·obtain rfl:c=[]:=List.eq_nil_of_length_eq_zero h0
  have HP:=ah hcP;clear hcP
  have JE:=ah hfp;clear hfp
  clear hv hf hl
  go_enter Tryz.func64,Tryz.ntmps64
  go_wp2
  go_loopw [7] (fun i ww=>i= .int .i64 0∧ww=w) (fun _ _=>0)
  case atStart=>exact⟨rfl,rfl⟩
  case round=>
   obtain⟨rfl,rfl⟩:=hrel
   go_wp2
   go_loopw [43] (fun i ww=>∃k:Nat,k≤4∧i= .int .i64 k∧aj aF wr ww) (fun i _=>4-(intOf i).toNat)
   case atStart=>exact⟨0,by omega,rfl,aj.refl _ _⟩
   case round=>
    obtain⟨k,hk,rfl,hw⟩:=hrel
    have HW:=ah hw;clear hw
    by_cases hlt:k<4
    ·go_wp2_with(first
      |(go_at_call 86;refine(HP.out _ k HW.out).mono ?_;rintro e w1 ⟨v1,rfl,ho1⟩;obtain⟨a1,c1,rfl⟩:=ho1.shape;have dZ:=ah ho1;clear ho1)
      |(go_at_call 85;refine(Nw _ _ (dA [] k) dZ.out.rd (JE.out k)).mono ?_;rintro e w2 ⟨rfl,hw2⟩;rw[show dA [] (k:Int)=[]from rfl,gu Dx];have HW2:=ah hw2;clear hw2))
     go_roundw
     case rel=>exact⟨k+1,by omega,by go_num,HW.out.aH (dZ.out.aI.aH HW2.out)⟩
     case measure=>simp[intOf];omega
    ·go_wp2
     go_ret
     exact⟨dF (gu aaK).symm,HW.out⟩
 ·have HH:=ah hv;clear hv
  have HP:=ah hcP;clear hcP
  have JE:=ah hfp;clear hfp
  clear hf hl
  generalize hn:c.length=n at*
  have HN:=ah hn;clear hn
  go_enter Tryz.func64,Tryz.ntmps64
  go_wp2
  go_loopw [7] (fun i ww=>∃k:Nat,k≤n∧i= .int .i64 k∧jq 0 (c.take k)∧∃q,ww=w.drewN q) (fun i _=>n-(intOf i).toNat)
  case atStart=>exact⟨0,Nat.zero_le _,rfl,trivial,0,rfl⟩
  case round=>
   obtain⟨k,hk,rfl,hr,q,rfl⟩:=hrel
   have HR:=ah hr;clear hr
   by_cases hlt:k<n
   ·obtain⟨q0,-,-⟩:=zS HH.out HN.out.symm k (by rw[HN.out];exact hlt)
    have HS:=ah (NQ HR.out (show k<c.length by rw[HN.out];exact hlt))
    have HX:=ah (aa5 HR.out (show k<c.length by rw[HN.out];exact hlt))
    generalize c.getD k (0,0,0)=s at*
    by_cases c1:s.1<0
    ·go_wp2_with fail
     go_big_quiet (fail)
     go_wp2
     go_ret
     exact⟨dF (eH (fun h=>HX.out (by omega) h.1)).symm,(aj.drewN _ _ _).iy⟩
    ·have d1:decide (s.1<0)=false:=by simpa using c1
     by_cases c2:4≤s.1
     ·go_wp2_with fail
      go_big_quiet (fail)
      go_wp2
      go_ret
      exact⟨dF (eH (fun h=>HX.out (by omega) h.1)).symm,(aj.drewN _ _ _).iy⟩
     ·have d2:decide (4≤s.1)=false:=by simpa using c2
      rcases Nat.eq_zero_or_pos k with rfl|hk0
      ·simp only[Nat.zero_mul,Nat.add_zero]at q0
       go_wp2_with fail
       go_big_quiet (fail)
       go_wp2
       go_roundw
       case rel=>exact⟨0+1,by omega,by go_num,HS.out.2 ⟨by omega,by omega,by omega⟩,q+nq,by first|rfl|rw[World.drewN_drewN]⟩
       case measure=>simp[intOf];omega
      ·obtain⟨j,rfl⟩:∃j,k=j+1:=⟨k-1,by omega⟩
       obtain⟨p0,-,-⟩:=zS HH.out HN.out.symm j (by rw[HN.out];omega)
       rw[show j+1-1=j by omega]at HS HX
       generalize c.getD j (0,0,0)=p at*
       have hd:wrap64 (j:Int)=j:=by unfold wrap64;omega
       by_cases c3:s.1<p.1
       ·go_wp2_with fail
        go_big_quiet (fail)
        go_wp2
        go_ret
        exact⟨dF (eH (fun h=>HX.out (by omega) h.1)).symm,(aj.drewN _ _ _).iy⟩
       ·go_wp2_with fail
        go_big_quiet (fail)
        go_wp2
        go_roundw
        case rel=>exact⟨j+1+1,by omega,by go_num,HS.out.2 ⟨by omega,by omega,by omega⟩,q+nq,by first|rfl|rw[World.drewN_drewN]⟩
        case measure=>simp[intOf];omega
   ·obtain rfl:k=n:=by omega
    have hall:jq 0 c:=by
     have:=HR.out
     rwa [List.take_of_length_le (by rw[HN.out];exact Nat.le_refl _)]at this
    have HA:=ah hall;clear hall
    go_wp2
    go_loopw [43] (fun i ww=>∃k:Nat,k≤4∧i= .int .i64 k∧(∀d:Int,0≤d→d<k→dO (dA c d))∧aj aF w ww) (fun i _=>4-(intOf i).toNat)
    case atStart=>exact⟨0,by omega,rfl,(fun d h0 h1=>by have:d<0:=h1;omega),aj.drewN _ _ _⟩
    case round=>
     obtain⟨j,hj,rfl,hd,hw⟩:=hrel
     have HW:=ah hw;clear hw
     have HD:=ah hd;clear hd
     by_cases hlt:j<4
     ·cases ht:tf (dO (dA c j))with
      |false=>
       have HT:=ah ht;clear ht
       go_wp2_with(first
        |(go_at_call 86;refine(HP.out _ j HW.out).mono ?_;rintro e w1 ⟨v1,rfl,ho1⟩;obtain⟨a1,c1,rfl⟩:=ho1.shape;have dZ:=ah ho1;clear ho1)
        |(go_at_call 85;refine(Nw _ _ (dA c j) dZ.out.rd (JE.out j)).mono ?_;rintro e w2 ⟨rfl,hw2⟩;rw[HT.out];have HW2:=ah hw2;clear hw2))
       go_ret
       exact⟨dF (eH (fun h=>xE.1 HT.out (h.2 j (by omega) (by omega)))).symm,HW.out.aH (dZ.out.aI.aH HW2.out)⟩
      |true=>
       have HT:=ah ht;clear ht
       go_wp2_with(first
        |(go_at_call 86;refine(HP.out _ j HW.out).mono ?_;rintro e w1 ⟨v1,rfl,ho1⟩;obtain⟨a1,c1,rfl⟩:=ho1.shape;have dZ:=ah ho1;clear ho1)
        |(go_at_call 85;refine(Nw _ _ (dA c j) dZ.out.rd (JE.out j)).mono ?_;rintro e w2 ⟨rfl,hw2⟩;rw[HT.out];have HW2:=ah hw2;clear hw2))
       go_roundw
       case rel=>
        refine⟨j+1,by omega,by go_num,fun d h0 h1=>?_,HW.out.aH (dZ.out.aI.aH HW2.out)⟩
        by_cases he:d=j
        ·subst he;exact xC.1 HT.out
        ·exact HD.out d h0 (by omega)
       case measure=>simp[intOf];omega
     ·obtain rfl:j=4:=by omega
      go_wp2
      go_ret
      exact⟨dF (gu ⟨HA.out,fun d h0 h4=>HD.out d h0 h4⟩).symm,HW.out⟩
open Go.RowKit
def numsL (l:aZ) (d:Int):List Int:=(l.filter fun r=>r.1==d).map (·.2)
theorem Uw {l:aZ} {k:Nat} (d:Int) (hk:k<l.length):numsL (l.take (k+1)) d=numsL (l.take k) d++(if(l.getD k (0,0)).1=d then [(l.getD k (0,0)).2]else []):=by
 rw[take_succ (0,0) hk]
 unfold numsL
 rw[List.filter_append,List.map_append]
 congr 1
 generalize l.getD k (0,0)=r
 by_cases h:r.1=d
 ·rw[if_pos h,List.filter_cons_of_pos (by simpa using h)];rfl
 ·rw[if_neg h,List.filter_cons_of_neg (by simpa using h)];rfl
theorem JF {l:aZ} {d n:Int}:n∈numsL l d↔(d,n)∈l:=by
 unfold numsL
 simp only[List.mem_map,List.mem_filter]
 constructor
 ·rintro⟨r,⟨hr,he⟩,rfl⟩
  have:r.1=d:=by simpa using he
  subst this
  exact hr
 ·intro h
  exact⟨(d,n),⟨h,by simp⟩,rfl⟩
theorem NR (l:aZ) (d:Int):(numsL l d).length≤l.length:=by
 unfold numsL;rw[List.length_map];exact List.length_filter_le _ _
def yM (l:aZ):Prop:=∀r∈l,0≤r.1∧r.1<4∧1≤r.2∧r.2≤1099511627776
def NS (l:aZ) (d:Int) (o:aZ):Prop:=dO o∧∀n,bK o n↔(d,n)∈l
theorem pO.NT {l:aZ} {c:bD} (h:pO (NS l) 4 c):tZ l c:=
 ⟨⟨h.rise,fun d h0 h4=>(h.parts d h0 h4).1⟩,fun d n h0 h4=>(h.parts d h0 h4).2 n⟩
theorem Bv.ofR {l:aZ} (hl:yM l) {d:Int} {o:aZ} (h:Bv (numsL l d) o none):NS l d o:=by
 have hm:∀n,bK o n↔(d,n)∈l:=fun n=>by
  rw[h.none_ rfl n,JF]
  exact⟨fun h=>h.2,fun h=>⟨by have:=hl _ h;show 0<n;have:1≤n:=this.2.2.1;omega,h⟩⟩
 exact⟨dO.of h.from_ fun n hn=>(hl _ ((hm n).1 hn)).2.2.2,hm⟩
theorem aa8 {l:aZ} (hl:yM l) (d:Int):∀x∈numsL l d,1≤x∧x≤1099511627777:=fun x hx=>by
 have:=hl _ (JF.1 hx)
 have h1:1≤x:=this.2.2.1
 have h2:x≤1099511627776:=this.2.2.2
 omega
theorem NU {c:bD} {k:Nat} {d:Int} {l o:aZ} (h:c.length≤10000*k) (hk:k≤4) (hl:o.length≤10000):(c++iK d o).length≤10000*(k+1)∧c.length+o.length≤1000000:=by
 rw[List.length_append,zT];omega
theorem aa9 (w:World) (v:Value) (l:aZ) (hv:k_ w v l) (hd:yM l) (hl:l.length≤10000):
 Calls Tryz.prog 88 #[v] w fun e w'=>∃v' c,e= .returned v'∧OwnAt w w' 92 3 v' c.length (dY c)∧tZ l c∧c.length≤40000:=by
 obtain⟨i0,hi,hz0,hz1,hz2⟩:=info_parts Gg
 obtain⟨j0,hji,hy0,hy1,hy2⟩:=info_parts FY
 obtain⟨aA,cA,rfl⟩:=hv.sl
 have HH:=ah hv;clear hv
 have HD:=ah hd;clear hd
 have HL:=ah hl;clear hl
 generalize hn:l.length=n at*
 have HN:=ah hn;clear hn
 go_enter Tryz.func88,Tryz.ntmps88
 go_wp2
 go_loopw [3,7] (fun v i ww=>∃(k:Nat) (c:bD),k≤4∧i= .int .i64 k∧OwnAt w ww 92 3 v c.length (dY c)∧pO (NS l) k c∧c.length≤10000*k) (fun _ i _=>4-(intOf i).toNat)
 case atStart=>exact⟨0,[],by omega,rfl,OwnAt.nil (aj.refl _ _) _ _,pO.zero _,Nat.zero_le _⟩
 case round=>
  obtain⟨k,c,hk,rfl,ho,hu,hlen⟩:=hrel
  obtain⟨av,cv,rfl⟩:=ho.shape
  have HO:=ah ho;clear ho
  have HU:=ah hu;clear hu
  have HLEN:=ah hlen;clear hlen
  by_cases hlt:k<4
  ·have hki:(k:Int)<4:=by omega
   have hkd:decide ((k:Int)<4)=true:=by simpa using hki
   go_wp2
   go_loopw [5,12] (fun v i ww=>∃(j m:Nat),j≤n∧m≤j∧i= .int .i64 j∧m=(numsL (l.take j) k).length∧OwnAt wr ww 2 1 v m (qF (numsL (l.take j) k))) (fun _ i _=>n-(intOf i).toNat)
   case atStart=>exact⟨0,0,Nat.zero_le _,Nat.le_refl _,rfl,rfl,OwnAt.nil (aj.refl _ _) _ _⟩
   case round=>
    obtain⟨j,m,hj,hmj,rfl,hm,hoi⟩:=hrel
    obtain⟨ai,ci,rfl⟩:=hoi.shape
    have BG:=ah hoi;clear hoi
    have HM:=ah hm;clear hm
    have Gh:=ah hmj;clear hmj
    by_cases hjl:j<n
    ·rcases Rd.shape HH.out with⟨ad,he,h0⟩|⟨b,off,cc,he,hmax⟩
     ·exfalso;have:=HN.out;omega
     ·injection he with e1 e2 e3
      subst e1 e3
      clear e2
      rw[HN.out]at hmax
      obtain⟨p0,p1⟩:=r_ HH.out HN.out.symm j (by rw[HN.out];exact hjl)
      have q0:=BG.out.aI.cell' (HO.out.aI.cell' p0 id) id
      have q1:=BG.out.aI.cell' (HO.out.aI.cell' p1 id) id
      have hE:=Uw (l:=l) (k:=j) k (by rw[HN.out];exact hjl)
      generalize l.getD j (0,0)=s at*
      clear p0 p1
      by_cases he:s.1=k
      ·rw[if_pos he]at hE
       have he':((s.1:Int)==(k:Int))=true:=by simp[he]
       have HE:=ah hE;clear hE
       clear he
       go_wp2_with(at_builtin;refine kT _ _ [.int .i64 s.2] rfl (.tmp 22) (.tmp 28) 171 rfl 2 j0 _ 1 8 Tryz.underlying171 hji hy0 hy1 hy2 (by decide) (by decide) _ _ _ BG.out 1 1 rfl rfl rfl (by simp[Value.oneCell']) (by have:=HL.out;have:=Gh.out;simp only[maxLen];omega) (by have:=HL.out;have:=Gh.out;omega) ?_;intro ad lg w2 bP;have OW:=ah bP;clear bP)
       go_roundw
       case rel=>
        refine⟨j+1,m+1,by omega,by have:=Gh.out;omega,by go_num,by rw[HE.out,List.length_append,←HM.out];rfl,?_⟩
        rw[HE.out,FV]
        exact OW.out
       case measure=>simp[intOf];omega
      ·rw[if_neg he,List.append_nil]at hE
       have he':((s.1:Int)==(k:Int))=false:=by simpa using he
       have HE:=ah hE;clear hE
       clear he
       go_wp2
       go_roundw
       case rel=>exact⟨j+1,m,by omega,by have:=Gh.out;omega,by go_num,by rw[HE.out];exact HM.out,by rw[HE.out];exact BG.out⟩
       case measure=>simp[intOf];omega
    ·obtain rfl:j=n:=by omega
     rw[List.take_of_length_le (by rw[HN.out];exact Nat.le_refl _)]at BG HM
     have hob:=BG.out.rd
     rw[HM.out]at hob
     have Gi:=ah hob;clear hob
     have NV:=ah (HO.out.keep BG.out.aI)
     have hlm:m≤10000:=Nat.le_trans Gh.out HL.out
     have Ux:=ah (HM.out▸hlm:(numsL l k).length≤10000)
     clear hlm
     rw[HM.out]
     go_wp2_with(first
      |(go_at_call 124;refine(aaV _ _ (numsL l k) Gi.out (Nat.le_trans Ux.out (by decide)) (aa8 HD.out k)).mono ?_;rintro e w3 ⟨v3,o,rfl,ho3,hof,hol⟩;obtain⟨a3,c3,rfl⟩:=ho3.shape;have dw:=ah ho3;clear ho3;have oq:=ah hof;clear hof;have HOL:=ah (Nat.le_trans hol Ux.out);clear hol)
      |(go_at_call 122;refine(Ur _ _ o k dw.out.rd (Nat.le_trans HOL.out (by decide))).mono ?_;rintro e w4 ⟨v4,rfl,nP⟩;obtain⟨a4,c4,rfl⟩:=nP.shape;have mV:=ah nP;clear nP;have HKK:=ah (NV.out.keep (dw.out.aI.aH mV.out.aI)))
      |(at_builtin;refine rC w _ _ rfl (.tmp 31) (.tmp 35) 30 30 rfl 92 92 i0 _ 3 24 Tryz.underlying30 Tryz.underlying30 hi hz0 hz1 hz2 (by decide) (by decide) _ _ _ HKK.out _ o.length rfl rfl mV.out.rd (by rw[Jt,zT]) (Nu _) (by have:=(NU (d:=k) (l:=[]) HLEN.out (Nat.le_of_lt hlt) HOL.out).2;simp only[maxLen];omega) (by have:=(NU (d:=k) (l:=[]) HLEN.out (Nat.le_of_lt hlt) HOL.out).2;omega) ?_;intro ad cc w5 dP;have OW:=ah dP;clear dP))
     go_roundw
     case rel=>
      refine⟨k+1,c++iK k o,by omega,by go_num,?_,?_,(NU (l:=[]) HLEN.out (Nat.le_of_lt hlt) HOL.out).1⟩
      ·rw[List.length_append,zT,Js];exact OW.out
      ·exact HU.out.step (by omega) (by omega) (oq.out.ofR HD.out)
     case measure=>simp[intOf];omega
  ·obtain rfl:k=4:=by omega
   go_wp2
   go_ret
   exact⟨_,c,rfl,HO.out,HU.out.NT,HLEN.out⟩
open Go.RowKit
structure aQ where
 dc:Int
 n:Int
 s:ByteArray
 k:Int
inductive aT where
 |nil:aT
 |cons (key:ByteArray) (es:List aQ) (sub rest:aT):aT
def aT.len:aT→Nat
 | .nil=>0
 | .cons _ _ _ rest=>rest.len+1
def aQ.zero:aQ:=⟨0,0,ByteArray.empty,0⟩
def aQ.cells (e:aQ):List Value:=[.int .i64 e.dc, .int .i64 e.n, .string e.s, .int .i64 e.k]
def jy (es:List aQ):List Value:=es.flatMap aQ.cells
theorem NW (e:aQ) (es:List aQ):jy (e::es)= .int .i64 e.dc:: .int .i64 e.n:: .string e.s:: .int .i64 e.k::jy es:=rfl
theorem JG (a b:List aQ):jy (a++b)=jy a++jy b:=by simp[jy]
theorem Uy:∀es:List aQ,(jy es).length=es.length*4
 |[]=>rfl
 |e::es=>by rw[NW];simp only[List.length_cons,Uy es];omega
theorem aa_ (es:List aQ):∀v∈jy es,v.oneCell'=true:=by
 intro v hv
 simp only[jy,List.mem_flatMap]at hv
 obtain⟨r,_,hv⟩:=hv
 simp[aQ.cells]at hv
 rcases hv with rfl|rfl|rfl|rfl<;>rfl
theorem NY:∀(es:List aQ) (k:Nat),k<es.length→(jy es)[k*4]?=some (.int .i64 (es.getD k aQ.zero).dc)∧(jy es)[k*4+1]?=some (.int .i64 (es.getD k aQ.zero).n)∧
 (jy es)[k*4+2]?=some (.string (es.getD k aQ.zero).s)∧(jy es)[k*4+3]?=some (.int .i64 (es.getD k aQ.zero).k)
 |[],_,h=>by cases h
 |e::es,0,_=>⟨rfl,rfl,rfl,rfl⟩
 |e::es,k+1,h=>by
  obtain⟨h1,h2,h3,h4⟩:=NY es k (by simpa using h)
  rw[NW,show(k+1)*4=k*4+1+1+1+1 by omega,show k*4+1+1+1+1+1=(k*4+1)+1+1+1+1 by omega,show k*4+1+1+1+1+2=(k*4+2)+1+1+1+1 by omega,show k*4+1+1+1+1+3=(k*4+3)+1+1+1+1 by omega]
  exact⟨h1,h2,h3,h4⟩
def jG:aT→List (Value×Value)→List Value
 | .cons key _ _ rest,o::outs=> .string key::o.1::o.2::jG rest outs
 |_,_=> []
structure gy (Q:Nat→Prop) (w:World) (v:Value) (n:Nat) (xs:List Value):Prop where
 rd:Rd w v n xs
 q:xs≠ []→∀k,v.ownBlock=some k→Q k
theorem gy.keep {Q S:Nat→Prop} {w w':World} {v:Value} {n:Nat} {xs:List Value} (h:gy Q w v n xs) (f:aj S w w') (hs:∀k,k<w.heap.size→S k→¬Q k):gy Q w' v n xs:=by
 refine⟨?_,h.q⟩
 rcases h.rd with h1|⟨b,off,c,rfl,h1,h2,h3⟩
 ·exact .inl h1
 ·refine .inr ⟨b,off,c,rfl,h1,h2,fun j u hu=>f.cell' (h3 j u hu) fun s=>?_⟩
  have hlt:b<w.heap.size:=World.block_lt_of_cell? _ _ (h3 j u hu)
  exact hs b hlt s (h.q (fun e=>by rw[e]at hu;simp at hu) b rfl)
def jX (Q:Nat→Prop) (w:World):aT→List (Value×Value)→Prop
 | .nil,outs=>outs=[]
 | .cons _ es sub rest,outs=>∃ev kv qH os,outs=(ev,kv)::qH∧gy Q w ev es.length (jy es)∧gy Q w kv sub.len (jG sub os)∧jX Q w sub os∧jX Q w rest qH
structure bZ (Q:Nat→Prop) (w:World) (ev kv:Value) (es:List aQ) (ks:aT):Prop where
 ents:gy Q w ev es.length (jy es)
 kids:∃os,gy Q w kv ks.len (jG ks os)∧jX Q w ks os
theorem jX.keep {Q S:Nat→Prop} {w w':World} (f:aj S w w') (hs:∀k,k<w.heap.size→S k→¬Q k):∀ {ks:aT} {os:List (Value×Value)},jX Q w ks os→jX Q w' ks os
 | .nil,_,h=>h
 | .cons _ _ _ _,_,⟨ev,kv,qH,os,h1,h2,h3,h4,h5⟩=>⟨ev,kv,qH,os,h1,h2.keep f hs,h3.keep f hs,h4.keep f hs,h5.keep f hs⟩
theorem bZ.keep {Q S:Nat→Prop} {w w':World} {ev kv:Value} {es:List aQ} {ks:aT} (h:bZ Q w ev kv es ks) (f:aj S w w') (hs:∀k,k<w.heap.size→S k→¬Q k):bZ Q w' ev kv es ks:=
 ⟨h.ents.keep f hs,let⟨os,h1,h2⟩:=h.kids;⟨os,h1.keep f hs,h2.keep f hs⟩⟩
theorem bZ.aS {Q:Nat→Prop} {w w':World} {ev kv:Value} {es:List aQ} {ks:aT} (h:bZ Q w ev kv es ks) (f:aj aF w w'):bZ Q w' ev kv es ks:=h.keep f fun _ _ s=>s.elim
theorem jX.aS {Q:Nat→Prop} {w w':World} {ks:aT} {os:List (Value×Value)} (h:jX Q w ks os) (f:aj aF w w'):jX Q w' ks os:=h.keep f fun _ _ s=>s.elim
theorem jX.length {Q:Nat→Prop} {w:World}:∀ {ks:aT} {os:List (Value×Value)},jX Q w ks os→(jG ks os).length=ks.len*3
 | .nil,_,h=>by cases h;rfl
 | .cons _ _ _ _,_,⟨ev,kv,qH,os,h1,_,_,_,h5⟩=>by
   subst h1
   have:=h5.length
   show(_::_::_::jG _ qH).length=_
   simp only[List.length_cons,this,aT.len]
   omega
def aT.drop:Nat→aT→aT
 |0,ks=>ks
 |_+1, .nil=> .nil
 |n+1, .cons _ _ _ rest=>rest.drop n
theorem jX.drop {Q:Nat→Prop} {w:World}:∀(n:Nat) {ks:aT} {os:List (Value×Value)},jX Q w ks os→∃os',jX Q w (ks.drop n) os'∧(jG ks os).drop (n*3)=jG (ks.drop n) os'
 |0,ks,os,h=>⟨os,h,by simp[aT.drop]⟩
 |n+1, .nil,os,h=>by cases h;exact⟨[],rfl,by simp[jG,aT.drop]⟩
 |n+1, .cons key es sub rest,_,⟨ev,kv,qH,os,h1,_,_,_,h5⟩=>by
  subst h1
  obtain⟨os',h6,h7⟩:=jX.drop n h5
  refine⟨os',h6,?_⟩
  show(_::_::_::jG rest qH).drop ((n+1)*3)=_
  rw[show(n+1)*3=n*3+1+1+1 by omega]
  exact h7
theorem aT.DK:∀(n:Nat) (ks:aT),(ks.drop n).len=ks.len-n
 |0,ks=>by simp[aT.drop]
 |n+1, .nil=>by simp[aT.drop,aT.len]
 |n+1, .cons _ _ _ rest=>by
  show(rest.drop n).len=rest.len+1-(n+1)
  rw[aT.DK n rest];omega
theorem aT.yN:∀(n:Nat) (ks:aT) {key:ByteArray} {es:List aQ} {sub rest:aT},ks.drop n= .cons key es sub rest→ks.drop (n+1)=rest
 |0, .cons _ _ _ _,_,_,_,_,h=>by cases h;rfl
 |0, .nil,_,_,_,_,h=>by cases h
 |n+1, .nil,_,_,_,_,h=>by cases h
 |n+1, .cons _ _ _ r,_,_,_,_,h=>aT.yN n r h
theorem aT.uf {n:Nat} {ks:aT} (h:n<ks.len):∃key es sub rest,ks.drop n= .cons key es sub rest:=by
 have hl:=aT.DK n ks
 cases hd:ks.drop n with
 |nil=>rw[hd]at hl;simp[aT.len]at hl;omega
 |cons key es sub rest=>exact⟨_,_,_,_,rfl⟩
theorem aT.uP {n:Nat} {ks:aT} (h:ks.len≤n):ks.drop n= .nil:=by
 have hl:=aT.DK n ks
 cases hd:ks.drop n with
 |nil=>rfl
 |cons key es sub rest=>rw[hd]at hl;simp[aT.len]at hl;omega
theorem rD {Q:Nat→Prop} {w:World} {b off c m:Nat} {ks:aT} {os:List (Value×Value)} (h:Rd w (.slice (some ⟨b,off,none⟩) m c) m (jG ks os)) (hf:jX Q w ks os) {n:Nat} {key:ByteArray} {es:List aQ} {sub rest:aT} (hd:ks.drop n= .cons key es sub rest):
 ∃ev kv,w.cell? ⟨b,off+n*3,none⟩=some (.string key)∧w.cell? ⟨b,off+n*3+1,none⟩=some ev∧w.cell? ⟨b,off+n*3+2,none⟩=some kv∧bZ Q w ev kv es sub:=by
 obtain⟨os',h1,h2⟩:=hf.drop n
 rw[hd]at h1 h2
 obtain⟨ev,kv,qH,os2,rfl,g2,g3,g4,_⟩:=h1
 have DL:∀j u,(jG (.cons key es sub rest) ((ev,kv)::qH))[j]?=some u→w.cell? ⟨b,off+n*3+j,none⟩=some u:=fun j u hu=>by
  rw[←h2,List.getElem?_drop]at hu
  have:=h.cell _ u hu
  rwa [←Nat.add_assoc]at this
 exact⟨ev,kv,DL 0 _ rfl,DL 1 _ rfl,DL 2 _ rfl,g2,os2,g3,g4⟩
theorem ug {w:World} {b off c n:Nat} {es:List aQ} (h:Rd w (.slice (some ⟨b,off,none⟩) n c) n (jy es)) (k:Nat) (hk:k<es.length):
 w.cell? ⟨b,off+k*4,none⟩=some (.int .i64 (es.getD k aQ.zero).dc)∧w.cell? ⟨b,off+k*4+1,none⟩=some (.int .i64 (es.getD k aQ.zero).n)∧w.cell? ⟨b,off+k*4+2,none⟩=some (.string (es.getD k aQ.zero).s)∧w.cell? ⟨b,off+k*4+3,none⟩=some (.int .i64 (es.getD k aQ.zero).k):=by
 obtain⟨h1,h2,h3,h4⟩:=NY es k hk
 exact⟨h.cell _ _ h1,h.cell (k*4+1) _ h2,h.cell (k*4+2) _ h3,h.cell (k*4+3) _ h4⟩
def aQ.fits (e:aQ):Prop:=(-9223372036854775808≤e.dc∧e.dc≤9223372036854775807)∧(-9223372036854775808≤e.n∧e.n≤9223372036854775807)∧(-9223372036854775808≤e.k∧e.k≤9223372036854775807)∧e.s.size≤9223372036854775807
structure DN (es:List aQ):Prop where
 len:es.length≤140737488351232
 fits:∀e∈es,e.fits
def aT.Ok:aT→Prop
 | .nil=>True
 | .cons key es sub rest=>key.size≤9223372036854775807∧DN es∧sub.len≤140737488351232∧sub.Ok∧rest.Ok
theorem aT.Ok.drop:∀(n:Nat) {ks:aT},ks.Ok→(ks.drop n).Ok
 |0,_,h=>h
 |_+1, .nil,_=>trivial
 |n+1, .cons _ _ _ _,h=>aT.Ok.drop n h.2.2.2.2
structure lF (es:List aQ) (ks:aT):Prop where
 es:DN es
 len:ks.len≤140737488351232
 ks:ks.Ok
def iW (e:aQ):Bool:=qC e.dc e.n&&decide (e.s.size≤30∧e.k≤1099511627776∧-1099511627776≤e.k)
def xI:Option aQ→aQ→Bool
 |none,_=>true
 |some p,e=>qE p.dc p.n e.dc e.n
def jg:Option aQ→List aQ→Bool
 |_,[]=>true
 |p,e::l=>iW e&&xI p e&&jg (some e) l
def dL (a b:ByteArray):Bool:=Op.bytesLess a.toList b.toList
def ltK:Option ByteArray→ByteArray→Bool
 |none,_=>true
 |some p,s=>dL p s
def isNil (es:List aQ) (ks:aT):Bool:=decide (es.length=0∧ks.len=0)
def jh:aT→Nat→Option ByteArray→Bool
 | .nil,_,_=>true
 | .cons key es sub rest,d,p=>oN key&&ltK p key&& !isNil es sub&&(decide (1≤d)&&jg none es&&jh sub (d-1) none)&&jh rest d (some key)
def bM (d:Nat) (es:List aQ) (ks:aT):Bool:=decide (1≤d)&&jg none es&&jh ks (d-1) none
theorem qI (key:ByteArray) (es:List aQ) (sub rest:aT) (d:Nat) (p:Option ByteArray):jh (.cons key es sub rest) d p=(oN key&&ltK p key&& !isNil es sub&&bM d es sub&&jh rest d (some key)):=rfl
def pR (es:List aQ):aZ:=es.map fun e=>(e.dc,e.n)
def kQ:aT→aZ
 | .nil=> []
 | .cons _ es sub rest=>pR es++kQ sub++kQ rest
def iY (es:List aQ) (ks:aT):aZ:=pR es++kQ ks
def dM:aT→Nat
 | .nil=>0
 | .cons _ es sub rest=>1+es.length+dM sub+dM rest
def sizeT (es:List aQ) (ks:aT):Nat:=es.length+dM ks
end Go.Proofs.YtlhmbkjdfjoilaaGreat
namespace Go.Proofs.YtlhmbkjdfjoilaaGreat
def Uz (l:aZ) (c:bD):Prop:=∀r∈l,kS c r.1 r.2
theorem tZ.leq {l:aZ} {c d:bD} (hd:yM l) (h:tZ l d):zO d c↔Uz l c:=by
 constructor
 ·intro hl r hr
  obtain⟨h0,h4,_⟩:=hd r hr
  exact hl r.1 r.2 h0 h4 ((h.mem r.1 r.2 h0 h4).2 hr)
 ·intro hl e n h0 h4 hi
  exact hl (e,n) ((h.mem e n h0 h4).1 hi)
theorem NZ:∀ {l:List aQ} {p:Option aQ},jg p l=true→yM (pR l)
 |[],_,_=>fun r hr=>by cases hr
 |e::l,p,h=>by
  have h:(iW e&&xI p e&&jg (some e) l)=true:=h
  simp only[Bool.and_eq_true]at h
  intro r hr
  rcases List.mem_cons.1 hr with rfl|hr
  ·have:=h.1.1
   unfold iW qC at this
   simp at this
   exact this.1
  ·exact NZ h.2 r hr
theorem N_:∀ {ks:aT} {d:Nat} {p:Option ByteArray},jh ks d p=true→yM (kQ ks)
 | .nil,_,_,_=>fun r hr=>by cases hr
 | .cons key es sub rest,d,p,h=>by
   rw[qI]at h
   unfold bM at h
   simp only[Bool.and_eq_true]at h
   intro r hr
   have hr:r∈pR es++kQ sub++kQ rest:=hr
   rcases List.mem_append.1 hr with hr|hr
   ·rcases List.mem_append.1 hr with hr|hr
    ·exact NZ h.1.2.1.2 r hr
    ·exact N_ h.1.2.2 r hr
   ·exact N_ h.2 r hr
theorem Oa {d:Nat} {es:List aQ} {ks:aT} (h:bM d es ks=true):yM (iY es ks):=by
 unfold bM at h
 simp only[Bool.and_eq_true]at h
 intro r hr
 rcases List.mem_append.1 hr with hr|hr
 ·exact NZ h.1.2 r hr
 ·exact N_ h.2 r hr
theorem Ob (es:List aQ):(pR es).length=es.length:=by simp[pR]
theorem Oc:∀ks:aT,(kQ ks).length≤dM ks
 | .nil=>Nat.le_refl _
 | .cons _ es sub rest=>by
   have h1:=Oc sub
   have h2:=Oc rest
   show(pR es++kQ sub++kQ rest).length≤1+es.length+dM sub+dM rest
   rw[List.length_append,List.length_append,Ob]
   omega
theorem JH (es:List aQ) (ks:aT):(iY es ks).length≤sizeT es ks:=by
 have:=Oc ks
 unfold iY sizeT
 rw[List.length_append,Ob]
 omega
open Go.RowKit
def aQ.v (e:aQ):Value:= .agg #[.int .i64 e.dc, .int .i64 e.n, .string e.s, .int .i64 e.k]
theorem Gj (e:aQ) (hs:e.s.size≤9223372036854775807) (w:World):Calls Tryz.prog 120 #[e.v] w fun x w'=>x= .returned (.bool (iW e))∧aj aF w w':=by
 unfold aQ.v
 have c2:(w.alloc (.cells #[.int .i64 e.dc, .int .i64 e.n, .string e.s, .int .i64 e.k] 100)).cell? ⟨w.heap.size,2,none⟩=some (.string e.s):=aG (heap_alloc_new w _) 2 rfl
 have c3:(w.alloc (.cells #[.int .i64 e.dc, .int .i64 e.n, .string e.s, .int .i64 e.k] 100)).cell? ⟨w.heap.size,3,none⟩=some (.int .i64 e.k):=aG (heap_alloc_new w _) 3 rfl
 cases hd:qC e.dc e.n with
 |false=>
  go_enter Tryz.func120,Tryz.ntmps120
  go_wp2_with(go_at_call 159;refine(Nq _ _ _).mono ?_;rintro x w1 ⟨rfl,hw1⟩;rw[hd])
  go_ret
  exact⟨dF (by simp[iW,hd]),(aj.alloc _ _ _).aH hw1⟩
 |true=>
  go_enter Tryz.func120,Tryz.ntmps120
  go_wp2_with(go_at_call 159;refine(Nq _ _ _).mono ?_;rintro x w1 ⟨rfl,hw1⟩;rw[hd];have k2:=hw1.cell' c2 id;have k3:=hw1.cell' c3 id)
  all_goals
   go_ret
   refine⟨dF ?_,(aj.alloc _ _ _).aH hw1⟩
   rw[Bool.eq_iff_iff]
   simp[iW,hd]<;>omega
theorem UA:∀(l:List aQ) (p:Option aQ) (e:aQ),jg p (l++ [e])=(jg p l&&iW e&&xI (match l.getLast? with|some x=>some x|none=>p) e)
 |[],p,e=>by simp[jg]
 |x::l,p,e=>by
  show(iW x&&xI p x&&jg (some x) (l++ [e]))=((iW x&&xI p x&&jg (some x) l)&&iW e&&_)
  rw[UA l (some x) e]
  have:(match(x::l).getLast? with|some y=>some y|none=>p)=(match l.getLast? with|some y=>some y|none=>some x):=by
   cases l with
   |nil=>rfl
   |cons y l=>
    rw[List.getLast?_cons_cons]
    cases h:(y::l).getLast? with
    |none=>simp at h
    |some z=>rfl
  rw[this]
  simp only[Bool.and_assoc]
theorem UC:∀(l:List aQ) (p:Option aQ) (k:Nat),jg p l=true→jg p (l.take k)=true
 |[],_,_,_=>by simp[jg]
 |_::_,_,0,_=>rfl
 |x::l,p,k+1,h=>by
  have h:(iW x&&xI p x&&jg (some x) l)=true:=h
  show(iW x&&xI p x&&jg (some x) (l.take k))=true
  simp only[Bool.and_eq_true]at h⊢
  exact⟨h.1,UC l _ k h.2⟩
theorem UD {l:List aQ} (h:0<l.length):jg none (l.take (0+1))=iW (l.getD 0 aQ.zero):=by
 rw[take_succ aQ.zero h]
 simp[jg,xI]
theorem UE {l:List aQ} {j:Nat} (h:j+1<l.length) (hr:jg none (l.take (j+1))=true):jg none (l.take (j+1+1))=(iW (l.getD (j+1) aQ.zero)&&qE (l.getD j aQ.zero).dc (l.getD j aQ.zero).n (l.getD (j+1) aQ.zero).dc (l.getD (j+1) aQ.zero).n):=by
 rw[take_succ aQ.zero h,UA,hr]
 have:(l.take (j+1)).getLast?=some (l.getD j aQ.zero):=by
  rw[take_succ aQ.zero (by omega)];simp
 rw[this]
 simp[xI]
theorem uQ {l:List aQ} {k:Nat} (h:jg none (l.take k)=false):jg none l=false:=by
 cases hh:jg none l with
 |false=>rfl
 |true=>rw[UC l none k hh]at h;cases h
theorem DN.at {es:List aQ} (h:DN es) {k:Nat} (hk:k<es.length):(es.getD k aQ.zero).fits:=h.fits _ (getD_mem _ hk)
end Go.Proofs.YtlhmbkjdfjoilaaGreat
