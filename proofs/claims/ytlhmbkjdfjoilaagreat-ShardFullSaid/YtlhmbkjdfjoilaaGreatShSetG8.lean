/- Words for the law ShSet: R8b, TAll, TEnt. -/
import Derived.Test.YtlhmbkjdfjoilaaGreatShSetG0
import Derived.Test.YtlhmbkjdfjoilaaGreatShSetG4
import Derived.Test.YtlhmbkjdfjoilaaGreatShSetG7
set_option linter.unusedSimpArgs false
set_option linter.unusedVariables false
set_option maxHeartbeats 32000000
set_option maxRecDepth 1000000
namespace Go.Proofs.YtlhmbkjdfjoilaaGreat
open Go.RowKit
theorem Calls.jG {P:Program} {f:FuncId} {args:Array Value} {w:World} {v:Value} (h:Calls P f args w fun e w'=>e= .returned v∧w'=w):Calls P f args w fun e w'=>e= .returned v∧aj (fun _=>False) w w':=
 h.mono fun _ _ ⟨h1,h2⟩=>⟨h1,by rw[h2];exact aj.refl _ _⟩
theorem Iw (t:TypeId) (a b:ByteArray):binOp .geq t (.string a) (.string b)=pure (.bool !(Op.bytesLess a.toList b.toList)):=by simp[binOp,Op.stringOp]
theorem qx:∀(n:Nat) {ks:aH} {key:ByteArray} {es:List aG} {sub rest:aH},ks.drop n= .cons key es sub rest→dF sub<dF ks
 |0, .cons _ _ _ _,_,_,_,_,h=>by
  cases h
  simp only[dF]
  omega
 |0, .nil,_,_,_,_,h=>by cases h
 |n+1, .nil,_,_,_,_,h=>by cases h
 |n+1, .cons _ _ _ r,_,_,_,_,h=>by
  have h1:r.drop n=_:=h
  have:=qx n h1
  simp only[dF]
  omega
theorem Iy {ks:aH} {d n:Nat} {key:ByteArray} {es:List aG} {sub rest:aH} {p:Option ByteArray} (h:ks.drop n= .cons key es sub rest):fQ (ks.drop n) d p=(lg key&&ltK p key&& !isNil es sub&&aY d es sub&&fQ (ks.drop (n+1)) d (some key)):=by
 rw[h,aH.qY n ks h,oQ]
def Iz (ks:aH) (n:Nat) (p:Option ByteArray):Prop:=(n=0∧p=none)∨∃j key es sub rest,n=j+1∧ks.drop j= .cons key es sub rest∧p=some key
theorem Qb (es:List aG) (ks:aH):((((es.length:Int)+(ks.len:Int))==0))=isNil es ks:=by
 rw[Bool.eq_iff_iff]
 simp only[isNil,beq_iff_eq,decide_eq_true_eq]
 omega
theorem Qc {d:Nat} (h:d≤100):wrap64 (d:Int)=d:=by unfold wrap64;omega
theorem Qd (Q:Nat→Prop):∀(N:Nat) (es:List aG) (ks:aH) (d:Nat) (w:World) (ev kv:Value),dF ks<N→bC Q w ev kv es ks→iE es ks→d≤100→
 Calls Tryz.prog 84 #[.agg #[ev,kv], .int .i64 d] w fun e w'=>e= .returned (.bool (aY d es ks))∧aj au w w':=by
 intro N
 induction N with
 |zero=>intros;exfalso;omega
 |succ N gG=>
  intro es ks d w ev kv hN ht hok hd
  obtain⟨ae,ce,rfl⟩:=ht.ents.rd.sl
  obtain⟨os,hkr,dU⟩:=ht.kids
  obtain⟨ak,ck,rfl⟩:=hkr.rd.sl
  have HT:=ah ht;clear ht
  have fH:=ah hkr.rd;clear hkr
  have jH:=ah dU;clear dU
  have IH:=ah gG;clear gG
  have bT:=ah (aj.alloc au w (.cells #[.slice ae es.length ce, .slice ak ks.len ck] 28))
  have box0:(w.alloc (.cells #[.slice ae es.length ce, .slice ak ks.len ck] 28)).cell? ⟨w.heap.size,0,none⟩=some (.slice ae es.length ce):=aI (heap_alloc_new w _) 0 rfl
  have box1:(w.alloc (.cells #[.slice ae es.length ce, .slice ak ks.len ck] 28)).cell? ⟨w.heap.size,1,none⟩=some (.slice ak ks.len ck):=aI (heap_alloc_new w _) 1 rfl
  have B0:=ah box0;clear box0
  have B1:=ah box1;clear box1
  have IB:=ah hok.es.len
  have f_:=ah hok.len
  have dQ:=ah hok;clear hok
  have jS:=ah hN;clear hN
  cases d with
  |zero=>
   go_enter Tryz.func84,Tryz.ntmps84
   go_wp2
   go_ret
   exact⟨bH (by simp[aY]),bT.out⟩
  |succ d=>
   generalize hes:es.length=n at*
   have HN:=ah hes;clear hes
   generalize hkl:ks.len=m at*
   have HM:=ah hkl;clear hkl
   have hdz:(((d+1:Nat):Int)==0)=false:=by simp;omega
   have hwd:wrap64 (d:Int)=d:=Qc (by omega)
   have HD:=ah hd;clear hd
   go_enter Tryz.func84,Tryz.ntmps84
   go_wp2
   go_loopw [13] (fun i ww=>∃k:Nat,k≤n∧i= .int .i64 k∧eP none (es.take k)=true∧aj au (w.alloc (.cells #[.slice ae n ce, .slice ak m ck] 28)) ww) (fun i _=>n-(intOf i).toNat)
   case atStart=>exact⟨0,Nat.zero_le _,rfl,rfl,aj.refl _ _⟩
   case round=>
    obtain⟨k,hk,rfl,hr,hw⟩:=hrel
    have HW:=ah hw;clear hw
    have HR:=ah hr;clear hr
    have b0:=HW.out.cell' B0.out id
    by_cases hlt:k<n
    ·have hnm:(n:Int)≤9223372036854775807:=by have:=IB.out;omega
     rcases Rd.shape (HT.out.ents.rd.aN (bT.out.aF HW.out))with⟨ad,he,h0⟩|⟨b,off,cc,he,hmax⟩
     ·exfalso;have:=HN.out;omega
     ·injection he with e1 e2 e3
      subst e1 e3
      clear e2 hmax
      have her:=HT.out.ents.rd.aN (bT.out.aF HW.out)
      rw[HN.out]at her
      obtain⟨q0,q1,q2,q3⟩:=nJ her k (by rw[HN.out];exact hlt)
      have hsz:=(dQ.out.es.at (show k<es.length by rw[HN.out];exact hlt)).2.2.2
      clear her
      obtain⟨α,hne,K,hK1,hK0,hK2⟩:=worlds wr
      have XC:=fun s=>(hK1 s).cell' b0 id
      rcases Nat.eq_zero_or_pos k with rfl|hk0
      ·have hS:=Ir (l:=es) (by rw[HN.out];exact hlt)
       generalize es.getD 0 aG.zero=e at*
       simp only[Nat.zero_mul,Nat.add_zero]at q0 q1 q2 q3
       have k0:=fun s=>(hK1 s).cell' q0 id
       have k1:=fun s=>(hK1 s).cell' q1 id
       have k2:=fun s=>(hK1 s).cell' q2 id
       have k3:=fun s=>(hK1 s).cell' q3 id
       clear q0 q1 q2 q3
       cases he:dW e with
       |false=>
        rw[he]at hS
        have HS:=ah hS;clear hS
        go_wp2_with fail
        refine dA K (by kernel_rfl) (by kernel_rfl) hK0 ?_
        repeat(go_big_quiet_step ((first|(go_at_call 120;exact Calls.bf hK2 (wY e hsz _))|(go_at_call 51;exact Calls.bf hK2 (wE _ _ _ _ _)))))
        refine wpQuiet_nil ?_
        intro w' hw'
        obtain⟨s,rfl⟩:=hw'
        have hfs:=hK1 s
        go_wp2
        go_ret
        exact⟨bH (by rw[aY,nK HS.out];simp),bT.out.aF (HW.out.aF hfs)⟩
       |true=>
        rw[he]at hS
        have HS:=ah hS;clear hS
        go_wp2_with fail
        refine dA K (by kernel_rfl) (by kernel_rfl) hK0 ?_
        repeat(go_big_quiet_step ((first|(go_at_call 120;exact Calls.bf hK2 (wY e hsz _))|(go_at_call 51;exact Calls.bf hK2 (wE _ _ _ _ _)))))
        refine wpQuiet_nil ?_
        intro w' hw'
        obtain⟨s,rfl⟩:=hw'
        have hfs:=hK1 s
        go_wp2
        go_roundw
        case rel=>exact⟨0+1,by omega,by go_num,HS.out,HW.out.aF hfs⟩
        case measure=>simp[intOf];omega
      ·obtain⟨j,rfl⟩:∃j,k=j+1:=⟨k-1,by omega⟩
       have her:=HT.out.ents.rd.aN (bT.out.aF HW.out)
       rw[HN.out]at her
       obtain⟨p0,p1,-,-⟩:=nJ her j (by rw[HN.out];omega)
       clear her
       have hS:=Iu (l:=es) (j:=j) (by rw[HN.out];exact hlt) HR.out
       generalize es.getD (j+1) aG.zero=e at*
       generalize es.getD j aG.zero=pe at*
       have k0:=fun s=>(hK1 s).cell' q0 id
       have k1:=fun s=>(hK1 s).cell' q1 id
       have k2:=fun s=>(hK1 s).cell' q2 id
       have k3:=fun s=>(hK1 s).cell' q3 id
       have k4:=fun s=>(hK1 s).cell' p0 id
       have k5:=fun s=>(hK1 s).cell' p1 id
       clear q0 q1 q2 q3 p0 p1
       cases he:dW e with
       |false=>
        rw[he,Bool.false_and]at hS
        have HS:=ah hS;clear hS
        go_wp2_with fail
        refine dA K (by kernel_rfl) (by kernel_rfl) hK0 ?_
        repeat(go_big_quiet_step ((first|(go_at_call 120;exact Calls.bf hK2 (wY e hsz _))|(go_at_call 51;exact Calls.bf hK2 (wE _ _ _ _ _)))))
        refine wpQuiet_nil ?_
        intro w' hw'
        obtain⟨s,rfl⟩:=hw'
        have hfs:=hK1 s
        go_wp2
        go_ret
        exact⟨bH (by rw[aY,nK HS.out];simp),bT.out.aF (HW.out.aF hfs)⟩
       |true=>
        rw[he,Bool.true_and]at hS
        cases hl:ni pe.dc pe.n e.dc e.n with
        |false=>
         rw[hl]at hS
         have HS:=ah hS;clear hS
         go_wp2_with fail
         refine dA K (by kernel_rfl) (by kernel_rfl) hK0 ?_
         repeat(go_big_quiet_step ((first|(go_at_call 120;exact Calls.bf hK2 (wY e hsz _))|(go_at_call 51;exact Calls.bf hK2 (wE _ _ _ _ _)))))
         refine wpQuiet_nil ?_
         intro w' hw'
         obtain⟨s,rfl⟩:=hw'
         have hfs:=hK1 s
         go_wp2
         go_ret
         exact⟨bH (by rw[aY,nK HS.out];simp),bT.out.aF (HW.out.aF hfs)⟩
        |true=>
         rw[hl]at hS
         have HS:=ah hS;clear hS
         go_wp2_with fail
         refine dA K (by kernel_rfl) (by kernel_rfl) hK0 ?_
         repeat(go_big_quiet_step ((first|(go_at_call 120;exact Calls.bf hK2 (wY e hsz _))|(go_at_call 51;exact Calls.bf hK2 (wE _ _ _ _ _)))))
         refine wpQuiet_nil ?_
         intro w' hw'
         obtain⟨s,rfl⟩:=hw'
         have hfs:=hK1 s
         go_wp2
         go_roundw
         case rel=>exact⟨j+1+1,by omega,by go_num,HS.out,HW.out.aF hfs⟩
         case measure=>simp[intOf];omega
    ·obtain rfl:n=k:=by omega
     rw[List.take_of_length_le (by rw[HN.out];exact Nat.le_refl _)]at HR
     have b1:=HW.out.cell' B1.out id
     go_wp2
     go_loopw [48] (fun i ww=>∃(k:Nat) (p:Option ByteArray),k≤m∧i= .int .i64 k∧Iz ks k p∧fQ ks d none=fQ (ks.drop k) d p∧aj au (w.alloc (.cells #[.slice ae n ce, .slice ak m ck] 28)) ww) (fun i _=>m-(intOf i).toNat)
     case atStart=>exact⟨0,none,Nat.zero_le _,rfl, .inl ⟨rfl,rfl⟩,rfl,HW.out⟩
     case round=>
      clear b0 b1
      obtain⟨k,p,hk,rfl,hp,hr,hw⟩:=hrel
      have cu:=ah hw;clear hw
      have HP:=ah hp;clear hp
      have b1:=cu.out.cell' B1.out id
      by_cases hlt:k<m
      ·obtain⟨key,es',sub,rest,hdr⟩:=aH.nI (n:=k) (ks:=ks) (by rw[HM.out];exact hlt)
       have hmm:(m:Int)≤9223372036854775807:=by have:=f_.out;omega
       rcases Rd.shape (fH.out.aN (bT.out.aF cu.out))with⟨ad,he,h0⟩|⟨b,off,cc,he,hmax⟩
       ·exfalso;have:=HM.out;omega
       ·injection he with e1 e2 e3
        subst e1 e3
        clear e2 hmax
        obtain⟨ev',kv',c0,c1,c2,hta⟩:=lG (fH.out.aN (bT.out.aF cu.out)) (jH.out.aN (bT.out.aF cu.out)) hdr
        obtain⟨dI,dJ,rfl⟩:=hta.ents.rd.sl
        obtain⟨os',fC,jA⟩:=hta.kids
        obtain⟨dK,dL,rfl⟩:=fC.rd.sl
        clear fC jA
        have hok':=dQ.out.ks.drop k
        rw[hdr]at hok'
        have hkz:=hok'.1
        have hsub:iE es' sub:=⟨hok'.2.1,hok'.2.2.1,hok'.2.2.2.1⟩
        have l1:((es'.length:Nat):Int)≤140737488351232:=by have:=hsub.es.len;omega
        have l2:((sub.len:Nat):Int)≤140737488351232:=by have:=hsub.len;omega
        have uV:=ah hsub;clear hsub hok'
        have eF:=ah (qx k hdr)
        rw[Iy hdr]at hr
        have HDR:=ah hdr;clear hdr
        have hbf:aj au wr (wr.alloc (.cells #[.string key, .slice dI es'.length dJ, .slice dK sub.len dL] 52)):=aj.alloc _ _ _
        have n0:(wr.alloc (.cells #[.string key, .slice dI es'.length dJ, .slice dK sub.len dL] 52)).cell? ⟨wr.heap.size,0,none⟩=some (.string key):=aI (heap_alloc_new wr _) 0 rfl
        have n1:(wr.alloc (.cells #[.string key, .slice dI es'.length dJ, .slice dK sub.len dL] 52)).cell? ⟨wr.heap.size,1,none⟩=some (.slice dI es'.length dJ):=aI (heap_alloc_new wr _) 1 rfl
        have n2:(wr.alloc (.cells #[.string key, .slice dI es'.length dJ, .slice dK sub.len dL] 52)).cell? ⟨wr.heap.size,2,none⟩=some (.slice dK sub.len dL):=aI (heap_alloc_new wr _) 2 rfl
        have iF:=ah (hta.aN hbf);clear hta
        have sQ:=cu;clear cu
        have cu:=ah (sQ.out.aF hbf)
        have kk:∀j jT es0 qy qA,ks.drop j= .cons jT es0 qy qA→wr.cell? ⟨b,off+j*3,none⟩=some (.string jT):=fun j jT es0 qy qA h=>by
         obtain⟨_,_,h0,_⟩:=lG (fH.out.aN (bT.out.aF sQ.out)) (jH.out.aN (bT.out.aF sQ.out)) h
         exact h0
        have KK:=ah kk;clear kk
        have HIH:=ah (fun w' (h:aj au (wr.alloc (.cells #[.string key, .slice dI es'.length dJ, .slice dK sub.len dL] 52)) w')=>IH.out es' sub d w' _ _ (by have:=eF.out;have:=jS.out;omega) (iF.out.aN h) uV.out (by have:=HD.out;omega))
        have hnil:=Qb es' sub
        generalize es'.length=n' at*
        generalize sub.len=m' at*
        obtain⟨α,hne,K,hK3,hK0,hK2⟩:=worlds (wr.alloc (.cells #[.string key, .slice dI n' dJ, .slice dK m' dL] 52))
        have hK1:=hK3
        have Qe:=fun s=>(hK1 s).cell' (hbf.cell' b1 id) id
        have Qg:=fun s=>(hK1 s).cell' n0 id
        have Qh:=fun s=>(hK1 s).cell' n1 id
        have Qi:=fun s=>(hK1 s).cell' n2 id
        clear n0 n1 n2
        have hge:=Iw
        rcases HP.out with⟨rfl,rfl⟩|⟨j,jT,es0,qy,qA,rfl,hdj,rfl⟩
        ·simp only[Nat.zero_mul,Nat.add_zero]at c0 c1 c2
         cases g1:lg key with
         |false=>
          rw[g1]at hr
          simp only[Bool.false_and]at hr
          have hst:aY (d+1) es ks=false:=by rw[aY,Nat.add_sub_cancel,hr];simp
          have HST:=ah hst;clear hst hr
          go_wp2_with fail
          refine dA K (by kernel_rfl) (by kernel_rfl) hK0 ?_
          repeat(go_big_quiet_step ((first|(go_at_call 121;exact Calls.bf hK2 (Calls.jG (qg key _ hkz)))|(go_at_call 84;exact Calls.bf hK2 (HIH.out _ (hK3 _))))))
          refine wpQuiet_nil ?_
          intro w' hw'
          obtain⟨s,rfl⟩:=hw'
          have hfs:=hK1 s
          go_wp2
          go_ret
          exact⟨bH HST.out.symm,bT.out.aF (cu.out.aF hfs)⟩
         |true=>
          cases g3:isNil es' sub with
          |true=>
           rw[g1,g3]at hr
           rw[g3]at hnil
           simp only[Bool.not_true,Bool.and_false,Bool.false_and]at hr
           have hst:aY (d+1) es ks=false:=by rw[aY,Nat.add_sub_cancel,hr];simp
           have HST:=ah hst;clear hst hr
           go_wp2_with fail
           refine dA K (by kernel_rfl) (by kernel_rfl) hK0 ?_
           repeat(go_big_quiet_step ((first|(go_at_call 121;exact Calls.bf hK2 (Calls.jG (qg key _ hkz)))|(go_at_call 84;exact Calls.bf hK2 (HIH.out _ (hK3 _))))))
           refine wpQuiet_nil ?_
           intro w' hw'
           obtain⟨s,rfl⟩:=hw'
           have hfs:=hK1 s
           go_wp2
           go_ret
           exact⟨bH HST.out.symm,bT.out.aF (cu.out.aF hfs)⟩
          |false=>
           rw[g3]at hnil
           cases g4:aY d es' sub with
           |false=>
            rw[g1,g3,g4]at hr
            rw[g4]at HIH
            simp only[Bool.and_false,Bool.false_and]at hr
            have hst:aY (d+1) es ks=false:=by rw[aY,Nat.add_sub_cancel,hr];simp
            have HST:=ah hst;clear hst hr
            go_wp2_with fail
            refine dA K (by kernel_rfl) (by kernel_rfl) hK0 ?_
            repeat(go_big_quiet_step ((first|(go_at_call 121;exact Calls.bf hK2 (Calls.jG (qg key _ hkz)))|(go_at_call 84;exact Calls.bf hK2 (HIH.out _ (hK3 _))))))
            refine wpQuiet_nil ?_
            intro w' hw'
            obtain⟨s,rfl⟩:=hw'
            have hfs:=hK1 s
            go_wp2
            go_ret
            exact⟨bH HST.out.symm,bT.out.aF (cu.out.aF hfs)⟩
           |true=>
            rw[g1,g3,g4]at hr
            rw[g4]at HIH
            simp only[ltK,Bool.not_false,Bool.and_true,Bool.true_and]at hr
            have HST:=ah hr;clear hr
            go_wp2_with fail
            refine dA K (by kernel_rfl) (by kernel_rfl) hK0 ?_
            repeat(go_big_quiet_step ((first|(go_at_call 121;exact Calls.bf hK2 (Calls.jG (qg key _ hkz)))|(go_at_call 84;exact Calls.bf hK2 (HIH.out _ (hK3 _))))))
            refine wpQuiet_nil ?_
            intro w' hw'
            obtain⟨s,rfl⟩:=hw'
            have hfs:=hK1 s
            go_wp2
            go_roundw
            case rel=>exact⟨0+1,some key,by omega,by go_num, .inr ⟨0,key,es',sub,rest,rfl,HDR.out,rfl⟩,HST.out,cu.out.aF hfs⟩
            case measure=>simp[intOf];omega
        ·have pk:=KK.out j jT es0 qy qA hdj
         clear hdj
         have Qj:=(fun s=>(hK1 s).cell' (hbf.cell' pk id) id)
         clear pk
         cases g1:lg key with
         |false=>
          rw[g1]at hr
          simp only[Bool.false_and]at hr
          have hst:aY (d+1) es ks=false:=by rw[aY,Nat.add_sub_cancel,hr];simp
          have HST:=ah hst;clear hst hr
          go_wp2_with fail
          refine dA K (by kernel_rfl) (by kernel_rfl) hK0 ?_
          repeat(go_big_quiet_step ((first|(go_at_call 121;exact Calls.bf hK2 (Calls.jG (qg key _ hkz)))|(go_at_call 84;exact Calls.bf hK2 (HIH.out _ (hK3 _))))))
          refine wpQuiet_nil ?_
          intro w' hw'
          obtain⟨s,rfl⟩:=hw'
          have hfs:=hK1 s
          go_wp2
          go_ret
          exact⟨bH HST.out.symm,bT.out.aF (cu.out.aF hfs)⟩
         |true=>
          cases g2:Op.bytesLess jT.toList key.toList with
          |false=>
           rw[show ltK (some jT) key=false from g2]at hr
           simp only[Bool.and_false,Bool.false_and]at hr
           have hst:aY (d+1) es ks=false:=by rw[aY,Nat.add_sub_cancel,hr];simp
           have HST:=ah hst;clear hst hr
           go_wp2_with fail
           refine dA K (by kernel_rfl) (by kernel_rfl) hK0 ?_
           repeat(go_big_quiet_step ((first|(go_at_call 121;exact Calls.bf hK2 (Calls.jG (qg key _ hkz)))|(go_at_call 84;exact Calls.bf hK2 (HIH.out _ (hK3 _))))))
           refine wpQuiet_nil ?_
           intro w' hw'
           obtain⟨s,rfl⟩:=hw'
           have hfs:=hK1 s
           go_wp2
           go_ret
           exact⟨bH HST.out.symm,bT.out.aF (cu.out.aF hfs)⟩
          |true=>
           cases g3:isNil es' sub with
           |true=>
            rw[g3]at hr
            rw[g3]at hnil
            simp only[Bool.not_true,Bool.and_false,Bool.false_and]at hr
            have hst:aY (d+1) es ks=false:=by rw[aY,Nat.add_sub_cancel,hr];simp
            have HST:=ah hst;clear hst hr
            go_wp2_with fail
            refine dA K (by kernel_rfl) (by kernel_rfl) hK0 ?_
            repeat(go_big_quiet_step ((first|(go_at_call 121;exact Calls.bf hK2 (Calls.jG (qg key _ hkz)))|(go_at_call 84;exact Calls.bf hK2 (HIH.out _ (hK3 _))))))
            refine wpQuiet_nil ?_
            intro w' hw'
            obtain⟨s,rfl⟩:=hw'
            have hfs:=hK1 s
            go_wp2
            go_ret
            exact⟨bH HST.out.symm,bT.out.aF (cu.out.aF hfs)⟩
           |false=>
            rw[g3]at hnil
            cases g4:aY d es' sub with
            |false=>
             rw[g4]at hr
             rw[g4]at HIH
             simp only[Bool.and_false,Bool.false_and]at hr
             have hst:aY (d+1) es ks=false:=by rw[aY,Nat.add_sub_cancel,hr];simp
             have HST:=ah hst;clear hst hr
             go_wp2_with fail
             refine dA K (by kernel_rfl) (by kernel_rfl) hK0 ?_
             repeat(go_big_quiet_step ((first|(go_at_call 121;exact Calls.bf hK2 (Calls.jG (qg key _ hkz)))|(go_at_call 84;exact Calls.bf hK2 (HIH.out _ (hK3 _))))))
             refine wpQuiet_nil ?_
             intro w' hw'
             obtain⟨s,rfl⟩:=hw'
             have hfs:=hK1 s
             go_wp2
             go_ret
             exact⟨bH HST.out.symm,bT.out.aF (cu.out.aF hfs)⟩
            |true=>
             rw[g1,g3,g4,show ltK (some jT) key=true from g2]at hr
             rw[g4]at HIH
             simp only[Bool.not_false,Bool.and_true,Bool.true_and]at hr
             have HST:=ah hr;clear hr
             go_wp2_with fail
             refine dA K (by kernel_rfl) (by kernel_rfl) hK0 ?_
             repeat(go_big_quiet_step ((first|(go_at_call 121;exact Calls.bf hK2 (Calls.jG (qg key _ hkz)))|(go_at_call 84;exact Calls.bf hK2 (HIH.out _ (hK3 _))))))
             refine wpQuiet_nil ?_
             intro w' hw'
             obtain⟨s,rfl⟩:=hw'
             have hfs:=hK1 s
             go_wp2
             go_roundw
             case rel=>exact⟨(j+1)+1,some key,by omega,by go_num, .inr ⟨(j+1),key,es',sub,rest,rfl,HDR.out,rfl⟩,HST.out,cu.out.aF hfs⟩
             case measure=>simp[intOf];omega
      ·obtain rfl:m=k:=by omega
       rw[aH.nX (by rw[HM.out];exact Nat.le_refl _)]at hr
       have HRR:=ah hr;clear hr
       go_wp2
       go_ret
       exact⟨bH (by rw[aY,HR.out,Nat.add_sub_cancel,HRR.out];simp[fQ]),bT.out.aF cu.out⟩
open Go.RowKit
theorem IC:(Tryz.prog.info? 98).map (fun i=>(i.zero,i.size,i.bytes))=some (some (.agg #[.int .i64 0, .int .i64 0]),2,16):=by kernel_rfl
theorem Qk {l:List aG} {k:Nat} (hk:k<l.length):jR (l.take (k+1))=jR (l.take k)++ [((l.getD k aG.zero).dc,(l.getD k aG.zero).n)]:=by
 rw[take_succ aG.zero hk];simp[jR]
theorem IE {ks:aH} {n:Nat} {key:ByteArray} {es:List aG} {sub rest:aH} (h:ks.drop n= .cons key es sub rest):gB (ks.drop n)=dX es sub++gB (ks.drop (n+1)):=by
 rw[h,aH.qY n ks h];rfl
theorem q_:∀(n:Nat) {ks:aH} {key:ByteArray} {es:List aG} {sub rest:aH},ks.drop n= .cons key es sub rest→sizeT es sub≤dF ks
 |0, .cons _ _ _ _,_,_,_,_,h=>by
  cases h
  simp only[dF,sizeT]
  omega
 |0, .nil,_,_,_,_,h=>by cases h
 |n+1, .nil,_,_,_,_,h=>by cases h
 |n+1, .cons _ _ _ r,_,_,_,_,h=>by
  have h1:r.drop n=_:=h
  have:=q_ n h1
  simp only[dF]
  omega
theorem kV:∀ks:aH,ks.len≤dF ks
 | .nil=>Nat.le_refl _
 | .cons _ _ _ r=>by have:=kV r;simp only[aH.len,dF];omega
theorem Ql (Q:Nat→Prop):∀(N:Nat) (es:List aG) (ks:aH) (w:World) (ev kv:Value),dF ks<N→bC Q w ev kv es ks→sizeT es ks≤100000→
 Calls Tryz.prog 91 #[.agg #[ev,kv]] w fun e w'=>∃v',e= .returned v'∧OwnAt w w' 98 2 v' (dX es ks).length (bZ (dX es ks)):=by
 intro N
 induction N with
 |zero=>intros;exfalso;omega
 |succ N gG=>
  intro es ks w ev kv hN ht hsz
  obtain⟨i0,hi,hz0,hz1,hz2⟩:=info_parts IC
  obtain⟨ae,ce,rfl⟩:=ht.ents.rd.sl
  obtain⟨os,hkr,dU⟩:=ht.kids
  obtain⟨ak,ck,rfl⟩:=hkr.rd.sl
  have HE:=ah ht.ents.rd
  have fH:=ah hkr.rd;clear hkr ht
  have jH:=ah dU;clear dU
  have IH:=ah gG;clear gG
  have bT:=ah (aj.alloc au w (.cells #[.slice ae es.length ce, .slice ak ks.len ck] 28))
  have box0:(w.alloc (.cells #[.slice ae es.length ce, .slice ak ks.len ck] 28)).cell? ⟨w.heap.size,0,none⟩=some (.slice ae es.length ce):=aI (heap_alloc_new w _) 0 rfl
  have box1:(w.alloc (.cells #[.slice ae es.length ce, .slice ak ks.len ck] 28)).cell? ⟨w.heap.size,1,none⟩=some (.slice ak ks.len ck):=aI (heap_alloc_new w _) 1 rfl
  have B0:=ah box0;clear box0
  have B1:=ah box1;clear box1
  have mP:=ah (Nat.le_trans (zC es ks) hsz)
  have ru:es.length≤100000:=by unfold sizeT at hsz;omega
  have IG:ks.len≤100000:=by have:=kV ks;unfold sizeT at hsz;omega
  have jS:=ah hsz;clear hsz
  have lH:=ah hN;clear hN
  generalize hes:es.length=n at*
  have HN:=ah hes;clear hes
  generalize hkl:ks.len=m at*
  have HM:=ah hkl;clear hkl
  go_enter Tryz.func91,Tryz.ntmps91
  go_wp2_with fail
  have b0:=B0.out
  go_wp2
  clear b0
  go_loopw [3,11] (fun v i ww=>∃k:Nat,k≤n∧i= .int .i64 k∧OwnAt (w.alloc (.cells #[.slice ae n ce, .slice ak m ck] 28)) ww 98 2 v k (bZ (jR (es.take k)))) (fun _ i _=>n-(intOf i).toNat)
  case atStart=>exact⟨0,Nat.zero_le _,rfl,OwnAt.nil (aj.refl _ _) _ _⟩
  case round=>
   obtain⟨k,hk,rfl,ho⟩:=hrel
   obtain⟨av,cv,rfl⟩:=ho.shape
   have HO:=ah ho;clear ho
   by_cases hlt:k<n
   ·rcases Rd.shape HE.out with⟨ad,he,h0⟩|⟨b,off,cc,he,hmax⟩
    ·exfalso;have:=HN.out;omega
    ·injection he with e1 e2 e3
     subst e1 e3
     clear e2
     have hlk:k<es.length:=by rw[HN.out];exact hlt
     obtain⟨p0,p1,p2,p3⟩:=nJ HE.out k hlk
     have f2:=bT.out.aF HO.out.aJ
     have q0:=f2.cell' p0 id
     have q1:=f2.cell' p1 id
     have q2:=f2.cell' p2 id
     have q3:=f2.cell' p3 id
     clear p0 p1 p2 p3 f2
     have hE:=Qk hlk
     generalize es.getD k aG.zero=e at*
     have sS:=ah hE;clear hE
     go_wp2_with(at_builtin;refine jF _ _ [.int .i64 e.dc, .int .i64 e.n] rfl (.tmp 15) (.tmp 18) 138 rfl 98 i0 _ 2 16 Tryz.underlying138 hi hz0 hz1 hz2 (by decide) (by decide) _ _ _ (HO.out.keep (aj.alloc _ _ _)) 1 1 rfl (by simp[Act.eval]) rfl (by simp[Value.oneCell']) (by simp only[maxLen];omega) (by omega) ?_;intro zk iU w2 bI;have OW:=ah bI;clear bI)
     go_roundw
     case rel=>exact⟨k+1,by omega,by go_num,by rw[sS.out,kS];exact OW.out⟩
     case measure=>simp[intOf];omega
   ·obtain rfl:n=k:=by omega
    rw[List.take_of_length_le (by rw[HN.out];exact Nat.le_refl _)]at HO
    have b1:=HO.out.aJ.cell' B1.out id
    go_wp2
    clear b1
    go_loopw [3,24] (fun v i ww=>∃(k:Nat) (out:aS),k≤m∧i= .int .i64 k∧OwnAt (w.alloc (.cells #[.slice ae n ce, .slice ak m ck] 28)) ww 98 2 v out.length (bZ out)∧dX es ks=out++gB (ks.drop k)) (fun _ i _=>m-(intOf i).toNat)
    case atStart=>exact⟨0,jR es,Nat.zero_le _,rfl,by rw[Df,HN.out];exact HO.out,rfl⟩
    case round=>
     obtain⟨k,out,hk,rfl,ho,hd⟩:=hrel
     obtain⟨av,cv,rfl⟩:=ho.shape
     have dQ:=ah ho;clear ho
     have HD:=ah hd;clear hd
     by_cases hlt:k<m
     ·obtain⟨key,es',sub,rest,hdr⟩:=aH.nI (n:=k) (ks:=ks) (by rw[HM.out];exact hlt)
      rcases Rd.shape fH.out with⟨ad,he,h0⟩|⟨b,off,cc,he,hmax⟩
      ·exfalso;have:=HM.out;omega
      ·injection he with e1 e2 e3
       subst e1 e3
       clear e2
       have f2:=bT.out.aF dQ.out.aJ
       obtain⟨ev',kv',c0,c1,c2,hta⟩:=lG (fH.out.aN f2) (jH.out.aN f2) hdr
       obtain⟨dI,dJ,rfl⟩:=hta.ents.rd.sl
       obtain⟨os',fC,jA⟩:=hta.kids
       obtain⟨dK,dL,rfl⟩:=fC.rd.sl
       clear fC jA f2
       have sU:=ah (IE hdr)
       have eF:=ah (qx k hdr)
       have HST:=ah (q_ k hdr)
       have iF:=ah hta;clear hta
       have HIH:=ah (fun w' (h:aj au wr w')=>IH.out es' sub w' _ _ (by have:=eF.out;have:=lH.out;omega) (iF.out.aN h) (by have:=HST.out;have:=jS.out;unfold sizeT at*;omega))
       have hlen:out.length+(dX es' sub).length≤100000:=by
        have h1:=mP.out
        rw[HD.out,sU.out,List.length_append,List.length_append]at h1
        omega
       have HLEN:=ah hlen;clear hlen
       clear hdr
       generalize es'.length=n' at*
       generalize sub.len=m' at*
       go_wp2_with(first
        |(go_at_call 91;refine(HIH.out _ (aj.alloc _ _ _)).mono ?_;rintro e w3 ⟨v3,rfl,ho3⟩;obtain⟨a3,c3,rfl⟩:=ho3.shape;have bJ:=ah ho3;clear ho3;have HKK:=ah (dQ.out.keep ((aj.alloc au _ _).aF bJ.out.aJ)))
        |(at_builtin;refine mD _ _ _ rfl (.tmp 28) (.tmp 31) 138 138 rfl 98 98 i0 _ 2 16 Tryz.underlying138 Tryz.underlying138 hi hz0 hz1 hz2 (by decide) (by decide) _ _ _ HKK.out _ (dX es' sub).length rfl rfl bJ.out.rd (by rw[oK]) (BF _) (by have:=HLEN.out;simp only[maxLen];omega) (by have:=HLEN.out;omega) ?_;intro ad cc w5 dw;have OW:=ah dw;clear dw))
       go_roundw
       case rel=>exact⟨k+1,out++dX es' sub,by omega,by go_num,by rw[List.length_append,kS];exact OW.out,by rw[HD.out,sU.out,List.append_assoc]⟩
       case measure=>simp[intOf];omega
     ·obtain rfl:m=k:=by omega
      have hd:=HD.out
      rw[aH.nX (by rw[HM.out];exact Nat.le_refl _)]at hd
      have hd2:dX es ks=out:=by rw[hd];simp[gB]
      have HD2:=ah hd2;clear hd2 hd
      go_wp2
      go_ret
      refine⟨_,rfl,?_⟩
      rw[HD2.out]
      exact dQ.out.base bT.out
open Go.RowKit
theorem Qm (d n e m:Int):(!decide (0≤ny d n e m))=ni d n e m:=by
 rw[←Gp]
 by_cases h:0≤ny d n e m
 ·have:¬ny d n e m<0:=by omega
  simp[h,this]
 ·have:ny d n e m<0:=by omega
  simp[h,this]
theorem II (w:World) (v:Value) (es:List aG) (hv:Rd w v es.length (fK es)) (hok:uU es):
 Calls Tryz.prog 163 #[v] w fun e w'=>e= .returned (.bool (eP none es))∧aj au w w':=by
 obtain⟨aA,cA,rfl⟩:=hv.sl
 have HH:=ah hv;clear hv
 have dQ:=ah hok;clear hok
 generalize hn:es.length=n at*
 have HN:=ah hn;clear hn
 go_enter Tryz.func163,Tryz.ntmps163
 go_wp2
 go_loopw [7] (fun i ww=>∃k:Nat,k≤n∧i= .int .i64 k∧eP none (es.take k)=true∧aj au w ww) (fun i _=>n-(intOf i).toNat)
 case atStart=>exact⟨0,Nat.zero_le _,rfl,rfl,aj.refl _ _⟩
 case round=>
  obtain⟨k,hk,rfl,hr,hw⟩:=hrel
  have HW:=ah hw;clear hw
  have HR:=ah hr;clear hr
  by_cases hlt:k<n
  ·rcases Rd.shape (HH.out.aN HW.out)with⟨ad,he,h0⟩|⟨b,off,cc,he,hmax⟩
   ·exfalso;have:=HN.out;omega
   ·injection he with e1 e2 e3
    subst e1 e3
    clear e2
    have hlk:k<es.length:=by rw[HN.out];exact hlt
    have her:=HH.out.aN HW.out
    obtain⟨q0,q1,q2,q3⟩:=nJ her k hlk
    have hsz:=(dQ.out.at hlk).2.2.2
    have hfk:=(dQ.out.at hlk).2.2.1
    have hbl:b<wr.heap.size:=World.block_lt_of_cell? _ _ q0
    rcases Nat.eq_zero_or_pos k with rfl|hk0
    ·have hS:=Ir (l:=es) hlk
     generalize es.getD 0 aG.zero=e at*
     simp only[Nat.zero_mul,Nat.add_zero]at q0 q1 q2 q3
     clear her
     have hbf:aj au wr (wr.alloc (.cells #[.int .i64 e.dc, .int .i64 e.n, .string e.s, .int .i64 e.k] 100)):=aj.alloc _ _ _
     have cu:=ah (HW.out.aF hbf)
     obtain⟨α,hne,K,hK3,hK0,hK2⟩:=worlds (wr.alloc (.cells #[.int .i64 e.dc, .int .i64 e.n, .string e.s, .int .i64 e.k] 100))
     have hK1:=hK3
     have n0:=(fun s=>(hK1 s).cell' (aI (heap_alloc_new wr _) 0 rfl:(wr.alloc (.cells #[.int .i64 e.dc, .int .i64 e.n, .string e.s, .int .i64 e.k] 100)).cell? ⟨wr.heap.size,0,none⟩=some (.int .i64 e.dc)) id)
     have n1:=(fun s=>(hK1 s).cell' (aI (heap_alloc_new wr _) 1 rfl:(wr.alloc (.cells #[.int .i64 e.dc, .int .i64 e.n, .string e.s, .int .i64 e.k] 100)).cell? ⟨wr.heap.size,1,none⟩=some (.int .i64 e.n)) id)
     have n2:=(fun s=>(hK1 s).cell' (aI (heap_alloc_new wr _) 2 rfl:(wr.alloc (.cells #[.int .i64 e.dc, .int .i64 e.n, .string e.s, .int .i64 e.k] 100)).cell? ⟨wr.heap.size,2,none⟩=some (.string e.s)) id)
     have n3:=(fun s=>(hK1 s).cell' (aI (heap_alloc_new wr _) 3 rfl:(wr.alloc (.cells #[.int .i64 e.dc, .int .i64 e.n, .string e.s, .int .i64 e.k] 100)).cell? ⟨wr.heap.size,3,none⟩=some (.int .i64 e.k)) id)
     cases hd:kR e.dc e.n with
     |false=>
      have he:dW e=false:=by simp[dW,hd]
      rw[he]at hS
      (try simp only[Bool.false_and]at hS)
      have HS:=ah hS;clear hS he
      have HDR:=ah (fun W=>uH e.dc e.n W)
      rw[hd]at HDR
      have fO:=ah (fun W=>nS 0 0 0 0 W)
      clear hd
      go_wp2_with fail
      refine dA K (by kernel_rfl) (by kernel_rfl) hK0 ?_
      repeat(go_big_quiet_step ((first|(go_at_call 126;exact Calls.bf hK2 (HDR.out _))|(go_at_call 143;exact Calls.bf hK2 (fO.out _)))))
      refine wpQuiet_nil ?_
      intro w' hw'
      obtain⟨s,rfl⟩:=hw'
      have hfs:=hK1 s
      go_wp2
      go_ret
      exact⟨bH (nK HS.out).symm,cu.out.aF hfs⟩
     |true=>
      have HDR:=ah (fun W=>uH e.dc e.n W)
      rw[hd]at HDR
      cases h1:decide (30<(e.s.size:Int))with
      |true=>
       have fO:=ah (fun W=>nS 0 0 0 0 W)
       have he:dW e=false:=by simp at h1;simp[dW];intros;omega
       rw[he]at hS
       (try simp only[Bool.false_and]at hS)
       have HS:=ah hS;clear hS he
       clear hd
       go_wp2_with fail
       refine dA K (by kernel_rfl) (by kernel_rfl) hK0 ?_
       repeat(go_big_quiet_step ((first|(go_at_call 126;exact Calls.bf hK2 (HDR.out _))|(go_at_call 143;exact Calls.bf hK2 (fO.out _)))))
       refine wpQuiet_nil ?_
       intro w' hw'
       obtain⟨s,rfl⟩:=hw'
       have hfs:=hK1 s
       go_wp2
       go_ret
       exact⟨bH (nK HS.out).symm,cu.out.aF hfs⟩
      |false=>
       cases h2:decide (1099511627776<e.k)with
       |true=>
        have fO:=ah (fun W=>nS 0 0 0 0 W)
        have he:dW e=false:=by simp at h2;simp[dW];intros;omega
        rw[he]at hS
        (try simp only[Bool.false_and]at hS)
        have HS:=ah hS;clear hS he
        clear hd
        go_wp2_with fail
        refine dA K (by kernel_rfl) (by kernel_rfl) hK0 ?_
        repeat(go_big_quiet_step ((first|(go_at_call 126;exact Calls.bf hK2 (HDR.out _))|(go_at_call 143;exact Calls.bf hK2 (fO.out _)))))
        refine wpQuiet_nil ?_
        intro w' hw'
        obtain⟨s,rfl⟩:=hw'
        have hfs:=hK1 s
        go_wp2
        go_ret
        exact⟨bH (nK HS.out).symm,cu.out.aF hfs⟩
       |false=>
        cases h3:decide (e.k< -1099511627776)with
        |true=>
         have fO:=ah (fun W=>nS 0 0 0 0 W)
         have he:dW e=false:=by simp at h3;simp[dW];intros;omega
         rw[he]at hS
         (try simp only[Bool.false_and]at hS)
         have HS:=ah hS;clear hS he
         clear hd
         go_wp2_with fail
         refine dA K (by kernel_rfl) (by kernel_rfl) hK0 ?_
         repeat(go_big_quiet_step ((first|(go_at_call 126;exact Calls.bf hK2 (HDR.out _))|(go_at_call 143;exact Calls.bf hK2 (fO.out _)))))
         refine wpQuiet_nil ?_
         intro w' hw'
         obtain⟨s,rfl⟩:=hw'
         have hfs:=hK1 s
         go_wp2
         go_ret
         exact⟨bH (nK HS.out).symm,cu.out.aF hfs⟩
        |false=>
         have he:dW e=true:=by simp at h1 h2 h3;simp[dW,hd];omega
         rw[he]at hS
         clear he hd
         have fO:=ah (fun W=>nS 0 0 0 0 W)
         have HS:=ah hS;clear hS
         go_wp2_with fail
         refine dA K (by kernel_rfl) (by kernel_rfl) hK0 ?_
         repeat(go_big_quiet_step ((first|(go_at_call 126;exact Calls.bf hK2 (HDR.out _))|(go_at_call 143;exact Calls.bf hK2 (fO.out _)))))
         refine wpQuiet_nil ?_
         intro w' hw'
         obtain⟨s,rfl⟩:=hw'
         have hfs:=hK1 s
         go_wp2
         go_roundw
         case rel=>exact⟨0+1,by omega,by go_num,HS.out,cu.out.aF hfs⟩
         case measure=>simp[intOf];omega
    ·obtain⟨j,rfl⟩:∃j,k=j+1:=⟨k-1,by omega⟩
     obtain⟨p0,p1,-,-⟩:=nJ her j (by omega)
     clear her
     have hS:=Iu (l:=es) (j:=j) hlk HR.out
     generalize es.getD (j+1) aG.zero=e at*
     generalize es.getD j aG.zero=pe at*
     have hbf:aj au wr (wr.alloc (.cells #[.int .i64 e.dc, .int .i64 e.n, .string e.s, .int .i64 e.k] 100)):=aj.alloc _ _ _
     have cu:=ah (HW.out.aF hbf)
     obtain⟨α,hne,K,hK3,hK0,hK2⟩:=worlds (wr.alloc (.cells #[.int .i64 e.dc, .int .i64 e.n, .string e.s, .int .i64 e.k] 100))
     have hK1:=hK3
     have n0:=(fun s=>(hK1 s).cell' (aI (heap_alloc_new wr _) 0 rfl:(wr.alloc (.cells #[.int .i64 e.dc, .int .i64 e.n, .string e.s, .int .i64 e.k] 100)).cell? ⟨wr.heap.size,0,none⟩=some (.int .i64 e.dc)) id)
     have n1:=(fun s=>(hK1 s).cell' (aI (heap_alloc_new wr _) 1 rfl:(wr.alloc (.cells #[.int .i64 e.dc, .int .i64 e.n, .string e.s, .int .i64 e.k] 100)).cell? ⟨wr.heap.size,1,none⟩=some (.int .i64 e.n)) id)
     have n2:=(fun s=>(hK1 s).cell' (aI (heap_alloc_new wr _) 2 rfl:(wr.alloc (.cells #[.int .i64 e.dc, .int .i64 e.n, .string e.s, .int .i64 e.k] 100)).cell? ⟨wr.heap.size,2,none⟩=some (.string e.s)) id)
     have n3:=(fun s=>(hK1 s).cell' (aI (heap_alloc_new wr _) 3 rfl:(wr.alloc (.cells #[.int .i64 e.dc, .int .i64 e.n, .string e.s, .int .i64 e.k] 100)).cell? ⟨wr.heap.size,3,none⟩=some (.int .i64 e.k)) id)
     have m0:=(fun s=>(hK1 s).cell' (hbf.cell' p0 id) id)
     have m1:=(fun s=>(hK1 s).cell' (hbf.cell' p1 id) id)
     clear p0 p1
     cases hd:kR e.dc e.n with
     |false=>
      have he:dW e=false:=by simp[dW,hd]
      rw[he]at hS
      (try simp only[Bool.false_and]at hS)
      have HS:=ah hS;clear hS he
      have HDR:=ah (fun W=>uH e.dc e.n W)
      rw[hd]at HDR
      have fO:=ah (fun W=>nS 0 0 0 0 W)
      clear hd
      go_wp2_with fail
      refine dA K (by kernel_rfl) (by kernel_rfl) hK0 ?_
      repeat(go_big_quiet_step ((first|(go_at_call 126;exact Calls.bf hK2 (HDR.out _))|(go_at_call 143;exact Calls.bf hK2 (fO.out _)))))
      refine wpQuiet_nil ?_
      intro w' hw'
      obtain⟨s,rfl⟩:=hw'
      have hfs:=hK1 s
      go_wp2
      go_ret
      exact⟨bH (nK HS.out).symm,cu.out.aF hfs⟩
     |true=>
      have HDR:=ah (fun W=>uH e.dc e.n W)
      rw[hd]at HDR
      cases h1:decide (30<(e.s.size:Int))with
      |true=>
       have fO:=ah (fun W=>nS 0 0 0 0 W)
       have he:dW e=false:=by simp at h1;simp[dW];intros;omega
       rw[he]at hS
       (try simp only[Bool.false_and]at hS)
       have HS:=ah hS;clear hS he
       clear hd
       go_wp2_with fail
       refine dA K (by kernel_rfl) (by kernel_rfl) hK0 ?_
       repeat(go_big_quiet_step ((first|(go_at_call 126;exact Calls.bf hK2 (HDR.out _))|(go_at_call 143;exact Calls.bf hK2 (fO.out _)))))
       refine wpQuiet_nil ?_
       intro w' hw'
       obtain⟨s,rfl⟩:=hw'
       have hfs:=hK1 s
       go_wp2
       go_ret
       exact⟨bH (nK HS.out).symm,cu.out.aF hfs⟩
      |false=>
       cases h2:decide (1099511627776<e.k)with
       |true=>
        have fO:=ah (fun W=>nS 0 0 0 0 W)
        have he:dW e=false:=by simp at h2;simp[dW];intros;omega
        rw[he]at hS
        (try simp only[Bool.false_and]at hS)
        have HS:=ah hS;clear hS he
        clear hd
        go_wp2_with fail
        refine dA K (by kernel_rfl) (by kernel_rfl) hK0 ?_
        repeat(go_big_quiet_step ((first|(go_at_call 126;exact Calls.bf hK2 (HDR.out _))|(go_at_call 143;exact Calls.bf hK2 (fO.out _)))))
        refine wpQuiet_nil ?_
        intro w' hw'
        obtain⟨s,rfl⟩:=hw'
        have hfs:=hK1 s
        go_wp2
        go_ret
        exact⟨bH (nK HS.out).symm,cu.out.aF hfs⟩
       |false=>
        cases h3:decide (e.k< -1099511627776)with
        |true=>
         have fO:=ah (fun W=>nS 0 0 0 0 W)
         have he:dW e=false:=by simp at h3;simp[dW];intros;omega
         rw[he]at hS
         (try simp only[Bool.false_and]at hS)
         have HS:=ah hS;clear hS he
         clear hd
         go_wp2_with fail
         refine dA K (by kernel_rfl) (by kernel_rfl) hK0 ?_
         repeat(go_big_quiet_step ((first|(go_at_call 126;exact Calls.bf hK2 (HDR.out _))|(go_at_call 143;exact Calls.bf hK2 (fO.out _)))))
         refine wpQuiet_nil ?_
         intro w' hw'
         obtain⟨s,rfl⟩:=hw'
         have hfs:=hK1 s
         go_wp2
         go_ret
         exact⟨bH (nK HS.out).symm,cu.out.aF hfs⟩
        |false=>
         have he:dW e=true:=by simp at h1 h2 h3;simp[dW,hd];omega
         rw[he]at hS
         clear he hd
         rw[Bool.true_and]at hS
         have fO:=ah (fun W=>nS pe.dc pe.n e.dc e.n W)
         have hge:=Qm pe.dc pe.n e.dc e.n
         rw[←hge]at hS
         generalize ny pe.dc pe.n e.dc e.n=cc at*
         cases hl:decide (0≤cc)with
         |true=>
          rw[hl]at hS
          have hS:=hS
          have HS:=ah hS;clear hS hge
          go_wp2_with fail
          refine dA K (by kernel_rfl) (by kernel_rfl) hK0 ?_
          repeat(go_big_quiet_step ((first|(go_at_call 126;exact Calls.bf hK2 (HDR.out _))|(go_at_call 143;exact Calls.bf hK2 (fO.out _)))))
          refine wpQuiet_nil ?_
          intro w' hw'
          obtain⟨s,rfl⟩:=hw'
          have hfs:=hK1 s
          go_wp2
          go_ret
          exact⟨bH (nK HS.out).symm,cu.out.aF hfs⟩
         |false=>
          rw[hl]at hS
          have HS:=ah hS;clear hS hge
          go_wp2_with fail
          refine dA K (by kernel_rfl) (by kernel_rfl) hK0 ?_
          repeat(go_big_quiet_step ((first|(go_at_call 126;exact Calls.bf hK2 (HDR.out _))|(go_at_call 143;exact Calls.bf hK2 (fO.out _)))))
          refine wpQuiet_nil ?_
          intro w' hw'
          obtain⟨s,rfl⟩:=hw'
          have hfs:=hK1 s
          go_wp2
          go_roundw
          case rel=>exact⟨j+1+1,by omega,by go_num,HS.out,cu.out.aF hfs⟩
          case measure=>simp[intOf];omega
  ·obtain rfl:n=k:=by omega
   rw[List.take_of_length_le (by rw[HN.out];exact Nat.le_refl _)]at HR
   go_wp2
   go_ret
   exact⟨bH HR.out.symm,HW.out⟩
end Go.Proofs.YtlhmbkjdfjoilaaGreat
