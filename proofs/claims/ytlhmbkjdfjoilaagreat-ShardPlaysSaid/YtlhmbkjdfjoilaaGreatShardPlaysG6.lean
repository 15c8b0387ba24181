/- Words for the law ShardPlays: R8b, Own2, TAll, TClone, Leaf, HeldLast. -/
import Derived.Test.YtlhmbkjdfjoilaaGreatShardPlaysG0
import Derived.Test.YtlhmbkjdfjoilaaGreatShardPlaysG3
import Derived.Test.YtlhmbkjdfjoilaaGreatShardPlaysG5
import Derived.Deep.RegionHeld
set_option linter.unusedSimpArgs false
set_option linter.unusedVariables false
set_option maxHeartbeats 32000000
set_option maxRecDepth 1000000
namespace Go.Proofs.YtlhmbkjdfjoilaaGreat
open Go.RowKit
theorem Calls.oP {P:Program} {f:FuncId} {args:Array Value} {w:World} {v:Value} (h:Calls P f args w fun e w'=>e= .returned v∧w'=w):Calls P f args w fun e w'=>e= .returned v∧aj (fun _=>False) w w':=
 h.mono fun _ _ ⟨h1,h2⟩=>⟨h1,by rw[h2];exact aj.refl _ _⟩
theorem UF (t:TypeId) (a b:ByteArray):binOp .geq t (.string a) (.string b)=pure (.bool !(Op.bytesLess a.toList b.toList)):=by simp[binOp,Op.stringOp]
theorem xJ:∀(n:Nat) {ks:aT} {key:ByteArray} {es:List aQ} {sub rest:aT},ks.drop n= .cons key es sub rest→dM sub<dM ks
 |0, .cons _ _ _ _,_,_,_,_,h=>by
  cases h
  simp only[dM]
  omega
 |0, .nil,_,_,_,_,h=>by cases h
 |n+1, .nil,_,_,_,_,h=>by cases h
 |n+1, .cons _ _ _ r,_,_,_,_,h=>by
  have h1:r.drop n=_:=h
  have:=xJ n h1
  simp only[dM]
  omega
theorem UG {ks:aT} {d n:Nat} {key:ByteArray} {es:List aQ} {sub rest:aT} {p:Option ByteArray} (h:ks.drop n= .cons key es sub rest):jh (ks.drop n) d p=(oN key&&ltK p key&& !isNil es sub&&bM d es sub&&jh (ks.drop (n+1)) d (some key)):=by
 rw[h,aT.yN n ks h,qI]
def UH (ks:aT) (n:Nat) (p:Option ByteArray):Prop:=(n=0∧p=none)∨∃j key es sub rest,n=j+1∧ks.drop j= .cons key es sub rest∧p=some key
theorem aa' (es:List aQ) (ks:aT):((((es.length:Int)+(ks.len:Int))==0))=isNil es ks:=by
 rw[Bool.eq_iff_iff]
 simp only[isNil,beq_iff_eq,decide_eq_true_eq]
 omega
theorem abb {d:Nat} (h:d≤100):wrap64 (d:Int)=d:=by unfold wrap64;omega
theorem abd (Q:Nat→Prop):∀(N:Nat) (es:List aQ) (ks:aT) (d:Nat) (w:World) (ev kv:Value),dM ks<N→bZ Q w ev kv es ks→lF es ks→d≤100→
 Calls Tryz.prog 84 #[.agg #[ev,kv], .int .i64 d] w fun e w'=>e= .returned (.bool (bM d es ks))∧aj aF w w':=by
 intro N
 induction N with
 |zero=>intros;exfalso;omega
 |succ N jH=>
  intro es ks d w ev kv hN ht hok hd
  obtain⟨ae,ce,rfl⟩:=ht.ents.rd.sl
  obtain⟨os,hkr,gY⟩:=ht.kids
  obtain⟨ak,ck,rfl⟩:=hkr.rd.sl
  have HT:=ah ht;clear ht
  have iT:=ah hkr.rd;clear hkr
  have nR:=ah gY;clear gY
  have IH:=ah jH;clear jH
  have eu:=ah (aj.alloc aF w (.cells #[.slice ae es.length ce, .slice ak ks.len ck] 28))
  have box0:(w.alloc (.cells #[.slice ae es.length ce, .slice ak ks.len ck] 28)).cell? ⟨w.heap.size,0,none⟩=some (.slice ae es.length ce):=aG (heap_alloc_new w _) 0 rfl
  have box1:(w.alloc (.cells #[.slice ae es.length ce, .slice ak ks.len ck] 28)).cell? ⟨w.heap.size,1,none⟩=some (.slice ak ks.len ck):=aG (heap_alloc_new w _) 1 rfl
  have B0:=ah box0;clear box0
  have B1:=ah box1;clear box1
  have UJ:=ah hok.es.len
  have iZ:=ah hok.len
  have fH:=ah hok;clear hok
  have iC:=ah hN;clear hN
  cases d with
  |zero=>
   go_enter Tryz.func84,Tryz.ntmps84
   go_wp2
   go_ret
   exact⟨dF (by simp[bM]),eu.out⟩
  |succ d=>
   generalize hes:es.length=n at*
   have HN:=ah hes;clear hes
   generalize hkl:ks.len=m at*
   have HM:=ah hkl;clear hkl
   have hdz:(((d+1:Nat):Int)==0)=false:=by simp;omega
   have hwd:wrap64 (d:Int)=d:=abb (by omega)
   have HD:=ah hd;clear hd
   go_enter Tryz.func84,Tryz.ntmps84
   go_wp2
   go_loopw [13] (fun i ww=>∃k:Nat,k≤n∧i= .int .i64 k∧jg none (es.take k)=true∧aj aF (w.alloc (.cells #[.slice ae n ce, .slice ak m ck] 28)) ww) (fun i _=>n-(intOf i).toNat)
   case atStart=>exact⟨0,Nat.zero_le _,rfl,rfl,aj.refl _ _⟩
   case round=>
    obtain⟨k,hk,rfl,hr,hw⟩:=hrel
    have HW:=ah hw;clear hw
    have HR:=ah hr;clear hr
    have b0:=HW.out.cell' B0.out id
    by_cases hlt:k<n
    ·have hnm:(n:Int)≤9223372036854775807:=by have:=UJ.out;omega
     rcases Rd.shape (HT.out.ents.rd.aS (eu.out.aH HW.out))with⟨ad,he,h0⟩|⟨b,off,cc,he,hmax⟩
     ·exfalso;have:=HN.out;omega
     ·injection he with e1 e2 e3
      subst e1 e3
      clear e2 hmax
      have her:=HT.out.ents.rd.aS (eu.out.aH HW.out)
      rw[HN.out]at her
      obtain⟨q0,q1,q2,q3⟩:=ug her k (by rw[HN.out];exact hlt)
      have hsz:=(fH.out.es.at (show k<es.length by rw[HN.out];exact hlt)).2.2.2
      clear her
      obtain⟨α,hne,K,hK1,hK0,hK2⟩:=worlds wr
      have kb0:=fun s=>(hK1 s).cell' b0 id
      rcases Nat.eq_zero_or_pos k with rfl|hk0
      ·have hS:=UD (l:=es) (by rw[HN.out];exact hlt)
       generalize es.getD 0 aQ.zero=e at*
       simp only[Nat.zero_mul,Nat.add_zero]at q0 q1 q2 q3
       have k0:=fun s=>(hK1 s).cell' q0 id
       have k1:=fun s=>(hK1 s).cell' q1 id
       have k2:=fun s=>(hK1 s).cell' q2 id
       have k3:=fun s=>(hK1 s).cell' q3 id
       clear q0 q1 q2 q3
       cases he:iW e with
       |false=>
        rw[he]at hS
        have HS:=ah hS;clear hS
        go_wp2_with fail
        refine dX K (by kernel_rfl) (by kernel_rfl) hK0 ?_
        repeat(go_big_quiet_step ((first|(go_at_call 120;exact Calls.bT hK2 (Gj e hsz _))|(go_at_call 51;exact Calls.bT hK2 (zQ _ _ _ _ _)))))
        refine wpQuiet_nil ?_
        intro w' hw'
        obtain⟨s,rfl⟩:=hw'
        have hfs:=hK1 s
        go_wp2
        go_ret
        exact⟨dF (by rw[bM,uQ HS.out];simp),eu.out.aH (HW.out.aH hfs)⟩
       |true=>
        rw[he]at hS
        have HS:=ah hS;clear hS
        go_wp2_with fail
        refine dX K (by kernel_rfl) (by kernel_rfl) hK0 ?_
        repeat(go_big_quiet_step ((first|(go_at_call 120;exact Calls.bT hK2 (Gj e hsz _))|(go_at_call 51;exact Calls.bT hK2 (zQ _ _ _ _ _)))))
        refine wpQuiet_nil ?_
        intro w' hw'
        obtain⟨s,rfl⟩:=hw'
        have hfs:=hK1 s
        go_wp2
        go_roundw
        case rel=>exact⟨0+1,by omega,by go_num,HS.out,HW.out.aH hfs⟩
        case measure=>simp[intOf];omega
      ·obtain⟨j,rfl⟩:∃j,k=j+1:=⟨k-1,by omega⟩
       have her:=HT.out.ents.rd.aS (eu.out.aH HW.out)
       rw[HN.out]at her
       obtain⟨p0,p1,-,-⟩:=ug her j (by rw[HN.out];omega)
       clear her
       have hS:=UE (l:=es) (j:=j) (by rw[HN.out];exact hlt) HR.out
       generalize es.getD (j+1) aQ.zero=e at*
       generalize es.getD j aQ.zero=pe at*
       have k0:=fun s=>(hK1 s).cell' q0 id
       have k1:=fun s=>(hK1 s).cell' q1 id
       have k2:=fun s=>(hK1 s).cell' q2 id
       have k3:=fun s=>(hK1 s).cell' q3 id
       have k4:=fun s=>(hK1 s).cell' p0 id
       have k5:=fun s=>(hK1 s).cell' p1 id
       clear q0 q1 q2 q3 p0 p1
       cases he:iW e with
       |false=>
        rw[he,Bool.false_and]at hS
        have HS:=ah hS;clear hS
        go_wp2_with fail
        refine dX K (by kernel_rfl) (by kernel_rfl) hK0 ?_
        repeat(go_big_quiet_step ((first|(go_at_call 120;exact Calls.bT hK2 (Gj e hsz _))|(go_at_call 51;exact Calls.bT hK2 (zQ _ _ _ _ _)))))
        refine wpQuiet_nil ?_
        intro w' hw'
        obtain⟨s,rfl⟩:=hw'
        have hfs:=hK1 s
        go_wp2
        go_ret
        exact⟨dF (by rw[bM,uQ HS.out];simp),eu.out.aH (HW.out.aH hfs)⟩
       |true=>
        rw[he,Bool.true_and]at hS
        cases hl:qE pe.dc pe.n e.dc e.n with
        |false=>
         rw[hl]at hS
         have HS:=ah hS;clear hS
         go_wp2_with fail
         refine dX K (by kernel_rfl) (by kernel_rfl) hK0 ?_
         repeat(go_big_quiet_step ((first|(go_at_call 120;exact Calls.bT hK2 (Gj e hsz _))|(go_at_call 51;exact Calls.bT hK2 (zQ _ _ _ _ _)))))
         refine wpQuiet_nil ?_
         intro w' hw'
         obtain⟨s,rfl⟩:=hw'
         have hfs:=hK1 s
         go_wp2
         go_ret
         exact⟨dF (by rw[bM,uQ HS.out];simp),eu.out.aH (HW.out.aH hfs)⟩
        |true=>
         rw[hl]at hS
         have HS:=ah hS;clear hS
         go_wp2_with fail
         refine dX K (by kernel_rfl) (by kernel_rfl) hK0 ?_
         repeat(go_big_quiet_step ((first|(go_at_call 120;exact Calls.bT hK2 (Gj e hsz _))|(go_at_call 51;exact Calls.bT hK2 (zQ _ _ _ _ _)))))
         refine wpQuiet_nil ?_
         intro w' hw'
         obtain⟨s,rfl⟩:=hw'
         have hfs:=hK1 s
         go_wp2
         go_roundw
         case rel=>exact⟨j+1+1,by omega,by go_num,HS.out,HW.out.aH hfs⟩
         case measure=>simp[intOf];omega
    ·obtain rfl:n=k:=by omega
     rw[List.take_of_length_le (by rw[HN.out];exact Nat.le_refl _)]at HR
     have b1:=HW.out.cell' B1.out id
     go_wp2
     go_loopw [48] (fun i ww=>∃(k:Nat) (p:Option ByteArray),k≤m∧i= .int .i64 k∧UH ks k p∧jh ks d none=jh (ks.drop k) d p∧aj aF (w.alloc (.cells #[.slice ae n ce, .slice ak m ck] 28)) ww) (fun i _=>m-(intOf i).toNat)
     case atStart=>exact⟨0,none,Nat.zero_le _,rfl, .inl ⟨rfl,rfl⟩,rfl,HW.out⟩
     case round=>
      clear b0 b1
      obtain⟨k,p,hk,rfl,hp,hr,hw⟩:=hrel
      have fO:=ah hw;clear hw
      have HP:=ah hp;clear hp
      have b1:=fO.out.cell' B1.out id
      by_cases hlt:k<m
      ·obtain⟨key,es',sub,rest,hdr⟩:=aT.uf (n:=k) (ks:=ks) (by rw[HM.out];exact hlt)
       have hmm:(m:Int)≤9223372036854775807:=by have:=iZ.out;omega
       rcases Rd.shape (iT.out.aS (eu.out.aH fO.out))with⟨ad,he,h0⟩|⟨b,off,cc,he,hmax⟩
       ·exfalso;have:=HM.out;omega
       ·injection he with e1 e2 e3
        subst e1 e3
        clear e2 hmax
        obtain⟨ev',kv',c0,c1,c2,hta⟩:=rD (iT.out.aS (eu.out.aH fO.out)) (nR.out.aS (eu.out.aH fO.out)) hdr
        obtain⟨gZ,g_,rfl⟩:=hta.ents.rd.sl
        obtain⟨os',ji,nC⟩:=hta.kids
        obtain⟨h_,ig,rfl⟩:=ji.rd.sl
        clear ji nC
        have hok':=fH.out.ks.drop k
        rw[hdr]at hok'
        have hkz:=hok'.1
        have hsub:lF es' sub:=⟨hok'.2.1,hok'.2.2.1,hok'.2.2.2.1⟩
        have l1:((es'.length:Nat):Int)≤140737488351232:=by have:=hsub.es.len;omega
        have l2:((sub.len:Nat):Int)≤140737488351232:=by have:=hsub.len;omega
        have DR:=ah hsub;clear hsub hok'
        have i_:=ah (xJ k hdr)
        rw[UG hdr]at hr
        have HDR:=ah hdr;clear hdr
        have hbf:aj aF wr (wr.alloc (.cells #[.string key, .slice gZ es'.length g_, .slice h_ sub.len ig] 52)):=aj.alloc _ _ _
        have n0:(wr.alloc (.cells #[.string key, .slice gZ es'.length g_, .slice h_ sub.len ig] 52)).cell? ⟨wr.heap.size,0,none⟩=some (.string key):=aG (heap_alloc_new wr _) 0 rfl
        have n1:(wr.alloc (.cells #[.string key, .slice gZ es'.length g_, .slice h_ sub.len ig] 52)).cell? ⟨wr.heap.size,1,none⟩=some (.slice gZ es'.length g_):=aG (heap_alloc_new wr _) 1 rfl
        have n2:(wr.alloc (.cells #[.string key, .slice gZ es'.length g_, .slice h_ sub.len ig] 52)).cell? ⟨wr.heap.size,2,none⟩=some (.slice h_ sub.len ig):=aG (heap_alloc_new wr _) 2 rfl
        have kF:=ah (hta.aS hbf);clear hta
        have BH:=fO;clear fO
        have fO:=ah (BH.out.aH hbf)
        have kk:∀j pU es0 yO yP,ks.drop j= .cons pU es0 yO yP→wr.cell? ⟨b,off+j*3,none⟩=some (.string pU):=fun j pU es0 yO yP h=>by
         obtain⟨_,_,h0,_⟩:=rD (iT.out.aS (eu.out.aH BH.out)) (nR.out.aS (eu.out.aH BH.out)) h
         exact h0
        have KK:=ah kk;clear kk
        have HIH:=ah (fun w' (h:aj aF (wr.alloc (.cells #[.string key, .slice gZ es'.length g_, .slice h_ sub.len ig] 52)) w')=>IH.out es' sub d w' _ _ (by have:=i_.out;have:=iC.out;omega) (kF.out.aS h) DR.out (by have:=HD.out;omega))
        have hnil:=aa' es' sub
        generalize es'.length=n' at*
        generalize sub.len=m' at*
        obtain⟨α,hne,K,hK3,hK0,hK2⟩:=worlds (wr.alloc (.cells #[.string key, .slice gZ n' g_, .slice h_ m' ig] 52))
        have hK1:=hK3
        have kb1:=fun s=>(hK1 s).cell' (hbf.cell' b1 id) id
        have kn0:=fun s=>(hK1 s).cell' n0 id
        have kn1:=fun s=>(hK1 s).cell' n1 id
        have kn2:=fun s=>(hK1 s).cell' n2 id
        clear n0 n1 n2
        have hge:=UF
        rcases HP.out with⟨rfl,rfl⟩|⟨j,pU,es0,yO,yP,rfl,hdj,rfl⟩
        ·simp only[Nat.zero_mul,Nat.add_zero]at c0 c1 c2
         cases g1:oN key with
         |false=>
          rw[g1]at hr
          simp only[Bool.false_and]at hr
          have hst:bM (d+1) es ks=false:=by rw[bM,Nat.add_sub_cancel,hr];simp
          have HST:=ah hst;clear hst hr
          go_wp2_with fail
          refine dX K (by kernel_rfl) (by kernel_rfl) hK0 ?_
          repeat(go_big_quiet_step ((first|(go_at_call 121;exact Calls.bT hK2 (Calls.oP (yI key _ hkz)))|(go_at_call 84;exact Calls.bT hK2 (HIH.out _ (hK3 _))))))
          refine wpQuiet_nil ?_
          intro w' hw'
          obtain⟨s,rfl⟩:=hw'
          have hfs:=hK1 s
          go_wp2
          go_ret
          exact⟨dF HST.out.symm,eu.out.aH (fO.out.aH hfs)⟩
         |true=>
          cases g3:isNil es' sub with
          |true=>
           rw[g1,g3]at hr
           rw[g3]at hnil
           simp only[Bool.not_true,Bool.and_false,Bool.false_and]at hr
           have hst:bM (d+1) es ks=false:=by rw[bM,Nat.add_sub_cancel,hr];simp
           have HST:=ah hst;clear hst hr
           go_wp2_with fail
           refine dX K (by kernel_rfl) (by kernel_rfl) hK0 ?_
           repeat(go_big_quiet_step ((first|(go_at_call 121;exact Calls.bT hK2 (Calls.oP (yI key _ hkz)))|(go_at_call 84;exact Calls.bT hK2 (HIH.out _ (hK3 _))))))
           refine wpQuiet_nil ?_
           intro w' hw'
           obtain⟨s,rfl⟩:=hw'
           have hfs:=hK1 s
           go_wp2
           go_ret
           exact⟨dF HST.out.symm,eu.out.aH (fO.out.aH hfs)⟩
          |false=>
           rw[g3]at hnil
           cases g4:bM d es' sub with
           |false=>
            rw[g1,g3,g4]at hr
            rw[g4]at HIH
            simp only[Bool.and_false,Bool.false_and]at hr
            have hst:bM (d+1) es ks=false:=by rw[bM,Nat.add_sub_cancel,hr];simp
            have HST:=ah hst;clear hst hr
            go_wp2_with fail
            refine dX K (by kernel_rfl) (by kernel_rfl) hK0 ?_
            repeat(go_big_quiet_step ((first|(go_at_call 121;exact Calls.bT hK2 (Calls.oP (yI key _ hkz)))|(go_at_call 84;exact Calls.bT hK2 (HIH.out _ (hK3 _))))))
            refine wpQuiet_nil ?_
            intro w' hw'
            obtain⟨s,rfl⟩:=hw'
            have hfs:=hK1 s
            go_wp2
            go_ret
            exact⟨dF HST.out.symm,eu.out.aH (fO.out.aH hfs)⟩
           |true=>
            rw[g1,g3,g4]at hr
            rw[g4]at HIH
            simp only[ltK,Bool.not_false,Bool.and_true,Bool.true_and]at hr
            have HST:=ah hr;clear hr
            go_wp2_with fail
            refine dX K (by kernel_rfl) (by kernel_rfl) hK0 ?_
            repeat(go_big_quiet_step ((first|(go_at_call 121;exact Calls.bT hK2 (Calls.oP (yI key _ hkz)))|(go_at_call 84;exact Calls.bT hK2 (HIH.out _ (hK3 _))))))
            refine wpQuiet_nil ?_
            intro w' hw'
            obtain⟨s,rfl⟩:=hw'
            have hfs:=hK1 s
            go_wp2
            go_roundw
            case rel=>exact⟨0+1,some key,by omega,by go_num, .inr ⟨0,key,es',sub,rest,rfl,HDR.out,rfl⟩,HST.out,fO.out.aH hfs⟩
            case measure=>simp[intOf];omega
        ·have pk:=KK.out j pU es0 yO yP hdj
         clear hdj
         have kpk:=(fun s=>(hK1 s).cell' (hbf.cell' pk id) id)
         clear pk
         cases g1:oN key with
         |false=>
          rw[g1]at hr
          simp only[Bool.false_and]at hr
          have hst:bM (d+1) es ks=false:=by rw[bM,Nat.add_sub_cancel,hr];simp
          have HST:=ah hst;clear hst hr
          go_wp2_with fail
          refine dX K (by kernel_rfl) (by kernel_rfl) hK0 ?_
          repeat(go_big_quiet_step ((first|(go_at_call 121;exact Calls.bT hK2 (Calls.oP (yI key _ hkz)))|(go_at_call 84;exact Calls.bT hK2 (HIH.out _ (hK3 _))))))
          refine wpQuiet_nil ?_
          intro w' hw'
          obtain⟨s,rfl⟩:=hw'
          have hfs:=hK1 s
          go_wp2
          go_ret
          exact⟨dF HST.out.symm,eu.out.aH (fO.out.aH hfs)⟩
         |true=>
          cases g2:Op.bytesLess pU.toList key.toList with
          |false=>
           rw[show ltK (some pU) key=false from g2]at hr
           simp only[Bool.and_false,Bool.false_and]at hr
           have hst:bM (d+1) es ks=false:=by rw[bM,Nat.add_sub_cancel,hr];simp
           have HST:=ah hst;clear hst hr
           go_wp2_with fail
           refine dX K (by kernel_rfl) (by kernel_rfl) hK0 ?_
           repeat(go_big_quiet_step ((first|(go_at_call 121;exact Calls.bT hK2 (Calls.oP (yI key _ hkz)))|(go_at_call 84;exact Calls.bT hK2 (HIH.out _ (hK3 _))))))
           refine wpQuiet_nil ?_
           intro w' hw'
           obtain⟨s,rfl⟩:=hw'
           have hfs:=hK1 s
           go_wp2
           go_ret
           exact⟨dF HST.out.symm,eu.out.aH (fO.out.aH hfs)⟩
          |true=>
           cases g3:isNil es' sub with
           |true=>
            rw[g3]at hr
            rw[g3]at hnil
            simp only[Bool.not_true,Bool.and_false,Bool.false_and]at hr
            have hst:bM (d+1) es ks=false:=by rw[bM,Nat.add_sub_cancel,hr];simp
            have HST:=ah hst;clear hst hr
            go_wp2_with fail
            refine dX K (by kernel_rfl) (by kernel_rfl) hK0 ?_
            repeat(go_big_quiet_step ((first|(go_at_call 121;exact Calls.bT hK2 (Calls.oP (yI key _ hkz)))|(go_at_call 84;exact Calls.bT hK2 (HIH.out _ (hK3 _))))))
            refine wpQuiet_nil ?_
            intro w' hw'
            obtain⟨s,rfl⟩:=hw'
            have hfs:=hK1 s
            go_wp2
            go_ret
            exact⟨dF HST.out.symm,eu.out.aH (fO.out.aH hfs)⟩
           |false=>
            rw[g3]at hnil
            cases g4:bM d es' sub with
            |false=>
             rw[g4]at hr
             rw[g4]at HIH
             simp only[Bool.and_false,Bool.false_and]at hr
             have hst:bM (d+1) es ks=false:=by rw[bM,Nat.add_sub_cancel,hr];simp
             have HST:=ah hst;clear hst hr
             go_wp2_with fail
             refine dX K (by kernel_rfl) (by kernel_rfl) hK0 ?_
             repeat(go_big_quiet_step ((first|(go_at_call 121;exact Calls.bT hK2 (Calls.oP (yI key _ hkz)))|(go_at_call 84;exact Calls.bT hK2 (HIH.out _ (hK3 _))))))
             refine wpQuiet_nil ?_
             intro w' hw'
             obtain⟨s,rfl⟩:=hw'
             have hfs:=hK1 s
             go_wp2
             go_ret
             exact⟨dF HST.out.symm,eu.out.aH (fO.out.aH hfs)⟩
            |true=>
             rw[g1,g3,g4,show ltK (some pU) key=true from g2]at hr
             rw[g4]at HIH
             simp only[Bool.not_false,Bool.and_true,Bool.true_and]at hr
             have HST:=ah hr;clear hr
             go_wp2_with fail
             refine dX K (by kernel_rfl) (by kernel_rfl) hK0 ?_
             repeat(go_big_quiet_step ((first|(go_at_call 121;exact Calls.bT hK2 (Calls.oP (yI key _ hkz)))|(go_at_call 84;exact Calls.bT hK2 (HIH.out _ (hK3 _))))))
             refine wpQuiet_nil ?_
             intro w' hw'
             obtain⟨s,rfl⟩:=hw'
             have hfs:=hK1 s
             go_wp2
             go_roundw
             case rel=>exact⟨(j+1)+1,some key,by omega,by go_num, .inr ⟨(j+1),key,es',sub,rest,rfl,HDR.out,rfl⟩,HST.out,fO.out.aH hfs⟩
             case measure=>simp[intOf];omega
      ·obtain rfl:m=k:=by omega
       rw[aT.uP (by rw[HM.out];exact Nat.le_refl _)]at hr
       have HRR:=ah hr;clear hr
       go_wp2
       go_ret
       exact⟨dF (by rw[bM,HR.out,Nat.add_sub_cancel,HRR.out];simp[jh]),eu.out.aH fO.out⟩
open Go.RowKit
structure iH (N:Nat→Prop) (w0 w:World) (e:TypeId) (size:Nat) (v:Value) (n:Nat) (xs:List Value):Prop where
 at_:OwnAt w0 w e size v n xs
 but:∀k,v.ownBlock=some k→¬N k
theorem OwnAt.lt {w0 w:World} {e:TypeId} {size:Nat} {v:Value} {n:Nat} {xs:List Value} (h:OwnAt w0 w e size v n xs):∀k,v.ownBlock=some k→k<w.heap.size:=fun k hk=>by
 rcases h.own.2 with⟨rfl,_⟩|⟨g,cap,cur,rfl,_,hg,_⟩
 ·simp[Value.ownBlock]at hk
 ·simp[Value.ownBlock]at hk
  subst hk
  exact lt_of_block hg
theorem OwnAt.away {N:Nat→Prop} {w0 w w':World} {e:TypeId} {size:Nat} {v:Value} {n:Nat} {xs:List Value} (h:OwnAt w0 w e size v n xs) (f:aj aF w w') (hN:∀k,N k→w.heap.size≤k):iH N w0 w' e size v n xs:=
 ⟨h.keep f,fun k hk hn=>by have:=h.lt k hk;have:=hN k hn;omega⟩
theorem iH.nil {N:Nat→Prop} {w0 w:World} (f:aj aF w0 w) (e:TypeId) (size:Nat):iH N w0 w e size (.slice none 0 0) 0 []:=⟨OwnAt.nil f e size,fun k hk=>by simp[Value.ownBlock]at hk⟩
theorem iH.keep {N:Nat→Prop} {w0 w w':World} {e:TypeId} {size:Nat} {v:Value} {n:Nat} {xs:List Value} (h:iH N w0 w e size v n xs) (f:aj aF w w'):iH N w0 w' e size v n xs:=⟨h.at_.keep f,h.but⟩
theorem iH.box {N:Nat→Prop} {w0 w:World} {e:TypeId} {size:Nat} {v:Value} {n:Nat} {xs:List Value} (h:iH N w0 w e size v n xs) (o:Obj):iH (fun k=>N k∨k=w.heap.size) w0 (w.alloc o) e size v n xs:=
 ⟨h.at_.keep (aj.alloc _ _ _),fun k hk hn=>by
   rcases hn with hn|hn
   ·exact h.but k hk hn
   ·have:=h.at_.lt k hk;omega⟩
theorem iH.mono {N M:Nat→Prop} {w0 w:World} {e:TypeId} {size:Nat} {v:Value} {n:Nat} {xs:List Value} (h:iH N w0 w e size v n xs) (hs:∀k,M k→N k):iH M w0 w e size v n xs:=⟨h.at_,fun k hk hm=>h.but k hk (hs k hm)⟩
theorem iH.set {N:Nat→Prop} {w0 w:World} {e:TypeId} {size:Nat} {v:Value} {n:Nat} {xs:List Value} (h:iH N w0 w e size v n xs) {p:Addr} (hp:N p.block) (hn:w0.heap.size≤p.block) (u:Value):iH N w0 (w.setCell p u) e size v n xs:=
 ⟨⟨(aj.setCell (S:=fun k=>k=p.block) w (.inl rfl) u).owns h.at_.own (fun k hk he=>h.but k hk (by have he:k=p.block:=he;rw[he];exact hp)),h.at_.new,h.at_.aI.set1 (.inr hn)⟩,h.but⟩
def uS (N:Nat→Prop) (w w':World):Prop:=w.heap.size≤w'.heap.size∧∀b,N b→w'.heap[b]?=w.heap[b]?
theorem uS.cell {N:Nat→Prop} {w w':World} (h:uS N w w') {p:Addr} {u:Value} (hp:N p.block) (hu:w.cell? p=some u):w'.cell? p=some u:=
 (World.cell?_of_block (w:=w) (h.2 p.block hp)).trans hu
theorem uS.frozen {N:Nat→Prop} {w w':World} (h:uS N w w') {p:Addr} (hp:N p.block) {b:Bool} (hu:w.frozen? p=b):w'.frozen? p=b:=
 (World.frozen?_of_block (w:=w) (h.2 p.block hp)).trans hu
theorem uS.blk {N:Nat→Prop} {w w':World} (h:uS N w w') {b:Nat} {o:Obj} (hp:N b) (hu:w.heap[b]?=some o):w'.heap[b]?=some o:=(h.2 b hp).trans hu
theorem iH.step {N:Nat→Prop} {w0 w w':World} {e e':TypeId} {size size':Nat} {v v':Value} {n n':Nat} {xs xs':List Value} (h:iH N w0 w e size v n xs) (hN:∀k,N k→k<w.heap.size)
 (own:w'.ownsRow 0 e' size' v' n' xs') (fm:aj (eG v) w w') (fr:lN w v v'):iH N w0 w' e' size' v' n' xs'∧uS N w w':=
 ⟨⟨h.at_.step own fm fr,fun k hk hn=>by
   rcases fr k hk with h1|h1
   ·exact h.but k h1 hn
   ·have:=hN k hn;omega⟩,fm.size,fun b hb=>fm.block b (hN b hb) fun hs=>h.but b hs hb⟩
section
variable {P:Program}
theorem UK {ops:Array Oper} {rest:List Oper} {o:Oper} {a:Act} {Q:Exit→Act→World→Prop} (N:Nat→Prop) (w0 w:World) (news:List Value) (hgd:o.guard=none) (s x:Operand) (t:TypeId)
 (ho:o.op= .call {callee:= .builtin .append,args:= #[s,x],argTypes:= #[t,t]})
 (e:TypeId) (i:TypeInfo) (z:Value) (size bytes:Nat) (ht:P.underlying t=some (.slice e)) (hi:P.info? e=some i) (hz:i.zero=some z)
 (hsize:i.size=size) (hby:i.bytes=bytes) (hzs:z.cells.size=size) (hsz:0<size)
 (v:Value) (n:Nat) (xs:List Value) (hown:iH N w0 w e size v n xs) (hN:∀k,N k→k<w.heap.size) (m c:Nat) (hv:a.eval s=v) (hx:a.eval x= .slice (some ⟨w.heap.size,0,none⟩) m c)
 (hnl:news.length=m*size) (h1:∀u∈news,u.oneCell'=true) (h63:n+m≤maxLen) (hbytes:(n+m)*bytes≤140737488355328)
 (h:∀ad c w',iH N w0 w' e size (.slice ad (n+m) c) (n+m) (xs++news)→uS N w w'→wpList P ops Q rest (a.put o.dst (.slice ad (n+m) c)) w'):
 wpList P ops Q (o::rest) a (w.alloc (.cells news.toArray e)):=
 zM w news hgd s x t ho e i z size bytes ht hi hz hsize hby hzs hsz v n xs hown.at_.own m c hv hx hnl h1 h63 hbytes fun ad c' w' g1 g2 g3=>h ad c' w' (hown.step hN g1 g2 g3).1 (hown.step hN g1 g2 g3).2
end
open Go.RowKit
theorem UL:(Tryz.prog.info? 98).map (fun i=>(i.zero,i.size,i.bytes))=some (some (.agg #[.int .i64 0, .int .i64 0]),2,16):=by kernel_rfl
theorem abk {l:List aQ} {k:Nat} (hk:k<l.length):pR (l.take (k+1))=pR (l.take k)++ [((l.getD k aQ.zero).dc,(l.getD k aQ.zero).n)]:=by
 rw[take_succ aQ.zero hk];simp[pR]
theorem UM {ks:aT} {n:Nat} {key:ByteArray} {es:List aQ} {sub rest:aT} (h:ks.drop n= .cons key es sub rest):kQ (ks.drop n)=iY es sub++kQ (ks.drop (n+1)):=by
 rw[h,aT.yN n ks h];rfl
theorem yQ:∀(n:Nat) {ks:aT} {key:ByteArray} {es:List aQ} {sub rest:aT},ks.drop n= .cons key es sub rest→sizeT es sub≤dM ks
 |0, .cons _ _ _ _,_,_,_,_,h=>by
  cases h
  simp only[dM,sizeT]
  omega
 |0, .nil,_,_,_,_,h=>by cases h
 |n+1, .nil,_,_,_,_,h=>by cases h
 |n+1, .cons _ _ _ r,_,_,_,_,h=>by
  have h1:r.drop n=_:=h
  have:=yQ n h1
  simp only[dM]
  omega
theorem oQ:∀ks:aT,ks.len≤dM ks
 | .nil=>Nat.le_refl _
 | .cons _ _ _ r=>by have:=oQ r;simp only[aT.len,dM];omega
theorem abl (Q:Nat→Prop):∀(N:Nat) (es:List aQ) (ks:aT) (w:World) (ev kv:Value),dM ks<N→bZ Q w ev kv es ks→sizeT es ks≤100000→
 Calls Tryz.prog 91 #[.agg #[ev,kv]] w fun e w'=>∃v',e= .returned v'∧OwnAt w w' 98 2 v' (iY es ks).length (fD (iY es ks)):=by
 intro N
 induction N with
 |zero=>intros;exfalso;omega
 |succ N jH=>
  intro es ks w ev kv hN ht hsz
  obtain⟨i0,hi,hz0,hz1,hz2⟩:=info_parts UL
  obtain⟨ae,ce,rfl⟩:=ht.ents.rd.sl
  obtain⟨os,hkr,gY⟩:=ht.kids
  obtain⟨ak,ck,rfl⟩:=hkr.rd.sl
  have HE:=ah ht.ents.rd
  have iT:=ah hkr.rd;clear hkr ht
  have nR:=ah gY;clear gY
  have IH:=ah jH;clear jH
  have eu:=ah (aj.alloc aF w (.cells #[.slice ae es.length ce, .slice ak ks.len ck] 28))
  have box0:(w.alloc (.cells #[.slice ae es.length ce, .slice ak ks.len ck] 28)).cell? ⟨w.heap.size,0,none⟩=some (.slice ae es.length ce):=aG (heap_alloc_new w _) 0 rfl
  have box1:(w.alloc (.cells #[.slice ae es.length ce, .slice ak ks.len ck] 28)).cell? ⟨w.heap.size,1,none⟩=some (.slice ak ks.len ck):=aG (heap_alloc_new w _) 1 rfl
  have B0:=ah box0;clear box0
  have B1:=ah box1;clear box1
  have oU:=ah (Nat.le_trans (JH es ks) hsz)
  have vV:es.length≤100000:=by unfold sizeT at hsz;omega
  have Gl:ks.len≤100000:=by have:=oQ ks;unfold sizeT at hsz;omega
  have iC:=ah hsz;clear hsz
  have uh:=ah hN;clear hN
  generalize hes:es.length=n at*
  have HN:=ah hes;clear hes
  generalize hkl:ks.len=m at*
  have HM:=ah hkl;clear hkl
  go_enter Tryz.func91,Tryz.ntmps91
  go_wp2_with fail
  have b0:=B0.out
  go_wp2
  clear b0
  go_loopw [3,11] (fun v i ww=>∃k:Nat,k≤n∧i= .int .i64 k∧OwnAt (w.alloc (.cells #[.slice ae n ce, .slice ak m ck] 28)) ww 98 2 v k (fD (pR (es.take k)))) (fun _ i _=>n-(intOf i).toNat)
  case atStart=>exact⟨0,Nat.zero_le _,rfl,OwnAt.nil (aj.refl _ _) _ _⟩
  case round=>
   obtain⟨k,hk,rfl,ho⟩:=hrel
   obtain⟨av,cv,rfl⟩:=ho.shape
   have HO:=ah ho;clear ho
   by_cases hlt:k<n
   ·rcases Rd.shape HE.out with⟨ad,he,h0⟩|⟨b,off,cc,he,hmax⟩
    ·exfalso;have:=HN.out;omega
    ·injection he with e1 e2 e3
     subst e1 e3
     clear e2
     have hlk:k<es.length:=by rw[HN.out];exact hlt
     obtain⟨p0,p1,p2,p3⟩:=ug HE.out k hlk
     have f2:=eu.out.aH HO.out.aI
     have q0:=f2.cell' p0 id
     have q1:=f2.cell' p1 id
     have q2:=f2.cell' p2 id
     have q3:=f2.cell' p3 id
     clear p0 p1 p2 p3 f2
     have hE:=abk hlk
     generalize es.getD k aQ.zero=e at*
     have yR:=ah hE;clear hE
     go_wp2_with(at_builtin;refine kT _ _ [.int .i64 e.dc, .int .i64 e.n] rfl (.tmp 15) (.tmp 18) 138 rfl 98 i0 _ 2 16 Tryz.underlying138 hi hz0 hz1 hz2 (by decide) (by decide) _ _ _ (HO.out.keep (aj.alloc _ _ _)) 1 1 rfl (by simp[Act.eval]) rfl (by simp[Value.oneCell']) (by simp only[maxLen];omega) (by omega) ?_;intro BI lg w2 bP;have OW:=ah bP;clear bP)
     go_roundw
     case rel=>exact⟨k+1,by omega,by go_num,by rw[yR.out,oO];exact OW.out⟩
     case measure=>simp[intOf];omega
   ·obtain rfl:n=k:=by omega
    rw[List.take_of_length_le (by rw[HN.out];exact Nat.le_refl _)]at HO
    have b1:=HO.out.aI.cell' B1.out id
    go_wp2
    clear b1
    go_loopw [3,24] (fun v i ww=>∃(k:Nat) (out:aZ),k≤m∧i= .int .i64 k∧OwnAt (w.alloc (.cells #[.slice ae n ce, .slice ak m ck] 28)) ww 98 2 v out.length (fD out)∧iY es ks=out++kQ (ks.drop k)) (fun _ i _=>m-(intOf i).toNat)
    case atStart=>exact⟨0,pR es,Nat.zero_le _,rfl,by rw[Ob,HN.out];exact HO.out,rfl⟩
    case round=>
     obtain⟨k,out,hk,rfl,ho,hd⟩:=hrel
     obtain⟨av,cv,rfl⟩:=ho.shape
     have fH:=ah ho;clear ho
     have HD:=ah hd;clear hd
     by_cases hlt:k<m
     ·obtain⟨key,es',sub,rest,hdr⟩:=aT.uf (n:=k) (ks:=ks) (by rw[HM.out];exact hlt)
      rcases Rd.shape iT.out with⟨ad,he,h0⟩|⟨b,off,cc,he,hmax⟩
      ·exfalso;have:=HM.out;omega
      ·injection he with e1 e2 e3
       subst e1 e3
       clear e2
       have f2:=eu.out.aH fH.out.aI
       obtain⟨ev',kv',c0,c1,c2,hta⟩:=rD (iT.out.aS f2) (nR.out.aS f2) hdr
       obtain⟨gZ,g_,rfl⟩:=hta.ents.rd.sl
       obtain⟨os',ji,nC⟩:=hta.kids
       obtain⟨h_,ig,rfl⟩:=ji.rd.sl
       clear ji nC f2
       have uT:=ah (UM hdr)
       have i_:=ah (xJ k hdr)
       have HST:=ah (yQ k hdr)
       have kF:=ah hta;clear hta
       have HIH:=ah (fun w' (h:aj aF wr w')=>IH.out es' sub w' _ _ (by have:=i_.out;have:=uh.out;omega) (kF.out.aS h) (by have:=HST.out;have:=iC.out;unfold sizeT at*;omega))
       have hlen:out.length+(iY es' sub).length≤100000:=by
        have h1:=oU.out
        rw[HD.out,uT.out,List.length_append,List.length_append]at h1
        omega
       have HLEN:=ah hlen;clear hlen
       clear hdr
       generalize es'.length=n' at*
       generalize sub.len=m' at*
       go_wp2_with(first
        |(go_at_call 91;refine(HIH.out _ (aj.alloc _ _ _)).mono ?_;rintro e w3 ⟨v3,rfl,ho3⟩;obtain⟨a3,c3,rfl⟩:=ho3.shape;have dw:=ah ho3;clear ho3;have HKK:=ah (fH.out.keep ((aj.alloc aF _ _).aH dw.out.aI)))
        |(at_builtin;refine rC _ _ _ rfl (.tmp 28) (.tmp 31) 138 138 rfl 98 98 i0 _ 2 16 Tryz.underlying138 Tryz.underlying138 hi hz0 hz1 hz2 (by decide) (by decide) _ _ _ HKK.out _ (iY es' sub).length rfl rfl dw.out.rd (by rw[xH]) (Ns _) (by have:=HLEN.out;simp only[maxLen];omega) (by have:=HLEN.out;omega) ?_;intro ad cc w5 dP;have OW:=ah dP;clear dP))
       go_roundw
       case rel=>exact⟨k+1,out++iY es' sub,by omega,by go_num,by rw[List.length_append,oO];exact OW.out,by rw[HD.out,uT.out,List.append_assoc]⟩
       case measure=>simp[intOf];omega
     ·obtain rfl:m=k:=by omega
      have hd:=HD.out
      rw[aT.uP (by rw[HM.out];exact Nat.le_refl _)]at hd
      have hd2:iY es ks=out:=by rw[hd];simp[kQ]
      have HD2:=ah hd2;clear hd2 hd
      go_wp2
      go_ret
      refine⟨_,rfl,?_⟩
      rw[HD2.out]
      exact fH.out.base eu.out
open Go.RowKit
theorem UN:(Tryz.prog.info? 100).map (fun i=>(i.zero,i.size,i.bytes))=some (some (.agg #[.int .i64 0, .int .i64 0, .string ByteArray.empty, .int .i64 0]),4,40):=by kernel_rfl
theorem OwnAt.empty {w0 w:World} (f:aj aF w0 w) (e:TypeId) (size:Nat):OwnAt w0 (w.alloc (.cells #[] e)) e size (.slice (some ⟨w.heap.size,0,none⟩) 0 0) 0 []:=
 ⟨⟨by simp, .inr ⟨w.heap.size,0, #[],rfl,Nat.zero_le _,heap_alloc_new w _,Nat.le_refl _,Nat.zero_le _,by simp,by simp⟩⟩,fun k hk=>by
   simp[Value.ownBlock]at hk
   have:=f.size
   omega,f.trans (aj.alloc _ _ _) fun _ _ h=>h⟩
theorem abm (w:World) (v:Value) (es:List aQ) (hv:Rd w v es.length (jy es)) (hl:es.length≤100000):
 Calls Tryz.prog 137 #[v] w fun e w'=>∃v',e= .returned v'∧OwnAt w w' 100 4 v' es.length (jy es):=by
 obtain⟨i0,hi,hz0,hz1,hz2⟩:=info_parts UN
 obtain⟨aA,cA,rfl⟩:=hv.sl
 have HH:=ah hv;clear hv
 generalize hn:es.length=n at*
 have HN:=ah hn;clear hn
 by_cases hnil:aA=none
 ·subst hnil
  rcases HH.out with⟨ad,he,h0,hx⟩|⟨b,off,cc,he,_⟩
  ·injection he with e1 e2 e3
   subst e1 e2 e3
   have hx0:jy es=[]:=hx
   rw[hx0]
   have hq:=Lib.run_eql_slice_nil (P:=Tryz.prog) w 25 100 none 0 0 0 0 Tryz.underlying25
   go_enter Tryz.func137,Tryz.ntmps137
   go_wp2
   go_ret
   exact⟨_,rfl,OwnAt.nil (aj.refl _ _) _ _⟩
  ·injection he with e1 e2 e3
   cases e1
 ·obtain⟨ad,rfl⟩:=Option.ne_none_iff_exists'.1 hnil
  clear hnil
  have hq:=Lib.run_eql_slice_nil (P:=Tryz.prog) w 25 100 (some ad) n cA 0 0 Tryz.underlying25
  go_enter Tryz.func137,Tryz.ntmps137
  go_wp2_with(at_builtin;refine rC w _ _ rfl (.tmp 5) (.tmp 6) 25 25 rfl 100 100 i0 _ 4 40 Tryz.underlying25 Tryz.underlying25 hi hz0 hz1 hz2 (by decide) (by decide) _ _ _ (OwnAt.empty (aj.refl _ _) 100 4) _ n rfl rfl (HH.out.aS (aj.alloc _ _ _)) (by rw[Uy,HN.out]) (aa_ _) (by simp only[maxLen];omega) (by omega) ?_;intro ad cc w5 dP;have OW:=ah dP;clear dP)
  go_ret
  exact⟨_,rfl,by have:=OW.out;simpa using this⟩
theorem Oe (w:World) (v:Value) (c:bD) (hv:je w v c) (hl:c.length≤100000):
 Calls Tryz.prog 46 #[v] w fun e w'=>∃v',e= .returned v'∧OwnAt w w' 92 3 v' c.length (dY c):=by
 obtain⟨i0,hi,hz0,hz1,hz2⟩:=info_parts Gg
 obtain⟨aA,cA,rfl⟩:=hv.sl
 have HH:=ah hv;clear hv
 generalize hn:c.length=n at*
 have HN:=ah hn;clear hn
 by_cases hnil:aA=none
 ·subst hnil
  rcases HH.out with⟨ad,he,h0,hx⟩|⟨b,off,cc,he,_⟩
  ·injection he with e1 e2 e3
   subst e1 e3
   have hx0:dY c=[]:=hx
   have hn0:n=0:=by rw[←HN.out];exact h0
   subst hn0
   rw[hx0]
   have hq:=Lib.run_eql_slice_nil (P:=Tryz.prog) w 30 92 none 0 0 0 0 Tryz.underlying30
   go_enter Tryz.func46,Tryz.ntmps46
   go_wp2
   go_ret
   exact⟨_,rfl,OwnAt.nil (aj.refl _ _) _ _⟩
  ·injection he with e1 e2 e3
   cases e1
 ·obtain⟨ad,rfl⟩:=Option.ne_none_iff_exists'.1 hnil
  clear hnil
  have hq:=Lib.run_eql_slice_nil (P:=Tryz.prog) w 30 92 (some ad) n cA 0 0 Tryz.underlying30
  go_enter Tryz.func46,Tryz.ntmps46
  go_wp2_with(at_builtin;refine rC w _ _ rfl (.tmp 5) (.tmp 6) 30 30 rfl 92 92 i0 _ 3 24 Tryz.underlying30 Tryz.underlying30 hi hz0 hz1 hz2 (by decide) (by decide) _ _ _ (OwnAt.empty (aj.refl _ _) 92 3) _ n rfl rfl (HN.out▸HH.out.aS (aj.alloc _ _ _)) (by rw[Jt,HN.out]) (Nu _) (by simp only[maxLen];omega) (by omega) ?_;intro ad cc w5 dP;have OW:=ah dP;clear dP)
  go_ret
  exact⟨_,rfl,by have:=OW.out;simpa using this⟩
open Go.RowKit
abbrev qJ:=List (Value×aQ)
def pV (l:qJ):List Value:=l.flatMap fun x=>x.1::x.2.cells
def sD (p:Value) (es:List aQ):qJ:=es.map fun e=>(p,e)
def rE (l:qJ):aZ:=l.map fun x=>(x.2.dc,x.2.n)
def xK (l:qJ):Prop:=∀x∈l,x.1.oneCell'=true
theorem JI (a b:qJ):pV (a++b)=pV a++pV b:=by simp[pV]
theorem UO (x:Value×aQ) (l:qJ):pV (x::l)=x.1:: .int .i64 x.2.dc:: .int .i64 x.2.n:: .string x.2.s:: .int .i64 x.2.k::pV l:=rfl
theorem JJ:∀l:qJ,(pV l).length=l.length*5
 |[]=>rfl
 |x::l=>by rw[UO];simp only[List.length_cons,JJ l];omega
theorem Og {l:qJ} (h:xK l):∀v∈pV l,v.oneCell'=true:=by
 intro v hv
 simp only[pV,List.mem_flatMap]at hv
 obtain⟨x,hx,hv⟩:=hv
 rcases List.mem_cons.1 hv with rfl|hv
 ·exact h x hx
 ·simp[aQ.cells]at hv
  rcases hv with rfl|rfl|rfl|rfl<;>rfl
theorem UQ:∀(l:qJ) (k:Nat),k<l.length→(pV l)[k*5+1]?=some (.int .i64 (l.getD k (.bool true,aQ.zero)).2.dc)∧(pV l)[k*5+2]?=some (.int .i64 (l.getD k (.bool true,aQ.zero)).2.n)
 |[],_,h=>by cases h
 |x::l,0,_=>⟨rfl,rfl⟩
 |x::l,k+1,h=>by
  obtain⟨h1,h2⟩:=UQ l k (by simpa using h)
  rw[UO,show(k+1)*5+1=(k*5+1)+1+1+1+1+1 by omega,show(k+1)*5+2=(k*5+2)+1+1+1+1+1 by omega]
  exact⟨h1,h2⟩
theorem abn {w:World} {b off c n:Nat} {l:qJ} (h:Rd w (.slice (some ⟨b,off,none⟩) n c) n (pV l)) (k:Nat) (hk:k<l.length):
 w.cell? ⟨b,off+k*5+1,none⟩=some (.int .i64 (l.getD k (.bool true,aQ.zero)).2.dc)∧w.cell? ⟨b,off+k*5+2,none⟩=some (.int .i64 (l.getD k (.bool true,aQ.zero)).2.n):=by
 obtain⟨h1,h2⟩:=UQ l k hk
 exact⟨h.cell (k*5+1) _ h1,h.cell (k*5+2) _ h2⟩
theorem abo {l:qJ} {k:Nat} (hk:k<l.length):rE (l.take (k+1))=rE (l.take k)++ [((l.getD k (.bool true,aQ.zero)).2.dc,(l.getD k (.bool true,aQ.zero)).2.n)]:=by
 rw[take_succ (.bool true,aQ.zero) hk];simp[rE]
theorem Oh (a b:qJ):rE (a++b)=rE a++rE b:=by simp[rE]
theorem yS (l:qJ):(rE l).length=l.length:=by simp[rE]
theorem abp (p:Value) (es:List aQ):rE (sD p es)=pR es:=by simp[rE,sD,pR]
theorem abq (p:Value) (es:List aQ):(sD p es).length=es.length:=by simp[sD]
theorem xK.sD {p:Value} (h:p.oneCell'=true) (es:List aQ):xK (sD p es):=fun x hx=>by
 obtain⟨e,_,rfl⟩:=List.mem_map.1 hx
 exact h
theorem xK.append {a b:qJ} (ha:xK a) (hb:xK b):xK (a++b):=fun x hx=>(List.mem_append.1 hx).elim (ha x) (hb x)
theorem abr {p:Value} {es:List aQ} {k:Nat} (hk:k<es.length):pV (sD p (es.take (k+1)))=pV (sD p (es.take k))++ [p, .int .i64 (es.getD k aQ.zero).dc, .int .i64 (es.getD k aQ.zero).n, .string (es.getD k aQ.zero).s, .int .i64 (es.getD k aQ.zero).k]:=by
 rw[take_succ aQ.zero hk,show sD p (es.take k++ [es.getD k aQ.zero])=sD p (es.take k)++ [(p,es.getD k aQ.zero)] by simp[sD],JI]
 rfl
def fA (l:List ByteArray):List Value:=l.map .string
theorem DT (a b:List ByteArray):fA (a++b)=fA a++fA b:=by simp[fA]
@[simp] theorem DU (l:List ByteArray):(fA l).length=l.length:=by simp[fA]
theorem DV (l:List ByteArray):∀v∈fA l,v.oneCell'=true:=by
 intro v hv
 simp only[fA,List.mem_map]at hv
 obtain⟨r,_,rfl⟩:=hv
 rfl
theorem DW:(Tryz.prog.info? 103).map (fun i=>(i.zero,i.size,i.bytes))=some (some (.agg #[.slice none 0 0, .int .i64 0, .int .i64 0, .string ByteArray.empty, .int .i64 0]),5,64):=by kernel_rfl
theorem UR:(Tryz.prog.info? 9).map (fun i=>(i.zero,i.size,i.bytes))=some (some (.string ByteArray.empty),1,16):=by kernel_rfl
end Go.Proofs.YtlhmbkjdfjoilaaGreat
namespace Go.Proofs.YtlhmbkjdfjoilaaGreat
section
variable {P:Program} {ops:Array Oper} {Q:Exit→Act→World→Prop} {md:Region.Mode} {S:World→Prop} {z:Nat}
def jk (P:Program) (md:Region.Mode) (ops:Array Oper) (Q:Exit→Act→World→Prop) (S:World→Prop) (z:Nat):Nat→Array Bool→Act→World→Prop
 |0,listed,a,w=>Region.ready md ops listed=[]∧Q .normal a w
 |fuel+1,listed,a,w=>
  (Region.ready md ops listed=[]→Q .normal a w)∧
  ∀i∈Region.ready md ops listed,wpOp P ops Q i (fun a' w'=>(i=z∨S w')∧jk P md ops Q S z fuel (listed.setIfInBounds i true) a' w') a w
theorem UU:∀(fuel:Nat) (listed:Array Bool) (a:Act) (w:World),jk P md ops Q S z fuel listed a w→wpAny P md ops Q fuel listed a w
 |0,_,_,_,h=>h
 |fuel+1,_,_,_,h=>⟨h.1,fun i hi=>wpOp_mono (fun a' w' h'=>UU fuel _ a' w' h'.2) (h.2 i hi)⟩
def lastB (md:Region.Mode) (ops:Array Oper) (z:Nat):Bool:=(List.range ops.size).all fun i=>i==z||(match ops[z]? with|some o=>o.after.any fun e=>Region.binds md e&&e.on==i|none=>false)
theorem abt {i:Nat} {o oi:Oper} (h:lastB md ops z=true) (hz:ops[z]?=some o) (hi:ops[i]?=some oi) (hne:i≠z):∃e∈o.after,Region.binds md e=true∧e.on=i:=by
 unfold lastB at h
 rw[List.all_eq_true]at h
 have hlt:i<ops.size:=(Array.getElem?_eq_some_iff.1 hi).1
 have h1:=h i (List.mem_range.2 hlt)
 rw[hz]at h1
 simp only[Bool.or_eq_true,beq_iff_eq,hne,false_or,Array.any_eq_true,Bool.and_eq_true]at h1
 obtain⟨k,hk,h2,h3⟩:=h1
 exact⟨o.after[k],Array.getElem_mem hk,h2,h3⟩
theorem abu {i:Nat} {oi:Oper} {v:Value} (hi:ops[i]?=some oi) (hsel:∀(j:Nat) (o:Oper) cs b,ops[j]?=some o→o.op≠ .select cs b) (hl:lastB md ops z=true) (hiz:i≠z)
 (hQ:∀c a w,Q (.panic c) (a.put oi.dst v) w→Q (.panic c) a w):
 ∀(fuel:Nat) (listed:Array Bool) (a:Act) (w:World),
  (∀j oj,ops[j]?=some oj→j≠i→listed.getD j true=false→(∀e∈oj.after,Region.binds md e=true→e.on≠i)→oi.apart ops oj=true)→
  i∈Region.ready md ops listed→YieldsIf P ops S oi v a→S w→
  jk P md ops Q S z fuel (listed.setIfInBounds i true) (a.put oi.dst v) w→jk P md ops Q S z (fuel+1) listed a w:=by
 intro fuel
 induction fuel with
 |zero=>
  intro listed a w _ hr hy hS H
  refine⟨fun h=>(by rw[h]at hr;cases hr),fun j hj=>?_⟩
  by_cases hji:j=i
  ·subst hji;exact hy.wpOp hi hS ⟨.inr hS,H⟩
  ·have:=ready_mono hj hji
   rw[H.1]at this
   cases this
 |succ fuel ih=>
  intro listed a w hfree hr hy hS H
  refine⟨fun h=>(by rw[h]at hr;cases hr),fun j hj=>?_⟩
  by_cases hji:j=i
  ·subst hji;exact hy.wpOp hi hS ⟨.inr hS,H⟩
  ·have h1:=H.2 j (ready_mono hj hji)
   obtain⟨hjun,oj,hoj,hall⟩:=mem_ready.1 hj
   have hnot:∀e∈oj.after,Region.binds md e=true→e.on≠i:=fun e he hb heq=>by
    have h1:=hall e he hb
    have h0:=(mem_ready.1 hr).1
    rw[heq]at h1
    rcases Nat.lt_or_ge i listed.size with h'|h'
    ·simp[h']at h0 h1;rw[h0]at h1;cases h1
    ·simp[Array.getElem?_eq_none h']at h1
   have hjz:j≠z:=fun hz=>by
    subst hz
    obtain⟨e,he,hb,heq⟩:=abt hl hoj hi hiz
    exact hnot e he hb heq
   have h2:=wpOp_putIf hoj (hfree j oj hoj hji hjun hnot) (fun cs b=>hsel i oi cs b hi) (fun cs b=>hsel j oj cs b hoj) hQ hy h1
   have hfree':∀k ok,ops[k]?=some ok→k≠i→(listed.setIfInBounds j true).getD k true=false→
    (∀e∈ok.after,Region.binds md e=true→e.on≠i)→oi.apart ops ok=true:=fun k ok hk hki hun hno=>by
    refine hfree k ok hk hki ?_ hno
    by_cases hjk:j=k
    ·subst hjk;exact hjun
    ·rw[getD_set_ne true hjk]at hun;exact hun
   refine wpOp_mono (fun a' w' h3=>?_) h2
   have hS':S w':=h3.2.1.resolve_left hjz
   refine⟨.inr hS',ih (listed.setIfInBounds j true) a' w' hfree' (ready_mono hr (Ne.symm hji)) h3.1 hS' ?_⟩
   rw[Array.setIfInBounds_comm _ _ hji]
   exact h3.2.2
theorem Oi (i d:Nat) {oi:Oper} {v:Value} {fuel:Nat} {listed:Array Bool} {a:Act} {w:World} (hi:ops[i]?=some oi) (hd:oi.dst=some d)
 (hs:Region.noSelect ops=true) (hl:lastB md ops z=true) (hiz:i≠z) (hf:Region.free md ops listed i=true) (hr:(Region.ready md ops listed).contains i=true)
 (hQ:∀c a w,Q (.panic c) (a.put (some d) v) w→Q (.panic c) a w) (hy:YieldsIf P ops S oi v a) (hS:S w)
 (h:jk P md ops Q S z fuel (listed.setIfInBounds i true) (a.put (some d) v) w):jk P md ops Q S z (fuel+1) listed a w:=
 abu hi (Region.noSelect_spec hs) hl hiz (by rw[hd];exact hQ) fuel listed a w (Region.free_spec hi hf) (by simpa using hr) hy hS (by rw[hd];exact h)
theorem tkG (i d:Nat) {oi:Oper} {v:Value} {fuel:Nat} {listed:Array Bool} {a:Act} {w:World} (hi:ops[i]?=some oi) (hd:oi.dst=some d) (hy:YieldsIf P ops S oi v a)
 (h:jk P md ops Q S z fuel (listed.setIfInBounds i true) (a.put (some d) v) w)
 (hs:Region.noSelect ops=true:=by kernel_rfl) (hl:lastB md ops z=true:=by kernel_rfl) (hiz:i≠z:=by decide) (hf:Region.free md ops listed i=true:=by kernel_rfl) (hr:(Region.ready md ops listed).contains i=true:=by kernel_rfl)
 (hQ:∀c a w,Q (.panic c) (a.put (some d) v) w→Q (.panic c) a w:=by exact fun _ _ _ h=>h) (hS:S w:=by assumption):jk P md ops Q S z (fuel+1) listed a w:=
 Oi i d hi hd hs hl hiz hf hr hQ hy hS h
theorem aX (i d:Nat) {oi:Oper} {v:Value} {fuel:Nat} {listed:Array Bool} {a:Act} {w:World} (hi:ops[i]?=some oi) (hd:oi.dst=some d)
 (h:jk P md ops Q S z fuel (listed.setIfInBounds i true) (a.put (some d) v) w) (hy:YieldsIf P ops S oi v a:=by(refine .inl ⟨by rfl,?_⟩;intro w hSw;(try dsimp only at hSw);go_simp;(try with_reducible rfl)))
 (hs:Region.noSelect ops=true:=by kernel_rfl) (hl:lastB md ops z=true:=by kernel_rfl) (hiz:i≠z:=by decide) (hf:Region.free md ops listed i=true:=by kernel_rfl) (hr:(Region.ready md ops listed).contains i=true:=by kernel_rfl)
 (hQ:∀c a w,Q (.panic c) (a.put (some d) v) w→Q (.panic c) a w:=by exact fun _ _ _ h=>h) (hS:S w:=by assumption):jk P md ops Q S z (fuel+1) listed a w:=
 Oi i d hi hd hs hl hiz hf hr hQ hy hS h
theorem rF (i d:Nat) {oi:Oper} {fuel:Nat} {listed:Array Bool} {a:Act} {w:World} (hi:ops[i]?=some oi) (hd:oi.dst=some d)
 (h:jk P md ops Q S z fuel (listed.setIfInBounds i true) (a.put (some d) undef) w) (hn:Region.wanted oi (yielded ops a.tmps)=false:=by rfl)
 (hs:Region.noSelect ops=true:=by kernel_rfl) (hl:lastB md ops z=true:=by kernel_rfl) (hiz:i≠z:=by decide) (hf:Region.free md ops listed i=true:=by kernel_rfl) (hr:(Region.ready md ops listed).contains i=true:=by kernel_rfl)
 (hQ:∀c a w,Q (.panic c) (a.put (some d) undef) w→Q (.panic c) a w:=by exact fun _ _ _ h=>h) (hS:S w:=by assumption):jk P md ops Q S z (fuel+1) listed a w:=
 Oi i d hi hd hs hl hiz hf hr hQ (Or.inr ⟨hn,rfl⟩) hS h
theorem bg {i:Nat} {o:Oper} {fuel:Nat} {listed:Array Bool} {a:Act} {w:World} (hr:Region.ready md ops listed=[i]) (ho:ops[i]?=some o)
 (h:∀K':Act→World→Prop,Shut (∀a w,S w→jk P md ops Q S z fuel (listed.setIfInBounds i true) a w→K' a w)→if Region.wanted o (yielded ops a.tmps)=true then Oper.wp P o a w K' Q else K' (a.put o.dst undef) w):
 jk P md ops Q S z (fuel+1) listed a w:=
 ⟨fun h0=>(by rw[hr]at h0;cases h0),fun j hj=>by
   rw[hr]at hj
   obtain rfl:j=i:=by simpa using hj
   exact wpOp_step ho fun K' hK=>h K' fun a w hS hW=>hK a w ⟨.inr hS,hW⟩⟩
theorem gJ {o:Oper} {fuel:Nat} {listed:Array Bool} {a:Act} {w:World} (hr:Region.ready md ops listed=[z]) (hr2:Region.ready md ops (listed.setIfInBounds z true)=[]) (ho:ops[z]?=some o)
 (h:∀K':Act→World→Prop,Shut (∀a w,Q .normal a w→K' a w)→if Region.wanted o (yielded ops a.tmps)=true then Oper.wp P o a w K' Q else K' (a.put o.dst undef) w):
 jk P md ops Q S z (fuel+1) listed a w:=
 ⟨fun h0=>(by rw[hr]at h0;cases h0),fun j hj=>by
   rw[hr]at hj
   obtain rfl:j=z:=by simpa using hj
   refine wpOp_step ho fun K' hK=>h K' fun a w hQ=>hK a w ⟨.inl rfl,?_⟩
   cases fuel with
   |zero=>exact⟨hr2,hQ⟩
   |succ n=>exact⟨fun _=>hQ,by rw[hr2];simp⟩⟩
theorem iq {id:Nat} {a:Act} {w:World} (z:Nat) (hm:P.follows .mixedOrders=true) (hS:S w.drew)
 (h:S w.drew→jk P .any ops Q S z ops.size (Array.replicate ops.size false) a w.drew):(Code.region id ops true).wp P Q a w:=
 wp_region_any hm (UU _ _ _ _ (h hS))
end
end Go.Proofs.YtlhmbkjdfjoilaaGreat
