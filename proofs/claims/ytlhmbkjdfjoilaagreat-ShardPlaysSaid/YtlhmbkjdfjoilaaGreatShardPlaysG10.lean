/- Words for the law ShardPlays: TRight, KidQ, TClone2, TClone3, Res, TDots. -/
import Derived.Test.YtlhmbkjdfjoilaaGreatShardPlaysG0
import Derived.Test.YtlhmbkjdfjoilaaGreatShardPlaysG5
import Derived.Test.YtlhmbkjdfjoilaaGreatShardPlaysG6
import Derived.Test.YtlhmbkjdfjoilaaGreatShardPlaysG7
import Derived.Test.YtlhmbkjdfjoilaaGreatShardPlaysG9
set_option linter.unusedSimpArgs false
set_option linter.unusedVariables false
set_option maxHeartbeats 32000000
set_option maxRecDepth 1000000
namespace Go.Proofs.YtlhmbkjdfjoilaaGreat
open Go.RowKit
theorem acg {ks:aT} {d:Nat} {es:List aQ} (he:jg none es=true):bM (d+1) es ks=jh ks d none:=by
 rw[bM,Nat.add_sub_cancel,he];simp
theorem ach (Q:Nat→Prop):∀(N:Nat) (es:List aQ) (ks:aT) (d:Nat) (w:World) (ev kv:Value),dM ks<N→bZ Q w ev kv es ks→lF es ks→d≤100→
 Calls Tryz.prog 125 #[.agg #[ev,kv], .int .i64 d] w fun e w'=>e= .returned (.bool (bM d es ks))∧aj aF w w':=by
 intro N
 induction N with
 |zero=>intros;exfalso;omega
 |succ N jH=>
  intro es ks d w ev kv hN ht hok hd
  obtain⟨ae,ce,rfl⟩:=ht.ents.rd.sl
  obtain⟨os,hkr,gY⟩:=ht.kids
  obtain⟨ak,ck,rfl⟩:=hkr.rd.sl
  have HT:=ah ht;clear ht
  have iT:=ah hkr.rd;clear hkr
  have nR:=ah gY;clear gY
  have IH:=ah jH;clear jH
  have eu:=ah (aj.alloc aF w (.cells #[.slice ae es.length ce, .slice ak ks.len ck] 28))
  have box0:(w.alloc (.cells #[.slice ae es.length ce, .slice ak ks.len ck] 28)).cell? ⟨w.heap.size,0,none⟩=some (.slice ae es.length ce):=aG (heap_alloc_new w _) 0 rfl
  have box1:(w.alloc (.cells #[.slice ae es.length ce, .slice ak ks.len ck] 28)).cell? ⟨w.heap.size,1,none⟩=some (.slice ak ks.len ck):=aG (heap_alloc_new w _) 1 rfl
  have B0:=ah box0;clear box0
  have B1:=ah box1;clear box1
  have UJ:=ah hok.es.len
  have iZ:=ah hok.len
  have fH:=ah hok;clear hok
  have iC:=ah hN;clear hN
  cases d with
  |zero=>
   go_enter Tryz.func125,Tryz.ntmps125
   go_wp2
   go_ret
   exact⟨dF (by simp[bM]),eu.out⟩
  |succ d=>
   generalize hes:es.length=n at*
   have HN:=ah hes;clear hes
   generalize hkl:ks.len=m at*
   have HM:=ah hkl;clear hkl
   have hd9:(d:Int)≤100:=by omega
   have hd1:¬(((d+1:Nat):Int)<1):=by omega
   have HD:=ah hd;clear hd
   cases hre:jg none es with
   |false=>
    have Gz:=ah (fun W (h:aj aF (w.alloc (.cells #[.slice ae n ce, .slice ak m ck] 28)) W)=>Vo W (.slice ae n ce) es (by have:=(HT.out.aS eu.out).ents.rd;rw[HN.out]at this⊢;exact this.aS h) fH.out.es)
    rw[hre]at Gz
    have b0:=B0.out
    go_enter Tryz.func125,Tryz.ntmps125
    go_wp2_with(go_at_call 163;refine(Gz.out _ (aj.refl _ _)).mono ?_;rintro e w1 ⟨rfl,hw1⟩;have HW1:=ah hw1;clear hw1)
    go_ret
    exact⟨dF (by rw[bM,hre];simp),eu.out.aH HW1.out⟩
   |true=>
    have Gz:=ah (fun W (h:aj aF (w.alloc (.cells #[.slice ae n ce, .slice ak m ck] 28)) W)=>Vo W (.slice ae n ce) es (by have:=(HT.out.aS eu.out).ents.rd;rw[HN.out]at this⊢;exact this.aS h) fH.out.es)
    rw[hre]at Gz
    have OC:=ah hre;clear hre
    have b0:=B0.out
    go_enter Tryz.func125,Tryz.ntmps125
    go_wp2_with(go_at_call 163;refine(Gz.out _ (aj.refl _ _)).mono ?_;rintro e w1 ⟨rfl,hw1⟩;have HW:=ah hw1;clear hw1;have b1:=HW.out.cell' B1.out id)
    clear b0 b1
    go_loopw [18] (fun i ww=>∃(k:Nat) (p:Option ByteArray),k≤m∧i= .int .i64 k∧UH ks k p∧jh ks d none=jh (ks.drop k) d p∧aj aF (w.alloc (.cells #[.slice ae n ce, .slice ak m ck] 28)) ww) (fun i _=>m-(intOf i).toNat)
    case atStart=>exact⟨0,none,Nat.zero_le _,rfl, .inl ⟨rfl,rfl⟩,rfl,HW.out⟩
    case round=>
     obtain⟨k,p,hk,rfl,hp,hr,hw⟩:=hrel
     have fO:=ah hw;clear hw
     have HP:=ah hp;clear hp
     have b1:=fO.out.cell' B1.out id
     by_cases hlt:k<m
     ·obtain⟨key,es',sub,rest,hdr⟩:=aT.uf (n:=k) (ks:=ks) (by rw[HM.out];exact hlt)
      have hmm:(m:Int)≤9223372036854775807:=by have:=iZ.out;omega
      rcases Rd.shape (iT.out.aS (eu.out.aH fO.out))with⟨ad,he,h0⟩|⟨b,off,cc,he,hmax⟩
      ·exfalso;have:=HM.out;omega
      ·injection he with e1 e2 e3
       subst e1 e3
       clear e2 hmax
       obtain⟨ev',kv',c0,c1,c2,hta⟩:=rD (iT.out.aS (eu.out.aH fO.out)) (nR.out.aS (eu.out.aH fO.out)) hdr
       obtain⟨gZ,g_,rfl⟩:=hta.ents.rd.sl
       obtain⟨os',ji,nC⟩:=hta.kids
       obtain⟨h_,ig,rfl⟩:=ji.rd.sl
       clear ji nC
       have hok':=fH.out.ks.drop k
       rw[hdr]at hok'
       have hkz:=hok'.1
       have hsub:lF es' sub:=⟨hok'.2.1,hok'.2.2.1,hok'.2.2.2.1⟩
       have l1:((es'.length:Nat):Int)≤140737488351232:=by have:=hsub.es.len;omega
       have l2:((sub.len:Nat):Int)≤140737488351232:=by have:=hsub.len;omega
       have DR:=ah hsub;clear hsub hok'
       have i_:=ah (xJ k hdr)
       rw[UG hdr]at hr
       have HDR:=ah hdr;clear hdr
       have hbf:aj aF wr (wr.alloc (.cells #[.string key, .slice gZ es'.length g_, .slice h_ sub.len ig] 52)):=aj.alloc _ _ _
       have n0:(wr.alloc (.cells #[.string key, .slice gZ es'.length g_, .slice h_ sub.len ig] 52)).cell? ⟨wr.heap.size,0,none⟩=some (.string key):=aG (heap_alloc_new wr _) 0 rfl
       have n1:(wr.alloc (.cells #[.string key, .slice gZ es'.length g_, .slice h_ sub.len ig] 52)).cell? ⟨wr.heap.size,1,none⟩=some (.slice gZ es'.length g_):=aG (heap_alloc_new wr _) 1 rfl
       have n2:(wr.alloc (.cells #[.string key, .slice gZ es'.length g_, .slice h_ sub.len ig] 52)).cell? ⟨wr.heap.size,2,none⟩=some (.slice h_ sub.len ig):=aG (heap_alloc_new wr _) 2 rfl
       have kF:=ah (hta.aS hbf);clear hta
       have BH:=fO;clear fO
       have fO:=ah (BH.out.aH hbf)
       have kk:∀j pU es0 yO yP,ks.drop j= .cons pU es0 yO yP→wr.cell? ⟨b,off+j*3,none⟩=some (.string pU):=fun j pU es0 yO yP h=>by
        obtain⟨_,_,h0,_⟩:=rD (iT.out.aS (eu.out.aH BH.out)) (nR.out.aS (eu.out.aH BH.out)) h
        exact h0
       have KK:=ah kk;clear kk
       have HIH:=ah (fun w' (h:aj aF (wr.alloc (.cells #[.string key, .slice gZ es'.length g_, .slice h_ sub.len ig] 52)) w')=>IH.out es' sub d w' _ _ (by have:=i_.out;have:=iC.out;omega) (kF.out.aS h) DR.out (by have:=HD.out;omega))
       have hem:∀W,Calls Tryz.prog 113 #[.agg #[.slice gZ es'.length g_, .slice h_ sub.len ig]] W fun e w'=>e= .returned (.bool (isNil es' sub))∧aj aF W w':=fun W=>empty_any gZ h_ es'.length sub.len g_ ig W
       have oW:=ah hem;clear hem
       generalize es'.length=n' at*
       generalize sub.len=m' at*
       obtain⟨α,hne,K,hK3,hK0,hK2⟩:=worlds (wr.alloc (.cells #[.string key, .slice gZ n' g_, .slice h_ m' ig] 52))
       have hK1:=hK3
       have kb1:=fun s=>(hK1 s).cell' (hbf.cell' b1 id) id
       have kn0:=fun s=>(hK1 s).cell' n0 id
       have kn1:=fun s=>(hK1 s).cell' n1 id
       have kn2:=fun s=>(hK1 s).cell' n2 id
       clear n0 n1 n2
       have hge:=UF
       rcases HP.out with⟨rfl,rfl⟩|⟨j,pU,es0,yO,yP,rfl,hdj,rfl⟩
       ·simp only[Nat.zero_mul,Nat.add_zero]at c0 c1 c2
        cases g1:oN key with
        |false=>
         rw[g1]at hr
         simp only[Bool.false_and]at hr
         have hst:bM (d+1) es ks=false:=by rw[bM,Nat.add_sub_cancel,hr];simp
         have HST:=ah hst;clear hst hr
         go_wp2_with fail
         refine dX K (by kernel_rfl) (by kernel_rfl) hK0 ?_
         repeat(go_big_quiet_step ((first|(go_at_call 164;exact Calls.bT hK2 (Calls.oP (yH key _ hkz)))|(go_at_call 113;exact Calls.bT hK2 (oW.out _))|(go_at_call 125;exact Calls.bT hK2 (HIH.out _ (hK3 _))))))
         refine wpQuiet_nil ?_
         intro w' hw'
         obtain⟨s,rfl⟩:=hw'
         have hfs:=hK1 s
         go_wp2
         go_ret
         exact⟨dF HST.out.symm,eu.out.aH (fO.out.aH hfs)⟩
        |true=>
         cases g3:isNil es' sub with
         |true=>
          rw[g1,g3]at hr
          rw[g3]at oW
          simp only[Bool.not_true,Bool.and_false,Bool.false_and]at hr
          have hst:bM (d+1) es ks=false:=by rw[bM,Nat.add_sub_cancel,hr];simp
          have HST:=ah hst;clear hst hr
          go_wp2_with fail
          refine dX K (by kernel_rfl) (by kernel_rfl) hK0 ?_
          repeat(go_big_quiet_step ((first|(go_at_call 164;exact Calls.bT hK2 (Calls.oP (yH key _ hkz)))|(go_at_call 113;exact Calls.bT hK2 (oW.out _))|(go_at_call 125;exact Calls.bT hK2 (HIH.out _ (hK3 _))))))
          refine wpQuiet_nil ?_
          intro w' hw'
          obtain⟨s,rfl⟩:=hw'
          have hfs:=hK1 s
          go_wp2
          go_ret
          exact⟨dF HST.out.symm,eu.out.aH (fO.out.aH hfs)⟩
         |false=>
          rw[g3]at oW
          cases g4:bM d es' sub with
          |false=>
           rw[g1,g3,g4]at hr
           rw[g4]at HIH
           simp only[Bool.and_false,Bool.false_and]at hr
           have hst:bM (d+1) es ks=false:=by rw[bM,Nat.add_sub_cancel,hr];simp
           have HST:=ah hst;clear hst hr
           go_wp2_with fail
           refine dX K (by kernel_rfl) (by kernel_rfl) hK0 ?_
           repeat(go_big_quiet_step ((first|(go_at_call 164;exact Calls.bT hK2 (Calls.oP (yH key _ hkz)))|(go_at_call 113;exact Calls.bT hK2 (oW.out _))|(go_at_call 125;exact Calls.bT hK2 (HIH.out _ (hK3 _))))))
           refine wpQuiet_nil ?_
           intro w' hw'
           obtain⟨s,rfl⟩:=hw'
           have hfs:=hK1 s
           go_wp2
           go_ret
           exact⟨dF HST.out.symm,eu.out.aH (fO.out.aH hfs)⟩
          |true=>
           rw[g1,g3,g4]at hr
           rw[g4]at HIH
           simp only[ltK,Bool.not_false,Bool.and_true,Bool.true_and]at hr
           have HST:=ah hr;clear hr
           go_wp2_with fail
           refine dX K (by kernel_rfl) (by kernel_rfl) hK0 ?_
           repeat(go_big_quiet_step ((first|(go_at_call 164;exact Calls.bT hK2 (Calls.oP (yH key _ hkz)))|(go_at_call 113;exact Calls.bT hK2 (oW.out _))|(go_at_call 125;exact Calls.bT hK2 (HIH.out _ (hK3 _))))))
           refine wpQuiet_nil ?_
           intro w' hw'
           obtain⟨s,rfl⟩:=hw'
           have hfs:=hK1 s
           go_wp2
           go_roundw
           case rel=>exact⟨0+1,some key,by omega,by go_num, .inr ⟨0,key,es',sub,rest,rfl,HDR.out,rfl⟩,HST.out,fO.out.aH hfs⟩
           case measure=>simp[intOf];omega
       ·have pk:=KK.out j pU es0 yO yP hdj
        clear hdj
        have kpk:=(fun s=>(hK1 s).cell' (hbf.cell' pk id) id)
        clear pk
        cases g1:oN key with
        |false=>
         rw[g1]at hr
         simp only[Bool.false_and]at hr
         have hst:bM (d+1) es ks=false:=by rw[bM,Nat.add_sub_cancel,hr];simp
         have HST:=ah hst;clear hst hr
         go_wp2_with fail
         refine dX K (by kernel_rfl) (by kernel_rfl) hK0 ?_
         repeat(go_big_quiet_step ((first|(go_at_call 164;exact Calls.bT hK2 (Calls.oP (yH key _ hkz)))|(go_at_call 113;exact Calls.bT hK2 (oW.out _))|(go_at_call 125;exact Calls.bT hK2 (HIH.out _ (hK3 _))))))
         refine wpQuiet_nil ?_
         intro w' hw'
         obtain⟨s,rfl⟩:=hw'
         have hfs:=hK1 s
         go_wp2
         go_ret
         exact⟨dF HST.out.symm,eu.out.aH (fO.out.aH hfs)⟩
        |true=>
         cases g2:Op.bytesLess pU.toList key.toList with
         |false=>
          rw[show ltK (some pU) key=false from g2]at hr
          simp only[Bool.and_false,Bool.false_and]at hr
          have hst:bM (d+1) es ks=false:=by rw[bM,Nat.add_sub_cancel,hr];simp
          have HST:=ah hst;clear hst hr
          go_wp2_with fail
          refine dX K (by kernel_rfl) (by kernel_rfl) hK0 ?_
          repeat(go_big_quiet_step ((first|(go_at_call 164;exact Calls.bT hK2 (Calls.oP (yH key _ hkz)))|(go_at_call 113;exact Calls.bT hK2 (oW.out _))|(go_at_call 125;exact Calls.bT hK2 (HIH.out _ (hK3 _))))))
          refine wpQuiet_nil ?_
          intro w' hw'
          obtain⟨s,rfl⟩:=hw'
          have hfs:=hK1 s
          go_wp2
          go_ret
          exact⟨dF HST.out.symm,eu.out.aH (fO.out.aH hfs)⟩
         |true=>
          cases g3:isNil es' sub with
          |true=>
           rw[g3]at hr
           rw[g3]at oW
           simp only[Bool.not_true,Bool.and_false,Bool.false_and]at hr
           have hst:bM (d+1) es ks=false:=by rw[bM,Nat.add_sub_cancel,hr];simp
           have HST:=ah hst;clear hst hr
           go_wp2_with fail
           refine dX K (by kernel_rfl) (by kernel_rfl) hK0 ?_
           repeat(go_big_quiet_step ((first|(go_at_call 164;exact Calls.bT hK2 (Calls.oP (yH key _ hkz)))|(go_at_call 113;exact Calls.bT hK2 (oW.out _))|(go_at_call 125;exact Calls.bT hK2 (HIH.out _ (hK3 _))))))
           refine wpQuiet_nil ?_
           intro w' hw'
           obtain⟨s,rfl⟩:=hw'
           have hfs:=hK1 s
           go_wp2
           go_ret
           exact⟨dF HST.out.symm,eu.out.aH (fO.out.aH hfs)⟩
          |false=>
           rw[g3]at oW
           cases g4:bM d es' sub with
           |false=>
            rw[g4]at hr
            rw[g4]at HIH
            simp only[Bool.and_false,Bool.false_and]at hr
            have hst:bM (d+1) es ks=false:=by rw[bM,Nat.add_sub_cancel,hr];simp
            have HST:=ah hst;clear hst hr
            go_wp2_with fail
            refine dX K (by kernel_rfl) (by kernel_rfl) hK0 ?_
            repeat(go_big_quiet_step ((first|(go_at_call 164;exact Calls.bT hK2 (Calls.oP (yH key _ hkz)))|(go_at_call 113;exact Calls.bT hK2 (oW.out _))|(go_at_call 125;exact Calls.bT hK2 (HIH.out _ (hK3 _))))))
            refine wpQuiet_nil ?_
            intro w' hw'
            obtain⟨s,rfl⟩:=hw'
            have hfs:=hK1 s
            go_wp2
            go_ret
            exact⟨dF HST.out.symm,eu.out.aH (fO.out.aH hfs)⟩
           |true=>
            rw[g1,g3,g4,show ltK (some pU) key=true from g2]at hr
            rw[g4]at HIH
            simp only[Bool.not_false,Bool.and_true,Bool.true_and]at hr
            have HST:=ah hr;clear hr
            go_wp2_with fail
            refine dX K (by kernel_rfl) (by kernel_rfl) hK0 ?_
            repeat(go_big_quiet_step ((first|(go_at_call 164;exact Calls.bT hK2 (Calls.oP (yH key _ hkz)))|(go_at_call 113;exact Calls.bT hK2 (oW.out _))|(go_at_call 125;exact Calls.bT hK2 (HIH.out _ (hK3 _))))))
            refine wpQuiet_nil ?_
            intro w' hw'
            obtain⟨s,rfl⟩:=hw'
            have hfs:=hK1 s
            go_wp2
            go_roundw
            case rel=>exact⟨(j+1)+1,some key,by omega,by go_num, .inr ⟨(j+1),key,es',sub,rest,rfl,HDR.out,rfl⟩,HST.out,fO.out.aH hfs⟩
            case measure=>simp[intOf];omega
     ·obtain rfl:m=k:=by omega
      rw[aT.uP (by rw[HM.out];exact Nat.le_refl _)]at hr
      have HRR:=ah hr;clear hr
      go_wp2
      go_ret
      exact⟨dF (by rw[acg OC.out,HRR.out];simp[jh]),eu.out.aH fO.out⟩
open Go.RowKit
structure dh where
 key:ByteArray
 es:List aQ
 sub:aT
 ev:Value
 kv:Value
instance:Inhabited dh:=⟨⟨ByteArray.empty,[], .nil, .slice none 0 0, .slice none 0 0⟩⟩
def dh.cells (q:dh):List Value:=[.string q.key,q.ev,q.kv]
def Ec:List dh→aT→aT
 |[],r=>r
 |q::l,r=> .cons q.key q.es q.sub (Ec l r)
def mkK (l:List dh):aT:=Ec l .nil
def vX (l:List dh):List (Value×Value):=l.map fun q=>(q.ev,q.kv)
theorem Vp:∀(l:List dh) (q:dh) (r:aT),Ec (l++ [q]) r=Ec l (.cons q.key q.es q.sub r)
 |[],_,_=>rfl
 |x::l,q,r=>by show aT.cons _ _ _ (Ec (l++ [q]) r)=_;rw[Vp l q r];rfl
theorem vY:∀l:List dh,(mkK l).len=l.length
 |[]=>rfl
 |q::l=>by show(mkK l).len+1=_;rw[vY l];rfl
theorem BN:∀l:List dh,jG (mkK l) (vX l)=l.flatMap dh.cells
 |[]=>rfl
 |q::l=>by show _::_::_::jG (mkK l) (vX l)=_;rw[BN l];rfl
theorem OD (l:List dh):(l.flatMap dh.cells).length=l.length*3:=by
 induction l with
 |nil=>rfl
 |cons q l ih=>rw[List.flatMap_cons,List.length_append,ih];simp[dh.cells];omega
theorem aci {l:List dh} (h:∀q∈l,q.ev.oneCell'=true∧q.kv.oneCell'=true):∀v∈l.flatMap dh.cells,v.oneCell'=true:=by
 intro v hv
 obtain⟨q,hq,hv⟩:=List.mem_flatMap.1 hv
 simp[dh.cells]at hv
 rcases hv with rfl|rfl|rfl
 ·rfl
 ·exact(h q hq).1
 ·exact(h q hq).2
theorem Ed {Q:Nat→Prop} {w:World}:∀ {l:List dh},(∀q∈l,bZ Q w q.ev q.kv q.es q.sub)→jX Q w (mkK l) (vX l)
 |[],_=>rfl
 |q::l,h=>by
  obtain⟨h1,os,h2,h3⟩:=h q List.mem_cons_self
  exact⟨q.ev,q.kv,vX l,os,rfl,h1,h2,h3,Ed fun x hx=>h x (List.mem_cons_of_mem _ hx)⟩
theorem Vq:∀ {l:List dh},(∀q∈l,q.key.size≤9223372036854775807∧lF q.es q.sub)→(mkK l).Ok
 |[],_=>trivial
 |q::l,h=>by
  obtain⟨h1,h2⟩:=h q List.mem_cons_self
  exact⟨h1,h2.es,h2.len,h2.ks,Vq fun x hx=>h x (List.mem_cons_of_mem _ hx)⟩
theorem gy.turn {Q Q':Nat→Prop} {w w':World} {v:Value} {n:Nat} {xs:List Value} (h:gy Q w v n xs) (f:∀b,b<w.heap.size→Q b→w'.heap[b]?=w.heap[b]?∧Q' b):gy Q' w' v n xs:=by
 rcases h.rd with⟨ad,h1,h2,h3⟩|⟨b,off,c,rfl,h1,h2,h3⟩
 ·exact⟨.inl ⟨ad,h1,h2,h3⟩,fun hx=>absurd h3 hx⟩
 ·have DL:∀j u,xs[j]?=some u→w'.cell? ⟨b,off+j,none⟩=some u∧Q' b:=fun j u hu=>by
   have hc:=h3 j u hu
   have hlt:b<w.heap.size:=World.block_lt_of_cell? _ _ hc
   obtain⟨g1,g2⟩:=f b hlt (h.q (fun e=>by rw[e]at hu;simp at hu) b rfl)
   exact⟨(World.cell?_of_block (w:=w) g1).trans hc,g2⟩
  refine⟨.inr ⟨b,off,c,rfl,h1,h2,fun j u hu=>(DL j u hu).1⟩,fun hx k hk=>?_⟩
  simp[Value.ownBlock]at hk
  subst hk
  cases xs with
  |nil=>exact absurd rfl hx
  |cons x xs=>exact(DL 0 x rfl).2
theorem jX.turn {Q Q':Nat→Prop} {w w':World} (f:∀b,b<w.heap.size→Q b→w'.heap[b]?=w.heap[b]?∧Q' b):∀ {ks:aT} {os:List (Value×Value)},jX Q w ks os→jX Q' w' ks os
 | .nil,_,h=>h
 | .cons _ _ _ _,_,⟨ev,kv,qH,os,h1,h2,h3,h4,h5⟩=>⟨ev,kv,qH,os,h1,h2.turn f,h3.turn f,h4.turn f,h5.turn f⟩
theorem bZ.turn {Q Q':Nat→Prop} {w w':World} {ev kv:Value} {es:List aQ} {ks:aT} (h:bZ Q w ev kv es ks) (f:∀b,b<w.heap.size→Q b→w'.heap[b]?=w.heap[b]?∧Q' b):bZ Q' w' ev kv es ks:=
 ⟨h.ents.turn f,let⟨os,h1,h2⟩:=h.kids;⟨os,h1.turn f,h2.turn f⟩⟩
theorem OwnAt.Aa {w0 w:World} {e:TypeId} {size:Nat} {v:Value} {n:Nat} {xs:List Value} (h:OwnAt w0 w e size v n xs):gy (fun k=>w0.heap.size≤k) w v n xs:=⟨h.rd,fun _ k hk=>h.new k hk⟩
open Go.RowKit
theorem BO:(Tryz.prog.info? 52).map (fun i=>(i.zero,i.size,i.bytes))=some (some (.agg #[.string ByteArray.empty, .slice none 0 0, .slice none 0 0]),3,64):=by kernel_rfl
def Ac (w:World) (h2 h3:Nat) (v:Value) (b:Nat):Prop:=w.heap.size≤b∧b≠h2∧b≠h3∧v.ownBlock≠some b
structure sG (w ww:World) (h2 h3:Nat) (n:Nat) (ev kv:Value) (es:List aQ) (ks:aT) (k:Nat) (l:List dh):Prop where
 aI:aj aF w ww
 b2:ww.heap[h2]?=some (.cells #[.slice none 0 0, .slice none 0 0] 28 (0,0))
 b3:ww.heap[h3]?=some (.cells #[ev,kv] 28 (0,0))
 new2:w.heap.size≤h2
 J_:w.heap.size≤h3
 ne:h2≠h3
 own:iH (fun b=>b=h2∨b=h3) w ww 52 3 kv k (l.flatMap dh.cells)
 ents:gy (Ac w h2 h3 kv) ww ev n (jy es)
 kids:∀q∈l,bZ (Ac w h2 h3 kv) ww q.ev q.kv q.es q.sub
 len:l.length=k
 all:ks=Ec l (ks.drop k)
theorem sG.keep {w ww w':World} {h2 h3 n:Nat} {ev kv:Value} {es:List aQ} {ks:aT} {k:Nat} {l:List dh} (h:sG w ww h2 h3 n ev kv es ks k l) (f:aj aF ww w'):sG w w' h2 h3 n ev kv es ks k l:=
 ⟨h.aI.aH f,f.blk h.b2 id,f.blk h.b3 id,h.new2,h.J_,h.ne,h.own.keep f,h.ents.keep f (fun _ _ s=>s.elim),fun q hq=>(h.kids q hq).aS f,h.len,h.all⟩
theorem sG.step {w w1 w':World} {h2 h3 n:Nat} {ev kv kv':Value} {es:List aQ} {ks:aT} {k:Nat} {l:List dh} (h:sG w w1 h2 h3 n ev kv es ks k l) {q:dh} {rest:aT} (hd:ks.drop k= .cons q.key q.es q.sub rest)
 (hq:bZ (Ac w h2 h3 kv) w1 q.ev q.kv q.es q.sub)
 (own:w'.ownsRow 0 52 3 kv' (k+1) (l.flatMap dh.cells++q.cells)) (fm:aj (eG kv) w1 w') (fr:lN w1 kv kv'):
 sG w (w'.setCell ⟨h3,1,none⟩ kv') h2 h3 n ev kv' es ks (k+1) (l++ [q]):=by
 have hb3:¬eG kv h3:=fun hs=>h.own.but h3 hs (.inr rfl)
 have hb2:¬eG kv h2:=fun hs=>h.own.but h2 hs (.inl rfl)
 have hset:aj (fun b=>b=h3) w' (w'.setCell ⟨h3,1,none⟩ kv'):=aj.setCell (S:=fun b=>b=h3) w' (p:=⟨h3,1,none⟩) (.inl rfl) _
 have l2:=lt_of_block h.b2
 have l3:=lt_of_block h.b3
 have hne':∀b,kv'.ownBlock=some b→b≠h2∧b≠h3:=fun b hb=>by
  rcases fr b hb with h1|h1
  ·exact⟨fun e=>h.own.but b h1 (.inl e),fun e=>h.own.but b h1 (.inr e)⟩
  ·exact⟨fun e=>by omega,fun e=>by omega⟩
 have turn:∀b,b<w1.heap.size→Ac w h2 h3 kv b→(w'.setCell ⟨h3,1,none⟩ kv').heap[b]?=w1.heap[b]?∧Ac w h2 h3 kv' b:=fun b hb hQ=>by
  refine⟨?_,hQ.1,hQ.2.1,hQ.2.2.1,fun e=>?_⟩
  ·rw[hset.block b (Nat.lt_of_lt_of_le hb fm.size) hQ.2.2.1,fm.block b hb hQ.2.2.2]
  ·rcases fr b e with h1|h1
   ·exact hQ.2.2.2 h1
   ·omega
 have hown:iH (fun b=>b=h2∨b=h3) w w' 52 3 kv' (k+1) (l.flatMap dh.cells++q.cells):=
  ⟨h.own.at_.step own fm fr,fun b hb hn=>by
    have:=hne' b hb
    rcases hn with hn|hn
    ·exact this.1 hn
    ·exact this.2 hn⟩
 refine⟨hown.at_.aI.set1 (.inr h.J_),?_,?_,h.new2,h.J_,h.ne,?_,h.ents.turn turn,fun x hx=>?_,by rw[List.length_append,h.len];rfl,?_⟩
 ·exact hset.blk (fm.blk h.b2 hb2) h.ne
 ·exact eY (fm.blk h.b3 hb3) 1 kv'
 ·rw[List.flatMap_append]
  simp only[List.flatMap_cons,List.flatMap_nil,List.append_nil]
  exact hown.set (.inr rfl) h.J_ _
 ·rcases List.mem_append.1 hx with hx|hx
  ·exact(h.kids x hx).turn turn
  ·simp only[List.mem_singleton]at hx;subst hx;exact hq.turn turn
 ·rw[Vp,aT.yN k ks hd,←hd]
  exact h.all
theorem sG.done {w ww:World} {h2 h3 n:Nat} {ev kv:Value} {es:List aQ} {ks:aT} {k:Nat} {l:List dh} (h:sG w ww h2 h3 n ev kv es ks k l) (hn:n=es.length) (hk:ks.len≤k):
 bZ (fun b=>w.heap.size≤b) ((ww.setCell ⟨h2,0,none⟩ ev).setCell ⟨h2,1,none⟩ kv) ev kv es ks∧aj aF w ((ww.setCell ⟨h2,0,none⟩ ev).setCell ⟨h2,1,none⟩ kv)∧
  ((ww.setCell ⟨h2,0,none⟩ ev).setCell ⟨h2,1,none⟩ kv).heap[h2]?=some (.cells #[ev,kv] 28 (0,0)):=by
 have hks:ks=mkK l:=by
  have:=h.all
  rw[aT.uP hk]at this
  exact this
 have Ko:aj (fun b=>b=h2) ww ((ww.setCell ⟨h2,0,none⟩ ev).setCell ⟨h2,1,none⟩ kv):=
  (aj.setCell (S:=fun b=>b=h2) ww (p:=⟨h2,0,none⟩) (.inl rfl) ev).trans (aj.setCell (S:=fun b=>b=h2) _ (p:=⟨h2,1,none⟩) (.inl rfl) kv) fun _ _ h=>h
 have turn:∀b,b<ww.heap.size→Ac w h2 h3 kv b→((ww.setCell ⟨h2,0,none⟩ ev).setCell ⟨h2,1,none⟩ kv).heap[b]?=ww.heap[b]?∧w.heap.size≤b:=fun b hb hQ=>⟨Ko.block b hb hQ.2.1,hQ.1⟩
 refine⟨⟨hn▸h.ents.turn turn,vX l,?_,?_⟩,(h.aI.set1 (p:=⟨h2,0,none⟩) (.inr h.new2)).set1 (p:=⟨h2,1,none⟩) (.inr h.new2),eY (eY h.b2 0 ev) 1 kv⟩
 ·rw[hks,vY,BN,h.len]
  have ho:=Ko.owns h.own.at_.own fun b hb he=>h.own.but b hb (.inl he)
  exact⟨Rd.own ho,fun _ b hb=>h.own.at_.new b hb⟩
 ·rw[hks]
  exact Ed fun q hq=>(h.kids q hq).turn turn
theorem sG.top {w ww:World} {h2 h3 n:Nat} {ev kv:Value} {es:List aQ} {ks:aT} {k:Nat} {l:List dh} (h:sG w ww h2 h3 n ev kv es ks k l) (hk:ks.len≤k):
 ks=mkK l∧OwnAt w ((ww.setCell ⟨h2,0,none⟩ ev).setCell ⟨h2,1,none⟩ kv) 52 3 kv l.length (l.flatMap dh.cells)∧∀q∈l,bZ (fun b=>w.heap.size≤b∧kv.ownBlock≠some b) ((ww.setCell ⟨h2,0,none⟩ ev).setCell ⟨h2,1,none⟩ kv) q.ev q.kv q.es q.sub:=by
 have Ko:aj (fun b=>b=h2) ww ((ww.setCell ⟨h2,0,none⟩ ev).setCell ⟨h2,1,none⟩ kv):=
  (aj.setCell (S:=fun b=>b=h2) ww (p:=⟨h2,0,none⟩) (.inl rfl) ev).trans (aj.setCell (S:=fun b=>b=h2) _ (p:=⟨h2,1,none⟩) (.inl rfl) kv) fun _ _ h=>h
 refine⟨?_,?_,fun q hq=>(h.kids q hq).turn fun b hb hQ=>⟨Ko.block b hb hQ.2.1,hQ.1,hQ.2.2.2⟩⟩
 ·have:=h.all
  rw[aT.uP hk]at this
  exact this
 ·rw[h.len]
  exact((h.own.set (p:=⟨h2,0,none⟩) (.inl rfl) h.new2 ev).set (p:=⟨h2,1,none⟩) (.inl rfl) h.new2 kv).at_
open Go.RowKit
def Kq (w:World) (es:List aQ) (ks:aT) (e:Ending) (w':World):Prop:=
 ∃ev' kv',e= .returned (.agg #[ev',kv'])∧bZ (fun b=>w.heap.size≤b) w' ev' kv' es ks∧aj aF w w'
def acj (w:World) (es:List aQ) (ks:aT) (e:Ending) (w':World):Prop:=
 ∃ev' kv' l,e= .returned (.agg #[ev',kv'])∧bZ (fun b=>w.heap.size≤b) w' ev' kv' es ks∧aj aF w w'∧ks=mkK l∧OwnAt w w' 52 3 kv' l.length (l.flatMap dh.cells)∧∀q∈l,bZ (fun b=>w.heap.size≤b∧kv'.ownBlock≠some b) w' q.ev q.kv q.es q.sub
theorem Vr (Q:Nat→Prop):∀(N:Nat) (es:List aQ) (ks:aT) (w:World) (ev kv:Value),dM ks<N→bZ Q w ev kv es ks→sizeT es ks≤100000→
 Calls Tryz.prog 97 #[.agg #[ev,kv]] w (acj w es ks):=by
 intro N
 induction N with
 |zero=>intros;exfalso;omega
 |succ N jH=>
  intro es ks w ev kv hN ht hsz
  obtain⟨i0,hi,hz0,hz1,hz2⟩:=info_parts BO
  obtain⟨ae,ce,rfl⟩:=ht.ents.rd.sl
  obtain⟨os,hkr,gY⟩:=ht.kids
  obtain⟨ak,ck,rfl⟩:=hkr.rd.sl
  have HE:=ah ht.ents.rd
  have iT:=ah hkr.rd;clear hkr ht
  have nR:=ah gY;clear gY
  have IH:=ah jH;clear jH
  have vV:es.length≤100000:=by unfold sizeT at hsz;omega
  have Gl:ks.len≤100000:=by have:=oQ ks;unfold sizeT at hsz;omega
  have zh:=ah (fun W (h:aj aF w W)=>abm W (.slice ae es.length ce) es (HE.out.aS h) vV)
  have iC:=ah hsz;clear hsz
  have uh:=ah hN;clear hN
  generalize hes:es.length=n at*
  have HN:=ah hes;clear hes
  generalize hkl:ks.len=m at*
  have HM:=ah hkl;clear hkl
  obtain⟨WB,lG⟩:∃WB,WB=(w.alloc (.cells #[.slice ae n ce, .slice ak m ck] 28)).alloc (.cells #[.slice none 0 0, .slice none 0 0] 28):=⟨_,rfl⟩
  have hfb:aj aF w WB:=by rw[lG];exact(aj.alloc _ _ _).alloc1
  have hb0:WB.heap[w.heap.size]?=some (.cells #[.slice ae n ce, .slice ak m ck] 28 (0,0)):=by rw[lG,Below.heap_alloc _ _ _ (by simp)];exact heap_alloc_new w _
  have hb2:WB.heap[w.heap.size+1]?=some (.cells #[.slice none 0 0, .slice none 0 0] 28 (0,0)):=by
   rw[lG]
   have:=heap_alloc_new (w.alloc (.cells #[.slice ae n ce, .slice ak m ck] 28)) (.cells #[.slice none 0 0, .slice none 0 0] 28)
   simpa using this
  have hbs:WB.heap.size=w.heap.size+1+1:=by rw[lG];simp
  have b_:=ah hfb;clear hfb
  have HB0:=ah hb0;clear hb0
  have HB2:=ah hb2;clear hb2
  have uV:=ah hbs;clear hbs
  have hcall:∀W,W=WB→Calls Tryz.prog 137 #[.slice ae n ce] W fun e w'=>∃v',e= .returned v'∧OwnAt WB w' 100 4 v' n (jy es):=fun W hW=>by rw[hW];exact zh.out WB b_.out
  have acn:=ah hcall;clear hcall
  have eu:=ah lG.symm;clear lG
  go_enter Tryz.func97,Tryz.ntmps97
  go_wp2_with(go_at_call 137;refine(acn.out _ eu.out).mono ?_;rintro e w1 ⟨v1,rfl,ho1⟩;obtain⟨a1,c1,rfl⟩:=ho1.shape;have dZ:=ah ho1;clear ho1;have b1:w1.cell? ⟨w.heap.size,1,none⟩=some (.slice ak m ck):=dZ.out.aI.cell' (aG HB0.out 1 rfl) id;have hlt1:w.heap.size<w1.heap.size:=World.block_lt_of_cell? _ _ b1)
  have hln:aj aF w (w1.alloc (.cells #[.slice a1 n c1, .slice none 0 0] 28)):=(b_.out.aH dZ.out.aI).alloc1
  have hc0:sG w (w1.alloc (.cells #[.slice a1 n c1, .slice none 0 0] 28)) (w.heap.size+1) w1.heap.size n (.slice a1 n c1) (.slice none 0 0) es ks 0 []:=by
   have hs1:=dZ.out.aI.size
   have hbs:=uV.out
   refine⟨hln,(aj.alloc aF _ _).blk (dZ.out.aI.blk HB2.out id) id,heap_alloc_new w1 _,by omega,by have:=b_.out.size;omega,by omega,iH.nil hln _ _,?_,fun q hq=>(by cases hq),rfl,rfl⟩
   refine dZ.out.Aa.turn fun b hb hQ=>⟨Below.heap_alloc _ _ _ hb,by omega,by omega,by omega,by simp[Value.ownBlock]⟩
  have OE:=ah hc0;clear hc0
  have jR:=ah hln;clear hln
  clear b1 hlt1
  go_loopw [13] (fun i ww=>∃(k:Nat) (l:List dh) (Ee:Value),k≤m∧i= .int .i64 k∧sG w ww (w.heap.size+1) w1.heap.size n (.slice a1 n c1) Ee es ks k l) (fun i _=>m-(intOf i).toNat)
  case atStart=>exact⟨0,[],_,Nat.zero_le _,rfl,OE.out⟩
  case round=>
   obtain⟨k,l,Ee,hk,rfl,hc⟩:=hrel
   obtain⟨av,cv,rfl⟩:=hc.own.at_.shape
   have HC:=ah hc;clear hc
   by_cases hlt:k<m
   ·obtain⟨key,es',sub,rest,hdr⟩:=aT.uf (n:=k) (ks:=ks) (by rw[HM.out];exact hlt)
    rcases Rd.shape iT.out with⟨ad,he,h0⟩|⟨b,off,cc,he,hmax⟩
    ·exfalso;have:=HM.out;omega
    ·injection he with e1 e2 e3
     subst e1 e3
     clear e2
     obtain⟨ev',kv',q0,q1,q2,hta⟩:=rD (iT.out.aS HC.out.aI) (nR.out.aS HC.out.aI) hdr
     obtain⟨gZ,g_,rfl⟩:=hta.ents.rd.sl
     obtain⟨os',ji,nC⟩:=hta.kids
     obtain⟨h_,ig,rfl⟩:=ji.rd.sl
     clear ji nC
     have i_:=ah (xJ k hdr)
     have HST:=ah (yQ k hdr)
     have kF:=ah hta;clear hta
     have HIH:=ah (fun w' (h:aj aF wr w')=>IH.out es' sub w' _ _ (by have:=i_.out;have:=uh.out;omega) (kF.out.aS h) (by have:=HST.out;have:=iC.out;unfold sizeT at*;omega))
     have HDR:=ah hdr;clear hdr
     have hkp:k≤100000:=by omega
     generalize es'.length=n' at*
     generalize sub.len=m' at*
     have hsp:(wr.alloc (.cells #[.string key, .slice gZ n' g_, .slice h_ m' ig] 52)).heap[wr.heap.size]?=some (.cells #[.string key, .slice gZ n' g_, .slice h_ m' ig] 52 (0,0)):=heap_alloc_new wr _
     have nS:=ah hsp;clear hsp
     have aco:=lt_of_block HC.out.b3
     have OG:=lt_of_block HC.out.b2
     have Vs:∀b,(Value.slice av k cv).ownBlock=some b→b<wr.heap.size:=fun b hb=>HC.out.own.at_.lt b hb
     have Vt:=ah Vs;clear Vs
     have hfa:aj aF wr (wr.alloc (.cells #[.string key, .slice gZ n' g_, .slice h_ m' ig] 52)).drew:=(aj.alloc _ _ _).zN
     have gK:=ah hfa;clear hfa
     have hsz0:(wr.alloc (.cells #[.string key, .slice gZ n' g_, .slice h_ m' ig] 52)).drew.heap.size=wr.heap.size+1:=by show(wr.alloc _).heap.size=_;simp
     have Vu:=ah hsz0;clear hsz0
     go_wp2_with fail
     refine iq (S:=fun w'=>w'.cell? ⟨wr.heap.size,0,none⟩=some (.string key)∧w'.cell? ⟨wr.heap.size,1,none⟩=some (.slice gZ n' g_)∧w'.cell? ⟨wr.heap.size,2,none⟩=some (.slice h_ m' ig)∧w'.cell? ⟨w1.heap.size,1,none⟩=some (.slice av k cv)) 11 (by kernel_rfl) ⟨aG nS.out 0 rfl,aG nS.out 1 rfl,aG nS.out 2 rfl,gK.out.cell' (aG HC.out.b3 1 rfl) id⟩ ?_
     intro hS
     generalize (wr.alloc (.cells #[.string key, .slice gZ n' g_, .slice h_ m' ig] 52)).drew=Y0 at*
     refine aX 0 17 rfl rfl ?_
     refine aX 1 18 rfl rfl ?_
     try simp only[Act.put,aO,aN,aJ]
     refine aX 2 19 rfl rfl ?_
     refine aX 3 20 rfl rfl ?_
     try simp only[Act.put,aO,aN,aJ]
     refine aX 4 21 rfl rfl ?_
     refine aX 5 22 rfl rfl ?_
     try simp only[Act.put,aO,aN,aJ]
     refine bg (i:=6) (by kernel_rfl) rfl (fun K hK=>?_)
     go_simp
     refine(HIH.out _ gK.out).mono ?_
     rintro e Y ⟨uX,jV,-,rfl,lX,hf3,-⟩
     obtain⟨a3,c3,rfl⟩:=lX.ents.rd.sl
     obtain⟨os3,pW,-⟩:=lX.kids
     obtain⟨a4,c4,rfl⟩:=pW.rd.sl
     clear pW
     have GH:=ah lX;clear lX
     have HF3:=ah hf3;clear hf3
     generalize es'.length=n3 at*
     generalize sub.len=m3 at*
     have hS3:Y.cell? ⟨wr.heap.size,0,none⟩=some (.string key)∧Y.cell? ⟨wr.heap.size,1,none⟩=some (.slice gZ n' g_)∧Y.cell? ⟨wr.heap.size,2,none⟩=some (.slice h_ m' ig)∧Y.cell? ⟨w1.heap.size,1,none⟩=some (.slice av k cv):=⟨HF3.out.cell' hS.1 id,HF3.out.cell' hS.2.1 id,HF3.out.cell' hS.2.2.1 id,HF3.out.cell' hS.2.2.2 id⟩
     refine hK.out _ _ hS3 ?_
     clear hK K hS
     try simp only[Act.put,aO,aN,aJ]
     refine aX 7 24 rfl rfl ?_
     try simp only[Act.put,aO,aN,aJ]
     refine bg (i:=8) (by kernel_rfl) rfl (fun K hK=>?_)
     go_simp
     have hS4:(Y.alloc (.cells #[.string key, .slice a3 n3 c3, .slice a4 m3 c4] 52)).cell? ⟨wr.heap.size,0,none⟩=some (.string key)∧(Y.alloc (.cells #[.string key, .slice a3 n3 c3, .slice a4 m3 c4] 52)).cell? ⟨wr.heap.size,1,none⟩=some (.slice gZ n' g_)∧(Y.alloc (.cells #[.string key, .slice a3 n3 c3, .slice a4 m3 c4] 52)).cell? ⟨wr.heap.size,2,none⟩=some (.slice h_ m' ig)∧(Y.alloc (.cells #[.string key, .slice a3 n3 c3, .slice a4 m3 c4] 52)).cell? ⟨w1.heap.size,1,none⟩=some (.slice av k cv):=⟨(aj.alloc aF Y _).cell' hS3.1 id,(aj.alloc aF Y _).cell' hS3.2.1 id,(aj.alloc aF Y _).cell' hS3.2.2.1 id,(aj.alloc aF Y _).cell' hS3.2.2.2 id⟩
     refine hK.out _ _ hS4 ?_
     clear hK K
     try simp only[Act.put,aO,aN,aJ]
     refine bg (i:=9) (by kernel_rfl) rfl (fun K hK=>?_)
     have Ef:=ah ((HC.out.keep gK.out).keep HF3.out)
     have hsY:wr.heap.size<Y.heap.size:=by have:=HF3.out.size;have:=Vu.out;omega
     refine Ol (fun b=>b<Y.heap.size∧(Value.slice av k cv).ownBlock≠some b) w Y [.string key, .slice a3 n3 c3, .slice a4 m3 c4] rfl (.tmp 18) (.tmp 25) 26 rfl 52 i0 _ 3 64 Tryz.underlying26 hi hz0 hz1 hz2 (by decide) (by decide) (.slice av k cv) k _ ⟨Ef.out.own.at_,fun b hb hn=>hn.2 hb⟩ (fun b hb=>hb.1) 1 1 (by simp[Act.eval]) (by simp[Act.eval]) rfl (by simp[Value.oneCell']) (by simp only[maxLen];omega) (by omega) ?_
     intro ad lg w2 bP j_
     have hnk:∀b,b≤wr.heap.size→(Value.slice av k cv).ownBlock≠some b→b<Y.heap.size∧(Value.slice av k cv).ownBlock≠some b:=fun b hb hn=>⟨by omega,hn⟩
     have hle3:w1.heap.size≤wr.heap.size:=Nat.le_of_lt aco
     have vV:(Value.slice av k cv).ownBlock≠some wr.heap.size:=fun h=>by have:=Vt.out _ h;omega
     have hn3:(Value.slice av k cv).ownBlock≠some w1.heap.size:=fun h=>HC.out.own.but _ h (.inr rfl)
     have hS5:w2.cell? ⟨wr.heap.size,0,none⟩=some (.string key)∧w2.cell? ⟨wr.heap.size,1,none⟩=some (.slice gZ n' g_)∧w2.cell? ⟨wr.heap.size,2,none⟩=some (.slice h_ m' ig)∧w2.cell? ⟨w1.heap.size,1,none⟩=some (.slice av k cv):=⟨j_.cell (hnk _ (Nat.le_refl _) vV) hS3.1,j_.cell (hnk _ (Nat.le_refl _) vV) hS3.2.1,j_.cell (hnk _ (Nat.le_refl _) vV) hS3.2.2.1,j_.cell (hnk _ hle3 hn3) hS3.2.2.2⟩
     refine hK.out _ _ hS5 ?_
     clear hK K hS4
     have hcf:w2.frozen? ⟨w1.heap.size,1,none⟩=false:=j_.frozen (p:=⟨w1.heap.size,1,none⟩) (hnk _ hle3 hn3) (aW Ef.out.b3 1)
     have hfm:aj (eG (.slice av k cv)) Y w2:=⟨bP.at_.aI.os.trans Ef.out.aI.os.symm,bP.at_.aI.tape.trans Ef.out.aI.tape.symm,bP.at_.aI.output.trans Ef.out.aI.output.symm,j_.1,fun b hb hn=>j_.2 b ⟨hb,hn⟩⟩
     have hfr:lN Y (.slice av k cv) (.slice ad (k+1) lg):=fun b hb=>by
      by_cases h1:(Value.slice av k cv).ownBlock=some b
      ·exact .inl h1
      ·refine .inr ?_
       have:=bP.but b hb
       rcases Nat.lt_or_ge b Y.heap.size with h2|h2
       ·exact absurd ⟨h2,h1⟩ this
       ·exact h2
     have hq3:bZ (Ac w (w.heap.size+1) w1.heap.size (.slice av k cv)) Y (.slice a3 n3 c3) (.slice a4 m3 c4) es' sub:=GH.out.turn fun b hb hQ=>by
      have h0:=Vu.out
      have h1:=HC.out.aI.size
      refine⟨rfl,by omega,by omega,by omega,fun h=>?_⟩
      have:=Vt.out _ h
      omega
     have rG:=ah (Ef.out.step (q:=⟨key,es',sub, .slice a3 n3 c3, .slice a4 m3 c4⟩) HDR.out hq3 bP.at_.own hfm hfr)
     clear bP j_ hfm hfr hq3 hnk vV hn3 hsY
     try simp only[Act.put,aO,aN,aJ]
     refine aX 10 27 rfl rfl ?_
     try simp only[Act.put,aO,aN,aJ]
     refine gJ (by kernel_rfl) (by kernel_rfl) rfl (fun K hK=>?_)
     have hcz:=hS5.2.2.2
     clear hS5 hS3
     go_simp
     refine hK.out _ _ ?_
     clear hK K hcz hcf
     go_wp2
     go_roundw
     case rel=>exact⟨k+1,_,_,by omega,by go_num,rG.out⟩
     case measure=>simp[intOf];omega
   ·obtain rfl:m=k:=by omega
    have hdn:=HC.out.done HN.out.symm (by rw[HM.out];exact Nat.le_refl _)
    have lW:=ah hdn;clear hdn
    have HTP:=ah (HC.out.top (by rw[HM.out];exact Nat.le_refl _))
    have y0:=aG HC.out.b3 0 rfl
    have y1:=aG HC.out.b3 1 rfl
    have z0:=aG HC.out.b2 0 rfl
    have z1:=aG HC.out.b2 1 rfl
    have f0:=aW HC.out.b2 0
    have f1:=aW HC.out.b2 1
    go_wp2
    clear y0 y1 z0 z1
    have y0:=aG lW.out.2.2 0 rfl
    have y1:=aG lW.out.2.2 1 rfl
    exact bodyPost_ret (v:= .agg #[.slice a1 n c1, .slice av m cv]) (by simp[results,Tryz.results97,go_sem,y0,y1]) rfl ⟨_,_,l,rfl,lW.out.1,lW.out.2.1,HTP.out⟩
theorem acs (Q:Nat→Prop) (N:Nat) (es:List aQ) (ks:aT) (w:World) (ev kv:Value) (hN:dM ks<N) (h:bZ Q w ev kv es ks) (hs:sizeT es ks≤100000):Calls Tryz.prog 97 #[.agg #[ev,kv]] w (Kq w es ks):=
 (Vr Q N es ks w ev kv hN h hs).mono fun _ _ ⟨ev',kv',_,h1,h2,h3,_⟩=>⟨ev',kv',h1,h2,h3⟩
open Go.RowKit
theorem vZ {w:World} {b j k:Nat} {v:Value} (h:k≠b):(w.setCell ⟨b,j,none⟩ v).heap[k]?=w.heap[k]?:=Below.heap_setCell _ _ _ _ h
theorem res2 {w0 w:World} {b:Nat} {T:TypeId} {a0 a1:Value} (h:w.heap[b]?=some (.cells #[a0,a1] T (0,0))) (f:aj aF w0 w) (hb:w0.heap.size≤b) (v0 v1:Value):
 ((w.setCell ⟨b,0,none⟩ v0).setCell ⟨b,1,none⟩ v1).heap[b]?=some (.cells #[v0,v1] T (0,0))∧aj aF w0 ((w.setCell ⟨b,0,none⟩ v0).setCell ⟨b,1,none⟩ v1)∧
   ∀k,k≠b→((w.setCell ⟨b,0,none⟩ v0).setCell ⟨b,1,none⟩ v1).heap[k]?=w.heap[k]?:=
 ⟨eY (eY h 0 v0) 1 v1,(f.set1 (p:=⟨b,0,none⟩) (.inr hb)).set1 (p:=⟨b,1,none⟩) (.inr hb),fun k hk=>(vZ hk).trans (vZ hk)⟩
theorem BP {w0 w:World} {b:Nat} {T:TypeId} {a0 a1 a2:Value} (h:w.heap[b]?=some (.cells #[a0,a1,a2] T (0,0))) (f:aj aF w0 w) (hb:w0.heap.size≤b) (v0 v1 v2:Value):
 (((w.setCell ⟨b,0,none⟩ v0).setCell ⟨b,1,none⟩ v1).setCell ⟨b,2,none⟩ v2).heap[b]?=some (.cells #[v0,v1,v2] T (0,0))∧aj aF w0 (((w.setCell ⟨b,0,none⟩ v0).setCell ⟨b,1,none⟩ v1).setCell ⟨b,2,none⟩ v2)∧
   ∀k,k≠b→(((w.setCell ⟨b,0,none⟩ v0).setCell ⟨b,1,none⟩ v1).setCell ⟨b,2,none⟩ v2).heap[k]?=w.heap[k]?:=
 ⟨eY (eY (eY h 0 v0) 1 v1) 2 v2,((f.set1 (p:=⟨b,0,none⟩) (.inr hb)).set1 (p:=⟨b,1,none⟩) (.inr hb)).set1 (p:=⟨b,2,none⟩) (.inr hb),fun k hk=>((vZ hk).trans (vZ hk)).trans (vZ hk)⟩
theorem lY (w:World) (o:Obj) (cs:Array Value) (T:TypeId):((w.alloc o).alloc (.cells cs T)).heap[w.heap.size+1]?=some (.cells cs T (0,0))∧aj aF w ((w.alloc o).alloc (.cells cs T))∧((w.alloc o).alloc (.cells cs T)).heap.size=w.heap.size+1+1:=by
 refine⟨?_,(aj.alloc _ _ _).alloc1,by simp⟩
 have:=heap_alloc_new (w.alloc o) (.cells cs T)
 simpa using this
theorem oz (w:World) (v0 v1:Value) (T:TypeId) (W:World) (f:aj aF (w.alloc (.cells #[v0,v1] T)) W):W.cell? ⟨w.heap.size,0,none⟩=some v0∧W.cell? ⟨w.heap.size,1,none⟩=some v1:=
 ⟨f.cell' (aG (heap_alloc_new w _) 0 rfl) id,f.cell' (aG (heap_alloc_new w _) 1 rfl) id⟩
theorem jc (w:World) (v0 v1 v2:Value) (T:TypeId) (W:World) (f:aj aF (w.alloc (.cells #[v0,v1,v2] T)) W):W.cell? ⟨w.heap.size,0,none⟩=some v0∧W.cell? ⟨w.heap.size,1,none⟩=some v1∧W.cell? ⟨w.heap.size,2,none⟩=some v2:=
 ⟨f.cell' (aG (heap_alloc_new w _) 0 rfl) id,f.cell' (aG (heap_alloc_new w _) 1 rfl) id,f.cell' (aG (heap_alloc_new w _) 2 rfl) id⟩
open Go.RowKit
theorem GI (Q:Nat→Prop) (es:List aQ) (ks:aT) (w:World) (ev kv:Value) (ht:bZ Q w ev kv es ks) (hok:lF es ks):
 Calls Tryz.prog 89 #[.agg #[ev,kv]] w fun e w'=>e= .returned (.bool (bM 5 es ks))∧aj aF w w':=by
 obtain⟨ae,ce,rfl⟩:=ht.ents.rd.sl
 obtain⟨os,hkr,gY⟩:=ht.kids
 obtain⟨ak,ck,rfl⟩:=hkr.rd.sl
 have hc:∀W,aj aF w W→Calls Tryz.prog 125 #[.agg #[.slice ae es.length ce, .slice ak ks.len ck], .int .i64 5] W fun e w'=>e= .returned (.bool (bM 5 es ks))∧aj aF W w':=fun W f=>ach Q _ es ks 5 W _ _ (Nat.lt_succ_self _) (ht.aS f) hok (by omega)
 have HC:=ah hc
 clear hkr gY ht hok hc
 generalize bM 5 es ks=y at*
 generalize es.length=n at*
 generalize ks.len=m at*
 go_enter Tryz.func89,Tryz.ntmps89
 go_wp2_with(go_at_call 125;refine(HC.out _ (aj.alloc _ _ _)).mono ?_;rintro e w3 ⟨rfl,hw3⟩;have HW3:=ah ((aj.alloc aF _ _).aH hw3);clear hw3)
 go_ret
 exact⟨rfl,HW3.out⟩
def OH (w:World) (es:List aQ) (ks:aT) (e:Ending) (w':World):Prop:=
 aj aF w w'∧(bM 5 es ks=true→∃v' c,e= .returned (.tuple #[v', .int .i64 0])∧OwnAt w w' 92 3 v' c.length (dY c)∧tZ (iY es ks) c∧c.length≤16000)∧(bM 5 es ks=false→e= .returned (.tuple #[.slice none 0 0, .int .i64 1]))
theorem acu (Q:Nat→Prop) (es:List aQ) (ks:aT) (w:World) (ev kv:Value) (ht:bZ Q w ev kv es ks) (hok:lF es ks) (hsz:sizeT es ks≤4000):
 Calls Tryz.prog 69 #[.agg #[ev,kv]] w (OH w es ks):=by
 obtain⟨ae,ce,rfl⟩:=ht.ents.rd.sl
 obtain⟨os,hkr,gY⟩:=ht.kids
 obtain⟨ak,ck,rfl⟩:=hkr.rd.sl
 have HR:=ah (fun W (f:aj aF w W)=>GI Q es ks W _ _ (ht.aS f) hok)
 have HA:=ah (fun w' (h:aj aF w w')=>abl Q _ es ks w' _ _ (Nat.lt_succ_self _) (ht.aS h) (by omega))
 have hdl:=JH es ks
 have oU:=ah (show(iY es ks).length≤4000 by omega)
 clear hkr gY ht hok hsz hdl
 by_cases hr:bM 5 es ks=true
 ·have HDK:=ah (Oa hr)
  rw[hr]at HR
  have pX:=ah hr;clear hr
  have hpost:∀e w',aj aF w w'→(∃v' c,e= .returned (.tuple #[v', .int .i64 0])∧OwnAt w w' 92 3 v' c.length (dY c)∧tZ (iY es ks) c∧c.length≤16000)→OH w es ks e w':=fun e w' h1 h2=>⟨h1,fun _=>h2,fun h=>by rw[pX.out]at h;cases h⟩
  have BQ:=ah hpost;clear hpost
  generalize iY es ks=l at*
  generalize es.length=n at*
  generalize ks.len=m at*
  go_enter Tryz.func69,Tryz.ntmps69
  go_wp2_with(first
   |(go_at_call 89;refine(HR.out _ (aj.alloc _ _ _)).mono ?_;rintro e w1 ⟨rfl,hw1⟩;obtain⟨y0,y1⟩:=oz w _ _ _ w1 hw1;have HW1:=ah ((aj.alloc aF _ _).aH hw1);clear hw1)
   |(go_at_call 91;refine(HA.out _ HW1.out).mono ?_;rintro e w2 ⟨v2,rfl,ho2⟩;obtain⟨a2,c2,rfl⟩:=ho2.shape;have gW:=ah ho2;clear ho2)
   |(go_at_call 90;refine(ace _ _ l gW.out.rd HDK.out (by have:=oU.out;omega)).mono ?_;rintro e w3 ⟨v3,c,rfl,ho3,hof,-⟩;obtain⟨a3,c3,rfl⟩:=ho3.shape;have dw:=ah ho3;clear ho3;have oq:=ah hof;clear hof))
  go_ret2
  have hf:=(HW1.out.aH gW.out.aI).aH dw.out.aI
  exact BQ.out _ _ hf ⟨_,c,rfl,dw.out.base (HW1.out.aH gW.out.aI),oq.out,by have:=oq.out.length;have:=oU.out;omega⟩
 ·have hr':bM 5 es ks=false:=by simpa using hr
  rw[hr']at HR
  have pX:=ah hr';clear hr hr' oU HA
  have hpost:∀w',aj aF w w'→OH w es ks (.returned (.tuple #[.slice none 0 0, .int .i64 1])) w':=fun w' h1=>⟨h1,(fun h=>by rw[pX.out]at h;cases h),fun _=>rfl⟩
  have BQ:=ah hpost;clear hpost pX
  generalize es.length=n at*
  generalize ks.len=m at*
  go_enter Tryz.func69,Tryz.ntmps69
  go_wp2_with(go_at_call 89;refine(HR.out _ (aj.alloc _ _ _)).mono ?_;rintro e w1 ⟨rfl,hw1⟩;have HW1:=ah ((aj.alloc aF _ _).aH hw1);clear hw1)
  go_ret2
  exact BQ.out _ HW1.out
theorem acv (Q:Nat→Prop) (es:List aQ) (ks:aT) (w:World) (ev kv:Value) (ht:bZ Q w ev kv es ks) (hok:lF es ks) (hsz:sizeT es ks≤4000) (hr:bM 5 es ks=true):
 Calls Tryz.prog 74 #[.agg #[ev,kv]] w (Kq w es ks):=by
 obtain⟨ae,ce,rfl⟩:=ht.ents.rd.sl
 obtain⟨os,hkr,gY⟩:=ht.kids
 obtain⟨ak,ck,rfl⟩:=hkr.rd.sl
 have HR:=ah (fun W (f:aj aF w W)=>GI Q es ks W _ _ (ht.aS f) hok)
 have HA:=ah (fun w' (h:aj aF w w')=>acs Q _ es ks w' _ _ (Nat.lt_succ_self _) (ht.aS h) (by omega))
 rw[hr]at HR
 have sF:=ah (show ∀w1 w',aj aF w w1→∀ev' kv',bZ (fun b=>w1.heap.size≤b) w' ev' kv' es ks→bZ (fun b=>w.heap.size≤b) w' ev' kv' es ks from fun w1 w' h ev' kv' h2=>h2.turn fun b hb hQ=>⟨rfl,Nat.le_trans h.size hQ⟩)
 clear hkr gY ht hok hsz hr
 generalize hes:es.length=n at*
 generalize hkl:ks.len=m at*
 obtain⟨hb2,hfb,hbs⟩:=lY w (.cells #[.slice ae n ce, .slice ak m ck] 28) #[.slice none 0 0, .slice none 0 0] 28
 have HB2:=ah hb2;clear hb2
 have b_:=ah hfb;clear hfb
 have uV:=ah hbs;clear hbs
 have Eh:=ah hes;clear hes
 have iZ:=ah hkl;clear hkl
 go_enter Tryz.func74,Tryz.ntmps74
 go_wp2_with(first
  |(go_at_call 89;refine(HR.out _ b_.out).mono ?_;rintro e w1 ⟨rfl,hw1⟩;obtain⟨y0,y1⟩:=oz w _ _ _ w1 ((aj.alloc aF _ _).aH hw1);have HW1:=ah hw1;clear hw1)
  |(go_at_call 97;refine(HA.out _ (b_.out.aH HW1.out)).mono ?_;rintro e w2 ⟨uX,jV,rfl,lX,hf3⟩;obtain⟨a3,c3,rfl⟩:=lX.ents.rd.sl;obtain⟨os3,pW,-⟩:=lX.kids;obtain⟨a4,c4,rfl⟩:=pW.rd.sl;clear pW;have hblk:=hf3.blk (HW1.out.blk HB2.out id) id;have y0:=aG hblk 0 rfl;have y1:=aG hblk 1 rfl;have g0:=aW hblk 0;have g1:=aW hblk 1;have hsb:=ah (lt_of_block hblk);have HR2:=ah (res2 hblk ((b_.out.aH HW1.out).aH hf3) (by omega) (.slice a3 es.length c3) (.slice a4 ks.len c4));have hs1:=HW1.out.size;have HP:=ah (lX.turn (Q':=fun b=>w.heap.size≤b) fun b hb hQ=>⟨HR2.out.2.2 b (by have:=uV.out;omega),by have:=uV.out;omega⟩);clear lX hf3 hblk hs1;rw[Eh.out,iZ.out]at HR2 HP;rw[Eh.out,iZ.out]))
 clear y0 y1
 have y0:=aG HR2.out.1 0 rfl
 have y1:=aG HR2.out.1 1 rfl
 exact bodyPost_ret (v:= .agg #[.slice a3 n c3, .slice a4 m c4]) (by simp[results,Tryz.results74,go_sem,y0,y1]) rfl ⟨_,_,rfl,HP.out,HR2.out.2.1⟩
end Go.Proofs.YtlhmbkjdfjoilaaGreat
