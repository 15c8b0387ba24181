/- Words for the law ShSet: TRight, KidQ, TClone, TClone2, TClone3, Res. -/
import Derived.Test.YtlhmbkjdfjoilaaGreatShSetG0
import Derived.Test.YtlhmbkjdfjoilaaGreatShSetG4
import Derived.Test.YtlhmbkjdfjoilaaGreatShSetG7
import Derived.Test.YtlhmbkjdfjoilaaGreatShSetG8
set_option linter.unusedSimpArgs false
set_option linter.unusedVariables false
set_option maxHeartbeats 32000000
set_option maxRecDepth 1000000
namespace Go.Proofs.YtlhmbkjdfjoilaaGreat
open Go.RowKit
theorem Qn {ks:aH} {d:Nat} {es:List aG} (he:eP none es=true):aY (d+1) es ks=fQ ks d none:=by
 rw[aY,Nat.add_sub_cancel,he];simp
theorem Qo (Q:Nat→Prop):∀(N:Nat) (es:List aG) (ks:aH) (d:Nat) (w:World) (ev kv:Value),dF ks<N→bC Q w ev kv es ks→iE es ks→d≤100→
 Calls Tryz.prog 125 #[.agg #[ev,kv], .int .i64 d] w fun e w'=>e= .returned (.bool (aY d es ks))∧aj au w w':=by
 intro N
 induction N with
 |zero=>intros;exfalso;omega
 |succ N gG=>
  intro es ks d w ev kv hN ht hok hd
  obtain⟨ae,ce,rfl⟩:=ht.ents.rd.sl
  obtain⟨os,hkr,dU⟩:=ht.kids
  obtain⟨ak,ck,rfl⟩:=hkr.rd.sl
  have HT:=ah ht;clear ht
  have fH:=ah hkr.rd;clear hkr
  have jH:=ah dU;clear dU
  have IH:=ah gG;clear gG
  have bT:=ah (aj.alloc au w (.cells #[.slice ae es.length ce, .slice ak ks.len ck] 28))
  have box0:(w.alloc (.cells #[.slice ae es.length ce, .slice ak ks.len ck] 28)).cell? ⟨w.heap.size,0,none⟩=some (.slice ae es.length ce):=aI (heap_alloc_new w _) 0 rfl
  have box1:(w.alloc (.cells #[.slice ae es.length ce, .slice ak ks.len ck] 28)).cell? ⟨w.heap.size,1,none⟩=some (.slice ak ks.len ck):=aI (heap_alloc_new w _) 1 rfl
  have B0:=ah box0;clear box0
  have B1:=ah box1;clear box1
  have IB:=ah hok.es.len
  have f_:=ah hok.len
  have dQ:=ah hok;clear hok
  have jS:=ah hN;clear hN
  cases d with
  |zero=>
   go_enter Tryz.func125,Tryz.ntmps125
   go_wp2
   go_ret
   exact⟨bH (by simp[aY]),bT.out⟩
  |succ d=>
   generalize hes:es.length=n at*
   have HN:=ah hes;clear hes
   generalize hkl:ks.len=m at*
   have HM:=ah hkl;clear hkl
   have hd9:(d:Int)≤100:=by omega
   have hd1:¬(((d+1:Nat):Int)<1):=by omega
   have HD:=ah hd;clear hd
   cases hre:eP none es with
   |false=>
    have wZ:=ah (fun W (h:aj au (w.alloc (.cells #[.slice ae n ce, .slice ak m ck] 28)) W)=>II W (.slice ae n ce) es (by have:=(HT.out.aN bT.out).ents.rd;rw[HN.out]at this⊢;exact this.aN h) dQ.out.es)
    rw[hre]at wZ
    have b0:=B0.out
    go_enter Tryz.func125,Tryz.ntmps125
    go_wp2_with(go_at_call 163;refine(wZ.out _ (aj.refl _ _)).mono ?_;rintro e w1 ⟨rfl,hw1⟩;have HW1:=ah hw1;clear hw1)
    go_ret
    exact⟨bH (by rw[aY,hre];simp),bT.out.aF HW1.out⟩
   |true=>
    have wZ:=ah (fun W (h:aj au (w.alloc (.cells #[.slice ae n ce, .slice ak m ck] 28)) W)=>II W (.slice ae n ce) es (by have:=(HT.out.aN bT.out).ents.rd;rw[HN.out]at this⊢;exact this.aN h) dQ.out.es)
    rw[hre]at wZ
    have Qp:=ah hre;clear hre
    have b0:=B0.out
    go_enter Tryz.func125,Tryz.ntmps125
    go_wp2_with(go_at_call 163;refine(wZ.out _ (aj.refl _ _)).mono ?_;rintro e w1 ⟨rfl,hw1⟩;have HW:=ah hw1;clear hw1;have b1:=HW.out.cell' B1.out id)
    clear b0 b1
    go_loopw [18] (fun i ww=>∃(k:Nat) (p:Option ByteArray),k≤m∧i= .int .i64 k∧Iz ks k p∧fQ ks d none=fQ (ks.drop k) d p∧aj au (w.alloc (.cells #[.slice ae n ce, .slice ak m ck] 28)) ww) (fun i _=>m-(intOf i).toNat)
    case atStart=>exact⟨0,none,Nat.zero_le _,rfl, .inl ⟨rfl,rfl⟩,rfl,HW.out⟩
    case round=>
     obtain⟨k,p,hk,rfl,hp,hr,hw⟩:=hrel
     have cu:=ah hw;clear hw
     have HP:=ah hp;clear hp
     have b1:=cu.out.cell' B1.out id
     by_cases hlt:k<m
     ·obtain⟨key,es',sub,rest,hdr⟩:=aH.nI (n:=k) (ks:=ks) (by rw[HM.out];exact hlt)
      have hmm:(m:Int)≤9223372036854775807:=by have:=f_.out;omega
      rcases Rd.shape (fH.out.aN (bT.out.aF cu.out))with⟨ad,he,h0⟩|⟨b,off,cc,he,hmax⟩
      ·exfalso;have:=HM.out;omega
      ·injection he with e1 e2 e3
       subst e1 e3
       clear e2 hmax
       obtain⟨ev',kv',c0,c1,c2,hta⟩:=lG (fH.out.aN (bT.out.aF cu.out)) (jH.out.aN (bT.out.aF cu.out)) hdr
       obtain⟨dI,dJ,rfl⟩:=hta.ents.rd.sl
       obtain⟨os',fC,jA⟩:=hta.kids
       obtain⟨dK,dL,rfl⟩:=fC.rd.sl
       clear fC jA
       have hok':=dQ.out.ks.drop k
       rw[hdr]at hok'
       have hkz:=hok'.1
       have hsub:iE es' sub:=⟨hok'.2.1,hok'.2.2.1,hok'.2.2.2.1⟩
       have l1:((es'.length:Nat):Int)≤140737488351232:=by have:=hsub.es.len;omega
       have l2:((sub.len:Nat):Int)≤140737488351232:=by have:=hsub.len;omega
       have uV:=ah hsub;clear hsub hok'
       have eF:=ah (qx k hdr)
       rw[Iy hdr]at hr
       have HDR:=ah hdr;clear hdr
       have hbf:aj au wr (wr.alloc (.cells #[.string key, .slice dI es'.length dJ, .slice dK sub.len dL] 52)):=aj.alloc _ _ _
       have n0:(wr.alloc (.cells #[.string key, .slice dI es'.length dJ, .slice dK sub.len dL] 52)).cell? ⟨wr.heap.size,0,none⟩=some (.string key):=aI (heap_alloc_new wr _) 0 rfl
       have n1:(wr.alloc (.cells #[.string key, .slice dI es'.length dJ, .slice dK sub.len dL] 52)).cell? ⟨wr.heap.size,1,none⟩=some (.slice dI es'.length dJ):=aI (heap_alloc_new wr _) 1 rfl
       have n2:(wr.alloc (.cells #[.string key, .slice dI es'.length dJ, .slice dK sub.len dL] 52)).cell? ⟨wr.heap.size,2,none⟩=some (.slice dK sub.len dL):=aI (heap_alloc_new wr _) 2 rfl
       have iF:=ah (hta.aN hbf);clear hta
       have sQ:=cu;clear cu
       have cu:=ah (sQ.out.aF hbf)
       have kk:∀j jT es0 qy qA,ks.drop j= .cons jT es0 qy qA→wr.cell? ⟨b,off+j*3,none⟩=some (.string jT):=fun j jT es0 qy qA h=>by
        obtain⟨_,_,h0,_⟩:=lG (fH.out.aN (bT.out.aF sQ.out)) (jH.out.aN (bT.out.aF sQ.out)) h
        exact h0
       have KK:=ah kk;clear kk
       have HIH:=ah (fun w' (h:aj au (wr.alloc (.cells #[.string key, .slice dI es'.length dJ, .slice dK sub.len dL] 52)) w')=>IH.out es' sub d w' _ _ (by have:=eF.out;have:=jS.out;omega) (iF.out.aN h) uV.out (by have:=HD.out;omega))
       have hem:∀W,Calls Tryz.prog 113 #[.agg #[.slice dI es'.length dJ, .slice dK sub.len dL]] W fun e w'=>e= .returned (.bool (isNil es' sub))∧aj au W w':=fun W=>empty_any dI dK es'.length sub.len dJ dL W
       have jI:=ah hem;clear hem
       generalize es'.length=n' at*
       generalize sub.len=m' at*
       obtain⟨α,hne,K,hK3,hK0,hK2⟩:=worlds (wr.alloc (.cells #[.string key, .slice dI n' dJ, .slice dK m' dL] 52))
       have hK1:=hK3
       have Qe:=fun s=>(hK1 s).cell' (hbf.cell' b1 id) id
       have Qg:=fun s=>(hK1 s).cell' n0 id
       have Qh:=fun s=>(hK1 s).cell' n1 id
       have Qi:=fun s=>(hK1 s).cell' n2 id
       clear n0 n1 n2
       have hge:=Iw
       rcases HP.out with⟨rfl,rfl⟩|⟨j,jT,es0,qy,qA,rfl,hdj,rfl⟩
       ·simp only[Nat.zero_mul,Nat.add_zero]at c0 c1 c2
        cases g1:lg key with
        |false=>
         rw[g1]at hr
         simp only[Bool.false_and]at hr
         have hst:aY (d+1) es ks=false:=by rw[aY,Nat.add_sub_cancel,hr];simp
         have HST:=ah hst;clear hst hr
         go_wp2_with fail
         refine dA K (by kernel_rfl) (by kernel_rfl) hK0 ?_
         repeat(go_big_quiet_step ((first|(go_at_call 164;exact Calls.bf hK2 (Calls.jG (qc key _ hkz)))|(go_at_call 113;exact Calls.bf hK2 (jI.out _))|(go_at_call 125;exact Calls.bf hK2 (HIH.out _ (hK3 _))))))
         refine wpQuiet_nil ?_
         intro w' hw'
         obtain⟨s,rfl⟩:=hw'
         have hfs:=hK1 s
         go_wp2
         go_ret
         exact⟨bH HST.out.symm,bT.out.aF (cu.out.aF hfs)⟩
        |true=>
         cases g3:isNil es' sub with
         |true=>
          rw[g1,g3]at hr
          rw[g3]at jI
          simp only[Bool.not_true,Bool.and_false,Bool.false_and]at hr
          have hst:aY (d+1) es ks=false:=by rw[aY,Nat.add_sub_cancel,hr];simp
          have HST:=ah hst;clear hst hr
          go_wp2_with fail
          refine dA K (by kernel_rfl) (by kernel_rfl) hK0 ?_
          repeat(go_big_quiet_step ((first|(go_at_call 164;exact Calls.bf hK2 (Calls.jG (qc key _ hkz)))|(go_at_call 113;exact Calls.bf hK2 (jI.out _))|(go_at_call 125;exact Calls.bf hK2 (HIH.out _ (hK3 _))))))
          refine wpQuiet_nil ?_
          intro w' hw'
          obtain⟨s,rfl⟩:=hw'
          have hfs:=hK1 s
          go_wp2
          go_ret
          exact⟨bH HST.out.symm,bT.out.aF (cu.out.aF hfs)⟩
         |false=>
          rw[g3]at jI
          cases g4:aY d es' sub with
          |false=>
           rw[g1,g3,g4]at hr
           rw[g4]at HIH
           simp only[Bool.and_false,Bool.false_and]at hr
           have hst:aY (d+1) es ks=false:=by rw[aY,Nat.add_sub_cancel,hr];simp
           have HST:=ah hst;clear hst hr
           go_wp2_with fail
           refine dA K (by kernel_rfl) (by kernel_rfl) hK0 ?_
           repeat(go_big_quiet_step ((first|(go_at_call 164;exact Calls.bf hK2 (Calls.jG (qc key _ hkz)))|(go_at_call 113;exact Calls.bf hK2 (jI.out _))|(go_at_call 125;exact Calls.bf hK2 (HIH.out _ (hK3 _))))))
           refine wpQuiet_nil ?_
           intro w' hw'
           obtain⟨s,rfl⟩:=hw'
           have hfs:=hK1 s
           go_wp2
           go_ret
           exact⟨bH HST.out.symm,bT.out.aF (cu.out.aF hfs)⟩
          |true=>
           rw[g1,g3,g4]at hr
           rw[g4]at HIH
           simp only[ltK,Bool.not_false,Bool.and_true,Bool.true_and]at hr
           have HST:=ah hr;clear hr
           go_wp2_with fail
           refine dA K (by kernel_rfl) (by kernel_rfl) hK0 ?_
           repeat(go_big_quiet_step ((first|(go_at_call 164;exact Calls.bf hK2 (Calls.jG (qc key _ hkz)))|(go_at_call 113;exact Calls.bf hK2 (jI.out _))|(go_at_call 125;exact Calls.bf hK2 (HIH.out _ (hK3 _))))))
           refine wpQuiet_nil ?_
           intro w' hw'
           obtain⟨s,rfl⟩:=hw'
           have hfs:=hK1 s
           go_wp2
           go_roundw
           case rel=>exact⟨0+1,some key,by omega,by go_num, .inr ⟨0,key,es',sub,rest,rfl,HDR.out,rfl⟩,HST.out,cu.out.aF hfs⟩
           case measure=>simp[intOf];omega
       ·have pk:=KK.out j jT es0 qy qA hdj
        clear hdj
        have Qj:=(fun s=>(hK1 s).cell' (hbf.cell' pk id) id)
        clear pk
        cases g1:lg key with
        |false=>
         rw[g1]at hr
         simp only[Bool.false_and]at hr
         have hst:aY (d+1) es ks=false:=by rw[aY,Nat.add_sub_cancel,hr];simp
         have HST:=ah hst;clear hst hr
         go_wp2_with fail
         refine dA K (by kernel_rfl) (by kernel_rfl) hK0 ?_
         repeat(go_big_quiet_step ((first|(go_at_call 164;exact Calls.bf hK2 (Calls.jG (qc key _ hkz)))|(go_at_call 113;exact Calls.bf hK2 (jI.out _))|(go_at_call 125;exact Calls.bf hK2 (HIH.out _ (hK3 _))))))
         refine wpQuiet_nil ?_
         intro w' hw'
         obtain⟨s,rfl⟩:=hw'
         have hfs:=hK1 s
         go_wp2
         go_ret
         exact⟨bH HST.out.symm,bT.out.aF (cu.out.aF hfs)⟩
        |true=>
         cases g2:Op.bytesLess jT.toList key.toList with
         |false=>
          rw[show ltK (some jT) key=false from g2]at hr
          simp only[Bool.and_false,Bool.false_and]at hr
          have hst:aY (d+1) es ks=false:=by rw[aY,Nat.add_sub_cancel,hr];simp
          have HST:=ah hst;clear hst hr
          go_wp2_with fail
          refine dA K (by kernel_rfl) (by kernel_rfl) hK0 ?_
          repeat(go_big_quiet_step ((first|(go_at_call 164;exact Calls.bf hK2 (Calls.jG (qc key _ hkz)))|(go_at_call 113;exact Calls.bf hK2 (jI.out _))|(go_at_call 125;exact Calls.bf hK2 (HIH.out _ (hK3 _))))))
          refine wpQuiet_nil ?_
          intro w' hw'
          obtain⟨s,rfl⟩:=hw'
          have hfs:=hK1 s
          go_wp2
          go_ret
          exact⟨bH HST.out.symm,bT.out.aF (cu.out.aF hfs)⟩
         |true=>
          cases g3:isNil es' sub with
          |true=>
           rw[g3]at hr
           rw[g3]at jI
           simp only[Bool.not_true,Bool.and_false,Bool.false_and]at hr
           have hst:aY (d+1) es ks=false:=by rw[aY,Nat.add_sub_cancel,hr];simp
           have HST:=ah hst;clear hst hr
           go_wp2_with fail
           refine dA K (by kernel_rfl) (by kernel_rfl) hK0 ?_
           repeat(go_big_quiet_step ((first|(go_at_call 164;exact Calls.bf hK2 (Calls.jG (qc key _ hkz)))|(go_at_call 113;exact Calls.bf hK2 (jI.out _))|(go_at_call 125;exact Calls.bf hK2 (HIH.out _ (hK3 _))))))
           refine wpQuiet_nil ?_
           intro w' hw'
           obtain⟨s,rfl⟩:=hw'
           have hfs:=hK1 s
           go_wp2
           go_ret
           exact⟨bH HST.out.symm,bT.out.aF (cu.out.aF hfs)⟩
          |false=>
           rw[g3]at jI
           cases g4:aY d es' sub with
           |false=>
            rw[g4]at hr
            rw[g4]at HIH
            simp only[Bool.and_false,Bool.false_and]at hr
            have hst:aY (d+1) es ks=false:=by rw[aY,Nat.add_sub_cancel,hr];simp
            have HST:=ah hst;clear hst hr
            go_wp2_with fail
            refine dA K (by kernel_rfl) (by kernel_rfl) hK0 ?_
            repeat(go_big_quiet_step ((first|(go_at_call 164;exact Calls.bf hK2 (Calls.jG (qc key _ hkz)))|(go_at_call 113;exact Calls.bf hK2 (jI.out _))|(go_at_call 125;exact Calls.bf hK2 (HIH.out _ (hK3 _))))))
            refine wpQuiet_nil ?_
            intro w' hw'
            obtain⟨s,rfl⟩:=hw'
            have hfs:=hK1 s
            go_wp2
            go_ret
            exact⟨bH HST.out.symm,bT.out.aF (cu.out.aF hfs)⟩
           |true=>
            rw[g1,g3,g4,show ltK (some jT) key=true from g2]at hr
            rw[g4]at HIH
            simp only[Bool.not_false,Bool.and_true,Bool.true_and]at hr
            have HST:=ah hr;clear hr
            go_wp2_with fail
            refine dA K (by kernel_rfl) (by kernel_rfl) hK0 ?_
            repeat(go_big_quiet_step ((first|(go_at_call 164;exact Calls.bf hK2 (Calls.jG (qc key _ hkz)))|(go_at_call 113;exact Calls.bf hK2 (jI.out _))|(go_at_call 125;exact Calls.bf hK2 (HIH.out _ (hK3 _))))))
            refine wpQuiet_nil ?_
            intro w' hw'
            obtain⟨s,rfl⟩:=hw'
            have hfs:=hK1 s
            go_wp2
            go_roundw
            case rel=>exact⟨(j+1)+1,some key,by omega,by go_num, .inr ⟨(j+1),key,es',sub,rest,rfl,HDR.out,rfl⟩,HST.out,cu.out.aF hfs⟩
            case measure=>simp[intOf];omega
     ·obtain rfl:m=k:=by omega
      rw[aH.nX (by rw[HM.out];exact Nat.le_refl _)]at hr
      have HRR:=ah hr;clear hr
      go_wp2
      go_ret
      exact⟨bH (by rw[Qn Qp.out,HRR.out];simp[fQ]),bT.out.aF cu.out⟩
open Go.RowKit
structure bg where
 key:ByteArray
 es:List aG
 sub:aH
 ev:Value
 kv:Value
instance:Inhabited bg:=⟨⟨ByteArray.empty,[], .nil, .slice none 0 0, .slice none 0 0⟩⟩
def bg.cells (q:bg):List Value:=[.string q.key,q.ev,q.kv]
def uX:List bg→aH→aH
 |[],r=>r
 |q::l,r=> .cons q.key q.es q.sub (uX l r)
def mkK (l:List bg):aH:=uX l .nil
def oV (l:List bg):List (Value×Value):=l.map fun q=>(q.ev,q.kv)
theorem IJ:∀(l:List bg) (q:bg) (r:aH),uX (l++ [q]) r=uX l (.cons q.key q.es q.sub r)
 |[],_,_=>rfl
 |x::l,q,r=>by show aH.cons _ _ _ (uX (l++ [q]) r)=_;rw[IJ l q r];rfl
theorem oW:∀l:List bg,(mkK l).len=l.length
 |[]=>rfl
 |q::l=>by show(mkK l).len+1=_;rw[oW l];rfl
theorem uY:∀l:List bg,fZ (mkK l) (oV l)=l.flatMap bg.cells
 |[]=>rfl
 |q::l=>by show _::_::_::fZ (mkK l) (oV l)=_;rw[uY l];rfl
theorem Dk (l:List bg):(l.flatMap bg.cells).length=l.length*3:=by
 induction l with
 |nil=>rfl
 |cons q l ih=>rw[List.flatMap_cons,List.length_append,ih];simp[bg.cells];omega
theorem Qq {l:List bg} (h:∀q∈l,q.ev.oneCell'=true∧q.kv.oneCell'=true):∀v∈l.flatMap bg.cells,v.oneCell'=true:=by
 intro v hv
 obtain⟨q,hq,hv⟩:=List.mem_flatMap.1 hv
 simp[bg.cells]at hv
 rcases hv with rfl|rfl|rfl
 ·rfl
 ·exact(h q hq).1
 ·exact(h q hq).2
theorem w_ {Q:Nat→Prop} {w:World}:∀ {l:List bg},(∀q∈l,bC Q w q.ev q.kv q.es q.sub)→gQ Q w (mkK l) (oV l)
 |[],_=>rfl
 |q::l,h=>by
  obtain⟨h1,os,h2,h3⟩:=h q List.mem_cons_self
  exact⟨q.ev,q.kv,oV l,os,rfl,h1,h2,h3,w_ fun x hx=>h x (List.mem_cons_of_mem _ hx)⟩
theorem IK:∀ {l:List bg},(∀q∈l,q.key.size≤9223372036854775807∧iE q.es q.sub)→(mkK l).Ok
 |[],_=>trivial
 |q::l,h=>by
  obtain⟨h1,h2⟩:=h q List.mem_cons_self
  exact⟨h1,h2.es,h2.len,h2.ks,IK fun x hx=>h x (List.mem_cons_of_mem _ hx)⟩
theorem lD.turn {Q Q':Nat→Prop} {w w':World} {v:Value} {n:Nat} {xs:List Value} (h:lD Q w v n xs) (f:∀b,b<w.heap.size→Q b→w'.heap[b]?=w.heap[b]?∧Q' b):lD Q' w' v n xs:=by
 rcases h.rd with⟨ad,h1,h2,h3⟩|⟨b,off,c,rfl,h1,h2,h3⟩
 ·exact⟨.inl ⟨ad,h1,h2,h3⟩,fun hx=>absurd h3 hx⟩
 ·have uT:∀j u,xs[j]?=some u→w'.cell? ⟨b,off+j,none⟩=some u∧Q' b:=fun j u hu=>by
   have hc:=h3 j u hu
   have hlt:b<w.heap.size:=World.block_lt_of_cell? _ _ hc
   obtain⟨g1,g2⟩:=f b hlt (h.q (fun e=>by rw[e]at hu;simp at hu) b rfl)
   exact⟨(World.cell?_of_block (w:=w) g1).trans hc,g2⟩
  refine⟨.inr ⟨b,off,c,rfl,h1,h2,fun j u hu=>(uT j u hu).1⟩,fun hx k hk=>?_⟩
  simp[Value.ownBlock]at hk
  subst hk
  cases xs with
  |nil=>exact absurd rfl hx
  |cons x xs=>exact(uT 0 x rfl).2
theorem gQ.turn {Q Q':Nat→Prop} {w w':World} (f:∀b,b<w.heap.size→Q b→w'.heap[b]?=w.heap[b]?∧Q' b):∀ {ks:aH} {os:List (Value×Value)},gQ Q w ks os→gQ Q' w' ks os
 | .nil,_,h=>h
 | .cons _ _ _ _,_,⟨ev,kv,lF,os,h1,h2,h3,h4,h5⟩=>⟨ev,kv,lF,os,h1,h2.turn f,h3.turn f,h4.turn f,h5.turn f⟩
theorem bC.turn {Q Q':Nat→Prop} {w w':World} {ev kv:Value} {es:List aG} {ks:aH} (h:bC Q w ev kv es ks) (f:∀b,b<w.heap.size→Q b→w'.heap[b]?=w.heap[b]?∧Q' b):bC Q' w' ev kv es ks:=
 ⟨h.ents.turn f,let⟨os,h1,h2⟩:=h.kids;⟨os,h1.turn f,h2.turn f⟩⟩
theorem OwnAt.IL {w0 w:World} {e:TypeId} {size:Nat} {v:Value} {n:Nat} {xs:List Value} (h:OwnAt w0 w e size v n xs):lD (fun k=>w0.heap.size≤k) w v n xs:=⟨h.rd,fun _ k hk=>h.new k hk⟩
open Go.RowKit
theorem IQ:(Tryz.prog.info? 100).map (fun i=>(i.zero,i.size,i.bytes))=some (some (.agg #[.int .i64 0, .int .i64 0, .string ByteArray.empty, .int .i64 0]),4,40):=by kernel_rfl
theorem OwnAt.empty {w0 w:World} (f:aj au w0 w) (e:TypeId) (size:Nat):OwnAt w0 (w.alloc (.cells #[] e)) e size (.slice (some ⟨w.heap.size,0,none⟩) 0 0) 0 []:=
 ⟨⟨by simp, .inr ⟨w.heap.size,0, #[],rfl,Nat.zero_le _,heap_alloc_new w _,Nat.le_refl _,Nat.zero_le _,by simp,by simp⟩⟩,fun k hk=>by
   simp[Value.ownBlock]at hk
   have:=f.size
   omega,f.trans (aj.alloc _ _ _) fun _ _ h=>h⟩
theorem Qr (w:World) (v:Value) (es:List aG) (hv:Rd w v es.length (fK es)) (hl:es.length≤100000):
 Calls Tryz.prog 137 #[v] w fun e w'=>∃v',e= .returned v'∧OwnAt w w' 100 4 v' es.length (fK es):=by
 obtain⟨i0,hi,hz0,hz1,hz2⟩:=info_parts IQ
 obtain⟨aA,cA,rfl⟩:=hv.sl
 have HH:=ah hv;clear hv
 generalize hn:es.length=n at*
 have HN:=ah hn;clear hn
 by_cases hnil:aA=none
 ·subst hnil
  rcases HH.out with⟨ad,he,h0,hx⟩|⟨b,off,cc,he,_⟩
  ·injection he with e1 e2 e3
   subst e1 e2 e3
   have hx0:fK es=[]:=hx
   rw[hx0]
   have hq:=Lib.run_eql_slice_nil (P:=Tryz.prog) w 25 100 none 0 0 0 0 Tryz.underlying25
   go_enter Tryz.func137,Tryz.ntmps137
   go_wp2
   go_ret
   exact⟨_,rfl,OwnAt.nil (aj.refl _ _) _ _⟩
  ·injection he with e1 e2 e3
   cases e1
 ·obtain⟨ad,rfl⟩:=Option.ne_none_iff_exists'.1 hnil
  clear hnil
  have hq:=Lib.run_eql_slice_nil (P:=Tryz.prog) w 25 100 (some ad) n cA 0 0 Tryz.underlying25
  go_enter Tryz.func137,Tryz.ntmps137
  go_wp2_with(at_builtin;refine mD w _ _ rfl (.tmp 5) (.tmp 6) 25 25 rfl 100 100 i0 _ 4 40 Tryz.underlying25 Tryz.underlying25 hi hz0 hz1 hz2 (by decide) (by decide) _ _ _ (OwnAt.empty (aj.refl _ _) 100 4) _ n rfl rfl (HH.out.aN (aj.alloc _ _ _)) (by rw[Ik,HN.out]) (PW _) (by simp only[maxLen];omega) (by omega) ?_;intro ad cc w5 dw;have OW:=ah dw;clear dw)
  go_ret
  exact⟨_,rfl,by have:=OW.out;simpa using this⟩
theorem Dl (w:World) (v:Value) (c:aV) (hv:fB w v c) (hl:c.length≤100000):
 Calls Tryz.prog 46 #[v] w fun e w'=>∃v',e= .returned v'∧OwnAt w w' 92 3 v' c.length (bU c):=by
 obtain⟨i0,hi,hz0,hz1,hz2⟩:=info_parts wH
 obtain⟨aA,cA,rfl⟩:=hv.sl
 have HH:=ah hv;clear hv
 generalize hn:c.length=n at*
 have HN:=ah hn;clear hn
 by_cases hnil:aA=none
 ·subst hnil
  rcases HH.out with⟨ad,he,h0,hx⟩|⟨b,off,cc,he,_⟩
  ·injection he with e1 e2 e3
   subst e1 e3
   have hx0:bU c=[]:=hx
   have hn0:n=0:=by rw[←HN.out];exact h0
   subst hn0
   rw[hx0]
   have hq:=Lib.run_eql_slice_nil (P:=Tryz.prog) w 30 92 none 0 0 0 0 Tryz.underlying30
   go_enter Tryz.func46,Tryz.ntmps46
   go_wp2
   go_ret
   exact⟨_,rfl,OwnAt.nil (aj.refl _ _) _ _⟩
  ·injection he with e1 e2 e3
   cases e1
 ·obtain⟨ad,rfl⟩:=Option.ne_none_iff_exists'.1 hnil
  clear hnil
  have hq:=Lib.run_eql_slice_nil (P:=Tryz.prog) w 30 92 (some ad) n cA 0 0 Tryz.underlying30
  go_enter Tryz.func46,Tryz.ntmps46
  go_wp2_with(at_builtin;refine mD w _ _ rfl (.tmp 5) (.tmp 6) 30 30 rfl 92 92 i0 _ 3 24 Tryz.underlying30 Tryz.underlying30 hi hz0 hz1 hz2 (by decide) (by decide) _ _ _ (OwnAt.empty (aj.refl _ _) 92 3) _ n rfl rfl (HN.out▸HH.out.aN (aj.alloc _ _ _)) (by rw[yP,HN.out]) (BG _) (by simp only[maxLen];omega) (by omega) ?_;intro ad cc w5 dw;have OW:=ah dw;clear dw)
  go_ret
  exact⟨_,rfl,by have:=OW.out;simpa using this⟩
open Go.RowKit
theorem uZ:(Tryz.prog.info? 52).map (fun i=>(i.zero,i.size,i.bytes))=some (some (.agg #[.string ByteArray.empty, .slice none 0 0, .slice none 0 0]),3,64):=by kernel_rfl
def rC (w:World) (h2 h3:Nat) (v:Value) (b:Nat):Prop:=w.heap.size≤b∧b≠h2∧b≠h3∧v.ownBlock≠some b
structure lI (w ww:World) (h2 h3:Nat) (n:Nat) (ev kv:Value) (es:List aG) (ks:aH) (k:Nat) (l:List bg):Prop where
 aJ:aj au w ww
 b2:ww.heap[h2]?=some (.cells #[.slice none 0 0, .slice none 0 0] 28 (0,0))
 b3:ww.heap[h3]?=some (.cells #[ev,kv] 28 (0,0))
 new2:w.heap.size≤h2
 zF:w.heap.size≤h3
 ne:h2≠h3
 own:dP (fun b=>b=h2∨b=h3) w ww 52 3 kv k (l.flatMap bg.cells)
 ents:lD (rC w h2 h3 kv) ww ev n (fK es)
 kids:∀q∈l,bC (rC w h2 h3 kv) ww q.ev q.kv q.es q.sub
 len:l.length=k
 all:ks=uX l (ks.drop k)
theorem lI.keep {w ww w':World} {h2 h3 n:Nat} {ev kv:Value} {es:List aG} {ks:aH} {k:Nat} {l:List bg} (h:lI w ww h2 h3 n ev kv es ks k l) (f:aj au ww w'):lI w w' h2 h3 n ev kv es ks k l:=
 ⟨h.aJ.aF f,f.blk h.b2 id,f.blk h.b3 id,h.new2,h.zF,h.ne,h.own.keep f,h.ents.keep f (fun _ _ s=>s.elim),fun q hq=>(h.kids q hq).aN f,h.len,h.all⟩
theorem lI.step {w w1 w':World} {h2 h3 n:Nat} {ev kv kv':Value} {es:List aG} {ks:aH} {k:Nat} {l:List bg} (h:lI w w1 h2 h3 n ev kv es ks k l) {q:bg} {rest:aH} (hd:ks.drop k= .cons q.key q.es q.sub rest)
 (hq:bC (rC w h2 h3 kv) w1 q.ev q.kv q.es q.sub)
 (own:w'.ownsRow 0 52 3 kv' (k+1) (l.flatMap bg.cells++q.cells)) (fm:aj (dh kv) w1 w') (fr:jr w1 kv kv'):
 lI w (w'.setCell ⟨h3,1,none⟩ kv') h2 h3 n ev kv' es ks (k+1) (l++ [q]):=by
 have hb3:¬dh kv h3:=fun hs=>h.own.but h3 hs (.inr rfl)
 have hb2:¬dh kv h2:=fun hs=>h.own.but h2 hs (.inl rfl)
 have hset:aj (fun b=>b=h3) w' (w'.setCell ⟨h3,1,none⟩ kv'):=aj.setCell (S:=fun b=>b=h3) w' (p:=⟨h3,1,none⟩) (.inl rfl) _
 have l2:=lt_of_block h.b2
 have l3:=lt_of_block h.b3
 have hne':∀b,kv'.ownBlock=some b→b≠h2∧b≠h3:=fun b hb=>by
  rcases fr b hb with h1|h1
  ·exact⟨fun e=>h.own.but b h1 (.inl e),fun e=>h.own.but b h1 (.inr e)⟩
  ·exact⟨fun e=>by omega,fun e=>by omega⟩
 have turn:∀b,b<w1.heap.size→rC w h2 h3 kv b→(w'.setCell ⟨h3,1,none⟩ kv').heap[b]?=w1.heap[b]?∧rC w h2 h3 kv' b:=fun b hb hQ=>by
  refine⟨?_,hQ.1,hQ.2.1,hQ.2.2.1,fun e=>?_⟩
  ·rw[hset.block b (Nat.lt_of_lt_of_le hb fm.size) hQ.2.2.1,fm.block b hb hQ.2.2.2]
  ·rcases fr b e with h1|h1
   ·exact hQ.2.2.2 h1
   ·omega
 have hown:dP (fun b=>b=h2∨b=h3) w w' 52 3 kv' (k+1) (l.flatMap bg.cells++q.cells):=
  ⟨h.own.at_.step own fm fr,fun b hb hn=>by
    have:=hne' b hb
    rcases hn with hn|hn
    ·exact this.1 hn
    ·exact this.2 hn⟩
 refine⟨hown.at_.aJ.set1 (.inr h.zF),?_,?_,h.new2,h.zF,h.ne,?_,h.ents.turn turn,fun x hx=>?_,by rw[List.length_append,h.len];rfl,?_⟩
 ·exact hset.blk (fm.blk h.b2 hb2) h.ne
 ·exact fF (fm.blk h.b3 hb3) 1 kv'
 ·rw[List.flatMap_append]
  simp only[List.flatMap_cons,List.flatMap_nil,List.append_nil]
  exact hown.set (.inr rfl) h.zF _
 ·rcases List.mem_append.1 hx with hx|hx
  ·exact(h.kids x hx).turn turn
  ·simp only[List.mem_singleton]at hx;subst hx;exact hq.turn turn
 ·rw[IJ,aH.qY k ks hd,←hd]
  exact h.all
theorem lI.done {w ww:World} {h2 h3 n:Nat} {ev kv:Value} {es:List aG} {ks:aH} {k:Nat} {l:List bg} (h:lI w ww h2 h3 n ev kv es ks k l) (hn:n=es.length) (hk:ks.len≤k):
 bC (fun b=>w.heap.size≤b) ((ww.setCell ⟨h2,0,none⟩ ev).setCell ⟨h2,1,none⟩ kv) ev kv es ks∧aj au w ((ww.setCell ⟨h2,0,none⟩ ev).setCell ⟨h2,1,none⟩ kv)∧
  ((ww.setCell ⟨h2,0,none⟩ ev).setCell ⟨h2,1,none⟩ kv).heap[h2]?=some (.cells #[ev,kv] 28 (0,0)):=by
 have hks:ks=mkK l:=by
  have:=h.all
  rw[aH.nX hk]at this
  exact this
 have zG:aj (fun b=>b=h2) ww ((ww.setCell ⟨h2,0,none⟩ ev).setCell ⟨h2,1,none⟩ kv):=
  (aj.setCell (S:=fun b=>b=h2) ww (p:=⟨h2,0,none⟩) (.inl rfl) ev).trans (aj.setCell (S:=fun b=>b=h2) _ (p:=⟨h2,1,none⟩) (.inl rfl) kv) fun _ _ h=>h
 have turn:∀b,b<ww.heap.size→rC w h2 h3 kv b→((ww.setCell ⟨h2,0,none⟩ ev).setCell ⟨h2,1,none⟩ kv).heap[b]?=ww.heap[b]?∧w.heap.size≤b:=fun b hb hQ=>⟨zG.block b hb hQ.2.1,hQ.1⟩
 refine⟨⟨hn▸h.ents.turn turn,oV l,?_,?_⟩,(h.aJ.set1 (p:=⟨h2,0,none⟩) (.inr h.new2)).set1 (p:=⟨h2,1,none⟩) (.inr h.new2),fF (fF h.b2 0 ev) 1 kv⟩
 ·rw[hks,oW,uY,h.len]
  have ho:=zG.owns h.own.at_.own fun b hb he=>h.own.but b hb (.inl he)
  exact⟨Rd.own ho,fun _ b hb=>h.own.at_.new b hb⟩
 ·rw[hks]
  exact w_ fun q hq=>(h.kids q hq).turn turn
theorem lI.top {w ww:World} {h2 h3 n:Nat} {ev kv:Value} {es:List aG} {ks:aH} {k:Nat} {l:List bg} (h:lI w ww h2 h3 n ev kv es ks k l) (hk:ks.len≤k):
 ks=mkK l∧OwnAt w ((ww.setCell ⟨h2,0,none⟩ ev).setCell ⟨h2,1,none⟩ kv) 52 3 kv l.length (l.flatMap bg.cells)∧∀q∈l,bC (fun b=>w.heap.size≤b∧kv.ownBlock≠some b) ((ww.setCell ⟨h2,0,none⟩ ev).setCell ⟨h2,1,none⟩ kv) q.ev q.kv q.es q.sub:=by
 have zG:aj (fun b=>b=h2) ww ((ww.setCell ⟨h2,0,none⟩ ev).setCell ⟨h2,1,none⟩ kv):=
  (aj.setCell (S:=fun b=>b=h2) ww (p:=⟨h2,0,none⟩) (.inl rfl) ev).trans (aj.setCell (S:=fun b=>b=h2) _ (p:=⟨h2,1,none⟩) (.inl rfl) kv) fun _ _ h=>h
 refine⟨?_,?_,fun q hq=>(h.kids q hq).turn fun b hb hQ=>⟨zG.block b hb hQ.2.1,hQ.1,hQ.2.2.2⟩⟩
 ·have:=h.all
  rw[aH.nX hk]at this
  exact this
 ·rw[h.len]
  exact((h.own.set (p:=⟨h2,0,none⟩) (.inl rfl) h.new2 ev).set (p:=⟨h2,1,none⟩) (.inl rfl) h.new2 kv).at_
open Go.RowKit
def zH (w:World) (es:List aG) (ks:aH) (e:Ending) (w':World):Prop:=
 ∃ev' kv',e= .returned (.agg #[ev',kv'])∧bC (fun b=>w.heap.size≤b) w' ev' kv' es ks∧aj au w w'
def Qs (w:World) (es:List aG) (ks:aH) (e:Ending) (w':World):Prop:=
 ∃ev' kv' l,e= .returned (.agg #[ev',kv'])∧bC (fun b=>w.heap.size≤b) w' ev' kv' es ks∧aj au w w'∧ks=mkK l∧OwnAt w w' 52 3 kv' l.length (l.flatMap bg.cells)∧∀q∈l,bC (fun b=>w.heap.size≤b∧kv'.ownBlock≠some b) w' q.ev q.kv q.es q.sub
theorem IU (Q:Nat→Prop):∀(N:Nat) (es:List aG) (ks:aH) (w:World) (ev kv:Value),dF ks<N→bC Q w ev kv es ks→sizeT es ks≤100000→
 Calls Tryz.prog 97 #[.agg #[ev,kv]] w (Qs w es ks):=by
 intro N
 induction N with
 |zero=>intros;exfalso;omega
 |succ N gG=>
  intro es ks w ev kv hN ht hsz
  obtain⟨i0,hi,hz0,hz1,hz2⟩:=info_parts uZ
  obtain⟨ae,ce,rfl⟩:=ht.ents.rd.sl
  obtain⟨os,hkr,dU⟩:=ht.kids
  obtain⟨ak,ck,rfl⟩:=hkr.rd.sl
  have HE:=ah ht.ents.rd
  have fH:=ah hkr.rd;clear hkr ht
  have jH:=ah dU;clear dU
  have IH:=ah gG;clear gG
  have ru:es.length≤100000:=by unfold sizeT at hsz;omega
  have IG:ks.len≤100000:=by have:=kV ks;unfold sizeT at hsz;omega
  have qB:=ah (fun W (h:aj au w W)=>Qr W (.slice ae es.length ce) es (HE.out.aN h) ru)
  have jS:=ah hsz;clear hsz
  have lH:=ah hN;clear hN
  generalize hes:es.length=n at*
  have HN:=ah hes;clear hes
  generalize hkl:ks.len=m at*
  have HM:=ah hkl;clear hkl
  obtain⟨WB,iG⟩:∃WB,WB=(w.alloc (.cells #[.slice ae n ce, .slice ak m ck] 28)).alloc (.cells #[.slice none 0 0, .slice none 0 0] 28):=⟨_,rfl⟩
  have hfb:aj au w WB:=by rw[iG];exact(aj.alloc _ _ _).alloc1
  have hb0:WB.heap[w.heap.size]?=some (.cells #[.slice ae n ce, .slice ak m ck] 28 (0,0)):=by rw[iG,Below.heap_alloc _ _ _ (by simp)];exact heap_alloc_new w _
  have hb2:WB.heap[w.heap.size+1]?=some (.cells #[.slice none 0 0, .slice none 0 0] 28 (0,0)):=by
   rw[iG]
   have:=heap_alloc_new (w.alloc (.cells #[.slice ae n ce, .slice ak m ck] 28)) (.cells #[.slice none 0 0, .slice none 0 0] 28)
   simpa using this
  have hbs:WB.heap.size=w.heap.size+1+1:=by rw[iG];simp
  have bG:=ah hfb;clear hfb
  have HB0:=ah hb0;clear hb0
  have HB2:=ah hb2;clear hb2
  have u_:=ah hbs;clear hbs
  have hcall:∀W,W=WB→Calls Tryz.prog 137 #[.slice ae n ce] W fun e w'=>∃v',e= .returned v'∧OwnAt WB w' 100 4 v' n (fK es):=fun W hW=>by rw[hW];exact qB.out WB bG.out
  have Qu:=ah hcall;clear hcall
  have bT:=ah iG.symm;clear iG
  go_enter Tryz.func97,Tryz.ntmps97
  go_wp2_with(go_at_call 137;refine(Qu.out _ bT.out).mono ?_;rintro e w1 ⟨v1,rfl,ho1⟩;obtain⟨a1,c1,rfl⟩:=ho1.shape;have dB:=ah ho1;clear ho1;have b1:w1.cell? ⟨w.heap.size,1,none⟩=some (.slice ak m ck):=dB.out.aJ.cell' (aI HB0.out 1 rfl) id;have hlt1:w.heap.size<w1.heap.size:=World.block_lt_of_cell? _ _ b1)
  have hln:aj au w (w1.alloc (.cells #[.slice a1 n c1, .slice none 0 0] 28)):=(bG.out.aF dB.out.aJ).alloc1
  have hc0:lI w (w1.alloc (.cells #[.slice a1 n c1, .slice none 0 0] 28)) (w.heap.size+1) w1.heap.size n (.slice a1 n c1) (.slice none 0 0) es ks 0 []:=by
   have hs1:=dB.out.aJ.size
   have hbs:=u_.out
   refine⟨hln,(aj.alloc au _ _).blk (dB.out.aJ.blk HB2.out id) id,heap_alloc_new w1 _,by omega,by have:=bG.out.size;omega,by omega,dP.nil hln _ _,?_,fun q hq=>(by cases hq),rfl,rfl⟩
   refine dB.out.IL.turn fun b hb hQ=>⟨Below.heap_alloc _ _ _ hb,by omega,by omega,by omega,by simp[Value.ownBlock]⟩
  have Dn:=ah hc0;clear hc0
  have kF:=ah hln;clear hln
  clear b1 hlt1
  go_loopw [13] (fun i ww=>∃(k:Nat) (l:List bg) (vg:Value),k≤m∧i= .int .i64 k∧lI w ww (w.heap.size+1) w1.heap.size n (.slice a1 n c1) vg es ks k l) (fun i _=>m-(intOf i).toNat)
  case atStart=>exact⟨0,[],_,Nat.zero_le _,rfl,Dn.out⟩
  case round=>
   obtain⟨k,l,vg,hk,rfl,hc⟩:=hrel
   obtain⟨av,cv,rfl⟩:=hc.own.at_.shape
   have HC:=ah hc;clear hc
   by_cases hlt:k<m
   ·obtain⟨key,es',sub,rest,hdr⟩:=aH.nI (n:=k) (ks:=ks) (by rw[HM.out];exact hlt)
    rcases Rd.shape fH.out with⟨ad,he,h0⟩|⟨b,off,cc,he,hmax⟩
    ·exfalso;have:=HM.out;omega
    ·injection he with e1 e2 e3
     subst e1 e3
     clear e2
     obtain⟨ev',kv',q0,q1,q2,hta⟩:=lG (fH.out.aN HC.out.aJ) (jH.out.aN HC.out.aJ) hdr
     obtain⟨dI,dJ,rfl⟩:=hta.ents.rd.sl
     obtain⟨os',fC,jA⟩:=hta.kids
     obtain⟨dK,dL,rfl⟩:=fC.rd.sl
     clear fC jA
     have eF:=ah (qx k hdr)
     have HST:=ah (q_ k hdr)
     have iF:=ah hta;clear hta
     have HIH:=ah (fun w' (h:aj au wr w')=>IH.out es' sub w' _ _ (by have:=eF.out;have:=lH.out;omega) (iF.out.aN h) (by have:=HST.out;have:=jS.out;unfold sizeT at*;omega))
     have HDR:=ah hdr;clear hdr
     have hkp:k≤100000:=by omega
     generalize es'.length=n' at*
     generalize sub.len=m' at*
     have hsp:(wr.alloc (.cells #[.string key, .slice dI n' dJ, .slice dK m' dL] 52)).heap[wr.heap.size]?=some (.cells #[.string key, .slice dI n' dJ, .slice dK m' dL] 52 (0,0)):=heap_alloc_new wr _
     have oM:=ah hsp;clear hsp
     have Qv:=lt_of_block HC.out.b3
     have Dp:=lt_of_block HC.out.b2
     have IV:∀b,(Value.slice av k cv).ownBlock=some b→b<wr.heap.size:=fun b hb=>HC.out.own.at_.lt b hb
     have IW:=ah IV;clear IV
     have hfa:aj au wr (wr.alloc (.cells #[.string key, .slice dI n' dJ, .slice dK m' dL] 52)).drew:=(aj.alloc _ _ _).qP
     have jk:=ah hfa;clear hfa
     have hsz0:(wr.alloc (.cells #[.string key, .slice dI n' dJ, .slice dK m' dL] 52)).drew.heap.size=wr.heap.size+1:=by show(wr.alloc _).heap.size=_;simp
     have IX:=ah hsz0;clear hsz0
     go_wp2_with fail
     refine iY (S:=fun w'=>w'.cell? ⟨wr.heap.size,0,none⟩=some (.string key)∧w'.cell? ⟨wr.heap.size,1,none⟩=some (.slice dI n' dJ)∧w'.cell? ⟨wr.heap.size,2,none⟩=some (.slice dK m' dL)∧w'.cell? ⟨w1.heap.size,1,none⟩=some (.slice av k cv)) 11 (by kernel_rfl) ⟨aI oM.out 0 rfl,aI oM.out 1 rfl,aI oM.out 2 rfl,jk.out.cell' (aI HC.out.b3 1 rfl) id⟩ ?_
     intro hS
     generalize (wr.alloc (.cells #[.string key, .slice dI n' dJ, .slice dK m' dL] 52)).drew=Y0 at*
     refine aT 0 17 rfl rfl (v:=?_) (.inl ⟨by rfl,?_⟩) ?_
     rotate_left 1
     ·(intro w hSw;(try dsimp only at hSw);go_simp;(try with_reducible rfl))
     refine aT 1 18 rfl rfl (v:=?_) (.inl ⟨by rfl,?_⟩) ?_
     rotate_left 1
     ·(intro w hSw;(try dsimp only at hSw);go_simp;(try with_reducible rfl))
     try simp only[Act.put,aP,aQ,aO]
     refine aT 2 19 rfl rfl (v:=?_) (.inl ⟨by rfl,?_⟩) ?_
     rotate_left 1
     ·(intro w hSw;(try dsimp only at hSw);go_simp;(try with_reducible rfl))
     refine aT 3 20 rfl rfl (v:=?_) (.inl ⟨by rfl,?_⟩) ?_
     rotate_left 1
     ·(intro w hSw;(try dsimp only at hSw);go_simp;(try with_reducible rfl))
     try simp only[Act.put,aP,aQ,aO]
     refine aT 4 21 rfl rfl (v:=?_) (.inl ⟨by rfl,?_⟩) ?_
     rotate_left 1
     ·(intro w hSw;(try dsimp only at hSw);go_simp;(try with_reducible rfl))
     refine aT 5 22 rfl rfl (v:=?_) (.inl ⟨by rfl,?_⟩) ?_
     rotate_left 1
     ·(intro w hSw;(try dsimp only at hSw);go_simp;(try with_reducible rfl))
     try simp only[Act.put,aP,aQ,aO]
     refine bP (i:=6) (by kernel_rfl) rfl (fun K hK=>?_)
     go_simp
     refine(HIH.out _ jk.out).mono ?_
     rintro e Y ⟨mQ,gU,-,rfl,iP,hf3,-⟩
     obtain⟨a3,c3,rfl⟩:=iP.ents.rd.sl
     obtain⟨os3,jU,-⟩:=iP.kids
     obtain⟨a4,c4,rfl⟩:=jU.rd.sl
     clear jU
     have xg:=ah iP;clear iP
     have HF3:=ah hf3;clear hf3
     generalize es'.length=n3 at*
     generalize sub.len=m3 at*
     have hS3:Y.cell? ⟨wr.heap.size,0,none⟩=some (.string key)∧Y.cell? ⟨wr.heap.size,1,none⟩=some (.slice dI n' dJ)∧Y.cell? ⟨wr.heap.size,2,none⟩=some (.slice dK m' dL)∧Y.cell? ⟨w1.heap.size,1,none⟩=some (.slice av k cv):=⟨HF3.out.cell' hS.1 id,HF3.out.cell' hS.2.1 id,HF3.out.cell' hS.2.2.1 id,HF3.out.cell' hS.2.2.2 id⟩
     refine hK.out _ _ hS3 ?_
     clear hK K hS
     try simp only[Act.put,aP,aQ,aO]
     refine aT 7 24 rfl rfl (v:=?_) (.inl ⟨by rfl,?_⟩) ?_
     rotate_left 1
     ·(intro w hSw;(try dsimp only at hSw);go_simp;(try with_reducible rfl))
     try simp only[Act.put,aP,aQ,aO]
     refine bP (i:=8) (by kernel_rfl) rfl (fun K hK=>?_)
     go_simp
     have hS4:(Y.alloc (.cells #[.string key, .slice a3 n3 c3, .slice a4 m3 c4] 52)).cell? ⟨wr.heap.size,0,none⟩=some (.string key)∧(Y.alloc (.cells #[.string key, .slice a3 n3 c3, .slice a4 m3 c4] 52)).cell? ⟨wr.heap.size,1,none⟩=some (.slice dI n' dJ)∧(Y.alloc (.cells #[.string key, .slice a3 n3 c3, .slice a4 m3 c4] 52)).cell? ⟨wr.heap.size,2,none⟩=some (.slice dK m' dL)∧(Y.alloc (.cells #[.string key, .slice a3 n3 c3, .slice a4 m3 c4] 52)).cell? ⟨w1.heap.size,1,none⟩=some (.slice av k cv):=⟨(aj.alloc au Y _).cell' hS3.1 id,(aj.alloc au Y _).cell' hS3.2.1 id,(aj.alloc au Y _).cell' hS3.2.2.1 id,(aj.alloc au Y _).cell' hS3.2.2.2 id⟩
     refine hK.out _ _ hS4 ?_
     clear hK K
     try simp only[Act.put,aP,aQ,aO]
     refine bP (i:=9) (by kernel_rfl) rfl (fun K hK=>?_)
     have vw:=ah ((HC.out.keep jk.out).keep HF3.out)
     have Qw:wr.heap.size<Y.heap.size:=by have:=HF3.out.size;have:=IX.out;omega
     refine BZ (fun b=>b<Y.heap.size∧(Value.slice av k cv).ownBlock≠some b) w Y [.string key, .slice a3 n3 c3, .slice a4 m3 c4] rfl (.tmp 18) (.tmp 25) 26 rfl 52 i0 _ 3 64 Tryz.underlying26 hi hz0 hz1 hz2 (by decide) (by decide) (.slice av k cv) k _ ⟨vw.out.own.at_,fun b hb hn=>hn.2 hb⟩ (fun b hb=>hb.1) 1 1 (by simp[Act.eval]) (by simp[Act.eval]) rfl (by simp[Value.oneCell']) (by simp only[maxLen];omega) (by omega) ?_
     intro ad iU w2 bI fP
     have hnk:∀b,b≤wr.heap.size→(Value.slice av k cv).ownBlock≠some b→b<Y.heap.size∧(Value.slice av k cv).ownBlock≠some b:=fun b hb hn=>⟨by omega,hn⟩
     have hle3:w1.heap.size≤wr.heap.size:=Nat.le_of_lt Qv
     have ru:(Value.slice av k cv).ownBlock≠some wr.heap.size:=fun h=>by have:=IW.out _ h;omega
     have hn3:(Value.slice av k cv).ownBlock≠some w1.heap.size:=fun h=>HC.out.own.but _ h (.inr rfl)
     have hS5:w2.cell? ⟨wr.heap.size,0,none⟩=some (.string key)∧w2.cell? ⟨wr.heap.size,1,none⟩=some (.slice dI n' dJ)∧w2.cell? ⟨wr.heap.size,2,none⟩=some (.slice dK m' dL)∧w2.cell? ⟨w1.heap.size,1,none⟩=some (.slice av k cv):=⟨fP.cell (hnk _ (Nat.le_refl _) ru) hS3.1,fP.cell (hnk _ (Nat.le_refl _) ru) hS3.2.1,fP.cell (hnk _ (Nat.le_refl _) ru) hS3.2.2.1,fP.cell (hnk _ hle3 hn3) hS3.2.2.2⟩
     refine hK.out _ _ hS5 ?_
     clear hK K hS4
     have hcf:w2.frozen? ⟨w1.heap.size,1,none⟩=false:=fP.frozen (p:=⟨w1.heap.size,1,none⟩) (hnk _ hle3 hn3) (bn vw.out.b3 1)
     have hfm:aj (dh (.slice av k cv)) Y w2:=⟨bI.at_.aJ.os.trans vw.out.aJ.os.symm,bI.at_.aJ.tape.trans vw.out.aJ.tape.symm,bI.at_.aJ.output.trans vw.out.aJ.output.symm,fP.1,fun b hb hn=>fP.2 b ⟨hb,hn⟩⟩
     have hfr:jr Y (.slice av k cv) (.slice ad (k+1) iU):=fun b hb=>by
      by_cases h1:(Value.slice av k cv).ownBlock=some b
      ·exact .inl h1
      ·refine .inr ?_
       have:=bI.but b hb
       rcases Nat.lt_or_ge b Y.heap.size with h2|h2
       ·exact absurd ⟨h2,h1⟩ this
       ·exact h2
     have hq3:bC (rC w (w.heap.size+1) w1.heap.size (.slice av k cv)) Y (.slice a3 n3 c3) (.slice a4 m3 c4) es' sub:=xg.out.turn fun b hb hQ=>by
      have h0:=IX.out
      have h1:=HC.out.aJ.size
      refine⟨rfl,by omega,by omega,by omega,fun h=>?_⟩
      have:=IW.out _ h
      omega
     have sJ:=ah (vw.out.step (q:=⟨key,es',sub, .slice a3 n3 c3, .slice a4 m3 c4⟩) HDR.out hq3 bI.at_.own hfm hfr)
     clear bI fP hfm hfr hq3 hnk ru hn3 Qw
     try simp only[Act.put,aP,aQ,aO]
     refine aT 10 27 rfl rfl (v:=?_) (.inl ⟨by rfl,?_⟩) ?_
     rotate_left 1
     ·(intro w hSw;(try dsimp only at hSw);go_simp;(try with_reducible rfl))
     try simp only[Act.put,aP,aQ,aO]
     refine iK (by kernel_rfl) (by kernel_rfl) rfl (fun K hK=>?_)
     have hcz:=hS5.2.2.2
     clear hS5 hS3
     go_simp
     refine hK.out _ _ ?_
     clear hK K hcz hcf
     go_wp2
     go_roundw
     case rel=>exact⟨k+1,_,_,by omega,by go_num,sJ.out⟩
     case measure=>simp[intOf];omega
   ·obtain rfl:m=k:=by omega
    have hdn:=HC.out.done HN.out.symm (by rw[HM.out];exact Nat.le_refl _)
    have iM:=ah hdn;clear hdn
    have Qx:=ah (HC.out.top (by rw[HM.out];exact Nat.le_refl _))
    have y0:=aI HC.out.b3 0 rfl
    have y1:=aI HC.out.b3 1 rfl
    have z0:=aI HC.out.b2 0 rfl
    have z1:=aI HC.out.b2 1 rfl
    have f0:=bn HC.out.b2 0
    have f1:=bn HC.out.b2 1
    go_wp2
    clear y0 y1 z0 z1
    have y0:=aI iM.out.2.2 0 rfl
    have y1:=aI iM.out.2.2 1 rfl
    exact bodyPost_ret (v:= .agg #[.slice a1 n c1, .slice av m cv]) (by simp[results,Tryz.results97,go_sem,y0,y1]) rfl ⟨_,_,l,rfl,iM.out.1,iM.out.2.1,Qx.out⟩
theorem Qy (Q:Nat→Prop) (N:Nat) (es:List aG) (ks:aH) (w:World) (ev kv:Value) (hN:dF ks<N) (h:bC Q w ev kv es ks) (hs:sizeT es ks≤100000):Calls Tryz.prog 97 #[.agg #[ev,kv]] w (zH w es ks):=
 (IU Q N es ks w ev kv hN h hs).mono fun _ _ ⟨ev',kv',_,h1,h2,h3,_⟩=>⟨ev',kv',h1,h2,h3⟩
open Go.RowKit
theorem nY {w:World} {b j k:Nat} {v:Value} (h:k≠b):(w.setCell ⟨b,j,none⟩ v).heap[k]?=w.heap[k]?:=Below.heap_setCell _ _ _ _ h
theorem res2 {w0 w:World} {b:Nat} {T:TypeId} {a0 a1:Value} (h:w.heap[b]?=some (.cells #[a0,a1] T (0,0))) (f:aj au w0 w) (hb:w0.heap.size≤b) (v0 v1:Value):
 ((w.setCell ⟨b,0,none⟩ v0).setCell ⟨b,1,none⟩ v1).heap[b]?=some (.cells #[v0,v1] T (0,0))∧aj au w0 ((w.setCell ⟨b,0,none⟩ v0).setCell ⟨b,1,none⟩ v1)∧
   ∀k,k≠b→((w.setCell ⟨b,0,none⟩ v0).setCell ⟨b,1,none⟩ v1).heap[k]?=w.heap[k]?:=
 ⟨fF (fF h 0 v0) 1 v1,(f.set1 (p:=⟨b,0,none⟩) (.inr hb)).set1 (p:=⟨b,1,none⟩) (.inr hb),fun k hk=>(nY hk).trans (nY hk)⟩
theorem sV {w0 w:World} {b:Nat} {T:TypeId} {a0 a1 a2:Value} (h:w.heap[b]?=some (.cells #[a0,a1,a2] T (0,0))) (f:aj au w0 w) (hb:w0.heap.size≤b) (v0 v1 v2:Value):
 (((w.setCell ⟨b,0,none⟩ v0).setCell ⟨b,1,none⟩ v1).setCell ⟨b,2,none⟩ v2).heap[b]?=some (.cells #[v0,v1,v2] T (0,0))∧aj au w0 (((w.setCell ⟨b,0,none⟩ v0).setCell ⟨b,1,none⟩ v1).setCell ⟨b,2,none⟩ v2)∧
   ∀k,k≠b→(((w.setCell ⟨b,0,none⟩ v0).setCell ⟨b,1,none⟩ v1).setCell ⟨b,2,none⟩ v2).heap[k]?=w.heap[k]?:=
 ⟨fF (fF (fF h 0 v0) 1 v1) 2 v2,((f.set1 (p:=⟨b,0,none⟩) (.inr hb)).set1 (p:=⟨b,1,none⟩) (.inr hb)).set1 (p:=⟨b,2,none⟩) (.inr hb),fun k hk=>((nY hk).trans (nY hk)).trans (nY hk)⟩
theorem mV (w:World) (o:Obj) (cs:Array Value) (T:TypeId):((w.alloc o).alloc (.cells cs T)).heap[w.heap.size+1]?=some (.cells cs T (0,0))∧aj au w ((w.alloc o).alloc (.cells cs T))∧((w.alloc o).alloc (.cells cs T)).heap.size=w.heap.size+1+1:=by
 refine⟨?_,(aj.alloc _ _ _).alloc1,by simp⟩
 have:=heap_alloc_new (w.alloc o) (.cells cs T)
 simpa using this
theorem qC (w:World) (v0 v1:Value) (T:TypeId) (W:World) (f:aj au (w.alloc (.cells #[v0,v1] T)) W):W.cell? ⟨w.heap.size,0,none⟩=some v0∧W.cell? ⟨w.heap.size,1,none⟩=some v1:=
 ⟨f.cell' (aI (heap_alloc_new w _) 0 rfl) id,f.cell' (aI (heap_alloc_new w _) 1 rfl) id⟩
theorem jJ (w:World) (v0 v1 v2:Value) (T:TypeId) (W:World) (f:aj au (w.alloc (.cells #[v0,v1,v2] T)) W):W.cell? ⟨w.heap.size,0,none⟩=some v0∧W.cell? ⟨w.heap.size,1,none⟩=some v1∧W.cell? ⟨w.heap.size,2,none⟩=some v2:=
 ⟨f.cell' (aI (heap_alloc_new w _) 0 rfl) id,f.cell' (aI (heap_alloc_new w _) 1 rfl) id,f.cell' (aI (heap_alloc_new w _) 2 rfl) id⟩
end Go.Proofs.YtlhmbkjdfjoilaaGreat
