/- Words for the law ShardParts: TRight, KidQ, TClone2, TClone3, Res, TDots. -/
import Derived.Test.YtlhmbkjdfjoilaaGreatShardPartsG0
import Derived.Test.YtlhmbkjdfjoilaaGreatShardPartsG4
import Derived.Test.YtlhmbkjdfjoilaaGreatShardPartsG5
import Derived.Test.YtlhmbkjdfjoilaaGreatShardPartsG6
import Derived.Test.YtlhmbkjdfjoilaaGreatShardPartsG8
set_option linter.unusedSimpArgs false
set_option linter.unusedVariables false
set_option maxHeartbeats 32000000
set_option maxRecDepth 1000000
namespace Go.Proofs.YtlhmbkjdfjoilaaGreat
open Go.RowKit
theorem RG {ks:aH} {d:Nat} {es:List aF} (he:fE none es=true):aX (d+1) es ks=fV ks d none:=by
 rw[aX,Nat.add_sub_cancel,he];simp
theorem RH (Q:Nat→Prop):∀(N:Nat) (es:List aF) (ks:aH) (d:Nat) (w:World) (ev kv:Value),cu ks<N→bg Q w ev kv es ks→iQ es ks→d≤100→
 Calls Tryz.prog 125 #[.agg #[ev,kv], .int .i64 d] w fun e w'=>e= .returned (.bool (aX d es ks))∧aj au w w':=by
 intro N
 induction N with
 |zero=>intros;exfalso;omega
 |succ N fO=>
  intro es ks d w ev kv hN ht hok hd
  obtain⟨ae,ce,rfl⟩:=ht.ents.rd.sl
  obtain⟨os,hkr,dH⟩:=ht.kids
  obtain⟨ak,ck,rfl⟩:=hkr.rd.sl
  have HT:=ah ht;clear ht
  have fH:=ah hkr.rd;clear hkr
  have jH:=ah dH;clear dH
  have IH:=ah fO;clear fO
  have bT:=ah (aj.alloc au w (.cells #[.slice ae es.length ce, .slice ak ks.len ck] 28))
  have box0:(w.alloc (.cells #[.slice ae es.length ce, .slice ak ks.len ck] 28)).cell? ⟨w.heap.size,0,none⟩=some (.slice ae es.length ce):=aJ (heap_alloc_new w _) 0 rfl
  have box1:(w.alloc (.cells #[.slice ae es.length ce, .slice ak ks.len ck] 28)).cell? ⟨w.heap.size,1,none⟩=some (.slice ak ks.len ck):=aJ (heap_alloc_new w _) 1 rfl
  have B0:=ah box0;clear box0
  have B1:=ah box1;clear box1
  have Jr:=ah hok.es.len
  have fK:=ah hok.len
  have cZ:=ah hok;clear hok
  have jy:=ah hN;clear hN
  cases d with
  |zero=>
   go_enter Tryz.func125,Tryz.ntmps125
   go_wp2
   go_ret
   exact⟨bI (by simp[aX]),bT.out⟩
  |succ d=>
   generalize hes:es.length=n at*
   have HN:=ah hes;clear hes
   generalize hkl:ks.len=m at*
   have HM:=ah hkl;clear hkl
   have hd9:(d:Int)≤100:=by omega
   have hd1:¬(((d+1:Nat):Int)<1):=by omega
   have HD:=ah hd;clear hd
   cases hre:fE none es with
   |false=>
    have yP:=ah (fun W (h:aj au (w.alloc (.cells #[.slice ae n ce, .slice ak m ck] 28)) W)=>JY W (.slice ae n ce) es (by have:=(HT.out.aN bT.out).ents.rd;rw[HN.out]at this⊢;exact this.aN h) cZ.out.es)
    rw[hre]at yP
    have b0:=B0.out
    go_enter Tryz.func125,Tryz.ntmps125
    go_wp2_with(go_at_call 163;refine(yP.out _ (aj.refl _ _)).mono ?_;rintro e w1 ⟨rfl,hw1⟩;have HW1:=ah hw1;clear hw1)
    go_ret
    exact⟨bI (by rw[aX,hre];simp),bT.out.aG HW1.out⟩
   |true=>
    have yP:=ah (fun W (h:aj au (w.alloc (.cells #[.slice ae n ce, .slice ak m ck] 28)) W)=>JY W (.slice ae n ce) es (by have:=(HT.out.aN bT.out).ents.rd;rw[HN.out]at this⊢;exact this.aN h) cZ.out.es)
    rw[hre]at yP
    have RI:=ah hre;clear hre
    have b0:=B0.out
    go_enter Tryz.func125,Tryz.ntmps125
    go_wp2_with(go_at_call 163;refine(yP.out _ (aj.refl _ _)).mono ?_;rintro e w1 ⟨rfl,hw1⟩;have HW:=ah hw1;clear hw1;have b1:=HW.out.cell' B1.out id)
    clear b0 b1
    go_loopw [18] (fun i ww=>∃(k:Nat) (p:Option ByteArray),k≤m∧i= .int .i64 k∧Jq ks k p∧fV ks d none=fV (ks.drop k) d p∧aj au (w.alloc (.cells #[.slice ae n ce, .slice ak m ck] 28)) ww) (fun i _=>m-(intOf i).toNat)
    case atStart=>exact⟨0,none,Nat.zero_le _,rfl, .inl ⟨rfl,rfl⟩,rfl,HW.out⟩
    case round=>
     obtain⟨k,p,hk,rfl,hp,hr,hw⟩:=hrel
     have dw:=ah hw;clear hw
     have HP:=ah hp;clear hp
     have b1:=dw.out.cell' B1.out id
     by_cases hlt:k<m
     ·obtain⟨key,es',sub,rest,hdr⟩:=aH.mD (n:=k) (ks:=ks) (by rw[HM.out];exact hlt)
      have hmm:(m:Int)≤9223372036854775807:=by have:=fK.out;omega
      rcases Rd.shape (fH.out.aN (bT.out.aG dw.out))with⟨ad,he,h0⟩|⟨b,off,cc,he,hmax⟩
      ·exfalso;have:=HM.out;omega
      ·injection he with e1 e2 e3
       subst e1 e3
       clear e2 hmax
       obtain⟨ev',kv',c0,c1,c2,hta⟩:=k_ (fH.out.aN (bT.out.aG dw.out)) (jH.out.aN (bT.out.aG dw.out)) hdr
       obtain⟨dI,dJ,rfl⟩:=hta.ents.rd.sl
       obtain⟨os',fB,jA⟩:=hta.kids
       obtain⟨dK,dL,rfl⟩:=fB.rd.sl
       clear fB jA
       have hok':=cZ.out.ks.drop k
       rw[hdr]at hok'
       have hkz:=hok'.1
       have hsub:iQ es' sub:=⟨hok'.2.1,hok'.2.2.1,hok'.2.2.2.1⟩
       have l1:((es'.length:Nat):Int)≤140737488351232:=by have:=hsub.es.len;omega
       have l2:((sub.len:Nat):Int)≤140737488351232:=by have:=hsub.len;omega
       have wE:=ah hsub;clear hsub hok'
       have eF:=ah (qC k hdr)
       rw[Jp hdr]at hr
       have HDR:=ah hdr;clear hdr
       have hbf:aj au wr (wr.alloc (.cells #[.string key, .slice dI es'.length dJ, .slice dK sub.len dL] 52)):=aj.alloc _ _ _
       have n0:(wr.alloc (.cells #[.string key, .slice dI es'.length dJ, .slice dK sub.len dL] 52)).cell? ⟨wr.heap.size,0,none⟩=some (.string key):=aJ (heap_alloc_new wr _) 0 rfl
       have n1:(wr.alloc (.cells #[.string key, .slice dI es'.length dJ, .slice dK sub.len dL] 52)).cell? ⟨wr.heap.size,1,none⟩=some (.slice dI es'.length dJ):=aJ (heap_alloc_new wr _) 1 rfl
       have n2:(wr.alloc (.cells #[.string key, .slice dI es'.length dJ, .slice dK sub.len dL] 52)).cell? ⟨wr.heap.size,2,none⟩=some (.slice dK sub.len dL):=aJ (heap_alloc_new wr _) 2 rfl
       have je:=ah (hta.aN hbf);clear hta
       have uz:=dw;clear dw
       have dw:=ah (uz.out.aG hbf)
       have kk:∀j kN es0 qZ q_,ks.drop j= .cons kN es0 qZ q_→wr.cell? ⟨b,off+j*3,none⟩=some (.string kN):=fun j kN es0 qZ q_ h=>by
        obtain⟨_,_,h0,_⟩:=k_ (fH.out.aN (bT.out.aG uz.out)) (jH.out.aN (bT.out.aG uz.out)) h
        exact h0
       have KK:=ah kk;clear kk
       have HIH:=ah (fun w' (h:aj au (wr.alloc (.cells #[.string key, .slice dI es'.length dJ, .slice dK sub.len dL] 52)) w')=>IH.out es' sub d w' _ _ (by have:=eF.out;have:=jy.out;omega) (je.out.aN h) wE.out (by have:=HD.out;omega))
       have hem:∀W,Calls Tryz.prog 113 #[.agg #[.slice dI es'.length dJ, .slice dK sub.len dL]] W fun e w'=>e= .returned (.bool (isNil es' sub))∧aj au W w':=fun W=>empty_any dI dK es'.length sub.len dJ dL W
       have kJ:=ah hem;clear hem
       generalize es'.length=n' at*
       generalize sub.len=m' at*
       obtain⟨α,hne,K,hK3,hK0,hK2⟩:=worlds (wr.alloc (.cells #[.string key, .slice dI n' dJ, .slice dK m' dL] 52))
       have hK1:=hK3
       have Qe:=fun s=>(hK1 s).cell' (hbf.cell' b1 id) id
       have Qg:=fun s=>(hK1 s).cell' n0 id
       have Qh:=fun s=>(hK1 s).cell' n1 id
       have Qi:=fun s=>(hK1 s).cell' n2 id
       clear n0 n1 n2
       have hge:=Jo
       rcases HP.out with⟨rfl,rfl⟩|⟨j,kN,es0,qZ,q_,rfl,hdj,rfl⟩
       ·simp only[Nat.zero_mul,Nat.add_zero]at c0 c1 c2
        cases g1:lJ key with
        |false=>
         rw[g1]at hr
         simp only[Bool.false_and]at hr
         have hst:aX (d+1) es ks=false:=by rw[aX,Nat.add_sub_cancel,hr];simp
         have HST:=ah hst;clear hst hr
         go_wp2_with fail
         refine dh K (by kernel_rfl) (by kernel_rfl) hK0 ?_
         repeat(go_big_quiet_step ((first|(go_at_call 164;exact Calls.aZ hK2 (Calls.kF (qV key _ hkz)))|(go_at_call 113;exact Calls.aZ hK2 (kJ.out _))|(go_at_call 125;exact Calls.aZ hK2 (HIH.out _ (hK3 _))))))
         refine wpQuiet_nil ?_
         intro w' hw'
         obtain⟨s,rfl⟩:=hw'
         have hfs:=hK1 s
         go_wp2
         go_ret
         exact⟨bI HST.out.symm,bT.out.aG (dw.out.aG hfs)⟩
        |true=>
         cases g3:isNil es' sub with
         |true=>
          rw[g1,g3]at hr
          rw[g3]at kJ
          simp only[Bool.not_true,Bool.and_false,Bool.false_and]at hr
          have hst:aX (d+1) es ks=false:=by rw[aX,Nat.add_sub_cancel,hr];simp
          have HST:=ah hst;clear hst hr
          go_wp2_with fail
          refine dh K (by kernel_rfl) (by kernel_rfl) hK0 ?_
          repeat(go_big_quiet_step ((first|(go_at_call 164;exact Calls.aZ hK2 (Calls.kF (qV key _ hkz)))|(go_at_call 113;exact Calls.aZ hK2 (kJ.out _))|(go_at_call 125;exact Calls.aZ hK2 (HIH.out _ (hK3 _))))))
          refine wpQuiet_nil ?_
          intro w' hw'
          obtain⟨s,rfl⟩:=hw'
          have hfs:=hK1 s
          go_wp2
          go_ret
          exact⟨bI HST.out.symm,bT.out.aG (dw.out.aG hfs)⟩
         |false=>
          rw[g3]at kJ
          cases g4:aX d es' sub with
          |false=>
           rw[g1,g3,g4]at hr
           rw[g4]at HIH
           simp only[Bool.and_false,Bool.false_and]at hr
           have hst:aX (d+1) es ks=false:=by rw[aX,Nat.add_sub_cancel,hr];simp
           have HST:=ah hst;clear hst hr
           go_wp2_with fail
           refine dh K (by kernel_rfl) (by kernel_rfl) hK0 ?_
           repeat(go_big_quiet_step ((first|(go_at_call 164;exact Calls.aZ hK2 (Calls.kF (qV key _ hkz)))|(go_at_call 113;exact Calls.aZ hK2 (kJ.out _))|(go_at_call 125;exact Calls.aZ hK2 (HIH.out _ (hK3 _))))))
           refine wpQuiet_nil ?_
           intro w' hw'
           obtain⟨s,rfl⟩:=hw'
           have hfs:=hK1 s
           go_wp2
           go_ret
           exact⟨bI HST.out.symm,bT.out.aG (dw.out.aG hfs)⟩
          |true=>
           rw[g1,g3,g4]at hr
           rw[g4]at HIH
           simp only[ltK,Bool.not_false,Bool.and_true,Bool.true_and]at hr
           have HST:=ah hr;clear hr
           go_wp2_with fail
           refine dh K (by kernel_rfl) (by kernel_rfl) hK0 ?_
           repeat(go_big_quiet_step ((first|(go_at_call 164;exact Calls.aZ hK2 (Calls.kF (qV key _ hkz)))|(go_at_call 113;exact Calls.aZ hK2 (kJ.out _))|(go_at_call 125;exact Calls.aZ hK2 (HIH.out _ (hK3 _))))))
           refine wpQuiet_nil ?_
           intro w' hw'
           obtain⟨s,rfl⟩:=hw'
           have hfs:=hK1 s
           go_wp2
           go_roundw
           case rel=>exact⟨0+1,some key,by omega,by go_num, .inr ⟨0,key,es',sub,rest,rfl,HDR.out,rfl⟩,HST.out,dw.out.aG hfs⟩
           case measure=>simp[intOf];omega
       ·have pk:=KK.out j kN es0 qZ q_ hdj
        clear hdj
        have Qj:=(fun s=>(hK1 s).cell' (hbf.cell' pk id) id)
        clear pk
        cases g1:lJ key with
        |false=>
         rw[g1]at hr
         simp only[Bool.false_and]at hr
         have hst:aX (d+1) es ks=false:=by rw[aX,Nat.add_sub_cancel,hr];simp
         have HST:=ah hst;clear hst hr
         go_wp2_with fail
         refine dh K (by kernel_rfl) (by kernel_rfl) hK0 ?_
         repeat(go_big_quiet_step ((first|(go_at_call 164;exact Calls.aZ hK2 (Calls.kF (qV key _ hkz)))|(go_at_call 113;exact Calls.aZ hK2 (kJ.out _))|(go_at_call 125;exact Calls.aZ hK2 (HIH.out _ (hK3 _))))))
         refine wpQuiet_nil ?_
         intro w' hw'
         obtain⟨s,rfl⟩:=hw'
         have hfs:=hK1 s
         go_wp2
         go_ret
         exact⟨bI HST.out.symm,bT.out.aG (dw.out.aG hfs)⟩
        |true=>
         cases g2:Op.bytesLess kN.toList key.toList with
         |false=>
          rw[show ltK (some kN) key=false from g2]at hr
          simp only[Bool.and_false,Bool.false_and]at hr
          have hst:aX (d+1) es ks=false:=by rw[aX,Nat.add_sub_cancel,hr];simp
          have HST:=ah hst;clear hst hr
          go_wp2_with fail
          refine dh K (by kernel_rfl) (by kernel_rfl) hK0 ?_
          repeat(go_big_quiet_step ((first|(go_at_call 164;exact Calls.aZ hK2 (Calls.kF (qV key _ hkz)))|(go_at_call 113;exact Calls.aZ hK2 (kJ.out _))|(go_at_call 125;exact Calls.aZ hK2 (HIH.out _ (hK3 _))))))
          refine wpQuiet_nil ?_
          intro w' hw'
          obtain⟨s,rfl⟩:=hw'
          have hfs:=hK1 s
          go_wp2
          go_ret
          exact⟨bI HST.out.symm,bT.out.aG (dw.out.aG hfs)⟩
         |true=>
          cases g3:isNil es' sub with
          |true=>
           rw[g3]at hr
           rw[g3]at kJ
           simp only[Bool.not_true,Bool.and_false,Bool.false_and]at hr
           have hst:aX (d+1) es ks=false:=by rw[aX,Nat.add_sub_cancel,hr];simp
           have HST:=ah hst;clear hst hr
           go_wp2_with fail
           refine dh K (by kernel_rfl) (by kernel_rfl) hK0 ?_
           repeat(go_big_quiet_step ((first|(go_at_call 164;exact Calls.aZ hK2 (Calls.kF (qV key _ hkz)))|(go_at_call 113;exact Calls.aZ hK2 (kJ.out _))|(go_at_call 125;exact Calls.aZ hK2 (HIH.out _ (hK3 _))))))
           refine wpQuiet_nil ?_
           intro w' hw'
           obtain⟨s,rfl⟩:=hw'
           have hfs:=hK1 s
           go_wp2
           go_ret
           exact⟨bI HST.out.symm,bT.out.aG (dw.out.aG hfs)⟩
          |false=>
           rw[g3]at kJ
           cases g4:aX d es' sub with
           |false=>
            rw[g4]at hr
            rw[g4]at HIH
            simp only[Bool.and_false,Bool.false_and]at hr
            have hst:aX (d+1) es ks=false:=by rw[aX,Nat.add_sub_cancel,hr];simp
            have HST:=ah hst;clear hst hr
            go_wp2_with fail
            refine dh K (by kernel_rfl) (by kernel_rfl) hK0 ?_
            repeat(go_big_quiet_step ((first|(go_at_call 164;exact Calls.aZ hK2 (Calls.kF (qV key _ hkz)))|(go_at_call 113;exact Calls.aZ hK2 (kJ.out _))|(go_at_call 125;exact Calls.aZ hK2 (HIH.out _ (hK3 _))))))
            refine wpQuiet_nil ?_
            intro w' hw'
            obtain⟨s,rfl⟩:=hw'
            have hfs:=hK1 s
            go_wp2
            go_ret
            exact⟨bI HST.out.symm,bT.out.aG (dw.out.aG hfs)⟩
           |true=>
            rw[g1,g3,g4,show ltK (some kN) key=true from g2]at hr
            rw[g4]at HIH
            simp only[Bool.not_false,Bool.and_true,Bool.true_and]at hr
            have HST:=ah hr;clear hr
            go_wp2_with fail
            refine dh K (by kernel_rfl) (by kernel_rfl) hK0 ?_
            repeat(go_big_quiet_step ((first|(go_at_call 164;exact Calls.aZ hK2 (Calls.kF (qV key _ hkz)))|(go_at_call 113;exact Calls.aZ hK2 (kJ.out _))|(go_at_call 125;exact Calls.aZ hK2 (HIH.out _ (hK3 _))))))
            refine wpQuiet_nil ?_
            intro w' hw'
            obtain⟨s,rfl⟩:=hw'
            have hfs:=hK1 s
            go_wp2
            go_roundw
            case rel=>exact⟨(j+1)+1,some key,by omega,by go_num, .inr ⟨(j+1),key,es',sub,rest,rfl,HDR.out,rfl⟩,HST.out,dw.out.aG hfs⟩
            case measure=>simp[intOf];omega
     ·obtain rfl:m=k:=by omega
      rw[aH.nZ (by rw[HM.out];exact Nat.le_refl _)]at hr
      have HRR:=ah hr;clear hr
      go_wp2
      go_ret
      exact⟨bI (by rw[RG RI.out,HRR.out];simp[fV]),bT.out.aG dw.out⟩
open Go.RowKit
structure aY where
 key:ByteArray
 es:List aF
 sub:aH
 ev:Value
 kv:Value
instance:Inhabited aY:=⟨⟨ByteArray.empty,[], .nil, .slice none 0 0, .slice none 0 0⟩⟩
def aY.cells (q:aY):List Value:=[.string q.key,q.ev,q.kv]
def wP:List aY→aH→aH
 |[],r=>r
 |q::l,r=> .cons q.key q.es q.sub (wP l r)
def mkK (l:List aY):aH:=wP l .nil
def oP (l:List aY):List (Value×Value):=l.map fun q=>(q.ev,q.kv)
theorem JZ:∀(l:List aY) (q:aY) (r:aH),wP (l++ [q]) r=wP l (.cons q.key q.es q.sub r)
 |[],_,_=>rfl
 |x::l,q,r=>by show aH.cons _ _ _ (wP (l++ [q]) r)=_;rw[JZ l q r];rfl
theorem oQ:∀l:List aY,(mkK l).len=l.length
 |[]=>rfl
 |q::l=>by show(mkK l).len+1=_;rw[oQ l];rfl
theorem uM:∀l:List aY,gK (mkK l) (oP l)=l.flatMap aY.cells
 |[]=>rfl
 |q::l=>by show _::_::_::gK (mkK l) (oP l)=_;rw[uM l];rfl
theorem EF (l:List aY):(l.flatMap aY.cells).length=l.length*3:=by
 induction l with
 |nil=>rfl
 |cons q l ih=>rw[List.flatMap_cons,List.length_append,ih];simp[aY.cells];omega
theorem RJ {l:List aY} (h:∀q∈l,q.ev.oneCell'=true∧q.kv.oneCell'=true):∀v∈l.flatMap aY.cells,v.oneCell'=true:=by
 intro v hv
 obtain⟨q,hq,hv⟩:=List.mem_flatMap.1 hv
 simp[aY.cells]at hv
 rcases hv with rfl|rfl|rfl
 ·rfl
 ·exact(h q hq).1
 ·exact(h q hq).2
theorem wQ {Q:Nat→Prop} {w:World}:∀ {l:List aY},(∀q∈l,bg Q w q.ev q.kv q.es q.sub)→iw Q w (mkK l) (oP l)
 |[],_=>rfl
 |q::l,h=>by
  obtain⟨h1,os,h2,h3⟩:=h q List.mem_cons_self
  exact⟨q.ev,q.kv,oP l,os,rfl,h1,h2,h3,wQ fun x hx=>h x (List.mem_cons_of_mem _ hx)⟩
theorem J_:∀ {l:List aY},(∀q∈l,q.key.size≤9223372036854775807∧iQ q.es q.sub)→(mkK l).Ok
 |[],_=>trivial
 |q::l,h=>by
  obtain⟨h1,h2⟩:=h q List.mem_cons_self
  exact⟨h1,h2.es,h2.len,h2.ks,J_ fun x hx=>h x (List.mem_cons_of_mem _ hx)⟩
theorem gy.turn {Q Q':Nat→Prop} {w w':World} {v:Value} {n:Nat} {xs:List Value} (h:gy Q w v n xs) (f:∀b,b<w.heap.size→Q b→w'.heap[b]?=w.heap[b]?∧Q' b):gy Q' w' v n xs:=by
 rcases h.rd with⟨ad,h1,h2,h3⟩|⟨b,off,c,rfl,h1,h2,h3⟩
 ·exact⟨.inl ⟨ad,h1,h2,h3⟩,fun hx=>absurd h3 hx⟩
 ·have sN:∀j u,xs[j]?=some u→w'.cell? ⟨b,off+j,none⟩=some u∧Q' b:=fun j u hu=>by
   have hc:=h3 j u hu
   have hlt:b<w.heap.size:=World.block_lt_of_cell? _ _ hc
   obtain⟨g1,g2⟩:=f b hlt (h.q (fun e=>by rw[e]at hu;simp at hu) b rfl)
   exact⟨(World.cell?_of_block (w:=w) g1).trans hc,g2⟩
  refine⟨.inr ⟨b,off,c,rfl,h1,h2,fun j u hu=>(sN j u hu).1⟩,fun hx k hk=>?_⟩
  simp[Value.ownBlock]at hk
  subst hk
  cases xs with
  |nil=>exact absurd rfl hx
  |cons x xs=>exact(sN 0 x rfl).2
theorem iw.turn {Q Q':Nat→Prop} {w w':World} (f:∀b,b<w.heap.size→Q b→w'.heap[b]?=w.heap[b]?∧Q' b):∀ {ks:aH} {os:List (Value×Value)},iw Q w ks os→iw Q' w' ks os
 | .nil,_,h=>h
 | .cons _ _ _ _,_,⟨ev,kv,mg,os,h1,h2,h3,h4,h5⟩=>⟨ev,kv,mg,os,h1,h2.turn f,h3.turn f,h4.turn f,h5.turn f⟩
theorem bg.turn {Q Q':Nat→Prop} {w w':World} {ev kv:Value} {es:List aF} {ks:aH} (h:bg Q w ev kv es ks) (f:∀b,b<w.heap.size→Q b→w'.heap[b]?=w.heap[b]?∧Q' b):bg Q' w' ev kv es ks:=
 ⟨h.ents.turn f,let⟨os,h1,h2⟩:=h.kids;⟨os,h1.turn f,h2.turn f⟩⟩
theorem OwnAt.yQ {w0 w:World} {e:TypeId} {size:Nat} {v:Value} {n:Nat} {xs:List Value} (h:OwnAt w0 w e size v n xs):gy (fun k=>w0.heap.size≤k) w v n xs:=⟨h.rd,fun _ k hk=>h.new k hk⟩
open Go.RowKit
theorem uN:(Tryz.prog.info? 52).map (fun i=>(i.zero,i.size,i.bytes))=some (some (.agg #[.string ByteArray.empty, .slice none 0 0, .slice none 0 0]),3,64):=by kernel_rfl
def sU (w:World) (h2 h3:Nat) (v:Value) (b:Nat):Prop:=w.heap.size≤b∧b≠h2∧b≠h3∧v.ownBlock≠some b
structure mG (w ww:World) (h2 h3:Nat) (n:Nat) (ev kv:Value) (es:List aF) (ks:aH) (k:Nat) (l:List aY):Prop where
 aI:aj au w ww
 b2:ww.heap[h2]?=some (.cells #[.slice none 0 0, .slice none 0 0] 28 (0,0))
 b3:ww.heap[h3]?=some (.cells #[ev,kv] 28 (0,0))
 new2:w.heap.size≤h2
 Bc:w.heap.size≤h3
 ne:h2≠h3
 own:dU (fun b=>b=h2∨b=h3) w ww 52 3 kv k (l.flatMap aY.cells)
 ents:gy (sU w h2 h3 kv) ww ev n (fJ es)
 kids:∀q∈l,bg (sU w h2 h3 kv) ww q.ev q.kv q.es q.sub
 len:l.length=k
 all:ks=wP l (ks.drop k)
theorem mG.keep {w ww w':World} {h2 h3 n:Nat} {ev kv:Value} {es:List aF} {ks:aH} {k:Nat} {l:List aY} (h:mG w ww h2 h3 n ev kv es ks k l) (f:aj au ww w'):mG w w' h2 h3 n ev kv es ks k l:=
 ⟨h.aI.aG f,f.blk h.b2 id,f.blk h.b3 id,h.new2,h.Bc,h.ne,h.own.keep f,h.ents.keep f (fun _ _ s=>s.elim),fun q hq=>(h.kids q hq).aN f,h.len,h.all⟩
theorem mG.step {w w1 w':World} {h2 h3 n:Nat} {ev kv kv':Value} {es:List aF} {ks:aH} {k:Nat} {l:List aY} (h:mG w w1 h2 h3 n ev kv es ks k l) {q:aY} {rest:aH} (hd:ks.drop k= .cons q.key q.es q.sub rest)
 (hq:bg (sU w h2 h3 kv) w1 q.ev q.kv q.es q.sub)
 (own:w'.ownsRow 0 52 3 kv' (k+1) (l.flatMap aY.cells++q.cells)) (fm:aj (bY kv) w1 w') (fr:jk w1 kv kv'):
 mG w (w'.setCell ⟨h3,1,none⟩ kv') h2 h3 n ev kv' es ks (k+1) (l++ [q]):=by
 have hb3:¬bY kv h3:=fun hs=>h.own.but h3 hs (.inr rfl)
 have hb2:¬bY kv h2:=fun hs=>h.own.but h2 hs (.inl rfl)
 have hset:aj (fun b=>b=h3) w' (w'.setCell ⟨h3,1,none⟩ kv'):=aj.setCell (S:=fun b=>b=h3) w' (p:=⟨h3,1,none⟩) (.inl rfl) _
 have l2:=lt_of_block h.b2
 have l3:=lt_of_block h.b3
 have hne':∀b,kv'.ownBlock=some b→b≠h2∧b≠h3:=fun b hb=>by
  rcases fr b hb with h1|h1
  ·exact⟨fun e=>h.own.but b h1 (.inl e),fun e=>h.own.but b h1 (.inr e)⟩
  ·exact⟨fun e=>by omega,fun e=>by omega⟩
 have turn:∀b,b<w1.heap.size→sU w h2 h3 kv b→(w'.setCell ⟨h3,1,none⟩ kv').heap[b]?=w1.heap[b]?∧sU w h2 h3 kv' b:=fun b hb hQ=>by
  refine⟨?_,hQ.1,hQ.2.1,hQ.2.2.1,fun e=>?_⟩
  ·rw[hset.block b (Nat.lt_of_lt_of_le hb fm.size) hQ.2.2.1,fm.block b hb hQ.2.2.2]
  ·rcases fr b e with h1|h1
   ·exact hQ.2.2.2 h1
   ·omega
 have hown:dU (fun b=>b=h2∨b=h3) w w' 52 3 kv' (k+1) (l.flatMap aY.cells++q.cells):=
  ⟨h.own.at_.step own fm fr,fun b hb hn=>by
    have:=hne' b hb
    rcases hn with hn|hn
    ·exact this.1 hn
    ·exact this.2 hn⟩
 refine⟨hown.at_.aI.set1 (.inr h.Bc),?_,?_,h.new2,h.Bc,h.ne,?_,h.ents.turn turn,fun x hx=>?_,by rw[List.length_append,h.len];rfl,?_⟩
 ·exact hset.blk (fm.blk h.b2 hb2) h.ne
 ·exact eP (fm.blk h.b3 hb3) 1 kv'
 ·rw[List.flatMap_append]
  simp only[List.flatMap_cons,List.flatMap_nil,List.append_nil]
  exact hown.set (.inr rfl) h.Bc _
 ·rcases List.mem_append.1 hx with hx|hx
  ·exact(h.kids x hx).turn turn
  ·simp only[List.mem_singleton]at hx;subst hx;exact hq.turn turn
 ·rw[JZ,aH.qY k ks hd,←hd]
  exact h.all
theorem mG.done {w ww:World} {h2 h3 n:Nat} {ev kv:Value} {es:List aF} {ks:aH} {k:Nat} {l:List aY} (h:mG w ww h2 h3 n ev kv es ks k l) (hn:n=es.length) (hk:ks.len≤k):
 bg (fun b=>w.heap.size≤b) ((ww.setCell ⟨h2,0,none⟩ ev).setCell ⟨h2,1,none⟩ kv) ev kv es ks∧aj au w ((ww.setCell ⟨h2,0,none⟩ ev).setCell ⟨h2,1,none⟩ kv)∧
  ((ww.setCell ⟨h2,0,none⟩ ev).setCell ⟨h2,1,none⟩ kv).heap[h2]?=some (.cells #[ev,kv] 28 (0,0)):=by
 have hks:ks=mkK l:=by
  have:=h.all
  rw[aH.nZ hk]at this
  exact this
 have Bf:aj (fun b=>b=h2) ww ((ww.setCell ⟨h2,0,none⟩ ev).setCell ⟨h2,1,none⟩ kv):=
  (aj.setCell (S:=fun b=>b=h2) ww (p:=⟨h2,0,none⟩) (.inl rfl) ev).trans (aj.setCell (S:=fun b=>b=h2) _ (p:=⟨h2,1,none⟩) (.inl rfl) kv) fun _ _ h=>h
 have turn:∀b,b<ww.heap.size→sU w h2 h3 kv b→((ww.setCell ⟨h2,0,none⟩ ev).setCell ⟨h2,1,none⟩ kv).heap[b]?=ww.heap[b]?∧w.heap.size≤b:=fun b hb hQ=>⟨Bf.block b hb hQ.2.1,hQ.1⟩
 refine⟨⟨hn▸h.ents.turn turn,oP l,?_,?_⟩,(h.aI.set1 (p:=⟨h2,0,none⟩) (.inr h.new2)).set1 (p:=⟨h2,1,none⟩) (.inr h.new2),eP (eP h.b2 0 ev) 1 kv⟩
 ·rw[hks,oQ,uM,h.len]
  have ho:=Bf.owns h.own.at_.own fun b hb he=>h.own.but b hb (.inl he)
  exact⟨Rd.own ho,fun _ b hb=>h.own.at_.new b hb⟩
 ·rw[hks]
  exact wQ fun q hq=>(h.kids q hq).turn turn
theorem mG.top {w ww:World} {h2 h3 n:Nat} {ev kv:Value} {es:List aF} {ks:aH} {k:Nat} {l:List aY} (h:mG w ww h2 h3 n ev kv es ks k l) (hk:ks.len≤k):
 ks=mkK l∧OwnAt w ((ww.setCell ⟨h2,0,none⟩ ev).setCell ⟨h2,1,none⟩ kv) 52 3 kv l.length (l.flatMap aY.cells)∧∀q∈l,bg (fun b=>w.heap.size≤b∧kv.ownBlock≠some b) ((ww.setCell ⟨h2,0,none⟩ ev).setCell ⟨h2,1,none⟩ kv) q.ev q.kv q.es q.sub:=by
 have Bf:aj (fun b=>b=h2) ww ((ww.setCell ⟨h2,0,none⟩ ev).setCell ⟨h2,1,none⟩ kv):=
  (aj.setCell (S:=fun b=>b=h2) ww (p:=⟨h2,0,none⟩) (.inl rfl) ev).trans (aj.setCell (S:=fun b=>b=h2) _ (p:=⟨h2,1,none⟩) (.inl rfl) kv) fun _ _ h=>h
 refine⟨?_,?_,fun q hq=>(h.kids q hq).turn fun b hb hQ=>⟨Bf.block b hb hQ.2.1,hQ.1,hQ.2.2.2⟩⟩
 ·have:=h.all
  rw[aH.nZ hk]at this
  exact this
 ·rw[h.len]
  exact((h.own.set (p:=⟨h2,0,none⟩) (.inl rfl) h.new2 ev).set (p:=⟨h2,1,none⟩) (.inl rfl) h.new2 kv).at_
open Go.RowKit
def Bg (w:World) (es:List aF) (ks:aH) (e:Ending) (w':World):Prop:=
 ∃ev' kv',e= .returned (.agg #[ev',kv'])∧bg (fun b=>w.heap.size≤b) w' ev' kv' es ks∧aj au w w'
def RN (w:World) (es:List aF) (ks:aH) (e:Ending) (w':World):Prop:=
 ∃ev' kv' l,e= .returned (.agg #[ev',kv'])∧bg (fun b=>w.heap.size≤b) w' ev' kv' es ks∧aj au w w'∧ks=mkK l∧OwnAt w w' 52 3 kv' l.length (l.flatMap aY.cells)∧∀q∈l,bg (fun b=>w.heap.size≤b∧kv'.ownBlock≠some b) w' q.ev q.kv q.es q.sub
theorem Ko (Q:Nat→Prop):∀(N:Nat) (es:List aF) (ks:aH) (w:World) (ev kv:Value),cu ks<N→bg Q w ev kv es ks→sizeT es ks≤100000→
 Calls Tryz.prog 97 #[.agg #[ev,kv]] w (RN w es ks):=by
 intro N
 induction N with
 |zero=>intros;exfalso;omega
 |succ N fO=>
  intro es ks w ev kv hN ht hsz
  obtain⟨i0,hi,hz0,hz1,hz2⟩:=info_parts uN
  obtain⟨ae,ce,rfl⟩:=ht.ents.rd.sl
  obtain⟨os,hkr,dH⟩:=ht.kids
  obtain⟨ak,ck,rfl⟩:=hkr.rd.sl
  have HE:=ah ht.ents.rd
  have fH:=ah hkr.rd;clear hkr ht
  have jH:=ah dH;clear dH
  have IH:=ah fO;clear fO
  have oN:es.length≤100000:=by unfold sizeT at hsz;omega
  have wF:ks.len≤100000:=by have:=kG ks;unfold sizeT at hsz;omega
  have rH:=ah (fun W (h:aj au w W)=>Qm W (.slice ae es.length ce) es (HE.out.aN h) oN)
  have jy:=ah hsz;clear hsz
  have kH:=ah hN;clear hN
  generalize hes:es.length=n at*
  have HN:=ah hes;clear hes
  generalize hkl:ks.len=m at*
  have HM:=ah hkl;clear hkl
  obtain⟨WB,iR⟩:∃WB,WB=(w.alloc (.cells #[.slice ae n ce, .slice ak m ck] 28)).alloc (.cells #[.slice none 0 0, .slice none 0 0] 28):=⟨_,rfl⟩
  have hfb:aj au w WB:=by rw[iR];exact(aj.alloc _ _ _).alloc1
  have hb0:WB.heap[w.heap.size]?=some (.cells #[.slice ae n ce, .slice ak m ck] 28 (0,0)):=by rw[iR,Below.heap_alloc _ _ _ (by simp)];exact heap_alloc_new w _
  have hb2:WB.heap[w.heap.size+1]?=some (.cells #[.slice none 0 0, .slice none 0 0] 28 (0,0)):=by
   rw[iR]
   have:=heap_alloc_new (w.alloc (.cells #[.slice ae n ce, .slice ak m ck] 28)) (.cells #[.slice none 0 0, .slice none 0 0] 28)
   simpa using this
  have hbs:WB.heap.size=w.heap.size+1+1:=by rw[iR];simp
  have bf:=ah hfb;clear hfb
  have HB0:=ah hb0;clear hb0
  have HB2:=ah hb2;clear hb2
  have wR:=ah hbs;clear hbs
  have hcall:∀W,W=WB→Calls Tryz.prog 137 #[.slice ae n ce] W fun e w'=>∃v',e= .returned v'∧OwnAt WB w' 100 4 v' n (fJ es):=fun W hW=>by rw[hW];exact rH.out WB bf.out
  have RQ:=ah hcall;clear hcall
  have bT:=ah iR.symm;clear iR
  go_enter Tryz.func97,Tryz.ntmps97
  go_wp2_with(go_at_call 137;refine(RQ.out _ bT.out).mono ?_;rintro e w1 ⟨v1,rfl,ho1⟩;obtain⟨a1,c1,rfl⟩:=ho1.shape;have dF:=ah ho1;clear ho1;have b1:w1.cell? ⟨w.heap.size,1,none⟩=some (.slice ak m ck):=dF.out.aI.cell' (aJ HB0.out 1 rfl) id;have hlt1:w.heap.size<w1.heap.size:=World.block_lt_of_cell? _ _ b1)
  have hln:aj au w (w1.alloc (.cells #[.slice a1 n c1, .slice none 0 0] 28)):=(bf.out.aG dF.out.aI).alloc1
  have hc0:mG w (w1.alloc (.cells #[.slice a1 n c1, .slice none 0 0] 28)) (w.heap.size+1) w1.heap.size n (.slice a1 n c1) (.slice none 0 0) es ks 0 []:=by
   have hs1:=dF.out.aI.size
   have hbs:=wR.out
   refine⟨hln,(aj.alloc au _ _).blk (dF.out.aI.blk HB2.out id) id,heap_alloc_new w1 _,by omega,by have:=bf.out.size;omega,by omega,dU.nil hln _ _,?_,fun q hq=>(by cases hq),rfl,rfl⟩
   refine dF.out.yQ.turn fun b hb hQ=>⟨Below.heap_alloc _ _ _ hb,by omega,by omega,by omega,by simp[Value.ownBlock]⟩
  have EG:=ah hc0;clear hc0
  have kC:=ah hln;clear hln
  clear b1 hlt1
  go_loopw [13] (fun i ww=>∃(k:Nat) (l:List aY) (wS:Value),k≤m∧i= .int .i64 k∧mG w ww (w.heap.size+1) w1.heap.size n (.slice a1 n c1) wS es ks k l) (fun i _=>m-(intOf i).toNat)
  case atStart=>exact⟨0,[],_,Nat.zero_le _,rfl,EG.out⟩
  case round=>
   obtain⟨k,l,wS,hk,rfl,hc⟩:=hrel
   obtain⟨av,cv,rfl⟩:=hc.own.at_.shape
   have HC:=ah hc;clear hc
   by_cases hlt:k<m
   ·obtain⟨key,es',sub,rest,hdr⟩:=aH.mD (n:=k) (ks:=ks) (by rw[HM.out];exact hlt)
    rcases Rd.shape fH.out with⟨ad,he,h0⟩|⟨b,off,cc,he,hmax⟩
    ·exfalso;have:=HM.out;omega
    ·injection he with e1 e2 e3
     subst e1 e3
     clear e2
     obtain⟨ev',kv',q0,q1,q2,hta⟩:=k_ (fH.out.aN HC.out.aI) (jH.out.aN HC.out.aI) hdr
     obtain⟨dI,dJ,rfl⟩:=hta.ents.rd.sl
     obtain⟨os',fB,jA⟩:=hta.kids
     obtain⟨dK,dL,rfl⟩:=fB.rd.sl
     clear fB jA
     have eF:=ah (qC k hdr)
     have HST:=ah (ru k hdr)
     have je:=ah hta;clear hta
     have HIH:=ah (fun w' (h:aj au wr w')=>IH.out es' sub w' _ _ (by have:=eF.out;have:=kH.out;omega) (je.out.aN h) (by have:=HST.out;have:=jy.out;unfold sizeT at*;omega))
     have HDR:=ah hdr;clear hdr
     have hkp:k≤100000:=by omega
     generalize es'.length=n' at*
     generalize sub.len=m' at*
     have hsp:(wr.alloc (.cells #[.string key, .slice dI n' dJ, .slice dK m' dL] 52)).heap[wr.heap.size]?=some (.cells #[.string key, .slice dI n' dJ, .slice dK m' dL] 52 (0,0)):=heap_alloc_new wr _
     have qF:=ah hsp;clear hsp
     have RS:=lt_of_block HC.out.b3
     have EH:=lt_of_block HC.out.b2
     have Kq:∀b,(Value.slice av k cv).ownBlock=some b→b<wr.heap.size:=fun b hb=>HC.out.own.at_.lt b hb
     have Kr:=ah Kq;clear Kq
     have hfa:aj au wr (wr.alloc (.cells #[.string key, .slice dI n' dJ, .slice dK m' dL] 52)).drew:=(aj.alloc _ _ _).sF
     have jU:=ah hfa;clear hfa
     have hsz0:(wr.alloc (.cells #[.string key, .slice dI n' dJ, .slice dK m' dL] 52)).drew.heap.size=wr.heap.size+1:=by show(wr.alloc _).heap.size=_;simp
     have Kt:=ah hsz0;clear hsz0
     go_wp2_with fail
     refine iZ (S:=fun w'=>w'.cell? ⟨wr.heap.size,0,none⟩=some (.string key)∧w'.cell? ⟨wr.heap.size,1,none⟩=some (.slice dI n' dJ)∧w'.cell? ⟨wr.heap.size,2,none⟩=some (.slice dK m' dL)∧w'.cell? ⟨w1.heap.size,1,none⟩=some (.slice av k cv)) 11 (by kernel_rfl) ⟨aJ qF.out 0 rfl,aJ qF.out 1 rfl,aJ qF.out 2 rfl,jU.out.cell' (aJ HC.out.b3 1 rfl) id⟩ ?_
     intro hS
     generalize (wr.alloc (.cells #[.string key, .slice dI n' dJ, .slice dK m' dL] 52)).drew=Y0 at*
     refine aT 0 17 rfl rfl (v:=?_) (.inl ⟨by rfl,?_⟩) ?_
     rotate_left 1
     ·(intro w hSw;(try dsimp only at hSw);go_simp;(try with_reducible rfl))
     refine aT 1 18 rfl rfl (v:=?_) (.inl ⟨by rfl,?_⟩) ?_
     rotate_left 1
     ·(intro w hSw;(try dsimp only at hSw);go_simp;(try with_reducible rfl))
     try simp only[Act.put,aP,aQ,aO]
     refine aT 2 19 rfl rfl (v:=?_) (.inl ⟨by rfl,?_⟩) ?_
     rotate_left 1
     ·(intro w hSw;(try dsimp only at hSw);go_simp;(try with_reducible rfl))
     refine aT 3 20 rfl rfl (v:=?_) (.inl ⟨by rfl,?_⟩) ?_
     rotate_left 1
     ·(intro w hSw;(try dsimp only at hSw);go_simp;(try with_reducible rfl))
     try simp only[Act.put,aP,aQ,aO]
     refine aT 4 21 rfl rfl (v:=?_) (.inl ⟨by rfl,?_⟩) ?_
     rotate_left 1
     ·(intro w hSw;(try dsimp only at hSw);go_simp;(try with_reducible rfl))
     refine aT 5 22 rfl rfl (v:=?_) (.inl ⟨by rfl,?_⟩) ?_
     rotate_left 1
     ·(intro w hSw;(try dsimp only at hSw);go_simp;(try with_reducible rfl))
     try simp only[Act.put,aP,aQ,aO]
     refine bK (i:=6) (by kernel_rfl) rfl (fun K hK=>?_)
     go_simp
     refine(HIH.out _ jU.out).mono ?_
     rintro e Y ⟨oU,jB,-,rfl,jh,hf3,-⟩
     obtain⟨a3,c3,rfl⟩:=jh.ents.rd.sl
     obtain⟨os3,kQ,-⟩:=jh.kids
     obtain⟨a4,c4,rfl⟩:=kQ.rd.sl
     clear kQ
     have yR:=ah jh;clear jh
     have HF3:=ah hf3;clear hf3
     generalize es'.length=n3 at*
     generalize sub.len=m3 at*
     have hS3:Y.cell? ⟨wr.heap.size,0,none⟩=some (.string key)∧Y.cell? ⟨wr.heap.size,1,none⟩=some (.slice dI n' dJ)∧Y.cell? ⟨wr.heap.size,2,none⟩=some (.slice dK m' dL)∧Y.cell? ⟨w1.heap.size,1,none⟩=some (.slice av k cv):=⟨HF3.out.cell' hS.1 id,HF3.out.cell' hS.2.1 id,HF3.out.cell' hS.2.2.1 id,HF3.out.cell' hS.2.2.2 id⟩
     refine hK.out _ _ hS3 ?_
     clear hK K hS
     try simp only[Act.put,aP,aQ,aO]
     refine aT 7 24 rfl rfl (v:=?_) (.inl ⟨by rfl,?_⟩) ?_
     rotate_left 1
     ·(intro w hSw;(try dsimp only at hSw);go_simp;(try with_reducible rfl))
     try simp only[Act.put,aP,aQ,aO]
     refine bK (i:=8) (by kernel_rfl) rfl (fun K hK=>?_)
     go_simp
     have hS4:(Y.alloc (.cells #[.string key, .slice a3 n3 c3, .slice a4 m3 c4] 52)).cell? ⟨wr.heap.size,0,none⟩=some (.string key)∧(Y.alloc (.cells #[.string key, .slice a3 n3 c3, .slice a4 m3 c4] 52)).cell? ⟨wr.heap.size,1,none⟩=some (.slice dI n' dJ)∧(Y.alloc (.cells #[.string key, .slice a3 n3 c3, .slice a4 m3 c4] 52)).cell? ⟨wr.heap.size,2,none⟩=some (.slice dK m' dL)∧(Y.alloc (.cells #[.string key, .slice a3 n3 c3, .slice a4 m3 c4] 52)).cell? ⟨w1.heap.size,1,none⟩=some (.slice av k cv):=⟨(aj.alloc au Y _).cell' hS3.1 id,(aj.alloc au Y _).cell' hS3.2.1 id,(aj.alloc au Y _).cell' hS3.2.2.1 id,(aj.alloc au Y _).cell' hS3.2.2.2 id⟩
     refine hK.out _ _ hS4 ?_
     clear hK K
     try simp only[Act.put,aP,aQ,aO]
     refine bK (i:=9) (by kernel_rfl) rfl (fun K hK=>?_)
     have wU:=ah ((HC.out.keep jU.out).keep HF3.out)
     have RU:wr.heap.size<Y.heap.size:=by have:=HF3.out.size;have:=Kt.out;omega
     refine Ef (fun b=>b<Y.heap.size∧(Value.slice av k cv).ownBlock≠some b) w Y [.string key, .slice a3 n3 c3, .slice a4 m3 c4] rfl (.tmp 18) (.tmp 25) 26 rfl 52 i0 _ 3 64 Tryz.underlying26 hi hz0 hz1 hz2 (by decide) (by decide) (.slice av k cv) k _ ⟨wU.out.own.at_,fun b hb hn=>hn.2 hb⟩ (fun b hb=>hb.1) 1 1 (by simp[Act.eval]) (by simp[Act.eval]) rfl (by simp[Value.oneCell']) (by simp only[maxLen];omega) (by omega) ?_
     intro ad jd w2 bn gG
     have hnk:∀b,b≤wr.heap.size→(Value.slice av k cv).ownBlock≠some b→b<Y.heap.size∧(Value.slice av k cv).ownBlock≠some b:=fun b hb hn=>⟨by omega,hn⟩
     have hle3:w1.heap.size≤wr.heap.size:=Nat.le_of_lt RS
     have oN:(Value.slice av k cv).ownBlock≠some wr.heap.size:=fun h=>by have:=Kr.out _ h;omega
     have hn3:(Value.slice av k cv).ownBlock≠some w1.heap.size:=fun h=>HC.out.own.but _ h (.inr rfl)
     have hS5:w2.cell? ⟨wr.heap.size,0,none⟩=some (.string key)∧w2.cell? ⟨wr.heap.size,1,none⟩=some (.slice dI n' dJ)∧w2.cell? ⟨wr.heap.size,2,none⟩=some (.slice dK m' dL)∧w2.cell? ⟨w1.heap.size,1,none⟩=some (.slice av k cv):=⟨gG.cell (hnk _ (Nat.le_refl _) oN) hS3.1,gG.cell (hnk _ (Nat.le_refl _) oN) hS3.2.1,gG.cell (hnk _ (Nat.le_refl _) oN) hS3.2.2.1,gG.cell (hnk _ hle3 hn3) hS3.2.2.2⟩
     refine hK.out _ _ hS5 ?_
     clear hK K hS4
     have hcf:w2.frozen? ⟨w1.heap.size,1,none⟩=false:=gG.frozen (p:=⟨w1.heap.size,1,none⟩) (hnk _ hle3 hn3) (bG wU.out.b3 1)
     have hfm:aj (bY (.slice av k cv)) Y w2:=⟨bn.at_.aI.os.trans wU.out.aI.os.symm,bn.at_.aI.tape.trans wU.out.aI.tape.symm,bn.at_.aI.output.trans wU.out.aI.output.symm,gG.1,fun b hb hn=>gG.2 b ⟨hb,hn⟩⟩
     have hfr:jk Y (.slice av k cv) (.slice ad (k+1) jd):=fun b hb=>by
      by_cases h1:(Value.slice av k cv).ownBlock=some b
      ·exact .inl h1
      ·refine .inr ?_
       have:=bn.but b hb
       rcases Nat.lt_or_ge b Y.heap.size with h2|h2
       ·exact absurd ⟨h2,h1⟩ this
       ·exact h2
     have hq3:bg (sU w (w.heap.size+1) w1.heap.size (.slice av k cv)) Y (.slice a3 n3 c3) (.slice a4 m3 c4) es' sub:=yR.out.turn fun b hb hQ=>by
      have h0:=Kt.out
      have h1:=HC.out.aI.size
      refine⟨rfl,by omega,by omega,by omega,fun h=>?_⟩
      have:=Kr.out _ h
      omega
     have uF:=ah (wU.out.step (q:=⟨key,es',sub, .slice a3 n3 c3, .slice a4 m3 c4⟩) HDR.out hq3 bn.at_.own hfm hfr)
     clear bn gG hfm hfr hq3 hnk oN hn3 RU
     try simp only[Act.put,aP,aQ,aO]
     refine aT 10 27 rfl rfl (v:=?_) (.inl ⟨by rfl,?_⟩) ?_
     rotate_left 1
     ·(intro w hSw;(try dsimp only at hSw);go_simp;(try with_reducible rfl))
     try simp only[Act.put,aP,aQ,aO]
     refine gQ (by kernel_rfl) (by kernel_rfl) rfl (fun K hK=>?_)
     have hcz:=hS5.2.2.2
     clear hS5 hS3
     go_simp
     refine hK.out _ _ ?_
     clear hK K hcz hcf
     go_wp2
     go_roundw
     case rel=>exact⟨k+1,_,_,by omega,by go_num,uF.out⟩
     case measure=>simp[intOf];omega
   ·obtain rfl:m=k:=by omega
    have hdn:=HC.out.done HN.out.symm (by rw[HM.out];exact Nat.le_refl _)
    have jf:=ah hdn;clear hdn
    have RV:=ah (HC.out.top (by rw[HM.out];exact Nat.le_refl _))
    have y0:=aJ HC.out.b3 0 rfl
    have y1:=aJ HC.out.b3 1 rfl
    have z0:=aJ HC.out.b2 0 rfl
    have z1:=aJ HC.out.b2 1 rfl
    have f0:=bG HC.out.b2 0
    have f1:=bG HC.out.b2 1
    go_wp2
    clear y0 y1 z0 z1
    have y0:=aJ jf.out.2.2 0 rfl
    have y1:=aJ jf.out.2.2 1 rfl
    exact bodyPost_ret (v:= .agg #[.slice a1 n c1, .slice av m cv]) (by simp[results,Tryz.results97,go_sem,y0,y1]) rfl ⟨_,_,l,rfl,jf.out.1,jf.out.2.1,RV.out⟩
theorem RX (Q:Nat→Prop) (N:Nat) (es:List aF) (ks:aH) (w:World) (ev kv:Value) (hN:cu ks<N) (h:bg Q w ev kv es ks) (hs:sizeT es ks≤100000):Calls Tryz.prog 97 #[.agg #[ev,kv]] w (Bg w es ks):=
 (Ko Q N es ks w ev kv hN h hs).mono fun _ _ ⟨ev',kv',_,h1,h2,h3,_⟩=>⟨ev',kv',h1,h2,h3⟩
open Go.RowKit
theorem oV {w:World} {b j k:Nat} {v:Value} (h:k≠b):(w.setCell ⟨b,j,none⟩ v).heap[k]?=w.heap[k]?:=Below.heap_setCell _ _ _ _ h
theorem res2 {w0 w:World} {b:Nat} {T:TypeId} {a0 a1:Value} (h:w.heap[b]?=some (.cells #[a0,a1] T (0,0))) (f:aj au w0 w) (hb:w0.heap.size≤b) (v0 v1:Value):
 ((w.setCell ⟨b,0,none⟩ v0).setCell ⟨b,1,none⟩ v1).heap[b]?=some (.cells #[v0,v1] T (0,0))∧aj au w0 ((w.setCell ⟨b,0,none⟩ v0).setCell ⟨b,1,none⟩ v1)∧
   ∀k,k≠b→((w.setCell ⟨b,0,none⟩ v0).setCell ⟨b,1,none⟩ v1).heap[k]?=w.heap[k]?:=
 ⟨eP (eP h 0 v0) 1 v1,(f.set1 (p:=⟨b,0,none⟩) (.inr hb)).set1 (p:=⟨b,1,none⟩) (.inr hb),fun k hk=>(oV hk).trans (oV hk)⟩
theorem wV {w0 w:World} {b:Nat} {T:TypeId} {a0 a1 a2:Value} (h:w.heap[b]?=some (.cells #[a0,a1,a2] T (0,0))) (f:aj au w0 w) (hb:w0.heap.size≤b) (v0 v1 v2:Value):
 (((w.setCell ⟨b,0,none⟩ v0).setCell ⟨b,1,none⟩ v1).setCell ⟨b,2,none⟩ v2).heap[b]?=some (.cells #[v0,v1,v2] T (0,0))∧aj au w0 (((w.setCell ⟨b,0,none⟩ v0).setCell ⟨b,1,none⟩ v1).setCell ⟨b,2,none⟩ v2)∧
   ∀k,k≠b→(((w.setCell ⟨b,0,none⟩ v0).setCell ⟨b,1,none⟩ v1).setCell ⟨b,2,none⟩ v2).heap[k]?=w.heap[k]?:=
 ⟨eP (eP (eP h 0 v0) 1 v1) 2 v2,((f.set1 (p:=⟨b,0,none⟩) (.inr hb)).set1 (p:=⟨b,1,none⟩) (.inr hb)).set1 (p:=⟨b,2,none⟩) (.inr hb),fun k hk=>((oV hk).trans (oV hk)).trans (oV hk)⟩
theorem mJ (w:World) (o:Obj) (cs:Array Value) (T:TypeId):((w.alloc o).alloc (.cells cs T)).heap[w.heap.size+1]?=some (.cells cs T (0,0))∧aj au w ((w.alloc o).alloc (.cells cs T))∧((w.alloc o).alloc (.cells cs T)).heap.size=w.heap.size+1+1:=by
 refine⟨?_,(aj.alloc _ _ _).alloc1,by simp⟩
 have:=heap_alloc_new (w.alloc o) (.cells cs T)
 simpa using this
theorem jV (w:World) (v0 v1:Value) (T:TypeId) (W:World) (f:aj au (w.alloc (.cells #[v0,v1] T)) W):W.cell? ⟨w.heap.size,0,none⟩=some v0∧W.cell? ⟨w.heap.size,1,none⟩=some v1:=
 ⟨f.cell' (aJ (heap_alloc_new w _) 0 rfl) id,f.cell' (aJ (heap_alloc_new w _) 1 rfl) id⟩
theorem eG (w:World) (v0 v1 v2:Value) (T:TypeId) (W:World) (f:aj au (w.alloc (.cells #[v0,v1,v2] T)) W):W.cell? ⟨w.heap.size,0,none⟩=some v0∧W.cell? ⟨w.heap.size,1,none⟩=some v1∧W.cell? ⟨w.heap.size,2,none⟩=some v2:=
 ⟨f.cell' (aJ (heap_alloc_new w _) 0 rfl) id,f.cell' (aJ (heap_alloc_new w _) 1 rfl) id,f.cell' (aJ (heap_alloc_new w _) 2 rfl) id⟩
open Go.RowKit
theorem yS (Q:Nat→Prop) (es:List aF) (ks:aH) (w:World) (ev kv:Value) (ht:bg Q w ev kv es ks) (hok:iQ es ks):
 Calls Tryz.prog 89 #[.agg #[ev,kv]] w fun e w'=>e= .returned (.bool (aX 5 es ks))∧aj au w w':=by
 obtain⟨ae,ce,rfl⟩:=ht.ents.rd.sl
 obtain⟨os,hkr,dH⟩:=ht.kids
 obtain⟨ak,ck,rfl⟩:=hkr.rd.sl
 have hc:∀W,aj au w W→Calls Tryz.prog 125 #[.agg #[.slice ae es.length ce, .slice ak ks.len ck], .int .i64 5] W fun e w'=>e= .returned (.bool (aX 5 es ks))∧aj au W w':=fun W f=>RH Q _ es ks 5 W _ _ (Nat.lt_succ_self _) (ht.aN f) hok (by omega)
 have HC:=ah hc
 clear hkr dH ht hok hc
 generalize aX 5 es ks=y at*
 generalize es.length=n at*
 generalize ks.len=m at*
 go_enter Tryz.func89,Tryz.ntmps89
 go_wp2_with(go_at_call 125;refine(HC.out _ (aj.alloc _ _ _)).mono ?_;rintro e w3 ⟨rfl,hw3⟩;have HW3:=ah ((aj.alloc au _ _).aG hw3);clear hw3)
 go_ret
 exact⟨rfl,HW3.out⟩
def EI (w:World) (es:List aF) (ks:aH) (e:Ending) (w':World):Prop:=
 aj au w w'∧(aX 5 es ks=true→∃v' c,e= .returned (.tuple #[v', .int .i64 0])∧OwnAt w w' 92 3 v' c.length (cO c)∧ng (eu es ks) c∧c.length≤16000)∧(aX 5 es ks=false→e= .returned (.tuple #[.slice none 0 0, .int .i64 1]))
theorem RY (Q:Nat→Prop) (es:List aF) (ks:aH) (w:World) (ev kv:Value) (ht:bg Q w ev kv es ks) (hok:iQ es ks) (hsz:sizeT es ks≤4000):
 Calls Tryz.prog 69 #[.agg #[ev,kv]] w (EI w es ks):=by
 obtain⟨ae,ce,rfl⟩:=ht.ents.rd.sl
 obtain⟨os,hkr,dH⟩:=ht.kids
 obtain⟨ak,ck,rfl⟩:=hkr.rd.sl
 have HR:=ah (fun W (f:aj au w W)=>yS Q es ks W _ _ (ht.aN f) hok)
 have HA:=ah (fun w' (h:aj au w w')=>Ql Q _ es ks w' _ _ (Nat.lt_succ_self _) (ht.aN h) (by omega))
 have hdl:=Aw es ks
 have lM:=ah (show(eu es ks).length≤4000 by omega)
 clear hkr dH ht hok hsz hdl
 by_cases hr:aX 5 es ks=true
 ·have HDK:=ah (DZ hr)
  rw[hr]at HR
  have jJ:=ah hr;clear hr
  have hpost:∀e w',aj au w w'→(∃v' c,e= .returned (.tuple #[v', .int .i64 0])∧OwnAt w w' 92 3 v' c.length (cO c)∧ng (eu es ks) c∧c.length≤16000)→EI w es ks e w':=fun e w' h1 h2=>⟨h1,fun _=>h2,fun h=>by rw[jJ.out]at h;cases h⟩
  have uO:=ah hpost;clear hpost
  generalize eu es ks=l at*
  generalize es.length=n at*
  generalize ks.len=m at*
  go_enter Tryz.func69,Tryz.ntmps69
  go_wp2_with(first
   |(go_at_call 89;refine(HR.out _ (aj.alloc _ _ _)).mono ?_;rintro e w1 ⟨rfl,hw1⟩;obtain⟨y0,y1⟩:=jV w _ _ _ w1 hw1;have HW1:=ah ((aj.alloc au _ _).aG hw1);clear hw1)
   |(go_at_call 91;refine(HA.out _ HW1.out).mono ?_;rintro e w2 ⟨v2,rfl,ho2⟩;obtain⟨a2,c2,rfl⟩:=ho2.shape;have fA:=ah ho2;clear ho2)
   |(go_at_call 90;refine(RD _ _ l fA.out.rd HDK.out (by have:=lM.out;omega)).mono ?_;rintro e w3 ⟨v3,c,rfl,ho3,hof,-⟩;obtain⟨a3,c3,rfl⟩:=ho3.shape;have bJ:=ah ho3;clear ho3;have nC:=ah hof;clear hof))
  go_ret2
  have hf:=(HW1.out.aG fA.out.aI).aG bJ.out.aI
  exact uO.out _ _ hf ⟨_,c,rfl,bJ.out.base (HW1.out.aG fA.out.aI),nC.out,by have:=nC.out.length;have:=lM.out;omega⟩
 ·have hr':aX 5 es ks=false:=by simpa using hr
  rw[hr']at HR
  have jJ:=ah hr';clear hr hr' lM HA
  have hpost:∀w',aj au w w'→EI w es ks (.returned (.tuple #[.slice none 0 0, .int .i64 1])) w':=fun w' h1=>⟨h1,(fun h=>by rw[jJ.out]at h;cases h),fun _=>rfl⟩
  have uO:=ah hpost;clear hpost jJ
  generalize es.length=n at*
  generalize ks.len=m at*
  go_enter Tryz.func69,Tryz.ntmps69
  go_wp2_with(go_at_call 89;refine(HR.out _ (aj.alloc _ _ _)).mono ?_;rintro e w1 ⟨rfl,hw1⟩;have HW1:=ah ((aj.alloc au _ _).aG hw1);clear hw1)
  go_ret2
  exact uO.out _ HW1.out
theorem RZ (Q:Nat→Prop) (es:List aF) (ks:aH) (w:World) (ev kv:Value) (ht:bg Q w ev kv es ks) (hok:iQ es ks) (hsz:sizeT es ks≤4000) (hr:aX 5 es ks=true):
 Calls Tryz.prog 74 #[.agg #[ev,kv]] w (Bg w es ks):=by
 obtain⟨ae,ce,rfl⟩:=ht.ents.rd.sl
 obtain⟨os,hkr,dH⟩:=ht.kids
 obtain⟨ak,ck,rfl⟩:=hkr.rd.sl
 have HR:=ah (fun W (f:aj au w W)=>yS Q es ks W _ _ (ht.aN f) hok)
 have HA:=ah (fun w' (h:aj au w w')=>RX Q _ es ks w' _ _ (Nat.lt_succ_self _) (ht.aN h) (by omega))
 rw[hr]at HR
 have JW:=ah (show ∀w1 w',aj au w w1→∀ev' kv',bg (fun b=>w1.heap.size≤b) w' ev' kv' es ks→bg (fun b=>w.heap.size≤b) w' ev' kv' es ks from fun w1 w' h ev' kv' h2=>h2.turn fun b hb hQ=>⟨rfl,Nat.le_trans h.size hQ⟩)
 clear hkr dH ht hok hsz hr
 generalize hes:es.length=n at*
 generalize hkl:ks.len=m at*
 obtain⟨hb2,hfb,hbs⟩:=mJ w (.cells #[.slice ae n ce, .slice ak m ck] 28) #[.slice none 0 0, .slice none 0 0] 28
 have HB2:=ah hb2;clear hb2
 have bf:=ah hfb;clear hfb
 have wR:=ah hbs;clear hbs
 have wW:=ah hes;clear hes
 have fK:=ah hkl;clear hkl
 go_enter Tryz.func74,Tryz.ntmps74
 go_wp2_with(first
  |(go_at_call 89;refine(HR.out _ bf.out).mono ?_;rintro e w1 ⟨rfl,hw1⟩;obtain⟨y0,y1⟩:=jV w _ _ _ w1 ((aj.alloc au _ _).aG hw1);have HW1:=ah hw1;clear hw1)
  |(go_at_call 97;refine(HA.out _ (bf.out.aG HW1.out)).mono ?_;rintro e w2 ⟨oU,jB,rfl,jh,hf3⟩;obtain⟨a3,c3,rfl⟩:=jh.ents.rd.sl;obtain⟨os3,kQ,-⟩:=jh.kids;obtain⟨a4,c4,rfl⟩:=kQ.rd.sl;clear kQ;have hblk:=hf3.blk (HW1.out.blk HB2.out id) id;have y0:=aJ hblk 0 rfl;have y1:=aJ hblk 1 rfl;have g0:=bG hblk 0;have g1:=bG hblk 1;have hsb:=ah (lt_of_block hblk);have HR2:=ah (res2 hblk ((bf.out.aG HW1.out).aG hf3) (by omega) (.slice a3 es.length c3) (.slice a4 ks.len c4));have hs1:=HW1.out.size;have HP:=ah (jh.turn (Q':=fun b=>w.heap.size≤b) fun b hb hQ=>⟨HR2.out.2.2 b (by have:=wR.out;omega),by have:=wR.out;omega⟩);clear jh hf3 hblk hs1;rw[wW.out,fK.out]at HR2 HP;rw[wW.out,fK.out]))
 clear y0 y1
 have y0:=aJ HR2.out.1 0 rfl
 have y1:=aJ HR2.out.1 1 rfl
 exact bodyPost_ret (v:= .agg #[.slice a3 n c3, .slice a4 m c4]) (by simp[results,Tryz.results74,go_sem,y0,y1]) rfl ⟨_,_,rfl,HP.out,HR2.out.2.1⟩
end Go.Proofs.YtlhmbkjdfjoilaaGreat
