/- Words for the law BundleOrder: TRight, KidQ, TClone, TClone2, TClone3, Res. -/
import Derived.Test.YtabkpccdnkjoiaaGreatBundleOrderG0
import Derived.Test.YtabkpccdnkjoiaaGreatBundleOrderG4
import Derived.Test.YtabkpccdnkjoiaaGreatBundleOrderG7
import Derived.Test.YtabkpccdnkjoiaaGreatBundleOrderG8
set_option linter.unusedSimpArgs false
set_option linter.unusedVariables false
set_option maxHeartbeats 32000000
set_option maxRecDepth 1000000
namespace Go.Proofs.YtabkpccdnkjoiaaGreat
open Go.RowKit
theorem Nz {ks:aI} {d:Nat} {es:List aG} (he:dO none es=true):aX (d+1) es ks=gI ks d none:=by
 rw[aX,Nat.add_sub_cancel,he];simp
theorem NC (Q:Nat→Prop):∀(N:Nat) (es:List aG) (ks:aI) (d:Nat) (w:World) (ev kv:Value),dX ks<N→bJ Q w ev kv es ks→gG es ks→d≤100→
 Calls Tryz.prog 201 #[.agg #[ev,kv], .int .i64 d] w fun e w'=>e= .returned (.bool (aX d es ks))∧aj au w w':=by
 intro N
 induction N with
 |zero=>intros;exfalso;omega
 |succ N iq=>
  intro es ks d w ev kv hN ht hok hd
  obtain⟨ae,ce,rfl⟩:=ht.ents.rd.sl
  obtain⟨os,hkr,dZ⟩:=ht.kids
  obtain⟨ak,ck,rfl⟩:=hkr.rd.sl
  have HT:=ah ht;clear ht
  have gJ:=ah hkr.rd;clear hkr
  have jU:=ah dZ;clear dZ
  have IH:=ah iq;clear iq
  have bQ:=ah (aj.alloc au w (.cells #[.slice ae es.length ce, .slice ak ks.len ck] 30))
  have box0:(w.alloc (.cells #[.slice ae es.length ce, .slice ak ks.len ck] 30)).cell? ⟨w.heap.size,0,none⟩=some (.slice ae es.length ce):=aF (heap_alloc_new w _) 0 rfl
  have box1:(w.alloc (.cells #[.slice ae es.length ce, .slice ak ks.len ck] 30)).cell? ⟨w.heap.size,1,none⟩=some (.slice ak ks.len ck):=aF (heap_alloc_new w _) 1 rfl
  have B0:=ah box0;clear box0
  have B1:=ah box1;clear box1
  have Bz:=ah hok.es.len
  have jB:=ah hok.len
  have dw:=ah hok;clear hok
  have mO:=ah hN;clear hN
  cases d with
  |zero=>
   go_enter Tryz.func201,Tryz.ntmps201
   go_wp2
   go_ret
   exact⟨bg (by simp[aX]),bQ.out⟩
  |succ d=>
   generalize hes:es.length=n at*
   have HN:=ah hes;clear hes
   generalize hkl:ks.len=m at*
   have HM:=ah hkl;clear hkl
   have hd9:(d:Int)≤100:=by omega
   have hd1:¬(((d+1:Nat):Int)<1):=by omega
   have HD:=ah hd;clear hd
   cases hre:dO none es with
   |false=>
    have uY:=ah (fun W (h:aj au (w.alloc (.cells #[.slice ae n ce, .slice ak m ck] 30)) W)=>Gt W (.slice ae n ce) es (by have:=(HT.out.aP bQ.out).ents.rd;rw[HN.out]at this⊢;exact this.aP h) dw.out.es)
    rw[hre]at uY
    have b0:=B0.out
    go_enter Tryz.func201,Tryz.ntmps201
    go_wp2_with(go_at_call 249;refine(uY.out _ (aj.refl _ _)).mono ?_;rintro e w1 ⟨rfl,hw1⟩;have HW1:=ah hw1;clear hw1)
    go_ret
    exact⟨bg (by rw[aX,hre];simp),bQ.out.ay HW1.out⟩
   |true=>
    have uY:=ah (fun W (h:aj au (w.alloc (.cells #[.slice ae n ce, .slice ak m ck] 30)) W)=>Gt W (.slice ae n ce) es (by have:=(HT.out.aP bQ.out).ents.rd;rw[HN.out]at this⊢;exact this.aP h) dw.out.es)
    rw[hre]at uY
    have ND:=ah hre;clear hre
    have b0:=B0.out
    go_enter Tryz.func201,Tryz.ntmps201
    go_wp2_with(go_at_call 249;refine(uY.out _ (aj.refl _ _)).mono ?_;rintro e w1 ⟨rfl,hw1⟩;have HW:=ah hw1;clear hw1;have b1:=HW.out.cell' B1.out id)
    clear b0 b1
    go_loopw [18] (fun i ww=>∃(k:Nat) (p:Option ByteArray),k≤m∧i= .int .i64 k∧Gn ks k p∧gI ks d none=gI (ks.drop k) d p∧aj au (w.alloc (.cells #[.slice ae n ce, .slice ak m ck] 30)) ww) (fun i _=>m-(intOf i).toNat)
    case atStart=>exact⟨0,none,Nat.zero_le _,rfl, .inl ⟨rfl,rfl⟩,rfl,HW.out⟩
    case round=>
     obtain⟨k,p,hk,rfl,hp,hr,hw⟩:=hrel
     have bY:=ah hw;clear hw
     have HP:=ah hp;clear hp
     have b1:=bY.out.cell' B1.out id
     by_cases hlt:k<m
     ·obtain⟨key,es',sub,rest,hdr⟩:=aI.nI (n:=k) (ks:=ks) (by rw[HM.out];exact hlt)
      have hmm:(m:Int)≤9223372036854775807:=by have:=jB.out;omega
      rcases Rd.shape (gJ.out.aP (bQ.out.ay bY.out))with⟨ad,he,h0⟩|⟨b,off,cc,he,hmax⟩
      ·exfalso;have:=HM.out;omega
      ·injection he with e1 e2 e3
       subst e1 e3
       clear e2 hmax
       obtain⟨ev',kv',c0,c1,c2,hta⟩:=lS (gJ.out.aP (bQ.out.ay bY.out)) (jU.out.aP (bQ.out.ay bY.out)) hdr
       obtain⟨dP,dQ,rfl⟩:=hta.ents.rd.sl
       obtain⟨os',fJ,kR⟩:=hta.kids
       obtain⟨dR,dS,rfl⟩:=fJ.rd.sl
       clear fJ kR
       have hok':=dw.out.ks.drop k
       rw[hdr]at hok'
       have hkz:=hok'.1
       have hsub:gG es' sub:=⟨hok'.2.1,hok'.2.2.1,hok'.2.2.2.1⟩
       have l1:((es'.length:Nat):Int)≤140737488351232:=by have:=hsub.es.len;omega
       have l2:((sub.len:Nat):Int)≤140737488351232:=by have:=hsub.len;omega
       have sN:=ah hsub;clear hsub hok'
       have eP:=ah (pW k hdr)
       rw[Gm hdr]at hr
       have HDR:=ah hdr;clear hdr
       have hbf:aj au wr (wr.alloc (.cells #[.string key, .slice dP es'.length dQ, .slice dR sub.len dS] 83)):=aj.alloc _ _ _
       have n0:(wr.alloc (.cells #[.string key, .slice dP es'.length dQ, .slice dR sub.len dS] 83)).cell? ⟨wr.heap.size,0,none⟩=some (.string key):=aF (heap_alloc_new wr _) 0 rfl
       have n1:(wr.alloc (.cells #[.string key, .slice dP es'.length dQ, .slice dR sub.len dS] 83)).cell? ⟨wr.heap.size,1,none⟩=some (.slice dP es'.length dQ):=aF (heap_alloc_new wr _) 1 rfl
       have n2:(wr.alloc (.cells #[.string key, .slice dP es'.length dQ, .slice dR sub.len dS] 83)).cell? ⟨wr.heap.size,2,none⟩=some (.slice dR sub.len dS):=aF (heap_alloc_new wr _) 2 rfl
       have iW:=ah (hta.aP hbf);clear hta
       have qK:=bY;clear bY
       have bY:=ah (qK.out.ay hbf)
       have kk:∀j jC es0 oI oJ,ks.drop j= .cons jC es0 oI oJ→wr.cell? ⟨b,off+j*3,none⟩=some (.string jC):=fun j jC es0 oI oJ h=>by
        obtain⟨_,_,h0,_⟩:=lS (gJ.out.aP (bQ.out.ay qK.out)) (jU.out.aP (bQ.out.ay qK.out)) h
        exact h0
       have KK:=ah kk;clear kk
       have HIH:=ah (fun w' (h:aj au (wr.alloc (.cells #[.string key, .slice dP es'.length dQ, .slice dR sub.len dS] 83)) w')=>IH.out es' sub d w' _ _ (by have:=eP.out;have:=mO.out;omega) (iW.out.aP h) sN.out (by have:=HD.out;omega))
       have hem:∀W,Calls Tryz.prog 200 #[.agg #[.slice dP es'.length dQ, .slice dR sub.len dS]] W fun e w'=>e= .returned (.bool (isNil es' sub))∧aj au W w':=fun W=>empty_any dP dR es'.length sub.len dQ dS W
       have jo:=ah hem;clear hem
       generalize es'.length=n' at*
       generalize sub.len=m' at*
       obtain⟨α,hne,K,hK3,hK0,hK2⟩:=worlds (wr.alloc (.cells #[.string key, .slice dP n' dQ, .slice dR m' dS] 83))
       have hK1:=hK3
       have Np:=fun s=>(hK1 s).cell' (hbf.cell' b1 id) id
       have Nq:=fun s=>(hK1 s).cell' n0 id
       have Nr:=fun s=>(hK1 s).cell' n1 id
       have Ns:=fun s=>(hK1 s).cell' n2 id
       clear n0 n1 n2
       have hge:=Gl
       rcases HP.out with⟨rfl,rfl⟩|⟨j,jC,es0,oI,oJ,rfl,hdj,rfl⟩
       ·simp only[Nat.zero_mul,Nat.add_zero]at c0 c1 c2
        cases g1:kC key with
        |false=>
         rw[g1]at hr
         simp only[Bool.false_and]at hr
         have hst:aX (d+1) es ks=false:=by rw[aX,Nat.add_sub_cancel,hr];simp
         have HST:=ah hst;clear hst hr
         go_wp2_with fail
         refine bK K (by kernel_rfl) (by kernel_rfl) hK0 ?_
         repeat(go_big_quiet_step ((first|(go_at_call 250;exact Calls.aW hK2 (Calls.jm (oh key _ hkz)))|(go_at_call 200;exact Calls.aW hK2 (jo.out _))|(go_at_call 201;exact Calls.aW hK2 (HIH.out _ (hK3 _))))))
         refine wpQuiet_nil ?_
         intro w' hw'
         obtain⟨s,rfl⟩:=hw'
         have hfs:=hK1 s
         go_wp2
         go_ret
         exact⟨bg HST.out.symm,bQ.out.ay (bY.out.ay hfs)⟩
        |true=>
         cases g3:isNil es' sub with
         |true=>
          rw[g1,g3]at hr
          rw[g3]at jo
          simp only[Bool.not_true,Bool.and_false,Bool.false_and]at hr
          have hst:aX (d+1) es ks=false:=by rw[aX,Nat.add_sub_cancel,hr];simp
          have HST:=ah hst;clear hst hr
          go_wp2_with fail
          refine bK K (by kernel_rfl) (by kernel_rfl) hK0 ?_
          repeat(go_big_quiet_step ((first|(go_at_call 250;exact Calls.aW hK2 (Calls.jm (oh key _ hkz)))|(go_at_call 200;exact Calls.aW hK2 (jo.out _))|(go_at_call 201;exact Calls.aW hK2 (HIH.out _ (hK3 _))))))
          refine wpQuiet_nil ?_
          intro w' hw'
          obtain⟨s,rfl⟩:=hw'
          have hfs:=hK1 s
          go_wp2
          go_ret
          exact⟨bg HST.out.symm,bQ.out.ay (bY.out.ay hfs)⟩
         |false=>
          rw[g3]at jo
          cases g4:aX d es' sub with
          |false=>
           rw[g1,g3,g4]at hr
           rw[g4]at HIH
           simp only[Bool.and_false,Bool.false_and]at hr
           have hst:aX (d+1) es ks=false:=by rw[aX,Nat.add_sub_cancel,hr];simp
           have HST:=ah hst;clear hst hr
           go_wp2_with fail
           refine bK K (by kernel_rfl) (by kernel_rfl) hK0 ?_
           repeat(go_big_quiet_step ((first|(go_at_call 250;exact Calls.aW hK2 (Calls.jm (oh key _ hkz)))|(go_at_call 200;exact Calls.aW hK2 (jo.out _))|(go_at_call 201;exact Calls.aW hK2 (HIH.out _ (hK3 _))))))
           refine wpQuiet_nil ?_
           intro w' hw'
           obtain⟨s,rfl⟩:=hw'
           have hfs:=hK1 s
           go_wp2
           go_ret
           exact⟨bg HST.out.symm,bQ.out.ay (bY.out.ay hfs)⟩
          |true=>
           rw[g1,g3,g4]at hr
           rw[g4]at HIH
           simp only[ltK,Bool.not_false,Bool.and_true,Bool.true_and]at hr
           have HST:=ah hr;clear hr
           go_wp2_with fail
           refine bK K (by kernel_rfl) (by kernel_rfl) hK0 ?_
           repeat(go_big_quiet_step ((first|(go_at_call 250;exact Calls.aW hK2 (Calls.jm (oh key _ hkz)))|(go_at_call 200;exact Calls.aW hK2 (jo.out _))|(go_at_call 201;exact Calls.aW hK2 (HIH.out _ (hK3 _))))))
           refine wpQuiet_nil ?_
           intro w' hw'
           obtain⟨s,rfl⟩:=hw'
           have hfs:=hK1 s
           go_wp2
           go_roundw
           case rel=>exact⟨0+1,some key,by omega,by go_num, .inr ⟨0,key,es',sub,rest,rfl,HDR.out,rfl⟩,HST.out,bY.out.ay hfs⟩
           case measure=>simp[intOf];omega
       ·have pk:=KK.out j jC es0 oI oJ hdj
        clear hdj
        have Nu:=(fun s=>(hK1 s).cell' (hbf.cell' pk id) id)
        clear pk
        cases g1:kC key with
        |false=>
         rw[g1]at hr
         simp only[Bool.false_and]at hr
         have hst:aX (d+1) es ks=false:=by rw[aX,Nat.add_sub_cancel,hr];simp
         have HST:=ah hst;clear hst hr
         go_wp2_with fail
         refine bK K (by kernel_rfl) (by kernel_rfl) hK0 ?_
         repeat(go_big_quiet_step ((first|(go_at_call 250;exact Calls.aW hK2 (Calls.jm (oh key _ hkz)))|(go_at_call 200;exact Calls.aW hK2 (jo.out _))|(go_at_call 201;exact Calls.aW hK2 (HIH.out _ (hK3 _))))))
         refine wpQuiet_nil ?_
         intro w' hw'
         obtain⟨s,rfl⟩:=hw'
         have hfs:=hK1 s
         go_wp2
         go_ret
         exact⟨bg HST.out.symm,bQ.out.ay (bY.out.ay hfs)⟩
        |true=>
         cases g2:Op.bytesLess jC.toList key.toList with
         |false=>
          rw[show ltK (some jC) key=false from g2]at hr
          simp only[Bool.and_false,Bool.false_and]at hr
          have hst:aX (d+1) es ks=false:=by rw[aX,Nat.add_sub_cancel,hr];simp
          have HST:=ah hst;clear hst hr
          go_wp2_with fail
          refine bK K (by kernel_rfl) (by kernel_rfl) hK0 ?_
          repeat(go_big_quiet_step ((first|(go_at_call 250;exact Calls.aW hK2 (Calls.jm (oh key _ hkz)))|(go_at_call 200;exact Calls.aW hK2 (jo.out _))|(go_at_call 201;exact Calls.aW hK2 (HIH.out _ (hK3 _))))))
          refine wpQuiet_nil ?_
          intro w' hw'
          obtain⟨s,rfl⟩:=hw'
          have hfs:=hK1 s
          go_wp2
          go_ret
          exact⟨bg HST.out.symm,bQ.out.ay (bY.out.ay hfs)⟩
         |true=>
          cases g3:isNil es' sub with
          |true=>
           rw[g3]at hr
           rw[g3]at jo
           simp only[Bool.not_true,Bool.and_false,Bool.false_and]at hr
           have hst:aX (d+1) es ks=false:=by rw[aX,Nat.add_sub_cancel,hr];simp
           have HST:=ah hst;clear hst hr
           go_wp2_with fail
           refine bK K (by kernel_rfl) (by kernel_rfl) hK0 ?_
           repeat(go_big_quiet_step ((first|(go_at_call 250;exact Calls.aW hK2 (Calls.jm (oh key _ hkz)))|(go_at_call 200;exact Calls.aW hK2 (jo.out _))|(go_at_call 201;exact Calls.aW hK2 (HIH.out _ (hK3 _))))))
           refine wpQuiet_nil ?_
           intro w' hw'
           obtain⟨s,rfl⟩:=hw'
           have hfs:=hK1 s
           go_wp2
           go_ret
           exact⟨bg HST.out.symm,bQ.out.ay (bY.out.ay hfs)⟩
          |false=>
           rw[g3]at jo
           cases g4:aX d es' sub with
           |false=>
            rw[g4]at hr
            rw[g4]at HIH
            simp only[Bool.and_false,Bool.false_and]at hr
            have hst:aX (d+1) es ks=false:=by rw[aX,Nat.add_sub_cancel,hr];simp
            have HST:=ah hst;clear hst hr
            go_wp2_with fail
            refine bK K (by kernel_rfl) (by kernel_rfl) hK0 ?_
            repeat(go_big_quiet_step ((first|(go_at_call 250;exact Calls.aW hK2 (Calls.jm (oh key _ hkz)))|(go_at_call 200;exact Calls.aW hK2 (jo.out _))|(go_at_call 201;exact Calls.aW hK2 (HIH.out _ (hK3 _))))))
            refine wpQuiet_nil ?_
            intro w' hw'
            obtain⟨s,rfl⟩:=hw'
            have hfs:=hK1 s
            go_wp2
            go_ret
            exact⟨bg HST.out.symm,bQ.out.ay (bY.out.ay hfs)⟩
           |true=>
            rw[g1,g3,g4,show ltK (some jC) key=true from g2]at hr
            rw[g4]at HIH
            simp only[Bool.not_false,Bool.and_true,Bool.true_and]at hr
            have HST:=ah hr;clear hr
            go_wp2_with fail
            refine bK K (by kernel_rfl) (by kernel_rfl) hK0 ?_
            repeat(go_big_quiet_step ((first|(go_at_call 250;exact Calls.aW hK2 (Calls.jm (oh key _ hkz)))|(go_at_call 200;exact Calls.aW hK2 (jo.out _))|(go_at_call 201;exact Calls.aW hK2 (HIH.out _ (hK3 _))))))
            refine wpQuiet_nil ?_
            intro w' hw'
            obtain⟨s,rfl⟩:=hw'
            have hfs:=hK1 s
            go_wp2
            go_roundw
            case rel=>exact⟨(j+1)+1,some key,by omega,by go_num, .inr ⟨(j+1),key,es',sub,rest,rfl,HDR.out,rfl⟩,HST.out,bY.out.ay hfs⟩
            case measure=>simp[intOf];omega
     ·obtain rfl:m=k:=by omega
      rw[aI.pV (by rw[HM.out];exact Nat.le_refl _)]at hr
      have HRR:=ah hr;clear hr
      go_wp2
      go_ret
      exact⟨bg (by rw[Nz ND.out,HRR.out];simp[gI]),bQ.out.ay bY.out⟩
open Go.RowKit
structure gK where
 key:ByteArray
 es:List aG
 sub:aI
 ev:Value
 kv:Value
instance:Inhabited gK:=⟨⟨ByteArray.empty,[], .nil, .slice none 0 0, .slice none 0 0⟩⟩
def gK.cells (q:gK):List Value:=[.string q.key,q.ev,q.kv]
def sQ:List gK→aI→aI
 |[],r=>r
 |q::l,r=> .cons q.key q.es q.sub (sQ l r)
def mkK (l:List gK):aI:=sQ l .nil
def sS (l:List gK):List (Value×Value):=l.map fun q=>(q.ev,q.kv)
theorem Gu:∀(l:List gK) (q:gK) (r:aI),sQ (l++ [q]) r=sQ l (.cons q.key q.es q.sub r)
 |[],_,_=>rfl
 |x::l,q,r=>by show aI.cons _ _ _ (sQ (l++ [q]) r)=_;rw[Gu l q r];rfl
theorem uZ:∀l:List gK,(mkK l).len=l.length
 |[]=>rfl
 |q::l=>by show(mkK l).len+1=_;rw[uZ l];rfl
theorem BA:∀l:List gK,fM (mkK l) (sS l)=l.flatMap gK.cells
 |[]=>rfl
 |q::l=>by show _::_::_::fM (mkK l) (sS l)=_;rw[BA l];rfl
theorem BD {Q:Nat→Prop} {w:World}:∀ {l:List gK},(∀q∈l,bJ Q w q.ev q.kv q.es q.sub)→gu Q w (mkK l) (sS l)
 |[],_=>rfl
 |q::l,h=>by
  obtain⟨h1,os,h2,h3⟩:=h q List.mem_cons_self
  exact⟨q.ev,q.kv,sS l,os,rfl,h1,h2,h3,BD fun x hx=>h x (List.mem_cons_of_mem _ hx)⟩
theorem Gv:∀ {l:List gK},(∀q∈l,q.key.size≤9223372036854775807∧gG q.es q.sub)→(mkK l).Ok
 |[],_=>trivial
 |q::l,h=>by
  obtain⟨h1,h2⟩:=h q List.mem_cons_self
  exact⟨h1,h2.es,h2.len,h2.ks,Gv fun x hx=>h x (List.mem_cons_of_mem _ hx)⟩
theorem jA.turn {Q Q':Nat→Prop} {w w':World} {v:Value} {n:Nat} {xs:List Value} (h:jA Q w v n xs) (f:∀b,b<w.heap.size→Q b→w'.heap[b]?=w.heap[b]?∧Q' b):jA Q' w' v n xs:=by
 rcases h.rd with⟨ad,h1,h2,h3⟩|⟨b,off,c,rfl,h1,h2,h3⟩
 ·exact⟨.inl ⟨ad,h1,h2,h3⟩,fun hx=>absurd h3 hx⟩
 ·have sJ:∀j u,xs[j]?=some u→w'.cell? ⟨b,off+j,none⟩=some u∧Q' b:=fun j u hu=>by
   have hc:=h3 j u hu
   have hlt:b<w.heap.size:=World.block_lt_of_cell? _ _ hc
   obtain⟨g1,g2⟩:=f b hlt (h.q (fun e=>by rw[e]at hu;simp at hu) b rfl)
   exact⟨(World.cell?_of_block (w:=w) g1).trans hc,g2⟩
  refine⟨.inr ⟨b,off,c,rfl,h1,h2,fun j u hu=>(sJ j u hu).1⟩,fun hx k hk=>?_⟩
  simp[Value.ownBlock]at hk
  subst hk
  cases xs with
  |nil=>exact absurd rfl hx
  |cons x xs=>exact(sJ 0 x rfl).2
theorem gu.turn {Q Q':Nat→Prop} {w w':World} (f:∀b,b<w.heap.size→Q b→w'.heap[b]?=w.heap[b]?∧Q' b):∀ {ks:aI} {os:List (Value×Value)},gu Q w ks os→gu Q' w' ks os
 | .nil,_,h=>h
 | .cons _ _ _ _,_,⟨ev,kv,lC,os,h1,h2,h3,h4,h5⟩=>⟨ev,kv,lC,os,h1,h2.turn f,h3.turn f,h4.turn f,h5.turn f⟩
theorem bJ.turn {Q Q':Nat→Prop} {w w':World} {ev kv:Value} {es:List aG} {ks:aI} (h:bJ Q w ev kv es ks) (f:∀b,b<w.heap.size→Q b→w'.heap[b]?=w.heap[b]?∧Q' b):bJ Q' w' ev kv es ks:=
 ⟨h.ents.turn f,let⟨os,h1,h2⟩:=h.kids;⟨os,h1.turn f,h2.turn f⟩⟩
theorem OwnAt.pY {w0 w:World} {e:TypeId} {size:Nat} {v:Value} {n:Nat} {xs:List Value} (h:OwnAt w0 w e size v n xs):jA (fun k=>w0.heap.size≤k) w v n xs:=⟨h.rd,fun _ k hk=>h.new k hk⟩
open Go.RowKit
theorem Gw:(Tryz.prog.info? 172).map (fun i=>(i.zero,i.size,i.bytes))=some (some (.agg #[.int .i64 0, .int .i64 0, .string ByteArray.empty, .int .i64 0]),4,40):=by kernel_rfl
theorem OwnAt.empty {w0 w:World} (f:aj au w0 w) (e:TypeId) (size:Nat):OwnAt w0 (w.alloc (.cells #[] e)) e size (.slice (some ⟨w.heap.size,0,none⟩) 0 0) 0 []:=
 ⟨⟨by simp, .inr ⟨w.heap.size,0, #[],rfl,Nat.zero_le _,heap_alloc_new w _,Nat.le_refl _,Nat.zero_le _,by simp,by simp⟩⟩,fun k hk=>by
   simp[Value.ownBlock]at hk
   have:=f.size
   omega,f.trans (aj.alloc _ _ _) fun _ _ h=>h⟩
theorem NG (w:World) (v:Value) (es:List aG) (hv:Rd w v es.length (eY es)) (hl:es.length≤100000):
 Calls Tryz.prog 255 #[v] w fun e w'=>∃v',e= .returned v'∧OwnAt w w' 172 4 v' es.length (eY es):=by
 obtain⟨i0,hi,hz0,hz1,hz2⟩:=info_parts Gw
 obtain⟨aA,cA,rfl⟩:=hv.sl
 have HH:=ah hv;clear hv
 generalize hn:es.length=n at*
 have HN:=ah hn;clear hn
 by_cases hnil:aA=none
 ·subst hnil
  rcases HH.out with⟨ad,he,h0,hx⟩|⟨b,off,cc,he,_⟩
  ·injection he with e1 e2 e3
   subst e1 e2 e3
   have hx0:eY es=[]:=hx
   rw[hx0]
   have hq:=Lib.run_eql_slice_nil (P:=Tryz.prog) w 27 172 none 0 0 0 0 Tryz.underlying27
   go_enter Tryz.func255,Tryz.ntmps255
   go_wp2
   go_ret
   exact⟨_,rfl,OwnAt.nil (aj.refl _ _) _ _⟩
  ·injection he with e1 e2 e3
   cases e1
 ·obtain⟨ad,rfl⟩:=Option.ne_none_iff_exists'.1 hnil
  clear hnil
  have hq:=Lib.run_eql_slice_nil (P:=Tryz.prog) w 27 172 (some ad) n cA 0 0 Tryz.underlying27
  go_enter Tryz.func255,Tryz.ntmps255
  go_wp2_with(at_builtin;refine lq w _ _ rfl (.tmp 5) (.tmp 6) 27 27 rfl 172 172 i0 _ 4 40 Tryz.underlying27 Tryz.underlying27 hi hz0 hz1 hz2 (by decide) (by decide) _ _ _ (OwnAt.empty (aj.refl _ _) 172 4) _ n rfl rfl (HH.out.aP (aj.alloc _ _ _)) (by rw[FZ,HN.out]) (MV _) (by simp only[maxLen];omega) (by omega) ?_;intro ad cc w5 dF;have OW:=ah dF;clear dF)
  go_ret
  exact⟨_,rfl,by have:=OW.out;simpa using this⟩
theorem NH (w:World) (v:Value) (c:aU) (hv:dL w v c) (hl:c.length≤100000):
 Calls Tryz.prog 105 #[v] w fun e w'=>∃v',e= .returned v'∧OwnAt w w' 144 3 v' c.length (bT c):=by
 obtain⟨i0,hi,hz0,hz1,hz2⟩:=info_parts qE
 obtain⟨aA,cA,rfl⟩:=hv.sl
 have HH:=ah hv;clear hv
 generalize hn:c.length=n at*
 have HN:=ah hn;clear hn
 by_cases hnil:aA=none
 ·subst hnil
  rcases HH.out with⟨ad,he,h0,hx⟩|⟨b,off,cc,he,_⟩
  ·injection he with e1 e2 e3
   subst e1 e3
   have hx0:bT c=[]:=hx
   have hn0:n=0:=by rw[←HN.out];exact h0
   subst hn0
   rw[hx0]
   have hq:=Lib.run_eql_slice_nil (P:=Tryz.prog) w 32 144 none 0 0 0 0 Tryz.underlying32
   go_enter Tryz.func105,Tryz.ntmps105
   go_wp2
   go_ret
   exact⟨_,rfl,OwnAt.nil (aj.refl _ _) _ _⟩
  ·injection he with e1 e2 e3
   cases e1
 ·obtain⟨ad,rfl⟩:=Option.ne_none_iff_exists'.1 hnil
  clear hnil
  have hq:=Lib.run_eql_slice_nil (P:=Tryz.prog) w 32 144 (some ad) n cA 0 0 Tryz.underlying32
  go_enter Tryz.func105,Tryz.ntmps105
  go_wp2_with(at_builtin;refine lq w _ _ rfl (.tmp 5) (.tmp 6) 32 32 rfl 144 144 i0 _ 3 24 Tryz.underlying32 Tryz.underlying32 hi hz0 hz1 hz2 (by decide) (by decide) _ _ _ (OwnAt.empty (aj.refl _ _) 144 3) _ n rfl rfl (HN.out▸HH.out.aP (aj.alloc _ _ _)) (by rw[xI,HN.out]) (zZ _) (by simp only[maxLen];omega) (by omega) ?_;intro ad cc w5 dF;have OW:=ah dF;clear dF)
  go_ret
  exact⟨_,rfl,by have:=OW.out;simpa using this⟩
open Go.RowKit
theorem yD:(Tryz.prog.info? 83).map (fun i=>(i.zero,i.size,i.bytes))=some (some (.agg #[.string ByteArray.empty, .slice none 0 0, .slice none 0 0]),3,64):=by kernel_rfl
def qc (w:World) (h2 h3:Nat) (v:Value) (b:Nat):Prop:=w.heap.size≤b∧b≠h2∧b≠h3∧v.ownBlock≠some b
structure lU (w ww:World) (h2 h3:Nat) (n:Nat) (ev kv:Value) (es:List aG) (ks:aI) (k:Nat) (l:List gK):Prop where
 aH:aj au w ww
 b2:ww.heap[h2]?=some (.cells #[.slice none 0 0, .slice none 0 0] 30 (0,0))
 b3:ww.heap[h3]?=some (.cells #[ev,kv] 30 (0,0))
 new2:w.heap.size≤h2
 yE:w.heap.size≤h3
 ne:h2≠h3
 own:dM (fun b=>b=h2∨b=h3) w ww 83 3 kv k (l.flatMap gK.cells)
 ents:jA (qc w h2 h3 kv) ww ev n (eY es)
 kids:∀q∈l,bJ (qc w h2 h3 kv) ww q.ev q.kv q.es q.sub
 len:l.length=k
 all:ks=sQ l (ks.drop k)
theorem lU.keep {w ww w':World} {h2 h3 n:Nat} {ev kv:Value} {es:List aG} {ks:aI} {k:Nat} {l:List gK} (h:lU w ww h2 h3 n ev kv es ks k l) (f:aj au ww w'):lU w w' h2 h3 n ev kv es ks k l:=
 ⟨h.aH.ay f,f.blk h.b2 id,f.blk h.b3 id,h.new2,h.yE,h.ne,h.own.keep f,h.ents.keep f (fun _ _ s=>s.elim),fun q hq=>(h.kids q hq).aP f,h.len,h.all⟩
theorem lU.step {w w1 w':World} {h2 h3 n:Nat} {ev kv kv':Value} {es:List aG} {ks:aI} {k:Nat} {l:List gK} (h:lU w w1 h2 h3 n ev kv es ks k l) {q:gK} {rest:aI} (hd:ks.drop k= .cons q.key q.es q.sub rest)
 (hq:bJ (qc w h2 h3 kv) w1 q.ev q.kv q.es q.sub)
 (own:w'.ownsRow 0 83 3 kv' (k+1) (l.flatMap gK.cells++q.cells)) (fm:aj (iL kv) w1 w') (fr:kK w1 kv kv'):
 lU w (w'.setCell ⟨h3,1,none⟩ kv') h2 h3 n ev kv' es ks (k+1) (l++ [q]):=by
 have hb3:¬iL kv h3:=fun hs=>h.own.but h3 hs (.inr rfl)
 have hb2:¬iL kv h2:=fun hs=>h.own.but h2 hs (.inl rfl)
 have hset:aj (fun b=>b=h3) w' (w'.setCell ⟨h3,1,none⟩ kv'):=aj.setCell (S:=fun b=>b=h3) w' (p:=⟨h3,1,none⟩) (.inl rfl) _
 have l2:=lt_of_block h.b2
 have l3:=lt_of_block h.b3
 have hne':∀b,kv'.ownBlock=some b→b≠h2∧b≠h3:=fun b hb=>by
  rcases fr b hb with h1|h1
  ·exact⟨fun e=>h.own.but b h1 (.inl e),fun e=>h.own.but b h1 (.inr e)⟩
  ·exact⟨fun e=>by omega,fun e=>by omega⟩
 have turn:∀b,b<w1.heap.size→qc w h2 h3 kv b→(w'.setCell ⟨h3,1,none⟩ kv').heap[b]?=w1.heap[b]?∧qc w h2 h3 kv' b:=fun b hb hQ=>by
  refine⟨?_,hQ.1,hQ.2.1,hQ.2.2.1,fun e=>?_⟩
  ·rw[hset.block b (Nat.lt_of_lt_of_le hb fm.size) hQ.2.2.1,fm.block b hb hQ.2.2.2]
  ·rcases fr b e with h1|h1
   ·exact hQ.2.2.2 h1
   ·omega
 have hown:dM (fun b=>b=h2∨b=h3) w w' 83 3 kv' (k+1) (l.flatMap gK.cells++q.cells):=
  ⟨h.own.at_.step own fm fr,fun b hb hn=>by
    have:=hne' b hb
    rcases hn with hn|hn
    ·exact this.1 hn
    ·exact this.2 hn⟩
 refine⟨hown.at_.aH.set1 (.inr h.yE),?_,?_,h.new2,h.yE,h.ne,?_,h.ents.turn turn,fun x hx=>?_,by rw[List.length_append,h.len];rfl,?_⟩
 ·exact hset.blk (fm.blk h.b2 hb2) h.ne
 ·exact dY (fm.blk h.b3 hb3) 1 kv'
 ·rw[List.flatMap_append]
  simp only[List.flatMap_cons,List.flatMap_nil,List.append_nil]
  exact hown.set (.inr rfl) h.yE _
 ·rcases List.mem_append.1 hx with hx|hx
  ·exact(h.kids x hx).turn turn
  ·simp only[List.mem_singleton]at hx;subst hx;exact hq.turn turn
 ·rw[Gu,aI.pU k ks hd,←hd]
  exact h.all
theorem lU.done {w ww:World} {h2 h3 n:Nat} {ev kv:Value} {es:List aG} {ks:aI} {k:Nat} {l:List gK} (h:lU w ww h2 h3 n ev kv es ks k l) (hn:n=es.length) (hk:ks.len≤k):
 bJ (fun b=>w.heap.size≤b) ((ww.setCell ⟨h2,0,none⟩ ev).setCell ⟨h2,1,none⟩ kv) ev kv es ks∧aj au w ((ww.setCell ⟨h2,0,none⟩ ev).setCell ⟨h2,1,none⟩ kv)∧
  ((ww.setCell ⟨h2,0,none⟩ ev).setCell ⟨h2,1,none⟩ kv).heap[h2]?=some (.cells #[ev,kv] 30 (0,0)):=by
 have hks:ks=mkK l:=by
  have:=h.all
  rw[aI.pV hk]at this
  exact this
 have Gx:aj (fun b=>b=h2) ww ((ww.setCell ⟨h2,0,none⟩ ev).setCell ⟨h2,1,none⟩ kv):=
  (aj.setCell (S:=fun b=>b=h2) ww (p:=⟨h2,0,none⟩) (.inl rfl) ev).trans (aj.setCell (S:=fun b=>b=h2) _ (p:=⟨h2,1,none⟩) (.inl rfl) kv) fun _ _ h=>h
 have turn:∀b,b<ww.heap.size→qc w h2 h3 kv b→((ww.setCell ⟨h2,0,none⟩ ev).setCell ⟨h2,1,none⟩ kv).heap[b]?=ww.heap[b]?∧w.heap.size≤b:=fun b hb hQ=>⟨Gx.block b hb hQ.2.1,hQ.1⟩
 refine⟨⟨hn▸h.ents.turn turn,sS l,?_,?_⟩,(h.aH.set1 (p:=⟨h2,0,none⟩) (.inr h.new2)).set1 (p:=⟨h2,1,none⟩) (.inr h.new2),dY (dY h.b2 0 ev) 1 kv⟩
 ·rw[hks,uZ,BA,h.len]
  have ho:=Gx.owns h.own.at_.own fun b hb he=>h.own.but b hb (.inl he)
  exact⟨Rd.own ho,fun _ b hb=>h.own.at_.new b hb⟩
 ·rw[hks]
  exact BD fun q hq=>(h.kids q hq).turn turn
theorem lU.top {w ww:World} {h2 h3 n:Nat} {ev kv:Value} {es:List aG} {ks:aI} {k:Nat} {l:List gK} (h:lU w ww h2 h3 n ev kv es ks k l) (hk:ks.len≤k):
 ks=mkK l∧OwnAt w ((ww.setCell ⟨h2,0,none⟩ ev).setCell ⟨h2,1,none⟩ kv) 83 3 kv l.length (l.flatMap gK.cells)∧∀q∈l,bJ (fun b=>w.heap.size≤b∧kv.ownBlock≠some b) ((ww.setCell ⟨h2,0,none⟩ ev).setCell ⟨h2,1,none⟩ kv) q.ev q.kv q.es q.sub:=by
 have Gx:aj (fun b=>b=h2) ww ((ww.setCell ⟨h2,0,none⟩ ev).setCell ⟨h2,1,none⟩ kv):=
  (aj.setCell (S:=fun b=>b=h2) ww (p:=⟨h2,0,none⟩) (.inl rfl) ev).trans (aj.setCell (S:=fun b=>b=h2) _ (p:=⟨h2,1,none⟩) (.inl rfl) kv) fun _ _ h=>h
 refine⟨?_,?_,fun q hq=>(h.kids q hq).turn fun b hb hQ=>⟨Gx.block b hb hQ.2.1,hQ.1,hQ.2.2.2⟩⟩
 ·have:=h.all
  rw[aI.pV hk]at this
  exact this
 ·rw[h.len]
  exact((h.own.set (p:=⟨h2,0,none⟩) (.inl rfl) h.new2 ev).set (p:=⟨h2,1,none⟩) (.inl rfl) h.new2 kv).at_
open Go.RowKit
def yF (w:World) (es:List aG) (ks:aI) (e:Ending) (w':World):Prop:=
 ∃ev' kv',e= .returned (.agg #[ev',kv'])∧bJ (fun b=>w.heap.size≤b) w' ev' kv' es ks∧aj au w w'
def bV (w:World) (es:List aG) (ks:aI) (e:Ending) (w':World):Prop:=
 ∃ev' kv' l,e= .returned (.agg #[ev',kv'])∧bJ (fun b=>w.heap.size≤b) w' ev' kv' es ks∧aj au w w'∧ks=mkK l∧OwnAt w w' 83 3 kv' l.length (l.flatMap gK.cells)∧∀q∈l,bJ (fun b=>w.heap.size≤b∧kv'.ownBlock≠some b) w' q.ev q.kv q.es q.sub
theorem Tn (Q:Nat→Prop):∀(N:Nat) (es:List aG) (ks:aI) (w:World) (ev kv:Value),dX ks<N→bJ Q w ev kv es ks→sizeT es ks≤100000→
 Calls Tryz.prog 207 #[.agg #[ev,kv]] w (bV w es ks):=by
 intro N
 induction N with
 |zero=>intros;exfalso;omega
 |succ N iq=>
  intro es ks w ev kv hN ht hsz
  obtain⟨i0,hi,hz0,hz1,hz2⟩:=info_parts yD
  obtain⟨ae,ce,rfl⟩:=ht.ents.rd.sl
  obtain⟨os,hkr,dZ⟩:=ht.kids
  obtain⟨ak,ck,rfl⟩:=hkr.rd.sl
  have HE:=ah ht.ents.rd
  have gJ:=ah hkr.rd;clear hkr ht
  have jU:=ah dZ;clear dZ
  have IH:=ah iq;clear iq
  have pX:es.length≤100000:=by unfold sizeT at hsz;omega
  have Gs:ks.len≤100000:=by have:=nM ks;unfold sizeT at hsz;omega
  have oK:=ah (fun W (h:aj au w W)=>NG W (.slice ae es.length ce) es (HE.out.aP h) pX)
  have mO:=ah hsz;clear hsz
  have iF:=ah hN;clear hN
  generalize hes:es.length=n at*
  have HN:=ah hes;clear hes
  generalize hkl:ks.len=m at*
  have HM:=ah hkl;clear hkl
  obtain⟨WB,sU⟩:∃WB,WB=(w.alloc (.cells #[.slice ae n ce, .slice ak m ck] 30)).alloc (.cells #[.slice none 0 0, .slice none 0 0] 30):=⟨_,rfl⟩
  have hfb:aj au w WB:=by rw[sU];exact(aj.alloc _ _ _).alloc1
  have hb0:WB.heap[w.heap.size]?=some (.cells #[.slice ae n ce, .slice ak m ck] 30 (0,0)):=by rw[sU,Below.heap_alloc _ _ _ (by simp)];exact heap_alloc_new w _
  have hb2:WB.heap[w.heap.size+1]?=some (.cells #[.slice none 0 0, .slice none 0 0] 30 (0,0)):=by
   rw[sU]
   have:=heap_alloc_new (w.alloc (.cells #[.slice ae n ce, .slice ak m ck] 30)) (.cells #[.slice none 0 0, .slice none 0 0] 30)
   simpa using this
  have hbs:WB.heap.size=w.heap.size+1+1:=by rw[sU];simp
  have bW:=ah hfb;clear hfb
  have HB0:=ah hb0;clear hb0
  have HB2:=ah hb2;clear hb2
  have yG:=ah hbs;clear hbs
  have hcall:∀W,W=WB→Calls Tryz.prog 255 #[.slice ae n ce] W fun e w'=>∃v',e= .returned v'∧OwnAt WB w' 172 4 v' n (eY es):=fun W hW=>by rw[hW];exact oK.out WB bW.out
  have NJ:=ah hcall;clear hcall
  have bQ:=ah sU.symm;clear sU
  go_enter Tryz.func207,Tryz.ntmps207
  go_wp2_with(go_at_call 255;refine(NJ.out _ bQ.out).mono ?_;rintro e w1 ⟨v1,rfl,ho1⟩;obtain⟨a1,c1,rfl⟩:=ho1.shape;have bZ:=ah ho1;clear ho1;have b1:w1.cell? ⟨w.heap.size,1,none⟩=some (.slice ak m ck):=bZ.out.aH.cell' (aF HB0.out 1 rfl) id;have hlt1:w.heap.size<w1.heap.size:=World.block_lt_of_cell? _ _ b1)
  have hln:aj au w (w1.alloc (.cells #[.slice a1 n c1, .slice none 0 0] 30)):=(bW.out.ay bZ.out.aH).alloc1
  have hc0:lU w (w1.alloc (.cells #[.slice a1 n c1, .slice none 0 0] 30)) (w.heap.size+1) w1.heap.size n (.slice a1 n c1) (.slice none 0 0) es ks 0 []:=by
   have hs1:=bZ.out.aH.size
   have hbs:=yG.out
   refine⟨hln,(aj.alloc au _ _).blk (bZ.out.aH.blk HB2.out id) id,heap_alloc_new w1 _,by omega,by have:=bW.out.size;omega,by omega,dM.nil hln _ _,?_,fun q hq=>(by cases hq),rfl,rfl⟩
   refine bZ.out.pY.turn fun b hb hQ=>⟨Below.heap_alloc _ _ _ hb,by omega,by omega,by omega,by simp[Value.ownBlock]⟩
  have BF:=ah hc0;clear hc0
  have jK:=ah hln;clear hln
  clear b1 hlt1
  go_loopw [13] (fun i ww=>∃(k:Nat) (l:List gK) (sV:Value),k≤m∧i= .int .i64 k∧lU w ww (w.heap.size+1) w1.heap.size n (.slice a1 n c1) sV es ks k l) (fun i _=>m-(intOf i).toNat)
  case atStart=>exact⟨0,[],_,Nat.zero_le _,rfl,BF.out⟩
  case round=>
   obtain⟨k,l,sV,hk,rfl,hc⟩:=hrel
   obtain⟨av,cv,rfl⟩:=hc.own.at_.shape
   have HC:=ah hc;clear hc
   by_cases hlt:k<m
   ·obtain⟨key,es',sub,rest,hdr⟩:=aI.nI (n:=k) (ks:=ks) (by rw[HM.out];exact hlt)
    rcases Rd.shape gJ.out with⟨ad,he,h0⟩|⟨b,off,cc,he,hmax⟩
    ·exfalso;have:=HM.out;omega
    ·injection he with e1 e2 e3
     subst e1 e3
     clear e2
     obtain⟨ev',kv',q0,q1,q2,hta⟩:=lS (gJ.out.aP HC.out.aH) (jU.out.aP HC.out.aH) hdr
     obtain⟨dP,dQ,rfl⟩:=hta.ents.rd.sl
     obtain⟨os',fJ,kR⟩:=hta.kids
     obtain⟨dR,dS,rfl⟩:=fJ.rd.sl
     clear fJ kR
     have eP:=ah (pW k hdr)
     have HST:=ah (sO k hdr)
     have iW:=ah hta;clear hta
     have HIH:=ah (fun w' (h:aj au wr w')=>IH.out es' sub w' _ _ (by have:=eP.out;have:=iF.out;omega) (iW.out.aP h) (by have:=HST.out;have:=mO.out;unfold sizeT at*;omega))
     have HDR:=ah hdr;clear hdr
     have hkp:k≤100000:=by omega
     generalize es'.length=n' at*
     generalize sub.len=m' at*
     have hsp:(wr.alloc (.cells #[.string key, .slice dP n' dQ, .slice dR m' dS] 83)).heap[wr.heap.size]?=some (.cells #[.string key, .slice dP n' dQ, .slice dR m' dS] 83 (0,0)):=heap_alloc_new wr _
     have qG:=ah hsp;clear hsp
     have NK:=lt_of_block HC.out.b3
     have BG:=lt_of_block HC.out.b2
     have Gy:∀b,(Value.slice av k cv).ownBlock=some b→b<wr.heap.size:=fun b hb=>HC.out.own.at_.lt b hb
     have Gz:=ah Gy;clear Gy
     have hfa:aj au wr (wr.alloc (.cells #[.string key, .slice dP n' dQ, .slice dR m' dS] 83)).drew:=(aj.alloc _ _ _).nZ
     have fA:=ah hfa;clear hfa
     have hsz0:(wr.alloc (.cells #[.string key, .slice dP n' dQ, .slice dR m' dS] 83)).drew.heap.size=wr.heap.size+1:=by show(wr.alloc _).heap.size=_;simp
     have u_:=ah hsz0;clear hsz0
     go_wp2_with fail
     refine gX (S:=fun w'=>w'.cell? ⟨wr.heap.size,0,none⟩=some (.string key)∧w'.cell? ⟨wr.heap.size,1,none⟩=some (.slice dP n' dQ)∧w'.cell? ⟨wr.heap.size,2,none⟩=some (.slice dR m' dS)∧w'.cell? ⟨w1.heap.size,1,none⟩=some (.slice av k cv)) 11 (by kernel_rfl) ⟨aF qG.out 0 rfl,aF qG.out 1 rfl,aF qG.out 2 rfl,fA.out.cell' (aF HC.out.b3 1 rfl) id⟩ ?_
     intro hS
     generalize (wr.alloc (.cells #[.string key, .slice dP n' dQ, .slice dR m' dS] 83)).drew=Y0 at*
     refine aT 0 17 rfl rfl (v:=?_) (.inl ⟨by rfl,?_⟩) ?_
     rotate_left 1
     ·(intro w hSw;(try dsimp only at hSw);go_simp;(try with_reducible rfl))
     refine aT 1 18 rfl rfl (v:=?_) (.inl ⟨by rfl,?_⟩) ?_
     rotate_left 1
     ·(intro w hSw;(try dsimp only at hSw);go_simp;(try with_reducible rfl))
     try simp only[Act.put,aJ,aN,aO]
     refine aT 2 19 rfl rfl (v:=?_) (.inl ⟨by rfl,?_⟩) ?_
     rotate_left 1
     ·(intro w hSw;(try dsimp only at hSw);go_simp;(try with_reducible rfl))
     refine aT 3 20 rfl rfl (v:=?_) (.inl ⟨by rfl,?_⟩) ?_
     rotate_left 1
     ·(intro w hSw;(try dsimp only at hSw);go_simp;(try with_reducible rfl))
     try simp only[Act.put,aJ,aN,aO]
     refine aT 4 21 rfl rfl (v:=?_) (.inl ⟨by rfl,?_⟩) ?_
     rotate_left 1
     ·(intro w hSw;(try dsimp only at hSw);go_simp;(try with_reducible rfl))
     refine aT 5 22 rfl rfl (v:=?_) (.inl ⟨by rfl,?_⟩) ?_
     rotate_left 1
     ·(intro w hSw;(try dsimp only at hSw);go_simp;(try with_reducible rfl))
     try simp only[Act.put,aJ,aN,aO]
     refine bD (i:=6) (by kernel_rfl) rfl (fun K hK=>?_)
     go_simp
     refine(HIH.out _ fA.out).mono ?_
     rintro e Y ⟨mP,mQ,-,rfl,iY,hf3,-⟩
     obtain⟨a3,c3,rfl⟩:=iY.ents.rd.sl
     obtain⟨os3,iQ,-⟩:=iY.kids
     obtain⟨a4,c4,rfl⟩:=iQ.rd.sl
     clear iQ
     have qM:=ah iY;clear iY
     have HF3:=ah hf3;clear hf3
     generalize es'.length=n3 at*
     generalize sub.len=m3 at*
     have hS3:Y.cell? ⟨wr.heap.size,0,none⟩=some (.string key)∧Y.cell? ⟨wr.heap.size,1,none⟩=some (.slice dP n' dQ)∧Y.cell? ⟨wr.heap.size,2,none⟩=some (.slice dR m' dS)∧Y.cell? ⟨w1.heap.size,1,none⟩=some (.slice av k cv):=⟨HF3.out.cell' hS.1 id,HF3.out.cell' hS.2.1 id,HF3.out.cell' hS.2.2.1 id,HF3.out.cell' hS.2.2.2 id⟩
     refine hK.out _ _ hS3 ?_
     clear hK K hS
     try simp only[Act.put,aJ,aN,aO]
     refine aT 7 24 rfl rfl (v:=?_) (.inl ⟨by rfl,?_⟩) ?_
     rotate_left 1
     ·(intro w hSw;(try dsimp only at hSw);go_simp;(try with_reducible rfl))
     try simp only[Act.put,aJ,aN,aO]
     refine bD (i:=8) (by kernel_rfl) rfl (fun K hK=>?_)
     go_simp
     have hS4:(Y.alloc (.cells #[.string key, .slice a3 n3 c3, .slice a4 m3 c4] 83)).cell? ⟨wr.heap.size,0,none⟩=some (.string key)∧(Y.alloc (.cells #[.string key, .slice a3 n3 c3, .slice a4 m3 c4] 83)).cell? ⟨wr.heap.size,1,none⟩=some (.slice dP n' dQ)∧(Y.alloc (.cells #[.string key, .slice a3 n3 c3, .slice a4 m3 c4] 83)).cell? ⟨wr.heap.size,2,none⟩=some (.slice dR m' dS)∧(Y.alloc (.cells #[.string key, .slice a3 n3 c3, .slice a4 m3 c4] 83)).cell? ⟨w1.heap.size,1,none⟩=some (.slice av k cv):=⟨(aj.alloc au Y _).cell' hS3.1 id,(aj.alloc au Y _).cell' hS3.2.1 id,(aj.alloc au Y _).cell' hS3.2.2.1 id,(aj.alloc au Y _).cell' hS3.2.2.2 id⟩
     refine hK.out _ _ hS4 ?_
     clear hK K
     try simp only[Act.put,aJ,aN,aO]
     refine bD (i:=9) (by kernel_rfl) rfl (fun K hK=>?_)
     have sW:=ah ((HC.out.keep fA.out).keep HF3.out)
     have NM:wr.heap.size<Y.heap.size:=by have:=HF3.out.size;have:=u_.out;omega
     refine Aw (fun b=>b<Y.heap.size∧(Value.slice av k cv).ownBlock≠some b) w Y [.string key, .slice a3 n3 c3, .slice a4 m3 c4] rfl (.tmp 18) (.tmp 25) 28 rfl 83 i0 _ 3 64 Tryz.underlying28 hi hz0 hz1 hz2 (by decide) (by decide) (.slice av k cv) k _ ⟨sW.out.own.at_,fun b hb hn=>hn.2 hb⟩ (fun b hb=>hb.1) 1 1 (by simp[Act.eval]) (by simp[Act.eval]) rfl (by simp[Value.oneCell']) (by simp only[maxLen];omega) (by omega) ?_
     intro ad iP w2 bC fF
     have hnk:∀b,b≤wr.heap.size→(Value.slice av k cv).ownBlock≠some b→b<Y.heap.size∧(Value.slice av k cv).ownBlock≠some b:=fun b hb hn=>⟨by omega,hn⟩
     have hle3:w1.heap.size≤wr.heap.size:=Nat.le_of_lt NK
     have pX:(Value.slice av k cv).ownBlock≠some wr.heap.size:=fun h=>by have:=Gz.out _ h;omega
     have hn3:(Value.slice av k cv).ownBlock≠some w1.heap.size:=fun h=>HC.out.own.but _ h (.inr rfl)
     have hS5:w2.cell? ⟨wr.heap.size,0,none⟩=some (.string key)∧w2.cell? ⟨wr.heap.size,1,none⟩=some (.slice dP n' dQ)∧w2.cell? ⟨wr.heap.size,2,none⟩=some (.slice dR m' dS)∧w2.cell? ⟨w1.heap.size,1,none⟩=some (.slice av k cv):=⟨fF.cell (hnk _ (Nat.le_refl _) pX) hS3.1,fF.cell (hnk _ (Nat.le_refl _) pX) hS3.2.1,fF.cell (hnk _ (Nat.le_refl _) pX) hS3.2.2.1,fF.cell (hnk _ hle3 hn3) hS3.2.2.2⟩
     refine hK.out _ _ hS5 ?_
     clear hK K hS4
     have hcf:w2.frozen? ⟨w1.heap.size,1,none⟩=false:=fF.frozen (p:=⟨w1.heap.size,1,none⟩) (hnk _ hle3 hn3) (aY sW.out.b3 1)
     have hfm:aj (iL (.slice av k cv)) Y w2:=⟨bC.at_.aH.os.trans sW.out.aH.os.symm,bC.at_.aH.tape.trans sW.out.aH.tape.symm,bC.at_.aH.output.trans sW.out.aH.output.symm,fF.1,fun b hb hn=>fF.2 b ⟨hb,hn⟩⟩
     have hfr:kK Y (.slice av k cv) (.slice ad (k+1) iP):=fun b hb=>by
      by_cases h1:(Value.slice av k cv).ownBlock=some b
      ·exact .inl h1
      ·refine .inr ?_
       have:=bC.but b hb
       rcases Nat.lt_or_ge b Y.heap.size with h2|h2
       ·exact absurd ⟨h2,h1⟩ this
       ·exact h2
     have hq3:bJ (qc w (w.heap.size+1) w1.heap.size (.slice av k cv)) Y (.slice a3 n3 c3) (.slice a4 m3 c4) es' sub:=qM.out.turn fun b hb hQ=>by
      have h0:=u_.out
      have h1:=HC.out.aH.size
      refine⟨rfl,by omega,by omega,by omega,fun h=>?_⟩
      have:=Gz.out _ h
      omega
     have qH:=ah (sW.out.step (q:=⟨key,es',sub, .slice a3 n3 c3, .slice a4 m3 c4⟩) HDR.out hq3 bC.at_.own hfm hfr)
     clear bC fF hfm hfr hq3 hnk pX hn3 NM
     try simp only[Act.put,aJ,aN,aO]
     refine aT 10 27 rfl rfl (v:=?_) (.inl ⟨by rfl,?_⟩) ?_
     rotate_left 1
     ·(intro w hSw;(try dsimp only at hSw);go_simp;(try with_reducible rfl))
     try simp only[Act.put,aJ,aN,aO]
     refine fD (by kernel_rfl) (by kernel_rfl) rfl (fun K hK=>?_)
     have hcz:=hS5.2.2.2
     clear hS5 hS3
     go_simp
     refine hK.out _ _ ?_
     clear hK K hcz hcf
     go_wp2
     go_roundw
     case rel=>exact⟨k+1,_,_,by omega,by go_num,qH.out⟩
     case measure=>simp[intOf];omega
   ·obtain rfl:m=k:=by omega
    have hdn:=HC.out.done HN.out.symm (by rw[HM.out];exact Nat.le_refl _)
    have ig:=ah hdn;clear hdn
    have Tq:=ah (HC.out.top (by rw[HM.out];exact Nat.le_refl _))
    have y0:=aF HC.out.b3 0 rfl
    have y1:=aF HC.out.b3 1 rfl
    have z0:=aF HC.out.b2 0 rfl
    have z1:=aF HC.out.b2 1 rfl
    have f0:=aY HC.out.b2 0
    have f1:=aY HC.out.b2 1
    go_wp2
    clear y0 y1 z0 z1
    have y0:=aF ig.out.2.2 0 rfl
    have y1:=aF ig.out.2.2 1 rfl
    exact bodyPost_ret (v:= .agg #[.slice a1 n c1, .slice av m cv]) (by simp[results,Tryz.results207,go_sem,y0,y1]) rfl ⟨_,_,l,rfl,ig.out.1,ig.out.2.1,Tq.out⟩
theorem NI (Q:Nat→Prop) (N:Nat) (es:List aG) (ks:aI) (w:World) (ev kv:Value) (hN:dX ks<N) (h:bJ Q w ev kv es ks) (hs:sizeT es ks≤100000):Calls Tryz.prog 207 #[.agg #[ev,kv]] w (yF w es ks):=
 (Tn Q N es ks w ev kv hN h hs).mono fun _ _ ⟨ev',kv',_,h1,h2,h3,_⟩=>⟨ev',kv',h1,h2,h3⟩
open Go.RowKit
theorem iJ {w:World} {b j k:Nat} {v:Value} (h:k≠b):(w.setCell ⟨b,j,none⟩ v).heap[k]?=w.heap[k]?:=Below.heap_setCell _ _ _ _ h
theorem res2 {w0 w:World} {b:Nat} {T:TypeId} {a0 a1:Value} (h:w.heap[b]?=some (.cells #[a0,a1] T (0,0))) (f:aj au w0 w) (hb:w0.heap.size≤b) (v0 v1:Value):
 ((w.setCell ⟨b,0,none⟩ v0).setCell ⟨b,1,none⟩ v1).heap[b]?=some (.cells #[v0,v1] T (0,0))∧aj au w0 ((w.setCell ⟨b,0,none⟩ v0).setCell ⟨b,1,none⟩ v1)∧
   ∀k,k≠b→((w.setCell ⟨b,0,none⟩ v0).setCell ⟨b,1,none⟩ v1).heap[k]?=w.heap[k]?:=
 ⟨dY (dY h 0 v0) 1 v1,(f.set1 (p:=⟨b,0,none⟩) (.inr hb)).set1 (p:=⟨b,1,none⟩) (.inr hb),fun k hk=>(iJ hk).trans (iJ hk)⟩
theorem BH {w0 w:World} {b:Nat} {T:TypeId} {a0 a1 a2:Value} (h:w.heap[b]?=some (.cells #[a0,a1,a2] T (0,0))) (f:aj au w0 w) (hb:w0.heap.size≤b) (v0 v1 v2:Value):
 (((w.setCell ⟨b,0,none⟩ v0).setCell ⟨b,1,none⟩ v1).setCell ⟨b,2,none⟩ v2).heap[b]?=some (.cells #[v0,v1,v2] T (0,0))∧aj au w0 (((w.setCell ⟨b,0,none⟩ v0).setCell ⟨b,1,none⟩ v1).setCell ⟨b,2,none⟩ v2)∧
   ∀k,k≠b→(((w.setCell ⟨b,0,none⟩ v0).setCell ⟨b,1,none⟩ v1).setCell ⟨b,2,none⟩ v2).heap[k]?=w.heap[k]?:=
 ⟨dY (dY (dY h 0 v0) 1 v1) 2 v2,((f.set1 (p:=⟨b,0,none⟩) (.inr hb)).set1 (p:=⟨b,1,none⟩) (.inr hb)).set1 (p:=⟨b,2,none⟩) (.inr hb),fun k hk=>((iJ hk).trans (iJ hk)).trans (iJ hk)⟩
theorem oL (w:World) (o:Obj) (cs:Array Value) (T:TypeId):((w.alloc o).alloc (.cells cs T)).heap[w.heap.size+1]?=some (.cells cs T (0,0))∧aj au w ((w.alloc o).alloc (.cells cs T))∧((w.alloc o).alloc (.cells cs T)).heap.size=w.heap.size+1+1:=by
 refine⟨?_,(aj.alloc _ _ _).alloc1,by simp⟩
 have:=heap_alloc_new (w.alloc o) (.cells cs T)
 simpa using this
theorem GH (w:World) (v0 v1:Value) (T:TypeId) (W:World) (f:aj au (w.alloc (.cells #[v0,v1] T)) W):W.cell? ⟨w.heap.size,0,none⟩=some v0∧W.cell? ⟨w.heap.size,1,none⟩=some v1:=
 ⟨f.cell' (aF (heap_alloc_new w _) 0 rfl) id,f.cell' (aF (heap_alloc_new w _) 1 rfl) id⟩
theorem sZ (w:World) (v0 v1 v2:Value) (T:TypeId) (W:World) (f:aj au (w.alloc (.cells #[v0,v1,v2] T)) W):W.cell? ⟨w.heap.size,0,none⟩=some v0∧W.cell? ⟨w.heap.size,1,none⟩=some v1∧W.cell? ⟨w.heap.size,2,none⟩=some v2:=
 ⟨f.cell' (aF (heap_alloc_new w _) 0 rfl) id,f.cell' (aF (heap_alloc_new w _) 1 rfl) id,f.cell' (aF (heap_alloc_new w _) 2 rfl) id⟩
end Go.Proofs.YtabkpccdnkjoiaaGreat
