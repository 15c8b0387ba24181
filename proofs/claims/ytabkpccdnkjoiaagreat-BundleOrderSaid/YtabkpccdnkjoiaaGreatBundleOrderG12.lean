/- Words for the law BundleOrder: CaTreesP, CaTrees. -/
import Derived.Test.YtabkpccdnkjoiaaGreatBundleOrderG0
import Derived.Test.YtabkpccdnkjoiaaGreatBundleOrderG9
import Derived.Test.YtabkpccdnkjoiaaGreatBundleOrderG10
import Derived.Test.YtabkpccdnkjoiaaGreatBundleOrderG11
set_option linter.unusedSimpArgs false
set_option linter.unusedVariables false
set_option maxHeartbeats 32000000
set_option maxRecDepth 1000000
namespace Go.Proofs.YtabkpccdnkjoiaaGreat
open Go.RowKit
def tC (xs:List Value) (l:List ByteArray):Prop:=∀j,j<l.length→∃a0 n0 c0 a1 n1 c1,xs[j*3]?=some (.string (l.getD j ByteArray.empty))∧xs[j*3+1]?=some (.slice a0 n0 c0)∧xs[j*3+2]?=some (.slice a1 n1 c1)
theorem yQ {Q:Nat→Prop} {w:World}:∀ {ks:aI} {os:List (Value×Value)},gu Q w ks os→tC (fM ks os) ks.keys
 | .nil,_,_=>fun j hj=>by cases hj
 | .cons key es sub rest,_,⟨ev,kv,lC,os,h1,h2,h3,_,h5⟩=>by
   subst h1
   obtain⟨a0,c0,rfl⟩:=h2.rd.sl
   obtain⟨a1,c1,rfl⟩:=h3.rd.sl
   have ih:=yQ h5
   intro j hj
   cases j with
   |zero=>exact⟨_,_,_,_,_,_,rfl,rfl,rfl⟩
   |succ j=>
    obtain⟨a0',tH,c0',a1',n1',c1',g0,g1,g2⟩:=ih j (by simpa[aI.keys]using hj)
    refine⟨a0',tH,c0',a1',n1',c1',?_,?_,?_⟩
    ·rw[show(j+1)*3=j*3+1+1+1 by omega];exact g0
    ·rw[show(j+1)*3+1=(j*3+1)+1+1+1 by omega];exact g1
    ·rw[show(j+1)*3+2=(j*3+2)+1+1+1 by omega];exact g2
theorem tC.append {xs ys:List Value} {l m:List ByteArray} (h:tC xs l) (g:tC ys m) (hl:xs.length=l.length*3):tC (xs++ys) (l++m):=fun j hj=>by
 by_cases hjl:j<l.length
 ·obtain⟨a0,n0,c0,a1,n1,c1,g0,g1,g2⟩:=h j hjl
  have e:(l++m).getD j ByteArray.empty=l.getD j ByteArray.empty:=by rw[List.getD_eq_getElem?_getD,List.getD_eq_getElem?_getD,List.getElem?_append_left hjl]
  rw[e]
  refine⟨a0,n0,c0,a1,n1,c1,?_,?_,?_⟩
  ·rw[List.getElem?_append_left (by omega)];exact g0
  ·rw[List.getElem?_append_left (by omega)];exact g1
  ·rw[List.getElem?_append_left (by omega)];exact g2
 ·have hjm:j-l.length<m.length:=by rw[List.length_append]at hj;omega
  obtain⟨a0,n0,c0,a1,n1,c1,g0,g1,g2⟩:=g _ hjm
  have e:(l++m).getD j ByteArray.empty=m.getD (j-l.length) ByteArray.empty:=by rw[List.getD_eq_getElem?_getD,List.getD_eq_getElem?_getD,List.getElem?_append_right (by omega)]
  rw[e]
  refine⟨a0,n0,c0,a1,n1,c1,?_,?_,?_⟩
  ·rw[List.getElem?_append_right (by omega),show j*3-xs.length=(j-l.length)*3 by omega];exact g0
  ·rw[List.getElem?_append_right (by omega),show j*3+1-xs.length=(j-l.length)*3+1 by omega];exact g1
  ·rw[List.getElem?_append_right (by omega),show j*3+2-xs.length=(j-l.length)*3+2 by omega];exact g2
theorem Hl {Q:Nat→Prop} {w:World} {ks:aI} {os:List (Value×Value)} (h:gu Q w ks os):∀v∈fM ks os,v.oneCell'=true:=fun v hv=>by
 obtain⟨i,hi,he⟩:=List.getElem_of_mem hv
 have hl:=h.length
 have hk:=ks.mV
 obtain⟨a0,n0,c0,a1,n1,c1,g0,g1,g2⟩:=yQ h (i/3) (by omega)
 have ho:(fM ks os)[i]?=some v:=by rw[List.getElem?_eq_getElem hi,he]
 rcases(by omega:i=i/3*3∨i=i/3*3+1∨i=i/3*3+2)with e|e|e
 ·rw[e,g0]at ho;cases ho;rfl
 ·rw[e,g1]at ho;cases ho;rfl
 ·rw[e,g2]at ho;cases ho;rfl
theorem yR {d:Nat} {es:List aG} {ks:aI} (h:aX (d+1) es ks=true):dO none es=true∧gI ks d none=true:=by
 simp only[aX,Bool.and_eq_true]at h
 exact⟨h.1.2,h.2⟩
theorem yS {d:Nat} {ks:aI} {k:ByteArray} (h:gI ks d none=true) (hd:1≤d):aX d (ks.find k).1 (ks.find k).2=true:=by
 by_cases hm:k∈ks.keys
 ·exact((qj _ _ _ k h).1 hm).1
 ·rw[(qj _ _ _ k h).2 hm];exact GX hd
theorem yT {d:Nat} {ks:aI} {k:ByteArray} (h:gI ks d none=true) (hm:k∈ks.keys):1≤d:=by
 have:=((qj _ _ _ k h).1 hm).1
 simp only[aX,Bool.and_eq_true,decide_eq_true_eq]at this
 exact this.1.1
theorem Cc:∀(ks:aI) (s:ByteArray),sizeT (ks.find s).1 (ks.find s).2≤dX ks
 | .nil,_=>Nat.le_refl _
 | .cons key es sub rest,s=>by
   unfold aI.find
   split
   ·simp only[sizeT,dX];omega
   ·have:=Cc rest s;simp only[dX];omega
theorem Ho (ha hb:Int→Int→Bool) (a b:List aG):(dK ha hb a b).length≤a.length+b.length:=by
 have kl:∀h x,(jW h x).length≤1:=fun h x=>by unfold jW;split<;>simp
 fun_induction dK ha hb a b with
 |case1=>simp
 |case2 x a ih=>have:=kl hb x;simp only[List.length_append,List.length_cons,List.length_nil]at*;omega
 |case3 y b ih=>have:=kl ha y;simp only[List.length_append,List.length_cons,List.length_nil]at*;omega
 |case4 x a y b _ ih=>have:=kl hb x;simp only[List.length_append,List.length_cons]at*;omega
 |case5 x a y b _ _ ih=>have:=kl ha y;simp only[List.length_append,List.length_cons]at*;omega
 |case6 x a y b _ _ ih=>simp only[List.length_cons]at*;omega
theorem Hq (a b:List ByteArray):(fP a b).length≤a.length+b.length:=by
 fun_induction fP a b with
 |case1 b=>simp
 |case2 x a=>simp
 |case3 x a y b _ ih=>simp only[List.length_cons]at*;omega
 |case4 x a y b _ _ ih=>simp only[List.length_cons]at*;omega
 |case5 x a y b _ _ ih=>simp only[List.length_cons]at*;omega
theorem OL:(Tryz.prog.info? 9).map (fun i=>(i.zero,i.size,i.bytes))=some (some (.string ByteArray.empty),1,16):=by kernel_rfl
theorem OM {l:List ByteArray} {k:Nat} (hk:k<l.length):(l.take (k+1)).map Value.string=(l.take k).map .string++ [.string (l.getD k ByteArray.empty)]:=by
 rw[take_succ ByteArray.empty hk,List.map_append];rfl
theorem OO {l:List ByteArray} {i:Nat} (h:i<l.length):l.drop i=l.getD i ByteArray.empty::l.drop (i+1):=by
 rw[List.drop_eq_getElem_cons h,getD_at _ h]
open Go.RowKit
theorem yU (w:World) (c0 c1 c2:Array Value) (T0 T1 T2:TypeId):aj au w (((w.alloc (.cells c0 T0)).alloc (.cells c1 T1)).alloc (.cells c2 T2))∧(((w.alloc (.cells c0 T0)).alloc (.cells c1 T1)).alloc (.cells c2 T2)).heap.size=w.heap.size+1+1+1∧
 (((w.alloc (.cells c0 T0)).alloc (.cells c1 T1)).alloc (.cells c2 T2)).heap[w.heap.size]?=some (.cells c0 T0 (0,0))∧(((w.alloc (.cells c0 T0)).alloc (.cells c1 T1)).alloc (.cells c2 T2)).heap[w.heap.size+1]?=some (.cells c1 T1 (0,0))∧
 (((w.alloc (.cells c0 T0)).alloc (.cells c1 T1)).alloc (.cells c2 T2)).heap[w.heap.size+1+1]?=some (.cells c2 T2 (0,0)):=by
 refine⟨((aj.alloc _ _ _).alloc1).alloc1,by simp,?_,?_,?_⟩
 ·rw[Below.heap_alloc _ _ _ (by simp;omega),Below.heap_alloc _ _ _ (by simp)];exact heap_alloc_new w _
 ·rw[Below.heap_alloc _ _ _ (by simp)]
  have:=heap_alloc_new (w.alloc (.cells c0 T0)) (.cells c1 T1)
  simpa using this
 ·have:=heap_alloc_new ((w.alloc (.cells c0 T0)).alloc (.cells c1 T1)) (.cells c2 T2)
  simpa using this
def OQ (wr W:World) (v:Value) (es:List aG) (ks:aI):Prop:=∃mb a n c a' n' c',v= .pointer (some ⟨mb,0,none⟩)∧aj au wr W∧wr.heap.size≤mb∧W.heap[mb]?=some (.cells #[.slice a n c, .slice a' n' c'] 30 (0,0))∧n=es.length∧n'=ks.len∧bJ (fun b=>wr.heap.size≤b∧b≠mb) W (.slice a n c) (.slice a' n' c') es ks
theorem OT (Q Q':Nat→Prop) (ca cb:aU) (fa:gB ca) (fb:gB cb) (ra:bH ca) (rb:bH cb) (lca:ca.length≤100000) (yN:cb.length≤100000):∀(N:Nat) (es:List aG) (ks:aI) (es':List aG) (ks':aI) (w:World) (ev kv ev' kv' oN oO:Value),
 bJ Q w ev kv es ks→bJ Q' w ev' kv' es' ks'→dL w oN ca→dL w oO cb→aX N es ks=true→aX N es' ks'=true→sizeT es ks≤4000→sizeT es' ks'≤4000→
 Calls Tryz.prog 154 #[.agg #[ev,kv], .agg #[ev',kv'],oN,oO] w (yF w (gy (gq ca) (gq cb) N (es,ks) (es',ks')).1 (gy (gq ca) (gq cb) N (es,ks) (es',ks')).2):=by
 intro N
 induction N with
 |zero=>intro es ks es' ks' w ev kv ev' kv' oN oO _ _ _ _ h;simp[aX]at h
 |succ N iq=>
  intro es ks es' ks' w ev kv ev' kv' oN oO ha hb hca hcb hra hrb hsa hsb
  obtain⟨i0,hi,hz0,hz1,hz2⟩:=info_parts OL
  obtain⟨j0,hj,hy0,hy1,hy2⟩:=info_parts yD
  obtain⟨OU,yV⟩:=yR hra
  obtain⟨OV,yX⟩:=yR hrb
  have oa:=(qR _ _ _ yV).1
  have ob:=(qR _ _ _ yX).1
  have hla:es.length≤4000:=by unfold sizeT at hsa;omega
  have hlb:es'.length≤4000:=by unfold sizeT at hsb;omega
  have hna:ks.len≤4000:=by have:=nM ks;unfold sizeT at hsa;omega
  have hnb:ks'.len≤4000:=by have:=nM ks';unfold sizeT at hsb;omega
  have sN:=ah (fun k (hm:k∈fP ks.keys ks'.keys)=>(show aX N (ks.find k).1 (ks.find k).2=true∧aX N (ks'.find k).1 (ks'.find k).2=true from by
   have hd:1≤N:=by
    rcases(qh _ _ _).1 hm with g|g
    ·exact yT yV g
    ·exact yT yX g
   exact⟨yS yV hd,yS yX hd⟩))
  have nP:=ah (fun k=>Hf Q es ks k w ev kv ha oa (by omega))
  have HKB:=ah (fun k=>Hf Q' es' ks' k w ev' kv' hb ob (by omega))
  have oK:=ah (fun W (f:aj au w W)=>Ot es es' ca cb W ev ev' oN oO (ha.ents.rd.aP f) (hb.ents.rd.aP f) (Rd.aP hca f) (Rd.aP hcb f) fa fb ra rb lca yN (by omega) (by omega))
  have HIH:=ah (fun k (hm:k∈fP ks.keys ks'.keys) W (f:aj au w W) u v u' v' (h1:bJ Q w u v (ks.find k).1 (ks.find k).2) (h2:bJ Q' w u' v' (ks'.find k).1 (ks'.find k).2)=>
   iq _ _ _ _ W u v u' v' oN oO (h1.aP f) (h2.aP f) (Rd.aP hca f) (Rd.aP hcb f) (sN.out k hm).1 (sN.out k hm).2 (by have:=Cc ks k;unfold sizeT at hsa⊢;unfold sizeT at this;omega) (by have:=Cc ks' k;unfold sizeT at hsb⊢;unfold sizeT at this;omega))
  clear iq
  have HKK:=ah (OI oa ob)
  have jB:=ah (Hq ks.keys ks'.keys)
  have oP:=ah ks.mV
  have Hr:=ah ks'.mV
  obtain⟨os,hk,hf⟩:=ha.kids
  obtain⟨os',hk',hf'⟩:=hb.kids
  have hcl:(fM ks os).length=ks.len*3:=hf.length
  have hcl':(fM ks' os').length=ks'.len*3:=hf'.length
  have hkc:tC (fM ks os++fM ks' os') (ks.keys++ks'.keys):=(yQ hf).append (yQ hf') (by rw[hcl,ks.mV])
  have Ht:=ah hkc;clear hkc
  have yY:=ah (fun W b c (f:aj au w W) h0 h1=>OC W b c kv kv' (fM ks os) (fM ks' os') ks.len ks'.len h0 h1 (hk.rd.aP f) (hk'.rd.aP f) hcl hcl' (Hl hf) (Hl hf') (by omega) (by omega))
  generalize fM ks os++fM ks' os'=xs at*
  obtain⟨aE,cE,rfl⟩:=ha.ents.rd.sl
  obtain⟨yZ,zh,rfl⟩:=hb.ents.rd.sl
  obtain⟨aK,cK,rfl⟩:=hk.rd.sl
  obtain⟨tJ,tK,rfl⟩:=hk'.rd.sl
  obtain⟨aC,cC,rfl⟩:=hca.sl
  obtain⟨aD,cD,rfl⟩:=hcb.sl
  clear ha hb hk hk' hf hf' hcl hcl' hca hcb hra hrb hsa hsb OU OV yV yX oa ob
  unfold gy
  obtain⟨hA,vI⟩:∃h,h=gq ca:=⟨_,rfl⟩
  obtain⟨hB,vJ⟩:∃h,h=gq cb:=⟨_,rfl⟩
  rw[←vI,←vJ]at oK HIH⊢
  clear vI vJ
  obtain⟨F,hF⟩:∃F:ByteArray→List aG×aI,F=fun k=>gy hA hB N (ks.find k) (ks'.find k):=⟨_,rfl⟩
  have HF:=ah hF
  show Calls _ _ _ _ (yF w (dK hA hB es es') (gV (fun k=>gy hA hB N (ks.find k) (ks'.find k)) (fP ks.keys ks'.keys)))
  rw[←hF]
  clear hF
  have hel:=Ho hA hB es es'
  generalize dK hA hB es es'=EJ at*
  have Si:EJ.length≤8000:=by omega
  clear hel
  generalize hkk:fP ks.keys ks'.keys=kk at*
  clear hkk
  generalize hall:ks.keys++ks'.keys=al at*
  have hal:al.length=ks.len+ks'.len:=by rw[←hall,List.length_append,oP.out,Hr.out]
  clear hall
  generalize es.length=n0 at*
  generalize es'.length=tH at*
  generalize ks.len=n at*
  generalize ks'.len=m at*
  generalize ca.length=na at*
  generalize cb.length=nb at*
  have vN:=ah hal;clear hal
  have OX:=ah jB.out
  have hKn:kk.length≤8000:=by have:=jB.out;rw[oP.out,Hr.out]at this;omega
  clear OX jB
  generalize hen:EJ.length=ne at*
  have jX:=ah hen;clear hen
  obtain⟨hf0,hs0,hb0,hb1,hb2⟩:=yU w #[.slice aE n0 cE, .slice aK n cK] #[.slice yZ tH zh, .slice tJ m tK] #[.slice none 0 0, .slice none 0 0] 30 30 30
  have fB:=ah hf0;clear hf0
  have qX:=ah hs0;clear hs0
  have HB0:=ah hb0;clear hb0
  have HB1:=ah hb1;clear hb1
  have HB2:=ah hb2;clear hb2
  go_enter Tryz.func154,Tryz.ntmps154
  go_wp2_with(first
   |(go_at_call 195;refine(oK.out _ fB.out).mono ?_;rintro e w1 ⟨v1,rfl,ho1⟩;obtain⟨a1,c1,rfl⟩:=ho1.shape;have bZ:=ah ho1;clear ho1;have y0:=bZ.out.aH.cell' (aF HB0.out 1 rfl) id;have y1:=bZ.out.aH.cell' (aF HB1.out 1 rfl) id;have hl0:=World.block_lt_of_cell? _ _ y0;have hl1:=World.block_lt_of_cell? _ _ y1;have HX0:=ah (fun X=>aF (heap_alloc_new (w1.alloc (.cells #[.slice a1 ne c1, .slice none 0 0] 30)) (.cells #[.slice aK n cK, .slice tJ m tK] X)) 0 rfl);have uO:=ah (fun X=>aF (heap_alloc_new (w1.alloc (.cells #[.slice a1 ne c1, .slice none 0 0] 30)) (.cells #[.slice aK n cK, .slice tJ m tK] X)) 1 rfl);simp only[World.size_alloc]at HX0 uO)
   |(go_at_call 196;refine(yY.out _ _ _ (((fB.out.ay bZ.out.aH).alloc1).alloc1) (HX0.out _) (uO.out _)).mono ?_;rintro e w2 ⟨v2,rfl,ho2⟩;obtain⟨a2,c2,rfl⟩:=ho2.shape;have dD:=ah ho2;clear ho2))
  have HE2:=ah ((aj.alloc au (w1.alloc (.cells #[.slice a1 ne c1, .slice none 0 0] 30)) _).ay dD.out.aH)
  have hnm:n+m≤8000:=by omega
  go_loopw [10,31] (fun kv iv W=>∃k:Nat,k≤n+m∧iv= .int .i64 k∧OwnAt w2 W 9 1 kv k ((al.take k).map .string)) (fun _ iv _=>n+m-(intOf iv).toNat)
  case atStart=>exact⟨0,by omega,rfl,OwnAt.nil (aj.refl _ _) _ _⟩
  case round=>
   obtain⟨k,hk,rfl,ho⟩:=hrel
   obtain⟨av,cv,rfl⟩:=ho.shape
   have HO:=ah ho;clear ho
   clear y0 y1 hl0 hl1
   by_cases hlt:k<n+m
   ·obtain⟨b0,m0,d0,b1,m1,d1,q0,q1,q2⟩:=Ht.out k (by rw[vN.out];exact hlt)
    rcases Rd.shape dD.out.rd with⟨ad,he,h0⟩|⟨b,off,cc,he,hmax⟩
    ·omega
    injection he with e1 e2 e3
    subst e1 e3
    clear e2
    have r:=dD.out.rd.aP HO.out.aH
    replace q0:=r.cell _ _ q0
    replace q1:wr.cell? ⟨b,off+k*3+1,none⟩=some (.slice b0 m0 d0):=r.cell (k*3+1) _ q1
    replace q2:wr.cell? ⟨b,off+k*3+2,none⟩=some (.slice b1 m1 d1):=r.cell (k*3+2) _ q2
    clear r
    have HST:=ah (OM (l:=al) (k:=k) (by rw[vN.out];exact hlt))
    generalize al.getD k ByteArray.empty=key at*
    have OY:(k:Int)<(n:Int)+(m:Int):=by omega
    have bI:=ah (HO.out.keep (aj.alloc au wr (.cells #[.string key, .slice b0 m0 d0, .slice b1 m1 d1] 83)))
    go_wp2_with(at_builtin;refine jg w2 _ [.string key] rfl (.tmp 35) (.tmp 38) 173 rfl 9 i0 _ 1 16 Tryz.underlying173 hi hz0 hz1 hz2 (by decide) (by decide) _ _ _ bI.out 1 1 rfl (by simp[Act.eval]) rfl (by simp[Value.oneCell']) (by simp only[maxLen];omega) (by omega) ?_;intro ad cc w5 dF;have OW:=ah dF;clear dF)
    go_roundw
    case rel=>exact⟨k+1,by omega,by go_num,by rw[HST.out];exact OW.out⟩
    case measure=>simp[intOf];omega
   ·obtain rfl:k=n+m:=by omega
    have hos:OwnAt w2 wr 9 1 (.slice av (n+m) cv) (n+m) ((al.map ByteArray.toList).map encStr):=by
     have:=HO.out
     rw[List.take_of_length_le (by rw[vN.out];exact Nat.le_refl _)]at this
     rw[map_encStr];exact this
    have Hu:=ah hos;clear hos
    clear HO Ht
    go_wp2_with(first
     |(go_at_call 197;refine(OD w2 _ _ _ (n+m) _ Hu.out (by rw[List.length_map,vN.out]) (by omega)).mono ?_;rintro e w3 ⟨rfl,ho3⟩;have bI:=ah ho3;clear ho3)
     |(go_at_call 198;refine(OG w2 _ _ _ (n+m) _ bI.out (by rw[List.length_mergeSort,List.length_map,vN.out]) (by omega)).mono ?_;rintro e w4 ⟨v4,rfl,dh⟩;rw[HKK.out,map_encStr,List.length_map]at dh;obtain⟨a4,c4,rfl⟩:=dh.shape;have iD:=ah dh;clear dh))
    generalize hK:kk.length=K at*
    have Hw:=ah hK;clear hK
    have zi:=ah (HE2.out.ay iD.out.aH)
    have hs1:=bZ.out.aH.size
    have hs2:=HE2.out.size
    rw[qX.out]at hs1
    simp only[World.size_alloc]at hs2
    have hc0:lU w (w1.alloc (.cells #[.slice a1 ne c1, .slice none 0 0] 30)) (w.heap.size+1+1) w1.heap.size ne (.slice a1 ne c1) (.slice none 0 0) EJ (gV F kk) 0 []:=by
     refine⟨(fB.out.ay bZ.out.aH).alloc1,(aj.alloc au _ _).blk (bZ.out.aH.blk HB2.out id) id,heap_alloc_new w1 _,by omega,by omega,by omega,dM.nil ((fB.out.ay bZ.out.aH).alloc1) _ _,?_,fun q hq=>(by cases hq),rfl,rfl⟩
     exact bZ.out.pY.turn fun b hb hQ=>⟨Below.heap_alloc _ _ _ hb,by have:=qX.out;omega,by have:=qX.out;omega,by omega,by simp[Value.ownBlock]⟩
    have BF:=ah (hc0.keep zi.out);clear hc0
    have bF:=ah (fun W (f:aj (fun b=>b=w1.heap.size) w4 W)=>(show W.cell? ⟨w.heap.size,0,none⟩=some (.slice aE n0 cE)∧W.cell? ⟨w.heap.size,1,none⟩=some (.slice aK n cK)∧W.cell? ⟨w.heap.size+1,0,none⟩=some (.slice yZ tH zh)∧W.cell? ⟨w.heap.size+1,1,none⟩=some (.slice tJ m tK)from by
     have g0:=zi.out.blk ((aj.alloc au w1 _).blk (bZ.out.aH.blk HB0.out id) id) id
     have g1:=zi.out.blk ((aj.alloc au w1 _).blk (bZ.out.aH.blk HB1.out id) id) id
     exact⟨f.cell' (aF g0 0 rfl) (by show ¬w.heap.size=w1.heap.size;omega),f.cell' (aF g0 1 rfl) (by show ¬w.heap.size=w1.heap.size;omega),f.cell' (aF g1 0 rfl) (by show ¬w.heap.size+1=w1.heap.size;omega),f.cell' (aF g1 1 rfl) (by show ¬w.heap.size+1=w1.heap.size;omega)⟩))
    have gJ:=ah (fun W (f:aj (fun b=>b=w1.heap.size) w4 W)=>Rd.keep iD.out.rd f (fun b hb h=>by have:=iD.out.new b hb;have h:b=w1.heap.size:=h;omega))
    have BG:w1.heap.size<w4.heap.size:=by have:=iD.out.aH.size;omega
    have Sj:=ah BG;clear BG
    have Sm:=ah hs1;clear hs1
    clear hs2 hlt hk zi HE2 Hu dD HX0 uO
    go_loopw [46] (fun iv ww=>∃(i:Nat) (l:List gK) (sV:Value),i≤K∧iv= .int .i64 i∧lU w ww (w.heap.size+1+1) w1.heap.size ne (.slice a1 ne c1) sV EJ (gV F kk) l.length l∧(gV F kk).drop l.length=gV F (kk.drop i)∧aj (fun b=>b=w1.heap.size) w4 ww∧zL w4 sV∧l.length≤i) (fun iv _=>K-(intOf iv).toNat)
    case atStart=>exact⟨0,[],_,Nat.zero_le _,rfl,BF.out,rfl,aj.refl _ _,fun b hb=>by simp[Value.ownBlock]at hb,Nat.le_refl _⟩
    case round=>
     obtain⟨i,l,sV,hik,rfl,hc,hdr,hfr,Hy,OY⟩:=hrel
     obtain⟨av,cv,rfl⟩:=hc.own.at_.shape
     have HC:=ah hc;clear hc
     have HDR:=ah hdr;clear hdr
     have jy:=ah hfr;clear hfr
     have Ce:=ah Hy;clear Hy
     generalize hp:l.length=p at*
     have HP:=ah hp;clear hp
     by_cases hlt:i<K
     ·have hr:=gJ.out wr jy.out
      rcases Rd.shape hr with⟨ad,he,h0⟩|⟨b,off,cc,he,hmax⟩
      ·omega
      injection he with e1 e2 e3
      subst e1 e3
      clear e2
      have hki:i<kk.length:=by rw[Hw.out];exact hlt
      have q0:wr.cell? ⟨b,off+i,none⟩=some (.string (kk.getD i ByteArray.empty)):=hr.cell i _ (by rw[List.getElem?_map,List.getElem?_eq_getElem hki,getD_at _ hki];rfl)
      clear hr
      have OZ:=ah (getD_mem ByteArray.empty hki)
      have hkd:gV F (kk.drop i)=oM (kk.getD i ByteArray.empty) (F (kk.getD i ByteArray.empty)) (gV F (kk.drop (i+1))):=by rw[OO hki];rfl
      have Ci:=ah (HDR.out.trans hkd);clear hkd hki
      generalize kk.getD i ByteArray.empty=key at*
      have dH:=ah (show F key=gy hA hB N (ks.find key) (ks'.find key) by rw[HF.out])
      obtain⟨p1,m1,d1,p2,m2,d2,hta,hka⟩:=nP.out key
      obtain⟨p3,m3,d3,p4,m4,d4,htb,hkb⟩:=HKB.out key
      have Hz:=ah hka;clear hka
      have Cj:=ah hkb;clear hkb
      have tN:=ah (fun W (f:aj au w W)=>HIH.out key OZ.out W f _ _ _ _ hta htb)
      clear hta htb
      rw[←dH.out]at tN
      obtain⟨Es,Ks,H_⟩:∃Es Ks,F key=(Es,Ks):=⟨_,_,rfl⟩
      rw[H_]at tN Ci
      clear dH H_
      obtain⟨s0,s1,s2,s3⟩:=bF.out wr jy.out
      have hb0:=World.block_lt_of_cell? _ _ s0
      have hb1:=World.block_lt_of_cell? _ _ s2
      go_wp2_with fail
      go_cut [15] (fun v15 W1=>OQ wr W1 v15 Es Ks)
      case first=>
       have eP:=ah (fun Y (f:aj au wr Y)=>(⟨f,f.cell' s0 id,f.cell' s1 id,f.cell' s2 id,f.cell' s3 id⟩:aj au wr Y∧Y.cell? ⟨w.heap.size,0,none⟩=some (.slice aE n0 cE)∧Y.cell? ⟨w.heap.size,1,none⟩=some (.slice aK n cK)∧Y.cell? ⟨w.heap.size+1,0,none⟩=some (.slice yZ tH zh)∧Y.cell? ⟨w.heap.size+1,1,none⟩=some (.slice tJ m tK)))
       refine gX (S:=fun w'=>aj au wr w'∧w'.cell? ⟨w.heap.size,0,none⟩=some (.slice aE n0 cE)∧w'.cell? ⟨w.heap.size,1,none⟩=some (.slice aK n cK)∧w'.cell? ⟨w.heap.size+1,0,none⟩=some (.slice yZ tH zh)∧w'.cell? ⟨w.heap.size+1,1,none⟩=some (.slice tJ m tK)) 10 (by kernel_rfl) (eP.out _ (aj.drew _ _)) ?_
       intro hS
       clear s0 s1 s2 s3 q0 hb0 hb1
       generalize wr.drew=Y at*
       refine aT 0 50 rfl rfl (v:=?_) (.inl ⟨by rfl,?_⟩) ?_
       rotate_left 1
       ·(intro w hSw;(try dsimp only at hSw);go_simp;(try with_reducible rfl))
       refine aT 1 51 rfl rfl (v:=?_) (.inl ⟨by rfl,?_⟩) ?_
       rotate_left 1
       ·(intro w hSw;(try dsimp only at hSw);go_simp;(try with_reducible rfl))
       try simp only[Act.put,aJ,aN,aO]
       refine aT 3 53 rfl rfl (v:=?_) (.inl ⟨by rfl,?_⟩) ?_
       rotate_left 1
       ·(intro w hSw;(try dsimp only at hSw);go_simp;(try with_reducible rfl))
       refine aT 4 54 rfl rfl (v:=?_) (.inl ⟨by rfl,?_⟩) ?_
       rotate_left 1
       ·(intro w hSw;(try dsimp only at hSw);go_simp;(try with_reducible rfl))
       try simp only[Act.put,aJ,aN,aO]
       refine aT 6 56 rfl rfl (v:=?_) (.inl ⟨by rfl,?_⟩) ?_
       rotate_left 1
       ·(intro w hSw;(try dsimp only at hSw);go_simp;(try with_reducible rfl))
       refine aT 7 57 rfl rfl (v:=?_) (.inl ⟨by rfl,?_⟩) ?_
       rotate_left 1
       ·(intro w hSw;(try dsimp only at hSw);go_simp;(try with_reducible rfl))
       try simp only[Act.put,aJ,aN,aO]
       refine tq (i:=2) (j:=9) (by kernel_rfl) rfl rfl (fun K hK=>?_) (fun K hK=>?_)
       ·go_simp
        refine(Hz.out _ (HC.out.aH.ay hS.1)).mono ?_
        rintro e2 Y2 ⟨rfl,hf2⟩
        have hS1:=eP.out Y2 (hS.1.ay hf2)
        try replace hM:=hf2.blk hM id
        refine hK.out _ _ hS1 ?_
        clear hK K hS
        have hS:=hS1
        clear hS1 hf2
        generalize Y2=Y at*
        try simp only[Act.put,aJ,aN,aO]
        refine tq (i:=5) (j:=9) (by kernel_rfl) rfl rfl (fun K hK=>?_) (fun K hK=>?_)
        ·go_simp
         refine(Cj.out _ (HC.out.aH.ay hS.1)).mono ?_
         rintro e5 Y5 ⟨rfl,hf2⟩
         have hS1:=eP.out Y5 (hS.1.ay hf2)
         try replace hM:=hf2.blk hM id
         refine hK.out _ _ hS1 ?_
         clear hK K hS
         have hS:=hS1
         clear hS1 hf2
         generalize Y5=Y at*
         try simp only[Act.put,aJ,aN,aO]
         refine tq (i:=8) (j:=9) (by kernel_rfl) rfl rfl (fun K hK=>?_) (fun K hK=>?_)
         ·go_simp
          refine(tN.out _ (HC.out.aH.ay hS.1)).mono ?_
          rintro e8 Y8 ⟨mP,mQ,rfl,hta,hf3⟩
          obtain⟨a5,c5,rfl⟩:=hta.ents.rd.sl
          obtain⟨zk,hk5,-⟩:=hta.kids
          obtain⟨a6,c6,rfl⟩:=hk5.rd.sl
          clear hk5
          have hS1:=eP.out Y8 (hS.1.ay hf3)
          have hsz:=hS.1.size
          first
           |(have hT:bJ (fun b=>wr.heap.size≤b∧b≠mb) Y8 (.slice a5 Es.length c5) (.slice a6 Ks.len c6) Es Ks:=hta.turn fun b hb hQ=>⟨rfl,by omega,by have:=lt_of_block hM;omega⟩;replace hM:=hf3.blk hM id)
           |(have hT:bJ (fun b=>wr.heap.size≤b) Y8 (.slice a5 Es.length c5) (.slice a6 Ks.len c6) Es Ks:=hta.turn fun b hb hQ=>⟨rfl,by omega⟩)
          refine hK.out _ _ hS1 ?_
          clear hK K hS hta hf3 hsz
          have hS:=hS1
          clear hS1
          generalize Y8=Y at*
          try simp only[Act.put,aJ,aN,aO]
          refine bD (i:=9) (by kernel_rfl) rfl (fun K hK=>?_)
          go_simp
          have hf:aj au Y (Y.alloc (.cells #[.slice none 0 0, .slice none 0 0] 30)):=aj.alloc _ _ _
          have hM:=heap_alloc_new Y (.cells #[.slice none 0 0, .slice none 0 0] 30)
          have hS1:=eP.out _ (hS.1.ay hf)
          obtain⟨mb,hmb⟩:∃mb,Y.heap.size=mb:=⟨_,rfl⟩
          have hmw:wr.heap.size≤mb:=by have:=hS.1.size;omega
          try replace hT:bJ (fun b=>wr.heap.size≤b∧b≠mb) (Y.alloc (.cells #[.slice none 0 0, .slice none 0 0] 30)) (.slice a5 Es.length c5) (.slice a6 Ks.len c6) Es Ks:=hT.turn fun b hb hQ=>⟨Below.heap_alloc _ _ _ hb,hQ,by omega⟩
          rw[hmb]at hM⊢
          refine hK.out _ _ hS1 ?_
          clear hK K hS hf hmb
          have hS:=hS1
          clear hS1
          generalize Y.alloc (.cells #[.slice none 0 0, .slice none 0 0] 30)=Y at*
          try simp only[Act.put,aJ,aN,aO]
          refine fD (by kernel_rfl) (by kernel_rfl) rfl (fun K hK=>?_)
          have z0:=aF hM 0 rfl
          have z1:=aF hM 1 rfl
          have f0:=aY hM 0
          have f1:=aY hM 1
          go_simp
          refine hK.out _ _ ?_
          clear hK K z0 z1 f0 f1
          obtain⟨r0,r1,r2⟩:=res2 hM hS.1 hmw (.slice a5 Es.length c5) (.slice a6 Ks.len c6)
          go_wp2_with fail
          go_meet
          case rel=>exact⟨mb,_,_,_,_,_,_,rfl,r1,hmw,r0,rfl,rfl,hT.turn fun b hb hQ=>⟨r2 b hQ.2,hQ⟩⟩
         ·go_simp
          have hf:aj au Y (Y.alloc (.cells #[.slice none 0 0, .slice none 0 0] 30)):=aj.alloc _ _ _
          have hM:=heap_alloc_new Y (.cells #[.slice none 0 0, .slice none 0 0] 30)
          have hS1:=eP.out _ (hS.1.ay hf)
          obtain⟨mb,hmb⟩:∃mb,Y.heap.size=mb:=⟨_,rfl⟩
          have hmw:wr.heap.size≤mb:=by have:=hS.1.size;omega
          try replace hT:bJ (fun b=>wr.heap.size≤b∧b≠mb) (Y.alloc (.cells #[.slice none 0 0, .slice none 0 0] 30)) (.slice a5 Es.length c5) (.slice a6 Ks.len c6) Es Ks:=hT.turn fun b hb hQ=>⟨Below.heap_alloc _ _ _ hb,hQ,by omega⟩
          rw[hmb]at hM⊢
          refine hK.out _ _ hS1 ?_
          clear hK K hS hf hmb
          have hS:=hS1
          clear hS1
          generalize Y.alloc (.cells #[.slice none 0 0, .slice none 0 0] 30)=Y at*
          try simp only[Act.put,aJ,aN,aO]
          refine bD (i:=8) (by kernel_rfl) rfl (fun K hK=>?_)
          go_simp
          refine(tN.out _ (HC.out.aH.ay hS.1)).mono ?_
          rintro e8 Y8 ⟨mP,mQ,rfl,hta,hf3⟩
          obtain⟨a5,c5,rfl⟩:=hta.ents.rd.sl
          obtain⟨zk,hk5,-⟩:=hta.kids
          obtain⟨a6,c6,rfl⟩:=hk5.rd.sl
          clear hk5
          have hS1:=eP.out Y8 (hS.1.ay hf3)
          have hsz:=hS.1.size
          first
           |(have hT:bJ (fun b=>wr.heap.size≤b∧b≠mb) Y8 (.slice a5 Es.length c5) (.slice a6 Ks.len c6) Es Ks:=hta.turn fun b hb hQ=>⟨rfl,by omega,by have:=lt_of_block hM;omega⟩;replace hM:=hf3.blk hM id)
           |(have hT:bJ (fun b=>wr.heap.size≤b) Y8 (.slice a5 Es.length c5) (.slice a6 Ks.len c6) Es Ks:=hta.turn fun b hb hQ=>⟨rfl,by omega⟩)
          refine hK.out _ _ hS1 ?_
          clear hK K hS hta hf3 hsz
          have hS:=hS1
          clear hS1
          generalize Y8=Y at*
          try simp only[Act.put,aJ,aN,aO]
          refine fD (by kernel_rfl) (by kernel_rfl) rfl (fun K hK=>?_)
          have z0:=aF hM 0 rfl
          have z1:=aF hM 1 rfl
          have f0:=aY hM 0
          have f1:=aY hM 1
          go_simp
          refine hK.out _ _ ?_
          clear hK K z0 z1 f0 f1
          obtain⟨r0,r1,r2⟩:=res2 hM hS.1 hmw (.slice a5 Es.length c5) (.slice a6 Ks.len c6)
          go_wp2_with fail
          go_meet
          case rel=>exact⟨mb,_,_,_,_,_,_,rfl,r1,hmw,r0,rfl,rfl,hT.turn fun b hb hQ=>⟨r2 b hQ.2,hQ⟩⟩
        ·go_simp
         have hf:aj au Y (Y.alloc (.cells #[.slice none 0 0, .slice none 0 0] 30)):=aj.alloc _ _ _
         have hM:=heap_alloc_new Y (.cells #[.slice none 0 0, .slice none 0 0] 30)
         have hS1:=eP.out _ (hS.1.ay hf)
         obtain⟨mb,hmb⟩:∃mb,Y.heap.size=mb:=⟨_,rfl⟩
         have hmw:wr.heap.size≤mb:=by have:=hS.1.size;omega
         try replace hT:bJ (fun b=>wr.heap.size≤b∧b≠mb) (Y.alloc (.cells #[.slice none 0 0, .slice none 0 0] 30)) (.slice a5 Es.length c5) (.slice a6 Ks.len c6) Es Ks:=hT.turn fun b hb hQ=>⟨Below.heap_alloc _ _ _ hb,hQ,by omega⟩
         rw[hmb]at hM⊢
         refine hK.out _ _ hS1 ?_
         clear hK K hS hf hmb
         have hS:=hS1
         clear hS1
         generalize Y.alloc (.cells #[.slice none 0 0, .slice none 0 0] 30)=Y at*
         try simp only[Act.put,aJ,aN,aO]
         refine bD (i:=5) (by kernel_rfl) rfl (fun K hK=>?_)
         go_simp
         refine(Cj.out _ (HC.out.aH.ay hS.1)).mono ?_
         rintro e5 Y5 ⟨rfl,hf2⟩
         have hS1:=eP.out Y5 (hS.1.ay hf2)
         try replace hM:=hf2.blk hM id
         refine hK.out _ _ hS1 ?_
         clear hK K hS
         have hS:=hS1
         clear hS1 hf2
         generalize Y5=Y at*
         try simp only[Act.put,aJ,aN,aO]
         refine bD (i:=8) (by kernel_rfl) rfl (fun K hK=>?_)
         go_simp
         refine(tN.out _ (HC.out.aH.ay hS.1)).mono ?_
         rintro e8 Y8 ⟨mP,mQ,rfl,hta,hf3⟩
         obtain⟨a5,c5,rfl⟩:=hta.ents.rd.sl
         obtain⟨zk,hk5,-⟩:=hta.kids
         obtain⟨a6,c6,rfl⟩:=hk5.rd.sl
         clear hk5
         have hS1:=eP.out Y8 (hS.1.ay hf3)
         have hsz:=hS.1.size
         first
          |(have hT:bJ (fun b=>wr.heap.size≤b∧b≠mb) Y8 (.slice a5 Es.length c5) (.slice a6 Ks.len c6) Es Ks:=hta.turn fun b hb hQ=>⟨rfl,by omega,by have:=lt_of_block hM;omega⟩;replace hM:=hf3.blk hM id)
          |(have hT:bJ (fun b=>wr.heap.size≤b) Y8 (.slice a5 Es.length c5) (.slice a6 Ks.len c6) Es Ks:=hta.turn fun b hb hQ=>⟨rfl,by omega⟩)
         refine hK.out _ _ hS1 ?_
         clear hK K hS hta hf3 hsz
         have hS:=hS1
         clear hS1
         generalize Y8=Y at*
         try simp only[Act.put,aJ,aN,aO]
         refine fD (by kernel_rfl) (by kernel_rfl) rfl (fun K hK=>?_)
         have z0:=aF hM 0 rfl
         have z1:=aF hM 1 rfl
         have f0:=aY hM 0
         have f1:=aY hM 1
         go_simp
         refine hK.out _ _ ?_
         clear hK K z0 z1 f0 f1
         obtain⟨r0,r1,r2⟩:=res2 hM hS.1 hmw (.slice a5 Es.length c5) (.slice a6 Ks.len c6)
         go_wp2_with fail
         go_meet
         case rel=>exact⟨mb,_,_,_,_,_,_,rfl,r1,hmw,r0,rfl,rfl,hT.turn fun b hb hQ=>⟨r2 b hQ.2,hQ⟩⟩
       ·go_simp
        have hf:aj au Y (Y.alloc (.cells #[.slice none 0 0, .slice none 0 0] 30)):=aj.alloc _ _ _
        have hM:=heap_alloc_new Y (.cells #[.slice none 0 0, .slice none 0 0] 30)
        have hS1:=eP.out _ (hS.1.ay hf)
        obtain⟨mb,hmb⟩:∃mb,Y.heap.size=mb:=⟨_,rfl⟩
        have hmw:wr.heap.size≤mb:=by have:=hS.1.size;omega
        try replace hT:bJ (fun b=>wr.heap.size≤b∧b≠mb) (Y.alloc (.cells #[.slice none 0 0, .slice none 0 0] 30)) (.slice a5 Es.length c5) (.slice a6 Ks.len c6) Es Ks:=hT.turn fun b hb hQ=>⟨Below.heap_alloc _ _ _ hb,hQ,by omega⟩
        rw[hmb]at hM⊢
        refine hK.out _ _ hS1 ?_
        clear hK K hS hf hmb
        have hS:=hS1
        clear hS1
        generalize Y.alloc (.cells #[.slice none 0 0, .slice none 0 0] 30)=Y at*
        try simp only[Act.put,aJ,aN,aO]
        refine bD (i:=2) (by kernel_rfl) rfl (fun K hK=>?_)
        go_simp
        refine(Hz.out _ (HC.out.aH.ay hS.1)).mono ?_
        rintro e2 Y2 ⟨rfl,hf2⟩
        have hS1:=eP.out Y2 (hS.1.ay hf2)
        try replace hM:=hf2.blk hM id
        refine hK.out _ _ hS1 ?_
        clear hK K hS
        have hS:=hS1
        clear hS1 hf2
        generalize Y2=Y at*
        try simp only[Act.put,aJ,aN,aO]
        refine bD (i:=5) (by kernel_rfl) rfl (fun K hK=>?_)
        go_simp
        refine(Cj.out _ (HC.out.aH.ay hS.1)).mono ?_
        rintro e5 Y5 ⟨rfl,hf2⟩
        have hS1:=eP.out Y5 (hS.1.ay hf2)
        try replace hM:=hf2.blk hM id
        refine hK.out _ _ hS1 ?_
        clear hK K hS
        have hS:=hS1
        clear hS1 hf2
        generalize Y5=Y at*
        try simp only[Act.put,aJ,aN,aO]
        refine bD (i:=8) (by kernel_rfl) rfl (fun K hK=>?_)
        go_simp
        refine(tN.out _ (HC.out.aH.ay hS.1)).mono ?_
        rintro e8 Y8 ⟨mP,mQ,rfl,hta,hf3⟩
        obtain⟨a5,c5,rfl⟩:=hta.ents.rd.sl
        obtain⟨zk,hk5,-⟩:=hta.kids
        obtain⟨a6,c6,rfl⟩:=hk5.rd.sl
        clear hk5
        have hS1:=eP.out Y8 (hS.1.ay hf3)
        have hsz:=hS.1.size
        first
         |(have hT:bJ (fun b=>wr.heap.size≤b∧b≠mb) Y8 (.slice a5 Es.length c5) (.slice a6 Ks.len c6) Es Ks:=hta.turn fun b hb hQ=>⟨rfl,by omega,by have:=lt_of_block hM;omega⟩;replace hM:=hf3.blk hM id)
         |(have hT:bJ (fun b=>wr.heap.size≤b) Y8 (.slice a5 Es.length c5) (.slice a6 Ks.len c6) Es Ks:=hta.turn fun b hb hQ=>⟨rfl,by omega⟩)
        refine hK.out _ _ hS1 ?_
        clear hK K hS hta hf3 hsz
        have hS:=hS1
        clear hS1
        generalize Y8=Y at*
        try simp only[Act.put,aJ,aN,aO]
        refine fD (by kernel_rfl) (by kernel_rfl) rfl (fun K hK=>?_)
        have z0:=aF hM 0 rfl
        have z1:=aF hM 1 rfl
        have f0:=aY hM 0
        have f1:=aY hM 1
        go_simp
        refine hK.out _ _ ?_
        clear hK K z0 z1 f0 f1
        obtain⟨r0,r1,r2⟩:=res2 hM hS.1 hmw (.slice a5 Es.length c5) (.slice a6 Ks.len c6)
        go_wp2_with fail
        go_meet
        case rel=>exact⟨mb,_,_,_,_,_,_,rfl,r1,hmw,r0,rfl,rfl,hT.turn fun b hb hQ=>⟨r2 b hQ.2,hQ⟩⟩
      case rest=>
       obtain⟨mb,a5,n5,c5,a6,n6,c6,rfl,hf1,hmb,hM,rfl,rfl,hT⟩:=hcut
       have Ia:=ah (HC.out.keep hf1)
       have Cm:=ah (jy.out.ay hf1)
       clear s0 s1 s2 s3 q0 hb0 hb1
       have HM:=ah hM;clear hM
       have HT:=ah hT;clear hT
       have Sr:=ah hmb;clear hmb
       have dN:=ah hf1;clear hf1
       have jo:=ah (fun W=>(show Calls Tryz.prog 200 #[.agg #[.slice a5 Es.length c5, .slice a6 Ks.len c6]] W fun e w'=>e= .returned (.bool (isNil Es Ks))∧aj au W w' from empty_any a5 a6 Es.length Ks.len c5 c6 W))
       have x0:=aF HM.out 0 rfl
       have x1:=aF HM.out 1 rfl
       have hml:=lt_of_block HM.out
       obtain⟨wv,rfl⟩:∃w5,w5=wc:=⟨_,rfl⟩
       have Sv:=ah (rfl:isNil Es Ks=isNil Es Ks)
       cases hn:isNil Es Ks with
       |true=>
        have qY:=ah (Ci.out.trans (show oM key (Es,Ks) (gV F (kk.drop (i+1)))=gV F (kk.drop (i+1)) by unfold oM;rw[if_pos hn]))
        rw[hn]at jo
        clear hn
        go_wp2_with(go_at_call 200;refine(jo.out _).mono ?_;rintro e w7 ⟨rfl,hw7⟩;have nR:=ah hw7;clear hw7)
        go_roundw
        case rel=>exact⟨i+1,l,_,by omega,by go_num,by rw[HP.out];exact Ia.out.keep nR.out,by rw[HP.out];exact qY.out,Cm.out.ay nR.out,Ce.out,by rw[HP.out];omega⟩
        case measure=>simp[intOf];omega
       |false=>
        have qY:=ah (Ci.out.trans (show oM key (Es,Ks) (gV F (kk.drop (i+1)))= .cons key Es Ks (gV F (kk.drop (i+1))) by unfold oM;rw[if_neg (by rw[hn];simp)]))
        rw[hn]at jo
        clear hn
        generalize hel:Es.length=n5 at*
        generalize hkl:Ks.len=n6 at*
        have Sz:p≤8000:=by omega
        go_wp2_with(first
         |(go_at_call 200;refine(jo.out _).mono ?_;rintro e w7 ⟨rfl,hw7⟩;have nR:=ah hw7;clear hw7 x0 x1;have kF:=ah (Ia.out.keep nR.out);have x0:=aF (nR.out.blk HM.out id) 0 rfl;have x1:=aF (nR.out.blk HM.out id) 1 rfl;have y1:=aF kF.out.b3 1 rfl;have hl3:=lt_of_block kF.out.b3;have SA:=lt_of_block (nR.out.blk HM.out id))
         |(at_builtin;refine Fb (fun b=>b<w7.heap.size∧(Value.slice av p cv).ownBlock≠some b) w w7 [.string key, .slice a5 n5 c5, .slice a6 n6 c6] rfl (.tmp 63) (.tmp 67) 28 rfl 83 j0 _ 3 64 Tryz.underlying28 hj hy0 hy1 hy2 (by decide) (by decide) (.slice av p cv) p _ ⟨kF.out.own.at_,fun b hb hn=>hn.2 hb⟩ (fun b hb=>hb.1) 1 1 rfl (by simp[Act.eval]) rfl (by simp[Value.oneCell']) (by simp only[maxLen];omega) (by omega) ?_;intro ad iP w8 bC fF;have vO:=ah bC;clear bC;have zl:=ah fF;clear fF;clear y1;have hcz:=zl.out.cell (p:=⟨w1.heap.size,1,none⟩) ⟨hl3,fun h=>kF.out.own.but _ h (.inr rfl)⟩ (aF kF.out.b3 1 rfl);have hcf:=zl.out.frozen (p:=⟨w1.heap.size,1,none⟩) ⟨hl3,fun h=>kF.out.own.but _ h (.inr rfl)⟩ (aY kF.out.b3 1)))
        have hfm:aj (iL (.slice av p cv)) w7 w8:=⟨vO.out.at_.aH.os.trans kF.out.aH.os.symm,vO.out.at_.aH.tape.trans kF.out.aH.tape.symm,vO.out.at_.aH.output.trans kF.out.aH.output.symm,zl.out.1,fun b hb hn=>zl.out.2 b ⟨hb,hn⟩⟩
        have CB:kK w7 (.slice av p cv) (.slice ad (p+1) iP):=fun b hb=>by
         by_cases h1:(Value.slice av p cv).ownBlock=some b
         ·exact .inl h1
         ·refine .inr ?_
          have:=vO.out.but b hb
          rcases Nat.lt_or_ge b w7.heap.size with h2|h2
          ·exact absurd ⟨h2,h1⟩ this
          ·exact h2
        have hq3:bJ (qc w (w.heap.size+1+1) w1.heap.size (.slice av p cv)) w7 (.slice a5 n5 c5) (.slice a6 n6 c6) Es Ks:=(HT.out.aP nR.out).turn fun b hb hQ=>by
         have g1:=HC.out.aH.size
         have g2:=lt_of_block HC.out.b3
         have g3:=lt_of_block HC.out.b2
         refine⟨rfl,by omega,by omega,by omega,fun h=>?_⟩
         have:=HC.out.own.at_.lt b h
         omega
        have qH:=ah (kF.out.step (q:=⟨key,Es,Ks, .slice a5 n5 c5, .slice a6 n6 c6⟩) qY.out hq3 vO.out.at_.own hfm CB)
        have vP:=ah (((Cm.out.ay nR.out).trans hfm (fun b hb h=>absurd hb (by have:=Ce.out b h;omega))).trans (aj.setCell (S:=fun b=>b=w1.heap.size) w8 (p:=⟨w1.heap.size,1,none⟩) (.inl rfl) (.slice ad (p+1) iP)) fun _ _ h=>h)
        have O_:=ah (show zL w4 (.slice ad (p+1) iP)from fun b hb=>by
         rcases CB b hb with h|h
         ·exact Ce.out b h
         ·have:=(Cm.out.ay nR.out).size;omega)
        clear hfm CB hq3
        go_roundw
        case rel=>exact⟨i+1,l++ [⟨key,Es,Ks, .slice a5 n5 c5, .slice a6 n6 c6⟩],_,by omega,by go_num,by rw[List.length_append,HP.out];exact qH.out,by rw[List.length_append,HP.out];exact aI.pU p _ qY.out,vP.out,O_.out,by rw[List.length_append,HP.out];simp;omega⟩
        case measure=>simp[intOf];omega
     ·obtain rfl:K=i:=by omega
      have hdn:(gV F kk).drop p= .nil:=by rw[HDR.out,List.drop_of_length_le (by rw[Hw.out];exact Nat.le_refl _)];rfl
      have hpl:(gV F kk).len≤p:=by
       have:=aI.yB p (gV F kk)
       rw[hdn]at this
       simp only[aI.len]at this
       omega
      have hdn:=HC.out.done jX.out.symm hpl
      have ig:=ah hdn;clear hdn hpl
      have y0:=aF HC.out.b3 0 rfl
      have y1:=aF HC.out.b3 1 rfl
      have z0:=aF HC.out.b2 0 rfl
      have z1:=aF HC.out.b2 1 rfl
      have f0:=aY HC.out.b2 0
      have f1:=aY HC.out.b2 1
      have hl2:=lt_of_block HC.out.b2
      have hl3:=lt_of_block HC.out.b3
      go_wp2
      clear y0 y1 z0 z1
      have y0:=aF ig.out.2.2 0 rfl
      have y1:=aF ig.out.2.2 1 rfl
      exact bodyPost_ret (v:= .agg #[.slice a1 ne c1, .slice av p cv]) (by simp[results,Tryz.results154,go_sem,y0,y1]) rfl ⟨_,_,rfl,ig.out.1,ig.out.2.1⟩
end Go.Proofs.YtabkpccdnkjoiaaGreat
