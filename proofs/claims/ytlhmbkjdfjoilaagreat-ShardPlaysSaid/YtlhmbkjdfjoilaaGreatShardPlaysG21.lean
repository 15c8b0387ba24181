/- Words for the law ShardPlays: Pj3, Pj9, Same1, Sh11. -/
import Derived.Test.YtlhmbkjdfjoilaaGreatShardPlaysG0
import Derived.Test.YtlhmbkjdfjoilaaGreatShardPlaysG11
import Derived.Test.YtlhmbkjdfjoilaaGreatShardPlaysG13
import Derived.Test.YtlhmbkjdfjoilaaGreatShardPlaysG19
import Derived.Test.YtlhmbkjdfjoilaaGreatShardPlaysG20
import Derived.Deep.CutBlock
set_option linter.unusedSimpArgs false
set_option linter.unusedVariables false
set_option maxHeartbeats 32000000
set_option maxRecDepth 1000000
namespace Go.Proofs.YtlhmbkjdfjoilaaGreat
theorem Xz {d:Nat}:∀(ks:aT) (p:Option ByteArray),(∀x∈fE ks,oN x.1=true∧isNil x.2.1 x.2.2=false∧bM d x.2.1 x.2.2=true)→jL ks.keys→(∀s∈ks.keys,ltK p s=true)→jh ks d p=true
 | .nil,_,_,_,_=>rfl
 | .cons key es sub rest,p,h,o,hp=>by
   obtain⟨h1,h2,h3⟩:=h (key,es,sub) (List.mem_cons_self ..)
   obtain⟨o1,o2⟩:=List.pairwise_cons.1 (show(key::rest.keys).Pairwise _ from o)
   have ih:=Xz rest (some key) (fun x hx=>h x (List.mem_cons_of_mem _ hx)) o2 (fun s hs=>o1 s hs)
   rw[qI]
   simp only[Bool.and_eq_true,Bool.not_eq_true']
   exact⟨⟨⟨⟨h1,hp key (List.mem_cons_self ..)⟩,h2⟩,h3⟩,ih⟩
theorem XA {d:Nat}:∀ {ks:aT} {p:Option ByteArray},jh ks d p=true→∀x∈fE ks,oN x.1=true∧isNil x.2.1 x.2.2=false∧bM d x.2.1 x.2.2=true
 | .nil,_,_,x,hx=>by cases hx
 | .cons key es sub rest,p,h,x,hx=>by
   rw[qI]at h
   simp only[Bool.and_eq_true,Bool.not_eq_true']at h
   rcases List.mem_cons.1 hx with rfl|hx
   ·exact⟨h.1.1.1.1,h.1.1.2,h.1.2⟩
   ·exact XA h.2 x hx
structure mG (n:Nat) (l:List bY):Prop where
 len:l.length=n
 good:∀x∈l,Good x
 own:∀j,j<n→bF (bQ n j) (l.getD j dD).1=(l.getD j dD).1
theorem XB {p:ByteArray→Bool} {ks:aT} (h:bF p ks=ks) {s:ByteArray} (hs:s∈ks.keys):p s=true:=by
 rw[←h,Am,List.mem_filter]at hs
 exact hs.2
theorem Ii:∀ks:aT,dM ks=((fE ks).map fun x=>1+x.2.1.length+dM x.2.2).sum
 | .nil=>rfl
 | .cons key es sub rest=>by
   show 1+es.length+dM sub+dM rest=((1+es.length+dM sub)::(fE rest).map fun x=>1+x.2.1.length+dM x.2.2).sum
   rw[List.sum_cons,←Ii rest]
theorem QF {α β:Type} (f:α→List β) (g:β→Nat):∀l:List α,((l.flatMap f).map g).sum=(l.map fun x=>((f x).map g).sum).sum
 |[]=>rfl
 |x::l=>by rw[List.flatMap_cons,List.map_append,List.sum_append,QF f g l];rfl
theorem afk {n:Nat} {l:List bY} (h:mG n l) {ks:aT} (hp:(fE ks).Perm (l.flatMap fun x=>fE x.1)) (hs:(fE ks).Pairwise fun x y=>dL y.1 x.1=false):
 bM 5 [] ks=true∧dM ks=(l.map dQ).sum:=by
 have hnd:((l.flatMap fun x=>fE x.1).map (·.1)).Nodup:=by
  rw[List.map_flatMap]
  unfold List.Nodup
  rw[List.pairwise_flatMap]
  refine⟨fun x hx=>?_,?_⟩
  ·rw[EF];exact VU (ED (h.good x hx))
  ·rw[List.pairwise_iff_getElem]
   intro i j hi hj hij a ha b hb e
   rw[EF]at ha hb
   subst e
   have h1:=h.own i (by rw[←h.len];exact hi)
   have h2:=h.own j (by rw[←h.len];exact hj)
   rw[getD_at _ hi]at h1
   rw[getD_at _ hj]at h2
   have g1:=XB h1 ha
   have g2:=XB h2 hb
   unfold bQ at g1 g2
   rw[decide_eq_true_eq]at g1 g2
   omega
 have QG:((fE ks).map (·.1)).Nodup:=(hp.map (·.1)).nodup_iff.2 hnd
 have ho:jL ks.keys:=by
  rw[←EF]
  unfold jL
  unfold List.Nodup at QG
  rw[List.pairwise_map]at QG⊢
  refine(List.Pairwise.and hs QG).imp fun {x y} g=>?_
  cases hl:dL x.1 y.1 with
  |true=>rfl
  |false=>exact absurd (BR hl g.1) g.2
 refine⟨?_,?_⟩
 ·have hk:jh ks 4 none=true:=by
   refine Xz ks none (fun x hx=>?_) ho fun s _=>rfl
   obtain⟨t,ht,hx⟩:=List.mem_flatMap.1 (hp.mem_iff.1 hx)
   exact XA (oZ (h.good t ht).right.tree).2 x hx
  simp only[bM,Bool.and_eq_true,decide_eq_true_eq]
  exact⟨⟨by omega,rfl⟩,hk⟩
 ·rw[Ii,(hp.map _).sum_nat,QF]
  refine congrArg List.sum (List.map_congr_left fun x _=>?_)
  exact(Ii x.1).symm
theorem afl {l:List bY} {ks:aT} (hp:(fE ks).Perm (l.flatMap fun x=>fE x.1)):(pz l).Perm (dI [] ks):=by
 have e:pz l=(l.flatMap fun x=>fE x.1).flatMap Ih:=by
  unfold pz
  rw[List.flatMap_assoc]
  refine congrArg List.flatten (List.map_congr_left fun x _=>?_)
  exact QE x.1
 rw[e,show dI [] ks=(fE ks).flatMap Ih from QE ks]
 exact(hp.flatMap_right _).symm
end Go.Proofs.YtlhmbkjdfjoilaaGreat
namespace Go.Proofs.YtlhmbkjdfjoilaaGreat
def Lj:List wH→aT
 |[]=> .nil
 |x::l=> .cons x.1 x.2.1 x.2.2 (Lj l)
theorem QH:∀l:List wH,fE (Lj l)=l
 |[]=>rfl
 |x::l=>by show(x.1,x.2.1,x.2.2)::fE (Lj l)=_;rw[QH l]
theorem afm {a b c:ByteArray} (h1:dL b a=false) (h2:dL c b=false):dL c a=false:=by
 cases h:dL c a with
 |false=>rfl
 |true=>
  cases h3:dL a b with
  |true=>
   have:=uY h h3
   rw[h2]at this
   cases this
  |false=>
   have:=BR h3 h1
   subst this
   rw[h2]at h
   cases h
theorem afn (l:List wH):∃ks,(fE ks).Perm l∧(fE ks).Pairwise fun x y=>dL y.1 x.1=false:=by
 refine⟨Lj (l.mergeSort fun x y=> !(dL y.1 x.1)),?_,?_⟩
 ·rw[QH]
  exact List.mergeSort_perm _ _
 ·rw[QH]
  have:=List.pairwise_mergeSort (le:=fun x y:wH=> !(dL y.1 x.1)) (fun a b c h1 h2=>by
   simp only[Bool.not_eq_true']at h1 h2⊢
   exact afm h1 h2) (fun a b=>by
   cases h:dL b.1 a.1 with
   |false=>simp
   |true=>simp[OO h]) l
  exact this.imp fun {x y} h=>by simpa using h
theorem afo {n:Nat} {l:List bY} (h:mG n l):∃ks,bM 5 [] ks=true∧dM ks=(l.map dQ).sum∧(pz l).Perm (dI [] ks)∧∀ks',(fE ks').Perm (l.flatMap fun x=>fE x.1)→(fE ks').Pairwise (fun x y=>dL y.1 x.1=false)→ks'=ks:=by
 obtain⟨ks,h1,h2⟩:=afn (l.flatMap fun x=>fE x.1)
 obtain⟨r1,r2⟩:=afk h h1 h2
 refine⟨ks,r1,r2,afl h1,fun ks' g1 g2=>?_⟩
 exact Xe (qO _ _ _ (oZ r1).2).1 (g1.trans h1.symm) g2
open Go.RowKit
theorem afp (w:World) (va vb:Value) (a b:bD) (ha:je w va a) (hb:je w vb b) (ra:eP a) (rb:eP b) (la:a.length≤20000) (lb:b.length≤20000):
 Calls Tryz.prog 73 #[va,vb] w fun e w'=>e= .returned (.bool (tf (a=b)))∧aj aF w w':=by
 obtain⟨aA,cA,rfl⟩:=ha.sl
 obtain⟨aB,cB,rfl⟩:=hb.sl
 have yX:=ah (gu ra▸JY w _ a ha ra.fits (by omega))
 have Ea:=ah (fun W (f:aj aF w W)=>gu rb▸JY W _ b (Rd.aS hb f) rb.fits (by omega))
 have Ae:=ah (fun W (f:aj aF w W)=>ac0 W _ _ a b (Rd.aS ha f) (Rd.aS hb f) (by omega) (by omega))
 have hde:decide (a=b)=tf (a=b):=Dw (by rw[decide_eq_true_iff])
 rw[hde]at Ae
 clear ha hb ra rb la lb hde
 generalize tf (a=b)=y at*
 generalize a.length=n at*
 generalize b.length=m at*
 go_enter Tryz.func73,Tryz.ntmps73
 go_wp2_with(first
  |(go_at_call_of 92 aA;refine yX.out.mono ?_;rintro e w1 ⟨rfl,hw1⟩;have HW1:=ah hw1;clear hw1)
  |(go_at_call_of 92 aB;refine(Ea.out _ HW1.out).mono ?_;rintro e w2 ⟨rfl,hw2⟩;have HW2:=ah (HW1.out.aH hw2);clear hw2)
  |(go_at_call 96;refine(Ae.out _ HW2.out).mono ?_;rintro e w3 ⟨rfl,hw3⟩;have HW3:=ah (HW2.out.aH hw3);clear hw3))
 go_ret
 exact⟨rfl,HW3.out⟩
theorem afq (Q Q':Nat→Prop) (es:List aQ) (ks:aT) (es':List aQ) (ks':aT) (w:World) (ev kv ev' kv':Value) (ht:bZ Q w ev kv es ks) (hok:lF es ks) (hr:bM 5 es ks=true) (hs:sizeT es ks≤4000)
 (ht':bZ Q' w ev' kv' es' ks') (hok':lF es' ks') (hr':bM 5 es' ks'=true) (hs':sizeT es' ks'≤4000):
 Calls Tryz.prog 72 #[.agg #[ev,kv], .agg #[ev',kv']] w fun e w'=>e= .returned (.bool (tf (es=es'∧ks=ks')))∧aj aF w w':=by
 have HA:=ah (fun W (f:aj aF w W)=>hr▸GI Q es ks W _ _ (ht.aS f) hok)
 have HB:=ah (fun W (f:aj aF w W)=>hr'▸GI Q' es' ks' W _ _ (ht'.aS f) hok')
 have HS:=ah (fun W (f:aj aF w W)=>ac6 Q Q' _ es ks es' ks' W _ _ _ _ (Nat.lt_succ_self _) (ht.aS f) (ht'.aS f) (by omega) (by omega))
 obtain⟨ae,ce,rfl⟩:=ht.ents.rd.sl
 obtain⟨os,hkr,-⟩:=ht.kids
 obtain⟨ak,ck,rfl⟩:=hkr.rd.sl
 obtain⟨gZ,g_,rfl⟩:=ht'.ents.rd.sl
 obtain⟨os',ji,-⟩:=ht'.kids
 obtain⟨h_,ig,rfl⟩:=ji.rd.sl
 clear hkr ji ht ht' hok hok' hr hr' hs hs'
 generalize tf (es=es'∧ks=ks')=y at*
 generalize es.length=n at*
 generalize ks.len=m at*
 generalize es'.length=n' at*
 generalize ks'.len=m' at*
 have b_:=ah ((aj.alloc aF w (.cells #[.slice ae n ce, .slice ak m ck] 28)).alloc1 (o:= .cells #[.slice gZ n' g_, .slice h_ m' ig] 28))
 have bW:=ah (Px w (.slice ae n ce) (.slice ak m ck) (.slice gZ n' g_) (.slice h_ m' ig) 28)
 go_enter Tryz.func72,Tryz.ntmps72
 go_wp2_with(first
  |(go_at_call 95;refine(HS.out _ (b_.out.aH HW2.out)).mono ?_;rintro e w3 ⟨rfl,hw3⟩;have HW3:=ah ((b_.out.aH HW2.out).aH hw3);clear hw3)
  |(go_at_call 89;first
   |(refine(HB.out _ (b_.out.aH HW1.out)).mono ?_;rintro e w2 ⟨rfl,hw2⟩;clear y0 y1 y2 y3;obtain⟨y0,y1,y2,y3⟩:=bW.out w2 (HW1.out.aH hw2);have HW2:=ah (HW1.out.aH hw2);clear hw2)
   |(refine(HA.out _ b_.out).mono ?_;rintro e w1 ⟨rfl,hw1⟩;obtain⟨y0,y1,y2,y3⟩:=bW.out w1 hw1;have HW1:=ah hw1;clear hw1)))
 go_ret
 exact⟨rfl,HW3.out⟩
theorem XC (Q Q':Nat→Prop) (es:List aQ) (ks:aT) (c:bD) (es':List aQ) (ks':aT) (c':bD) (w:World) (ev kv cv ev' kv' jI:Value) (h:dU Q w ev kv cv es ks c) (hok:iD es ks c) (h':dU Q' w ev' kv' jI es' ks' c') (hok':iD es' ks' c'):
 Calls Tryz.prog 43 #[.agg #[ev,kv,cv], .agg #[ev',kv',jI]] w fun e w'=>e= .returned (.bool (tf (jA es ks c∧jA es' ks' c'∧(es=es'∧ks=ks')∧c=c')))∧aj aF w w':=by
 obtain⟨a0,c0,a1,c1,a2,c2,rfl,rfl,rfl⟩:=h.shape
 obtain⟨b0,d0,b1,d1,b2,d2,rfl,rfl,rfl⟩:=h'.shape
 have HA:=ah (fun W (f:aj aF w W)=>xQ Q es ks c W _ _ _ (h.aS f) hok)
 have HB:=ah (fun W (f:aj aF w W)=>xQ Q' es' ks' c' W _ _ _ (h'.aS f) hok')
 have HT:=ah (fun W (f:aj aF w W) r r'=>afq Q Q' es ks es' ks' W _ _ _ _ (h.tree.aS f) hok.tree r (Nat.le_trans hok.small (by decide)) (h'.tree.aS f) hok'.tree r' (Nat.le_trans hok'.small (by decide)))
 have HC:=ah (fun W (f:aj aF w W) r r'=>afp W _ _ c c' (Rd.aS h.ctx f) (Rd.aS h'.ctx f) r r' (Nat.le_trans hok.len (by decide)) (Nat.le_trans hok'.len (by decide)))
 clear h hok h' hok'
 by_cases r1:jA es ks c
 rotate_left 1
 ·rw[eH r1]at HA
  rw[eH fun h=>r1 h.1]
  clear r1 HB HT HC
  generalize es.length=n at*
  generalize ks.len=m at*
  generalize c.length=k at*
  generalize es'.length=n' at*
  generalize ks'.len=m' at*
  generalize c'.length=k' at*
  have b_:=ah ((aj.alloc aF w (.cells #[.slice a0 n c0, .slice a1 m c1, .slice a2 k c2] 32)).alloc1 (o:= .cells #[.slice b0 n' d0, .slice b1 m' d1, .slice b2 k' d2] 32))
  have bW:=ah (Eo w (.slice a0 n c0) (.slice a1 m c1) (.slice a2 k c2) (.slice b0 n' d0) (.slice b1 m' d1) (.slice b2 k' d2) 32)
  go_enter Tryz.func43,Tryz.ntmps43
  go_wp2_with(first
   |(go_at_call 40;refine(HA.out _ b_.out).mono ?_;rintro e w1 ⟨rfl,hw1⟩;obtain⟨y0,y1,y2,y3,y4,y5⟩:=bW.out w1 hw1;have HW1:=ah hw1;clear hw1))
  go_ret
  exact⟨rfl,b_.out.aH HW1.out⟩
 by_cases r2:jA es' ks' c'
 rotate_left 1
 ·rw[gu r1]at HA
  rw[eH r2]at HB
  rw[eH fun h=>r2 h.2.1]
  clear r1 r2 HT HC
  generalize es.length=n at*
  generalize ks.len=m at*
  generalize c.length=k at*
  generalize es'.length=n' at*
  generalize ks'.len=m' at*
  generalize c'.length=k' at*
  have b_:=ah ((aj.alloc aF w (.cells #[.slice a0 n c0, .slice a1 m c1, .slice a2 k c2] 32)).alloc1 (o:= .cells #[.slice b0 n' d0, .slice b1 m' d1, .slice b2 k' d2] 32))
  have bW:=ah (Eo w (.slice a0 n c0) (.slice a1 m c1) (.slice a2 k c2) (.slice b0 n' d0) (.slice b1 m' d1) (.slice b2 k' d2) 32)
  go_enter Tryz.func43,Tryz.ntmps43
  go_wp2_with(first
   |(go_at_call 40;first|(refine(HB.out _ (b_.out.aH HW1.out)).mono ?_;rintro e w2 ⟨rfl,hw2⟩;clear y0 y1 y2 y3 y4 y5;obtain⟨y0,y1,y2,y3,y4,y5⟩:=bW.out w2 (HW1.out.aH hw2);have HW2:=ah (HW1.out.aH hw2);clear hw2)|(refine(HA.out _ b_.out).mono ?_;rintro e w1 ⟨rfl,hw1⟩;obtain⟨y0,y1,y2,y3,y4,y5⟩:=bW.out w1 hw1;have HW1:=ah hw1;clear hw1)))
  go_ret
  exact⟨rfl,b_.out.aH HW2.out⟩
 rw[gu r1]at HA
 rw[gu r2]at HB
 have HT:=ah (fun W f=>HT.out W f r1.tree r2.tree)
 have HC:=ah (fun W f=>HC.out W f r1.ctx r2.ctx)
 by_cases r3:es=es'∧ks=ks'
 rotate_left 1
 ·rw[eH r3]at HT
  rw[eH fun h=>r3 h.2.2.1]
  clear r1 r2 r3 HC
  generalize es.length=n at*
  generalize ks.len=m at*
  generalize c.length=k at*
  generalize es'.length=n' at*
  generalize ks'.len=m' at*
  generalize c'.length=k' at*
  have b_:=ah ((aj.alloc aF w (.cells #[.slice a0 n c0, .slice a1 m c1, .slice a2 k c2] 32)).alloc1 (o:= .cells #[.slice b0 n' d0, .slice b1 m' d1, .slice b2 k' d2] 32))
  have bW:=ah (Eo w (.slice a0 n c0) (.slice a1 m c1) (.slice a2 k c2) (.slice b0 n' d0) (.slice b1 m' d1) (.slice b2 k' d2) 32)
  go_enter Tryz.func43,Tryz.ntmps43
  go_wp2_with(first
   |(go_at_call 40;first|(refine(HB.out _ (b_.out.aH HW1.out)).mono ?_;rintro e w2 ⟨rfl,hw2⟩;clear y0 y1 y2 y3 y4 y5;obtain⟨y0,y1,y2,y3,y4,y5⟩:=bW.out w2 (HW1.out.aH hw2);have HW2:=ah (HW1.out.aH hw2);clear hw2)|(refine(HA.out _ b_.out).mono ?_;rintro e w1 ⟨rfl,hw1⟩;obtain⟨y0,y1,y2,y3,y4,y5⟩:=bW.out w1 hw1;have HW1:=ah hw1;clear hw1))
   |(go_at_call 72;refine(HT.out _ (b_.out.aH HW2.out)).mono ?_;rintro e w3 ⟨rfl,hw3⟩;clear y0 y1 y2 y3 y4 y5;obtain⟨y0,y1,y2,y3,y4,y5⟩:=bW.out w3 (HW2.out.aH hw3);have HW3:=ah (HW2.out.aH hw3);clear hw3))
  go_ret
  exact⟨rfl,b_.out.aH HW3.out⟩
 rw[gu r3]at HT
 have hall:tf (jA es ks c∧jA es' ks' c'∧(es=es'∧ks=ks')∧c=c')=tf (c=c'):=Dv ⟨fun h=>h.2.2.2,fun h=>⟨r1,r2,r3,h⟩⟩
 rw[hall]
 clear hall r1 r2 r3
 generalize tf (c=c')=y at*
 generalize es.length=n at*
 generalize ks.len=m at*
 generalize c.length=k at*
 generalize es'.length=n' at*
 generalize ks'.len=m' at*
 generalize c'.length=k' at*
 have b_:=ah ((aj.alloc aF w (.cells #[.slice a0 n c0, .slice a1 m c1, .slice a2 k c2] 32)).alloc1 (o:= .cells #[.slice b0 n' d0, .slice b1 m' d1, .slice b2 k' d2] 32))
 have bW:=ah (Eo w (.slice a0 n c0) (.slice a1 m c1) (.slice a2 k c2) (.slice b0 n' d0) (.slice b1 m' d1) (.slice b2 k' d2) 32)
 go_enter Tryz.func43,Tryz.ntmps43
 go_wp2_with(first
  |(go_at_call 40;first|(refine(HB.out _ (b_.out.aH HW1.out)).mono ?_;rintro e w2 ⟨rfl,hw2⟩;clear y0 y1 y2 y3 y4 y5;obtain⟨y0,y1,y2,y3,y4,y5⟩:=bW.out w2 (HW1.out.aH hw2);have HW2:=ah (HW1.out.aH hw2);clear hw2)|(refine(HA.out _ b_.out).mono ?_;rintro e w1 ⟨rfl,hw1⟩;obtain⟨y0,y1,y2,y3,y4,y5⟩:=bW.out w1 hw1;have HW1:=ah hw1;clear hw1))
  |(go_at_call 72;refine(HT.out _ (b_.out.aH HW2.out)).mono ?_;rintro e w3 ⟨rfl,hw3⟩;clear y0 y1 y2 y3 y4 y5;obtain⟨y0,y1,y2,y3,y4,y5⟩:=bW.out w3 (HW2.out.aH hw3);have HW3:=ah (HW2.out.aH hw3);clear hw3)
  |(go_at_call 73;refine(HC.out _ (b_.out.aH HW3.out)).mono ?_;rintro e w4 ⟨rfl,hw4⟩;have QI:=ah (HW3.out.aH hw4);clear hw4))
 go_ret
 exact⟨rfl,b_.out.aH QI.out⟩
open Go.RowKit
theorem qU {P:World→Prop} (w:World) (cs:Array Value) (t:TypeId) (h:∀w',aj aF w w'→w'.heap[w.heap.size]?=some (.cells cs t (0,0))→w'.heap.size=w.heap.size+1→P w'):P (w.alloc (.cells cs t)):=
 h _ (aj.alloc _ _ _) (heap_alloc_new w _) (by simp)
theorem EM {P:Program} {ops:Array Oper} {o:Oper} {a:Act} (w:World) {K:Act→World→Prop} {Q:Exit→Act→World→Prop} {E:Prop} (b:Nat) (news:List Value) (hgd:o.guard=none) (s x:Operand) (t:TypeId)
 (ho:o.op= .call {callee:= .builtin .append,args:= #[s,x],argTypes:= #[t,t]})
 (e:TypeId) (i:TypeInfo) (z:Value) (size bytes:Nat) (ht:P.underlying t=some (.slice e)) (hi:P.info? e=some i) (hz:i.zero=some z)
 (hsize:i.size=size) (hby:i.bytes=bytes) (hzs:z.cells.size=size) (hsz:0<size)
 (v:Value) (n:Nat) (xs:List Value) (hown:w.ownsRow 0 e size v n xs) (m c:Nat) (hv:a.eval s=v) (hx:a.eval x= .slice (some ⟨b,0,none⟩) m c)
 (hb:w.heap[b]?=some (.cells news.toArray e (0,0)))
 (hnl:news.length=m*size) (h1:∀u∈news,u.oneCell'=true) (h63:n+m≤maxLen) (hbytes:(n+m)*bytes≤140737488355328)
 (h:∀ad c w',w'.ownsRow 0 e size (.slice ad (n+m) c) (n+m) (xs++news)→aj (eG v) w w'→lN w v (.slice ad (n+m) c)→K (a.put o.dst (.slice ad (n+m) c)) w'):
 if Region.wanted o (yielded ops a.tmps)=true then Oper.wp P o a w K Q else E:=by
 have hw:Region.wanted o (yielded ops a.tmps)=true:=by simp[Region.wanted,hgd]
 rw[if_pos hw]
 have hs:Src P size t (.slice (some ⟨b,0,none⟩) m c) m news w:=
  Src.ofSlice _ ht ⟨b,0,none⟩ m c news hnl (fun j u hj=>by
   have hadd:(⟨b,0,none⟩:Addr).add j=⟨b,j,none⟩:=by unfold Addr.add;split<;>simp_all
   rw[hadd,cell_of_row w b j news.toArray e (0,0) hb]
   simpa using hj) h1
 obtain⟨v',w',hr,h2,h3,h4,⟨ad,c',rfl⟩,h6⟩:=Dp (P:=P) w t t o.type e i z size bytes ht hi hz hsize hby hzs hsz v n xs hown _ m news hs h63 hbytes
 unfold Oper.wp execOp
 simp only[ho,resolve,invoke,builtin,Sem.run_bind,Sem.run_pure,Result.andThen_ok,List.map_toArray,List.map_cons,List.map_nil,hv,hx,hr]
 exact h ad c' w' h2 h3 h4
theorem afr:(Tryz.prog.info? 86).map (fun i=>(i.zero,i.size,i.bytes))=some (some (.agg #[.int .i64 0, .slice none 0 0, .slice none 0 0]),3,56):=by kernel_rfl
theorem XD {L:Nat→Prop} {pb ib x:Nat} {sv sv':Value} {w1:World} (hx:¬L x) (h1:x<pb) (h2:x<ib) (hs:∀k,sv.ownBlock=some k→L k) (fs:lN w1 sv sv') (h3:x<w1.heap.size):¬grown L pb ib sv' x:=fun e=>by
 rcases e with e|e|e|e
 ·exact hx e
 ·omega
 ·omega
 ·rcases fs _ e with s|s
  ·exact hx (hs _ s)
  ·omega
theorem XE {l:List Bool} {k:Nat} (h:k<l.length):(fJ l).toArray[k]?=some (.bool (l.getD k false)):=by
 unfold fJ
 rw[getD_at false h]
 simp[h]
section
variable {L:Nat→Prop} {w:World} {b n vb:Nat} {sv:Value} {vs:List aU} {rs:List bC}
theorem QJ (h:dW L w b n vb sv vs rs) (bf:Int) (k:Nat) (hk:k<n) (ks:aT) (c:bD) (ev kv cv:Value) (ha:eF (fun k=>¬L k) w ⟨[],ks,c,ev,kv,cv⟩) (hg:Good (ks,c)) (hcut:bF (bQ n k) ks=ks):
 Calls Tryz.prog 18 #[.pointer (some ⟨b,0,none⟩), .int .i64 bf, .int .i64 k, .agg #[ev,kv,cv]] w fun e w'=>e= .returned (.int .i64 (mD n bf k (ks,c) (rs.map bC.con)).1)∧
  ∃L' sv' rs',Turned L w L' w'∧dW L' w' b n vb sv' vs rs'∧rs'.map bC.con=(mD n bf k (ks,c) (rs.map bC.con)).2:=by
 obtain⟨i0,hi0,hz0,hz1,hz2⟩:=info_parts afr
 have HH:=ah (fun W (f:aj aF w W)=>Ey b n n (some ⟨vb,0,none⟩) k W (h.aS f).mX)
 have hhk:decide (0≤(k:Int)∧(k:Int)<(n:Int))=true:=by rw[decide_eq_true_eq];omega
 rw[hhk]at HH
 have hat:∀W,aj aF w W→dU (fun k=>¬L k) W ev kv cv [] ks c:=fun W f=>(ha.aS f).at_
 have HR:=ah (fun W (f:aj aF w W)=>gu hg.right▸xQ _ [] ks c W ev kv cv (hat W f) hg.ok)
 have hc0:∀W,aj aF w W→Calls Tryz.prog 41 #[.pointer (some ⟨b,0,none⟩), .agg #[ev,kv,cv], .int .i64 k] W fun e w'=>∃kv cv,e= .returned (.agg #[.slice none 0 0,kv,cv])∧bZ (fun b=>W.heap.size≤b) w' (.slice none 0 0) kv [] ks∧OwnAt W w' 92 3 cv c.length (dY c):=fun W f=>by
  have:=Qg _ [] ks c W ev kv cv (hat W f) hg.ok hg.right b n n (some ⟨vb,0,none⟩) k (h.aS f).mX
  unfold Hr at this
  rwa [hcut]at this
 have HC:=ah hc0;clear hc0
 have lS:=ah (fun W (f:aj aF w W) Q jV mW (h3:dU Q W (.slice none 0 0) jV mW [] ks c)=>gu (⟨hg.right,hg.right,⟨rfl,rfl⟩,rfl⟩:jA [] ks c∧jA [] ks c∧(([]:List aQ)=[]∧ks=ks)∧c=c)▸XC Q _ [] ks c [] ks c W (.slice none 0 0) jV mW ev kv cv h3 hg.ok (hat W f) hg.ok)
 have HA:=ah (fun W (f:aj aF w W)=>Aw n rs▸Cm bf (rs.map (bC.q n)) b W sv (h.aS f).rd vH (by rw[List.length_map];have:=h.few;omega) (h.aS f).pq)
 obtain⟨P,hP⟩:∃P,P=dG bf (rs.map bC.id):=⟨_,rfl⟩
 rw[←hP]at HA
 have HP:=ah hP;clear hP
 have hn1:=h.n1
 have hn4:=h.n4
 have HST:=ah h
 have uH:=ah ha
 have yU:=ah hg
 obtain⟨a0,c0,a1,c1,a2,c2,rfl,rfl,rfl⟩:=(hat w (aj.refl _ _)).shape
 have hm1:=Ht n hn1 hn4
 have hm2:=make_is n hn1 hn4
 obtain⟨Z1,hZ1⟩:∃Z,Z=((jm n).flatMap aU.cells).toArray:=⟨_,rfl⟩
 obtain⟨Z2,hZ2⟩:∃Z,Z=(fJ (List.replicate n false)).toArray:=⟨_,rfl⟩
 rw[←hZ1]at hm1
 rw[←hZ2]at hm2
 have HZ1:=ah hZ1;clear hZ1
 have HZ2:=ah hZ2;clear hZ2
 obtain⟨R,hR⟩:∃R,R=mD n bf k (ks,c) (rs.map bC.con):=⟨_,rfl⟩
 have HRR:=ah hR
 rw[←hR]
 clear hR
 have dJ:=ah (fun Y Y' (f:aj aF Y Y') (hS:aj aF w Y∧Y.cell? ⟨w.heap.size,0,none⟩=some (.slice a0 0 c0)∧Y.cell? ⟨w.heap.size,1,none⟩=some (.slice a1 ks.len c1)∧Y.cell? ⟨w.heap.size,2,none⟩=some (.slice a2 c.length c2))=>
  (⟨hS.1.aH f,f.cell' hS.2.1 id,f.cell' hS.2.2.1 id,f.cell' hS.2.2.2 id⟩:aj aF w Y'∧Y'.cell? ⟨w.heap.size,0,none⟩=some (.slice a0 0 c0)∧Y'.cell? ⟨w.heap.size,1,none⟩=some (.slice a1 ks.len c1)∧Y'.cell? ⟨w.heap.size,2,none⟩=some (.slice a2 c.length c2)))
 obtain⟨sa,cs,hsv⟩:=h.rd.sl
 rw[List.length_map]at hsv
 subst hsv
 clear h ha hg hcut hhk hat
 go_enter Tryz.func18,Tryz.ntmps18
 go_wp2_with fail
 refine iq (S:=fun Y=>aj aF w Y∧Y.cell? ⟨w.heap.size,0,none⟩=some (.slice a0 0 c0)∧Y.cell? ⟨w.heap.size,1,none⟩=some (.slice a1 ks.len c1)∧Y.cell? ⟨w.heap.size,2,none⟩=some (.slice a2 c.length c2)) 25 (by kernel_rfl) (dJ.out _ _ (aj.drew aF _) ⟨aj.alloc aF w _,aG (heap_alloc_new w _) 0 rfl,aG (heap_alloc_new w _) 1 rfl,aG (heap_alloc_new w _) 2 rfl⟩) ?_
 intro hS
 generalize World.drew _=Y0 at*
 refine aY 0 10 rfl rfl ?_
 refine aY 1 11 rfl rfl ?_
 try simp only[Act.put,aO,aN,aJ]
 refine bg (i:=2) (by kernel_rfl) rfl (fun K hK=>?_)
 go_simp
 refine(HH.out _ hS.1).mono ?_
 rintro e Y1 ⟨rfl,rfl⟩
 refine hK.out _ _ hS ?_
 clear hK K
 try simp only[Act.put,aO,aN,aJ]
 refine aY 3 13 rfl rfl ?_
 refine aY 4 14 rfl rfl ?_
 try simp only[Act.put,aO,aN,aJ]
 refine aY 5 15 rfl rfl ?_
 try simp only[Act.put,aO,aN,aJ]
 refine bg (i:=6) (by kernel_rfl) rfl (fun K hK=>?_)
 go_simp
 refine(HR.out _ hS.1).mono ?_
 rintro e Y2 ⟨rfl,hf2⟩
 have hS1:=dJ.out _ _ hf2 hS
 refine hK.out _ _ hS1 ?_
 clear hK K hS hf2
 have hS:=hS1
 clear hS1
 try simp only[Act.put,aO,aN,aJ]
 refine aY 7 17 rfl rfl ?_
 refine aY 8 18 rfl rfl ?_
 try simp only[Act.put,aO,aN,aJ]
 refine aY 9 19 rfl rfl ?_
 refine aY 10 20 rfl rfl ?_
 try simp only[Act.put,aO,aN,aJ]
 refine aY 11 21 rfl rfl ?_
 refine aY 12 22 rfl rfl ?_
 try simp only[Act.put,aO,aN,aJ]
 refine aY 13 23 rfl rfl ?_
 refine aY 14 24 rfl rfl ?_
 try simp only[Act.put,aO,aN,aJ]
 refine aY 15 25 rfl rfl ?_
 refine aY 16 26 rfl rfl ?_
 try simp only[Act.put,aO,aN,aJ]
 refine aY 17 27 rfl rfl ?_
 refine aY 18 28 rfl rfl ?_
 try simp only[Act.put,aO,aN,aJ]
 refine aY 19 29 rfl rfl ?_
 refine aY 21 31 rfl rfl ?_
 try simp only[Act.put,aO,aN,aJ]
 refine bg (i:=20) (by kernel_rfl) rfl (fun K hK=>?_)
 go_simp
 refine(HC.out _ hS.1).mono ?_
 rintro e Y3 ⟨jV,mW,rfl,hta,ho3⟩
 obtain⟨uy,kH,-⟩:=hta.kids
 obtain⟨a5,c5,rfl⟩:=kH.rd.sl
 obtain⟨a6,c6,rfl⟩:=ho3.shape
 have Ij:=ah (⟨hta,ho3.rd⟩:dU _ Y3 _ _ _ [] ks c)
 have hS1:=dJ.out _ _ ho3.aI hS
 refine hK.out _ _ hS1 ?_
 clear hK K hS kH hta ho3
 have hS:=hS1
 clear hS1
 try simp only[Act.put,aO,aN,aJ]
 refine bg (i:=22) (by kernel_rfl) rfl (fun K hK=>?_)
 go_simp
 refine(lS.out _ hS.1 _ _ _ Ij.out).mono ?_
 rintro e Y4 ⟨rfl,hf4⟩
 have hS1:=dJ.out _ _ hf4 hS
 refine hK.out _ _ hS1 ?_
 clear hK K hS hf4 Ij
 have hS:=hS1
 clear hS1
 try simp only[Act.put,aO,aN,aJ]
 refine aY 23 33 rfl rfl ?_
 try simp only[Act.put,aO,aN,aJ]
 refine bg (i:=24) (by kernel_rfl) rfl (fun K hK=>?_)
 go_simp
 refine hK.out _ _ hS ?_
 clear hK K
 refine mF (by kernel_rfl) ?_
 clear HH HR HC lS
 go_upto_block 0 with(go_at_call 38;refine(HA.out _ hS.1).mono ?_;rintro e Y5 ⟨rfl,hf5⟩;have hS5:=dJ.out _ _ hf5 hS;clear hS hf5;have hS:=hS5;clear hS5)
 clear HA
 go_cut [9] (fun v wx=>∃(i:Nat) (L1:Nat→Prop) (Ik:Value) (cZ:List bC),v= .int .i64 i∧Turned L w L1 wx∧dW L1 wx b n vb Ik vs cZ∧i<cZ.length∧R=(0,(cZ.map bC.con).set i (mg ((cZ.map bC.con).getD i default) k (ks,c)))∧eF (fun k=>¬L1 k) wx ⟨[],ks,c, .slice a0 0 c0, .slice a1 ks.len c1, .slice a2 c.length c2⟩∧¬L1 w.heap.size∧
  wx.cell? ⟨w.heap.size,0,none⟩=some (.slice a0 0 c0)∧wx.cell? ⟨w.heap.size,1,none⟩=some (.slice a1 ks.len c1)∧wx.cell? ⟨w.heap.size,2,none⟩=some (.slice a2 c.length c2))
 case first=>
  rcases nY bf (rs.map bC.id)with⟨hp,hnm⟩|⟨i,hi,hp,he⟩
  ·have hP:=HP.out.trans hp
   subst hP
   have hRR:R=if 4≤rs.length then(4,rs.map bC.con)else(0,((rs.map bC.con)++ [newS n bf]).set rs.length (mg (newS n bf) k (ks,c))):=by rw[HRR.out];unfold mD;rw[sQ,if_pos hp,List.length_map]
   clear hp HP
   have jw:=ah hnm;clear hnm
   by_cases hl:4≤rs.length
   ·rw[if_pos hl]at hRR
    have lq:=ah hRR;clear hRR
    have y0:=(HST.out.aS hS.1).pq
    have hb0:=World.block_lt_of_cell? _ _ y0
    go_wp2
    go_ret
    refine⟨by rw[lq.out];rfl,?_⟩
    exact⟨L,Turned.zx hS.1,_,_,HST.out.aS hS.1,by rw[lq.out]⟩
   ·rw[if_neg hl]at hRR
    have lq:=ah hRR;clear hRR
    have y0:=(HST.out.aS hS.1).pq
    have y1:=(HST.out.aS hS.1).mX
    have hb0:=World.block_lt_of_cell? _ _ y0
    go_wp2_with fail
    have bJ:=ah (hS.1.aH (aj.drew aF _))
    have bW:=ah ((dJ.out _ _ (aj.drew aF _) hS).2)
    clear y0 y1 hb0
    have dH:(World.drew Y5).cell? ⟨b,0,none⟩=some (.slice (some ⟨vb,0,none⟩) n n)∧(World.drew Y5).cell? ⟨b,1,none⟩=some (.slice sa rs.length cs):=⟨(HST.out.aS bJ.out).mX,(HST.out.aS bJ.out).pq⟩
    refine iq (S:=fun Y=>Y.cell? ⟨b,0,none⟩=some (.slice (some ⟨vb,0,none⟩) n n)∧Y.cell? ⟨b,1,none⟩=some (.slice sa rs.length cs)) 23 (by kernel_rfl) dH ?_
    clear hS
    intro hS
    clear dH
    generalize World.drew Y5=Y6 at*
    refine kV 0 73 rfl rfl ?_
    refine kV 1 74 rfl rfl ?_
    try simp only[Act.put,aO,aN,aJ]
    refine kV 2 75 rfl rfl ?_
    refine kV 3 76 rfl rfl ?_
    try simp only[Act.put,aO,aN,aJ]
    refine kV 4 77 rfl rfl ?_
    refine kV 5 78 rfl rfl ?_
    try simp only[Act.put,aO,aN,aJ]
    refine kV 6 79 rfl rfl ?_
    refine kV 7 80 rfl rfl ?_
    try simp only[Act.put,aO,aN,aJ]
    refine kV 8 81 rfl rfl ?_
    refine kV 9 82 rfl rfl ?_
    try simp only[Act.put,aO,aN,aJ]
    refine kV 10 83 rfl rfl ?_
    refine kV 12 85 rfl rfl ?_
    try simp only[Act.put,aO,aN,aJ]
    refine kV 13 86 rfl rfl ?_
    refine kV 14 87 rfl rfl ?_
    try simp only[Act.put,aO,aN,aJ]
    refine kV 15 88 rfl rfl ?_
    refine kV 16 89 rfl rfl ?_
    try simp only[Act.put,aO,aN,aJ]
    refine nU (i:=11) (j:=17) (by kernel_rfl) rfl rfl (fun K hK=>?_) (fun K hK=>?_)
    ·go_simp
     refine qU _ _ _ (fun Y7 gV hb7 hs7=>?_)
     have uI:=World.block_lt_of_cell? _ _ bW.out.1
     have fM:=ah (⟨hb7,uI⟩:_∧w.heap.size<_)
     (try(have g:=gV.blk fQ.out.1 id;have g2:=fQ.out.2;clear fQ;have fQ:=ah (⟨g,g2⟩:_∧w.heap.size<_);clear g g2))
     have hf:=bJ.out.aH gV
     clear bJ
     have bJ:=ah hf
     have hbx:=(⟨gV.cell' bW.out.1 id,gV.cell' bW.out.2.1 id,gV.cell' bW.out.2.2 id⟩:Y7.cell? ⟨w.heap.size,0,none⟩=some (.slice a0 0 c0)∧Y7.cell? ⟨w.heap.size,1,none⟩=some (.slice a1 ks.len c1)∧Y7.cell? ⟨w.heap.size,2,none⟩=some (.slice a2 c.length c2))
     clear bW
     have bW:=ah hbx
     have hS1:Y7.cell? ⟨b,0,none⟩=some (.slice (some ⟨vb,0,none⟩) n n)∧Y7.cell? ⟨b,1,none⟩=some (.slice sa rs.length cs):=⟨gV.cell' hS.1 id,gV.cell' hS.2 id⟩
     refine hK.out _ _ hS1 ?_
     clear hK K hS gV hb7 hs7 uI hf hbx
     have hS:=hS1
     clear hS1
     try simp only[Act.put,aO,aN,aJ]
     refine bg (i:=17) (by kernel_rfl) rfl (fun K hK=>?_)
     go_simp
     refine qU _ _ _ (fun Y8 jW hb8 hs8=>?_)
     have wM:=World.block_lt_of_cell? _ _ bW.out.1
     have fQ:=ah (⟨hb8,wM⟩:_∧w.heap.size<_)
     (try(have g:=jW.blk fM.out.1 id;have g2:=fM.out.2;clear fM;have fM:=ah (⟨g,g2⟩:_∧w.heap.size<_);clear g g2))
     have hf:=bJ.out.aH jW
     clear bJ
     have bJ:=ah hf
     have hbx:=(⟨jW.cell' bW.out.1 id,jW.cell' bW.out.2.1 id,jW.cell' bW.out.2.2 id⟩:Y8.cell? ⟨w.heap.size,0,none⟩=some (.slice a0 0 c0)∧Y8.cell? ⟨w.heap.size,1,none⟩=some (.slice a1 ks.len c1)∧Y8.cell? ⟨w.heap.size,2,none⟩=some (.slice a2 c.length c2))
     clear bW
     have bW:=ah hbx
     have hS1:Y8.cell? ⟨b,0,none⟩=some (.slice (some ⟨vb,0,none⟩) n n)∧Y8.cell? ⟨b,1,none⟩=some (.slice sa rs.length cs):=⟨jW.cell' hS.1 id,jW.cell' hS.2 id⟩
     refine hK.out _ _ hS1 ?_
     clear hK K hS jW hb8 hs8 wM hf hbx
     have hS:=hS1
     clear hS1
     try simp only[Act.put,aO,aN,aJ]
     refine kV 18 91 rfl rfl ?_
     try simp only[Act.put,aO,aN,aJ]
     refine bg (i:=19) (by kernel_rfl) rfl (fun K hK=>?_)
     go_simp
     refine qU _ _ _ (fun Y9 iJ fB hs9=>?_)
     have f_:=ah fB
     have g:=iJ.blk fM.out.1 id
     have g2:=fM.out.2
     clear fM
     have fM:=ah (⟨g,g2⟩:_∧w.heap.size<_)
     clear g g2
     have g:=iJ.blk fQ.out.1 id
     have g2:=fQ.out.2
     clear fQ
     have fQ:=ah (⟨g,g2⟩:_∧w.heap.size<_)
     clear g g2
     have hf:=bJ.out.aH iJ
     clear bJ
     have bJ:=ah hf
     have hbx:=(⟨iJ.cell' bW.out.1 id,iJ.cell' bW.out.2.1 id,iJ.cell' bW.out.2.2 id⟩:Y9.cell? ⟨w.heap.size,0,none⟩=some (.slice a0 0 c0)∧Y9.cell? ⟨w.heap.size,1,none⟩=some (.slice a1 ks.len c1)∧Y9.cell? ⟨w.heap.size,2,none⟩=some (.slice a2 c.length c2))
     clear bW
     have bW:=ah hbx
     have hS1:Y9.cell? ⟨b,0,none⟩=some (.slice (some ⟨vb,0,none⟩) n n)∧Y9.cell? ⟨b,1,none⟩=some (.slice sa rs.length cs):=⟨iJ.cell' hS.1 id,iJ.cell' hS.2 id⟩
     refine hK.out _ _ hS1 ?_
     clear hK K hS iJ fB hs9 hf hbx
     have hS:=hS1
     clear hS1
     try simp only[Act.put,aO,aN,aJ]
     refine bg (i:=20) (by kernel_rfl) rfl (fun K hK=>?_)
     refine EM Y9 _ [.int .i64 bf, .slice _ n n, .slice _ n n] rfl (.tmp 77) (.tmp 92) 79 rfl 86 i0 _ 3 56 Tryz.underlying79 hi0 hz0 hz1 hz2 (by decide) (by decide) (.slice sa rs.length cs) rs.length _ (HST.out.aS bJ.out).own 1 1 (by simp[Act.eval]) (by simp[Act.eval]) f_.out rfl (by simp[Value.oneCell']) (by have:=HST.out.few;simp only[maxLen];omega) (by have:=HST.out.few;omega) ?_
     intro ad cc w2 bP jK mY
     have hgr:=HST.out.grow bJ.out (Nat.le_of_lt fM.out.2) (Nat.le_of_lt fQ.out.2) (by rw[←HZ1.out];exact fM.out.1) (by rw[←HZ2.out];exact fQ.out.1) jK mY bP jw.out (by omega)
     have qm:=ah hgr;clear hgr
     have Il:w.heap.size<Y9.heap.size:=World.block_lt_of_cell? _ _ bW.out.1
     have ou:=ah (XD (fun e=>by have:=HST.out.Ls _ e;omega) fM.out.2 fQ.out.2 HST.out.sL mY Il)
     have nb:¬eG (.slice sa rs.length cs) w.heap.size:=fun s=>by have:=HST.out.Ls _ (HST.out.sL _ s);omega
     have hbx:=(⟨jK.cell' bW.out.1 nb,jK.cell' bW.out.2.1 nb,jK.cell' bW.out.2.2 nb⟩:w2.cell? ⟨w.heap.size,0,none⟩=some (.slice a0 0 c0)∧w2.cell? ⟨w.heap.size,1,none⟩=some (.slice a1 ks.len c1)∧w2.cell? ⟨w.heap.size,2,none⟩=some (.slice a2 c.length c2))
     have nI:=ah hbx;clear hbx
     have hS1:w2.cell? ⟨b,0,none⟩=some (.slice (some ⟨vb,0,none⟩) n n)∧w2.cell? ⟨b,1,none⟩=some (.slice sa rs.length cs):=⟨aG qm.out.1 0 rfl,aG qm.out.1 1 rfl⟩
     refine hK.out _ _ hS1 ?_
     clear hK K hS bP jK mY nb Il
     have hS:=hS1
     clear hS1
     try simp only[Act.put,aO,aN,aJ]
     refine bg (i:=21) (by kernel_rfl) rfl (fun K hK=>?_)
     go_simp
     refine hK.out _ _ hS ?_
     clear hK K
     try simp only[Act.put,aO,aN,aJ]
     refine kV 22 95 rfl rfl ?_
     try simp only[Act.put,aO,aN,aJ]
     refine gJ (by kernel_rfl) (by kernel_rfl) rfl (fun K hK=>?_)
     have g1:=aW qm.out.1 1
     have gl:=lt_of_block qm.out.1
     have q1:=hS.2
     go_simp
     refine hK.out _ _ ?_
     clear hK K hS q1 g1 gl
     go_wp2
     go_meet
     case rel=>
      have hbn:b≠w.heap.size:=fun e=>by have:=HST.out.Ls _ HST.out.bL;omega
      have fb:=aj.setCell (S:=fun x=>x=b) w2 (p:=⟨b,1,none⟩) (.inl rfl) (.slice ad (rs.length+1) cc)
      refine⟨rs.length,_,_,_,rfl,qm.out.2.2,qm.out.2.1,by simp,?_,uH.out.turn fun x hx hl=>⟨qm.out.2.2.aI.block x hx hl,fun e=>?_⟩,ou.out,fb.cell' nI.out.1 hbn.symm,fb.cell' nI.out.2.1 hbn.symm,fb.cell' nI.out.2.2 hbn.symm⟩
      ·rw[lq.out,List.map_append,List.map_cons,List.map_nil,Xj,getD_at _ (by simp),List.getElem_append_right (by simp)]
       simp
      ·rcases qm.out.2.2.own x e with g|g
       ·exact hl g
       ·omega
    ·go_simp
     refine qU _ _ _ (fun Y8 jW hb8 hs8=>?_)
     have wM:=World.block_lt_of_cell? _ _ bW.out.1
     have fQ:=ah (⟨hb8,wM⟩:_∧w.heap.size<_)
     (try(have g:=jW.blk fM.out.1 id;have g2:=fM.out.2;clear fM;have fM:=ah (⟨g,g2⟩:_∧w.heap.size<_);clear g g2))
     have hf:=bJ.out.aH jW
     clear bJ
     have bJ:=ah hf
     have hbx:=(⟨jW.cell' bW.out.1 id,jW.cell' bW.out.2.1 id,jW.cell' bW.out.2.2 id⟩:Y8.cell? ⟨w.heap.size,0,none⟩=some (.slice a0 0 c0)∧Y8.cell? ⟨w.heap.size,1,none⟩=some (.slice a1 ks.len c1)∧Y8.cell? ⟨w.heap.size,2,none⟩=some (.slice a2 c.length c2))
     clear bW
     have bW:=ah hbx
     have hS1:Y8.cell? ⟨b,0,none⟩=some (.slice (some ⟨vb,0,none⟩) n n)∧Y8.cell? ⟨b,1,none⟩=some (.slice sa rs.length cs):=⟨jW.cell' hS.1 id,jW.cell' hS.2 id⟩
     refine hK.out _ _ hS1 ?_
     clear hK K hS jW hb8 hs8 wM hf hbx
     have hS:=hS1
     clear hS1
     try simp only[Act.put,aO,aN,aJ]
     refine bg (i:=11) (by kernel_rfl) rfl (fun K hK=>?_)
     go_simp
     refine qU _ _ _ (fun Y7 gV hb7 hs7=>?_)
     have uI:=World.block_lt_of_cell? _ _ bW.out.1
     have fM:=ah (⟨hb7,uI⟩:_∧w.heap.size<_)
     (try(have g:=gV.blk fQ.out.1 id;have g2:=fQ.out.2;clear fQ;have fQ:=ah (⟨g,g2⟩:_∧w.heap.size<_);clear g g2))
     have hf:=bJ.out.aH gV
     clear bJ
     have bJ:=ah hf
     have hbx:=(⟨gV.cell' bW.out.1 id,gV.cell' bW.out.2.1 id,gV.cell' bW.out.2.2 id⟩:Y7.cell? ⟨w.heap.size,0,none⟩=some (.slice a0 0 c0)∧Y7.cell? ⟨w.heap.size,1,none⟩=some (.slice a1 ks.len c1)∧Y7.cell? ⟨w.heap.size,2,none⟩=some (.slice a2 c.length c2))
     clear bW
     have bW:=ah hbx
     have hS1:Y7.cell? ⟨b,0,none⟩=some (.slice (some ⟨vb,0,none⟩) n n)∧Y7.cell? ⟨b,1,none⟩=some (.slice sa rs.length cs):=⟨gV.cell' hS.1 id,gV.cell' hS.2 id⟩
     refine hK.out _ _ hS1 ?_
     clear hK K hS gV hb7 hs7 uI hf hbx
     have hS:=hS1
     clear hS1
     try simp only[Act.put,aO,aN,aJ]
     refine kV 18 91 rfl rfl ?_
     try simp only[Act.put,aO,aN,aJ]
     refine bg (i:=19) (by kernel_rfl) rfl (fun K hK=>?_)
     go_simp
     refine qU _ _ _ (fun Y9 iJ fB hs9=>?_)
     have f_:=ah fB
     have g:=iJ.blk fM.out.1 id
     have g2:=fM.out.2
     clear fM
     have fM:=ah (⟨g,g2⟩:_∧w.heap.size<_)
     clear g g2
     have g:=iJ.blk fQ.out.1 id
     have g2:=fQ.out.2
     clear fQ
     have fQ:=ah (⟨g,g2⟩:_∧w.heap.size<_)
     clear g g2
     have hf:=bJ.out.aH iJ
     clear bJ
     have bJ:=ah hf
     have hbx:=(⟨iJ.cell' bW.out.1 id,iJ.cell' bW.out.2.1 id,iJ.cell' bW.out.2.2 id⟩:Y9.cell? ⟨w.heap.size,0,none⟩=some (.slice a0 0 c0)∧Y9.cell? ⟨w.heap.size,1,none⟩=some (.slice a1 ks.len c1)∧Y9.cell? ⟨w.heap.size,2,none⟩=some (.slice a2 c.length c2))
     clear bW
     have bW:=ah hbx
     have hS1:Y9.cell? ⟨b,0,none⟩=some (.slice (some ⟨vb,0,none⟩) n n)∧Y9.cell? ⟨b,1,none⟩=some (.slice sa rs.length cs):=⟨iJ.cell' hS.1 id,iJ.cell' hS.2 id⟩
     refine hK.out _ _ hS1 ?_
     clear hK K hS iJ fB hs9 hf hbx
     have hS:=hS1
     clear hS1
     try simp only[Act.put,aO,aN,aJ]
     refine bg (i:=20) (by kernel_rfl) rfl (fun K hK=>?_)
     refine EM Y9 _ [.int .i64 bf, .slice _ n n, .slice _ n n] rfl (.tmp 77) (.tmp 92) 79 rfl 86 i0 _ 3 56 Tryz.underlying79 hi0 hz0 hz1 hz2 (by decide) (by decide) (.slice sa rs.length cs) rs.length _ (HST.out.aS bJ.out).own 1 1 (by simp[Act.eval]) (by simp[Act.eval]) f_.out rfl (by simp[Value.oneCell']) (by have:=HST.out.few;simp only[maxLen];omega) (by have:=HST.out.few;omega) ?_
     intro ad cc w2 bP jK mY
     have hgr:=HST.out.grow bJ.out (Nat.le_of_lt fM.out.2) (Nat.le_of_lt fQ.out.2) (by rw[←HZ1.out];exact fM.out.1) (by rw[←HZ2.out];exact fQ.out.1) jK mY bP jw.out (by omega)
     have qm:=ah hgr;clear hgr
     have Il:w.heap.size<Y9.heap.size:=World.block_lt_of_cell? _ _ bW.out.1
     have ou:=ah (XD (fun e=>by have:=HST.out.Ls _ e;omega) fM.out.2 fQ.out.2 HST.out.sL mY Il)
     have nb:¬eG (.slice sa rs.length cs) w.heap.size:=fun s=>by have:=HST.out.Ls _ (HST.out.sL _ s);omega
     have hbx:=(⟨jK.cell' bW.out.1 nb,jK.cell' bW.out.2.1 nb,jK.cell' bW.out.2.2 nb⟩:w2.cell? ⟨w.heap.size,0,none⟩=some (.slice a0 0 c0)∧w2.cell? ⟨w.heap.size,1,none⟩=some (.slice a1 ks.len c1)∧w2.cell? ⟨w.heap.size,2,none⟩=some (.slice a2 c.length c2))
     have nI:=ah hbx;clear hbx
     have hS1:w2.cell? ⟨b,0,none⟩=some (.slice (some ⟨vb,0,none⟩) n n)∧w2.cell? ⟨b,1,none⟩=some (.slice sa rs.length cs):=⟨aG qm.out.1 0 rfl,aG qm.out.1 1 rfl⟩
     refine hK.out _ _ hS1 ?_
     clear hK K hS bP jK mY nb Il
     have hS:=hS1
     clear hS1
     try simp only[Act.put,aO,aN,aJ]
     refine bg (i:=21) (by kernel_rfl) rfl (fun K hK=>?_)
     go_simp
     refine hK.out _ _ hS ?_
     clear hK K
     try simp only[Act.put,aO,aN,aJ]
     refine kV 22 95 rfl rfl ?_
     try simp only[Act.put,aO,aN,aJ]
     refine gJ (by kernel_rfl) (by kernel_rfl) rfl (fun K hK=>?_)
     have g1:=aW qm.out.1 1
     have gl:=lt_of_block qm.out.1
     have q1:=hS.2
     go_simp
     refine hK.out _ _ ?_
     clear hK K hS q1 g1 gl
     go_wp2
     go_meet
     case rel=>
      have hbn:b≠w.heap.size:=fun e=>by have:=HST.out.Ls _ HST.out.bL;omega
      have fb:=aj.setCell (S:=fun x=>x=b) w2 (p:=⟨b,1,none⟩) (.inl rfl) (.slice ad (rs.length+1) cc)
      refine⟨rs.length,_,_,_,rfl,qm.out.2.2,qm.out.2.1,by simp,?_,uH.out.turn fun x hx hl=>⟨qm.out.2.2.aI.block x hx hl,fun e=>?_⟩,ou.out,fb.cell' nI.out.1 hbn.symm,fb.cell' nI.out.2.1 hbn.symm,fb.cell' nI.out.2.2 hbn.symm⟩
      ·rw[lq.out,List.map_append,List.map_cons,List.map_nil,Xj,getD_at _ (by simp),List.getElem_append_right (by simp)]
       simp
      ·rcases qm.out.2.2.own x e with g|g
       ·exact hl g
       ·omega
  ·rw[List.length_map]at hi
   have hP:=HP.out.trans hp
   subst hP
   have hpn:¬((i:Int)=-1):=by omega
   have hit:(i:Int).toNat=i:=by omega
   have hRR:R=if(rs.getD i default).is.getD k false=true then(8,rs.map bC.con)else(0,(rs.map bC.con).set i (mg ((rs.map bC.con).getD i default) k (ks,c))):=by
    rw[HRR.out];unfold mD;rw[sQ,hp,if_neg hpn,hit,H_ hi];rfl
   clear hp HP he hpn hit
   have hs:=(HST.out.aS hS.1).jJ _ (getD_mem default hi)
   obtain⟨g0,g1,g2⟩:=uz (rs.map (bC.q n)) i (by rw[List.length_map];exact hi)
   have hrd:=(HST.out.aS hS.1).rd
   have y1:=(HST.out.aS hS.1).pq
   rw[Hz hi]at g2
   rw[List.length_map]at hrd
   have y3:=aG hs.is k (u:= .bool ((rs.getD i default).is.getD k false)) (XE (by rw[hs.o_];exact hk))
   generalize (rs.getD i default).is.getD k false=fl at*
   have g2:((rs.map (bC.q n)).flatMap cO.cells)[i*3+2]?=some (.slice (some ⟨(rs.getD i default).ib,0,none⟩) n n):=g2
   generalize (rs.getD i default).ib=ib at*
   rcases Rd.shape hrd with⟨ad,he,h0⟩|⟨p,off,cp,he,hmx⟩
   ·omega
   injection he with e1 e2 e3
   subst e1 e3
   clear e2
   have y2:Y5.cell? ⟨p,off+i*3+2,none⟩=_:=hrd.cell (i*3+2) _ g2
   have hb1:=World.block_lt_of_cell? _ _ y1
   have hb2:=World.block_lt_of_cell? _ _ y2
   have hb3:=World.block_lt_of_cell? _ _ y3
   clear hrd g0 g1 g2 hs
   have hin:(i:Int)<(rs.length:Int):=by omega
   have hkn:(k:Int)<(n:Int):=by omega
   cases fl with
   |true=>
    rw[if_pos rfl]at hRR
    have lq:=ah hRR;clear hRR
    go_wp2
    go_ret
    refine⟨by rw[lq.out];rfl,?_⟩
    exact⟨L,Turned.zx hS.1,_,_,HST.out.aS hS.1,by rw[lq.out]⟩
   |false=>
    rw[if_neg (by decide)]at hRR
    have lq:=ah hRR;clear hRR
    go_wp2
    go_meet
    case rel=>exact⟨i,L,_,rs,rfl,Turned.zx hS.1,HST.out.aS hS.1,hi,lq.out,uH.out.aS hS.1,fun e=>by(have:=HST.out.Ls _ e;omega),hS.2⟩
 case rest=>
  obtain⟨i,L1,Ik,cZ,rfl,ht1,h1,hi,hst,ha1,hnb,y0,y1,y2⟩:=hcut
  have hs:=h1.jJ _ (getD_mem default hi)
  obtain⟨g0,g1,g2⟩:=uz (cZ.map (bC.q n)) i (by rw[List.length_map];exact hi)
  have hrd:=h1.rd
  have x1:=h1.pq
  rw[Hz hi]at g1 g2
  obtain⟨r,hr⟩:∃r,cZ.getD i default=r:=⟨_,rfl⟩
  rw[hr]at hs g1 g2
  obtain⟨q0,q1,q2⟩:=wG r.part k (by rw[hs.part.len];exact hk)
  have i_:=ah hs
  rw[List.length_map]at hrd
  rcases Rd.shape hrd with⟨ad,he,h0⟩|⟨p,off,cp,he,hmx⟩
  ·omega
  subst he
  have x2:wc.cell? ⟨p,off+i*3+1,none⟩=some (.slice (some ⟨r.pb,0,none⟩) n n):=hrd.cell (i*3+1) _ g1
  have x3:wc.cell? ⟨p,off+i*3+2,none⟩=some (.slice (some ⟨r.ib,0,none⟩) n n):=hrd.cell (i*3+2) _ g2
  have hpt:p≠r.pb:=by
   rcases h1.own.2 with⟨e1,_⟩|⟨g',cap',cur,e1,_,e2,_⟩
   ·cases e1
   ·cases e1;exact iO e2 hs.part.blk (by decide)
  have CQ:=ah (⟨hpt,iO h1.box hs.part.blk (by decide),fun e=>hnb (e▸hs.pL)⟩:p≠r.pb∧b≠r.pb∧w.heap.size≠r.pb)
  have afs:=ah (fun W (f:aj aF wc W)=>OJ (fun k=>¬L1 k) [] ks c W (.slice a0 0 c0) (.slice a1 ks.len c1) (.slice a2 c.length c2) (ha1.aS f).at_ yU.out.ok yU.out.right)
  have HT1:=ah ht1
  have XF:=ah hst
  have H1:=ah h1
  have Ep:=ah (fun(N:Nat→Prop) Y Y' (f:aj N Y Y') (hn:¬N p∧¬N b∧¬N w.heap.size) (hS:Y.cell? ⟨w.heap.size,0,none⟩=some (.slice a0 0 c0)∧Y.cell? ⟨w.heap.size,1,none⟩=some (.slice a1 ks.len c1)∧Y.cell? ⟨w.heap.size,2,none⟩=some (.slice a2 c.length c2)∧Y.cell? ⟨b,1,none⟩=some (.slice (some ⟨p,off,none⟩) cZ.length cp)∧Y.cell? ⟨p,off+i*3+1,none⟩=some (.slice (some ⟨r.pb,0,none⟩) n n)∧Y.cell? ⟨p,off+i*3+2,none⟩=some (.slice (some ⟨r.ib,0,none⟩) n n))=>
   (⟨f.cell' hS.1 hn.2.2,f.cell' hS.2.1 hn.2.2,f.cell' hS.2.2.1 hn.2.2,f.cell' hS.2.2.2.1 hn.2.1,f.cell' hS.2.2.2.2.1 hn.1,f.cell' hS.2.2.2.2.2 hn.1⟩:Y'.cell? ⟨w.heap.size,0,none⟩=some (.slice a0 0 c0)∧Y'.cell? ⟨w.heap.size,1,none⟩=some (.slice a1 ks.len c1)∧Y'.cell? ⟨w.heap.size,2,none⟩=some (.slice a2 c.length c2)∧Y'.cell? ⟨b,1,none⟩=some (.slice (some ⟨p,off,none⟩) cZ.length cp)∧Y'.cell? ⟨p,off+i*3+1,none⟩=some (.slice (some ⟨r.pb,0,none⟩) n n)∧Y'.cell? ⟨p,off+i*3+2,none⟩=some (.slice (some ⟨r.ib,0,none⟩) n n)))
  have dH:=Ep.out aF _ _ (aj.drew aF wc) ⟨id,id,id⟩ ⟨y0,y1,y2,x1,x2,x3⟩
  have jD:=ah (aj.drew aF wc)
  have HQ:=ah (⟨q0,q1,q2⟩:_∧_∧_)
  have hin:(i:Int)<(cZ.length:Int):=by omega
  have hkn:(k:Int)<(n:Int):=by omega
  have XG:=ah hi
  have XH:=ah hr
  clear y0 y1 y2 x1 x2 x3 hrd g0 g1 g2 hs ht1 h1 hst ha1 hnb q0 q1 q2 hmx hpt hi hr
  go_wp2_with fail
  refine iq (S:=fun Y=>Y.cell? ⟨w.heap.size,0,none⟩=some (.slice a0 0 c0)∧Y.cell? ⟨w.heap.size,1,none⟩=some (.slice a1 ks.len c1)∧Y.cell? ⟨w.heap.size,2,none⟩=some (.slice a2 c.length c2)∧Y.cell? ⟨b,1,none⟩=some (.slice (some ⟨p,off,none⟩) cZ.length cp)∧Y.cell? ⟨p,off+i*3+1,none⟩=some (.slice (some ⟨r.pb,0,none⟩) n n)∧Y.cell? ⟨p,off+i*3+2,none⟩=some (.slice (some ⟨r.ib,0,none⟩) n n)) 23 (by kernel_rfl) dH ?_
  clear dH
  intro hS
  generalize World.drew wc=Y0 at*
  refine aX 0 96 rfl rfl ?_
  refine aX 1 97 rfl rfl ?_
  try simp only[Act.put,aO,aN,aJ]
  refine aX 2 98 rfl rfl ?_
  refine aX 3 99 rfl rfl ?_
  try simp only[Act.put,aO,aN,aJ]
  refine aX 4 100 rfl rfl ?_
  refine aX 5 101 rfl rfl ?_
  try simp only[Act.put,aO,aN,aJ]
  refine aX 6 102 rfl rfl ?_
  refine aX 7 103 rfl rfl ?_
  try simp only[Act.put,aO,aN,aJ]
  refine aX 8 104 rfl rfl ?_
  refine aX 9 105 rfl rfl ?_
  try simp only[Act.put,aO,aN,aJ]
  refine aX 10 106 rfl rfl ?_
  refine aX 11 107 rfl rfl ?_
  try simp only[Act.put,aO,aN,aJ]
  refine aX 12 108 rfl rfl ?_
  refine aX 13 109 rfl rfl ?_
  try simp only[Act.put,aO,aN,aJ]
  refine aX 14 110 rfl rfl ?_
  refine aX 15 111 rfl rfl ?_
  try simp only[Act.put,aO,aN,aJ]
  refine aX 16 112 rfl rfl ?_
  refine aX 17 113 rfl rfl ?_
  try simp only[Act.put,aO,aN,aJ]
  refine aX 18 114 rfl rfl ?_
  try simp only[Act.put,aO,aN,aJ]
  refine bg (i:=19) (by kernel_rfl) rfl (fun K hK=>?_)
  go_simp
  refine(afs.out _ jD.out).mono ?_
  rintro e Y1 ⟨uX,jV,mW,rfl,hta,ho3⟩
  obtain⟨a3,c3,rfl⟩:=hta.ents.rd.sl
  obtain⟨uy,kH,-⟩:=hta.kids
  obtain⟨a5,c5,rfl⟩:=kH.rd.sl
  obtain⟨a6,c6,rfl⟩:=ho3.shape
  have dN:=ah (jD.out.aH ho3.aI)
  have hput:=(H1.out.aS dN.out).put XG.out hk ⟨[],ks,c,_,_,_⟩ rfl ⟨hta.turn (Q':=fun x=>¬L1 x) fun x hx hQ=>⟨rfl,fun hl=>by have:=H1.out.Ls x hl;have:=jD.out.size;omega⟩,ho3.rd,fun _ x hx hl=>by have:=ho3.new x hx;have:=H1.out.Ls x hl;have:=jD.out.size;omega⟩ yU.out XH.out
  have EI:=ah hput;clear hput
  have hS1:=Ep.out aF _ _ ho3.aI ⟨id,id,id⟩ hS
  refine hK.out _ _ hS1 ?_
  clear hK K hS kH hta ho3
  have hS:=hS1
  clear hS1
  try simp only[Act.put,aO,aN,aJ]
  refine aX 20 116 rfl rfl ?_
  try simp only[Act.put,aO,aN,aJ]
  refine bg (i:=21) (by kernel_rfl) rfl (fun K hK=>?_)
  have hb:=dN.out.blk i_.out.part.blk id
  have z0:=aG hb (k*3) (by simpa using HQ.out.1)
  have z1:=aG hb (k*3+1) (by simpa using HQ.out.2.1)
  have z2:=aG hb (k*3+2) (by simpa using HQ.out.2.2)
  have e0:=aW hb (k*3)
  have e1:=aW hb (k*3+1)
  have e2:=aW hb (k*3+2)
  have hbl:=lt_of_block hb
  clear hb
  go_simp
  clear z0 z1 z2 e0 e1 e2 hbl
  have f3:=((aj.setCell (S:=fun x=>x=r.pb) Y1 (p:=⟨r.pb,k*3,none⟩) (.inl rfl) (.slice a3 0 c3)).trans (aj.setCell (S:=fun x=>x=r.pb) _ (p:=⟨r.pb,k*3+1,none⟩) (.inl rfl) (.slice a5 ks.len c5)) fun _ _ h=>h).trans (aj.setCell (S:=fun x=>x=r.pb) _ (p:=⟨r.pb,k*3+2,none⟩) (.inl rfl) (.slice a6 c.length c6)) fun _ _ h=>h
  have hS1:=Ep.out _ _ _ f3 CQ.out hS
  have hpi:r.ib≠r.pb:=(iO i_.out.part.blk i_.out.is (by decide)).symm
  have hib:=f3.blk (dN.out.blk i_.out.is id) hpi
  have fQ:=ah hib;clear hib
  obtain⟨W3,hW3⟩:∃W3,W3=((Y1.setCell ⟨r.pb,k*3,none⟩ (.slice a3 0 c3)).setCell ⟨r.pb,k*3+1,none⟩ (.slice a5 ks.len c5)).setCell ⟨r.pb,k*3+2,none⟩ (.slice a6 c.length c6):=⟨_,rfl⟩
  have Ll:=EI.out
  clear EI
  rw[←hW3]at hS1 fQ⊢
  have XI:=ah (show dW L1 (W3.setCell ⟨r.ib,k,none⟩ (.bool true)) b n vb _ vs _∧aj L1 Y1 (W3.setCell ⟨r.ib,k,none⟩ (.bool true)) by rw[hW3];exact Ll)
  clear Ll hW3 f3 hpi
  refine hK.out _ _ hS1 ?_
  clear hK K hS
  have hS:=hS1
  clear hS1
  try simp only[Act.put,aO,aN,aJ]
  refine aX 22 117 rfl rfl ?_
  try simp only[Act.put,aO,aN,aJ]
  refine gJ (by kernel_rfl) (by kernel_rfl) rfl (fun K hK=>?_)
  have z0:=aG fQ.out k (u:= .bool (r.is.getD k false)) (XE (by rw[i_.out.o_];exact hk))
  have e0:=aW fQ.out k
  have hbl:=lt_of_block fQ.out
  go_simp
  refine hK.out _ _ ?_
  clear hK K hS z0 e0 hbl
  go_wp2
  go_ret
  refine⟨by rw[XF.out];rfl,?_⟩
  refine⟨L1,_,_,HT1.out.trans ⟨(dN.out.mono fun _ _ h=>h.elim).trans XI.out.2 fun _ _ h=>h,fun _ h=> .inl h⟩,XI.out.1,?_⟩
  rw[XF.out,H_ XG.out,XH.out,List.map_set]
  show _=List.set _ i (mg r.con k (ks,c))
  congr 1
  unfold bC.con mg
  rw[List.map_set]
  rfl
end
end Go.Proofs.YtlhmbkjdfjoilaaGreat
