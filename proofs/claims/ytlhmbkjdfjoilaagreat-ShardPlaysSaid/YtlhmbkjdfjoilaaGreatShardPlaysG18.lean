/- Words for the law ShardPlays: ShP, Sh8, KidLay, Sh16, Sh9. -/
import Derived.Test.YtlhmbkjdfjoilaaGreatShardPlaysG0
import Derived.Test.YtlhmbkjdfjoilaaGreatShardPlaysG8
import Derived.Test.YtlhmbkjdfjoilaaGreatShardPlaysG15
import Derived.Test.YtlhmbkjdfjoilaaGreatShardPlaysG16
import Derived.Test.YtlhmbkjdfjoilaaGreatShardPlaysG17
import Derived.Shelf.SlSortCmp.WholeK
import Derived.Ground.SlsfProg
import Derived.Test.YtlhmbkjdfjoilaaGreatProg
import Derived.Shelf.SlSortCmp.NoneTotal
set_option linter.unusedSimpArgs false
set_option linter.unusedVariables false
set_option maxHeartbeats 32000000
set_option maxRecDepth 1000000
namespace Go.Proofs.YtlhmbkjdfjoilaaGreat
abbrev bY:=aT×bD
structure Good (t:bY):Prop where
 ok:iD [] t.1 t.2
 right:jA [] t.1 t.2
theorem Am (p:ByteArray→Bool):∀ks:aT,(bF p ks).keys=ks.keys.filter p
 | .nil=>rfl
 | .cons key es sub rest=>by
   have ih:=Am p rest
   show(if p key=true then aT.cons key es sub (bF p rest)else bF p rest).keys=(key::rest.keys).filter p
   rw[List.filter_cons]
   split
   ·show key::(bF p rest).keys=_
    rw[ih]
   ·exact ih
theorem WU (p:ByteArray→Bool) (s:ByteArray):∀ks:aT,(bF p ks).find s=if p s=true then ks.find s else([], .nil)
 | .nil=>by simp[bF,aT.find]
 | .cons key es sub rest=>by
   have ih:=WU p s rest
   show aT.find s (if p key=true then aT.cons key es sub (bF p rest)else bF p rest)=if p s=true then(if key=s then(es,sub)else rest.find s)else([], .nil)
   by_cases hk:p key=true
   ·rw[if_pos hk]
    show(if key=s then(es,sub)else(bF p rest).find s)=_
    by_cases e:key=s
    ·subst e;simp[hk]
    ·simp only[if_neg e];exact ih
   ·rw[if_neg hk,ih]
    by_cases e:key=s
    ·subst e;simp[hk]
    ·simp only[if_neg e]
theorem WV (p:ByteArray→Bool) (f:ByteArray→List aQ×aT):∀M:List ByteArray,bF p (gQ f M)=gQ f (M.filter p)
 |[]=>rfl
 |k::M=>by
  have ih:=WV p f M
  rw[List.filter_cons]
  show bF p (lZ k (f k) (gQ f M))=_
  by_cases hn:isNil (f k).1 (f k).2=true
  ·have e:∀r,lZ k (f k) r=r:=fun r=>by unfold lZ;rw[if_pos hn]
   rw[e,ih]
   split
   ·show _=lZ k (f k) _
    rw[e]
   ·rfl
  ·have e:∀r,lZ k (f k) r= .cons k (f k).1 (f k).2 r:=fun r=>by unfold lZ;rw[if_neg hn]
   rw[e]
   show(if p k=true then aT.cons k (f k).1 (f k).2 (bF p (gQ f M))else bF p (gQ f M))=_
   rw[ih]
   split
   ·show _=lZ k (f k) _
    rw[e]
   ·rfl
theorem KY {f g:ByteArray→List aQ×aT}:∀ {M:List ByteArray},(∀k∈M,f k=g k)→gQ f M=gQ g M
 |[],_=>rfl
 |k::M,h=>by
  show lZ k (f k) (gQ f M)=lZ k (g k) (gQ g M)
  rw[h k (by simp),KY fun x hx=>h x (by simp[hx])]
theorem aez (p:ByteArray→Bool) {a b:List ByteArray} (oa:jL a) (ob:jL b):(kW a b).filter p=kW (a.filter p) (b.filter p):=by
 refine OQ ((GR oa ob).filter p) (GR (oa.filter p) (ob.filter p)) fun k=>?_
 simp only[List.mem_filter,uq]
 constructor
 ·rintro⟨h|h,hp⟩
  ·exact .inl ⟨h,hp⟩
  ·exact .inr ⟨h,hp⟩
 ·rintro(⟨h,hp⟩|⟨h,hp⟩)
  ·exact⟨.inl h,hp⟩
  ·exact⟨.inr h,hp⟩
noncomputable def rP (a b:bY):aT:=gQ (fun k=>jM (eU a.2) (eU b.2) 4 (a.1.find k) (b.1.find k)) (kW a.1.keys b.1.keys)
theorem Hu (a b:bY):sJ [] a.1 a.2 [] b.1 b.2=([],rP a b):=by
 show(iG _ _ [] [],_)=_
 rw[iG]
 rfl
theorem ED {t:bY} (h:Good t):jL t.1.keys:=(qO _ _ _ (oZ h.right.tree).2).1
theorem WW (p:ByteArray→Bool) {a b:bY} (ha:jL a.1.keys) (hb:jL b.1.keys):bF p (rP a b)=rP (bF p a.1,a.2) (bF p b.1,b.2):=by
 unfold rP
 rw[WV,aez p ha hb,←Am,←Am]
 refine KY fun k hk=>?_
 have hp:p k=true:=by
  rw[uq,Am,Am,List.mem_filter,List.mem_filter]at hk
  rcases hk with h|h<;>exact h.2
 simp only[WU,if_pos hp]
open Classical in
noncomputable def yg (c c':bD):bD:=if h:∃u,kZ 0 c c' u then h.choose else []
theorem Ql {c c' u:bD} (h:kZ 0 c c' u):yg c c'=u:=by
 unfold yg
 rw[dif_pos ⟨u,h⟩]
 exact(Exists.choose_spec (p:=fun u=>kZ 0 c c' u) ⟨u,h⟩).one h
theorem aeA {a b:aZ} (ha:dO a) (hb:dO b):∃u,dO u∧∀n,bK u n↔bK a n∨bK b n:=by
 have bd:∀ {l:aZ},dO l→∀r∈l,1≤r.1∧r.1≤r.2∧r.2≤1099511627776:=fun h r hr=>by
  have h1:=mQ h.1 r hr
  have h2:=h.2 r hr
  omega
 have hj:=Gq (l:=a++b) (l':=(a++b).mergeSort fun x y=>decide (x.1≤y.1)) (List.mergeSort_perm _ _) (by
  have:=List.pairwise_mergeSort (le:=fun x y:Int×Int=>decide (x.1≤y.1)) (fun x y z h h'=>by simp at*;omega) (fun x y=>by simp;omega) (a++b)
  exact this.imp fun {x y} h=>by simpa using h) fun r hr=>by
   rcases List.mem_append.1 hr with h|h
   ·exact bd ha r h
   ·exact bd hb r h
 exact⟨_,hj.1,fun n=>by rw[hj.2.1,FN]⟩
theorem Qm {c c':bD} (h:eP c) (h':eP c'):kZ 0 c c' (yg c c'):=by
 have ex:∀d,∃u:aZ,0≤d→d<4→dO u∧∀n,bK u n↔bK (dA c d) n∨bK (dA c' d) n:=fun d=>by
  by_cases hd:0≤d∧d<4
  ·obtain⟨u,hu⟩:=aeA (h.2 d hd.1 hd.2) (h'.2 d hd.1 hd.2)
   exact⟨u,fun _ _=>hu⟩
  ·exact⟨[],fun h0 h4=>absurd ⟨h0,h4⟩ hd⟩
 have hw:kZ 0 c c' (nN fun d=>(ex d).choose):=kZ.whole (fun d h0 h4=>((ex d).choose_spec h0 h4).1) fun d n h0 h4=>by
  rw[((ex d).choose_spec h0 h4).2 n]
  unfold fV kS
  simp
 rw[Ql hw]
 exact hw
noncomputable def fK (a b:bY):bY:=(rP a b,yg a.2 b.2)
def dQ (t:bY):Nat:=dM t.1
theorem Qn {a b:bY} (ha:Good a) (hb:Good b):dQ (fK a b)≤dQ a+dQ b∧(fK a b).2.length≤a.2.length+b.2.length:=by
 refine⟨?_,VY ha.right.ctx hb.right.ctx (Qm ha.right.ctx hb.right.ctx)⟩
 have hs:qg (sJ [] a.1 a.2 [] b.1 b.2)≤sizeT [] a.1+sizeT [] b.1:=PO _ _ 5 _ _ ha.right.tree hb.right.tree
 rw[Hu]at hs
 simpa[qg,sizeT,dQ,fK]using hs
theorem Qo {a b:bY} (ha:Good a) (hb:Good b) (hs:dQ a+dQ b≤2000) (hl:a.2.length+b.2.length≤2000):Good (fK a b):=by
 have hu:=Qm ha.right.ctx hb.right.ctx
 have h1:=VZ ha.right hb.right hu
 have h2:=adr ha.right hb.right hu (by simpa[sizeT,dQ]using hs) hl
 rw[Hu]at h1 h2
 exact⟨h2,h1⟩
def dD:bY:=(.nil,[])
theorem aeB:eP []:=⟨trivial,fun d _ _=>⟨trivial,fun r hr=>by cases hr⟩⟩
theorem Ap:Good dD:=⟨⟨⟨⟨by decide,fun e he=>(by cases he)⟩,by decide,trivial⟩,by decide,fun s hs=>(by cases hs),by decide⟩,⟨rfl,aeB,fun r hr=>(by cases hr)⟩⟩
theorem WX {ha hb:Int→Int→Bool} (h:∀d n,ha d n=false):∀b:List aQ,iG ha hb [] b=b
 |[]=>by rw[iG]
 |y::b=>by
  rw[iG,WX h b]
  unfold oC
  rw[if_neg (by rw[h];simp)]
  rfl
theorem WY:∀(ks:aT) (d:Nat) (p:Option ByteArray),jh ks d p=true→gQ (fun k=>ks.find k) ks.keys=ks
 | .nil,_,_,_=>rfl
 | .cons key es sub rest,d,p,h=>by
   have o:=(qO _ _ _ h).1
   rw[qI]at h
   simp only[Bool.and_eq_true,Bool.not_eq_true']at h
   obtain⟨⟨⟨⟨h1,h2⟩,h3⟩,h4⟩,h5⟩:=h
   have ih:=WY rest d (some key) h5
   have e:gQ (fun k=>(aT.cons key es sub rest).find k) rest.keys=gQ (fun k=>rest.find k) rest.keys:=KY fun k hk=>by
    show(if key=k then(es,sub)else rest.find k)=_
    refine if_neg fun e=>?_
    have:=(List.pairwise_cons.1 o).1 k hk
    rw[e,nH]at this
    cases this
   show lZ key (if key=key then(es,sub)else rest.find key) (gQ (fun k=>(aT.cons key es sub rest).find k) rest.keys)=_
   rw[e,ih,if_pos rfl]
   unfold lZ
   rw[if_neg (by rw[h3];simp)]
theorem WZ {ha hb:Int→Int→Bool} (h:∀d n,ha d n=false):∀(n:Nat) (t:List aQ×aT),bM n t.1 t.2=true→jM ha hb n ([], .nil) t=t
 |0,_,h=>by simp[bM]at h
 |n+1,(es,ks),hr=>by
  obtain⟨_,k1⟩:=oZ hr
  show(iG ha hb [] es,gQ (fun k=>jM ha hb n (aT.find k .nil) (ks.find k)) (kW [] ks.keys))=_
  rw[WX h]
  congr 1
  rw[show kW [] ks.keys=ks.keys by rw[kW]]
  conv=>rhs;rw[←WY ks _ _ k1]
  exact KY fun k hk=>WZ h n _ (xW k1 (xX k1 hk))
theorem aeC {t:bY} (h:Good t):fK dD t=t:=by
 have hb:kZ 0 [] t.2 t.2:=⟨h.right.ctx,fun d n _ _=>by unfold fV kS;simp[dA,nM]⟩
 have hk:jM (eU []) (eU t.2) 5 ([], .nil) ([],t.1)=([],t.1):=WZ (fun d n=>by
  unfold eU
  rw[eH (by unfold kS dA;exact nM n)]
  simp) 5 _ h.right.tree
 have:=Hu dD t
 have e:sJ [] dD.1 dD.2 [] t.1 t.2=([],t.1):=hk
 rw[e]at this
 injection this with _ this
 unfold fK
 rw[←this,show dD.2=[]from rfl,Ql hb]
def jd (n:Nat) (t:bY):List bY:=(List.range n).map fun s:Nat=>(bF (bQ n s) t.1,t.2)
theorem Qp (n:Nat) (t:bY):(jd n t).length=n:=by simp[jd]
theorem KZ {n:Nat} (t:bY) {k:Nat} (h:k<n):(jd n t).getD k dD=(bF (bQ n k) t.1,t.2):=by
 rw[getD_at _ (by rw[Qp];exact h)]
 simp[jd]
theorem aeD {n:Nat} {a b:bY} (ha:Good a) (hb:Good b):List.zipWith fK (jd n a) (jd n b)=jd n (fK a b):=by
 unfold jd
 rw[List.zipWith_map,List.zipWith_self]
 refine List.map_congr_left fun s _=>?_
 show fK _ _=(bF (bQ n s) (rP a b),yg a.2 b.2)
 rw[WW _ (ED ha) (ED hb)]
 rfl
theorem Aq (p:ByteArray→Bool):∀ks:aT,dM (bF p ks)≤dM ks
 | .nil=>Nat.le_refl _
 | .cons key es sub rest=>by
   have ih:=Aq p rest
   show dM (if p key=true then aT.cons key es sub (bF p rest)else bF p rest)≤_
   split
   ·simp only[dM];omega
   ·simp only[dM];omega
theorem Qq (p:ByteArray→Bool):∀ {ks:aT} {r:Int×Int},r∈kQ (bF p ks)→r∈kQ ks
 | .nil,_,h=>h
 | .cons key es sub rest,r,h=>by
   have h:r∈kQ (if p key=true then aT.cons key es sub (bF p rest)else bF p rest):=h
   unfold kQ
   split at h
   ·unfold kQ at h
    rcases List.mem_append.1 h with h|h
    ·exact List.mem_append_left _ h
    ·exact List.mem_append_right _ (Qq p h)
   ·exact List.mem_append_right _ (Qq p h)
theorem aeE {d:Nat}:∀ {ks:aT} {p q:Option ByteArray},(∀s∈ks.keys,ltK q s=true)→jh ks d p=true→jh ks d q=true
 | .nil,_,_,_,_=>rfl
 | .cons key es sub rest,p,q,hq,h=>by
   rw[qI]at h⊢
   simp only[Bool.and_eq_true]at h⊢
   exact⟨⟨⟨⟨h.1.1.1.1,hq key (by simp[aT.keys])⟩,h.1.1.2⟩,h.1.2⟩,h.2⟩
theorem Qr (f:ByteArray→Bool) {d:Nat}:∀ {ks:aT} {p:Option ByteArray},jh ks d p=true→jh (bF f ks) d p=true
 | .nil,_,_=>rfl
 | .cons key es sub rest,p,h=>by
   have hk:=qO _ _ _ h
   rw[qI]at h
   simp only[Bool.and_eq_true]at h
   have ih:=Qr f h.2
   show jh (if f key=true then aT.cons key es sub (bF f rest)else bF f rest) d p=true
   split
   ·rw[qI]
    simp only[Bool.and_eq_true]
    exact⟨h.1,ih⟩
   ·refine aeE (fun s hs=>?_) ih
    rw[Am]at hs
    exact(hk.2 s (by simp[aT.keys,(List.mem_filter.1 hs).1])).1
theorem Ar (p:ByteArray→Bool) {t:bY} (h:Good t):Good (bF p t.1,t.2):=by
 have hr:=h.right.tree
 have hs:sizeT [] (bF p t.1)≤2000:=by have:=Aq p t.1;have:=h.ok.small;unfold sizeT at*;omega
 have ht:bM 5 [] (bF p t.1)=true:=by
  simp only[bM,Bool.and_eq_true]at hr⊢
  exact⟨hr.1,Qr p hr.2⟩
 refine⟨⟨KN ht (Nat.le_trans hs (by decide)),hs,h.ok.fits,h.ok.len⟩,ht,h.right.ctx,fun r hr=>h.right.dots r ?_⟩
 unfold iY at hr⊢
 rcases List.mem_append.1 hr with g|g
 ·exact List.mem_append_left _ g
 ·exact List.mem_append_right _ (Qq p g)
theorem aeF {n:Nat} {t:bY} (h:Good t):∀x∈jd n t,Good x:=fun x hx=>by
 obtain⟨s,_,rfl⟩:=List.mem_map.1 hx
 exact Ar _ h
theorem W_ {p:ByteArray→Bool}:∀ {ks:aT},(∀s∈ks.keys,p s=true)→bF p ks=ks
 | .nil,_=>rfl
 | .cons key es sub rest,h=>by
   show(if p key=true then aT.cons key es sub (bF p rest)else bF p rest)=_
   rw[if_pos (h key (by simp[aT.keys])),W_ fun s hs=>h s (by simp[aT.keys,hs])]
theorem Hw (p:ByteArray→Bool) (ks:aT):bF p (bF p ks)=bF p ks:=W_ fun s hs=>by
 rw[Am]at hs
 exact(List.mem_filter.1 hs).2
theorem Xa (n:Nat):jd n dD=List.replicate n dD:=by
 unfold jd
 show((List.range n).map fun _=>dD)=_
 rw[List.map_const',List.length_range]
abbrev wH:=ByteArray×List aQ×aT
def fE:aT→List wH
 | .nil=> []
 | .cons key es sub rest=>(key,es,sub)::fE rest
theorem Qs:∀ {a b:aT},fE a=fE b→a=b
 | .nil, .nil,_=>rfl
 | .nil, .cons ..,h=>by simp[fE]at h
 | .cons .., .nil,h=>by simp[fE]at h
 | .cons .., .cons ..,h=>by
   simp only[fE,List.cons.injEq,Prod.mk.injEq]at h
   obtain⟨⟨rfl,rfl,rfl⟩,h⟩:=h
   rw[Qs h]
theorem Qu (p:ByteArray→Bool):∀ks:aT,fE (bF p ks)=(fE ks).filter fun x=>p x.1
 | .nil=>rfl
 | .cons key es sub rest=>by
   show fE (if p key=true then aT.cons key es sub (bF p rest)else bF p rest)=((key,es,sub)::fE rest).filter fun x=>p x.1
   rw[List.filter_cons]
   split
   ·show(key,es,sub)::fE (bF p rest)=_
    rw[Qu p rest]
   ·exact Qu p rest
theorem EF:∀ks:aT,(fE ks).map (·.1)=ks.keys
 | .nil=>rfl
 | .cons key es sub rest=>by show key::(fE rest).map (·.1)=_;rw[EF rest];rfl
theorem Hy:∀l:List dh,fE (mkK l)=l.map fun q=>(q.key,q.es,q.sub)
 |[]=>rfl
 |q::l=>by show(q.key,q.es,q.sub)::fE (mkK l)=_;rw[Hy l];rfl
theorem Xb {α:Type} (f:α→Int) (L:List α):∀n:Nat,((List.range n).flatMap fun s:Nat=>L.filter fun x=>decide (f x=(s:Int))).Perm (L.filter fun x=>decide (0≤f x∧f x<(n:Int)))
 |0=>by
  rw[List.filter_eq_nil_iff.2 (fun x _=>by simp only[decide_eq_true_eq];omega)]
  exact List.Perm.refl _
 |n+1=>by
  rw[List.range_succ,List.flatMap_append]
  refine((Xb f L n).append_right _).trans ?_
  have e1:L.filter (fun x=>decide (0≤f x∧f x<(n:Int)))=(L.filter fun x=>decide (0≤f x∧f x<((n+1:Nat):Int))).filter (fun x=>decide (f x<(n:Int))):=by
   rw[List.filter_filter]
   refine List.filter_congr fun x _=>?_
   rw[←Bool.decide_and]
   refine decide_eq_decide.2 ?_
   omega
  have e2:([n].flatMap fun s:Nat=>L.filter fun x=>decide (f x=(s:Int)))=(L.filter fun x=>decide (0≤f x∧f x<((n+1:Nat):Int))).filter (fun x=> !decide (f x<(n:Int))):=by
   simp only[List.flatMap_cons,List.flatMap_nil,List.append_nil,List.filter_filter]
   refine List.filter_congr fun x _=>?_
   rw[←decide_not,←Bool.decide_and]
   refine decide_eq_decide.2 ?_
   omega
  rw[e1,e2]
  exact List.filter_append_perm _ _
theorem aeG {n:Nat} (s:ByteArray) (h1:1≤n) (h4:n≤4):0≤vF s n∧vF s n<(n:Int):=by
 unfold vF
 rw[if_neg (by omega)]
 exact⟨Int.emod_nonneg _ (by omega),Int.emod_lt_of_pos _ (by omega)⟩
theorem Xc {n:Nat} (t:bY) (h1:1≤n) (h4:n≤4):((jd n t).flatMap fun x=>fE x.1).Perm (fE t.1):=by
 unfold jd
 rw[List.flatMap_map]
 have:=Xb (fun x:wH=>vF x.1 n) (fE t.1) n
 rw[List.filter_eq_self.2 (fun x _=>decide_eq_true (aeG x.1 h1 h4))]at this
 refine List.Perm.trans (List.Perm.of_eq ?_) this
 refine congrArg List.flatten (List.map_congr_left fun s _=>?_)
 exact Qu _ _
theorem Xd:∀ {L:List wH},jL (L.map (·.1))→∀ {x y:wH},x∈L→y∈L→x.1=y.1→x=y
 |[],_,_,_,h,_,_=>by cases h
 |z::L,o,x,y,hx,hy,e=>by
  have o:=List.pairwise_cons.1 (List.map_cons▸o:List.Pairwise _ (z.1::L.map (·.1)))
  rcases List.mem_cons.1 hx with rfl|hx'<;>rcases List.mem_cons.1 hy with rfl|hy'
  ·rfl
  ·have:=o.1 y.1 (List.mem_map.2 ⟨y,hy',rfl⟩);rw[e,nH]at this;cases this
  ·have:=o.1 x.1 (List.mem_map.2 ⟨x,hx',rfl⟩);rw[e,nH]at this;cases this
  ·exact Xd o.2 hx' hy' e
theorem Xe {ks ks':aT} (o:jL ks.keys) (hp:(fE ks').Perm (fE ks)) (hs:(fE ks').Pairwise fun x y=>dL y.1 x.1=false):ks'=ks:=by
 rw[←EF]at o
 refine Qs (hp.eq_of_pairwise (le:=fun x y=>dL y.1 x.1=false) (fun x y hx hy h1 h2=>?_) hs ?_)
 ·exact Xd o (hp.mem_iff.1 hx) hy (BR h2 h1)
 ·exact(List.pairwise_map.1 o).imp fun {x y} h=>OO h
open Go.RowKit
def aU.g (q:aU):bY:=(q.ks,q.c)
theorem Rd.Au {w:World} {b n:Nat} {xs:List Value} {t:TypeId} {f:Nat×Nat} (h:w.heap[b]?=some (.cells xs.toArray t f)) (hn:n≤maxLen):Rd w (.slice (some ⟨b,0,none⟩) n n) n xs:=
 .inr ⟨b,0,n,rfl,Nat.le_refl _,hn,fun j u hu=>by rw[Nat.zero_add];exact aG h j (by simpa using hu)⟩
structure oG (Q:Nat→Prop) (w:World) (b n:Nat) (l:List aU):Prop where
 len:l.length=n
 blk:w.heap[b]?=some (.cells (l.flatMap aU.cells).toArray 32 (0,0))
 each:∀q∈l,q.es=[]∧eF Q w q∧Good q.g
theorem oG.turn {Q Q':Nat→Prop} {w w':World} {b n:Nat} {l:List aU} (h:oG Q w b n l) (f:∀k,k<w.heap.size→Q k→w'.heap[k]?=w.heap[k]?∧Q' k) (hb:w'.heap[b]?=w.heap[b]?):oG Q' w' b n l:=
 ⟨h.len,hb.trans h.blk,fun q hq=>let⟨h1,h2,h3⟩:=h.each q hq;⟨h1,h2.turn f,h3⟩⟩
theorem oG.rd {Q:Nat→Prop} {w:World} {b n:Nat} {l:List aU} (h:oG Q w b n l) (hn:n≤4):Rd w (.slice (some ⟨b,0,none⟩) n n) l.length (l.flatMap aU.cells):=by
 rw[h.len]
 exact Rd.Au h.blk (by simp only[maxLen];omega)
theorem oG.good {Q:Nat→Prop} {w:World} {b n:Nat} {l:List aU} (h:oG Q w b n l) {q:aU} (hq:q∈l):q.good:=by
 obtain⟨h1,_,h3,h4⟩:=h.each q hq
 exact⟨by rw[h1];exact h3,by rw[h1];exact h4⟩
structure bC where
 id:Int
 pb:Nat
 ib:Nat
 part:List aU
 is:List Bool
instance:Inhabited bC:=⟨⟨0,0,0,[],[]⟩⟩
def bC.q (n:Nat) (r:bC):cO:=⟨r.id, .slice (some ⟨r.pb,0,none⟩) n n, .slice (some ⟨r.ib,0,none⟩) n n⟩
structure bI where
 id:Int
 part:List bY
 is:List Bool
def bC.con (r:bC):bI:=⟨r.id,r.part.map aU.g,r.is⟩
structure EG (L:Nat→Prop) (w:World) (n:Nat) (r:bC):Prop where
 part:oG (fun k=>¬L k) w r.pb n r.part
 o_:r.is.length=n
 is:w.heap[r.ib]?=some (.cells (fJ r.is).toArray 4 (0,0))
 pL:L r.pb
 iL:L r.ib
structure dW (L:Nat→Prop) (w:World) (b n vb:Nat) (sv:Value) (vs:List aU) (rs:List bC):Prop where
 n1:1≤n
 n4:n≤4
 Ls:∀k,L k→k<w.heap.size
 box:w.heap[b]?=some (.cells #[.slice (some ⟨vb,0,none⟩) n n,sv] 81 (0,0))
 bL:L b
 vis:oG (fun k=>¬L k) w vb n vs
 vL:¬L vb
 own:w.ownsRow 0 86 3 sv rs.length ((rs.map (bC.q n)).flatMap cO.cells)
 sL:∀k,sv.ownBlock=some k→L k
 jJ:∀r∈rs,EG L w n r
 pd:(rs.map bC.pb).Nodup
 CB:(rs.map bC.ib).Nodup
 ids:(rs.map bC.id).Nodup
 few:rs.length≤4
theorem EG.turn {L L':Nat→Prop} {w w':World} {n:Nat} {r:bC} (h:EG L w n r) (f:∀k,k<w.heap.size→¬L k→w'.heap[k]?=w.heap[k]?∧¬L' k) (hL:∀k,L k→L' k) (hp:w'.heap[r.pb]?=w.heap[r.pb]?) (hi:w'.heap[r.ib]?=w.heap[r.ib]?):EG L' w' n r:=
 ⟨h.part.turn f hp,h.o_,hi.trans h.is,hL _ h.pL,hL _ h.iL⟩
section
variable {L:Nat→Prop} {w w':World} {b n vb:Nat} {sv:Value} {vs:List aU} {rs:List bC}
theorem dW.aS (h:dW L w b n vb sv vs rs) (f:aj aF w w'):dW L w' b n vb sv vs rs:=by
 have ft:∀k,k<w.heap.size→¬L k→w'.heap[k]?=w.heap[k]?∧¬L k:=fun k hk hl=>⟨f.block k hk id,hl⟩
 have fb:∀ {k:Nat} {o:Obj},w.heap[k]?=some o→w'.heap[k]?=w.heap[k]?:=fun hk=>f.block _ (lt_of_block hk) id
 exact⟨h.n1,h.n4,fun k hk=>Nat.lt_of_lt_of_le (h.Ls k hk) f.size,(fb h.box).trans h.box,h.bL,h.vis.turn ft (fb h.vis.blk),h.vL,f.owns h.own (fun _ _ h=>h),h.sL,fun r hr=>(h.jJ r hr).turn ft (fun _ h=>h) (fb (h.jJ r hr).part.blk) (fb (h.jJ r hr).is),h.pd,h.CB,h.ids,h.few⟩
theorem dW.mX (h:dW L w b n vb sv vs rs):w.cell? ⟨b,0,none⟩=some (.slice (some ⟨vb,0,none⟩) n n):=aG h.box 0 rfl
theorem dW.pq (h:dW L w b n vb sv vs rs):w.cell? ⟨b,1,none⟩=some sv:=aG h.box 1 rfl
theorem vH {n:Nat} {rs:List bC}:∀q∈rs.map (bC.q n),q.shaped:=fun q hq=>by
 obtain⟨r,_,rfl⟩:=List.mem_map.1 hq
 exact⟨⟨_,_,_,rfl⟩,_,_,_,rfl⟩
theorem Aw (n:Nat) (rs:List bC):(rs.map (bC.q n)).map cO.id=rs.map bC.id:=by rw[List.map_map];rfl
theorem dW.rd (h:dW L w b n vb sv vs rs):Rd w sv (rs.map (bC.q n)).length ((rs.map (bC.q n)).flatMap cO.cells):=by
 rw[List.length_map]
 exact Rd.own h.own
theorem Hz {n:Nat} {rs:List bC} {k:Nat} (h:k<rs.length):(rs.map (bC.q n)).getD k default=(rs.getD k default).q n:=by
 rw[getD_at _ (by rw[List.length_map];exact h),getD_at _ h,List.getElem_map]
structure Turned (L:Nat→Prop) (w:World) (L':Nat→Prop) (w':World):Prop where
 aI:aj L w w'
 own:∀k,L' k→L k∨w.heap.size≤k
theorem Turned.zx (f:aj aF w w'):Turned L w L w':=⟨f.mono fun _ _ h=>h.elim,fun _ h=> .inl h⟩
theorem Turned.trans {L' Xf:Nat→Prop} {w'':World} (h:Turned L w L' w') (h':Turned L' w' Xf w''):Turned L w Xf w'':=
 ⟨h.aI.trans h'.aI fun k hk hl=>(h.own k hl).elim id fun h=>by omega,fun k hk=>by
   rcases h'.own k hk with g|g
   ·exact h.own k g
   ·exact .inr (Nat.le_trans h.aI.size g)⟩
end
end Go.Proofs.YtlhmbkjdfjoilaaGreat
namespace Go.Proofs
open Go.Shelf
def Tryz.kidSortL_ren:Go.Shelf.Ren:=⟨fun|6=>47|15=>76|14=>75|28=>106|29=>107|20=>98|21=>99|22=>100|23=>101|24=>102|25=>103|26=>104|27=>105|46=>138|47=>139|48=>140|49=>141|50=>142|57=>170|n=>n,fun|22=>26|24=>52|25=>94|3=>3|39=>130|0=>0|53=>73|55=>153|4=>4|46=>145|45=>144|50=>149|5=>5|9=>9|66=>190|70=>194|76=>220|77=>221|n=>n,fun|n=>n⟩
theorem Tryz.kidSortL:Go.Proofs.SlLaysF0.n6 Tryz.prog Tryz.kidSortL_ren:= {
 mixed:=by kernel_rfl
 f6:=⟨Tryz.f47.name,by decide,Tryz.func47.trans (congrArg some (by kernel_rfl))⟩
 f14:=⟨Tryz.f75.name,by decide,Tryz.func75.trans (congrArg some (by kernel_rfl))⟩
 f15:=Tryz.func76.trans (congrArg some (by kernel_rfl))
 f20:=⟨Tryz.f98.name,by decide,Tryz.func98.trans (congrArg some (by kernel_rfl))⟩
 f21:=⟨Tryz.f99.name,by decide,Tryz.func99.trans (congrArg some (by kernel_rfl))⟩
 f22:=⟨Tryz.f100.name,by decide,Tryz.func100.trans (congrArg some (by kernel_rfl))⟩
 f23:=⟨Tryz.f101.name,by decide,Tryz.func101.trans (congrArg some (by kernel_rfl))⟩
 f24:=⟨Tryz.f102.name,by decide,Tryz.func102.trans (congrArg some (by kernel_rfl))⟩
 f25:=⟨Tryz.f103.name,by decide,Tryz.func103.trans (congrArg some (by kernel_rfl))⟩
 f26:=⟨Tryz.f104.name,by decide,Tryz.func104.trans (congrArg some (by kernel_rfl))⟩
 f27:=⟨Tryz.f105.name,by decide,Tryz.func105.trans (congrArg some (by kernel_rfl))⟩
 f28:=Tryz.func106.trans (congrArg some (by kernel_rfl))
 f29:=Tryz.func107.trans (congrArg some (by kernel_rfl))
 f46:=⟨Tryz.f138.name,by decide,Tryz.func138.trans (congrArg some (by kernel_rfl))⟩
 f47:=Tryz.func139.trans (congrArg some (by kernel_rfl))
 f48:=Tryz.func140.trans (congrArg some (by kernel_rfl))
 f49:=⟨Tryz.f141.name,by decide,Tryz.func141.trans (congrArg some (by kernel_rfl))⟩
 f50:=⟨Tryz.f142.name,by decide,Tryz.func142.trans (congrArg some (by kernel_rfl))⟩
 f57:=⟨Tryz.f170.name,by decide,Tryz.func170.trans (congrArg some (by kernel_rfl))⟩
 t0:=Tryz.underlying0
 a0:=Tryz.isAgg0
 z0:=Tryz.sizeOf0
 v0:=Tryz.zeroValue0
 t3:=Tryz.underlying3
 a3:=Tryz.isAgg3
 z3:=Tryz.sizeOf3
 v3:=Tryz.zeroValue3
 t4:=Tryz.underlying4
 a4:=Tryz.isAgg4
 z4:=Tryz.sizeOf4
 v4:=Tryz.zeroValue4
 t5:=Tryz.underlying5
 a5:=Tryz.isAgg5
 z5:=Tryz.sizeOf5
 v5:=Tryz.zeroValue5
 t9:=Tryz.underlying9
 a9:=Tryz.isAgg9
 z9:=Tryz.sizeOf9
 v9:=Tryz.zeroValue9
 t22:=Tryz.underlying26
 a22:=Tryz.isAgg26
 z22:=Tryz.sizeOf26
 v22:=Tryz.zeroValue26
 t25:=Tryz.underlying94
 a25:=Tryz.isAgg94
 z25:=Tryz.sizeOf94
 v25:=Tryz.zeroValue94
 t39:=Tryz.underlying130
 a39:=Tryz.isAgg130
 z39:=Tryz.sizeOf130
 v39:=Tryz.zeroValue130
 t45:=Tryz.underlying144
 a45:=Tryz.isAgg144
 z45:=Tryz.sizeOf144
 v45:=Tryz.zeroValue144
 t46:=Tryz.underlying145
 a46:=Tryz.isAgg145
 z46:=Tryz.sizeOf145
 v46:=Tryz.zeroValue145
 t50:=Tryz.underlying149
 a50:=Tryz.isAgg149
 z50:=Tryz.sizeOf149
 v50:=Tryz.zeroValue149
 t53:=Tryz.underlying73
 a53:=Tryz.isAgg73
 z53:=Tryz.sizeOf73
 v53:=Tryz.zeroValue73
 t55:=Tryz.underlying153
 a55:=Tryz.isAgg153
 z55:=Tryz.sizeOf153
 v55:=Tryz.zeroValue153
 t66:=Tryz.underlying190
 a66:=Tryz.isAgg190
 z66:=Tryz.sizeOf190
 v66:=Tryz.zeroValue190
 t70:=Tryz.underlying194
 a70:=Tryz.isAgg194
 z70:=Tryz.sizeOf194
 v70:=Tryz.zeroValue194
 t76:=Tryz.underlying220
 a76:=Tryz.isAgg220
 z76:=Tryz.sizeOf220
 v76:=Tryz.zeroValue220
 t77:=Tryz.underlying221
 a77:=Tryz.isAgg221
 z77:=Tryz.sizeOf221
 v77:=Tryz.zeroValue221}
end Go.Proofs
namespace Go.Proofs.YtlhmbkjdfjoilaaGreat
open Go.RowKit Go.Sort
abbrev qQ:= {q:dh//q.shaped}
instance:Inhabited qQ:=⟨⟨default,⟨none,0,0,rfl⟩,none,0,0,rfl⟩⟩
def uD (x:qQ):List Value:=x.1.cells
def cmpK (x y:qQ):Int:=if dL x.1.key y.1.key=true then-1 else 1
theorem K_ (x y:qQ):ltOf cmpK x y=dL x.1.key y.1.key:=by
 unfold ltOf cmpK
 cases dL x.1.key y.1.key<;>simp
theorem swoK:SWO (ltOf cmpK) where
 irrefl x:=by rw[K_];exact nH _
 trans x y z h1 h2:=by rw[K_]at*;exact uY h1 h2
 ntrans x y z h1 h2:=by
  rw[K_]at*
  cases h:dL x.1.key z.1.key with
  |false=>rfl
  |true=>
   cases h3:dL y.1.key x.1.key with
   |true=>rw[uY h3 h]at h2;cases h2
   |false=>rw[BR h1 h3]at h;rw[h]at h2;cases h2
def CG (l:List qQ):List Value:=l.flatMap uD
theorem Xg (l:List qQ):(CG l).length=l.length*3:=by
 have:=OD (l.map Subtype.val)
 rw[List.flatMap_map,List.length_map]at this
 exact this
theorem Qv (l:List qQ):CG l=(l.map Subtype.val).flatMap dh.cells:=by rw[List.flatMap_map];rfl
theorem aeH (l:List qQ) {k:Nat} (h:k<l.length):(l.map Subtype.val).getD k default=(l.getD k default).1:=by
 rw[getD_at _ (by rw[List.length_map];exact h),getD_at _ h,List.getElem_map]
theorem Xh (d:Array qQ) {t:Nat} (ht:t<d.size*3):(CG d.toList)[t]?=some ((flatK uD 3 d)[t]!):=by
 rw[get_flatK _ _ _ _ ht]
 have hk:t/3<d.size:=by omega
 have hk':t/3<d.toList.length:=by simpa using hk
 obtain⟨h1,h2,h3⟩:=Ho (d.toList.map Subtype.val) (t/3) (by rw[List.length_map];exact hk')
 rw[aeH _ hk',getD_at default hk',←Qv]at h1 h2 h3
 have he:d.toList[t/3]=d[t/3]! :=by rw[getElem!_pos d _ hk];simp
 rw[he]at h1 h2 h3
 rcases(by omega:t%3=0∨t%3=1∨t%3=2)with h|h|h
 ·rw[h]
  have e:t/3*3=t:=by omega
  rw[e]at h1
  rw[h1];rfl
 ·rw[h]
  have e:t/3*3+1=t:=by omega
  rw[e]at h2
  rw[h2];rfl
 ·rw[h]
  have e:t/3*3+2=t:=by omega
  rw[e]at h3
  rw[h3];rfl
theorem OwnAt.aeI {w0 w:World} {e:TypeId} {n c g:Nat} {l:List qQ} (h:OwnAt w0 w e 3 (.slice (some ⟨g,0,none⟩) n c) n (CG l)) (hn:0<n) (hl:l.length=n):HoldsK uD 3 w g 0 l.toArray:=by
 obtain⟨g',c',he,_,_,_,h1,h2,_⟩:=h.row hn
 injection he with e1 e2 e3
 injection e1 with e1
 injection e1 with e4 e5
 subst e4
 intro j hj
 rw[size_flatK]at hj
 have hf:=Xh l.toArray hj
 rw[Nat.zero_add]
 exact⟨h1 j _ hf,h2 j⟩
theorem aeJ (d:Array qQ):(flatK uD 3 d).toList=CG d.toList:=by
 apply List.ext_getElem?
 intro t
 by_cases ht:t<d.size*3
 ·rw[Xh d ht]
  simp[ht]
 ·rw[List.getElem?_eq_none (by simp;omega),List.getElem?_eq_none (by rw[Xg];simp;omega)]
theorem OwnAt.aeK {w0 w:World} {e:TypeId} {n c g:Nat} {l:List qQ} (h:OwnAt w0 w e 3 (.slice (some ⟨g,0,none⟩) n c) n (CG l)) (d':Array qQ) (hd:d'.size=n) (hn:0<n) (m:Nat) (os:Array Obj):
 OwnAt w0 (sortWorldK uD 3 w g 0 m d' os) e 3 (.slice (some ⟨g,0,none⟩) n c) n (CG d'.toList)∧aj (fun k=>k=g) w (sortWorldK uD 3 w g 0 m d' os):=by
 rcases h.own.2 with⟨_,h0⟩|⟨g',cap,cur,he,hb,hg,hnc,hcm,hcs,htake⟩
 ·omega
 ·injection he with e1 e2 e3
  injection e1 with e1
  injection e1 with e4 e5
  subst e4 e3
  have hlt:g<w.heap.size:=lt_of_block hg
  have hnew:w0.heap.size≤g:=h.new g rfl
  have hF:(flatK uD 3 d').size=n*3:=by rw[size_flatK,hd]
  have hblk:(sortWorldK uD 3 w g 0 m d' os).heap[g]?=some (.cells (putCells id 0 (flatK uD 3 d') cur) e (0,0)):=by
   unfold sortWorldK putRowK
   rw[heap_grow_old _ _ (by unfold putRow mapBlock;simpa[Sort.ahead]using hlt)]
   show((Sort.ahead w m).heap.modify g (onCells _))[g]?=_
   rw[Array.getElem?_modify,if_pos rfl]
   show Option.map _ (w.heap[g]?)=_
   rw[hg]
   rfl
  have hcur:(flatK uD 3 d').size≤cur.size:=by rw[hF,hcs];exact Nat.mul_le_mul_right _ hnc
  have hfr:aj (fun k=>k=g) w (sortWorldK uD 3 w g 0 m d' os):=⟨rfl,rfl,rfl,by
   unfold sortWorldK putRowK
   rw[size_grow]
   show w.heap.size≤(w.heap.modify g _).size+_
   rw[Array.size_modify];omega,fun k hk hn=>by
   unfold sortWorldK putRowK
   rw[heap_grow_old _ _ (by unfold putRow mapBlock;simpa[Sort.ahead]using hk)]
   show(w.heap.modify g (onCells _))[k]?=_
   rw[Array.getElem?_modify,if_neg (fun e=>hn e.symm)]⟩
  refine⟨⟨⟨by rw[Xg];simp[hd], .inr ⟨g,c,_,rfl,hb,hblk,hnc,hcm,by simp[putCells,hcs],?_⟩⟩,h.new,?_⟩,hfr⟩
  ·rw[←hF,Vf _ _ hcur,aeJ]
  ·exact h.aI.trans (T:=fun k=>k=g) hfr (fun i hi he=>by have he:i=g:=he;omega)
theorem aeL {d d':Array qQ} (h:PermIn 0 d.size d d'):d'.toList.Perm d.toList:=by
 have h1:=h.2.2
 have hs:=h.1
 have e1:(d'.extract 0 d.size).toList=d'.toList:=by rw[←hs];simp
 have e2:(d.extract 0 d.size).toList=d.toList:=by simp
 rw[e1,e2]at h1
 exact h1
theorem aeM {d:Array qQ} (h:SortedIn (ltOf cmpK) 0 d.size d):d.toList.Pairwise (fun a b=>dL b.1.key a.1.key=false):=by
 rw[List.pairwise_iff_getElem]
 intro i j hi hj hij
 have hi':i<d.size:=by simpa using hi
 have hj':j<d.size:=by simpa using hj
 have:=h i j (Nat.zero_le _) hij hj'
 rw[K_,getElem!_pos d i hi',getElem!_pos d j hj']at this
 simpa using this
theorem aeN (s t:ByteArray) (a0 a1 b0 b1:Option Addr) (n0 n1 c0 c1 m0 m1 d0 d1:Nat) (W:World):Calls Tryz.prog 48 #[.agg #[.string s, .slice a0 n0 c0, .slice a1 n1 c1], .agg #[.string t, .slice b0 m0 d0, .slice b1 m1 d1]] W fun e w'=>e= .returned (.int .i64 (if dL s t=true then-1 else 1))∧∃q os',w'=grow (W.drewN q) os':=by
 cases hst:dL s t with
 |true=>
  have h2:Op.bytesLess s.toList t.toList=true:=hst
  go_enter Tryz.func48,Tryz.ntmps48
  go_wp2
  go_ret
  exact⟨rfl,0,_,by rw[alloc_eq_grow,alloc_eq_grow,grow_grow];rfl⟩
 |false=>
  have h2:Op.bytesLess s.toList t.toList=false:=hst
  go_enter Tryz.func48,Tryz.ntmps48
  go_wp2
  go_ret
  exact⟨rfl,0,_,by rw[alloc_eq_grow,alloc_eq_grow,grow_grow];rfl⟩
theorem aeO (w0 w:World) (v:Value) (n:Nat) (l:List dh) (h:OwnAt w0 w 52 3 v n (l.flatMap dh.cells)) (hl:l.length=n) (hn:n≤1000000) (hs:∀q∈l,q.shaped):
 Calls Tryz.prog 47 #[v, .func (.func 48) #[] #[]] w fun e w'=>e= .returned (.tuple #[])∧∃l':List dh,l'.Perm l∧l'.Pairwise (fun a b=>dL b.key a.key=false)∧OwnAt w0 w' 52 3 v n (l'.flatMap dh.cells)∧aj (eG v) w w':=by
 have eg:∀args w,(callFunc 48 args).run Tryz.prog w= .ok (.enter 48 args) w:=enters_of Tryz.func48 (by kernel_rfl) rfl
 obtain⟨L,hL⟩:∃L:List qQ,L.map Subtype.val=l:=⟨l.pmap Subtype.mk hs,by simp[List.map_pmap]⟩
 subst hL
 clear hs
 rw[←Qv]at h
 rw[List.length_map]at hl
 rcases Nat.eq_zero_or_pos n with rfl|h0
 ·obtain⟨a,c,rfl⟩:=h.shape
  obtain rfl:L=[]:=List.eq_nil_of_length_eq_zero hl
  exact(AnyF.slices_SortFunc_none Tryz.kidSortL a c _ w).mono fun _ _ ⟨he,hw⟩=>⟨he,[],List.Perm.refl _,List.Pairwise.nil,by rw[hw];exact h,by rw[hw];exact aj.refl _ _⟩
 ·obtain⟨g',c',rfl,_,hlt,_⟩:=h.row h0
  have hc:=AnyQ.slices_SortFunc Tryz.kidSortL 3 Tryz.isAgg52 Tryz.sizeOf52 uD (fun _=>rfl) (fun x v hv=>by
   obtain⟨q,⟨a0,n0,c0,e0⟩,a1,n1,c1,e1⟩:=x
   simp[uD,dh.cells]at hv
   rcases hv with rfl|rfl|rfl
   ·rfl
   ·rw[e0];rfl
   ·rw[e1];rfl) cmpK swoK 48 #[] g' 0 c' L.toArray w eg (fun _ _ _ _ x y=>by
   obtain⟨⟨k0,_,_,ev,kv⟩,⟨a0,n0,c0,e0⟩,a1,n1,c1,e1⟩:=x
   obtain⟨⟨k0',_,_,ev',kv'⟩,⟨a0',Ad,c0',e0'⟩,a1',n1',c1',e1'⟩:=y
   simp only at e0 e1 e0' e1'
   subst e0 e1 e0' e1'
   exact aeN k0 k0' a0 a1 a0' a1' n0 n1 c0 c1 Ad n1' c0' c1' _) (h.aeI h0 hl) hlt (by simp;omega)
  have hs:L.toArray.size=n:=by simpa using hl
  rw[hs]at hc
  refine Calls.mono hc fun e w' ⟨he,d',m,os,hp,hq,hw⟩=>?_
  have hd:d'.size=n:=by rw[hp.1,hs]
  obtain⟨o1,o2⟩:=h.aeK d' hd h0 m os
  refine⟨he,d'.toList.map Subtype.val,?_,?_,?_,?_⟩
  ·have:=aeL (d:=L.toArray) (d':=d') (by rw[hs];exact hp)
   exact this.map _
  ·exact List.pairwise_map.2 (aeM (by rw[hd];exact hq))
  ·rw[hw,←Qv]
   exact o1
  ·rw[hw]
   exact o2.mono fun k _ e=>by subst e;rfl
open Go.RowKit
theorem nY (x:Int) (l:List Int):(dG x l=-1∧x∉l)∨∃k,k<l.length∧dG x l=k∧l.getD k 0=x:=by
 by_cases h:l.findIdx (fun y=>y==x)<l.length
 ·refine .inr ⟨_,h,by unfold dG;rw[if_pos h],?_⟩
  rw[getD_at 0 h]
  simpa using List.findIdx_getElem (w:=h)
 ·refine .inl ⟨by unfold dG;rw[if_neg h],fun hm=>h ?_⟩
  exact List.findIdx_lt_length.2 ⟨x,hm,by simp⟩
theorem iO {w:World} {a b:Nat} {c1 c2:Array Value} {t1 t2:TypeId} {f1 f2:Nat×Nat} (h1:w.heap[a]?=some (.cells c1 t1 f1)) (h2:w.heap[b]?=some (.cells c2 t2 f2)) (ht:t1≠t2):a≠b:=fun e=>by
 subst e
 rw[h1]at h2
 injection h2 with h2
 injection h2 with _ h2 _
 exact ht h2
theorem Qw (x:Int) (l:List cO) (b:Nat) (w:World) (v:Value) (h:Rd w v l.length (l.flatMap cO.cells)) (hs:∀q∈l,q.shaped) (hl:l.length≤100000) (hb:w.cell? ⟨b,1,none⟩=some v) (hp:dG x (l.map cO.id)=-1):
 Calls Tryz.prog 23 #[.pointer (some ⟨b,0,none⟩), .int .i64 x] w fun e w'=>e= .returned (.bool false)∧aj aF w w':=by
 have HA:=ah (hp▸Cm x l b w v h hs hl hb)
 clear h hs hl hb hp
 go_enter Tryz.func23,Tryz.ntmps23
 go_wp2_with(go_at_call 38;refine HA.out.mono ?_;rintro e w1 ⟨rfl,hw1⟩;have HW1:=ah hw1;clear hw1)
 go_ret
 exact⟨rfl,HW1.out⟩
section
variable {L:Nat→Prop} {w w':World} {b n vb:Nat} {sv:Value} {vs:List aU} {rs:List bC}
theorem dW.drop {g c m k:Nat} {w2:World} (h:dW L w b n vb (.slice (some ⟨g,0,none⟩) (m+1) c) vs rs) (f:aj (eG (.slice (some ⟨g,0,none⟩) (m+1) c)) w w2)
 (own:w2.ownsRow 0 86 3 (.slice (some ⟨g,0,none⟩) m c) m (((rs.map (bC.q n)).eraseIdx k).flatMap cO.cells)) (hl:rs.length=m+1) (hk:k≤m):
 w2.heap[b]?=some (.cells #[.slice (some ⟨vb,0,none⟩) n n, .slice (some ⟨g,0,none⟩) (m+1) c] 81 (0,0))∧
 dW L (w2.setCell ⟨b,1,none⟩ (.slice (some ⟨g,0,none⟩) m c)) b n vb (.slice (some ⟨g,0,none⟩) m c) vs (rs.eraseIdx k)∧aj L w (w2.setCell ⟨b,1,none⟩ (.slice (some ⟨g,0,none⟩) m c)):=by
 have hg:∃cur,w.heap[g]?=some (.cells cur 86 (0,0)):=by
  rcases h.own.2 with⟨h1,_⟩|⟨g',cap',cur,h1,_,h2,_⟩
  ·cases h1
  ·injection h1 with h1 _ _
   injection h1 with h1
   injection h1 with h1 _ _
   subst h1
   exact⟨cur,h2⟩
 obtain⟨cur,hg⟩:=hg
 have gb:b≠g:=iO h.box hg (by decide)
 have hbox:w2.heap[b]?=some (.cells #[.slice (some ⟨vb,0,none⟩) n n, .slice (some ⟨g,0,none⟩) (m+1) c] 81 (0,0)):=f.blk h.box fun s=>gb (by unfold eG at s;simp[Value.ownBlock]at s;exact s.symm)
 have gL:L g:=h.sL g rfl
 have f3:aj (fun k=>k=g∨k=b) w (w2.setCell ⟨b,1,none⟩ (.slice (some ⟨g,0,none⟩) m c)):=
  (f.mono (T:=fun k=>k=g∨k=b) fun k _ s=> .inl (by unfold eG at s;simp[Value.ownBlock]at s;exact s.symm)).trans (aj.setCell (S:=fun k=>k=g∨k=b) w2 (p:=⟨b,1,none⟩) (.inl (.inr rfl)) _) fun _ _ h=>h
 have ft:∀k,k<w.heap.size→¬L k→(w2.setCell ⟨b,1,none⟩ (.slice (some ⟨g,0,none⟩) m c)).heap[k]?=w.heap[k]?∧¬L k:=fun k hk hl=>⟨f3.block k hk fun e=>hl (e.elim (fun e=>e▸gL) fun e=>e▸h.bL),hl⟩
 have fo:∀ {k:Nat} {o:Array Value} {t:TypeId},w.heap[k]?=some (.cells o t (0,0))→t≠86→t≠81→(w2.setCell ⟨b,1,none⟩ (.slice (some ⟨g,0,none⟩) m c)).heap[k]?=w.heap[k]?:=fun hk h1 h2=>f3.block _ (lt_of_block hk) fun e=>e.elim (iO hk hg h1) (iO hk h.box h2)
 refine⟨hbox,?_,f3.mono fun k _ e=>e.elim (fun e=>e▸gL) fun e=>e▸h.bL⟩
 have hsz:(w2.setCell ⟨b,1,none⟩ (.slice (some ⟨g,0,none⟩) m c)).heap.size=w2.heap.size:=by simp[World.setCell]
 have yL:(w2.setCell ⟨b,1,none⟩ (.slice (some ⟨g,0,none⟩) m c)).ownsRow 0 86 3 (.slice (some ⟨g,0,none⟩) m c) m (((rs.map (bC.q n)).eraseIdx k).flatMap cO.cells):=
  (aj.setCell (S:=fun k=>k=b) w2 (p:=⟨b,1,none⟩) (.inl rfl) _).owns own fun k hk e=>gb (by simp[Value.ownBlock]at hk;omega)
 have hle:(rs.eraseIdx k).length=m:=by rw[List.length_eraseIdx_of_lt (by omega),hl];rfl
 have he:(rs.map (bC.q n)).eraseIdx k=(rs.eraseIdx k).map (bC.q n):=by simp only[List.eraseIdx_eq_take_drop_succ,List.map_append,List.map_take,List.map_drop]
 refine⟨h.n1,h.n4,fun k hk=>by have:=h.Ls k hk;have:=f.size;omega,?_,h.bL,h.vis.turn ft (fo h.vis.blk (by decide) (by decide)),h.vL,by rw[hle,←he];exact yL,fun k hk=>h.sL k hk,fun r hr=>?_,?_,?_,?_,by rw[hle];have:=h.few;omega⟩
 ·exact eY hbox 1 _
 ·have hs:=h.jJ r (List.mem_of_mem_eraseIdx hr)
  exact hs.turn ft (fun _ h=>h) (fo hs.part.blk (by decide) (by decide)) (fo hs.is (by decide) (by decide))
 ·exact h.pd.sublist ((List.eraseIdx_sublist rs k).map _)
 ·exact h.CB.sublist ((List.eraseIdx_sublist rs k).map _)
 ·exact h.ids.sublist ((List.eraseIdx_sublist rs k).map _)
theorem dW.shape (h:dW L w b n vb sv vs rs) {k:Nat} (hk:k<rs.length):∃g m c,rs.length=m+1∧sv= .slice (some ⟨g,0,none⟩) (m+1) c:=by
 obtain⟨m,hm⟩:∃m,rs.length=m+1:=⟨rs.length-1,by omega⟩
 rcases h.own.2 with⟨_,h0⟩|⟨g,cap,cur,h1,_⟩
 ·omega
 ·exact⟨g,m,cap,hm,by rw[h1,hm]⟩
theorem aeP (x:Int) (h:dW L w b n vb sv vs rs) (k:Nat) (hk:k<rs.length) (hp:dG x (rs.map bC.id)=k):
 Calls Tryz.prog 23 #[.pointer (some ⟨b,0,none⟩), .int .i64 x] w fun e w'=>e= .returned (.bool true)∧aj L w w'∧∃sv',dW L w' b n vb sv' vs (rs.eraseIdx k):=by
 obtain⟨g,m,c,hl,rfl⟩:=h.shape hk
 have hfew:=h.few
 have hA:=Cm x (rs.map (bC.q n)) b w _ h.rd vH (by rw[List.length_map];omega) h.pq
 rw[Aw,hp]at hA
 have HA:=ah hA;clear hA
 have hll:(rs.map (bC.q n)).length=m+1:=by rw[List.length_map];exact hl
 have hkm:k≤m:=by omega
 have HD:=ah (fun W (f:aj aF w W)=>WS (rs.map (bC.q n)) g m c k W (by have:=(h.aS f).own;rwa [hl]at this) hll vH hkm (by omega))
 have HC:=ah (fun W (f:aj aF w W)=>(h.aS f).pq)
 have HX:=ah (fun W W2 (f:aj aF w W) f2 o2=>(h.aS f).drop (k:=k) (w2:=W2) f2 o2 hl hkm)
 have vC:=ah (fun W (f:aj aF w W)=>f.mono (T:=L) fun _ _ h=>h.elim)
 have hm4:m≤1000:=by omega
 clear h hl hk hp hll hfew
 go_enter Tryz.func23,Tryz.ntmps23
 go_wp2_with(first
  |(go_at_call 38;refine HA.out.mono ?_;rintro e w1 ⟨rfl,hw1⟩;have y0:=HC.out _ hw1;have hb0:=World.block_lt_of_cell? _ _ y0;have HW1:=ah hw1;clear hw1)
  |(go_at_call 42;refine(HD.out _ HW1.out).mono ?_;rintro e w2 ⟨rfl,ho,hf⟩;clear y0 hb0;have uj:=ah (HX.out _ _ HW1.out hf ho);clear hf ho;have y1:=aG uj.out.1 1 rfl;have g1:=aW uj.out.1 1;have hb1:=lt_of_block uj.out.1))
 go_ret
 exact⟨rfl,(vC.out _ HW1.out).trans uj.out.2.2 fun _ _ h=>h,_,uj.out.2.1⟩
end
end Go.Proofs.YtlhmbkjdfjoilaaGreat
