/- Words for the law ShSet: JoinO, ShP, Sh8, KidLay, Sh16, Sh9. -/
import Derived.Test.YtlhmbkjdfjoilaaGreatShSetG0
import Derived.Test.YtlhmbkjdfjoilaaGreatShSetG5
import Derived.Test.YtlhmbkjdfjoilaaGreatShSetG14
import Derived.Test.YtlhmbkjdfjoilaaGreatShSetG15
import Derived.Shelf.SlSortCmp.WholeK
import Derived.Ground.SlsfProg
import Derived.Test.YtlhmbkjdfjoilaaGreatProg
import Derived.Shelf.SlSortCmp.NoneTotal
set_option linter.unusedSimpArgs false
set_option linter.unusedVariables false
set_option maxHeartbeats 32000000
set_option maxRecDepth 1000000
namespace Go.Proofs.YtlhmbkjdfjoilaaGreat
theorem J_ {key:ByteArray} {a:Nat} {r:ByteArray→Nat}:∀ {M:List ByteArray},M.Nodup→(M.map fun k=>if key=k then a else r k).sum≤a+(M.map r).sum
 |[],_=>by simp
 |x::M,h=>by
  obtain⟨h1,h2⟩:=List.nodup_cons.1 h
  simp only[List.map_cons,List.sum_cons]
  by_cases e:key=x
  ·subst e
   have:(M.map fun k=>if key=k then a else r k)=M.map r:=List.map_congr_left fun k hk=>if_neg fun e=>h1 (by rw[e];exact hk)
   rw[this,if_pos rfl];omega
  ·have:=J_ (key:=key) (a:=a) (r:=r) h2
   rw[if_neg e];omega
def jX (t:List aG×aH):Nat:=sizeT t.1 t.2
theorem Ko:∀M:List ByteArray,(M.map fun _=>0).sum=0
 |[]=>rfl
 |_::M=>by simp only[List.map_cons,List.sum_cons,Ko M]
theorem Ez:∀(ks:aH) {M:List ByteArray},M.Nodup→(M.map fun k=>jX (ks.find k)).sum+ks.len≤dF ks
 | .nil,M,_=>by
   have:(M.map fun k=>jX (aH.find k .nil))=M.map fun _=>0:=rfl
   rw[this,Ko];simp[aH.len]
 | .cons key es sub rest,M,h=>by
   have ih:=Ez rest h
   have e:(M.map fun k=>jX ((aH.cons key es sub rest).find k))=M.map fun k=>if key=k then sizeT es sub else jX (rest.find k):=List.map_congr_left fun k _=>by
    show jX (if key=k then(es,sub)else rest.find k)=_
    split<;>rfl
   have:=J_ (key:=key) (a:=sizeT es sub) (r:=fun k=>jX (rest.find k)) h
   rw[e]
   simp only[aH.len,dF]
   unfold sizeT at this⊢
   omega
theorem Kq (F:ByteArray→List aG×aH):∀M:List ByteArray,dF (dY F M)≤(M.map fun k=>jX (F k)).sum+M.length
 |[]=>by simp[dY,dF]
 |k::M=>by
  have ih:=Kq F M
  unfold dY jl
  split
  ·simp only[List.map_cons,List.sum_cons,List.length_cons];omega
  ·simp only[List.map_cons,List.sum_cons,List.length_cons,dF,jX,sizeT]at*;omega
theorem Ue {l:List ByteArray} (o:ig l):l.Nodup:=o.imp fun {a b} h e=>by rw[e,lJ]at h;cases h
theorem Uf (M:List ByteArray) (f g h:ByteArray→Nat) (hf:∀k∈M,f k≤g k+h k):(M.map f).sum≤(M.map g).sum+(M.map h).sum:=by
 induction M with
 |nil=>simp
 |cons k M ih=>
  have h1:=hf k (by simp)
  have h2:=ih fun x hx=>hf x (by simp[hx])
  simp only[List.map_cons,List.sum_cons];omega
theorem EC (ha hb:Int→Int→Bool):∀(n:Nat) (a b:List aG×aH),aY n a.1 a.2=true→aY n b.1 b.2=true→jX (gW ha hb n a b)≤jX a+jX b
 |0,_,_,h,_=>by simp[aY]at h
 |n+1,a,b,h1,h2=>by
  obtain⟨_,k1⟩:=vI h1
  obtain⟨_,k2⟩:=vI h2
  have o1:=(o_ _ _ _ k1).1
  have o2:=(o_ _ _ _ k2).1
  have om:=Ue (xE o1 o2)
  have e:=Jm ha hb a.1 b.1
  have s:=Kq (fun k=>gW ha hb n (a.2.find k) (b.2.find k)) (iI a.2.keys b.2.keys)
  have l:=Jo a.2.keys b.2.keys
  have s1:=Ez a.2 om
  have s2:=Ez b.2 om
  have st:=Uf (iI a.2.keys b.2.keys) (fun k=>jX (gW ha hb n (a.2.find k) (b.2.find k))) (fun k=>jX (a.2.find k)) (fun k=>jX (b.2.find k)) fun k hk=>by
   have hd:1≤n:=by
    rcases(oZ _ _ _).1 hk with g|g
    ·exact xM k1 g
    ·exact xM k2 g
   exact EC ha hb n _ _ (xK k1 hd) (xK k2 hd)
  rw[aH.nM,aH.nM]at l
  show sizeT (eG ha hb a.1 b.1) (dY (fun k=>gW ha hb n (a.2.find k) (b.2.find k)) (iI a.2.keys b.2.keys))≤sizeT a.1 a.2+sizeT b.1 b.2
  unfold sizeT
  omega
theorem Ug {e:aG} (h:dW e=true):e.fits:=by
 simp only[dW,kR,Bool.and_eq_true,decide_eq_true_eq]at h
 unfold aG.fits
 omega
theorem Kr {es:List aG} (h:eP none es=true):∀e∈es,e.fits:=fun e he=>Ug ((Jb.1 h).1 e he)
theorem ED:∀(ks:aH) (d:Nat) (p:Option ByteArray),fQ ks d p=true→dF ks≤100000→ks.Ok
 | .nil,_,_,_,_=>trivial
 | .cons key es sub rest,d,p,h,hs=>by
   rw[oQ]at h
   simp only[Bool.and_eq_true]at h
   obtain⟨⟨⟨⟨h1,h2⟩,h3⟩,h4⟩,h5⟩:=h
   simp only[aY,Bool.and_eq_true]at h4
   simp only[dF]at hs
   have hk:key.size≤30:=by simp only[lg,decide_eq_true_eq]at h1;omega
   have hl:=kV sub
   exact⟨by omega,⟨by omega,Kr h4.1.2⟩,by omega,ED sub _ _ h4.2 (by omega),ED rest _ _ h5 (by omega)⟩
theorem EF {d:Nat} {es:List aG} {ks:aH} (h:aY d es ks=true) (hs:sizeT es ks≤100000):iE es ks:=by
 simp only[aY,Bool.and_eq_true]at h
 have hl:=kV ks
 unfold sizeT at hs
 exact⟨⟨by omega,Kr h.1.2⟩,by omega,ED ks _ _ h.2 (by omega)⟩
theorem Kt {c:aV} (h:bY c):g_ c:=fun s hs=>by
 have hd:∀ {c:aV} {lo:Int},eH lo c→s∈c→lo≤s.1∧s.1<4:=by
  intro c
  induction c with
  |nil=>intro lo _ hm;cases hm
  |cons x c ih=>
   intro lo h hm
   rcases List.mem_cons.1 hm with rfl|hm
   ·exact⟨h.1,h.2.1⟩
   ·have:=ih h.2.2 hm;have:=h.1;omega
 obtain⟨h0,h4⟩:=hd h.1 hs
 have hp:=h.2 s.1 h0 h4
 have hm:s.2∈aZ c s.1:=by
  unfold aZ
  exact List.mem_map.2 ⟨s,List.mem_filter.2 ⟨hs,by simp⟩,rfl⟩
 have g1:=iT hp.1 _ hm
 have g2:=hp.2 _ hm
 omega
theorem Uh {a b u:aS} (ha:dS 1 a) (hb:dS 1 b) (hu:dS 1 u) (h:∀n,aX u n↔aX a n∨aX b n):u.length≤a.length+b.length:=by
 have before:∀ {l:aS} {lo:Int},dS lo l→∀r∈l,¬aX l (r.1-1):=by
  intro l
  induction l with
  |nil=>intro lo _ r hr;cases hr
  |cons x l ih=>
   intro lo hl r hr hi
   rcases List.mem_cons.1 hr with rfl|hr
   ·rcases(jE _ _ _).1 hi with g|g
    ·omega
    ·have:=pX hl.2.2 g;have:=hl.2.1;omega
   ·have hx:=iT hl.2.2 r hr
    rcases(jE _ _ _).1 hi with g|g
    ·omega
    ·exact ih hl.2.2 r hr g
 have start:∀ {l:aS} {n:Int},aX l n→¬aX l (n-1)→n∈l.map (·.1):=fun {l n} ⟨r,hr,h1,h2⟩ hn=>by
  refine List.mem_map.2 ⟨r,hr,?_⟩
  rcases Int.lt_or_eq_of_le h1 with g|g
  ·exact absurd ⟨r,hr,by omega,by omega⟩ hn
  ·exact g
 have hn:=zu hu
 have:=zq (l:=a.map (·.1)++b.map (·.1)) hn fun x hx=>by
  obtain⟨r,hr,rfl⟩:=List.mem_map.1 hx
  have h1:aX u r.1:=⟨r,hr,Int.le_refl _,(iT hu r hr).2⟩
  have h2:=before hu r hr
  rw[h]at h1
  have h2:¬(aX a (r.1-1)∨aX b (r.1-1)):=fun g=>h2 ((h _).2 g)
  rcases h1 with h1|h1
  ·exact List.mem_append_left _ (start h1 fun g=>h2 (.inl g))
  ·exact List.mem_append_right _ (start h1 fun g=>h2 (.inr g))
 simpa using this
theorem Ui (p:Int→aS):(jh p).length=(p 0).length+((p 1).length+((p 2).length+(p 3).length)):=by simp[jh,dR]
theorem Ku {a b u:aV} (ha:bY a) (hb:bY b) (h:iC 0 a b u):u.length≤a.length+b.length:=by
 have hd:∀d,0≤d→d<4→(aZ u d).length≤(aZ a d).length+(aZ b d).length:=fun d h0 h4=>
  Uh (ha.2 d h0 h4).1 (hb.2 d h0 h4).1 (h.right.2 d h0 h4).1 fun n=>by
   have:=h.mem d n h0 h4
   unfold dO iy at this
   simpa using this
 have e:∀ {c:aV},bY c→c.length=(aZ c 0).length+((aZ c 1).length+((aZ c 2).length+(aZ c 3).length)):=fun {c} hc=>by
  conv=>lhs;rw[←sG (Int.le_refl 0) hc.1]
  exact Ui _
 rw[e ha,e hb,e h.right]
 have g0:=hd 0 (by decide) (by decide)
 have g1:=hd 1 (by decide) (by decide)
 have g2:=hd 2 (by decide) (by decide)
 have g3:=hd 3 (by decide) (by decide)
 omega
section
variable {es es':List aG} {ks ks':aH} {c c' u:aV}
theorem Kv (h:fG es ks c) (h':fG es' ks' c') (hu:iC 0 c c' u):fG (lM es ks c es' ks' c').1 (lM es ks c es' ks' c').2 u:=by
 refine⟨QI _ _ 5 5 (es,ks) (es',ks') (Nat.le_refl _) h.tree h'.tree,hu.right,fun r hr=>?_⟩
 have hin:∀ {a:aV},bY a→iy a r.1 r.2→0≤r.1∧r.1<4:=fun {a} ha hi=>by
  obtain⟨x,hx,_⟩:=hi
  unfold aZ at hx
  obtain⟨s,hs,rfl⟩:=List.mem_map.1 hx
  obtain⟨hs,he⟩:=List.mem_filter.1 hs
  have hd:∀ {c:aV} {lo:Int},eH lo c→s∈c→lo≤s.1∧s.1<4:=by
   intro c
   induction c with
   |nil=>intro lo _ hm;cases hm
   |cons x c ih=>
    intro lo h hm
    rcases List.mem_cons.1 hm with rfl|hm
    ·exact⟨h.1,h.2.1⟩
    ·have:=ih h.2.2 hm;have:=h.1;omega
  have:=hd ha.1 hs
  have he:s.1=r.1:=by simpa using he
  omega
 have hr:r∈dX (gW (fJ c) (fJ c') 5 (es,ks) (es',ks')).1 (gW (fJ c) (fJ c') 5 (es,ks) (es',ks')).2:=hr
 rcases Je _ _ r _ _ _ hr with g|g
 ·have g2:=h.dots r g
  obtain⟨h0,h4⟩:=hin h.ctx g2
  exact(hu.mem _ _ h0 h4).2 (by unfold dO;simp[g2])
 ·have g2:=h'.dots r g
  obtain⟨h0,h4⟩:=hin h'.ctx g2
  exact(hu.mem _ _ h0 h4).2 (by unfold dO;simp[g2])
theorem Uj (h:fG es ks c) (h':fG es' ks' c') (hu:iC 0 c c' u) (s:sizeT es ks+sizeT es' ks'≤2000) (l:c.length+c'.length≤2000):jB (lM es ks c es' ks' c').1 (lM es ks c es' ks' c').2 u:=by
 have hs:jX (gW (fJ c) (fJ c') 5 (es,ks) (es',ks'))≤sizeT es ks+sizeT es' ks':=EC _ _ 5 _ _ h.tree h'.tree
 have hr:=Kv h h' hu
 have hs2:sizeT (lM es ks c es' ks' c').1 (lM es ks c es' ks' c').2≤2000:=Nat.le_trans hs s
 exact⟨EF hr.tree (by omega),hs2,Kt hu.right,Nat.le_trans (Ku h.ctx h'.ctx hu) l⟩
end
end Go.Proofs.YtlhmbkjdfjoilaaGreat
namespace Go.Proofs.YtlhmbkjdfjoilaaGreat
abbrev dG:=aH×aV
structure Good (t:dG):Prop where
 ok:jB [] t.1 t.2
 right:fG [] t.1 t.2
theorem tV (p:ByteArray→Bool):∀ks:aH,(bF p ks).keys=ks.keys.filter p
 | .nil=>rfl
 | .cons key es sub rest=>by
   have ih:=tV p rest
   show(if p key=true then aH.cons key es sub (bF p rest)else bF p rest).keys=(key::rest.keys).filter p
   rw[List.filter_cons]
   split
   ·show key::(bF p rest).keys=_
    rw[ih]
   ·exact ih
theorem Kw (p:ByteArray→Bool) (s:ByteArray):∀ks:aH,(bF p ks).find s=if p s=true then ks.find s else([], .nil)
 | .nil=>by simp[bF,aH.find]
 | .cons key es sub rest=>by
   have ih:=Kw p s rest
   show aH.find s (if p key=true then aH.cons key es sub (bF p rest)else bF p rest)=if p s=true then(if key=s then(es,sub)else rest.find s)else([], .nil)
   by_cases hk:p key=true
   ·rw[if_pos hk]
    show(if key=s then(es,sub)else(bF p rest).find s)=_
    by_cases e:key=s
    ·subst e;simp[hk]
    ·simp only[if_neg e];exact ih
   ·rw[if_neg hk,ih]
    by_cases e:key=s
    ·subst e;simp[hk]
    ·simp only[if_neg e]
theorem Ky (p:ByteArray→Bool) (f:ByteArray→List aG×aH):∀M:List ByteArray,bF p (dY f M)=dY f (M.filter p)
 |[]=>rfl
 |k::M=>by
  have ih:=Ky p f M
  rw[List.filter_cons]
  show bF p (jl k (f k) (dY f M))=_
  by_cases hn:isNil (f k).1 (f k).2=true
  ·have e:∀r,jl k (f k) r=r:=fun r=>by unfold jl;rw[if_pos hn]
   rw[e,ih]
   split
   ·show _=jl k (f k) _
    rw[e]
   ·rfl
  ·have e:∀r,jl k (f k) r= .cons k (f k).1 (f k).2 r:=fun r=>by unfold jl;rw[if_neg hn]
   rw[e]
   show(if p k=true then aH.cons k (f k).1 (f k).2 (bF p (dY f M))else bF p (dY f M))=_
   rw[ih]
   split
   ·show _=jl k (f k) _
    rw[e]
   ·rfl
theorem Ai {f g:ByteArray→List aG×aH}:∀ {M:List ByteArray},(∀k∈M,f k=g k)→dY f M=dY g M
 |[],_=>rfl
 |k::M,h=>by
  show jl k (f k) (dY f M)=jl k (g k) (dY g M)
  rw[h k (by simp),Ai fun x hx=>h x (by simp[hx])]
theorem Uk (p:ByteArray→Bool) {a b:List ByteArray} (oa:ig a) (ob:ig b):(iI a b).filter p=iI (a.filter p) (b.filter p):=by
 refine Dy ((xE oa ob).filter p) (xE (oa.filter p) (ob.filter p)) fun k=>?_
 simp only[List.mem_filter,oZ]
 constructor
 ·rintro⟨h|h,hp⟩
  ·exact .inl ⟨h,hp⟩
  ·exact .inr ⟨h,hp⟩
 ·rintro(⟨h,hp⟩|⟨h,hp⟩)
  ·exact⟨.inl h,hp⟩
  ·exact⟨.inr h,hp⟩
noncomputable def qI (a b:dG):aH:=dY (fun k=>gW (fJ a.2) (fJ b.2) 4 (a.1.find k) (b.1.find k)) (iI a.1.keys b.1.keys)
theorem Aj (a b:dG):lM [] a.1 a.2 [] b.1 b.2=([],qI a b):=by
 show(eG _ _ [] [],_)=_
 rw[eG]
 rfl
theorem Ak {t:dG} (h:Good t):ig t.1.keys:=(o_ _ _ _ (vI h.right.tree).2).1
theorem Ul (p:ByteArray→Bool) {a b:dG} (ha:ig a.1.keys) (hb:ig b.1.keys):bF p (qI a b)=qI (bF p a.1,a.2) (bF p b.1,b.2):=by
 unfold qI
 rw[Ky,Uk p ha hb,←tV,←tV]
 refine Ai fun k hk=>?_
 have hp:p k=true:=by
  rw[oZ,tV,tV,List.mem_filter,List.mem_filter]at hk
  rcases hk with h|h<;>exact h.2
 simp only[Kw,if_pos hp]
open Classical in
noncomputable def rU (c c':aV):aV:=if h:∃u,iC 0 c c' u then h.choose else []
theorem xX {c c' u:aV} (h:iC 0 c c' u):rU c c'=u:=by
 unfold rU
 rw[dif_pos ⟨u,h⟩]
 exact(Exists.choose_spec (p:=fun u=>iC 0 c c' u) ⟨u,h⟩).one h
theorem Um {a b:aS} (ha:bM a) (hb:bM b):∃u,bM u∧∀n,aX u n↔aX a n∨aX b n:=by
 have bd:∀ {l:aS},bM l→∀r∈l,1≤r.1∧r.1≤r.2∧r.2≤1099511627776:=fun h r hr=>by
  have h1:=iT h.1 r hr
  have h2:=h.2 r hr
  omega
 have hj:=wL (l:=a++b) (l':=(a++b).mergeSort fun x y=>decide (x.1≤y.1)) (List.mergeSort_perm _ _) (by
  have:=List.pairwise_mergeSort (le:=fun x y:Int×Int=>decide (x.1≤y.1)) (fun x y z h h'=>by simp at*;omega) (fun x y=>by simp;omega) (a++b)
  exact this.imp fun {x y} h=>by simpa using h) fun r hr=>by
   rcases List.mem_append.1 hr with h|h
   ·exact bd ha r h
   ·exact bd hb r h
 exact⟨_,hj.1,fun n=>by rw[hj.2.1,wz]⟩
theorem Kz {c c':aV} (h:bY c) (h':bY c'):iC 0 c c' (rU c c'):=by
 have ex:∀d,∃u:aS,0≤d→d<4→bM u∧∀n,aX u n↔aX (aZ c d) n∨aX (aZ c' d) n:=fun d=>by
  by_cases hd:0≤d∧d<4
  ·obtain⟨u,hu⟩:=Um (h.2 d hd.1 hd.2) (h'.2 d hd.1 hd.2)
   exact⟨u,fun _ _=>hu⟩
  ·exact⟨[],fun h0 h4=>absurd ⟨h0,h4⟩ hd⟩
 have hw:iC 0 c c' (jh fun d=>(ex d).choose):=iC.whole (fun d h0 h4=>((ex d).choose_spec h0 h4).1) fun d n h0 h4=>by
  rw[((ex d).choose_spec h0 h4).2 n]
  unfold dO iy
  simp
 rw[xX hw]
 exact hw
noncomputable def iV (a b:dG):dG:=(qI a b,rU a.2 b.2)
def kW (t:dG):Nat:=dF t.1
theorem KA {a b:dG} (ha:Good a) (hb:Good b):kW (iV a b)≤kW a+kW b∧(iV a b).2.length≤a.2.length+b.2.length:=by
 refine⟨?_,Ku ha.right.ctx hb.right.ctx (Kz ha.right.ctx hb.right.ctx)⟩
 have hs:jX (lM [] a.1 a.2 [] b.1 b.2)≤sizeT [] a.1+sizeT [] b.1:=EC _ _ 5 _ _ ha.right.tree hb.right.tree
 rw[Aj]at hs
 simpa[jX,sizeT,kW,iV]using hs
theorem KC {a b:dG} (ha:Good a) (hb:Good b) (hs:kW a+kW b≤2000) (hl:a.2.length+b.2.length≤2000):Good (iV a b):=by
 have hu:=Kz ha.right.ctx hb.right.ctx
 have h1:=Kv ha.right hb.right hu
 have h2:=Uj ha.right hb.right hu (by simpa[sizeT,kW]using hs) hl
 rw[Aj]at h1 h2
 exact⟨h2,h1⟩
def eU:dG:=(.nil,[])
theorem Un:bY []:=⟨trivial,fun d _ _=>⟨trivial,fun r hr=>by cases hr⟩⟩
theorem EG:Good eU:=⟨⟨⟨⟨by decide,fun e he=>(by cases he)⟩,by decide,trivial⟩,by decide,fun s hs=>(by cases hs),by decide⟩,⟨rfl,Un,fun r hr=>(by cases hr)⟩⟩
theorem KD {ha hb:Int→Int→Bool} (h:∀d n,ha d n=false):∀b:List aG,eG ha hb [] b=b
 |[]=>by rw[eG]
 |y::b=>by
  rw[eG,KD h b]
  unfold jV
  rw[if_neg (by rw[h];simp)]
  rfl
theorem KE:∀(ks:aH) (d:Nat) (p:Option ByteArray),fQ ks d p=true→dY (fun k=>ks.find k) ks.keys=ks
 | .nil,_,_,_=>rfl
 | .cons key es sub rest,d,p,h=>by
   have o:=(o_ _ _ _ h).1
   rw[oQ]at h
   simp only[Bool.and_eq_true,Bool.not_eq_true']at h
   obtain⟨⟨⟨⟨h1,h2⟩,h3⟩,h4⟩,h5⟩:=h
   have ih:=KE rest d (some key) h5
   have e:dY (fun k=>(aH.cons key es sub rest).find k) rest.keys=dY (fun k=>rest.find k) rest.keys:=Ai fun k hk=>by
    show(if key=k then(es,sub)else rest.find k)=_
    refine if_neg fun e=>?_
    have:=(List.pairwise_cons.1 o).1 k hk
    rw[e,lJ]at this
    cases this
   show jl key (if key=key then(es,sub)else rest.find key) (dY (fun k=>(aH.cons key es sub rest).find k) rest.keys)=_
   rw[e,ih,if_pos rfl]
   unfold jl
   rw[if_neg (by rw[h3];simp)]
theorem KF {ha hb:Int→Int→Bool} (h:∀d n,ha d n=false):∀(n:Nat) (t:List aG×aH),aY n t.1 t.2=true→gW ha hb n ([], .nil) t=t
 |0,_,h=>by simp[aY]at h
 |n+1,(es,ks),hr=>by
  obtain⟨_,k1⟩:=vI hr
  show(eG ha hb [] es,dY (fun k=>gW ha hb n (aH.find k .nil) (ks.find k)) (iI [] ks.keys))=_
  rw[KD h]
  congr 1
  rw[show iI [] ks.keys=ks.keys by rw[iI]]
  conv=>rhs;rw[←KE ks _ _ k1]
  exact Ai fun k hk=>KF h n _ (xK k1 (xM k1 hk))
theorem Uo {t:dG} (h:Good t):iV eU t=t:=by
 have hb:iC 0 [] t.2 t.2:=⟨h.right.ctx,fun d n _ _=>by unfold dO iy;simp[aZ,jg]⟩
 have hk:gW (fJ []) (fJ t.2) 5 ([], .nil) ([],t.1)=([],t.1):=KF (fun d n=>by
  unfold fJ
  rw[bW (by unfold iy aZ;exact jg n)]
  simp) 5 _ h.right.tree
 have:=Aj eU t
 have e:lM [] eU.1 eU.2 [] t.1 t.2=([],t.1):=hk
 rw[e]at this
 injection this with _ this
 unfold iV
 rw[←this,show eU.2=[]from rfl,xX hb]
def gX (n:Nat) (t:dG):List dG:=(List.range n).map fun s:Nat=>(bF (cO n s) t.1,t.2)
theorem Ur (n:Nat) (t:dG):(gX n t).length=n:=by simp[gX]
theorem EH {n:Nat} (t:dG) {k:Nat} (h:k<n):(gX n t).getD k eU=(bF (cO n k) t.1,t.2):=by
 rw[getD_at _ (by rw[Ur];exact h)]
 simp[gX]
theorem Us {n:Nat} {a b:dG} (ha:Good a) (hb:Good b):List.zipWith iV (gX n a) (gX n b)=gX n (iV a b):=by
 unfold gX
 rw[List.zipWith_map,List.zipWith_self]
 refine List.map_congr_left fun s _=>?_
 show iV _ _=(bF (cO n s) (qI a b),rU a.2 b.2)
 rw[Ul _ (Ak ha) (Ak hb)]
 rfl
theorem Am (p:ByteArray→Bool):∀ks:aH,dF (bF p ks)≤dF ks
 | .nil=>Nat.le_refl _
 | .cons key es sub rest=>by
   have ih:=Am p rest
   show dF (if p key=true then aH.cons key es sub (bF p rest)else bF p rest)≤_
   split
   ·simp only[dF];omega
   ·simp only[dF];omega
theorem EI (p:ByteArray→Bool):∀ {ks:aH} {r:Int×Int},r∈gB (bF p ks)→r∈gB ks
 | .nil,_,h=>h
 | .cons key es sub rest,r,h=>by
   have h:r∈gB (if p key=true then aH.cons key es sub (bF p rest)else bF p rest):=h
   unfold gB
   split at h
   ·unfold gB at h
    rcases List.mem_append.1 h with h|h
    ·exact List.mem_append_left _ h
    ·exact List.mem_append_right _ (EI p h)
   ·exact List.mem_append_right _ (EI p h)
theorem Ut {d:Nat}:∀ {ks:aH} {p q:Option ByteArray},(∀s∈ks.keys,ltK q s=true)→fQ ks d p=true→fQ ks d q=true
 | .nil,_,_,_,_=>rfl
 | .cons key es sub rest,p,q,hq,h=>by
   rw[oQ]at h⊢
   simp only[Bool.and_eq_true]at h⊢
   exact⟨⟨⟨⟨h.1.1.1.1,hq key (by simp[aH.keys])⟩,h.1.1.2⟩,h.1.2⟩,h.2⟩
theorem KG (f:ByteArray→Bool) {d:Nat}:∀ {ks:aH} {p:Option ByteArray},fQ ks d p=true→fQ (bF f ks) d p=true
 | .nil,_,_=>rfl
 | .cons key es sub rest,p,h=>by
   have hk:=o_ _ _ _ h
   rw[oQ]at h
   simp only[Bool.and_eq_true]at h
   have ih:=KG f h.2
   show fQ (if f key=true then aH.cons key es sub (bF f rest)else bF f rest) d p=true
   split
   ·rw[oQ]
    simp only[Bool.and_eq_true]
    exact⟨h.1,ih⟩
   ·refine Ut (fun s hs=>?_) ih
    rw[tV]at hs
    exact(hk.2 s (by simp[aH.keys,(List.mem_filter.1 hs).1])).1
theorem Ap (p:ByteArray→Bool) {t:dG} (h:Good t):Good (bF p t.1,t.2):=by
 have hr:=h.right.tree
 have hs:sizeT [] (bF p t.1)≤2000:=by have:=Am p t.1;have:=h.ok.small;unfold sizeT at*;omega
 have ht:aY 5 [] (bF p t.1)=true:=by
  simp only[aY,Bool.and_eq_true]at hr⊢
  exact⟨hr.1,KG p hr.2⟩
 refine⟨⟨EF ht (Nat.le_trans hs (by decide)),hs,h.ok.fits,h.ok.len⟩,ht,h.right.ctx,fun r hr=>h.right.dots r ?_⟩
 unfold dX at hr⊢
 rcases List.mem_append.1 hr with g|g
 ·exact List.mem_append_left _ g
 ·exact List.mem_append_right _ (EI p g)
theorem Uu {n:Nat} {t:dG} (h:Good t):∀x∈gX n t,Good x:=fun x hx=>by
 obtain⟨s,_,rfl⟩:=List.mem_map.1 hx
 exact Ap _ h
theorem KH {p:ByteArray→Bool}:∀ {ks:aH},(∀s∈ks.keys,p s=true)→bF p ks=ks
 | .nil,_=>rfl
 | .cons key es sub rest,h=>by
   show(if p key=true then aH.cons key es sub (bF p rest)else bF p rest)=_
   rw[if_pos (h key (by simp[aH.keys])),KH fun s hs=>h s (by simp[aH.keys,hs])]
theorem EK (p:ByteArray→Bool) (ks:aH):bF p (bF p ks)=bF p ks:=KH fun s hs=>by
 rw[tV]at hs
 exact(List.mem_filter.1 hs).2
theorem Uw (n:Nat):gX n eU=List.replicate n eU:=by
 unfold gX
 show((List.range n).map fun _=>eU)=_
 rw[List.map_const',List.length_range]
abbrev xY:=ByteArray×List aG×aH
def gI:aH→List xY
 | .nil=> []
 | .cons key es sub rest=>(key,es,sub)::gI rest
theorem EL:∀ {a b:aH},gI a=gI b→a=b
 | .nil, .nil,_=>rfl
 | .nil, .cons ..,h=>by simp[gI]at h
 | .cons .., .nil,h=>by simp[gI]at h
 | .cons .., .cons ..,h=>by
   simp only[gI,List.cons.injEq,Prod.mk.injEq]at h
   obtain⟨⟨rfl,rfl,rfl⟩,h⟩:=h
   rw[EL h]
theorem Aq (p:ByteArray→Bool):∀ks:aH,gI (bF p ks)=(gI ks).filter fun x=>p x.1
 | .nil=>rfl
 | .cons key es sub rest=>by
   show gI (if p key=true then aH.cons key es sub (bF p rest)else bF p rest)=((key,es,sub)::gI rest).filter fun x=>p x.1
   rw[List.filter_cons]
   split
   ·show(key,es,sub)::gI (bF p rest)=_
    rw[Aq p rest]
   ·exact Aq p rest
theorem KI:∀ks:aH,(gI ks).map (·.1)=ks.keys
 | .nil=>rfl
 | .cons key es sub rest=>by show key::(gI rest).map (·.1)=_;rw[KI rest];rfl
theorem Ar:∀l:List bg,gI (mkK l)=l.map fun q=>(q.key,q.es,q.sub)
 |[]=>rfl
 |q::l=>by show(q.key,q.es,q.sub)::gI (mkK l)=_;rw[Ar l];rfl
theorem KJ {α:Type} (f:α→Int) (L:List α):∀n:Nat,((List.range n).flatMap fun s:Nat=>L.filter fun x=>decide (f x=(s:Int))).Perm (L.filter fun x=>decide (0≤f x∧f x<(n:Int)))
 |0=>by
  rw[List.filter_eq_nil_iff.2 (fun x _=>by simp only[decide_eq_true_eq];omega)]
  exact List.Perm.refl _
 |n+1=>by
  rw[List.range_succ,List.flatMap_append]
  refine((KJ f L n).append_right _).trans ?_
  have e1:L.filter (fun x=>decide (0≤f x∧f x<(n:Int)))=(L.filter fun x=>decide (0≤f x∧f x<((n+1:Nat):Int))).filter (fun x=>decide (f x<(n:Int))):=by
   rw[List.filter_filter]
   refine List.filter_congr fun x _=>?_
   rw[←Bool.decide_and]
   refine decide_eq_decide.2 ?_
   omega
  have e2:([n].flatMap fun s:Nat=>L.filter fun x=>decide (f x=(s:Int)))=(L.filter fun x=>decide (0≤f x∧f x<((n+1:Nat):Int))).filter (fun x=> !decide (f x<(n:Int))):=by
   simp only[List.flatMap_cons,List.flatMap_nil,List.append_nil,List.filter_filter]
   refine List.filter_congr fun x _=>?_
   rw[←decide_not,←Bool.decide_and]
   refine decide_eq_decide.2 ?_
   omega
  rw[e1,e2]
  exact List.filter_append_perm _ _
theorem KL {n:Nat} (s:ByteArray) (h1:1≤n) (h4:n≤4):0≤pF s n∧pF s n<(n:Int):=by
 unfold pF
 rw[if_neg (by omega)]
 exact⟨Int.emod_nonneg _ (by omega),Int.emod_lt_of_pos _ (by omega)⟩
theorem Ux {n:Nat} (t:dG) (h1:1≤n) (h4:n≤4):((gX n t).flatMap fun x=>gI x.1).Perm (gI t.1):=by
 unfold gX
 rw[List.flatMap_map]
 have:=KJ (fun x:xY=>pF x.1 n) (gI t.1) n
 rw[List.filter_eq_self.2 (fun x _=>decide_eq_true (KL x.1 h1 h4))]at this
 refine List.Perm.trans (List.Perm.of_eq ?_) this
 refine congrArg List.flatten (List.map_congr_left fun s _=>?_)
 exact Aq _ _
theorem KN:∀ {L:List xY},ig (L.map (·.1))→∀ {x y:xY},x∈L→y∈L→x.1=y.1→x=y
 |[],_,_,_,h,_,_=>by cases h
 |z::L,o,x,y,hx,hy,e=>by
  have o:=List.pairwise_cons.1 (List.map_cons▸o:List.Pairwise _ (z.1::L.map (·.1)))
  rcases List.mem_cons.1 hx with rfl|hx'<;>rcases List.mem_cons.1 hy with rfl|hy'
  ·rfl
  ·have:=o.1 y.1 (List.mem_map.2 ⟨y,hy',rfl⟩);rw[e,lJ]at this;cases this
  ·have:=o.1 x.1 (List.mem_map.2 ⟨x,hx',rfl⟩);rw[e,lJ]at this;cases this
  ·exact KN o.2 hx' hy' e
theorem Uy {ks ks':aH} (o:ig ks.keys) (hp:(gI ks').Perm (gI ks)) (hs:(gI ks').Pairwise fun x y=>dD y.1 x.1=false):ks'=ks:=by
 rw[←KI]at o
 refine EL (hp.eq_of_pairwise (le:=fun x y=>dD y.1 x.1=false) (fun x y hx hy h1 h2=>?_) hs ?_)
 ·exact KN o (hp.mem_iff.1 hx) hy (xC h2 h1)
 ·exact(List.pairwise_map.1 o).imp fun {x y} h=>IZ h
open Go.RowKit
def aU.g (q:aU):dG:=(q.ks,q.c)
theorem Rd.xZ {w:World} {b n:Nat} {xs:List Value} {t:TypeId} {f:Nat×Nat} (h:w.heap[b]?=some (.cells xs.toArray t f)) (hn:n≤maxLen):Rd w (.slice (some ⟨b,0,none⟩) n n) n xs:=
 .inr ⟨b,0,n,rfl,Nat.le_refl _,hn,fun j u hu=>by rw[Nat.zero_add];exact aI h j (by simpa using hu)⟩
structure oh (Q:Nat→Prop) (w:World) (b n:Nat) (l:List aU):Prop where
 len:l.length=n
 blk:w.heap[b]?=some (.cells (l.flatMap aU.cells).toArray 32 (0,0))
 each:∀q∈l,q.es=[]∧fE Q w q∧Good q.g
theorem oh.turn {Q Q':Nat→Prop} {w w':World} {b n:Nat} {l:List aU} (h:oh Q w b n l) (f:∀k,k<w.heap.size→Q k→w'.heap[k]?=w.heap[k]?∧Q' k) (hb:w'.heap[b]?=w.heap[b]?):oh Q' w' b n l:=
 ⟨h.len,hb.trans h.blk,fun q hq=>let⟨h1,h2,h3⟩:=h.each q hq;⟨h1,h2.turn f,h3⟩⟩
structure aW where
 id:Int
 pb:Nat
 ib:Nat
 part:List aU
 is:List Bool
instance:Inhabited aW:=⟨⟨0,0,0,[],[]⟩⟩
def aW.q (n:Nat) (r:aW):bK:=⟨r.id, .slice (some ⟨r.pb,0,none⟩) n n, .slice (some ⟨r.ib,0,none⟩) n n⟩
structure gu where
 id:Int
 part:List dG
 is:List Bool
def aW.con (r:aW):gu:=⟨r.id,r.part.map aU.g,r.is⟩
structure vO (L:Nat→Prop) (w:World) (n:Nat) (r:aW):Prop where
 part:oh (fun k=>¬L k) w r.pb n r.part
 rV:r.is.length=n
 is:w.heap[r.ib]?=some (.cells (nO r.is).toArray 4 (0,0))
 pL:L r.pb
 iL:L r.ib
structure cZ (L:Nat→Prop) (w:World) (b n vb:Nat) (sv:Value) (vs:List aU) (rs:List aW):Prop where
 n1:1≤n
 n4:n≤4
 Ls:∀k,L k→k<w.heap.size
 box:w.heap[b]?=some (.cells #[.slice (some ⟨vb,0,none⟩) n n,sv] 81 (0,0))
 bL:L b
 vis:oh (fun k=>¬L k) w vb n vs
 vL:¬L vb
 own:w.ownsRow 0 86 3 sv rs.length ((rs.map (aW.q n)).flatMap bK.cells)
 sL:∀k,sv.ownBlock=some k→L k
 jY:∀r∈rs,vO L w n r
 pd:(rs.map aW.pb).Nodup
 vP:(rs.map aW.ib).Nodup
 ids:(rs.map aW.id).Nodup
 few:rs.length≤4
def Uz (L:Nat→Prop) (w:World) (b n:Nat) (vis:List dG) (st:List gu):Prop:=
 ∃vb sv vs rs,cZ L w b n vb sv vs rs∧vs.map aU.g=vis∧rs.map aW.con=st
theorem vO.turn {L L':Nat→Prop} {w w':World} {n:Nat} {r:aW} (h:vO L w n r) (f:∀k,k<w.heap.size→¬L k→w'.heap[k]?=w.heap[k]?∧¬L' k) (hL:∀k,L k→L' k) (hp:w'.heap[r.pb]?=w.heap[r.pb]?) (hi:w'.heap[r.ib]?=w.heap[r.ib]?):vO L' w' n r:=
 ⟨h.part.turn f hp,h.rV,hi.trans h.is,hL _ h.pL,hL _ h.iL⟩
section
variable {L:Nat→Prop} {w w':World} {b n vb:Nat} {sv:Value} {vs:List aU} {rs:List aW}
theorem cZ.aN (h:cZ L w b n vb sv vs rs) (f:aj au w w'):cZ L w' b n vb sv vs rs:=by
 have ft:∀k,k<w.heap.size→¬L k→w'.heap[k]?=w.heap[k]?∧¬L k:=fun k hk hl=>⟨f.block k hk id,hl⟩
 have fb:∀ {k:Nat} {o:Obj},w.heap[k]?=some o→w'.heap[k]?=w.heap[k]?:=fun hk=>f.block _ (lt_of_block hk) id
 exact⟨h.n1,h.n4,fun k hk=>Nat.lt_of_lt_of_le (h.Ls k hk) f.size,(fb h.box).trans h.box,h.bL,h.vis.turn ft (fb h.vis.blk),h.vL,f.owns h.own (fun _ _ h=>h),h.sL,fun r hr=>(h.jY r hr).turn ft (fun _ h=>h) (fb (h.jY r hr).part.blk) (fb (h.jY r hr).is),h.pd,h.vP,h.ids,h.few⟩
theorem cZ.kX (h:cZ L w b n vb sv vs rs):w.cell? ⟨b,0,none⟩=some (.slice (some ⟨vb,0,none⟩) n n):=aI h.box 0 rfl
theorem cZ.kL (h:cZ L w b n vb sv vs rs):w.cell? ⟨b,1,none⟩=some sv:=aI h.box 1 rfl
theorem pJ {n:Nat} {rs:List aW}:∀q∈rs.map (aW.q n),q.shaped:=fun q hq=>by
 obtain⟨r,_,rfl⟩:=List.mem_map.1 hq
 exact⟨⟨_,_,_,rfl⟩,_,_,_,rfl⟩
theorem vS (n:Nat) (rs:List aW):(rs.map (aW.q n)).map bK.id=rs.map aW.id:=by rw[List.map_map];rfl
theorem cZ.rd (h:cZ L w b n vb sv vs rs):Rd w sv (rs.map (aW.q n)).length ((rs.map (aW.q n)).flatMap bK.cells):=by
 rw[List.length_map]
 exact Rd.own h.own
theorem yc {n:Nat} {rs:List aW} {k:Nat} (h:k<rs.length):(rs.map (aW.q n)).getD k default=(rs.getD k default).q n:=by
 rw[getD_at _ (by rw[List.length_map];exact h),getD_at _ h,List.getElem_map]
structure Turned (L:Nat→Prop) (w:World) (L':Nat→Prop) (w':World):Prop where
 aJ:aj L w w'
 own:∀k,L' k→L k∨w.heap.size≤k
theorem Turned.tX (f:aj au w w'):Turned L w L w':=⟨f.mono fun _ _ h=>h.elim,fun _ h=> .inl h⟩
theorem Turned.trans {L' KO:Nat→Prop} {w'':World} (h:Turned L w L' w') (h':Turned L' w' KO w''):Turned L w KO w'':=
 ⟨h.aJ.trans h'.aJ fun k hk hl=>(h.own k hl).elim id fun h=>by omega,fun k hk=>by
   rcases h'.own k hk with g|g
   ·exact h.own k g
   ·exact .inr (Nat.le_trans h.aJ.size g)⟩
end
end Go.Proofs.YtlhmbkjdfjoilaaGreat
namespace Go.Proofs
open Go.Shelf
def Tryz.kidSortL_ren:Go.Shelf.Ren:=⟨fun|6=>47|15=>76|14=>75|28=>106|29=>107|20=>98|21=>99|22=>100|23=>101|24=>102|25=>103|26=>104|27=>105|46=>138|47=>139|48=>140|49=>141|50=>142|57=>170|n=>n,fun|22=>26|24=>52|25=>94|3=>3|39=>130|0=>0|53=>73|55=>153|4=>4|46=>145|45=>144|50=>149|5=>5|9=>9|66=>190|70=>194|76=>220|77=>221|n=>n,fun|n=>n⟩
theorem Tryz.kidSortL:Go.Proofs.SlLaysF0.n6 Tryz.prog Tryz.kidSortL_ren:= {
 mixed:=by kernel_rfl
 f6:=⟨Tryz.f47.name,by decide,Tryz.func47.trans (congrArg some (by kernel_rfl))⟩
 f14:=⟨Tryz.f75.name,by decide,Tryz.func75.trans (congrArg some (by kernel_rfl))⟩
 f15:=Tryz.func76.trans (congrArg some (by kernel_rfl))
 f20:=⟨Tryz.f98.name,by decide,Tryz.func98.trans (congrArg some (by kernel_rfl))⟩
 f21:=⟨Tryz.f99.name,by decide,Tryz.func99.trans (congrArg some (by kernel_rfl))⟩
 f22:=⟨Tryz.f100.name,by decide,Tryz.func100.trans (congrArg some (by kernel_rfl))⟩
 f23:=⟨Tryz.f101.name,by decide,Tryz.func101.trans (congrArg some (by kernel_rfl))⟩
 f24:=⟨Tryz.f102.name,by decide,Tryz.func102.trans (congrArg some (by kernel_rfl))⟩
 f25:=⟨Tryz.f103.name,by decide,Tryz.func103.trans (congrArg some (by kernel_rfl))⟩
 f26:=⟨Tryz.f104.name,by decide,Tryz.func104.trans (congrArg some (by kernel_rfl))⟩
 f27:=⟨Tryz.f105.name,by decide,Tryz.func105.trans (congrArg some (by kernel_rfl))⟩
 f28:=Tryz.func106.trans (congrArg some (by kernel_rfl))
 f29:=Tryz.func107.trans (congrArg some (by kernel_rfl))
 f46:=⟨Tryz.f138.name,by decide,Tryz.func138.trans (congrArg some (by kernel_rfl))⟩
 f47:=Tryz.func139.trans (congrArg some (by kernel_rfl))
 f48:=Tryz.func140.trans (congrArg some (by kernel_rfl))
 f49:=⟨Tryz.f141.name,by decide,Tryz.func141.trans (congrArg some (by kernel_rfl))⟩
 f50:=⟨Tryz.f142.name,by decide,Tryz.func142.trans (congrArg some (by kernel_rfl))⟩
 f57:=⟨Tryz.f170.name,by decide,Tryz.func170.trans (congrArg some (by kernel_rfl))⟩
 t0:=Tryz.underlying0
 a0:=Tryz.isAgg0
 z0:=Tryz.sizeOf0
 v0:=Tryz.zeroValue0
 t3:=Tryz.underlying3
 a3:=Tryz.isAgg3
 z3:=Tryz.sizeOf3
 v3:=Tryz.zeroValue3
 t4:=Tryz.underlying4
 a4:=Tryz.isAgg4
 z4:=Tryz.sizeOf4
 v4:=Tryz.zeroValue4
 t5:=Tryz.underlying5
 a5:=Tryz.isAgg5
 z5:=Tryz.sizeOf5
 v5:=Tryz.zeroValue5
 t9:=Tryz.underlying9
 a9:=Tryz.isAgg9
 z9:=Tryz.sizeOf9
 v9:=Tryz.zeroValue9
 t22:=Tryz.underlying26
 a22:=Tryz.isAgg26
 z22:=Tryz.sizeOf26
 v22:=Tryz.zeroValue26
 t25:=Tryz.underlying94
 a25:=Tryz.isAgg94
 z25:=Tryz.sizeOf94
 v25:=Tryz.zeroValue94
 t39:=Tryz.underlying130
 a39:=Tryz.isAgg130
 z39:=Tryz.sizeOf130
 v39:=Tryz.zeroValue130
 t45:=Tryz.underlying144
 a45:=Tryz.isAgg144
 z45:=Tryz.sizeOf144
 v45:=Tryz.zeroValue144
 t46:=Tryz.underlying145
 a46:=Tryz.isAgg145
 z46:=Tryz.sizeOf145
 v46:=Tryz.zeroValue145
 t50:=Tryz.underlying149
 a50:=Tryz.isAgg149
 z50:=Tryz.sizeOf149
 v50:=Tryz.zeroValue149
 t53:=Tryz.underlying73
 a53:=Tryz.isAgg73
 z53:=Tryz.sizeOf73
 v53:=Tryz.zeroValue73
 t55:=Tryz.underlying153
 a55:=Tryz.isAgg153
 z55:=Tryz.sizeOf153
 v55:=Tryz.zeroValue153
 t66:=Tryz.underlying190
 a66:=Tryz.isAgg190
 z66:=Tryz.sizeOf190
 v66:=Tryz.zeroValue190
 t70:=Tryz.underlying194
 a70:=Tryz.isAgg194
 z70:=Tryz.sizeOf194
 v70:=Tryz.zeroValue194
 t76:=Tryz.underlying220
 a76:=Tryz.isAgg220
 z76:=Tryz.sizeOf220
 v76:=Tryz.zeroValue220
 t77:=Tryz.underlying221
 a77:=Tryz.isAgg221
 z77:=Tryz.sizeOf221
 v77:=Tryz.zeroValue221}
end Go.Proofs
namespace Go.Proofs.YtlhmbkjdfjoilaaGreat
open Go.RowKit Go.Sort
abbrev kM:= {q:bg//q.shaped}
instance:Inhabited kM:=⟨⟨default,⟨none,0,0,rfl⟩,none,0,0,rfl⟩⟩
def mZ (x:kM):List Value:=x.1.cells
def cmpK (x y:kM):Int:=if dD x.1.key y.1.key=true then-1 else 1
theorem Au (x y:kM):ltOf cmpK x y=dD x.1.key y.1.key:=by
 unfold ltOf cmpK
 cases dD x.1.key y.1.key<;>simp
theorem swoK:SWO (ltOf cmpK) where
 irrefl x:=by rw[Au];exact lJ _
 trans x y z h1 h2:=by rw[Au]at*;exact qE h1 h2
 ntrans x y z h1 h2:=by
  rw[Au]at*
  cases h:dD x.1.key z.1.key with
  |false=>rfl
  |true=>
   cases h3:dD y.1.key x.1.key with
   |true=>rw[qE h3 h]at h2;cases h2
   |false=>rw[xC h1 h3]at h;rw[h]at h2;cases h2
def tY (l:List kM):List Value:=l.flatMap mZ
theorem KP (l:List kM):(tY l).length=l.length*3:=by
 have:=Dk (l.map Subtype.val)
 rw[List.flatMap_map,List.length_map]at this
 exact this
theorem EM (l:List kM):tY l=(l.map Subtype.val).flatMap bg.cells:=by rw[List.flatMap_map];rfl
theorem KQ (l:List kM) {k:Nat} (h:k<l.length):(l.map Subtype.val).getD k default=(l.getD k default).1:=by
 rw[getD_at _ (by rw[List.length_map];exact h),getD_at _ h,List.getElem_map]
theorem KR (d:Array kM) {t:Nat} (ht:t<d.size*3):(tY d.toList)[t]?=some ((flatK mZ 3 d)[t]!):=by
 rw[get_flatK _ _ _ _ ht]
 have hk:t/3<d.size:=by omega
 have hk':t/3<d.toList.length:=by simpa using hk
 obtain⟨h1,h2,h3⟩:=xO (d.toList.map Subtype.val) (t/3) (by rw[List.length_map];exact hk')
 rw[KQ _ hk',getD_at default hk',←EM]at h1 h2 h3
 have he:d.toList[t/3]=d[t/3]! :=by rw[getElem!_pos d _ hk];simp
 rw[he]at h1 h2 h3
 rcases(by omega:t%3=0∨t%3=1∨t%3=2)with h|h|h
 ·rw[h]
  have e:t/3*3=t:=by omega
  rw[e]at h1
  rw[h1];rfl
 ·rw[h]
  have e:t/3*3+1=t:=by omega
  rw[e]at h2
  rw[h2];rfl
 ·rw[h]
  have e:t/3*3+2=t:=by omega
  rw[e]at h3
  rw[h3];rfl
theorem OwnAt.UA {w0 w:World} {e:TypeId} {n c g:Nat} {l:List kM} (h:OwnAt w0 w e 3 (.slice (some ⟨g,0,none⟩) n c) n (tY l)) (hn:0<n) (hl:l.length=n):HoldsK mZ 3 w g 0 l.toArray:=by
 obtain⟨g',c',he,_,_,_,h1,h2,_⟩:=h.row hn
 injection he with e1 e2 e3
 injection e1 with e1
 injection e1 with e4 e5
 subst e4
 intro j hj
 rw[size_flatK]at hj
 have hf:=KR l.toArray hj
 rw[Nat.zero_add]
 exact⟨h1 j _ hf,h2 j⟩
theorem UC (d:Array kM):(flatK mZ 3 d).toList=tY d.toList:=by
 apply List.ext_getElem?
 intro t
 by_cases ht:t<d.size*3
 ·rw[KR d ht]
  simp[ht]
 ·rw[List.getElem?_eq_none (by simp;omega),List.getElem?_eq_none (by rw[KP];simp;omega)]
theorem OwnAt.UD {w0 w:World} {e:TypeId} {n c g:Nat} {l:List kM} (h:OwnAt w0 w e 3 (.slice (some ⟨g,0,none⟩) n c) n (tY l)) (d':Array kM) (hd:d'.size=n) (hn:0<n) (m:Nat) (os:Array Obj):
 OwnAt w0 (sortWorldK mZ 3 w g 0 m d' os) e 3 (.slice (some ⟨g,0,none⟩) n c) n (tY d'.toList)∧aj (fun k=>k=g) w (sortWorldK mZ 3 w g 0 m d' os):=by
 rcases h.own.2 with⟨_,h0⟩|⟨g',cap,cur,he,hb,hg,hnc,hcm,hcs,htake⟩
 ·omega
 ·injection he with e1 e2 e3
  injection e1 with e1
  injection e1 with e4 e5
  subst e4 e3
  have hlt:g<w.heap.size:=lt_of_block hg
  have hnew:w0.heap.size≤g:=h.new g rfl
  have hF:(flatK mZ 3 d').size=n*3:=by rw[size_flatK,hd]
  have hblk:(sortWorldK mZ 3 w g 0 m d' os).heap[g]?=some (.cells (putCells id 0 (flatK mZ 3 d') cur) e (0,0)):=by
   unfold sortWorldK putRowK
   rw[heap_grow_old _ _ (by unfold putRow mapBlock;simpa[Sort.ahead]using hlt)]
   show((Sort.ahead w m).heap.modify g (onCells _))[g]?=_
   rw[Array.getElem?_modify,if_pos rfl]
   show Option.map _ (w.heap[g]?)=_
   rw[hg]
   rfl
  have hcur:(flatK mZ 3 d').size≤cur.size:=by rw[hF,hcs];exact Nat.mul_le_mul_right _ hnc
  have hfr:aj (fun k=>k=g) w (sortWorldK mZ 3 w g 0 m d' os):=⟨rfl,rfl,rfl,by
   unfold sortWorldK putRowK
   rw[size_grow]
   show w.heap.size≤(w.heap.modify g _).size+_
   rw[Array.size_modify];omega,fun k hk hn=>by
   unfold sortWorldK putRowK
   rw[heap_grow_old _ _ (by unfold putRow mapBlock;simpa[Sort.ahead]using hk)]
   show(w.heap.modify g (onCells _))[k]?=_
   rw[Array.getElem?_modify,if_neg (fun e=>hn e.symm)]⟩
  refine⟨⟨⟨by rw[KP];simp[hd], .inr ⟨g,c,_,rfl,hb,hblk,hnc,hcm,by simp[putCells,hcs],?_⟩⟩,h.new,?_⟩,hfr⟩
  ·rw[←hF,Hy _ _ hcur,UC]
  ·exact h.aJ.trans (T:=fun k=>k=g) hfr (fun i hi he=>by have he:i=g:=he;omega)
theorem UE {d d':Array kM} (h:PermIn 0 d.size d d'):d'.toList.Perm d.toList:=by
 have h1:=h.2.2
 have hs:=h.1
 have e1:(d'.extract 0 d.size).toList=d'.toList:=by rw[←hs];simp
 have e2:(d.extract 0 d.size).toList=d.toList:=by simp
 rw[e1,e2]at h1
 exact h1
theorem UF {d:Array kM} (h:SortedIn (ltOf cmpK) 0 d.size d):d.toList.Pairwise (fun a b=>dD b.1.key a.1.key=false):=by
 rw[List.pairwise_iff_getElem]
 intro i j hi hj hij
 have hi':i<d.size:=by simpa using hi
 have hj':j<d.size:=by simpa using hj
 have:=h i j (Nat.zero_le _) hij hj'
 rw[Au,getElem!_pos d i hi',getElem!_pos d j hj']at this
 simpa using this
theorem UG (s t:ByteArray) (a0 a1 b0 b1:Option Addr) (n0 n1 c0 c1 m0 m1 d0 d1:Nat) (W:World):Calls Tryz.prog 48 #[.agg #[.string s, .slice a0 n0 c0, .slice a1 n1 c1], .agg #[.string t, .slice b0 m0 d0, .slice b1 m1 d1]] W fun e w'=>e= .returned (.int .i64 (if dD s t=true then-1 else 1))∧∃q os',w'=grow (W.drewN q) os':=by
 cases hst:dD s t with
 |true=>
  have h2:Op.bytesLess s.toList t.toList=true:=hst
  go_enter Tryz.func48,Tryz.ntmps48
  go_wp2
  go_ret
  exact⟨rfl,0,_,by rw[alloc_eq_grow,alloc_eq_grow,grow_grow];rfl⟩
 |false=>
  have h2:Op.bytesLess s.toList t.toList=false:=hst
  go_enter Tryz.func48,Tryz.ntmps48
  go_wp2
  go_ret
  exact⟨rfl,0,_,by rw[alloc_eq_grow,alloc_eq_grow,grow_grow];rfl⟩
theorem UH (w0 w:World) (v:Value) (n:Nat) (l:List bg) (h:OwnAt w0 w 52 3 v n (l.flatMap bg.cells)) (hl:l.length=n) (hn:n≤1000000) (hs:∀q∈l,q.shaped):
 Calls Tryz.prog 47 #[v, .func (.func 48) #[] #[]] w fun e w'=>e= .returned (.tuple #[])∧∃l':List bg,l'.Perm l∧l'.Pairwise (fun a b=>dD b.key a.key=false)∧OwnAt w0 w' 52 3 v n (l'.flatMap bg.cells)∧aj (dh v) w w':=by
 have eg:∀args w,(callFunc 48 args).run Tryz.prog w= .ok (.enter 48 args) w:=enters_of Tryz.func48 (by kernel_rfl) rfl
 obtain⟨L,hL⟩:∃L:List kM,L.map Subtype.val=l:=⟨l.pmap Subtype.mk hs,by simp[List.map_pmap]⟩
 subst hL
 clear hs
 rw[←EM]at h
 rw[List.length_map]at hl
 rcases Nat.eq_zero_or_pos n with rfl|h0
 ·obtain⟨a,c,rfl⟩:=h.shape
  obtain rfl:L=[]:=List.eq_nil_of_length_eq_zero hl
  exact(AnyF.slices_SortFunc_none Tryz.kidSortL a c _ w).mono fun _ _ ⟨he,hw⟩=>⟨he,[],List.Perm.refl _,List.Pairwise.nil,by rw[hw];exact h,by rw[hw];exact aj.refl _ _⟩
 ·obtain⟨g',c',rfl,_,hlt,_⟩:=h.row h0
  have hc:=AnyQ.slices_SortFunc Tryz.kidSortL 3 Tryz.isAgg52 Tryz.sizeOf52 mZ (fun _=>rfl) (fun x v hv=>by
   obtain⟨q,⟨a0,n0,c0,e0⟩,a1,n1,c1,e1⟩:=x
   simp[mZ,bg.cells]at hv
   rcases hv with rfl|rfl|rfl
   ·rfl
   ·rw[e0];rfl
   ·rw[e1];rfl) cmpK swoK 48 #[] g' 0 c' L.toArray w eg (fun _ _ _ _ x y=>by
   obtain⟨⟨k0,_,_,ev,kv⟩,⟨a0,n0,c0,e0⟩,a1,n1,c1,e1⟩:=x
   obtain⟨⟨k0',_,_,ev',kv'⟩,⟨a0',rF,c0',e0'⟩,a1',n1',c1',e1'⟩:=y
   simp only at e0 e1 e0' e1'
   subst e0 e1 e0' e1'
   exact UG k0 k0' a0 a1 a0' a1' n0 n1 c0 c1 rF n1' c0' c1' _) (h.UA h0 hl) hlt (by simp;omega)
  have hs:L.toArray.size=n:=by simpa using hl
  rw[hs]at hc
  refine Calls.mono hc fun e w' ⟨he,d',m,os,hp,hq,hw⟩=>?_
  have hd:d'.size=n:=by rw[hp.1,hs]
  obtain⟨o1,o2⟩:=h.UD d' hd h0 m os
  refine⟨he,d'.toList.map Subtype.val,?_,?_,?_,?_⟩
  ·have:=UE (d:=L.toArray) (d':=d') (by rw[hs];exact hp)
   exact this.map _
  ·exact List.pairwise_map.2 (UF (by rw[hd];exact hq))
  ·rw[hw,←EM]
   exact o1
  ·rw[hw]
   exact o2.mono fun k _ e=>by subst e;rfl
open Go.RowKit
theorem yg (x:Int) (l:List Int):(fA x l=-1∧x∉l)∨∃k,k<l.length∧fA x l=k∧l.getD k 0=x:=by
 by_cases h:l.findIdx (fun y=>y==x)<l.length
 ·refine .inr ⟨_,h,by unfold fA;rw[if_pos h],?_⟩
  rw[getD_at 0 h]
  simpa using List.findIdx_getElem (w:=h)
 ·refine .inl ⟨by unfold fA;rw[if_neg h],fun hm=>h ?_⟩
  exact List.findIdx_lt_length.2 ⟨x,hm,by simp⟩
theorem gY {w:World} {a b:Nat} {c1 c2:Array Value} {t1 t2:TypeId} {f1 f2:Nat×Nat} (h1:w.heap[a]?=some (.cells c1 t1 f1)) (h2:w.heap[b]?=some (.cells c2 t2 f2)) (ht:t1≠t2):a≠b:=fun e=>by
 subst e
 rw[h1]at h2
 injection h2 with h2
 injection h2 with _ h2 _
 exact ht h2
theorem KT (x:Int) (l:List bK) (b:Nat) (w:World) (v:Value) (h:Rd w v l.length (l.flatMap bK.cells)) (hs:∀q∈l,q.shaped) (hl:l.length≤100000) (hb:w.cell? ⟨b,1,none⟩=some v) (hp:fA x (l.map bK.id)=-1):
 Calls Tryz.prog 23 #[.pointer (some ⟨b,0,none⟩), .int .i64 x] w fun e w'=>e= .returned (.bool false)∧aj au w w':=by
 have HA:=ah (hp▸tN x l b w v h hs hl hb)
 clear h hs hl hb hp
 go_enter Tryz.func23,Tryz.ntmps23
 go_wp2_with(go_at_call 38;refine HA.out.mono ?_;rintro e w1 ⟨rfl,hw1⟩;have HW1:=ah hw1;clear hw1)
 go_ret
 exact⟨rfl,HW1.out⟩
section
variable {L:Nat→Prop} {w w':World} {b n vb:Nat} {sv:Value} {vs:List aU} {rs:List aW}
theorem cZ.drop {g c m k:Nat} {w2:World} (h:cZ L w b n vb (.slice (some ⟨g,0,none⟩) (m+1) c) vs rs) (f:aj (dh (.slice (some ⟨g,0,none⟩) (m+1) c)) w w2)
 (own:w2.ownsRow 0 86 3 (.slice (some ⟨g,0,none⟩) m c) m (((rs.map (aW.q n)).eraseIdx k).flatMap bK.cells)) (hl:rs.length=m+1) (hk:k≤m):
 w2.heap[b]?=some (.cells #[.slice (some ⟨vb,0,none⟩) n n, .slice (some ⟨g,0,none⟩) (m+1) c] 81 (0,0))∧
 cZ L (w2.setCell ⟨b,1,none⟩ (.slice (some ⟨g,0,none⟩) m c)) b n vb (.slice (some ⟨g,0,none⟩) m c) vs (rs.eraseIdx k)∧aj L w (w2.setCell ⟨b,1,none⟩ (.slice (some ⟨g,0,none⟩) m c)):=by
 have hg:∃cur,w.heap[g]?=some (.cells cur 86 (0,0)):=by
  rcases h.own.2 with⟨h1,_⟩|⟨g',cap',cur,h1,_,h2,_⟩
  ·cases h1
  ·injection h1 with h1 _ _
   injection h1 with h1
   injection h1 with h1 _ _
   subst h1
   exact⟨cur,h2⟩
 obtain⟨cur,hg⟩:=hg
 have gb:b≠g:=gY h.box hg (by decide)
 have hbox:w2.heap[b]?=some (.cells #[.slice (some ⟨vb,0,none⟩) n n, .slice (some ⟨g,0,none⟩) (m+1) c] 81 (0,0)):=f.blk h.box fun s=>gb (by unfold dh at s;simp[Value.ownBlock]at s;exact s.symm)
 have gL:L g:=h.sL g rfl
 have f3:aj (fun k=>k=g∨k=b) w (w2.setCell ⟨b,1,none⟩ (.slice (some ⟨g,0,none⟩) m c)):=
  (f.mono (T:=fun k=>k=g∨k=b) fun k _ s=> .inl (by unfold dh at s;simp[Value.ownBlock]at s;exact s.symm)).trans (aj.setCell (S:=fun k=>k=g∨k=b) w2 (p:=⟨b,1,none⟩) (.inl (.inr rfl)) _) fun _ _ h=>h
 have ft:∀k,k<w.heap.size→¬L k→(w2.setCell ⟨b,1,none⟩ (.slice (some ⟨g,0,none⟩) m c)).heap[k]?=w.heap[k]?∧¬L k:=fun k hk hl=>⟨f3.block k hk fun e=>hl (e.elim (fun e=>e▸gL) fun e=>e▸h.bL),hl⟩
 have fo:∀ {k:Nat} {o:Array Value} {t:TypeId},w.heap[k]?=some (.cells o t (0,0))→t≠86→t≠81→(w2.setCell ⟨b,1,none⟩ (.slice (some ⟨g,0,none⟩) m c)).heap[k]?=w.heap[k]?:=fun hk h1 h2=>f3.block _ (lt_of_block hk) fun e=>e.elim (gY hk hg h1) (gY hk h.box h2)
 refine⟨hbox,?_,f3.mono fun k _ e=>e.elim (fun e=>e▸gL) fun e=>e▸h.bL⟩
 have hsz:(w2.setCell ⟨b,1,none⟩ (.slice (some ⟨g,0,none⟩) m c)).heap.size=w2.heap.size:=by simp[World.setCell]
 have uJ:(w2.setCell ⟨b,1,none⟩ (.slice (some ⟨g,0,none⟩) m c)).ownsRow 0 86 3 (.slice (some ⟨g,0,none⟩) m c) m (((rs.map (aW.q n)).eraseIdx k).flatMap bK.cells):=
  (aj.setCell (S:=fun k=>k=b) w2 (p:=⟨b,1,none⟩) (.inl rfl) _).owns own fun k hk e=>gb (by simp[Value.ownBlock]at hk;omega)
 have hle:(rs.eraseIdx k).length=m:=by rw[List.length_eraseIdx_of_lt (by omega),hl];rfl
 have he:(rs.map (aW.q n)).eraseIdx k=(rs.eraseIdx k).map (aW.q n):=by simp only[List.eraseIdx_eq_take_drop_succ,List.map_append,List.map_take,List.map_drop]
 refine⟨h.n1,h.n4,fun k hk=>by have:=h.Ls k hk;have:=f.size;omega,?_,h.bL,h.vis.turn ft (fo h.vis.blk (by decide) (by decide)),h.vL,by rw[hle,←he];exact uJ,fun k hk=>h.sL k hk,fun r hr=>?_,?_,?_,?_,by rw[hle];have:=h.few;omega⟩
 ·exact fF hbox 1 _
 ·have hs:=h.jY r (List.mem_of_mem_eraseIdx hr)
  exact hs.turn ft (fun _ h=>h) (fo hs.part.blk (by decide) (by decide)) (fo hs.is (by decide) (by decide))
 ·exact h.pd.sublist ((List.eraseIdx_sublist rs k).map _)
 ·exact h.vP.sublist ((List.eraseIdx_sublist rs k).map _)
 ·exact h.ids.sublist ((List.eraseIdx_sublist rs k).map _)
theorem cZ.shape (h:cZ L w b n vb sv vs rs) {k:Nat} (hk:k<rs.length):∃g m c,rs.length=m+1∧sv= .slice (some ⟨g,0,none⟩) (m+1) c:=by
 obtain⟨m,hm⟩:∃m,rs.length=m+1:=⟨rs.length-1,by omega⟩
 rcases h.own.2 with⟨_,h0⟩|⟨g,cap,cur,h1,_⟩
 ·omega
 ·exact⟨g,m,cap,hm,by rw[h1,hm]⟩
theorem UJ (x:Int) (h:cZ L w b n vb sv vs rs) (k:Nat) (hk:k<rs.length) (hp:fA x (rs.map aW.id)=k):
 Calls Tryz.prog 23 #[.pointer (some ⟨b,0,none⟩), .int .i64 x] w fun e w'=>e= .returned (.bool true)∧aj L w w'∧∃sv',cZ L w' b n vb sv' vs (rs.eraseIdx k):=by
 obtain⟨g,m,c,hl,rfl⟩:=h.shape hk
 have hfew:=h.few
 have hA:=tN x (rs.map (aW.q n)) b w _ h.rd pJ (by rw[List.length_map];omega) h.kL
 rw[vS,hp]at hA
 have HA:=ah hA;clear hA
 have hll:(rs.map (aW.q n)).length=m+1:=by rw[List.length_map];exact hl
 have hkm:k≤m:=by omega
 have HD:=ah (fun W (f:aj au w W)=>JX (rs.map (aW.q n)) g m c k W (by have:=(h.aN f).own;rwa [hl]at this) hll pJ hkm (by omega))
 have HC:=ah (fun W (f:aj au w W)=>(h.aN f).kL)
 have HX:=ah (fun W W2 (f:aj au w W) f2 o2=>(h.aN f).drop (k:=k) (w2:=W2) f2 o2 hl hkm)
 have xQ:=ah (fun W (f:aj au w W)=>f.mono (T:=L) fun _ _ h=>h.elim)
 have hm4:m≤1000:=by omega
 clear h hl hk hp hll hfew
 go_enter Tryz.func23,Tryz.ntmps23
 go_wp2_with(first
  |(go_at_call 38;refine HA.out.mono ?_;rintro e w1 ⟨rfl,hw1⟩;have y0:=HC.out _ hw1;have hb0:=World.block_lt_of_cell? _ _ y0;have HW1:=ah hw1;clear hw1)
  |(go_at_call 42;refine(HD.out _ HW1.out).mono ?_;rintro e w2 ⟨rfl,ho,hf⟩;clear y0 hb0;have mJ:=ah (HX.out _ _ HW1.out hf ho);clear hf ho;have y1:=aI mJ.out.1 1 rfl;have g1:=bn mJ.out.1 1;have hb1:=lt_of_block mJ.out.1))
 go_ret
 exact⟨rfl,(xQ.out _ HW1.out).trans mJ.out.2.2 fun _ _ h=>h,_,mJ.out.2.1⟩
end
end Go.Proofs.YtlhmbkjdfjoilaaGreat
