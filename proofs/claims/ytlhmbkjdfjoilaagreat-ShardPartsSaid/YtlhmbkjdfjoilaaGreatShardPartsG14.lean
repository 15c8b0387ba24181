/- Words for the law ShardParts: JoinO, Lv1, LvP, LvP2. -/
import Derived.Test.YtlhmbkjdfjoilaaGreatShardPartsG0
import Derived.Test.YtlhmbkjdfjoilaaGreatShardPartsG5
import Derived.Test.YtlhmbkjdfjoilaaGreatShardPartsG12
import Derived.Test.YtlhmbkjdfjoilaaGreatShardPartsG13
set_option linter.unusedSimpArgs false
set_option linter.unusedVariables false
set_option maxHeartbeats 32000000
set_option maxRecDepth 1000000
namespace Go.Proofs.YtlhmbkjdfjoilaaGreat
theorem KZ {key:ByteArray} {a:Nat} {r:ByteArray→Nat}:∀ {M:List ByteArray},M.Nodup→(M.map fun k=>if key=k then a else r k).sum≤a+(M.map r).sum
 |[],_=>by simp
 |x::M,h=>by
  obtain⟨h1,h2⟩:=List.nodup_cons.1 h
  simp only[List.map_cons,List.sum_cons]
  by_cases e:key=x
  ·subst e
   have:(M.map fun k=>if key=k then a else r k)=M.map r:=List.map_congr_left fun k hk=>if_neg fun e=>h1 (by rw[e];exact hk)
   rw[this,if_pos rfl];omega
  ·have:=KZ (key:=key) (a:=a) (r:=r) h2
   rw[if_neg e];omega
def lU (t:List aF×aH):Nat:=sizeT t.1 t.2
theorem K_:∀M:List ByteArray,(M.map fun _=>0).sum=0
 |[]=>rfl
 |_::M=>by simp only[List.map_cons,List.sum_cons,K_ M]
theorem FC:∀(ks:aH) {M:List ByteArray},M.Nodup→(M.map fun k=>lU (ks.find k)).sum+ks.len≤cu ks
 | .nil,M,_=>by
   have:(M.map fun k=>lU (aH.find k .nil))=M.map fun _=>0:=rfl
   rw[this,K_];simp[aH.len]
 | .cons key es sub rest,M,h=>by
   have ih:=FC rest h
   have e:(M.map fun k=>lU ((aH.cons key es sub rest).find k))=M.map fun k=>if key=k then sizeT es sub else lU (rest.find k):=List.map_congr_left fun k _=>by
    show lU (if key=k then(es,sub)else rest.find k)=_
    split<;>rfl
   have:=KZ (key:=key) (a:=sizeT es sub) (r:=fun k=>lU (rest.find k)) h
   rw[e]
   simp only[aH.len,cu]
   unfold sizeT at this⊢
   omega
theorem La (F:ByteArray→List aF×aH):∀M:List ByteArray,cu (eH F M)≤(M.map fun k=>lU (F k)).sum+M.length
 |[]=>by simp[eH,cu]
 |k::M=>by
  have ih:=La F M
  unfold eH jL
  split
  ·simp only[List.map_cons,List.sum_cons,List.length_cons];omega
  ·simp only[List.map_cons,List.sum_cons,List.length_cons,cu,lU,sizeT]at*;omega
theorem Ua {l:List ByteArray} (o:gI l):l.Nodup:=o.imp fun {a b} h e=>by rw[e,jK]at h;cases h
theorem Ub (M:List ByteArray) (f g h:ByteArray→Nat) (hf:∀k∈M,f k≤g k+h k):(M.map f).sum≤(M.map g).sum+(M.map h).sum:=by
 induction M with
 |nil=>simp
 |cons k M ih=>
  have h1:=hf k (by simp)
  have h2:=ih fun x hx=>hf x (by simp[hx])
  simp only[List.map_cons,List.sum_cons];omega
theorem Lc (ha hb:Int→Int→Bool):∀(n:Nat) (a b:List aF×aH),aX n a.1 a.2=true→aX n b.1 b.2=true→lU (iC ha hb n a b)≤lU a+lU b
 |0,_,_,h,_=>by simp[aX]at h
 |n+1,a,b,h1,h2=>by
  obtain⟨_,k1⟩:=uU h1
  obtain⟨_,k2⟩:=uU h2
  have o1:=(oC _ _ _ k1).1
  have o2:=(oC _ _ _ k2).1
  have om:=Ua (yY o1 o2)
  have e:=KJ ha hb a.1 b.1
  have s:=La (fun k=>iC ha hb n (a.2.find k) (b.2.find k)) (iU a.2.keys b.2.keys)
  have l:=KL a.2.keys b.2.keys
  have s1:=FC a.2 om
  have s2:=FC b.2 om
  have st:=Ub (iU a.2.keys b.2.keys) (fun k=>lU (iC ha hb n (a.2.find k) (b.2.find k))) (fun k=>lU (a.2.find k)) (fun k=>lU (b.2.find k)) fun k hk=>by
   have hd:1≤n:=by
    rcases(qJ _ _ _).1 hk with g|g
    ·exact wZ k1 g
    ·exact wZ k2 g
   exact Lc ha hb n _ _ (wY k1 hd) (wY k2 hd)
  rw[aH.nJ,aH.nJ]at l
  show sizeT (fC ha hb a.1 b.1) (eH (fun k=>iC ha hb n (a.2.find k) (b.2.find k)) (iU a.2.keys b.2.keys))≤sizeT a.1 a.2+sizeT b.1 b.2
  unfold sizeT
  omega
theorem Uc {e:aF} (h:dZ e=true):e.fits:=by
 simp only[dZ,lI,Bool.and_eq_true,decide_eq_true_eq]at h
 unfold aF.fits
 omega
theorem Ld {es:List aF} (h:fE none es=true):∀e∈es,e.fits:=fun e he=>Uc ((EN.1 h).1 e he)
theorem FD:∀(ks:aH) (d:Nat) (p:Option ByteArray),fV ks d p=true→cu ks≤100000→ks.Ok
 | .nil,_,_,_,_=>trivial
 | .cons key es sub rest,d,p,h,hs=>by
   rw[n_]at h
   simp only[Bool.and_eq_true]at h
   obtain⟨⟨⟨⟨h1,h2⟩,h3⟩,h4⟩,h5⟩:=h
   simp only[aX,Bool.and_eq_true]at h4
   simp only[cu]at hs
   have hk:key.size≤30:=by simp only[lJ,decide_eq_true_eq]at h1;omega
   have hl:=kG sub
   exact⟨by omega,⟨by omega,Ld h4.1.2⟩,by omega,FD sub _ _ h4.2 (by omega),FD rest _ _ h5 (by omega)⟩
theorem FH {d:Nat} {es:List aF} {ks:aH} (h:aX d es ks=true) (hs:sizeT es ks≤100000):iQ es ks:=by
 simp only[aX,Bool.and_eq_true]at h
 have hl:=kG ks
 unfold sizeT at hs
 exact⟨⟨by omega,Ld h.1.2⟩,by omega,FD ks _ _ h.2 (by omega)⟩
theorem Le {c:aU} (h:bZ c):gZ c:=fun s hs=>by
 have hd:∀ {c:aU} {lo:Int},fD lo c→s∈c→lo≤s.1∧s.1<4:=by
  intro c
  induction c with
  |nil=>intro lo _ hm;cases hm
  |cons x c ih=>
   intro lo h hm
   rcases List.mem_cons.1 hm with rfl|hm
   ·exact⟨h.1,h.2.1⟩
   ·have:=ih h.2.2 hm;have:=h.1;omega
 obtain⟨h0,h4⟩:=hd h.1 hs
 have hp:=h.2 s.1 h0 h4
 have hm:s.2∈bC c s.1:=by
  unfold bC
  exact List.mem_map.2 ⟨s,List.mem_filter.2 ⟨hs,by simp⟩,rfl⟩
 have g1:=jm hp.1 _ hm
 have g2:=hp.2 _ hm
 omega
theorem Ud {a b u:aS} (ha:dW 1 a) (hb:dW 1 b) (hu:dW 1 u) (h:∀n,aV u n↔aV a n∨aV b n):u.length≤a.length+b.length:=by
 have before:∀ {l:aS} {lo:Int},dW lo l→∀r∈l,¬aV l (r.1-1):=by
  intro l
  induction l with
  |nil=>intro lo _ r hr;cases hr
  |cons x l ih=>
   intro lo hl r hr hi
   rcases List.mem_cons.1 hr with rfl|hr
   ·rcases(j_ _ _ _).1 hi with g|g
    ·omega
    ·have:=qR hl.2.2 g;have:=hl.2.1;omega
   ·have hx:=jm hl.2.2 r hr
    rcases(j_ _ _ _).1 hi with g|g
    ·omega
    ·exact ih hl.2.2 r hr g
 have start:∀ {l:aS} {n:Int},aV l n→¬aV l (n-1)→n∈l.map (·.1):=fun {l n} ⟨r,hr,h1,h2⟩ hn=>by
  refine List.mem_map.2 ⟨r,hr,?_⟩
  rcases Int.lt_or_eq_of_le h1 with g|g
  ·exact absurd ⟨r,hr,by omega,by omega⟩ hn
  ·exact g
 have hn:=AY hu
 have:=AX (l:=a.map (·.1)++b.map (·.1)) hn fun x hx=>by
  obtain⟨r,hr,rfl⟩:=List.mem_map.1 hx
  have h1:aV u r.1:=⟨r,hr,Int.le_refl _,(jm hu r hr).2⟩
  have h2:=before hu r hr
  rw[h]at h1
  have h2:¬(aV a (r.1-1)∨aV b (r.1-1)):=fun g=>h2 ((h _).2 g)
  rcases h1 with h1|h1
  ·exact List.mem_append_left _ (start h1 fun g=>h2 (.inl g))
  ·exact List.mem_append_right _ (start h1 fun g=>h2 (.inr g))
 simpa using this
theorem Ue (p:Int→aS):(jF p).length=(p 0).length+((p 1).length+((p 2).length+(p 3).length)):=by simp[jF,dS]
theorem Uf {a b u:aU} (ha:bZ a) (hb:bZ b) (h:iO 0 a b u):u.length≤a.length+b.length:=by
 have hd:∀d,0≤d→d<4→(bC u d).length≤(bC a d).length+(bC b d).length:=fun d h0 h4=>
  Ud (ha.2 d h0 h4).1 (hb.2 d h0 h4).1 (h.right.2 d h0 h4).1 fun n=>by
   have:=h.mem d n h0 h4
   unfold dQ iM at this
   simpa using this
 have e:∀ {c:aU},bZ c→c.length=(bC c 0).length+((bC c 1).length+((bC c 2).length+(bC c 3).length)):=fun {c} hc=>by
  conv=>lhs;rw[←uq (Int.le_refl 0) hc.1]
  exact Ue _
 rw[e ha,e hb,e h.right]
 have g0:=hd 0 (by decide) (by decide)
 have g1:=hd 1 (by decide) (by decide)
 have g2:=hd 2 (by decide) (by decide)
 have g3:=hd 3 (by decide) (by decide)
 omega
section
variable {es es':List aF} {ks ks':aH} {c c' u:aU}
theorem Lh (h:f_ es ks c) (h':f_ es' ks' c') (hu:iO 0 c c' u):f_ (nK es ks c es' ks' c').1 (nK es ks c es' ks' c').2 u:=by
 refine⟨SB _ _ 5 5 (es,ks) (es',ks') (Nat.le_refl _) h.tree h'.tree,hu.right,fun r hr=>?_⟩
 have hin:∀ {a:aU},bZ a→iM a r.1 r.2→0≤r.1∧r.1<4:=fun {a} ha hi=>by
  obtain⟨x,hx,_⟩:=hi
  unfold bC at hx
  obtain⟨s,hs,rfl⟩:=List.mem_map.1 hx
  obtain⟨hs,he⟩:=List.mem_filter.1 hs
  have hd:∀ {c:aU} {lo:Int},fD lo c→s∈c→lo≤s.1∧s.1<4:=by
   intro c
   induction c with
   |nil=>intro lo _ hm;cases hm
   |cons x c ih=>
    intro lo h hm
    rcases List.mem_cons.1 hm with rfl|hm
    ·exact⟨h.1,h.2.1⟩
    ·have:=ih h.2.2 hm;have:=h.1;omega
  have:=hd ha.1 hs
  have he:s.1=r.1:=by simpa using he
  omega
 have hr:r∈eu (iC (gq c) (gq c') 5 (es,ks) (es',ks')).1 (iC (gq c) (gq c') 5 (es,ks) (es',ks')).2:=hr
 rcases KC _ _ r _ _ _ hr with g|g
 ·have g2:=h.dots r g
  obtain⟨h0,h4⟩:=hin h.ctx g2
  exact(hu.mem _ _ h0 h4).2 (by unfold dQ;simp[g2])
 ·have g2:=h'.dots r g
  obtain⟨h0,h4⟩:=hin h'.ctx g2
  exact(hu.mem _ _ h0 h4).2 (by unfold dQ;simp[g2])
theorem Ug (h:f_ es ks c) (h':f_ es' ks' c') (hu:iO 0 c c' u) (s:sizeT es ks+sizeT es' ks'≤2000) (l:c.length+c'.length≤2000):jW (nK es ks c es' ks' c').1 (nK es ks c es' ks' c').2 u:=by
 have hs:lU (iC (gq c) (gq c') 5 (es,ks) (es',ks'))≤sizeT es ks+sizeT es' ks':=Lc _ _ 5 _ _ h.tree h'.tree
 have hr:=Lh h h' hu
 have hs2:sizeT (nK es ks c es' ks' c').1 (nK es ks c es' ks' c').2≤2000:=Nat.le_trans hs s
 exact⟨FH hr.tree (by omega),hs2,Le hu.right,Nat.le_trans (Uf h.ctx h'.ctx hu) l⟩
end
open Go.RowKit
structure bV where
 path:List ByteArray
 pv:Value
 e:aF
instance:Inhabited bV:=⟨⟨[], .slice none 0 0,aF.zero⟩⟩
def bV.cells (x:bV):List Value:=[x.pv, .int .i64 x.e.dc, .int .i64 x.e.n, .string x.e.s, .int .i64 x.e.k]
abbrev Lf:=List ByteArray×aF
instance:Inhabited Lf:=⟨([],aF.zero)⟩
def bV.con (x:bV):Lf:=(x.path,x.e)
def iD (l:List bV):List Value:=l.flatMap bV.cells
theorem FI (a b:List bV):iD (a++b)=iD a++iD b:=by simp[iD]
theorem BO (l:List bV):(iD l).length=l.length*5:=by
 induction l with
 |nil=>rfl
 |cons q l ih=>unfold iD at*;rw[List.flatMap_cons,List.length_append,ih];simp[bV.cells];omega
theorem BP:∀(l:List bV) (j:Nat),j<l.length→(iD l)[j*5]?=some (l.getD j default).pv∧(iD l)[j*5+1]?=some (.int .i64 (l.getD j default).e.dc)∧(iD l)[j*5+2]?=some (.int .i64 (l.getD j default).e.n)∧(iD l)[j*5+3]?=some (.string (l.getD j default).e.s)∧(iD l)[j*5+4]?=some (.int .i64 (l.getD j default).e.k)
 |[],_,h=>by cases h
 |q::l,0,_=>⟨rfl,rfl,rfl,rfl,rfl⟩
 |q::l,j+1,h=>by
  obtain⟨h0,h1,h2,h3,h4⟩:=BP l j (by simpa using h)
  have e:iD (q::l)=q.pv:: .int .i64 q.e.dc:: .int .i64 q.e.n:: .string q.e.s:: .int .i64 q.e.k::iD l:=rfl
  refine⟨?_,?_,?_,?_,?_⟩
  ·rw[e,show(j+1)*5=j*5+1+1+1+1+1 by omega];exact h0
  ·rw[e,show(j+1)*5+1=(j*5+1)+1+1+1+1+1 by omega];exact h1
  ·rw[e,show(j+1)*5+2=(j*5+2)+1+1+1+1+1 by omega];exact h2
  ·rw[e,show(j+1)*5+3=(j*5+3)+1+1+1+1+1 by omega];exact h3
  ·rw[e,show(j+1)*5+4=(j*5+4)+1+1+1+1+1 by omega];exact h4
structure uY (Q:Nat→Prop) (w:World) (v:Value) (l:List bV):Prop where
 rd:Rd w v l.length (iD l)
 each:∀x∈l,gy Q w x.pv x.path.length (dX x.path)
theorem uY.aN {Q:Nat→Prop} {w w':World} {v:Value} {l:List bV} (h:uY Q w v l) (f:aj au w w'):uY Q w' v l:=⟨h.rd.aN f,fun x hx=>(h.each x hx).keep f fun _ _ e=>e.elim⟩
def rU (key:ByteArray) (x:Lf):List Lf:=match x.1 with
 |[]=> []
 |k::p=>if k=key then [(p,x.2)]else []
def iV (key:ByteArray) (L:List Lf):List Lf:=L.flatMap (rU key)
theorem Uh {key:ByteArray} {l:List bV} {k:Nat} (h:k<l.length):iV key ((l.take (k+1)).map bV.con)=iV key ((l.take k).map bV.con)++rU key (l.getD k default).con:=by
 rw[take_succ default h,List.map_append]
 unfold iV
 rw[List.flatMap_append]
 simp
theorem Ui {Q:Nat→Prop} {w:World} {g off n c:Nat} {k:ByteArray} {p:List ByteArray} (h:gy Q w (.slice (some ⟨g,off,none⟩) n c) (p.length+1) (dX (k::p))) (ad:Option Addr) (had:ad=(if c=1 then some ⟨g,off,none⟩else some ⟨g,off+1,none⟩)):gy Q w (.slice ad p.length (c-1)) p.length (dX p):=by
 subst had
 rcases h.rd with⟨ad,h1,h2,h3⟩|⟨b,o,c',h1,h2,h3,h4⟩
 ·simp[dX]at h3
 ·injection h1 with e1 e2 e3
  injection e1 with e1
  injection e1 with e4 e5
  subst e3 e4 e5
  have hq:Q g:=h.q (by simp[dX]) g rfl
  by_cases hc:c=1
  ·rw[if_pos hc]
   have h0:p.length=0:=by omega
   obtain rfl:=List.eq_nil_of_length_eq_zero h0
   exact⟨.inr ⟨g,off,c-1,rfl,by simp,by omega,fun j u hu=>by simp[dX]at hu⟩,fun _ i hi=>(show g=i by simpa[Value.ownBlock]using hi)▸hq⟩
  ·rw[if_neg hc]
   refine⟨.inr ⟨g,off+1,c-1,rfl,by omega,by omega,fun j u hu=>?_⟩,fun _ i hi=>(show g=i by simpa[Value.ownBlock]using hi)▸hq⟩
   have:=h4 (j+1) u hu
   rwa [show off+(j+1)=off+1+j by omega]at this
theorem Uj (Q:Nat→Prop) (l:List bV) (w:World) (v:Value) (key:ByteArray) (h:uY Q w v l) (hl:l.length≤100000):
 Calls Tryz.prog 52 #[v, .string key] w fun e w'=>∃v' l',e= .returned v'∧OwnAt w w' 103 5 v' l'.length (iD l')∧(∀x∈l',gy Q w' x.pv x.path.length (dX x.path))∧l'.map bV.con=iV key (l.map bV.con):=by
 obtain⟨i0,hi0,hz0,hz1,hz2⟩:=info_parts AB
 have HR:=ah (fun W (f:aj au w W)=>h.aN f)
 have HL:=ah hl
 have oG:=ah (fun k hk=>Uh (key:=key) (l:=l) (k:=k) hk)
 obtain⟨a,cp,rfl⟩:=h.rd.sl
 clear h hl
 obtain⟨m,hm⟩:∃m,m=l.length:=⟨_,rfl⟩
 rw[←hm]
 have HM:=ah hm;clear hm
 have hm1:m≤100000:=by rw[HM.out];exact HL.out
 go_enter Tryz.func52,Tryz.ntmps52
 go_wp2
 go_loopw [5,9] (fun v' iv W=>∃(k:Nat) (l':List bV),k≤m∧iv= .int .i64 k∧OwnAt w W 103 5 v' l'.length (iD l')∧(∀W',aj au w W'→∀x∈l',gy Q W' x.pv x.path.length (dX x.path))∧l'.length≤k∧l'.map bV.con=iV key ((l.take k).map bV.con)) (fun _ iv _=>m-(intOf iv).toNat)
 case atStart=>exact⟨0,[],Nat.zero_le _,rfl,OwnAt.nil (aj.refl _ _) _ _,fun _ _ x hx=>(by cases hx),Nat.le_refl _,rfl⟩
 case round=>
  obtain⟨k,l',hk,rfl,ho,hpa,hll,hcn⟩:=hrel
  obtain⟨av,cv,rfl⟩:=ho.shape
  have HO:=ah ho
  have wB:=ah hpa
  have zu:=ah hcn
  clear ho hpa hcn
  by_cases hlt:k<m
  ·have hkl:k<l.length:=by rw[←HM.out];exact hlt
   obtain⟨g0,g1,g2,g3,g4⟩:=BP l k hkl
   have hrd:=(HR.out _ HO.out.aI).rd
   have hpk:=(HR.out _ HO.out.aI).each _ (getD_mem default hkl)
   have hpw:=fun W (f:aj au w W)=>(HR.out _ f).each _ (getD_mem default hkl)
   have hst:=oG.out k hkl
   rw[←HM.out]at hrd
   rcases Rd.shape hrd with⟨ad,he,h0⟩|⟨p,off,cc,he,hmx⟩
   ·omega
   injection he with e1 e2 e3
   subst e1 e3
   clear e2
   generalize rV:l.getD k default=qb at*
   clear rV
   obtain⟨path,pv,ent⟩:=qb
   have g0:(iD l)[k*5]?=some pv:=g0
   have hpk:gy Q wr pv path.length (dX path):=hpk
   have hpw:∀W,aj au w W→gy Q W pv path.length (dX path):=hpw
   have hst2:iV key ((l.take (k+1)).map bV.con)=iV key ((l.take k).map bV.con)++rU key (path,ent):=hst
   have HST:=ah hst2
   clear hst hst2
   have hki:(k:Int)<(m:Int):=by omega
   obtain⟨ap,cpp,rfl⟩:=hpk.rd.sl
   have y0:wr.cell? ⟨p,off+k*5,none⟩=some (.slice ap path.length cpp):=hrd.cell _ _ g0
   cases path with
   |nil=>
    have hb0:=World.block_lt_of_cell? _ _ y0
    clear hrd g0 g1 g2 g3 g4 hpk hkl
    go_wp2
    go_roundw
    case rel=>exact⟨k+1,l',by omega,by go_num,HO.out,wB.out,by omega,by rw[HST.out,zu.out];simp[rU]⟩
    case measure=>simp[intOf];omega
   |cons k0 pt=>
    rcases Rd.shape hpk.rd with⟨ad,he,h0⟩|⟨pg,po,pc,he,Uk⟩
    ·simp at h0
    injection he with e1 e2 e3
    subst e1 e3
    clear e2
    have AQ:=ah (show ∀W,aj au w W→gy Q W (.slice (some ⟨pg,po,none⟩) (pt.length+1) cpp) (pt.length+1) (dX (k0::pt))from hpw)
    have x0:wr.cell? ⟨pg,po,none⟩=some (.string k0):=by have:=hpk.rd.cell 0 (.string k0) rfl;simpa using this
    have hpl:pt.length+1≤cpp:=by
     rcases hpk.rd with⟨ad,h1,h2,h3⟩|⟨b',o',c',h1,h2,h3,h4⟩
     ·simp at h2
     ·injection h1 with e1 e2 e3;subst e3;simpa using h2
    have nG:=ah (fun W (f:aj au w W) ad had=>Ui (AQ.out W f) ad had)
    have y1:wr.cell? ⟨p,off+k*5+1,none⟩=_:=hrd.cell (k*5+1) _ g1
    have y2:wr.cell? ⟨p,off+k*5+2,none⟩=_:=hrd.cell (k*5+2) _ g2
    have y3:wr.cell? ⟨p,off+k*5+3,none⟩=_:=hrd.cell (k*5+3) _ g3
    have y4:wr.cell? ⟨p,off+k*5+4,none⟩=_:=hrd.cell (k*5+4) _ g4
    have FK:=ah (fun Y (f:aj au w Y)=>(show Y.cell? ⟨p,off+k*5,none⟩=some (.slice (some ⟨pg,po,none⟩) (pt.length+1) cpp)∧Y.cell? ⟨p,off+k*5+1,none⟩=some (.int .i64 ent.dc)∧Y.cell? ⟨p,off+k*5+2,none⟩=some (.int .i64 ent.n)∧Y.cell? ⟨p,off+k*5+3,none⟩=some (.string ent.s)∧Y.cell? ⟨p,off+k*5+4,none⟩=some (.int .i64 ent.k)from by
     have hr:=(HR.out _ f).rd
     rw[←HM.out]at hr
     exact⟨hr.cell _ _ g0,hr.cell (k*5+1) _ g1,hr.cell (k*5+2) _ g2,hr.cell (k*5+3) _ g3,hr.cell (k*5+4) _ g4⟩))
    clear hrd g0 g1 g2 g3 g4 hpk hkl
    have hp1:(1:Int)≤(pt.length:Int)+1:=by omega
    have Ul:(1:Int)≤(cpp:Int):=by omega
    have hl0:=World.block_lt_of_cell? _ _ y0
    have hx0:=World.block_lt_of_cell? _ _ x0
    have hmm:l'.length≤100000:=by omega
    by_cases hkk:k0=key
    ·subst hkk
     have FM:=ah (HO.out.keep (aj.drew au wr))
     have jO:=FK.out _ FM.out.aI
     go_upto_region 6 with fail
     clear y0 y1 y2 y3 y4 hl0 hx0 x0
     refine iZ (S:=fun Y=>Y.cell? ⟨p,off+k*5,none⟩=some (.slice (some ⟨pg,po,none⟩) (pt.length+1) cpp)∧Y.cell? ⟨p,off+k*5+1,none⟩=some (.int .i64 ent.dc)∧Y.cell? ⟨p,off+k*5+2,none⟩=some (.int .i64 ent.n)∧Y.cell? ⟨p,off+k*5+3,none⟩=some (.string ent.s)∧Y.cell? ⟨p,off+k*5+4,none⟩=some (.int .i64 ent.k)) 15 (by kernel_rfl) jO ?_
     clear jO
     intro hS
     generalize World.drew wr=Y0 at*
     refine aT 0 30 rfl rfl (v:=?_) (.inl ⟨by rfl,?_⟩) ?_
     rotate_left 1
     ·(intro w hSw;(try dsimp only at hSw);go_simp;(try with_reducible rfl))
     refine aT 1 31 rfl rfl (v:=?_) (.inl ⟨by rfl,?_⟩) ?_
     rotate_left 1
     ·(intro w hSw;(try dsimp only at hSw);go_simp;(try with_reducible rfl))
     try simp only[Act.put,aP,aQ,aO]
     refine aT 2 32 rfl rfl (v:=?_) (.inl ⟨by rfl,?_⟩) ?_
     rotate_left 1
     ·(intro w hSw;(try dsimp only at hSw);go_simp;(try with_reducible rfl))
     refine aT 3 33 rfl rfl (v:=?_) (.inl ⟨by rfl,?_⟩) ?_
     rotate_left 1
     ·(intro w hSw;(try dsimp only at hSw);go_simp;(try with_reducible rfl))
     try simp only[Act.put,aP,aQ,aO]
     refine aT 4 34 rfl rfl (v:=?_) (.inl ⟨by rfl,?_⟩) ?_
     rotate_left 1
     ·(intro w hSw;(try dsimp only at hSw);go_simp;(try with_reducible rfl))
     refine aT 5 35 rfl rfl (v:=?_) (.inl ⟨by rfl,?_⟩) ?_
     rotate_left 1
     ·(intro w hSw;(try dsimp only at hSw);go_simp;(try with_reducible rfl))
     try simp only[Act.put,aP,aQ,aO]
     refine aT 6 36 rfl rfl (v:=?_) (.inl ⟨by rfl,?_⟩) ?_
     rotate_left 1
     ·(intro w hSw;(try dsimp only at hSw);go_simp;(try with_reducible rfl))
     refine aT 7 37 rfl rfl (v:=?_) (.inl ⟨by rfl,?_⟩) ?_
     rotate_left 1
     ·(intro w hSw;(try dsimp only at hSw);go_simp;(try with_reducible rfl))
     try simp only[Act.put,aP,aQ,aO]
     refine aT 8 38 rfl rfl (v:=?_) (.inl ⟨by rfl,?_⟩) ?_
     rotate_left 1
     ·(intro w hSw;(try dsimp only at hSw);go_simp;(try with_reducible rfl))
     refine aT 9 39 rfl rfl (v:=?_) (.inl ⟨by rfl,?_⟩) ?_
     rotate_left 1
     ·(intro w hSw;(try dsimp only at hSw);go_simp;(try with_reducible rfl))
     try simp only[Act.put,aP,aQ,aO]
     refine aT 10 40 rfl rfl (v:=?_) (.inl ⟨by rfl,?_⟩) ?_
     rotate_left 1
     ·(intro w hSw;(try dsimp only at hSw);go_simp;(try with_reducible rfl))
     refine aT 11 41 rfl rfl (v:=?_) (.inl ⟨by rfl,?_⟩) ?_
     rotate_left 1
     ·(intro w hSw;(try dsimp only at hSw);go_simp;(try with_reducible rfl))
     try simp only[Act.put,aP,aQ,aO]
     refine aT 12 42 rfl rfl (v:=?_) (.inl ⟨by rfl,?_⟩) ?_
     rotate_left 1
     ·(intro w hSw;(try dsimp only at hSw);go_simp;(try with_reducible rfl))
     try simp only[Act.put,aP,aQ,aO]
     refine bK (i:=13) (by kernel_rfl) rfl (fun K hK=>?_)
     go_simp
     have hS4:=FK.out _ (FM.out.aI.alloc1 (o:= .cells #[.slice (if cpp=1 then some ⟨pg,po,none⟩else some ⟨pg,po+1,none⟩) pt.length (cpp-1), .int .i64 ent.dc, .int .i64 ent.n, .string ent.s, .int .i64 ent.k] 103))
     refine hK.out _ _ hS4 ?_
     clear hK K
     try simp only[Act.put,aP,aQ,aO]
     refine bK (i:=14) (by kernel_rfl) rfl (fun K hK=>?_)
     refine yg w Y0 [.slice (if cpp=1 then some ⟨pg,po,none⟩else some ⟨pg,po+1,none⟩) pt.length (cpp-1), .int .i64 ent.dc, .int .i64 ent.n, .string ent.s, .int .i64 ent.k] rfl (.tmp 30) (.tmp 43) 50 rfl 103 i0 _ 5 64 Tryz.underlying50 hi0 hz0 hz1 hz2 (by decide) (by decide) (.slice av l'.length cv) l'.length _ FM.out 1 1 (by simp[Act.eval]) (by simp[Act.eval]) rfl (by simp[Value.oneCell']) (by simp only[maxLen];omega) (by omega) ?_
     intro ad cc w2 bn
     have OW:=ah bn;clear bn
     have hS5:=FK.out _ OW.out.aI
     refine hK.out _ _ hS5 ?_
     clear hK K hS4
     try simp only[Act.put,aP,aQ,aO]
     refine gQ (by kernel_rfl) (by kernel_rfl) rfl (fun K hK=>?_)
     clear hS5
     go_simp
     refine hK.out _ _ ?_
     clear hK K
     go_wp2
     go_roundw
     case rel=>
      refine⟨k+1,l'++ [⟨pt, .slice (if cpp=1 then some ⟨pg,po,none⟩else some ⟨pg,po+1,none⟩) pt.length (cpp-1),ent⟩],by omega,by go_num,?_,fun W' f' x hx=>?_,by simp;omega,?_⟩
      ·rw[List.length_append,FI]
       exact OW.out
      ·rcases List.mem_append.1 hx with hx|hx
       ·exact wB.out _ f' x hx
       ·have:x=⟨pt, .slice (if cpp=1 then some ⟨pg,po,none⟩else some ⟨pg,po+1,none⟩) pt.length (cpp-1),ent⟩:=by simpa using hx
        subst this
        exact nG.out _ f' _ rfl
      ·rw[List.map_append,zu.out,HST.out]
       simp[rU,bV.con]
     case measure=>simp[intOf];omega
    ·have HKK:=ah hkk
     have hkb:(k0.toList==key.toList)=false:=by simpa using zn hkk
     clear hkk y1 y2 y3 y4 hpl hp1 Ul
     have hpp:(0:Int)<(pt.length:Int)+1:=by omega
     go_wp2
     go_roundw
     case rel=>exact⟨k+1,l',by omega,by go_num,HO.out,wB.out,by omega,by rw[HST.out,zu.out];simp[rU,HKK.out]⟩
     case measure=>simp[intOf];omega
  ·obtain rfl:k=m:=by omega
   have hall:l.take k=l:=List.take_of_length_le (by rw[←HM.out];exact Nat.le_refl _)
   rw[hall]at zu
   clear hall
   go_wp2
   go_ret
   exact⟨_,l',rfl,HO.out,wB.out _ HO.out.aI,zu.out⟩
end Go.Proofs.YtlhmbkjdfjoilaaGreat
namespace Go.Proofs.YtlhmbkjdfjoilaaGreat
def jX (es:List aF):List Lf:=es.map fun e=>(([]:List ByteArray),e)
def fZ:aH→List Lf
 | .nil=> []
 | .cons key es sub rest=>(jX es++fZ sub).map (fun x=>(key::x.1,x.2))++fZ rest
def gW (es:List aF) (ks:aH):List Lf:=jX es++fZ ks
theorem FN (key:ByteArray) (a b:List Lf):iV key (a++b)=iV key a++iV key b:=by simp[iV]
theorem Um (key:ByteArray) (es:List aF):iV key (jX es)=[]:=by
 unfold iV jX
 rw[List.flatMap_map,List.flatMap_eq_nil_iff]
 exact fun e _=>rfl
theorem Lj (key k:ByteArray) (L:List Lf):iV key (L.map fun x=>(k::x.1,x.2))=if k=key then L else []:=by
 unfold iV
 rw[List.flatMap_map]
 by_cases h:k=key
 ·rw[if_pos h]
  have:∀x:Lf,rU key (k::x.1,x.2)=[x]:=fun x=>if_pos h
  simp only[this]
  induction L with
  |nil=>rfl
  |cons x L ih=>rw[List.flatMap_cons,ih];rfl
 ·rw[if_neg h,List.flatMap_eq_nil_iff]
  exact fun x _=>if_neg h
theorem Ll {key:ByteArray}:∀ {ks:aH},key∉ks.keys→iV key (fZ ks)=[]
 | .nil,_=>rfl
 | .cons k es sub rest,h=>by
   have h1:k≠key:=fun e=>h (by simp[aH.keys,e])
   have h2:key∉rest.keys:=fun e=>h (by simp[aH.keys,e])
   show iV key ((jX es++fZ sub).map (fun x=>(k::x.1,x.2))++fZ rest)=[]
   rw[FN,Lj,if_neg h1,Ll h2]
   rfl
theorem Lm {key:ByteArray}:∀ {ks:aH},gI ks.keys→key∈ks.keys→iV key (fZ ks)=gW (ks.find key).1 (ks.find key).2
 | .nil,_,h=>by cases h
 | .cons k es sub rest,o,h=>by
   obtain⟨o1,o2⟩:=List.pairwise_cons.1 (show(k::rest.keys).Pairwise _ from o)
   show iV key ((jX es++fZ sub).map (fun x=>(k::x.1,x.2))++fZ rest)=gW (if k=key then(es,sub)else rest.find key).1 (if k=key then(es,sub)else rest.find key).2
   rw[FN,Lj]
   by_cases e:k=key
   ·subst e
    have:k∉rest.keys:=fun hm=>by have:=o1 k hm;rw[jK]at this;cases this
    rw[if_pos rfl,if_pos rfl,Ll this,List.append_nil]
    rfl
   ·rw[if_neg e,if_neg e,List.nil_append]
    exact Lm o2 ((List.mem_cons.1 h).elim (fun h=>absurd h.symm e) id)
theorem Un {key:ByteArray} {es:List aF} {ks:aH} (o:gI ks.keys) (h:key∈ks.keys):iV key (gW es ks)=gW (ks.find key).1 (ks.find key).2:=by
 unfold gW
 rw[FN,Um,List.nil_append]
 exact Lm o h
theorem Uo (key:ByteArray) {a b:List Lf} (h:a.Perm b):(iV key a).Perm (iV key b):=h.flatMap_right _
theorem Ur (key:ByteArray) (L:List Lf):(iV key L).length≤L.length:=by
 induction L with
 |nil=>exact Nat.le_refl _
 |cons x L ih=>
  have:(rU key x).length≤1:=by
   obtain⟨p,e⟩:=x
   unfold rU
   cases p with
   |nil=>simp
   |cons k p=>simp only;split<;>simp
  unfold iV at*
  rw[List.flatMap_cons,List.length_append,List.length_cons]
  omega
def xw (c:Lf→Bool) (b:Option aF) (x:Lf):Option aF:=if c x=true then(match b with|none=>some x.2|some y=>if ltD x.2 y=true then some x.2 else some y)else b
def lC (c:Lf→Bool) (L:List Lf):Option aF:=L.foldl (xw c) none
theorem Us (c:Lf→Bool) {L:List Lf} {k:Nat} (h:k<L.length):lC c (L.take (k+1))=xw c (lC c (L.take k)) (L.getD k default):=by
 rw[take_succ default h]
 unfold lC
 rw[List.foldl_append]
 rfl
theorem Ut (c:Lf→Bool) (L:List Lf) (x:Lf):lC c (L++ [x])=xw c (lC c L) x:=by unfold lC;rw[List.foldl_append];rfl
theorem Uu (c:Lf→Bool) (L:List Lf):(lC c L=none→∀x∈L,c x=false)∧∀e,lC c L=some e→(∃x∈L,c x=true∧x.2=e)∧∀x∈L,c x=true→ltD x.2 e=false:=by
 have key:∀(n:Nat) (L:List Lf),L.length=n→(lC c L=none→∀x∈L,c x=false)∧∀e,lC c L=some e→(∃x∈L,c x=true∧x.2=e)∧∀x∈L,c x=true→ltD x.2 e=false:=by
  intro n
  induction n with
  |zero=>
   intro L hL
   have:=List.eq_nil_of_length_eq_zero hL
   subst this
   exact⟨fun _ x hx=>(by cases hx),fun e he=>(by cases he)⟩
  |succ n ih=>
   intro L hL
   rcases List.eq_nil_or_concat L with h|⟨M,x,h⟩
   ·subst h;simp at hL
   ·rw[List.concat_eq_append]at h
    subst h
    obtain⟨h1,h2⟩:=ih M (by simpa using hL)
    rw[Ut]
    unfold xw
    cases hc:c x with
    |false=>
     simp only[Bool.false_eq_true,if_false]
     refine⟨fun hn y hy=>?_,fun e he=>?_⟩
     ·rcases List.mem_append.1 hy with hy|hy
      ·exact h1 hn y hy
      ·have:y=x:=by simpa using hy
       rw[this];exact hc
     ·obtain⟨⟨y,hy,g⟩,g2⟩:=h2 e he
      refine⟨⟨y,List.mem_append_left _ hy,g⟩,fun z hz hcz=>?_⟩
      rcases List.mem_append.1 hz with hz|hz
      ·exact g2 z hz hcz
      ·have:z=x:=by simpa using hz
       rw[this,hc]at hcz;cases hcz
    |true=>
     simp only[if_true]
     cases hb:lC c M with
     |none=>
      refine⟨fun hn=>(by cases hn),fun e he=>?_⟩
      simp only[Option.some.injEq]at he
      subst he
      refine⟨⟨x,by simp,hc,rfl⟩,fun z hz hcz=>?_⟩
      rcases List.mem_append.1 hz with hz|hz
      ·rw[h1 hb z hz]at hcz;cases hcz
      ·have:z=x:=by simpa using hz
       rw[this,yX];omega
     |some y=>
      obtain⟨⟨z,hz,hcz,hzy⟩,g2⟩:=h2 y hb
      cases hlt:ltD x.2 y with
      |true=>
       simp only[hlt,if_true]
       refine⟨fun hn=>(by cases hn),fun e he=>?_⟩
       simp only[Option.some.injEq]at he
       subst he
       refine⟨⟨x,by simp,hc,rfl⟩,fun u hu zx=>?_⟩
       rcases List.mem_append.1 hu with hu|hu
       ·have g3:=g2 u hu zx
        rw[rJ]at hlt
        rw[yX]at g3⊢
        omega
       ·have:u=x:=by simpa using hu
        rw[this,yX];omega
      |false=>
       simp only[hlt,Bool.false_eq_true,if_false]
       refine⟨fun hn=>(by cases hn),fun e he=>?_⟩
       simp only[Option.some.injEq]at he
       subst he
       refine⟨⟨z,List.mem_append_left _ hz,hcz,hzy⟩,fun u hu zx=>?_⟩
       rcases List.mem_append.1 hu with hu|hu
       ·exact g2 u hu zx
       ·have:u=x:=by simpa using hu
        rw[this];exact hlt
 exact key _ L rfl
def mO (es:List aF) (j:Nat) (x:Lf):Bool:=decide (x.1.length=0)&&(decide (j=0)||ltD (es.getD (j-1) aF.zero) x.2)
theorem Lp:∀ {ks:aH} {x:Lf},x∈fZ ks→x.1≠ []
 | .cons k es sub rest,x,h=>by
   have h:x∈(jX es++fZ sub).map (fun x=>(k::x.1,x.2))++fZ rest:=h
   rcases List.mem_append.1 h with h|h
   ·obtain⟨y,_,rfl⟩:=List.mem_map.1 h
    simp
   ·exact Lp h
theorem Lr {es:List aF} {ks:aH} {x:Lf} (h:x∈gW es ks) (h0:x.1.length=0):x.2∈es:=by
 unfold gW at h
 rcases List.mem_append.1 h with h|h
 ·obtain⟨e,he,rfl⟩:=List.mem_map.1 h
  exact he
 ·exact absurd (List.eq_nil_of_length_eq_zero h0) (Lp h)
theorem BQ {es:List aF} (o:es.Pairwise fun x y=>ltD x y=true) {i j:Nat} (hij:i<j) (hj:j<es.length):ltD (es.getD i aF.zero) (es.getD j aF.zero)=true:=by
 rw[getD_at _ (by omega),getD_at _ hj]
 exact List.pairwise_iff_getElem.1 o i j (by omega) hj hij
theorem Uw {es:List aF} {ks:aH} {L:List Lf} (hp:L.Perm (gW es ks)) (o:es.Pairwise fun x y=>ltD x y=true) (j:Nat) (hj:j≤es.length):lC (mO es j) L=es[j]?:=by
 obtain⟨h1,h2⟩:=Uu (mO es j) L
 by_cases hlt:j<es.length
 ·have hmem:(([]:List ByteArray),es.getD j aF.zero)∈L:=hp.mem_iff.2 (List.mem_append_left _ (List.mem_map.2 ⟨_,getD_mem _ hlt,rfl⟩))
  have hcj:mO es j ([],es.getD j aF.zero)=true:=by
   unfold mO
   by_cases h0:j=0
   ·simp[h0]
   ·show(decide (([]:List ByteArray).length=0)&&(decide (j=0)||ltD (es.getD (j-1) aF.zero) (es.getD j aF.zero)))=true
    rw[BQ o (show j-1<j by omega) hlt]
    simp
  rw[List.getElem?_eq_getElem hlt]
  cases hb:lC (mO es j) L with
  |none=>rw[h1 hb _ hmem]at hcj;cases hcj
  |some e=>
   obtain⟨⟨x,hx,hcx,rfl⟩,g2⟩:=h2 e hb
   unfold mO at hcx
   rw[Bool.and_eq_true,decide_eq_true_eq]at hcx
   have hxe:=Lr (hp.mem_iff.1 hx) hcx.1
   obtain⟨i,hi,he⟩:=List.getElem_of_mem hxe
   have rW:es.getD i aF.zero=x.2:=by rw[getD_at _ hi];exact he
   have hge:j≤i:=by
    rcases Nat.lt_or_ge i j with hij|hij
    ·exfalso
     have h0:j≠0:=by omega
     have h3:=hcx.2
     simp only[h0,decide_false,Bool.false_or]at h3
     rw[←rW]at h3
     rcases Nat.lt_or_ge i (j-1)with h4|h4
     ·have:=BQ o h4 (by omega)
      rw[rJ]at h3 this
      omega
     ·have:i=j-1:=by omega
      subst this
      rw[rJ]at h3
      omega
    ·exact hij
   have g3:=g2 _ hmem hcj
   simp only at g3
   rcases Nat.lt_or_ge j i with hij|hij
   ·have:=BQ o hij hi
    rw[rW]at this
    rw[this]at g3
    cases g3
   ·have:i=j:=by omega
    subst this
    rw[←he]
 ·have hj2:j=es.length:=by omega
  rw[List.getElem?_eq_none (by omega)]
  cases hb:lC (mO es j) L with
  |none=>rfl
  |some e=>
   exfalso
   obtain⟨⟨x,hx,hcx,rfl⟩,_⟩:=h2 e hb
   unfold mO at hcx
   rw[Bool.and_eq_true,decide_eq_true_eq]at hcx
   have hxe:=Lr (hp.mem_iff.1 hx) hcx.1
   obtain⟨i,hi,he⟩:=List.getElem_of_mem hxe
   have rW:es.getD i aF.zero=x.2:=by rw[getD_at _ hi];exact he
   have h0:j≠0:=by omega
   have h3:=hcx.2
   simp only[h0,decide_false,Bool.false_or]at h3
   rw[←rW]at h3
   rcases Nat.lt_or_ge i (j-1)with h4|h4
   ·have:=BQ o h4 (by omega)
    rw[rJ]at h3 this
    omega
   ·have:i=j-1:=by omega
    subst this
    rw[rJ]at h3
    omega
end Go.Proofs.YtlhmbkjdfjoilaaGreat
namespace Go.Proofs.YtlhmbkjdfjoilaaGreat
def pJ (last:ByteArray) (b:Option ByteArray) (x:Lf):Option ByteArray:=match x.1 with
 |[]=>b
 |k::_=>if bQ last k=true then(match b with|none=>some k|some y=>if bQ k y=true then some k else some y)else b
def rX (last:ByteArray) (L:List Lf):Option ByteArray:=L.foldl (pJ last) none
theorem Lu (last:ByteArray) {L:List Lf} {k:Nat} (h:k<L.length):rX last (L.take (k+1))=pJ last (rX last (L.take k)) (L.getD k default):=by
 rw[take_succ default h]
 unfold rX
 rw[List.foldl_append]
 rfl
structure xC (last:ByteArray) (L:List Lf) (b:Option ByteArray):Prop where
 none_:b=none→∀x∈L,∀k p,x.1=k::p→bQ last k=false
 some_:∀y,b=some y→(∃x∈L,∃p,x.1=y::p)∧bQ last y=true∧∀x∈L,∀k p,x.1=k::p→bQ last k=true→bQ k y=false
theorem xC.step {last:ByteArray} {L:List Lf} {b:Option ByteArray} (h:xC last L b) (x:Lf):xC last (L++ [x]) (pJ last b x):=by
 obtain⟨px,ex⟩:=x
 cases px with
 |nil=>
  show xC last _ b
  refine⟨fun hn y hy k p e=>?_,fun y hy=>?_⟩
  ·rcases List.mem_append.1 hy with hy|hy
   ·exact h.none_ hn y hy k p e
   ·have:y=([],ex):=by simpa using hy
    rw[this]at e;cases e
  ·obtain⟨⟨x,hx,g⟩,g2,g3⟩:=h.some_ y hy
   refine⟨⟨x,List.mem_append_left _ hx,g⟩,g2,fun z hz k p e=>?_⟩
   rcases List.mem_append.1 hz with hz|hz
   ·exact g3 z hz k p e
   ·have:z=([],ex):=by simpa using hz
    rw[this]at e;cases e
 |cons kx px=>
  unfold pJ
  simp only
  have hlast:∀z:Lf,z∈L++ [(kx::px,ex)]→z∈L∨z=(kx::px,ex):=fun z hz=>(List.mem_append.1 hz).elim .inl fun hz=> .inr (by simpa using hz)
  by_cases hl:bQ last kx=true
  ·rw[if_pos hl]
   cases b with
   |none=>
    refine⟨fun hn=>(by cases hn),fun y hy=>?_⟩
    have hy:kx=y:=by simpa using hy
    subst hy
    refine⟨⟨_,List.mem_append_right _ (List.mem_singleton.2 rfl),px,rfl⟩,hl,fun z hz k p e hk=>?_⟩
    rcases hlast z hz with hz|rfl
    ·rw[h.none_ rfl z hz k p e]at hk;cases hk
    ·have:kx=k:=by injection e
     rw[this];exact jK _
   |some y0=>
    obtain⟨⟨x,hx,p0,g⟩,g2,g3⟩:=h.some_ y0 rfl
    show xC last _ (if bQ kx y0=true then some kx else some y0)
    by_cases hlt:bQ kx y0=true
    ·rw[if_pos hlt]
     refine⟨fun hn=>(by cases hn),fun y hy=>?_⟩
     have hy:kx=y:=by simpa using hy
     subst hy
     refine⟨⟨_,List.mem_append_right _ (List.mem_singleton.2 rfl),px,rfl⟩,hl,fun z hz k p e hk=>?_⟩
     rcases hlast z hz with hz|rfl
     ·have h4:=g3 z hz k p e hk
      cases h5:bQ k kx with
      |false=>rfl
      |true=>rw[oZ h5 hlt]at h4;cases h4
     ·have:kx=k:=by injection e
      rw[this];exact jK _
    ·rw[if_neg hlt]
     refine⟨fun hn=>(by cases hn),fun y hy=>?_⟩
     have hy:y0=y:=by simpa using hy
     subst hy
     refine⟨⟨x,List.mem_append_left _ hx,p0,g⟩,g2,fun z hz k p e hk=>?_⟩
     rcases hlast z hz with hz|rfl
     ·exact g3 z hz k p e hk
     ·have:kx=k:=by injection e
      rw[←this];simpa using hlt
  ·rw[if_neg hl]
   refine⟨fun hn y hy k p e=>?_,fun y hy=>?_⟩
   ·rcases hlast y hy with hy|rfl
    ·exact h.none_ hn y hy k p e
    ·have:kx=k:=by injection e
     rw[←this];simpa using hl
   ·obtain⟨⟨x,hx,g⟩,g2,g3⟩:=h.some_ y hy
    refine⟨⟨x,List.mem_append_left _ hx,g⟩,g2,fun z hz k p e hk=>?_⟩
    rcases hlast z hz with hz|rfl
    ·exact g3 z hz k p e hk
    ·have:kx=k:=by injection e
     rw[←this]at hk;exact absurd hk hl
theorem LC (last:ByteArray) (L:List Lf):∀k,k≤L.length→xC last (L.take k) (rX last (L.take k))
 |0,_=>⟨fun _ x hx=>(by cases hx),fun y hy=>(by cases hy)⟩
 |k+1,h=>by
  rw[Lu last (by omega),take_succ default (by omega)]
  exact(LC last L k (by omega)).step _
theorem LD:∀ {ks:aH} {x:Lf} {k:ByteArray} {p:List ByteArray},x∈fZ ks→x.1=k::p→k∈ks.keys
 | .cons k0 es sub rest,x,k,p,h,e=>by
   have h:x∈(jX es++fZ sub).map (fun x=>(k0::x.1,x.2))++fZ rest:=h
   rcases List.mem_append.1 h with h|h
   ·obtain⟨y,_,rfl⟩:=List.mem_map.1 h
    have:k0=k:=by injection e
    simp[aH.keys,this]
   ·exact List.mem_cons_of_mem _ (LD h e)
theorem LG {es:List aF} {ks:aH} {x:Lf} {k:ByteArray} {p:List ByteArray} (h:x∈gW es ks) (e:x.1=k::p):k∈ks.keys:=by
 unfold gW at h
 rcases List.mem_append.1 h with h|h
 ·obtain⟨y,_,rfl⟩:=List.mem_map.1 h
  cases e
 ·exact LD h e
theorem LH:∀(ks:aH) (es:List aF) (d:Nat) (p:Option ByteArray),fV ks d p=true→isNil es ks=false→∃x,x∈gW es ks
 | .nil,es,_,_,_,h=>by
   cases es with
   |nil=>simp[isNil,aH.len]at h
   |cons e es=>exact⟨([],e),by simp[gW,jX]⟩
 | .cons key es' sub rest,es,d,p,hr,_=>by
   rw[n_]at hr
   simp only[Bool.and_eq_true,Bool.not_eq_true']at hr
   obtain⟨⟨⟨⟨h1,h2⟩,h3⟩,h4⟩,h5⟩:=hr
   simp only[aX,Bool.and_eq_true]at h4
   obtain⟨x,hx⟩:=LH sub es' (d-1) none h4.2 h3
   refine⟨(key::x.1,x.2),List.mem_append_right _ ?_⟩
   show _∈(jX es'++fZ sub).map (fun x=>(key::x.1,x.2))++fZ rest
   exact List.mem_append_left _ (List.mem_map.2 ⟨x,hx,rfl⟩)
theorem LJ:∀ {ks:aH} {d:Nat} {p:Option ByteArray} {k:ByteArray},fV ks d p=true→k∈ks.keys→∃x∈fZ ks,∃q,x.1=k::q
 | .nil,_,_,_,_,h=>by cases h
 | .cons key es' sub rest,d,p,k,hr,h=>by
   rw[n_]at hr
   simp only[Bool.and_eq_true,Bool.not_eq_true']at hr
   obtain⟨⟨⟨⟨h1,h2⟩,h3⟩,h4⟩,h5⟩:=hr
   rcases List.mem_cons.1 (show k∈key::rest.keys from h)with rfl|h
   ·simp only[aX,Bool.and_eq_true]at h4
    obtain⟨x,hx⟩:=LH sub es' (d-1) none h4.2 h3
    refine⟨(k::x.1,x.2),?_,x.1,rfl⟩
    show _∈(jX es'++fZ sub).map (fun x=>(k::x.1,x.2))++fZ rest
    exact List.mem_append_left _ (List.mem_map.2 ⟨x,hx,rfl⟩)
   ·obtain⟨x,hx,q,e⟩:=LJ h5 h
    refine⟨x,?_,q,e⟩
    show _∈(jX es'++fZ sub).map (fun x=>(key::x.1,x.2))++fZ rest
    exact List.mem_append_right _ hx
theorem Ux {k:ByteArray} (h:1≤k.size):bQ ByteArray.empty k=true:=by
 unfold bQ
 have:k.toList.length=k.size:=by rw[ByteArray.toList_eq];simp
 cases hk:k.toList with
 |nil=>rw[hk]at this;simp at this;omega
 |cons x l=>
  have e:ByteArray.empty.toList=[]:=by rw[ByteArray.toList_eq];rfl
  rw[e];rfl
def nM (ks:aH) (j:Nat):ByteArray:=if j=0 then ByteArray.empty else ks.keys.getD (j-1) ByteArray.empty
theorem FP {l:List ByteArray} (o:gI l) {i j:Nat} (hij:i<j) (hj:j<l.length):bQ (l.getD i ByteArray.empty) (l.getD j ByteArray.empty)=true:=by
 rw[getD_at _ (by omega),getD_at _ hj]
 exact List.pairwise_iff_getElem.1 o i j (by omega) hj hij
theorem Uy {es:List aF} {ks:aH} {d:Nat} {L:List Lf} (hp:L.Perm (gW es ks)) (hr:fV ks d none=true) (j:Nat) (hj:j≤ks.keys.length):rX (nM ks j) L=ks.keys[j]?:=by
 obtain⟨o,hkb⟩:=oC _ _ _ hr
 have hs:=LC (nM ks j) L L.length (Nat.le_refl _)
 rw[List.take_length]at hs
 have hlt:∀i,j≤i→i<ks.keys.length→bQ (nM ks j) (ks.keys.getD i ByteArray.empty)=true:=fun i h1 h2=>by
  unfold nM
  by_cases h0:j=0
  ·rw[if_pos h0]
   have:=(hkb _ (getD_mem ByteArray.empty h2)).2
   simp only[lJ,decide_eq_true_eq]at this
   exact Ux (by omega)
  ·rw[if_neg h0]
   exact FP o (by omega) h2
 have hge:∀i,i<ks.keys.length→bQ (nM ks j) (ks.keys.getD i ByteArray.empty)=true→j≤i:=fun i h2 h3=>by
  rcases Nat.lt_or_ge i j with hij|hij
  ·exfalso
   unfold nM at h3
   rw[if_neg (by omega)]at h3
   rcases Nat.lt_or_ge i (j-1)with h4|h4
   ·have:=oZ h3 (FP o h4 (by omega))
    rw[jK]at this;cases this
   ·have:i=j-1:=by omega
    subst this
    rw[jK]at h3;cases h3
  ·exact hij
 by_cases hjl:j<ks.keys.length
 ·obtain⟨x,hx,q,e⟩:=LJ hr (getD_mem ByteArray.empty hjl)
  have hxL:x∈L:=hp.mem_iff.2 (List.mem_append_right _ hx)
  rw[List.getElem?_eq_getElem hjl]
  cases hb:rX (nM ks j) L with
  |none=>have:=hlt j (Nat.le_refl _) hjl;rw[hs.none_ hb x hxL _ q e]at this;cases this
  |some y=>
   obtain⟨⟨z,hz,q2,e2⟩,g2,g3⟩:=hs.some_ y hb
   have hyk:=LG (hp.mem_iff.1 hz) e2
   obtain⟨i,hi,he⟩:=List.getElem_of_mem hyk
   have rW:ks.keys.getD i ByteArray.empty=y:=by rw[getD_at _ hi];exact he
   have hji:=hge i hi (by rw[rW];exact g2)
   have h4:=g3 x hxL _ q e (hlt j (Nat.le_refl _) hjl)
   rcases Nat.lt_or_ge j i with h5|h5
   ·have:=FP o h5 hi
    rw[rW]at this
    rw[this]at h4;cases h4
   ·have:i=j:=by omega
    subst this
    rw[he]
 ·rw[List.getElem?_eq_none (by omega)]
  cases hb:rX (nM ks j) L with
  |none=>rfl
  |some y=>
   exfalso
   obtain⟨⟨z,hz,q2,e2⟩,g2,g3⟩:=hs.some_ y hb
   have hyk:=LG (hp.mem_iff.1 hz) e2
   obtain⟨i,hi,he⟩:=List.getElem_of_mem hyk
   have rW:ks.keys.getD i ByteArray.empty=y:=by rw[getD_at _ hi];exact he
   have:=hge i hi (by rw[rW];exact g2)
   omega
end Go.Proofs.YtlhmbkjdfjoilaaGreat
