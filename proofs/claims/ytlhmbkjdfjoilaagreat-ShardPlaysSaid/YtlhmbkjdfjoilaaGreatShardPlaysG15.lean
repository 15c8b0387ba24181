/- Words for the law ShardPlays: JoinO, Lv1, LvP, Only2, Only3. -/
import Derived.Test.YtlhmbkjdfjoilaaGreatShardPlaysG0
import Derived.Test.YtlhmbkjdfjoilaaGreatShardPlaysG6
import Derived.Test.YtlhmbkjdfjoilaaGreatShardPlaysG10
import Derived.Test.YtlhmbkjdfjoilaaGreatShardPlaysG13
import Derived.Test.YtlhmbkjdfjoilaaGreatShardPlaysG14
set_option linter.unusedSimpArgs false
set_option linter.unusedVariables false
set_option maxHeartbeats 32000000
set_option maxRecDepth 1000000
namespace Go.Proofs.YtlhmbkjdfjoilaaGreat
theorem VQ {key:ByteArray} {a:Nat} {r:ByteArray→Nat}:∀ {M:List ByteArray},M.Nodup→(M.map fun k=>if key=k then a else r k).sum≤a+(M.map r).sum
 |[],_=>by simp
 |x::M,h=>by
  obtain⟨h1,h2⟩:=List.nodup_cons.1 h
  simp only[List.map_cons,List.sum_cons]
  by_cases e:key=x
  ·subst e
   have:(M.map fun k=>if key=k then a else r k)=M.map r:=List.map_congr_left fun k hk=>if_neg fun e=>h1 (by rw[e];exact hk)
   rw[this,if_pos rfl];omega
  ·have:=VQ (key:=key) (a:=a) (r:=r) h2
   rw[if_neg e];omega
def qg (t:List aQ×aT):Nat:=sizeT t.1 t.2
theorem VR:∀M:List ByteArray,(M.map fun _=>0).sum=0
 |[]=>rfl
 |_::M=>by simp only[List.map_cons,List.sum_cons,VR M]
theorem PN:∀(ks:aT) {M:List ByteArray},M.Nodup→(M.map fun k=>qg (ks.find k)).sum+ks.len≤dM ks
 | .nil,M,_=>by
   have:(M.map fun k=>qg (aT.find k .nil))=M.map fun _=>0:=rfl
   rw[this,VR];simp[aT.len]
 | .cons key es sub rest,M,h=>by
   have ih:=PN rest h
   have e:(M.map fun k=>qg ((aT.cons key es sub rest).find k))=M.map fun k=>if key=k then sizeT es sub else qg (rest.find k):=List.map_congr_left fun k _=>by
    show qg (if key=k then(es,sub)else rest.find k)=_
    split<;>rfl
   have:=VQ (key:=key) (a:=sizeT es sub) (r:=fun k=>qg (rest.find k)) h
   rw[e]
   simp only[aT.len,dM]
   unfold sizeT at this⊢
   omega
theorem VT (F:ByteArray→List aQ×aT):∀M:List ByteArray,dM (gQ F M)≤(M.map fun k=>qg (F k)).sum+M.length
 |[]=>by simp[gQ,dM]
 |k::M=>by
  have ih:=VT F M
  unfold gQ lZ
  split
  ·simp only[List.map_cons,List.sum_cons,List.length_cons];omega
  ·simp only[List.map_cons,List.sum_cons,List.length_cons,dM,qg,sizeT]at*;omega
theorem VU {l:List ByteArray} (o:jL l):l.Nodup:=o.imp fun {a b} h e=>by rw[e,nH]at h;cases h
theorem adn (M:List ByteArray) (f g h:ByteArray→Nat) (hf:∀k∈M,f k≤g k+h k):(M.map f).sum≤(M.map g).sum+(M.map h).sum:=by
 induction M with
 |nil=>simp
 |cons k M ih=>
  have h1:=hf k (by simp)
  have h2:=ih fun x hx=>hf x (by simp[hx])
  simp only[List.map_cons,List.sum_cons];omega
theorem PO (ha hb:Int→Int→Bool):∀(n:Nat) (a b:List aQ×aT),bM n a.1 a.2=true→bM n b.1 b.2=true→qg (jM ha hb n a b)≤qg a+qg b
 |0,_,_,h,_=>by simp[bM]at h
 |n+1,a,b,h1,h2=>by
  obtain⟨_,k1⟩:=oZ h1
  obtain⟨_,k2⟩:=oZ h2
  have o1:=(qO _ _ _ k1).1
  have o2:=(qO _ _ _ k2).1
  have om:=VU (GR o1 o2)
  have e:=VI ha hb a.1 b.1
  have s:=VT (fun k=>jM ha hb n (a.2.find k) (b.2.find k)) (kW a.2.keys b.2.keys)
  have l:=VJ a.2.keys b.2.keys
  have s1:=PN a.2 om
  have s2:=PN b.2 om
  have st:=adn (kW a.2.keys b.2.keys) (fun k=>qg (jM ha hb n (a.2.find k) (b.2.find k))) (fun k=>qg (a.2.find k)) (fun k=>qg (b.2.find k)) fun k hk=>by
   have hd:1≤n:=by
    rcases(uq _ _ _).1 hk with g|g
    ·exact xX k1 g
    ·exact xX k2 g
   exact PO ha hb n _ _ (xW k1 hd) (xW k2 hd)
  rw[aT.sH,aT.sH]at l
  show sizeT (iG ha hb a.1 b.1) (gQ (fun k=>jM ha hb n (a.2.find k) (b.2.find k)) (kW a.2.keys b.2.keys))≤sizeT a.1 a.2+sizeT b.1 b.2
  unfold sizeT
  omega
theorem ado {e:aQ} (h:iW e=true):e.fits:=by
 simp only[iW,qC,Bool.and_eq_true,decide_eq_true_eq]at h
 unfold aQ.fits
 omega
theorem VW {es:List aQ} (h:jg none es=true):∀e∈es,e.fits:=fun e he=>ado ((GN.1 h).1 e he)
theorem PS:∀(ks:aT) (d:Nat) (p:Option ByteArray),jh ks d p=true→dM ks≤100000→ks.Ok
 | .nil,_,_,_,_=>trivial
 | .cons key es sub rest,d,p,h,hs=>by
   rw[qI]at h
   simp only[Bool.and_eq_true]at h
   obtain⟨⟨⟨⟨h1,h2⟩,h3⟩,h4⟩,h5⟩:=h
   simp only[bM,Bool.and_eq_true]at h4
   simp only[dM]at hs
   have hk:key.size≤30:=by simp only[oN,decide_eq_true_eq]at h1;omega
   have hl:=oQ sub
   exact⟨by omega,⟨by omega,VW h4.1.2⟩,by omega,PS sub _ _ h4.2 (by omega),PS rest _ _ h5 (by omega)⟩
theorem KN {d:Nat} {es:List aQ} {ks:aT} (h:bM d es ks=true) (hs:sizeT es ks≤100000):lF es ks:=by
 simp only[bM,Bool.and_eq_true]at h
 have hl:=oQ ks
 unfold sizeT at hs
 exact⟨⟨by omega,VW h.1.2⟩,by omega,PS ks _ _ h.2 (by omega)⟩
theorem VX {c:bD} (h:eP c):kU c:=fun s hs=>by
 have hd:∀ {c:bD} {lo:Int},jq lo c→s∈c→lo≤s.1∧s.1<4:=by
  intro c
  induction c with
  |nil=>intro lo _ hm;cases hm
  |cons x c ih=>
   intro lo h hm
   rcases List.mem_cons.1 hm with rfl|hm
   ·exact⟨h.1,h.2.1⟩
   ·have:=ih h.2.2 hm;have:=h.1;omega
 obtain⟨h0,h4⟩:=hd h.1 hs
 have hp:=h.2 s.1 h0 h4
 have hm:s.2∈dA c s.1:=by
  unfold dA
  exact List.mem_map.2 ⟨s,List.mem_filter.2 ⟨hs,by simp⟩,rfl⟩
 have g1:=mQ hp.1 _ hm
 have g2:=hp.2 _ hm
 omega
theorem adp {a b u:aZ} (ha:iR 1 a) (hb:iR 1 b) (hu:iR 1 u) (h:∀n,bK u n↔bK a n∨bK b n):u.length≤a.length+b.length:=by
 have before:∀ {l:aZ} {lo:Int},iR lo l→∀r∈l,¬bK l (r.1-1):=by
  intro l
  induction l with
  |nil=>intro lo _ r hr;cases hr
  |cons x l ih=>
   intro lo hl r hr hi
   rcases List.mem_cons.1 hr with rfl|hr
   ·rcases(oM _ _ _).1 hi with g|g
    ·omega
    ·have:=yG hl.2.2 g;have:=hl.2.1;omega
   ·have hx:=mQ hl.2.2 r hr
    rcases(oM _ _ _).1 hi with g|g
    ·omega
    ·exact ih hl.2.2 r hr g
 have start:∀ {l:aZ} {n:Int},bK l n→¬bK l (n-1)→n∈l.map (·.1):=fun {l n} ⟨r,hr,h1,h2⟩ hn=>by
  refine List.mem_map.2 ⟨r,hr,?_⟩
  rcases Int.lt_or_eq_of_le h1 with g|g
  ·exact absurd ⟨r,hr,by omega,by omega⟩ hn
  ·exact g
 have hn:=JW hu
 have:=JV (l:=a.map (·.1)++b.map (·.1)) hn fun x hx=>by
  obtain⟨r,hr,rfl⟩:=List.mem_map.1 hx
  have h1:bK u r.1:=⟨r,hr,Int.le_refl _,(mQ hu r hr).2⟩
  have h2:=before hu r hr
  rw[h]at h1
  have h2:¬(bK a (r.1-1)∨bK b (r.1-1)):=fun g=>h2 ((h _).2 g)
  rcases h1 with h1|h1
  ·exact List.mem_append_left _ (start h1 fun g=>h2 (.inl g))
  ·exact List.mem_append_right _ (start h1 fun g=>h2 (.inr g))
 simpa using this
theorem adq (p:Int→aZ):(nN p).length=(p 0).length+((p 1).length+((p 2).length+(p 3).length)):=by simp[nN,iK]
theorem VY {a b u:bD} (ha:eP a) (hb:eP b) (h:kZ 0 a b u):u.length≤a.length+b.length:=by
 have hd:∀d,0≤d→d<4→(dA u d).length≤(dA a d).length+(dA b d).length:=fun d h0 h4=>
  adp (ha.2 d h0 h4).1 (hb.2 d h0 h4).1 (h.right.2 d h0 h4).1 fun n=>by
   have:=h.mem d n h0 h4
   unfold fV kS at this
   simpa using this
 have e:∀ {c:bD},eP c→c.length=(dA c 0).length+((dA c 1).length+((dA c 2).length+(dA c 3).length)):=fun {c} hc=>by
  conv=>lhs;rw[←Bz (Int.le_refl 0) hc.1]
  exact adq _
 rw[e ha,e hb,e h.right]
 have g0:=hd 0 (by decide) (by decide)
 have g1:=hd 1 (by decide) (by decide)
 have g2:=hd 2 (by decide) (by decide)
 have g3:=hd 3 (by decide) (by decide)
 omega
section
variable {es es':List aQ} {ks ks':aT} {c c' u:bD}
theorem VZ (h:jA es ks c) (h':jA es' ks' c') (hu:kZ 0 c c' u):jA (sJ es ks c es' ks' c').1 (sJ es ks c es' ks' c').2 u:=by
 refine⟨OX _ _ 5 5 (es,ks) (es',ks') (Nat.le_refl _) h.tree h'.tree,hu.right,fun r hr=>?_⟩
 have hin:∀ {a:bD},eP a→kS a r.1 r.2→0≤r.1∧r.1<4:=fun {a} ha hi=>by
  obtain⟨x,hx,_⟩:=hi
  unfold dA at hx
  obtain⟨s,hs,rfl⟩:=List.mem_map.1 hx
  obtain⟨hs,he⟩:=List.mem_filter.1 hs
  have hd:∀ {c:bD} {lo:Int},jq lo c→s∈c→lo≤s.1∧s.1<4:=by
   intro c
   induction c with
   |nil=>intro lo _ hm;cases hm
   |cons x c ih=>
    intro lo h hm
    rcases List.mem_cons.1 hm with rfl|hm
    ·exact⟨h.1,h.2.1⟩
    ·have:=ih h.2.2 hm;have:=h.1;omega
  have:=hd ha.1 hs
  have he:s.1=r.1:=by simpa using he
  omega
 have hr:r∈iY (jM (eU c) (eU c') 5 (es,ks) (es',ks')).1 (jM (eU c) (eU c') 5 (es,ks) (es',ks')).2:=hr
 rcases VA _ _ r _ _ _ hr with g|g
 ·have g2:=h.dots r g
  obtain⟨h0,h4⟩:=hin h.ctx g2
  exact(hu.mem _ _ h0 h4).2 (by unfold fV;simp[g2])
 ·have g2:=h'.dots r g
  obtain⟨h0,h4⟩:=hin h'.ctx g2
  exact(hu.mem _ _ h0 h4).2 (by unfold fV;simp[g2])
theorem adr (h:jA es ks c) (h':jA es' ks' c') (hu:kZ 0 c c' u) (s:sizeT es ks+sizeT es' ks'≤2000) (l:c.length+c'.length≤2000):iD (sJ es ks c es' ks' c').1 (sJ es ks c es' ks' c').2 u:=by
 have hs:qg (jM (eU c) (eU c') 5 (es,ks) (es',ks'))≤sizeT es ks+sizeT es' ks':=PO _ _ 5 _ _ h.tree h'.tree
 have hr:=VZ h h' hu
 have hs2:sizeT (sJ es ks c es' ks' c').1 (sJ es ks c es' ks' c').2≤2000:=Nat.le_trans hs s
 exact⟨KN hr.tree (by omega),hs2,VX hu.right,Nat.le_trans (VY h.ctx h'.ctx hu) l⟩
end
open Go.RowKit
structure dB where
 path:List ByteArray
 pv:Value
 e:aQ
instance:Inhabited dB:=⟨⟨[], .slice none 0 0,aQ.zero⟩⟩
def dB.cells (x:dB):List Value:=[x.pv, .int .i64 x.e.dc, .int .i64 x.e.n, .string x.e.s, .int .i64 x.e.k]
abbrev Lf:=List ByteArray×aQ
instance:Inhabited Lf:=⟨([],aQ.zero)⟩
def dB.con (x:dB):Lf:=(x.path,x.e)
def jS (l:List dB):List Value:=l.flatMap dB.cells
theorem Hg (a b:List dB):jS (a++b)=jS a++jS b:=by simp[jS]
theorem KO (l:List dB):(jS l).length=l.length*5:=by
 induction l with
 |nil=>rfl
 |cons q l ih=>unfold jS at*;rw[List.flatMap_cons,List.length_append,ih];simp[dB.cells];omega
theorem Ag:∀(l:List dB) (j:Nat),j<l.length→(jS l)[j*5]?=some (l.getD j default).pv∧(jS l)[j*5+1]?=some (.int .i64 (l.getD j default).e.dc)∧(jS l)[j*5+2]?=some (.int .i64 (l.getD j default).e.n)∧(jS l)[j*5+3]?=some (.string (l.getD j default).e.s)∧(jS l)[j*5+4]?=some (.int .i64 (l.getD j default).e.k)
 |[],_,h=>by cases h
 |q::l,0,_=>⟨rfl,rfl,rfl,rfl,rfl⟩
 |q::l,j+1,h=>by
  obtain⟨h0,h1,h2,h3,h4⟩:=Ag l j (by simpa using h)
  have e:jS (q::l)=q.pv:: .int .i64 q.e.dc:: .int .i64 q.e.n:: .string q.e.s:: .int .i64 q.e.k::jS l:=rfl
  refine⟨?_,?_,?_,?_,?_⟩
  ·rw[e,show(j+1)*5=j*5+1+1+1+1+1 by omega];exact h0
  ·rw[e,show(j+1)*5+1=(j*5+1)+1+1+1+1+1 by omega];exact h1
  ·rw[e,show(j+1)*5+2=(j*5+2)+1+1+1+1+1 by omega];exact h2
  ·rw[e,show(j+1)*5+3=(j*5+3)+1+1+1+1+1 by omega];exact h3
  ·rw[e,show(j+1)*5+4=(j*5+4)+1+1+1+1+1 by omega];exact h4
structure wE (Q:Nat→Prop) (w:World) (v:Value) (l:List dB):Prop where
 rd:Rd w v l.length (jS l)
 each:∀x∈l,gy Q w x.pv x.path.length (fA x.path)
theorem wE.aS {Q:Nat→Prop} {w w':World} {v:Value} {l:List dB} (h:wE Q w v l) (f:aj aF w w'):wE Q w' v l:=⟨h.rd.aS f,fun x hx=>(h.each x hx).keep f fun _ _ e=>e.elim⟩
def wF (key:ByteArray) (x:Lf):List Lf:=match x.1 with
 |[]=> []
 |k::p=>if k=key then [(p,x.2)]else []
def kX (key:ByteArray) (L:List Lf):List Lf:=L.flatMap (wF key)
theorem ads {key:ByteArray} {l:List dB} {k:Nat} (h:k<l.length):kX key ((l.take (k+1)).map dB.con)=kX key ((l.take k).map dB.con)++wF key (l.getD k default).con:=by
 rw[take_succ default h,List.map_append]
 unfold kX
 rw[List.flatMap_append]
 simp
theorem adt {Q:Nat→Prop} {w:World} {g off n c:Nat} {k:ByteArray} {p:List ByteArray} (h:gy Q w (.slice (some ⟨g,off,none⟩) n c) (p.length+1) (fA (k::p))) (ad:Option Addr) (had:ad=(if c=1 then some ⟨g,off,none⟩else some ⟨g,off+1,none⟩)):gy Q w (.slice ad p.length (c-1)) p.length (fA p):=by
 subst had
 rcases h.rd with⟨ad,h1,h2,h3⟩|⟨b,o,c',h1,h2,h3,h4⟩
 ·simp[fA]at h3
 ·injection h1 with e1 e2 e3
  injection e1 with e1
  injection e1 with e4 e5
  subst e3 e4 e5
  have hq:Q g:=h.q (by simp[fA]) g rfl
  by_cases hc:c=1
  ·rw[if_pos hc]
   have h0:p.length=0:=by omega
   obtain rfl:=List.eq_nil_of_length_eq_zero h0
   exact⟨.inr ⟨g,off,c-1,rfl,by simp,by omega,fun j u hu=>by simp[fA]at hu⟩,fun _ i hi=>(show g=i by simpa[Value.ownBlock]using hi)▸hq⟩
  ·rw[if_neg hc]
   refine⟨.inr ⟨g,off+1,c-1,rfl,by omega,by omega,fun j u hu=>?_⟩,fun _ i hi=>(show g=i by simpa[Value.ownBlock]using hi)▸hq⟩
   have:=h4 (j+1) u hu
   rwa [show off+(j+1)=off+1+j by omega]at this
theorem adu (Q:Nat→Prop) (l:List dB) (w:World) (v:Value) (key:ByteArray) (h:wE Q w v l) (hl:l.length≤100000):
 Calls Tryz.prog 52 #[v, .string key] w fun e w'=>∃v' l',e= .returned v'∧OwnAt w w' 103 5 v' l'.length (jS l')∧(∀x∈l',gy Q w' x.pv x.path.length (fA x.path))∧l'.map dB.con=kX key (l.map dB.con):=by
 obtain⟨i0,hi0,hz0,hz1,hz2⟩:=info_parts DW
 have HR:=ah (fun W (f:aj aF w W)=>h.aS f)
 have HL:=ah hl
 have sK:=ah (fun k hk=>ads (key:=key) (l:=l) (k:=k) hk)
 obtain⟨a,cp,rfl⟩:=h.rd.sl
 clear h hl
 obtain⟨m,hm⟩:∃m,m=l.length:=⟨_,rfl⟩
 rw[←hm]
 have HM:=ah hm;clear hm
 have hm1:m≤100000:=by rw[HM.out];exact HL.out
 go_enter Tryz.func52,Tryz.ntmps52
 go_wp2
 go_loopw [5,9] (fun v' iv W=>∃(k:Nat) (l':List dB),k≤m∧iv= .int .i64 k∧OwnAt w W 103 5 v' l'.length (jS l')∧(∀W',aj aF w W'→∀x∈l',gy Q W' x.pv x.path.length (fA x.path))∧l'.length≤k∧l'.map dB.con=kX key ((l.take k).map dB.con)) (fun _ iv _=>m-(intOf iv).toNat)
 case atStart=>exact⟨0,[],Nat.zero_le _,rfl,OwnAt.nil (aj.refl _ _) _ _,fun _ _ x hx=>(by cases hx),Nat.le_refl _,rfl⟩
 case round=>
  obtain⟨k,l',hk,rfl,ho,hpa,hll,hcn⟩:=hrel
  obtain⟨av,cv,rfl⟩:=ho.shape
  have HO:=ah ho
  have BF:=ah hpa
  have rO:=ah hcn
  clear ho hpa hcn
  by_cases hlt:k<m
  ·have hkl:k<l.length:=by rw[←HM.out];exact hlt
   obtain⟨g0,g1,g2,g3,g4⟩:=Ag l k hkl
   have hrd:=(HR.out _ HO.out.aI).rd
   have hpk:=(HR.out _ HO.out.aI).each _ (getD_mem default hkl)
   have hpw:=fun W (f:aj aF w W)=>(HR.out _ f).each _ (getD_mem default hkl)
   have hst:=sK.out k hkl
   rw[←HM.out]at hrd
   rcases Rd.shape hrd with⟨ad,he,h0⟩|⟨p,off,cc,he,hmx⟩
   ·omega
   injection he with e1 e2 e3
   subst e1 e3
   clear e2
   generalize zq:l.getD k default=qb at*
   clear zq
   obtain⟨path,pv,ent⟩:=qb
   have g0:(jS l)[k*5]?=some pv:=g0
   have hpk:gy Q wr pv path.length (fA path):=hpk
   have hpw:∀W,aj aF w W→gy Q W pv path.length (fA path):=hpw
   have hst2:kX key ((l.take (k+1)).map dB.con)=kX key ((l.take k).map dB.con)++wF key (path,ent):=hst
   have HST:=ah hst2
   clear hst hst2
   have hki:(k:Int)<(m:Int):=by omega
   obtain⟨ap,cpp,rfl⟩:=hpk.rd.sl
   have y0:wr.cell? ⟨p,off+k*5,none⟩=some (.slice ap path.length cpp):=hrd.cell _ _ g0
   cases path with
   |nil=>
    have hb0:=World.block_lt_of_cell? _ _ y0
    clear hrd g0 g1 g2 g3 g4 hpk hkl
    go_wp2
    go_roundw
    case rel=>exact⟨k+1,l',by omega,by go_num,HO.out,BF.out,by omega,by rw[HST.out,rO.out];simp[wF]⟩
    case measure=>simp[intOf];omega
   |cons k0 pt=>
    rcases Rd.shape hpk.rd with⟨ad,he,h0⟩|⟨pg,po,pc,he,V_⟩
    ·simp at h0
    injection he with e1 e2 e3
    subst e1 e3
    clear e2
    have JO:=ah (show ∀W,aj aF w W→gy Q W (.slice (some ⟨pg,po,none⟩) (pt.length+1) cpp) (pt.length+1) (fA (k0::pt))from hpw)
    have x0:wr.cell? ⟨pg,po,none⟩=some (.string k0):=by have:=hpk.rd.cell 0 (.string k0) rfl;simpa using this
    have hpl:pt.length+1≤cpp:=by
     rcases hpk.rd with⟨ad,h1,h2,h3⟩|⟨b',o',c',h1,h2,h3,h4⟩
     ·simp at h2
     ·injection h1 with e1 e2 e3;subst e3;simpa using h2
    have jZ:=ah (fun W (f:aj aF w W) ad had=>adt (JO.out W f) ad had)
    have y1:wr.cell? ⟨p,off+k*5+1,none⟩=_:=hrd.cell (k*5+1) _ g1
    have y2:wr.cell? ⟨p,off+k*5+2,none⟩=_:=hrd.cell (k*5+2) _ g2
    have y3:wr.cell? ⟨p,off+k*5+3,none⟩=_:=hrd.cell (k*5+3) _ g3
    have y4:wr.cell? ⟨p,off+k*5+4,none⟩=_:=hrd.cell (k*5+4) _ g4
    have PU:=ah (fun Y (f:aj aF w Y)=>(show Y.cell? ⟨p,off+k*5,none⟩=some (.slice (some ⟨pg,po,none⟩) (pt.length+1) cpp)∧Y.cell? ⟨p,off+k*5+1,none⟩=some (.int .i64 ent.dc)∧Y.cell? ⟨p,off+k*5+2,none⟩=some (.int .i64 ent.n)∧Y.cell? ⟨p,off+k*5+3,none⟩=some (.string ent.s)∧Y.cell? ⟨p,off+k*5+4,none⟩=some (.int .i64 ent.k)from by
     have hr:=(HR.out _ f).rd
     rw[←HM.out]at hr
     exact⟨hr.cell _ _ g0,hr.cell (k*5+1) _ g1,hr.cell (k*5+2) _ g2,hr.cell (k*5+3) _ g3,hr.cell (k*5+4) _ g4⟩))
    clear hrd g0 g1 g2 g3 g4 hpk hkl
    have hp1:(1:Int)≤(pt.length:Int)+1:=by omega
    have adv:(1:Int)≤(cpp:Int):=by omega
    have hl0:=World.block_lt_of_cell? _ _ y0
    have hx0:=World.block_lt_of_cell? _ _ x0
    have hmm:l'.length≤100000:=by omega
    by_cases hkk:k0=key
    ·subst hkk
     have PV:=ah (HO.out.keep (aj.drew aF wr))
     have dH:=PU.out _ PV.out.aI
     go_upto_region 6 with fail
     clear y0 y1 y2 y3 y4 hl0 hx0 x0
     refine iq (S:=fun Y=>Y.cell? ⟨p,off+k*5,none⟩=some (.slice (some ⟨pg,po,none⟩) (pt.length+1) cpp)∧Y.cell? ⟨p,off+k*5+1,none⟩=some (.int .i64 ent.dc)∧Y.cell? ⟨p,off+k*5+2,none⟩=some (.int .i64 ent.n)∧Y.cell? ⟨p,off+k*5+3,none⟩=some (.string ent.s)∧Y.cell? ⟨p,off+k*5+4,none⟩=some (.int .i64 ent.k)) 15 (by kernel_rfl) dH ?_
     clear dH
     intro hS
     generalize World.drew wr=Y0 at*
     refine aX 0 30 rfl rfl ?_
     refine aX 1 31 rfl rfl ?_
     try simp only[Act.put,aO,aN,aJ]
     refine aX 2 32 rfl rfl ?_
     refine aX 3 33 rfl rfl ?_
     try simp only[Act.put,aO,aN,aJ]
     refine aX 4 34 rfl rfl ?_
     refine aX 5 35 rfl rfl ?_
     try simp only[Act.put,aO,aN,aJ]
     refine aX 6 36 rfl rfl ?_
     refine aX 7 37 rfl rfl ?_
     try simp only[Act.put,aO,aN,aJ]
     refine aX 8 38 rfl rfl ?_
     refine aX 9 39 rfl rfl ?_
     try simp only[Act.put,aO,aN,aJ]
     refine aX 10 40 rfl rfl ?_
     refine aX 11 41 rfl rfl ?_
     try simp only[Act.put,aO,aN,aJ]
     refine aX 12 42 rfl rfl ?_
     try simp only[Act.put,aO,aN,aJ]
     refine bg (i:=13) (by kernel_rfl) rfl (fun K hK=>?_)
     go_simp
     have hS4:=PU.out _ (PV.out.aI.alloc1 (o:= .cells #[.slice (if cpp=1 then some ⟨pg,po,none⟩else some ⟨pg,po+1,none⟩) pt.length (cpp-1), .int .i64 ent.dc, .int .i64 ent.n, .string ent.s, .int .i64 ent.k] 103))
     refine hK.out _ _ hS4 ?_
     clear hK K
     try simp only[Act.put,aO,aN,aJ]
     refine bg (i:=14) (by kernel_rfl) rfl (fun K hK=>?_)
     refine FX w Y0 [.slice (if cpp=1 then some ⟨pg,po,none⟩else some ⟨pg,po+1,none⟩) pt.length (cpp-1), .int .i64 ent.dc, .int .i64 ent.n, .string ent.s, .int .i64 ent.k] rfl (.tmp 30) (.tmp 43) 50 rfl 103 i0 _ 5 64 Tryz.underlying50 hi0 hz0 hz1 hz2 (by decide) (by decide) (.slice av l'.length cv) l'.length _ PV.out 1 1 (by simp[Act.eval]) (by simp[Act.eval]) rfl (by simp[Value.oneCell']) (by simp only[maxLen];omega) (by omega) ?_
     intro ad cc w2 bP
     have OW:=ah bP;clear bP
     have hS5:=PU.out _ OW.out.aI
     refine hK.out _ _ hS5 ?_
     clear hK K hS4
     try simp only[Act.put,aO,aN,aJ]
     refine gJ (by kernel_rfl) (by kernel_rfl) rfl (fun K hK=>?_)
     clear hS5
     go_simp
     refine hK.out _ _ ?_
     clear hK K
     go_wp2
     go_roundw
     case rel=>
      refine⟨k+1,l'++ [⟨pt, .slice (if cpp=1 then some ⟨pg,po,none⟩else some ⟨pg,po+1,none⟩) pt.length (cpp-1),ent⟩],by omega,by go_num,?_,fun W' f' x hx=>?_,by simp;omega,?_⟩
      ·rw[List.length_append,Hg]
       exact OW.out
      ·rcases List.mem_append.1 hx with hx|hx
       ·exact BF.out _ f' x hx
       ·have:x=⟨pt, .slice (if cpp=1 then some ⟨pg,po,none⟩else some ⟨pg,po+1,none⟩) pt.length (cpp-1),ent⟩:=by simpa using hx
        subst this
        exact jZ.out _ f' _ rfl
      ·rw[List.map_append,rO.out,HST.out]
       simp[wF,dB.con]
     case measure=>simp[intOf];omega
    ·have HKK:=ah hkk
     have hkb:(k0.toList==key.toList)=false:=by simpa using Cb hkk
     clear hkk y1 y2 y3 y4 hpl hp1 adv
     have hpp:(0:Int)<(pt.length:Int)+1:=by omega
     go_wp2
     go_roundw
     case rel=>exact⟨k+1,l',by omega,by go_num,HO.out,BF.out,by omega,by rw[HST.out,rO.out];simp[wF,HKK.out]⟩
     case measure=>simp[intOf];omega
  ·obtain rfl:k=m:=by omega
   have hall:l.take k=l:=List.take_of_length_le (by rw[←HM.out];exact Nat.le_refl _)
   rw[hall]at rO
   clear hall
   go_wp2
   go_ret
   exact⟨_,l',rfl,HO.out,BF.out _ HO.out.aI,rO.out⟩
end Go.Proofs.YtlhmbkjdfjoilaaGreat
namespace Go.Proofs.YtlhmbkjdfjoilaaGreat
def lI (es:List aQ):List Lf:=es.map fun e=>(([]:List ByteArray),e)
def fZ:aT→List Lf
 | .nil=> []
 | .cons key es sub rest=>(lI es++fZ sub).map (fun x=>(key::x.1,x.2))++fZ rest
def dI (es:List aQ) (ks:aT):List Lf:=lI es++fZ ks
theorem PX (key:ByteArray) (a b:List Lf):kX key (a++b)=kX key a++kX key b:=by simp[kX]
theorem adw (key:ByteArray) (es:List aQ):kX key (lI es)=[]:=by
 unfold kX lI
 rw[List.flatMap_map,List.flatMap_eq_nil_iff]
 exact fun e _=>rfl
theorem Wh (key k:ByteArray) (L:List Lf):kX key (L.map fun x=>(k::x.1,x.2))=if k=key then L else []:=by
 unfold kX
 rw[List.flatMap_map]
 by_cases h:k=key
 ·rw[if_pos h]
  have:∀x:Lf,wF key (k::x.1,x.2)=[x]:=fun x=>if_pos h
  simp only[this]
  induction L with
  |nil=>rfl
  |cons x L ih=>rw[List.flatMap_cons,ih];rfl
 ·rw[if_neg h,List.flatMap_eq_nil_iff]
  exact fun x _=>if_neg h
theorem PY {key:ByteArray}:∀ {ks:aT},key∉ks.keys→kX key (fZ ks)=[]
 | .nil,_=>rfl
 | .cons k es sub rest,h=>by
   have h1:k≠key:=fun e=>h (by simp[aT.keys,e])
   have h2:key∉rest.keys:=fun e=>h (by simp[aT.keys,e])
   show kX key ((lI es++fZ sub).map (fun x=>(k::x.1,x.2))++fZ rest)=[]
   rw[PX,Wh,if_neg h1,PY h2]
   rfl
theorem PZ {key:ByteArray}:∀ {ks:aT},jL ks.keys→key∈ks.keys→kX key (fZ ks)=dI (ks.find key).1 (ks.find key).2
 | .nil,_,h=>by cases h
 | .cons k es sub rest,o,h=>by
   obtain⟨o1,o2⟩:=List.pairwise_cons.1 (show(k::rest.keys).Pairwise _ from o)
   show kX key ((lI es++fZ sub).map (fun x=>(k::x.1,x.2))++fZ rest)=dI (if k=key then(es,sub)else rest.find key).1 (if k=key then(es,sub)else rest.find key).2
   rw[PX,Wh]
   by_cases e:k=key
   ·subst e
    have:k∉rest.keys:=fun hm=>by have:=o1 k hm;rw[nH]at this;cases this
    rw[if_pos rfl,if_pos rfl,PY this,List.append_nil]
    rfl
   ·rw[if_neg e,if_neg e,List.nil_append]
    exact PZ o2 ((List.mem_cons.1 h).elim (fun h=>absurd h.symm e) id)
theorem adx {key:ByteArray} {es:List aQ} {ks:aT} (o:jL ks.keys) (h:key∈ks.keys):kX key (dI es ks)=dI (ks.find key).1 (ks.find key).2:=by
 unfold dI
 rw[PX,adw,List.nil_append]
 exact PZ o h
theorem ady (key:ByteArray) {a b:List Lf} (h:a.Perm b):(kX key a).Perm (kX key b):=h.flatMap_right _
theorem adz (key:ByteArray) (L:List Lf):(kX key L).length≤L.length:=by
 induction L with
 |nil=>exact Nat.le_refl _
 |cons x L ih=>
  have:(wF key x).length≤1:=by
   obtain⟨p,e⟩:=x
   unfold wF
   cases p with
   |nil=>simp
   |cons k p=>simp only;split<;>simp
  unfold kX at*
  rw[List.flatMap_cons,List.length_append,List.length_cons]
  omega
def Ew (c:Lf→Bool) (b:Option aQ) (x:Lf):Option aQ:=if c x=true then(match b with|none=>some x.2|some y=>if ltD x.2 y=true then some x.2 else some y)else b
def qP (c:Lf→Bool) (L:List Lf):Option aQ:=L.foldl (Ew c) none
theorem adA (c:Lf→Bool) {L:List Lf} {k:Nat} (h:k<L.length):qP c (L.take (k+1))=Ew c (qP c (L.take k)) (L.getD k default):=by
 rw[take_succ default h]
 unfold qP
 rw[List.foldl_append]
 rfl
theorem adB (c:Lf→Bool) (L:List Lf) (x:Lf):qP c (L++ [x])=Ew c (qP c L) x:=by unfold qP;rw[List.foldl_append];rfl
theorem adC (c:Lf→Bool) (L:List Lf):(qP c L=none→∀x∈L,c x=false)∧∀e,qP c L=some e→(∃x∈L,c x=true∧x.2=e)∧∀x∈L,c x=true→ltD x.2 e=false:=by
 have key:∀(n:Nat) (L:List Lf),L.length=n→(qP c L=none→∀x∈L,c x=false)∧∀e,qP c L=some e→(∃x∈L,c x=true∧x.2=e)∧∀x∈L,c x=true→ltD x.2 e=false:=by
  intro n
  induction n with
  |zero=>
   intro L hL
   have:=List.eq_nil_of_length_eq_zero hL
   subst this
   exact⟨fun _ x hx=>(by cases hx),fun e he=>(by cases he)⟩
  |succ n ih=>
   intro L hL
   rcases List.eq_nil_or_concat L with h|⟨M,x,h⟩
   ·subst h;simp at hL
   ·rw[List.concat_eq_append]at h
    subst h
    obtain⟨h1,h2⟩:=ih M (by simpa using hL)
    rw[adB]
    unfold Ew
    cases hc:c x with
    |false=>
     simp only[Bool.false_eq_true,if_false]
     refine⟨fun hn y hy=>?_,fun e he=>?_⟩
     ·rcases List.mem_append.1 hy with hy|hy
      ·exact h1 hn y hy
      ·have:y=x:=by simpa using hy
       rw[this];exact hc
     ·obtain⟨⟨y,hy,g⟩,g2⟩:=h2 e he
      refine⟨⟨y,List.mem_append_left _ hy,g⟩,fun z hz hcz=>?_⟩
      rcases List.mem_append.1 hz with hz|hz
      ·exact g2 z hz hcz
      ·have:z=x:=by simpa using hz
       rw[this,hc]at hcz;cases hcz
    |true=>
     simp only[if_true]
     cases hb:qP c M with
     |none=>
      refine⟨fun hn=>(by cases hn),fun e he=>?_⟩
      simp only[Option.some.injEq]at he
      subst he
      refine⟨⟨x,by simp,hc,rfl⟩,fun z hz hcz=>?_⟩
      rcases List.mem_append.1 hz with hz|hz
      ·rw[h1 hb z hz]at hcz;cases hcz
      ·have:z=x:=by simpa using hz
       rw[this,Ej];omega
     |some y=>
      obtain⟨⟨z,hz,hcz,hzy⟩,g2⟩:=h2 y hb
      cases hlt:ltD x.2 y with
      |true=>
       simp only[hlt,if_true]
       refine⟨fun hn=>(by cases hn),fun e he=>?_⟩
       simp only[Option.some.injEq]at he
       subst he
       refine⟨⟨x,by simp,hc,rfl⟩,fun u hu qh=>?_⟩
       rcases List.mem_append.1 hu with hu|hu
       ·have g3:=g2 u hu qh
        rw[uo]at hlt
        rw[Ej]at g3⊢
        omega
       ·have:u=x:=by simpa using hu
        rw[this,Ej];omega
      |false=>
       simp only[hlt,Bool.false_eq_true,if_false]
       refine⟨fun hn=>(by cases hn),fun e he=>?_⟩
       simp only[Option.some.injEq]at he
       subst he
       refine⟨⟨z,List.mem_append_left _ hz,hcz,hzy⟩,fun u hu qh=>?_⟩
       rcases List.mem_append.1 hu with hu|hu
       ·exact g2 u hu qh
       ·have:u=x:=by simpa using hu
        rw[this];exact hlt
 exact key _ L rfl
def sN (es:List aQ) (j:Nat) (x:Lf):Bool:=decide (x.1.length=0)&&(decide (j=0)||ltD (es.getD (j-1) aQ.zero) x.2)
theorem Hl:∀ {ks:aT} {x:Lf},x∈fZ ks→x.1≠ []
 | .cons k es sub rest,x,h=>by
   have h:x∈(lI es++fZ sub).map (fun x=>(k::x.1,x.2))++fZ rest:=h
   rcases List.mem_append.1 h with h|h
   ·obtain⟨y,_,rfl⟩:=List.mem_map.1 h
    simp
   ·exact Hl h
theorem Wi {es:List aQ} {ks:aT} {x:Lf} (h:x∈dI es ks) (h0:x.1.length=0):x.2∈es:=by
 unfold dI at h
 rcases List.mem_append.1 h with h|h
 ·obtain⟨e,he,rfl⟩:=List.mem_map.1 h
  exact he
 ·exact absurd (List.eq_nil_of_length_eq_zero h0) (Hl h)
theorem KP {es:List aQ} (o:es.Pairwise fun x y=>ltD x y=true) {i j:Nat} (hij:i<j) (hj:j<es.length):ltD (es.getD i aQ.zero) (es.getD j aQ.zero)=true:=by
 rw[getD_at _ (by omega),getD_at _ hj]
 exact List.pairwise_iff_getElem.1 o i j (by omega) hj hij
theorem adD {es:List aQ} {ks:aT} {L:List Lf} (hp:L.Perm (dI es ks)) (o:es.Pairwise fun x y=>ltD x y=true) (j:Nat) (hj:j≤es.length):qP (sN es j) L=es[j]?:=by
 obtain⟨h1,h2⟩:=adC (sN es j) L
 by_cases hlt:j<es.length
 ·have hmem:(([]:List ByteArray),es.getD j aQ.zero)∈L:=hp.mem_iff.2 (List.mem_append_left _ (List.mem_map.2 ⟨_,getD_mem _ hlt,rfl⟩))
  have hcj:sN es j ([],es.getD j aQ.zero)=true:=by
   unfold sN
   by_cases h0:j=0
   ·simp[h0]
   ·show(decide (([]:List ByteArray).length=0)&&(decide (j=0)||ltD (es.getD (j-1) aQ.zero) (es.getD j aQ.zero)))=true
    rw[KP o (show j-1<j by omega) hlt]
    simp
  rw[List.getElem?_eq_getElem hlt]
  cases hb:qP (sN es j) L with
  |none=>rw[h1 hb _ hmem]at hcj;cases hcj
  |some e=>
   obtain⟨⟨x,hx,hcx,rfl⟩,g2⟩:=h2 e hb
   unfold sN at hcx
   rw[Bool.and_eq_true,decide_eq_true_eq]at hcx
   have hxe:=Wi (hp.mem_iff.1 hx) hcx.1
   obtain⟨i,hi,he⟩:=List.getElem_of_mem hxe
   have zu:es.getD i aQ.zero=x.2:=by rw[getD_at _ hi];exact he
   have hge:j≤i:=by
    rcases Nat.lt_or_ge i j with hij|hij
    ·exfalso
     have h0:j≠0:=by omega
     have h3:=hcx.2
     simp only[h0,decide_false,Bool.false_or]at h3
     rw[←zu]at h3
     rcases Nat.lt_or_ge i (j-1)with h4|h4
     ·have:=KP o h4 (by omega)
      rw[uo]at h3 this
      omega
     ·have:i=j-1:=by omega
      subst this
      rw[uo]at h3
      omega
    ·exact hij
   have g3:=g2 _ hmem hcj
   simp only at g3
   rcases Nat.lt_or_ge j i with hij|hij
   ·have:=KP o hij hi
    rw[zu]at this
    rw[this]at g3
    cases g3
   ·have:i=j:=by omega
    subst this
    rw[←he]
 ·have hj2:j=es.length:=by omega
  rw[List.getElem?_eq_none (by omega)]
  cases hb:qP (sN es j) L with
  |none=>rfl
  |some e=>
   exfalso
   obtain⟨⟨x,hx,hcx,rfl⟩,_⟩:=h2 e hb
   unfold sN at hcx
   rw[Bool.and_eq_true,decide_eq_true_eq]at hcx
   have hxe:=Wi (hp.mem_iff.1 hx) hcx.1
   obtain⟨i,hi,he⟩:=List.getElem_of_mem hxe
   have zu:es.getD i aQ.zero=x.2:=by rw[getD_at _ hi];exact he
   have h0:j≠0:=by omega
   have h3:=hcx.2
   simp only[h0,decide_false,Bool.false_or]at h3
   rw[←zu]at h3
   rcases Nat.lt_or_ge i (j-1)with h4|h4
   ·have:=KP o h4 (by omega)
    rw[uo]at h3 this
    omega
   ·have:i=j-1:=by omega
    subst this
    rw[uo]at h3
    omega
open Go.RowKit
def bF (p:ByteArray→Bool):aT→aT
 | .nil=> .nil
 | .cons key es sub rest=>if p key=true then .cons key es sub (bF p rest)else bF p rest
theorem Wj (p:ByteArray→Bool):∀l:List dh,bF p (mkK l)=mkK (l.filter fun q=>p q.key)
 |[]=>rfl
 |q::l=>by
  show(if p q.key=true then aT.cons q.key q.es q.sub (bF p (mkK l))else bF p (mkK l))=_
  rw[Wj p l,List.filter_cons]
  split<;>rfl
def dh.shaped (q:dh):Prop:=(∃a n c,q.ev= .slice a n c)∧∃a n c,q.kv= .slice a n c
theorem Ho:∀(l:List dh) (j:Nat),j<l.length→(l.flatMap dh.cells)[j*3]?=some (.string (l.getD j default).key)∧(l.flatMap dh.cells)[j*3+1]?=some (l.getD j default).ev∧(l.flatMap dh.cells)[j*3+2]?=some (l.getD j default).kv
 |[],_,h=>by cases h
 |q::l,0,_=>⟨rfl,rfl,rfl⟩
 |q::l,j+1,h=>by
  obtain⟨h1,h2,h3⟩:=Ho l j (by simpa using h)
  refine⟨?_,?_,?_⟩
  ·rw[show(j+1)*3=j*3+1+1+1 by omega];exact h1
  ·rw[show(j+1)*3+1=(j*3+1)+1+1+1 by omega];exact h2
  ·rw[show(j+1)*3+2=(j*3+2)+1+1+1 by omega];exact h3
theorem Wn:∀(l:List dh) (i:Nat) (q:dh),i<l.length→(l.set i q).flatMap dh.cells=(((l.flatMap dh.cells).set (i*3) (.string q.key)).set (i*3+1) q.ev).set (i*3+2) q.kv
 |[],_,_,h=>by cases h
 |x::l,0,q,_=>rfl
 |x::l,i+1,q,h=>by
  have ih:=Wn l i q (by simpa using h)
  rw[aJ,List.flatMap_cons,ih,List.flatMap_cons]
  rw[show(i+1)*3=i*3+1+1+1 by omega,show i*3+1+1+1+1=(i*3+1)+1+1+1 by omega,show i*3+1+1+1+2=(i*3+2)+1+1+1 by omega]
  rfl
theorem adE (l:List dh) (i:Nat):(l.take i).flatMap dh.cells=(l.flatMap dh.cells).take (i*3):=by
 induction l generalizing i with
 |nil=>simp
 |cons q l ih=>
  cases i with
  |zero=>simp
  |succ i=>
   rw[List.take_succ_cons,List.flatMap_cons,ih,List.flatMap_cons,show(i+1)*3=i*3+1+1+1 by omega]
   rfl
theorem adF (w:World) (b o n c:Nat) (hn:0<n) (hc:∀j,j<n*3→(w.cell? ⟨b,o+j,none⟩).isSome=true) (hf:∀j,j<n*3→w.frozen? ⟨b,o+j,none⟩=false):
 ∃Z:List Value,Z.length=n*3∧∀ty,(Builtin.clear_ #[26] ty #[.slice (some ⟨b,o,none⟩) n c]).run Tryz.prog w= .ok (.tuple #[]) (w.setCells b o Z):=by
 obtain⟨Z,hZ⟩:∃Z,Z=(Builtin.zeroCells #[.string ByteArray.empty, .slice none 0 0, .slice none 0 0] n).toList:=⟨_,rfl⟩
 have hl:Z.length=n*3:=by rw[hZ,Array.length_toList,size_zeroCells];rfl
 have h1:∀v∈Z,v.oneCell'=true:=fun v hv=>by
  rw[hZ]at hv
  simp[Builtin.zeroCells]at hv
  obtain⟨i,_,rfl⟩:=hv
  have:i%3<3:=Nat.mod_lt _ (by decide)
  rcases(by omega:i%3=0∨i%3=1∨i%3=2)with h|h|h<;>simp[h,Value.oneCell']
 refine⟨Z,hl,fun ty=>?_⟩
 have hst:=run_storeCells_cells (P:=Tryz.prog) b o Z 0 w (by rw[hl];simpa using hc) (by rw[hl];simpa using hf) h1
 simp only[Nat.add_zero]at hst
 obtain⟨m,rfl⟩:∃m,n=m+1:=⟨n-1,by omega⟩
 have hz:∀w,(zeroValue 52).run Tryz.prog w= .ok (.agg #[.string ByteArray.empty, .slice none 0 0, .slice none 0 0]) w:=Tryz.zeroValue52
 have hv:(Value.agg #[.string ByteArray.empty, .slice none 0 0, .slice none 0 0]).cells= #[.string ByteArray.empty, .slice none 0 0, .slice none 0 0]:=rfl
 simp[Builtin.clear_,run_underlying Tryz.underlying26,hz,hv,←hZ,hst]
noncomputable def jE (keys:List ByteArray) (q:dh):Bool:= !tf (q.key∈keys)
theorem adG (keys:List ByteArray) (l:List dh) (b:Nat) (w:World) (v vk:Value) (h:Rd w v l.length (l.flatMap dh.cells)) (hs:∀q∈l,q.shaped) (hl:l.length≤100000) (hk:Rd w vk keys.length (keys.map .string)) (hkl:keys.length≤1000000) (hb:w.cell? ⟨b,0,none⟩=some vk):
 Calls Tryz.prog 168 #[v, .func (.func 132) #[] #[.pointer (some ⟨b,0,none⟩)]] w fun e w'=>aj aF w w'∧(l.any (jE keys)=true→∃k:Nat,e= .returned (.int .i64 k)∧k<l.length∧jE keys (l.getD k default)=true∧(l.take k).any (jE keys)=false)∧(l.any (jE keys)=false→e= .returned (.int .i64 (-1))):=by
 have eg:∀args w,(callFunc 132 args).run Tryz.prog w= .ok (.enter 132 args) w:=enters_of Tryz.func132 (by kernel_rfl) rfl
 have HP:=ah (fun key a n c a' n' c' W (f:aj aF w W)=>VL keys key a a' n c n' c' b vk W (hk.aS f) hkl (f.cell' hb id));clear hb hk
 obtain⟨A,hA⟩:∃A,A=l.any (jE keys):=⟨_,rfl⟩
 have HA:=ah hA
 rw[←hA]
 clear hA
 rcases Rd.shape h with⟨ad,rfl,h0⟩|⟨p,off,c,rfl,hmax⟩
 ·have BL:=ah (show A=false by rw[HA.out,List.eq_nil_of_length_eq_zero h0];rfl)
  clear h h0 hs
  go_enter Tryz.func168,Tryz.ntmps168
  go_wp2
  go_loop [8] (fun i=>i= .int .i64 0) (fun _=>0)
  case atStart=>rfl
  case round=>
   obtain rfl:=hrel
   go_wp2
   go_ret
   exact⟨aj.refl _ _,fun h=>(by rw[BL.out]at h;cases h),fun _=>rfl⟩
 ·have HH:=ah h;clear h
  have Ah:=ah hs;clear hs
  generalize hn:l.length=m at*
  have HN:=ah hn;clear hn
  go_enter Tryz.func168,Tryz.ntmps168
  go_wp2
  go_loopw [8] (fun i W=>∃k:Nat,k≤m∧i= .int .i64 k∧(l.take k).any (jE keys)=false∧aj aF w W) (fun i _=>m-(intOf i).toNat)
  case atStart=>exact⟨0,Nat.zero_le _,rfl,by simp,aj.refl _ _⟩
  case round=>
   obtain⟨k,hk,rfl,ha,hw⟩:=hrel
   have qN:=ah ha;clear ha
   have HW:=ah hw;clear hw
   by_cases hlt:k<m
   ·have hlk:k<l.length:=by rw[HN.out];exact hlt
    obtain⟨g0,g1,g2⟩:=Ho l k hlk
    obtain⟨⟨a0,n0,c0,e0⟩,a1,n1,c1,e1⟩:=Ah.out _ (getD_mem default hlk)
    rw[e0]at g1
    rw[e1]at g2
    have r:=HH.out.aS HW.out
    have q0:wr.cell? ⟨p,off+k*3,none⟩=_:=r.cell _ _ g0
    have q1:wr.cell? ⟨p,off+k*3+1,none⟩=_:=r.cell (k*3+1) _ g1
    have q2:wr.cell? ⟨p,off+k*3+2,none⟩=_:=r.cell (k*3+2) _ g2
    clear g0 g1 g2 e0 e1 r
    have HT:=ah (JZ (p:=jE keys) default hlk)
    have HE:=ah (fun h=>HA.out.trans (List.any_eq_true.2 ⟨_,getD_mem default hlk,h⟩):jE keys (l.getD k default)=true→A=true)
    have HC:=ah (HP.out (l.getD k default).key a0 n0 c0 a1 n1 c1)
    have hpe:(!tf ((l.getD k default).key∈keys))=jE keys (l.getD k default):=rfl
    rw[hpe]at HC
    clear hpe hlk
    generalize (l.getD k default).key=x0 at*
    cases hy:jE keys (l.getD k default)with
    |true=>
     rw[hy]at HC
     have HEX:=ah (HE.out hy)
     have HY:=ah hy;clear hy
     clear HE HT
     go_wp2_with(go_at_call 132;refine(HC.out _ HW.out).mono ?_;rintro e w1 ⟨rfl,hw1⟩;have HW1:=ah (HW.out.aH hw1);clear hw1)
     go_ret
     exact⟨HW1.out,fun _=>⟨k,rfl,hlt,HY.out,qN.out⟩,fun h=>(by rw[HEX.out]at h;cases h)⟩
    |false=>
     rw[hy]at HC
     have Gy:=ah (show(l.take (k+1)).any (jE keys)=false by rw[HT.out,qN.out,hy];rfl)
     clear HE HT hy
     go_wp2_with(go_at_call 132;refine(HC.out _ HW.out).mono ?_;rintro e w1 ⟨rfl,hw1⟩;have HW1:=ah (HW.out.aH hw1);clear hw1)
     go_roundw
     case rel=>exact⟨k+1,by omega,by go_num,Gy.out,HW1.out⟩
     case measure=>simp[intOf];omega
   ·have hnk:m=k:=by omega
    have hall:A=false:=by
     rw[HA.out]
     have:=qN.out
     rwa [List.take_of_length_le (by rw[HN.out,hnk];exact Nat.le_refl _)]at this
    have yY:=ah hall;clear hall
    go_wp2
    go_ret
    exact⟨HW.out,fun h=>(by rw[yY.out]at h;cases h),fun _=>rfl⟩
theorem OwnAt.set0 {w0 w:World} {e:TypeId} {size g n c:Nat} {xs:List Value} (h:OwnAt w0 w e size (.slice (some ⟨g,0,none⟩) n c) n xs) (hn:0<n) (j:Nat) (u:Value):OwnAt w0 (w.setCell ⟨g,j,none⟩ u) e size (.slice (some ⟨g,0,none⟩) n c) n (xs.set j u):=by
 obtain⟨g',c',he,_,_,_,_,_,hset⟩:=h.row hn
 cases he
 exact hset j u
theorem OwnAt.at0 {w0 w:World} {e:TypeId} {size g n c:Nat} {xs:List Value} (h:OwnAt w0 w e size (.slice (some ⟨g,0,none⟩) n c) n xs) (hn:0<n):w0.heap.size≤g∧g<w.heap.size∧n≤c∧(∀j u,xs[j]?=some u→w.cell? ⟨g,j,none⟩=some u)∧∀j,w.frozen? ⟨g,j,none⟩=false:=by
 obtain⟨g',c',he,h1,h2,h3,h4,h5,_⟩:=h.row hn
 cases he
 exact⟨h1,h2,h3,h4,h5⟩
structure Ai (keys:List ByteArray) (l:List dh) (w0 w W:World) (g n c i j:Nat) (m:List dh):Prop where
 own:OwnAt w0 W 52 3 (.slice (some ⟨g,0,none⟩) n c) n (m.flatMap dh.cells)
 aI:aj (eG (.slice (some ⟨g,0,none⟩) n c)) w W
 len:m.length=n
 lt:i<j
 done:m.take i=(l.take j).filter fun q=> !jE keys q
 rest:m.drop j=l.drop j
theorem P_ {l:List dh} {p:dh→Bool} {j:Nat} (h:j<l.length):(l.take (j+1)).filter p=(l.take j).filter p++if p (l.getD j default)=true then [l.getD j default]else []:=by
 rw[take_succ default h,List.filter_append,List.filter_cons]
 split<;>simp
theorem Ai.skip {keys:List ByteArray} {l:List dh} {w0 w W W':World} {g n c i j:Nat} {m:List dh} (h:Ai keys l w0 w W g n c i j m) (hj:j<n) (hl:l.length=n) (f:aj aF W W') (ho:jE keys (l.getD j default)=true):Ai keys l w0 w W' g n c i (j+1) m:=
 ⟨h.own.keep f,h.aI.aH f,h.len,by have:=h.lt;omega,by rw[h.done,P_ (by omega),ho];simp,by rw[←List.drop_drop,h.rest,List.drop_drop]⟩
theorem Ai.take {keys:List ByteArray} {l:List dh} {w0 w W W':World} {g n c i j:Nat} {m:List dh} (h:Ai keys l w0 w W g n c i j m) (hj:j<n) (hl:l.length=n) (f:aj aF W W') (ho:jE keys (l.getD j default)=false):
 Ai keys l w0 w (((W'.setCell ⟨g,i*3,none⟩ (.string (l.getD j default).key)).setCell ⟨g,i*3+1,none⟩ (l.getD j default).ev).setCell ⟨g,i*3+2,none⟩ (l.getD j default).kv) g n c (i+1) (j+1) (m.set i (l.getD j default)):=by
 have hij:=h.lt
 have hn:0<n:=by omega
 refine⟨?_,?_,by rw[List.length_set,h.len],by omega,?_,?_⟩
 ·rw[Wn _ _ _ (by rw[h.len];omega)]
  exact(((h.own.keep f).set0 hn _ _).set0 hn _ _).set0 hn _ _
 ·have hr:eG (.slice (some ⟨g,0,none⟩) n c) g:=rfl
  exact(((h.aI.aH f).set1 (p:=⟨g,i*3,none⟩) (.inl hr)).set1 (p:=⟨g,i*3+1,none⟩) (.inl hr)).set1 (p:=⟨g,i*3+2,none⟩) (.inl hr)
 ·rw[P_ (by omega),←h.done,ho]
  simp only[Bool.not_false,if_true]
  rw[take_succ default (by rw[List.length_set,h.len];omega),List.take_set_of_le (Nat.le_refl _),getD_at default (by rw[List.length_set,h.len];omega),List.getElem_set_self]
 ·rw[List.drop_set_of_lt (by omega),←List.drop_drop,h.rest,List.drop_drop]
open Go.RowKit
theorem adH {w:World} {g o j:Nat} {vs:List Value} {cur:Array Value} {e:TypeId} {f:Nat×Nat} (h:w.heap[g]?=some (.cells cur e f)) (hl:o+vs.length≤cur.size) (hj:j<o) {u:Value} (hu:w.cell? ⟨g,j,none⟩=some u):(w.setCells g o vs).cell? ⟨g,j,none⟩=some u:=by
 have h2:=Dn g e f vs o w cur h hl
 refine aG h2 j ?_
 have hc:cur[j]?=some u:=by
  have:=hu
  simp only[World.cell?,h]at this
  simpa using this
 rw[←Array.getElem?_toList]at hc⊢
 simp only[List.append_assoc]
 rw[List.getElem?_append_left (by rw[List.length_take,Array.length_toList];omega),List.getElem?_take_of_lt hj]
 exact hc
theorem adI (keys:List ByteArray) (l:List dh) (b:Nat) (w0 w:World) (v vk:Value) (ho:OwnAt w0 w 52 3 v l.length (l.flatMap dh.cells)) (hs:∀q∈l,q.shaped) (hl:l.length≤100000) (hk:Rd w0 vk keys.length (keys.map .string)) (hkl:keys.length≤1000000) (hb:w0.cell? ⟨b,0,none⟩=some vk):
 Calls Tryz.prog 131 #[v, .func (.func 132) #[] #[.pointer (some ⟨b,0,none⟩)]] w fun e w'=>∃a c,e= .returned (.slice a (l.filter fun q=> !jE keys q).length c)∧aj (eG v) w w'∧
  Rd w' (.slice a (l.filter fun q=> !jE keys q).length c) (l.filter fun q=> !jE keys q).length ((l.filter fun q=> !jE keys q).flatMap dh.cells)∧∀k,(Value.slice a (l.filter fun q=> !jE keys q).length c).ownBlock=some k→v.ownBlock=some k:=by
 have eg:∀args w,(callFunc 132 args).run Tryz.prog w= .ok (.enter 132 args) w:=enters_of Tryz.func132 (by kernel_rfl) rfl
 have HI:=ah (adG keys l b w v vk ho.rd hs hl (hk.aS ho.aI) hkl (ho.aI.cell' hb id))
 have HP:=ah (fun key a n c a' n' c' W (f:aj aF w0 W)=>VL keys key a a' n c n' c' b vk W (hk.aS f) hkl (f.cell' hb id));clear hb hk
 cases hA:l.any (jE keys)with
 |false=>
  rw[hA]at HI
  have hall:(l.filter fun q=> !jE keys q)=l:=by
   rw[List.filter_eq_self]
   intro q hq
   have:=List.any_eq_false.1 hA q hq
   simpa using this
  rw[hall]
  clear hall hA
  obtain⟨a,c,rfl⟩:=ho.shape
  have HO:=ah ho;clear ho
  generalize l.length=n at*
  go_enter Tryz.func131,Tryz.ntmps131
  go_wp2_with(go_at_call 168;refine HI.out.mono ?_;rintro e w1 ⟨hw1,-,hy⟩;have he:=hy rfl;subst he;have HW1:=ah hw1;clear hw1 hy)
  go_ret
  exact⟨a,c,rfl,HW1.out.mono fun _ _ h=>h.elim,HO.out.rd.aS HW1.out,fun k hk=>hk⟩
 |true=>
  rw[hA]at HI
  have hn:0<l.length:=by
   cases l with
   |nil=>simp at hA
   |cons q l=>simp
  obtain⟨g,c,rfl,-⟩:=ho.row hn
  have HO:=ah ho;clear ho
  have Ah:=ah hs;clear hs
  clear hA
  generalize hnl:l.length=n at*
  have HN:=ah hnl;clear hnl
  have hmx:(n:Int)≤9223372036854775807:=by omega
  go_enter Tryz.func131,Tryz.ntmps131
  go_wp2_with(go_at_call 168;refine HI.out.mono ?_;rintro e w1 ⟨hw1,hy,-⟩;obtain⟨k0,he,hk0,hko,hkt⟩:=hy rfl;subst he;have HW1:=ah hw1;clear hw1 hy;have hkm:((k0:Int)==-1)=false:=(by rw[beq_eq_false_iff_ne];omega))
  have hd0:Ai keys l w0 w w1 g n c k0 (k0+1) l:=by
   refine⟨HO.out.keep HW1.out,HW1.out.mono fun _ _ h=>h.elim,HN.out,by omega,?_,rfl⟩
   rw[P_ (by rw[HN.out];exact hk0),hko]
   simp only[Bool.not_true,Bool.false_eq_true,if_false,List.append_nil]
   rw[List.filter_eq_self.2]
   intro q hq
   have:=List.any_eq_false.1 hkt q hq
   simpa using this
  have HD0:=ah hd0;clear hd0 hko hkt
  go_loopw [5,6] (fun iv jv W=>∃(i j:Nat) (m:List dh),iv= .int .i64 i∧jv= .int .i64 j∧j≤n∧Ai keys l w0 w W g n c i j m) (fun _ jv _=>n-(intOf jv).toNat)
  case atStart=>exact⟨k0,k0+1,l,rfl,by go_num,by omega,HD0.out⟩
  case round=>
   obtain⟨i,j,m,rfl,rfl,hj,hd⟩:=hrel
   have HD:=ah hd;clear hd
   have hij:=HD.out.lt
   by_cases hlt:j<n
   ·have hjl:j<l.length:=by rw[HN.out];exact hlt
    have hjm:j<m.length:=by rw[HD.out.len];exact hlt
    have him:i<m.length:=by rw[HD.out.len];omega
    have hsame:m.getD j default=l.getD j default:=by
     have:=HD.out.rest
     rw[getD_at default hjl,getD_at default hjm]
     have h1:(m.drop j)[0]?=(l.drop j)[0]?:=by rw[this]
     rw[List.getElem?_drop,List.getElem?_drop,Nat.add_zero,List.getElem?_eq_getElem hjm,List.getElem?_eq_getElem hjl]at h1
     exact Option.some.inj h1
    obtain⟨g0,g1,g2⟩:=Ho m j hjm
    rw[hsame]at g0 g1 g2
    obtain⟨⟨a0,n0,c0,e0⟩,a1,n1,c1,e1⟩:=Ah.out _ (getD_mem default hjl)
    rw[e0]at g1
    rw[e1]at g2
    obtain⟨p0,p1,p2⟩:=Ho m i him
    obtain⟨hg0,Hq,hnc,hcell,hfree⟩:=HD.out.own.at0 hn
    have q0:=hcell _ _ g0
    have q1:=hcell _ _ g1
    have q2:=hcell _ _ g2
    have BM:=ah (fun W (f:aj aF wr W)=>(show(W.cell? ⟨g,i*3,none⟩=_∧W.cell? ⟨g,i*3+1,none⟩=_∧W.cell? ⟨g,i*3+2,none⟩=_)∧(W.frozen? ⟨g,i*3,none⟩=false∧W.frozen? ⟨g,i*3+1,none⟩=false∧W.frozen? ⟨g,i*3+2,none⟩=false)∧g<W.heap.size from
     ⟨⟨f.cell' (hcell _ _ p0) id,f.cell' (hcell _ _ p1) id,f.cell' (hcell _ _ p2) id⟩,⟨(f.frozen Hq id).trans (hfree _),(f.frozen Hq id).trans (hfree _),(f.frozen Hq id).trans (hfree _)⟩,Nat.lt_of_lt_of_le Hq f.size⟩))
    clear g0 g1 g2 p0 p1 p2 hcell hfree hjl hjm him hsame
    have HC:=ah (HP.out (l.getD j default).key a0 n0 c0 a1 n1 c1)
    have hpe:(!tf ((l.getD j default).key∈keys))=jE keys (l.getD j default):=rfl
    rw[hpe]at HC
    clear hpe
    have sK:=ah (fun W f ho=>HD.out.take (W':=W) hlt HN.out f ho)
    rw[e0,e1]at sK
    have Qa:=ah (fun W f ho=>HD.out.skip (W':=W) hlt HN.out f ho)
    clear e0 e1
    generalize (l.getD j default).key=x0 at*
    generalize (m.getD i default).key=z0 at*
    generalize (m.getD i default).ev=z1 at*
    generalize (m.getD i default).kv=z2 at*
    have hji:(j:Int)<(n:Int):=by omega
    have hii:(i:Int)<(n:Int):=by omega
    have hfb:=aj.alloc aF wr (.cells #[.string x0, .slice a0 n0 c0, .slice a1 n1 c1] 52)
    have hbx:=heap_alloc_new wr (.cells #[.string x0, .slice a0 n0 c0, .slice a1 n1 c1] 52)
    have b_:=ah hfb;clear hfb
    have bW:=ah hbx;clear hbx
    cases hy:jE keys (l.getD j default)with
    |true=>
     rw[hy]at HC
     have adJ:=ah (fun W f=>Qa.out W f hy)
     clear hy sK Qa
     go_wp2_with(go_at_call 132;refine(HC.out _ (HD.out.own.aI.aH b_.out)).mono ?_;rintro e w2 ⟨rfl,hw2⟩;have HW2:=ah (b_.out.aH hw2);clear hw2)
     go_roundw
     case rel=>exact⟨i,j+1,m,rfl,by go_num,by omega,adJ.out _ HW2.out⟩
     case measure=>simp[intOf];omega
    |false=>
     rw[hy]at HC
     have adK:=ah (fun W f=>sK.out W f hy)
     clear hy sK Qa
     go_wp2_with(go_at_call 132;refine(HC.out _ (HD.out.own.aI.aH b_.out)).mono ?_;rintro e w2 ⟨rfl,hw2⟩;have b0:=aG (hw2.blk bW.out id) 0 rfl;have b1:=aG (hw2.blk bW.out id) 1 rfl;have b2:=aG (hw2.blk bW.out id) 2 rfl;have HW2:=ah (b_.out.aH hw2);clear hw2 q0 q1 q2;obtain⟨⟨s0,s1,s2⟩,⟨f0,f1,f2⟩,hgl⟩:=BM.out _ HW2.out)
     go_roundw
     case rel=>exact⟨i+1,j+1,_,by go_num,by go_num,by omega,adK.out _ HW2.out⟩
     case measure=>simp[intOf];omega
   ·obtain rfl:n=j:=by omega
    have hf:=HD.out.done
    rw[show l.take n=l from List.take_of_length_le (by rw[HN.out];exact Nat.le_refl _)]at hf
    have hfl:(l.filter fun q=> !jE keys q).length=i:=by rw[←hf,List.length_take,HD.out.len];omega
    have vC:=ah hfl
    obtain⟨hg0,Hq,hnc,hcell,hfree⟩:=HD.out.own.at0 hn
    have hml:(m.flatMap dh.cells).length=n*3:=by rw[OD,HD.out.len]
    obtain⟨Z,hZ,hcl⟩:=adF wr g (i*3) (n-i) (c-i) (by omega) (fun t ht=>by
     have hi:i*3+t<(m.flatMap dh.cells).length:=by omega
     rw[hcell _ _ (List.getElem?_eq_getElem hi)];rfl) (fun t ht=>hfree _)
    have hrd:Rd (wr.setCells g (i*3) Z) (.slice (some ⟨g,0,none⟩) i c) i ((l.filter fun q=> !jE keys q).flatMap dh.cells):=by
     rcases HD.out.own.own.2 with⟨hnil,_⟩|⟨g',cap,cur,hv,_,hbk,h1,h2,h3,_⟩
     ·cases hnil
     ·cases hv
      refine .inr ⟨g,0,c,rfl,by omega,h2,fun j u hu=>?_⟩
      rw[←hf,adE,List.getElem?_take]at hu
      split at hu
      ·next hjl=>
       rw[Nat.zero_add]
       exact adH hbk (by rw[hZ,h3];omega) hjl (hcell _ _ hu)
      ·cases hu
    have sO:=ah hrd;clear hrd hml hcell hfree
    have HFS:=ah (HD.out.aI.trans (aj.setCells (S:=eG (.slice (some ⟨g,0,none⟩) n c)) g wr (.inl rfl) Z (i*3)) fun _ _ h=>h)
    have hic:i<c:=by omega
    have hcx:(c:Int)≤9223372036854775807:=by
     have hrd:=HD.out.own.rd
     rcases hrd with⟨ad,he,h0,_⟩|⟨b',off,c',he,_,hm,_⟩
     ·omega
     ·cases he;simp only[maxLen]at hm;omega
    clear hf hfl
    go_wp2
    go_ret
    exact⟨some ⟨g,0,none⟩,c,by rw[vC.out];rfl,HFS.out,by rw[vC.out];exact sO.out,fun k hk=>hk⟩
end Go.Proofs.YtlhmbkjdfjoilaaGreat
