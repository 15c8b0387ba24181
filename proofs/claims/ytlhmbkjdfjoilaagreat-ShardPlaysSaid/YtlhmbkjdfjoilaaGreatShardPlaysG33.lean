/- Words for the law ShardPlays: Ps15, Ps17, Ps16, Trod. -/
import Derived.Test.YtlhmbkjdfjoilaaGreatShardPlaysG0
import Derived.Test.YtlhmbkjdfjoilaaGreatShardPlaysG1
import Derived.Test.YtlhmbkjdfjoilaaGreatShardPlaysG22
import Derived.Test.YtlhmbkjdfjoilaaGreatShardPlaysG28
import Derived.Test.YtlhmbkjdfjoilaaGreatShardPlaysG30
import Derived.Test.YtlhmbkjdfjoilaaGreatShardPlaysG31
import Derived.Test.YtlhmbkjdfjoilaaGreatShardPlaysG32
import Derived.Deep.Strs
import Derived.ChangeArms
set_option linter.unusedSimpArgs false
set_option linter.unusedVariables false
set_option maxHeartbeats 32000000
set_option maxRecDepth 1000000
namespace Go.Proofs.YtlhmbkjdfjoilaaGreat
open Go.RowKit
def vT (L:Nat→Prop) (w:World) (b n:Nat) (vis:List bY) (st:List bI) (w':World):Prop:=
 ∃L' vb sv vs rs,Turned L w L' w'∧dW L' w' b n vb sv vs rs∧vs.map aU.g=vis∧rs.map bC.con=st
def kR (Q:Nat→Prop) (w:World) (n:Nat) (vv sv:Value) (vis:List bY) (st:List bI):Prop:=
 ∃vs rs,jf Q w n vv sv vs rs∧vs.map aU.g=vis∧rs.map bn.con=st
theorem kR.aS {Q:Nat→Prop} {w w':World} {n:Nat} {vv sv:Value} {vis:List bY} {st:List bI} (h:kR Q w n vv sv vis st) (f:aj aF w w'):kR Q w' n vv sv vis st:=by
 obtain⟨vs,rs,h,e⟩:=h
 exact⟨vs,rs,h.aS f,e⟩
theorem kR.shape {Q:Nat→Prop} {w:World} {n:Nat} {vv sv:Value} {vis:List bY} {st:List bI} (h:kR Q w n vv sv vis st):∃a c a' c',vv= .slice a n c∧sv= .slice a' st.length c':=by
 obtain⟨vs,rs,h,_,rfl⟩:=h
 rw[List.length_map]
 exact h.shape
theorem vT.aI {L:Nat→Prop} {w w1:World} {b n:Nat} {vis:List bY} {st:List bI} (h:vT L w b n vis st w1):aj L w w1:=by
 obtain⟨L',vb,sv,vs,rs,ht,hs,e⟩:=h
 exact ht.aI
def lM (L:Nat→Prop) (w:World) (b n:Nat) (vv sv:Value) (vis:List bY) (st:List bI):Prop:=
 (∃vb jo vs rs,dW L w b n vb jo vs rs∧vs.map aU.g=vis∧rs.map bC.con=st)∧kR (fun k=>¬L k) w n vv sv vis st
theorem lM.Ls {L:Nat→Prop} {w:World} {b n:Nat} {vv sv:Value} {vis:List bY} {st:List bI} (h:lM L w b n vv sv vis st):∀k,L k→k<w.heap.size:=by
 obtain⟨⟨vb,jo,vs,rs,h,_⟩,_⟩:=h
 exact h.Ls
theorem lM.aS {L:Nat→Prop} {w w':World} {b n:Nat} {vv sv:Value} {vis:List bY} {st:List bI} (h:lM L w b n vv sv vis st) (f:aj aF w w'):lM L w' b n vv sv vis st:=by
 obtain⟨⟨vb,jo,vs,rs,h,e⟩,h'⟩:=h
 exact⟨⟨vb,jo,vs,rs,h.aS f,e⟩,h'.aS f⟩
noncomputable def og (n:Nat) (x k:Int) (q:aU) (st:List bI):Int×List bI:=
 if(jP n q.es q.ks q.c k&&tf (bF (bQ n k) q.ks=q.ks))=true then mD n x k.toNat q.g st else(1,st)
theorem Tz (n:Nat) (x k:Int) (q:aU) (st:List bI) (hok:iD q.es q.ks q.c):
 (∃j:Nat,k=j∧j<n∧q.es=[]∧Good q.g∧bF (bQ n j) q.ks=q.ks∧og n x k q st=mD n x j q.g st)∨
 ((jP n q.es q.ks q.c k=false∨(jP n q.es q.ks q.c k=true∧bF (bQ n k) q.ks≠q.ks))∧og n x k q st=(1,st)):=by
 unfold og
 by_cases hm:jP n q.es q.ks q.c k=true
 ·by_cases hf:bF (bQ n k) q.ks=q.ks
  ·obtain⟨⟨h0,h1⟩,hr,he⟩:=vO.1 hm
   obtain⟨j,rfl⟩:∃j:Nat,k=j:=⟨k.toNat,by omega⟩
   refine .inl ⟨j,rfl,by omega,he,⟨he▸hok,he▸hr⟩,hf,?_⟩
   rw[if_pos (by rw[hm,gu hf];rfl)]
   rfl
  ·refine .inr ⟨.inr ⟨hm,hf⟩,if_neg ?_⟩
   rw[eH hf,Bool.and_false]
   exact Bool.false_ne_true
 ·refine .inr ⟨.inl (by simpa using hm),if_neg ?_⟩
  intro h
  rw[Bool.and_eq_true]at h
  exact hm h.1
noncomputable def lV (n:Nat) (x:Int) (vis:List bY) (st:List bI):Int×List bY×List bI:=
 if mZ x st<n then(7,vis,st)else(0,List.zipWith fK vis (st.getD (dG x (st.map bI.id)).toNat default).part,lT x st)
noncomputable def qB (n:Nat) (x:Int) (q:aU) (vis:List bY) (st:List bI):Int×List bY:=
 if dG x (st.map bI.id)≠-1 then(8,vis)else if jP n q.es q.ks q.c 0=false then(1,vis)else if 4≤st.length then(4,vis)else(0,List.zipWith fK vis (jd n q.g))
def Bf (vis part:List bY) (n:Nat):Prop:=∀j,j<n→dQ (vis.getD j dD)+dQ (part.getD j dD)≤2000∧(vis.getD j dD).2.length+(part.getD j dD).2.length≤2000
theorem ZN (k:Nat) (rs:List bC):(rs.eraseIdx k).map bC.con=(rs.map bC.con).eraseIdx k:=by
 induction rs generalizing k with
 |nil=>rfl
 |cons r rs ih=>
  cases k with
  |zero=>rfl
  |succ k=>exact congrArg (r.con::·) (ih k)
section
variable {L Q:Nat→Prop} {w:World} {b n vb:Nat} {jo vv sv:Value} {vs vs':List aU} {rs:List bC} {rs':List bn}
theorem dW.same (h:dW L w b n vb jo vs rs) {w':World} (f:aj aF w w'):vT L w b n (vs.map aU.g) (rs.map bC.con) w':=
 ⟨L,vb,jo,vs,rs, .zx f,h.aS f,rfl,rfl⟩
theorem aia (h:dW L w b n vb jo vs rs) (x:Int):Calls Tryz.prog 23 #[.pointer (some ⟨b,0,none⟩), .int .i64 x] w fun e w'=>e= .returned (.bool (decide (dG x ((rs.map bC.con).map bI.id)≠-1)))∧vT L w b n (vs.map aU.g) (lT x (rs.map bC.con)) w':=by
 unfold lT
 rw[sQ]
 rcases nY x (rs.map bC.id)with⟨h1,_⟩|⟨k,hk,h1,_⟩
 ·refine(Qw x (rs.map (bC.q n)) b w jo h.rd vH (by rw[List.length_map];have:=h.few;omega) h.pq (by rw[Aw];exact h1)).mono fun e w' hp=>?_
  rw[h1,if_pos rfl]
  exact⟨hp.1.trans (by simp),h.same hp.2⟩
 ·rw[List.length_map]at hk
  refine(aeP x h k hk h1).mono fun e w' ⟨he,hf,sv',hs⟩=>?_
  have hne:(k:Int)≠-1:=by omega
  rw[h1,if_neg hne,decide_eq_true hne]
  refine⟨he,L,vb,sv',vs,_,⟨hf,fun _ h=> .inl h⟩,hs,rfl,?_⟩
  rw[Int.toNat_natCast]
  exact ZN k rs
theorem aib (h:jf Q w n vv sv vs' rs') (hQ:∀k,w.heap.size≤k→Q k) (x:Int):Calls Tryz.prog 59 #[.agg #[vv,sv], .int .i64 x] w fun e w'=>∃iQ,e= .returned (.tuple #[.agg #[vv,iQ], .bool (decide (dG x ((rs'.map bn.con).map bI.id)≠-1))])∧kR Q w' n vv iQ (vs'.map aU.g) (lT x (rs'.map bn.con))∧aj aF w w':=by
 rw[oH]
 refine(YT h hQ x).mono fun e w' hp=>?_
 obtain⟨iQ,wY,he,hr,hc,hf⟩:=hp
 exact⟨iQ,he,⟨_,_,hr,rfl,hc⟩,hf⟩
theorem aic (h:dW L w b n vb jo vs rs) (q:aU) (hq:eF (fun k=>¬L k) w q) (hok:iD q.es q.ks q.c) (x k:Int):
 Calls Tryz.prog 18 #[.pointer (some ⟨b,0,none⟩), .int .i64 x, .int .i64 k, .agg #[q.ev,q.kv,q.cv]] w fun e w'=>e= .returned (.int .i64 (og n x k q (rs.map bC.con)).1)∧vT L w b n (vs.map aU.g) (og n x k q (rs.map bC.con)).2 w':=by
 rcases Tz n x k q (rs.map bC.con) hok with⟨j,rfl,hj,he,hg,hf,hA⟩|⟨hb,hA⟩
 ·rw[hA]
  obtain⟨es,ks,c,ev,kv,cv⟩:=q
  obtain rfl:es=[]:=he
  refine(QJ h x j hj ks c ev kv cv hq hg hf).mono fun e w' ⟨he,L',sv',wY,ht,hs,hc⟩=>⟨he,L',vb,sv',vs,wY,ht,hs,rfl,hc⟩
 ·rw[hA]
  refine(ahU h _ q.es q.ks q.c q.ev q.kv q.cv hq.at_ hok x k hb).mono fun e w' hp=>⟨hp.1,h.same hp.2⟩
theorem aie (h:jf Q w n vv sv vs' rs') (hQ:∀k,w.heap.size≤k→Q k) (q:aU) (hq:eF Q w q) (hok:iD q.es q.ks q.c) (x k:Int):
 Calls Tryz.prog 57 #[.agg #[vv,sv], .int .i64 x, .int .i64 k, .agg #[q.ev,q.kv,q.cv]] w fun e w'=>∃iQ,e= .returned (.tuple #[.agg #[vv,iQ], .int .i64 (og n x k q (rs'.map bn.con)).1])∧kR Q w' n vv iQ (vs'.map aU.g) (og n x k q (rs'.map bn.con)).2∧aj aF w w':=by
 rcases Tz n x k q (rs'.map bn.con) hok with⟨j,rfl,hj,he,hg,hf,hA⟩|⟨hb,hA⟩
 ·rw[hA]
  obtain⟨es,ks,c,ev,kv,cv⟩:=q
  obtain rfl:es=[]:=he
  refine(SK h hQ ks c ev kv cv hq hg x j hj hf).mono fun e w' hp=>?_
  obtain⟨iQ,wY,he,hr,hc,hfr⟩:=hp
  exact⟨iQ,he,⟨_,_,hr,rfl,hc⟩,hfr⟩
 ·rw[hA]
  refine(ahz h _ q.es q.ks q.c q.ev q.kv q.cv hq.at_ hok x k hb).mono fun e w' hp=>⟨sv,hp.1,⟨_,_,h.aS hp.2,rfl,rfl⟩,hp.2⟩
theorem ZO {n:Nat} {x:Int} {st:List bI} (h1:1≤n) (hl:∀s∈st,s.is.length=n) (h:¬mZ x st<n):∃i,i<st.length∧dG x (st.map bI.id)=i∧lC (st.getD i default).is=n∧mZ x st=n:=by
 unfold mZ at h⊢
 rcases nY x (st.map bI.id)with⟨hp,_⟩|⟨k,hk,hp,_⟩
 ·rw[if_pos hp]at h;omega
 ·have hne:(k:Int)≠-1:=by omega
  rw[List.length_map]at hk
  rw[hp,if_neg hne,Int.toNat_natCast]at h⊢
  have hm:=hl _ (getD_mem (d:=default) hk)
  have hc:lC (st.getD k default).is≤(st.getD k default).is.length:=List.countP_le_length
  exact⟨k,hk,rfl,by omega,by omega⟩
theorem aif {n:Nat} (h:dW L w b n vb jo vs rs):∀s∈rs.map bC.con,s.is.length=n:=fun s hs=>by
 obtain⟨r,hr,rfl⟩:=List.mem_map.1 hs
 exact(h.jJ r hr).o_
theorem aii {n:Nat} (h:jf Q w n vv sv vs' rs'):∀s∈rs'.map bn.con,s.is.length=n:=fun s hs=>by
 obtain⟨r,hr,rfl⟩:=List.mem_map.1 hs
 exact(h.jJ r hr).o_
theorem Jc (l:List aU) (j:Nat):(l.map aU.g).getD j dD=(l.getD j default).g:=by
 by_cases h:j<l.length
 ·rw[getD_at _ (by rw[List.length_map];exact h),getD_at _ h,List.getElem_map]
 ·rw[List.getD_eq_getElem?_getD,List.getD_eq_getElem?_getD,List.getElem?_eq_none (by rw[List.length_map];omega),List.getElem?_eq_none (by omega)]
  rfl
theorem aij (h:dW L w b n vb jo vs rs) (x:Int) (hsz:Bf (vs.map aU.g) ((rs.map bC.con).getD (dG x ((rs.map bC.con).map bI.id)).toNat default).part n):
 Calls Tryz.prog 17 #[.pointer (some ⟨b,0,none⟩), .int .i64 x] w fun e w'=>e= .returned (.int .i64 (lV n x (vs.map aU.g) (rs.map bC.con)).1)∧vT L w b n (lV n x (vs.map aU.g) (rs.map bC.con)).2.1 (lV n x (vs.map aU.g) (rs.map bC.con)).2.2 w':=by
 by_cases hm:mZ x (rs.map bC.con)<n
 ·unfold lV
  rw[if_pos hm]
  exact(afw h x hm).mono fun e w' hp=>⟨hp.1,h.same hp.2⟩
 ·obtain⟨i,hi,hp,hc,_⟩:=ZO h.n1 (aif h) hm
  unfold lV
  rw[if_neg hm]
  unfold lT
  have hne:(i:Int)≠-1:=by omega
  rw[hp,Int.toNat_natCast]at hsz
  rw[hp,if_neg hne,Int.toNat_natCast]
  rw[List.length_map]at hi
  rw[sQ]at hp
  rw[H_ hi]at hc hsz⊢
  refine(Xp h x i hi hp hc fun j hj=>?_).mono fun e w' hp=>?_
  ·have:=hsz j hj
   have e:(rs.getD i default).con.part.getD j dD=((rs.getD i default).part.getD j default).g:=Jc _ j
   rw[Jc,e]at this
   exact this
  ·obtain⟨he,qR,sv',ns,hf,hs,hv⟩:=hp
   exact⟨he,L,qR,sv',ns,_,⟨hf,fun _ h=> .inl h⟩,hs,hv,ZN i rs⟩
theorem aik (h:jf Q w n vv sv vs' rs') (hQ:∀k,w.heap.size≤k→Q k) (x:Int) (hsz:Bf (vs'.map aU.g) ((rs'.map bn.con).getD (dG x ((rs'.map bn.con).map bI.id)).toNat default).part n):
 Calls Tryz.prog 58 #[.agg #[vv,sv], .int .i64 x] w fun e w'=>∃mO iQ,e= .returned (.tuple #[.agg #[mO,iQ], .int .i64 (lV n x (vs'.map aU.g) (rs'.map bn.con)).1])∧kR Q w' n mO iQ (lV n x (vs'.map aU.g) (rs'.map bn.con)).2.1 (lV n x (vs'.map aU.g) (rs'.map bn.con)).2.2∧aj aF w w':=by
 by_cases hm:mZ x (rs'.map bn.con)<n
 ·unfold lV
  rw[if_pos hm]
  exact(ahl h x hm).mono fun e w' hp=>⟨vv,sv,hp.1,⟨_,_,h.aS hp.2,rfl,rfl⟩,hp.2⟩
 ·obtain⟨i,hi,hp,hc,hall⟩:=ZO h.n1 (aii h) hm
  unfold lV
  rw[if_neg hm]
  rw[hp,Int.toNat_natCast]at hsz
  rw[hp,Int.toNat_natCast]
  rw[List.length_map]at hi
  rw[oH]at hp
  rw[EO hi]at hc hsz⊢
  refine(Zo h hQ x i hi hp hall fun j hj=>?_).mono fun e w' hp=>?_
  ·have:=hsz j hj
   have e:(rs'.getD i default).con.part.getD j dD=((rs'.getD i default).part.getD j default).g:=Jc _ j
   rw[Jc,e]at this
   exact this
  ·obtain⟨mO,iQ,ns,wY,he,hr,hv,hd,hf⟩:=hp
   exact⟨mO,iQ,he,⟨ns,wY,hr,hv,hd⟩,hf⟩
theorem ZP {n:Nat} {vis:List bY} {t:bY} (hsz:∀j,j<n→dQ (vis.getD j dD)+dQ t≤2000∧(vis.getD j dD).2.length+t.2.length≤2000) (vs:List aU) (e:vs.map aU.g=vis):∀j,j<n→dQ (vs.getD j default).g+dM t.1≤2000∧(vs.getD j default).g.2.length+t.2.length≤2000:=fun j hj=>by
 subst e
 have:=hsz j hj
 rw[Jc]at this
 exact this
theorem TA (n:Nat) (x:Int) (q:aU) (vis:List bY) (st:List bI) (hok:iD q.es q.ks q.c):
 (dG x (st.map bI.id)≠-1∧qB n x q vis st=(8,vis))∨
 (dG x (st.map bI.id)=-1∧jP n q.es q.ks q.c 0=false∧qB n x q vis st=(1,vis))∨
 (dG x (st.map bI.id)=-1∧q.es=[]∧Good q.g∧4≤st.length∧qB n x q vis st=(4,vis))∨
 (dG x (st.map bI.id)=-1∧q.es=[]∧Good q.g∧st.length<4∧qB n x q vis st=(0,List.zipWith fK vis (jd n q.g))):=by
 unfold qB
 by_cases h1:dG x (st.map bI.id)=-1
 ·rw[if_neg (fun h=>h h1)]
  by_cases h2:jP n q.es q.ks q.c 0=false
  ·rw[if_pos h2];exact .inr (.inl ⟨h1,h2,rfl⟩)
  ·rw[if_neg h2]
   obtain⟨⟨_,_⟩,hr,he⟩:=vO.1 (show jP n q.es q.ks q.c 0=true by simpa using h2)
   by_cases h3:4≤st.length
   ·rw[if_pos h3];exact .inr (.inr (.inl ⟨h1,he,⟨he▸hok,he▸hr⟩,h3,rfl⟩))
   ·rw[if_neg h3];exact .inr (.inr (.inr ⟨h1,he,⟨he▸hok,he▸hr⟩,by omega,rfl⟩))
 ·rw[if_pos h1];exact .inl ⟨h1,rfl⟩
theorem ail (h:dW L w b n vb jo vs rs) (q:aU) (hq:eF (fun k=>¬L k) w q) (hok:iD q.es q.ks q.c) (x:Int) (hsz:∀j,j<n→dQ ((vs.map aU.g).getD j dD)+dQ q.g≤2000∧((vs.map aU.g).getD j dD).2.length+q.c.length≤2000):
 Calls Tryz.prog 15 #[.pointer (some ⟨b,0,none⟩), .int .i64 x, .agg #[q.ev,q.kv,q.cv]] w fun e w'=>e= .returned (.int .i64 (qB n x q (vs.map aU.g) (rs.map bC.con)).1)∧vT L w b n (qB n x q (vs.map aU.g) (rs.map bC.con)).2 (rs.map bC.con) w':=by
 obtain⟨b0,d0,b1,d1,b2,d2,k1,k2,k3⟩:=hq.at_.shape
 rcases TA n x q (vs.map aU.g) (rs.map bC.con) hok with⟨hp,hA⟩|⟨hp,hm,hA⟩|⟨hp,he,hg,hl,hA⟩|⟨hp,he,hg,hl,hA⟩
 ·rw[hA]
  rw[sQ]at hp
  rw[k1,k2,k3]
  exact(afG h x _ _ _ _ _ _ _ _ _ hp).mono fun e w' hp=>⟨hp.1,h.same hp.2⟩
 ·rw[hA]
  rw[sQ]at hp
  exact(ahV h x _ q.es q.ks q.c q.ev q.kv q.cv hq.at_ hok hm hp).mono fun e w' hp=>⟨hp.1,h.same hp.2⟩
 ·rw[hA]
  rw[sQ]at hp
  rw[List.length_map]at hl
  obtain⟨es,ks,c,ev,kv,cv⟩:=q
  obtain rfl:es=[]:=he
  exact(afH h x ks c ev kv cv hq hg hp hl).mono fun e w' ⟨he,L',sv',wY,ht,hs,hc⟩=>⟨he,L',vb,sv',vs,wY,ht,hs,rfl,hc⟩
 ·rw[hA]
  rw[sQ]at hp
  rw[List.length_map]at hl
  obtain⟨es,ks,c,ev,kv,cv⟩:=q
  obtain rfl:es=[]:=he
  exact(Ya h x ks c ev kv cv hq hg hp hl (ZP (t:=(ks,c)) hsz vs rfl)).mono fun e w' ⟨he,L',qR,sv',ns,wY,ht,hs,hc,hv⟩=>⟨he,L',qR,sv',ns,wY,ht,hs,hv,hc⟩
theorem ain (h:jf Q w n vv sv vs' rs') (hQ:∀k,w.heap.size≤k→Q k) (q:aU) (hq:eF Q w q) (hok:iD q.es q.ks q.c) (x:Int) (hsz:∀j,j<n→dQ ((vs'.map aU.g).getD j dD)+dQ q.g≤2000∧((vs'.map aU.g).getD j dD).2.length+q.c.length≤2000):
 Calls Tryz.prog 60 #[.agg #[vv,sv], .int .i64 x, .agg #[q.ev,q.kv,q.cv]] w fun e w'=>∃mO iQ,e= .returned (.tuple #[.agg #[mO,iQ], .int .i64 (qB n x q (vs'.map aU.g) (rs'.map bn.con)).1])∧kR Q w' n mO iQ (qB n x q (vs'.map aU.g) (rs'.map bn.con)).2 (rs'.map bn.con)∧aj aF w w':=by
 obtain⟨b0,d0,b1,d1,b2,d2,k1,k2,k3⟩:=hq.at_.shape
 rcases TA n x q (vs'.map aU.g) (rs'.map bn.con) hok with⟨hp,hA⟩|⟨hp,hm,hA⟩|⟨hp,he,hg,hl,hA⟩|⟨hp,he,hg,hl,hA⟩
 ·rw[hA]
  rw[oH]at hp
  rw[k1,k2,k3]
  exact(ahW h x _ _ _ _ _ _ _ _ _ hp).mono fun e w' hp=>⟨vv,sv,hp.1,⟨_,_,h.aS hp.2,rfl,rfl⟩,hp.2⟩
 ·rw[hA]
  rw[oH]at hp
  exact(ahX h x _ q.es q.ks q.c q.ev q.kv q.cv hq.at_ hok hm hp).mono fun e w' hp=>⟨vv,sv,hp.1,⟨_,_,h.aS hp.2,rfl,rfl⟩,hp.2⟩
 ·rw[hA]
  rw[oH]at hp
  rw[List.length_map]at hl
  obtain⟨es,ks,c,ev,kv,cv⟩:=q
  obtain rfl:es=[]:=he
  exact(ah_ h hQ x ks c ev kv cv hq hg hp hl).mono fun e w' hp=>⟨vv,sv,hp.1,⟨_,_,h.aS hp.2,rfl,rfl⟩,hp.2⟩
 ·rw[hA]
  rw[oH]at hp
  rw[List.length_map]at hl
  obtain⟨es,ks,c,ev,kv,cv⟩:=q
  obtain rfl:es=[]:=he
  refine(ahZ h hQ x ks c ev kv cv hq hg hp hl (ZP (t:=(ks,c)) hsz vs' rfl)).mono fun e w' hp=>?_
  obtain⟨mO,iQ,ns,wY,he,hr,hv,hd,hf⟩:=hp
  exact⟨mO,iQ,he,⟨ns,wY,hr,hv,hd⟩,hf⟩
end
end Go.Proofs.YtlhmbkjdfjoilaaGreat
namespace Go.Proofs.YtlhmbkjdfjoilaaGreat
section
variable {α:Type} (f:α→Nat) (d:α)
theorem ML:∀(l:List α) (k:Nat) (t:α) (e:Nat),f t≤f (l.getD k d)+e→((l.set k t).map f).sum≤(l.map f).sum+e
 |[],_,_,_,_=>Nat.zero_le _
 |x::l,0,t,e,h=>by
  have h:f t≤f x+e:=h
  rw[aN,List.map_cons,List.map_cons,List.sum_cons,List.sum_cons];omega
 |x::l,k+1,t,e,h=>by
  have:=ML l k t e h
  rw[aJ,List.map_cons,List.map_cons,List.sum_cons,List.sum_cons];omega
theorem TB:∀(l:List α) (i:Nat),i<l.length→((l.eraseIdx i).map f).sum+f (l.getD i d)=(l.map f).sum
 |[],_,h=>by cases h
 |x::l,0,_=>by
  show(l.map f).sum+f x=((x::l).map f).sum
  rw[List.map_cons,List.sum_cons];omega
 |x::l,i+1,h=>by
  have:=TB l i (Nat.lt_of_succ_lt_succ h)
  show((x::l.eraseIdx i).map f).sum+f (l.getD i d)=_
  rw[List.map_cons,List.map_cons,List.sum_cons,List.sum_cons];omega
theorem Jd (h0:f d=0):∀(l:List α) (i:Nat),f (l.getD i d)≤(l.map f).sum
 |[],i=>by simp[h0]
 |x::l,0=>by
  show f x≤_
  rw[List.map_cons,List.sum_cons];omega
 |x::l,i+1=>by
  have:=Jd h0 l i
  show f (l.getD i d)≤_
  rw[List.map_cons,List.sum_cons];omega
theorem Je {P:α→Prop} {l:List α} (h:∀x∈l,P x) (h0:P d) (i:Nat):P (l.getD i d):=by
 by_cases hi:i<l.length
 ·exact h _ (getD_mem d hi)
 ·rw[List.getD_eq_getElem?_getD,List.getElem?_eq_none (by omega)];exact h0
end
theorem TD:∀(l m:List bY),(∀x∈l,Good x)→(∀x∈m,Good x)→((List.zipWith fK l m).map dQ).sum≤(l.map dQ).sum+(m.map dQ).sum
 |[],m,_,_=>by simp
 |x::l,[],_,_=>by simp
 |x::l,y::m,h,g=>by
  have:=TD l m (fun z hz=>h z (List.mem_cons_of_mem _ hz)) (fun z hz=>g z (List.mem_cons_of_mem _ hz))
  have:=(Qn (h x (List.mem_cons_self ..)) (g y (List.mem_cons_self ..))).1
  rw[List.zipWith_cons_cons,List.map_cons,List.map_cons,List.map_cons,List.sum_cons,List.sum_cons,List.sum_cons];omega
theorem aio {n:Nat} (t:bY) (h1:1≤n) (h4:n≤4):((jd n t).map dQ).sum=dQ t:=by
 have h:=((Xc t h1 h4).map fun x:wH=>1+x.2.1.length+dM x.2.2).sum_nat
 rw[QF]at h
 unfold dQ
 rw[Ii t.1,←h]
 exact congrArg List.sum (List.map_congr_left fun x _=>Ii x.1)
theorem ZQ:dQ dD=0:=rfl
theorem ZR {n:Nat} {l m:List bY} (hl:l.length=n) (hm:m.length=n) {j:Nat} (hj:j<n):(List.zipWith fK l m).getD j dD=fK (l.getD j dD) (m.getD j dD):=by
 rw[getD_at _ (by rw[List.length_zipWith];omega),getD_at _ (by omega),getD_at _ (by omega),List.getElem_zipWith]
theorem mG.none (n:Nat):mG n (List.replicate n dD):=
 ⟨List.length_replicate,fun x hx=>(List.eq_of_mem_replicate hx)▸Ap,fun j hj=>by
   rw[getD_at _ (by rw[List.length_replicate];exact hj),List.getElem_replicate];rfl⟩
theorem mG.shards (n:Nat) {t:bY} (h:Good t):mG n (jd n t):=
 ⟨Qp n t,aeF h,fun j hj=>by rw[KZ t hj];exact Hw _ _⟩
theorem mG.set {n:Nat} {l:List bY} (h:mG n l) {k:Nat} {t:bY} (hg:Good t) (hf:bF (bQ n k) t.1=t.1):mG n (l.set k t):=by
 refine⟨by rw[List.length_set];exact h.len,fun x hx=>?_,fun j hj=>?_⟩
 ·rcases List.mem_or_eq_of_mem_set hx with hx|rfl
  ·exact h.good x hx
  ·exact hg
 ·have hl:=h.len
  rw[getD_at _ (by rw[List.length_set];omega),List.getElem_set]
  split
  ·rename_i e;subst e;exact hf
  ·have:=h.own j hj
   rwa [getD_at _ (by omega)]at this
theorem mG.at_ {n:Nat} {l:List bY} (h:mG n l) (j:Nat):Good (l.getD j dD):=Je dD h.good Ap j
theorem mG.join {n:Nat} {l m:List bY} (h:mG n l) (g:mG n m) (hs:Bf l m n):mG n (List.zipWith fK l m):=by
 refine⟨by rw[List.length_zipWith,h.len,g.len,Nat.min_self],fun x hx=>?_,fun j hj=>?_⟩
 ·obtain⟨j,hj,rfl⟩:=List.getElem_of_mem hx
  rw[←getD_at dD hj]
  rw[List.length_zipWith,h.len,g.len,Nat.min_self]at hj
  rw[ZR h.len g.len hj]
  exact Qo (h.at_ j) (g.at_ j) (hs j hj).1 (hs j hj).2
 ·rw[ZR h.len g.len hj]
  show bF _ (rP _ _)=rP _ _
  rw[WW _ (ED (h.at_ j)) (ED (g.at_ j)),h.own j hj,g.own j hj]
def pI (s:bI):Nat:=(s.part.map dQ).sum
structure jQ (n a:Nat) (vis:List bY) (st:List bI):Prop where
 vg:mG n vis
 part:∀s∈st,mG n s.part∧∀t∈s.part,t.2.length≤30
 ctx:∀t∈vis,t.2.length≤30*a
 tot:(vis.map dQ).sum+(st.map pI).sum≤30*a
section
variable {n a:Nat} {vis:List bY} {st:List bI}
theorem jQ.first (n:Nat):jQ n 0 (jd n dD) []:=by
 rw[Xa]
 refine⟨.none n,fun s hs=>(by cases hs),fun t ht=>?_,?_⟩
 ·rw[List.eq_of_mem_replicate ht];exact Nat.le_refl _
 ·rw[List.map_replicate,ZQ,List.sum_replicate_nat];simp
theorem jQ.on (h:jQ n a vis st):jQ n (a+1) vis st:=
 ⟨h.vg,h.part,fun t ht=>Nat.le_trans (h.ctx t ht) (by omega),Nat.le_trans h.tot (by omega)⟩
theorem aip (n:Nat) (id:Int):pI (newS n id)=0:=by
 unfold pI newS
 rw[List.map_replicate,ZQ,List.sum_replicate_nat];simp
theorem ZT {s:bI} (hs:mG n s.part∧∀t∈s.part,t.2.length≤30) {k:Nat} {t:bY} (hg:Good t) (hf:bF (bQ n k) t.1=t.1) (hc:t.2.length≤30):mG n (mg s k t).part∧∀t'∈(mg s k t).part,t'.2.length≤30:=
 ⟨hs.1.set hg hf,fun x hx=>by
   rcases List.mem_or_eq_of_mem_set hx with hx|rfl
   ·exact hs.2 x hx
   ·exact hc⟩
theorem ZU (s:bI) (k:Nat) (t:bY) (hs:dQ t≤30):pI (mg s k t)≤pI s+30:=ML dQ dD s.part k t 30 (by omega)
theorem aiq (n:Nat) (id:Int):mG n (newS n id).part∧∀t∈(newS n id).part,t.2.length≤30:=
 ⟨.none n,fun t ht=>by rw[List.eq_of_mem_replicate ht];decide⟩
theorem jQ.stage (h:jQ n a vis st) (id:Int) (k:Nat) (t:bY) (hg:Good t) (hf:bF (bQ n k) t.1=t.1) (hs:dQ t≤30) (hc:t.2.length≤30):jQ n (a+1) vis (mD n id k t st).2:=by
 unfold mD
 have ht:=h.tot
 split
 ·split
  ·exact h.on
  ·have hn:=aiq n id
   have hp:=ZT hn hg hf hc
   refine⟨h.vg,fun s hs=>?_,h.on.ctx,?_⟩
   ·rcases List.mem_or_eq_of_mem_set hs with hs|rfl
    ·rcases List.mem_append.1 hs with hs|hs
     ·exact h.part s hs
     ·rw[List.mem_singleton.1 hs];exact hn
    ·exact hp
   ·have hd:(st++ [newS n id]).getD st.length default=newS n id:=by
     rw[getD_at _ (by simp)];simp
    have:=ML pI default (st++ [newS n id]) st.length (mg (newS n id) k t) 30 (by rw[hd];exact ZU _ k t hs)
    rw[List.map_append,List.sum_append,List.map_singleton,List.sum_singleton,aip]at this
    show(vis.map dQ).sum+(((st++ [newS n id]).set st.length (mg (newS n id) k t)).map pI).sum≤30*(a+1)
    omega
 ·split
  ·exact h.on
  ·rename_i h1 _
   have hi:(dG id (st.map bI.id)).toNat<st.length:=by
    rcases nY id (st.map bI.id)with⟨e,_⟩|⟨i,hi,e,_⟩
    ·exact absurd e h1
    ·rw[e];rw[List.length_map]at hi;omega
   have hm:=getD_mem default hi
   refine⟨h.vg,fun s hs=>?_,h.on.ctx,?_⟩
   ·rcases List.mem_or_eq_of_mem_set hs with hs|rfl
    ·exact h.part s hs
    ·exact ZT (h.part _ hm) hg hf hc
   ·have:=ML pI default st _ (mg (st.getD (dG id (st.map bI.id)).toNat default) k t) 30 (ZU _ k t hs)
    show(vis.map dQ).sum+((st.set (dG id (st.map bI.id)).toNat (mg (st.getD (dG id (st.map bI.id)).toNat default) k t)).map pI).sum≤30*(a+1)
    omega
theorem air (x:Int) (st:List bI):((lT x st).map pI).sum≤(st.map pI).sum:=by
 unfold lT
 split
 ·exact Nat.le_refl _
 ·rcases nY x (st.map bI.id)with⟨e,_⟩|⟨i,hi,e,_⟩
  ·contradiction
  ·rw[e];rw[List.length_map]at hi
   have:=TB pI default st i hi
   rw[Int.toNat_natCast];omega
theorem ais {x:Int} {st:List bI} {s:bI} (h:s∈lT x st):s∈st:=by
 unfold lT at h
 split at h
 ·exact h
 ·exact List.mem_of_mem_eraseIdx h
theorem jQ.drop (h:jQ n a vis st) (x:Int):jQ n (a+1) vis (lT x st):=by
 have:=air x st
 have:=h.tot
 exact⟨h.vg,fun s hs=>h.part s (ais hs),h.on.ctx,by omega⟩
theorem jQ.small (h:jQ n a vis st) (ha:a≤30) {m:List bY} (hm:(m.map dQ).sum≤30*a∨(m.map dQ).sum≤30) (hc:∀t∈m,t.2.length≤30):Bf vis m n:=fun j _=>by
 have h1:=Jd dQ dD rfl vis j
 have h2:=Jd dQ dD rfl m j
 have h3:(vis.getD j dD).2.length≤30*a:=Je (P:=fun t:bY=>t.2.length≤30*a) dD h.ctx (Nat.zero_le _) j
 have h4:(m.getD j dD).2.length≤30:=Je (P:=fun t:bY=>t.2.length≤30) dD hc (Nat.zero_le _) j
 have:=h.tot
 omega
theorem jQ.ZV (h:jQ n a vis st) (ha:a≤30) (i:Nat):Bf vis (st.getD i default).part n:=by
 have h1:=Jd pI default rfl st i
 have:=h.tot
 exact h.small (by omega) (.inl (show pI _≤_ by omega)) (Je (P:=fun s:bI=>∀t∈s.part,t.2.length≤30) default (fun s hs=>(h.part s hs).2) (fun t ht=>by cases ht) i)
theorem TF {c d:Nat}:∀ {l m:List bY},(∀x∈l,Good x)→(∀x∈m,Good x)→(∀t∈l,t.2.length≤c)→(∀t∈m,t.2.length≤d)→∀t∈List.zipWith fK l m,t.2.length≤c+d
 |[],_,_,_,_,_,t,h=>by simp at h
 |_::_,[],_,_,_,_,t,h=>by simp at h
 |x::l,y::m,h1,h2,h3,h4,t,h=>by
  rw[List.zipWith_cons_cons]at h
  rcases List.mem_cons.1 h with rfl|h
  ·have:=(Qn (h1 x (List.mem_cons_self ..)) (h2 y (List.mem_cons_self ..))).2
   have:=h3 x (List.mem_cons_self ..)
   have:=h4 y (List.mem_cons_self ..)
   omega
  ·exact TF (fun z hz=>h1 z (List.mem_cons_of_mem _ hz)) (fun z hz=>h2 z (List.mem_cons_of_mem _ hz)) (fun z hz=>h3 z (List.mem_cons_of_mem _ hz)) (fun z hz=>h4 z (List.mem_cons_of_mem _ hz)) t h
theorem jQ.pub (h:jQ n a vis st) (hn:1≤n) (ha:a≤30) (x:Int):jQ n (a+1) (lV n x vis st).2.1 (lV n x vis st).2.2:=by
 unfold lV
 split
 ·exact h.on
 ·rename_i hm
  have hi:∃i,i<st.length∧dG x (st.map bI.id)=i:=by
   unfold mZ at hm
   rcases nY x (st.map bI.id)with⟨e,_⟩|⟨i,hi,e,_⟩
   ·rw[if_pos e]at hm;omega
   ·rw[List.length_map]at hi;exact⟨i,hi,e⟩
  obtain⟨i,hi,e⟩:=hi
  have hp:=h.part _ (getD_mem default hi)
  have hs:=h.ZV ha i
  have hsum:=TD vis (st.getD i default).part h.vg.good hp.1.good
  have her:=TB pI default st i hi
  have htot:=h.tot
  have hd:lT x st=st.eraseIdx i:=by
   unfold lT
   rw[e,if_neg (by omega),Int.toNat_natCast]
  rw[e,Int.toNat_natCast,hd]
  refine⟨h.vg.join hp.1 hs,fun s hs=>h.part s (List.mem_of_mem_eraseIdx hs),fun t ht=>?_,?_⟩
  ·have:=TF h.vg.good hp.1.good h.ctx hp.2 t ht
   omega
  ·have:pI (st.getD i default)=((st.getD i default).part.map dQ).sum:=rfl
   show((List.zipWith fK vis (st.getD i default).part).map dQ).sum+((st.eraseIdx i).map pI).sum≤30*(a+1)
   omega
theorem jQ.ait (h:jQ n a vis st) (ha:a≤30) {t:bY} (hs:dQ t≤30) (hc:t.2.length≤30):∀j,j<n→dQ (vis.getD j dD)+dQ t≤2000∧(vis.getD j dD).2.length+t.2.length≤2000:=fun j _=>by
 have h1:=Jd dQ dD rfl vis j
 have h3:(vis.getD j dD).2.length≤30*a:=Je (P:=fun t:bY=>t.2.length≤30*a) dD h.ctx (Nat.zero_le _) j
 have:=h.tot
 omega
theorem jQ.inst (h:jQ n a vis st) (hn:1≤n) (h4:n≤4) (ha:a≤30) (x:Int) (q:aU) (hok:iD q.es q.ks q.c) (hs:dQ q.g≤30) (hc:q.c.length≤30):jQ n (a+1) (qB n x q vis st).2 st:=by
 rcases TA n x q vis st hok with⟨_,e⟩|⟨_,_,e⟩|⟨_,_,_,_,e⟩|⟨_,_,hg,_,e⟩
 ·rw[e];exact h.on
 ·rw[e];exact h.on
 ·rw[e];exact h.on
 ·rw[e]
  have hv:=mG.shards n hg
  have hsm:((jd n q.g).map dQ).sum≤30:=by rw[aio _ hn h4];exact hs
  have hcx:∀t∈jd n q.g,t.2.length≤30:=fun t ht=>by
   unfold jd at ht
   obtain⟨s,_,rfl⟩:=List.mem_map.1 ht
   exact hc
  have hsum:=TD vis (jd n q.g) h.vg.good hv.good
  have htot:=h.tot
  refine⟨h.vg.join hv (h.small (by omega) (.inr hsm) hcx),h.part,fun t ht=>?_,?_⟩
  ·have:=TF h.vg.good hv.good h.ctx hcx t ht
   omega
  ·show((List.zipWith fK vis (jd n q.g)).map dQ).sum+(st.map pI).sum≤30*(a+1)
   omega
theorem jQ.ZW (h:jQ n a vis st) (id k:Int) (q:aU) (hok:iD q.es q.ks q.c) (hs:dQ q.g≤30) (hc:q.c.length≤30):jQ n (a+1) vis (og n id k q st).2:=by
 rcases Tz n id k q st hok with⟨j,rfl,hj,he,hg,hf,e⟩|⟨_,e⟩
 ·rw[e];exact h.stage id j q.g hg hf hs hc
 ·rw[e];exact h.on
end
open Go.RowKit
structure ru (w:World) (p:Nat):Prop where
 sl:∀o u,w.cell? ⟨p,o,none⟩=some u→∃a n c,u= .slice a n c
 two:∀o,w.cell? ⟨p,o+2,none⟩=none
theorem ru.of {w:World} {p:Nat} {a a':Option Addr} {n c n' c':Nat} {t:TypeId} {f:Nat×Nat} (h:w.heap[p]?=some (.cells #[.slice a n c, .slice a' n' c'] t f)):ru w p:=by
 have e:∀o,w.cell? ⟨p,o,none⟩=(#[.slice a n c, .slice a' n' c']:Array Value)[o]?:=fun o=>by unfold World.cell?;rw[h];rfl
 refine⟨fun o u hu=>?_,fun o=>?_⟩
 ·rw[e]at hu
  match o,hu with
  |0,hu=>exact⟨a,n,c,(Option.some.inj hu).symm⟩
  |1,hu=>exact⟨a',n',c',(Option.some.inj hu).symm⟩
  |o+2,hu=>simp at hu
 ·rw[e];simp
section
variable {Q:Nat→Prop} {w:World} {p:Nat}
theorem gy.off {v:Value} {n:Nat} {xs:List Value} (h:gy Q w v n xs) (hp:ru w p) (hx:(∀x,xs.head?=some x→∀a n c,x≠ .slice a n c)∨3≤xs.length):gy (fun k=>Q k∧k≠p) w v n xs:=by
 refine⟨h.rd,fun hne k hk=>⟨h.q hne k hk,?_⟩⟩
 rintro rfl
 rcases h.rd with⟨_,_,_,h3⟩|⟨b,off,c,rfl,_,_,h3⟩
 ·exact hne h3
 ·simp[Value.ownBlock]at hk
  subst hk
  rcases hx with hx|hx
  ·cases xs with
   |nil=>exact hne rfl
   |cons x xs=>
    obtain⟨a,n,c,e⟩:=hp.sl _ _ (h3 0 x rfl)
    exact hx x rfl a n c e
  ·have:=h3 2 _ (List.getElem?_eq_getElem (show 2<xs.length by omega))
   rw[hp.two]at this
   cases this
theorem ZX (es:List aQ):∀x,(jy es).head?=some x→∀a n c,x≠ .slice a n c:=by
 intro x hx a n c
 cases es with
 |nil=>cases hx
 |cons e es=>rw[NW]at hx;cases hx;nofun
theorem ZY (ks:aT) (os:List (Value×Value)):∀x,(jG ks os).head?=some x→∀a n c,x≠ .slice a n c:=by
 intro x hx a n c
 cases ks with
 |nil=>simp[jG]at hx
 |cons key es sub rest=>
  cases os with
  |nil=>simp[jG]at hx
  |cons o os=>simp[jG]at hx;subst hx;nofun
theorem aiu (cc:bD):∀x,(dY cc).head?=some x→∀a n c,x≠ .slice a n c:=by
 intro x hx a n c
 cases cc with
 |nil=>simp[dY]at hx
 |cons s cc=>simp[dY]at hx;subst hx;nofun
theorem aiv (bs:List Bool):∀x,(fJ bs).head?=some x→∀a n c,x≠ .slice a n c:=by
 intro x hx a n c
 cases bs with
 |nil=>simp[fJ]at hx
 |cons s cc=>simp[fJ]at hx;subst hx;nofun
theorem aiw (l:List cO):∀x,(l.flatMap cO.cells).head?=some x→∀a n c,x≠ .slice a n c:=by
 intro x hx a n c
 cases l with
 |nil=>simp at hx
 |cons s l=>simp[cO.cells]at hx;subst hx;nofun
theorem jX.off (hp:ru w p):∀ {ks:aT} {os:List (Value×Value)},jX Q w ks os→jX (fun k=>Q k∧k≠p) w ks os
 | .nil,_,h=>h
 | .cons _ _ _ _,_,⟨ev,kv,qH,os,h1,h2,h3,h4,h5⟩=>⟨ev,kv,qH,os,h1,h2.off hp (.inl (ZX _)),h3.off hp (.inl (ZY _ _)),h4.off hp,h5.off hp⟩
theorem eF.off {q:aU} (h:eF Q w q) (hp:ru w p):eF (fun k=>Q k∧k≠p) w q:=
 ⟨⟨h.tree.ents.off hp (.inl (ZX _)),let⟨os,h1,h2⟩:=h.tree.kids;⟨os,h1.off hp (.inl (ZY _ _)),h2.off hp⟩⟩,h.ctx.off hp (.inl (aiu _))⟩
theorem oG.off {b n:Nat} {l:List aU} (h:oG Q w b n l) (hp:ru w p):oG (fun k=>Q k∧k≠p) w b n l:=
 ⟨h.len,h.blk,fun q hq=>let⟨h1,h2,h3⟩:=h.each q hq;⟨h1,h2.off hp,h3⟩⟩
theorem AB.off {v:Value} {n:Nat} {l:List aU} (h:AB Q w v n l) (hn:1≤n) (hp:ru w p):AB (fun k=>Q k∧k≠p) w v n l:=
 ⟨h.len,h.rd.off hp (.inr (by rw[vG,h.len];omega)),fun q hq=>let⟨h1,h2,h3⟩:=h.each q hq;⟨h1,h2.off hp,h3⟩⟩
theorem jf.off {n:Nat} {vv sv:Value} {vs:List aU} {rs:List bn} (h:jf Q w n vv sv vs rs) (hp:ru w p):jf (fun k=>Q k∧k≠p) w n vv sv vs rs:=
 ⟨h.n1,h.n4,h.vis.off h.n1 hp,h.rd.off hp (.inl (aiw _)),fun r hr=>let g:=h.jJ r hr;⟨g.part.off h.n1 hp,g.o_,g.is.off hp (.inl (aiv _))⟩,h.ids,h.few⟩
theorem kR.off {n:Nat} {vv sv:Value} {vis:List bY} {st:List bI} (h:kR Q w n vv sv vis st) (hp:ru w p) {w':World} (f:aj (fun k=>k=p) w w'):kR Q w' n vv sv vis st:=by
 obtain⟨vs,rs,h,e⟩:=h
 exact⟨vs,rs,(h.off hp).turn fun k hk hq=>⟨f.block k hk hq.2,hq.1⟩,e⟩
end
theorem dW.off {L:Nat→Prop} {w w':World} {b n vb p:Nat} {jo:Value} {vs:List aU} {rs:List bC} (h:dW L w b n vb jo vs rs) (hp:ru w p) (hL:¬L p) (f:aj (fun k=>k=p) w w'):dW L w' b n vb jo vs rs:=by
 have hvb:vb≠p:=by
  rintro rfl
  have:=(wG vs 0 (by rw[h.vis.len];exact h.n1)).2.2
  have:=aG h.vis.blk 2 (by simpa using this)
  rw[show(2:Nat)=0+2 from rfl,hp.two]at this
  cases this
 have ft:∀k,k<w.heap.size→(¬L k∧k≠p)→w'.heap[k]?=w.heap[k]?∧¬L k:=fun k hk hq=>⟨f.block k hk hq.2,hq.1⟩
 have hk:∀k,L k→k≠p:=fun k hk e=>hL (e▸hk)
 exact⟨h.n1,h.n4,fun k hk=>Nat.lt_of_lt_of_le (h.Ls k hk) f.size,f.blk h.box (hk b h.bL),h.bL,(h.vis.off hp).turn ft (f.block vb (lt_of_block h.vis.blk) hvb),h.vL,f.owns h.own fun k e=>hk k (h.sL k e),h.sL,
  fun r hr=>let g:=h.jJ r hr;⟨(g.part.off hp).turn ft (f.block r.pb (lt_of_block g.part.blk) (hk _ g.pL)),g.o_,f.blk g.is (hk _ g.iL),g.pL,g.iL⟩,h.pd,h.CB,h.ids,h.few⟩
theorem lM.off {L:Nat→Prop} {w w':World} {b n p:Nat} {vv sv:Value} {vis:List bY} {st:List bI} (h:lM L w b n vv sv vis st) (hp:ru w p) (hL:¬L p) (f:aj (fun k=>k=p) w w'):lM L w' b n vv sv vis st:=by
 obtain⟨⟨vb,jo,vs,rs,h1,e⟩,h2⟩:=h
 exact⟨⟨vb,jo,vs,rs,h1.off hp hL f,e⟩,h2.off hp f⟩
def Bg (L:Nat→Prop) (w:World) (b n:Nat) (vis:List bY) (st:List bI) (e:Ending) (w':World):Prop:=
 ∃vv sv L',e= .returned (.tuple #[.agg #[vv,sv], .bool true])∧Turned L w L' w'∧lM L' w' b n vv sv vis st
theorem Jf {L:Nat→Prop} {w w1 w2 w3 w4:World} {b n p:Nat} {vv sv:Value} {vis:List bY} {st:List bI} {a a':Option Addr} {m c m' c':Nat} {t:TypeId} {fz:Nat×Nat} (f1:aj aF w w1) (hr:kR (fun k=>¬L k) w1 n vv sv vis st) (f2:aj aF w1 w2) (hL:∀k,L k→k<w.heap.size)
 (hp:vT L w2 b n vis st w3) (hB:w3.heap[p]?=some (.cells #[.slice a m c, .slice a' m' c'] t fz)) (hn:w.heap.size≤p) (hn2:p<w2.heap.size) (f:aj (fun k=>k=p) w3 w4):
 Bg L w b n vis st (.returned (.tuple #[.agg #[vv,sv], .bool true])) w4:=by
 obtain⟨L',vb,jo,vs,rs,ht,hs,e1,e2⟩:=hp
 have hLp:¬L' p:=fun hl=>(ht.own p hl).elim (fun g=>by have:=hL p g;omega) fun g=>by omega
 have h0:=(Turned.zx (L:=L) (f1.aH f2)).trans ht
 have hpl:lM L' w3 b n vv sv vis st:=by
  refine⟨⟨vb,jo,vs,rs,hs,e1,e2⟩,?_⟩
  obtain⟨vs',rs',h,e⟩:=hr.aS f2
  exact⟨vs',rs',h.turn fun k hk hl=>⟨ht.aI.block k hk hl,fun hl'=>(ht.own k hl').elim hl fun h=>by omega⟩,e⟩
 exact⟨vv,sv,L',rfl,⟨h0.aI.trans f fun k hk e=>by subst e;omega,h0.own⟩,hpl.off (ru.of hB) hLp f⟩
section
variable {L Q:Nat→Prop} {w:World} {b n:Nat} {vv sv:Value} {vis:List bY} {st:List bI}
def pJ (L:Nat→Prop) (w:World) (b n:Nat) (vis:List bY) (st:List bI):Prop:=∃vb jo vs rs,dW L w b n vb jo vs rs∧vs.map aU.g=vis∧rs.map bC.con=st
theorem pJ.aS {w':World} (h:pJ L w b n vis st) (f:aj aF w w'):pJ L w' b n vis st:=
 let⟨vb,jo,vs,rs,h,e⟩:=h;⟨vb,jo,vs,rs,h.aS f,e⟩
theorem kR.drop (h:kR Q w n vv sv vis st) (hQ:∀k,w.heap.size≤k→Q k) (x:Int):Calls Tryz.prog 59 #[.agg #[vv,sv], .int .i64 x] w fun e w'=>∃iQ,e= .returned (.tuple #[.agg #[vv,iQ], .bool (decide (dG x (st.map bI.id)≠-1))])∧kR Q w' n vv iQ vis (lT x st)∧aj aF w w':=by
 obtain⟨vs,rs,h,rfl,rfl⟩:=h
 exact aib h hQ x
theorem pJ.drop (h:pJ L w b n vis st) (x:Int):Calls Tryz.prog 23 #[.pointer (some ⟨b,0,none⟩), .int .i64 x] w fun e w'=>e= .returned (.bool (decide (dG x (st.map bI.id)≠-1)))∧vT L w b n vis (lT x st) w':=by
 obtain⟨vb,jo,vs,rs,h,rfl,rfl⟩:=h
 exact aia h x
theorem kR.stage (h:kR Q w n vv sv vis st) (hQ:∀k,w.heap.size≤k→Q k) (q:aU) (hq:eF Q w q) (hok:iD q.es q.ks q.c) (x k:Int):
 Calls Tryz.prog 57 #[.agg #[vv,sv], .int .i64 x, .int .i64 k, .agg #[q.ev,q.kv,q.cv]] w fun e w'=>∃iQ,e= .returned (.tuple #[.agg #[vv,iQ], .int .i64 (og n x k q st).1])∧kR Q w' n vv iQ vis (og n x k q st).2∧aj aF w w':=by
 obtain⟨vs,rs,h,rfl,rfl⟩:=h
 exact aie h hQ q hq hok x k
theorem pJ.stage (h:pJ L w b n vis st) (q:aU) (hq:eF (fun k=>¬L k) w q) (hok:iD q.es q.ks q.c) (x k:Int):
 Calls Tryz.prog 18 #[.pointer (some ⟨b,0,none⟩), .int .i64 x, .int .i64 k, .agg #[q.ev,q.kv,q.cv]] w fun e w'=>e= .returned (.int .i64 (og n x k q st).1)∧vT L w b n vis (og n x k q st).2 w':=by
 obtain⟨vb,jo,vs,rs,h,rfl,rfl⟩:=h
 exact aic h q hq hok x k
theorem kR.pub (h:kR Q w n vv sv vis st) (hQ:∀k,w.heap.size≤k→Q k) (x:Int) (hsz:Bf vis (st.getD (dG x (st.map bI.id)).toNat default).part n):
 Calls Tryz.prog 58 #[.agg #[vv,sv], .int .i64 x] w fun e w'=>∃mO iQ,e= .returned (.tuple #[.agg #[mO,iQ], .int .i64 (lV n x vis st).1])∧kR Q w' n mO iQ (lV n x vis st).2.1 (lV n x vis st).2.2∧aj aF w w':=by
 obtain⟨vs,rs,h,rfl,rfl⟩:=h
 exact aik h hQ x hsz
theorem pJ.pub (h:pJ L w b n vis st) (x:Int) (hsz:Bf vis (st.getD (dG x (st.map bI.id)).toNat default).part n):
 Calls Tryz.prog 17 #[.pointer (some ⟨b,0,none⟩), .int .i64 x] w fun e w'=>e= .returned (.int .i64 (lV n x vis st).1)∧vT L w b n (lV n x vis st).2.1 (lV n x vis st).2.2 w':=by
 obtain⟨vb,jo,vs,rs,h,rfl,rfl⟩:=h
 exact aij h x hsz
theorem kR.inst (h:kR Q w n vv sv vis st) (hQ:∀k,w.heap.size≤k→Q k) (q:aU) (hq:eF Q w q) (hok:iD q.es q.ks q.c) (x:Int) (hsz:∀j,j<n→dQ (vis.getD j dD)+dQ q.g≤2000∧(vis.getD j dD).2.length+q.c.length≤2000):
 Calls Tryz.prog 60 #[.agg #[vv,sv], .int .i64 x, .agg #[q.ev,q.kv,q.cv]] w fun e w'=>∃mO iQ,e= .returned (.tuple #[.agg #[mO,iQ], .int .i64 (qB n x q vis st).1])∧kR Q w' n mO iQ (qB n x q vis st).2 st∧aj aF w w':=by
 obtain⟨vs,rs,h,rfl,rfl⟩:=h
 exact ain h hQ q hq hok x hsz
theorem pJ.inst (h:pJ L w b n vis st) (q:aU) (hq:eF (fun k=>¬L k) w q) (hok:iD q.es q.ks q.c) (x:Int) (hsz:∀j,j<n→dQ (vis.getD j dD)+dQ q.g≤2000∧(vis.getD j dD).2.length+q.c.length≤2000):
 Calls Tryz.prog 15 #[.pointer (some ⟨b,0,none⟩), .int .i64 x, .agg #[q.ev,q.kv,q.cv]] w fun e w'=>e= .returned (.int .i64 (qB n x q vis st).1)∧vT L w b n (qB n x q vis st).2 st w':=by
 obtain⟨vb,jo,vs,rs,h,rfl,rfl⟩:=h
 exact ail h q hq hok x hsz
end
theorem zI {w:World} {p:Nat} {u0 u1:Value} {t:TypeId} {fz:Nat×Nat} (h:w.heap[p]?=some (.cells #[u0,u1] t fz)) (v0 v1:Value):
 ((w.setCell ⟨p,0,none⟩ v0).setCell ⟨p,1,none⟩ v1).heap[p]?=some (.cells #[v0,v1] t fz)∧aj (fun k=>k=p) w ((w.setCell ⟨p,0,none⟩ v0).setCell ⟨p,1,none⟩ v1):=
 ⟨Dn p t fz [v0,v1] 0 w #[u0,u1] h (by simp),aj.setCells (S:=fun k=>k=p) p w (.inl rfl) [v0,v1] 0⟩
open Go.RowKit
theorem MN {α:Type} [Inhabited α] {n:Nat} {p:Nat→α→Prop} (h:∀i,i<n→∃x,p i x):∃l:List α,l.length=n∧∀i,i<n→∀d,p i (l.getD i d):=by
 obtain⟨f,hf⟩:=Go.Deep.choose_lt h
 refine⟨(List.range n).map f,by simp,fun i hi d=>?_⟩
 have:((List.range n).map f).getD i d=f i:=by simp[List.getD,hi]
 rw[this]
 exact hf i hi
section
variable {H:Type} {enc:TypeId×Value→H} {P:Program} {w:World} {base:Nat} {sp:Nat→Bool} {held:Bool}
theorem open_arr {t e sz:Nat} {a0:Option Addr} {len cap:Nat} {d:DataW H×List MemPlace} {fuel:Nat} (ht:P.underlying t=some (.slice e)) (hsz:P.cellsOf e=sz) (hpos:0<sz) (hsp:∀b,sp b=true)
 (h:DataW.trod enc P w base sp held fuel t [.slice a0 len cap]=some d):
 (len=0∧cap=0)∨∃b off,a0=some ⟨b,off,none⟩∧len≤cap∧cap≤maxLen∧
   ∃n,∀k,k<len→∃cs:List Value,cs.length=sz∧(∀j u,cs[j]?=some u→w.cell? ⟨b,off+k*sz+j,none⟩=some u)∧∃y,DataW.trod enc P w base sp held n e cs=some y:=by
 rcases Go.Deep.open_slice ht h with⟨hcs,_⟩|⟨a,len',cap',m,n,D,Pl,hcs,_,hl,hm,hmm,_,hel⟩
 ·left
  simp only[List.cons.injEq,Value.slice.injEq,and_true]at hcs
  exact⟨hcs.2.1,hcs.2.2⟩
 ·simp only[List.cons.injEq,Value.slice.injEq,and_true]at hcs
  obtain⟨rfl,rfl,rfl⟩:=hcs
  rw[hsp]at hmm
  simp only[if_true]at hmm
  subst hmm
  subst hsz
  rcases Nat.eq_zero_or_pos m with h0|h0
  ·left;omega
  ·right
   obtain⟨b,off,spot⟩:=a
   have hspot:spot=none:=by
    obtain⟨cs',hc,_⟩:=hel 0 h0
    obtain⟨_,hlen,hcells⟩:=World.cells?_some hc
    have h00:cs'[0]?=some (cs'[0]'(by omega)):=List.getElem?_eq_getElem _
    have:=hcells 0 (by omega)
    rw[h00]at this
    have hs:=World.cell?_spot this
    simpa[Addr.add]using hs
   subst hspot
   refine⟨b,off,rfl,hl,hm,n,fun k hk=>?_⟩
   obtain⟨cs',hc,ht'⟩:=hel k (by omega)
   obtain⟨_,hlen,hcells⟩:=World.cells?_some hc
   refine⟨cs',hlen,fun j u hu=>?_,_,ht'⟩
   have hj:j<P.cellsOf e:=by rw[←hlen];exact(List.getElem?_eq_some_iff.1 hu).1
   have:=hcells j hj
   rw[addr_add,addr_add]at this
   rw[this,hu]
end
end Go.Proofs.YtlhmbkjdfjoilaaGreat
