/- Words for the law ShardPlays: Ps7. -/
import Derived.Test.YtlhmbkjdfjoilaaGreatShardPlaysG0
import Derived.Test.YtlhmbkjdfjoilaaGreatShardPlaysG21
import Derived.Test.YtlhmbkjdfjoilaaGreatShardPlaysG30
set_option linter.unusedSimpArgs false
set_option linter.unusedVariables false
set_option maxHeartbeats 32000000
set_option maxRecDepth 1000000
namespace Go.Proofs.YtlhmbkjdfjoilaaGreat
open Go.RowKit
theorem OwnAt.fU {w W W2:World} {e e':TypeId} {s s' n n':Nat} {u v:Value} {xs ys:List Value} (h:OwnAt w W e s u n xs) (hv:OwnAt w W e' s' v n' ys) (he:e≠e') (f:aj (eG v) W W2):OwnAt w W2 e s u n xs:=
 h.other hv f fun i hi hu=>by
  obtain⟨c1,h1⟩:=jB h.own hu
  obtain⟨c2,h2⟩:=jB hv.own hi
  exact iO h1 h2 he rfl
theorem OwnAt.kC {w W W2:World} {e t:TypeId} {s n:Nat} {v:Value} {xs:List Value} {b:Nat} {o:Array Value} (hv:OwnAt w W e s v n xs) (f:aj (eG v) W W2) (hb:W.heap[b]?=some (.cells o t (0,0))) (he:t≠e):W2.heap[b]?=some (.cells o t (0,0)):=
 f.blk hb fun s=>by
  obtain⟨c2,h2⟩:=jB hv.own s
  exact iO hb h2 he rfl
theorem ahA {Q:Nat→Prop} {w:World} {l:List aU} (h:∀q∈l,q.es=[]∧eF Q w q∧Good q.g):∀u∈l.flatMap aU.cells,u.oneCell'=true:=fun u hu=>by
 obtain⟨q,hq,hu⟩:=List.mem_flatMap.1 hu
 obtain⟨_,hl,_⟩:=h q hq
 obtain⟨a0,c0,a1,c1,a2,c2,h0,h1,h2⟩:=hl.at_.shape
 unfold aU.cells at hu
 simp only[List.mem_cons,List.not_mem_nil,or_false]at hu
 rcases hu with rfl|rfl|rfl
 ·rw[h0];rfl
 ·rw[h1];rfl
 ·rw[h2];rfl
theorem rU (l:List Bool):∀u∈fJ l,u.oneCell'=true:=fun u hu=>by
 obtain⟨b,_,rfl⟩:=List.mem_map.1 hu
 rfl
theorem ahB {Q:Nat→Prop} {w:World} {n:Nat} {l:List bn} (h:∀r∈l,zA Q w n r):∀u∈qy l,u.oneCell'=true:=fun u hu=>by
 obtain⟨q,hq,hu⟩:=List.mem_flatMap.1 hu
 obtain⟨r,hr,rfl⟩:=List.mem_map.1 hq
 obtain⟨a,c,h1⟩:=(h r hr).part.rd.rd.sl
 obtain⟨a',c',h2⟩:=(h r hr).is.rd.sl
 unfold cO.cells at hu
 simp only[List.mem_cons,List.not_mem_nil,or_false]at hu
 rcases hu with rfl|rfl|rfl
 ·rfl
 ·show r.pv.oneCell'=true;rw[h1];rfl
 ·show r.iv.oneCell'=true;rw[h2];rfl
theorem ahC:(Tryz.prog.info? 4).map (fun i=>(i.zero,i.size,i.bytes))=some (some (.bool false),1,1):=by kernel_rfl
theorem ahD (Q:Nat→Prop) (w:World) (n:Nat):∀q∈jm n,q.es=[]∧eF Q w q∧Good q.g:=fun q hq=>by
 obtain rfl:=(List.mem_replicate.1 hq).2
 exact⟨rfl,⟨⟨⟨.inl ⟨none,rfl,rfl,rfl⟩,fun h=>absurd rfl h⟩,[],⟨.inl ⟨none,rfl,rfl,rfl⟩,fun h=>absurd rfl h⟩,rfl⟩, .inl ⟨none,rfl,rfl,rfl⟩,fun h=>absurd rfl h⟩,Ap⟩
theorem ahE (n:Nat):(jm n).map aU.g=List.replicate n dD:=by unfold jm;rw[List.map_replicate];rfl
theorem MF {w:World} {e:TypeId} {size g n c:Nat} {xs:List Value} (h:w.ownsRow 0 e size (.slice (some ⟨g,0,none⟩) n c) n xs) (j:Nat) (u:Value):(w.setCell ⟨g,j,none⟩ u).ownsRow 0 e size (.slice (some ⟨g,0,none⟩) n c) n (xs.set j u):=by
 refine⟨by rw[List.length_set];exact h.1,?_⟩
 rcases h.2 with⟨hx,_⟩|⟨g',cp,cur,hx,hb,hg,hn,hcc,hcs,ht⟩
 ·cases hx
 ·simp only[Value.slice.injEq,Option.some.injEq,Addr.mk.injEq,true_and,and_true]at hx
  obtain⟨rfl,rfl⟩:=hx
  exact .inr ⟨g,c,_,rfl,hb,eY hg j u,hn,hcc,by simpa using hcs,by rw[Array.toList_setIfInBounds,List.take_set,ht]⟩
theorem OwnAt.jU {w W W2:World} {e t:TypeId} {s n b:Nat} {v:Value} {xs:List Value} {o:Array Value} (h:OwnAt w W e s v n xs) (f:aj (fun x=>x=b) W W2) (hb:W.heap[b]?=some (.cells o t (0,0))) (he:t≠e) (hw:w.heap.size≤b):OwnAt w W2 e s v n xs:=
 ⟨f.owns h.own fun k hk e'=>by
   obtain⟨cur,h4⟩:=jB h.own hk
   exact iO hb h4 he e'.symm,h.new,h.aI.trans f fun k hk e'=>by omega⟩
theorem Zw:∀(l:List cO) (i:Nat) (q:cO),i<l.length→(l.set i q).flatMap cO.cells=(((l.flatMap cO.cells).set (i*3) (.int .i64 q.id)).set (i*3+1) q.pv).set (i*3+2) q.iv
 |[],_,_,h=>by cases h
 |x::l,0,q,_=>rfl
 |x::l,i+1,q,h=>by
  have e:∀y:cO,(y::l).flatMap cO.cells= .int .i64 y.id::y.pv::y.iv::l.flatMap cO.cells:=fun _=>rfl
  have e2:((x::l).set (i+1) q).flatMap cO.cells= .int .i64 x.id::x.pv::x.iv::(l.set i q).flatMap cO.cells:=rfl
  rw[e2,Zw l i q (by simpa using h),e,show(i+1)*3=i*3+1+1+1 by omega]
  rfl
theorem ahF {l:List bn} {i:Nat} {r:bn} (h:i<l.length):qy (l.set i r)=(((qy l).set (i*3) (.int .i64 r.id)).set (i*3+1) r.pv).set (i*3+2) r.iv:=by
 unfold qy
 rw[List.map_set,Zw _ _ _ (by rw[List.length_map];exact h)]
 rfl
theorem SI (w:World) (b j0 j1 j2:Nat) (x0 x1 x2:Value):aj (fun x=>x=b) w (((w.setCell ⟨b,j0,none⟩ x0).setCell ⟨b,j1,none⟩ x1).setCell ⟨b,j2,none⟩ x2):=
 ((aj.setCell (S:=fun x=>x=b) w (p:=⟨b,j0,none⟩) (.inl rfl) x0).trans (aj.setCell (S:=fun x=>x=b) _ (p:=⟨b,j1,none⟩) (.inl rfl) x1) fun _ _ h=>h).trans (aj.setCell (S:=fun x=>x=b) _ (p:=⟨b,j2,none⟩) (.inl rfl) x2) fun _ _ h=>h
theorem OwnAt.Zx {w W:World} {e:TypeId} {s n b c j0 j1 j2:Nat} {xs:List Value} {x0 x1 x2:Value} (h:OwnAt w W e s (.slice (some ⟨b,0,none⟩) n c) n xs):OwnAt w (((W.setCell ⟨b,j0,none⟩ x0).setCell ⟨b,j1,none⟩ x1).setCell ⟨b,j2,none⟩ x2) e s (.slice (some ⟨b,0,none⟩) n c) n (((xs.set j0 x0).set j1 x1).set j2 x2):=
 ⟨MF (MF (MF h.own j0 x0) j1 x1) j2 x2,h.new,h.aI.trans (SI W b j0 j1 j2 x0 x1 x2) fun k hk e=>by have:=h.new b rfl;omega⟩
theorem OwnAt.blk {w W:World} {e:TypeId} {s n b c:Nat} {xs:List Value} (h:OwnAt w W e s (.slice (some ⟨b,0,none⟩) n c) n xs):∃cur,W.heap[b]?=some (.cells cur e (0,0)):=jB h.own rfl
theorem Zy {Q:Nat→Prop} {w W5 W:World} {n m k p9 pb ib:Nat} {rs:List bn} {bf:Int} {t:bY} {v:Value} {R:Int×List bI} (hn4:n≤4) (hm:m=rs.length) (yV:m≤3) (iF:∀r∈rs,zA Q w n r) (MG:(rs.map bn.id).Nodup) (hnm:bf∉rs.map bn.id)
 (f5:aj aF w W5) (hQ:∀k,w.heap.size≤k→Q k) (kM:w.heap.size≤p9∧p9<W5.heap.size)
 (hl:OwnAt W5 W 116 3 v (m+1) (qy rs++ [.int .i64 bf, .slice (some ⟨pb,0,none⟩) n n, .slice (some ⟨ib,0,none⟩) n n]))
 (hpb:W.heap[pb]?=some (.cells ((jm n).flatMap aU.cells).toArray 32 (0,0))) (hib:W.heap[ib]?=some (.cells (fJ (List.replicate n false)).toArray 4 (0,0))) (hpw:W5.heap.size≤pb) (hiw:W5.heap.size≤ib)
 (hR:R=(0,((rs.map bn.con)++ [newS n bf]).set m (mg (newS n bf) k t))):
 ∃(i:Nat) (cZ:List bn),Value.int .i64 (m:Int)= .int .i64 i∧i<cZ.length∧cZ.length≤4∧OwnAt W5 W 116 3 v cZ.length (qy cZ)∧(∀r∈cZ,zA (fun b=>Q b∧b≠p9∧v.ownBlock≠some b) W n r)∧(cZ.map bn.id).Nodup∧(cZ.getD i default).id=bf∧R=(0,(cZ.map bn.con).set i (mg ((cZ.map bn.con).getD i default) k t)):=by
 have gV:=f5.aH hl.aI
 have hs5:=f5.size
 have hnn:n≤maxLen:=by simp only[maxLen];omega
 have hpr:(Value.slice (some ⟨pb,0,none⟩) n n).ownBlock=some pb:=rfl
 have hir:(Value.slice (some ⟨ib,0,none⟩) n n).ownBlock=some ib:=rfl
 refine⟨m,rs++ [⟨bf, .slice (some ⟨pb,0,none⟩) n n, .slice (some ⟨ib,0,none⟩) n n,jm n,List.replicate n false⟩],rfl,by rw[List.length_append,←hm];simp,by rw[List.length_append,←hm];simp;omega,?_,fun r hr=>?_,?_,by rw[getD_at _ (by simp[hm]),List.getElem_append_right (by simp[hm])];simp[hm],?_⟩
 ·rw[List.length_append,←hm,YS]
  exact hl
 ·rcases List.mem_append.1 hr with hr|hr
  ·exact(iF r hr).turn fun y hy hq=>⟨gV.block y hy id,hq,by omega,fun e=>by have:=hl.new y e;omega⟩
  ·obtain rfl:=List.mem_singleton.1 hr
   refine⟨⟨by unfold jm;simp,⟨Rd.Au hpb hnn,fun _ y hy=>?_⟩,ahD _ _ n⟩,by simp,⟨Rd.Au hib hnn,fun _ y hy=>?_⟩⟩
   ·have hy:some pb=some y:=hpr.symm.trans hy
    injection hy with hy
    subst hy
    exact⟨hQ _ (by omega),by omega,fun e=>by
     obtain⟨cur,h4⟩:=jB hl.own e
     exact iO h4 hpb (by decide) rfl⟩
   ·have hy:some ib=some y:=hir.symm.trans hy
    injection hy with hy
    subst hy
    exact⟨hQ _ (by omega),by omega,fun e=>by
     obtain⟨cur,h4⟩:=jB hl.own e
     exact iO h4 hib (by decide) rfl⟩
 ·rw[List.map_append]
  exact List.nodup_append.2 ⟨MG,by simp,fun a ha b hb e=>by
   have hb:b=bf:=by simpa using hb
   subst hb
   subst e
   exact hnm ha⟩
 ·rw[hR,List.map_append]
  have hco:(⟨bf, .slice (some ⟨pb,0,none⟩) n n, .slice (some ⟨ib,0,none⟩) n n,jm n,List.replicate n false⟩:bn).con=newS n bf:=by show(⟨bf,(jm n).map aU.g,List.replicate n false⟩:bI)=_;rw[ahE];rfl
  rw[List.map_cons,List.map_nil,hco,getD_at _ (by simp[hm]),List.getElem_append_right (by simp[hm])]
  simp[hm]
theorem ahG {Q:Nat→Prop} {w w7 Y2 WF:World} {n m1 i k g FD p9 pb zF ib yD:Nat} {vv:Value} {vs:List aU} {rs cZ:List bn} {bf:Int} {q:aU} {R:Int×List bI} {sv0:Value} (iF:jf Q w n vv sv0 vs rs) (hQ:∀k,w.heap.size≤k→Q k)
 (hm1:m1=cZ.length) (hi:i<cZ.length) (hf1:cZ.length≤4) (hk:k<n) (hst:∀r∈cZ,zA (fun b=>Q b∧b≠p9∧(Value.slice (some ⟨g,0,none⟩) m1 FD).ownBlock≠some b) w7 n r) (hnd:(cZ.map bn.id).Nodup) (hid:(cZ.getD i default).id=bf)
 (hw7:w.heap.size≤g∧g<w7.heap.size∧w.heap.size≤p9∧p9<w7.heap.size) (f7:aj aF w w7)
 (hA:OwnAt w7 Y2 32 3 (.slice (some ⟨pb,0,none⟩) n zF) n (((((cZ.getD i default).part.flatMap aU.cells).set (k*3) q.ev).set (k*3+1) q.kv).set (k*3+2) q.cv))
 (hB:OwnAt w7 Y2 4 1 (.slice (some ⟨ib,0,none⟩) n yD) n ((fJ (cZ.getD i default).is).set k (.bool true)))
 (hq:q.es=[]∧eF Q w q∧Good q.g)
 (hL:Rd WF (.slice (some ⟨g,0,none⟩) m1 FD) m1 ((((qy cZ).set (i*3) (.int .i64 bf)).set (i*3+1) (.slice (some ⟨pb,0,none⟩) n zF)).set (i*3+2) (.slice (some ⟨ib,0,none⟩) n yD)))
 (fF:∀b,b<Y2.heap.size→b≠g→b≠p9→WF.heap[b]?=Y2.heap[b]?) (f:aj aF w WF)
 (hR:R=(0,(cZ.map bn.con).set i (mg ((cZ.map bn.con).getD i default) k q.g))):
 ∃rs',R.1=0∧jf Q WF n vv (.slice (some ⟨g,0,none⟩) m1 FD) vs rs'∧rs'.map bn.con=R.2:=by
 obtain⟨r,hr⟩:∃r,r=cZ.getD i default:=⟨_,rfl⟩
 rw[←hr]at hid hA hB
 have hrm:r∈cZ:=by rw[hr];exact getD_mem _ hi
 have hrs:=hst r hrm
 have hs7:=f7.size
 refine⟨cZ.set i ⟨bf, .slice (some ⟨pb,0,none⟩) n zF, .slice (some ⟨ib,0,none⟩) n yD,r.part.set k q,r.is.set k true⟩,by rw[hR],?_,?_⟩
 ·refine⟨iF.n1,iF.n4,iF.vis.turn fun b hb hq=>⟨f.block b hb id,hq⟩,?_,fun x hx=>?_,?_,by rw[List.length_set];exact hf1⟩
  ·rw[List.length_set,←hm1]
   refine⟨?_,fun _ b hb=>?_⟩
   ·show Rd WF _ m1 (qy _)
    rw[ahF hi]
    exact hL
   ·have hb:some g=some b:=hb
    injection hb with hb
    subst hb
    exact hQ _ hw7.1
  ·rcases List.mem_or_eq_of_mem_set hx with hx|hx
   ·exact(hst x hx).turn fun b hb hq=>⟨(fF b (Nat.lt_of_lt_of_le hb hA.aI.size) (fun e=>hq.2.2 (by subst e;rfl)) hq.2.1).trans (hA.aI.block b hb id),hq.1⟩
   ·subst hx
    have hown:∀b,b<Y2.heap.size→w7.heap.size≤b→WF.heap[b]?=Y2.heap[b]?∧Q b:=fun b hb hq=>⟨fF b hb (by omega) (by omega),hQ b (by omega)⟩
    refine⟨⟨by rw[List.length_set];exact hrs.part.len,?_,fun y hy=>?_⟩,by rw[List.length_set];exact hrs.o_,?_⟩
    ·have h:=hA.Aa.turn (w':=WF) (Q':=Q) hown
     rw[←KX _ _ _ (by rw[hrs.part.len];exact hk)]at h
     exact h
    ·rcases List.mem_or_eq_of_mem_set hy with hy|hy
     ·obtain⟨k1,k2,k3⟩:=hrs.part.each y hy
      exact⟨k1,k2.turn fun b hb hq=>⟨(fF b (Nat.lt_of_lt_of_le hb hA.aI.size) (fun e=>hq.2.2 (by subst e;rfl)) hq.2.1).trans (hA.aI.block b hb id),hq.1⟩,k3⟩
     ·subst hy
      exact⟨hq.1,hq.2.1.turn fun b hb hq=>⟨f.block b hb id,hq⟩,hq.2.2⟩
    ·have h:=hB.Aa.turn (w':=WF) (Q':=Q) hown
     rw[←Xi]at h
     exact h
  ·rw[Ia (d:=default) bn.id hi (by rw[←hr,hid])]
   exact hnd
 ·rw[hR,List.map_set,EO hi,←hr]
  have:(⟨bf, .slice (some ⟨pb,0,none⟩) n zF, .slice (some ⟨ib,0,none⟩) n yD,r.part.set k q,r.is.set k true⟩:bn).con=mg r.con k q.g:=by
   show(⟨bf,(r.part.set k q).map aU.g,r.is.set k true⟩:bI)=⟨r.id,(r.part.map aU.g).set k q.g,r.is.set k true⟩
   rw[List.map_set,hid]
  rw[this]
section
variable {Q:Nat→Prop} {w:World} {n:Nat} {vv sv:Value} {vs:List aU} {rs:List bn}
def MH (Q:Nat→Prop) (w:World) (n:Nat) (vv:Value) (vs:List aU) (rs:List bn) (bf:Int) (k:Nat) (t:bY) (e:Ending) (w':World):Prop:=
 ∃sv' rs',e= .returned (.tuple #[.agg #[vv,sv'], .int .i64 (mD n bf k t (rs.map bn.con)).1])∧jf Q w' n vv sv' vs rs'∧rs'.map bn.con=(mD n bf k t (rs.map bn.con)).2∧aj aF w w'
theorem SK (h:jf Q w n vv sv vs rs) (hQ:∀k,w.heap.size≤k→Q k) (ks:aT) (c:bD) (ev kv cv:Value) (ha:eF Q w ⟨[],ks,c,ev,kv,cv⟩) (hg:Good (ks,c)) (bf:Int) (k:Nat) (hk:k<n) (hcut:bF (bQ n k) ks=ks):
 Calls Tryz.prog 57 #[.agg #[vv,sv], .int .i64 bf, .int .i64 k, .agg #[ev,kv,cv]] w (MH Q w n vv vs rs bf k (ks,c)):=by
 obtain⟨i0,hi0,hz0,hz1,hz2⟩:=info_parts YQ
 obtain⟨i1,wV,hy0,hy1,hy2⟩:=info_parts Zn
 obtain⟨i2,hi2,hx0,hx1,hx2⟩:=info_parts ahC
 obtain⟨a0,c0,a1,c1,rfl,rfl⟩:=h.shape
 have hn4:=h.n4
 have hn1:=h.n1
 have hat:dU Q w ev kv cv [] ks c:=ha.at_
 have hmay:jP n [] ks c k=true:=vO.2 ⟨⟨by omega,by omega⟩,hg.right,rfl⟩
 have HM:=ah (fun W (f:aj aF w W)=>hmay▸LV Q n hn4 a0 a1 c0 rs.length c1 W [] ks c ev kv cv (hat.aS f) hg.ok k)
 have hct:=fun W (f:aj aF w W)=>RH Q n hn4 a0 a1 c0 rs.length c1 W ks c ev kv cv (hat.aS f) hg k
 unfold Fp at hct
 rw[hcut]at hct
 have HC2:=ah hct
 have HS2:=ah (fun W (f:aj aF w W) ev' kv' Q' (ht:bZ Q' W ev' kv' [] ks)=>(show Calls Tryz.prog 19 #[.agg #[ev',kv',cv], .agg #[ev,kv,cv]] W (fun e w'=>e= .returned (.bool true)∧aj aF W w')from by
  have:=Iq Q' Q [] ks c [] ks c W ev' kv' cv ev kv cv ⟨ht,(hat.aS f).ctx⟩ hg.ok (hat.aS f) hg.ok
  rwa [gu ⟨⟨rfl,rfl⟩,rfl⟩]at this))
 have HAT:=ah (fun W (f:aj aF w W)=>EP (h.aS f) bf)
 have HR:=ah (fun W (f:aj aF w W)=>h.aS f)
 have HQ:=ah hQ
 have HA:=ah ha
 have HG:=ah hg
 have hfew:=h.few
 have L_:=ah h.ids
 obtain⟨d0,e0,d1,e1,d2,e2,rfl,rfl,rfl⟩:=hat.shape
 clear h ha hg hcut hat hmay hQ hct
 unfold MH
 obtain⟨R,hR⟩:∃R,R=mD n bf k (ks,c) (rs.map bn.con):=⟨_,rfl⟩
 have HRR:=ah hR
 rw[←hR]
 clear hR
 obtain⟨P,hP⟩:∃P,P=dG bf (rs.map bn.id):=⟨_,rfl⟩
 rw[←hP]at HAT
 have HP:=ah hP
 clear hP
 obtain⟨m,hm⟩:∃m,m=rs.length:=⟨_,rfl⟩
 have n_:=ah hm
 rw[←hm]at hfew HM HC2 HAT HR⊢
 clear hm
 obtain⟨kl,hkl⟩:∃kl,kl=ks.len:=⟨_,rfl⟩
 have iZ:=ah hkl
 rw[←hkl]at HM HC2 HS2 HA⊢
 clear hkl
 generalize hcl:c.length=cl at*
 obtain⟨hf3,hz3,hb0,hb1,hb2⟩:=oD w #[.slice a0 n c0, .slice a1 m c1] #[.slice d0 0 e0, .slice d1 kl e1, .slice d2 cl e2] #[.slice none 0 0, .slice none 0 0] 62 32 62
 obtain⟨W3,hW3⟩:∃W3,W3=((w.alloc (.cells #[.slice a0 n c0, .slice a1 m c1] 62)).alloc (.cells #[.slice d0 0 e0, .slice d1 kl e1, .slice d2 cl e2] 32)).alloc (.cells #[.slice none 0 0, .slice none 0 0] 62):=⟨_,rfl⟩
 rw[←hW3]at hf3 hz3 hb0 hb1 hb2
 have HW3:=ah hW3
 have HF3:=ah hf3
 have HZ3:=ah hz3
 have HB0:=ah hb0
 have HB1:=ah hb1
 have HB2:=ah hb2
 clear hf3 hz3 hb0 hb1 hb2 hW3
 go_enter Tryz.func57,Tryz.ntmps57
 go_upto_region 1 with fail
 rw[←HW3.out]
 go_cut [26] (fun v W=>v= .bool false∧aj aF W3 W)
 case first=>
  have dJ:=ah (fun Y Y' (f:aj aF Y Y') (hS:aj aF W3 Y∧Y.cell? ⟨w.heap.size,0,none⟩=some (.slice a0 n c0)∧Y.cell? ⟨w.heap.size,1,none⟩=some (.slice a1 m c1)∧Y.cell? ⟨w.heap.size+1,0,none⟩=some (.slice d0 0 e0)∧Y.cell? ⟨w.heap.size+1,1,none⟩=some (.slice d1 kl e1)∧Y.cell? ⟨w.heap.size+1,2,none⟩=some (.slice d2 cl e2))=>
   (⟨hS.1.aH f,f.cell' hS.2.1 id,f.cell' hS.2.2.1 id,f.cell' hS.2.2.2.1 id,f.cell' hS.2.2.2.2.1 id,f.cell' hS.2.2.2.2.2 id⟩:aj aF W3 Y'∧Y'.cell? ⟨w.heap.size,0,none⟩=some (.slice a0 n c0)∧Y'.cell? ⟨w.heap.size,1,none⟩=some (.slice a1 m c1)∧Y'.cell? ⟨w.heap.size+1,0,none⟩=some (.slice d0 0 e0)∧Y'.cell? ⟨w.heap.size+1,1,none⟩=some (.slice d1 kl e1)∧Y'.cell? ⟨w.heap.size+1,2,none⟩=some (.slice d2 cl e2)))
  have dH:=dJ.out _ _ (aj.drew aF _) ⟨aj.refl aF W3,aG HB0.out 0 rfl,aG HB0.out 1 rfl,aG HB1.out 0 rfl,aG HB1.out 1 rfl,aG HB1.out 2 rfl⟩
  refine iq (S:=fun Y=>aj aF W3 Y∧Y.cell? ⟨w.heap.size,0,none⟩=some (.slice a0 n c0)∧Y.cell? ⟨w.heap.size,1,none⟩=some (.slice a1 m c1)∧Y.cell? ⟨w.heap.size+1,0,none⟩=some (.slice d0 0 e0)∧Y.cell? ⟨w.heap.size+1,1,none⟩=some (.slice d1 kl e1)∧Y.cell? ⟨w.heap.size+1,2,none⟩=some (.slice d2 cl e2)) 14 (by kernel_rfl) dH ?_
  clear dH
  intro hS
  generalize World.drew _=Y0 at*
  refine aY 0 13 rfl rfl ?_
  refine aY 1 14 rfl rfl ?_
  try simp only[Act.put,aO,aN,aJ]
  refine aY 2 15 rfl rfl ?_
  try simp only[Act.put,aO,aN,aJ]
  refine bg (i:=3) (by kernel_rfl) rfl (fun K hK=>?_)
  go_simp
  refine(HM.out _ (HF3.out.aH hS.1)).mono ?_
  rintro e Y1 ⟨rfl,hf1⟩
  have hS1:=dJ.out _ _ hf1 hS
  refine hK.out _ _ hS1 ?_
  clear hK K hS hf1
  have hS:=hS1
  clear hS1
  try simp only[Act.put,aO,aN,aJ]
  refine aY 4 17 rfl rfl ?_
  refine aY 5 18 rfl rfl ?_
  try simp only[Act.put,aO,aN,aJ]
  refine aY 6 19 rfl rfl ?_
  refine aY 7 20 rfl rfl ?_
  try simp only[Act.put,aO,aN,aJ]
  refine aY 8 21 rfl rfl ?_
  refine aY 10 23 rfl rfl ?_
  try simp only[Act.put,aO,aN,aJ]
  refine bg (i:=9) (by kernel_rfl) rfl (fun K hK=>?_)
  go_simp
  refine(HC2.out _ (HF3.out.aH hS.1)).mono ?_
  rintro e Y2 ⟨Fa,AP,rfl,ht2,hf2⟩
  obtain⟨b0,g0,rfl⟩:=ht2.ents.rd.sl
  obtain⟨os2,yA,-⟩:=ht2.kids
  obtain⟨b1,g1,rfl⟩:=yA.rd.sl
  have HT2:=ah ht2
  have hS1:=dJ.out _ _ hf2 hS
  refine hK.out _ _ hS1 ?_
  clear hK K hS hf2 ht2 yA
  have hS:=hS1
  clear hS1
  try simp only[Act.put,aO,aN,aJ]
  refine bg (i:=11) (by kernel_rfl) rfl (fun K hK=>?_)
  go_simp
  refine(HS2.out _ (HF3.out.aH hS.1) _ _ _ HT2.out).mono ?_
  rintro e Y3 ⟨rfl,hf3⟩
  have hS1:=dJ.out _ _ hf3 hS
  refine hK.out _ _ hS1 ?_
  clear hK K hS hf3
  have hS:=hS1
  clear hS1
  try simp only[Act.put,aO,aN,aJ]
  refine aY 12 25 rfl rfl ?_
  try simp only[Act.put,aO,aN,aJ]
  refine bg (i:=13) (by kernel_rfl) rfl (fun K hK=>?_)
  go_simp
  refine hK.out _ _ hS ?_
  clear hK K
  refine mF (by kernel_rfl) ?_
  go_wp2
  go_meet
  case rel=>exact⟨rfl,hS.1⟩
 case rest=>
  obtain⟨rfl,hfr⟩:=hcut
  obtain⟨W4,rfl⟩:∃W4,W4=wc:=⟨_,rfl⟩
  clear HM HC2 HS2
  have dR:=ah (HF3.out.aH hfr)
  have LW:=ah hfr
  have hbs:=hfr.blk HB0.out id
  have s0:=aG hbs 0 rfl
  have s1:=aG hbs 1 rfl
  have hls:=lt_of_block hbs
  clear hbs hfr
  go_upto_region 4 with(go_at_call 82;refine(HAT.out _ dR.out).mono ?_;rintro e W5 ⟨rfl,hf5⟩;have zG:=ah hf5;clear s0 s1 hls hf5)
  have iV:=ah (dR.out.aH zG.out)
  have qA:=ah (LW.out.aH zG.out)
  have kY:=ah (qA.out.blk HB0.out id)
  have SL:=ah (qA.out.blk HB1.out id)
  have lU:=ah (qA.out.blk HB2.out id)
  have A_:=ah (show w.heap.size+1+1<W5.heap.size from lt_of_block lU.out)
  have s1:=aG kY.out 1 rfl
  have hls:=lt_of_block kY.out
  clear HAT
  obtain⟨F,hF⟩:∃F:Bool,F=(decide (0≤P)&&(rs.getD P.toNat default).is.getD k false):=⟨_,rfl⟩
  have vP:=ah hF
  clear hF
  go_cut [43] (fun v W=>W=W5∧v= .bool F)
  case first=>
   rcases nY bf (rs.map bn.id)with⟨hp,hnm⟩|⟨i,hi,hp,he⟩
   ·have hP:=HP.out.trans hp
    subst hP
    have HF2:=ah (show F=false by rw[vP.out];rfl)
    go_wp2
    go_meet
    case rel=>exact⟨by trivial,by rw[HF2.out]⟩
   ·rw[List.length_map,←n_.out]at hi
    have hP:=HP.out.trans hp
    subst hP
    clear hp he HP
    have hir:i<rs.length:=by rw[←n_.out];exact hi
    have hF2:F=(rs.getD i default).is.getD k false:=by
     rw[vP.out,decide_eq_true (show(0:Int)≤(i:Int) by omega),Bool.true_and,show((i:Int)).toNat=i by omega]
    obtain⟨g0,g1,g2⟩:=uz (rs.map bn.q) i (by rw[List.length_map];exact hir)
    rw[Io hir]at g2
    have iF:=HR.out _ iV.out
    have hrd:=iF.rd.rd
    rw[←n_.out]at hrd
    have hs:=iF.jJ _ (getD_mem default hir)
    rcases Rd.shape hrd with⟨ad,he,h0⟩|⟨g,off,cc,he,hmx⟩
    ·omega
    injection he with j1 j2 j3
    subst j1 j3
    clear j2
    have y2:W5.cell? ⟨g,off+i*3+2,none⟩=some (rs.getD i default).iv:=hrd.cell (i*3+2) _ g2
    have IQ:=hs.is.rd
    have hil:=hs.o_
    generalize rs.getD i default=r at*
    obtain⟨rid,Lm,ES,qp,nJ⟩:=r
    have IQ:Rd W5 ES n (fJ nJ):=IQ
    have y2:W5.cell? ⟨g,off+i*3+2,none⟩=some ES:=y2
    have hil:nJ.length=n:=hil
    have hF3:F=nJ.getD k false:=hF2
    rcases Rd.shape IQ with⟨ad,rfl,h0⟩|⟨g7,ajM,cc7,rfl,ajO⟩
    ·omega
    have y3:=KW IQ k (by omega)
    rw[←hF3]at y3
    have hb2:=World.block_lt_of_cell? _ _ y2
    have hb3:=World.block_lt_of_cell? _ _ y3
    have hii:(i:Int)<(m:Int):=by omega
    have hkk:(k:Int)<(n:Int):=by omega
    clear hrd g0 g1 g2 hs iF IQ hF2 hF3 vP
    go_wp2
    go_meet
    case rel=>exact⟨by trivial,rfl⟩
  case rest=>
   obtain⟨rfl,rfl⟩:=hcut
   obtain⟨W5,rfl⟩:∃W5,W5=wc:=⟨_,rfl⟩
   cases F with
   |true=>
    have Zz:=ah (show R=(8,rs.map bn.con) by
     have hf:=vP.out
     symm at hf
     rw[Bool.and_eq_true,decide_eq_true_eq]at hf
     obtain⟨hf0,hf1⟩:=hf
     rcases nY bf (rs.map bn.id)with⟨hp,hnm⟩|⟨i,hi,hp,he⟩
     ·rw[HP.out,hp]at hf0;omega
     ·rw[List.length_map]at hi
      rw[HP.out,hp,show((i:Int)).toNat=i by omega]at hf1
      rw[HRR.out]
      unfold mD
      rw[oH,hp,if_neg (by omega),show((i:Int)).toNat=i by omega,EO hi]
      rw[if_pos (show(rs.getD i default).con.is.getD k false=true from hf1)])
    have y0:=aG kY.out 0 rfl
    have x0:=aG lU.out 0 rfl
    have x1:=aG lU.out 1 rfl
    have f0:=aW lU.out 0
    have f1:=aW lU.out 1
    have hlx:=lt_of_block lU.out
    have bH:=ah (yC lU.out (.slice a0 n c0) (.slice a1 m c1))
    clear HP vP HRR
    go_wp2
    have z0:=aG bH.out.1 0 rfl
    have z1:=aG bH.out.1 1 rfl
    have MI:=A_.out
    refine bodyPost_ret (v:= .tuple #[.agg #[.slice a0 n c0, .slice a1 m c1], .int .i64 8]) (by simp[results,Tryz.results57,go_sem,z0,z1]) rfl ⟨_,rs,by rw[Zz.out],((HR.out w (aj.refl _ _)).turn (Q':=fun k=>Q k∧k≠w.heap.size+1+1) fun y hy hq=>⟨iV.out.block y hy id,hq,by omega⟩).turn fun y hy hq=>⟨bH.out.2.block y hy hq.2,hq.1⟩,by rw[Zz.out],iV.out.trans bH.out.2 fun y hy e=>by omega⟩
   |false=>
    go_upto_region 6 with fail
    go_cut [52] (fun v W=>W=W5∧v= .bool (decide (P=-1)&&decide (4≤m)))
    case first=>
     rcases nY bf (rs.map bn.id)with⟨hp,hnm⟩|⟨i,hi,hp,he⟩
     ·have hP:=HP.out.trans hp
      subst hP
      by_cases hm4:4≤m
      ·have ahH:(4:Int)≤(m:Int):=by omega
       go_wp2
       go_meet
       case rel=>exact⟨by trivial,by simp[hm4]⟩
      ·have ahH:decide ((4:Int)≤(m:Int))=false:=decide_eq_false (by omega)
       go_wp2
       go_meet
       case rel=>exact⟨by trivial,by simp[hm4]⟩
     ·have hP:=HP.out.trans hp
      subst hP
      have CQ:=ah (show decide ((i:Int)=-1)=false from decide_eq_false (by omega))
      go_wp2
      go_meet
      case rel=>exact⟨by trivial,by rw[CQ.out];rfl⟩
    case rest=>
     obtain⟨rfl,rfl⟩:=hcut
     obtain⟨W5,rfl⟩:∃W5,W5=wc:=⟨_,rfl⟩
     cases hb4:(decide (P=-1)&&decide (4≤m))with
     |true=>
      rw[Bool.and_eq_true,decide_eq_true_eq,decide_eq_true_eq]at hb4
      have HR4:=ah (show R=(4,rs.map bn.con) by
       rw[HRR.out]
       unfold mD
       rw[oH,←HP.out,if_pos hb4.1,if_pos (by rw[List.length_map,←n_.out];exact hb4.2)])
      have y0:=aG kY.out 0 rfl
      have x0:=aG lU.out 0 rfl
      have x1:=aG lU.out 1 rfl
      have f0:=aW lU.out 0
      have f1:=aW lU.out 1
      have hlx:=lt_of_block lU.out
      have bH:=ah (yC lU.out (.slice a0 n c0) (.slice a1 m c1))
      clear HP vP HRR hb4
      go_wp2
      have z0:=aG bH.out.1 0 rfl
      have z1:=aG bH.out.1 1 rfl
      have MI:=A_.out
      refine bodyPost_ret (v:= .tuple #[.agg #[.slice a0 n c0, .slice a1 m c1], .int .i64 4]) (by simp[results,Tryz.results57,go_sem,z0,z1]) rfl ⟨_,rs,by rw[HR4.out],((HR.out w (aj.refl _ _)).turn (Q':=fun k=>Q k∧k≠w.heap.size+1+1) fun y hy hq=>⟨iV.out.block y hy id,hq,by omega⟩).turn fun y hy hq=>⟨bH.out.2.block y hy hq.2,hq.1⟩,by rw[HR4.out],iV.out.trans bH.out.2 fun y hy e=>by omega⟩
     |false=>
      have hm1:=Ht n hn1 hn4
      have hm2:=make_is n hn1 hn4
      obtain⟨Z1,hZ1⟩:∃Z,Z=((jm n).flatMap aU.cells).toArray:=⟨_,rfl⟩
      obtain⟨Z2,hZ2⟩:∃Z,Z=(fJ (List.replicate n false)).toArray:=⟨_,rfl⟩
      rw[←hZ1]at hm1
      rw[←hZ2]at hm2
      have HZ1:=ah hZ1
      have HZ2:=ah hZ2
      clear hZ1 hZ2
      have HB4:=ah hb4
      clear hb4
      have hrw:=(HR.out _ (iV.out.alloc1 (o:= .cells #[] 116))).rd.rd
      rw[←n_.out]at hrw
      have HRW:=ah hrw
      clear hrw
      go_upto_region 9 with(at_builtin;refine rC W5 _ (qy rs) rfl (.tmp 54) (.tmp 56) 60 60 rfl 116 116 i0 _ 3 56 Tryz.underlying60 Tryz.underlying60 hi0 hz0 hz1 hz2 (by decide) (by decide) _ 0 [] (OwnAt.empty (aj.refl _ _) _ _) _ m rfl rfl HRW.out (by rw[ag7,←n_.out]) (ahB (HR.out w (aj.refl _ _)).jJ) (by simp only[maxLen];omega) (by omega) ?_;intro ad cc w6 SN;simp only[Nat.zero_add,List.nil_append]at SN⊢;have wW:=ah SN;clear SN s1 hls)
      have Ba:=ah wW.out.aI
      go_upto_if 59 with(fail)
      go_cut [10,11] (fun pv v W=>∃(i:Nat) (cZ:List bn),pv= .int .i64 i∧i<cZ.length∧cZ.length≤4∧OwnAt W5 W 116 3 v cZ.length (qy cZ)∧(∀r∈cZ,zA (fun b=>Q b∧b≠w.heap.size+1+1∧v.ownBlock≠some b) W n r)∧(cZ.map bn.id).Nodup∧(cZ.getD i default).id=bf∧R=(0,(cZ.map bn.con).set i (mg ((cZ.map bn.con).getD i default) k (ks,c))))
      case first=>
       rcases nY bf (rs.map bn.id)with⟨hp,hnm⟩|⟨i,hi,hp,he⟩
       ·have hP:=HP.out.trans hp
        subst hP
        have hm4:¬4≤m:=by
         have:=HB4.out
         simpa using this
        have jw:=ah hnm
        have HR0:=ah (show R=(0,((rs.map bn.con)++ [newS n bf]).set m (mg (newS n bf) k (ks,c))) by
         rw[HRR.out]
         unfold mD
         rw[oH,if_pos hp,List.length_map,←n_.out,if_neg hm4])
        clear HRR hp hnm HP vP HB4
        have yV:m≤3:=by omega
        have SQ:=ah (Ba.out.blk kY.out id)
        have HZ6:=ah (show w.heap.size+1+1<w6.heap.size by have h1:=A_.out;have h2:=Ba.out.size;omega)
        have dH:w6.drew.cell? ⟨w.heap.size,0,none⟩=some (.slice a0 n c0):=(aj.drew aF _).cell' (aG SQ.out 0 rfl) id
        have z9:=aG SQ.out 0 rfl
        have zC:=lt_of_block SQ.out
        go_upto_region 11 with fail
        clear z9 zC
        refine iq (S:=fun Y=>Y.cell? ⟨w.heap.size,0,none⟩=some (.slice a0 n c0)) 14 (by kernel_rfl) dH ?_
        clear dH
        intro hS
        have bJ:=ah (aj.drew aF w6)
        generalize World.drew _=Y0 at*
        refine aY 0 62 rfl rfl ?_
        refine aY 1 63 rfl rfl ?_
        try simp only[Act.put,aO,aN,aJ]
        refine aY 2 64 rfl rfl ?_
        refine aY 3 65 rfl rfl ?_
        try simp only[Act.put,aO,aN,aJ]
        refine aY 4 66 rfl rfl ?_
        refine aY 6 68 rfl rfl ?_
        try simp only[Act.put,aO,aN,aJ]
        refine aY 7 69 rfl rfl ?_
        refine aY 8 70 rfl rfl ?_
        try simp only[Act.put,aO,aN,aJ]
        refine nU (i:=5) (j:=9) (by kernel_rfl) rfl rfl (fun K hK=>?_) (fun K hK=>?_)
        ·go_simp
         refine qU _ _ _ (fun Y7 gV hb7 hs7=>?_)
         have uI:=bJ.out.size
         have fM:=ah (⟨hb7,uI⟩:_∧w6.heap.size≤_)
         (try(have g:=gV.blk fQ.out.1 id;have g2:=fQ.out.2;clear fQ;have fQ:=ah (⟨g,g2⟩:_∧w6.heap.size≤_);clear g g2))
         have hf:=bJ.out.aH gV
         clear bJ
         have bJ:=ah hf
         have hS1:=gV.cell' hS id
         refine hK.out _ _ hS1 ?_
         clear hK K hS gV hb7 hs7 uI hf
         have hS:=hS1
         clear hS1
         try simp only[Act.put,aO,aN,aJ]
         refine bg (i:=9) (by kernel_rfl) rfl (fun K hK=>?_)
         go_simp
         refine qU _ _ _ (fun Y8 jW hb8 hs8=>?_)
         have wM:=bJ.out.size
         have fQ:=ah (⟨hb8,wM⟩:_∧w6.heap.size≤_)
         (try(have g:=jW.blk fM.out.1 id;have g2:=fM.out.2;clear fM;have fM:=ah (⟨g,g2⟩:_∧w6.heap.size≤_);clear g g2))
         have hf:=bJ.out.aH jW
         clear bJ
         have bJ:=ah hf
         have hS1:=jW.cell' hS id
         refine hK.out _ _ hS1 ?_
         clear hK K hS jW hb8 hs8 wM hf
         have hS:=hS1
         clear hS1
         try simp only[Act.put,aO,aN,aJ]
         refine aY 10 72 rfl rfl ?_
         try simp only[Act.put,aO,aN,aJ]
         refine bg (i:=11) (by kernel_rfl) rfl (fun K hK=>?_)
         go_simp
         refine qU _ _ _ (fun Y9 iJ fB hs9=>?_)
         have f_:=ah fB
         have g:=iJ.blk fM.out.1 id
         have g2:=fM.out.2
         clear fM
         have fM:=ah (⟨g,g2⟩:_∧w6.heap.size≤_)
         clear g g2
         have g:=iJ.blk fQ.out.1 id
         have g2:=fQ.out.2
         clear fQ
         have fQ:=ah (⟨g,g2⟩:_∧w6.heap.size≤_)
         clear g g2
         have hf:=bJ.out.aH iJ
         clear bJ
         have bJ:=ah hf
         have hS1:=iJ.cell' hS id
         refine hK.out _ _ hS1 ?_
         clear hK K hS iJ fB hs9 hf
         have hS:=hS1
         clear hS1
         try simp only[Act.put,aO,aN,aJ]
         refine bg (i:=12) (by kernel_rfl) rfl (fun K hK=>?_)
         refine EM Y9 _ [.int .i64 bf, .slice _ n n, .slice _ n n] rfl (.tmp 62) (.tmp 73) 60 rfl 116 i0 _ 3 56 Tryz.underlying60 hi0 hz0 hz1 hz2 (by decide) (by decide) (.slice ad m cc) m _ (wW.out.keep bJ.out).own 1 1 (by simp[Act.eval]) (by simp[Act.eval]) f_.out rfl (by simp[Value.oneCell']) (by simp only[maxLen];omega) (by omega) ?_
         intro BI lg w7 bP jK mY
         have rM:=(wW.out.keep bJ.out).step bP jK mY
         have hpb:=(wW.out.keep bJ.out).kC jK fM.out.1 (by decide)
         have hib:=(wW.out.keep bJ.out).kC jK fQ.out.1 (by decide)
         rw[HZ1.out]at hpb
         rw[HZ2.out]at hib
         have uM:=ah rM
         have IU:=ah (⟨hpb,fM.out.2⟩:_∧w6.heap.size≤_)
         have IV:=ah (⟨hib,fQ.out.2⟩:_∧w6.heap.size≤_)
         have hS1:w7.cell? ⟨w.heap.size,0,none⟩=some (.slice a0 n c0):=aG (rM.aI.blk kY.out id) 0 rfl
         refine hK.out _ _ hS1 ?_
         clear hK K hS bP jK mY rM hpb hib fM fQ f_ bJ
         have hS:=hS1
         clear hS1
         try simp only[Act.put,aO,aN,aJ]
         refine bg (i:=13) (by kernel_rfl) rfl (fun K hK=>?_)
         go_simp
         refine hK.out _ _ hS ?_
         clear hK K hS
         refine mF (by kernel_rfl) ?_
         go_wp2
         go_meet
         case rel=>
          exact Zy hn4 n_.out yV (HR.out w (aj.refl _ _)).jJ L_.out jw.out iV.out HQ.out ⟨by omega,A_.out⟩ uM.out IU.out.1 IV.out.1 (Nat.le_trans Ba.out.size IU.out.2) (Nat.le_trans Ba.out.size IV.out.2) HR0.out
        ·go_simp
         refine qU _ _ _ (fun Y8 jW hb8 hs8=>?_)
         have wM:=bJ.out.size
         have fQ:=ah (⟨hb8,wM⟩:_∧w6.heap.size≤_)
         (try(have g:=jW.blk fM.out.1 id;have g2:=fM.out.2;clear fM;have fM:=ah (⟨g,g2⟩:_∧w6.heap.size≤_);clear g g2))
         have hf:=bJ.out.aH jW
         clear bJ
         have bJ:=ah hf
         have hS1:=jW.cell' hS id
         refine hK.out _ _ hS1 ?_
         clear hK K hS jW hb8 hs8 wM hf
         have hS:=hS1
         clear hS1
         try simp only[Act.put,aO,aN,aJ]
         refine bg (i:=5) (by kernel_rfl) rfl (fun K hK=>?_)
         go_simp
         refine qU _ _ _ (fun Y7 gV hb7 hs7=>?_)
         have uI:=bJ.out.size
         have fM:=ah (⟨hb7,uI⟩:_∧w6.heap.size≤_)
         (try(have g:=gV.blk fQ.out.1 id;have g2:=fQ.out.2;clear fQ;have fQ:=ah (⟨g,g2⟩:_∧w6.heap.size≤_);clear g g2))
         have hf:=bJ.out.aH gV
         clear bJ
         have bJ:=ah hf
         have hS1:=gV.cell' hS id
         refine hK.out _ _ hS1 ?_
         clear hK K hS gV hb7 hs7 uI hf
         have hS:=hS1
         clear hS1
         try simp only[Act.put,aO,aN,aJ]
         refine aY 10 72 rfl rfl ?_
         try simp only[Act.put,aO,aN,aJ]
         refine bg (i:=11) (by kernel_rfl) rfl (fun K hK=>?_)
         go_simp
         refine qU _ _ _ (fun Y9 iJ fB hs9=>?_)
         have f_:=ah fB
         have g:=iJ.blk fM.out.1 id
         have g2:=fM.out.2
         clear fM
         have fM:=ah (⟨g,g2⟩:_∧w6.heap.size≤_)
         clear g g2
         have g:=iJ.blk fQ.out.1 id
         have g2:=fQ.out.2
         clear fQ
         have fQ:=ah (⟨g,g2⟩:_∧w6.heap.size≤_)
         clear g g2
         have hf:=bJ.out.aH iJ
         clear bJ
         have bJ:=ah hf
         have hS1:=iJ.cell' hS id
         refine hK.out _ _ hS1 ?_
         clear hK K hS iJ fB hs9 hf
         have hS:=hS1
         clear hS1
         try simp only[Act.put,aO,aN,aJ]
         refine bg (i:=12) (by kernel_rfl) rfl (fun K hK=>?_)
         refine EM Y9 _ [.int .i64 bf, .slice _ n n, .slice _ n n] rfl (.tmp 62) (.tmp 73) 60 rfl 116 i0 _ 3 56 Tryz.underlying60 hi0 hz0 hz1 hz2 (by decide) (by decide) (.slice ad m cc) m _ (wW.out.keep bJ.out).own 1 1 (by simp[Act.eval]) (by simp[Act.eval]) f_.out rfl (by simp[Value.oneCell']) (by simp only[maxLen];omega) (by omega) ?_
         intro BI lg w7 bP jK mY
         have rM:=(wW.out.keep bJ.out).step bP jK mY
         have hpb:=(wW.out.keep bJ.out).kC jK fM.out.1 (by decide)
         have hib:=(wW.out.keep bJ.out).kC jK fQ.out.1 (by decide)
         rw[HZ1.out]at hpb
         rw[HZ2.out]at hib
         have uM:=ah rM
         have IU:=ah (⟨hpb,fM.out.2⟩:_∧w6.heap.size≤_)
         have IV:=ah (⟨hib,fQ.out.2⟩:_∧w6.heap.size≤_)
         have hS1:w7.cell? ⟨w.heap.size,0,none⟩=some (.slice a0 n c0):=aG (rM.aI.blk kY.out id) 0 rfl
         refine hK.out _ _ hS1 ?_
         clear hK K hS bP jK mY rM hpb hib fM fQ f_ bJ
         have hS:=hS1
         clear hS1
         try simp only[Act.put,aO,aN,aJ]
         refine bg (i:=13) (by kernel_rfl) rfl (fun K hK=>?_)
         go_simp
         refine hK.out _ _ hS ?_
         clear hK K hS
         refine mF (by kernel_rfl) ?_
         go_wp2
         go_meet
         case rel=>
          exact Zy hn4 n_.out yV (HR.out w (aj.refl _ _)).jJ L_.out jw.out iV.out HQ.out ⟨by omega,A_.out⟩ uM.out IU.out.1 IV.out.1 (Nat.le_trans Ba.out.size IU.out.2) (Nat.le_trans Ba.out.size IV.out.2) HR0.out
       ·rw[List.length_map,←n_.out]at hi
        have hP:=HP.out.trans hp
        subst hP
        have hir:i<rs.length:=by rw[←n_.out];exact hi
        have HR0:=ah (show R=(0,(rs.map bn.con).set i (mg ((rs.map bn.con).getD i default) k (ks,c))) by
         have hf:=vP.out
         symm at hf
         rw[decide_eq_true (show(0:Int)≤(i:Int) by omega),Bool.true_and,show((i:Int)).toNat=i by omega]at hf
         rw[HRR.out]
         unfold mD
         rw[oH,hp,if_neg (by omega),show((i:Int)).toNat=i by omega,EO hir]
         rw[if_neg (show ¬(rs.getD i default).con.is.getD k false=true from by show ¬(rs.getD i default).is.getD k false=true;rw[hf];decide)])
        have IW:=ah (show(rs.getD i default).id=bf by
         have h9:=he
         rw[getD_at 0 (by rw[List.length_map];exact hir),List.getElem_map]at h9
         rw[getD_at default hir]
         exact h9)
        clear HRR hp he HP vP HB4
        have hpn:decide ((i:Int)<0)=false:=decide_eq_false (by omega)
        go_wp2
        go_meet
        case rel=>
         have ZA:=wW.out
         have jO:=iV.out.aH Ba.out
         have MI:=A_.out
         refine⟨i,rs,rfl,hir,by rw[←n_.out];exact hfew,by rw[←n_.out];exact ZA,fun r hr=>((HR.out w (aj.refl _ _)).jJ r hr).turn fun y hy hq=>⟨jO.block y hy id,hq,by omega,fun e=>by have:=ZA.new y e;have:=iV.out.size;omega⟩,L_.out,IW.out,HR0.out⟩
      case rest=>
       obtain⟨i,cZ,rfl,hi1,hf1,hl,hst,hnd,ZB,hR⟩:=hcut
       have ahI:=ah ZB
       clear ZB
       obtain⟨w7,rfl⟩:∃w7,w7=wc:=⟨_,rfl⟩
       clear HRR HP vP HB4 hm1 hm2 HZ1 HZ2 wW Ba HRW
       obtain⟨al,FD,rfl⟩:=hl.shape
       have OC:=ah hR
       have uM:=ah hl
       have HST:=ah hst
       have HND:=ah hnd
       have C_:=ah (hst _ (getD_mem default hi1))
       have hrd:=hl.rd
       obtain⟨g0,g1,g2⟩:=uz (cZ.map bn.q) i (by rw[List.length_map];exact hi1)
       rw[Io hi1]at g1 g2
       rcases Rd.shape hrd with⟨ad9,he,h0⟩|⟨g,off,cc9,he,hmx⟩
       ·omega
       injection he with j1 j2 j3
       subst j1 j3
       clear j2 hR hst hnd
       obtain⟨ap,cp,hpv⟩:=C_.out.part.rd.rd.sl
       obtain⟨ai,ci,hiv⟩:=C_.out.is.rd.sl
       have y1:w7.cell? ⟨g,off+i*3+1,none⟩=some (.slice ap n cp):=by rw[←hpv];exact hrd.cell (i*3+1) _ g1
       have y2:w7.cell? ⟨g,off+i*3+2,none⟩=some (.slice ai n ci):=by
        have h:=hrd.cell (i*3+2) _ g2
        have hiv:(cZ.getD i default).q.iv= .slice ai n ci:=hiv
        rw[hiv]at h
        exact h
       have fP:=ah (fun Y (f:aj aF w7 Y)=>(⟨f.cell' y1 id,f.cell' y2 id⟩:Y.cell? ⟨g,off+i*3+1,none⟩=some (.slice ap n cp)∧Y.cell? ⟨g,off+i*3+2,none⟩=some (.slice ai n ci)))
       have lJ:=ah (fun Y (f:aj aF w7 Y)=>(show Rd Y (.slice ap n cp) n ((cZ.getD i default).part.flatMap aU.cells)from hpv▸Rd.aS C_.out.part.rd.rd f))
       have rV:=ah (fun Y (f:aj aF w7 Y)=>(show Rd Y (.slice ai n ci) n (fJ (cZ.getD i default).is)from by
        have h:=Rd.aS C_.out.is.rd f
        have h2:(cZ.getD i default).iv= .slice ai n ci:=hiv
        rw[h2]at h
        exact h))
       have sF:=ah (ahA C_.out.part.each)
       have dV:=ah C_.out.part.len
       have oI:=ah C_.out.o_
       have dH:=fP.out _ (aj.drew aF w7)
       have hii:(i:Int)<(cZ.length:Int):=by omega
       have hkk:(k:Int)<(n:Int):=by omega
       have HI1:=ah hi1
       clear hrd g0 g1 g2 hpv hiv y1 y2 hl
       obtain⟨m1,hm1⟩:∃m1,m1=cZ.length:=⟨_,rfl⟩
       have zD:=ah hm1
       rw[←hm1]at hii hi1 hf1⊢
       clear hm1
       go_upto_region 12 with fail
       go_cut [12] (fun v W=>∃(xb:Nat) (pvv SS:Value),v= .pointer (some ⟨xb,0,none⟩)∧w7.heap.size≤xb∧W.heap[xb]?=some (.cells #[.int .i64 bf,pvv,SS] 116 (0,0))∧OwnAt w7 W 32 3 pvv n ((cZ.getD i default).part.flatMap aU.cells)∧OwnAt w7 W 4 1 SS n (fJ (cZ.getD i default).is))
       case first=>
        refine iq (S:=fun Y=>Y.cell? ⟨g,off+i*3+1,none⟩=some (.slice ap n cp)∧Y.cell? ⟨g,off+i*3+2,none⟩=some (.slice ai n ci)) 17 (by kernel_rfl) dH ?_
        clear dH
        intro hS
        have aV:aj aF w7 w7.drew:=aj.drew _ _
        generalize World.drew _=Y at*
        refine aX 0 75 rfl rfl ?_
        refine aX 2 77 rfl rfl ?_
        try simp only[Act.put,aO,aN,aJ]
        refine aX 3 78 rfl rfl ?_
        refine aX 4 79 rfl rfl ?_
        try simp only[Act.put,aO,aN,aJ]
        refine aX 5 80 rfl rfl ?_
        refine aX 6 81 rfl rfl ?_
        try simp only[Act.put,aO,aN,aJ]
        refine aX 9 84 rfl rfl ?_
        refine aX 10 85 rfl rfl ?_
        try simp only[Act.put,aO,aN,aJ]
        refine aX 11 86 rfl rfl ?_
        refine aX 12 87 rfl rfl ?_
        try simp only[Act.put,aO,aN,aJ]
        refine aX 13 88 rfl rfl ?_
        try simp only[Act.put,aO,aN,aJ]
        refine Xo (i:=1) (j:=8) (k:=16) (by kernel_rfl) rfl rfl rfl (fun K hK=>?_) (fun K hK=>?_) (fun K hK=>?_)
        ·go_simp
         have hfA:aj aF Y (Y.alloc (.cells #[] 32)):=aj.alloc _ _ _
         have hE:OwnAt w7 (Y.alloc (.cells #[] 32)) 32 3 (.slice (some ⟨Y.heap.size,0,none⟩) 0 0) 0 []:=OwnAt.empty aV _ _
         (try have hF:=hF.keep hfA)
         (try have hB:=hB.keep hfA)
         (try have hX:=hfA.blk hX id)
         have aV:=aV.aH hfA
         have hS:=fP.out _ aV
         refine hK.out _ _ hS ?_
         clear hK K hfA
         obtain⟨eb,heb⟩:∃eb,Y.heap.size=eb:=⟨_,rfl⟩
         rw[heb]at hE⊢
         clear heb
         generalize Y.alloc (.cells #[] 32)=Y at*
         try simp only[Act.put,aO,aN,aJ]
         refine Xo (i:=7) (j:=8) (k:=16) (by kernel_rfl) rfl rfl rfl (fun K hK=>?_) (fun K hK=>?_) (fun K hK=>?_)
         ·refine jl w7 Y ((cZ.getD i default).part.flatMap aU.cells) rfl (.tmp 76) (.tmp 81) 33 33 rfl 32 32 i1 _ 3 72 Tryz.underlying33 Tryz.underlying33 wV hy0 hy1 hy2 (by decide) (by decide) _ 0 [] hE _ n (by simp[Act.eval]) (by simp[Act.eval]) (lJ.out Y aV) (by rw[vG,dV.out]) sF.out (by simp only[maxLen];omega) (by omega) ?_
          intro iw gI Y2 hA bG gq
          rw[Nat.zero_add,List.nil_append]at hA
          rw[Nat.zero_add]
          (try have hF:=hF.fU hE (by decide) bG)
          (try have hB:=hB.fU hE (by decide) bG)
          (try have hX:=hE.kC bG hX (by decide))
          have aV:=hA.aI
          have hS:=fP.out _ aV
          refine hK.out _ _ hS ?_
          clear hK K bG gq hE
          generalize Y2=Y at*
          try simp only[Act.put,aO,aN,aJ]
          refine nU (i:=8) (j:=16) (by kernel_rfl) rfl rfl (fun K hK=>?_) (fun K hK=>?_)
          ·go_simp
           have hfA:aj aF Y (Y.alloc (.cells #[] 4)):=aj.alloc _ _ _
           have hF:OwnAt w7 (Y.alloc (.cells #[] 4)) 4 1 (.slice (some ⟨Y.heap.size,0,none⟩) 0 0) 0 []:=OwnAt.empty aV _ _
           (try have hE:=hE.keep hfA)
           (try have hA:=hA.keep hfA)
           (try have hX:=hfA.blk hX id)
           have aV:=aV.aH hfA
           have hS:=fP.out _ aV
           refine hK.out _ _ hS ?_
           clear hK K hfA
           obtain⟨fb,hfb⟩:∃fb,Y.heap.size=fb:=⟨_,rfl⟩
           rw[hfb]at hF⊢
           clear hfb
           generalize Y.alloc (.cells #[] 4)=Y at*
           try simp only[Act.put,aO,aN,aJ]
           refine nU (i:=14) (j:=16) (by kernel_rfl) rfl rfl (fun K hK=>?_) (fun K hK=>?_)
           ·refine jl w7 Y (fJ (cZ.getD i default).is) rfl (.tmp 83) (.tmp 88) 84 84 rfl 4 4 i2 _ 1 1 Tryz.underlying84 Tryz.underlying84 hi2 hx0 hx1 hx2 (by decide) (by decide) _ 0 [] hF _ n (by simp[Act.eval]) (by simp[Act.eval]) (rV.out Y aV) (by unfold fJ;rw[List.length_map,oI.out,Nat.mul_one]) (rU _) (by simp only[maxLen];omega) (by omega) ?_
            intro gB gG Y2 hB bG gq
            rw[Nat.zero_add,List.nil_append]at hB
            rw[Nat.zero_add]
            (try have hE:=hE.fU hF (by decide) bG)
            (try have hA:=hA.fU hF (by decide) bG)
            (try have hX:=hF.kC bG hX (by decide))
            have aV:=hB.aI
            have hS:=fP.out _ aV
            refine hK.out _ _ hS ?_
            clear hK K bG gq hF
            generalize Y2=Y at*
            try simp only[Act.put,aO,aN,aJ]
            refine aX 15 90 rfl rfl ?_
            try simp only[Act.put,aO,aN,aJ]
            refine bg (i:=16) (by kernel_rfl) rfl (fun K hK=>?_)
            go_simp
            have hfA:aj aF Y (Y.alloc (.cells #[.int .i64 0, .slice none 0 0, .slice none 0 0] 116)):=aj.alloc _ _ _
            have hX:=heap_alloc_new Y (.cells #[.int .i64 0, .slice none 0 0, .slice none 0 0] 116)
            have dK:=aV.size
            (try have hE:=hE.keep hfA)
            (try have hA:=hA.keep hfA)
            (try have hF:=hF.keep hfA)
            (try have hB:=hB.keep hfA)
            have aV:=aV.aH hfA
            have hS:=fP.out _ aV
            refine hK.out _ _ hS ?_
            clear hK K hfA
            obtain⟨xb,hxb⟩:∃xb,Y.heap.size=xb:=⟨_,rfl⟩
            rw[hxb]at hX dK⊢
            clear hxb
            generalize Y.alloc (.cells #[.int .i64 0, .slice none 0 0, .slice none 0 0] 116)=Y at*
            try simp only[Act.put,aO,aN,aJ]
            refine gJ (by kernel_rfl) (by kernel_rfl) rfl (fun K hK=>?_)
            have x0:=aG hX 0 rfl
            have x1:=aG hX 1 rfl
            have x2:=aG hX 2 rfl
            have f0:=aW hX 0
            have f1:=aW hX 1
            have f2:=aW hX 2
            have hlx:=lt_of_block hX
            have bH:=ah (m_ hX (.int .i64 bf) (.slice iw n gI) (.slice gB n gG))
            have bU:=ah (mJ Y xb (.int .i64 bf) (.slice iw n gI) (.slice gB n gG))
            have kN:=ah (hA.jU bU.out hX (by decide) dK)
            have f_:=ah (hB.jU bU.out hX (by decide) dK)
            have kP:=ah dK
            go_simp
            refine hK.out _ _ ?_
            clear hK K x0 x1 x2 f0 f1 f2 hlx hA hB hX dK aV hS
            go_wp2
            go_meet
            case rel=>exact⟨xb,_,_,rfl,kP.out,bH.out,kN.out,f_.out⟩
           ·go_simp
            have hfA:aj aF Y (Y.alloc (.cells #[.int .i64 0, .slice none 0 0, .slice none 0 0] 116)):=aj.alloc _ _ _
            have hX:=heap_alloc_new Y (.cells #[.int .i64 0, .slice none 0 0, .slice none 0 0] 116)
            have dK:=aV.size
            (try have hE:=hE.keep hfA)
            (try have hA:=hA.keep hfA)
            (try have hF:=hF.keep hfA)
            (try have hB:=hB.keep hfA)
            have aV:=aV.aH hfA
            have hS:=fP.out _ aV
            refine hK.out _ _ hS ?_
            clear hK K hfA
            obtain⟨xb,hxb⟩:∃xb,Y.heap.size=xb:=⟨_,rfl⟩
            rw[hxb]at hX dK⊢
            clear hxb
            generalize Y.alloc (.cells #[.int .i64 0, .slice none 0 0, .slice none 0 0] 116)=Y at*
            try simp only[Act.put,aO,aN,aJ]
            refine bg (i:=14) (by kernel_rfl) rfl (fun K hK=>?_)
            refine jl w7 Y (fJ (cZ.getD i default).is) rfl (.tmp 83) (.tmp 88) 84 84 rfl 4 4 i2 _ 1 1 Tryz.underlying84 Tryz.underlying84 hi2 hx0 hx1 hx2 (by decide) (by decide) _ 0 [] hF _ n (by simp[Act.eval]) (by simp[Act.eval]) (rV.out Y aV) (by unfold fJ;rw[List.length_map,oI.out,Nat.mul_one]) (rU _) (by simp only[maxLen];omega) (by omega) ?_
            intro gB gG Y2 hB bG gq
            rw[Nat.zero_add,List.nil_append]at hB
            rw[Nat.zero_add]
            (try have hE:=hE.fU hF (by decide) bG)
            (try have hA:=hA.fU hF (by decide) bG)
            (try have hX:=hF.kC bG hX (by decide))
            have aV:=hB.aI
            have hS:=fP.out _ aV
            refine hK.out _ _ hS ?_
            clear hK K bG gq hF
            generalize Y2=Y at*
            try simp only[Act.put,aO,aN,aJ]
            refine aX 15 90 rfl rfl ?_
            try simp only[Act.put,aO,aN,aJ]
            refine gJ (by kernel_rfl) (by kernel_rfl) rfl (fun K hK=>?_)
            have x0:=aG hX 0 rfl
            have x1:=aG hX 1 rfl
            have x2:=aG hX 2 rfl
            have f0:=aW hX 0
            have f1:=aW hX 1
            have f2:=aW hX 2
            have hlx:=lt_of_block hX
            have bH:=ah (m_ hX (.int .i64 bf) (.slice iw n gI) (.slice gB n gG))
            have bU:=ah (mJ Y xb (.int .i64 bf) (.slice iw n gI) (.slice gB n gG))
            have kN:=ah (hA.jU bU.out hX (by decide) dK)
            have f_:=ah (hB.jU bU.out hX (by decide) dK)
            have kP:=ah dK
            go_simp
            refine hK.out _ _ ?_
            clear hK K x0 x1 x2 f0 f1 f2 hlx hA hB hX dK aV hS
            go_wp2
            go_meet
            case rel=>exact⟨xb,_,_,rfl,kP.out,bH.out,kN.out,f_.out⟩
          ·go_simp
           have hfA:aj aF Y (Y.alloc (.cells #[.int .i64 0, .slice none 0 0, .slice none 0 0] 116)):=aj.alloc _ _ _
           have hX:=heap_alloc_new Y (.cells #[.int .i64 0, .slice none 0 0, .slice none 0 0] 116)
           have dK:=aV.size
           (try have hE:=hE.keep hfA)
           (try have hA:=hA.keep hfA)
           (try have hF:=hF.keep hfA)
           (try have hB:=hB.keep hfA)
           have aV:=aV.aH hfA
           have hS:=fP.out _ aV
           refine hK.out _ _ hS ?_
           clear hK K hfA
           obtain⟨xb,hxb⟩:∃xb,Y.heap.size=xb:=⟨_,rfl⟩
           rw[hxb]at hX dK⊢
           clear hxb
           generalize Y.alloc (.cells #[.int .i64 0, .slice none 0 0, .slice none 0 0] 116)=Y at*
           try simp only[Act.put,aO,aN,aJ]
           refine bg (i:=8) (by kernel_rfl) rfl (fun K hK=>?_)
           go_simp
           have hfA:aj aF Y (Y.alloc (.cells #[] 4)):=aj.alloc _ _ _
           have hF:OwnAt w7 (Y.alloc (.cells #[] 4)) 4 1 (.slice (some ⟨Y.heap.size,0,none⟩) 0 0) 0 []:=OwnAt.empty aV _ _
           (try have hE:=hE.keep hfA)
           (try have hA:=hA.keep hfA)
           (try have hX:=hfA.blk hX id)
           have aV:=aV.aH hfA
           have hS:=fP.out _ aV
           refine hK.out _ _ hS ?_
           clear hK K hfA
           obtain⟨fb,hfb⟩:∃fb,Y.heap.size=fb:=⟨_,rfl⟩
           rw[hfb]at hF⊢
           clear hfb
           generalize Y.alloc (.cells #[] 4)=Y at*
           try simp only[Act.put,aO,aN,aJ]
           refine bg (i:=14) (by kernel_rfl) rfl (fun K hK=>?_)
           refine jl w7 Y (fJ (cZ.getD i default).is) rfl (.tmp 83) (.tmp 88) 84 84 rfl 4 4 i2 _ 1 1 Tryz.underlying84 Tryz.underlying84 hi2 hx0 hx1 hx2 (by decide) (by decide) _ 0 [] hF _ n (by simp[Act.eval]) (by simp[Act.eval]) (rV.out Y aV) (by unfold fJ;rw[List.length_map,oI.out,Nat.mul_one]) (rU _) (by simp only[maxLen];omega) (by omega) ?_
           intro gB gG Y2 hB bG gq
           rw[Nat.zero_add,List.nil_append]at hB
           rw[Nat.zero_add]
           (try have hE:=hE.fU hF (by decide) bG)
           (try have hA:=hA.fU hF (by decide) bG)
           (try have hX:=hF.kC bG hX (by decide))
           have aV:=hB.aI
           have hS:=fP.out _ aV
           refine hK.out _ _ hS ?_
           clear hK K bG gq hF
           generalize Y2=Y at*
           try simp only[Act.put,aO,aN,aJ]
           refine aX 15 90 rfl rfl ?_
           try simp only[Act.put,aO,aN,aJ]
           refine gJ (by kernel_rfl) (by kernel_rfl) rfl (fun K hK=>?_)
           have x0:=aG hX 0 rfl
           have x1:=aG hX 1 rfl
           have x2:=aG hX 2 rfl
           have f0:=aW hX 0
           have f1:=aW hX 1
           have f2:=aW hX 2
           have hlx:=lt_of_block hX
           have bH:=ah (m_ hX (.int .i64 bf) (.slice iw n gI) (.slice gB n gG))
           have bU:=ah (mJ Y xb (.int .i64 bf) (.slice iw n gI) (.slice gB n gG))
           have kN:=ah (hA.jU bU.out hX (by decide) dK)
           have f_:=ah (hB.jU bU.out hX (by decide) dK)
           have kP:=ah dK
           go_simp
           refine hK.out _ _ ?_
           clear hK K x0 x1 x2 f0 f1 f2 hlx hA hB hX dK aV hS
           go_wp2
           go_meet
           case rel=>exact⟨xb,_,_,rfl,kP.out,bH.out,kN.out,f_.out⟩
         ·go_simp
          have hfA:aj aF Y (Y.alloc (.cells #[] 4)):=aj.alloc _ _ _
          have hF:OwnAt w7 (Y.alloc (.cells #[] 4)) 4 1 (.slice (some ⟨Y.heap.size,0,none⟩) 0 0) 0 []:=OwnAt.empty aV _ _
          (try have hE:=hE.keep hfA)
          (try have hA:=hA.keep hfA)
          (try have hX:=hfA.blk hX id)
          have aV:=aV.aH hfA
          have hS:=fP.out _ aV
          refine hK.out _ _ hS ?_
          clear hK K hfA
          obtain⟨fb,hfb⟩:∃fb,Y.heap.size=fb:=⟨_,rfl⟩
          rw[hfb]at hF⊢
          clear hfb
          generalize Y.alloc (.cells #[] 4)=Y at*
          try simp only[Act.put,aO,aN,aJ]
          refine nU (i:=7) (j:=16) (by kernel_rfl) rfl rfl (fun K hK=>?_) (fun K hK=>?_)
          ·refine jl w7 Y ((cZ.getD i default).part.flatMap aU.cells) rfl (.tmp 76) (.tmp 81) 33 33 rfl 32 32 i1 _ 3 72 Tryz.underlying33 Tryz.underlying33 wV hy0 hy1 hy2 (by decide) (by decide) _ 0 [] hE _ n (by simp[Act.eval]) (by simp[Act.eval]) (lJ.out Y aV) (by rw[vG,dV.out]) sF.out (by simp only[maxLen];omega) (by omega) ?_
           intro iw gI Y2 hA bG gq
           rw[Nat.zero_add,List.nil_append]at hA
           rw[Nat.zero_add]
           (try have hF:=hF.fU hE (by decide) bG)
           (try have hB:=hB.fU hE (by decide) bG)
           (try have hX:=hE.kC bG hX (by decide))
           have aV:=hA.aI
           have hS:=fP.out _ aV
           refine hK.out _ _ hS ?_
           clear hK K bG gq hE
           generalize Y2=Y at*
           try simp only[Act.put,aO,aN,aJ]
           refine nU (i:=14) (j:=16) (by kernel_rfl) rfl rfl (fun K hK=>?_) (fun K hK=>?_)
           ·refine jl w7 Y (fJ (cZ.getD i default).is) rfl (.tmp 83) (.tmp 88) 84 84 rfl 4 4 i2 _ 1 1 Tryz.underlying84 Tryz.underlying84 hi2 hx0 hx1 hx2 (by decide) (by decide) _ 0 [] hF _ n (by simp[Act.eval]) (by simp[Act.eval]) (rV.out Y aV) (by unfold fJ;rw[List.length_map,oI.out,Nat.mul_one]) (rU _) (by simp only[maxLen];omega) (by omega) ?_
            intro gB gG Y2 hB bG gq
            rw[Nat.zero_add,List.nil_append]at hB
            rw[Nat.zero_add]
            (try have hE:=hE.fU hF (by decide) bG)
            (try have hA:=hA.fU hF (by decide) bG)
            (try have hX:=hF.kC bG hX (by decide))
            have aV:=hB.aI
            have hS:=fP.out _ aV
            refine hK.out _ _ hS ?_
            clear hK K bG gq hF
            generalize Y2=Y at*
            try simp only[Act.put,aO,aN,aJ]
            refine aX 15 90 rfl rfl ?_
            try simp only[Act.put,aO,aN,aJ]
            refine bg (i:=16) (by kernel_rfl) rfl (fun K hK=>?_)
            go_simp
            have hfA:aj aF Y (Y.alloc (.cells #[.int .i64 0, .slice none 0 0, .slice none 0 0] 116)):=aj.alloc _ _ _
            have hX:=heap_alloc_new Y (.cells #[.int .i64 0, .slice none 0 0, .slice none 0 0] 116)
            have dK:=aV.size
            (try have hE:=hE.keep hfA)
            (try have hA:=hA.keep hfA)
            (try have hF:=hF.keep hfA)
            (try have hB:=hB.keep hfA)
            have aV:=aV.aH hfA
            have hS:=fP.out _ aV
            refine hK.out _ _ hS ?_
            clear hK K hfA
            obtain⟨xb,hxb⟩:∃xb,Y.heap.size=xb:=⟨_,rfl⟩
            rw[hxb]at hX dK⊢
            clear hxb
            generalize Y.alloc (.cells #[.int .i64 0, .slice none 0 0, .slice none 0 0] 116)=Y at*
            try simp only[Act.put,aO,aN,aJ]
            refine gJ (by kernel_rfl) (by kernel_rfl) rfl (fun K hK=>?_)
            have x0:=aG hX 0 rfl
            have x1:=aG hX 1 rfl
            have x2:=aG hX 2 rfl
            have f0:=aW hX 0
            have f1:=aW hX 1
            have f2:=aW hX 2
            have hlx:=lt_of_block hX
            have bH:=ah (m_ hX (.int .i64 bf) (.slice iw n gI) (.slice gB n gG))
            have bU:=ah (mJ Y xb (.int .i64 bf) (.slice iw n gI) (.slice gB n gG))
            have kN:=ah (hA.jU bU.out hX (by decide) dK)
            have f_:=ah (hB.jU bU.out hX (by decide) dK)
            have kP:=ah dK
            go_simp
            refine hK.out _ _ ?_
            clear hK K x0 x1 x2 f0 f1 f2 hlx hA hB hX dK aV hS
            go_wp2
            go_meet
            case rel=>exact⟨xb,_,_,rfl,kP.out,bH.out,kN.out,f_.out⟩
           ·go_simp
            have hfA:aj aF Y (Y.alloc (.cells #[.int .i64 0, .slice none 0 0, .slice none 0 0] 116)):=aj.alloc _ _ _
            have hX:=heap_alloc_new Y (.cells #[.int .i64 0, .slice none 0 0, .slice none 0 0] 116)
            have dK:=aV.size
            (try have hE:=hE.keep hfA)
            (try have hA:=hA.keep hfA)
            (try have hF:=hF.keep hfA)
            (try have hB:=hB.keep hfA)
            have aV:=aV.aH hfA
            have hS:=fP.out _ aV
            refine hK.out _ _ hS ?_
            clear hK K hfA
            obtain⟨xb,hxb⟩:∃xb,Y.heap.size=xb:=⟨_,rfl⟩
            rw[hxb]at hX dK⊢
            clear hxb
            generalize Y.alloc (.cells #[.int .i64 0, .slice none 0 0, .slice none 0 0] 116)=Y at*
            try simp only[Act.put,aO,aN,aJ]
            refine bg (i:=14) (by kernel_rfl) rfl (fun K hK=>?_)
            refine jl w7 Y (fJ (cZ.getD i default).is) rfl (.tmp 83) (.tmp 88) 84 84 rfl 4 4 i2 _ 1 1 Tryz.underlying84 Tryz.underlying84 hi2 hx0 hx1 hx2 (by decide) (by decide) _ 0 [] hF _ n (by simp[Act.eval]) (by simp[Act.eval]) (rV.out Y aV) (by unfold fJ;rw[List.length_map,oI.out,Nat.mul_one]) (rU _) (by simp only[maxLen];omega) (by omega) ?_
            intro gB gG Y2 hB bG gq
            rw[Nat.zero_add,List.nil_append]at hB
            rw[Nat.zero_add]
            (try have hE:=hE.fU hF (by decide) bG)
            (try have hA:=hA.fU hF (by decide) bG)
            (try have hX:=hF.kC bG hX (by decide))
            have aV:=hB.aI
            have hS:=fP.out _ aV
            refine hK.out _ _ hS ?_
            clear hK K bG gq hF
            generalize Y2=Y at*
            try simp only[Act.put,aO,aN,aJ]
            refine aX 15 90 rfl rfl ?_
            try simp only[Act.put,aO,aN,aJ]
            refine gJ (by kernel_rfl) (by kernel_rfl) rfl (fun K hK=>?_)
            have x0:=aG hX 0 rfl
            have x1:=aG hX 1 rfl
            have x2:=aG hX 2 rfl
            have f0:=aW hX 0
            have f1:=aW hX 1
            have f2:=aW hX 2
            have hlx:=lt_of_block hX
            have bH:=ah (m_ hX (.int .i64 bf) (.slice iw n gI) (.slice gB n gG))
            have bU:=ah (mJ Y xb (.int .i64 bf) (.slice iw n gI) (.slice gB n gG))
            have kN:=ah (hA.jU bU.out hX (by decide) dK)
            have f_:=ah (hB.jU bU.out hX (by decide) dK)
            have kP:=ah dK
            go_simp
            refine hK.out _ _ ?_
            clear hK K x0 x1 x2 f0 f1 f2 hlx hA hB hX dK aV hS
            go_wp2
            go_meet
            case rel=>exact⟨xb,_,_,rfl,kP.out,bH.out,kN.out,f_.out⟩
          ·go_simp
           have hfA:aj aF Y (Y.alloc (.cells #[.int .i64 0, .slice none 0 0, .slice none 0 0] 116)):=aj.alloc _ _ _
           have hX:=heap_alloc_new Y (.cells #[.int .i64 0, .slice none 0 0, .slice none 0 0] 116)
           have dK:=aV.size
           (try have hE:=hE.keep hfA)
           (try have hA:=hA.keep hfA)
           (try have hF:=hF.keep hfA)
           (try have hB:=hB.keep hfA)
           have aV:=aV.aH hfA
           have hS:=fP.out _ aV
           refine hK.out _ _ hS ?_
           clear hK K hfA
           obtain⟨xb,hxb⟩:∃xb,Y.heap.size=xb:=⟨_,rfl⟩
           rw[hxb]at hX dK⊢
           clear hxb
           generalize Y.alloc (.cells #[.int .i64 0, .slice none 0 0, .slice none 0 0] 116)=Y at*
           try simp only[Act.put,aO,aN,aJ]
           refine bg (i:=7) (by kernel_rfl) rfl (fun K hK=>?_)
           refine jl w7 Y ((cZ.getD i default).part.flatMap aU.cells) rfl (.tmp 76) (.tmp 81) 33 33 rfl 32 32 i1 _ 3 72 Tryz.underlying33 Tryz.underlying33 wV hy0 hy1 hy2 (by decide) (by decide) _ 0 [] hE _ n (by simp[Act.eval]) (by simp[Act.eval]) (lJ.out Y aV) (by rw[vG,dV.out]) sF.out (by simp only[maxLen];omega) (by omega) ?_
           intro iw gI Y2 hA bG gq
           rw[Nat.zero_add,List.nil_append]at hA
           rw[Nat.zero_add]
           (try have hF:=hF.fU hE (by decide) bG)
           (try have hB:=hB.fU hE (by decide) bG)
           (try have hX:=hE.kC bG hX (by decide))
           have aV:=hA.aI
           have hS:=fP.out _ aV
           refine hK.out _ _ hS ?_
           clear hK K bG gq hE
           generalize Y2=Y at*
           try simp only[Act.put,aO,aN,aJ]
           refine bg (i:=14) (by kernel_rfl) rfl (fun K hK=>?_)
           refine jl w7 Y (fJ (cZ.getD i default).is) rfl (.tmp 83) (.tmp 88) 84 84 rfl 4 4 i2 _ 1 1 Tryz.underlying84 Tryz.underlying84 hi2 hx0 hx1 hx2 (by decide) (by decide) _ 0 [] hF _ n (by simp[Act.eval]) (by simp[Act.eval]) (rV.out Y aV) (by unfold fJ;rw[List.length_map,oI.out,Nat.mul_one]) (rU _) (by simp only[maxLen];omega) (by omega) ?_
           intro gB gG Y2 hB bG gq
           rw[Nat.zero_add,List.nil_append]at hB
           rw[Nat.zero_add]
           (try have hE:=hE.fU hF (by decide) bG)
           (try have hA:=hA.fU hF (by decide) bG)
           (try have hX:=hF.kC bG hX (by decide))
           have aV:=hB.aI
           have hS:=fP.out _ aV
           refine hK.out _ _ hS ?_
           clear hK K bG gq hF
           generalize Y2=Y at*
           try simp only[Act.put,aO,aN,aJ]
           refine aX 15 90 rfl rfl ?_
           try simp only[Act.put,aO,aN,aJ]
           refine gJ (by kernel_rfl) (by kernel_rfl) rfl (fun K hK=>?_)
           have x0:=aG hX 0 rfl
           have x1:=aG hX 1 rfl
           have x2:=aG hX 2 rfl
           have f0:=aW hX 0
           have f1:=aW hX 1
           have f2:=aW hX 2
           have hlx:=lt_of_block hX
           have bH:=ah (m_ hX (.int .i64 bf) (.slice iw n gI) (.slice gB n gG))
           have bU:=ah (mJ Y xb (.int .i64 bf) (.slice iw n gI) (.slice gB n gG))
           have kN:=ah (hA.jU bU.out hX (by decide) dK)
           have f_:=ah (hB.jU bU.out hX (by decide) dK)
           have kP:=ah dK
           go_simp
           refine hK.out _ _ ?_
           clear hK K x0 x1 x2 f0 f1 f2 hlx hA hB hX dK aV hS
           go_wp2
           go_meet
           case rel=>exact⟨xb,_,_,rfl,kP.out,bH.out,kN.out,f_.out⟩
         ·go_simp
          have hfA:aj aF Y (Y.alloc (.cells #[.int .i64 0, .slice none 0 0, .slice none 0 0] 116)):=aj.alloc _ _ _
          have hX:=heap_alloc_new Y (.cells #[.int .i64 0, .slice none 0 0, .slice none 0 0] 116)
          have dK:=aV.size
          (try have hE:=hE.keep hfA)
          (try have hA:=hA.keep hfA)
          (try have hF:=hF.keep hfA)
          (try have hB:=hB.keep hfA)
          have aV:=aV.aH hfA
          have hS:=fP.out _ aV
          refine hK.out _ _ hS ?_
          clear hK K hfA
          obtain⟨xb,hxb⟩:∃xb,Y.heap.size=xb:=⟨_,rfl⟩
          rw[hxb]at hX dK⊢
          clear hxb
          generalize Y.alloc (.cells #[.int .i64 0, .slice none 0 0, .slice none 0 0] 116)=Y at*
          try simp only[Act.put,aO,aN,aJ]
          refine nU (i:=7) (j:=8) (by kernel_rfl) rfl rfl (fun K hK=>?_) (fun K hK=>?_)
          ·refine jl w7 Y ((cZ.getD i default).part.flatMap aU.cells) rfl (.tmp 76) (.tmp 81) 33 33 rfl 32 32 i1 _ 3 72 Tryz.underlying33 Tryz.underlying33 wV hy0 hy1 hy2 (by decide) (by decide) _ 0 [] hE _ n (by simp[Act.eval]) (by simp[Act.eval]) (lJ.out Y aV) (by rw[vG,dV.out]) sF.out (by simp only[maxLen];omega) (by omega) ?_
           intro iw gI Y2 hA bG gq
           rw[Nat.zero_add,List.nil_append]at hA
           rw[Nat.zero_add]
           (try have hF:=hF.fU hE (by decide) bG)
           (try have hB:=hB.fU hE (by decide) bG)
           (try have hX:=hE.kC bG hX (by decide))
           have aV:=hA.aI
           have hS:=fP.out _ aV
           refine hK.out _ _ hS ?_
           clear hK K bG gq hE
           generalize Y2=Y at*
           try simp only[Act.put,aO,aN,aJ]
           refine bg (i:=8) (by kernel_rfl) rfl (fun K hK=>?_)
           go_simp
           have hfA:aj aF Y (Y.alloc (.cells #[] 4)):=aj.alloc _ _ _
           have hF:OwnAt w7 (Y.alloc (.cells #[] 4)) 4 1 (.slice (some ⟨Y.heap.size,0,none⟩) 0 0) 0 []:=OwnAt.empty aV _ _
           (try have hE:=hE.keep hfA)
           (try have hA:=hA.keep hfA)
           (try have hX:=hfA.blk hX id)
           have aV:=aV.aH hfA
           have hS:=fP.out _ aV
           refine hK.out _ _ hS ?_
           clear hK K hfA
           obtain⟨fb,hfb⟩:∃fb,Y.heap.size=fb:=⟨_,rfl⟩
           rw[hfb]at hF⊢
           clear hfb
           generalize Y.alloc (.cells #[] 4)=Y at*
           try simp only[Act.put,aO,aN,aJ]
           refine bg (i:=14) (by kernel_rfl) rfl (fun K hK=>?_)
           refine jl w7 Y (fJ (cZ.getD i default).is) rfl (.tmp 83) (.tmp 88) 84 84 rfl 4 4 i2 _ 1 1 Tryz.underlying84 Tryz.underlying84 hi2 hx0 hx1 hx2 (by decide) (by decide) _ 0 [] hF _ n (by simp[Act.eval]) (by simp[Act.eval]) (rV.out Y aV) (by unfold fJ;rw[List.length_map,oI.out,Nat.mul_one]) (rU _) (by simp only[maxLen];omega) (by omega) ?_
           intro gB gG Y2 hB bG gq
           rw[Nat.zero_add,List.nil_append]at hB
           rw[Nat.zero_add]
           (try have hE:=hE.fU hF (by decide) bG)
           (try have hA:=hA.fU hF (by decide) bG)
           (try have hX:=hF.kC bG hX (by decide))
           have aV:=hB.aI
           have hS:=fP.out _ aV
           refine hK.out _ _ hS ?_
           clear hK K bG gq hF
           generalize Y2=Y at*
           try simp only[Act.put,aO,aN,aJ]
           refine aX 15 90 rfl rfl ?_
           try simp only[Act.put,aO,aN,aJ]
           refine gJ (by kernel_rfl) (by kernel_rfl) rfl (fun K hK=>?_)
           have x0:=aG hX 0 rfl
           have x1:=aG hX 1 rfl
           have x2:=aG hX 2 rfl
           have f0:=aW hX 0
           have f1:=aW hX 1
           have f2:=aW hX 2
           have hlx:=lt_of_block hX
           have bH:=ah (m_ hX (.int .i64 bf) (.slice iw n gI) (.slice gB n gG))
           have bU:=ah (mJ Y xb (.int .i64 bf) (.slice iw n gI) (.slice gB n gG))
           have kN:=ah (hA.jU bU.out hX (by decide) dK)
           have f_:=ah (hB.jU bU.out hX (by decide) dK)
           have kP:=ah dK
           go_simp
           refine hK.out _ _ ?_
           clear hK K x0 x1 x2 f0 f1 f2 hlx hA hB hX dK aV hS
           go_wp2
           go_meet
           case rel=>exact⟨xb,_,_,rfl,kP.out,bH.out,kN.out,f_.out⟩
          ·go_simp
           have hfA:aj aF Y (Y.alloc (.cells #[] 4)):=aj.alloc _ _ _
           have hF:OwnAt w7 (Y.alloc (.cells #[] 4)) 4 1 (.slice (some ⟨Y.heap.size,0,none⟩) 0 0) 0 []:=OwnAt.empty aV _ _
           (try have hE:=hE.keep hfA)
           (try have hA:=hA.keep hfA)
           (try have hX:=hfA.blk hX id)
           have aV:=aV.aH hfA
           have hS:=fP.out _ aV
           refine hK.out _ _ hS ?_
           clear hK K hfA
           obtain⟨fb,hfb⟩:∃fb,Y.heap.size=fb:=⟨_,rfl⟩
           rw[hfb]at hF⊢
           clear hfb
           generalize Y.alloc (.cells #[] 4)=Y at*
           try simp only[Act.put,aO,aN,aJ]
           refine bg (i:=7) (by kernel_rfl) rfl (fun K hK=>?_)
           refine jl w7 Y ((cZ.getD i default).part.flatMap aU.cells) rfl (.tmp 76) (.tmp 81) 33 33 rfl 32 32 i1 _ 3 72 Tryz.underlying33 Tryz.underlying33 wV hy0 hy1 hy2 (by decide) (by decide) _ 0 [] hE _ n (by simp[Act.eval]) (by simp[Act.eval]) (lJ.out Y aV) (by rw[vG,dV.out]) sF.out (by simp only[maxLen];omega) (by omega) ?_
           intro iw gI Y2 hA bG gq
           rw[Nat.zero_add,List.nil_append]at hA
           rw[Nat.zero_add]
           (try have hF:=hF.fU hE (by decide) bG)
           (try have hB:=hB.fU hE (by decide) bG)
           (try have hX:=hE.kC bG hX (by decide))
           have aV:=hA.aI
           have hS:=fP.out _ aV
           refine hK.out _ _ hS ?_
           clear hK K bG gq hE
           generalize Y2=Y at*
           try simp only[Act.put,aO,aN,aJ]
           refine bg (i:=14) (by kernel_rfl) rfl (fun K hK=>?_)
           refine jl w7 Y (fJ (cZ.getD i default).is) rfl (.tmp 83) (.tmp 88) 84 84 rfl 4 4 i2 _ 1 1 Tryz.underlying84 Tryz.underlying84 hi2 hx0 hx1 hx2 (by decide) (by decide) _ 0 [] hF _ n (by simp[Act.eval]) (by simp[Act.eval]) (rV.out Y aV) (by unfold fJ;rw[List.length_map,oI.out,Nat.mul_one]) (rU _) (by simp only[maxLen];omega) (by omega) ?_
           intro gB gG Y2 hB bG gq
           rw[Nat.zero_add,List.nil_append]at hB
           rw[Nat.zero_add]
           (try have hE:=hE.fU hF (by decide) bG)
           (try have hA:=hA.fU hF (by decide) bG)
           (try have hX:=hF.kC bG hX (by decide))
           have aV:=hB.aI
           have hS:=fP.out _ aV
           refine hK.out _ _ hS ?_
           clear hK K bG gq hF
           generalize Y2=Y at*
           try simp only[Act.put,aO,aN,aJ]
           refine aX 15 90 rfl rfl ?_
           try simp only[Act.put,aO,aN,aJ]
           refine gJ (by kernel_rfl) (by kernel_rfl) rfl (fun K hK=>?_)
           have x0:=aG hX 0 rfl
           have x1:=aG hX 1 rfl
           have x2:=aG hX 2 rfl
           have f0:=aW hX 0
           have f1:=aW hX 1
           have f2:=aW hX 2
           have hlx:=lt_of_block hX
           have bH:=ah (m_ hX (.int .i64 bf) (.slice iw n gI) (.slice gB n gG))
           have bU:=ah (mJ Y xb (.int .i64 bf) (.slice iw n gI) (.slice gB n gG))
           have kN:=ah (hA.jU bU.out hX (by decide) dK)
           have f_:=ah (hB.jU bU.out hX (by decide) dK)
           have kP:=ah dK
           go_simp
           refine hK.out _ _ ?_
           clear hK K x0 x1 x2 f0 f1 f2 hlx hA hB hX dK aV hS
           go_wp2
           go_meet
           case rel=>exact⟨xb,_,_,rfl,kP.out,bH.out,kN.out,f_.out⟩
        ·go_simp
         have hfA:aj aF Y (Y.alloc (.cells #[] 4)):=aj.alloc _ _ _
         have hF:OwnAt w7 (Y.alloc (.cells #[] 4)) 4 1 (.slice (some ⟨Y.heap.size,0,none⟩) 0 0) 0 []:=OwnAt.empty aV _ _
         (try have hE:=hE.keep hfA)
         (try have hA:=hA.keep hfA)
         (try have hX:=hfA.blk hX id)
         have aV:=aV.aH hfA
         have hS:=fP.out _ aV
         refine hK.out _ _ hS ?_
         clear hK K hfA
         obtain⟨fb,hfb⟩:∃fb,Y.heap.size=fb:=⟨_,rfl⟩
         rw[hfb]at hF⊢
         clear hfb
         generalize Y.alloc (.cells #[] 4)=Y at*
         try simp only[Act.put,aO,aN,aJ]
         refine nU (i:=1) (j:=16) (by kernel_rfl) rfl rfl (fun K hK=>?_) (fun K hK=>?_)
         ·go_simp
          have hfA:aj aF Y (Y.alloc (.cells #[] 32)):=aj.alloc _ _ _
          have hE:OwnAt w7 (Y.alloc (.cells #[] 32)) 32 3 (.slice (some ⟨Y.heap.size,0,none⟩) 0 0) 0 []:=OwnAt.empty aV _ _
          (try have hF:=hF.keep hfA)
          (try have hB:=hB.keep hfA)
          (try have hX:=hfA.blk hX id)
          have aV:=aV.aH hfA
          have hS:=fP.out _ aV
          refine hK.out _ _ hS ?_
          clear hK K hfA
          obtain⟨eb,heb⟩:∃eb,Y.heap.size=eb:=⟨_,rfl⟩
          rw[heb]at hE⊢
          clear heb
          generalize Y.alloc (.cells #[] 32)=Y at*
          try simp only[Act.put,aO,aN,aJ]
          refine nU (i:=7) (j:=16) (by kernel_rfl) rfl rfl (fun K hK=>?_) (fun K hK=>?_)
          ·refine jl w7 Y ((cZ.getD i default).part.flatMap aU.cells) rfl (.tmp 76) (.tmp 81) 33 33 rfl 32 32 i1 _ 3 72 Tryz.underlying33 Tryz.underlying33 wV hy0 hy1 hy2 (by decide) (by decide) _ 0 [] hE _ n (by simp[Act.eval]) (by simp[Act.eval]) (lJ.out Y aV) (by rw[vG,dV.out]) sF.out (by simp only[maxLen];omega) (by omega) ?_
           intro iw gI Y2 hA bG gq
           rw[Nat.zero_add,List.nil_append]at hA
           rw[Nat.zero_add]
           (try have hF:=hF.fU hE (by decide) bG)
           (try have hB:=hB.fU hE (by decide) bG)
           (try have hX:=hE.kC bG hX (by decide))
           have aV:=hA.aI
           have hS:=fP.out _ aV
           refine hK.out _ _ hS ?_
           clear hK K bG gq hE
           generalize Y2=Y at*
           try simp only[Act.put,aO,aN,aJ]
           refine nU (i:=14) (j:=16) (by kernel_rfl) rfl rfl (fun K hK=>?_) (fun K hK=>?_)
           ·refine jl w7 Y (fJ (cZ.getD i default).is) rfl (.tmp 83) (.tmp 88) 84 84 rfl 4 4 i2 _ 1 1 Tryz.underlying84 Tryz.underlying84 hi2 hx0 hx1 hx2 (by decide) (by decide) _ 0 [] hF _ n (by simp[Act.eval]) (by simp[Act.eval]) (rV.out Y aV) (by unfold fJ;rw[List.length_map,oI.out,Nat.mul_one]) (rU _) (by simp only[maxLen];omega) (by omega) ?_
            intro gB gG Y2 hB bG gq
            rw[Nat.zero_add,List.nil_append]at hB
            rw[Nat.zero_add]
            (try have hE:=hE.fU hF (by decide) bG)
            (try have hA:=hA.fU hF (by decide) bG)
            (try have hX:=hF.kC bG hX (by decide))
            have aV:=hB.aI
            have hS:=fP.out _ aV
            refine hK.out _ _ hS ?_
            clear hK K bG gq hF
            generalize Y2=Y at*
            try simp only[Act.put,aO,aN,aJ]
            refine aX 15 90 rfl rfl ?_
            try simp only[Act.put,aO,aN,aJ]
            refine bg (i:=16) (by kernel_rfl) rfl (fun K hK=>?_)
            go_simp
            have hfA:aj aF Y (Y.alloc (.cells #[.int .i64 0, .slice none 0 0, .slice none 0 0] 116)):=aj.alloc _ _ _
            have hX:=heap_alloc_new Y (.cells #[.int .i64 0, .slice none 0 0, .slice none 0 0] 116)
            have dK:=aV.size
            (try have hE:=hE.keep hfA)
            (try have hA:=hA.keep hfA)
            (try have hF:=hF.keep hfA)
            (try have hB:=hB.keep hfA)
            have aV:=aV.aH hfA
            have hS:=fP.out _ aV
            refine hK.out _ _ hS ?_
            clear hK K hfA
            obtain⟨xb,hxb⟩:∃xb,Y.heap.size=xb:=⟨_,rfl⟩
            rw[hxb]at hX dK⊢
            clear hxb
            generalize Y.alloc (.cells #[.int .i64 0, .slice none 0 0, .slice none 0 0] 116)=Y at*
            try simp only[Act.put,aO,aN,aJ]
            refine gJ (by kernel_rfl) (by kernel_rfl) rfl (fun K hK=>?_)
            have x0:=aG hX 0 rfl
            have x1:=aG hX 1 rfl
            have x2:=aG hX 2 rfl
            have f0:=aW hX 0
            have f1:=aW hX 1
            have f2:=aW hX 2
            have hlx:=lt_of_block hX
            have bH:=ah (m_ hX (.int .i64 bf) (.slice iw n gI) (.slice gB n gG))
            have bU:=ah (mJ Y xb (.int .i64 bf) (.slice iw n gI) (.slice gB n gG))
            have kN:=ah (hA.jU bU.out hX (by decide) dK)
            have f_:=ah (hB.jU bU.out hX (by decide) dK)
            have kP:=ah dK
            go_simp
            refine hK.out _ _ ?_
            clear hK K x0 x1 x2 f0 f1 f2 hlx hA hB hX dK aV hS
            go_wp2
            go_meet
            case rel=>exact⟨xb,_,_,rfl,kP.out,bH.out,kN.out,f_.out⟩
           ·go_simp
            have hfA:aj aF Y (Y.alloc (.cells #[.int .i64 0, .slice none 0 0, .slice none 0 0] 116)):=aj.alloc _ _ _
            have hX:=heap_alloc_new Y (.cells #[.int .i64 0, .slice none 0 0, .slice none 0 0] 116)
            have dK:=aV.size
            (try have hE:=hE.keep hfA)
            (try have hA:=hA.keep hfA)
            (try have hF:=hF.keep hfA)
            (try have hB:=hB.keep hfA)
            have aV:=aV.aH hfA
            have hS:=fP.out _ aV
            refine hK.out _ _ hS ?_
            clear hK K hfA
            obtain⟨xb,hxb⟩:∃xb,Y.heap.size=xb:=⟨_,rfl⟩
            rw[hxb]at hX dK⊢
            clear hxb
            generalize Y.alloc (.cells #[.int .i64 0, .slice none 0 0, .slice none 0 0] 116)=Y at*
            try simp only[Act.put,aO,aN,aJ]
            refine bg (i:=14) (by kernel_rfl) rfl (fun K hK=>?_)
            refine jl w7 Y (fJ (cZ.getD i default).is) rfl (.tmp 83) (.tmp 88) 84 84 rfl 4 4 i2 _ 1 1 Tryz.underlying84 Tryz.underlying84 hi2 hx0 hx1 hx2 (by decide) (by decide) _ 0 [] hF _ n (by simp[Act.eval]) (by simp[Act.eval]) (rV.out Y aV) (by unfold fJ;rw[List.length_map,oI.out,Nat.mul_one]) (rU _) (by simp only[maxLen];omega) (by omega) ?_
            intro gB gG Y2 hB bG gq
            rw[Nat.zero_add,List.nil_append]at hB
            rw[Nat.zero_add]
            (try have hE:=hE.fU hF (by decide) bG)
            (try have hA:=hA.fU hF (by decide) bG)
            (try have hX:=hF.kC bG hX (by decide))
            have aV:=hB.aI
            have hS:=fP.out _ aV
            refine hK.out _ _ hS ?_
            clear hK K bG gq hF
            generalize Y2=Y at*
            try simp only[Act.put,aO,aN,aJ]
            refine aX 15 90 rfl rfl ?_
            try simp only[Act.put,aO,aN,aJ]
            refine gJ (by kernel_rfl) (by kernel_rfl) rfl (fun K hK=>?_)
            have x0:=aG hX 0 rfl
            have x1:=aG hX 1 rfl
            have x2:=aG hX 2 rfl
            have f0:=aW hX 0
            have f1:=aW hX 1
            have f2:=aW hX 2
            have hlx:=lt_of_block hX
            have bH:=ah (m_ hX (.int .i64 bf) (.slice iw n gI) (.slice gB n gG))
            have bU:=ah (mJ Y xb (.int .i64 bf) (.slice iw n gI) (.slice gB n gG))
            have kN:=ah (hA.jU bU.out hX (by decide) dK)
            have f_:=ah (hB.jU bU.out hX (by decide) dK)
            have kP:=ah dK
            go_simp
            refine hK.out _ _ ?_
            clear hK K x0 x1 x2 f0 f1 f2 hlx hA hB hX dK aV hS
            go_wp2
            go_meet
            case rel=>exact⟨xb,_,_,rfl,kP.out,bH.out,kN.out,f_.out⟩
          ·go_simp
           have hfA:aj aF Y (Y.alloc (.cells #[.int .i64 0, .slice none 0 0, .slice none 0 0] 116)):=aj.alloc _ _ _
           have hX:=heap_alloc_new Y (.cells #[.int .i64 0, .slice none 0 0, .slice none 0 0] 116)
           have dK:=aV.size
           (try have hE:=hE.keep hfA)
           (try have hA:=hA.keep hfA)
           (try have hF:=hF.keep hfA)
           (try have hB:=hB.keep hfA)
           have aV:=aV.aH hfA
           have hS:=fP.out _ aV
           refine hK.out _ _ hS ?_
           clear hK K hfA
           obtain⟨xb,hxb⟩:∃xb,Y.heap.size=xb:=⟨_,rfl⟩
           rw[hxb]at hX dK⊢
           clear hxb
           generalize Y.alloc (.cells #[.int .i64 0, .slice none 0 0, .slice none 0 0] 116)=Y at*
           try simp only[Act.put,aO,aN,aJ]
           refine bg (i:=7) (by kernel_rfl) rfl (fun K hK=>?_)
           refine jl w7 Y ((cZ.getD i default).part.flatMap aU.cells) rfl (.tmp 76) (.tmp 81) 33 33 rfl 32 32 i1 _ 3 72 Tryz.underlying33 Tryz.underlying33 wV hy0 hy1 hy2 (by decide) (by decide) _ 0 [] hE _ n (by simp[Act.eval]) (by simp[Act.eval]) (lJ.out Y aV) (by rw[vG,dV.out]) sF.out (by simp only[maxLen];omega) (by omega) ?_
           intro iw gI Y2 hA bG gq
           rw[Nat.zero_add,List.nil_append]at hA
           rw[Nat.zero_add]
           (try have hF:=hF.fU hE (by decide) bG)
           (try have hB:=hB.fU hE (by decide) bG)
           (try have hX:=hE.kC bG hX (by decide))
           have aV:=hA.aI
           have hS:=fP.out _ aV
           refine hK.out _ _ hS ?_
           clear hK K bG gq hE
           generalize Y2=Y at*
           try simp only[Act.put,aO,aN,aJ]
           refine bg (i:=14) (by kernel_rfl) rfl (fun K hK=>?_)
           refine jl w7 Y (fJ (cZ.getD i default).is) rfl (.tmp 83) (.tmp 88) 84 84 rfl 4 4 i2 _ 1 1 Tryz.underlying84 Tryz.underlying84 hi2 hx0 hx1 hx2 (by decide) (by decide) _ 0 [] hF _ n (by simp[Act.eval]) (by simp[Act.eval]) (rV.out Y aV) (by unfold fJ;rw[List.length_map,oI.out,Nat.mul_one]) (rU _) (by simp only[maxLen];omega) (by omega) ?_
           intro gB gG Y2 hB bG gq
           rw[Nat.zero_add,List.nil_append]at hB
           rw[Nat.zero_add]
           (try have hE:=hE.fU hF (by decide) bG)
           (try have hA:=hA.fU hF (by decide) bG)
           (try have hX:=hF.kC bG hX (by decide))
           have aV:=hB.aI
           have hS:=fP.out _ aV
           refine hK.out _ _ hS ?_
           clear hK K bG gq hF
           generalize Y2=Y at*
           try simp only[Act.put,aO,aN,aJ]
           refine aX 15 90 rfl rfl ?_
           try simp only[Act.put,aO,aN,aJ]
           refine gJ (by kernel_rfl) (by kernel_rfl) rfl (fun K hK=>?_)
           have x0:=aG hX 0 rfl
           have x1:=aG hX 1 rfl
           have x2:=aG hX 2 rfl
           have f0:=aW hX 0
           have f1:=aW hX 1
           have f2:=aW hX 2
           have hlx:=lt_of_block hX
           have bH:=ah (m_ hX (.int .i64 bf) (.slice iw n gI) (.slice gB n gG))
           have bU:=ah (mJ Y xb (.int .i64 bf) (.slice iw n gI) (.slice gB n gG))
           have kN:=ah (hA.jU bU.out hX (by decide) dK)
           have f_:=ah (hB.jU bU.out hX (by decide) dK)
           have kP:=ah dK
           go_simp
           refine hK.out _ _ ?_
           clear hK K x0 x1 x2 f0 f1 f2 hlx hA hB hX dK aV hS
           go_wp2
           go_meet
           case rel=>exact⟨xb,_,_,rfl,kP.out,bH.out,kN.out,f_.out⟩
         ·go_simp
          have hfA:aj aF Y (Y.alloc (.cells #[.int .i64 0, .slice none 0 0, .slice none 0 0] 116)):=aj.alloc _ _ _
          have hX:=heap_alloc_new Y (.cells #[.int .i64 0, .slice none 0 0, .slice none 0 0] 116)
          have dK:=aV.size
          (try have hE:=hE.keep hfA)
          (try have hA:=hA.keep hfA)
          (try have hF:=hF.keep hfA)
          (try have hB:=hB.keep hfA)
          have aV:=aV.aH hfA
          have hS:=fP.out _ aV
          refine hK.out _ _ hS ?_
          clear hK K hfA
          obtain⟨xb,hxb⟩:∃xb,Y.heap.size=xb:=⟨_,rfl⟩
          rw[hxb]at hX dK⊢
          clear hxb
          generalize Y.alloc (.cells #[.int .i64 0, .slice none 0 0, .slice none 0 0] 116)=Y at*
          try simp only[Act.put,aO,aN,aJ]
          refine bg (i:=1) (by kernel_rfl) rfl (fun K hK=>?_)
          go_simp
          have hfA:aj aF Y (Y.alloc (.cells #[] 32)):=aj.alloc _ _ _
          have hE:OwnAt w7 (Y.alloc (.cells #[] 32)) 32 3 (.slice (some ⟨Y.heap.size,0,none⟩) 0 0) 0 []:=OwnAt.empty aV _ _
          (try have hF:=hF.keep hfA)
          (try have hB:=hB.keep hfA)
          (try have hX:=hfA.blk hX id)
          have aV:=aV.aH hfA
          have hS:=fP.out _ aV
          refine hK.out _ _ hS ?_
          clear hK K hfA
          obtain⟨eb,heb⟩:∃eb,Y.heap.size=eb:=⟨_,rfl⟩
          rw[heb]at hE⊢
          clear heb
          generalize Y.alloc (.cells #[] 32)=Y at*
          try simp only[Act.put,aO,aN,aJ]
          refine bg (i:=7) (by kernel_rfl) rfl (fun K hK=>?_)
          refine jl w7 Y ((cZ.getD i default).part.flatMap aU.cells) rfl (.tmp 76) (.tmp 81) 33 33 rfl 32 32 i1 _ 3 72 Tryz.underlying33 Tryz.underlying33 wV hy0 hy1 hy2 (by decide) (by decide) _ 0 [] hE _ n (by simp[Act.eval]) (by simp[Act.eval]) (lJ.out Y aV) (by rw[vG,dV.out]) sF.out (by simp only[maxLen];omega) (by omega) ?_
          intro iw gI Y2 hA bG gq
          rw[Nat.zero_add,List.nil_append]at hA
          rw[Nat.zero_add]
          (try have hF:=hF.fU hE (by decide) bG)
          (try have hB:=hB.fU hE (by decide) bG)
          (try have hX:=hE.kC bG hX (by decide))
          have aV:=hA.aI
          have hS:=fP.out _ aV
          refine hK.out _ _ hS ?_
          clear hK K bG gq hE
          generalize Y2=Y at*
          try simp only[Act.put,aO,aN,aJ]
          refine bg (i:=14) (by kernel_rfl) rfl (fun K hK=>?_)
          refine jl w7 Y (fJ (cZ.getD i default).is) rfl (.tmp 83) (.tmp 88) 84 84 rfl 4 4 i2 _ 1 1 Tryz.underlying84 Tryz.underlying84 hi2 hx0 hx1 hx2 (by decide) (by decide) _ 0 [] hF _ n (by simp[Act.eval]) (by simp[Act.eval]) (rV.out Y aV) (by unfold fJ;rw[List.length_map,oI.out,Nat.mul_one]) (rU _) (by simp only[maxLen];omega) (by omega) ?_
          intro gB gG Y2 hB bG gq
          rw[Nat.zero_add,List.nil_append]at hB
          rw[Nat.zero_add]
          (try have hE:=hE.fU hF (by decide) bG)
          (try have hA:=hA.fU hF (by decide) bG)
          (try have hX:=hF.kC bG hX (by decide))
          have aV:=hB.aI
          have hS:=fP.out _ aV
          refine hK.out _ _ hS ?_
          clear hK K bG gq hF
          generalize Y2=Y at*
          try simp only[Act.put,aO,aN,aJ]
          refine aX 15 90 rfl rfl ?_
          try simp only[Act.put,aO,aN,aJ]
          refine gJ (by kernel_rfl) (by kernel_rfl) rfl (fun K hK=>?_)
          have x0:=aG hX 0 rfl
          have x1:=aG hX 1 rfl
          have x2:=aG hX 2 rfl
          have f0:=aW hX 0
          have f1:=aW hX 1
          have f2:=aW hX 2
          have hlx:=lt_of_block hX
          have bH:=ah (m_ hX (.int .i64 bf) (.slice iw n gI) (.slice gB n gG))
          have bU:=ah (mJ Y xb (.int .i64 bf) (.slice iw n gI) (.slice gB n gG))
          have kN:=ah (hA.jU bU.out hX (by decide) dK)
          have f_:=ah (hB.jU bU.out hX (by decide) dK)
          have kP:=ah dK
          go_simp
          refine hK.out _ _ ?_
          clear hK K x0 x1 x2 f0 f1 f2 hlx hA hB hX dK aV hS
          go_wp2
          go_meet
          case rel=>exact⟨xb,_,_,rfl,kP.out,bH.out,kN.out,f_.out⟩
        ·go_simp
         have hfA:aj aF Y (Y.alloc (.cells #[.int .i64 0, .slice none 0 0, .slice none 0 0] 116)):=aj.alloc _ _ _
         have hX:=heap_alloc_new Y (.cells #[.int .i64 0, .slice none 0 0, .slice none 0 0] 116)
         have dK:=aV.size
         (try have hE:=hE.keep hfA)
         (try have hA:=hA.keep hfA)
         (try have hF:=hF.keep hfA)
         (try have hB:=hB.keep hfA)
         have aV:=aV.aH hfA
         have hS:=fP.out _ aV
         refine hK.out _ _ hS ?_
         clear hK K hfA
         obtain⟨xb,hxb⟩:∃xb,Y.heap.size=xb:=⟨_,rfl⟩
         rw[hxb]at hX dK⊢
         clear hxb
         generalize Y.alloc (.cells #[.int .i64 0, .slice none 0 0, .slice none 0 0] 116)=Y at*
         try simp only[Act.put,aO,aN,aJ]
         refine nU (i:=1) (j:=8) (by kernel_rfl) rfl rfl (fun K hK=>?_) (fun K hK=>?_)
         ·go_simp
          have hfA:aj aF Y (Y.alloc (.cells #[] 32)):=aj.alloc _ _ _
          have hE:OwnAt w7 (Y.alloc (.cells #[] 32)) 32 3 (.slice (some ⟨Y.heap.size,0,none⟩) 0 0) 0 []:=OwnAt.empty aV _ _
          (try have hF:=hF.keep hfA)
          (try have hB:=hB.keep hfA)
          (try have hX:=hfA.blk hX id)
          have aV:=aV.aH hfA
          have hS:=fP.out _ aV
          refine hK.out _ _ hS ?_
          clear hK K hfA
          obtain⟨eb,heb⟩:∃eb,Y.heap.size=eb:=⟨_,rfl⟩
          rw[heb]at hE⊢
          clear heb
          generalize Y.alloc (.cells #[] 32)=Y at*
          try simp only[Act.put,aO,aN,aJ]
          refine nU (i:=7) (j:=8) (by kernel_rfl) rfl rfl (fun K hK=>?_) (fun K hK=>?_)
          ·refine jl w7 Y ((cZ.getD i default).part.flatMap aU.cells) rfl (.tmp 76) (.tmp 81) 33 33 rfl 32 32 i1 _ 3 72 Tryz.underlying33 Tryz.underlying33 wV hy0 hy1 hy2 (by decide) (by decide) _ 0 [] hE _ n (by simp[Act.eval]) (by simp[Act.eval]) (lJ.out Y aV) (by rw[vG,dV.out]) sF.out (by simp only[maxLen];omega) (by omega) ?_
           intro iw gI Y2 hA bG gq
           rw[Nat.zero_add,List.nil_append]at hA
           rw[Nat.zero_add]
           (try have hF:=hF.fU hE (by decide) bG)
           (try have hB:=hB.fU hE (by decide) bG)
           (try have hX:=hE.kC bG hX (by decide))
           have aV:=hA.aI
           have hS:=fP.out _ aV
           refine hK.out _ _ hS ?_
           clear hK K bG gq hE
           generalize Y2=Y at*
           try simp only[Act.put,aO,aN,aJ]
           refine bg (i:=8) (by kernel_rfl) rfl (fun K hK=>?_)
           go_simp
           have hfA:aj aF Y (Y.alloc (.cells #[] 4)):=aj.alloc _ _ _
           have hF:OwnAt w7 (Y.alloc (.cells #[] 4)) 4 1 (.slice (some ⟨Y.heap.size,0,none⟩) 0 0) 0 []:=OwnAt.empty aV _ _
           (try have hE:=hE.keep hfA)
           (try have hA:=hA.keep hfA)
           (try have hX:=hfA.blk hX id)
           have aV:=aV.aH hfA
           have hS:=fP.out _ aV
           refine hK.out _ _ hS ?_
           clear hK K hfA
           obtain⟨fb,hfb⟩:∃fb,Y.heap.size=fb:=⟨_,rfl⟩
           rw[hfb]at hF⊢
           clear hfb
           generalize Y.alloc (.cells #[] 4)=Y at*
           try simp only[Act.put,aO,aN,aJ]
           refine bg (i:=14) (by kernel_rfl) rfl (fun K hK=>?_)
           refine jl w7 Y (fJ (cZ.getD i default).is) rfl (.tmp 83) (.tmp 88) 84 84 rfl 4 4 i2 _ 1 1 Tryz.underlying84 Tryz.underlying84 hi2 hx0 hx1 hx2 (by decide) (by decide) _ 0 [] hF _ n (by simp[Act.eval]) (by simp[Act.eval]) (rV.out Y aV) (by unfold fJ;rw[List.length_map,oI.out,Nat.mul_one]) (rU _) (by simp only[maxLen];omega) (by omega) ?_
           intro gB gG Y2 hB bG gq
           rw[Nat.zero_add,List.nil_append]at hB
           rw[Nat.zero_add]
           (try have hE:=hE.fU hF (by decide) bG)
           (try have hA:=hA.fU hF (by decide) bG)
           (try have hX:=hF.kC bG hX (by decide))
           have aV:=hB.aI
           have hS:=fP.out _ aV
           refine hK.out _ _ hS ?_
           clear hK K bG gq hF
           generalize Y2=Y at*
           try simp only[Act.put,aO,aN,aJ]
           refine aX 15 90 rfl rfl ?_
           try simp only[Act.put,aO,aN,aJ]
           refine gJ (by kernel_rfl) (by kernel_rfl) rfl (fun K hK=>?_)
           have x0:=aG hX 0 rfl
           have x1:=aG hX 1 rfl
           have x2:=aG hX 2 rfl
           have f0:=aW hX 0
           have f1:=aW hX 1
           have f2:=aW hX 2
           have hlx:=lt_of_block hX
           have bH:=ah (m_ hX (.int .i64 bf) (.slice iw n gI) (.slice gB n gG))
           have bU:=ah (mJ Y xb (.int .i64 bf) (.slice iw n gI) (.slice gB n gG))
           have kN:=ah (hA.jU bU.out hX (by decide) dK)
           have f_:=ah (hB.jU bU.out hX (by decide) dK)
           have kP:=ah dK
           go_simp
           refine hK.out _ _ ?_
           clear hK K x0 x1 x2 f0 f1 f2 hlx hA hB hX dK aV hS
           go_wp2
           go_meet
           case rel=>exact⟨xb,_,_,rfl,kP.out,bH.out,kN.out,f_.out⟩
          ·go_simp
           have hfA:aj aF Y (Y.alloc (.cells #[] 4)):=aj.alloc _ _ _
           have hF:OwnAt w7 (Y.alloc (.cells #[] 4)) 4 1 (.slice (some ⟨Y.heap.size,0,none⟩) 0 0) 0 []:=OwnAt.empty aV _ _
           (try have hE:=hE.keep hfA)
           (try have hA:=hA.keep hfA)
           (try have hX:=hfA.blk hX id)
           have aV:=aV.aH hfA
           have hS:=fP.out _ aV
           refine hK.out _ _ hS ?_
           clear hK K hfA
           obtain⟨fb,hfb⟩:∃fb,Y.heap.size=fb:=⟨_,rfl⟩
           rw[hfb]at hF⊢
           clear hfb
           generalize Y.alloc (.cells #[] 4)=Y at*
           try simp only[Act.put,aO,aN,aJ]
           refine bg (i:=7) (by kernel_rfl) rfl (fun K hK=>?_)
           refine jl w7 Y ((cZ.getD i default).part.flatMap aU.cells) rfl (.tmp 76) (.tmp 81) 33 33 rfl 32 32 i1 _ 3 72 Tryz.underlying33 Tryz.underlying33 wV hy0 hy1 hy2 (by decide) (by decide) _ 0 [] hE _ n (by simp[Act.eval]) (by simp[Act.eval]) (lJ.out Y aV) (by rw[vG,dV.out]) sF.out (by simp only[maxLen];omega) (by omega) ?_
           intro iw gI Y2 hA bG gq
           rw[Nat.zero_add,List.nil_append]at hA
           rw[Nat.zero_add]
           (try have hF:=hF.fU hE (by decide) bG)
           (try have hB:=hB.fU hE (by decide) bG)
           (try have hX:=hE.kC bG hX (by decide))
           have aV:=hA.aI
           have hS:=fP.out _ aV
           refine hK.out _ _ hS ?_
           clear hK K bG gq hE
           generalize Y2=Y at*
           try simp only[Act.put,aO,aN,aJ]
           refine bg (i:=14) (by kernel_rfl) rfl (fun K hK=>?_)
           refine jl w7 Y (fJ (cZ.getD i default).is) rfl (.tmp 83) (.tmp 88) 84 84 rfl 4 4 i2 _ 1 1 Tryz.underlying84 Tryz.underlying84 hi2 hx0 hx1 hx2 (by decide) (by decide) _ 0 [] hF _ n (by simp[Act.eval]) (by simp[Act.eval]) (rV.out Y aV) (by unfold fJ;rw[List.length_map,oI.out,Nat.mul_one]) (rU _) (by simp only[maxLen];omega) (by omega) ?_
           intro gB gG Y2 hB bG gq
           rw[Nat.zero_add,List.nil_append]at hB
           rw[Nat.zero_add]
           (try have hE:=hE.fU hF (by decide) bG)
           (try have hA:=hA.fU hF (by decide) bG)
           (try have hX:=hF.kC bG hX (by decide))
           have aV:=hB.aI
           have hS:=fP.out _ aV
           refine hK.out _ _ hS ?_
           clear hK K bG gq hF
           generalize Y2=Y at*
           try simp only[Act.put,aO,aN,aJ]
           refine aX 15 90 rfl rfl ?_
           try simp only[Act.put,aO,aN,aJ]
           refine gJ (by kernel_rfl) (by kernel_rfl) rfl (fun K hK=>?_)
           have x0:=aG hX 0 rfl
           have x1:=aG hX 1 rfl
           have x2:=aG hX 2 rfl
           have f0:=aW hX 0
           have f1:=aW hX 1
           have f2:=aW hX 2
           have hlx:=lt_of_block hX
           have bH:=ah (m_ hX (.int .i64 bf) (.slice iw n gI) (.slice gB n gG))
           have bU:=ah (mJ Y xb (.int .i64 bf) (.slice iw n gI) (.slice gB n gG))
           have kN:=ah (hA.jU bU.out hX (by decide) dK)
           have f_:=ah (hB.jU bU.out hX (by decide) dK)
           have kP:=ah dK
           go_simp
           refine hK.out _ _ ?_
           clear hK K x0 x1 x2 f0 f1 f2 hlx hA hB hX dK aV hS
           go_wp2
           go_meet
           case rel=>exact⟨xb,_,_,rfl,kP.out,bH.out,kN.out,f_.out⟩
         ·go_simp
          have hfA:aj aF Y (Y.alloc (.cells #[] 4)):=aj.alloc _ _ _
          have hF:OwnAt w7 (Y.alloc (.cells #[] 4)) 4 1 (.slice (some ⟨Y.heap.size,0,none⟩) 0 0) 0 []:=OwnAt.empty aV _ _
          (try have hE:=hE.keep hfA)
          (try have hA:=hA.keep hfA)
          (try have hX:=hfA.blk hX id)
          have aV:=aV.aH hfA
          have hS:=fP.out _ aV
          refine hK.out _ _ hS ?_
          clear hK K hfA
          obtain⟨fb,hfb⟩:∃fb,Y.heap.size=fb:=⟨_,rfl⟩
          rw[hfb]at hF⊢
          clear hfb
          generalize Y.alloc (.cells #[] 4)=Y at*
          try simp only[Act.put,aO,aN,aJ]
          refine bg (i:=1) (by kernel_rfl) rfl (fun K hK=>?_)
          go_simp
          have hfA:aj aF Y (Y.alloc (.cells #[] 32)):=aj.alloc _ _ _
          have hE:OwnAt w7 (Y.alloc (.cells #[] 32)) 32 3 (.slice (some ⟨Y.heap.size,0,none⟩) 0 0) 0 []:=OwnAt.empty aV _ _
          (try have hF:=hF.keep hfA)
          (try have hB:=hB.keep hfA)
          (try have hX:=hfA.blk hX id)
          have aV:=aV.aH hfA
          have hS:=fP.out _ aV
          refine hK.out _ _ hS ?_
          clear hK K hfA
          obtain⟨eb,heb⟩:∃eb,Y.heap.size=eb:=⟨_,rfl⟩
          rw[heb]at hE⊢
          clear heb
          generalize Y.alloc (.cells #[] 32)=Y at*
          try simp only[Act.put,aO,aN,aJ]
          refine bg (i:=7) (by kernel_rfl) rfl (fun K hK=>?_)
          refine jl w7 Y ((cZ.getD i default).part.flatMap aU.cells) rfl (.tmp 76) (.tmp 81) 33 33 rfl 32 32 i1 _ 3 72 Tryz.underlying33 Tryz.underlying33 wV hy0 hy1 hy2 (by decide) (by decide) _ 0 [] hE _ n (by simp[Act.eval]) (by simp[Act.eval]) (lJ.out Y aV) (by rw[vG,dV.out]) sF.out (by simp only[maxLen];omega) (by omega) ?_
          intro iw gI Y2 hA bG gq
          rw[Nat.zero_add,List.nil_append]at hA
          rw[Nat.zero_add]
          (try have hF:=hF.fU hE (by decide) bG)
          (try have hB:=hB.fU hE (by decide) bG)
          (try have hX:=hE.kC bG hX (by decide))
          have aV:=hA.aI
          have hS:=fP.out _ aV
          refine hK.out _ _ hS ?_
          clear hK K bG gq hE
          generalize Y2=Y at*
          try simp only[Act.put,aO,aN,aJ]
          refine bg (i:=14) (by kernel_rfl) rfl (fun K hK=>?_)
          refine jl w7 Y (fJ (cZ.getD i default).is) rfl (.tmp 83) (.tmp 88) 84 84 rfl 4 4 i2 _ 1 1 Tryz.underlying84 Tryz.underlying84 hi2 hx0 hx1 hx2 (by decide) (by decide) _ 0 [] hF _ n (by simp[Act.eval]) (by simp[Act.eval]) (rV.out Y aV) (by unfold fJ;rw[List.length_map,oI.out,Nat.mul_one]) (rU _) (by simp only[maxLen];omega) (by omega) ?_
          intro gB gG Y2 hB bG gq
          rw[Nat.zero_add,List.nil_append]at hB
          rw[Nat.zero_add]
          (try have hE:=hE.fU hF (by decide) bG)
          (try have hA:=hA.fU hF (by decide) bG)
          (try have hX:=hF.kC bG hX (by decide))
          have aV:=hB.aI
          have hS:=fP.out _ aV
          refine hK.out _ _ hS ?_
          clear hK K bG gq hF
          generalize Y2=Y at*
          try simp only[Act.put,aO,aN,aJ]
          refine aX 15 90 rfl rfl ?_
          try simp only[Act.put,aO,aN,aJ]
          refine gJ (by kernel_rfl) (by kernel_rfl) rfl (fun K hK=>?_)
          have x0:=aG hX 0 rfl
          have x1:=aG hX 1 rfl
          have x2:=aG hX 2 rfl
          have f0:=aW hX 0
          have f1:=aW hX 1
          have f2:=aW hX 2
          have hlx:=lt_of_block hX
          have bH:=ah (m_ hX (.int .i64 bf) (.slice iw n gI) (.slice gB n gG))
          have bU:=ah (mJ Y xb (.int .i64 bf) (.slice iw n gI) (.slice gB n gG))
          have kN:=ah (hA.jU bU.out hX (by decide) dK)
          have f_:=ah (hB.jU bU.out hX (by decide) dK)
          have kP:=ah dK
          go_simp
          refine hK.out _ _ ?_
          clear hK K x0 x1 x2 f0 f1 f2 hlx hA hB hX dK aV hS
          go_wp2
          go_meet
          case rel=>exact⟨xb,_,_,rfl,kP.out,bH.out,kN.out,f_.out⟩
       case rest=>
        obtain⟨xb,pvv,SS,rfl,hxw,hxb,hA,hB⟩:=hcut
        clear dH
        obtain⟨w8,rfl⟩:∃w8,w8=wc:=⟨_,rfl⟩
        obtain⟨pb,zF,rfl,hpw,-,-,-,-,-⟩:=hA.row (by omega)
        obtain⟨ib,yD,rfl,hiw,-,-,-,-,-⟩:=hB.row (by omega)
        have HA8:=ah hA
        have tJ:=ah hB
        have HXB:=ah hxb
        have HXW:=ah hxw
        have tH:=ah hpw
        have ZC:=ah hiw
        have IX:=uM.out.aI
        have SV:=ah (hA.aI.blk (IX.blk SL.out id) id)
        have Dc:=ah (hA.aI.blk (IX.blk lU.out id) id)
        have SX:=ah (hA.aI.blk (IX.blk kY.out id) id)
        have HZ7:=ah (show w.heap.size+1+1<w7.heap.size by have h1:=A_.out;have h2:=IX.size;omega)
        obtain⟨xP,iP⟩:(xb≠pb∧xb≠ib)∧ib≠pb:=by
         obtain⟨c1,h1⟩:=hA.blk
         obtain⟨c2,h2⟩:=hB.blk
         exact⟨⟨iO hxb h1 (by decide),iO hxb h2 (by decide)⟩,iO h2 h1 (by decide)⟩
        have iE:=ah (⟨xP,iP⟩:(xb≠pb∧xb≠ib)∧ib≠pb)
        have dH:=(⟨(aj.drew aF w8).cell' (aG hxb 1 rfl) id,(aj.drew aF w8).cell' (aG hxb 2 rfl) id,(aj.drew aF w8).cell' (aG SV.out 0 rfl) id,(aj.drew aF w8).cell' (aG SV.out 1 rfl) id,(aj.drew aF w8).cell' (aG SV.out 2 rfl) id⟩:w8.drew.cell? ⟨xb,1,none⟩=some (.slice (some ⟨pb,0,none⟩) n zF)∧w8.drew.cell? ⟨xb,2,none⟩=some (.slice (some ⟨ib,0,none⟩) n yD)∧w8.drew.cell? ⟨w.heap.size+1,0,none⟩=some (.slice d0 0 e0)∧w8.drew.cell? ⟨w.heap.size+1,1,none⟩=some (.slice d1 kl e1)∧w8.drew.cell? ⟨w.heap.size+1,2,none⟩=some (.slice d2 cl e2))
        clear hA hB hxb hxw hpw hiw xP iP IX
        go_upto_region 13 with fail
        refine iq (S:=fun Y=>Y.cell? ⟨xb,1,none⟩=some (.slice (some ⟨pb,0,none⟩) n zF)∧Y.cell? ⟨xb,2,none⟩=some (.slice (some ⟨ib,0,none⟩) n yD)∧Y.cell? ⟨w.heap.size+1,0,none⟩=some (.slice d0 0 e0)∧Y.cell? ⟨w.heap.size+1,1,none⟩=some (.slice d1 kl e1)∧Y.cell? ⟨w.heap.size+1,2,none⟩=some (.slice d2 cl e2)) 10 (by kernel_rfl) dH ?_
        clear dH
        intro hS
        have ng:=ah (aj.drew aF w8)
        generalize World.drew _=Y0 at*
        refine aX 0 91 rfl rfl ?_
        refine aX 1 92 rfl rfl ?_
        try simp only[Act.put,aO,aN,aJ]
        refine aX 2 93 rfl rfl ?_
        refine aX 3 94 rfl rfl ?_
        try simp only[Act.put,aO,aN,aJ]
        refine aX 4 95 rfl rfl ?_
        refine aX 5 96 rfl rfl ?_
        try simp only[Act.put,aO,aN,aJ]
        refine aX 6 97 rfl rfl ?_
        refine aX 7 98 rfl rfl ?_
        try simp only[Act.put,aO,aN,aJ]
        refine bg (i:=8) (by kernel_rfl) rfl (fun K hK=>?_)
        have hA0:=HA8.out.keep ng.out
        have hB0:=tJ.out.keep ng.out
        obtain⟨cu,qh⟩:=hA0.blk
        obtain⟨q0,q1,q2⟩:=wG (cZ.getD i default).part k (by rw[dV.out];exact hk)
        have x0:=hA0.rd.cell _ _ q0
        have x1:=hA0.rd.cell _ _ q1
        have x2:=hA0.rd.cell _ _ q2
        rw[Nat.zero_add]at x0 x1 x2
        have f0:=aW qh (k*3)
        have f1:=aW qh (k*3+1)
        have f2:=aW qh (k*3+2)
        have hlx:=lt_of_block qh
        have hsf:=SI Y0 pb (k*3) (k*3+1) (k*3+2) (.slice d0 0 e0) (.slice d1 kl e1) (.slice d2 cl e2)
        have hA1:=hA0.Zx (j0:=k*3) (j1:=k*3+1) (j2:=k*3+2) (x0:= .slice d0 0 e0) (x1:= .slice d1 kl e1) (x2:= .slice d2 cl e2)
        have hB1:=hB0.jU hsf qh (by decide) tH.out
        have hcp:w.heap.size+1≠pb:=by have h1:=tH.out;have h2:=HZ7.out;omega
        have hS1:=(⟨hsf.cell' hS.1 iE.out.1.1,hsf.cell' hS.2.1 iE.out.1.1,hsf.cell' hS.2.2.1 hcp,hsf.cell' hS.2.2.2.1 hcp,hsf.cell' hS.2.2.2.2 hcp⟩:_∧_∧_∧_∧_)
        go_simp
        refine hK.out _ _ hS1 ?_
        clear hK K hS x0 x1 x2 f0 f1 f2 hlx qh q0 q1 q2 hA0 hB0 hcp
        have hS:=hS1
        have bU:=ah hsf
        have HA1:=ah hA1
        have IY:=ah hB1
        clear hS1 hsf hA1 hB1
        generalize World.setCell (World.setCell (World.setCell Y0 _ _) _ _) _ _=Y1 at*
        try simp only[Act.put,aO,aN,aJ]
        refine aX 9 99 rfl rfl ?_
        try simp only[Act.put,aO,aN,aJ]
        refine gJ (by kernel_rfl) (by kernel_rfl) rfl (fun K hK=>?_)
        obtain⟨cu,qh⟩:=IY.out.blk
        have x0:Y1.cell? ⟨ib,k,none⟩=some (.bool ((cZ.getD i default).is.getD k false)):=by
         have h:=KW IY.out.rd k (by rw[oI.out];exact hk)
         rwa [Nat.zero_add]at h
        have f0:=aW qh k
        have hlx:=lt_of_block qh
        have hsf:=aj.setCell (S:=fun x=>x=ib) Y1 (p:=⟨ib,k,none⟩) (.inl rfl) (.bool true)
        have ahM:=ah (⟨MF IY.out.own k (.bool true),IY.out.new,IY.out.aI.trans hsf fun y hy e=>by have:=ZC.out;omega⟩:OwnAt w7 (Y1.setCell ⟨ib,k,none⟩ (.bool true)) 4 1 (.slice (some ⟨ib,0,none⟩) n yD) n ((fJ (cZ.getD i default).is).set k (.bool true)))
        have HA2:=ah (HA1.out.jU hsf qh (by decide) ZC.out)
        have IZ:=ah hsf
        go_simp
        refine hK.out _ _ ?_
        clear hK K hS x0 f0 hlx qh hsf
        generalize World.setCell Y1 _ _=Y2 at*
        have hx2:=IZ.out.blk (bU.out.blk (ng.out.blk HXB.out id) iE.out.1.1) iE.out.1.2
        have x0:=aG hx2 0 rfl
        have x1:=aG hx2 1 rfl
        have x2:=aG hx2 2 rfl
        have hlx:=lt_of_block hx2
        have hL2:=uM.out.keep HA2.out.aI
        rw[←zD.out]at hL2
        obtain⟨gg,cg,hge,hgw,-,-,-,-,-⟩:=hL2.row (by omega)
        injection hge with j1 j2 j3
        injection j1 with j1
        injection j1 with j4 j5
        subst j4 j5 j3
        have MI:=A_.out
        have hne1:w.heap.size≠g:=by omega
        have hne2:g≠w.heap.size:=by omega
        obtain⟨p9,kM⟩:∃p9,p9=w.heap.size+1+1:=⟨_,rfl⟩
        have hs2:=HA2.out.aI.blk (uM.out.aI.blk kY.out id) id
        have hr2:=HA2.out.aI.blk (uM.out.aI.blk lU.out id) id
        rw[←kM]at hr2 MI⊢
        have SE:p9≠g:=by omega
        have ahx:g≠p9:=by omega
        have Rj:=ah (show w.heap.size≤p9∧p9<W5.heap.size by omega)
        have ahN:=ah kM
        have HGW:=ah (⟨hgw,lt_of_block uM.out.blk.choose_spec⟩:W5.heap.size≤g∧g<w7.heap.size)
        clear kM
        obtain⟨cl0,hcl⟩:=hL2.blk
        obtain⟨q0,q1,q2⟩:=uz (cZ.map bn.q) i (by rw[List.length_map];exact HI1.out)
        have y0:=hL2.rd.cell _ _ q0
        have y1:=hL2.rd.cell _ _ q1
        have y2:=hL2.rd.cell _ _ q2
        rw[Nat.zero_add]at y0 y1 y2
        have f0:=aW hcl (i*3)
        have f1:=aW hcl (i*3+1)
        have f2:=aW hcl (i*3+2)
        have lD:=lt_of_block hcl
        have s0:=aG hs2 0 rfl
        have r0:=aG hr2 0 rfl
        have r1:=aG hr2 1 rfl
        have e0':=aW hr2 0
        have e1':=aW hr2 1
        have hlr:=lt_of_block hr2
        have hls:=lt_of_block hs2
        have ku:=ah (hL2.Zx (j0:=i*3) (j1:=i*3+1) (j2:=i*3+2) (x0:= .int .i64 bf) (x1:= .slice (some ⟨pb,0,none⟩) n zF) (x2:= .slice (some ⟨ib,0,none⟩) n yD))
        have MJ:=ah (SI Y2 g (i*3) (i*3+1) (i*3+2) (.int .i64 bf) (.slice (some ⟨pb,0,none⟩) n zF) (.slice (some ⟨ib,0,none⟩) n yD))
        have HR3:=ah (MJ.out.blk hr2 SE)
        clear hs2 hr2 hcl q0 q1 q2 hx2 hL2
        go_wp2
        have hse:=yC HR3.out (.slice a0 n c0) (.slice (some ⟨g,0,none⟩) m1 FD)
        have z0:=aG hse.1 0 rfl
        have z1:=aG hse.1 1 rfl
        have ZE:aj aF w w7:=iV.out.aH uM.out.aI
        have ahP:=HGW.out
        have ahQ:=Rj.out
        have hw5:=iV.out.size
        have h57:=uM.out.aI.size
        have ahR:=ahN.out
        have SG:=((ZE.aH HA2.out.aI).trans MJ.out fun y hy e=>by omega).trans hse.2 fun y hy e=>by omega
        have ahS:=(ku.out.Aa.turn (w':=_) (Q':=fun _=>True) fun y hy hq=>⟨hse.2.block y hy (by omega),trivial⟩).rd
        have hfF:=fun y (hy:y<Y2.heap.size) (hg:y≠g) (hp:y≠p9)=>(hse.2.block y (Nat.lt_of_lt_of_le hy MJ.out.size) hp).trans (MJ.out.block y hy hg)
        subst ahR
        obtain⟨rs',h1,h2,h3⟩:=ahG (q:=⟨[],ks,c, .slice d0 0 e0, .slice d1 kl e1, .slice d2 cl e2⟩) (HR.out w (aj.refl _ _)) HQ.out zD.out HI1.out (by rw[←zD.out];exact hf1) hk HST.out HND.out ahI.out ⟨by omega,ahP.2,ahQ.1,by omega⟩ ZE HA2.out ahM.out ⟨rfl,HA.out,HG.out⟩ ahS hfF SG OC.out
        refine bodyPost_ret (v:= .tuple #[.agg #[.slice a0 n c0, .slice (some ⟨g,0,none⟩) m1 FD], .int .i64 0]) (by simp[results,Tryz.results57,go_sem,z0,z1]) rfl ⟨_,by rw[h1],rs',h2,h3,SG⟩
end
end Go.Proofs.YtlhmbkjdfjoilaaGreat
