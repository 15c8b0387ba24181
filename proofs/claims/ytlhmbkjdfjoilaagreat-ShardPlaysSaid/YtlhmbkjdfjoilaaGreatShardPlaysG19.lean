/- Words for the law ShardPlays: Sh10, HeldNone, HeldThree, Sh12. -/
import Derived.Test.YtlhmbkjdfjoilaaGreatShardPlaysG0
import Derived.Test.YtlhmbkjdfjoilaaGreatShardPlaysG1
import Derived.Test.YtlhmbkjdfjoilaaGreatShardPlaysG11
import Derived.Test.YtlhmbkjdfjoilaaGreatShardPlaysG15
import Derived.Test.YtlhmbkjdfjoilaaGreatShardPlaysG18
set_option linter.unusedSimpArgs false
set_option linter.unusedVariables false
set_option maxHeartbeats 32000000
set_option maxRecDepth 1000000
namespace Go.Proofs.YtlhmbkjdfjoilaaGreat
open Go.RowKit
instance:Inhabited bI:=⟨⟨0,[],[]⟩⟩
def mg (s:bI) (k:Nat) (t:bY):bI:=⟨s.id,s.part.set k t,s.is.set k true⟩
def newS (n:Nat) (id:Int):bI:=⟨id,List.replicate n dD,List.replicate n false⟩
def mD (n:Nat) (id:Int) (k:Nat) (t:bY) (st:List bI):Int×List bI:=
 if dG id (st.map bI.id)=-1 then(if 4≤st.length then(4,st)else(0,(st++ [newS n id]).set st.length (mg (newS n id) k t)))
 else if(st.getD (dG id (st.map bI.id)).toNat default).is.getD k false=true then(8,st)
 else(0,st.set (dG id (st.map bI.id)).toNat (mg (st.getD (dG id (st.map bI.id)).toNat default) k t))
theorem sQ (rs:List bC):(rs.map bC.con).map bI.id=rs.map bC.id:=by rw[List.map_map];rfl
theorem H_ {rs:List bC} {i:Nat} (h:i<rs.length):(rs.map bC.con).getD i default=(rs.getD i default).con:=by
 rw[getD_at _ (by rw[List.length_map];exact h),getD_at _ h,List.getElem_map]
theorem Xi (l:List Bool) (k:Nat) (y:Bool):fJ (l.set k y)=(fJ l).set k (.bool y):=by unfold fJ;rw[List.map_set]
theorem Ia {α β:Type} {d:α} (f:α→β) {l:List α} {i:Nat} {x:α} (h:i<l.length) (hf:f x=f (l.getD i d)):(l.set i x).map f=l.map f:=by
 rw[List.map_set,hf,getD_at d h]
 have:f l[i]=(l.map f)[i]'(by rw[List.length_map];exact h):=by rw[List.getElem_map]
 rw[this,List.set_getElem_self]
section
variable {L:Nat→Prop} {w w':World} {b n vb:Nat} {sv:Value} {vs:List aU} {rs:List bC}
theorem dW.put (h:dW L w b n vb sv vs rs) {i k:Nat} (hi:i<rs.length) (hk:k<n) (q:aU) (hes:q.es=[]) (hq:eF (fun k=>¬L k) w q) (hg:Good q.g) {r:bC} (hr:rs.getD i default=r):
 dW L ((((w.setCell ⟨r.pb,k*3,none⟩ q.ev).setCell ⟨r.pb,k*3+1,none⟩ q.kv).setCell ⟨r.pb,k*3+2,none⟩ q.cv).setCell ⟨r.ib,k,none⟩ (.bool true)) b n vb sv vs (rs.set i ⟨r.id,r.pb,r.ib,r.part.set k q,r.is.set k true⟩)∧
 aj L w ((((w.setCell ⟨r.pb,k*3,none⟩ q.ev).setCell ⟨r.pb,k*3+1,none⟩ q.kv).setCell ⟨r.pb,k*3+2,none⟩ q.cv).setCell ⟨r.ib,k,none⟩ (.bool true)):=by
 have hs:EG L w n r:=h.jJ r (by rw[←hr];exact getD_mem _ hi)
 have hpi:r.pb≠r.ib:=iO hs.part.blk hs.is (by decide)
 have hp1:=eY (eY (eY hs.part.blk (k*3) q.ev) (k*3+1) q.kv) (k*3+2) q.cv
 obtain⟨w1,hw1⟩:∃w1,w1=((w.setCell ⟨r.pb,k*3,none⟩ q.ev).setCell ⟨r.pb,k*3+1,none⟩ q.kv).setCell ⟨r.pb,k*3+2,none⟩ q.cv:=⟨_,rfl⟩
 have f1:aj (fun x=>x=r.pb) w w1:=by
  rw[hw1]
  exact((aj.setCell (S:=fun x=>x=r.pb) w (p:=⟨r.pb,k*3,none⟩) (.inl rfl) _).trans (aj.setCell (S:=fun x=>x=r.pb) _ (p:=⟨r.pb,k*3+1,none⟩) (.inl rfl) _) fun _ _ h=>h).trans (aj.setCell (S:=fun x=>x=r.pb) _ (p:=⟨r.pb,k*3+2,none⟩) (.inl rfl) _) fun _ _ h=>h
 rw[←hw1]at hp1⊢
 have hi1:=eY (f1.blk hs.is hpi.symm) k (.bool true)
 have f2:aj (fun x=>x=r.pb∨x=r.ib) w (w1.setCell ⟨r.ib,k,none⟩ (.bool true)):=(f1.mono (T:=fun x=>x=r.pb∨x=r.ib) fun _ _ e=> .inl e).trans (aj.setCell (S:=fun x=>x=r.pb∨x=r.ib) w1 (p:=⟨r.ib,k,none⟩) (.inl (.inr rfl)) _) fun _ _ h=>h
 have hp2:=(aj.setCell (S:=fun x=>x=r.ib) w1 (p:=⟨r.ib,k,none⟩) (.inl rfl) (.bool true)).blk hp1 hpi
 generalize w1.setCell ⟨r.ib,k,none⟩ (.bool true)=w3 at*
 have ft:∀x,x<w.heap.size→¬L x→w3.heap[x]?=w.heap[x]?∧¬L x:=fun x hx hl=>⟨f2.block x hx fun e=>hl (e.elim (fun e=>e▸hs.pL) fun e=>e▸hs.iL),hl⟩
 have fo:∀ {x:Nat} {o:Array Value} {t:TypeId},w.heap[x]?=some (.cells o t (0,0))→x≠r.pb→x≠r.ib→w3.heap[x]?=w.heap[x]?:=fun hx h1 h2=>f2.block _ (lt_of_block hx) fun e=>e.elim h1 h2
 have own:w3.ownsRow 0 86 3 sv rs.length ((rs.map (bC.q n)).flatMap cO.cells):=by
  refine f2.owns h.own fun x hx e=>?_
  rcases h.own.2 with⟨h1,_⟩|⟨g',cap',cur,h1,_,h2,_⟩
  ·rw[h1]at hx;simp[Value.ownBlock]at hx
  ·rw[h1]at hx
   have:g'=x:=by simpa[Value.ownBlock]using hx
   subst this
   exact e.elim (iO h2 hs.part.blk (by decide)) (iO h2 hs.is (by decide))
 have hvp:vb≠r.pb:=fun e=>h.vL (e▸hs.pL)
 refine⟨⟨h.n1,h.n4,fun x hx=>Nat.lt_of_lt_of_le (h.Ls x hx) f2.size,(fo h.box (iO h.box hs.part.blk (by decide)) (iO h.box hs.is (by decide))).trans h.box,h.bL,h.vis.turn ft (fo h.vis.blk hvp (iO h.vis.blk hs.is (by decide))),h.vL,?_,h.sL,fun r' hr'=>?_,?_,?_,?_,by rw[List.length_set];exact h.few⟩,f2.mono fun x _ e=>e.elim (fun e=>e▸hs.pL) fun e=>e▸hs.iL⟩
 ·rw[List.length_set,Ia (d:=default) (bC.q n) hi (by rw[hr];rfl)]
  exact own
 ·obtain⟨j,hj,rfl⟩:=List.getElem_of_mem hr'
  rw[List.length_set]at hj
  rw[List.getElem_set]
  by_cases e:i=j
  ·rw[if_pos e]
   refine⟨⟨by rw[List.length_set];exact hs.part.len,?_,fun q' hq'=>?_⟩,by rw[List.length_set];exact hs.o_,?_,hs.pL,hs.iL⟩
   ·rw[hp2,KX _ _ _ (by rw[hs.part.len];exact hk)]
    simp
   ·rcases List.mem_or_eq_of_mem_set hq' with h1|h1
    ·obtain⟨g1,g2,g3⟩:=hs.part.each q' h1
     exact⟨g1,g2.turn ft,g3⟩
    ·subst h1
     exact⟨hes,hq.turn ft,hg⟩
   ·rw[hi1,Xi]
    simp
  ·rw[if_neg e]
   have hsj:=h.jJ rs[j] (List.getElem_mem hj)
   have iF:r=rs[i]:=by rw[←hr,getD_at _ hi]
   have hpn:rs[j].pb≠r.pb:=fun e2=>e<|by
    have:=(List.getElem_inj (xs:=rs.map bC.pb) (h₀:=by rw[List.length_map];exact hi) (h₁:=by rw[List.length_map];exact hj) h.pd).1 (by simp only[List.getElem_map];rw[e2,iF])
    exact this
   have hin:rs[j].ib≠r.ib:=fun e2=>e<|by
    have:=(List.getElem_inj (xs:=rs.map bC.ib) (h₀:=by rw[List.length_map];exact hi) (h₁:=by rw[List.length_map];exact hj) h.CB).1 (by simp only[List.getElem_map];rw[e2,iF])
    exact this
   exact hsj.turn ft (fun _ h=>h) (fo hsj.part.blk hpn (iO hsj.part.blk hs.is (by decide))) (fo hsj.is (iO hsj.is hs.part.blk (by decide)) hin)
 ·rw[Ia (d:=default) bC.pb hi (by rw[hr])];exact h.pd
 ·rw[Ia (d:=default) bC.ib hi (by rw[hr])];exact h.CB
 ·rw[Ia (d:=default) bC.id hi (by rw[hr])];exact h.ids
def Az (n:Nat) (id:Int) (pb ib:Nat):bC:=⟨id,pb,ib,jm n,List.replicate n false⟩
theorem Xj (n:Nat) (id:Int) (pb ib:Nat):(Az n id pb ib).con=newS n id:=by
 unfold Az bC.con newS jm
 rw[List.map_replicate]
 rfl
def grown (L:Nat→Prop) (pb ib:Nat) (sv:Value) (k:Nat):Prop:=L k∨k=pb∨k=ib∨sv.ownBlock=some k
theorem La {Q:Nat→Prop} {w:World} {b n:Nat} (h:w.heap[b]?=some (.cells ((jm n).flatMap aU.cells).toArray 32 (0,0))):oG Q w b n (jm n):=
 ⟨by simp[jm],h,fun q hq=>by
   have:q=default:=List.eq_of_mem_replicate hq
   subst this
   refine⟨rfl,⟨⟨⟨.inl ⟨none,rfl,rfl,rfl⟩,fun h=>absurd rfl h⟩,[],⟨.inl ⟨none,rfl,rfl,rfl⟩,fun h=>absurd rfl h⟩,rfl⟩, .inl ⟨none,rfl,rfl,rfl⟩,fun h=>absurd rfl h⟩,Ap⟩⟩
theorem dW.grow (h:dW L w b n vb sv vs rs) {w1 w2:World} {pb ib c:Nat} {ad:Option Addr} {id:Int} (f1:aj aF w w1) (hpb:w.heap.size≤pb) (hib:w.heap.size≤ib)
 (bp:w1.heap[pb]?=some (.cells ((jm n).flatMap aU.cells).toArray 32 (0,0))) (bi:w1.heap[ib]?=some (.cells (fJ (List.replicate n false)).toArray 4 (0,0)))
 (f2:aj (eG sv) w1 w2) (hfr:lN w1 sv (.slice ad (rs.length+1) c))
 (own:w2.ownsRow 0 86 3 (.slice ad (rs.length+1) c) (rs.length+1) ((rs.map (bC.q n)).flatMap cO.cells++ [.int .i64 id, .slice (some ⟨pb,0,none⟩) n n, .slice (some ⟨ib,0,none⟩) n n]))
 (hnew:id∉rs.map bC.id) (hlen:rs.length<4):
 w2.heap[b]?=some (.cells #[.slice (some ⟨vb,0,none⟩) n n,sv] 81 (0,0))∧
 dW (grown L pb ib (.slice ad (rs.length+1) c)) (w2.setCell ⟨b,1,none⟩ (.slice ad (rs.length+1) c)) b n vb (.slice ad (rs.length+1) c) vs (rs++ [Az n id pb ib])∧
 Turned L w (grown L pb ib (.slice ad (rs.length+1) c)) (w2.setCell ⟨b,1,none⟩ (.slice ad (rs.length+1) c)):=by
 have hs1:=f1.size
 have hs2:=f2.size
 have Xk:∀ {k},eG sv k→L k∧k<w.heap.size:=fun hk=>⟨h.sL _ hk,h.Ls _ (h.sL _ hk)⟩
 have h1:=h.aS f1
 have hbox:w2.heap[b]?=some (.cells #[.slice (some ⟨vb,0,none⟩) n n,sv] 81 (0,0)):=f2.blk h1.box fun s=>by
  rcases h1.own.2 with⟨g1,_⟩|⟨g',cap',cur,g1,_,g2,_⟩
  ·unfold eG at s;rw[g1]at s;simp[Value.ownBlock]at s
  ·unfold eG at s;rw[g1]at s
   have:g'=b:=by simpa[Value.ownBlock]using s
   subst this
   exact iO h1.box g2 (by decide) rfl
 have Xl:∀ {k},w.heap.size≤k→¬eG sv k:=fun hk s=>by have:=(Xk s).2;omega
 have bp2:=f2.blk bp (Xl hpb)
 have bi2:=f2.blk bi (Xl hib)
 have hbl:=lt_of_block h.box
 obtain⟨w3,hw3⟩:∃w3,w3=w2.setCell ⟨b,1,none⟩ (.slice ad (rs.length+1) c):=⟨_,rfl⟩
 have f3:aj (fun k=>k=b) w2 w3:=by rw[hw3];exact aj.setCell (S:=fun k=>k=b) w2 (p:=⟨b,1,none⟩) (.inl rfl) _
 have aeS:w3.heap[b]?=some (.cells #[.slice (some ⟨vb,0,none⟩) n n, .slice ad (rs.length+1) c] 81 (0,0)):=by rw[hw3];exact eY hbox 1 _
 have hgo:∀g,(Value.slice ad (rs.length+1) c).ownBlock=some g→(L g∨w.heap.size≤g)∧∃cur,w2.heap[g]?=some (.cells cur 86 (0,0)):=fun g hg=>by
  refine⟨?_,?_⟩
  ·rcases hfr g hg with s|s
   ·exact .inl (h.sL _ s)
   ·exact .inr (by omega)
  ·rcases own.2 with⟨g1,_⟩|⟨g',cap',cur,g1,_,g2,_⟩
   ·rw[g1]at hg;simp[Value.ownBlock]at hg
   ·rw[g1]at hg
    have:g'=g:=by simpa[Value.ownBlock]using hg
    subst this
    exact⟨cur,g2⟩
 have yL:w3.ownsRow 0 86 3 (.slice ad (rs.length+1) c) (rs.length+1) ((rs.map (bC.q n)).flatMap cO.cells++ [.int .i64 id, .slice (some ⟨pb,0,none⟩) n n, .slice (some ⟨ib,0,none⟩) n n]):=
  f3.owns own fun g hg e=>by
   obtain⟨_,cur,g2⟩:=hgo g hg
   exact iO g2 hbox (by decide) e
 have Xm:=f3.blk bp2 (by omega)
 have Xn:=f3.blk bi2 (by omega)
 rw[←hw3]
 have Qx:aj L w w3:=(((f1.mono (T:=L) fun _ _ h=>h.elim).trans f2 fun k hk s=>(Xk s).1)).trans f3 fun k _ e=>by subst e;exact h.bL
 have ft:∀k,k<w.heap.size→¬L k→w3.heap[k]?=w.heap[k]?∧¬grown L pb ib (.slice ad (rs.length+1) c) k:=fun k hk hl=>⟨Qx.block k hk hl,fun e=>by
  rcases e with e|e|e|e
  ·exact hl e
  ·omega
  ·omega
  ·rcases(hgo k e).1 with e|e
   ·exact hl e
   ·omega⟩
 have fo:∀ {k:Nat} {o:Array Value} {t:TypeId},w.heap[k]?=some (.cells o t (0,0))→t≠86→t≠81→w3.heap[k]?=w.heap[k]?:=fun {k o t} hk t1 t2=>by
  have hk1:=f1.blk hk (fun s=>s)
  have n2:¬eG sv k:=fun s=>by
   rcases h.own.2 with⟨g1,_⟩|⟨g',cap',cur,g1,_,g2,_⟩
   ·unfold eG at s;rw[g1]at s;simp[Value.ownBlock]at s
   ·unfold eG at s;rw[g1]at s
    have:g'=k:=by simpa[Value.ownBlock]using s
    subst this
    exact iO hk g2 t1 rfl
  have hk2:=f2.blk hk1 n2
  exact(f3.blk hk2 (iO hk2 hbox t2)).trans hk.symm
 refine⟨hbox,⟨h.n1,h.n4,fun k hk=>?_,aeS, .inl h.bL,h.vis.turn ft (fo h.vis.blk (by decide) (by decide)),(ft vb (lt_of_block h.vis.blk) h.vL).2,?_,fun k hk=> .inr (.inr (.inr hk)),fun r hr=>?_,?_,?_,?_,by rw[List.length_append];simp;omega⟩,Qx,fun k hk=>?_⟩
 ·have hs3:=Qx.size
  have ajn:=f3.size
  rcases hk with e|e|e|e
  ·have:=h.Ls k e;omega
  ·subst e;exact lt_of_block Xm
  ·subst e;exact lt_of_block Xn
  ·obtain⟨_,cur,g2⟩:=hgo k e
   have:=lt_of_block g2
   omega
 ·rw[List.length_append,List.map_append,List.flatMap_append]
  exact yL
 ·rcases List.mem_append.1 hr with hr|hr
  ·have hs:=h.jJ r hr
   exact hs.turn ft (fun _ h=> .inl h) (fo hs.part.blk (by decide) (by decide)) (fo hs.is (by decide) (by decide))
  ·have:r=Az n id pb ib:=by simpa using hr
   subst this
   exact⟨La Xm,by simp[Az],Xn, .inr (.inl rfl), .inr (.inr (.inl rfl))⟩
 ·rw[List.map_append,List.nodup_append]
  refine⟨h.pd,by simp,fun x hx y hy e=>?_⟩
  obtain⟨r,hr,rfl⟩:=List.mem_map.1 hx
  have:y=pb:=by simpa[Az]using hy
  have:=lt_of_block (h.jJ r hr).part.blk
  omega
 ·rw[List.map_append,List.nodup_append]
  refine⟨h.CB,by simp,fun x hx y hy e=>?_⟩
  obtain⟨r,hr,rfl⟩:=List.mem_map.1 hx
  have:y=ib:=by simpa[Az]using hy
  have:=lt_of_block (h.jJ r hr).is
  omega
 ·rw[List.map_append,List.nodup_append]
  refine⟨h.ids,by simp,fun x hx y hy e=>?_⟩
  have:y=id:=by simpa[Az]using hy
  exact hnew (by rw[←this,←e];exact hx)
 ·rcases hk with e|e|e|e
  ·exact .inl e
  ·exact .inr (by omega)
  ·exact .inr (by omega)
  ·exact(hgo k e).1
end
open Go.RowKit
section
variable {P:Program} {md:Region.Mode} {ops:Array Oper} {Q:Exit→Act→World→Prop} {S:World→Prop} {z:Nat}
theorem aeT {i:Nat} {oi:Oper} {v:Value} (hi:ops[i]?=some oi) (hsel:∀(j:Nat) (o:Oper) cs b,ops[j]?=some o→o.op≠ .select cs b) (hl:ops[z]?=none)
 (hQ:∀c a w,Q (.panic c) (a.put oi.dst v) w→Q (.panic c) a w):
 ∀(fuel:Nat) (listed:Array Bool) (a:Act) (w:World),
  (∀j oj,ops[j]?=some oj→j≠i→listed.getD j true=false→(∀e∈oj.after,Region.binds md e=true→e.on≠i)→oi.apart ops oj=true)→
  i∈Region.ready md ops listed→YieldsIf P ops S oi v a→S w→
  jk P md ops Q S z fuel (listed.setIfInBounds i true) (a.put oi.dst v) w→jk P md ops Q S z (fuel+1) listed a w:=by
 intro fuel
 induction fuel with
 |zero=>
  intro listed a w _ hr hy hS H
  refine⟨fun h=>(by rw[h]at hr;cases hr),fun j hj=>?_⟩
  by_cases hji:j=i
  ·subst hji;exact hy.wpOp hi hS ⟨.inr hS,H⟩
  ·have:=ready_mono hj hji
   rw[H.1]at this
   cases this
 |succ fuel ih=>
  intro listed a w hfree hr hy hS H
  refine⟨fun h=>(by rw[h]at hr;cases hr),fun j hj=>?_⟩
  by_cases hji:j=i
  ·subst hji;exact hy.wpOp hi hS ⟨.inr hS,H⟩
  ·have h1:=H.2 j (ready_mono hj hji)
   obtain⟨hjun,oj,hoj,hall⟩:=mem_ready.1 hj
   have hnot:∀e∈oj.after,Region.binds md e=true→e.on≠i:=fun e he hb heq=>by
    have h1:=hall e he hb
    have h0:=(mem_ready.1 hr).1
    rw[heq]at h1
    rcases Nat.lt_or_ge i listed.size with h'|h'
    ·simp[h']at h0 h1;rw[h0]at h1;cases h1
    ·simp[Array.getElem?_eq_none h']at h1
   have hjz:j≠z:=fun hz=>by
    subst hz
    rw[hl]at hoj
    cases hoj
   have h2:=wpOp_putIf hoj (hfree j oj hoj hji hjun hnot) (fun cs b=>hsel i oi cs b hi) (fun cs b=>hsel j oj cs b hoj) hQ hy h1
   have hfree':∀k ok,ops[k]?=some ok→k≠i→(listed.setIfInBounds j true).getD k true=false→
    (∀e∈ok.after,Region.binds md e=true→e.on≠i)→oi.apart ops ok=true:=fun k ok hk hki hun hno=>by
    refine hfree k ok hk hki ?_ hno
    by_cases hjk:j=k
    ·subst hjk;exact hjun
    ·rw[getD_set_ne true hjk]at hun;exact hun
   refine wpOp_mono (fun a' w' h3=>?_) h2
   have hS':S w':=h3.2.1.resolve_left hjz
   refine⟨.inr hS',ih (listed.setIfInBounds j true) a' w' hfree' (ready_mono hr (Ne.symm hji)) h3.1 hS' ?_⟩
   rw[Array.setIfInBounds_comm _ _ hji]
   exact h3.2.2
theorem aeU (i d:Nat) {oi:Oper} {v:Value} {fuel:Nat} {listed:Array Bool} {a:Act} {w:World} (hi:ops[i]?=some oi) (hd:oi.dst=some d)
 (hs:Region.noSelect ops=true) (hl:ops[z]?=none) (hf:Region.free md ops listed i=true) (hr:(Region.ready md ops listed).contains i=true)
 (hQ:∀c a w,Q (.panic c) (a.put (some d) v) w→Q (.panic c) a w) (hy:YieldsIf P ops S oi v a) (hS:S w)
 (h:jk P md ops Q S z fuel (listed.setIfInBounds i true) (a.put (some d) v) w):jk P md ops Q S z (fuel+1) listed a w:=
 aeT hi (Region.noSelect_spec hs) hl (by rw[hd];exact hQ) fuel listed a w (Region.free_spec hi hf) (by simpa using hr) hy hS (by rw[hd];exact h)
theorem aY (i d:Nat) {oi:Oper} {v:Value} {fuel:Nat} {listed:Array Bool} {a:Act} {w:World} (hi:ops[i]?=some oi) (hd:oi.dst=some d)
 (h:jk P md ops Q S z fuel (listed.setIfInBounds i true) (a.put (some d) v) w) (hy:YieldsIf P ops S oi v a:=by(refine .inl ⟨by rfl,?_⟩;intro w hSw;(try dsimp only at hSw);go_simp;(try with_reducible rfl)))
 (hs:Region.noSelect ops=true:=by kernel_rfl) (hl:ops[z]?=none:=by rfl) (hf:Region.free md ops listed i=true:=by kernel_rfl) (hr:(Region.ready md ops listed).contains i=true:=by kernel_rfl)
 (hQ:∀c a w,Q (.panic c) (a.put (some d) v) w→Q (.panic c) a w:=by exact fun _ _ _ h=>h) (hS:S w:=by assumption):jk P md ops Q S z (fuel+1) listed a w:=
 aeU i d hi hd hs hl hf hr hQ hy hS h
theorem mF {fuel:Nat} {listed:Array Bool} {a:Act} {w:World} (hr:Region.ready md ops listed=[]) (h:Q .normal a w):jk P md ops Q S z fuel listed a w:=by
 cases fuel with
 |zero=>exact⟨hr,h⟩
 |succ n=>exact⟨fun _=>h,by rw[hr];simp⟩
end
open Go.RowKit
section
variable {P:Program} {md:Region.Mode} {ops:Array Oper} {Q:Exit→Act→World→Prop} {S:World→Prop} {z:Nat}
theorem Xo {i j k:Nat} {o p q:Oper} {fuel:Nat} {listed:Array Bool} {a:Act} {w:World} (hr:Region.ready md ops listed=[i,j,k]) (ho:ops[i]?=some o) (hp:ops[j]?=some p) (hq:ops[k]?=some q)
 (h:∀K':Act→World→Prop,Shut (∀a w,S w→jk P md ops Q S z fuel (listed.setIfInBounds i true) a w→K' a w)→if Region.wanted o (yielded ops a.tmps)=true then Oper.wp P o a w K' Q else K' (a.put o.dst undef) w)
 (g:∀K':Act→World→Prop,Shut (∀a w,S w→jk P md ops Q S z fuel (listed.setIfInBounds j true) a w→K' a w)→if Region.wanted p (yielded ops a.tmps)=true then Oper.wp P p a w K' Q else K' (a.put p.dst undef) w)
 (l:∀K':Act→World→Prop,Shut (∀a w,S w→jk P md ops Q S z fuel (listed.setIfInBounds k true) a w→K' a w)→if Region.wanted q (yielded ops a.tmps)=true then Oper.wp P q a w K' Q else K' (a.put q.dst undef) w):
 jk P md ops Q S z (fuel+1) listed a w:=
 ⟨fun h0=>(by rw[hr]at h0;cases h0),fun x hx=>by
   rw[hr]at hx
   rcases List.mem_cons.1 hx with rfl|hx
   ·exact wpOp_step ho fun K' hK=>h K' fun a w hS hW=>hK a w ⟨.inr hS,hW⟩
   rcases List.mem_cons.1 hx with rfl|hx
   ·exact wpOp_step hp fun K' hK=>g K' fun a w hS hW=>hK a w ⟨.inr hS,hW⟩
   ·obtain rfl:x=k:=by simpa using hx
    exact wpOp_step hq fun K' hK=>l K' fun a w hS hW=>hK a w ⟨.inr hS,hW⟩⟩
end
open Go.RowKit
theorem oG.put {Q:Nat→Prop} {w:World} {b n:Nat} {l:List aU} (h:oG Q w b n l) {k:Nat} (hk:k<n) (q:aU) (hes:q.es=[]) (hq:eF Q w q) (hg:Good q.g) (hQ:∀k,Q k→k≠b):
 oG Q (((w.setCell ⟨b,k*3,none⟩ q.ev).setCell ⟨b,k*3+1,none⟩ q.kv).setCell ⟨b,k*3+2,none⟩ q.cv) b n (l.set k q)∧aj (fun x=>x=b) w (((w.setCell ⟨b,k*3,none⟩ q.ev).setCell ⟨b,k*3+1,none⟩ q.kv).setCell ⟨b,k*3+2,none⟩ q.cv):=by
 have hp1:=eY (eY (eY h.blk (k*3) q.ev) (k*3+1) q.kv) (k*3+2) q.cv
 have f1:=((aj.setCell (S:=fun x=>x=b) w (p:=⟨b,k*3,none⟩) (.inl rfl) q.ev).trans (aj.setCell (S:=fun x=>x=b) _ (p:=⟨b,k*3+1,none⟩) (.inl rfl) q.kv) fun _ _ h=>h).trans (aj.setCell (S:=fun x=>x=b) _ (p:=⟨b,k*3+2,none⟩) (.inl rfl) q.cv) fun _ _ h=>h
 generalize ((w.setCell ⟨b,k*3,none⟩ q.ev).setCell ⟨b,k*3+1,none⟩ q.kv).setCell ⟨b,k*3+2,none⟩ q.cv=w1 at*
 have ft:∀x,x<w.heap.size→Q x→w1.heap[x]?=w.heap[x]?∧Q x:=fun x hx hl=>⟨f1.block x hx (hQ x hl),hl⟩
 refine⟨⟨by rw[List.length_set];exact h.len,?_,fun q' hq'=>?_⟩,f1⟩
 ·rw[hp1,KX _ _ _ (by rw[h.len];exact hk)]
  simp
 ·rcases List.mem_or_eq_of_mem_set hq' with h1|h1
  ·obtain⟨g1,g2,g3⟩:=h.each q' h1
   exact⟨g1,g2.turn ft,g3⟩
  ·subst h1
   exact⟨hes,hq.turn ft,hg⟩
section
variable {L:Nat→Prop} {w w':World} {b n vb:Nat} {sv:Value} {vs:List aU} {rs:List bC}
theorem dW.aeV (h:dW L w b n vb sv vs rs) {nb:Nat} {ns:List aU} (hr:oG (fun k=>¬L k) w nb n ns) (hL:¬L nb):
 dW L (w.setCell ⟨b,0,none⟩ (.slice (some ⟨nb,0,none⟩) n n)) b n nb sv ns rs∧aj L w (w.setCell ⟨b,0,none⟩ (.slice (some ⟨nb,0,none⟩) n n)):=by
 have f:=aj.setCell (S:=fun x=>x=b) w (p:=⟨b,0,none⟩) (.inl rfl) (.slice (some ⟨nb,0,none⟩) n n)
 have hbox:=eY h.box 0 (.slice (some ⟨nb,0,none⟩) n n)
 generalize w.setCell ⟨b,0,none⟩ (.slice (some ⟨nb,0,none⟩) n n)=w1 at*
 have ft:∀x,x<w.heap.size→¬L x→w1.heap[x]?=w.heap[x]?∧¬L x:=fun x hx hl=>⟨f.block x hx fun e=>hl (e▸h.bL),hl⟩
 have fo:∀ {k:Nat} {o:Array Value} {t:TypeId},w.heap[k]?=some (.cells o t (0,0))→t≠81→w1.heap[k]?=w.heap[k]?:=fun hk h2=>f.block _ (lt_of_block hk) (iO hk h.box h2)
 have own:w1.ownsRow 0 86 3 sv rs.length ((rs.map (bC.q n)).flatMap cO.cells):=by
  refine f.owns h.own fun x hx e=>?_
  rcases h.own.2 with⟨h1,_⟩|⟨g',cap',cur,h1,_,h2,_⟩
  ·rw[h1]at hx;simp[Value.ownBlock]at hx
  ·rw[h1]at hx
   have:g'=x:=by simpa[Value.ownBlock]using hx
   subst this
   exact iO h2 h.box (by decide) e
 exact⟨⟨h.n1,h.n4,fun x hx=>Nat.lt_of_lt_of_le (h.Ls x hx) f.size,hbox,h.bL,hr.turn ft (fo hr.blk (by decide)),hL,own,h.sL,fun r hr'=>(h.jJ r hr').turn ft (fun _ h=>h) (fo (h.jJ r hr').part.blk (by decide)) (fo (h.jJ r hr').is (by decide)),h.pd,h.CB,h.ids,h.few⟩,f.mono fun x _ e=>e▸h.bL⟩
theorem Ib {l:List aU} {k:Nat} (h:k<l.length):(l.flatMap aU.cells).toArray[k*3]?=some (l.getD k default).ev∧(l.flatMap aU.cells).toArray[k*3+1]?=some (l.getD k default).kv∧(l.flatMap aU.cells).toArray[k*3+2]?=some (l.getD k default).cv:=by
 simpa using wG l k h
noncomputable def wI (a b:List bY) (n j:Nat):List bY:=(List.range n).map fun x=>if x<j then fK (a.getD x dD) (b.getD x dD)else dD
theorem aeW (a b:List bY) (n:Nat):wI a b n 0=List.replicate n dD:=by
 unfold wI
 simp[List.map_const']
theorem aeX (a b:List bY) {n j:Nat} (h:j<n):wI a b n (j+1)=(wI a b n j).set j (fK (a.getD j dD) (b.getD j dD)):=by
 refine List.ext_getElem (by simp[wI]) fun i h1 h2=>?_
 simp only[wI,List.getElem_map,List.getElem_range,List.getElem_set]
 by_cases e:j=i
 ·subst e;simp
 ·rw[if_neg e]
  have:(i<j+1)↔(i<j):=by omega
  simp only[this]
theorem aeY (a b:List bY) {n:Nat} (ha:a.length=n) (hb:b.length=n):wI a b n n=List.zipWith fK a b:=by
 refine List.ext_getElem (by simp[wI,ha,hb]) fun i h1 h2=>?_
 have hi:i<n:=by simpa[wI]using h1
 simp only[wI,List.getElem_map,List.getElem_range,if_pos hi,List.getElem_zipWith]
 rw[getD_at _ (by omega),getD_at _ (by omega)]
theorem vI {l:List aU} {k:Nat} (h:k<l.length):(l.map aU.g).getD k dD=(l.getD k default).g:=by
 rw[getD_at _ (by rw[List.length_map];exact h),getD_at _ h,List.getElem_map]
theorem aeZ (ks ks':aT) (c c':bD):sJ [] ks c [] ks' c'=([],rP (ks,c) (ks',c')):=Hu (ks,c) (ks',c')
theorem Xp (h:dW L w b n vb sv vs rs) (x:Int) (i:Nat) (hi:i<rs.length) (hp:dG x (rs.map bC.id)=i) (hall:lC (rs.getD i default).is=n)
 (hsz:∀j,j<n→dQ (vs.getD j default).g+dQ ((rs.getD i default).part.getD j default).g≤2000∧(vs.getD j default).g.2.length+((rs.getD i default).part.getD j default).g.2.length≤2000):
 Calls Tryz.prog 17 #[.pointer (some ⟨b,0,none⟩), .int .i64 x] w fun e w'=>e= .returned (.int .i64 0)∧∃qR sv' ns,aj L w w'∧dW L w' b n qR sv' ns (rs.eraseIdx i)∧ns.map aU.g=List.zipWith fK (vs.map aU.g) ((rs.getD i default).part.map aU.g):=by
 obtain⟨r,hr⟩:∃r,rs.getD i default=r:=⟨_,rfl⟩
 rw[hr]at hall hsz⊢
 have hs:∀W,aj aF w W→EG L W n r:=fun W f=>hr▸(h.aS f).jJ _ (getD_mem default hi)
 have hn1:=h.n1
 have hn4:=h.n4
 have hfew:=h.few
 have hlq:(rs.map (bC.q n)).length=rs.length:=List.length_map ..
 obtain⟨g0,g1,g2⟩:=uz (rs.map (bC.q n)) i (by rw[hlq];exact hi)
 rw[Hz hi,hr]at g1
 have EH:=Aw n rs
 have HM:=ah (fun W (f:aj aF w W)=>(show Calls Tryz.prog 21 #[.pointer (some ⟨b,0,none⟩), .int .i64 x] W fun e w'=>e= .returned (.int .i64 n)∧aj aF W w' from by
  have:=WR x (rs.map (bC.q n)) b W sv (h.aS f).rd vH (by rw[hlq];omega) (h.aS f).pq i r.is (by rw[EH];exact hp) (by rw[hlq];exact hi) (by rw[Hz hi,hr];show Rd W (.slice (some ⟨r.ib,0,none⟩) n n) _ _;rw[(hs W f).o_];exact Rd.Au (hs W f).is (by simp only[maxLen];omega)) (by rw[(hs W f).o_];omega)
  rwa [hall]at this))
 have HA:=ah (fun W (f:aj aF w W)=>(show Calls Tryz.prog 38 #[.pointer (some ⟨b,0,none⟩), .int .i64 x] W fun e w'=>e= .returned (.int .i64 i)∧aj aF W w' from by
  have:=Cm x (rs.map (bC.q n)) b W sv (h.aS f).rd vH (by rw[hlq];omega) (h.aS f).pq
  rwa [EH,hp]at this))
 have HST:=ah h
 have Xq:=ah hs
 have iC:=ah hsz
 have hm1:=Ht n hn1 hn4
 obtain⟨Z1,hZ1⟩:∃Z,Z=((jm n).flatMap aU.cells).toArray:=⟨_,rfl⟩
 rw[←hZ1]at hm1
 have HZ1:=ah hZ1;clear hZ1
 obtain⟨g,m,c,hl,rfl⟩:=h.shape hi
 have hkm:i≤m:=by omega
 have HD:=ah (fun W (hW:W.ownsRow 0 86 3 (.slice (some ⟨g,0,none⟩) (m+1) c) (m+1) ((rs.map (bC.q n)).flatMap cO.cells))=>WS (rs.map (bC.q n)) g m c i W hW (by rw[hlq];exact hl) vH hkm (by omega))
 have HXD:=ah (fun W W2 qR vs' (hW:dW L W b n qR (.slice (some ⟨g,0,none⟩) (m+1) c) vs' rs) f2 o2=>hW.drop (k:=i) (w2:=W2) f2 o2 hl hkm)
 have Lc:=ah g1
 have nO:=ah hl
 have hm4:m≤1000:=by omega
 clear h hs hsz hall hp EH hlq g0 g1 g2 hr hi hl hfew
 obtain⟨α,hne,K,hK1,hK0,hK2⟩:=worlds w
 have dS:=ah hK1
 have k0:∀s,(K s).cell? ⟨b,0,none⟩=some (.slice (some ⟨vb,0,none⟩) n n):=fun s=>(HST.out.aS (hK1 s)).mX
 clear hK1
 go_enter Tryz.func17,Tryz.ntmps17
 go_wp2_with fail
 refine dX K (by kernel_rfl) (by kernel_rfl) hK0 ?_
 repeat(go_big_quiet_step ((go_at_call 21;exact Calls.bT hK2 (HM.out _ (dS.out _)))))
 refine wpQuiet_nil ?_
 intro w1 hw1
 obtain⟨s,rfl⟩:=hw1
 have dN:=ah (dS.out s)
 clear k0 hK0 hK2 dS
 generalize K s=W1 at*
 clear HM
 go_upto_region 7 with(go_at_call 38;refine(HA.out _ dN.out).mono ?_;rintro e W2 ⟨rfl,hf2⟩;have HF2:=ah (dN.out.aH hf2);clear hf2;have y0:=(HST.out.aS HF2.out).mX;have hb0:=World.block_lt_of_cell? _ _ y0)
 have Xr:=ah (heap_alloc_new W2 (.cells Z1 32))
 have HF3:=ah (HF2.out.alloc1 (o:= .cells Z1 32))
 have hz2:=HF2.out.size
 obtain⟨nb,hnb⟩:∃nb,nb=W2.heap.size:=⟨_,rfl⟩
 rw[←hnb]at Xr hz2⊢
 have hz3:nb<(W2.alloc (.cells Z1 32)).heap.size:=by rw[hnb];simp
 generalize W2.alloc (.cells Z1 32)=W3 at*
 clear y0 hb0 hnb HF2 dN HA
 have y1:=(HST.out.aS HF3.out).pq
 have y2:W3.cell? ⟨g,i*3+1,none⟩=some (.slice (some ⟨r.pb,0,none⟩) n n):=by
  have:=(HST.out.aS HF3.out).own.cells (g:=g) rfl (i*3+1) _ Lc.out
  rwa [addr_add,Nat.zero_add]at this
 have hb1:=World.block_lt_of_cell? _ _ y1
 have hb2:=World.block_lt_of_cell? _ _ y2
 have him:(i:Int)<(m:Int)+1:=by omega
 go_wp2
 go_loopw [38] (fun iv W=>∃(j:Nat) (ns:List aU),j≤n∧iv= .int .i64 j∧aj aF w W∧oG (fun k=>w.heap.size≤k∧k≠nb) W nb n ns∧ns.map aU.g=wI (vs.map aU.g) (r.part.map aU.g) n j) (fun iv _=>n-(intOf iv).toNat)
 case atStart=>exact⟨0,jm n,by omega,rfl,HF3.out,La (by rw[←HZ1.out];exact Xr.out),by rw[aeW];unfold jm;rw[List.map_replicate];rfl⟩
 case round=>
  obtain⟨j,ns,hj,rfl,hfw,hns,hg⟩:=hrel
  clear y1 y2 hb1 hb2
  have eX:=ah hfw
  have CJ:=ah hns
  have HG:=ah hg
  have hnl:=lt_of_block hns.blk
  clear hfw hns hg
  by_cases hlt:j<n
  ·have yh:=ah (HST.out.aS eX.out).vis
   have lJ:=ah (Xq.out _ eX.out).part
   have Ld:j<vs.length:=by rw[yh.out.len];exact hlt
   have hjp:j<r.part.length:=by rw[lJ.out.len];exact hlt
   obtain⟨v0,v1,v2⟩:=Ib Ld
   obtain⟨p0,p1,p2⟩:=Ib hjp
   obtain⟨e1,hq1,hg1⟩:=yh.out.each _ (getD_mem default Ld)
   obtain⟨e2,hq2,hg2⟩:=lJ.out.each _ (getD_mem default hjp)
   have hst:=aeX (vs.map aU.g) (r.part.map aU.g) hlt
   rw[vI Ld,vI hjp]at hst
   have hsz:=iC.out j hlt
   generalize hqa:vs.getD j default=qa at*
   generalize zq:r.part.getD j default=qb at*
   clear hqa zq
   obtain⟨es,ks,cc,ev,kv,cv⟩:=qa
   obtain⟨es',ks',cc',ev',kv',jI⟩:=qb
   have e1:es=[]:=e1
   have e2:es'=[]:=e2
   subst e1 e2
   have ha:∀W,aj aF wr W→dU (fun k=>¬L k) W ev kv cv [] ks cc:=fun W f=>(hq1.aS f).at_
   have hb:∀W,aj aF wr W→dU (fun k=>¬L k) W ev' kv' jI [] ks' cc':=fun W f=>(hq2.aS f).at_
   have hg1:Good (ks,cc):=hg1
   have hg2:Good (ks',cc'):=hg2
   obtain⟨a0,c0,a1,c1,a2,c2,rfl,rfl,rfl⟩:=(ha wr (aj.refl _ _)).shape
   obtain⟨d0,k0,d1,k1,d2,k2,rfl,rfl,rfl⟩:=(hb wr (aj.refl _ _)).shape
   have wB:=ah (fun W (f:aj aF wr W)=>(show Calls Tryz.prog 22 #[.agg #[.slice a0 0 c0, .slice a1 ks.len c1, .slice a2 cc.length c2], .agg #[.slice d0 0 k0, .slice d1 ks'.len k1, .slice d2 cc'.length k2]] W fun e w'=>∃ev kv cv,e= .returned (.tuple #[.agg #[ev,kv,cv], .int .i64 0])∧bZ (fun b=>W.heap.size≤b) w' ev kv [] (rP (ks,cc) (ks',cc'))∧OwnAt W w' 92 3 cv (yg cc cc').length (dY (yg cc cc'))from by
    refine(adl _ _ [] ks cc [] ks' cc' W _ _ _ _ _ _ (ha W f) (hb W f) hg1.ok hg2.ok hg1.right hg2.right).mono fun e w' hp=>?_
    obtain⟨ev,kv,cv,u,he,h1,h2,h3⟩:=hp
    rw[aeZ]at h1
    rw[←Ql h3]at h2
    exact⟨ev,kv,cv,he,h1,h2⟩))
   have hgj:=Qo hg1 hg2 hsz.1 hsz.2
   have HGJ:=ah hgj
   have Qy:=ah hst
   have z0:=(HST.out.aS eX.out).mX
   have z1:=aG yh.out.blk (j*3) v0
   have z2:=aG yh.out.blk (j*3+1) v1
   have z3:=aG yh.out.blk (j*3+2) v2
   have z4:=aG lJ.out.blk (j*3) p0
   have z5:=aG lJ.out.blk (j*3+1) p1
   have z6:=aG lJ.out.blk (j*3+2) p2
   have hl0:=World.block_lt_of_cell? _ _ z0
   have hl1:=World.block_lt_of_cell? _ _ z1
   have hl4:=World.block_lt_of_cell? _ _ z4
   have hjn:(j:Int)<(n:Int):=by omega
   clear Ld hjp v0 v1 v2 p0 p1 p2 hq1 hq2 hg1 hg2 hst hsz ha hb hgj
   have iE:=ah (⟨iO (HST.out.aS eX.out).box CJ.out.blk (by decide),fun e=>by have:=lt_of_block HST.out.vis.blk;omega,fun e=>by omega⟩:b≠nb∧vb≠nb∧wr.heap.size≠nb)
   have dJ:=ah (fun N Y Y' (f:aj N Y Y') (hn:¬N b∧¬N vb∧¬N wr.heap.size) (hS:Y.cell? ⟨b,0,none⟩=some (.slice (some ⟨vb,0,none⟩) n n)∧Y.cell? ⟨vb,j*3,none⟩=some (.slice a0 0 c0)∧Y.cell? ⟨vb,j*3+1,none⟩=some (.slice a1 ks.len c1)∧Y.cell? ⟨vb,j*3+2,none⟩=some (.slice a2 cc.length c2)∧Y.cell? ⟨wr.heap.size,0,none⟩=some (.slice d0 0 k0)∧Y.cell? ⟨wr.heap.size,1,none⟩=some (.slice d1 ks'.len k1)∧Y.cell? ⟨wr.heap.size,2,none⟩=some (.slice d2 cc'.length k2))=>
    (⟨f.cell' hS.1 hn.1,f.cell' hS.2.1 hn.2.1,f.cell' hS.2.2.1 hn.2.1,f.cell' hS.2.2.2.1 hn.2.1,f.cell' hS.2.2.2.2.1 hn.2.2,f.cell' hS.2.2.2.2.2.1 hn.2.2,f.cell' hS.2.2.2.2.2.2 hn.2.2⟩:Y'.cell? ⟨b,0,none⟩=some (.slice (some ⟨vb,0,none⟩) n n)∧Y'.cell? ⟨vb,j*3,none⟩=some (.slice a0 0 c0)∧Y'.cell? ⟨vb,j*3+1,none⟩=some (.slice a1 ks.len c1)∧Y'.cell? ⟨vb,j*3+2,none⟩=some (.slice a2 cc.length c2)∧Y'.cell? ⟨wr.heap.size,0,none⟩=some (.slice d0 0 k0)∧Y'.cell? ⟨wr.heap.size,1,none⟩=some (.slice d1 ks'.len k1)∧Y'.cell? ⟨wr.heap.size,2,none⟩=some (.slice d2 cc'.length k2)))
   have fa:=aj.alloc aF wr (.cells #[.slice d0 0 k0, .slice d1 ks'.len k1, .slice d2 cc'.length k2] 32)
   have ba:=heap_alloc_new wr (.cells #[.slice d0 0 k0, .slice d1 ks'.len k1, .slice d2 cc'.length k2] 32)
   have dH:=dJ.out aF _ _ (aj.drew aF _) ⟨id,id,id⟩ ⟨fa.cell' z0 id,fa.cell' z1 id,fa.cell' z2 id,fa.cell' z3 id,aG ba 0 rfl,aG ba 1 rfl,aG ba 2 rfl⟩
   have gK:=ah (fa.aH (aj.drew aF _))
   clear fa ba
   go_upto_region 10 with fail
   clear z0 z1 z2 z3 z4 z5 z6 hl0 hl1 hl4
   refine iq (S:=fun Y=>Y.cell? ⟨b,0,none⟩=some (.slice (some ⟨vb,0,none⟩) n n)∧Y.cell? ⟨vb,j*3,none⟩=some (.slice a0 0 c0)∧Y.cell? ⟨vb,j*3+1,none⟩=some (.slice a1 ks.len c1)∧Y.cell? ⟨vb,j*3+2,none⟩=some (.slice a2 cc.length c2)∧Y.cell? ⟨wr.heap.size,0,none⟩=some (.slice d0 0 k0)∧Y.cell? ⟨wr.heap.size,1,none⟩=some (.slice d1 ks'.len k1)∧Y.cell? ⟨wr.heap.size,2,none⟩=some (.slice d2 cc'.length k2)) 16 (by kernel_rfl) dH ?_
   clear dH
   intro hS
   generalize World.drew _=Y0 at*
   refine aY 0 44 rfl rfl ?_
   refine aY 1 45 rfl rfl ?_
   try simp only[Act.put,aO,aN,aJ]
   refine aY 2 46 rfl rfl ?_
   refine aY 3 47 rfl rfl ?_
   try simp only[Act.put,aO,aN,aJ]
   refine aY 4 48 rfl rfl ?_
   refine aY 5 49 rfl rfl ?_
   try simp only[Act.put,aO,aN,aJ]
   refine aY 6 50 rfl rfl ?_
   refine aY 7 51 rfl rfl ?_
   try simp only[Act.put,aO,aN,aJ]
   refine aY 8 52 rfl rfl ?_
   refine aY 9 53 rfl rfl ?_
   try simp only[Act.put,aO,aN,aJ]
   refine bg (i:=10) (by kernel_rfl) rfl (fun K hK=>?_)
   go_simp
   refine(wB.out _ gK.out).mono ?_
   rintro e Y1 ⟨uX,jV,mW,rfl,hta,ho3⟩
   obtain⟨a3,c3,rfl⟩:=hta.ents.rd.sl
   obtain⟨uy,kH,-⟩:=hta.kids
   obtain⟨a5,c5,rfl⟩:=kH.rd.sl
   obtain⟨a6,c6,rfl⟩:=ho3.shape
   have hs1:=gK.out.size
   have hf1:=gK.out.aH ho3.aI
   have hput:=(CJ.out.turn (w':=Y1) (Q':=fun k=>w.heap.size≤k∧k≠nb) (fun k hk hQ=>⟨hf1.block k hk id,hQ⟩) (hf1.block _ hnl id)).put hlt ⟨[],rP (ks,cc) (ks',cc'),yg cc cc',_,_,_⟩ rfl ⟨hta.turn (Q':=fun k=>w.heap.size≤k∧k≠nb) fun k hk hQ=>⟨rfl,by have:=eX.out.size;omega,by omega⟩,ho3.rd,fun _ k hk=>by have:=ho3.new k hk;have:=eX.out.size;exact⟨by omega,by omega⟩⟩ HGJ.out (fun k hQ=>hQ.2)
   have EI:=ah hput
   have bJ:=ah (eX.out.aH hf1)
   have jr:=ah (hf1.blk CJ.out.blk id)
   have hS1:=dJ.out aF _ _ ho3.aI ⟨id,id,id⟩ hS
   refine hK.out _ _ hS1 ?_
   clear hK K hS kH hta ho3 hs1 hput hf1
   have hS:=hS1
   clear hS1
   try simp only[Act.put,aO,aN,aJ]
   refine aY 11 43 rfl rfl ?_
   refine aY 12 55 rfl rfl ?_
   try simp only[Act.put,aO,aN,aJ]
   refine aY 13 56 rfl rfl ?_
   refine aY 14 57 rfl rfl ?_
   try simp only[Act.put,aO,aN,aJ]
   refine bg (i:=15) (by kernel_rfl) rfl (fun K hK=>?_)
   have hjl:j<ns.length:=by rw[CJ.out.len];exact hlt
   obtain⟨q0,q1,q2⟩:=Ib hjl
   have z0:=aG jr.out (j*3) q0
   have z1:=aG jr.out (j*3+1) q1
   have z2:=aG jr.out (j*3+2) q2
   have e0:=aW jr.out (j*3)
   have e1:=aW jr.out (j*3+1)
   have e2:=aW jr.out (j*3+2)
   have hbl:=lt_of_block jr.out
   clear q0 q1 q2 hjl
   go_simp
   refine hK.out _ _ (dJ.out _ _ _ EI.out.2 iE.out hS) ?_
   clear hK K hS z0 z1 z2 e0 e1 e2 hbl
   refine mF (by kernel_rfl) ?_
   go_wp2
   go_roundw
   case rel=>
    refine⟨j+1,_,by omega,by go_num,?_,EI.out.1,?_⟩
    ·exact bJ.out.trans EI.out.2 fun k hk e=>by omega
    ·rw[List.map_set,HG.out,Qy.out];rfl
   case measure=>simp[intOf];omega
  ·obtain rfl:j=n:=by omega
   have hsh:=(HST.out.aS eX.out).aeV (CJ.out.turn (Q':=fun k=>¬L k) (fun k hk hQ=>⟨rfl,fun hl=>by have:=HST.out.Ls k hl;omega⟩) rfl) (fun hl=>by have:=HST.out.Ls _ hl;omega)
   have Ah:=ah hsh
   have z0:=(HST.out.aS eX.out).mX
   have e0:=aW (HST.out.aS eX.out).box 0
   have hl0:=World.block_lt_of_cell? _ _ z0
   have z1:=hsh.1.pq
   have e1:=aW hsh.1.box 1
   have HOW:=ah (nO.out▸hsh.1.own)
   clear hsh
   have HZA:=ah (show ns.map aU.g=List.zipWith fK (vs.map aU.g) (r.part.map aU.g) by rw[HG.out];exact aeY _ _ (by rw[List.length_map];exact HST.out.vis.len) (by rw[List.length_map];exact(Xq.out _ eX.out).part.len))
   go_wp2_with(go_at_call 42;refine(HD.out _ HOW.out).mono ?_;rintro e w2 ⟨rfl,ho,hf⟩;clear z0 e0 hl0 z1 e1;have uj:=ah (HXD.out _ _ _ _ Ah.out.1 hf ho);clear hf ho;have y1:=aG uj.out.1 1 rfl;have g1:=aW uj.out.1 1;have hb1:=lt_of_block uj.out.1)
   go_ret
   exact⟨rfl,_,_,ns,((eX.out.mono fun _ _ h=>h.elim).trans Ah.out.2 fun _ _ h=>h).trans uj.out.2.2 fun _ _ h=>h,uj.out.2.1,HZA.out⟩
end
end Go.Proofs.YtlhmbkjdfjoilaaGreat
