/- Words for the law ShSet: Sh10, HeldNone, HeldThree, Sh12. -/
import Derived.Test.YtlhmbkjdfjoilaaGreatShSetG0
import Derived.Test.YtlhmbkjdfjoilaaGreatShSetG1
import Derived.Test.YtlhmbkjdfjoilaaGreatShSetG10
import Derived.Test.YtlhmbkjdfjoilaaGreatShSetG16
set_option linter.unusedSimpArgs false
set_option linter.unusedVariables false
set_option maxHeartbeats 32000000
set_option maxRecDepth 1000000
namespace Go.Proofs.YtlhmbkjdfjoilaaGreat
open Go.RowKit
instance:Inhabited gu:=⟨⟨0,[],[]⟩⟩
def qJ (s:gu) (k:Nat) (t:dG):gu:=⟨s.id,s.part.set k t,s.is.set k true⟩
def newS (n:Nat) (id:Int):gu:=⟨id,List.replicate n eU,List.replicate n false⟩
def pK (n:Nat) (id:Int) (k:Nat) (t:dG) (st:List gu):Int×List gu:=
 if fA id (st.map gu.id)=-1 then(if 4≤st.length then(4,st)else(0,(st++ [newS n id]).set st.length (qJ (newS n id) k t)))
 else if(st.getD (fA id (st.map gu.id)).toNat default).is.getD k false=true then(8,st)
 else(0,st.set (fA id (st.map gu.id)).toNat (qJ (st.getD (fA id (st.map gu.id)).toNat default) k t))
theorem qK (rs:List aW):(rs.map aW.con).map gu.id=rs.map aW.id:=by rw[List.map_map];rfl
theorem Aw {rs:List aW} {i:Nat} (h:i<rs.length):(rs.map aW.con).getD i default=(rs.getD i default).con:=by
 rw[getD_at _ (by rw[List.length_map];exact h),getD_at _ h,List.getElem_map]
theorem UK (l:List Bool) (k:Nat) (y:Bool):nO (l.set k y)=(nO l).set k (.bool y):=by unfold nO;rw[List.map_set]
theorem Az {α β:Type} {d:α} (f:α→β) {l:List α} {i:Nat} {x:α} (h:i<l.length) (hf:f x=f (l.getD i d)):(l.set i x).map f=l.map f:=by
 rw[List.map_set,hf,getD_at d h]
 have:f l[i]=(l.map f)[i]'(by rw[List.length_map];exact h):=by rw[List.getElem_map]
 rw[this,List.set_getElem_self]
section
variable {L:Nat→Prop} {w w':World} {b n vb:Nat} {sv:Value} {vs:List aU} {rs:List aW}
theorem cZ.put (h:cZ L w b n vb sv vs rs) {i k:Nat} (hi:i<rs.length) (hk:k<n) (q:aU) (hes:q.es=[]) (hq:fE (fun k=>¬L k) w q) (hg:Good q.g) {r:aW} (hr:rs.getD i default=r):
 cZ L ((((w.setCell ⟨r.pb,k*3,none⟩ q.ev).setCell ⟨r.pb,k*3+1,none⟩ q.kv).setCell ⟨r.pb,k*3+2,none⟩ q.cv).setCell ⟨r.ib,k,none⟩ (.bool true)) b n vb sv vs (rs.set i ⟨r.id,r.pb,r.ib,r.part.set k q,r.is.set k true⟩)∧
 aj L w ((((w.setCell ⟨r.pb,k*3,none⟩ q.ev).setCell ⟨r.pb,k*3+1,none⟩ q.kv).setCell ⟨r.pb,k*3+2,none⟩ q.cv).setCell ⟨r.ib,k,none⟩ (.bool true)):=by
 have hs:vO L w n r:=h.jY r (by rw[←hr];exact getD_mem _ hi)
 have hpi:r.pb≠r.ib:=gY hs.part.blk hs.is (by decide)
 have hp1:=fF (fF (fF hs.part.blk (k*3) q.ev) (k*3+1) q.kv) (k*3+2) q.cv
 obtain⟨w1,hw1⟩:∃w1,w1=((w.setCell ⟨r.pb,k*3,none⟩ q.ev).setCell ⟨r.pb,k*3+1,none⟩ q.kv).setCell ⟨r.pb,k*3+2,none⟩ q.cv:=⟨_,rfl⟩
 have f1:aj (fun x=>x=r.pb) w w1:=by
  rw[hw1]
  exact((aj.setCell (S:=fun x=>x=r.pb) w (p:=⟨r.pb,k*3,none⟩) (.inl rfl) _).trans (aj.setCell (S:=fun x=>x=r.pb) _ (p:=⟨r.pb,k*3+1,none⟩) (.inl rfl) _) fun _ _ h=>h).trans (aj.setCell (S:=fun x=>x=r.pb) _ (p:=⟨r.pb,k*3+2,none⟩) (.inl rfl) _) fun _ _ h=>h
 rw[←hw1]at hp1⊢
 have hi1:=fF (f1.blk hs.is hpi.symm) k (.bool true)
 have f2:aj (fun x=>x=r.pb∨x=r.ib) w (w1.setCell ⟨r.ib,k,none⟩ (.bool true)):=(f1.mono (T:=fun x=>x=r.pb∨x=r.ib) fun _ _ e=> .inl e).trans (aj.setCell (S:=fun x=>x=r.pb∨x=r.ib) w1 (p:=⟨r.ib,k,none⟩) (.inl (.inr rfl)) _) fun _ _ h=>h
 have hp2:=(aj.setCell (S:=fun x=>x=r.ib) w1 (p:=⟨r.ib,k,none⟩) (.inl rfl) (.bool true)).blk hp1 hpi
 generalize w1.setCell ⟨r.ib,k,none⟩ (.bool true)=w3 at*
 have ft:∀x,x<w.heap.size→¬L x→w3.heap[x]?=w.heap[x]?∧¬L x:=fun x hx hl=>⟨f2.block x hx fun e=>hl (e.elim (fun e=>e▸hs.pL) fun e=>e▸hs.iL),hl⟩
 have fo:∀ {x:Nat} {o:Array Value} {t:TypeId},w.heap[x]?=some (.cells o t (0,0))→x≠r.pb→x≠r.ib→w3.heap[x]?=w.heap[x]?:=fun hx h1 h2=>f2.block _ (lt_of_block hx) fun e=>e.elim h1 h2
 have own:w3.ownsRow 0 86 3 sv rs.length ((rs.map (aW.q n)).flatMap bK.cells):=by
  refine f2.owns h.own fun x hx e=>?_
  rcases h.own.2 with⟨h1,_⟩|⟨g',cap',cur,h1,_,h2,_⟩
  ·rw[h1]at hx;simp[Value.ownBlock]at hx
  ·rw[h1]at hx
   have:g'=x:=by simpa[Value.ownBlock]using hx
   subst this
   exact e.elim (gY h2 hs.part.blk (by decide)) (gY h2 hs.is (by decide))
 have hvp:vb≠r.pb:=fun e=>h.vL (e▸hs.pL)
 refine⟨⟨h.n1,h.n4,fun x hx=>Nat.lt_of_lt_of_le (h.Ls x hx) f2.size,(fo h.box (gY h.box hs.part.blk (by decide)) (gY h.box hs.is (by decide))).trans h.box,h.bL,h.vis.turn ft (fo h.vis.blk hvp (gY h.vis.blk hs.is (by decide))),h.vL,?_,h.sL,fun r' hr'=>?_,?_,?_,?_,by rw[List.length_set];exact h.few⟩,f2.mono fun x _ e=>e.elim (fun e=>e▸hs.pL) fun e=>e▸hs.iL⟩
 ·rw[List.length_set,Az (d:=default) (aW.q n) hi (by rw[hr];rfl)]
  exact own
 ·obtain⟨j,hj,rfl⟩:=List.getElem_of_mem hr'
  rw[List.length_set]at hj
  rw[List.getElem_set]
  by_cases e:i=j
  ·rw[if_pos e]
   refine⟨⟨by rw[List.length_set];exact hs.part.len,?_,fun q' hq'=>?_⟩,by rw[List.length_set];exact hs.rV,?_,hs.pL,hs.iL⟩
   ·rw[hp2,Et _ _ _ (by rw[hs.part.len];exact hk)]
    simp
   ·rcases List.mem_or_eq_of_mem_set hq' with h1|h1
    ·obtain⟨g1,g2,g3⟩:=hs.part.each q' h1
     exact⟨g1,g2.turn ft,g3⟩
    ·subst h1
     exact⟨hes,hq.turn ft,hg⟩
   ·rw[hi1,UK]
    simp
  ·rw[if_neg e]
   have hsj:=h.jY rs[j] (List.getElem_mem hj)
   have wM:r=rs[i]:=by rw[←hr,getD_at _ hi]
   have hpn:rs[j].pb≠r.pb:=fun e2=>e<|by
    have:=(List.getElem_inj (xs:=rs.map aW.pb) (h₀:=by rw[List.length_map];exact hi) (h₁:=by rw[List.length_map];exact hj) h.pd).1 (by simp only[List.getElem_map];rw[e2,wM])
    exact this
   have hin:rs[j].ib≠r.ib:=fun e2=>e<|by
    have:=(List.getElem_inj (xs:=rs.map aW.ib) (h₀:=by rw[List.length_map];exact hi) (h₁:=by rw[List.length_map];exact hj) h.vP).1 (by simp only[List.getElem_map];rw[e2,wM])
    exact this
   exact hsj.turn ft (fun _ h=>h) (fo hsj.part.blk hpn (gY hsj.part.blk hs.is (by decide))) (fo hsj.is (gY hsj.is hs.part.blk (by decide)) hin)
 ·rw[Az (d:=default) aW.pb hi (by rw[hr])];exact h.pd
 ·rw[Az (d:=default) aW.ib hi (by rw[hr])];exact h.vP
 ·rw[Az (d:=default) aW.id hi (by rw[hr])];exact h.ids
def rW (n:Nat) (id:Int) (pb ib:Nat):aW:=⟨id,pb,ib,je n,List.replicate n false⟩
theorem KU (n:Nat) (id:Int) (pb ib:Nat):(rW n id pb ib).con=newS n id:=by
 unfold rW aW.con newS je
 rw[List.map_replicate]
 rfl
def grown (L:Nat→Prop) (pb ib:Nat) (sv:Value) (k:Nat):Prop:=L k∨k=pb∨k=ib∨sv.ownBlock=some k
theorem EN {Q:Nat→Prop} {w:World} {b n:Nat} (h:w.heap[b]?=some (.cells ((je n).flatMap aU.cells).toArray 32 (0,0))):oh Q w b n (je n):=
 ⟨by simp[je],h,fun q hq=>by
   have:q=default:=List.eq_of_mem_replicate hq
   subst this
   refine⟨rfl,⟨⟨⟨.inl ⟨none,rfl,rfl,rfl⟩,fun h=>absurd rfl h⟩,[],⟨.inl ⟨none,rfl,rfl,rfl⟩,fun h=>absurd rfl h⟩,rfl⟩, .inl ⟨none,rfl,rfl,rfl⟩,fun h=>absurd rfl h⟩,EG⟩⟩
theorem cZ.grow (h:cZ L w b n vb sv vs rs) {w1 w2:World} {pb ib c:Nat} {ad:Option Addr} {id:Int} (f1:aj au w w1) (hpb:w.heap.size≤pb) (hib:w.heap.size≤ib)
 (bp:w1.heap[pb]?=some (.cells ((je n).flatMap aU.cells).toArray 32 (0,0))) (bi:w1.heap[ib]?=some (.cells (nO (List.replicate n false)).toArray 4 (0,0)))
 (f2:aj (dh sv) w1 w2) (hfr:jr w1 sv (.slice ad (rs.length+1) c))
 (own:w2.ownsRow 0 86 3 (.slice ad (rs.length+1) c) (rs.length+1) ((rs.map (aW.q n)).flatMap bK.cells++ [.int .i64 id, .slice (some ⟨pb,0,none⟩) n n, .slice (some ⟨ib,0,none⟩) n n]))
 (hnew:id∉rs.map aW.id) (hlen:rs.length<4):
 w2.heap[b]?=some (.cells #[.slice (some ⟨vb,0,none⟩) n n,sv] 81 (0,0))∧
 cZ (grown L pb ib (.slice ad (rs.length+1) c)) (w2.setCell ⟨b,1,none⟩ (.slice ad (rs.length+1) c)) b n vb (.slice ad (rs.length+1) c) vs (rs++ [rW n id pb ib])∧
 Turned L w (grown L pb ib (.slice ad (rs.length+1) c)) (w2.setCell ⟨b,1,none⟩ (.slice ad (rs.length+1) c)):=by
 have hs1:=f1.size
 have hs2:=f2.size
 have KW:∀ {k},dh sv k→L k∧k<w.heap.size:=fun hk=>⟨h.sL _ hk,h.Ls _ (h.sL _ hk)⟩
 have h1:=h.aN f1
 have hbox:w2.heap[b]?=some (.cells #[.slice (some ⟨vb,0,none⟩) n n,sv] 81 (0,0)):=f2.blk h1.box fun s=>by
  rcases h1.own.2 with⟨g1,_⟩|⟨g',cap',cur,g1,_,g2,_⟩
  ·unfold dh at s;rw[g1]at s;simp[Value.ownBlock]at s
  ·unfold dh at s;rw[g1]at s
   have:g'=b:=by simpa[Value.ownBlock]using s
   subst this
   exact gY h1.box g2 (by decide) rfl
 have KX:∀ {k},w.heap.size≤k→¬dh sv k:=fun hk s=>by have:=(KW s).2;omega
 have UL:=f2.blk bp (KX hpb)
 have UM:=f2.blk bi (KX hib)
 have hbl:=lt_of_block h.box
 obtain⟨w3,hw3⟩:∃w3,w3=w2.setCell ⟨b,1,none⟩ (.slice ad (rs.length+1) c):=⟨_,rfl⟩
 have f3:aj (fun k=>k=b) w2 w3:=by rw[hw3];exact aj.setCell (S:=fun k=>k=b) w2 (p:=⟨b,1,none⟩) (.inl rfl) _
 have UN:w3.heap[b]?=some (.cells #[.slice (some ⟨vb,0,none⟩) n n, .slice ad (rs.length+1) c] 81 (0,0)):=by rw[hw3];exact fF hbox 1 _
 have hgo:∀g,(Value.slice ad (rs.length+1) c).ownBlock=some g→(L g∨w.heap.size≤g)∧∃cur,w2.heap[g]?=some (.cells cur 86 (0,0)):=fun g hg=>by
  refine⟨?_,?_⟩
  ·rcases hfr g hg with s|s
   ·exact .inl (h.sL _ s)
   ·exact .inr (by omega)
  ·rcases own.2 with⟨g1,_⟩|⟨g',cap',cur,g1,_,g2,_⟩
   ·rw[g1]at hg;simp[Value.ownBlock]at hg
   ·rw[g1]at hg
    have:g'=g:=by simpa[Value.ownBlock]using hg
    subst this
    exact⟨cur,g2⟩
 have uJ:w3.ownsRow 0 86 3 (.slice ad (rs.length+1) c) (rs.length+1) ((rs.map (aW.q n)).flatMap bK.cells++ [.int .i64 id, .slice (some ⟨pb,0,none⟩) n n, .slice (some ⟨ib,0,none⟩) n n]):=
  f3.owns own fun g hg e=>by
   obtain⟨_,cur,g2⟩:=hgo g hg
   exact gY g2 hbox (by decide) e
 have KY:=f3.blk UL (by omega)
 have KZ:=f3.blk UM (by omega)
 rw[←hw3]
 have EO:aj L w w3:=(((f1.mono (T:=L) fun _ _ h=>h.elim).trans f2 fun k hk s=>(KW s).1)).trans f3 fun k _ e=>by subst e;exact h.bL
 have ft:∀k,k<w.heap.size→¬L k→w3.heap[k]?=w.heap[k]?∧¬grown L pb ib (.slice ad (rs.length+1) c) k:=fun k hk hl=>⟨EO.block k hk hl,fun e=>by
  rcases e with e|e|e|e
  ·exact hl e
  ·omega
  ·omega
  ·rcases(hgo k e).1 with e|e
   ·exact hl e
   ·omega⟩
 have fo:∀ {k:Nat} {o:Array Value} {t:TypeId},w.heap[k]?=some (.cells o t (0,0))→t≠86→t≠81→w3.heap[k]?=w.heap[k]?:=fun {k o t} hk t1 t2=>by
  have hk1:=f1.blk hk (fun s=>s)
  have n2:¬dh sv k:=fun s=>by
   rcases h.own.2 with⟨g1,_⟩|⟨g',cap',cur,g1,_,g2,_⟩
   ·unfold dh at s;rw[g1]at s;simp[Value.ownBlock]at s
   ·unfold dh at s;rw[g1]at s
    have:g'=k:=by simpa[Value.ownBlock]using s
    subst this
    exact gY hk g2 t1 rfl
  have hk2:=f2.blk hk1 n2
  exact(f3.blk hk2 (gY hk2 hbox t2)).trans hk.symm
 refine⟨hbox,⟨h.n1,h.n4,fun k hk=>?_,UN, .inl h.bL,h.vis.turn ft (fo h.vis.blk (by decide) (by decide)),(ft vb (lt_of_block h.vis.blk) h.vL).2,?_,fun k hk=> .inr (.inr (.inr hk)),fun r hr=>?_,?_,?_,?_,by rw[List.length_append];simp;omega⟩,EO,fun k hk=>?_⟩
 ·have hs3:=EO.size
  have XM:=f3.size
  rcases hk with e|e|e|e
  ·have:=h.Ls k e;omega
  ·subst e;exact lt_of_block KY
  ·subst e;exact lt_of_block KZ
  ·obtain⟨_,cur,g2⟩:=hgo k e
   have:=lt_of_block g2
   omega
 ·rw[List.length_append,List.map_append,List.flatMap_append]
  exact uJ
 ·rcases List.mem_append.1 hr with hr|hr
  ·have hs:=h.jY r hr
   exact hs.turn ft (fun _ h=> .inl h) (fo hs.part.blk (by decide) (by decide)) (fo hs.is (by decide) (by decide))
  ·have:r=rW n id pb ib:=by simpa using hr
   subst this
   exact⟨EN KY,by simp[rW],KZ, .inr (.inl rfl), .inr (.inr (.inl rfl))⟩
 ·rw[List.map_append,List.nodup_append]
  refine⟨h.pd,by simp,fun x hx y hy e=>?_⟩
  obtain⟨r,hr,rfl⟩:=List.mem_map.1 hx
  have:y=pb:=by simpa[rW]using hy
  have:=lt_of_block (h.jY r hr).part.blk
  omega
 ·rw[List.map_append,List.nodup_append]
  refine⟨h.vP,by simp,fun x hx y hy e=>?_⟩
  obtain⟨r,hr,rfl⟩:=List.mem_map.1 hx
  have:y=ib:=by simpa[rW]using hy
  have:=lt_of_block (h.jY r hr).is
  omega
 ·rw[List.map_append,List.nodup_append]
  refine⟨h.ids,by simp,fun x hx y hy e=>?_⟩
  have:y=id:=by simpa[rW]using hy
  exact hnew (by rw[←this,←e];exact hx)
 ·rcases hk with e|e|e|e
  ·exact .inl e
  ·exact .inr (by omega)
  ·exact .inr (by omega)
  ·exact(hgo k e).1
end
open Go.RowKit
section
variable {P:Program} {md:Region.Mode} {ops:Array Oper} {Q:Exit→Act→World→Prop} {S:World→Prop} {z:Nat}
theorem UO {i:Nat} {oi:Oper} {v:Value} (hi:ops[i]?=some oi) (hsel:∀(j:Nat) (o:Oper) cs b,ops[j]?=some o→o.op≠ .select cs b) (hl:ops[z]?=none)
 (hQ:∀c a w,Q (.panic c) (a.put oi.dst v) w→Q (.panic c) a w):
 ∀(fuel:Nat) (listed:Array Bool) (a:Act) (w:World),
  (∀j oj,ops[j]?=some oj→j≠i→listed.getD j true=false→(∀e∈oj.after,Region.binds md e=true→e.on≠i)→oi.apart ops oj=true)→
  i∈Region.ready md ops listed→YieldsIf P ops S oi v a→S w→
  gy P md ops Q S z fuel (listed.setIfInBounds i true) (a.put oi.dst v) w→gy P md ops Q S z (fuel+1) listed a w:=by
 intro fuel
 induction fuel with
 |zero=>
  intro listed a w _ hr hy hS H
  refine⟨fun h=>(by rw[h]at hr;cases hr),fun j hj=>?_⟩
  by_cases hji:j=i
  ·subst hji;exact hy.wpOp hi hS ⟨.inr hS,H⟩
  ·have:=ready_mono hj hji
   rw[H.1]at this
   cases this
 |succ fuel ih=>
  intro listed a w hfree hr hy hS H
  refine⟨fun h=>(by rw[h]at hr;cases hr),fun j hj=>?_⟩
  by_cases hji:j=i
  ·subst hji;exact hy.wpOp hi hS ⟨.inr hS,H⟩
  ·have h1:=H.2 j (ready_mono hj hji)
   obtain⟨hjun,oj,hoj,hall⟩:=mem_ready.1 hj
   have hnot:∀e∈oj.after,Region.binds md e=true→e.on≠i:=fun e he hb heq=>by
    have h1:=hall e he hb
    have h0:=(mem_ready.1 hr).1
    rw[heq]at h1
    rcases Nat.lt_or_ge i listed.size with h'|h'
    ·simp[h']at h0 h1;rw[h0]at h1;cases h1
    ·simp[Array.getElem?_eq_none h']at h1
   have hjz:j≠z:=fun hz=>by
    subst hz
    rw[hl]at hoj
    cases hoj
   have h2:=wpOp_putIf hoj (hfree j oj hoj hji hjun hnot) (fun cs b=>hsel i oi cs b hi) (fun cs b=>hsel j oj cs b hoj) hQ hy h1
   have hfree':∀k ok,ops[k]?=some ok→k≠i→(listed.setIfInBounds j true).getD k true=false→
    (∀e∈ok.after,Region.binds md e=true→e.on≠i)→oi.apart ops ok=true:=fun k ok hk hki hun hno=>by
    refine hfree k ok hk hki ?_ hno
    by_cases hjk:j=k
    ·subst hjk;exact hjun
    ·rw[getD_set_ne true hjk]at hun;exact hun
   refine wpOp_mono (fun a' w' h3=>?_) h2
   have hS':S w':=h3.2.1.resolve_left hjz
   refine⟨.inr hS',ih (listed.setIfInBounds j true) a' w' hfree' (ready_mono hr (Ne.symm hji)) h3.1 hS' ?_⟩
   rw[Array.setIfInBounds_comm _ _ hji]
   exact h3.2.2
theorem dZ (i d:Nat) {oi:Oper} {v:Value} {fuel:Nat} {listed:Array Bool} {a:Act} {w:World} (hi:ops[i]?=some oi) (hd:oi.dst=some d)
 (hs:Region.noSelect ops=true) (hl:ops[z]?=none) (hf:Region.free md ops listed i=true) (hr:(Region.ready md ops listed).contains i=true)
 (hQ:∀c a w,Q (.panic c) (a.put (some d) v) w→Q (.panic c) a w) (hy:YieldsIf P ops S oi v a) (hS:S w)
 (h:gy P md ops Q S z fuel (listed.setIfInBounds i true) (a.put (some d) v) w):gy P md ops Q S z (fuel+1) listed a w:=
 UO hi (Region.noSelect_spec hs) hl (by rw[hd];exact hQ) fuel listed a w (Region.free_spec hi hf) (by simpa using hr) hy hS (by rw[hd];exact h)
theorem EP {fuel:Nat} {listed:Array Bool} {a:Act} {w:World} (hr:Region.ready md ops listed=[]) (h:Q .normal a w):gy P md ops Q S z fuel listed a w:=by
 cases fuel with
 |zero=>exact⟨hr,h⟩
 |succ n=>exact⟨fun _=>h,by rw[hr];simp⟩
end
open Go.RowKit
open Go.RowKit
theorem oh.put {Q:Nat→Prop} {w:World} {b n:Nat} {l:List aU} (h:oh Q w b n l) {k:Nat} (hk:k<n) (q:aU) (hes:q.es=[]) (hq:fE Q w q) (hg:Good q.g) (hQ:∀k,Q k→k≠b):
 oh Q (((w.setCell ⟨b,k*3,none⟩ q.ev).setCell ⟨b,k*3+1,none⟩ q.kv).setCell ⟨b,k*3+2,none⟩ q.cv) b n (l.set k q)∧aj (fun x=>x=b) w (((w.setCell ⟨b,k*3,none⟩ q.ev).setCell ⟨b,k*3+1,none⟩ q.kv).setCell ⟨b,k*3+2,none⟩ q.cv):=by
 have hp1:=fF (fF (fF h.blk (k*3) q.ev) (k*3+1) q.kv) (k*3+2) q.cv
 have f1:=((aj.setCell (S:=fun x=>x=b) w (p:=⟨b,k*3,none⟩) (.inl rfl) q.ev).trans (aj.setCell (S:=fun x=>x=b) _ (p:=⟨b,k*3+1,none⟩) (.inl rfl) q.kv) fun _ _ h=>h).trans (aj.setCell (S:=fun x=>x=b) _ (p:=⟨b,k*3+2,none⟩) (.inl rfl) q.cv) fun _ _ h=>h
 generalize ((w.setCell ⟨b,k*3,none⟩ q.ev).setCell ⟨b,k*3+1,none⟩ q.kv).setCell ⟨b,k*3+2,none⟩ q.cv=w1 at*
 have ft:∀x,x<w.heap.size→Q x→w1.heap[x]?=w.heap[x]?∧Q x:=fun x hx hl=>⟨f1.block x hx (hQ x hl),hl⟩
 refine⟨⟨by rw[List.length_set];exact h.len,?_,fun q' hq'=>?_⟩,f1⟩
 ·rw[hp1,Et _ _ _ (by rw[h.len];exact hk)]
  simp
 ·rcases List.mem_or_eq_of_mem_set hq' with h1|h1
  ·obtain⟨g1,g2,g3⟩:=h.each q' h1
   exact⟨g1,g2.turn ft,g3⟩
  ·subst h1
   exact⟨hes,hq.turn ft,hg⟩
section
variable {L:Nat→Prop} {w w':World} {b n vb:Nat} {sv:Value} {vs:List aU} {rs:List aW}
theorem cZ.UQ (h:cZ L w b n vb sv vs rs) {nb:Nat} {ns:List aU} (hr:oh (fun k=>¬L k) w nb n ns) (hL:¬L nb):
 cZ L (w.setCell ⟨b,0,none⟩ (.slice (some ⟨nb,0,none⟩) n n)) b n nb sv ns rs∧aj L w (w.setCell ⟨b,0,none⟩ (.slice (some ⟨nb,0,none⟩) n n)):=by
 have f:=aj.setCell (S:=fun x=>x=b) w (p:=⟨b,0,none⟩) (.inl rfl) (.slice (some ⟨nb,0,none⟩) n n)
 have hbox:=fF h.box 0 (.slice (some ⟨nb,0,none⟩) n n)
 generalize w.setCell ⟨b,0,none⟩ (.slice (some ⟨nb,0,none⟩) n n)=w1 at*
 have ft:∀x,x<w.heap.size→¬L x→w1.heap[x]?=w.heap[x]?∧¬L x:=fun x hx hl=>⟨f.block x hx fun e=>hl (e▸h.bL),hl⟩
 have fo:∀ {k:Nat} {o:Array Value} {t:TypeId},w.heap[k]?=some (.cells o t (0,0))→t≠81→w1.heap[k]?=w.heap[k]?:=fun hk h2=>f.block _ (lt_of_block hk) (gY hk h.box h2)
 have own:w1.ownsRow 0 86 3 sv rs.length ((rs.map (aW.q n)).flatMap bK.cells):=by
  refine f.owns h.own fun x hx e=>?_
  rcases h.own.2 with⟨h1,_⟩|⟨g',cap',cur,h1,_,h2,_⟩
  ·rw[h1]at hx;simp[Value.ownBlock]at hx
  ·rw[h1]at hx
   have:g'=x:=by simpa[Value.ownBlock]using hx
   subst this
   exact gY h2 h.box (by decide) e
 exact⟨⟨h.n1,h.n4,fun x hx=>Nat.lt_of_lt_of_le (h.Ls x hx) f.size,hbox,h.bL,hr.turn ft (fo hr.blk (by decide)),hL,own,h.sL,fun r hr'=>(h.jY r hr').turn ft (fun _ h=>h) (fo (h.jY r hr').part.blk (by decide)) (fo (h.jY r hr').is (by decide)),h.pd,h.vP,h.ids,h.few⟩,f.mono fun x _ e=>e▸h.bL⟩
theorem yh {l:List aU} {k:Nat} (h:k<l.length):(l.flatMap aU.cells).toArray[k*3]?=some (l.getD k default).ev∧(l.flatMap aU.cells).toArray[k*3+1]?=some (l.getD k default).kv∧(l.flatMap aU.cells).toArray[k*3+2]?=some (l.getD k default).cv:=by
 simpa using rQ l k h
noncomputable def oq (a b:List dG) (n j:Nat):List dG:=(List.range n).map fun x=>if x<j then iV (a.getD x eU) (b.getD x eU)else eU
theorem UR (a b:List dG) (n:Nat):oq a b n 0=List.replicate n eU:=by
 unfold oq
 simp[List.map_const']
theorem UU (a b:List dG) {n j:Nat} (h:j<n):oq a b n (j+1)=(oq a b n j).set j (iV (a.getD j eU) (b.getD j eU)):=by
 refine List.ext_getElem (by simp[oq]) fun i h1 h2=>?_
 simp only[oq,List.getElem_map,List.getElem_range,List.getElem_set]
 by_cases e:j=i
 ·subst e;simp
 ·rw[if_neg e]
  have:(i<j+1)↔(i<j):=by omega
  simp only[this]
theorem UW (a b:List dG) {n:Nat} (ha:a.length=n) (hb:b.length=n):oq a b n n=List.zipWith iV a b:=by
 refine List.ext_getElem (by simp[oq,ha,hb]) fun i h1 h2=>?_
 have hi:i<n:=by simpa[oq]using h1
 simp only[oq,List.getElem_map,List.getElem_range,if_pos hi,List.getElem_zipWith]
 rw[getD_at _ (by omega),getD_at _ (by omega)]
theorem vT {l:List aU} {k:Nat} (h:k<l.length):(l.map aU.g).getD k eU=(l.getD k default).g:=by
 rw[getD_at _ (by rw[List.length_map];exact h),getD_at _ h,List.getElem_map]
theorem ER (ks ks':aH) (c c':aV):lM [] ks c [] ks' c'=([],qI (ks,c) (ks',c')):=Aj (ks,c) (ks',c')
theorem UY (h:cZ L w b n vb sv vs rs) (x:Int) (i:Nat) (hi:i<rs.length) (hp:fA x (rs.map aW.id)=i) (hall:nP (rs.getD i default).is=n)
 (hsz:∀j,j<n→kW (vs.getD j default).g+kW ((rs.getD i default).part.getD j default).g≤2000∧(vs.getD j default).g.2.length+((rs.getD i default).part.getD j default).g.2.length≤2000):
 Calls Tryz.prog 17 #[.pointer (some ⟨b,0,none⟩), .int .i64 x] w fun e w'=>e= .returned (.int .i64 0)∧∃nR sv' ns,aj L w w'∧cZ L w' b n nR sv' ns (rs.eraseIdx i)∧ns.map aU.g=List.zipWith iV (vs.map aU.g) ((rs.getD i default).part.map aU.g):=by
 obtain⟨r,hr⟩:∃r,rs.getD i default=r:=⟨_,rfl⟩
 rw[hr]at hall hsz⊢
 have hs:∀W,aj au w W→vO L W n r:=fun W f=>hr▸(h.aN f).jY _ (getD_mem default hi)
 have hn1:=h.n1
 have hn4:=h.n4
 have hfew:=h.few
 have hlq:(rs.map (aW.q n)).length=rs.length:=List.length_map ..
 obtain⟨g0,g1,g2⟩:=vN (rs.map (aW.q n)) i (by rw[hlq];exact hi)
 rw[yc hi,hr]at g1
 have vU:=vS n rs
 have HM:=ah (fun W (f:aj au w W)=>(show Calls Tryz.prog 21 #[.pointer (some ⟨b,0,none⟩), .int .i64 x] W fun e w'=>e= .returned (.int .i64 n)∧aj au W w' from by
  have:=JW x (rs.map (aW.q n)) b W sv (h.aN f).rd pJ (by rw[hlq];omega) (h.aN f).kL i r.is (by rw[vU];exact hp) (by rw[hlq];exact hi) (by rw[yc hi,hr];show Rd W (.slice (some ⟨r.ib,0,none⟩) n n) _ _;rw[(hs W f).rV];exact Rd.xZ (hs W f).is (by simp only[maxLen];omega)) (by rw[(hs W f).rV];omega)
  rwa [hall]at this))
 have HA:=ah (fun W (f:aj au w W)=>(show Calls Tryz.prog 38 #[.pointer (some ⟨b,0,none⟩), .int .i64 x] W fun e w'=>e= .returned (.int .i64 i)∧aj au W w' from by
  have:=tN x (rs.map (aW.q n)) b W sv (h.aN f).rd pJ (by rw[hlq];omega) (h.aN f).kL
  rwa [vU,hp]at this))
 have HST:=ah h
 have K_:=ah hs
 have jS:=ah hsz
 have hm1:=Eu n hn1 hn4
 obtain⟨Z1,hZ1⟩:∃Z,Z=((je n).flatMap aU.cells).toArray:=⟨_,rfl⟩
 rw[←hZ1]at hm1
 have HZ1:=ah hZ1;clear hZ1
 obtain⟨g,m,c,hl,rfl⟩:=h.shape hi
 have hkm:i≤m:=by omega
 have HD:=ah (fun W (hW:W.ownsRow 0 86 3 (.slice (some ⟨g,0,none⟩) (m+1) c) (m+1) ((rs.map (aW.q n)).flatMap bK.cells))=>JX (rs.map (aW.q n)) g m c i W hW (by rw[hlq];exact hl) pJ hkm (by omega))
 have UZ:=ah (fun W W2 nR vs' (hW:cZ L W b n nR (.slice (some ⟨g,0,none⟩) (m+1) c) vs' rs) f2 o2=>hW.drop (k:=i) (w2:=W2) f2 o2 hl hkm)
 have U_:=ah g1
 have nU:=ah hl
 have hm4:m≤1000:=by omega
 clear h hs hsz hall hp vU hlq g0 g1 g2 hr hi hl hfew
 obtain⟨α,hne,K,hK1,hK0,hK2⟩:=worlds w
 have eY:=ah hK1
 have k0:∀s,(K s).cell? ⟨b,0,none⟩=some (.slice (some ⟨vb,0,none⟩) n n):=fun s=>(HST.out.aN (hK1 s)).kX
 clear hK1
 go_enter Tryz.func17,Tryz.ntmps17
 go_wp2_with fail
 refine dA K (by kernel_rfl) (by kernel_rfl) hK0 ?_
 repeat(go_big_quiet_step ((go_at_call 21;exact Calls.bf hK2 (HM.out _ (eY.out _)))))
 refine wpQuiet_nil ?_
 intro w1 hw1
 obtain⟨s,rfl⟩:=hw1
 have bQ:=ah (eY.out s)
 clear k0 hK0 hK2 eY
 generalize K s=W1 at*
 clear HM
 go_upto_region 7 with(go_at_call 38;refine(HA.out _ bQ.out).mono ?_;rintro e W2 ⟨rfl,hf2⟩;have HF2:=ah (bQ.out.aF hf2);clear hf2;have y0:=(HST.out.aN HF2.out).kX;have hb0:=World.block_lt_of_cell? _ _ y0)
 have La:=ah (heap_alloc_new W2 (.cells Z1 32))
 have HF3:=ah (HF2.out.alloc1 (o:= .cells Z1 32))
 have hz2:=HF2.out.size
 obtain⟨nb,hnb⟩:∃nb,nb=W2.heap.size:=⟨_,rfl⟩
 rw[←hnb]at La hz2⊢
 have hz3:nb<(W2.alloc (.cells Z1 32)).heap.size:=by rw[hnb];simp
 generalize W2.alloc (.cells Z1 32)=W3 at*
 clear y0 hb0 hnb HF2 bQ HA
 have y1:=(HST.out.aN HF3.out).kL
 have y2:W3.cell? ⟨g,i*3+1,none⟩=some (.slice (some ⟨r.pb,0,none⟩) n n):=by
  have:=(HST.out.aN HF3.out).own.cells (g:=g) rfl (i*3+1) _ U_.out
  rwa [addr_add,Nat.zero_add]at this
 have hb1:=World.block_lt_of_cell? _ _ y1
 have hb2:=World.block_lt_of_cell? _ _ y2
 have him:(i:Int)<(m:Int)+1:=by omega
 go_wp2
 go_loopw [38] (fun iv W=>∃(j:Nat) (ns:List aU),j≤n∧iv= .int .i64 j∧aj au w W∧oh (fun k=>w.heap.size≤k∧k≠nb) W nb n ns∧ns.map aU.g=oq (vs.map aU.g) (r.part.map aU.g) n j) (fun iv _=>n-(intOf iv).toNat)
 case atStart=>exact⟨0,je n,by omega,rfl,HF3.out,EN (by rw[←HZ1.out];exact La.out),by rw[UR];unfold je;rw[List.map_replicate];rfl⟩
 case round=>
  obtain⟨j,ns,hj,rfl,hfw,hns,hg⟩:=hrel
  clear y1 y2 hb1 hb2
  have gq:=ah hfw
  have tZ:=ah hns
  have HG:=ah hg
  have hnl:=lt_of_block hns.blk
  clear hfw hns hg
  by_cases hlt:j<n
  ·have pO:=ah (HST.out.aN gq.out).vis
   have qL:=ah (K_.out _ gq.out).part
   have AA:j<vs.length:=by rw[pO.out.len];exact hlt
   have hjp:j<r.part.length:=by rw[qL.out.len];exact hlt
   obtain⟨v0,v1,v2⟩:=yh AA
   obtain⟨p0,p1,p2⟩:=yh hjp
   obtain⟨e1,hq1,hg1⟩:=pO.out.each _ (getD_mem default AA)
   obtain⟨e2,hq2,hg2⟩:=qL.out.each _ (getD_mem default hjp)
   have hst:=UU (vs.map aU.g) (r.part.map aU.g) hlt
   rw[vT AA,vT hjp]at hst
   have hsz:=jS.out j hlt
   generalize hqa:vs.getD j default=qa at*
   generalize yj:r.part.getD j default=qb at*
   clear hqa yj
   obtain⟨es,ks,cc,ev,kv,cv⟩:=qa
   obtain⟨es',ks',cc',ev',kv',iQ⟩:=qb
   have e1:es=[]:=e1
   have e2:es'=[]:=e2
   subst e1 e2
   have ha:∀W,aj au wr W→eu (fun k=>¬L k) W ev kv cv [] ks cc:=fun W f=>(hq1.aN f).at_
   have hb:∀W,aj au wr W→eu (fun k=>¬L k) W ev' kv' iQ [] ks' cc':=fun W f=>(hq2.aN f).at_
   have hg1:Good (ks,cc):=hg1
   have hg2:Good (ks',cc'):=hg2
   obtain⟨a0,c0,a1,c1,a2,c2,rfl,rfl,rfl⟩:=(ha wr (aj.refl _ _)).shape
   obtain⟨d0,k0,d1,k1,d2,k2,rfl,rfl,rfl⟩:=(hb wr (aj.refl _ _)).shape
   have pG:=ah (fun W (f:aj au wr W)=>(show Calls Tryz.prog 22 #[.agg #[.slice a0 0 c0, .slice a1 ks.len c1, .slice a2 cc.length c2], .agg #[.slice d0 0 k0, .slice d1 ks'.len k1, .slice d2 cc'.length k2]] W fun e w'=>∃ev kv cv,e= .returned (.tuple #[.agg #[ev,kv,cv], .int .i64 0])∧bC (fun b=>W.heap.size≤b) w' ev kv [] (qI (ks,cc) (ks',cc'))∧OwnAt W w' 92 3 cv (rU cc cc').length (bU (rU cc cc'))from by
    refine(JZ _ _ [] ks cc [] ks' cc' W _ _ _ _ _ _ (ha W f) (hb W f) hg1.ok hg2.ok hg1.right hg2.right).mono fun e w' hp=>?_
    obtain⟨ev,kv,cv,u,he,h1,h2,h3⟩:=hp
    rw[ER]at h1
    rw[←xX h3]at h2
    exact⟨ev,kv,cv,he,h1,h2⟩))
   have hgj:=KC hg1 hg2 hsz.1 hsz.2
   have Va:=ah hgj
   have Vb:=ah hst
   have z0:=(HST.out.aN gq.out).kX
   have z1:=aI pO.out.blk (j*3) v0
   have z2:=aI pO.out.blk (j*3+1) v1
   have z3:=aI pO.out.blk (j*3+2) v2
   have z4:=aI qL.out.blk (j*3) p0
   have z5:=aI qL.out.blk (j*3+1) p1
   have z6:=aI qL.out.blk (j*3+2) p2
   have hl0:=World.block_lt_of_cell? _ _ z0
   have hl1:=World.block_lt_of_cell? _ _ z1
   have hl4:=World.block_lt_of_cell? _ _ z4
   have hjn:(j:Int)<(n:Int):=by omega
   clear AA hjp v0 v1 v2 p0 p1 p2 hq1 hq2 hg1 hg2 hst hsz ha hb hgj
   have jd:=ah (⟨gY (HST.out.aN gq.out).box tZ.out.blk (by decide),fun e=>by have:=lt_of_block HST.out.vis.blk;omega,fun e=>by omega⟩:b≠nb∧vb≠nb∧wr.heap.size≠nb)
   have iJ:=ah (fun N Y Y' (f:aj N Y Y') (hn:¬N b∧¬N vb∧¬N wr.heap.size) (hS:Y.cell? ⟨b,0,none⟩=some (.slice (some ⟨vb,0,none⟩) n n)∧Y.cell? ⟨vb,j*3,none⟩=some (.slice a0 0 c0)∧Y.cell? ⟨vb,j*3+1,none⟩=some (.slice a1 ks.len c1)∧Y.cell? ⟨vb,j*3+2,none⟩=some (.slice a2 cc.length c2)∧Y.cell? ⟨wr.heap.size,0,none⟩=some (.slice d0 0 k0)∧Y.cell? ⟨wr.heap.size,1,none⟩=some (.slice d1 ks'.len k1)∧Y.cell? ⟨wr.heap.size,2,none⟩=some (.slice d2 cc'.length k2))=>
    (⟨f.cell' hS.1 hn.1,f.cell' hS.2.1 hn.2.1,f.cell' hS.2.2.1 hn.2.1,f.cell' hS.2.2.2.1 hn.2.1,f.cell' hS.2.2.2.2.1 hn.2.2,f.cell' hS.2.2.2.2.2.1 hn.2.2,f.cell' hS.2.2.2.2.2.2 hn.2.2⟩:Y'.cell? ⟨b,0,none⟩=some (.slice (some ⟨vb,0,none⟩) n n)∧Y'.cell? ⟨vb,j*3,none⟩=some (.slice a0 0 c0)∧Y'.cell? ⟨vb,j*3+1,none⟩=some (.slice a1 ks.len c1)∧Y'.cell? ⟨vb,j*3+2,none⟩=some (.slice a2 cc.length c2)∧Y'.cell? ⟨wr.heap.size,0,none⟩=some (.slice d0 0 k0)∧Y'.cell? ⟨wr.heap.size,1,none⟩=some (.slice d1 ks'.len k1)∧Y'.cell? ⟨wr.heap.size,2,none⟩=some (.slice d2 cc'.length k2)))
   have fa:=aj.alloc au wr (.cells #[.slice d0 0 k0, .slice d1 ks'.len k1, .slice d2 cc'.length k2] 32)
   have ba:=heap_alloc_new wr (.cells #[.slice d0 0 k0, .slice d1 ks'.len k1, .slice d2 cc'.length k2] 32)
   have lN:=iJ.out au _ _ (aj.drew au _) ⟨id,id,id⟩ ⟨fa.cell' z0 id,fa.cell' z1 id,fa.cell' z2 id,fa.cell' z3 id,aI ba 0 rfl,aI ba 1 rfl,aI ba 2 rfl⟩
   have jk:=ah (fa.aF (aj.drew au _))
   clear fa ba
   go_upto_region 10 with fail
   clear z0 z1 z2 z3 z4 z5 z6 hl0 hl1 hl4
   refine iY (S:=fun Y=>Y.cell? ⟨b,0,none⟩=some (.slice (some ⟨vb,0,none⟩) n n)∧Y.cell? ⟨vb,j*3,none⟩=some (.slice a0 0 c0)∧Y.cell? ⟨vb,j*3+1,none⟩=some (.slice a1 ks.len c1)∧Y.cell? ⟨vb,j*3+2,none⟩=some (.slice a2 cc.length c2)∧Y.cell? ⟨wr.heap.size,0,none⟩=some (.slice d0 0 k0)∧Y.cell? ⟨wr.heap.size,1,none⟩=some (.slice d1 ks'.len k1)∧Y.cell? ⟨wr.heap.size,2,none⟩=some (.slice d2 cc'.length k2)) 16 (by kernel_rfl) lN ?_
   clear lN
   intro hS
   generalize World.drew _=Y0 at*
   refine dZ 0 44 (v:=?_) rfl rfl (by kernel_rfl) (by rfl) (by kernel_rfl) (by kernel_rfl) (fun _ _ _ h=>h) (Or.inl ⟨by rfl,?_⟩) (by assumption) ?_
   rotate_left 1
   ·(intro w hSw;(try dsimp only at hSw);go_simp;(try with_reducible rfl))
   try simp only[Act.put,aP,aQ,aO]
   refine dZ 1 45 (v:=?_) rfl rfl (by kernel_rfl) (by rfl) (by kernel_rfl) (by kernel_rfl) (fun _ _ _ h=>h) (Or.inl ⟨by rfl,?_⟩) (by assumption) ?_
   rotate_left 1
   ·(intro w hSw;(try dsimp only at hSw);go_simp;(try with_reducible rfl))
   try simp only[Act.put,aP,aQ,aO]
   refine dZ 2 46 (v:=?_) rfl rfl (by kernel_rfl) (by rfl) (by kernel_rfl) (by kernel_rfl) (fun _ _ _ h=>h) (Or.inl ⟨by rfl,?_⟩) (by assumption) ?_
   rotate_left 1
   ·(intro w hSw;(try dsimp only at hSw);go_simp;(try with_reducible rfl))
   try simp only[Act.put,aP,aQ,aO]
   refine dZ 3 47 (v:=?_) rfl rfl (by kernel_rfl) (by rfl) (by kernel_rfl) (by kernel_rfl) (fun _ _ _ h=>h) (Or.inl ⟨by rfl,?_⟩) (by assumption) ?_
   rotate_left 1
   ·(intro w hSw;(try dsimp only at hSw);go_simp;(try with_reducible rfl))
   try simp only[Act.put,aP,aQ,aO]
   refine dZ 4 48 (v:=?_) rfl rfl (by kernel_rfl) (by rfl) (by kernel_rfl) (by kernel_rfl) (fun _ _ _ h=>h) (Or.inl ⟨by rfl,?_⟩) (by assumption) ?_
   rotate_left 1
   ·(intro w hSw;(try dsimp only at hSw);go_simp;(try with_reducible rfl))
   try simp only[Act.put,aP,aQ,aO]
   refine dZ 5 49 (v:=?_) rfl rfl (by kernel_rfl) (by rfl) (by kernel_rfl) (by kernel_rfl) (fun _ _ _ h=>h) (Or.inl ⟨by rfl,?_⟩) (by assumption) ?_
   rotate_left 1
   ·(intro w hSw;(try dsimp only at hSw);go_simp;(try with_reducible rfl))
   try simp only[Act.put,aP,aQ,aO]
   refine dZ 6 50 (v:=?_) rfl rfl (by kernel_rfl) (by rfl) (by kernel_rfl) (by kernel_rfl) (fun _ _ _ h=>h) (Or.inl ⟨by rfl,?_⟩) (by assumption) ?_
   rotate_left 1
   ·(intro w hSw;(try dsimp only at hSw);go_simp;(try with_reducible rfl))
   try simp only[Act.put,aP,aQ,aO]
   refine dZ 7 51 (v:=?_) rfl rfl (by kernel_rfl) (by rfl) (by kernel_rfl) (by kernel_rfl) (fun _ _ _ h=>h) (Or.inl ⟨by rfl,?_⟩) (by assumption) ?_
   rotate_left 1
   ·(intro w hSw;(try dsimp only at hSw);go_simp;(try with_reducible rfl))
   try simp only[Act.put,aP,aQ,aO]
   refine dZ 8 52 (v:=?_) rfl rfl (by kernel_rfl) (by rfl) (by kernel_rfl) (by kernel_rfl) (fun _ _ _ h=>h) (Or.inl ⟨by rfl,?_⟩) (by assumption) ?_
   rotate_left 1
   ·(intro w hSw;(try dsimp only at hSw);go_simp;(try with_reducible rfl))
   try simp only[Act.put,aP,aQ,aO]
   refine dZ 9 53 (v:=?_) rfl rfl (by kernel_rfl) (by rfl) (by kernel_rfl) (by kernel_rfl) (fun _ _ _ h=>h) (Or.inl ⟨by rfl,?_⟩) (by assumption) ?_
   rotate_left 1
   ·(intro w hSw;(try dsimp only at hSw);go_simp;(try with_reducible rfl))
   try simp only[Act.put,aP,aQ,aO]
   refine bP (i:=10) (by kernel_rfl) rfl (fun K hK=>?_)
   go_simp
   refine(pG.out _ jk.out).mono ?_
   rintro e Y1 ⟨mQ,gU,jL,rfl,hta,ho3⟩
   obtain⟨a3,c3,rfl⟩:=hta.ents.rd.sl
   obtain⟨nN,iq,-⟩:=hta.kids
   obtain⟨a5,c5,rfl⟩:=iq.rd.sl
   obtain⟨a6,c6,rfl⟩:=ho3.shape
   have hs1:=jk.out.size
   have hf1:=jk.out.aF ho3.aJ
   have hput:=(tZ.out.turn (w':=Y1) (Q':=fun k=>w.heap.size≤k∧k≠nb) (fun k hk hQ=>⟨hf1.block k hk id,hQ⟩) (hf1.block _ hnl id)).put hlt ⟨[],qI (ks,cc) (ks',cc'),rU cc cc',_,_,_⟩ rfl ⟨hta.turn (Q':=fun k=>w.heap.size≤k∧k≠nb) fun k hk hQ=>⟨rfl,by have:=gq.out.size;omega,by omega⟩,ho3.rd,fun _ k hk=>by have:=ho3.new k hk;have:=gq.out.size;exact⟨by omega,by omega⟩⟩ Va.out (fun k hQ=>hQ.2)
   have vV:=ah hput
   have dM:=ah (gq.out.aF hf1)
   have gK:=ah (hf1.blk tZ.out.blk id)
   have hS1:=iJ.out au _ _ ho3.aJ ⟨id,id,id⟩ hS
   refine hK.out _ _ hS1 ?_
   clear hK K hS iq hta ho3 hs1 hput hf1
   have hS:=hS1
   clear hS1
   try simp only[Act.put,aP,aQ,aO]
   refine dZ 11 43 (v:=?_) rfl rfl (by kernel_rfl) (by rfl) (by kernel_rfl) (by kernel_rfl) (fun _ _ _ h=>h) (Or.inl ⟨by rfl,?_⟩) (by assumption) ?_
   rotate_left 1
   ·(intro w hSw;(try dsimp only at hSw);go_simp;(try with_reducible rfl))
   try simp only[Act.put,aP,aQ,aO]
   refine dZ 12 55 (v:=?_) rfl rfl (by kernel_rfl) (by rfl) (by kernel_rfl) (by kernel_rfl) (fun _ _ _ h=>h) (Or.inl ⟨by rfl,?_⟩) (by assumption) ?_
   rotate_left 1
   ·(intro w hSw;(try dsimp only at hSw);go_simp;(try with_reducible rfl))
   try simp only[Act.put,aP,aQ,aO]
   refine dZ 13 56 (v:=?_) rfl rfl (by kernel_rfl) (by rfl) (by kernel_rfl) (by kernel_rfl) (fun _ _ _ h=>h) (Or.inl ⟨by rfl,?_⟩) (by assumption) ?_
   rotate_left 1
   ·(intro w hSw;(try dsimp only at hSw);go_simp;(try with_reducible rfl))
   try simp only[Act.put,aP,aQ,aO]
   refine dZ 14 57 (v:=?_) rfl rfl (by kernel_rfl) (by rfl) (by kernel_rfl) (by kernel_rfl) (fun _ _ _ h=>h) (Or.inl ⟨by rfl,?_⟩) (by assumption) ?_
   rotate_left 1
   ·(intro w hSw;(try dsimp only at hSw);go_simp;(try with_reducible rfl))
   try simp only[Act.put,aP,aQ,aO]
   refine bP (i:=15) (by kernel_rfl) rfl (fun K hK=>?_)
   have hjl:j<ns.length:=by rw[tZ.out.len];exact hlt
   obtain⟨q0,q1,q2⟩:=yh hjl
   have z0:=aI gK.out (j*3) q0
   have z1:=aI gK.out (j*3+1) q1
   have z2:=aI gK.out (j*3+2) q2
   have e0:=bn gK.out (j*3)
   have e1:=bn gK.out (j*3+1)
   have e2:=bn gK.out (j*3+2)
   have hbl:=lt_of_block gK.out
   clear q0 q1 q2 hjl
   go_simp
   refine hK.out _ _ (iJ.out _ _ _ vV.out.2 jd.out hS) ?_
   clear hK K hS z0 z1 z2 e0 e1 e2 hbl
   refine EP (by kernel_rfl) ?_
   go_wp2
   go_roundw
   case rel=>
    refine⟨j+1,_,by omega,by go_num,?_,vV.out.1,?_⟩
    ·exact dM.out.trans vV.out.2 fun k hk e=>by omega
    ·rw[List.map_set,HG.out,Vb.out];rfl
   case measure=>simp[intOf];omega
  ·obtain rfl:j=n:=by omega
   have hsh:=(HST.out.aN gq.out).UQ (tZ.out.turn (Q':=fun k=>¬L k) (fun k hk hQ=>⟨rfl,fun hl=>by have:=HST.out.Ls k hl;omega⟩) rfl) (fun hl=>by have:=HST.out.Ls _ hl;omega)
   have rH:=ah hsh
   have z0:=(HST.out.aN gq.out).kX
   have e0:=bn (HST.out.aN gq.out).box 0
   have hl0:=World.block_lt_of_cell? _ _ z0
   have z1:=hsh.1.kL
   have e1:=bn hsh.1.box 1
   have HOW:=ah (nU.out▸hsh.1.own)
   clear hsh
   have Vd:=ah (show ns.map aU.g=List.zipWith iV (vs.map aU.g) (r.part.map aU.g) by rw[HG.out];exact UW _ _ (by rw[List.length_map];exact HST.out.vis.len) (by rw[List.length_map];exact(K_.out _ gq.out).part.len))
   go_wp2_with(go_at_call 42;refine(HD.out _ HOW.out).mono ?_;rintro e w2 ⟨rfl,ho,hf⟩;clear z0 e0 hl0 z1 e1;have mJ:=ah (UZ.out _ _ _ _ rH.out.1 hf ho);clear hf ho;have y1:=aI mJ.out.1 1 rfl;have g1:=bn mJ.out.1 1;have hb1:=lt_of_block mJ.out.1)
   go_ret
   exact⟨rfl,_,_,ns,((gq.out.mono fun _ _ h=>h.elim).trans rH.out.2 fun _ _ h=>h).trans mJ.out.2.2 fun _ _ h=>h,mJ.out.2.1,Vd.out⟩
end
end Go.Proofs.YtlhmbkjdfjoilaaGreat
