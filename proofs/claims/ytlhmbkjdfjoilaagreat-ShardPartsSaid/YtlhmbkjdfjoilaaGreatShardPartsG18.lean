/- Words for the law ShardParts: Sh9, Sh10, HeldNone, HeldThree, Sh12. -/
import Derived.Test.YtlhmbkjdfjoilaaGreatShardPartsG0
import Derived.Test.YtlhmbkjdfjoilaaGreatShardPartsG1
import Derived.Test.YtlhmbkjdfjoilaaGreatShardPartsG10
import Derived.Test.YtlhmbkjdfjoilaaGreatShardPartsG14
import Derived.Test.YtlhmbkjdfjoilaaGreatShardPartsG17
set_option linter.unusedSimpArgs false
set_option linter.unusedVariables false
set_option maxHeartbeats 32000000
set_option maxRecDepth 1000000
namespace Go.Proofs.YtlhmbkjdfjoilaaGreat
open Go.RowKit
theorem GH (x:Int) (l:List Int):(iE x l=-1∧x∉l)∨∃k,k<l.length∧iE x l=k∧l.getD k 0=x:=by
 by_cases h:l.findIdx (fun y=>y==x)<l.length
 ·refine .inr ⟨_,h,by unfold iE;rw[if_pos h],?_⟩
  rw[getD_at 0 h]
  simpa using List.findIdx_getElem (w:=h)
 ·refine .inl ⟨by unfold iE;rw[if_neg h],fun hm=>h ?_⟩
  exact List.findIdx_lt_length.2 ⟨x,hm,by simp⟩
theorem fU {w:World} {a b:Nat} {c1 c2:Array Value} {t1 t2:TypeId} {f1 f2:Nat×Nat} (h1:w.heap[a]?=some (.cells c1 t1 f1)) (h2:w.heap[b]?=some (.cells c2 t2 f2)) (ht:t1≠t2):a≠b:=fun e=>by
 subst e
 rw[h1]at h2
 injection h2 with h2
 injection h2 with _ h2 _
 exact ht h2
section
variable {L:Nat→Prop} {w w':World} {b n vb:Nat} {sv:Value} {vs:List bD} {rs:List aW}
theorem dY.drop {g c m k:Nat} {w2:World} (h:dY L w b n vb (.slice (some ⟨g,0,none⟩) (m+1) c) vs rs) (f:aj (bY (.slice (some ⟨g,0,none⟩) (m+1) c)) w w2)
 (own:w2.ownsRow 0 86 3 (.slice (some ⟨g,0,none⟩) m c) m (((rs.map (aW.q n)).eraseIdx k).flatMap bM.cells)) (hl:rs.length=m+1) (hk:k≤m):
 w2.heap[b]?=some (.cells #[.slice (some ⟨vb,0,none⟩) n n, .slice (some ⟨g,0,none⟩) (m+1) c] 81 (0,0))∧
 dY L (w2.setCell ⟨b,1,none⟩ (.slice (some ⟨g,0,none⟩) m c)) b n vb (.slice (some ⟨g,0,none⟩) m c) vs (rs.eraseIdx k)∧aj L w (w2.setCell ⟨b,1,none⟩ (.slice (some ⟨g,0,none⟩) m c)):=by
 have hg:∃cur,w.heap[g]?=some (.cells cur 86 (0,0)):=by
  rcases h.own.2 with⟨h1,_⟩|⟨g',cap',cur,h1,_,h2,_⟩
  ·cases h1
  ·injection h1 with h1 _ _
   injection h1 with h1
   injection h1 with h1 _ _
   subst h1
   exact⟨cur,h2⟩
 obtain⟨cur,hg⟩:=hg
 have gb:b≠g:=fU h.box hg (by decide)
 have hbox:w2.heap[b]?=some (.cells #[.slice (some ⟨vb,0,none⟩) n n, .slice (some ⟨g,0,none⟩) (m+1) c] 81 (0,0)):=f.blk h.box fun s=>gb (by unfold bY at s;simp[Value.ownBlock]at s;exact s.symm)
 have gL:L g:=h.sL g rfl
 have f3:aj (fun k=>k=g∨k=b) w (w2.setCell ⟨b,1,none⟩ (.slice (some ⟨g,0,none⟩) m c)):=
  (f.mono (T:=fun k=>k=g∨k=b) fun k _ s=> .inl (by unfold bY at s;simp[Value.ownBlock]at s;exact s.symm)).trans (aj.setCell (S:=fun k=>k=g∨k=b) w2 (p:=⟨b,1,none⟩) (.inl (.inr rfl)) _) fun _ _ h=>h
 have ft:∀k,k<w.heap.size→¬L k→(w2.setCell ⟨b,1,none⟩ (.slice (some ⟨g,0,none⟩) m c)).heap[k]?=w.heap[k]?∧¬L k:=fun k hk hl=>⟨f3.block k hk fun e=>hl (e.elim (fun e=>e▸gL) fun e=>e▸h.bL),hl⟩
 have fo:∀ {k:Nat} {o:Array Value} {t:TypeId},w.heap[k]?=some (.cells o t (0,0))→t≠86→t≠81→(w2.setCell ⟨b,1,none⟩ (.slice (some ⟨g,0,none⟩) m c)).heap[k]?=w.heap[k]?:=fun hk h1 h2=>f3.block _ (lt_of_block hk) fun e=>e.elim (fU hk hg h1) (fU hk h.box h2)
 refine⟨hbox,?_,f3.mono fun k _ e=>e.elim (fun e=>e▸gL) fun e=>e▸h.bL⟩
 have hsz:(w2.setCell ⟨b,1,none⟩ (.slice (some ⟨g,0,none⟩) m c)).heap.size=w2.heap.size:=by simp[World.setCell]
 have vZ:(w2.setCell ⟨b,1,none⟩ (.slice (some ⟨g,0,none⟩) m c)).ownsRow 0 86 3 (.slice (some ⟨g,0,none⟩) m c) m (((rs.map (aW.q n)).eraseIdx k).flatMap bM.cells):=
  (aj.setCell (S:=fun k=>k=b) w2 (p:=⟨b,1,none⟩) (.inl rfl) _).owns own fun k hk e=>gb (by simp[Value.ownBlock]at hk;omega)
 have hle:(rs.eraseIdx k).length=m:=by rw[List.length_eraseIdx_of_lt (by omega),hl];rfl
 have he:(rs.map (aW.q n)).eraseIdx k=(rs.eraseIdx k).map (aW.q n):=by simp only[List.eraseIdx_eq_take_drop_succ,List.map_append,List.map_take,List.map_drop]
 refine⟨h.n1,h.n4,fun k hk=>by have:=h.Ls k hk;have:=f.size;omega,?_,h.bL,h.vis.turn ft (fo h.vis.blk (by decide) (by decide)),h.vL,by rw[hle,←he];exact vZ,fun k hk=>h.sL k hk,fun r hr=>?_,?_,?_,?_,by rw[hle];have:=h.few;omega⟩
 ·exact eP hbox 1 _
 ·have hs:=h.lD r (List.mem_of_mem_eraseIdx hr)
  exact hs.turn ft (fun _ h=>h) (fo hs.part.blk (by decide) (by decide)) (fo hs.is (by decide) (by decide))
 ·exact h.pd.sublist ((List.eraseIdx_sublist rs k).map _)
 ·exact h.xJ.sublist ((List.eraseIdx_sublist rs k).map _)
 ·exact h.ids.sublist ((List.eraseIdx_sublist rs k).map _)
theorem dY.shape (h:dY L w b n vb sv vs rs) {k:Nat} (hk:k<rs.length):∃g m c,rs.length=m+1∧sv= .slice (some ⟨g,0,none⟩) (m+1) c:=by
 obtain⟨m,hm⟩:∃m,rs.length=m+1:=⟨rs.length-1,by omega⟩
 rcases h.own.2 with⟨_,h0⟩|⟨g,cap,cur,h1,_⟩
 ·omega
 ·exact⟨g,m,cap,hm,by rw[h1,hm]⟩
end
open Go.RowKit
instance:Inhabited iW:=⟨⟨0,[],[]⟩⟩
def r_ (s:iW) (k:Nat) (t:dO):iW:=⟨s.id,s.part.set k t,s.is.set k true⟩
def newS (n:Nat) (id:Int):iW:=⟨id,List.replicate n gJ,List.replicate n false⟩
def tV (n:Nat) (id:Int) (k:Nat) (t:dO) (st:List iW):Int×List iW:=
 if iE id (st.map iW.id)=-1 then(if 4≤st.length then(4,st)else(0,(st++ [newS n id]).set st.length (r_ (newS n id) k t)))
 else if(st.getD (iE id (st.map iW.id)).toNat default).is.getD k false=true then(8,st)
 else(0,st.set (iE id (st.map iW.id)).toNat (r_ (st.getD (iE id (st.map iW.id)).toNat default) k t))
theorem Ce (rs:List aW):(rs.map aW.con).map iW.id=rs.map aW.id:=by rw[List.map_map];rfl
theorem GI {rs:List aW} {i:Nat} (h:i<rs.length):(rs.map aW.con).getD i default=(rs.getD i default).con:=by
 rw[getD_at _ (by rw[List.length_map];exact h),getD_at _ h,List.getElem_map]
theorem VW (l:List Bool) (k:Nat) (y:Bool):oH (l.set k y)=(oH l).set k (.bool y):=by unfold oH;rw[List.map_set]
theorem Ci {α β:Type} {d:α} (f:α→β) {l:List α} {i:Nat} {x:α} (h:i<l.length) (hf:f x=f (l.getD i d)):(l.set i x).map f=l.map f:=by
 rw[List.map_set,hf,getD_at d h]
 have:f l[i]=(l.map f)[i]'(by rw[List.length_map];exact h):=by rw[List.getElem_map]
 rw[this,List.set_getElem_self]
section
variable {L:Nat→Prop} {w w':World} {b n vb:Nat} {sv:Value} {vs:List bD} {rs:List aW}
theorem dY.put (h:dY L w b n vb sv vs rs) {i k:Nat} (hi:i<rs.length) (hk:k<n) (q:bD) (hes:q.es=[]) (hq:jc (fun k=>¬L k) w q) (hg:Good q.g) {r:aW} (hr:rs.getD i default=r):
 dY L ((((w.setCell ⟨r.pb,k*3,none⟩ q.ev).setCell ⟨r.pb,k*3+1,none⟩ q.kv).setCell ⟨r.pb,k*3+2,none⟩ q.cv).setCell ⟨r.ib,k,none⟩ (.bool true)) b n vb sv vs (rs.set i ⟨r.id,r.pb,r.ib,r.part.set k q,r.is.set k true⟩)∧
 aj L w ((((w.setCell ⟨r.pb,k*3,none⟩ q.ev).setCell ⟨r.pb,k*3+1,none⟩ q.kv).setCell ⟨r.pb,k*3+2,none⟩ q.cv).setCell ⟨r.ib,k,none⟩ (.bool true)):=by
 have hs:xH L w n r:=h.lD r (by rw[←hr];exact getD_mem _ hi)
 have hpi:r.pb≠r.ib:=fU hs.part.blk hs.is (by decide)
 have hp1:=eP (eP (eP hs.part.blk (k*3) q.ev) (k*3+1) q.kv) (k*3+2) q.cv
 obtain⟨w1,hw1⟩:∃w1,w1=((w.setCell ⟨r.pb,k*3,none⟩ q.ev).setCell ⟨r.pb,k*3+1,none⟩ q.kv).setCell ⟨r.pb,k*3+2,none⟩ q.cv:=⟨_,rfl⟩
 have f1:aj (fun x=>x=r.pb) w w1:=by
  rw[hw1]
  exact((aj.setCell (S:=fun x=>x=r.pb) w (p:=⟨r.pb,k*3,none⟩) (.inl rfl) _).trans (aj.setCell (S:=fun x=>x=r.pb) _ (p:=⟨r.pb,k*3+1,none⟩) (.inl rfl) _) fun _ _ h=>h).trans (aj.setCell (S:=fun x=>x=r.pb) _ (p:=⟨r.pb,k*3+2,none⟩) (.inl rfl) _) fun _ _ h=>h
 rw[←hw1]at hp1⊢
 have hi1:=eP (f1.blk hs.is hpi.symm) k (.bool true)
 have f2:aj (fun x=>x=r.pb∨x=r.ib) w (w1.setCell ⟨r.ib,k,none⟩ (.bool true)):=(f1.mono (T:=fun x=>x=r.pb∨x=r.ib) fun _ _ e=> .inl e).trans (aj.setCell (S:=fun x=>x=r.pb∨x=r.ib) w1 (p:=⟨r.ib,k,none⟩) (.inl (.inr rfl)) _) fun _ _ h=>h
 have hp2:=(aj.setCell (S:=fun x=>x=r.ib) w1 (p:=⟨r.ib,k,none⟩) (.inl rfl) (.bool true)).blk hp1 hpi
 generalize w1.setCell ⟨r.ib,k,none⟩ (.bool true)=w3 at*
 have ft:∀x,x<w.heap.size→¬L x→w3.heap[x]?=w.heap[x]?∧¬L x:=fun x hx hl=>⟨f2.block x hx fun e=>hl (e.elim (fun e=>e▸hs.pL) fun e=>e▸hs.iL),hl⟩
 have fo:∀ {x:Nat} {o:Array Value} {t:TypeId},w.heap[x]?=some (.cells o t (0,0))→x≠r.pb→x≠r.ib→w3.heap[x]?=w.heap[x]?:=fun hx h1 h2=>f2.block _ (lt_of_block hx) fun e=>e.elim h1 h2
 have own:w3.ownsRow 0 86 3 sv rs.length ((rs.map (aW.q n)).flatMap bM.cells):=by
  refine f2.owns h.own fun x hx e=>?_
  rcases h.own.2 with⟨h1,_⟩|⟨g',cap',cur,h1,_,h2,_⟩
  ·rw[h1]at hx;simp[Value.ownBlock]at hx
  ·rw[h1]at hx
   have:g'=x:=by simpa[Value.ownBlock]using hx
   subst this
   exact e.elim (fU h2 hs.part.blk (by decide)) (fU h2 hs.is (by decide))
 have hvp:vb≠r.pb:=fun e=>h.vL (e▸hs.pL)
 refine⟨⟨h.n1,h.n4,fun x hx=>Nat.lt_of_lt_of_le (h.Ls x hx) f2.size,(fo h.box (fU h.box hs.part.blk (by decide)) (fU h.box hs.is (by decide))).trans h.box,h.bL,h.vis.turn ft (fo h.vis.blk hvp (fU h.vis.blk hs.is (by decide))),h.vL,?_,h.sL,fun r' hr'=>?_,?_,?_,?_,by rw[List.length_set];exact h.few⟩,f2.mono fun x _ e=>e.elim (fun e=>e▸hs.pL) fun e=>e▸hs.iL⟩
 ·rw[List.length_set,Ci (d:=default) (aW.q n) hi (by rw[hr];rfl)]
  exact own
 ·obtain⟨j,hj,rfl⟩:=List.getElem_of_mem hr'
  rw[List.length_set]at hj
  rw[List.getElem_set]
  by_cases e:i=j
  ·rw[if_pos e]
   refine⟨⟨by rw[List.length_set];exact hs.part.len,?_,fun q' hq'=>?_⟩,by rw[List.length_set];exact hs.xI,?_,hs.pL,hs.iL⟩
   ·rw[hp2,Gi _ _ _ (by rw[hs.part.len];exact hk)]
    simp
   ·rcases List.mem_or_eq_of_mem_set hq' with h1|h1
    ·obtain⟨g1,g2,g3⟩:=hs.part.each q' h1
     exact⟨g1,g2.turn ft,g3⟩
    ·subst h1
     exact⟨hes,hq.turn ft,hg⟩
   ·rw[hi1,VW]
    simp
  ·rw[if_neg e]
   have hsj:=h.lD rs[j] (List.getElem_mem hj)
   have yE:r=rs[i]:=by rw[←hr,getD_at _ hi]
   have hpn:rs[j].pb≠r.pb:=fun e2=>e<|by
    have:=(List.getElem_inj (xs:=rs.map aW.pb) (h₀:=by rw[List.length_map];exact hi) (h₁:=by rw[List.length_map];exact hj) h.pd).1 (by simp only[List.getElem_map];rw[e2,yE])
    exact this
   have hin:rs[j].ib≠r.ib:=fun e2=>e<|by
    have:=(List.getElem_inj (xs:=rs.map aW.ib) (h₀:=by rw[List.length_map];exact hi) (h₁:=by rw[List.length_map];exact hj) h.xJ).1 (by simp only[List.getElem_map];rw[e2,yE])
    exact this
   exact hsj.turn ft (fun _ h=>h) (fo hsj.part.blk hpn (fU hsj.part.blk hs.is (by decide))) (fo hsj.is (fU hsj.is hs.part.blk (by decide)) hin)
 ·rw[Ci (d:=default) aW.pb hi (by rw[hr])];exact h.pd
 ·rw[Ci (d:=default) aW.ib hi (by rw[hr])];exact h.xJ
 ·rw[Ci (d:=default) aW.id hi (by rw[hr])];exact h.ids
def tX (n:Nat) (id:Int) (pb ib:Nat):aW:=⟨id,pb,ib,jY n,List.replicate n false⟩
theorem MS (n:Nat) (id:Int) (pb ib:Nat):(tX n id pb ib).con=newS n id:=by
 unfold tX aW.con newS jY
 rw[List.map_replicate]
 rfl
def grown (L:Nat→Prop) (pb ib:Nat) (sv:Value) (k:Nat):Prop:=L k∨k=pb∨k=ib∨sv.ownBlock=some k
theorem GK {Q:Nat→Prop} {w:World} {b n:Nat} (h:w.heap[b]?=some (.cells ((jY n).flatMap bD.cells).toArray 32 (0,0))):pO Q w b n (jY n):=
 ⟨by simp[jY],h,fun q hq=>by
   have:q=default:=List.eq_of_mem_replicate hq
   subst this
   refine⟨rfl,⟨⟨⟨.inl ⟨none,rfl,rfl,rfl⟩,fun h=>absurd rfl h⟩,[],⟨.inl ⟨none,rfl,rfl,rfl⟩,fun h=>absurd rfl h⟩,rfl⟩, .inl ⟨none,rfl,rfl,rfl⟩,fun h=>absurd rfl h⟩,Gq⟩⟩
theorem dY.grow (h:dY L w b n vb sv vs rs) {w1 w2:World} {pb ib c:Nat} {ad:Option Addr} {id:Int} (f1:aj au w w1) (hpb:w.heap.size≤pb) (hib:w.heap.size≤ib)
 (bp:w1.heap[pb]?=some (.cells ((jY n).flatMap bD.cells).toArray 32 (0,0))) (bi:w1.heap[ib]?=some (.cells (oH (List.replicate n false)).toArray 4 (0,0)))
 (f2:aj (bY sv) w1 w2) (hfr:jk w1 sv (.slice ad (rs.length+1) c))
 (own:w2.ownsRow 0 86 3 (.slice ad (rs.length+1) c) (rs.length+1) ((rs.map (aW.q n)).flatMap bM.cells++ [.int .i64 id, .slice (some ⟨pb,0,none⟩) n n, .slice (some ⟨ib,0,none⟩) n n]))
 (hnew:id∉rs.map aW.id) (hlen:rs.length<4):
 w2.heap[b]?=some (.cells #[.slice (some ⟨vb,0,none⟩) n n,sv] 81 (0,0))∧
 dY (grown L pb ib (.slice ad (rs.length+1) c)) (w2.setCell ⟨b,1,none⟩ (.slice ad (rs.length+1) c)) b n vb (.slice ad (rs.length+1) c) vs (rs++ [tX n id pb ib])∧
 Turned L w (grown L pb ib (.slice ad (rs.length+1) c)) (w2.setCell ⟨b,1,none⟩ (.slice ad (rs.length+1) c)):=by
 have hs1:=f1.size
 have hs2:=f2.size
 have MV:∀ {k},bY sv k→L k∧k<w.heap.size:=fun hk=>⟨h.sL _ hk,h.Ls _ (h.sL _ hk)⟩
 have h1:=h.aN f1
 have hbox:w2.heap[b]?=some (.cells #[.slice (some ⟨vb,0,none⟩) n n,sv] 81 (0,0)):=f2.blk h1.box fun s=>by
  rcases h1.own.2 with⟨g1,_⟩|⟨g',cap',cur,g1,_,g2,_⟩
  ·unfold bY at s;rw[g1]at s;simp[Value.ownBlock]at s
  ·unfold bY at s;rw[g1]at s
   have:g'=b:=by simpa[Value.ownBlock]using s
   subst this
   exact fU h1.box g2 (by decide) rfl
 have MW:∀ {k},w.heap.size≤k→¬bY sv k:=fun hk s=>by have:=(MV s).2;omega
 have VX:=f2.blk bp (MW hpb)
 have VY:=f2.blk bi (MW hib)
 have hbl:=lt_of_block h.box
 obtain⟨w3,hw3⟩:∃w3,w3=w2.setCell ⟨b,1,none⟩ (.slice ad (rs.length+1) c):=⟨_,rfl⟩
 have f3:aj (fun k=>k=b) w2 w3:=by rw[hw3];exact aj.setCell (S:=fun k=>k=b) w2 (p:=⟨b,1,none⟩) (.inl rfl) _
 have VZ:w3.heap[b]?=some (.cells #[.slice (some ⟨vb,0,none⟩) n n, .slice ad (rs.length+1) c] 81 (0,0)):=by rw[hw3];exact eP hbox 1 _
 have hgo:∀g,(Value.slice ad (rs.length+1) c).ownBlock=some g→(L g∨w.heap.size≤g)∧∃cur,w2.heap[g]?=some (.cells cur 86 (0,0)):=fun g hg=>by
  refine⟨?_,?_⟩
  ·rcases hfr g hg with s|s
   ·exact .inl (h.sL _ s)
   ·exact .inr (by omega)
  ·rcases own.2 with⟨g1,_⟩|⟨g',cap',cur,g1,_,g2,_⟩
   ·rw[g1]at hg;simp[Value.ownBlock]at hg
   ·rw[g1]at hg
    have:g'=g:=by simpa[Value.ownBlock]using hg
    subst this
    exact⟨cur,g2⟩
 have vZ:w3.ownsRow 0 86 3 (.slice ad (rs.length+1) c) (rs.length+1) ((rs.map (aW.q n)).flatMap bM.cells++ [.int .i64 id, .slice (some ⟨pb,0,none⟩) n n, .slice (some ⟨ib,0,none⟩) n n]):=
  f3.owns own fun g hg e=>by
   obtain⟨_,cur,g2⟩:=hgo g hg
   exact fU g2 hbox (by decide) e
 have MX:=f3.blk VX (by omega)
 have MZ:=f3.blk VY (by omega)
 rw[←hw3]
 have GL:aj L w w3:=(((f1.mono (T:=L) fun _ _ h=>h.elim).trans f2 fun k hk s=>(MV s).1)).trans f3 fun k _ e=>by subst e;exact h.bL
 have ft:∀k,k<w.heap.size→¬L k→w3.heap[k]?=w.heap[k]?∧¬grown L pb ib (.slice ad (rs.length+1) c) k:=fun k hk hl=>⟨GL.block k hk hl,fun e=>by
  rcases e with e|e|e|e
  ·exact hl e
  ·omega
  ·omega
  ·rcases(hgo k e).1 with e|e
   ·exact hl e
   ·omega⟩
 have fo:∀ {k:Nat} {o:Array Value} {t:TypeId},w.heap[k]?=some (.cells o t (0,0))→t≠86→t≠81→w3.heap[k]?=w.heap[k]?:=fun {k o t} hk t1 t2=>by
  have hk1:=f1.blk hk (fun s=>s)
  have n2:¬bY sv k:=fun s=>by
   rcases h.own.2 with⟨g1,_⟩|⟨g',cap',cur,g1,_,g2,_⟩
   ·unfold bY at s;rw[g1]at s;simp[Value.ownBlock]at s
   ·unfold bY at s;rw[g1]at s
    have:g'=k:=by simpa[Value.ownBlock]using s
    subst this
    exact fU hk g2 t1 rfl
  have hk2:=f2.blk hk1 n2
  exact(f3.blk hk2 (fU hk2 hbox t2)).trans hk.symm
 refine⟨hbox,⟨h.n1,h.n4,fun k hk=>?_,VZ, .inl h.bL,h.vis.turn ft (fo h.vis.blk (by decide) (by decide)),(ft vb (lt_of_block h.vis.blk) h.vL).2,?_,fun k hk=> .inr (.inr (.inr hk)),fun r hr=>?_,?_,?_,?_,by rw[List.length_append];simp;omega⟩,GL,fun k hk=>?_⟩
 ·have hs3:=GL.size
  have Zu:=f3.size
  rcases hk with e|e|e|e
  ·have:=h.Ls k e;omega
  ·subst e;exact lt_of_block MX
  ·subst e;exact lt_of_block MZ
  ·obtain⟨_,cur,g2⟩:=hgo k e
   have:=lt_of_block g2
   omega
 ·rw[List.length_append,List.map_append,List.flatMap_append]
  exact vZ
 ·rcases List.mem_append.1 hr with hr|hr
  ·have hs:=h.lD r hr
   exact hs.turn ft (fun _ h=> .inl h) (fo hs.part.blk (by decide) (by decide)) (fo hs.is (by decide) (by decide))
  ·have:r=tX n id pb ib:=by simpa using hr
   subst this
   exact⟨GK MX,by simp[tX],MZ, .inr (.inl rfl), .inr (.inr (.inl rfl))⟩
 ·rw[List.map_append,List.nodup_append]
  refine⟨h.pd,by simp,fun x hx y hy e=>?_⟩
  obtain⟨r,hr,rfl⟩:=List.mem_map.1 hx
  have:y=pb:=by simpa[tX]using hy
  have:=lt_of_block (h.lD r hr).part.blk
  omega
 ·rw[List.map_append,List.nodup_append]
  refine⟨h.xJ,by simp,fun x hx y hy e=>?_⟩
  obtain⟨r,hr,rfl⟩:=List.mem_map.1 hx
  have:y=ib:=by simpa[tX]using hy
  have:=lt_of_block (h.lD r hr).is
  omega
 ·rw[List.map_append,List.nodup_append]
  refine⟨h.ids,by simp,fun x hx y hy e=>?_⟩
  have:y=id:=by simpa[tX]using hy
  exact hnew (by rw[←this,←e];exact hx)
 ·rcases hk with e|e|e|e
  ·exact .inl e
  ·exact .inr (by omega)
  ·exact .inr (by omega)
  ·exact(hgo k e).1
end
open Go.RowKit
section
variable {P:Program} {md:Region.Mode} {ops:Array Oper} {Q:Exit→Act→World→Prop} {S:World→Prop} {z:Nat}
theorem V_ {i:Nat} {oi:Oper} {v:Value} (hi:ops[i]?=some oi) (hsel:∀(j:Nat) (o:Oper) cs b,ops[j]?=some o→o.op≠ .select cs b) (hl:ops[z]?=none)
 (hQ:∀c a w,Q (.panic c) (a.put oi.dst v) w→Q (.panic c) a w):
 ∀(fuel:Nat) (listed:Array Bool) (a:Act) (w:World),
  (∀j oj,ops[j]?=some oj→j≠i→listed.getD j true=false→(∀e∈oj.after,Region.binds md e=true→e.on≠i)→oi.apart ops oj=true)→
  i∈Region.ready md ops listed→YieldsIf P ops S oi v a→S w→
  h_ P md ops Q S z fuel (listed.setIfInBounds i true) (a.put oi.dst v) w→h_ P md ops Q S z (fuel+1) listed a w:=by
 intro fuel
 induction fuel with
 |zero=>
  intro listed a w _ hr hy hS H
  refine⟨fun h=>(by rw[h]at hr;cases hr),fun j hj=>?_⟩
  by_cases hji:j=i
  ·subst hji;exact hy.wpOp hi hS ⟨.inr hS,H⟩
  ·have:=ready_mono hj hji
   rw[H.1]at this
   cases this
 |succ fuel ih=>
  intro listed a w hfree hr hy hS H
  refine⟨fun h=>(by rw[h]at hr;cases hr),fun j hj=>?_⟩
  by_cases hji:j=i
  ·subst hji;exact hy.wpOp hi hS ⟨.inr hS,H⟩
  ·have h1:=H.2 j (ready_mono hj hji)
   obtain⟨hjun,oj,hoj,hall⟩:=mem_ready.1 hj
   have hnot:∀e∈oj.after,Region.binds md e=true→e.on≠i:=fun e he hb heq=>by
    have h1:=hall e he hb
    have h0:=(mem_ready.1 hr).1
    rw[heq]at h1
    rcases Nat.lt_or_ge i listed.size with h'|h'
    ·simp[h']at h0 h1;rw[h0]at h1;cases h1
    ·simp[Array.getElem?_eq_none h']at h1
   have hjz:j≠z:=fun hz=>by
    subst hz
    rw[hl]at hoj
    cases hoj
   have h2:=wpOp_putIf hoj (hfree j oj hoj hji hjun hnot) (fun cs b=>hsel i oi cs b hi) (fun cs b=>hsel j oj cs b hoj) hQ hy h1
   have hfree':∀k ok,ops[k]?=some ok→k≠i→(listed.setIfInBounds j true).getD k true=false→
    (∀e∈ok.after,Region.binds md e=true→e.on≠i)→oi.apart ops ok=true:=fun k ok hk hki hun hno=>by
    refine hfree k ok hk hki ?_ hno
    by_cases hjk:j=k
    ·subst hjk;exact hjun
    ·rw[getD_set_ne true hjk]at hun;exact hun
   refine wpOp_mono (fun a' w' h3=>?_) h2
   have hS':S w':=h3.2.1.resolve_left hjz
   refine⟨.inr hS',ih (listed.setIfInBounds j true) a' w' hfree' (ready_mono hr (Ne.symm hji)) h3.1 hS' ?_⟩
   rw[Array.setIfInBounds_comm _ _ hji]
   exact h3.2.2
theorem dN (i d:Nat) {oi:Oper} {v:Value} {fuel:Nat} {listed:Array Bool} {a:Act} {w:World} (hi:ops[i]?=some oi) (hd:oi.dst=some d)
 (hs:Region.noSelect ops=true) (hl:ops[z]?=none) (hf:Region.free md ops listed i=true) (hr:(Region.ready md ops listed).contains i=true)
 (hQ:∀c a w,Q (.panic c) (a.put (some d) v) w→Q (.panic c) a w) (hy:YieldsIf P ops S oi v a) (hS:S w)
 (h:h_ P md ops Q S z fuel (listed.setIfInBounds i true) (a.put (some d) v) w):h_ P md ops Q S z (fuel+1) listed a w:=
 V_ hi (Region.noSelect_spec hs) hl (by rw[hd];exact hQ) fuel listed a w (Region.free_spec hi hf) (by simpa using hr) hy hS (by rw[hd];exact h)
theorem GN {fuel:Nat} {listed:Array Bool} {a:Act} {w:World} (hr:Region.ready md ops listed=[]) (h:Q .normal a w):h_ P md ops Q S z fuel listed a w:=by
 cases fuel with
 |zero=>exact⟨hr,h⟩
 |succ n=>exact⟨fun _=>h,by rw[hr];simp⟩
end
open Go.RowKit
open Go.RowKit
theorem pO.put {Q:Nat→Prop} {w:World} {b n:Nat} {l:List bD} (h:pO Q w b n l) {k:Nat} (hk:k<n) (q:bD) (hes:q.es=[]) (hq:jc Q w q) (hg:Good q.g) (hQ:∀k,Q k→k≠b):
 pO Q (((w.setCell ⟨b,k*3,none⟩ q.ev).setCell ⟨b,k*3+1,none⟩ q.kv).setCell ⟨b,k*3+2,none⟩ q.cv) b n (l.set k q)∧aj (fun x=>x=b) w (((w.setCell ⟨b,k*3,none⟩ q.ev).setCell ⟨b,k*3+1,none⟩ q.kv).setCell ⟨b,k*3+2,none⟩ q.cv):=by
 have hp1:=eP (eP (eP h.blk (k*3) q.ev) (k*3+1) q.kv) (k*3+2) q.cv
 have f1:=((aj.setCell (S:=fun x=>x=b) w (p:=⟨b,k*3,none⟩) (.inl rfl) q.ev).trans (aj.setCell (S:=fun x=>x=b) _ (p:=⟨b,k*3+1,none⟩) (.inl rfl) q.kv) fun _ _ h=>h).trans (aj.setCell (S:=fun x=>x=b) _ (p:=⟨b,k*3+2,none⟩) (.inl rfl) q.cv) fun _ _ h=>h
 generalize ((w.setCell ⟨b,k*3,none⟩ q.ev).setCell ⟨b,k*3+1,none⟩ q.kv).setCell ⟨b,k*3+2,none⟩ q.cv=w1 at*
 have ft:∀x,x<w.heap.size→Q x→w1.heap[x]?=w.heap[x]?∧Q x:=fun x hx hl=>⟨f1.block x hx (hQ x hl),hl⟩
 refine⟨⟨by rw[List.length_set];exact h.len,?_,fun q' hq'=>?_⟩,f1⟩
 ·rw[hp1,Gi _ _ _ (by rw[h.len];exact hk)]
  simp
 ·rcases List.mem_or_eq_of_mem_set hq' with h1|h1
  ·obtain⟨g1,g2,g3⟩:=h.each q' h1
   exact⟨g1,g2.turn ft,g3⟩
  ·subst h1
   exact⟨hes,hq.turn ft,hg⟩
section
variable {L:Nat→Prop} {w w':World} {b n vb:Nat} {sv:Value} {vs:List bD} {rs:List aW}
theorem dY.Wh (h:dY L w b n vb sv vs rs) {nb:Nat} {ns:List bD} (hr:pO (fun k=>¬L k) w nb n ns) (hL:¬L nb):
 dY L (w.setCell ⟨b,0,none⟩ (.slice (some ⟨nb,0,none⟩) n n)) b n nb sv ns rs∧aj L w (w.setCell ⟨b,0,none⟩ (.slice (some ⟨nb,0,none⟩) n n)):=by
 have f:=aj.setCell (S:=fun x=>x=b) w (p:=⟨b,0,none⟩) (.inl rfl) (.slice (some ⟨nb,0,none⟩) n n)
 have hbox:=eP h.box 0 (.slice (some ⟨nb,0,none⟩) n n)
 generalize w.setCell ⟨b,0,none⟩ (.slice (some ⟨nb,0,none⟩) n n)=w1 at*
 have ft:∀x,x<w.heap.size→¬L x→w1.heap[x]?=w.heap[x]?∧¬L x:=fun x hx hl=>⟨f.block x hx fun e=>hl (e▸h.bL),hl⟩
 have fo:∀ {k:Nat} {o:Array Value} {t:TypeId},w.heap[k]?=some (.cells o t (0,0))→t≠81→w1.heap[k]?=w.heap[k]?:=fun hk h2=>f.block _ (lt_of_block hk) (fU hk h.box h2)
 have own:w1.ownsRow 0 86 3 sv rs.length ((rs.map (aW.q n)).flatMap bM.cells):=by
  refine f.owns h.own fun x hx e=>?_
  rcases h.own.2 with⟨h1,_⟩|⟨g',cap',cur,h1,_,h2,_⟩
  ·rw[h1]at hx;simp[Value.ownBlock]at hx
  ·rw[h1]at hx
   have:g'=x:=by simpa[Value.ownBlock]using hx
   subst this
   exact fU h2 h.box (by decide) e
 exact⟨⟨h.n1,h.n4,fun x hx=>Nat.lt_of_lt_of_le (h.Ls x hx) f.size,hbox,h.bL,hr.turn ft (fo hr.blk (by decide)),hL,own,h.sL,fun r hr'=>(h.lD r hr').turn ft (fun _ h=>h) (fo (h.lD r hr').part.blk (by decide)) (fo (h.lD r hr').is (by decide)),h.pd,h.xJ,h.ids,h.few⟩,f.mono fun x _ e=>e▸h.bL⟩
theorem zI {l:List bD} {k:Nat} (h:k<l.length):(l.flatMap bD.cells).toArray[k*3]?=some (l.getD k default).ev∧(l.flatMap bD.cells).toArray[k*3+1]?=some (l.getD k default).kv∧(l.flatMap bD.cells).toArray[k*3+2]?=some (l.getD k default).cv:=by
 simpa using zB l k h
noncomputable def pU (a b:List dO) (n j:Nat):List dO:=(List.range n).map fun x=>if x<j then mP (a.getD x gJ) (b.getD x gJ)else gJ
theorem Wi (a b:List dO) (n:Nat):pU a b n 0=List.replicate n gJ:=by
 unfold pU
 simp[List.map_const']
theorem Wj (a b:List dO) {n j:Nat} (h:j<n):pU a b n (j+1)=(pU a b n j).set j (mP (a.getD j gJ) (b.getD j gJ)):=by
 refine List.ext_getElem (by simp[pU]) fun i h1 h2=>?_
 simp only[pU,List.getElem_map,List.getElem_range,List.getElem_set]
 by_cases e:j=i
 ·subst e;simp
 ·rw[if_neg e]
  have:(i<j+1)↔(i<j):=by omega
  simp only[this]
theorem Wn (a b:List dO) {n:Nat} (ha:a.length=n) (hb:b.length=n):pU a b n n=List.zipWith mP a b:=by
 refine List.ext_getElem (by simp[pU,ha,hb]) fun i h1 h2=>?_
 have hi:i<n:=by simpa[pU]using h1
 simp only[pU,List.getElem_map,List.getElem_range,if_pos hi,List.getElem_zipWith]
 rw[getD_at _ (by omega),getD_at _ (by omega)]
theorem Cj {l:List bD} {k:Nat} (h:k<l.length):(l.map bD.g).getD k gJ=(l.getD k default).g:=by
 rw[getD_at _ (by rw[List.length_map];exact h),getD_at _ h,List.getElem_map]
theorem Wp (ks ks':aH) (c c':aU):nK [] ks c [] ks' c'=([],rZ (ks,c) (ks',c')):=Gm (ks,c) (ks',c')
theorem Wq (h:dY L w b n vb sv vs rs) (x:Int) (i:Nat) (hi:i<rs.length) (hp:iE x (rs.map aW.id)=i) (hall:pK (rs.getD i default).is=n)
 (hsz:∀j,j<n→qL (vs.getD j default).g+qL ((rs.getD i default).part.getD j default).g≤2000∧(vs.getD j default).g.2.length+((rs.getD i default).part.getD j default).g.2.length≤2000):
 Calls Tryz.prog 17 #[.pointer (some ⟨b,0,none⟩), .int .i64 x] w fun e w'=>e= .returned (.int .i64 0)∧∃oI sv' ns,aj L w w'∧dY L w' b n oI sv' ns (rs.eraseIdx i)∧ns.map bD.g=List.zipWith mP (vs.map bD.g) ((rs.getD i default).part.map bD.g):=by
 obtain⟨r,hr⟩:∃r,rs.getD i default=r:=⟨_,rfl⟩
 rw[hr]at hall hsz⊢
 have hs:∀W,aj au w W→xH L W n r:=fun W f=>hr▸(h.aN f).lD _ (getD_mem default hi)
 have hn1:=h.n1
 have hn4:=h.n4
 have hfew:=h.few
 have hlq:(rs.map (aW.q n)).length=rs.length:=List.length_map ..
 obtain⟨g0,g1,g2⟩:=xF (rs.map (aW.q n)) i (by rw[hlq];exact hi)
 rw[Cb hi,hr]at g1
 have GR:=Gy n rs
 have HM:=ah (fun W (f:aj au w W)=>(show Calls Tryz.prog 21 #[.pointer (some ⟨b,0,none⟩), .int .i64 x] W fun e w'=>e= .returned (.int .i64 n)∧aj au W w' from by
  have:=Vo x (rs.map (aW.q n)) b W sv (h.aN f).rd zG (by rw[hlq];omega) (h.aN f).pR i r.is (by rw[GR];exact hp) (by rw[hlq];exact hi) (by rw[Cb hi,hr];show Rd W (.slice (some ⟨r.ib,0,none⟩) n n) _ _;rw[(hs W f).xI];exact Rd.zF (hs W f).is (by simp only[maxLen];omega)) (by rw[(hs W f).xI];omega)
  rwa [hall]at this))
 have HA:=ah (fun W (f:aj au w W)=>(show Calls Tryz.prog 38 #[.pointer (some ⟨b,0,none⟩), .int .i64 x] W fun e w'=>e= .returned (.int .i64 i)∧aj au W w' from by
  have:=BZ x (rs.map (aW.q n)) b W sv (h.aN f).rd zG (by rw[hlq];omega) (h.aN f).pR
  rwa [GR,hp]at this))
 have HST:=ah h
 have M_:=ah hs
 have jy:=ah hsz
 have hm1:=Gj n hn1 hn4
 obtain⟨Z1,hZ1⟩:∃Z,Z=((jY n).flatMap bD.cells).toArray:=⟨_,rfl⟩
 rw[←hZ1]at hm1
 have HZ1:=ah hZ1;clear hZ1
 obtain⟨g,m,c,hl,rfl⟩:=h.shape hi
 have hkm:i≤m:=by omega
 have HD:=ah (fun W (hW:W.ownsRow 0 86 3 (.slice (some ⟨g,0,none⟩) (m+1) c) (m+1) ((rs.map (aW.q n)).flatMap bM.cells))=>Vw (rs.map (aW.q n)) g m c i W hW (by rw[hlq];exact hl) zG hkm (by omega))
 have Ws:=ah (fun W W2 oI vs' (hW:dY L W b n oI (.slice (some ⟨g,0,none⟩) (m+1) c) vs' rs) f2 o2=>hW.drop (k:=i) (w2:=W2) f2 o2 hl hkm)
 have Wu:=ah g1
 have kE:=ah hl
 have hm4:m≤1000:=by omega
 clear h hs hsz hall hp GR hlq g0 g1 g2 hr hi hl hfew
 obtain⟨α,hne,K,hK1,hK0,hK2⟩:=worlds w
 have dV:=ah hK1
 have k0:∀s,(K s).cell? ⟨b,0,none⟩=some (.slice (some ⟨vb,0,none⟩) n n):=fun s=>(HST.out.aN (hK1 s)).nN
 clear hK1
 go_enter Tryz.func17,Tryz.ntmps17
 go_wp2_with fail
 refine dh K (by kernel_rfl) (by kernel_rfl) hK0 ?_
 repeat(go_big_quiet_step ((go_at_call 21;exact Calls.aZ hK2 (HM.out _ (dV.out _)))))
 refine wpQuiet_nil ?_
 intro w1 hw1
 obtain⟨s,rfl⟩:=hw1
 have dB:=ah (dV.out s)
 clear k0 hK0 hK2 dV
 generalize K s=W1 at*
 clear HM
 go_upto_region 7 with(go_at_call 38;refine(HA.out _ dB.out).mono ?_;rintro e W2 ⟨rfl,hf2⟩;have HF2:=ah (dB.out.aG hf2);clear hf2;have y0:=(HST.out.aN HF2.out).nN;have hb0:=World.block_lt_of_cell? _ _ y0)
 have Na:=ah (heap_alloc_new W2 (.cells Z1 32))
 have HF3:=ah (HF2.out.alloc1 (o:= .cells Z1 32))
 have hz2:=HF2.out.size
 obtain⟨nb,hnb⟩:∃nb,nb=W2.heap.size:=⟨_,rfl⟩
 rw[←hnb]at Na hz2⊢
 have hz3:nb<(W2.alloc (.cells Z1 32)).heap.size:=by rw[hnb];simp
 generalize W2.alloc (.cells Z1 32)=W3 at*
 clear y0 hb0 hnb HF2 dB HA
 have y1:=(HST.out.aN HF3.out).pR
 have y2:W3.cell? ⟨g,i*3+1,none⟩=some (.slice (some ⟨r.pb,0,none⟩) n n):=by
  have:=(HST.out.aN HF3.out).own.cells (g:=g) rfl (i*3+1) _ Wu.out
  rwa [addr_add,Nat.zero_add]at this
 have hb1:=World.block_lt_of_cell? _ _ y1
 have hb2:=World.block_lt_of_cell? _ _ y2
 have him:(i:Int)<(m:Int)+1:=by omega
 go_wp2
 go_loopw [38] (fun iv W=>∃(j:Nat) (ns:List bD),j≤n∧iv= .int .i64 j∧aj au w W∧pO (fun k=>w.heap.size≤k∧k≠nb) W nb n ns∧ns.map bD.g=pU (vs.map bD.g) (r.part.map bD.g) n j) (fun iv _=>n-(intOf iv).toNat)
 case atStart=>exact⟨0,jY n,by omega,rfl,HF3.out,GK (by rw[←HZ1.out];exact Na.out),by rw[Wi];unfold jY;rw[List.map_replicate];rfl⟩
 case round=>
  obtain⟨j,ns,hj,rfl,hfw,hns,hg⟩:=hrel
  clear y1 y2 hb1 hb2
  have iH:=ah hfw
  have u_:=ah hns
  have HG:=ah hg
  have hnl:=lt_of_block hns.blk
  clear hfw hns hg
  by_cases hlt:j<n
  ·have qM:=ah (HST.out.aN iH.out).vis
   have nP:=ah (M_.out _ iH.out).part
   have Cm:j<vs.length:=by rw[qM.out.len];exact hlt
   have hjp:j<r.part.length:=by rw[nP.out.len];exact hlt
   obtain⟨v0,v1,v2⟩:=zI Cm
   obtain⟨p0,p1,p2⟩:=zI hjp
   obtain⟨e1,hq1,hg1⟩:=qM.out.each _ (getD_mem default Cm)
   obtain⟨e2,hq2,hg2⟩:=nP.out.each _ (getD_mem default hjp)
   have hst:=Wj (vs.map bD.g) (r.part.map bD.g) hlt
   rw[Cj Cm,Cj hjp]at hst
   have hsz:=jy.out j hlt
   generalize hqa:vs.getD j default=qa at*
   generalize rV:r.part.getD j default=qb at*
   clear hqa rV
   obtain⟨es,ks,cc,ev,kv,cv⟩:=qa
   obtain⟨es',ks',cc',ev',kv',i_⟩:=qb
   have e1:es=[]:=e1
   have e2:es'=[]:=e2
   subst e1 e2
   have ha:∀W,aj au wr W→fP (fun k=>¬L k) W ev kv cv [] ks cc:=fun W f=>(hq1.aN f).at_
   have hb:∀W,aj au wr W→fP (fun k=>¬L k) W ev' kv' i_ [] ks' cc':=fun W f=>(hq2.aN f).at_
   have hg1:Good (ks,cc):=hg1
   have hg2:Good (ks',cc'):=hg2
   obtain⟨a0,c0,a1,c1,a2,c2,rfl,rfl,rfl⟩:=(ha wr (aj.refl _ _)).shape
   obtain⟨d0,k0,d1,k1,d2,k2,rfl,rfl,rfl⟩:=(hb wr (aj.refl _ _)).shape
   have pG:=ah (fun W (f:aj au wr W)=>(show Calls Tryz.prog 22 #[.agg #[.slice a0 0 c0, .slice a1 ks.len c1, .slice a2 cc.length c2], .agg #[.slice d0 0 k0, .slice d1 ks'.len k1, .slice d2 cc'.length k2]] W fun e w'=>∃ev kv cv,e= .returned (.tuple #[.agg #[ev,kv,cv], .int .i64 0])∧bg (fun b=>W.heap.size≤b) w' ev kv [] (rZ (ks,cc) (ks',cc'))∧OwnAt W w' 92 3 cv (tN cc cc').length (cO (tN cc cc'))from by
    refine(T_ _ _ [] ks cc [] ks' cc' W _ _ _ _ _ _ (ha W f) (hb W f) hg1.ok hg2.ok hg1.right hg2.right).mono fun e w' hp=>?_
    obtain⟨ev,kv,cv,u,he,h1,h2,h3⟩:=hp
    rw[Wp]at h1
    rw[←Gp h3]at h2
    exact⟨ev,kv,cv,he,h1,h2⟩))
   have hgj:=VB hg1 hg2 hsz.1 hsz.2
   have Wv:=ah hgj
   have Wx:=ah hst
   have z0:=(HST.out.aN iH.out).nN
   have z1:=aJ qM.out.blk (j*3) v0
   have z2:=aJ qM.out.blk (j*3+1) v1
   have z3:=aJ qM.out.blk (j*3+2) v2
   have z4:=aJ nP.out.blk (j*3) p0
   have z5:=aJ nP.out.blk (j*3+1) p1
   have z6:=aJ nP.out.blk (j*3+2) p2
   have hl0:=World.block_lt_of_cell? _ _ z0
   have hl1:=World.block_lt_of_cell? _ _ z1
   have hl4:=World.block_lt_of_cell? _ _ z4
   have hjn:(j:Int)<(n:Int):=by omega
   clear Cm hjp v0 v1 v2 p0 p1 p2 hq1 hq2 hg1 hg2 hst hsz ha hb hgj
   have ji:=ah (⟨fU (HST.out.aN iH.out).box u_.out.blk (by decide),fun e=>by have:=lt_of_block HST.out.vis.blk;omega,fun e=>by omega⟩:b≠nb∧vb≠nb∧wr.heap.size≠nb)
   have iI:=ah (fun N Y Y' (f:aj N Y Y') (hn:¬N b∧¬N vb∧¬N wr.heap.size) (hS:Y.cell? ⟨b,0,none⟩=some (.slice (some ⟨vb,0,none⟩) n n)∧Y.cell? ⟨vb,j*3,none⟩=some (.slice a0 0 c0)∧Y.cell? ⟨vb,j*3+1,none⟩=some (.slice a1 ks.len c1)∧Y.cell? ⟨vb,j*3+2,none⟩=some (.slice a2 cc.length c2)∧Y.cell? ⟨wr.heap.size,0,none⟩=some (.slice d0 0 k0)∧Y.cell? ⟨wr.heap.size,1,none⟩=some (.slice d1 ks'.len k1)∧Y.cell? ⟨wr.heap.size,2,none⟩=some (.slice d2 cc'.length k2))=>
    (⟨f.cell' hS.1 hn.1,f.cell' hS.2.1 hn.2.1,f.cell' hS.2.2.1 hn.2.1,f.cell' hS.2.2.2.1 hn.2.1,f.cell' hS.2.2.2.2.1 hn.2.2,f.cell' hS.2.2.2.2.2.1 hn.2.2,f.cell' hS.2.2.2.2.2.2 hn.2.2⟩:Y'.cell? ⟨b,0,none⟩=some (.slice (some ⟨vb,0,none⟩) n n)∧Y'.cell? ⟨vb,j*3,none⟩=some (.slice a0 0 c0)∧Y'.cell? ⟨vb,j*3+1,none⟩=some (.slice a1 ks.len c1)∧Y'.cell? ⟨vb,j*3+2,none⟩=some (.slice a2 cc.length c2)∧Y'.cell? ⟨wr.heap.size,0,none⟩=some (.slice d0 0 k0)∧Y'.cell? ⟨wr.heap.size,1,none⟩=some (.slice d1 ks'.len k1)∧Y'.cell? ⟨wr.heap.size,2,none⟩=some (.slice d2 cc'.length k2)))
   have fa:=aj.alloc au wr (.cells #[.slice d0 0 k0, .slice d1 ks'.len k1, .slice d2 cc'.length k2] 32)
   have ba:=heap_alloc_new wr (.cells #[.slice d0 0 k0, .slice d1 ks'.len k1, .slice d2 cc'.length k2] 32)
   have jO:=iI.out au _ _ (aj.drew au _) ⟨id,id,id⟩ ⟨fa.cell' z0 id,fa.cell' z1 id,fa.cell' z2 id,fa.cell' z3 id,aJ ba 0 rfl,aJ ba 1 rfl,aJ ba 2 rfl⟩
   have jU:=ah (fa.aG (aj.drew au _))
   clear fa ba
   go_upto_region 10 with fail
   clear z0 z1 z2 z3 z4 z5 z6 hl0 hl1 hl4
   refine iZ (S:=fun Y=>Y.cell? ⟨b,0,none⟩=some (.slice (some ⟨vb,0,none⟩) n n)∧Y.cell? ⟨vb,j*3,none⟩=some (.slice a0 0 c0)∧Y.cell? ⟨vb,j*3+1,none⟩=some (.slice a1 ks.len c1)∧Y.cell? ⟨vb,j*3+2,none⟩=some (.slice a2 cc.length c2)∧Y.cell? ⟨wr.heap.size,0,none⟩=some (.slice d0 0 k0)∧Y.cell? ⟨wr.heap.size,1,none⟩=some (.slice d1 ks'.len k1)∧Y.cell? ⟨wr.heap.size,2,none⟩=some (.slice d2 cc'.length k2)) 16 (by kernel_rfl) jO ?_
   clear jO
   intro hS
   generalize World.drew _=Y0 at*
   refine dN 0 44 (v:=?_) rfl rfl (by kernel_rfl) (by rfl) (by kernel_rfl) (by kernel_rfl) (fun _ _ _ h=>h) (Or.inl ⟨by rfl,?_⟩) (by assumption) ?_
   rotate_left 1
   ·(intro w hSw;(try dsimp only at hSw);go_simp;(try with_reducible rfl))
   try simp only[Act.put,aP,aQ,aO]
   refine dN 1 45 (v:=?_) rfl rfl (by kernel_rfl) (by rfl) (by kernel_rfl) (by kernel_rfl) (fun _ _ _ h=>h) (Or.inl ⟨by rfl,?_⟩) (by assumption) ?_
   rotate_left 1
   ·(intro w hSw;(try dsimp only at hSw);go_simp;(try with_reducible rfl))
   try simp only[Act.put,aP,aQ,aO]
   refine dN 2 46 (v:=?_) rfl rfl (by kernel_rfl) (by rfl) (by kernel_rfl) (by kernel_rfl) (fun _ _ _ h=>h) (Or.inl ⟨by rfl,?_⟩) (by assumption) ?_
   rotate_left 1
   ·(intro w hSw;(try dsimp only at hSw);go_simp;(try with_reducible rfl))
   try simp only[Act.put,aP,aQ,aO]
   refine dN 3 47 (v:=?_) rfl rfl (by kernel_rfl) (by rfl) (by kernel_rfl) (by kernel_rfl) (fun _ _ _ h=>h) (Or.inl ⟨by rfl,?_⟩) (by assumption) ?_
   rotate_left 1
   ·(intro w hSw;(try dsimp only at hSw);go_simp;(try with_reducible rfl))
   try simp only[Act.put,aP,aQ,aO]
   refine dN 4 48 (v:=?_) rfl rfl (by kernel_rfl) (by rfl) (by kernel_rfl) (by kernel_rfl) (fun _ _ _ h=>h) (Or.inl ⟨by rfl,?_⟩) (by assumption) ?_
   rotate_left 1
   ·(intro w hSw;(try dsimp only at hSw);go_simp;(try with_reducible rfl))
   try simp only[Act.put,aP,aQ,aO]
   refine dN 5 49 (v:=?_) rfl rfl (by kernel_rfl) (by rfl) (by kernel_rfl) (by kernel_rfl) (fun _ _ _ h=>h) (Or.inl ⟨by rfl,?_⟩) (by assumption) ?_
   rotate_left 1
   ·(intro w hSw;(try dsimp only at hSw);go_simp;(try with_reducible rfl))
   try simp only[Act.put,aP,aQ,aO]
   refine dN 6 50 (v:=?_) rfl rfl (by kernel_rfl) (by rfl) (by kernel_rfl) (by kernel_rfl) (fun _ _ _ h=>h) (Or.inl ⟨by rfl,?_⟩) (by assumption) ?_
   rotate_left 1
   ·(intro w hSw;(try dsimp only at hSw);go_simp;(try with_reducible rfl))
   try simp only[Act.put,aP,aQ,aO]
   refine dN 7 51 (v:=?_) rfl rfl (by kernel_rfl) (by rfl) (by kernel_rfl) (by kernel_rfl) (fun _ _ _ h=>h) (Or.inl ⟨by rfl,?_⟩) (by assumption) ?_
   rotate_left 1
   ·(intro w hSw;(try dsimp only at hSw);go_simp;(try with_reducible rfl))
   try simp only[Act.put,aP,aQ,aO]
   refine dN 8 52 (v:=?_) rfl rfl (by kernel_rfl) (by rfl) (by kernel_rfl) (by kernel_rfl) (fun _ _ _ h=>h) (Or.inl ⟨by rfl,?_⟩) (by assumption) ?_
   rotate_left 1
   ·(intro w hSw;(try dsimp only at hSw);go_simp;(try with_reducible rfl))
   try simp only[Act.put,aP,aQ,aO]
   refine dN 9 53 (v:=?_) rfl rfl (by kernel_rfl) (by rfl) (by kernel_rfl) (by kernel_rfl) (fun _ _ _ h=>h) (Or.inl ⟨by rfl,?_⟩) (by assumption) ?_
   rotate_left 1
   ·(intro w hSw;(try dsimp only at hSw);go_simp;(try with_reducible rfl))
   try simp only[Act.put,aP,aQ,aO]
   refine bK (i:=10) (by kernel_rfl) rfl (fun K hK=>?_)
   go_simp
   refine(pG.out _ jU.out).mono ?_
   rintro e Y1 ⟨oU,jB,oD,rfl,hta,ho3⟩
   obtain⟨a3,c3,rfl⟩:=hta.ents.rd.sl
   obtain⟨rQ,kT,-⟩:=hta.kids
   obtain⟨a5,c5,rfl⟩:=kT.rd.sl
   obtain⟨a6,c6,rfl⟩:=ho3.shape
   have hs1:=jU.out.size
   have hf1:=jU.out.aG ho3.aI
   have hput:=(u_.out.turn (w':=Y1) (Q':=fun k=>w.heap.size≤k∧k≠nb) (fun k hk hQ=>⟨hf1.block k hk id,hQ⟩) (hf1.block _ hnl id)).put hlt ⟨[],rZ (ks,cc) (ks',cc'),tN cc cc',_,_,_⟩ rfl ⟨hta.turn (Q':=fun k=>w.heap.size≤k∧k≠nb) fun k hk hQ=>⟨rfl,by have:=iH.out.size;omega,by omega⟩,ho3.rd,fun _ k hk=>by have:=ho3.new k hk;have:=iH.out.size;exact⟨by omega,by omega⟩⟩ Wv.out (fun k hQ=>hQ.2)
   have xK:=ah hput
   have dM:=ah (iH.out.aG hf1)
   have fF:=ah (hf1.blk u_.out.blk id)
   have hS1:=iI.out au _ _ ho3.aI ⟨id,id,id⟩ hS
   refine hK.out _ _ hS1 ?_
   clear hK K hS kT hta ho3 hs1 hput hf1
   have hS:=hS1
   clear hS1
   try simp only[Act.put,aP,aQ,aO]
   refine dN 11 43 (v:=?_) rfl rfl (by kernel_rfl) (by rfl) (by kernel_rfl) (by kernel_rfl) (fun _ _ _ h=>h) (Or.inl ⟨by rfl,?_⟩) (by assumption) ?_
   rotate_left 1
   ·(intro w hSw;(try dsimp only at hSw);go_simp;(try with_reducible rfl))
   try simp only[Act.put,aP,aQ,aO]
   refine dN 12 55 (v:=?_) rfl rfl (by kernel_rfl) (by rfl) (by kernel_rfl) (by kernel_rfl) (fun _ _ _ h=>h) (Or.inl ⟨by rfl,?_⟩) (by assumption) ?_
   rotate_left 1
   ·(intro w hSw;(try dsimp only at hSw);go_simp;(try with_reducible rfl))
   try simp only[Act.put,aP,aQ,aO]
   refine dN 13 56 (v:=?_) rfl rfl (by kernel_rfl) (by rfl) (by kernel_rfl) (by kernel_rfl) (fun _ _ _ h=>h) (Or.inl ⟨by rfl,?_⟩) (by assumption) ?_
   rotate_left 1
   ·(intro w hSw;(try dsimp only at hSw);go_simp;(try with_reducible rfl))
   try simp only[Act.put,aP,aQ,aO]
   refine dN 14 57 (v:=?_) rfl rfl (by kernel_rfl) (by rfl) (by kernel_rfl) (by kernel_rfl) (fun _ _ _ h=>h) (Or.inl ⟨by rfl,?_⟩) (by assumption) ?_
   rotate_left 1
   ·(intro w hSw;(try dsimp only at hSw);go_simp;(try with_reducible rfl))
   try simp only[Act.put,aP,aQ,aO]
   refine bK (i:=15) (by kernel_rfl) rfl (fun K hK=>?_)
   have hjl:j<ns.length:=by rw[u_.out.len];exact hlt
   obtain⟨q0,q1,q2⟩:=zI hjl
   have z0:=aJ fF.out (j*3) q0
   have z1:=aJ fF.out (j*3+1) q1
   have z2:=aJ fF.out (j*3+2) q2
   have e0:=bG fF.out (j*3)
   have e1:=bG fF.out (j*3+1)
   have e2:=bG fF.out (j*3+2)
   have hbl:=lt_of_block fF.out
   clear q0 q1 q2 hjl
   go_simp
   refine hK.out _ _ (iI.out _ _ _ xK.out.2 ji.out hS) ?_
   clear hK K hS z0 z1 z2 e0 e1 e2 hbl
   refine GN (by kernel_rfl) ?_
   go_wp2
   go_roundw
   case rel=>
    refine⟨j+1,_,by omega,by go_num,?_,xK.out.1,?_⟩
    ·exact dM.out.trans xK.out.2 fun k hk e=>by omega
    ·rw[List.map_set,HG.out,Wx.out];rfl
   case measure=>simp[intOf];omega
  ·obtain rfl:j=n:=by omega
   have hsh:=(HST.out.aN iH.out).Wh (u_.out.turn (Q':=fun k=>¬L k) (fun k hk hQ=>⟨rfl,fun hl=>by have:=HST.out.Ls k hl;omega⟩) rfl) (fun hl=>by have:=HST.out.Ls _ hl;omega)
   have tH:=ah hsh
   have z0:=(HST.out.aN iH.out).nN
   have e0:=bG (HST.out.aN iH.out).box 0
   have hl0:=World.block_lt_of_cell? _ _ z0
   have z1:=hsh.1.pR
   have e1:=bG hsh.1.box 1
   have HOW:=ah (kE.out▸hsh.1.own)
   clear hsh
   have Wy:=ah (show ns.map bD.g=List.zipWith mP (vs.map bD.g) (r.part.map bD.g) by rw[HG.out];exact Wn _ _ (by rw[List.length_map];exact HST.out.vis.len) (by rw[List.length_map];exact(M_.out _ iH.out).part.len))
   go_wp2_with(go_at_call 42;refine(HD.out _ HOW.out).mono ?_;rintro e w2 ⟨rfl,ho,hf⟩;clear z0 e0 hl0 z1 e1;have uH:=ah (Ws.out _ _ _ _ tH.out.1 hf ho);clear hf ho;have y1:=aJ uH.out.1 1 rfl;have g1:=bG uH.out.1 1;have hb1:=lt_of_block uH.out.1)
   go_ret
   exact⟨rfl,_,_,ns,((iH.out.mono fun _ _ h=>h.elim).trans tH.out.2 fun _ _ h=>h).trans uH.out.2.2 fun _ _ h=>h,uH.out.2.1,Wy.out⟩
end
end Go.Proofs.YtlhmbkjdfjoilaaGreat
