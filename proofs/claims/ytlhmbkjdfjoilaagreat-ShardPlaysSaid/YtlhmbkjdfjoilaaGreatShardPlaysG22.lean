/- Words for the law ShardPlays: Sh13, Ps0, Ps1, LvP2, Sh14, Sh15. -/
import Derived.Test.YtlhmbkjdfjoilaaGreatShardPlaysG0
import Derived.Test.YtlhmbkjdfjoilaaGreatShardPlaysG15
import Derived.Test.YtlhmbkjdfjoilaaGreatShardPlaysG17
import Derived.Test.YtlhmbkjdfjoilaaGreatShardPlaysG19
import Derived.Test.YtlhmbkjdfjoilaaGreatShardPlaysG21
set_option linter.unusedSimpArgs false
set_option linter.unusedVariables false
set_option maxHeartbeats 32000000
set_option maxRecDepth 1000000
namespace Go.Proofs.YtlhmbkjdfjoilaaGreat
open Go.RowKit
def mZ (x:Int) (st:List bI):Nat:=if dG x (st.map bI.id)=-1 then 0 else lC (st.getD (dG x (st.map bI.id)).toNat default).is
theorem EN {x:Int} {l:List Int} (h:x∉l):dG x l=-1:=by
 rcases nY x l with⟨h1,_⟩|⟨k,hk,_,he⟩
 ·exact h1
 ·exact absurd (he▸getD_mem 0 hk) h
theorem QK {x:Int} {l:List Int} (h:x∉l):dG x (l++ [x])=l.length:=by
 refine EC (by simp) (fun j hj e=>h ?_) ?_
 ·rw[getD_at 0 (by simp;omega),List.getElem_append_left hj]at e
  rw[←e]
  exact List.getElem_mem hj
 ·rw[getD_at 0 (by simp),List.getElem_append_right (Nat.le_refl _)]
  simp
def vK (n:Nat) (x:Int) (t:bY) (st:List bI) (j:Nat):List bI:=
 if j=0 then st else st++ [⟨x,(List.range n).map fun s:Nat=>if s<j then(bF (bQ n s) t.1,t.2)else dD,(List.range n).map fun s:Nat=>decide (s<j)⟩]
theorem aft {α:Type} (n j:Nat) (f:Nat→α) (d:α):((List.range n).map fun s=>if s<j then f s else d).set j (f j)=(List.range n).map fun s=>if s<j+1 then f s else d:=by
 refine List.ext_getElem (by simp) fun i h1 h2=>?_
 simp only[List.getElem_map,List.getElem_range,List.getElem_set]
 by_cases e:j=i
 ·subst e;simp
 ·rw[if_neg e]
  have:(i<j+1)↔(i<j):=by omega
  simp only[this]
theorem afu (n j:Nat):((List.range n).map fun s:Nat=>decide (s<j)).set j true=(List.range n).map fun s:Nat=>decide (s<j+1):=by
 refine List.ext_getElem (by simp) fun i h1 h2=>?_
 simp only[List.getElem_map,List.getElem_range,List.getElem_set]
 by_cases e:j=i
 ·subst e;simp
 ·rw[if_neg e]
  refine decide_eq_decide.2 ?_
  omega
theorem map_none {α:Type} (n:Nat) (f:Nat→α) (d:α):((List.range n).map fun s=>if s<0 then f s else d)=List.replicate n d:=by
 rw[←List.length_range (n:=n),←List.map_const']
 simp
theorem afv (n:Nat):((List.range n).map fun s:Nat=>decide (s<0))=List.replicate n false:=by
 rw[←List.length_range (n:=n),←List.map_const']
 simp
theorem XJ {n j:Nat} {x:Int} {t:bY} {st:List bI} (hx:x∉st.map bI.id) (h4:st.length<4) (hj:j<n):
 mD n x j (bF (bQ n j) t.1,t.2) (vK n x t st j)=(0,vK n x t st (j+1)):=by
 obtain⟨S,hS⟩:∃S:Nat→bI,S=fun j=>⟨x,(List.range n).map fun s:Nat=>if s<j then(bF (bQ n s) t.1,t.2)else dD,(List.range n).map fun s:Nat=>decide (s<j)⟩:=⟨_,rfl⟩
 have hput:∀j,mg (S j) j (bF (bQ n j) t.1,t.2)=S (j+1):=fun j=>by
  rw[hS]
  unfold mg
  simp only
  rw[aft n j (fun s:Nat=>((bF (bQ n s) t.1,t.2):bY)) dD,afu]
 have hnew:newS n x=S 0:=by
  rw[hS]
  unfold newS
  simp only
  rw[map_none n (fun s:Nat=>((bF (bQ n s) t.1,t.2):bY)) dD,afv]
 have hset:∀a b:bI,(st++ [a]).set st.length b=st++ [b]:=fun a b=>by
  rw[List.set_append_right _ _ (Nat.le_refl _)]
  simp
 have hnext:vK n x t st (j+1)=st++ [S (j+1)]:=by unfold vK;rw[if_neg (by omega),hS]
 by_cases h0:j=0
 ·subst h0
  have e:vK n x t st 0=st:=rfl
  rw[e,hnext]
  unfold mD
  rw[if_pos (EN hx),if_neg (by omega),hset,hnew,hput]
 ·have e:vK n x t st j=st++ [S j]:=by unfold vK;rw[if_neg h0,hS]
  rw[e,hnext]
  have hid:(st++ [S j]).map bI.id=st.map bI.id++ [x]:=by rw[List.map_append,hS];rfl
  have hp:dG x ((st++ [S j]).map bI.id)=(st.length:Int):=by rw[hid,QK hx,List.length_map]
  have hg:(st++ [S j]).getD st.length default=S j:=by
   rw[getD_at _ (by simp),List.getElem_append_right (Nat.le_refl _)]
   simp
  have hfl:(S j).is.getD j false=false:=by
   rw[hS]
   simp only
   rw[getD_at _ (by simpa using hj)]
   simp
  unfold mD
  rw[hp,if_neg (by omega),Int.toNat_natCast,hg,if_neg (by rw[hfl];decide),hset,hput]
section
variable {L:Nat→Prop} {w:World} {b n vb:Nat} {sv:Value} {vs:List aU} {rs:List bC}
theorem XL (h:dW L w b n vb sv vs rs) (x:Int):Calls Tryz.prog 21 #[.pointer (some ⟨b,0,none⟩), .int .i64 x] w fun e w'=>e= .returned (.int .i64 (mZ x (rs.map bC.con)))∧aj aF w w':=by
 have hlq:(rs.map (bC.q n)).length=rs.length:=List.length_map ..
 have hfew:=h.few
 have hn4:=h.n4
 have EH:=Aw n rs
 unfold mZ
 rw[sQ]
 rcases nY x (rs.map bC.id)with⟨hp,_⟩|⟨i,hi,hp,_⟩
 ·rw[if_pos hp]
  exact aep x (rs.map (bC.q n)) b w sv h.rd vH (by rw[hlq];omega) h.pq (by rw[EH];exact hp)
 ·rw[List.length_map]at hi
  rw[if_neg (by omega),hp,Int.toNat_natCast,H_ hi]
  have hs:=h.jJ _ (getD_mem default hi)
  exact WR x (rs.map (bC.q n)) b w sv h.rd vH (by rw[hlq];omega) h.pq i (rs.getD i default).is (by rw[EH];exact hp) (by rw[hlq];exact hi) (by rw[Hz hi];show Rd w (.slice (some ⟨_,0,none⟩) n n) _ _;rw[hs.o_];exact Rd.Au hs.is (by simp only[maxLen];omega)) (by rw[hs.o_];omega)
theorem afw (h:dW L w b n vb sv vs rs) (x:Int) (hc:mZ x (rs.map bC.con)<n):
 Calls Tryz.prog 17 #[.pointer (some ⟨b,0,none⟩), .int .i64 x] w fun e w'=>e= .returned (.int .i64 7)∧aj aF w w':=by
 have HM:=ah (fun W (f:aj aF w W)=>XL (h.aS f) x)
 generalize mZ x (rs.map bC.con)=c at*
 have hcn:(c:Int)<(n:Int):=by omega
 obtain⟨α,hne,K,hK1,hK0,hK2⟩:=worlds w
 have dS:=ah hK1
 have k0:∀s,(K s).cell? ⟨b,0,none⟩=some (.slice (some ⟨vb,0,none⟩) n n):=fun s=>(h.aS (hK1 s)).mX
 clear hK1 h
 go_enter Tryz.func17,Tryz.ntmps17
 go_wp2_with fail
 refine dX K (by kernel_rfl) (by kernel_rfl) hK0 ?_
 repeat(go_big_quiet_step ((go_at_call 21;exact Calls.bT hK2 (HM.out _ (dS.out _)))))
 refine wpQuiet_nil ?_
 intro w1 hw1
 obtain⟨s,rfl⟩:=hw1
 go_wp2
 go_ret
 exact⟨rfl,dS.out s⟩
end
open Go.RowKit
structure bn where
 id:Int
 pv:Value
 iv:Value
 part:List aU
 is:List Bool
instance:Inhabited bn:=⟨⟨0, .slice none 0 0, .slice none 0 0,[],[]⟩⟩
def bn.q (r:bn):cO:=⟨r.id,r.pv,r.iv⟩
def bn.con (r:bn):bI:=⟨r.id,r.part.map aU.g,r.is⟩
structure AB (Q:Nat→Prop) (w:World) (v:Value) (n:Nat) (l:List aU):Prop where
 len:l.length=n
 rd:gy Q w v n (l.flatMap aU.cells)
 each:∀q∈l,q.es=[]∧eF Q w q∧Good q.g
structure zA (Q:Nat→Prop) (w:World) (n:Nat) (r:bn):Prop where
 part:AB Q w r.pv n r.part
 o_:r.is.length=n
 is:gy Q w r.iv n (fJ r.is)
structure jf (Q:Nat→Prop) (w:World) (n:Nat) (vv sv:Value) (vs:List aU) (rs:List bn):Prop where
 n1:1≤n
 n4:n≤4
 vis:AB Q w vv n vs
 rd:gy Q w sv rs.length ((rs.map bn.q).flatMap cO.cells)
 jJ:∀r∈rs,zA Q w n r
 ids:(rs.map bn.id).Nodup
 few:rs.length≤4
section
variable {Q Q':Nat→Prop} {w w':World} {n:Nat} {vv sv:Value} {vs:List aU} {rs:List bn}
theorem AB.turn {v:Value} {l:List aU} (h:AB Q w v n l) (f:∀k,k<w.heap.size→Q k→w'.heap[k]?=w.heap[k]?∧Q' k):AB Q' w' v n l:=
 ⟨h.len,h.rd.turn f,fun q hq=>let⟨h1,h2,h3⟩:=h.each q hq;⟨h1,h2.turn f,h3⟩⟩
theorem zA.turn {r:bn} (h:zA Q w n r) (f:∀k,k<w.heap.size→Q k→w'.heap[k]?=w.heap[k]?∧Q' k):zA Q' w' n r:=
 ⟨h.part.turn f,h.o_,h.is.turn f⟩
theorem jf.turn (h:jf Q w n vv sv vs rs) (f:∀k,k<w.heap.size→Q k→w'.heap[k]?=w.heap[k]?∧Q' k):jf Q' w' n vv sv vs rs:=
 ⟨h.n1,h.n4,h.vis.turn f,h.rd.turn f,fun r hr=>(h.jJ r hr).turn f,h.ids,h.few⟩
theorem jf.aS (h:jf Q w n vv sv vs rs) (f:aj aF w w'):jf Q w' n vv sv vs rs:=h.turn fun k hk hq=>⟨f.block k hk id,hq⟩
theorem afx (rs:List bn):(rs.map bn.q).map cO.id=rs.map bn.id:=by rw[List.map_map];rfl
theorem oH (rs:List bn):(rs.map bn.con).map bI.id=rs.map bn.id:=by rw[List.map_map];rfl
theorem Io {k:Nat} (h:k<rs.length):(rs.map bn.q).getD k default=(rs.getD k default).q:=by
 rw[getD_at _ (by rw[List.length_map];exact h),getD_at _ h,List.getElem_map]
theorem EO {k:Nat} (h:k<rs.length):(rs.map bn.con).getD k default=(rs.getD k default).con:=by
 rw[getD_at _ (by rw[List.length_map];exact h),getD_at _ h,List.getElem_map]
theorem jf.shape (h:jf Q w n vv sv vs rs):∃a c a' c',vv= .slice a n c∧sv= .slice a' rs.length c':=by
 obtain⟨a,c,e⟩:=h.vis.rd.rd.sl
 obtain⟨a',c',e'⟩:=h.rd.rd.sl
 exact⟨a,c,a',c',e,e'⟩
def vM (x:Int) (rs:List bn) (k:Nat):Nat:=((rs.take k).map fun r=>if r.id=x then lC r.is else 0).sum
theorem afy (x:Int) {rs:List bn} {k:Nat} (h:k<rs.length):vM x rs (k+1)=vM x rs k+(if(rs.getD k default).id=x then lC (rs.getD k default).is else 0):=by
 unfold vM
 rw[take_succ default h,List.map_append,List.sum_append]
 simp
theorem XM (x:Int):∀ {rs:List bn},(rs.map bn.id).Nodup→(rs.map fun r=>if r.id=x then lC r.is else 0).sum=mZ x (rs.map bn.con)
 |[],_=>rfl
 |r::rs,h=>by
  have h1:=List.pairwise_cons.1 (show(r.id::rs.map bn.id).Pairwise _ from h)
  have ih:=XM x (rs:=rs) h1.2
  rw[List.map_cons,List.sum_cons,ih]
  unfold mZ
  rw[oH,List.map_cons]
  show _=if dG x (r.id::(rs.map bn.con).map bI.id)=-1 then 0 else lC ((r.con::rs.map bn.con).getD (dG x (r.id::(rs.map bn.con).map bI.id)).toNat default).is
  rw[oH]
  by_cases e:r.id=x
  ·have hn:x∉rs.map bn.id:=fun hm=>h1.1 x hm e
   rw[if_pos e,EN hn,if_pos rfl]
   have:dG x (r.id::rs.map bn.id)=((0:Nat):Int):=EC (k:=0) (by simp) (fun j hj=>by omega) e
   rw[this,if_neg (by omega)]
   simp[bn.con]
  ·rw[if_neg e]
   rcases nY x (rs.map bn.id)with⟨g,hn⟩|⟨k,hk,g,hx⟩
   ·have:dG x (r.id::rs.map bn.id)=-1:=EN fun hm=>(List.mem_cons.1 hm).elim (fun h=>e h.symm) hn
    rw[g,this]
    simp
   ·have hf:dG x (r.id::rs.map bn.id)=((k+1:Nat):Int):=by
     refine EC (by simpa using hk) (fun j hj=>?_) ?_
     ·cases j with
      |zero=>exact e
      |succ j=>
       intro hj2
       have hj3:(rs.map bn.id).getD j 0=x:=hj2
       exact absurd hj3 (fun h3=>by
        rw[getD_at _ hk]at hx
        rw[getD_at _ (show j<(rs.map bn.id).length by omega)]at h3
        exact List.pairwise_iff_getElem.1 h1.2 j k (by omega) hk (by omega) (h3.trans hx.symm))
     ·exact hx
    rw[g,hf,if_neg (by omega),if_neg (by omega)]
    simp
end
open Go.RowKit
section
variable {Q:Nat→Prop} {w:World} {n:Nat} {vv sv:Value} {vs:List aU} {rs:List bn}
theorem afz (k:Int) (hk:k<1∨4<k) (w:World):Calls Tryz.prog 28 #[.int .i64 k] w fun e w'=>e= .returned (.tuple #[.agg #[.slice none 0 0, .slice none 0 0], .bool false])∧aj aF w w':=by
 by_cases h1:k<1
 ·go_enter Tryz.func28,Tryz.ntmps28
  go_wp2
  have z0:=aG (heap_alloc_new w (.cells #[.slice none 0 0, .slice none 0 0] 62)) 0 rfl
  have z1:=aG (heap_alloc_new w (.cells #[.slice none 0 0, .slice none 0 0] 62)) 1 rfl
  refine bodyPost_ret (v:= .tuple #[.agg #[.slice none 0 0, .slice none 0 0], .bool false]) (by simp[results,Tryz.results28,go_sem,z0,z1]) rfl ⟨rfl,aj.alloc _ _ _⟩
 ·have h2:4<k:=by omega
  have h1a:decide (k<1)=false:=by simpa using h1
  go_enter Tryz.func28,Tryz.ntmps28
  go_wp2
  have z0:=aG (heap_alloc_new w (.cells #[.slice none 0 0, .slice none 0 0] 62)) 0 rfl
  have z1:=aG (heap_alloc_new w (.cells #[.slice none 0 0, .slice none 0 0] 62)) 1 rfl
  refine bodyPost_ret (v:= .tuple #[.agg #[.slice none 0 0, .slice none 0 0], .bool false]) (by simp[results,Tryz.results28,go_sem,z0,z1]) rfl ⟨rfl,aj.alloc _ _ _⟩
theorem afA (n:Nat) (h1:1≤n) (h4:n≤4) (w:World):Calls Tryz.prog 28 #[.int .i64 n] w fun e w'=>e= .returned (.tuple #[.agg #[.slice (some ⟨w.heap.size+1,0,none⟩) n n, .slice none 0 0], .bool true])∧aj aF w w'∧w'.heap[w.heap.size+1]?=some (.cells ((jm n).flatMap aU.cells).toArray 32 (0,0)):=by
 have hmk:=Ht n h1 h4
 generalize ((jm n).flatMap aU.cells).toArray=Z at*
 have g1:¬(n:Int)<1:=by omega
 have g2:¬(4:Int)<(n:Int):=by omega
 have g1a:decide ((n:Int)<1)=false:=by simpa using g1
 have g2a:decide ((4:Int)<(n:Int))=false:=by simpa using g2
 go_enter Tryz.func28,Tryz.ntmps28
 go_wp2
 obtain⟨hb1,hf,-⟩:=lY w (.cells #[.slice (some ⟨w.heap.size+1,0,none⟩) n n, .slice none 0 0] 62) Z 32
 have hb0:=(aj.alloc aF (w.alloc (.cells #[.slice (some ⟨w.heap.size+1,0,none⟩) n n, .slice none 0 0] 62)) (.cells Z 32)).blk (heap_alloc_new w _) id
 have z0:=aG hb0 0 rfl
 have z1:=aG hb0 1 rfl
 refine bodyPost_ret (v:= .tuple #[.agg #[.slice (some ⟨w.heap.size+1,0,none⟩) n n, .slice none 0 0], .bool true]) (by simp[results,Tryz.results28,go_sem,z0,z1]) rfl ⟨rfl,hf,hb1⟩
theorem EP (h:jf Q w n vv sv vs rs) (x:Int):Calls Tryz.prog 82 #[.agg #[vv,sv], .int .i64 x] w fun e w'=>e= .returned (.int .i64 (dG x (rs.map bn.id)))∧aj aF w w':=by
 obtain⟨a0,c0,a1,c1,rfl,rfl⟩:=h.shape
 have HR:=ah (fun W (f:aj aF w W)=>(h.aS f).rd.rd)
 have hfew:=h.few
 have afB:=ah (fun k=>@EC x (rs.map bn.id) k)
 have afC:=ah (@WM x (rs.map bn.id))
 clear h
 obtain⟨m,hm⟩:∃m,m=rs.length:=⟨_,rfl⟩
 rw[←hm]at hfew⊢
 have HM:=ah hm
 clear hm
 obtain⟨W1,hW1⟩:∃W1,W1=w.alloc (.cells #[.slice a0 n c0, .slice a1 m c1] 62):=⟨_,rfl⟩
 have dN:=ah (show aj aF w W1 by rw[hW1];exact aj.alloc _ _ _)
 have HB1:=ah (show W1.heap[w.heap.size]?=some (.cells #[.slice a0 n c0, .slice a1 m c1] 62 (0,0)) by rw[hW1];exact heap_alloc_new _ _)
 have HW1:=ah hW1
 clear hW1
 go_enter Tryz.func82,Tryz.ntmps82
 go_upto_region 1 with fail
 rw[←HW1.out]
 have b1:=aG HB1.out 1 rfl
 have hl1:=lt_of_block HB1.out
 go_wp2
 go_loopw [9] (fun i W=>∃k:Nat,k≤m∧i= .int .i64 k∧(∀j,j<k→(rs.map bn.id).getD j 0≠x)∧W=W1) (fun i _=>m-(intOf i).toNat)
 case atStart=>exact⟨0,Nat.zero_le _,rfl,fun j hj=>absurd hj (Nat.not_lt_zero _),rfl⟩
 case round=>
  obtain⟨k,hk,rfl,hno,hw⟩:=hrel
  subst hw
  have lQ:=ah hno
  clear hno
  by_cases hlt:k<m
  ·have hkl:k<(rs.map bn.q).length:=by rw[List.length_map,←HM.out];exact hlt
   obtain⟨g0,-,-⟩:=uz (rs.map bn.q) k hkl
   have hrd:=HR.out _ dN.out
   rw[←HM.out]at hrd
   have hid:=KU (rs.map bn.q) k hkl
   rw[afx]at hid
   rw[←hid]at g0
   have HST:=ah (fun(h:(rs.map bn.id).getD k 0≠x) j (hj:j<k+1)=>(show(rs.map bn.id).getD j 0≠x from by
    rcases Nat.lt_or_ge j k with g|g
    ·exact lQ.out j g
    ·rw[show j=k by omega];exact h))
   have AL:=ah (afB.out k (by rw[List.length_map,←HM.out];exact hlt) lQ.out)
   rcases Rd.shape hrd with⟨ad,he,h0⟩|⟨g,off,cc,he,hmx⟩
   ·omega
   injection he with e1 e2 e3
   subst e1 e3
   clear e2 hid
   have y0:=hrd.cell _ _ g0
   have lD:=World.block_lt_of_cell? _ _ y0
   clear hrd g0 hkl
   generalize (rs.map bn.id).getD k 0=y at*
   by_cases hy:y=x
   ·subst hy
    have HP:=ah (AL.out rfl)
    clear AL HST
    go_wp2
    go_ret
    exact⟨by rw[HP.out];rfl,dN.out⟩
   ·have hyb:(y==x)=false:=by simpa using hy
    have HS:=ah (HST.out hy)
    clear AL HST hy
    go_wp2
    go_roundw
    case rel=>exact⟨k+1,by omega,by go_num,HS.out,by trivial⟩
    case measure=>simp[intOf];omega
  ·obtain rfl:m=k:=by omega
   have HP:=ah (afC.out fun j hj=>lQ.out j (by rw[List.length_map,←HM.out]at hj;exact hj))
   go_wp2
   go_ret
   exact⟨by rw[HP.out];rfl,dN.out⟩
theorem QL (h:jf Q w n vv sv vs rs) (x:Int):Calls Tryz.prog 32 #[.agg #[vv,sv], .int .i64 x] w fun e w'=>e= .returned (.int .i64 (mZ x (rs.map bn.con)))∧aj aF w w':=by
 obtain⟨a0,c0,a1,c1,rfl,rfl⟩:=h.shape
 have HR:=ah (fun W (f:aj aF w W)=>h.aS f)
 have yY:=ah (XM x h.ids)
 have hfew:=h.few
 have hn4:=h.n4
 clear h
 rw[←yY.out]
 have sK:=ah (fun k=>@afy x rs k)
 obtain⟨m,hm⟩:∃m,m=rs.length:=⟨_,rfl⟩
 rw[←hm]at hfew⊢
 have HM:=ah hm
 have afD:=ah (show(rs.map fun r=>if r.id=x then lC r.is else 0).sum=vM x rs m by unfold vM;rw[List.take_of_length_le (by rw[hm];exact Nat.le_refl _)])
 rw[afD.out]
 clear hm
 obtain⟨W1,hW1⟩:∃W1,W1=w.alloc (.cells #[.slice a0 n c0, .slice a1 m c1] 62):=⟨_,rfl⟩
 have dN:=ah (show aj aF w W1 by rw[hW1];exact aj.alloc _ _ _)
 have HB1:=ah (show W1.heap[w.heap.size]?=some (.cells #[.slice a0 n c0, .slice a1 m c1] 62 (0,0)) by rw[hW1];exact heap_alloc_new _ _)
 have HW1:=ah hW1
 clear hW1
 go_enter Tryz.func32,Tryz.ntmps32
 go_upto_region 1 with fail
 rw[←HW1.out]
 have b1:=aG HB1.out 1 rfl
 have hl1:=lt_of_block HB1.out
 go_wp2
 go_loopw [5,11] (fun c i W=>∃k:Nat,k≤m∧i= .int .i64 k∧c= .int .i64 (vM x rs k)∧vM x rs k≤4*k∧W=W1) (fun _ i _=>m-(intOf i).toNat)
 case atStart=>exact⟨0,Nat.zero_le _,rfl,rfl,Nat.zero_le _,rfl⟩
 case round=>
  obtain⟨k,hk,rfl,rfl,hmk,hw⟩:=hrel
  subst hw
  by_cases hlt:k<m
  ·have hkl:k<(rs.map bn.q).length:=by rw[List.length_map,←HM.out];exact hlt
   have hkr:k<rs.length:=by rw[←HM.out];exact hlt
   obtain⟨g0,-,g2⟩:=uz (rs.map bn.q) k hkl
   have iF:=HR.out _ dN.out
   have hrd:=iF.rd.rd
   rw[←HM.out]at hrd
   have hsi:=iF.jJ _ (getD_mem default hkr)
   have ER:=ah (sK.out k hkr)
   rw[Io hkr]at g0 g2
   rcases Rd.shape hrd with⟨ad,he,h0⟩|⟨g,off,cc,he,hmx⟩
   ·omega
   injection he with e1 e2 e3
   subst e1 e3
   clear e2
   generalize rs.getD k default=r at*
   obtain⟨rid,Lm,ES,qp,nJ⟩:=r
   have his:nJ.length=n:=hsi.o_
   have QM:gy Q wr ES n (fJ nJ):=hsi.is
   obtain⟨ai,ci,rfl⟩:=QM.rd.sl
   have y0:wr.cell? ⟨g,off+k*3,none⟩=some (.int .i64 rid):=hrd.cell _ _ g0
   have y2:wr.cell? ⟨g,off+k*3+2,none⟩=some (.slice ai n ci):=hrd.cell (k*3+2) _ g2
   have lD:=World.block_lt_of_cell? _ _ y0
   have XO:=ah (show vM x rs (k+1)=vM x rs k+(if rid=x then lC nJ else 0)from ER.out)
   have hcn:lC nJ≤n:=by rw[←his];exact List.countP_le_length
   have HIS:=ah QM.rd
   have oI:=ah his
   have Af:=ah (fun i=>@WQ nJ i)
   clear hrd g0 g2 hkl hkr iF hsi ER QM
   generalize hmt:vM x rs k=mt at*
   have HMT:=ah hmt
   by_cases hy:rid=x
   ·subst hy
    go_wp2
    go_loopw [5,29] (fun c i W=>∃j:Nat,j≤n∧i= .int .i64 j∧c= .int .i64 ((mt+lC (nJ.take j):Nat):Int)∧W=wr) (fun _ i _=>n-(intOf i).toNat)
    case atStart=>exact⟨0,Nat.zero_le _,rfl,by simp[lC],rfl⟩
    case round=>
     obtain⟨j,hj,rfl,rfl,hw⟩:=hrel
     subst hw
     by_cases hjt:j<n
     ·have hjl:j<nJ.length:=by rw[oI.out];exact hjt
      have hstp:=Af.out j hjl
      have hci:lC (nJ.take j)≤j:=Nat.le_trans List.countP_le_length (by rw[List.length_take];omega)
      rcases Rd.shape (HIS.out)with⟨ad,he,h0⟩|⟨gi,ajr,cci,he,ajs⟩
      ·omega
      injection he with e1 e2 e3
      subst e1 e3
      clear e2
      have z0:=KW HIS.out j hjl
      have hlz:=World.block_lt_of_cell? _ _ z0
      generalize lC (nJ.take j)=cj at*
      generalize nJ.getD j false=bj at*
      have rG:=ah hstp
      clear hstp hjl
      cases bj with
      |true=>
       go_wp2
       go_roundw
       case rel=>exact⟨j+1,by omega,by go_num,by rw[rG.out];go_num,by trivial⟩
       case measure=>simp[intOf];omega
      |false=>
       go_wp2
       go_roundw
       case rel=>exact⟨j+1,by omega,by go_num,by rw[rG.out];rfl,by trivial⟩
       case measure=>simp[intOf];omega
     ·obtain rfl:n=j:=by omega
      have hfl:nJ.take n=nJ:=List.take_of_length_le (by rw[oI.out];exact Nat.le_refl _)
      have HS:=ah (show vM rid rs (k+1)=mt+lC nJ by rw[XO.out];simp)
      rw[hfl]
      clear hfl
      go_wp2
      go_roundw
      case rel=>exact⟨k+1,by omega,by go_num,by rw[HS.out],by rw[HS.out];omega,by trivial⟩
      case measure=>simp[intOf];omega
   ·have hyb:(rid==x)=false:=by simpa using hy
    have HS:=ah (show vM x rs (k+1)=mt by rw[XO.out,if_neg hy];rfl)
    clear hy
    go_wp2
    go_roundw
    case rel=>exact⟨k+1,by omega,by go_num,by rw[HS.out],by rw[HS.out];omega,by trivial⟩
    case measure=>simp[intOf];omega
  ·obtain rfl:m=k:=by omega
   go_wp2
   go_ret
   exact⟨rfl,dN.out⟩
end
end Go.Proofs.YtlhmbkjdfjoilaaGreat
namespace Go.Proofs.YtlhmbkjdfjoilaaGreat
def wO (last:ByteArray) (b:Option ByteArray) (x:Lf):Option ByteArray:=match x.1 with
 |[]=>b
 |k::_=>if dL last k=true then(match b with|none=>some k|some y=>if dL k y=true then some k else some y)else b
def zB (last:ByteArray) (L:List Lf):Option ByteArray:=L.foldl (wO last) none
theorem XP (last:ByteArray) {L:List Lf} {k:Nat} (h:k<L.length):zB last (L.take (k+1))=wO last (zB last (L.take k)) (L.getD k default):=by
 rw[take_succ default h]
 unfold zB
 rw[List.foldl_append]
 rfl
structure ET (last:ByteArray) (L:List Lf) (b:Option ByteArray):Prop where
 none_:b=none→∀x∈L,∀k p,x.1=k::p→dL last k=false
 some_:∀y,b=some y→(∃x∈L,∃p,x.1=y::p)∧dL last y=true∧∀x∈L,∀k p,x.1=k::p→dL last k=true→dL k y=false
theorem ET.step {last:ByteArray} {L:List Lf} {b:Option ByteArray} (h:ET last L b) (x:Lf):ET last (L++ [x]) (wO last b x):=by
 obtain⟨px,ex⟩:=x
 cases px with
 |nil=>
  show ET last _ b
  refine⟨fun hn y hy k p e=>?_,fun y hy=>?_⟩
  ·rcases List.mem_append.1 hy with hy|hy
   ·exact h.none_ hn y hy k p e
   ·have:y=([],ex):=by simpa using hy
    rw[this]at e;cases e
  ·obtain⟨⟨x,hx,g⟩,g2,g3⟩:=h.some_ y hy
   refine⟨⟨x,List.mem_append_left _ hx,g⟩,g2,fun z hz k p e=>?_⟩
   rcases List.mem_append.1 hz with hz|hz
   ·exact g3 z hz k p e
   ·have:z=([],ex):=by simpa using hz
    rw[this]at e;cases e
 |cons kx px=>
  unfold wO
  simp only
  have hlast:∀z:Lf,z∈L++ [(kx::px,ex)]→z∈L∨z=(kx::px,ex):=fun z hz=>(List.mem_append.1 hz).elim .inl fun hz=> .inr (by simpa using hz)
  by_cases hl:dL last kx=true
  ·rw[if_pos hl]
   cases b with
   |none=>
    refine⟨fun hn=>(by cases hn),fun y hy=>?_⟩
    have hy:kx=y:=by simpa using hy
    subst hy
    refine⟨⟨_,List.mem_append_right _ (List.mem_singleton.2 rfl),px,rfl⟩,hl,fun z hz k p e hk=>?_⟩
    rcases hlast z hz with hz|rfl
    ·rw[h.none_ rfl z hz k p e]at hk;cases hk
    ·have:kx=k:=by injection e
     rw[this];exact nH _
   |some y0=>
    obtain⟨⟨x,hx,p0,g⟩,g2,g3⟩:=h.some_ y0 rfl
    show ET last _ (if dL kx y0=true then some kx else some y0)
    by_cases hlt:dL kx y0=true
    ·rw[if_pos hlt]
     refine⟨fun hn=>(by cases hn),fun y hy=>?_⟩
     have hy:kx=y:=by simpa using hy
     subst hy
     refine⟨⟨_,List.mem_append_right _ (List.mem_singleton.2 rfl),px,rfl⟩,hl,fun z hz k p e hk=>?_⟩
     rcases hlast z hz with hz|rfl
     ·have h4:=g3 z hz k p e hk
      cases h5:dL k kx with
      |false=>rfl
      |true=>rw[uY h5 hlt]at h4;cases h4
     ·have:kx=k:=by injection e
      rw[this];exact nH _
    ·rw[if_neg hlt]
     refine⟨fun hn=>(by cases hn),fun y hy=>?_⟩
     have hy:y0=y:=by simpa using hy
     subst hy
     refine⟨⟨x,List.mem_append_left _ hx,p0,g⟩,g2,fun z hz k p e hk=>?_⟩
     rcases hlast z hz with hz|rfl
     ·exact g3 z hz k p e hk
     ·have:kx=k:=by injection e
      rw[←this];simpa using hlt
  ·rw[if_neg hl]
   refine⟨fun hn y hy k p e=>?_,fun y hy=>?_⟩
   ·rcases hlast y hy with hy|rfl
    ·exact h.none_ hn y hy k p e
    ·have:kx=k:=by injection e
     rw[←this];simpa using hl
   ·obtain⟨⟨x,hx,g⟩,g2,g3⟩:=h.some_ y hy
    refine⟨⟨x,List.mem_append_left _ hx,g⟩,g2,fun z hz k p e hk=>?_⟩
    rcases hlast z hz with hz|rfl
    ·exact g3 z hz k p e hk
    ·have:kx=k:=by injection e
     rw[←this]at hk;exact absurd hk hl
theorem XQ (last:ByteArray) (L:List Lf):∀k,k≤L.length→ET last (L.take k) (zB last (L.take k))
 |0,_=>⟨fun _ x hx=>(by cases hx),fun y hy=>(by cases hy)⟩
 |k+1,h=>by
  rw[XP last (by omega),take_succ default (by omega)]
  exact(XQ last L k (by omega)).step _
theorem XR:∀ {ks:aT} {x:Lf} {k:ByteArray} {p:List ByteArray},x∈fZ ks→x.1=k::p→k∈ks.keys
 | .cons k0 es sub rest,x,k,p,h,e=>by
   have h:x∈(lI es++fZ sub).map (fun x=>(k0::x.1,x.2))++fZ rest:=h
   rcases List.mem_append.1 h with h|h
   ·obtain⟨y,_,rfl⟩:=List.mem_map.1 h
    have:k0=k:=by injection e
    simp[aT.keys,this]
   ·exact List.mem_cons_of_mem _ (XR h e)
theorem XT {es:List aQ} {ks:aT} {x:Lf} {k:ByteArray} {p:List ByteArray} (h:x∈dI es ks) (e:x.1=k::p):k∈ks.keys:=by
 unfold dI at h
 rcases List.mem_append.1 h with h|h
 ·obtain⟨y,_,rfl⟩:=List.mem_map.1 h
  cases e
 ·exact XR h e
theorem XU:∀(ks:aT) (es:List aQ) (d:Nat) (p:Option ByteArray),jh ks d p=true→isNil es ks=false→∃x,x∈dI es ks
 | .nil,es,_,_,_,h=>by
   cases es with
   |nil=>simp[isNil,aT.len]at h
   |cons e es=>exact⟨([],e),by simp[dI,lI]⟩
 | .cons key es' sub rest,es,d,p,hr,_=>by
   rw[qI]at hr
   simp only[Bool.and_eq_true,Bool.not_eq_true']at hr
   obtain⟨⟨⟨⟨h1,h2⟩,h3⟩,h4⟩,h5⟩:=hr
   simp only[bM,Bool.and_eq_true]at h4
   obtain⟨x,hx⟩:=XU sub es' (d-1) none h4.2 h3
   refine⟨(key::x.1,x.2),List.mem_append_right _ ?_⟩
   show _∈(lI es'++fZ sub).map (fun x=>(key::x.1,x.2))++fZ rest
   exact List.mem_append_left _ (List.mem_map.2 ⟨x,hx,rfl⟩)
theorem XV:∀ {ks:aT} {d:Nat} {p:Option ByteArray} {k:ByteArray},jh ks d p=true→k∈ks.keys→∃x∈fZ ks,∃q,x.1=k::q
 | .nil,_,_,_,_,h=>by cases h
 | .cons key es' sub rest,d,p,k,hr,h=>by
   rw[qI]at hr
   simp only[Bool.and_eq_true,Bool.not_eq_true']at hr
   obtain⟨⟨⟨⟨h1,h2⟩,h3⟩,h4⟩,h5⟩:=hr
   rcases List.mem_cons.1 (show k∈key::rest.keys from h)with rfl|h
   ·simp only[bM,Bool.and_eq_true]at h4
    obtain⟨x,hx⟩:=XU sub es' (d-1) none h4.2 h3
    refine⟨(k::x.1,x.2),?_,x.1,rfl⟩
    show _∈(lI es'++fZ sub).map (fun x=>(k::x.1,x.2))++fZ rest
    exact List.mem_append_left _ (List.mem_map.2 ⟨x,hx,rfl⟩)
   ·obtain⟨x,hx,q,e⟩:=XV h5 h
    refine⟨x,?_,q,e⟩
    show _∈(lI es'++fZ sub).map (fun x=>(key::x.1,x.2))++fZ rest
    exact List.mem_append_right _ hx
theorem afE {k:ByteArray} (h:1≤k.size):dL ByteArray.empty k=true:=by
 unfold dL
 have:k.toList.length=k.size:=by rw[ByteArray.toList_eq];simp
 cases hk:k.toList with
 |nil=>rw[hk]at this;simp at this;omega
 |cons x l=>
  have e:ByteArray.empty.toList=[]:=by rw[ByteArray.toList_eq];rfl
  rw[e];rfl
def uJ (ks:aT) (j:Nat):ByteArray:=if j=0 then ByteArray.empty else ks.keys.getD (j-1) ByteArray.empty
theorem QN {l:List ByteArray} (o:jL l) {i j:Nat} (hij:i<j) (hj:j<l.length):dL (l.getD i ByteArray.empty) (l.getD j ByteArray.empty)=true:=by
 rw[getD_at _ (by omega),getD_at _ hj]
 exact List.pairwise_iff_getElem.1 o i j (by omega) hj hij
theorem afF {es:List aQ} {ks:aT} {d:Nat} {L:List Lf} (hp:L.Perm (dI es ks)) (hr:jh ks d none=true) (j:Nat) (hj:j≤ks.keys.length):zB (uJ ks j) L=ks.keys[j]?:=by
 obtain⟨o,hkb⟩:=qO _ _ _ hr
 have hs:=XQ (uJ ks j) L L.length (Nat.le_refl _)
 rw[List.take_length]at hs
 have hlt:∀i,j≤i→i<ks.keys.length→dL (uJ ks j) (ks.keys.getD i ByteArray.empty)=true:=fun i h1 h2=>by
  unfold uJ
  by_cases h0:j=0
  ·rw[if_pos h0]
   have:=(hkb _ (getD_mem ByteArray.empty h2)).2
   simp only[oN,decide_eq_true_eq]at this
   exact afE (by omega)
  ·rw[if_neg h0]
   exact QN o (by omega) h2
 have hge:∀i,i<ks.keys.length→dL (uJ ks j) (ks.keys.getD i ByteArray.empty)=true→j≤i:=fun i h2 h3=>by
  rcases Nat.lt_or_ge i j with hij|hij
  ·exfalso
   unfold uJ at h3
   rw[if_neg (by omega)]at h3
   rcases Nat.lt_or_ge i (j-1)with h4|h4
   ·have:=uY h3 (QN o h4 (by omega))
    rw[nH]at this;cases this
   ·have:i=j-1:=by omega
    subst this
    rw[nH]at h3;cases h3
  ·exact hij
 by_cases hjl:j<ks.keys.length
 ·obtain⟨x,hx,q,e⟩:=XV hr (getD_mem ByteArray.empty hjl)
  have hxL:x∈L:=hp.mem_iff.2 (List.mem_append_right _ hx)
  rw[List.getElem?_eq_getElem hjl]
  cases hb:zB (uJ ks j) L with
  |none=>have:=hlt j (Nat.le_refl _) hjl;rw[hs.none_ hb x hxL _ q e]at this;cases this
  |some y=>
   obtain⟨⟨z,hz,q2,e2⟩,g2,g3⟩:=hs.some_ y hb
   have hyk:=XT (hp.mem_iff.1 hz) e2
   obtain⟨i,hi,he⟩:=List.getElem_of_mem hyk
   have zu:ks.keys.getD i ByteArray.empty=y:=by rw[getD_at _ hi];exact he
   have hji:=hge i hi (by rw[zu];exact g2)
   have h4:=g3 x hxL _ q e (hlt j (Nat.le_refl _) hjl)
   rcases Nat.lt_or_ge j i with h5|h5
   ·have:=QN o h5 hi
    rw[zu]at this
    rw[this]at h4;cases h4
   ·have:i=j:=by omega
    subst this
    rw[he]
 ·rw[List.getElem?_eq_none (by omega)]
  cases hb:zB (uJ ks j) L with
  |none=>rfl
  |some y=>
   exfalso
   obtain⟨⟨z,hz,q2,e2⟩,g2,g3⟩:=hs.some_ y hb
   have hyk:=XT (hp.mem_iff.1 hz) e2
   obtain⟨i,hi,he⟩:=List.getElem_of_mem hyk
   have zu:ks.keys.getD i ByteArray.empty=y:=by rw[getD_at _ hi];exact he
   have:=hge i hi (by rw[zu];exact g2)
   omega
open Go.RowKit
section
variable {L:Nat→Prop} {w:World} {b n vb:Nat} {sv:Value} {vs:List aU} {rs:List bC}
theorem Lp (h:dW L w b n vb sv vs rs) (x:Int):Calls Tryz.prog 38 #[.pointer (some ⟨b,0,none⟩), .int .i64 x] w fun e w'=>e= .returned (.int .i64 (dG x (rs.map bC.id)))∧aj aF w w':=by
 have:=Cm x (rs.map (bC.q n)) b w sv h.rd vH (by rw[List.length_map];have:=h.few;omega) h.pq
 rwa [Aw]at this
theorem afG (h:dW L w b n vb sv vs rs) (x:Int) (a0 a1 a2:Option Addr) (n0 n1 n2 c0 c1 c2:Nat) (hp:dG x (rs.map bC.id)≠-1):
 Calls Tryz.prog 15 #[.pointer (some ⟨b,0,none⟩), .int .i64 x, .agg #[.slice a0 n0 c0, .slice a1 n1 c1, .slice a2 n2 c2]] w fun e w'=>e= .returned (.int .i64 8)∧aj aF w w':=by
 have hp0:0≤dG x (rs.map bC.id):=by
  rcases nY x (rs.map bC.id)with⟨h1,_⟩|⟨k,_,h1,_⟩
  ·exact absurd h1 hp
  ·omega
 have HA:=ah (fun W (f:aj aF w W)=>Lp (h.aS f) x)
 generalize dG x (rs.map bC.id)=P at*
 clear h
 go_enter Tryz.func15,Tryz.ntmps15
 go_wp2_with(go_at_call 38;refine(HA.out _ (aj.alloc _ _ _)).mono ?_;rintro e w1 ⟨rfl,hw1⟩;have HW1:=ah ((aj.alloc aF w _).aH hw1);clear hw1)
 go_ret
 exact⟨rfl,HW1.out⟩
theorem afH (h:dW L w b n vb sv vs rs) (x:Int) (ks:aT) (c:bD) (ev kv cv:Value) (ha:eF (fun k=>¬L k) w ⟨[],ks,c,ev,kv,cv⟩) (hg:Good (ks,c)) (hp:dG x (rs.map bC.id)=-1) (hl:4≤rs.length):
 Calls Tryz.prog 15 #[.pointer (some ⟨b,0,none⟩), .int .i64 x, .agg #[ev,kv,cv]] w fun e w'=>e= .returned (.int .i64 4)∧∃L' sv' rs',Turned L w L' w'∧dW L' w' b n vb sv' vs rs'∧rs'.map bC.con=rs.map bC.con:=by
 have hat:∀W,aj aF w W→dU (fun k=>¬L k) W ev kv cv [] ks c:=fun W f=>(ha.aS f).at_
 have HA:=ah (fun W (f:aj aF w W)=>hp▸Lp (h.aS f) x)
 have hn1:=h.n1
 have jZ:=ah (fun W (f:aj aF w W)=>(show Calls Tryz.prog 16 #[.pointer (some ⟨b,0,none⟩), .agg #[ev,kv,cv], .int .i64 0] W fun e w'=>∃kv cv,e= .returned (.tuple #[.agg #[.slice none 0 0,kv,cv], .int .i64 0])∧bZ (fun b=>W.heap.size≤b) w' (.slice none 0 0) kv [] (bF (bQ n (0:Nat)) ks)∧OwnAt W w' 92 3 cv c.length (dY c)from Qi _ ks c W ev kv cv (hat W f) hg.ok hg.right b n n (some ⟨vb,0,none⟩) 0 hn1 (h.aS f).mX))
 have hgf:Good (bF (bQ n (0:Nat)) ks,c):=Ar (bQ n (0:Nat)) hg
 have hss:mD n x 0 (bF (bQ n (0:Nat)) ks,c) (rs.map bC.con)=(4,rs.map bC.con):=by
  unfold mD
  rw[sQ,if_pos hp,List.length_map,if_pos hl]
 have EU:=ah (fun W (f:aj aF w W) jV mW (h3:eF (fun k=>¬L k) W ⟨[],bF (bQ n (0:Nat)) ks,c, .slice none 0 0,jV,mW⟩)=>(show Calls Tryz.prog 18 #[.pointer (some ⟨b,0,none⟩), .int .i64 x, .int .i64 0, .agg #[.slice none 0 0,jV,mW]] W fun e w'=>e= .returned (.int .i64 4)∧∃L' sv' rs',Turned L W L' w'∧dW L' w' b n vb sv' vs rs'∧rs'.map bC.con=rs.map bC.con from by
  have:=QJ (h.aS f) x 0 hn1 _ _ _ _ _ h3 hgf (Hw _ _)
  rw[hss]at this
  exact this))
 have XW:=ah h.Ls
 have QO:=ah (fun W (f:aj aF w W)=>(h.aS f).mX)
 have HP:=ah hp
 obtain⟨a0,c0,a1,c1,a2,c2,rfl,rfl,rfl⟩:=(hat w (aj.refl _ _)).shape
 have HB0:=ah (heap_alloc_new w (.cells #[.slice a0 0 c0, .slice a1 ks.len c1, .slice a2 c.length c2] 32))
 have jD:=ah (aj.alloc aF w (.cells #[.slice a0 0 c0, .slice a1 ks.len c1, .slice a2 c.length c2] 32))
 clear h ha hg hp hl hat hgf hss
 generalize bF (bQ n (0:Nat)) ks=kf at*
 go_enter Tryz.func15,Tryz.ntmps15
 go_upto_region 5 with(go_at_call 38;refine(HA.out _ jD.out).mono ?_;rintro e W1 ⟨rfl,hf1⟩;have HB1:=ah (hf1.blk HB0.out id);have dN:=ah (jD.out.aH hf1);clear hf1 HB0 jD)
 have y0:=QO.out _ dN.out
 have hb0:=World.block_lt_of_cell? _ _ y0
 have x0:=aG HB1.out 0 rfl
 have x1:=aG HB1.out 1 rfl
 have x2:=aG HB1.out 2 rfl
 have hb1:=lt_of_block HB1.out
 have hn0:(0:Int)<(n:Int):=by omega
 go_wp2
 go_loopw [21] (fun iv W=>iv= .int .i64 0∧W=W1) (fun _ _=>0)
 case atStart=>exact⟨rfl,rfl⟩
 case round=>
  obtain⟨rfl,rfl⟩:=hrel
  go_upto_region 9 with(go_at_call 16;refine(jZ.out _ dN.out).mono ?_;rintro e W2 ⟨jV,mW,rfl,hta,ho3⟩;clear y0 hb0 x0 x1 x2 hb1;have kF:=ah hta;have dw:=ah ho3;obtain⟨uy,kH,-⟩:=hta.kids;obtain⟨a5,c5,rfl⟩:=kH.rd.sl;obtain⟨a6,c6,rfl⟩:=ho3.shape;clear kH hta ho3)
  have HF2:=ah ((dN.out.aH dw.out.aI).alloc1 (o:= .cells #[.slice none 0 0, .slice a5 kf.len c5, .slice a6 c.length c6] 32))
  have HB2:=ah (heap_alloc_new W2 (.cells #[.slice none 0 0, .slice a5 kf.len c5, .slice a6 c.length c6] 32))
  have hc3:eF (fun k=>¬L k) (W2.alloc (.cells #[.slice none 0 0, .slice a5 kf.len c5, .slice a6 c.length c6] 32)) ⟨[],kf,c, .slice none 0 0, .slice a5 kf.len c5, .slice a6 c.length c6⟩:=
   eF.aS ⟨kF.out.turn (Q':=fun k=>¬L k) fun k hk hQ=>⟨rfl,fun hl=>by have:=XW.out k hl;have:=dN.out.size;omega⟩,dw.out.rd,fun _ k hk hl=>by have:=dw.out.new k hk;have:=XW.out k hl;have:=dN.out.size;omega⟩ (aj.alloc aF W2 _)
  have BK:=ah hc3;clear hc3
  go_wp2_with(first
   |(go_at_call 18;refine(EU.out _ HF2.out _ _ BK.out).mono ?_;rintro e W3 ⟨rfl,L',sv',rs',ht,hst,hcon⟩;have HT:=ah ht;have HST:=ah hst;have yj:=ah hcon;clear ht hst hcon)
   |(go_at_call 23;refine(Qw x (rs'.map (bC.q n)) b _ sv' HST.out.rd vH (by rw[List.length_map];have:=HST.out.few;omega) HST.out.pq (by rw[Aw,←sQ,yj.out,sQ];exact HP.out)).mono ?_;rintro e W4 ⟨rfl,hf4⟩;have dR:=ah hf4;clear hf4))
  go_ret
  exact⟨rfl,L',_,rs',(Turned.zx HF2.out).trans (HT.out.trans (Turned.zx dR.out)),HST.out.aS dR.out,yj.out⟩
end
open Go.RowKit
theorem XY {n:Nat} (hn:1≤n) (x:Int) (t:bY) (st:List bI):vK n x t st n=st++ [⟨x,jd n t,List.replicate n true⟩]:=by
 unfold vK jd
 rw[if_neg (by omega)]
 have e1:((List.range n).map fun s:Nat=>if s<n then((bF (bQ n s) t.1,t.2):bY)else dD)=(List.range n).map fun s:Nat=>(bF (bQ n s) t.1,t.2):=
  List.map_congr_left fun s hs=>if_pos (List.mem_range.1 hs)
 have e2:((List.range n).map fun s:Nat=>decide (s<n))=List.replicate n true:=by
  refine List.ext_getElem (by simp) fun i h1 h2=>?_
  have:i<n:=by simpa using h1
  simp[this]
 rw[e1,e2]
theorem XZ {α:Type} (l:List α) (a:α):(l++ [a]).eraseIdx l.length=l:=by
 rw[List.eraseIdx_append_of_length_le (Nat.le_refl _)]
 simp
theorem X_ (n:Nat):lC (List.replicate n true)=n:=by unfold lC;simp[List.countP_replicate]
section
variable {L:Nat→Prop} {w:World} {b n vb:Nat} {sv:Value} {vs:List aU} {rs:List bC}
theorem Ya (h:dW L w b n vb sv vs rs) (x:Int) (ks:aT) (c:bD) (ev kv cv:Value) (ha:eF (fun k=>¬L k) w ⟨[],ks,c,ev,kv,cv⟩) (hg:Good (ks,c)) (hp:dG x (rs.map bC.id)=-1) (hl:rs.length<4)
 (hsz:∀j,j<n→dQ (vs.getD j default).g+dM ks≤2000∧(vs.getD j default).g.2.length+c.length≤2000):
 Calls Tryz.prog 15 #[.pointer (some ⟨b,0,none⟩), .int .i64 x, .agg #[ev,kv,cv]] w fun e w'=>e= .returned (.int .i64 0)∧∃L' qR sv' ns rs',Turned L w L' w'∧dW L' w' b n qR sv' ns rs'∧rs'.map bC.con=rs.map bC.con∧ns.map aU.g=List.zipWith fK (vs.map aU.g) (jd n (ks,c)):=by
 have hat:∀W,aj aF w W→dU (fun k=>¬L k) W ev kv cv [] ks c:=fun W f=>(ha.aS f).at_
 have HA:=ah (fun W (f:aj aF w W)=>hp▸Lp (h.aS f) x)
 have hn1:=h.n1
 have hn4:=h.n4
 have hnx:x∉(rs.map bC.con).map bI.id:=by
  rw[sQ]
  rcases nY x (rs.map bC.id)with⟨_,h1⟩|⟨k,_,h1,_⟩
  ·exact h1
  ·omega
 have su:=ah hnx
 have HST:=ah h
 have uH:=ah ha
 have yU:=ah hg
 have HL:=ah hl
 have iC:=ah hsz
 obtain⟨a0,c0,a1,c1,a2,c2,rfl,rfl,rfl⟩:=(hat w (aj.refl _ _)).shape
 have HB0:=ah (heap_alloc_new w (.cells #[.slice a0 0 c0, .slice a1 ks.len c1, .slice a2 c.length c2] 32))
 have jD:=ah (aj.alloc aF w (.cells #[.slice a0 0 c0, .slice a1 ks.len c1, .slice a2 c.length c2] 32))
 clear h ha hg hp hl hat hnx hsz
 go_enter Tryz.func15,Tryz.ntmps15
 go_upto_region 5 with(go_at_call 38;refine(HA.out _ jD.out).mono ?_;rintro e W1 ⟨rfl,hf1⟩;have HB1:=ah (hf1.blk HB0.out id);have dN:=ah (jD.out.aH hf1);clear hf1 HB0 jD)
 have y0:=(HST.out.aS dN.out).mX
 have hb0:=World.block_lt_of_cell? _ _ y0
 go_wp2
 go_loopw [21] (fun iv W=>∃(j:Nat) (L1:Nat→Prop) (Ik:Value) (cZ:List bC),j≤n∧iv= .int .i64 j∧Turned L w L1 W∧dW L1 W b n vb Ik vs cZ∧cZ.map bC.con=vK n x (ks,c) (rs.map bC.con) j∧¬L1 w.heap.size∧W.heap[w.heap.size]?=some (.cells #[.slice a0 0 c0, .slice a1 ks.len c1, .slice a2 c.length c2] 32 (0,0))) (fun iv _=>n-(intOf iv).toNat)
 case atStart=>exact⟨0,L,_,rs,Nat.zero_le _,rfl,Turned.zx dN.out,HST.out.aS dN.out,rfl,fun hl=>by have:=HST.out.Ls _ hl;omega,HB1.out⟩
 case round=>
  obtain⟨j,L1,Ik,cZ,hj,rfl,ht,h1,hcon,hnb,hbk⟩:=hrel
  clear y0 hb0
  have HT:=ah ht
  have H1:=ah h1
  have yj:=ah hcon
  have ou:=ah hnb
  have jr:=ah hbk
  clear ht h1 hcon hnb hbk
  by_cases hlt:j<n
  ·have hjn:(j:Int)<(n:Int):=by omega
   have hc1:eF (fun k=>¬L1 k) wr ⟨[],ks,c, .slice a0 0 c0, .slice a1 ks.len c1, .slice a2 c.length c2⟩:=uH.out.turn fun k hk hQ=>⟨HT.out.aI.block k hk hQ,fun hl=>(HT.out.own k hl).elim hQ (by omega)⟩
   have jZ:=ah (show Calls Tryz.prog 16 #[.pointer (some ⟨b,0,none⟩), .agg #[.slice a0 0 c0, .slice a1 ks.len c1, .slice a2 c.length c2], .int .i64 j] wr fun e w'=>∃kv cv,e= .returned (.tuple #[.agg #[.slice none 0 0,kv,cv], .int .i64 0])∧bZ (fun b=>wr.heap.size≤b) w' (.slice none 0 0) kv [] (bF (bQ n j) ks)∧OwnAt wr w' 92 3 cv c.length (dY c)from Qi _ ks c wr _ _ _ hc1.at_ yU.out.ok yU.out.right b n n (some ⟨vb,0,none⟩) j hlt H1.out.mX)
   have hgf:Good (bF (bQ n j) ks,c):=Ar (bQ n j) yU.out
   have EU:=ah (fun W (f:aj aF wr W) jV mW (h3:eF (fun k=>¬L1 k) W ⟨[],bF (bQ n j) ks,c, .slice none 0 0,jV,mW⟩)=>(show Calls Tryz.prog 18 #[.pointer (some ⟨b,0,none⟩), .int .i64 x, .int .i64 j, .agg #[.slice none 0 0,jV,mW]] W fun e w'=>e= .returned (.int .i64 0)∧∃L' sv' rs',Turned L1 W L' w'∧dW L' w' b n vb sv' vs rs'∧rs'.map bC.con=vK n x (ks,c) (rs.map bC.con) (j+1)from by
    have:=QJ (H1.out.aS f) x j hlt _ _ _ _ _ h3 hgf (Hw _ _)
    have hss:=XJ (n:=n) (j:=j) (t:=(ks,c)) su.out (by rw[List.length_map];exact HL.out) hlt
    rw[yj.out,hss]at this
    exact this))
   clear hc1 hgf
   generalize bF (bQ n j) ks=kf at*
   have x0:=aG jr.out 0 rfl
   have x1:=aG jr.out 1 rfl
   have x2:=aG jr.out 2 rfl
   have hb1:=lt_of_block jr.out
   go_upto_region 9 with(go_at_call 16;refine jZ.out.mono ?_;rintro e W2 ⟨jV,mW,rfl,hta,ho3⟩;clear x0 x1 x2 hb1;have kF:=ah hta;have dw:=ah ho3;obtain⟨uy,kH,-⟩:=hta.kids;obtain⟨a5,c5,rfl⟩:=kH.rd.sl;obtain⟨a6,c6,rfl⟩:=ho3.shape;clear kH hta ho3)
   have HF2:=ah (dw.out.aI.alloc1 (o:= .cells #[.slice none 0 0, .slice a5 kf.len c5, .slice a6 c.length c6] 32))
   have HB2:=ah (heap_alloc_new W2 (.cells #[.slice none 0 0, .slice a5 kf.len c5, .slice a6 c.length c6] 32))
   have hc3:eF (fun k=>¬L1 k) (W2.alloc (.cells #[.slice none 0 0, .slice a5 kf.len c5, .slice a6 c.length c6] 32)) ⟨[],kf,c, .slice none 0 0, .slice a5 kf.len c5, .slice a6 c.length c6⟩:=
    eF.aS ⟨kF.out.turn (Q':=fun k=>¬L1 k) fun k hk hQ=>⟨rfl,fun hl=>by have:=H1.out.Ls k hl;omega⟩,dw.out.rd,fun _ k hk hl=>by have:=dw.out.new k hk;have:=H1.out.Ls k hl;omega⟩ (aj.alloc aF W2 _)
   have BK:=ah hc3;clear hc3
   go_wp2_with(go_at_call 18;refine(EU.out _ HF2.out _ _ BK.out).mono ?_;rintro e W3 ⟨rfl,L',sv',rs',ht,hst,hcon⟩;have HT3:=ah ht;have QS:=ah hst;have afI:=ah hcon;clear ht hst hcon)
   go_roundw
   case rel=>
    have hbl:=lt_of_block jr.out
    have hz:=HF2.out.size
    refine⟨j+1,L',_,rs',by omega,by go_num,HT.out.trans ((Turned.zx HF2.out).trans HT3.out),QS.out,afI.out,fun hl=>?_,HT3.out.aI.blk (HF2.out.blk jr.out id) ou.out⟩
    rcases HT3.out.own _ hl with g|g
    ·exact ou.out g
    ·omega
   case measure=>simp[intOf];omega
  ·obtain rfl:j=n:=by omega
   have hil:=XY hn1 x (ks,c) (rs.map bC.con)
   have hc2:=yj.out
   rw[hil]at hc2
   have hlen:cZ.length=rs.length+1:=by have:=congrArg List.length hc2;simpa using this
   have hir:rs.length<cZ.length:=by omega
   have hrc:(cZ.getD rs.length default).con=⟨x,jd j (ks,c),List.replicate j true⟩:=by
    rw[←H_ hir,hc2,getD_at _ (by simp),List.getElem_append_right (by simp)]
    simp
   have hpx:dG x (cZ.map bC.id)=(rs.length:Int):=by
    rw[←sQ,hc2,List.map_append]
    have:=QK su.out
    rw[List.length_map,List.length_map]at this
    exact this
   have hpart:(cZ.getD rs.length default).part.map aU.g=jd j (ks,c):=congrArg bI.part hrc
   have his:(cZ.getD rs.length default).is=List.replicate j true:=congrArg bI.is hrc
   have hpl:(cZ.getD rs.length default).part.length=j:=(H1.out.jJ _ (getD_mem default hir)).part.len
   have AO:=Xp H1.out x rs.length hir hpx (by rw[his];exact X_ j) fun i hi=>by
    have h1:((cZ.getD rs.length default).part.getD i default).g=(bF (bQ j i) ks,c):=by
     rw[←vI (by rw[hpl];exact hi),hpart]
     exact KZ (ks,c) hi
    rw[h1]
    have h2:=iC.out i hi
    have h3:=Aq (bQ j i) ks
    exact⟨Nat.le_trans (Nat.add_le_add_left h3 _) h2.1,h2.2⟩
   rw[hpart]at AO
   have QT:=ah AO
   have HER:=ah (show(cZ.eraseIdx rs.length).map bC.con=rs.map bC.con by
    have:(cZ.eraseIdx rs.length).map bC.con=(cZ.map bC.con).eraseIdx rs.length:=by simp only[List.eraseIdx_eq_take_drop_succ,List.map_append,List.map_take,List.map_drop]
    rw[this,hc2]
    have:=XZ (rs.map bC.con) ⟨x,jd j (ks,c),List.replicate j true⟩
    rwa [List.length_map]at this)
   clear hil hc2 hlen hir hrc hpx hpart his hpl AO
   go_wp2_with(go_at_call 17;refine QT.out.mono ?_;rintro e W3 ⟨rfl,qR,sv',ns,hf,hst,hns⟩;have HF3:=ah hf;have QS:=ah hst;have CJ:=ah hns;clear hf hst hns)
   go_ret
   exact⟨rfl,L1,qR,sv',ns,_,HT.out.trans ⟨HF3.out,fun _ h=> .inl h⟩,QS.out,HER.out,CJ.out⟩
end
end Go.Proofs.YtlhmbkjdfjoilaaGreat
