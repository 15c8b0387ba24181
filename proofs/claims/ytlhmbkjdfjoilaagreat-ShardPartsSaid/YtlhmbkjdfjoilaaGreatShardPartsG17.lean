/- Words for the law ShardParts: Sh6, Sh7, ShP, Sh8, KidLay, Sh16. -/
import Derived.Test.YtlhmbkjdfjoilaaGreatShardPartsG0
import Derived.Test.YtlhmbkjdfjoilaaGreatShardPartsG7
import Derived.Test.YtlhmbkjdfjoilaaGreatShardPartsG14
import Derived.Test.YtlhmbkjdfjoilaaGreatShardPartsG16
import Derived.Shelf.SlSortCmp.WholeK
import Derived.Ground.SlsfProg
import Derived.Test.YtlhmbkjdfjoilaaGreatProg
import Derived.Shelf.SlSortCmp.NoneTotal
set_option linter.unusedSimpArgs false
set_option linter.unusedVariables false
set_option maxHeartbeats 32000000
set_option maxRecDepth 1000000
namespace Go.Proofs.YtlhmbkjdfjoilaaGreat
open Go.RowKit
def jY (n:Nat):List bD:=List.replicate n default
theorem Gj (n:Nat) (h1:1≤n) (h4:n≤4):∀w,(Instr.makeSlice 33 (.int .i64 n) (.int .i64 n)).run Tryz.prog w= .ok (.slice (some ⟨w.heap.size,0,none⟩) n n) (w.alloc (.cells ((jY n).flatMap bD.cells).toArray 32)):=by
 rcases(by omega:n=1∨n=2∨n=3∨n=4)with rfl|rfl|rfl|rfl<;>(intro w;kernel_rfl)
theorem make_is (n:Nat) (h1:1≤n) (h4:n≤4):∀w,(Instr.makeSlice 84 (.int .i64 n) (.int .i64 n)).run Tryz.prog w= .ok (.slice (some ⟨w.heap.size,0,none⟩) n n) (w.alloc (.cells (oH (List.replicate n false)).toArray 4)):=by
 rcases(by omega:n=1∨n=2∨n=3∨n=4)with rfl|rfl|rfl|rfl<;>(intro w;kernel_rfl)
theorem Vp (n:Nat) (h1:1≤n) (h4:n≤4) (w:World):
 Calls Tryz.prog 14 #[.int .i64 n] w fun e w'=>e= .returned (.tuple #[.pointer (some ⟨w.heap.size+1,0,none⟩), .int .i64 0])∧
  w'=(w.alloc (.cells ((jY n).flatMap bD.cells).toArray 32)).alloc (.cells #[.slice (some ⟨w.heap.size,0,none⟩) n n, .slice none 0 0] 81):=by
 have hmk:=Gj n h1 h4
 generalize ((jY n).flatMap bD.cells).toArray=Z at*
 go_enter Tryz.func14,Tryz.ntmps14
 go_wp2
 go_ret2
 exact⟨rfl,rfl⟩
open Go.RowKit
theorem Vq (w:World) (b o n c:Nat) (hn:0<n) (hc:∀j,j<n*3→(w.cell? ⟨b,o+j,none⟩).isSome=true) (hf:∀j,j<n*3→w.frozen? ⟨b,o+j,none⟩=false):
 ∃Z:List Value,Z.length=n*3∧∀ty,(Builtin.clear_ #[79] ty #[.slice (some ⟨b,o,none⟩) n c]).run Tryz.prog w= .ok (.tuple #[]) (w.setCells b o Z):=by
 obtain⟨Z,hZ⟩:∃Z,Z=(Builtin.zeroCells #[.int .i64 0, .slice none 0 0, .slice none 0 0] n).toList:=⟨_,rfl⟩
 have hl:Z.length=n*3:=by rw[hZ,Array.length_toList,size_zeroCells];rfl
 have h1:∀v∈Z,v.oneCell'=true:=fun v hv=>by
  rw[hZ]at hv
  simp[Builtin.zeroCells]at hv
  obtain⟨i,_,rfl⟩:=hv
  have:i%3<3:=Nat.mod_lt _ (by decide)
  rcases(by omega:i%3=0∨i%3=1∨i%3=2)with h|h|h<;>simp[h,Value.oneCell']
 refine⟨Z,hl,fun ty=>?_⟩
 have hst:=run_storeCells_cells (P:=Tryz.prog) b o Z 0 w (by rw[hl];simpa using hc) (by rw[hl];simpa using hf) h1
 simp only[Nat.add_zero]at hst
 obtain⟨m,rfl⟩:∃m,n=m+1:=⟨n-1,by omega⟩
 have hz:∀w,(zeroValue 86).run Tryz.prog w= .ok (.agg #[.int .i64 0, .slice none 0 0, .slice none 0 0]) w:=Tryz.zeroValue86
 have hv:(Value.agg #[.int .i64 0, .slice none 0 0, .slice none 0 0]).cells= #[.int .i64 0, .slice none 0 0, .slice none 0 0]:=rfl
 simp[Builtin.clear_,run_underlying Tryz.underlying79,hz,hv,←hZ,hst]
theorem Vr:(Tryz.prog.info? 86).map (fun i=>(i.zero,i.size))=some (some (.agg #[.int .i64 0, .slice none 0 0, .slice none 0 0]),3):=by kernel_rfl
theorem Vs (l:List bM) (i:Nat):(l.take i).flatMap bM.cells=(l.flatMap bM.cells).take (i*3):=by
 induction l generalizing i with
 |nil=>simp
 |cons q l ih=>
  cases i with
  |zero=>simp
  |succ i=>
   rw[List.take_succ_cons,List.flatMap_cons,ih,List.flatMap_cons,show(i+1)*3=i*3+1+1+1 by omega]
   rfl
theorem Vt (l:List bM) (i:Nat):(l.drop i).flatMap bM.cells=(l.flatMap bM.cells).drop (i*3):=by
 induction l generalizing i with
 |nil=>simp
 |cons q l ih=>
  cases i with
  |zero=>simp
  |succ i=>
   rw[List.drop_succ_cons,ih,List.flatMap_cons,show(i+1)*3=i*3+1+1+1 by omega]
   rfl
theorem Vu (g m m1:Nat) (w W2:World) (R:Prop) (hR:R) (f4:¬((m:Int)=(m1:Int))) (f3:(m:Int)≤(m1:Int)) (hdm:m1-m=1) (hne:¬m1=m)
 (hld:(loadCellsFrom ⟨g,0,none⟩ 0 0 #[]).run Tryz.prog w.drew= .ok #[] w.drew) (Gl:(storeCells ⟨g,m*3,none⟩ []).run Tryz.prog w.drew= .ok () w.drew) (hx:(m1:Int)≤9223372036854775807)
 (hcl:∀ty,(Builtin.clear_ #[79] ty #[.slice (some ⟨g,m*3,none⟩) 1 1]).run Tryz.prog w.drew= .ok (.tuple #[]) W2):
 Calls Tryz.prog 42 #[.slice (some ⟨g,0,none⟩) m1 m1, .int .i64 m, .int .i64 (m1:Nat)] w fun e w'=>e= .returned (.slice (some ⟨g,0,none⟩) m m1)∧w'=W2∧R:=by
 have f0:(0:Int)≤(m1:Int):=by omega
 have f9:m≤m1:=by omega
 have HR:=ah hR;clear hR
 go_enter Tryz.func42,Tryz.ntmps42
 go_wp2
 refine iZ (S:=fun _=>True) 7 (by kernel_rfl) trivial ?_
 intro hS
 refine aT 0 20 rfl rfl (v:=?_) (.inl ⟨by rfl,?_⟩) ?_
 rotate_left 1
 ·(intro w hSw;(try dsimp only at hSw);go_simp;(try with_reducible rfl))
 refine aT 1 21 rfl rfl (v:=?_) (.inl ⟨by rfl,?_⟩) ?_
 rotate_left 1
 ·(intro w hSw;(try dsimp only at hSw);go_simp;(try with_reducible rfl))
 try simp only[Act.put,aP,aQ,aO]
 refine aT 2 22 rfl rfl (v:=?_) (.inl ⟨by rfl,?_⟩) ?_
 rotate_left 1
 ·(intro w hSw;(try dsimp only at hSw);go_simp;(try with_reducible rfl))
 refine aT 3 23 rfl rfl (v:=?_) (.inl ⟨by rfl,?_⟩) ?_
 rotate_left 1
 ·(intro w hSw;(try dsimp only at hSw);go_simp;(try with_reducible rfl))
 try simp only[Act.put,aP,aQ,aO]
 refine aT 4 24 rfl rfl (v:=?_) (.inl ⟨by rfl,?_⟩) ?_
 rotate_left 1
 ·(intro w hSw;(try dsimp only at hSw);go_simp;(try with_reducible rfl))
 refine aT 5 25 rfl rfl (v:=?_) (.inl ⟨by rfl,?_⟩) ?_
 rotate_left 1
 ·(intro w hSw;(try dsimp only at hSw);go_simp;(try with_reducible rfl))
 try simp only[Act.put,aP,aQ,aO]
 refine bK (i:=6) (by kernel_rfl) rfl (fun K hK=>?_)
 go_simp
 refine hK.out _ _ hS ?_
 clear hK K
 try simp only[Act.put,aP,aQ,aO]
 refine gQ (by kernel_rfl) (by kernel_rfl) rfl (fun K hK=>?_)
 go_simp
 refine hK.out _ _ ?_
 clear hK K
 go_wp2
 go_ret
 exact⟨rfl,rfl,HR.out⟩
theorem Vw (l:List bM) (g m c k:Nat) (w:World) (ho:w.ownsRow 0 86 3 (.slice (some ⟨g,0,none⟩) (m+1) c) (m+1) (l.flatMap bM.cells)) (hl:l.length=m+1) (hs:∀q∈l,q.shaped) (hk:k≤m) (hn:m≤1000):
 Calls Tryz.prog 42 #[.slice (some ⟨g,0,none⟩) (m+1:Nat) c, .int .i64 k, .int .i64 ((k:Int)+1)] w fun e w'=>e= .returned (.slice (some ⟨g,0,none⟩) m c)∧w'.ownsRow 0 86 3 (.slice (some ⟨g,0,none⟩) m c) m ((l.eraseIdx k).flatMap bM.cells)∧aj (bY (.slice (some ⟨g,0,none⟩) (m+1) c)) w w':=by
 rcases ho.2 with⟨h,_⟩|⟨g',cap',cur,h,hbg,hg,hnc,hcm,hcs,htake⟩
 ·cases h
 cases h
 have hxl:=ho.1
 have hcells:∀j u,(l.flatMap bM.cells)[j]?=some u→w.drew.cell? ⟨g,j,none⟩=some u:=fun j u hu=>by
  have:=ho.cells (g:=g) rfl j u hu
  rwa [addr_add,Nat.zero_add]at this
 have hfree:∀j,w.drew.frozen? ⟨g,j,none⟩=false:=fun j=>bG (w:=w.drew) hg j
 obtain⟨i0,hi0,hi1⟩:∃i0,Tryz.prog.info? 86=some i0∧i0.size=3:=by
  have:=Vr
  cases hq:Tryz.prog.info? 86 with
  |none=>rw[hq]at this;cases this
  |some i0=>rw[hq]at this;simp at this;exact⟨i0,rfl,this.2⟩
 have hone:∀u∈l.flatMap bM.cells,u.oneCell'=true:=fun u hu=>by
  obtain⟨q,hq,hu⟩:=List.mem_flatMap.1 hu
  obtain⟨⟨a0,n0,c0,e0⟩,a1,n1,c1,e1⟩:=hs q hq
  simp[bM.cells]at hu
  rcases hu with rfl|rfl|rfl
  ·rfl
  ·rw[e0];rfl
  ·rw[e1];rfl
 have hnl:((l.flatMap bM.cells).drop ((k+1)*3)).length=(m-k)*3:=by rw[List.length_drop,hxl];omega
 have hap:∀ty,(Builtin.append_ #[79,79] ty #[.slice (some ⟨g,0,none⟩) k c, .slice (if c=k+1 then some ⟨g,0,none⟩else some ⟨g,(k+1)*3,none⟩) (m+1-(k+1)) (c-(k+1))]).run Tryz.prog w.drew= .ok (.slice (some ⟨g,0,none⟩) m c) (w.drew.setCells g (k*3) ((l.flatMap bM.cells).drop ((k+1)*3))):=fun ty=>by
  have hsrc:Src Tryz.prog i0.size 79 (.slice (if c=k+1 then some ⟨g,0,none⟩else some ⟨g,(k+1)*3,none⟩) (m+1-(k+1)) (c-(k+1))) (m+1-(k+1)) ((l.flatMap bM.cells).drop ((k+1)*3)) w.drew:=by
   have hx:((l.flatMap bM.cells).drop ((k+1)*3)).length=(m+1-(k+1))*i0.size:=by rw[hnl,hi1,show m+1-(k+1)=m-k by omega]
   have ho1:∀u∈(l.flatMap bM.cells).drop ((k+1)*3),u.oneCell'=true:=fun u hu=>hone u (List.mem_of_mem_drop hu)
   split
   ·refine Src.ofSlice w.drew Tryz.underlying79 _ _ _ _ hx (fun j u hu=>?_) ho1
    have:(l.flatMap bM.cells).drop ((k+1)*3)=[]:=List.eq_nil_of_length_eq_zero (by rw[hnl];omega)
    rw[this]at hu
    simp at hu
   ·refine Src.ofSlice w.drew Tryz.underlying79 _ _ _ _ hx (fun j u hu=>?_) ho1
    rw[addr_add]
    rw[List.getElem?_drop]at hu
    exact hcells _ _ hu
  have:=run_append_room_src (P:=Tryz.prog) w.drew 79 79 ty 86 i0 Tryz.underlying79 hi0 g 0 k c _ _ _ hsrc (by omega) (fun j hj=>?_) fun j hj=>hfree _
  ·rw[this,hi1,show k+(m+1-(k+1))=m by omega,Nat.zero_add]
  ·rw[hi1,Nat.zero_add]
   have hlt:k*3+j<(l.flatMap bM.cells).length:=by rw[hxl];omega
   rw[hcells _ _ (List.getElem?_eq_getElem hlt)]
   rfl
 have hld:c≠k+1→(loadCellsFrom ⟨g,(k+1)*3,none⟩ 0 ((m-k)*3) #[]).run Tryz.prog w.drew= .ok ((l.flatMap bM.cells).drop ((k+1)*3)).toArray w.drew:=fun hne=>by
  have:=run_firstCells_some (P:=Tryz.prog) w.drew 3 (m-k) ⟨g,(k+1)*3,none⟩ (m-k) (c-(k+1)) ((l.flatMap bM.cells).drop ((k+1)*3)) hnl (fun j u hu=>by rw[addr_add];rw[List.getElem?_drop]at hu;exact hcells _ _ hu)
  simpa[Builtin.firstCells,loadCells]using this
 have Gl:(storeCells ⟨g,k*3,none⟩ ((l.flatMap bM.cells).drop ((k+1)*3))).run Tryz.prog w.drew= .ok () (w.drew.setCells g (k*3) ((l.flatMap bM.cells).drop ((k+1)*3))):=by
  have:=run_storeCells_cells (P:=Tryz.prog) g (k*3) ((l.flatMap bM.cells).drop ((k+1)*3)) 0 w.drew (fun j hj=>?_) (fun j hj=>hfree _) (fun u hu=>hone u (List.mem_of_mem_drop hu))
  ·simpa using this
  ·have hlt:k*3+j<(l.flatMap bM.cells).length:=by rw[hxl];omega
   rw[Nat.add_zero,hcells _ _ (List.getElem?_eq_getElem hlt)];rfl
 obtain⟨W1,hW1⟩:∃W1,W1=w.drew.setCells g (k*3) ((l.flatMap bM.cells).drop ((k+1)*3)):=⟨_,rfl⟩
 have hcz:cur.size=c*3:=hcs
 have hb1:W1.heap[g]?=some (.cells (cur.toList.take (k*3)++(l.flatMap bM.cells).drop ((k+1)*3)++cur.toList.drop (k*3+((l.flatMap bM.cells).drop ((k+1)*3)).length)).toArray 86 (0,0)):=by
  rw[hW1]
  exact xW g _ _ _ _ w.drew cur hg (by rw[hnl];omega)
 have hpre:(cur.toList.take (k*3)++(l.flatMap bM.cells).drop ((k+1)*3)++cur.toList.drop (k*3+((l.flatMap bM.cells).drop ((k+1)*3)).length)).take (m*3)=(l.eraseIdx k).flatMap bM.cells:=by
  have h1:cur.toList.take (k*3)=(l.flatMap bM.cells).take (k*3):=by rw[←htake,List.take_take,Nat.min_eq_left (by omega)]
  rw[List.eraseIdx_eq_take_drop_succ,List.flatMap_append,Vs,Vt,←h1]
  refine List.take_left' ?_
  rw[List.length_append,hnl,List.length_take,Array.length_toList]
  omega
 have hsz1:(cur.toList.take (k*3)++(l.flatMap bM.cells).drop ((k+1)*3)++cur.toList.drop (k*3+((l.flatMap bM.cells).drop ((k+1)*3)).length)).length=c*3:=by
  rw[List.length_append,List.length_append,hnl,List.length_take,List.length_drop,Array.length_toList]
  omega
 generalize zx:cur.toList.take (k*3)++(l.flatMap bM.cells).drop ((k+1)*3)++cur.toList.drop (k*3+((l.flatMap bM.cells).drop ((k+1)*3)).length)=C at*
 clear zx
 obtain⟨Z,hZ,hcl⟩:=Vq W1 g (m*3) 1 (c-m) (by omega) (fun j hj=>by
  rw[aJ hb1 (m*3+j) (u:=C[m*3+j]'(by omega)) (by simp)];rfl) fun j hj=>bG hb1 _
 obtain⟨W2,hW2⟩:∃W2,W2=W1.setCells g (m*3) Z:=⟨_,rfl⟩
 have hb2:W2.heap[g]?=some (.cells (C.take (m*3)++Z++C.drop (m*3+Z.length)).toArray 86 (0,0)):=by
  rw[hW2]
  have:=xW g 86 (0,0) Z (m*3) W1 C.toArray hb1 (by rw[hZ,List.size_toArray,hsz1];omega)
  simpa using this
 have HOWN:=ah (show W2.ownsRow 0 86 3 (.slice (some ⟨g,0,none⟩) m c) m ((l.eraseIdx k).flatMap bM.cells)from by
  refine⟨by rw[Vg,List.length_eraseIdx_of_lt (by omega),hl];rfl, .inr ⟨g,c,_,rfl,Nat.zero_le _,hb2,by omega,hcm,?_,?_⟩⟩
  ·rw[List.size_toArray,List.length_append,List.length_append,hZ,List.length_take,List.length_drop,hsz1];omega
  ·rw[List.append_assoc,List.take_left' (by rw[List.length_take,hsz1];omega),hpre])
 have gV:=ah (show aj (bY (.slice (some ⟨g,0,none⟩) (m+1) c)) w W2 from by
  rw[hW2,hW1]
  exact((aj.drew _ w).trans (aj.setCells (S:=bY (.slice (some ⟨g,0,none⟩) (m+1) c)) g w.drew (.inl rfl) _ _) fun _ _ h=>h).trans (aj.setCells (S:=bY (.slice (some ⟨g,0,none⟩) (m+1) c)) g _ (.inl rfl) _ _) fun _ _ h=>h)
 rw[←hW1]at Gl
 clear hap
 have hwd:c=k+1→W1=w.drew:=fun h=>by
  have:(l.flatMap bM.cells).drop ((k+1)*3)=[]:=List.eq_nil_of_length_eq_zero (by rw[hnl];omega)
  rw[hW1,this]
  rfl
 have hmc:m≤c:=by omega
 rw[←hW2]at hcl
 have hcx:(c:Int)≤9223372036854775807:=by simp only[maxLen]at hcm;omega
 have hcm2:¬c=m:=by omega
 have Me:=hnl
 clear hW1 hW2 hb1 hb2 hZ hpre hsz1 htake hcs hcz hg hfree hcells hone hnl hxl ho hs
 have lM:=ah Me;clear Me
 generalize (l.flatMap bM.cells).drop ((k+1)*3)=D at*
 have f0:(0:Int)≤(k:Int)+1:=by omega
 have f2:(k:Int)+1≤(m:Int)+1:=by omega
 have f3:(m:Int)+1≤(c:Int):=by omega
 have f4:(k:Int)≤(c:Int):=by omega
 have f5:(k:Int)+1≤(c:Int):=by omega
 have f6:(k:Int)≤(k:Int)+1:=by omega
 by_cases hck:c=k+1
 ·obtain rfl:k=m:=by omega
  have hw1:=hwd hck
  subst hw1 hck
  have hD:D.length=0:=by rw[lM.out];omega
  have hD:D=[]:=List.eq_nil_of_length_eq_zero hD
  subst hD
  have:=Vu g k (k+1) w W2 _ (⟨HOWN.out,gV.out⟩:_∧_) (by omega) (by omega) (by omega) (by omega) rfl Gl (by omega) (by simpa using hcl)
  exact this.mono fun e w' h=>⟨h.1,h.2.1▸h.2.2.1,h.2.1▸h.2.2.2⟩
 all_goals(
  replace hld:=hld hck
  clear hwd
  go_enter Tryz.func42,Tryz.ntmps42
  go_wp2
  refine iZ (S:=fun _=>True) 7 (by kernel_rfl) trivial ?_
  intro hS
  refine aT 0 20 rfl rfl (v:=?_) (.inl ⟨by rfl,?_⟩) ?_
  rotate_left 1
  ·(intro w hSw;(try dsimp only at hSw);go_simp;(try with_reducible rfl))
  refine aT 1 21 rfl rfl (v:=?_) (.inl ⟨by rfl,?_⟩) ?_
  rotate_left 1
  ·(intro w hSw;(try dsimp only at hSw);go_simp;(try with_reducible rfl))
  try simp only[Act.put,aP,aQ,aO]
  refine aT 2 22 rfl rfl (v:=?_) (.inl ⟨by rfl,?_⟩) ?_
  rotate_left 1
  ·(intro w hSw;(try dsimp only at hSw);go_simp;(try with_reducible rfl))
  refine aT 3 23 rfl rfl (v:=?_) (.inl ⟨by rfl,?_⟩) ?_
  rotate_left 1
  ·(intro w hSw;(try dsimp only at hSw);go_simp;(try with_reducible rfl))
  try simp only[Act.put,aP,aQ,aO]
  refine aT 4 24 rfl rfl (v:=?_) (.inl ⟨by rfl,?_⟩) ?_
  rotate_left 1
  ·(intro w hSw;(try dsimp only at hSw);go_simp;(try with_reducible rfl))
  refine aT 5 25 rfl rfl (v:=?_) (.inl ⟨by rfl,?_⟩) ?_
  rotate_left 1
  ·(intro w hSw;(try dsimp only at hSw);go_simp;(try with_reducible rfl))
  try simp only[Act.put,aP,aQ,aO]
  refine bK (i:=6) (by kernel_rfl) rfl (fun K hK=>?_)
  go_simp
  refine hK.out _ _ hS ?_
  clear hK K
  try simp only[Act.put,aP,aQ,aO]
  refine gQ (by kernel_rfl) (by kernel_rfl) rfl (fun K hK=>?_)
  go_simp
  refine hK.out _ _ ?_
  clear hK K
  go_wp2
  go_ret
  exact⟨rfl,HOWN.out,gV.out⟩
  )
end Go.Proofs.YtlhmbkjdfjoilaaGreat
namespace Go.Proofs.YtlhmbkjdfjoilaaGreat
abbrev dO:=aH×aU
structure Good (t:dO):Prop where
 ok:jW [] t.1 t.2
 right:f_ [] t.1 t.2
theorem tK (p:ByteArray→Bool):∀ks:aH,(bH p ks).keys=ks.keys.filter p
 | .nil=>rfl
 | .cons key es sub rest=>by
   have ih:=tK p rest
   show(if p key=true then aH.cons key es sub (bH p rest)else bH p rest).keys=(key::rest.keys).filter p
   rw[List.filter_cons]
   split
   ·show key::(bH p rest).keys=_
    rw[ih]
   ·exact ih
theorem MB (p:ByteArray→Bool) (s:ByteArray):∀ks:aH,(bH p ks).find s=if p s=true then ks.find s else([], .nil)
 | .nil=>by simp[bH,aH.find]
 | .cons key es sub rest=>by
   have ih:=MB p s rest
   show aH.find s (if p key=true then aH.cons key es sub (bH p rest)else bH p rest)=if p s=true then(if key=s then(es,sub)else rest.find s)else([], .nil)
   by_cases hk:p key=true
   ·rw[if_pos hk]
    show(if key=s then(es,sub)else(bH p rest).find s)=_
    by_cases e:key=s
    ·subst e;simp[hk]
    ·simp only[if_neg e];exact ih
   ·rw[if_neg hk,ih]
    by_cases e:key=s
    ·subst e;simp[hk]
    ·simp only[if_neg e]
theorem MC (p:ByteArray→Bool) (f:ByteArray→List aF×aH):∀M:List ByteArray,bH p (eH f M)=eH f (M.filter p)
 |[]=>rfl
 |k::M=>by
  have ih:=MC p f M
  rw[List.filter_cons]
  show bH p (jL k (f k) (eH f M))=_
  by_cases hn:isNil (f k).1 (f k).2=true
  ·have e:∀r,jL k (f k) r=r:=fun r=>by unfold jL;rw[if_pos hn]
   rw[e,ih]
   split
   ·show _=jL k (f k) _
    rw[e]
   ·rfl
  ·have e:∀r,jL k (f k) r= .cons k (f k).1 (f k).2 r:=fun r=>by unfold jL;rw[if_neg hn]
   rw[e]
   show(if p k=true then aH.cons k (f k).1 (f k).2 (bH p (eH f M))else bH p (eH f M))=_
   rw[ih]
   split
   ·show _=jL k (f k) _
    rw[e]
   ·rfl
theorem B_ {f g:ByteArray→List aF×aH}:∀ {M:List ByteArray},(∀k∈M,f k=g k)→eH f M=eH g M
 |[],_=>rfl
 |k::M,h=>by
  show jL k (f k) (eH f M)=jL k (g k) (eH g M)
  rw[h k (by simp),B_ fun x hx=>h x (by simp[hx])]
theorem Vx (p:ByteArray→Bool) {a b:List ByteArray} (oa:gI a) (ob:gI b):(iU a b).filter p=iU (a.filter p) (b.filter p):=by
 refine EO ((yY oa ob).filter p) (yY (oa.filter p) (ob.filter p)) fun k=>?_
 simp only[List.mem_filter,qJ]
 constructor
 ·rintro⟨h|h,hp⟩
  ·exact .inl ⟨h,hp⟩
  ·exact .inr ⟨h,hp⟩
 ·rintro(⟨h,hp⟩|⟨h,hp⟩)
  ·exact⟨.inl h,hp⟩
  ·exact⟨.inr h,hp⟩
noncomputable def rZ (a b:dO):aH:=eH (fun k=>iC (gq a.2) (gq b.2) 4 (a.1.find k) (b.1.find k)) (iU a.1.keys b.1.keys)
theorem Gm (a b:dO):nK [] a.1 a.2 [] b.1 b.2=([],rZ a b):=by
 show(fC _ _ [] [],_)=_
 rw[fC]
 rfl
theorem Gn {t:dO} (h:Good t):gI t.1.keys:=(oC _ _ _ (uU h.right.tree).2).1
theorem Vy (p:ByteArray→Bool) {a b:dO} (ha:gI a.1.keys) (hb:gI b.1.keys):bH p (rZ a b)=rZ (bH p a.1,a.2) (bH p b.1,b.2):=by
 unfold rZ
 rw[MC,Vx p ha hb,←tK,←tK]
 refine B_ fun k hk=>?_
 have hp:p k=true:=by
  rw[qJ,tK,tK,List.mem_filter,List.mem_filter]at hk
  rcases hk with h|h<;>exact h.2
 simp only[MB,if_pos hp]
open Classical in
noncomputable def tN (c c':aU):aU:=if h:∃u,iO 0 c c' u then h.choose else []
theorem Gp {c c' u:aU} (h:iO 0 c c' u):tN c c'=u:=by
 unfold tN
 rw[dif_pos ⟨u,h⟩]
 exact(Exists.choose_spec (p:=fun u=>iO 0 c c' u) ⟨u,h⟩).one h
theorem Vz {a b:aS} (ha:bP a) (hb:bP b):∃u,bP u∧∀n,aV u n↔aV a n∨aV b n:=by
 have bd:∀ {l:aS},bP l→∀r∈l,1≤r.1∧r.1≤r.2∧r.2≤1099511627776:=fun h r hr=>by
  have h1:=jm h.1 r hr
  have h2:=h.2 r hr
  omega
 have hj:=yD (l:=a++b) (l':=(a++b).mergeSort fun x y=>decide (x.1≤y.1)) (List.mergeSort_perm _ _) (by
  have:=List.pairwise_mergeSort (le:=fun x y:Int×Int=>decide (x.1≤y.1)) (fun x y z h h'=>by simp at*;omega) (fun x y=>by simp;omega) (a++b)
  exact this.imp fun {x y} h=>by simpa using h) fun r hr=>by
   rcases List.mem_append.1 hr with h|h
   ·exact bd ha r h
   ·exact bd hb r h
 exact⟨_,hj.1,fun n=>by rw[hj.2.1,xX]⟩
theorem VA {c c':aU} (h:bZ c) (h':bZ c'):iO 0 c c' (tN c c'):=by
 have ex:∀d,∃u:aS,0≤d→d<4→bP u∧∀n,aV u n↔aV (bC c d) n∨aV (bC c' d) n:=fun d=>by
  by_cases hd:0≤d∧d<4
  ·obtain⟨u,hu⟩:=Vz (h.2 d hd.1 hd.2) (h'.2 d hd.1 hd.2)
   exact⟨u,fun _ _=>hu⟩
  ·exact⟨[],fun h0 h4=>absurd ⟨h0,h4⟩ hd⟩
 have hw:iO 0 c c' (jF fun d=>(ex d).choose):=iO.whole (fun d h0 h4=>((ex d).choose_spec h0 h4).1) fun d n h0 h4=>by
  rw[((ex d).choose_spec h0 h4).2 n]
  unfold dQ iM
  simp
 rw[Gp hw]
 exact hw
noncomputable def mP (a b:dO):dO:=(rZ a b,tN a.2 b.2)
def qL (t:dO):Nat:=cu t.1
theorem VB {a b:dO} (ha:Good a) (hb:Good b) (hs:qL a+qL b≤2000) (hl:a.2.length+b.2.length≤2000):Good (mP a b):=by
 have hu:=VA ha.right.ctx hb.right.ctx
 have h1:=Lh ha.right hb.right hu
 have h2:=Ug ha.right hb.right hu (by simpa[sizeT,qL]using hs) hl
 rw[Gm]at h1 h2
 exact⟨h2,h1⟩
def gJ:dO:=(.nil,[])
theorem VD:bZ []:=⟨trivial,fun d _ _=>⟨trivial,fun r hr=>by cases hr⟩⟩
theorem Gq:Good gJ:=⟨⟨⟨⟨by decide,fun e he=>(by cases he)⟩,by decide,trivial⟩,by decide,fun s hs=>(by cases hs),by decide⟩,⟨rfl,VD,fun r hr=>(by cases hr)⟩⟩
theorem MF {ha hb:Int→Int→Bool} (h:∀d n,ha d n=false):∀b:List aF,fC ha hb [] b=b
 |[]=>by rw[fC]
 |y::b=>by
  rw[fC,MF h b]
  unfold kR
  rw[if_neg (by rw[h];simp)]
  rfl
theorem MG:∀(ks:aH) (d:Nat) (p:Option ByteArray),fV ks d p=true→eH (fun k=>ks.find k) ks.keys=ks
 | .nil,_,_,_=>rfl
 | .cons key es sub rest,d,p,h=>by
   have o:=(oC _ _ _ h).1
   rw[n_]at h
   simp only[Bool.and_eq_true,Bool.not_eq_true']at h
   obtain⟨⟨⟨⟨h1,h2⟩,h3⟩,h4⟩,h5⟩:=h
   have ih:=MG rest d (some key) h5
   have e:eH (fun k=>(aH.cons key es sub rest).find k) rest.keys=eH (fun k=>rest.find k) rest.keys:=B_ fun k hk=>by
    show(if key=k then(es,sub)else rest.find k)=_
    refine if_neg fun e=>?_
    have:=(List.pairwise_cons.1 o).1 k hk
    rw[e,jK]at this
    cases this
   show jL key (if key=key then(es,sub)else rest.find key) (eH (fun k=>(aH.cons key es sub rest).find k) rest.keys)=_
   rw[e,ih,if_pos rfl]
   unfold jL
   rw[if_neg (by rw[h3];simp)]
theorem MH {ha hb:Int→Int→Bool} (h:∀d n,ha d n=false):∀(n:Nat) (t:List aF×aH),aX n t.1 t.2=true→iC ha hb n ([], .nil) t=t
 |0,_,h=>by simp[aX]at h
 |n+1,(es,ks),hr=>by
  obtain⟨_,k1⟩:=uU hr
  show(fC ha hb [] es,eH (fun k=>iC ha hb n (aH.find k .nil) (ks.find k)) (iU [] ks.keys))=_
  rw[MF h]
  congr 1
  rw[show iU [] ks.keys=ks.keys by rw[iU]]
  conv=>rhs;rw[←MG ks _ _ k1]
  exact B_ fun k hk=>MH h n _ (wY k1 (wZ k1 hk))
theorem VE {t:dO} (h:Good t):mP gJ t=t:=by
 have hb:iO 0 [] t.2 t.2:=⟨h.right.ctx,fun d n _ _=>by unfold dQ iM;simp[bC,jE]⟩
 have hk:iC (gq []) (gq t.2) 5 ([], .nil) ([],t.1)=([],t.1):=MH (fun d n=>by
  unfold gq
  rw[bW (by unfold iM bC;exact jE n)]
  simp) 5 _ h.right.tree
 have:=Gm gJ t
 have e:nK [] gJ.1 gJ.2 [] t.1 t.2=([],t.1):=hk
 rw[e]at this
 injection this with _ this
 unfold mP
 rw[←this,show gJ.2=[]from rfl,Gp hb]
def fQ (n:Nat) (t:dO):List dO:=(List.range n).map fun s:Nat=>(bH (dA n s) t.1,t.2)
theorem Gs (n:Nat) (t:dO):(fQ n t).length=n:=by simp[fQ]
theorem Gt {n:Nat} (t:dO) {k:Nat} (h:k<n):(fQ n t).getD k gJ=(bH (dA n k) t.1,t.2):=by
 rw[getD_at _ (by rw[Gs];exact h)]
 simp[fQ]
theorem VF {n:Nat} {a b:dO} (ha:Good a) (hb:Good b):List.zipWith mP (fQ n a) (fQ n b)=fQ n (mP a b):=by
 unfold fQ
 rw[List.zipWith_map,List.zipWith_self]
 refine List.map_congr_left fun s _=>?_
 show mP _ _=(bH (dA n s) (rZ a b),tN a.2 b.2)
 rw[Vy _ (Gn ha) (Gn hb)]
 rfl
theorem zC (p:ByteArray→Bool):∀ks:aH,cu (bH p ks)≤cu ks
 | .nil=>Nat.le_refl _
 | .cons key es sub rest=>by
   have ih:=zC p rest
   show cu (if p key=true then aH.cons key es sub (bH p rest)else bH p rest)≤_
   split
   ·simp only[cu];omega
   ·simp only[cu];omega
theorem Gu (p:ByteArray→Bool):∀ {ks:aH} {r:Int×Int},r∈g_ (bH p ks)→r∈g_ ks
 | .nil,_,h=>h
 | .cons key es sub rest,r,h=>by
   have h:r∈g_ (if p key=true then aH.cons key es sub (bH p rest)else bH p rest):=h
   unfold g_
   split at h
   ·unfold g_ at h
    rcases List.mem_append.1 h with h|h
    ·exact List.mem_append_left _ h
    ·exact List.mem_append_right _ (Gu p h)
   ·exact List.mem_append_right _ (Gu p h)
theorem VG {d:Nat}:∀ {ks:aH} {p q:Option ByteArray},(∀s∈ks.keys,ltK q s=true)→fV ks d p=true→fV ks d q=true
 | .nil,_,_,_,_=>rfl
 | .cons key es sub rest,p,q,hq,h=>by
   rw[n_]at h⊢
   simp only[Bool.and_eq_true]at h⊢
   exact⟨⟨⟨⟨h.1.1.1.1,hq key (by simp[aH.keys])⟩,h.1.1.2⟩,h.1.2⟩,h.2⟩
theorem MI (f:ByteArray→Bool) {d:Nat}:∀ {ks:aH} {p:Option ByteArray},fV ks d p=true→fV (bH f ks) d p=true
 | .nil,_,_=>rfl
 | .cons key es sub rest,p,h=>by
   have hk:=oC _ _ _ h
   rw[n_]at h
   simp only[Bool.and_eq_true]at h
   have ih:=MI f h.2
   show fV (if f key=true then aH.cons key es sub (bH f rest)else bH f rest) d p=true
   split
   ·rw[n_]
    simp only[Bool.and_eq_true]
    exact⟨h.1,ih⟩
   ·refine VG (fun s hs=>?_) ih
    rw[tK]at hs
    exact(hk.2 s (by simp[aH.keys,(List.mem_filter.1 hs).1])).1
theorem MJ (p:ByteArray→Bool) {t:dO} (h:Good t):Good (bH p t.1,t.2):=by
 have hr:=h.right.tree
 have hs:sizeT [] (bH p t.1)≤2000:=by have:=zC p t.1;have:=h.ok.small;unfold sizeT at*;omega
 have ht:aX 5 [] (bH p t.1)=true:=by
  simp only[aX,Bool.and_eq_true]at hr⊢
  exact⟨hr.1,MI p hr.2⟩
 refine⟨⟨FH ht (Nat.le_trans hs (by decide)),hs,h.ok.fits,h.ok.len⟩,ht,h.right.ctx,fun r hr=>h.right.dots r ?_⟩
 unfold eu at hr⊢
 rcases List.mem_append.1 hr with g|g
 ·exact List.mem_append_left _ g
 ·exact List.mem_append_right _ (Gu p g)
theorem MK {p:ByteArray→Bool}:∀ {ks:aH},(∀s∈ks.keys,p s=true)→bH p ks=ks
 | .nil,_=>rfl
 | .cons key es sub rest,h=>by
   show(if p key=true then aH.cons key es sub (bH p rest)else bH p rest)=_
   rw[if_pos (h key (by simp[aH.keys])),MK fun s hs=>h s (by simp[aH.keys,hs])]
theorem VH (p:ByteArray→Bool) (ks:aH):bH p (bH p ks)=bH p ks:=MK fun s hs=>by
 rw[tK]at hs
 exact(List.mem_filter.1 hs).2
theorem VI (n:Nat):fQ n gJ=List.replicate n gJ:=by
 unfold fQ
 show((List.range n).map fun _=>gJ)=_
 rw[List.map_const',List.length_range]
abbrev xG:=ByteArray×List aF×aH
def eU:aH→List xG
 | .nil=> []
 | .cons key es sub rest=>(key,es,sub)::eU rest
theorem Gv:∀ {a b:aH},eU a=eU b→a=b
 | .nil, .nil,_=>rfl
 | .nil, .cons ..,h=>by simp[eU]at h
 | .cons .., .nil,h=>by simp[eU]at h
 | .cons .., .cons ..,h=>by
   simp only[eU,List.cons.injEq,Prod.mk.injEq]at h
   obtain⟨⟨rfl,rfl,rfl⟩,h⟩:=h
   rw[Gv h]
theorem Gw (p:ByteArray→Bool):∀ks:aH,eU (bH p ks)=(eU ks).filter fun x=>p x.1
 | .nil=>rfl
 | .cons key es sub rest=>by
   show eU (if p key=true then aH.cons key es sub (bH p rest)else bH p rest)=((key,es,sub)::eU rest).filter fun x=>p x.1
   rw[List.filter_cons]
   split
   ·show(key,es,sub)::eU (bH p rest)=_
    rw[Gw p rest]
   ·exact Gw p rest
theorem Gx:∀ks:aH,(eU ks).map (·.1)=ks.keys
 | .nil=>rfl
 | .cons key es sub rest=>by show key::(eU rest).map (·.1)=_;rw[Gx rest];rfl
theorem zD:∀l:List aY,eU (mkK l)=l.map fun q=>(q.key,q.es,q.sub)
 |[]=>rfl
 |q::l=>by show(q.key,q.es,q.sub)::eU (mkK l)=_;rw[zD l];rfl
theorem ML {α:Type} (f:α→Int) (L:List α):∀n:Nat,((List.range n).flatMap fun s:Nat=>L.filter fun x=>decide (f x=(s:Int))).Perm (L.filter fun x=>decide (0≤f x∧f x<(n:Int)))
 |0=>by
  rw[List.filter_eq_nil_iff.2 (fun x _=>by simp only[decide_eq_true_eq];omega)]
  exact List.Perm.refl _
 |n+1=>by
  rw[List.range_succ,List.flatMap_append]
  refine((ML f L n).append_right _).trans ?_
  have e1:L.filter (fun x=>decide (0≤f x∧f x<(n:Int)))=(L.filter fun x=>decide (0≤f x∧f x<((n+1:Nat):Int))).filter (fun x=>decide (f x<(n:Int))):=by
   rw[List.filter_filter]
   refine List.filter_congr fun x _=>?_
   rw[←Bool.decide_and]
   refine decide_eq_decide.2 ?_
   omega
  have e2:([n].flatMap fun s:Nat=>L.filter fun x=>decide (f x=(s:Int)))=(L.filter fun x=>decide (0≤f x∧f x<((n+1:Nat):Int))).filter (fun x=> !decide (f x<(n:Int))):=by
   simp only[List.flatMap_cons,List.flatMap_nil,List.append_nil,List.filter_filter]
   refine List.filter_congr fun x _=>?_
   rw[←decide_not,←Bool.decide_and]
   refine decide_eq_decide.2 ?_
   omega
  rw[e1,e2]
  exact List.filter_append_perm _ _
theorem VJ {n:Nat} (s:ByteArray) (h1:1≤n) (h4:n≤4):0≤rY s n∧rY s n<(n:Int):=by
 unfold rY
 rw[if_neg (by omega)]
 exact⟨Int.emod_nonneg _ (by omega),Int.emod_lt_of_pos _ (by omega)⟩
theorem MN {n:Nat} (t:dO) (h1:1≤n) (h4:n≤4):((fQ n t).flatMap fun x=>eU x.1).Perm (eU t.1):=by
 unfold fQ
 rw[List.flatMap_map]
 have:=ML (fun x:xG=>rY x.1 n) (eU t.1) n
 rw[List.filter_eq_self.2 (fun x _=>decide_eq_true (VJ x.1 h1 h4))]at this
 refine List.Perm.trans (List.Perm.of_eq ?_) this
 refine congrArg List.flatten (List.map_congr_left fun s _=>?_)
 exact Gw _ _
theorem MO:∀ {L:List xG},gI (L.map (·.1))→∀ {x y:xG},x∈L→y∈L→x.1=y.1→x=y
 |[],_,_,_,h,_,_=>by cases h
 |z::L,o,x,y,hx,hy,e=>by
  have o:=List.pairwise_cons.1 (List.map_cons▸o:List.Pairwise _ (z.1::L.map (·.1)))
  rcases List.mem_cons.1 hx with rfl|hx'<;>rcases List.mem_cons.1 hy with rfl|hy'
  ·rfl
  ·have:=o.1 y.1 (List.mem_map.2 ⟨y,hy',rfl⟩);rw[e,jK]at this;cases this
  ·have:=o.1 x.1 (List.mem_map.2 ⟨x,hx',rfl⟩);rw[e,jK]at this;cases this
  ·exact MO o.2 hx' hy' e
theorem VK {ks ks':aH} (o:gI ks.keys) (hp:(eU ks').Perm (eU ks)) (hs:(eU ks').Pairwise fun x y=>bQ y.1 x.1=false):ks'=ks:=by
 rw[←Gx]at o
 refine Gv (hp.eq_of_pairwise (le:=fun x y=>bQ y.1 x.1=false) (fun x y hx hy h1 h2=>?_) hs ?_)
 ·exact MO o (hp.mem_iff.1 hx) hy (yV h2 h1)
 ·exact(List.pairwise_map.1 o).imp fun {x y} h=>Kw h
open Go.RowKit
def bD.g (q:bD):dO:=(q.ks,q.c)
theorem Rd.zF {w:World} {b n:Nat} {xs:List Value} {t:TypeId} {f:Nat×Nat} (h:w.heap[b]?=some (.cells xs.toArray t f)) (hn:n≤maxLen):Rd w (.slice (some ⟨b,0,none⟩) n n) n xs:=
 .inr ⟨b,0,n,rfl,Nat.le_refl _,hn,fun j u hu=>by rw[Nat.zero_add];exact aJ h j (by simpa using hu)⟩
structure pO (Q:Nat→Prop) (w:World) (b n:Nat) (l:List bD):Prop where
 len:l.length=n
 blk:w.heap[b]?=some (.cells (l.flatMap bD.cells).toArray 32 (0,0))
 each:∀q∈l,q.es=[]∧jc Q w q∧Good q.g
theorem pO.turn {Q Q':Nat→Prop} {w w':World} {b n:Nat} {l:List bD} (h:pO Q w b n l) (f:∀k,k<w.heap.size→Q k→w'.heap[k]?=w.heap[k]?∧Q' k) (hb:w'.heap[b]?=w.heap[b]?):pO Q' w' b n l:=
 ⟨h.len,hb.trans h.blk,fun q hq=>let⟨h1,h2,h3⟩:=h.each q hq;⟨h1,h2.turn f,h3⟩⟩
structure aW where
 id:Int
 pb:Nat
 ib:Nat
 part:List bD
 is:List Bool
instance:Inhabited aW:=⟨⟨0,0,0,[],[]⟩⟩
def aW.q (n:Nat) (r:aW):bM:=⟨r.id, .slice (some ⟨r.pb,0,none⟩) n n, .slice (some ⟨r.ib,0,none⟩) n n⟩
structure iW where
 id:Int
 part:List dO
 is:List Bool
def aW.con (r:aW):iW:=⟨r.id,r.part.map bD.g,r.is⟩
structure xH (L:Nat→Prop) (w:World) (n:Nat) (r:aW):Prop where
 part:pO (fun k=>¬L k) w r.pb n r.part
 xI:r.is.length=n
 is:w.heap[r.ib]?=some (.cells (oH r.is).toArray 4 (0,0))
 pL:L r.pb
 iL:L r.ib
structure dY (L:Nat→Prop) (w:World) (b n vb:Nat) (sv:Value) (vs:List bD) (rs:List aW):Prop where
 n1:1≤n
 n4:n≤4
 Ls:∀k,L k→k<w.heap.size
 box:w.heap[b]?=some (.cells #[.slice (some ⟨vb,0,none⟩) n n,sv] 81 (0,0))
 bL:L b
 vis:pO (fun k=>¬L k) w vb n vs
 vL:¬L vb
 own:w.ownsRow 0 86 3 sv rs.length ((rs.map (aW.q n)).flatMap bM.cells)
 sL:∀k,sv.ownBlock=some k→L k
 lD:∀r∈rs,xH L w n r
 pd:(rs.map aW.pb).Nodup
 xJ:(rs.map aW.ib).Nodup
 ids:(rs.map aW.id).Nodup
 few:rs.length≤4
theorem xH.turn {L L':Nat→Prop} {w w':World} {n:Nat} {r:aW} (h:xH L w n r) (f:∀k,k<w.heap.size→¬L k→w'.heap[k]?=w.heap[k]?∧¬L' k) (hL:∀k,L k→L' k) (hp:w'.heap[r.pb]?=w.heap[r.pb]?) (hi:w'.heap[r.ib]?=w.heap[r.ib]?):xH L' w' n r:=
 ⟨h.part.turn f hp,h.xI,hi.trans h.is,hL _ h.pL,hL _ h.iL⟩
section
variable {L:Nat→Prop} {w w':World} {b n vb:Nat} {sv:Value} {vs:List bD} {rs:List aW}
theorem dY.aN (h:dY L w b n vb sv vs rs) (f:aj au w w'):dY L w' b n vb sv vs rs:=by
 have ft:∀k,k<w.heap.size→¬L k→w'.heap[k]?=w.heap[k]?∧¬L k:=fun k hk hl=>⟨f.block k hk id,hl⟩
 have fb:∀ {k:Nat} {o:Obj},w.heap[k]?=some o→w'.heap[k]?=w.heap[k]?:=fun hk=>f.block _ (lt_of_block hk) id
 exact⟨h.n1,h.n4,fun k hk=>Nat.lt_of_lt_of_le (h.Ls k hk) f.size,(fb h.box).trans h.box,h.bL,h.vis.turn ft (fb h.vis.blk),h.vL,f.owns h.own (fun _ _ h=>h),h.sL,fun r hr=>(h.lD r hr).turn ft (fun _ h=>h) (fb (h.lD r hr).part.blk) (fb (h.lD r hr).is),h.pd,h.xJ,h.ids,h.few⟩
theorem dY.nN (h:dY L w b n vb sv vs rs):w.cell? ⟨b,0,none⟩=some (.slice (some ⟨vb,0,none⟩) n n):=aJ h.box 0 rfl
theorem dY.pR (h:dY L w b n vb sv vs rs):w.cell? ⟨b,1,none⟩=some sv:=aJ h.box 1 rfl
theorem zG {n:Nat} {rs:List aW}:∀q∈rs.map (aW.q n),q.shaped:=fun q hq=>by
 obtain⟨r,_,rfl⟩:=List.mem_map.1 hq
 exact⟨⟨_,_,_,rfl⟩,_,_,_,rfl⟩
theorem Gy (n:Nat) (rs:List aW):(rs.map (aW.q n)).map bM.id=rs.map aW.id:=by rw[List.map_map];rfl
theorem dY.rd (h:dY L w b n vb sv vs rs):Rd w sv (rs.map (aW.q n)).length ((rs.map (aW.q n)).flatMap bM.cells):=by
 rw[List.length_map]
 exact Rd.own h.own
theorem Cb {n:Nat} {rs:List aW} {k:Nat} (h:k<rs.length):(rs.map (aW.q n)).getD k default=(rs.getD k default).q n:=by
 rw[getD_at _ (by rw[List.length_map];exact h),getD_at _ h,List.getElem_map]
structure Turned (L:Nat→Prop) (w:World) (L':Nat→Prop) (w':World):Prop where
 aI:aj L w w'
 own:∀k,L' k→L k∨w.heap.size≤k
theorem Turned.zH (f:aj au w w'):Turned L w L w':=⟨f.mono fun _ _ h=>h.elim,fun _ h=> .inl h⟩
theorem Turned.trans {L' MP:Nat→Prop} {w'':World} (h:Turned L w L' w') (h':Turned L' w' MP w''):Turned L w MP w'':=
 ⟨h.aI.trans h'.aI fun k hk hl=>(h.own k hl).elim id fun h=>by omega,fun k hk=>by
   rcases h'.own k hk with g|g
   ·exact h.own k g
   ·exact .inr (Nat.le_trans h.aI.size g)⟩
end
end Go.Proofs.YtlhmbkjdfjoilaaGreat
namespace Go.Proofs
open Go.Shelf
def Tryz.kidSortL_ren:Go.Shelf.Ren:=⟨fun|6=>47|15=>76|14=>75|28=>106|29=>107|20=>98|21=>99|22=>100|23=>101|24=>102|25=>103|26=>104|27=>105|46=>138|47=>139|48=>140|49=>141|50=>142|57=>170|n=>n,fun|22=>26|24=>52|25=>94|3=>3|39=>130|0=>0|53=>73|55=>153|4=>4|46=>145|45=>144|50=>149|5=>5|9=>9|66=>190|70=>194|76=>220|77=>221|n=>n,fun|n=>n⟩
theorem Tryz.kidSortL:Go.Proofs.SlLaysF0.n6 Tryz.prog Tryz.kidSortL_ren:= {
 mixed:=by kernel_rfl
 f6:=⟨Tryz.f47.name,by decide,Tryz.func47.trans (congrArg some (by kernel_rfl))⟩
 f14:=⟨Tryz.f75.name,by decide,Tryz.func75.trans (congrArg some (by kernel_rfl))⟩
 f15:=Tryz.func76.trans (congrArg some (by kernel_rfl))
 f20:=⟨Tryz.f98.name,by decide,Tryz.func98.trans (congrArg some (by kernel_rfl))⟩
 f21:=⟨Tryz.f99.name,by decide,Tryz.func99.trans (congrArg some (by kernel_rfl))⟩
 f22:=⟨Tryz.f100.name,by decide,Tryz.func100.trans (congrArg some (by kernel_rfl))⟩
 f23:=⟨Tryz.f101.name,by decide,Tryz.func101.trans (congrArg some (by kernel_rfl))⟩
 f24:=⟨Tryz.f102.name,by decide,Tryz.func102.trans (congrArg some (by kernel_rfl))⟩
 f25:=⟨Tryz.f103.name,by decide,Tryz.func103.trans (congrArg some (by kernel_rfl))⟩
 f26:=⟨Tryz.f104.name,by decide,Tryz.func104.trans (congrArg some (by kernel_rfl))⟩
 f27:=⟨Tryz.f105.name,by decide,Tryz.func105.trans (congrArg some (by kernel_rfl))⟩
 f28:=Tryz.func106.trans (congrArg some (by kernel_rfl))
 f29:=Tryz.func107.trans (congrArg some (by kernel_rfl))
 f46:=⟨Tryz.f138.name,by decide,Tryz.func138.trans (congrArg some (by kernel_rfl))⟩
 f47:=Tryz.func139.trans (congrArg some (by kernel_rfl))
 f48:=Tryz.func140.trans (congrArg some (by kernel_rfl))
 f49:=⟨Tryz.f141.name,by decide,Tryz.func141.trans (congrArg some (by kernel_rfl))⟩
 f50:=⟨Tryz.f142.name,by decide,Tryz.func142.trans (congrArg some (by kernel_rfl))⟩
 f57:=⟨Tryz.f170.name,by decide,Tryz.func170.trans (congrArg some (by kernel_rfl))⟩
 t0:=Tryz.underlying0
 a0:=Tryz.isAgg0
 z0:=Tryz.sizeOf0
 v0:=Tryz.zeroValue0
 t3:=Tryz.underlying3
 a3:=Tryz.isAgg3
 z3:=Tryz.sizeOf3
 v3:=Tryz.zeroValue3
 t4:=Tryz.underlying4
 a4:=Tryz.isAgg4
 z4:=Tryz.sizeOf4
 v4:=Tryz.zeroValue4
 t5:=Tryz.underlying5
 a5:=Tryz.isAgg5
 z5:=Tryz.sizeOf5
 v5:=Tryz.zeroValue5
 t9:=Tryz.underlying9
 a9:=Tryz.isAgg9
 z9:=Tryz.sizeOf9
 v9:=Tryz.zeroValue9
 t22:=Tryz.underlying26
 a22:=Tryz.isAgg26
 z22:=Tryz.sizeOf26
 v22:=Tryz.zeroValue26
 t25:=Tryz.underlying94
 a25:=Tryz.isAgg94
 z25:=Tryz.sizeOf94
 v25:=Tryz.zeroValue94
 t39:=Tryz.underlying130
 a39:=Tryz.isAgg130
 z39:=Tryz.sizeOf130
 v39:=Tryz.zeroValue130
 t45:=Tryz.underlying144
 a45:=Tryz.isAgg144
 z45:=Tryz.sizeOf144
 v45:=Tryz.zeroValue144
 t46:=Tryz.underlying145
 a46:=Tryz.isAgg145
 z46:=Tryz.sizeOf145
 v46:=Tryz.zeroValue145
 t50:=Tryz.underlying149
 a50:=Tryz.isAgg149
 z50:=Tryz.sizeOf149
 v50:=Tryz.zeroValue149
 t53:=Tryz.underlying73
 a53:=Tryz.isAgg73
 z53:=Tryz.sizeOf73
 v53:=Tryz.zeroValue73
 t55:=Tryz.underlying153
 a55:=Tryz.isAgg153
 z55:=Tryz.sizeOf153
 v55:=Tryz.zeroValue153
 t66:=Tryz.underlying190
 a66:=Tryz.isAgg190
 z66:=Tryz.sizeOf190
 v66:=Tryz.zeroValue190
 t70:=Tryz.underlying194
 a70:=Tryz.isAgg194
 z70:=Tryz.sizeOf194
 v70:=Tryz.zeroValue194
 t76:=Tryz.underlying220
 a76:=Tryz.isAgg220
 z76:=Tryz.sizeOf220
 v76:=Tryz.zeroValue220
 t77:=Tryz.underlying221
 a77:=Tryz.isAgg221
 z77:=Tryz.sizeOf221
 v77:=Tryz.zeroValue221}
end Go.Proofs
namespace Go.Proofs.YtlhmbkjdfjoilaaGreat
open Go.RowKit Go.Sort
abbrev lF:= {q:aY//q.shaped}
instance:Inhabited lF:=⟨⟨default,⟨none,0,0,rfl⟩,none,0,0,rfl⟩⟩
def nO (x:lF):List Value:=x.1.cells
def cmpK (x y:lF):Int:=if bQ x.1.key y.1.key=true then-1 else 1
theorem Cc (x y:lF):ltOf cmpK x y=bQ x.1.key y.1.key:=by
 unfold ltOf cmpK
 cases bQ x.1.key y.1.key<;>simp
theorem swoK:SWO (ltOf cmpK) where
 irrefl x:=by rw[Cc];exact jK _
 trans x y z h1 h2:=by rw[Cc]at*;exact oZ h1 h2
 ntrans x y z h1 h2:=by
  rw[Cc]at*
  cases h:bQ x.1.key z.1.key with
  |false=>rfl
  |true=>
   cases h3:bQ y.1.key x.1.key with
   |true=>rw[oZ h3 h]at h2;cases h2
   |false=>rw[yV h1 h3]at h;rw[h]at h2;cases h2
def uZ (l:List lF):List Value:=l.flatMap nO
theorem MQ (l:List lF):(uZ l).length=l.length*3:=by
 have:=EF (l.map Subtype.val)
 rw[List.flatMap_map,List.length_map]at this
 exact this
theorem Gz (l:List lF):uZ l=(l.map Subtype.val).flatMap aY.cells:=by rw[List.flatMap_map];rfl
theorem VL (l:List lF) {k:Nat} (h:k<l.length):(l.map Subtype.val).getD k default=(l.getD k default).1:=by
 rw[getD_at _ (by rw[List.length_map];exact h),getD_at _ h,List.getElem_map]
theorem MR (d:Array lF) {t:Nat} (ht:t<d.size*3):(uZ d.toList)[t]?=some ((flatK nO 3 d)[t]!):=by
 rw[get_flatK _ _ _ _ ht]
 have hk:t/3<d.size:=by omega
 have hk':t/3<d.toList.length:=by simpa using hk
 obtain⟨h1,h2,h3⟩:=zy (d.toList.map Subtype.val) (t/3) (by rw[List.length_map];exact hk')
 rw[VL _ hk',getD_at default hk',←Gz]at h1 h2 h3
 have he:d.toList[t/3]=d[t/3]! :=by rw[getElem!_pos d _ hk];simp
 rw[he]at h1 h2 h3
 rcases(by omega:t%3=0∨t%3=1∨t%3=2)with h|h|h
 ·rw[h]
  have e:t/3*3=t:=by omega
  rw[e]at h1
  rw[h1];rfl
 ·rw[h]
  have e:t/3*3+1=t:=by omega
  rw[e]at h2
  rw[h2];rfl
 ·rw[h]
  have e:t/3*3+2=t:=by omega
  rw[e]at h3
  rw[h3];rfl
theorem OwnAt.VN {w0 w:World} {e:TypeId} {n c g:Nat} {l:List lF} (h:OwnAt w0 w e 3 (.slice (some ⟨g,0,none⟩) n c) n (uZ l)) (hn:0<n) (hl:l.length=n):HoldsK nO 3 w g 0 l.toArray:=by
 obtain⟨g',c',he,_,_,_,h1,h2,_⟩:=h.row hn
 injection he with e1 e2 e3
 injection e1 with e1
 injection e1 with e4 e5
 subst e4
 intro j hj
 rw[size_flatK]at hj
 have hf:=MR l.toArray hj
 rw[Nat.zero_add]
 exact⟨h1 j _ hf,h2 j⟩
theorem VO (d:Array lF):(flatK nO 3 d).toList=uZ d.toList:=by
 apply List.ext_getElem?
 intro t
 by_cases ht:t<d.size*3
 ·rw[MR d ht]
  simp[ht]
 ·rw[List.getElem?_eq_none (by simp;omega),List.getElem?_eq_none (by rw[MQ];simp;omega)]
theorem OwnAt.VP {w0 w:World} {e:TypeId} {n c g:Nat} {l:List lF} (h:OwnAt w0 w e 3 (.slice (some ⟨g,0,none⟩) n c) n (uZ l)) (d':Array lF) (hd:d'.size=n) (hn:0<n) (m:Nat) (os:Array Obj):
 OwnAt w0 (sortWorldK nO 3 w g 0 m d' os) e 3 (.slice (some ⟨g,0,none⟩) n c) n (uZ d'.toList)∧aj (fun k=>k=g) w (sortWorldK nO 3 w g 0 m d' os):=by
 rcases h.own.2 with⟨_,h0⟩|⟨g',cap,cur,he,hb,hg,hnc,hcm,hcs,htake⟩
 ·omega
 ·injection he with e1 e2 e3
  injection e1 with e1
  injection e1 with e4 e5
  subst e4 e3
  have hlt:g<w.heap.size:=lt_of_block hg
  have hnew:w0.heap.size≤g:=h.new g rfl
  have hF:(flatK nO 3 d').size=n*3:=by rw[size_flatK,hd]
  have hblk:(sortWorldK nO 3 w g 0 m d' os).heap[g]?=some (.cells (putCells id 0 (flatK nO 3 d') cur) e (0,0)):=by
   unfold sortWorldK putRowK
   rw[heap_grow_old _ _ (by unfold putRow mapBlock;simpa[Sort.ahead]using hlt)]
   show((Sort.ahead w m).heap.modify g (onCells _))[g]?=_
   rw[Array.getElem?_modify,if_pos rfl]
   show Option.map _ (w.heap[g]?)=_
   rw[hg]
   rfl
  have hcur:(flatK nO 3 d').size≤cur.size:=by rw[hF,hcs];exact Nat.mul_le_mul_right _ hnc
  have hfr:aj (fun k=>k=g) w (sortWorldK nO 3 w g 0 m d' os):=⟨rfl,rfl,rfl,by
   unfold sortWorldK putRowK
   rw[size_grow]
   show w.heap.size≤(w.heap.modify g _).size+_
   rw[Array.size_modify];omega,fun k hk hn=>by
   unfold sortWorldK putRowK
   rw[heap_grow_old _ _ (by unfold putRow mapBlock;simpa[Sort.ahead]using hk)]
   show(w.heap.modify g (onCells _))[k]?=_
   rw[Array.getElem?_modify,if_neg (fun e=>hn e.symm)]⟩
  refine⟨⟨⟨by rw[MQ];simp[hd], .inr ⟨g,c,_,rfl,hb,hblk,hnc,hcm,by simp[putCells,hcs],?_⟩⟩,h.new,?_⟩,hfr⟩
  ·rw[←hF,JM _ _ hcur,VO]
  ·exact h.aI.trans (T:=fun k=>k=g) hfr (fun i hi he=>by have he:i=g:=he;omega)
theorem VQ {d d':Array lF} (h:PermIn 0 d.size d d'):d'.toList.Perm d.toList:=by
 have h1:=h.2.2
 have hs:=h.1
 have e1:(d'.extract 0 d.size).toList=d'.toList:=by rw[←hs];simp
 have e2:(d.extract 0 d.size).toList=d.toList:=by simp
 rw[e1,e2]at h1
 exact h1
theorem VR {d:Array lF} (h:SortedIn (ltOf cmpK) 0 d.size d):d.toList.Pairwise (fun a b=>bQ b.1.key a.1.key=false):=by
 rw[List.pairwise_iff_getElem]
 intro i j hi hj hij
 have hi':i<d.size:=by simpa using hi
 have hj':j<d.size:=by simpa using hj
 have:=h i j (Nat.zero_le _) hij hj'
 rw[Cc,getElem!_pos d i hi',getElem!_pos d j hj']at this
 simpa using this
theorem VT (s t:ByteArray) (a0 a1 b0 b1:Option Addr) (n0 n1 c0 c1 m0 m1 d0 d1:Nat) (W:World):Calls Tryz.prog 48 #[.agg #[.string s, .slice a0 n0 c0, .slice a1 n1 c1], .agg #[.string t, .slice b0 m0 d0, .slice b1 m1 d1]] W fun e w'=>e= .returned (.int .i64 (if bQ s t=true then-1 else 1))∧∃q os',w'=grow (W.drewN q) os':=by
 cases hst:bQ s t with
 |true=>
  have h2:Op.bytesLess s.toList t.toList=true:=hst
  go_enter Tryz.func48,Tryz.ntmps48
  go_wp2
  go_ret
  exact⟨rfl,0,_,by rw[alloc_eq_grow,alloc_eq_grow,grow_grow];rfl⟩
 |false=>
  have h2:Op.bytesLess s.toList t.toList=false:=hst
  go_enter Tryz.func48,Tryz.ntmps48
  go_wp2
  go_ret
  exact⟨rfl,0,_,by rw[alloc_eq_grow,alloc_eq_grow,grow_grow];rfl⟩
theorem VU (w0 w:World) (v:Value) (n:Nat) (l:List aY) (h:OwnAt w0 w 52 3 v n (l.flatMap aY.cells)) (hl:l.length=n) (hn:n≤1000000) (hs:∀q∈l,q.shaped):
 Calls Tryz.prog 47 #[v, .func (.func 48) #[] #[]] w fun e w'=>e= .returned (.tuple #[])∧∃l':List aY,l'.Perm l∧l'.Pairwise (fun a b=>bQ b.key a.key=false)∧OwnAt w0 w' 52 3 v n (l'.flatMap aY.cells)∧aj (bY v) w w':=by
 have eg:∀args w,(callFunc 48 args).run Tryz.prog w= .ok (.enter 48 args) w:=enters_of Tryz.func48 (by kernel_rfl) rfl
 obtain⟨L,hL⟩:∃L:List lF,L.map Subtype.val=l:=⟨l.pmap Subtype.mk hs,by simp[List.map_pmap]⟩
 subst hL
 clear hs
 rw[←Gz]at h
 rw[List.length_map]at hl
 rcases Nat.eq_zero_or_pos n with rfl|h0
 ·obtain⟨a,c,rfl⟩:=h.shape
  obtain rfl:L=[]:=List.eq_nil_of_length_eq_zero hl
  exact(AnyF.slices_SortFunc_none Tryz.kidSortL a c _ w).mono fun _ _ ⟨he,hw⟩=>⟨he,[],List.Perm.refl _,List.Pairwise.nil,by rw[hw];exact h,by rw[hw];exact aj.refl _ _⟩
 ·obtain⟨g',c',rfl,_,hlt,_⟩:=h.row h0
  have hc:=AnyQ.slices_SortFunc Tryz.kidSortL 3 Tryz.isAgg52 Tryz.sizeOf52 nO (fun _=>rfl) (fun x v hv=>by
   obtain⟨q,⟨a0,n0,c0,e0⟩,a1,n1,c1,e1⟩:=x
   simp[nO,aY.cells]at hv
   rcases hv with rfl|rfl|rfl
   ·rfl
   ·rw[e0];rfl
   ·rw[e1];rfl) cmpK swoK 48 #[] g' 0 c' L.toArray w eg (fun _ _ _ _ x y=>by
   obtain⟨⟨k0,_,_,ev,kv⟩,⟨a0,n0,c0,e0⟩,a1,n1,c1,e1⟩:=x
   obtain⟨⟨k0',_,_,ev',kv'⟩,⟨a0',tu,c0',e0'⟩,a1',n1',c1',e1'⟩:=y
   simp only at e0 e1 e0' e1'
   subst e0 e1 e0' e1'
   exact VT k0 k0' a0 a1 a0' a1' n0 n1 c0 c1 tu n1' c0' c1' _) (h.VN h0 hl) hlt (by simp;omega)
  have hs:L.toArray.size=n:=by simpa using hl
  rw[hs]at hc
  refine Calls.mono hc fun e w' ⟨he,d',m,os,hp,hq,hw⟩=>?_
  have hd:d'.size=n:=by rw[hp.1,hs]
  obtain⟨o1,o2⟩:=h.VP d' hd h0 m os
  refine⟨he,d'.toList.map Subtype.val,?_,?_,?_,?_⟩
  ·have:=VQ (d:=L.toArray) (d':=d') (by rw[hs];exact hp)
   exact this.map _
  ·exact List.pairwise_map.2 (VR (by rw[hd];exact hq))
  ·rw[hw,←Gz]
   exact o1
  ·rw[hw]
   exact o2.mono fun k _ e=>by subst e;rfl
end Go.Proofs.YtlhmbkjdfjoilaaGreat
