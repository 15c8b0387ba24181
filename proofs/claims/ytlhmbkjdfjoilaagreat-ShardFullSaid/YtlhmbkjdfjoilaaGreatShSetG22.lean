/- Words for the law ShSet: R9, Sh20, Sh21, Sh22. -/
import Derived.Test.YtlhmbkjdfjoilaaGreatShSetG0
import Derived.Test.YtlhmbkjdfjoilaaGreatShSetG10
import Derived.Test.YtlhmbkjdfjoilaaGreatShSetG20
import Derived.Test.YtlhmbkjdfjoilaaGreatShSetG21
set_option linter.unusedSimpArgs false
set_option linter.unusedVariables false
set_option maxHeartbeats 32000000
set_option maxRecDepth 1000000
namespace Go.Proofs.YtlhmbkjdfjoilaaGreat
open Go.RowKit
theorem WG (Q:Nat→Prop) (es:List aG) (ks:aH) (c:aV) (left:Int) (w:World) (ev kv cv:Value) (h:eu Q w ev kv cv es ks c) (hok:iE es ks) (hcl:c.length≤140737488351232) (h1:left≤1000) (h2:0≤left):
 Calls Tryz.prog 30 #[.agg #[ev,kv,cv], .int .i64 left] w fun e w'=>e= .returned (.bool (decide (0≤kZ es ks left 8)&&decide ((c.length:Int)≤left)))∧aj au w w':=by
 obtain⟨a0,c0,a1,c1,a2,c2,rfl,rfl,rfl⟩:=h.shape
 have HC:=ah (fun W (f:aj au w W)=>WC Q es ks left W _ _ (h.tree.aN f) hok h1 h2)
 clear h hok
 generalize c.length=k at*
 cases hb:decide (0≤kZ es ks left 8)with
 |false=>
  rw[hb]at HC
  clear hb
  have bD:=ah (jJ w (.slice a0 es.length c0) (.slice a1 ks.len c1) (.slice a2 k c2) 32)
  go_enter Tryz.func30,Tryz.ntmps30
  go_wp2_with(go_at_call 55;refine(HC.out _ (aj.alloc _ _ _)).mono ?_;rintro e w1 ⟨rfl,hw1⟩;obtain⟨y0,y1,y2⟩:=bD.out w1 hw1;have HW1:=ah ((aj.alloc au _ _).aF hw1);clear hw1)
  go_ret
  exact⟨rfl,HW1.out⟩
 |true=>
  rw[hb]at HC
  clear hb
  have bD:=ah (jJ w (.slice a0 es.length c0) (.slice a1 ks.len c1) (.slice a2 k c2) 32)
  go_enter Tryz.func30,Tryz.ntmps30
  go_wp2_with(go_at_call 55;refine(HC.out _ (aj.alloc _ _ _)).mono ?_;rintro e w1 ⟨rfl,hw1⟩;obtain⟨y0,y1,y2⟩:=bD.out w1 hw1;have HW1:=ah ((aj.alloc au _ _).aF hw1);clear hw1)
  go_ret
  exact⟨rfl,HW1.out⟩
theorem WH (Q:Nat→Prop) (es:List aG) (ks:aH) (c:aV) (w:World) (ev kv cv:Value) (h:eu Q w ev kv cv es ks c) (hok:jB es ks c):
 Calls Tryz.prog 37 #[.agg #[ev,kv,cv]] w fun e w'=>e= .returned (.bool (tf (fG es ks c)))∧aj au w w':=by
 obtain⟨a0,c0,a1,c1,a2,c2,rfl,rfl,rfl⟩:=h.shape
 have HT:=ah (fun W (f:aj au w W)=>WE Q es ks W _ _ (h.tree.aN f) hok.tree)
 have HX:=ah (fun W (f:aj au w W)=>Ou W _ c (Rd.aN h.ctx f) hok.fits (by have:=hok.len;omega))
 have HD:=ah (fun W (f:aj au w W) hd=>Ws Q es ks W _ _ (h.tree.aN f) hok.small hd)
 have HL:=ah (fun W (f:aj au w W) vd d (hv:fB W vd d) (rd:bY d) (ld:d.length≤8000) (rc:bY c)=>Oq W vd _ d c hv (Rd.aN h.ctx f) rd rc (by omega) (by have:=hok.len;omega))
 have bD:=ah (jJ w (.slice a0 es.length c0) (.slice a1 ks.len c1) (.slice a2 c.length c2) 32)
 clear h hok
 cases hr:aY 5 es ks with
 |false=>
  rw[hr]at HT
  rw[bW fun h=>by rw[h.tree]at hr;cases hr]
  clear hr HX HD HL
  generalize es.length=n at*
  generalize ks.len=m at*
  generalize c.length=k at*
  have hfa:aj au w (w.alloc (.cells #[.slice a0 n c0, .slice a1 m c1, .slice a2 k c2] 32)):=aj.alloc _ _ _
  go_enter Tryz.func37,Tryz.ntmps37
  go_wp2_with fail
  refine iY (S:=fun w'=>w'.cell? ⟨w.heap.size,0,none⟩=some (.slice a0 n c0)∧w'.cell? ⟨w.heap.size,1,none⟩=some (.slice a1 m c1)∧w'.cell? ⟨w.heap.size,2,none⟩=some (.slice a2 k c2)) 16 (by kernel_rfl) (bD.out _ (aj.drew _ _)) ?_
  intro hS
  have dM:=ah (hfa.qP)
  generalize (w.alloc (.cells #[.slice a0 n c0, .slice a1 m c1, .slice a2 k c2] 32)).drew=Y at*
  clear hfa
  refine aT 0 3 rfl rfl (v:=?_) (.inl ⟨by rfl,?_⟩) ?_
  rotate_left 1
  ·(intro w hSw;(try dsimp only at hSw);go_simp;(try with_reducible rfl))
  refine aT 1 4 rfl rfl (v:=?_) (.inl ⟨by rfl,?_⟩) ?_
  rotate_left 1
  ·(intro w hSw;(try dsimp only at hSw);go_simp;(try with_reducible rfl))
  try simp only[Act.put,aP,aQ,aO]
  refine bP (i:=2) (by kernel_rfl) rfl (fun K hK=>?_)
  go_simp
  refine(HT.out _ dM.out).mono ?_
  rintro e Y1 ⟨rfl,hf1⟩
  have hS:=(⟨hf1.cell' hS.1 id,hf1.cell' hS.2.1 id,hf1.cell' hS.2.2 id⟩:Y1.cell? ⟨w.heap.size,0,none⟩=some (.slice a0 n c0)∧Y1.cell? ⟨w.heap.size,1,none⟩=some (.slice a1 m c1)∧Y1.cell? ⟨w.heap.size,2,none⟩=some (.slice a2 k c2))
  refine hK.out _ _ hS ?_
  clear hK K
  have bQ:=ah hf1;clear hf1
  try simp only[Act.put,aP,aQ,aO]
  refine aT 3 6 rfl rfl (v:=?_) (.inl ⟨by rfl,?_⟩) ?_
  rotate_left 1
  ·(intro w hSw;(try dsimp only at hSw);go_simp;(try with_reducible rfl))
  refine kT 4 7 rfl rfl ?_
  try simp only[Act.put,aP,aQ,aO]
  refine kT 5 8 rfl rfl ?_
  refine kT 6 9 rfl rfl ?_
  try simp only[Act.put,aP,aQ,aO]
  refine aT 7 10 rfl rfl (v:=?_) (.inl ⟨by rfl,?_⟩) ?_
  rotate_left 1
  ·(intro w hSw;(try dsimp only at hSw);go_simp;(try with_reducible rfl))
  refine aT 8 11 rfl rfl (v:=?_) (.inl ⟨by rfl,?_⟩) ?_
  rotate_left 1
  ·(intro w hSw;(try dsimp only at hSw);go_simp;(try with_reducible rfl))
  try simp only[Act.put,aP,aQ,aO]
  refine kT 9 12 rfl rfl ?_
  refine kT 10 13 rfl rfl ?_
  try simp only[Act.put,aP,aQ,aO]
  refine kT 11 14 rfl rfl ?_
  refine kT 12 15 rfl rfl ?_
  try simp only[Act.put,aP,aQ,aO]
  refine kT 13 16 rfl rfl ?_
  refine kT 14 17 rfl rfl ?_
  try simp only[Act.put,aP,aQ,aO]
  refine aT 15 18 rfl rfl (v:=?_) (.inl ⟨by rfl,?_⟩) ?_
  rotate_left 1
  ·(intro w hSw;(try dsimp only at hSw);go_simp;(try with_reducible rfl))
  try simp only[Act.put,aP,aQ,aO]
  refine iK (by kernel_rfl) (by kernel_rfl) rfl (fun K hK=>?_)
  go_simp
  refine hK.out _ _ ?_
  clear hK K hS
  go_wp2
  go_ret
  exact⟨rfl,dM.out.aF bQ.out⟩
 |true=>
  rw[hr]at HT
  by_cases hc:bY c
  ·rw[dH hc]at HX
   have dQ:=ah (Dc hr)
   have hpost:∀d,mg (dX es ks) d→tf (qQ d c)=tf (fG es ks c):=fun d hd=>uz ⟨fun h=>⟨hr,hc,(hd.leq dQ.out).1 h⟩,fun h=>(hd.leq dQ.out).2 h.dots⟩
   have sW:=ah hpost;clear hpost
   have Ce:=ah hc;clear hc hr
   generalize tf (fG es ks c)=y at*
   generalize es.length=n at*
   generalize ks.len=m at*
   generalize c.length=k at*
   have hfa:aj au w (w.alloc (.cells #[.slice a0 n c0, .slice a1 m c1, .slice a2 k c2] 32)):=aj.alloc _ _ _
   go_enter Tryz.func37,Tryz.ntmps37
   go_wp2_with fail
   refine iY (S:=fun w'=>w'.cell? ⟨w.heap.size,0,none⟩=some (.slice a0 n c0)∧w'.cell? ⟨w.heap.size,1,none⟩=some (.slice a1 m c1)∧w'.cell? ⟨w.heap.size,2,none⟩=some (.slice a2 k c2)) 16 (by kernel_rfl) (bD.out _ (aj.drew _ _)) ?_
   intro hS
   have dM:=ah (hfa.qP)
   generalize (w.alloc (.cells #[.slice a0 n c0, .slice a1 m c1, .slice a2 k c2] 32)).drew=Y at*
   clear hfa
   refine aT 0 3 rfl rfl (v:=?_) (.inl ⟨by rfl,?_⟩) ?_
   rotate_left 1
   ·(intro w hSw;(try dsimp only at hSw);go_simp;(try with_reducible rfl))
   refine aT 1 4 rfl rfl (v:=?_) (.inl ⟨by rfl,?_⟩) ?_
   rotate_left 1
   ·(intro w hSw;(try dsimp only at hSw);go_simp;(try with_reducible rfl))
   try simp only[Act.put,aP,aQ,aO]
   refine bP (i:=2) (by kernel_rfl) rfl (fun K hK=>?_)
   go_simp
   refine(HT.out _ dM.out).mono ?_
   rintro e Y1 ⟨rfl,hf1⟩
   have hS:=(⟨hf1.cell' hS.1 id,hf1.cell' hS.2.1 id,hf1.cell' hS.2.2 id⟩:Y1.cell? ⟨w.heap.size,0,none⟩=some (.slice a0 n c0)∧Y1.cell? ⟨w.heap.size,1,none⟩=some (.slice a1 m c1)∧Y1.cell? ⟨w.heap.size,2,none⟩=some (.slice a2 k c2))
   refine hK.out _ _ hS ?_
   clear hK K
   have bQ:=ah (dM.out.aF hf1);clear hf1
   try simp only[Act.put,aP,aQ,aO]
   refine aT 3 6 rfl rfl (v:=?_) (.inl ⟨by rfl,?_⟩) ?_
   rotate_left 1
   ·(intro w hSw;(try dsimp only at hSw);go_simp;(try with_reducible rfl))
   refine aT 4 7 rfl rfl (v:=?_) (.inl ⟨by rfl,?_⟩) ?_
   rotate_left 1
   ·(intro w hSw;(try dsimp only at hSw);go_simp;(try with_reducible rfl))
   try simp only[Act.put,aP,aQ,aO]
   refine aT 5 8 rfl rfl (v:=?_) (.inl ⟨by rfl,?_⟩) ?_
   rotate_left 1
   ·(intro w hSw;(try dsimp only at hSw);go_simp;(try with_reducible rfl))
   try simp only[Act.put,aP,aQ,aO]
   refine bP (i:=6) (by kernel_rfl) rfl (fun K hK=>?_)
   go_simp
   refine(HX.out _ bQ.out).mono ?_
   rintro e Y2 ⟨rfl,hf2⟩
   have hS:=(⟨hf2.cell' hS.1 id,hf2.cell' hS.2.1 id,hf2.cell' hS.2.2 id⟩:Y2.cell? ⟨w.heap.size,0,none⟩=some (.slice a0 n c0)∧Y2.cell? ⟨w.heap.size,1,none⟩=some (.slice a1 m c1)∧Y2.cell? ⟨w.heap.size,2,none⟩=some (.slice a2 k c2))
   refine hK.out _ _ hS ?_
   clear hK K
   have HF2:=ah (bQ.out.aF hf2);clear hf2
   try simp only[Act.put,aP,aQ,aO]
   refine aT 7 10 rfl rfl (v:=?_) (.inl ⟨by rfl,?_⟩) ?_
   rotate_left 1
   ·(intro w hSw;(try dsimp only at hSw);go_simp;(try with_reducible rfl))
   refine aT 8 11 rfl rfl (v:=?_) (.inl ⟨by rfl,?_⟩) ?_
   rotate_left 1
   ·(intro w hSw;(try dsimp only at hSw);go_simp;(try with_reducible rfl))
   try simp only[Act.put,aP,aQ,aO]
   refine aT 9 12 rfl rfl (v:=?_) (.inl ⟨by rfl,?_⟩) ?_
   rotate_left 1
   ·(intro w hSw;(try dsimp only at hSw);go_simp;(try with_reducible rfl))
   refine aT 10 13 rfl rfl (v:=?_) (.inl ⟨by rfl,?_⟩) ?_
   rotate_left 1
   ·(intro w hSw;(try dsimp only at hSw);go_simp;(try with_reducible rfl))
   try simp only[Act.put,aP,aQ,aO]
   refine aT 12 15 rfl rfl (v:=?_) (.inl ⟨by rfl,?_⟩) ?_
   rotate_left 1
   ·(intro w hSw;(try dsimp only at hSw);go_simp;(try with_reducible rfl))
   refine aT 13 16 rfl rfl (v:=?_) (.inl ⟨by rfl,?_⟩) ?_
   rotate_left 1
   ·(intro w hSw;(try dsimp only at hSw);go_simp;(try with_reducible rfl))
   try simp only[Act.put,aP,aQ,aO]
   refine bP (i:=11) (by kernel_rfl) rfl (fun K hK=>?_)
   go_simp
   refine(HD.out _ HF2.out dQ.out).mono ?_
   rintro e Y3 ⟨v3,d,rfl,ho3,hof,hl3⟩
   obtain⟨a3,c3,rfl⟩:=ho3.shape
   have hf3:=ho3.aJ
   have hS:=(⟨hf3.cell' hS.1 id,hf3.cell' hS.2.1 id,hf3.cell' hS.2.2 id⟩:Y3.cell? ⟨w.heap.size,0,none⟩=some (.slice a0 n c0)∧Y3.cell? ⟨w.heap.size,1,none⟩=some (.slice a1 m c1)∧Y3.cell? ⟨w.heap.size,2,none⟩=some (.slice a2 k c2))
   refine hK.out _ _ hS ?_
   clear hK K
   have HF3:=ah (HF2.out.aF hf3);clear hf3
   have bJ:=ah ho3;clear ho3
   have mO:=ah hof;clear hof
   have nH:=ah hl3;clear hl3
   try simp only[Act.put,aP,aQ,aO]
   refine bP (i:=14) (by kernel_rfl) rfl (fun K hK=>?_)
   go_simp
   refine(HL.out _ HF3.out _ d bJ.out.rd mO.out.right nH.out Ce.out).mono ?_
   rintro e Y4 ⟨rfl,hf4⟩
   rw[sW.out d mO.out]
   have hS:=(⟨hf4.cell' hS.1 id,hf4.cell' hS.2.1 id,hf4.cell' hS.2.2 id⟩:Y4.cell? ⟨w.heap.size,0,none⟩=some (.slice a0 n c0)∧Y4.cell? ⟨w.heap.size,1,none⟩=some (.slice a1 m c1)∧Y4.cell? ⟨w.heap.size,2,none⟩=some (.slice a2 k c2))
   refine hK.out _ _ hS ?_
   clear hK K
   have jM:=ah (HF3.out.aF hf4);clear hf4
   try simp only[Act.put,aP,aQ,aO]
   refine aT 15 18 rfl rfl (v:=?_) (.inl ⟨by rfl,?_⟩) ?_
   rotate_left 1
   ·(intro w hSw;(try dsimp only at hSw);go_simp;(try with_reducible rfl))
   try simp only[Act.put,aP,aQ,aO]
   refine iK (by kernel_rfl) (by kernel_rfl) rfl (fun K hK=>?_)
   go_simp
   refine hK.out _ _ ?_
   clear hK K hS
   go_wp2
   go_ret
   exact⟨rfl,jM.out⟩
  ·rw[bW hc]at HX
   rw[bW fun h=>hc h.ctx]
   clear hc hr HD HL
   generalize es.length=n at*
   generalize ks.len=m at*
   generalize c.length=k at*
   have hfa:aj au w (w.alloc (.cells #[.slice a0 n c0, .slice a1 m c1, .slice a2 k c2] 32)):=aj.alloc _ _ _
   go_enter Tryz.func37,Tryz.ntmps37
   go_wp2_with fail
   refine iY (S:=fun w'=>w'.cell? ⟨w.heap.size,0,none⟩=some (.slice a0 n c0)∧w'.cell? ⟨w.heap.size,1,none⟩=some (.slice a1 m c1)∧w'.cell? ⟨w.heap.size,2,none⟩=some (.slice a2 k c2)) 16 (by kernel_rfl) (bD.out _ (aj.drew _ _)) ?_
   intro hS
   have dM:=ah (hfa.qP)
   generalize (w.alloc (.cells #[.slice a0 n c0, .slice a1 m c1, .slice a2 k c2] 32)).drew=Y at*
   clear hfa
   refine aT 0 3 rfl rfl (v:=?_) (.inl ⟨by rfl,?_⟩) ?_
   rotate_left 1
   ·(intro w hSw;(try dsimp only at hSw);go_simp;(try with_reducible rfl))
   refine aT 1 4 rfl rfl (v:=?_) (.inl ⟨by rfl,?_⟩) ?_
   rotate_left 1
   ·(intro w hSw;(try dsimp only at hSw);go_simp;(try with_reducible rfl))
   try simp only[Act.put,aP,aQ,aO]
   refine bP (i:=2) (by kernel_rfl) rfl (fun K hK=>?_)
   go_simp
   refine(HT.out _ dM.out).mono ?_
   rintro e Y1 ⟨rfl,hf1⟩
   have hS:=(⟨hf1.cell' hS.1 id,hf1.cell' hS.2.1 id,hf1.cell' hS.2.2 id⟩:Y1.cell? ⟨w.heap.size,0,none⟩=some (.slice a0 n c0)∧Y1.cell? ⟨w.heap.size,1,none⟩=some (.slice a1 m c1)∧Y1.cell? ⟨w.heap.size,2,none⟩=some (.slice a2 k c2))
   refine hK.out _ _ hS ?_
   clear hK K
   have bQ:=ah (dM.out.aF hf1);clear hf1
   try simp only[Act.put,aP,aQ,aO]
   refine aT 3 6 rfl rfl (v:=?_) (.inl ⟨by rfl,?_⟩) ?_
   rotate_left 1
   ·(intro w hSw;(try dsimp only at hSw);go_simp;(try with_reducible rfl))
   refine aT 4 7 rfl rfl (v:=?_) (.inl ⟨by rfl,?_⟩) ?_
   rotate_left 1
   ·(intro w hSw;(try dsimp only at hSw);go_simp;(try with_reducible rfl))
   try simp only[Act.put,aP,aQ,aO]
   refine aT 5 8 rfl rfl (v:=?_) (.inl ⟨by rfl,?_⟩) ?_
   rotate_left 1
   ·(intro w hSw;(try dsimp only at hSw);go_simp;(try with_reducible rfl))
   try simp only[Act.put,aP,aQ,aO]
   refine bP (i:=6) (by kernel_rfl) rfl (fun K hK=>?_)
   go_simp
   refine(HX.out _ bQ.out).mono ?_
   rintro e Y2 ⟨rfl,hf2⟩
   have hS:=(⟨hf2.cell' hS.1 id,hf2.cell' hS.2.1 id,hf2.cell' hS.2.2 id⟩:Y2.cell? ⟨w.heap.size,0,none⟩=some (.slice a0 n c0)∧Y2.cell? ⟨w.heap.size,1,none⟩=some (.slice a1 m c1)∧Y2.cell? ⟨w.heap.size,2,none⟩=some (.slice a2 k c2))
   refine hK.out _ _ hS ?_
   clear hK K
   have HF2:=ah (bQ.out.aF hf2);clear hf2
   try simp only[Act.put,aP,aQ,aO]
   refine aT 7 10 rfl rfl (v:=?_) (.inl ⟨by rfl,?_⟩) ?_
   rotate_left 1
   ·(intro w hSw;(try dsimp only at hSw);go_simp;(try with_reducible rfl))
   refine aT 8 11 rfl rfl (v:=?_) (.inl ⟨by rfl,?_⟩) ?_
   rotate_left 1
   ·(intro w hSw;(try dsimp only at hSw);go_simp;(try with_reducible rfl))
   try simp only[Act.put,aP,aQ,aO]
   refine kT 9 12 rfl rfl ?_
   refine kT 10 13 rfl rfl ?_
   try simp only[Act.put,aP,aQ,aO]
   refine kT 11 14 rfl rfl ?_
   refine kT 12 15 rfl rfl ?_
   try simp only[Act.put,aP,aQ,aO]
   refine kT 13 16 rfl rfl ?_
   refine kT 14 17 rfl rfl ?_
   try simp only[Act.put,aP,aQ,aO]
   refine aT 15 18 rfl rfl (v:=?_) (.inl ⟨by rfl,?_⟩) ?_
   rotate_left 1
   ·(intro w hSw;(try dsimp only at hSw);go_simp;(try with_reducible rfl))
   try simp only[Act.put,aP,aQ,aO]
   refine iK (by kernel_rfl) (by kernel_rfl) rfl (fun K hK=>?_)
   go_simp
   refine hK.out _ _ ?_
   clear hK K hS
   go_wp2
   go_ret
   exact⟨rfl,HF2.out⟩
open Go.RowKit
structure pW (w:World) (v:Value) (qs:List aU):Prop where
 rd:Rd w v qs.length (qs.flatMap aU.cells)
 each:∀q∈qs,eu (fun _=>True) w q.ev q.kv q.cv q.es q.ks q.c∧iE q.es q.ks∧g_ q.c∧q.c.length≤140737488351232
theorem pW.aN {w w':World} {v:Value} {qs:List aU} (h:pW w v qs) (f:aj au w w'):pW w' v qs:=⟨h.rd.aN f,fun q hq=>⟨(h.each q hq).1.aN f,(h.each q hq).2⟩⟩
def ng (q:aU):Bool:=decide (0≤kZ q.es q.ks 30 8)&&decide ((q.c.length:Int)≤30)
noncomputable def oD (q:aU):Bool:=tf (fG q.es q.ks q.c)&&decide (q.es.length=0)
theorem MP {q:aU} (h:ng q=true):sizeT q.es q.ks≤30∧q.c.length≤30:=by
 unfold ng at h
 rw[Bool.and_eq_true,decide_eq_true_eq,decide_eq_true_eq]at h
 have:=Wx h.1
 omega
theorem MQ {l:List aU} {p:aU→Bool} (h:∀j,j<l.length→p (l.getD j default)=true):l.all p=true:=List.all_eq_true.2 fun q hq=>by
 obtain⟨k,hk,rfl⟩:=List.getElem_of_mem hq
 have:=h k hk
 rwa [getD_at _ hk]at this
theorem MR {l:List aU} {p:aU→Bool} {j:Nat} (hj:j<l.length) (h:p (l.getD j default)=false):l.all p=false:=by
 cases ha:l.all p with
 |false=>rfl
 |true=>have:=List.all_eq_true.1 ha _ (getD_mem default hj);rw[h]at this;cases this
theorem WI (qs:List aU) (w:World) (v:Value) (h:pW w v qs) (hl:qs.length≤1000):Calls Tryz.prog 12 #[v] w fun e w'=>e= .returned (.bool (qs.all ng))∧aj au w w':=by
 have HR:=ah (fun W (f:aj au w W)=>h.aN f)
 have HL:=ah hl
 have yF:=ah (fun hx=>MQ (l:=qs) (p:=ng) hx)
 have jm:=ah (fun j hj hx=>MR (l:=qs) (p:=ng) (j:=j) hj hx)
 obtain⟨a,cp,rfl⟩:=h.rd.sl
 clear h hl
 generalize qs.all ng=B at*
 obtain⟨m,hm⟩:∃m,m=qs.length:=⟨_,rfl⟩
 rw[←hm]
 have HM:=ah hm;clear hm
 have hm1:m≤1000:=by rw[HM.out];exact HL.out
 go_enter Tryz.func12,Tryz.ntmps12
 go_wp2
 go_loopw [6] (fun iv W=>∃k:Nat,k≤m∧iv= .int .i64 k∧(∀j,j<k→ng (qs.getD j default)=true)∧aj au w W) (fun iv _=>m-(intOf iv).toNat)
 case atStart=>exact⟨0,Nat.zero_le _,rfl,fun j hj=>by omega,aj.refl _ _⟩
 case round=>
  obtain⟨k,hk,rfl,hall,hf⟩:=hrel
  have og:=ah hall;clear hall
  have HF:=ah hf;clear hf
  by_cases hlt:k<m
  ·have hkl:k<qs.length:=by rw[←HM.out];exact hlt
   have hr:=HR.out _ HF.out
   obtain⟨hq1,hq2,hq3,hq4⟩:=hr.each _ (getD_mem default hkl)
   obtain⟨g0,g1,g2⟩:=rQ qs k hkl
   have hrd:=hr.rd
   rw[←HM.out]at hrd
   rcases Rd.shape hrd with⟨ad,he,h0⟩|⟨p,off,cc,he,hmx⟩
   ·omega
   injection he with e1 e2 e3
   subst e1 e3
   clear e2
   have hsm:=WG _ _ _ _ 30 wr _ _ _ hq1 hq2 hq4 (by decide) (by decide)
   have lC:=ah (fun(hx:ng (qs.getD k default)=true) j (hj:j<k+1)=>(show ng (qs.getD j default)=true from by
    rcases Nat.lt_or_ge j k with h1|h1
    ·exact og.out j h1
    ·obtain rfl:j=k:=by omega
     exact hx))
   have lH:=ah (jm.out k hkl)
   unfold ng at lC lH
   obtain⟨d0,k0,d1,k1,d2,k2,s0,s1,s2⟩:=hq1.shape
   rw[s0,s1,s2]at hsm
   rw[s0]at g0
   rw[s1]at g1
   rw[s2]at g2
   have y0:wr.cell? ⟨p,off+k*3,none⟩=_:=hrd.cell _ _ g0
   have y1:wr.cell? ⟨p,off+k*3+1,none⟩=_:=hrd.cell (k*3+1) _ g1
   have y2:wr.cell? ⟨p,off+k*3+2,none⟩=_:=hrd.cell (k*3+2) _ g2
   have lS:=ah hsm
   clear hsm hr hq1 hq2 hq3 hq4 g0 g1 g2 s0 s1 s2 hrd hkl jm yF
   generalize (decide (0≤kZ (qs.getD k default).es (qs.getD k default).ks 30 8)&&decide (((qs.getD k default).c.length:Int)≤30))=bb at*
   generalize (qs.getD k default).es.length=n0 at*
   generalize (qs.getD k default).ks.len=n1 at*
   generalize (qs.getD k default).c.length=n2 at*
   have hki:(k:Int)<(m:Int):=by omega
   cases bb with
   |true=>
    go_wp2_with(go_at_call 30;refine lS.out.mono ?_;rintro e w1 ⟨rfl,hw1⟩;have HW1:=ah (HF.out.aF hw1);clear hw1)
    go_roundw
    case rel=>exact⟨k+1,by omega,by go_num,lC.out (by simp),HW1.out⟩
    case measure=>simp[intOf];omega
   |false=>
    go_wp2_with(go_at_call 30;refine lS.out.mono ?_;rintro e w1 ⟨rfl,hw1⟩;have HW1:=ah (HF.out.aF hw1);clear hw1)
    go_ret
    exact⟨by rw[lH.out (by simp)];rfl,HW1.out⟩
  ·obtain rfl:k=m:=by omega
   have HB:=ah (yF.out fun j hj=>og.out j (by rw[HM.out];exact hj))
   go_wp2
   go_ret
   exact⟨by rw[HB.out];rfl,HF.out⟩
theorem WJ (qs:List aU) (w:World) (v:Value) (h:pW w v qs) (hl:qs.length≤1000) (hok:∀q∈qs,jB q.es q.ks q.c):Calls Tryz.prog 13 #[v] w fun e w'=>e= .returned (.bool (qs.all oD))∧aj au w w':=by
 have HR:=ah (fun W (f:aj au w W)=>h.aN f)
 have HL:=ah hl
 have dQ:=ah hok
 have yF:=ah (fun hx=>MQ (l:=qs) (p:=oD) hx)
 have jm:=ah (fun j hj hx=>MR (l:=qs) (p:=oD) (j:=j) hj hx)
 obtain⟨a,cp,rfl⟩:=h.rd.sl
 clear h hl hok
 generalize qs.all oD=B at*
 obtain⟨m,hm⟩:∃m,m=qs.length:=⟨_,rfl⟩
 rw[←hm]
 have HM:=ah hm;clear hm
 have hm1:m≤1000:=by rw[HM.out];exact HL.out
 go_enter Tryz.func13,Tryz.ntmps13
 go_wp2
 go_loopw [6] (fun iv W=>∃k:Nat,k≤m∧iv= .int .i64 k∧(∀j,j<k→oD (qs.getD j default)=true)∧aj au w W) (fun iv _=>m-(intOf iv).toNat)
 case atStart=>exact⟨0,Nat.zero_le _,rfl,fun j hj=>by omega,aj.refl _ _⟩
 case round=>
  obtain⟨k,hk,rfl,hall,hf⟩:=hrel
  have og:=ah hall;clear hall
  have HF:=ah hf;clear hf
  by_cases hlt:k<m
  ·have hkl:k<qs.length:=by rw[←HM.out];exact hlt
   have hr:=HR.out _ HF.out
   obtain⟨hq1,hq2,hq3,hq4⟩:=hr.each _ (getD_mem default hkl)
   obtain⟨g0,g1,g2⟩:=rQ qs k hkl
   have hrd:=hr.rd
   rw[←HM.out]at hrd
   rcases Rd.shape hrd with⟨ad,he,h0⟩|⟨p,off,cc,he,hmx⟩
   ·omega
   injection he with e1 e2 e3
   subst e1 e3
   clear e2
   have hrt:=WH _ _ _ _ wr _ _ _ hq1 (dQ.out _ (getD_mem default hkl))
   have lC:=ah (fun(hx:oD (qs.getD k default)=true) j (hj:j<k+1)=>(show oD (qs.getD j default)=true from by
    rcases Nat.lt_or_ge j k with h1|h1
    ·exact og.out j h1
    ·obtain rfl:j=k:=by omega
     exact hx))
   have lH:=ah (jm.out k hkl)
   have hne:(qs.getD k default).es.length≤2000:=by have h9:=(dQ.out _ (getD_mem default hkl)).small;unfold sizeT at h9;omega
   unfold oD at lC lH
   obtain⟨d0,k0,d1,k1,d2,k2,s0,s1,s2⟩:=hq1.shape
   rw[s0,s1,s2]at hrt
   rw[s0]at g0
   rw[s1]at g1
   rw[s2]at g2
   have FB:=ah (fun W (f:aj au wr W)=>(⟨f.cell' (hrd.cell _ _ g0) id,f.cell' (hrd.cell (k*3+1) _ g1) id,f.cell' (hrd.cell (k*3+2) _ g2) id⟩:W.cell? ⟨p,off+k*3,none⟩=some (.slice d0 (qs.getD k default).es.length k0)∧W.cell? ⟨p,off+(k*3+1),none⟩=some (.slice d1 (qs.getD k default).ks.len k1)∧W.cell? ⟨p,off+(k*3+2),none⟩=some (.slice d2 (qs.getD k default).c.length k2)))
   have jc:=ah hrt
   clear hrt hr hq1 hq2 hq3 hq4 g0 g1 g2 s0 s1 s2 hrd hkl jm yF
   generalize tf (fG (qs.getD k default).es (qs.getD k default).ks (qs.getD k default).c)=bb at*
   generalize (qs.getD k default).es.length=n0 at*
   generalize (qs.getD k default).ks.len=n1 at*
   generalize (qs.getD k default).c.length=n2 at*
   have hki:(k:Int)<(m:Int):=by omega
   obtain⟨y0,y1,y2⟩:=FB.out _ (aj.refl _ _)
   have y1:wr.cell? ⟨p,off+k*3+1,none⟩=_:=y1
   have y2:wr.cell? ⟨p,off+k*3+2,none⟩=_:=y2
   cases bb with
   |true=>
    by_cases h0:n0=0
    ·subst h0
     go_wp2_with(go_at_call 37;refine jc.out.mono ?_;rintro e w1 ⟨rfl,hw1⟩;clear y0 y1 y2;obtain⟨y0,-,-⟩:=FB.out _ hw1;have HW1:=ah (HF.out.aF hw1);clear hw1)
     go_roundw
     case rel=>exact⟨k+1,by omega,by go_num,lC.out (by simp),HW1.out⟩
     case measure=>simp[intOf];omega
    ·have hn0:(0:Int)<(n0:Int):=by omega
     go_wp2_with(go_at_call 37;refine jc.out.mono ?_;rintro e w1 ⟨rfl,hw1⟩;clear y0 y1 y2;obtain⟨y0,-,-⟩:=FB.out _ hw1;have HW1:=ah (HF.out.aF hw1);clear hw1)
     go_ret
     exact⟨by rw[lH.out (by simp[h0])];rfl,HW1.out⟩
   |false=>
    go_wp2_with(go_at_call 37;refine jc.out.mono ?_;rintro e w1 ⟨rfl,hw1⟩;have HW1:=ah (HF.out.aF hw1);clear hw1)
    go_ret
    exact⟨by rw[lH.out (by simp)];rfl,HW1.out⟩
  ·obtain rfl:k=m:=by omega
   have HB:=ah (yF.out fun j hj=>og.out j (by rw[HM.out];exact hj))
   go_wp2
   go_ret
   exact⟨by rw[HB.out];rfl,HF.out⟩
open Go.RowKit
noncomputable def fU (l:List dG):dG:=l.foldl iV eU
theorem FC (l:List dG) (t:dG):fU (l++ [t])=iV (fU l) t:=by unfold fU;rw[List.foldl_append];rfl
structure FD (t:dG):Prop where
 good:Good t
 size:kW t≤30
 len:t.2.length≤30
theorem FH (l:List dG) (h:∀t∈l,FD t) (hl:l.length≤60):∀k,k≤l.length→Good (fU (l.take k))∧kW (fU (l.take k))≤30*k∧(fU (l.take k)).2.length≤30*k
 |0,_=>⟨EG,Nat.le_refl _,Nat.le_refl _⟩
 |k+1,hk=>by
  obtain⟨h1,h2,h3⟩:=FH l h hl k (by omega)
  rw[take_succ eU (by omega),FC]
  obtain⟨g1,g2,g3⟩:=h _ (getD_mem eU (show k<l.length by omega))
  obtain⟨s1,s2⟩:=KA h1 g1
  exact⟨KC h1 g1 (by omega) (by omega),by omega,by omega⟩
structure r_ (w:World) (qs:List aU):Prop where
 each:∀q∈qs,eu (fun _=>True) w q.ev q.kv q.cv q.es q.ks q.c∧q.es=[]∧FD q.g
theorem r_.aN {w w':World} {qs:List aU} (h:r_ w qs) (f:aj au w w'):r_ w' qs:=⟨fun q hq=>⟨(h.each q hq).1.aN f,(h.each q hq).2⟩⟩
theorem r_.lit {w:World} {qs:List aU} (h:r_ w qs):∀t∈qs.map aU.g,FD t:=fun t ht=>by
 obtain⟨q,hq,rfl⟩:=List.mem_map.1 ht
 exact(h.each q hq).2.2
theorem FI (w:World) (b:Nat) (a b' c:Value):aj (fun x=>x=b) w (((w.setCell ⟨b,0,none⟩ a).setCell ⟨b,1,none⟩ b').setCell ⟨b,2,none⟩ c):=
 ((aj.setCell (S:=fun x=>x=b) w (p:=⟨b,0,none⟩) (.inl rfl) a).trans (aj.setCell (S:=fun x=>x=b) _ (p:=⟨b,1,none⟩) (.inl rfl) b') fun _ _ h=>h).trans (aj.setCell (S:=fun x=>x=b) _ (p:=⟨b,2,none⟩) (.inl rfl) c) fun _ _ h=>h
theorem FK {w:World} {b:Nat} {x y z:Value} {t:TypeId} (h:w.heap[b]?=some (.cells #[x,y,z] t (0,0))) (a b' c:Value):(((w.setCell ⟨b,0,none⟩ a).setCell ⟨b,1,none⟩ b').setCell ⟨b,2,none⟩ c).heap[b]?=some (.cells #[a,b',c] t (0,0)):=
 fF (fF (fF h 0 a) 1 b') 2 c
theorem MS (Q:Nat→Prop) (w:World):fE Q w ⟨[],eU.1,eU.2, .slice none 0 0, .slice none 0 0, .slice none 0 0⟩:=
 ⟨⟨⟨.inl ⟨none,rfl,rfl,rfl⟩,fun h=>absurd rfl h⟩,[],⟨.inl ⟨none,rfl,rfl,rfl⟩,fun h=>absurd rfl h⟩,rfl⟩, .inl ⟨none,rfl,rfl,rfl⟩,fun h=>absurd rfl h⟩
theorem WL (qs:List aU) (w:World) (v:Value) (hrd:Rd w v qs.length (qs.flatMap aU.cells)) (h:r_ w qs) (hl:qs.length≤60):
 Calls Tryz.prog 33 #[v] w fun e w'=>∃ev kv cv,e= .returned (.tuple #[.agg #[ev,kv,cv], .int .i64 0])∧fE (fun b=>w.heap.size≤b) w' ⟨[],(fU (qs.map aU.g)).1,(fU (qs.map aU.g)).2,ev,kv,cv⟩∧aj au w w':=by
 have DY:=ah (fun W (f:aj au w W)=>hrd.aN f)
 have HR:=ah (fun W (f:aj au w W)=>h.aN f)
 have HG:=ah (FH (qs.map aU.g) h.lit (by rw[List.length_map];exact hl))
 have HL:=ah hl
 obtain⟨a,cp,rfl⟩:=hrd.sl
 clear h hl hrd
 obtain⟨m,hm⟩:∃m,m=qs.length:=⟨_,rfl⟩
 rw[←hm]
 have HM:=ah hm;clear hm
 have hm1:m≤60:=by rw[HM.out];exact HL.out
 obtain⟨F,hF⟩:∃F,F=fU (qs.map aU.g):=⟨_,rfl⟩
 rw[←hF]
 have HF:=ah hF;clear hF
 have HB2:=ah ((mV w (.cells #[.slice none 0 0, .slice none 0 0, .slice none 0 0] 32) #[.slice none 0 0, .slice none 0 0, .slice none 0 0] 32))
 have HB1:=ah ((aj.alloc au (w.alloc (.cells #[.slice none 0 0, .slice none 0 0, .slice none 0 0] 32)) (.cells #[.slice none 0 0, .slice none 0 0, .slice none 0 0] 32)).blk (heap_alloc_new w (.cells #[.slice none 0 0, .slice none 0 0, .slice none 0 0] 32)) id)
 go_enter Tryz.func33,Tryz.ntmps33
 go_wp2
 go_loopw [11] (fun iv W=>∃(k:Nat) (ev kv cv:Value),k≤m∧iv= .int .i64 k∧aj au w W∧W.heap[w.heap.size]?=some (.cells #[.slice none 0 0, .slice none 0 0, .slice none 0 0] 32 (0,0))∧W.heap[w.heap.size+1]?=some (.cells #[ev,kv,cv] 32 (0,0))∧
  fE (fun b=>w.heap.size+1<b) W ⟨[],(fU ((qs.map aU.g).take k)).1,(fU ((qs.map aU.g).take k)).2,ev,kv,cv⟩) (fun iv _=>m-(intOf iv).toNat)
 case atStart=>exact⟨0,_,_,_,Nat.zero_le _,rfl,HB2.out.2.1,HB1.out,HB2.out.1,MS _ _⟩
 case round=>
  obtain⟨k,ev,kv,cv,hk,rfl,hf,hb2,hb4,hcl⟩:=hrel
  have hgk:=HG.out k (by rw[List.length_map,←HM.out];exact hk)
  have hat:∀W,aj au wr W→eu (fun b=>w.heap.size+1<b) W ev kv cv [] (fU ((qs.map aU.g).take k)).1 (fU ((qs.map aU.g).take k)).2:=fun W f=>(hcl.aN f).at_
  have oO:=ah hcl
  obtain⟨a0,c0,a1,c1,a2,c2,rfl,rfl,rfl⟩:=(hat wr (aj.refl _ _)).shape
  have gq:=ah hf
  have kK:=ah hb2
  have iO:=ah hb4
  clear hf hb2 hb4 hcl
  by_cases hlt:k<m
  ·have hkl:k<qs.length:=by rw[←HM.out];exact hlt
   obtain⟨hq1,hq2,hq3⟩:=(HR.out _ gq.out).each _ (getD_mem default hkl)
   obtain⟨g0,g1,g2⟩:=rQ qs k hkl
   have hrd:=DY.out _ gq.out
   rw[←HM.out]at hrd
   rcases Rd.shape hrd with⟨ad,he,h0⟩|⟨p,off,cc,he,hmx⟩
   ·omega
   injection he with e1 e2 e3
   subst e1 e3
   clear e2
   have HST:=ah (show fU ((qs.map aU.g).take (k+1))=iV (fU ((qs.map aU.g).take k)) (qs.getD k default).g by
    rw[take_succ eU (by rw[List.length_map];exact hkl),FC,vT hkl])
   have hb:∀W,aj au wr W→eu (fun _=>True) W (qs.getD k default).ev (qs.getD k default).kv (qs.getD k default).cv [] (qs.getD k default).ks (qs.getD k default).c:=fun W f=>hq2▸hq1.aN f
   have hsz:=KA hgk.1 hq3.good
   have hz1:=hq3.size
   have hz2:=hq3.len
   have hgd:=hq3.good
   obtain⟨d0,k0,d1,k1,d2,k2,s0,s1,s2⟩:=(hb wr (aj.refl _ _)).shape
   rw[s0]at g0
   rw[s1]at g1
   rw[s2]at g2
   rw[s0,s1,s2]at hb
   have hgd:Good ((qs.getD k default).ks,(qs.getD k default).c):=hgd
   have pG:=ah (fun W (f:aj au wr W)=>(show Calls Tryz.prog 22 #[.agg #[.slice a0 0 c0, .slice a1 (fU ((qs.map aU.g).take k)).1.len c1, .slice a2 (fU ((qs.map aU.g).take k)).2.length c2], .agg #[.slice d0 0 k0, .slice d1 (qs.getD k default).ks.len k1, .slice d2 (qs.getD k default).c.length k2]] W fun e w'=>∃ev kv cv,e= .returned (.tuple #[.agg #[ev,kv,cv], .int .i64 0])∧bC (fun b=>W.heap.size≤b) w' ev kv [] (fU ((qs.map aU.g).take (k+1))).1∧OwnAt W w' 92 3 cv (fU ((qs.map aU.g).take (k+1))).2.length (bU (fU ((qs.map aU.g).take (k+1))).2)from by
    refine(JZ _ _ [] _ _ [] _ _ W _ _ _ _ _ _ (hat W f) (hb W f) hgk.1.ok hgd.ok hgk.1.right hgd.right).mono fun e w' hp=>?_
    obtain⟨ev,kv,cv,u,he,h1,h2,h3⟩:=hp
    rw[ER]at h1
    rw[←xX h3]at h2
    rw[HST.out]
    exact⟨ev,kv,cv,he,h1,h2⟩))
   have y0:wr.cell? ⟨p,off+k*3,none⟩=_:=hrd.cell _ _ g0
   have y1:wr.cell? ⟨p,off+k*3+1,none⟩=_:=hrd.cell (k*3+1) _ g1
   have y2:wr.cell? ⟨p,off+k*3+2,none⟩=_:=hrd.cell (k*3+2) _ g2
   have z0:=aI iO.out 0 rfl
   have z1:=aI iO.out 1 rfl
   have z2:=aI iO.out 2 rfl
   have hl0:=World.block_lt_of_cell? _ _ y0
   have hl4:=lt_of_block iO.out
   have hki:(k:Int)<(m:Int):=by omega
   have jk:=ah (aj.alloc au wr (.cells #[.slice d0 0 k0, .slice d1 (qs.getD k default).ks.len k1, .slice d2 (qs.getD k default).c.length k2] 32))
   clear hgk hat hq1 hq2 hq3 g0 g1 g2 hrd hb hsz hz1 hz2 hgd s0 s1 s2 hkl
   generalize hF1:fU ((qs.map aU.g).take (k+1))=F1 at*
   have FM:=ah hF1;clear hF1
   generalize fU ((qs.map aU.g).take k)=F0 at*
   generalize (qs.getD k default).ks=WM at*
   generalize (qs.getD k default).c=ck at*
   go_upto_region 8 with(go_at_call 22;refine(pG.out _ jk.out).mono ?_;rintro e W1 ⟨mQ,gU,jL,rfl,hta,ho3⟩;obtain⟨a3,c3,rfl⟩:=hta.ents.rd.sl;obtain⟨nN,iq,-⟩:=hta.kids;obtain⟨a5,c5,rfl⟩:=iq.rd.sl;obtain⟨a6,c6,rfl⟩:=ho3.shape;have iF:=ah hta;have bJ:=ah ho3;clear iq hta ho3 y0 y1 y2 z0 z1 z2 hl0 hl4)
   have bQ:=ah ((jk.out.aF bJ.out.aJ).alloc1 (o:= .cells #[.slice a3 0 c3, .slice a5 F1.1.len c5, .slice a6 F1.2.length c6] 32))
   have XT:=ah (heap_alloc_new W1 (.cells #[.slice a3 0 c3, .slice a5 F1.1.len c5, .slice a6 F1.2.length c6] 32))
   have su:=ah (bQ.out.blk iO.out id)
   have x0:=aI su.out 0 rfl
   have x1:=aI su.out 1 rfl
   have x2:=aI su.out 2 rfl
   have e0:=bn su.out 0
   have e1:=bn su.out 1
   have e2:=bn su.out 2
   have hl4:=lt_of_block su.out
   have qm:=ah (FK su.out (.slice a3 0 c3) (.slice a5 F1.1.len c5) (.slice a6 F1.2.length c6))
   have vY:=ah (FI (W1.alloc (.cells #[.slice a3 0 c3, .slice a5 F1.1.len c5, .slice a6 F1.2.length c6] 32)) (w.heap.size+1) (.slice a3 0 c3) (.slice a5 F1.1.len c5) (.slice a6 F1.2.length c6))
   have HA1:=ah (aj.alloc au W1 (.cells #[.slice a3 0 c3, .slice a5 F1.1.len c5, .slice a6 F1.2.length c6] 32))
   go_wp2
   go_roundw
   case rel=>
    have hz:=jk.out.size
    have hl:=lt_of_block iO.out
    refine⟨k+1,_,_,_,by omega,by go_num,?_,vY.out.blk (bQ.out.blk kK.out id) (by omega),qm.out,?_⟩
    ·exact(gq.out.aF bQ.out).trans vY.out fun i hi e=>by omega
    ·have hc:fE (fun b=>(wr.alloc (.cells #[.slice d0 0 k0, .slice d1 WM.len k1, .slice d2 ck.length k2] 32)).heap.size≤b) W1 ⟨[],F1.1,F1.2, .slice a3 0 c3, .slice a5 F1.1.len c5, .slice a6 F1.2.length c6⟩:=⟨iF.out,bJ.out.rd,fun _ i hi=>bJ.out.new i hi⟩
     rw[FM.out]
     exact hc.turn (Q':=fun b=>w.heap.size+1<b) fun i hi hQ=>⟨(vY.out.block i (Nat.lt_of_lt_of_le hi HA1.out.size) (by omega)).trans (HA1.out.block i hi id),by omega⟩
   case measure=>simp[intOf];omega
  ·obtain rfl:k=m:=by omega
   have htk:(qs.map aU.g).take k=qs.map aU.g:=List.take_of_length_le (by rw[List.length_map,←HM.out];exact Nat.le_refl _)
   rw[htk,←HF.out]at oO iO
   clear htk hgk hat
   have z0:=aI iO.out 0 rfl
   have z1:=aI iO.out 1 rfl
   have z2:=aI iO.out 2 rfl
   have x0:=aI kK.out 0 rfl
   have x1:=aI kK.out 1 rfl
   have x2:=aI kK.out 2 rfl
   have e0:=bn kK.out 0
   have e1:=bn kK.out 1
   have e2:=bn kK.out 2
   have hl4:=lt_of_block iO.out
   have hl2:=lt_of_block kK.out
   have qm:=ah (FK kK.out (.slice a0 0 c0) (.slice a1 F.1.len c1) (.slice a2 F.2.length c2))
   have vY:=ah (FI wr w.heap.size (.slice a0 0 c0) (.slice a1 F.1.len c1) (.slice a2 F.2.length c2))
   go_wp2
   clear z0 z1 z2 x0 x1 x2 e0 e1 e2
   have z0:=aI qm.out 0 rfl
   have z1:=aI qm.out 1 rfl
   have z2:=aI qm.out 2 rfl
   refine bodyPost_ret (v:= .tuple #[.agg #[.slice a0 0 c0, .slice a1 F.1.len c1, .slice a2 F.2.length c2], .int .i64 0]) (by simp[results,Tryz.results33,go_sem,z0,z1,z2]) rfl ⟨_,_,_,rfl,?_,?_⟩
   ·exact oO.out.turn fun i hi hQ=>⟨vY.out.block i hi (by omega),by omega⟩
   ·exact gq.out.trans vY.out fun i hi e=>by omega
open Go.RowKit
theorem Rd.prefix_ {w:World} {p off m c:Nat} {xs:List Value} {k sz:Nat} (h:Rd w (.slice (some ⟨p,off,none⟩) m c) m xs) (hk:k≤m) (hm:0<m):Rd w (.slice (some ⟨p,off,none⟩) k c) k (xs.take (k*sz)):=by
 rcases h with⟨ad,h1,h2,h3⟩|⟨b,o,c',h1,h2,h3,h4⟩
 ·omega
 ·injection h1 with e1 e2 e3
  injection e1 with e1
  injection e1 with e4 e5
  subst e3 e4 e5
  refine .inr ⟨p,off,c,rfl,by omega,h3,fun j u hu=>h4 j u ?_⟩
  rw[List.getElem?_take]at hu
  split at hu
  ·exact hu
  ·cases hu
theorem WQ (l:List aU) (i:Nat):(l.take i).flatMap aU.cells=(l.flatMap aU.cells).take (i*3):=by
 induction l generalizing i with
 |nil=>simp
 |cons q l ih=>
  cases i with
  |zero=>simp
  |succ i=>
   rw[List.take_succ_cons,List.flatMap_cons,ih,List.flatMap_cons,show(i+1)*3=i*3+1+1+1 by omega]
   rfl
def oG (s:Int):Nat:=1+(s%4).toNat
theorem WR (s:Int):((oG s:Nat):Int)=1+s%4:=by unfold oG;omega
theorem WS (s:Int):1≤oG s∧oG s≤4:=by unfold oG;omega
theorem WT {w:World} {v:Value} {qs:List aU} (h:pW w v qs) (hs:qs.all ng=true) (hr:qs.all oD=true):r_ w qs:=⟨fun q hq=>by
 obtain⟨h1,h2,h3,h4⟩:=h.each q hq
 obtain⟨g1,g2⟩:=MP (List.all_eq_true.1 hs q hq)
 have hrb:=List.all_eq_true.1 hr q hq
 unfold oD at hrb
 rw[Bool.and_eq_true,decide_eq_true_eq]at hrb
 have he:q.es=[]:=List.eq_nil_of_length_eq_zero hrb.2
 have hc:fG q.es q.ks q.c:=by
  by_cases hc:fG q.es q.ks q.c
  ·exact hc
  ·rw[bW hc]at hrb;cases hrb.1
 rw[he]at g1 h2 hc
 exact⟨h1,he,⟨⟨h2,by show sizeT [] q.ks≤2000;omega,h3,by show q.c.length≤2000;omega⟩,hc⟩,by unfold sizeT at g1;simpa[kW,aU.g]using g1,g2⟩⟩
theorem MV {w:World} {v:Value} {qs:List aU} (h:pW w v qs) (hs:qs.all ng=true):∀q∈qs,jB q.es q.ks q.c:=fun q hq=>by
 obtain⟨h1,h2,h3,h4⟩:=h.each q hq
 obtain⟨g1,g2⟩:=MP (List.all_eq_true.1 hs q hq)
 exact⟨h2,by omega,h3,by omega⟩
theorem WU {w W:World} {q:aU} {L:Nat→Prop} (h:eu (fun _=>True) w q.ev q.kv q.cv q.es q.ks q.c) (f:aj au w W) (hL:∀k,L k→w.heap.size≤k):fE (fun k=>¬L k) W q:=by
 refine⟨h.tree.turn fun k hk _=>⟨f.block k hk id,fun hl=>by have:=hL k hl;omega⟩,Rd.aN h.ctx f,fun hx k hk hl=>?_⟩
 rcases h.ctx with⟨ad,h1,h2,h3⟩|⟨b,o,c',h1,h2,h3,h4⟩
 ·exact hx h3
 ·rw[h1]at hk
  have:b=k:=by simpa[Value.ownBlock]using hk
  subst this
  have hne:0<(bU q.c).length:=by
   rcases Nat.eq_zero_or_pos (bU q.c).length with h0|h0
   ·exact absurd (List.eq_nil_of_length_eq_zero h0) hx
   ·exact h0
  have:=World.block_lt_of_cell? _ _ (h4 0 _ (List.getElem?_eq_getElem hne))
  have h5:=hL _ hl
  have:b<w.heap.size:=this
  omega
theorem WV (qs:List aU) (s:Int) (hs:0≤s∧s≤255) (w:World) (v:Value) (h:pW w v qs) (hl:qs.length≤140737488351232):
 Calls Tryz.prog 8 #[v, .int .u8 s] w fun e w'=>e= .returned (.bool true)∧aj (fun _=>False) w w':=by
 have HA:=ah MB
 have HR:=ah (fun W (f:aj au w W)=>h.aN f)
 have HL:=ah hl
 obtain⟨a,cp,rfl⟩:=h.rd.sl
 by_cases h8:8<qs.length
 ·clear h
  generalize qs.length=m at*
  have h8:(8:Int)<(m:Int):=by omega
  go_enter Tryz.func8,Tryz.ntmps8
  go_wp2_with(first
   |(go_at_call 9;have q9:=bQ.out;clear q9;refine(HA.out _).mono ?_;rintro e w2 ⟨rfl,hf2⟩;have HF2:=ah (bQ.out.aF hf2);clear hf2)
   |(go_at_call 9;refine(HA.out _).mono ?_;rintro e w1 ⟨rfl,hf1⟩;have bQ:=ah hf1;clear hf1))
  go_ret
  exact⟨rfl,HF2.out⟩
 have WW:qs.length≤8:=by omega
 have lS:=ah (fun W (f:aj au w W)=>WI qs W _ (h.aN f) (by omega))
 cases hsm:qs.all ng with
 |false=>
  rw[hsm]at lS
  clear h
  generalize qs.length=m at*
  go_enter Tryz.func8,Tryz.ntmps8
  go_wp2_with(first
   |(go_at_call 9;have q9:=HF3.out;clear q9;refine(HA.out _).mono ?_;rintro e w2 ⟨rfl,hf2⟩;have HF2:=ah (HF3.out.aF hf2);clear hf2)
   |(go_at_call 9;refine(HA.out _).mono ?_;rintro e w1 ⟨rfl,hf1⟩;have bQ:=ah hf1;clear hf1)
   |(go_at_call 12;refine(lS.out _ bQ.out).mono ?_;rintro e w3 ⟨rfl,hf3⟩;have HF3:=ah (bQ.out.aF hf3);clear hf3))
  go_ret
  exact⟨rfl,HF2.out⟩
 |true=>
  rw[hsm]at lS
  have jc:=ah (fun W (f:aj au w W)=>WJ qs W _ (h.aN f) (by omega) (MV h hsm))
  cases hrt:qs.all oD with
  |false=>
   rw[hrt]at jc
   clear h hsm hrt
   generalize qs.length=m at*
   go_enter Tryz.func8,Tryz.ntmps8
   go_wp2_with(first
    |(go_at_call 9;have q9:=jM.out;clear q9;refine(HA.out _).mono ?_;rintro e w2 ⟨rfl,hf2⟩;have HF2:=ah (jM.out.aF hf2);clear hf2)
    |(go_at_call 9;refine(HA.out _).mono ?_;rintro e w1 ⟨rfl,hf1⟩;have bQ:=ah hf1;clear hf1)
    |(go_at_call 12;refine(lS.out _ bQ.out).mono ?_;rintro e w3 ⟨rfl,hf3⟩;have HF3:=ah (bQ.out.aF hf3);clear hf3)
    |(go_at_call 13;refine(jc.out _ HF3.out).mono ?_;rintro e w4 ⟨rfl,hf4⟩;have jM:=ah (HF3.out.aF hf4);clear hf4))
   go_ret
   exact⟨rfl,HF2.out⟩
  |true=>
   rw[hrt]at jc
   have FN:=ah (WT h hsm hrt)
   clear h hsm hrt h8
   obtain⟨m,hm⟩:∃m,m=qs.length:=⟨_,rfl⟩
   rw[←hm]at WW
   have HM:=ah hm
   rw[←hm]at jc lS⊢
   clear hm
   obtain⟨hn1,hn4⟩:=WS s
   have HN:=ah (fun W=>(show Calls Tryz.prog 14 #[.int .i64 (1+s%4)] W fun e w'=>e= .returned (.tuple #[.pointer (some ⟨W.heap.size+1,0,none⟩), .int .i64 0])∧
    cZ (newL W) w' (W.heap.size+1) (oG s) W.heap.size (.slice none 0 0) (je (oG s)) []∧(je (oG s)).map aU.g=gX (oG s) eU∧aj au W w' from by have:=LX (oG s) hn1 hn4 W;rwa [WR]at this))
   have MW:=ah (fun k hk=>FH (qs.map aU.g) FN.out.lit (by rw[List.length_map,←HM.out];omega) k hk)
   generalize oG s=n at*
   go_enter Tryz.func8,Tryz.ntmps8
   go_upto_region 4 with(first
    |(go_at_call 9;refine(HA.out _).mono ?_;rintro e w1 ⟨rfl,hf1⟩;have bQ:=ah hf1;clear hf1)
    |(go_at_call 12;refine(lS.out _ bQ.out).mono ?_;rintro e w3 ⟨rfl,hf3⟩;have HF3:=ah (bQ.out.aF hf3);clear hf3)
    |(go_at_call 13;refine(jc.out _ HF3.out).mono ?_;rintro e w4 ⟨rfl,hf4⟩;have jM:=ah (HF3.out.aF hf4);clear hf4)
    |(go_at_call 14;refine(HN.out _).mono ?_;rintro e w5 ⟨rfl,hst,hv,hf5⟩;have HST:=ah hst;have HV:=ah hv;have Fb:=ah (jM.out.aF hf5);clear hst hv hf5))
   obtain⟨b,hb⟩:∃b,b=w4.heap.size+1:=⟨_,rfl⟩
   rw[←hb]at HST⊢
   clear hb
   go_wp2
   go_loopw [40] (fun iv W=>∃(k:Nat) (L1:Nat→Prop) (vb:Nat) (sv:Value) (vs:List aU),k≤m∧iv= .int .i64 k∧aj au w W∧(∀i,L1 i→w.heap.size≤i)∧cZ L1 W b n vb sv vs []∧vs.map aU.g=gX n (fU ((qs.map aU.g).take k))) (fun iv _=>m-(intOf iv).toNat)
   case atStart=>exact⟨0,_,_,_,_,Nat.zero_le _,rfl,Fb.out,fun i hi=>by have hi:i=w4.heap.size+1:=hi;have:=jM.out.size;omega,HST.out,HV.out⟩
   case round=>
    obtain⟨k,L1,vb,sv,vs,hk,rfl,hf,hL1,hst,hv⟩:=hrel
    have HF:=ah hf
    have jK:=ah hL1
    have JI:=ah hst
    have WX:=ah hv
    clear hf hL1 hst hv
    by_cases hlt:k<m
    ·have hkl:k<qs.length:=by rw[←HM.out];exact hlt
     obtain⟨hq1,hq2,hq3⟩:=FN.out.each _ (getD_mem default hkl)
     obtain⟨g0,g1,g2⟩:=rQ qs k hkl
     have hrd:=(HR.out _ HF.out).rd
     rw[←HM.out]at hrd
     have MX:=WU hq1 HF.out jK.out
     have WY:=ah (show fU ((qs.map aU.g).take (k+1))=iV (fU ((qs.map aU.g).take k)) (qs.getD k default).g by
      rw[take_succ eU (by rw[List.length_map];exact hkl),FC,vT hkl])
     obtain⟨w0,w1',w2'⟩:=MW.out k (by rw[List.length_map];omega)
     obtain⟨x0,x1,x2⟩:=MW.out (k+1) (by rw[List.length_map];omega)
     have hz1:=hq3.size
     have hz2:=hq3.len
     have hgd:=hq3.good
     have AX:=fun W (f:aj au w W) WZ=>WL (qs.take (k+1)) W (.slice a (k+1) cp) WZ ⟨fun q hq=>(FN.out.aN f).each q (List.mem_of_mem_take hq)⟩ (by rw[List.length_take];omega)
     rw[List.map_take]at AX
     have hlen:(qs.take (k+1)).length=k+1:=by rw[List.length_take];omega
     rw[hlen,WQ]at AX
     rcases hrd with⟨ad,he,h0,_⟩|⟨p,off,cc,he,hmc,hcm,hcell⟩
     ·omega
     injection he with e1 e2 e3
     subst e1 e3
     clear e2
     have hrd:∀W,aj au w W→Rd W (.slice (some ⟨p,off,none⟩) (k+1) cp) (k+1) ((qs.flatMap aU.cells).take ((k+1)*3)):=fun W f=>by
      have:=(HR.out _ f).rd
      rw[←HM.out]at this
      exact this.prefix_ (sz:=3) hlt (by omega)
     have W_:=ah (fun W (f:aj au w W)=>AX W f (hrd W f))
     generalize yj:qs.getD k default=qb at*
     clear yj
     obtain⟨es',ks',cc',ev',kv',iQ⟩:=qb
     have hq2:es'=[]:=hq2
     subst hq2
     have hz1:dF ks'≤30:=hz1
     have hz2:cc'.length≤30:=hz2
     have hgd:Good (ks',cc'):=hgd
     have hb:eu (fun _=>True) w ev' kv' iQ [] ks' cc':=hq1
     obtain⟨d0,k0,d1,k1,d2,k2,rfl,rfl,rfl⟩:=hb.shape
     have hin:=LW JI.out (k:Int) (fU ((qs.map aU.g).take k)) w0 WX.out ks' cc' _ _ _ MX hgd Md (by decide) (by omega) (by omega)
     have hst1:fU ((qs.map aU.g).take (k+1))=iV (fU ((qs.map aU.g).take k)) (ks',cc'):=WY.out
     rw[←hst1]at hin
     have t_:=ah hin
     have MZ:=ah x0
     have y0:wr.cell? ⟨p,off+k*3,none⟩=some (.slice d0 0 k0):=hcell _ _ g0
     have y1:wr.cell? ⟨p,off+k*3+1,none⟩=some (.slice d1 ks'.len k1):=hcell (k*3+1) _ g1
     have y2:wr.cell? ⟨p,off+k*3+2,none⟩=some (.slice d2 cc'.length k2):=hcell (k*3+2) _ g2
     have hb0:=World.block_lt_of_cell? _ _ y0
     clear hst1 hin x0 x1 x2 w0 w1' w2' MX hz1 hz2 hgd hb hq1 hq3 g0 g1 g2 hrd AX hcell hlen
     generalize M_:fU ((qs.map aU.g).take (k+1))=F1 at*
     have FM:=ah M_;clear M_
     generalize fU ((qs.map aU.g).take k)=F0 at*
     have hki:(k:Int)<(m:Int):=by omega
     have hkc:(k:Int)+1≤(cp:Int):=by omega
     have hcx:(cp:Int)≤9223372036854775807:=by simp only[maxLen]at hcm;omega
     go_upto_region 12 with(first
      |(go_at_call 15;refine t_.out.mono ?_;rintro e w6 ⟨rfl,L2,Xa,Xb,Xc,Xd,ht2,hst2,Na,hv2⟩;clear y0 y1 y2 hb0;have HT2:=ah ht2;have Nb:=ah hst2;have Xe:=ah Na;have Nc:=ah hv2;have HF6:=ah (HF.out.trans ht2.aJ fun i hi e=>by have:=jK.out i e;omega);clear ht2 hst2 Na hv2)
      |(go_at_call 33;refine(W_.out _ HF6.out).mono ?_;rintro e w7 ⟨Xf,Xg,Xh,rfl,FP,jo⟩;obtain⟨a7,e7,a8,e8,a9,e9,rfl,rfl,rfl⟩:=(show eu _ w7 Xf Xg Xh [] F1.1 F1.2 from FP.at_).shape;have mY:=ah FP;have Nh:=ah jo;clear FP jo))
     have ql:=ah (fun W (f:aj au w7 W)=>LV ((Nb.out.aN Nh.out).aN f) F1 (Ak MZ.out) Nc.out)
     have iJ:=ah (fun Y Y' (f:aj au Y Y') (hS:aj au w7 Y∧Y.cell? ⟨w7.heap.size,0,none⟩=some (.slice a7 0 e7)∧Y.cell? ⟨w7.heap.size,1,none⟩=some (.slice a8 F1.1.len e8)∧Y.cell? ⟨w7.heap.size,2,none⟩=some (.slice a9 F1.2.length e9))=>
      (⟨hS.1.aF f,f.cell' hS.2.1 id,f.cell' hS.2.2.1 id,f.cell' hS.2.2.2 id⟩:aj au w7 Y'∧Y'.cell? ⟨w7.heap.size,0,none⟩=some (.slice a7 0 e7)∧Y'.cell? ⟨w7.heap.size,1,none⟩=some (.slice a8 F1.1.len e8)∧Y'.cell? ⟨w7.heap.size,2,none⟩=some (.slice a9 F1.2.length e9)))
     have ba:=heap_alloc_new w7 (.cells #[.slice a7 0 e7, .slice a8 F1.1.len e8, .slice a9 F1.2.length e9] 32)
     have lN:=iJ.out _ _ (aj.drew au _) ⟨aj.alloc au w7 _,aI ba 0 rfl,aI ba 1 rfl,aI ba 2 rfl⟩
     clear ba
     refine iY (S:=fun Y=>aj au w7 Y∧Y.cell? ⟨w7.heap.size,0,none⟩=some (.slice a7 0 e7)∧Y.cell? ⟨w7.heap.size,1,none⟩=some (.slice a8 F1.1.len e8)∧Y.cell? ⟨w7.heap.size,2,none⟩=some (.slice a9 F1.2.length e9)) 9 (by kernel_rfl) lN ?_
     clear lN
     intro hS
     generalize World.drew _=Y0 at*
     refine dZ 0 59 (v:=?_) rfl rfl (by kernel_rfl) (by rfl) (by kernel_rfl) (by kernel_rfl) (fun _ _ _ h=>h) (Or.inl ⟨by rfl,?_⟩) (by assumption) ?_
     rotate_left 1
     ·(intro w hSw;(try dsimp only at hSw);go_simp;(try with_reducible rfl))
     try simp only[Act.put,aP,aQ,aO]
     refine dZ 1 60 (v:=?_) rfl rfl (by kernel_rfl) (by rfl) (by kernel_rfl) (by kernel_rfl) (fun _ _ _ h=>h) (Or.inl ⟨by rfl,?_⟩) (by assumption) ?_
     rotate_left 1
     ·(intro w hSw;(try dsimp only at hSw);go_simp;(try with_reducible rfl))
     try simp only[Act.put,aP,aQ,aO]
     refine dZ 2 61 (v:=?_) rfl rfl (by kernel_rfl) (by rfl) (by kernel_rfl) (by kernel_rfl) (fun _ _ _ h=>h) (Or.inl ⟨by rfl,?_⟩) (by assumption) ?_
     rotate_left 1
     ·(intro w hSw;(try dsimp only at hSw);go_simp;(try with_reducible rfl))
     try simp only[Act.put,aP,aQ,aO]
     refine dZ 3 62 (v:=?_) rfl rfl (by kernel_rfl) (by rfl) (by kernel_rfl) (by kernel_rfl) (fun _ _ _ h=>h) (Or.inl ⟨by rfl,?_⟩) (by assumption) ?_
     rotate_left 1
     ·(intro w hSw;(try dsimp only at hSw);go_simp;(try with_reducible rfl))
     try simp only[Act.put,aP,aQ,aO]
     refine dZ 5 64 (v:=?_) rfl rfl (by kernel_rfl) (by rfl) (by kernel_rfl) (by kernel_rfl) (fun _ _ _ h=>h) (Or.inl ⟨by rfl,?_⟩) (by assumption) ?_
     rotate_left 1
     ·(intro w hSw;(try dsimp only at hSw);go_simp;(try with_reducible rfl))
     try simp only[Act.put,aP,aQ,aO]
     refine bP (i:=4) (by kernel_rfl) rfl (fun K hK=>?_)
     go_simp
     refine(ql.out _ hS.1).mono ?_
     rintro e Y1 ⟨Mc,XU,rfl,hc1,hf1⟩
     obtain⟨a1,c1,a2,c2,rfl,rfl⟩:=AP hc1
     have Xi:=ah hc1
     have hS1:=iJ.out _ _ hf1 hS
     refine hK.out _ _ hS1 ?_
     clear hK K hS hc1 hf1
     have hS:=hS1
     clear hS1
     try simp only[Act.put,aP,aQ,aO]
     refine bP (i:=6) (by kernel_rfl) rfl (fun K hK=>?_)
     go_simp
     refine(Fa _ _ F1.1 F1.2 _ _ _ _ _ MZ.out Xi.out _ (mY.out.aN hS.1)).mono ?_
     rintro e Y2 ⟨rfl,hf2⟩
     have hS1:=iJ.out _ _ hf2 hS
     refine hK.out _ _ hS1 ?_
     clear hK K hS hf2
     have hS:=hS1
     clear hS1
     try simp only[Act.put,aP,aQ,aO]
     refine dZ 7 66 (v:=?_) rfl rfl (by kernel_rfl) (by rfl) (by kernel_rfl) (by kernel_rfl) (fun _ _ _ h=>h) (Or.inl ⟨by rfl,?_⟩) (by assumption) ?_
     rotate_left 1
     ·(intro w hSw;(try dsimp only at hSw);go_simp;(try with_reducible rfl))
     try simp only[Act.put,aP,aQ,aO]
     refine bP (i:=8) (by kernel_rfl) rfl (fun K hK=>?_)
     go_simp
     refine hK.out _ _ hS ?_
     clear hK K
     refine EP (by kernel_rfl) ?_
     go_wp2
     go_roundw
     case rel=>
      have hr2:Xd=[]:=by have:=Xe.out;simpa using this
      subst hr2
      have hf:=Nh.out.aF hS.1
      refine⟨k+1,L2,Xa,Xb,Xc,by omega,by go_num,HF6.out.aF hf,fun i hi=>?_,Nb.out.aN hf,?_⟩
      ·rcases HT2.out.own i hi with g|g
       ·exact jK.out i g
       ·have:=HF.out.size;omega
      ·rw[Nc.out,FM.out]
     case measure=>simp[intOf];omega
    ·obtain rfl:k=m:=by omega
     go_wp2
     go_ret
     exact⟨rfl,HF.out⟩
end Go.Proofs.YtlhmbkjdfjoilaaGreat
