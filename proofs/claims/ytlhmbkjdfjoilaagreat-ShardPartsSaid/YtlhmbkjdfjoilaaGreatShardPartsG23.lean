/- Words for the law ShardParts: R9, Sh20, Sh21, Lv3. -/
import Derived.Test.YtlhmbkjdfjoilaaGreatShardPartsG0
import Derived.Test.YtlhmbkjdfjoilaaGreatShardPartsG10
import Derived.Test.YtlhmbkjdfjoilaaGreatShardPartsG14
import Derived.Test.YtlhmbkjdfjoilaaGreatShardPartsG19
import Derived.Test.YtlhmbkjdfjoilaaGreatShardPartsG20
import Derived.Test.YtlhmbkjdfjoilaaGreatShardPartsG21
import Derived.Test.YtlhmbkjdfjoilaaGreatShardPartsG22
set_option linter.unusedSimpArgs false
set_option linter.unusedVariables false
set_option maxHeartbeats 32000000
set_option maxRecDepth 1000000
namespace Go.Proofs.YtlhmbkjdfjoilaaGreat
open Go.RowKit
theorem XI (Q:Nat→Prop) (es:List aF) (ks:aH) (c:aU) (left:Int) (w:World) (ev kv cv:Value) (h:fP Q w ev kv cv es ks c) (hok:iQ es ks) (hcl:c.length≤140737488351232) (h1:left≤1000) (h2:0≤left):
 Calls Tryz.prog 30 #[.agg #[ev,kv,cv], .int .i64 left] w fun e w'=>e= .returned (.bool (decide (0≤lW es ks left 8)&&decide ((c.length:Int)≤left)))∧aj au w w':=by
 obtain⟨a0,c0,a1,c1,a2,c2,rfl,rfl,rfl⟩:=h.shape
 have HC:=ah (fun W (f:aj au w W)=>XG Q es ks left W _ _ (h.tree.aN f) hok h1 h2)
 clear h hok
 generalize c.length=k at*
 cases hb:decide (0≤lW es ks left 8)with
 |false=>
  rw[hb]at HC
  clear hb
  have bF:=ah (eG w (.slice a0 es.length c0) (.slice a1 ks.len c1) (.slice a2 k c2) 32)
  go_enter Tryz.func30,Tryz.ntmps30
  go_wp2_with(go_at_call 55;refine(HC.out _ (aj.alloc _ _ _)).mono ?_;rintro e w1 ⟨rfl,hw1⟩;obtain⟨y0,y1,y2⟩:=bF.out w1 hw1;have HW1:=ah ((aj.alloc au _ _).aG hw1);clear hw1)
  go_ret
  exact⟨rfl,HW1.out⟩
 |true=>
  rw[hb]at HC
  clear hb
  have bF:=ah (eG w (.slice a0 es.length c0) (.slice a1 ks.len c1) (.slice a2 k c2) 32)
  go_enter Tryz.func30,Tryz.ntmps30
  go_wp2_with(go_at_call 55;refine(HC.out _ (aj.alloc _ _ _)).mono ?_;rintro e w1 ⟨rfl,hw1⟩;obtain⟨y0,y1,y2⟩:=bF.out w1 hw1;have HW1:=ah ((aj.alloc au _ _).aG hw1);clear hw1)
  go_ret
  exact⟨rfl,HW1.out⟩
theorem XJ (Q:Nat→Prop) (es:List aF) (ks:aH) (c:aU) (w:World) (ev kv cv:Value) (h:fP Q w ev kv cv es ks c) (hok:jW es ks c):
 Calls Tryz.prog 37 #[.agg #[ev,kv,cv]] w fun e w'=>e= .returned (.bool (tf (f_ es ks c)))∧aj au w w':=by
 obtain⟨a0,c0,a1,c1,a2,c2,rfl,rfl,rfl⟩:=h.shape
 have HT:=ah (fun W (f:aj au w W)=>XH Q es ks W _ _ (h.tree.aN f) hok.tree)
 have HX:=ah (fun W (f:aj au w W)=>PW W _ c (Rd.aN h.ctx f) hok.fits (by have:=hok.len;omega))
 have HD:=ah (fun W (f:aj au w W) hd=>XA Q es ks W _ _ (h.tree.aN f) hok.small hd)
 have HL:=ah (fun W (f:aj au w W) vd d (hv:eY W vd d) (rd:bZ d) (ld:d.length≤8000) (rc:bZ c)=>PU W vd _ d c hv (Rd.aN h.ctx f) rd rc (by omega) (by have:=hok.len;omega))
 have bF:=ah (eG w (.slice a0 es.length c0) (.slice a1 ks.len c1) (.slice a2 c.length c2) 32)
 clear h hok
 cases hr:aX 5 es ks with
 |false=>
  rw[hr]at HT
  rw[bW fun h=>by rw[h.tree]at hr;cases hr]
  clear hr HX HD HL
  generalize es.length=n at*
  generalize ks.len=m at*
  generalize c.length=k at*
  have hfa:aj au w (w.alloc (.cells #[.slice a0 n c0, .slice a1 m c1, .slice a2 k c2] 32)):=aj.alloc _ _ _
  go_enter Tryz.func37,Tryz.ntmps37
  go_wp2_with fail
  refine iZ (S:=fun w'=>w'.cell? ⟨w.heap.size,0,none⟩=some (.slice a0 n c0)∧w'.cell? ⟨w.heap.size,1,none⟩=some (.slice a1 m c1)∧w'.cell? ⟨w.heap.size,2,none⟩=some (.slice a2 k c2)) 16 (by kernel_rfl) (bF.out _ (aj.drew _ _)) ?_
  intro hS
  have dM:=ah (hfa.sF)
  generalize (w.alloc (.cells #[.slice a0 n c0, .slice a1 m c1, .slice a2 k c2] 32)).drew=Y at*
  clear hfa
  refine aT 0 3 rfl rfl (v:=?_) (.inl ⟨by rfl,?_⟩) ?_
  rotate_left 1
  ·(intro w hSw;(try dsimp only at hSw);go_simp;(try with_reducible rfl))
  refine aT 1 4 rfl rfl (v:=?_) (.inl ⟨by rfl,?_⟩) ?_
  rotate_left 1
  ·(intro w hSw;(try dsimp only at hSw);go_simp;(try with_reducible rfl))
  try simp only[Act.put,aP,aQ,aO]
  refine bK (i:=2) (by kernel_rfl) rfl (fun K hK=>?_)
  go_simp
  refine(HT.out _ dM.out).mono ?_
  rintro e Y1 ⟨rfl,hf1⟩
  have hS:=(⟨hf1.cell' hS.1 id,hf1.cell' hS.2.1 id,hf1.cell' hS.2.2 id⟩:Y1.cell? ⟨w.heap.size,0,none⟩=some (.slice a0 n c0)∧Y1.cell? ⟨w.heap.size,1,none⟩=some (.slice a1 m c1)∧Y1.cell? ⟨w.heap.size,2,none⟩=some (.slice a2 k c2))
  refine hK.out _ _ hS ?_
  clear hK K
  have dB:=ah hf1;clear hf1
  try simp only[Act.put,aP,aQ,aO]
  refine aT 3 6 rfl rfl (v:=?_) (.inl ⟨by rfl,?_⟩) ?_
  rotate_left 1
  ·(intro w hSw;(try dsimp only at hSw);go_simp;(try with_reducible rfl))
  refine lQ 4 7 rfl rfl ?_
  try simp only[Act.put,aP,aQ,aO]
  refine lQ 5 8 rfl rfl ?_
  refine lQ 6 9 rfl rfl ?_
  try simp only[Act.put,aP,aQ,aO]
  refine aT 7 10 rfl rfl (v:=?_) (.inl ⟨by rfl,?_⟩) ?_
  rotate_left 1
  ·(intro w hSw;(try dsimp only at hSw);go_simp;(try with_reducible rfl))
  refine aT 8 11 rfl rfl (v:=?_) (.inl ⟨by rfl,?_⟩) ?_
  rotate_left 1
  ·(intro w hSw;(try dsimp only at hSw);go_simp;(try with_reducible rfl))
  try simp only[Act.put,aP,aQ,aO]
  refine lQ 9 12 rfl rfl ?_
  refine lQ 10 13 rfl rfl ?_
  try simp only[Act.put,aP,aQ,aO]
  refine lQ 11 14 rfl rfl ?_
  refine lQ 12 15 rfl rfl ?_
  try simp only[Act.put,aP,aQ,aO]
  refine lQ 13 16 rfl rfl ?_
  refine lQ 14 17 rfl rfl ?_
  try simp only[Act.put,aP,aQ,aO]
  refine aT 15 18 rfl rfl (v:=?_) (.inl ⟨by rfl,?_⟩) ?_
  rotate_left 1
  ·(intro w hSw;(try dsimp only at hSw);go_simp;(try with_reducible rfl))
  try simp only[Act.put,aP,aQ,aO]
  refine gQ (by kernel_rfl) (by kernel_rfl) rfl (fun K hK=>?_)
  go_simp
  refine hK.out _ _ ?_
  clear hK K hS
  go_wp2
  go_ret
  exact⟨rfl,dM.out.aG dB.out⟩
 |true=>
  rw[hr]at HT
  by_cases hc:bZ c
  ·rw[dD hc]at HX
   have cZ:=ah (DZ hr)
   have hpost:∀d,ng (eu es ks) d→tf (sG d c)=tf (f_ es ks c):=fun d hd=>vT ⟨fun h=>⟨hr,hc,(hd.leq cZ.out).1 h⟩,fun h=>(hd.leq cZ.out).2 h.dots⟩
   have uO:=ah hpost;clear hpost
   have yB:=ah hc;clear hc hr
   generalize tf (f_ es ks c)=y at*
   generalize es.length=n at*
   generalize ks.len=m at*
   generalize c.length=k at*
   have hfa:aj au w (w.alloc (.cells #[.slice a0 n c0, .slice a1 m c1, .slice a2 k c2] 32)):=aj.alloc _ _ _
   go_enter Tryz.func37,Tryz.ntmps37
   go_wp2_with fail
   refine iZ (S:=fun w'=>w'.cell? ⟨w.heap.size,0,none⟩=some (.slice a0 n c0)∧w'.cell? ⟨w.heap.size,1,none⟩=some (.slice a1 m c1)∧w'.cell? ⟨w.heap.size,2,none⟩=some (.slice a2 k c2)) 16 (by kernel_rfl) (bF.out _ (aj.drew _ _)) ?_
   intro hS
   have dM:=ah (hfa.sF)
   generalize (w.alloc (.cells #[.slice a0 n c0, .slice a1 m c1, .slice a2 k c2] 32)).drew=Y at*
   clear hfa
   refine aT 0 3 rfl rfl (v:=?_) (.inl ⟨by rfl,?_⟩) ?_
   rotate_left 1
   ·(intro w hSw;(try dsimp only at hSw);go_simp;(try with_reducible rfl))
   refine aT 1 4 rfl rfl (v:=?_) (.inl ⟨by rfl,?_⟩) ?_
   rotate_left 1
   ·(intro w hSw;(try dsimp only at hSw);go_simp;(try with_reducible rfl))
   try simp only[Act.put,aP,aQ,aO]
   refine bK (i:=2) (by kernel_rfl) rfl (fun K hK=>?_)
   go_simp
   refine(HT.out _ dM.out).mono ?_
   rintro e Y1 ⟨rfl,hf1⟩
   have hS:=(⟨hf1.cell' hS.1 id,hf1.cell' hS.2.1 id,hf1.cell' hS.2.2 id⟩:Y1.cell? ⟨w.heap.size,0,none⟩=some (.slice a0 n c0)∧Y1.cell? ⟨w.heap.size,1,none⟩=some (.slice a1 m c1)∧Y1.cell? ⟨w.heap.size,2,none⟩=some (.slice a2 k c2))
   refine hK.out _ _ hS ?_
   clear hK K
   have dB:=ah (dM.out.aG hf1);clear hf1
   try simp only[Act.put,aP,aQ,aO]
   refine aT 3 6 rfl rfl (v:=?_) (.inl ⟨by rfl,?_⟩) ?_
   rotate_left 1
   ·(intro w hSw;(try dsimp only at hSw);go_simp;(try with_reducible rfl))
   refine aT 4 7 rfl rfl (v:=?_) (.inl ⟨by rfl,?_⟩) ?_
   rotate_left 1
   ·(intro w hSw;(try dsimp only at hSw);go_simp;(try with_reducible rfl))
   try simp only[Act.put,aP,aQ,aO]
   refine aT 5 8 rfl rfl (v:=?_) (.inl ⟨by rfl,?_⟩) ?_
   rotate_left 1
   ·(intro w hSw;(try dsimp only at hSw);go_simp;(try with_reducible rfl))
   try simp only[Act.put,aP,aQ,aO]
   refine bK (i:=6) (by kernel_rfl) rfl (fun K hK=>?_)
   go_simp
   refine(HX.out _ dB.out).mono ?_
   rintro e Y2 ⟨rfl,hf2⟩
   have hS:=(⟨hf2.cell' hS.1 id,hf2.cell' hS.2.1 id,hf2.cell' hS.2.2 id⟩:Y2.cell? ⟨w.heap.size,0,none⟩=some (.slice a0 n c0)∧Y2.cell? ⟨w.heap.size,1,none⟩=some (.slice a1 m c1)∧Y2.cell? ⟨w.heap.size,2,none⟩=some (.slice a2 k c2))
   refine hK.out _ _ hS ?_
   clear hK K
   have HF2:=ah (dB.out.aG hf2);clear hf2
   try simp only[Act.put,aP,aQ,aO]
   refine aT 7 10 rfl rfl (v:=?_) (.inl ⟨by rfl,?_⟩) ?_
   rotate_left 1
   ·(intro w hSw;(try dsimp only at hSw);go_simp;(try with_reducible rfl))
   refine aT 8 11 rfl rfl (v:=?_) (.inl ⟨by rfl,?_⟩) ?_
   rotate_left 1
   ·(intro w hSw;(try dsimp only at hSw);go_simp;(try with_reducible rfl))
   try simp only[Act.put,aP,aQ,aO]
   refine aT 9 12 rfl rfl (v:=?_) (.inl ⟨by rfl,?_⟩) ?_
   rotate_left 1
   ·(intro w hSw;(try dsimp only at hSw);go_simp;(try with_reducible rfl))
   refine aT 10 13 rfl rfl (v:=?_) (.inl ⟨by rfl,?_⟩) ?_
   rotate_left 1
   ·(intro w hSw;(try dsimp only at hSw);go_simp;(try with_reducible rfl))
   try simp only[Act.put,aP,aQ,aO]
   refine aT 12 15 rfl rfl (v:=?_) (.inl ⟨by rfl,?_⟩) ?_
   rotate_left 1
   ·(intro w hSw;(try dsimp only at hSw);go_simp;(try with_reducible rfl))
   refine aT 13 16 rfl rfl (v:=?_) (.inl ⟨by rfl,?_⟩) ?_
   rotate_left 1
   ·(intro w hSw;(try dsimp only at hSw);go_simp;(try with_reducible rfl))
   try simp only[Act.put,aP,aQ,aO]
   refine bK (i:=11) (by kernel_rfl) rfl (fun K hK=>?_)
   go_simp
   refine(HD.out _ HF2.out cZ.out).mono ?_
   rintro e Y3 ⟨v3,d,rfl,ho3,hof,hl3⟩
   obtain⟨a3,c3,rfl⟩:=ho3.shape
   have hf3:=ho3.aI
   have hS:=(⟨hf3.cell' hS.1 id,hf3.cell' hS.2.1 id,hf3.cell' hS.2.2 id⟩:Y3.cell? ⟨w.heap.size,0,none⟩=some (.slice a0 n c0)∧Y3.cell? ⟨w.heap.size,1,none⟩=some (.slice a1 m c1)∧Y3.cell? ⟨w.heap.size,2,none⟩=some (.slice a2 k c2))
   refine hK.out _ _ hS ?_
   clear hK K
   have HF3:=ah (HF2.out.aG hf3);clear hf3
   have bJ:=ah ho3;clear ho3
   have nC:=ah hof;clear hof
   have ig:=ah hl3;clear hl3
   try simp only[Act.put,aP,aQ,aO]
   refine bK (i:=14) (by kernel_rfl) rfl (fun K hK=>?_)
   go_simp
   refine(HL.out _ HF3.out _ d bJ.out.rd nC.out.right ig.out yB.out).mono ?_
   rintro e Y4 ⟨rfl,hf4⟩
   rw[uO.out d nC.out]
   have hS:=(⟨hf4.cell' hS.1 id,hf4.cell' hS.2.1 id,hf4.cell' hS.2.2 id⟩:Y4.cell? ⟨w.heap.size,0,none⟩=some (.slice a0 n c0)∧Y4.cell? ⟨w.heap.size,1,none⟩=some (.slice a1 m c1)∧Y4.cell? ⟨w.heap.size,2,none⟩=some (.slice a2 k c2))
   refine hK.out _ _ hS ?_
   clear hK K
   have lG:=ah (HF3.out.aG hf4);clear hf4
   try simp only[Act.put,aP,aQ,aO]
   refine aT 15 18 rfl rfl (v:=?_) (.inl ⟨by rfl,?_⟩) ?_
   rotate_left 1
   ·(intro w hSw;(try dsimp only at hSw);go_simp;(try with_reducible rfl))
   try simp only[Act.put,aP,aQ,aO]
   refine gQ (by kernel_rfl) (by kernel_rfl) rfl (fun K hK=>?_)
   go_simp
   refine hK.out _ _ ?_
   clear hK K hS
   go_wp2
   go_ret
   exact⟨rfl,lG.out⟩
  ·rw[bW hc]at HX
   rw[bW fun h=>hc h.ctx]
   clear hc hr HD HL
   generalize es.length=n at*
   generalize ks.len=m at*
   generalize c.length=k at*
   have hfa:aj au w (w.alloc (.cells #[.slice a0 n c0, .slice a1 m c1, .slice a2 k c2] 32)):=aj.alloc _ _ _
   go_enter Tryz.func37,Tryz.ntmps37
   go_wp2_with fail
   refine iZ (S:=fun w'=>w'.cell? ⟨w.heap.size,0,none⟩=some (.slice a0 n c0)∧w'.cell? ⟨w.heap.size,1,none⟩=some (.slice a1 m c1)∧w'.cell? ⟨w.heap.size,2,none⟩=some (.slice a2 k c2)) 16 (by kernel_rfl) (bF.out _ (aj.drew _ _)) ?_
   intro hS
   have dM:=ah (hfa.sF)
   generalize (w.alloc (.cells #[.slice a0 n c0, .slice a1 m c1, .slice a2 k c2] 32)).drew=Y at*
   clear hfa
   refine aT 0 3 rfl rfl (v:=?_) (.inl ⟨by rfl,?_⟩) ?_
   rotate_left 1
   ·(intro w hSw;(try dsimp only at hSw);go_simp;(try with_reducible rfl))
   refine aT 1 4 rfl rfl (v:=?_) (.inl ⟨by rfl,?_⟩) ?_
   rotate_left 1
   ·(intro w hSw;(try dsimp only at hSw);go_simp;(try with_reducible rfl))
   try simp only[Act.put,aP,aQ,aO]
   refine bK (i:=2) (by kernel_rfl) rfl (fun K hK=>?_)
   go_simp
   refine(HT.out _ dM.out).mono ?_
   rintro e Y1 ⟨rfl,hf1⟩
   have hS:=(⟨hf1.cell' hS.1 id,hf1.cell' hS.2.1 id,hf1.cell' hS.2.2 id⟩:Y1.cell? ⟨w.heap.size,0,none⟩=some (.slice a0 n c0)∧Y1.cell? ⟨w.heap.size,1,none⟩=some (.slice a1 m c1)∧Y1.cell? ⟨w.heap.size,2,none⟩=some (.slice a2 k c2))
   refine hK.out _ _ hS ?_
   clear hK K
   have dB:=ah (dM.out.aG hf1);clear hf1
   try simp only[Act.put,aP,aQ,aO]
   refine aT 3 6 rfl rfl (v:=?_) (.inl ⟨by rfl,?_⟩) ?_
   rotate_left 1
   ·(intro w hSw;(try dsimp only at hSw);go_simp;(try with_reducible rfl))
   refine aT 4 7 rfl rfl (v:=?_) (.inl ⟨by rfl,?_⟩) ?_
   rotate_left 1
   ·(intro w hSw;(try dsimp only at hSw);go_simp;(try with_reducible rfl))
   try simp only[Act.put,aP,aQ,aO]
   refine aT 5 8 rfl rfl (v:=?_) (.inl ⟨by rfl,?_⟩) ?_
   rotate_left 1
   ·(intro w hSw;(try dsimp only at hSw);go_simp;(try with_reducible rfl))
   try simp only[Act.put,aP,aQ,aO]
   refine bK (i:=6) (by kernel_rfl) rfl (fun K hK=>?_)
   go_simp
   refine(HX.out _ dB.out).mono ?_
   rintro e Y2 ⟨rfl,hf2⟩
   have hS:=(⟨hf2.cell' hS.1 id,hf2.cell' hS.2.1 id,hf2.cell' hS.2.2 id⟩:Y2.cell? ⟨w.heap.size,0,none⟩=some (.slice a0 n c0)∧Y2.cell? ⟨w.heap.size,1,none⟩=some (.slice a1 m c1)∧Y2.cell? ⟨w.heap.size,2,none⟩=some (.slice a2 k c2))
   refine hK.out _ _ hS ?_
   clear hK K
   have HF2:=ah (dB.out.aG hf2);clear hf2
   try simp only[Act.put,aP,aQ,aO]
   refine aT 7 10 rfl rfl (v:=?_) (.inl ⟨by rfl,?_⟩) ?_
   rotate_left 1
   ·(intro w hSw;(try dsimp only at hSw);go_simp;(try with_reducible rfl))
   refine aT 8 11 rfl rfl (v:=?_) (.inl ⟨by rfl,?_⟩) ?_
   rotate_left 1
   ·(intro w hSw;(try dsimp only at hSw);go_simp;(try with_reducible rfl))
   try simp only[Act.put,aP,aQ,aO]
   refine lQ 9 12 rfl rfl ?_
   refine lQ 10 13 rfl rfl ?_
   try simp only[Act.put,aP,aQ,aO]
   refine lQ 11 14 rfl rfl ?_
   refine lQ 12 15 rfl rfl ?_
   try simp only[Act.put,aP,aQ,aO]
   refine lQ 13 16 rfl rfl ?_
   refine lQ 14 17 rfl rfl ?_
   try simp only[Act.put,aP,aQ,aO]
   refine aT 15 18 rfl rfl (v:=?_) (.inl ⟨by rfl,?_⟩) ?_
   rotate_left 1
   ·(intro w hSw;(try dsimp only at hSw);go_simp;(try with_reducible rfl))
   try simp only[Act.put,aP,aQ,aO]
   refine gQ (by kernel_rfl) (by kernel_rfl) rfl (fun K hK=>?_)
   go_simp
   refine hK.out _ _ ?_
   clear hK K hS
   go_wp2
   go_ret
   exact⟨rfl,HF2.out⟩
open Go.RowKit
structure uf (w:World) (v:Value) (qs:List bD):Prop where
 rd:Rd w v qs.length (qs.flatMap bD.cells)
 each:∀q∈qs,fP (fun _=>True) w q.ev q.kv q.cv q.es q.ks q.c∧iQ q.es q.ks∧gZ q.c∧q.c.length≤140737488351232
theorem uf.aN {w w':World} {v:Value} {qs:List bD} (h:uf w v qs) (f:aj au w w'):uf w' v qs:=⟨h.rd.aN f,fun q hq=>⟨(h.each q hq).1.aN f,(h.each q hq).2⟩⟩
def nU (q:bD):Bool:=decide (0≤lW q.es q.ks 30 8)&&decide ((q.c.length:Int)≤30)
noncomputable def ql (q:bD):Bool:=tf (f_ q.es q.ks q.c)&&decide (q.es.length=0)
theorem NR {q:bD} (h:nU q=true):sizeT q.es q.ks≤30∧q.c.length≤30:=by
 unfold nU at h
 rw[Bool.and_eq_true,decide_eq_true_eq,decide_eq_true_eq]at h
 have:=XD h.1
 omega
theorem NS {l:List bD} {p:bD→Bool} (h:∀j,j<l.length→p (l.getD j default)=true):l.all p=true:=List.all_eq_true.2 fun q hq=>by
 obtain⟨k,hk,rfl⟩:=List.getElem_of_mem hq
 have:=h k hk
 rwa [getD_at _ hk]at this
theorem NT {l:List bD} {p:bD→Bool} {j:Nat} (hj:j<l.length) (h:p (l.getD j default)=false):l.all p=false:=by
 cases ha:l.all p with
 |false=>rfl
 |true=>have:=List.all_eq_true.1 ha _ (getD_mem default hj);rw[h]at this;cases this
theorem XL (qs:List bD) (w:World) (v:Value) (h:uf w v qs) (hl:qs.length≤1000):Calls Tryz.prog 12 #[v] w fun e w'=>e= .returned (.bool (qs.all nU))∧aj au w w':=by
 have HR:=ah (fun W (f:aj au w W)=>h.aN f)
 have HL:=ah hl
 have zU:=ah (fun hx=>NS (l:=qs) (p:=nU) hx)
 have jM:=ah (fun j hj hx=>NT (l:=qs) (p:=nU) (j:=j) hj hx)
 obtain⟨a,cp,rfl⟩:=h.rd.sl
 clear h hl
 generalize qs.all nU=B at*
 obtain⟨m,hm⟩:∃m,m=qs.length:=⟨_,rfl⟩
 rw[←hm]
 have HM:=ah hm;clear hm
 have hm1:m≤1000:=by rw[HM.out];exact HL.out
 go_enter Tryz.func12,Tryz.ntmps12
 go_wp2
 go_loopw [6] (fun iv W=>∃k:Nat,k≤m∧iv= .int .i64 k∧(∀j,j<k→nU (qs.getD j default)=true)∧aj au w W) (fun iv _=>m-(intOf iv).toNat)
 case atStart=>exact⟨0,Nat.zero_le _,rfl,fun j hj=>by omega,aj.refl _ _⟩
 case round=>
  obtain⟨k,hk,rfl,hall,hf⟩:=hrel
  have pz:=ah hall;clear hall
  have HF:=ah hf;clear hf
  by_cases hlt:k<m
  ·have hkl:k<qs.length:=by rw[←HM.out];exact hlt
   have hr:=HR.out _ HF.out
   obtain⟨hq1,hq2,hq3,hq4⟩:=hr.each _ (getD_mem default hkl)
   obtain⟨g0,g1,g2⟩:=zB qs k hkl
   have hrd:=hr.rd
   rw[←HM.out]at hrd
   rcases Rd.shape hrd with⟨ad,he,h0⟩|⟨p,off,cc,he,hmx⟩
   ·omega
   injection he with e1 e2 e3
   subst e1 e3
   clear e2
   have hsm:=XI _ _ _ _ 30 wr _ _ _ hq1 hq2 hq4 (by decide) (by decide)
   have lZ:=ah (fun(hx:nU (qs.getD k default)=true) j (hj:j<k+1)=>(show nU (qs.getD j default)=true from by
    rcases Nat.lt_or_ge j k with h1|h1
    ·exact pz.out j h1
    ·obtain rfl:j=k:=by omega
     exact hx))
   have kH:=ah (jM.out k hkl)
   unfold nU at lZ kH
   obtain⟨d0,k0,d1,k1,d2,k2,s0,s1,s2⟩:=hq1.shape
   rw[s0,s1,s2]at hsm
   rw[s0]at g0
   rw[s1]at g1
   rw[s2]at g2
   have y0:wr.cell? ⟨p,off+k*3,none⟩=_:=hrd.cell _ _ g0
   have y1:wr.cell? ⟨p,off+k*3+1,none⟩=_:=hrd.cell (k*3+1) _ g1
   have y2:wr.cell? ⟨p,off+k*3+2,none⟩=_:=hrd.cell (k*3+2) _ g2
   have nT:=ah hsm
   clear hsm hr hq1 hq2 hq3 hq4 g0 g1 g2 s0 s1 s2 hrd hkl jM zU
   generalize (decide (0≤lW (qs.getD k default).es (qs.getD k default).ks 30 8)&&decide (((qs.getD k default).c.length:Int)≤30))=bb at*
   generalize (qs.getD k default).es.length=n0 at*
   generalize (qs.getD k default).ks.len=n1 at*
   generalize (qs.getD k default).c.length=n2 at*
   have hki:(k:Int)<(m:Int):=by omega
   cases bb with
   |true=>
    go_wp2_with(go_at_call 30;refine nT.out.mono ?_;rintro e w1 ⟨rfl,hw1⟩;have HW1:=ah (HF.out.aG hw1);clear hw1)
    go_roundw
    case rel=>exact⟨k+1,by omega,by go_num,lZ.out (by simp),HW1.out⟩
    case measure=>simp[intOf];omega
   |false=>
    go_wp2_with(go_at_call 30;refine nT.out.mono ?_;rintro e w1 ⟨rfl,hw1⟩;have HW1:=ah (HF.out.aG hw1);clear hw1)
    go_ret
    exact⟨by rw[kH.out (by simp)];rfl,HW1.out⟩
  ·obtain rfl:k=m:=by omega
   have HB:=ah (zU.out fun j hj=>pz.out j (by rw[HM.out];exact hj))
   go_wp2
   go_ret
   exact⟨by rw[HB.out];rfl,HF.out⟩
theorem XM (qs:List bD) (w:World) (v:Value) (h:uf w v qs) (hl:qs.length≤1000) (hok:∀q∈qs,jW q.es q.ks q.c):Calls Tryz.prog 13 #[v] w fun e w'=>e= .returned (.bool (qs.all ql))∧aj au w w':=by
 have HR:=ah (fun W (f:aj au w W)=>h.aN f)
 have HL:=ah hl
 have cZ:=ah hok
 have zU:=ah (fun hx=>NS (l:=qs) (p:=ql) hx)
 have jM:=ah (fun j hj hx=>NT (l:=qs) (p:=ql) (j:=j) hj hx)
 obtain⟨a,cp,rfl⟩:=h.rd.sl
 clear h hl hok
 generalize qs.all ql=B at*
 obtain⟨m,hm⟩:∃m,m=qs.length:=⟨_,rfl⟩
 rw[←hm]
 have HM:=ah hm;clear hm
 have hm1:m≤1000:=by rw[HM.out];exact HL.out
 go_enter Tryz.func13,Tryz.ntmps13
 go_wp2
 go_loopw [6] (fun iv W=>∃k:Nat,k≤m∧iv= .int .i64 k∧(∀j,j<k→ql (qs.getD j default)=true)∧aj au w W) (fun iv _=>m-(intOf iv).toNat)
 case atStart=>exact⟨0,Nat.zero_le _,rfl,fun j hj=>by omega,aj.refl _ _⟩
 case round=>
  obtain⟨k,hk,rfl,hall,hf⟩:=hrel
  have pz:=ah hall;clear hall
  have HF:=ah hf;clear hf
  by_cases hlt:k<m
  ·have hkl:k<qs.length:=by rw[←HM.out];exact hlt
   have hr:=HR.out _ HF.out
   obtain⟨hq1,hq2,hq3,hq4⟩:=hr.each _ (getD_mem default hkl)
   obtain⟨g0,g1,g2⟩:=zB qs k hkl
   have hrd:=hr.rd
   rw[←HM.out]at hrd
   rcases Rd.shape hrd with⟨ad,he,h0⟩|⟨p,off,cc,he,hmx⟩
   ·omega
   injection he with e1 e2 e3
   subst e1 e3
   clear e2
   have hrt:=XJ _ _ _ _ wr _ _ _ hq1 (cZ.out _ (getD_mem default hkl))
   have lZ:=ah (fun(hx:ql (qs.getD k default)=true) j (hj:j<k+1)=>(show ql (qs.getD j default)=true from by
    rcases Nat.lt_or_ge j k with h1|h1
    ·exact pz.out j h1
    ·obtain rfl:j=k:=by omega
     exact hx))
   have kH:=ah (jM.out k hkl)
   have hne:(qs.getD k default).es.length≤2000:=by have h9:=(cZ.out _ (getD_mem default hkl)).small;unfold sizeT at h9;omega
   unfold ql at lZ kH
   obtain⟨d0,k0,d1,k1,d2,k2,s0,s1,s2⟩:=hq1.shape
   rw[s0,s1,s2]at hrt
   rw[s0]at g0
   rw[s1]at g1
   rw[s2]at g2
   have Hg:=ah (fun W (f:aj au wr W)=>(⟨f.cell' (hrd.cell _ _ g0) id,f.cell' (hrd.cell (k*3+1) _ g1) id,f.cell' (hrd.cell (k*3+2) _ g2) id⟩:W.cell? ⟨p,off+k*3,none⟩=some (.slice d0 (qs.getD k default).es.length k0)∧W.cell? ⟨p,off+(k*3+1),none⟩=some (.slice d1 (qs.getD k default).ks.len k1)∧W.cell? ⟨p,off+(k*3+2),none⟩=some (.slice d2 (qs.getD k default).c.length k2)))
   have jJ:=ah hrt
   clear hrt hr hq1 hq2 hq3 hq4 g0 g1 g2 s0 s1 s2 hrd hkl jM zU
   generalize tf (f_ (qs.getD k default).es (qs.getD k default).ks (qs.getD k default).c)=bb at*
   generalize (qs.getD k default).es.length=n0 at*
   generalize (qs.getD k default).ks.len=n1 at*
   generalize (qs.getD k default).c.length=n2 at*
   have hki:(k:Int)<(m:Int):=by omega
   obtain⟨y0,y1,y2⟩:=Hg.out _ (aj.refl _ _)
   have y1:wr.cell? ⟨p,off+k*3+1,none⟩=_:=y1
   have y2:wr.cell? ⟨p,off+k*3+2,none⟩=_:=y2
   cases bb with
   |true=>
    by_cases h0:n0=0
    ·subst h0
     go_wp2_with(go_at_call 37;refine jJ.out.mono ?_;rintro e w1 ⟨rfl,hw1⟩;clear y0 y1 y2;obtain⟨y0,-,-⟩:=Hg.out _ hw1;have HW1:=ah (HF.out.aG hw1);clear hw1)
     go_roundw
     case rel=>exact⟨k+1,by omega,by go_num,lZ.out (by simp),HW1.out⟩
     case measure=>simp[intOf];omega
    ·have hn0:(0:Int)<(n0:Int):=by omega
     go_wp2_with(go_at_call 37;refine jJ.out.mono ?_;rintro e w1 ⟨rfl,hw1⟩;clear y0 y1 y2;obtain⟨y0,-,-⟩:=Hg.out _ hw1;have HW1:=ah (HF.out.aG hw1);clear hw1)
     go_ret
     exact⟨by rw[kH.out (by simp[h0])];rfl,HW1.out⟩
   |false=>
    go_wp2_with(go_at_call 37;refine jJ.out.mono ?_;rintro e w1 ⟨rfl,hw1⟩;have HW1:=ah (HF.out.aG hw1);clear hw1)
    go_ret
    exact⟨by rw[kH.out (by simp)];rfl,HW1.out⟩
  ·obtain rfl:k=m:=by omega
   have HB:=ah (zU.out fun j hj=>pz.out j (by rw[HM.out];exact hj))
   go_wp2
   go_ret
   exact⟨by rw[HB.out];rfl,HF.out⟩
open Go.RowKit
structure NU (t:dO):Prop where
 good:Good t
 size:qL t≤30
 len:t.2.length≤30
structure XO (w:World) (qs:List bD):Prop where
 each:∀q∈qs,fP (fun _=>True) w q.ev q.kv q.cv q.es q.ks q.c∧q.es=[]∧NU q.g
theorem XP (w:World) (b:Nat) (a b' c:Value):aj (fun x=>x=b) w (((w.setCell ⟨b,0,none⟩ a).setCell ⟨b,1,none⟩ b').setCell ⟨b,2,none⟩ c):=
 ((aj.setCell (S:=fun x=>x=b) w (p:=⟨b,0,none⟩) (.inl rfl) a).trans (aj.setCell (S:=fun x=>x=b) _ (p:=⟨b,1,none⟩) (.inl rfl) b') fun _ _ h=>h).trans (aj.setCell (S:=fun x=>x=b) _ (p:=⟨b,2,none⟩) (.inl rfl) c) fun _ _ h=>h
open Go.RowKit
def CP (w:World) (p:Addr):Nat:=match w.cell? p with
 |some (.slice _ n _)=>n
 |_=>0
theorem CQ {w:World} {p:Addr} {a:Option Addr} {n c:Nat} (h:w.cell? p=some (.slice a n c)):CP w p=n:=by unfold CP;rw[h]
theorem XQ (w:World) (b:Nat) (x0 x1 x2 x3:Value):aj (fun x=>x=b) w ((((w.setCell ⟨b,0,none⟩ x0).setCell ⟨b,1,none⟩ x1).setCell ⟨b,2,none⟩ x2).setCell ⟨b,3,none⟩ x3):=
 (XP w b x0 x1 x2).trans (aj.setCell (S:=fun x=>x=b) _ (p:=⟨b,3,none⟩) (.inl rfl) x3) fun _ _ h=>h
theorem XR {w:World} {b:Nat} {y0 y1 y2 y3:Value} {t:TypeId} (h:w.heap[b]?=some (.cells #[y0,y1,y2,y3] t (0,0))) (x0 x1 x2 x3:Value):((((w.setCell ⟨b,0,none⟩ x0).setCell ⟨b,1,none⟩ x1).setCell ⟨b,2,none⟩ x2).setCell ⟨b,3,none⟩ x3).heap[b]?=some (.cells #[x0,x1,x2,x3] t (0,0)):=
 eP (eP (eP (eP h 0 x0) 1 x1) 2 x2) 3 x3
theorem XT:(Tryz.prog.info? 100).map (fun i=>(i.zero,i.size,i.bytes))=some (some (.agg #[.int .i64 0, .int .i64 0, .string ByteArray.empty, .int .i64 0]),4,40):=by kernel_rfl
structure qm (w W:World) (ev kv:Value) (es:List aF):Prop where
 aI:aj au w W
 jV:W.heap[w.heap.size]?=some (.cells #[.slice none 0 0, .slice none 0 0] 28 (0,0))
 eG:W.heap[w.heap.size+1]?=some (.cells #[ev,kv] 28 (0,0))
 row:W.ownsRow 0 100 4 ev es.length (fJ es)
 new:uj w ev
theorem qm.aN {w W W':World} {ev kv:Value} {es:List aF} (h:qm w W ev kv es) (f:aj au W W'):qm w W' ev kv es:=
 ⟨h.aI.aG f,f.blk h.jV id,f.blk h.eG id,f.owns h.row (fun _ _ h=>h),h.new⟩
theorem qm.add {w W W2:World} {ev ev' kv:Value} {es:List aF} {e:aF} (h:qm w W ev kv es) (f:aj (bY ev) W W2) (fr:jk W ev ev') (own:W2.ownsRow 0 100 4 ev' (es.length+1) (fJ es++e.cells)):
 W2.heap[w.heap.size+1]?=some (.cells #[ev,kv] 28 (0,0))∧qm w (W2.setCell ⟨w.heap.size+1,0,none⟩ ev') ev' kv (es++ [e]):=by
 have nv:∀ {k o t},W.heap[k]?=some (.cells o t (0,0))→t≠100→¬bY ev k:=fun hk ht s=>by
  obtain⟨cur,h2⟩:=iY h.row s
  exact fU hk h2 ht rfl
 have g2:=f.blk h.jV (nv h.jV (by decide))
 have g3:=f.blk h.eG (nv h.eG (by decide))
 have f3:aj (fun k=>k=w.heap.size+1) W2 (W2.setCell ⟨w.heap.size+1,0,none⟩ ev'):=aj.setCell (S:=fun k=>k=w.heap.size+1) W2 (p:=⟨w.heap.size+1,0,none⟩) (.inl rfl) _
 refine⟨g3,⟨(h.aI.trans f fun k hk s=>by have:=h.new k s;omega).trans f3 fun k hk e=>by omega,f3.blk g2 (by omega),eP g3 0 ev',?_,fun k hk=>?_⟩⟩
 ·rw[List.length_append,Ar]
  refine f3.owns (by simpa[fJ]using own) fun k hk e=>?_
  obtain⟨cur,h2⟩:=iY own hk
  exact fU h2 g3 (by decide) e
 ·rcases fr k hk with s|s
  ·exact h.new k s
  ·have:=h.aI.size;omega
theorem qm.NV {w W W':World} {ev kv:Value} {es:List aF} {b:Nat} (h:qm w W ev kv es) (f:aj (fun k=>k=b) W W') (hb:w.heap.size+1<b) (he:∀i,ev.ownBlock=some i→i≠b):qm w W' ev kv es:=
 ⟨h.aI.trans f fun i hi e=>by omega,f.blk h.jV (by omega),f.blk h.eG (by omega),f.owns h.row he,h.new⟩
def oJ (e:aF):Option aF→Bool
 |none=>true
 |some y=>ltD e y
def xP (es:List aF) (j:Nat) (b:Option aF) (x:Lf):Bool:=mO es j x&&oJ x.2 b
theorem XU (es:List aF) (j:Nat) (b:Option aF) (x:Lf):xw (mO es j) b x=if xP es j b x=true then some x.2 else b:=by
 unfold xw xP
 cases hc:mO es j x with
 |false=>simp
 |true=>
  cases b with
  |none=>simp[oJ]
  |some y=>simp[oJ]
structure qO (w W:World) (ev kv:Value) (es:List aF) (lk:List aY):Prop where
 base:qm w W ev kv es
 vG:W.ownsRow 0 52 3 kv lk.length (lk.flatMap aY.cells)
 knew:uj w kv
 each:∀q∈lk,q.shaped∧bg (fun k=>w.heap.size+1<k∧kv.ownBlock≠some k) W q.ev q.kv q.es q.sub
theorem qO.aN {w W W':World} {ev kv:Value} {es:List aF} {lk:List aY} (h:qO w W ev kv es lk) (f:aj au W W'):qO w W' ev kv es lk:=
 ⟨h.base.aN f,f.owns h.vG (fun _ _ h=>h),h.knew,fun q hq=>⟨(h.each q hq).1,(h.each q hq).2.aN f⟩⟩
theorem qO.add {w W W2:World} {ev kv kv':Value} {es:List aF} {lk:List aY} {q:aY} (h:qO w W ev kv es lk) (f:aj (bY kv) W W2) (fr:jk W kv kv') (own:W2.ownsRow 0 52 3 kv' (lk.length+1) (lk.flatMap aY.cells++q.cells))
 (hk:q.shaped∧bg (fun k=>w.heap.size+1<k∧kv.ownBlock≠some k) W q.ev q.kv q.es q.sub):
 W2.heap[w.heap.size+1]?=some (.cells #[ev,kv] 28 (0,0))∧qO w (W2.setCell ⟨w.heap.size+1,1,none⟩ kv') ev kv' es (lk++ [q]):=by
 have nv:∀ {k o t},W.heap[k]?=some (.cells o t (0,0))→t≠52→¬bY kv k:=fun hk ht s=>by
  obtain⟨cur,h2⟩:=iY h.vG s
  exact fU hk h2 ht rfl
 have g2:=f.blk h.base.jV (nv h.base.jV (by decide))
 have g3:=f.blk h.base.eG (nv h.base.eG (by decide))
 have f3:aj (fun k=>k=w.heap.size+1) W2 (W2.setCell ⟨w.heap.size+1,1,none⟩ kv'):=aj.setCell (S:=fun k=>k=w.heap.size+1) W2 (p:=⟨w.heap.size+1,1,none⟩) (.inl rfl) _
 have e3:=eP g3 1 kv'
 have hz:=f.size
 generalize W2.setCell ⟨w.heap.size+1,1,none⟩ kv'=W3 at*
 have ft:∀k,k<W.heap.size→(w.heap.size+1<k∧kv.ownBlock≠some k)→W3.heap[k]?=W.heap[k]?∧(w.heap.size+1<k∧kv'.ownBlock≠some k):=fun k hk hq=>
  ⟨(f3.block k (by omega) (by omega)).trans (f.block k hk hq.2),hq.1,fun e=>by
    rcases fr k e with s|s
    ·exact hq.2 s
    ·omega⟩
 refine⟨g3,⟨⟨(h.base.aI.trans f fun k hk s=>by have:=h.knew k s;omega).trans f3 fun k hk e=>by omega,f3.blk g2 (by omega),e3,?_,h.base.new⟩,?_,fun k hk=>?_,fun x hx=>?_⟩⟩
 ·refine f3.owns (f.owns h.base.row fun k hk=>?_) fun k hk e=>?_
  ·obtain⟨cur,h2⟩:=iY h.base.row hk
   exact nv h2 (by decide)
  ·obtain⟨cur,h2⟩:=iY h.base.row hk
   exact fU h2 h.base.eG (by decide) e
 ·rw[List.length_append,List.flatMap_append]
  refine f3.owns (by simpa using own) fun k hk e=>?_
  obtain⟨cur,h2⟩:=iY own hk
  exact fU h2 g3 (by decide) e
 ·rcases fr k hk with s|s
  ·exact h.knew k s
  ·have:=h.base.aI.size;omega
 ·rcases List.mem_append.1 hx with hx|hx
  ·exact⟨(h.each x hx).1,(h.each x hx).2.turn ft⟩
  ·have:x=q:=by simpa using hx
   subst this
   exact⟨hk.1,hk.2.turn ft⟩
theorem NW:∀ {ks:aH} {key:ByteArray},key∈ks.keys→sizeT (ks.find key).1 (ks.find key).2+1≤cu ks
 | .nil,_,h=>by cases h
 | .cons k es sub rest,key,h=>by
   show sizeT (if k=key then(es,sub)else rest.find key).1 (if k=key then(es,sub)else rest.find key).2+1≤1+es.length+cu sub+cu rest
   by_cases e:k=key
   ·rw[if_pos e];unfold sizeT;simp only;omega
   ·rw[if_neg e]
    have:=NW (ks:=rest) ((List.mem_cons.1 h).elim (fun h=>absurd h.symm e) id)
    omega
theorem NY:∀ {ks:aH} {j:Nat} {key:ByteArray},gI ks.keys→ks.keys[j]?=some key→(eU ks)[j]?=some (key,(ks.find key).1,(ks.find key).2)
 | .nil,_,_,_,h=>by simp[aH.keys]at h
 | .cons k es sub rest,0,key,_,h=>by
   have h:k=key:=by simpa[aH.keys]using h
   subst h
   show some (k,es,sub)=some (k,(if k=k then(es,sub)else rest.find k).1,(if k=k then(es,sub)else rest.find k).2)
   rw[if_pos rfl]
 | .cons k es sub rest,j+1,key,o,h=>by
   obtain⟨o1,o2⟩:=List.pairwise_cons.1 (show(k::rest.keys).Pairwise _ from o)
   have h:rest.keys[j]?=some key:=h
   have hm:key∈rest.keys:=List.mem_of_getElem? h
   have e:k≠key:=fun e=>by subst e;have:=o1 k hm;rw[jK]at this;cases this
   have ih:=NY o2 h
   show(eU rest)[j]?=some (key,(if k=key then(es,sub)else rest.find key).1,(if k=key then(es,sub)else rest.find key).2)
   rw[if_neg e]
   exact ih
theorem NZ {a y:ByteArray} (h:bQ a y=true):(y.toList==[])=false:=by
 unfold bQ at h
 cases hy:y.toList with
 |nil=>rw[hy]at h;cases a.toList<;>simp[Op.bytesLess]at h
 |cons x l=>rfl
end Go.Proofs.YtlhmbkjdfjoilaaGreat
