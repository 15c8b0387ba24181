/- Words for the law BundleOrder: R9, BunR. -/
import Derived.Test.YtabkpccdnkjoiaaGreatBundleOrderG0
import Derived.Test.YtabkpccdnkjoiaaGreatBundleOrderG10
import Derived.Test.YtabkpccdnkjoiaaGreatBundleOrderG13
import Derived.Test.YtabkpccdnkjoiaaGreatBundleOrderG15
set_option linter.unusedSimpArgs false
set_option linter.unusedVariables false
set_option maxHeartbeats 32000000
set_option maxRecDepth 1000000
namespace Go.Proofs.YtabkpccdnkjoiaaGreat
open Go.RowKit
theorem Qo (Q:Nat→Prop) (es:List aG) (ks:aI) (c:aU) (left:Int) (w:World) (ev kv cv:Value) (h:gQ Q w ev kv cv es ks c) (hok:gG es ks) (hcl:c.length≤140737488351232) (h1:left≤1000) (h2:0≤left):
 Calls Tryz.prog 50 #[.agg #[ev,kv,cv], .int .i64 left] w fun e w'=>e= .returned (.bool (decide (0≤iU es ks left 8)&&decide ((c.length:Int)≤left)))∧aj au w w':=by
 obtain⟨a0,c0,a1,c1,a2,c2,rfl,rfl,rfl⟩:=h.shape
 have HC:=ah (fun W (f:aj au w W)=>Qm Q es ks left W _ _ (h.tree.aP f) hok h1 h2)
 clear h hok
 generalize c.length=k at*
 cases hb:decide (0≤iU es ks left 8)with
 |false=>
  rw[hb]at HC
  clear hb
  have bF:=ah (sZ w (.slice a0 es.length c0) (.slice a1 ks.len c1) (.slice a2 k c2) 34)
  go_enter Tryz.func50,Tryz.ntmps50
  go_wp2_with(go_at_call 113;refine(HC.out _ (aj.alloc _ _ _)).mono ?_;rintro e w1 ⟨rfl,hw1⟩;obtain⟨y0,y1,y2⟩:=bF.out w1 hw1;have HW1:=ah ((aj.alloc au _ _).ay hw1);clear hw1)
  go_ret
  exact⟨rfl,HW1.out⟩
 |true=>
  rw[hb]at HC
  clear hb
  have bF:=ah (sZ w (.slice a0 es.length c0) (.slice a1 ks.len c1) (.slice a2 k c2) 34)
  go_enter Tryz.func50,Tryz.ntmps50
  go_wp2_with(go_at_call 113;refine(HC.out _ (aj.alloc _ _ _)).mono ?_;rintro e w1 ⟨rfl,hw1⟩;obtain⟨y0,y1,y2⟩:=bF.out w1 hw1;have HW1:=ah ((aj.alloc au _ _).ay hw1);clear hw1)
  go_ret
  exact⟨rfl,HW1.out⟩
theorem Qp (Q:Nat→Prop) (es:List aG) (ks:aI) (c:aU) (w:World) (ev kv cv:Value) (h:gQ Q w ev kv cv es ks c) (hok:fG es ks c):
 Calls Tryz.prog 86 #[.agg #[ev,kv,cv]] w fun e w'=>e= .returned (.bool (tf (eG es ks c)))∧aj au w w':=by
 obtain⟨a0,c0,a1,c1,a2,c2,rfl,rfl,rfl⟩:=h.shape
 have HT:=ah (fun W (f:aj au w W)=>Qn Q es ks W _ _ (h.tree.aP f) hok.tree)
 have HX:=ah (fun W (f:aj au w W)=>KU W _ c (Rd.aP h.ctx f) hok.fits (by have:=hok.len;omega))
 have HD:=ah (fun W (f:aj au w W) hd=>IJ Q es ks W _ _ (h.tree.aP f) hok.small hd)
 have HL:=ah (fun W (f:aj au w W) vd d (hv:dL W vd d) (rd:bH d) (ld:d.length≤8000) (rc:bH c)=>EZ W vd _ d c hv (Rd.aP h.ctx f) rd rc (by omega) (by have:=hok.len;omega))
 have bF:=ah (sZ w (.slice a0 es.length c0) (.slice a1 ks.len c1) (.slice a2 c.length c2) 34)
 clear h hok
 cases hr:aX 5 es ks with
 |false=>
  rw[hr]at HT
  rw[bn fun h=>by rw[h.tree]at hr;cases hr]
  clear hr HX HD HL
  generalize es.length=n at*
  generalize ks.len=m at*
  generalize c.length=k at*
  have hfa:aj au w (w.alloc (.cells #[.slice a0 n c0, .slice a1 m c1, .slice a2 k c2] 34)):=aj.alloc _ _ _
  go_enter Tryz.func86,Tryz.ntmps86
  go_wp2_with fail
  refine gX (S:=fun w'=>w'.cell? ⟨w.heap.size,0,none⟩=some (.slice a0 n c0)∧w'.cell? ⟨w.heap.size,1,none⟩=some (.slice a1 m c1)∧w'.cell? ⟨w.heap.size,2,none⟩=some (.slice a2 k c2)) 16 (by kernel_rfl) (bF.out _ (aj.drew _ _)) ?_
  intro hS
  have gU:=ah (hfa.nZ)
  generalize (w.alloc (.cells #[.slice a0 n c0, .slice a1 m c1, .slice a2 k c2] 34)).drew=Y at*
  clear hfa
  refine aT 0 3 rfl rfl (v:=?_) (.inl ⟨by rfl,?_⟩) ?_
  rotate_left 1
  ·(intro w hSw;(try dsimp only at hSw);go_simp;(try with_reducible rfl))
  refine aT 1 4 rfl rfl (v:=?_) (.inl ⟨by rfl,?_⟩) ?_
  rotate_left 1
  ·(intro w hSw;(try dsimp only at hSw);go_simp;(try with_reducible rfl))
  try simp only[Act.put,aJ,aN,aO]
  refine bD (i:=2) (by kernel_rfl) rfl (fun K hK=>?_)
  go_simp
  refine(HT.out _ gU.out).mono ?_
  rintro e Y1 ⟨rfl,hf1⟩
  have hS:=(⟨hf1.cell' hS.1 id,hf1.cell' hS.2.1 id,hf1.cell' hS.2.2 id⟩:Y1.cell? ⟨w.heap.size,0,none⟩=some (.slice a0 n c0)∧Y1.cell? ⟨w.heap.size,1,none⟩=some (.slice a1 m c1)∧Y1.cell? ⟨w.heap.size,2,none⟩=some (.slice a2 k c2))
  refine hK.out _ _ hS ?_
  clear hK K
  have dN:=ah hf1;clear hf1
  try simp only[Act.put,aJ,aN,aO]
  refine aT 3 6 rfl rfl (v:=?_) (.inl ⟨by rfl,?_⟩) ?_
  rotate_left 1
  ·(intro w hSw;(try dsimp only at hSw);go_simp;(try with_reducible rfl))
  refine b_ 4 7 rfl rfl ?_
  try simp only[Act.put,aJ,aN,aO]
  refine b_ 5 8 rfl rfl ?_
  refine b_ 6 9 rfl rfl ?_
  try simp only[Act.put,aJ,aN,aO]
  refine aT 7 10 rfl rfl (v:=?_) (.inl ⟨by rfl,?_⟩) ?_
  rotate_left 1
  ·(intro w hSw;(try dsimp only at hSw);go_simp;(try with_reducible rfl))
  refine aT 8 11 rfl rfl (v:=?_) (.inl ⟨by rfl,?_⟩) ?_
  rotate_left 1
  ·(intro w hSw;(try dsimp only at hSw);go_simp;(try with_reducible rfl))
  try simp only[Act.put,aJ,aN,aO]
  refine b_ 9 12 rfl rfl ?_
  refine b_ 10 13 rfl rfl ?_
  try simp only[Act.put,aJ,aN,aO]
  refine b_ 11 14 rfl rfl ?_
  refine b_ 12 15 rfl rfl ?_
  try simp only[Act.put,aJ,aN,aO]
  refine b_ 13 16 rfl rfl ?_
  refine b_ 14 17 rfl rfl ?_
  try simp only[Act.put,aJ,aN,aO]
  refine aT 15 18 rfl rfl (v:=?_) (.inl ⟨by rfl,?_⟩) ?_
  rotate_left 1
  ·(intro w hSw;(try dsimp only at hSw);go_simp;(try with_reducible rfl))
  try simp only[Act.put,aJ,aN,aO]
  refine fD (by kernel_rfl) (by kernel_rfl) rfl (fun K hK=>?_)
  go_simp
  refine hK.out _ _ ?_
  clear hK K hS
  go_wp2
  go_ret
  exact⟨rfl,gU.out.ay dN.out⟩
 |true=>
  rw[hr]at HT
  by_cases hc:bH c
  ·rw[bM hc]at HX
   have dw:=ah (uT hr)
   have hpost:∀d,ku (bU es ks) d→tf (fK d c)=tf (eG es ks c):=fun d hd=>lI ⟨fun h=>⟨hr,hc,(hd.leq dw.out).1 h⟩,fun h=>(hd.leq dw.out).2 h.dots⟩
   have qN:=ah hpost;clear hpost
   have jR:=ah hc;clear hc hr
   generalize tf (eG es ks c)=y at*
   generalize es.length=n at*
   generalize ks.len=m at*
   generalize c.length=k at*
   have hfa:aj au w (w.alloc (.cells #[.slice a0 n c0, .slice a1 m c1, .slice a2 k c2] 34)):=aj.alloc _ _ _
   go_enter Tryz.func86,Tryz.ntmps86
   go_wp2_with fail
   refine gX (S:=fun w'=>w'.cell? ⟨w.heap.size,0,none⟩=some (.slice a0 n c0)∧w'.cell? ⟨w.heap.size,1,none⟩=some (.slice a1 m c1)∧w'.cell? ⟨w.heap.size,2,none⟩=some (.slice a2 k c2)) 16 (by kernel_rfl) (bF.out _ (aj.drew _ _)) ?_
   intro hS
   have gU:=ah (hfa.nZ)
   generalize (w.alloc (.cells #[.slice a0 n c0, .slice a1 m c1, .slice a2 k c2] 34)).drew=Y at*
   clear hfa
   refine aT 0 3 rfl rfl (v:=?_) (.inl ⟨by rfl,?_⟩) ?_
   rotate_left 1
   ·(intro w hSw;(try dsimp only at hSw);go_simp;(try with_reducible rfl))
   refine aT 1 4 rfl rfl (v:=?_) (.inl ⟨by rfl,?_⟩) ?_
   rotate_left 1
   ·(intro w hSw;(try dsimp only at hSw);go_simp;(try with_reducible rfl))
   try simp only[Act.put,aJ,aN,aO]
   refine bD (i:=2) (by kernel_rfl) rfl (fun K hK=>?_)
   go_simp
   refine(HT.out _ gU.out).mono ?_
   rintro e Y1 ⟨rfl,hf1⟩
   have hS:=(⟨hf1.cell' hS.1 id,hf1.cell' hS.2.1 id,hf1.cell' hS.2.2 id⟩:Y1.cell? ⟨w.heap.size,0,none⟩=some (.slice a0 n c0)∧Y1.cell? ⟨w.heap.size,1,none⟩=some (.slice a1 m c1)∧Y1.cell? ⟨w.heap.size,2,none⟩=some (.slice a2 k c2))
   refine hK.out _ _ hS ?_
   clear hK K
   have dN:=ah (gU.out.ay hf1);clear hf1
   try simp only[Act.put,aJ,aN,aO]
   refine aT 3 6 rfl rfl (v:=?_) (.inl ⟨by rfl,?_⟩) ?_
   rotate_left 1
   ·(intro w hSw;(try dsimp only at hSw);go_simp;(try with_reducible rfl))
   refine aT 4 7 rfl rfl (v:=?_) (.inl ⟨by rfl,?_⟩) ?_
   rotate_left 1
   ·(intro w hSw;(try dsimp only at hSw);go_simp;(try with_reducible rfl))
   try simp only[Act.put,aJ,aN,aO]
   refine aT 5 8 rfl rfl (v:=?_) (.inl ⟨by rfl,?_⟩) ?_
   rotate_left 1
   ·(intro w hSw;(try dsimp only at hSw);go_simp;(try with_reducible rfl))
   try simp only[Act.put,aJ,aN,aO]
   refine bD (i:=6) (by kernel_rfl) rfl (fun K hK=>?_)
   go_simp
   refine(HX.out _ dN.out).mono ?_
   rintro e Y2 ⟨rfl,hf2⟩
   have hS:=(⟨hf2.cell' hS.1 id,hf2.cell' hS.2.1 id,hf2.cell' hS.2.2 id⟩:Y2.cell? ⟨w.heap.size,0,none⟩=some (.slice a0 n c0)∧Y2.cell? ⟨w.heap.size,1,none⟩=some (.slice a1 m c1)∧Y2.cell? ⟨w.heap.size,2,none⟩=some (.slice a2 k c2))
   refine hK.out _ _ hS ?_
   clear hK K
   have HF2:=ah (dN.out.ay hf2);clear hf2
   try simp only[Act.put,aJ,aN,aO]
   refine aT 7 10 rfl rfl (v:=?_) (.inl ⟨by rfl,?_⟩) ?_
   rotate_left 1
   ·(intro w hSw;(try dsimp only at hSw);go_simp;(try with_reducible rfl))
   refine aT 8 11 rfl rfl (v:=?_) (.inl ⟨by rfl,?_⟩) ?_
   rotate_left 1
   ·(intro w hSw;(try dsimp only at hSw);go_simp;(try with_reducible rfl))
   try simp only[Act.put,aJ,aN,aO]
   refine aT 9 12 rfl rfl (v:=?_) (.inl ⟨by rfl,?_⟩) ?_
   rotate_left 1
   ·(intro w hSw;(try dsimp only at hSw);go_simp;(try with_reducible rfl))
   refine aT 10 13 rfl rfl (v:=?_) (.inl ⟨by rfl,?_⟩) ?_
   rotate_left 1
   ·(intro w hSw;(try dsimp only at hSw);go_simp;(try with_reducible rfl))
   try simp only[Act.put,aJ,aN,aO]
   refine aT 12 15 rfl rfl (v:=?_) (.inl ⟨by rfl,?_⟩) ?_
   rotate_left 1
   ·(intro w hSw;(try dsimp only at hSw);go_simp;(try with_reducible rfl))
   refine aT 13 16 rfl rfl (v:=?_) (.inl ⟨by rfl,?_⟩) ?_
   rotate_left 1
   ·(intro w hSw;(try dsimp only at hSw);go_simp;(try with_reducible rfl))
   try simp only[Act.put,aJ,aN,aO]
   refine bD (i:=11) (by kernel_rfl) rfl (fun K hK=>?_)
   go_simp
   refine(HD.out _ HF2.out dw.out).mono ?_
   rintro e Y3 ⟨v3,d,rfl,ho3,hof,hl3⟩
   obtain⟨a3,c3,rfl⟩:=ho3.shape
   have hf3:=ho3.aH
   have hS:=(⟨hf3.cell' hS.1 id,hf3.cell' hS.2.1 id,hf3.cell' hS.2.2 id⟩:Y3.cell? ⟨w.heap.size,0,none⟩=some (.slice a0 n c0)∧Y3.cell? ⟨w.heap.size,1,none⟩=some (.slice a1 m c1)∧Y3.cell? ⟨w.heap.size,2,none⟩=some (.slice a2 k c2))
   refine hK.out _ _ hS ?_
   clear hK K
   have HF3:=ah (HF2.out.ay hf3);clear hf3
   have bI:=ah ho3;clear ho3
   have eX:=ah hof;clear hof
   have jk:=ah hl3;clear hl3
   try simp only[Act.put,aJ,aN,aO]
   refine bD (i:=14) (by kernel_rfl) rfl (fun K hK=>?_)
   go_simp
   refine(HL.out _ HF3.out _ d bI.out.rd eX.out.right jk.out jR.out).mono ?_
   rintro e Y4 ⟨rfl,hf4⟩
   rw[qN.out d eX.out]
   have hS:=(⟨hf4.cell' hS.1 id,hf4.cell' hS.2.1 id,hf4.cell' hS.2.2 id⟩:Y4.cell? ⟨w.heap.size,0,none⟩=some (.slice a0 n c0)∧Y4.cell? ⟨w.heap.size,1,none⟩=some (.slice a1 m c1)∧Y4.cell? ⟨w.heap.size,2,none⟩=some (.slice a2 k c2))
   refine hK.out _ _ hS ?_
   clear hK K
   have jG:=ah (HF3.out.ay hf4);clear hf4
   try simp only[Act.put,aJ,aN,aO]
   refine aT 15 18 rfl rfl (v:=?_) (.inl ⟨by rfl,?_⟩) ?_
   rotate_left 1
   ·(intro w hSw;(try dsimp only at hSw);go_simp;(try with_reducible rfl))
   try simp only[Act.put,aJ,aN,aO]
   refine fD (by kernel_rfl) (by kernel_rfl) rfl (fun K hK=>?_)
   go_simp
   refine hK.out _ _ ?_
   clear hK K hS
   go_wp2
   go_ret
   exact⟨rfl,jG.out⟩
  ·rw[bn hc]at HX
   rw[bn fun h=>hc h.ctx]
   clear hc hr HD HL
   generalize es.length=n at*
   generalize ks.len=m at*
   generalize c.length=k at*
   have hfa:aj au w (w.alloc (.cells #[.slice a0 n c0, .slice a1 m c1, .slice a2 k c2] 34)):=aj.alloc _ _ _
   go_enter Tryz.func86,Tryz.ntmps86
   go_wp2_with fail
   refine gX (S:=fun w'=>w'.cell? ⟨w.heap.size,0,none⟩=some (.slice a0 n c0)∧w'.cell? ⟨w.heap.size,1,none⟩=some (.slice a1 m c1)∧w'.cell? ⟨w.heap.size,2,none⟩=some (.slice a2 k c2)) 16 (by kernel_rfl) (bF.out _ (aj.drew _ _)) ?_
   intro hS
   have gU:=ah (hfa.nZ)
   generalize (w.alloc (.cells #[.slice a0 n c0, .slice a1 m c1, .slice a2 k c2] 34)).drew=Y at*
   clear hfa
   refine aT 0 3 rfl rfl (v:=?_) (.inl ⟨by rfl,?_⟩) ?_
   rotate_left 1
   ·(intro w hSw;(try dsimp only at hSw);go_simp;(try with_reducible rfl))
   refine aT 1 4 rfl rfl (v:=?_) (.inl ⟨by rfl,?_⟩) ?_
   rotate_left 1
   ·(intro w hSw;(try dsimp only at hSw);go_simp;(try with_reducible rfl))
   try simp only[Act.put,aJ,aN,aO]
   refine bD (i:=2) (by kernel_rfl) rfl (fun K hK=>?_)
   go_simp
   refine(HT.out _ gU.out).mono ?_
   rintro e Y1 ⟨rfl,hf1⟩
   have hS:=(⟨hf1.cell' hS.1 id,hf1.cell' hS.2.1 id,hf1.cell' hS.2.2 id⟩:Y1.cell? ⟨w.heap.size,0,none⟩=some (.slice a0 n c0)∧Y1.cell? ⟨w.heap.size,1,none⟩=some (.slice a1 m c1)∧Y1.cell? ⟨w.heap.size,2,none⟩=some (.slice a2 k c2))
   refine hK.out _ _ hS ?_
   clear hK K
   have dN:=ah (gU.out.ay hf1);clear hf1
   try simp only[Act.put,aJ,aN,aO]
   refine aT 3 6 rfl rfl (v:=?_) (.inl ⟨by rfl,?_⟩) ?_
   rotate_left 1
   ·(intro w hSw;(try dsimp only at hSw);go_simp;(try with_reducible rfl))
   refine aT 4 7 rfl rfl (v:=?_) (.inl ⟨by rfl,?_⟩) ?_
   rotate_left 1
   ·(intro w hSw;(try dsimp only at hSw);go_simp;(try with_reducible rfl))
   try simp only[Act.put,aJ,aN,aO]
   refine aT 5 8 rfl rfl (v:=?_) (.inl ⟨by rfl,?_⟩) ?_
   rotate_left 1
   ·(intro w hSw;(try dsimp only at hSw);go_simp;(try with_reducible rfl))
   try simp only[Act.put,aJ,aN,aO]
   refine bD (i:=6) (by kernel_rfl) rfl (fun K hK=>?_)
   go_simp
   refine(HX.out _ dN.out).mono ?_
   rintro e Y2 ⟨rfl,hf2⟩
   have hS:=(⟨hf2.cell' hS.1 id,hf2.cell' hS.2.1 id,hf2.cell' hS.2.2 id⟩:Y2.cell? ⟨w.heap.size,0,none⟩=some (.slice a0 n c0)∧Y2.cell? ⟨w.heap.size,1,none⟩=some (.slice a1 m c1)∧Y2.cell? ⟨w.heap.size,2,none⟩=some (.slice a2 k c2))
   refine hK.out _ _ hS ?_
   clear hK K
   have HF2:=ah (dN.out.ay hf2);clear hf2
   try simp only[Act.put,aJ,aN,aO]
   refine aT 7 10 rfl rfl (v:=?_) (.inl ⟨by rfl,?_⟩) ?_
   rotate_left 1
   ·(intro w hSw;(try dsimp only at hSw);go_simp;(try with_reducible rfl))
   refine aT 8 11 rfl rfl (v:=?_) (.inl ⟨by rfl,?_⟩) ?_
   rotate_left 1
   ·(intro w hSw;(try dsimp only at hSw);go_simp;(try with_reducible rfl))
   try simp only[Act.put,aJ,aN,aO]
   refine b_ 9 12 rfl rfl ?_
   refine b_ 10 13 rfl rfl ?_
   try simp only[Act.put,aJ,aN,aO]
   refine b_ 11 14 rfl rfl ?_
   refine b_ 12 15 rfl rfl ?_
   try simp only[Act.put,aJ,aN,aO]
   refine b_ 13 16 rfl rfl ?_
   refine b_ 14 17 rfl rfl ?_
   try simp only[Act.put,aJ,aN,aO]
   refine aT 15 18 rfl rfl (v:=?_) (.inl ⟨by rfl,?_⟩) ?_
   rotate_left 1
   ·(intro w hSw;(try dsimp only at hSw);go_simp;(try with_reducible rfl))
   try simp only[Act.put,aJ,aN,aO]
   refine fD (by kernel_rfl) (by kernel_rfl) rfl (fun K hK=>?_)
   go_simp
   refine hK.out _ _ ?_
   clear hK K hS
   go_wp2
   go_ret
   exact⟨rfl,HF2.out⟩
open Go.RowKit
theorem Qq (w:World) (dc af la v0 v1 v2 v3:Int) (a0 a1 a2:Option Addr) (n m k c0 c1 c2:Nat):
 Calls Tryz.prog 85 #[.agg #[.int .i64 dc, .int .i64 af, .int .i64 la, .int .i64 v0, .int .i64 v1, .int .i64 v2, .int .i64 v3, .slice a0 n c0, .slice a1 m c1, .slice a2 k c2]] w fun e w'=>e= .returned (.bool (tf (jl dc af la (aS v0 v1 v2 v3))))∧aj au w w':=by
 obtain⟨α,hne,K,hK1,hK0,hK2⟩:=worlds (w.alloc (.cells #[.int .i64 dc, .int .i64 af, .int .i64 la, .int .i64 v0, .int .i64 v1, .int .i64 v2, .int .i64 v3, .slice a0 n c0, .slice a1 m c1, .slice a2 k c2] 55))
 have kb:=fun s=>ql w _ _ _ _ _ _ _ _ _ _ _ (K s) (hK1 s)
 have k0:=fun s=>(kb s).1
 have k1:=fun s=>(kb s).2.1
 have k2:=fun s=>(kb s).2.2.1
 have k3:=fun s=>(kb s).2.2.2.1
 have k4:=fun s=>(kb s).2.2.2.2.1
 have k5:=fun s=>(kb s).2.2.2.2.2.1
 have k6:=fun s=>(kb s).2.2.2.2.2.2.1
 have k7:=fun s=>(kb s).2.2.2.2.2.2.2.1
 have k8:=fun s=>(kb s).2.2.2.2.2.2.2.2.1
 have k9:=fun s=>(kb s).2.2.2.2.2.2.2.2.2
 clear kb
 cases h0:decide (0≤dc)with
 |false=>
  rw[bn (fun h=>by obtain⟨g0,g1,g2,g3,g4,g5,g6⟩:=h;simp at h0;omega)]
  go_enter Tryz.func85,Tryz.ntmps85
  go_wp2_with fail
  refine bK K (by kernel_rfl) (by kernel_rfl) hK0 ?_
  repeat(go_big_quiet_step (fail))
  refine wpQuiet_nil ?_
  intro w' hw'
  obtain⟨s,rfl⟩:=hw'
  have hfs:=(aj.alloc au w _).ay (hK1 s)
  go_wp2
  go_ret
  exact⟨rfl,hfs⟩
 |true=>
  cases h1:decide (dc<4)with
  |false=>
   rw[bn (fun h=>by obtain⟨g0,g1,g2,g3,g4,g5,g6⟩:=h;simp at h1;omega)]
   go_enter Tryz.func85,Tryz.ntmps85
   go_wp2_with fail
   refine bK K (by kernel_rfl) (by kernel_rfl) hK0 ?_
   repeat(go_big_quiet_step (fail))
   refine wpQuiet_nil ?_
   intro w' hw'
   obtain⟨s,rfl⟩:=hw'
   have hfs:=(aj.alloc au w _).ay (hK1 s)
   go_wp2
   go_ret
   exact⟨rfl,hfs⟩
  |true=>
   cases h2:decide (0≤af)with
   |false=>
    rw[bn (fun h=>by obtain⟨g0,g1,g2,g3,g4,g5,g6⟩:=h;simp at h2;omega)]
    go_enter Tryz.func85,Tryz.ntmps85
    go_wp2_with fail
    refine bK K (by kernel_rfl) (by kernel_rfl) hK0 ?_
    repeat(go_big_quiet_step (fail))
    refine wpQuiet_nil ?_
    intro w' hw'
    obtain⟨s,rfl⟩:=hw'
    have hfs:=(aj.alloc au w _).ay (hK1 s)
    go_wp2
    go_ret
    exact⟨rfl,hfs⟩
   |true=>
    cases h3:decide (af<la)with
    |false=>
     rw[bn (fun h=>by obtain⟨g0,g1,g2,g3,g4,g5,g6⟩:=h;simp at h3;omega)]
     go_enter Tryz.func85,Tryz.ntmps85
     go_wp2_with fail
     refine bK K (by kernel_rfl) (by kernel_rfl) hK0 ?_
     repeat(go_big_quiet_step (fail))
     refine wpQuiet_nil ?_
     intro w' hw'
     obtain⟨s,rfl⟩:=hw'
     have hfs:=(aj.alloc au w _).ay (hK1 s)
     go_wp2
     go_ret
     exact⟨rfl,hfs⟩
    |true=>
     cases h4:decide (la≤1099511627776)with
     |false=>
      rw[bn (fun h=>by obtain⟨g0,g1,g2,g3,g4,g5,g6⟩:=h;simp at h4;omega)]
      go_enter Tryz.func85,Tryz.ntmps85
      go_wp2_with fail
      refine bK K (by kernel_rfl) (by kernel_rfl) hK0 ?_
      repeat(go_big_quiet_step (fail))
      refine wpQuiet_nil ?_
      intro w' hw'
      obtain⟨s,rfl⟩:=hw'
      have hfs:=(aj.alloc au w _).ay (hK1 s)
      go_wp2
      go_ret
      exact⟨rfl,hfs⟩
     |true=>
      obtain⟨dn,hdn⟩:∃dn:Nat,dc=dn:=⟨dc.toNat,by simp at h0;omega⟩
      subst hdn
      have hd4:dn<4:=by simp at h1;omega
      have kd:∀s,(K s).cell? ⟨w.heap.size,3+dn,none⟩=some (.int .i64 (aS v0 v1 v2 v3 dn)):=fun s=>by
       rcases(by omega:dn=0∨dn=1∨dn=2∨dn=3)with rfl|rfl|rfl|rfl
       ·exact k3 s
       ·exact k4 s
       ·exact k5 s
       ·exact k6 s
      have nS:(dn:Int)<4:=by omega
      have SI:decide ((0:Int)≤(dn:Int))=true:=by simp
      have zA:=ah (fun W=>KR W v0 v1 v2 v3)
      by_cases hm:jO (aS v0 v1 v2 v3)
      ·rw[bM hm]at zA
       obtain⟨fd,hfd⟩:∃fd,fd=aS v0 v1 v2 v3 dn:=⟨_,rfl⟩
       have hy:tf (jl dn af la (aS v0 v1 v2 v3))=decide (fd≤af):=by
        simp at h0 h1 h2 h3 h4
        refine(uq ?_).symm
        rw[decide_eq_true_iff,hfd]
        exact⟨fun h=>⟨by omega,h1,h2,h3,h4,h,hm⟩,fun h=>h.2.2.2.2.2.1⟩
       rw[hy]
       rw[←hfd]at kd
       clear hy hfd hm
       go_enter Tryz.func85,Tryz.ntmps85
       go_wp2_with fail
       refine bK K (by kernel_rfl) (by kernel_rfl) hK0 ?_
       repeat(go_big_quiet_step ((go_at_call 76;exact Calls.aW hK2 (zA.out _))))
       refine wpQuiet_nil ?_
       intro w' hw'
       obtain⟨s,rfl⟩:=hw'
       have hfs:=(aj.alloc au w _).ay (hK1 s)
       go_wp2
       go_ret
       exact⟨rfl,hfs⟩
      ·rw[bn hm]at zA
       rw[bn (fun h=>hm h.2.2.2.2.2.2)]
       clear hm
       go_enter Tryz.func85,Tryz.ntmps85
       go_wp2_with fail
       refine bK K (by kernel_rfl) (by kernel_rfl) hK0 ?_
       repeat(go_big_quiet_step ((go_at_call 76;exact Calls.aW hK2 (zA.out _))))
       refine wpQuiet_nil ?_
       intro w' hw'
       obtain⟨s,rfl⟩:=hw'
       have hfs:=(aj.alloc au w _).ay (hK1 s)
       go_wp2
       go_ret
       exact⟨rfl,hfs⟩
theorem Qr (w:World) (dc af la v0 v1 v2 v3:Int) (a0 a1 a2:Option Addr) (n m k c0 c1 c2:Nat) (hn:jl dc af la (aS v0 v1 v2 v3)):
 Calls Tryz.prog 88 #[.agg #[.int .i64 dc, .int .i64 af, .int .i64 la, .int .i64 v0, .int .i64 v1, .int .i64 v2, .int .i64 v3, .slice a0 n c0, .slice a1 m c1, .slice a2 k c2]] w fun e w'=>∃v',e= .returned v'∧dL w' v' [(dc,af+1,la)]∧aj au w w':=by
 have hb:0≤af∧af<la∧la≤1099511627776:=⟨hn.2.2.1,hn.2.2.2.1,hn.2.2.2.2.1⟩
 have hwr:IntKind.i64.wrap (af+1)=af+1:=by simp[IntKind.wrap,IntKind.bits,IntKind.signed];omega
 clear hn
 go_enter Tryz.func88,Tryz.ntmps88
 go_wp2
 go_ret
 have hc:=heap_alloc_new (w.alloc (.cells #[.int .i64 dc, .int .i64 af, .int .i64 la, .int .i64 v0, .int .i64 v1, .int .i64 v2, .int .i64 v3, .slice a0 n c0, .slice a1 m c1, .slice a2 k c2] 55)) (.cells #[.int .i64 dc, .int .i64 (af+1), .int .i64 la] 144)
 refine⟨_,rfl, .inr ⟨_,0,1,rfl,Nat.le_refl _,by simp[maxLen],fun j u hu=>?_⟩,(aj.alloc au _ _).alloc1⟩
 rw[Nat.zero_add]
 have hu2:([.int .i64 dc, .int .i64 (af+1), .int .i64 la]:List Value)[j]?=some u:=hu
 have:=aF hc j (by simpa using hu2)
 simpa using this
end Go.Proofs.YtabkpccdnkjoiaaGreat
