/- Words for the law MsgDecodes: R9, Sol9, R8Same, R9Same, BunR. -/
import Derived.Test.YtabkpccdnkjoiaaGreatMsgDecodesG0
import Derived.Test.YtabkpccdnkjoiaaGreatMsgDecodesG7
import Derived.Test.YtabkpccdnkjoiaaGreatMsgDecodesG9
import Derived.Test.YtabkpccdnkjoiaaGreatMsgDecodesG17
import Derived.Test.YtabkpccdnkjoiaaGreatMsgDecodesG18
import Derived.Test.YtabkpccdnkjoiaaGreatMsgDecodesG20
set_option linter.unusedSimpArgs false
set_option linter.unusedVariables false
set_option maxHeartbeats 32000000
set_option maxRecDepth 1000000
namespace Go.Proofs.YtabkpccdnkjoiaaGreat
open Go.RowKit
theorem Oq (Q:Nat→Prop) (es:List aQ) (ks:aS) (c:aX) (w:World) (ev kv cv:Value) (h:gK Q w ev kv cv es ks c) (hok:jd es ks c):
 Calls Tryz.prog 86 #[.agg #[ev,kv,cv]] w fun e w'=>e= .returned (.bool (tf (jM es ks c)))∧aj ay w w':=by
 obtain⟨a0,c0,a1,c1,a2,c2,rfl,rfl,rfl⟩:=h.shape
 have HT:=ah (fun W (f:aj ay w W)=>Vu Q es ks W _ _ (h.tree.aJ f) hok.tree)
 have HX:=ah (fun W (f:aj ay w W)=>QY W _ c (Rd.aJ h.ctx f) hok.fits (by have:=hok.len;omega))
 have HD:=ah (fun W (f:aj ay w W) hd=>Vt Q es ks W _ _ (h.tree.aJ f) hok.small hd)
 have HL:=ah (fun W (f:aj ay w W) vd d (hv:jf W vd d) (rd:dN d) (ld:d.length≤8000) (rc:dN c)=>QU W vd _ d c hv (Rd.aJ h.ctx f) rd rc (by omega) (by have:=hok.len;omega))
 have bF:=ah (Dc w (.slice a0 es.length c0) (.slice a1 ks.len c1) (.slice a2 c.length c2) 34)
 clear h hok
 cases hr:dD 5 es ks with
 |false=>
  rw[hr]at HT
  rw[bf fun h=>by rw[h.tree]at hr;cases hr]
  clear hr HX HD HL
  generalize es.length=n at*
  generalize ks.len=m at*
  generalize c.length=k at*
  have hfa:aj ay w (w.alloc (.cells #[.slice a0 n c0, .slice a1 m c1, .slice a2 k c2] 34)):=aj.alloc _ _ _
  go_enter Tryz.func86,Tryz.ntmps86
  go_wp2_with fail
  refine ku (S:=fun w'=>w'.cell? ⟨w.heap.size,0,none⟩=some (.slice a0 n c0)∧w'.cell? ⟨w.heap.size,1,none⟩=some (.slice a1 m c1)∧w'.cell? ⟨w.heap.size,2,none⟩=some (.slice a2 k c2)) 16 (by kernel_rfl) (bF.out _ (aj.drew _ _)) ?_
  intro hS
  have jo:=ah (hfa.wY)
  generalize (w.alloc (.cells #[.slice a0 n c0, .slice a1 m c1, .slice a2 k c2] 34)).drew=Y at*
  clear hfa
  refine aU 0 3 rfl rfl (v:=?_) (.inl ⟨by rfl,?_⟩) ?_
  rotate_left 1
  ·(intro w hSw;(try dsimp only at hSw);go_simp;(try with_reducible rfl))
  refine aU 1 4 rfl rfl (v:=?_) (.inl ⟨by rfl,?_⟩) ?_
  rotate_left 1
  ·(intro w hSw;(try dsimp only at hSw);go_simp;(try with_reducible rfl))
  try simp only[Act.put,aN,aO,aP]
  refine bJ (i:=2) (by kernel_rfl) rfl (fun K hK=>?_)
  go_simp
  refine(HT.out _ jo.out).mono ?_
  rintro e Y1 ⟨rfl,hf1⟩
  have hS:=(⟨hf1.cell' hS.1 id,hf1.cell' hS.2.1 id,hf1.cell' hS.2.2 id⟩:Y1.cell? ⟨w.heap.size,0,none⟩=some (.slice a0 n c0)∧Y1.cell? ⟨w.heap.size,1,none⟩=some (.slice a1 m c1)∧Y1.cell? ⟨w.heap.size,2,none⟩=some (.slice a2 k c2))
  refine hK.out _ _ hS ?_
  clear hK K
  have bg:=ah hf1;clear hf1
  try simp only[Act.put,aN,aO,aP]
  refine aU 3 6 rfl rfl (v:=?_) (.inl ⟨by rfl,?_⟩) ?_
  rotate_left 1
  ·(intro w hSw;(try dsimp only at hSw);go_simp;(try with_reducible rfl))
  refine dS 4 7 rfl rfl ?_
  try simp only[Act.put,aN,aO,aP]
  refine dS 5 8 rfl rfl ?_
  refine dS 6 9 rfl rfl ?_
  try simp only[Act.put,aN,aO,aP]
  refine aU 7 10 rfl rfl (v:=?_) (.inl ⟨by rfl,?_⟩) ?_
  rotate_left 1
  ·(intro w hSw;(try dsimp only at hSw);go_simp;(try with_reducible rfl))
  refine aU 8 11 rfl rfl (v:=?_) (.inl ⟨by rfl,?_⟩) ?_
  rotate_left 1
  ·(intro w hSw;(try dsimp only at hSw);go_simp;(try with_reducible rfl))
  try simp only[Act.put,aN,aO,aP]
  refine dS 9 12 rfl rfl ?_
  refine dS 10 13 rfl rfl ?_
  try simp only[Act.put,aN,aO,aP]
  refine dS 11 14 rfl rfl ?_
  refine dS 12 15 rfl rfl ?_
  try simp only[Act.put,aN,aO,aP]
  refine dS 13 16 rfl rfl ?_
  refine dS 14 17 rfl rfl ?_
  try simp only[Act.put,aN,aO,aP]
  refine aU 15 18 rfl rfl (v:=?_) (.inl ⟨by rfl,?_⟩) ?_
  rotate_left 1
  ·(intro w hSw;(try dsimp only at hSw);go_simp;(try with_reducible rfl))
  try simp only[Act.put,aN,aO,aP]
  refine iC (by kernel_rfl) (by kernel_rfl) rfl (fun K hK=>?_)
  go_simp
  refine hK.out _ _ ?_
  clear hK K hS
  go_wp2
  go_ret
  exact⟨rfl,jo.out.aC bg.out⟩
 |true=>
  rw[hr]at HT
  by_cases hc:dN c
  ·rw[dO hc]at HX
   have bT:=ah (Ez hr)
   have hpost:∀d,qO (iD es ks) d→tf (jX d c)=tf (jM es ks c):=fun d hd=>qN ⟨fun h=>⟨hr,hc,(hd.leq bT.out).1 h⟩,fun h=>(hd.leq bT.out).2 h.dots⟩
   have jR:=ah hpost;clear hpost
   have gU:=ah hc;clear hc hr
   generalize tf (jM es ks c)=y at*
   generalize es.length=n at*
   generalize ks.len=m at*
   generalize c.length=k at*
   have hfa:aj ay w (w.alloc (.cells #[.slice a0 n c0, .slice a1 m c1, .slice a2 k c2] 34)):=aj.alloc _ _ _
   go_enter Tryz.func86,Tryz.ntmps86
   go_wp2_with fail
   refine ku (S:=fun w'=>w'.cell? ⟨w.heap.size,0,none⟩=some (.slice a0 n c0)∧w'.cell? ⟨w.heap.size,1,none⟩=some (.slice a1 m c1)∧w'.cell? ⟨w.heap.size,2,none⟩=some (.slice a2 k c2)) 16 (by kernel_rfl) (bF.out _ (aj.drew _ _)) ?_
   intro hS
   have jo:=ah (hfa.wY)
   generalize (w.alloc (.cells #[.slice a0 n c0, .slice a1 m c1, .slice a2 k c2] 34)).drew=Y at*
   clear hfa
   refine aU 0 3 rfl rfl (v:=?_) (.inl ⟨by rfl,?_⟩) ?_
   rotate_left 1
   ·(intro w hSw;(try dsimp only at hSw);go_simp;(try with_reducible rfl))
   refine aU 1 4 rfl rfl (v:=?_) (.inl ⟨by rfl,?_⟩) ?_
   rotate_left 1
   ·(intro w hSw;(try dsimp only at hSw);go_simp;(try with_reducible rfl))
   try simp only[Act.put,aN,aO,aP]
   refine bJ (i:=2) (by kernel_rfl) rfl (fun K hK=>?_)
   go_simp
   refine(HT.out _ jo.out).mono ?_
   rintro e Y1 ⟨rfl,hf1⟩
   have hS:=(⟨hf1.cell' hS.1 id,hf1.cell' hS.2.1 id,hf1.cell' hS.2.2 id⟩:Y1.cell? ⟨w.heap.size,0,none⟩=some (.slice a0 n c0)∧Y1.cell? ⟨w.heap.size,1,none⟩=some (.slice a1 m c1)∧Y1.cell? ⟨w.heap.size,2,none⟩=some (.slice a2 k c2))
   refine hK.out _ _ hS ?_
   clear hK K
   have bg:=ah (jo.out.aC hf1);clear hf1
   try simp only[Act.put,aN,aO,aP]
   refine aU 3 6 rfl rfl (v:=?_) (.inl ⟨by rfl,?_⟩) ?_
   rotate_left 1
   ·(intro w hSw;(try dsimp only at hSw);go_simp;(try with_reducible rfl))
   refine aU 4 7 rfl rfl (v:=?_) (.inl ⟨by rfl,?_⟩) ?_
   rotate_left 1
   ·(intro w hSw;(try dsimp only at hSw);go_simp;(try with_reducible rfl))
   try simp only[Act.put,aN,aO,aP]
   refine aU 5 8 rfl rfl (v:=?_) (.inl ⟨by rfl,?_⟩) ?_
   rotate_left 1
   ·(intro w hSw;(try dsimp only at hSw);go_simp;(try with_reducible rfl))
   try simp only[Act.put,aN,aO,aP]
   refine bJ (i:=6) (by kernel_rfl) rfl (fun K hK=>?_)
   go_simp
   refine(HX.out _ bg.out).mono ?_
   rintro e Y2 ⟨rfl,hf2⟩
   have hS:=(⟨hf2.cell' hS.1 id,hf2.cell' hS.2.1 id,hf2.cell' hS.2.2 id⟩:Y2.cell? ⟨w.heap.size,0,none⟩=some (.slice a0 n c0)∧Y2.cell? ⟨w.heap.size,1,none⟩=some (.slice a1 m c1)∧Y2.cell? ⟨w.heap.size,2,none⟩=some (.slice a2 k c2))
   refine hK.out _ _ hS ?_
   clear hK K
   have HF2:=ah (bg.out.aC hf2);clear hf2
   try simp only[Act.put,aN,aO,aP]
   refine aU 7 10 rfl rfl (v:=?_) (.inl ⟨by rfl,?_⟩) ?_
   rotate_left 1
   ·(intro w hSw;(try dsimp only at hSw);go_simp;(try with_reducible rfl))
   refine aU 8 11 rfl rfl (v:=?_) (.inl ⟨by rfl,?_⟩) ?_
   rotate_left 1
   ·(intro w hSw;(try dsimp only at hSw);go_simp;(try with_reducible rfl))
   try simp only[Act.put,aN,aO,aP]
   refine aU 9 12 rfl rfl (v:=?_) (.inl ⟨by rfl,?_⟩) ?_
   rotate_left 1
   ·(intro w hSw;(try dsimp only at hSw);go_simp;(try with_reducible rfl))
   refine aU 10 13 rfl rfl (v:=?_) (.inl ⟨by rfl,?_⟩) ?_
   rotate_left 1
   ·(intro w hSw;(try dsimp only at hSw);go_simp;(try with_reducible rfl))
   try simp only[Act.put,aN,aO,aP]
   refine aU 12 15 rfl rfl (v:=?_) (.inl ⟨by rfl,?_⟩) ?_
   rotate_left 1
   ·(intro w hSw;(try dsimp only at hSw);go_simp;(try with_reducible rfl))
   refine aU 13 16 rfl rfl (v:=?_) (.inl ⟨by rfl,?_⟩) ?_
   rotate_left 1
   ·(intro w hSw;(try dsimp only at hSw);go_simp;(try with_reducible rfl))
   try simp only[Act.put,aN,aO,aP]
   refine bJ (i:=11) (by kernel_rfl) rfl (fun K hK=>?_)
   go_simp
   refine(HD.out _ HF2.out bT.out).mono ?_
   rintro e Y3 ⟨v3,d,rfl,ho3,hof,hl3⟩
   obtain⟨a3,c3,rfl⟩:=ho3.shape
   have hf3:=ho3.aH
   have hS:=(⟨hf3.cell' hS.1 id,hf3.cell' hS.2.1 id,hf3.cell' hS.2.2 id⟩:Y3.cell? ⟨w.heap.size,0,none⟩=some (.slice a0 n c0)∧Y3.cell? ⟨w.heap.size,1,none⟩=some (.slice a1 m c1)∧Y3.cell? ⟨w.heap.size,2,none⟩=some (.slice a2 k c2))
   refine hK.out _ _ hS ?_
   clear hK K
   have HF3:=ah (HF2.out.aC hf3);clear hf3
   have dZ:=ah ho3;clear ho3
   have gy:=ah hof;clear hof
   have lU:=ah hl3;clear hl3
   try simp only[Act.put,aN,aO,aP]
   refine bJ (i:=14) (by kernel_rfl) rfl (fun K hK=>?_)
   go_simp
   refine(HL.out _ HF3.out _ d dZ.out.rd gy.out.right lU.out gU.out).mono ?_
   rintro e Y4 ⟨rfl,hf4⟩
   rw[jR.out d gy.out]
   have hS:=(⟨hf4.cell' hS.1 id,hf4.cell' hS.2.1 id,hf4.cell' hS.2.2 id⟩:Y4.cell? ⟨w.heap.size,0,none⟩=some (.slice a0 n c0)∧Y4.cell? ⟨w.heap.size,1,none⟩=some (.slice a1 m c1)∧Y4.cell? ⟨w.heap.size,2,none⟩=some (.slice a2 k c2))
   refine hK.out _ _ hS ?_
   clear hK K
   have iI:=ah (HF3.out.aC hf4);clear hf4
   try simp only[Act.put,aN,aO,aP]
   refine aU 15 18 rfl rfl (v:=?_) (.inl ⟨by rfl,?_⟩) ?_
   rotate_left 1
   ·(intro w hSw;(try dsimp only at hSw);go_simp;(try with_reducible rfl))
   try simp only[Act.put,aN,aO,aP]
   refine iC (by kernel_rfl) (by kernel_rfl) rfl (fun K hK=>?_)
   go_simp
   refine hK.out _ _ ?_
   clear hK K hS
   go_wp2
   go_ret
   exact⟨rfl,iI.out⟩
  ·rw[bf hc]at HX
   rw[bf fun h=>hc h.ctx]
   clear hc hr HD HL
   generalize es.length=n at*
   generalize ks.len=m at*
   generalize c.length=k at*
   have hfa:aj ay w (w.alloc (.cells #[.slice a0 n c0, .slice a1 m c1, .slice a2 k c2] 34)):=aj.alloc _ _ _
   go_enter Tryz.func86,Tryz.ntmps86
   go_wp2_with fail
   refine ku (S:=fun w'=>w'.cell? ⟨w.heap.size,0,none⟩=some (.slice a0 n c0)∧w'.cell? ⟨w.heap.size,1,none⟩=some (.slice a1 m c1)∧w'.cell? ⟨w.heap.size,2,none⟩=some (.slice a2 k c2)) 16 (by kernel_rfl) (bF.out _ (aj.drew _ _)) ?_
   intro hS
   have jo:=ah (hfa.wY)
   generalize (w.alloc (.cells #[.slice a0 n c0, .slice a1 m c1, .slice a2 k c2] 34)).drew=Y at*
   clear hfa
   refine aU 0 3 rfl rfl (v:=?_) (.inl ⟨by rfl,?_⟩) ?_
   rotate_left 1
   ·(intro w hSw;(try dsimp only at hSw);go_simp;(try with_reducible rfl))
   refine aU 1 4 rfl rfl (v:=?_) (.inl ⟨by rfl,?_⟩) ?_
   rotate_left 1
   ·(intro w hSw;(try dsimp only at hSw);go_simp;(try with_reducible rfl))
   try simp only[Act.put,aN,aO,aP]
   refine bJ (i:=2) (by kernel_rfl) rfl (fun K hK=>?_)
   go_simp
   refine(HT.out _ jo.out).mono ?_
   rintro e Y1 ⟨rfl,hf1⟩
   have hS:=(⟨hf1.cell' hS.1 id,hf1.cell' hS.2.1 id,hf1.cell' hS.2.2 id⟩:Y1.cell? ⟨w.heap.size,0,none⟩=some (.slice a0 n c0)∧Y1.cell? ⟨w.heap.size,1,none⟩=some (.slice a1 m c1)∧Y1.cell? ⟨w.heap.size,2,none⟩=some (.slice a2 k c2))
   refine hK.out _ _ hS ?_
   clear hK K
   have bg:=ah (jo.out.aC hf1);clear hf1
   try simp only[Act.put,aN,aO,aP]
   refine aU 3 6 rfl rfl (v:=?_) (.inl ⟨by rfl,?_⟩) ?_
   rotate_left 1
   ·(intro w hSw;(try dsimp only at hSw);go_simp;(try with_reducible rfl))
   refine aU 4 7 rfl rfl (v:=?_) (.inl ⟨by rfl,?_⟩) ?_
   rotate_left 1
   ·(intro w hSw;(try dsimp only at hSw);go_simp;(try with_reducible rfl))
   try simp only[Act.put,aN,aO,aP]
   refine aU 5 8 rfl rfl (v:=?_) (.inl ⟨by rfl,?_⟩) ?_
   rotate_left 1
   ·(intro w hSw;(try dsimp only at hSw);go_simp;(try with_reducible rfl))
   try simp only[Act.put,aN,aO,aP]
   refine bJ (i:=6) (by kernel_rfl) rfl (fun K hK=>?_)
   go_simp
   refine(HX.out _ bg.out).mono ?_
   rintro e Y2 ⟨rfl,hf2⟩
   have hS:=(⟨hf2.cell' hS.1 id,hf2.cell' hS.2.1 id,hf2.cell' hS.2.2 id⟩:Y2.cell? ⟨w.heap.size,0,none⟩=some (.slice a0 n c0)∧Y2.cell? ⟨w.heap.size,1,none⟩=some (.slice a1 m c1)∧Y2.cell? ⟨w.heap.size,2,none⟩=some (.slice a2 k c2))
   refine hK.out _ _ hS ?_
   clear hK K
   have HF2:=ah (bg.out.aC hf2);clear hf2
   try simp only[Act.put,aN,aO,aP]
   refine aU 7 10 rfl rfl (v:=?_) (.inl ⟨by rfl,?_⟩) ?_
   rotate_left 1
   ·(intro w hSw;(try dsimp only at hSw);go_simp;(try with_reducible rfl))
   refine aU 8 11 rfl rfl (v:=?_) (.inl ⟨by rfl,?_⟩) ?_
   rotate_left 1
   ·(intro w hSw;(try dsimp only at hSw);go_simp;(try with_reducible rfl))
   try simp only[Act.put,aN,aO,aP]
   refine dS 9 12 rfl rfl ?_
   refine dS 10 13 rfl rfl ?_
   try simp only[Act.put,aN,aO,aP]
   refine dS 11 14 rfl rfl ?_
   refine dS 12 15 rfl rfl ?_
   try simp only[Act.put,aN,aO,aP]
   refine dS 13 16 rfl rfl ?_
   refine dS 14 17 rfl rfl ?_
   try simp only[Act.put,aN,aO,aP]
   refine aU 15 18 rfl rfl (v:=?_) (.inl ⟨by rfl,?_⟩) ?_
   rotate_left 1
   ·(intro w hSw;(try dsimp only at hSw);go_simp;(try with_reducible rfl))
   try simp only[Act.put,aN,aO,aP]
   refine iC (by kernel_rfl) (by kernel_rfl) rfl (fun K hK=>?_)
   go_simp
   refine hK.out _ _ ?_
   clear hK K hS
   go_wp2
   go_ret
   exact⟨rfl,HF2.out⟩
open Go.RowKit
def uO (es:List aQ) (ks:aS) (c:aX):Prop:=jM es ks c∧es=[]∧c=f_ (dA c)
theorem acC (Q:Nat→Prop) (es:List aQ) (ks:aS) (c:aX) (w:World) (ev kv cv:Value) (h:gK Q w ev kv cv es ks c) (hok:jd es ks c):
 Calls Tryz.prog 77 #[.agg #[ev,kv,cv]] w fun e w'=>e= .returned (.bool (tf (uO es ks c)))∧aj ay w w':=by
 obtain⟨a0,c0,a1,c1,a2,c2,rfl,rfl,rfl⟩:=h.shape
 have HT:=ah (fun W (f:aj ay w W)=>Oq Q es ks c W _ _ _ (h.aJ f) hok)
 have bF:=ah (Dc w (.slice a0 es.length c0) (.slice a1 ks.len c1) (.slice a2 c.length c2) 34)
 by_cases hr:jM es ks c
 rotate_left 1
 ·rw[bf hr]at HT
  rw[bf (show ¬uO es ks c from fun h=>hr h.1)]
  clear hr h hok
  generalize es.length=n at*
  generalize ks.len=m at*
  generalize c.length=k at*
  have hfa:aj ay w (w.alloc (.cells #[.slice a0 n c0, .slice a1 m c1, .slice a2 k c2] 34)):=aj.alloc _ _ _
  go_enter Tryz.func77,Tryz.ntmps77
  go_wp2_with fail
  refine ku (S:=fun w'=>w'.cell? ⟨w.heap.size,0,none⟩=some (.slice a0 n c0)∧w'.cell? ⟨w.heap.size,1,none⟩=some (.slice a1 m c1)∧w'.cell? ⟨w.heap.size,2,none⟩=some (.slice a2 k c2)) 18 (by kernel_rfl) (bF.out _ (aj.drew _ _)) ?_
  intro hS
  have jo:=ah (hfa.wY)
  generalize (w.alloc (.cells #[.slice a0 n c0, .slice a1 m c1, .slice a2 k c2] 34)).drew=Y at*
  clear hfa
  refine aU 0 3 rfl rfl (v:=?_) (.inl ⟨by rfl,?_⟩) ?_
  rotate_left 1
  ·(intro w hSw;(try dsimp only at hSw);go_simp;(try with_reducible rfl))
  try simp only[Act.put,aN,aO,aP]
  refine bJ (i:=1) (by kernel_rfl) rfl (fun K hK=>?_)
  go_simp
  refine(HT.out _ jo.out).mono ?_
  rintro e Y1 ⟨rfl,hf1⟩
  have hS:=(⟨hf1.cell' hS.1 id,hf1.cell' hS.2.1 id,hf1.cell' hS.2.2 id⟩:Y1.cell? ⟨w.heap.size,0,none⟩=some (.slice a0 n c0)∧Y1.cell? ⟨w.heap.size,1,none⟩=some (.slice a1 m c1)∧Y1.cell? ⟨w.heap.size,2,none⟩=some (.slice a2 k c2))
  refine hK.out _ _ hS ?_
  clear hK K
  have bg:=ah (jo.out.aC hf1);clear hf1
  try simp only[Act.put,aN,aO,aP]
  refine aU 2 5 rfl rfl (v:=?_) (.inl ⟨by rfl,?_⟩) ?_
  rotate_left 1
  ·(intro w hSw;(try dsimp only at hSw);go_simp;(try with_reducible rfl))
  refine dS 3 6 rfl rfl ?_
  try simp only[Act.put,aN,aO,aP]
  refine dS 4 7 rfl rfl ?_
  refine dS 5 8 rfl rfl ?_
  try simp only[Act.put,aN,aO,aP]
  refine dS 6 9 rfl rfl ?_
  refine dS 7 10 rfl rfl ?_
  try simp only[Act.put,aN,aO,aP]
  refine aU 8 11 rfl rfl (v:=?_) (.inl ⟨by rfl,?_⟩) ?_
  rotate_left 1
  ·(intro w hSw;(try dsimp only at hSw);go_simp;(try with_reducible rfl))
  refine aU 9 12 rfl rfl (v:=?_) (.inl ⟨by rfl,?_⟩) ?_
  rotate_left 1
  ·(intro w hSw;(try dsimp only at hSw);go_simp;(try with_reducible rfl))
  try simp only[Act.put,aN,aO,aP]
  refine dS 10 13 rfl rfl ?_
  refine dS 11 14 rfl rfl ?_
  try simp only[Act.put,aN,aO,aP]
  refine dS 12 15 rfl rfl ?_
  refine dS 13 16 rfl rfl ?_
  try simp only[Act.put,aN,aO,aP]
  refine dS 14 17 rfl rfl ?_
  refine dS 15 18 rfl rfl ?_
  try simp only[Act.put,aN,aO,aP]
  refine dS 16 19 rfl rfl ?_
  refine aU 17 20 rfl rfl (v:=?_) (.inl ⟨by rfl,?_⟩) ?_
  rotate_left 1
  ·(intro w hSw;(try dsimp only at hSw);go_simp;(try with_reducible rfl))
  try simp only[Act.put,aN,aO,aP]
  refine iC (by kernel_rfl) (by kernel_rfl) rfl (fun K hK=>?_)
  go_simp
  refine hK.out _ _ ?_
  clear hK K hS
  go_wp2
  go_ret
  exact⟨rfl,bg.out⟩
 rw[dO hr]at HT
 by_cases he:es=[]
 rotate_left 1
 ·rw[bf (show ¬uO es ks c from fun h=>he h.2.1)]
  have hn0:((es.length:Int)==0)=false:=beq_false_of_ne (by
   have:0<es.length:=List.length_pos_iff.2 he
   omega)
  clear hr h hok he
  generalize es.length=n at*
  generalize ks.len=m at*
  generalize c.length=k at*
  have hfa:aj ay w (w.alloc (.cells #[.slice a0 n c0, .slice a1 m c1, .slice a2 k c2] 34)):=aj.alloc _ _ _
  go_enter Tryz.func77,Tryz.ntmps77
  go_wp2_with fail
  refine ku (S:=fun w'=>w'.cell? ⟨w.heap.size,0,none⟩=some (.slice a0 n c0)∧w'.cell? ⟨w.heap.size,1,none⟩=some (.slice a1 m c1)∧w'.cell? ⟨w.heap.size,2,none⟩=some (.slice a2 k c2)) 18 (by kernel_rfl) (bF.out _ (aj.drew _ _)) ?_
  intro hS
  have jo:=ah (hfa.wY)
  generalize (w.alloc (.cells #[.slice a0 n c0, .slice a1 m c1, .slice a2 k c2] 34)).drew=Y at*
  clear hfa
  refine aU 0 3 rfl rfl (v:=?_) (.inl ⟨by rfl,?_⟩) ?_
  rotate_left 1
  ·(intro w hSw;(try dsimp only at hSw);go_simp;(try with_reducible rfl))
  try simp only[Act.put,aN,aO,aP]
  refine bJ (i:=1) (by kernel_rfl) rfl (fun K hK=>?_)
  go_simp
  refine(HT.out _ jo.out).mono ?_
  rintro e Y1 ⟨rfl,hf1⟩
  have hS:=(⟨hf1.cell' hS.1 id,hf1.cell' hS.2.1 id,hf1.cell' hS.2.2 id⟩:Y1.cell? ⟨w.heap.size,0,none⟩=some (.slice a0 n c0)∧Y1.cell? ⟨w.heap.size,1,none⟩=some (.slice a1 m c1)∧Y1.cell? ⟨w.heap.size,2,none⟩=some (.slice a2 k c2))
  refine hK.out _ _ hS ?_
  clear hK K
  have bg:=ah (jo.out.aC hf1);clear hf1
  try simp only[Act.put,aN,aO,aP]
  refine aU 2 5 rfl rfl (v:=?_) (.inl ⟨by rfl,?_⟩) ?_
  rotate_left 1
  ·(intro w hSw;(try dsimp only at hSw);go_simp;(try with_reducible rfl))
  refine aU 3 6 rfl rfl (v:=?_) (.inl ⟨by rfl,?_⟩) ?_
  rotate_left 1
  ·(intro w hSw;(try dsimp only at hSw);go_simp;(try with_reducible rfl))
  try simp only[Act.put,aN,aO,aP]
  refine aU 4 7 rfl rfl (v:=?_) (.inl ⟨by rfl,?_⟩) ?_
  rotate_left 1
  ·(intro w hSw;(try dsimp only at hSw);go_simp;(try with_reducible rfl))
  refine aU 5 8 rfl rfl (v:=?_) (.inl ⟨by rfl,?_⟩) ?_
  rotate_left 1
  ·(intro w hSw;(try dsimp only at hSw);go_simp;(try with_reducible rfl))
  try simp only[Act.put,aN,aO,aP]
  refine aU 6 9 rfl rfl (v:=?_) (.inl ⟨by rfl,?_⟩) ?_
  rotate_left 1
  ·(intro w hSw;(try dsimp only at hSw);go_simp;(try with_reducible rfl))
  refine aU 7 10 rfl rfl (v:=?_) (.inl ⟨by rfl,?_⟩) ?_
  rotate_left 1
  ·(intro w hSw;(try dsimp only at hSw);go_simp;(try with_reducible rfl))
  try simp only[Act.put,aN,aO,aP]
  refine aU 8 11 rfl rfl (v:=?_) (.inl ⟨by rfl,?_⟩) ?_
  rotate_left 1
  ·(intro w hSw;(try dsimp only at hSw);go_simp;(try with_reducible rfl))
  refine aU 9 12 rfl rfl (v:=?_) (.inl ⟨by rfl,?_⟩) ?_
  rotate_left 1
  ·(intro w hSw;(try dsimp only at hSw);go_simp;(try with_reducible rfl))
  try simp only[Act.put,aN,aO,aP]
  refine dS 10 13 rfl rfl ?_
  refine dS 11 14 rfl rfl ?_
  try simp only[Act.put,aN,aO,aP]
  refine dS 12 15 rfl rfl ?_
  refine dS 13 16 rfl rfl ?_
  try simp only[Act.put,aN,aO,aP]
  refine dS 14 17 rfl rfl ?_
  refine dS 15 18 rfl rfl ?_
  try simp only[Act.put,aN,aO,aP]
  refine dS 16 19 rfl rfl ?_
  refine aU 17 20 rfl rfl (v:=?_) (.inl ⟨by rfl,?_⟩) ?_
  rotate_left 1
  ·(intro w hSw;(try dsimp only at hSw);go_simp;(try with_reducible rfl))
  try simp only[Act.put,aN,aO,aP]
  refine iC (by kernel_rfl) (by kernel_rfl) rfl (fun K hK=>?_)
  go_simp
  refine hK.out _ _ ?_
  clear hK K hS
  go_wp2
  go_ret
  exact⟨rfl,bg.out⟩
 have HV:=ah (fun W (f:aj ay w W)=>Vj W _ c (Rd.aJ h.ctx f) hr.ctx (by have:=hok.len;omega))
 have vH:=ah (fun W=>QW W (dA c 0) (dA c 1) (dA c 2) (dA c 3))
 have hfe:f_ (bP (dA c 0) (dA c 1) (dA c 2) (dA c 3))=f_ (dA c):=Dh fun d h0 h4=>by
  rcases(by omega:d=0∨d=1∨d=2∨d=3)with rfl|rfl|rfl|rfl<;>rfl
 rw[hfe]at vH
 clear hfe
 have pX:=ah (fun W vb (f:aj ay w W) (hb:jf W vb (f_ (dA c))) (lb:(f_ (dA c)).length≤4)=>UA W _ vb c (f_ (dA c)) (Rd.aJ h.ctx f) hb (by have:=hok.len;omega) (by omega))
 have HY:=ah (show tf (uO es ks c)=decide (c=f_ (dA c)) by
  by_cases hq:c=f_ (dA c)
  ·rw[dO (show uO es ks c from⟨hr,he,hq⟩),decide_eq_true hq]
  ·rw[bf (show ¬uO es ks c from fun h=>hq h.2.2),decide_eq_false hq])
 generalize tf (uO es ks c)=y at*
 generalize decide (c=f_ (dA c))=z at*
 have ug:pU (fun d=>n_ (bQ c d))= #[.int .i64 (dA c 0), .int .i64 (dA c 1), .int .i64 (dA c 2), .int .i64 (dA c 3)]:=rfl
 rw[ug]at HV
 clear ug
 unfold uF at vH
 generalize dA c 0=f0 at*
 generalize dA c 1=f1 at*
 generalize dA c 2=f2 at*
 generalize dA c 3=f3 at*
 generalize f_ (dA c)=fl at*
 have hn0:(es.length:Int)=0:=by rw[he];rfl
 clear hr h hok he
 generalize es.length=n at*
 generalize ks.len=m at*
 generalize c.length=k at*
 have hfa:aj ay w (w.alloc (.cells #[.slice a0 n c0, .slice a1 m c1, .slice a2 k c2] 34)):=aj.alloc _ _ _
 go_enter Tryz.func77,Tryz.ntmps77
 go_wp2_with fail
 refine ku (S:=fun w'=>w'.cell? ⟨w.heap.size,0,none⟩=some (.slice a0 n c0)∧w'.cell? ⟨w.heap.size,1,none⟩=some (.slice a1 m c1)∧w'.cell? ⟨w.heap.size,2,none⟩=some (.slice a2 k c2)) 18 (by kernel_rfl) (bF.out _ (aj.drew _ _)) ?_
 intro hS
 have jo:=ah (hfa.wY)
 generalize (w.alloc (.cells #[.slice a0 n c0, .slice a1 m c1, .slice a2 k c2] 34)).drew=Y at*
 clear hfa
 refine aU 0 3 rfl rfl (v:=?_) (.inl ⟨by rfl,?_⟩) ?_
 rotate_left 1
 ·(intro w hSw;(try dsimp only at hSw);go_simp;(try with_reducible rfl))
 try simp only[Act.put,aN,aO,aP]
 refine bJ (i:=1) (by kernel_rfl) rfl (fun K hK=>?_)
 go_simp
 refine(HT.out _ jo.out).mono ?_
 rintro e Y1 ⟨rfl,hf1⟩
 have hS:=(⟨hf1.cell' hS.1 id,hf1.cell' hS.2.1 id,hf1.cell' hS.2.2 id⟩:Y1.cell? ⟨w.heap.size,0,none⟩=some (.slice a0 n c0)∧Y1.cell? ⟨w.heap.size,1,none⟩=some (.slice a1 m c1)∧Y1.cell? ⟨w.heap.size,2,none⟩=some (.slice a2 k c2))
 refine hK.out _ _ hS ?_
 clear hK K
 have bg:=ah (jo.out.aC hf1);clear hf1
 try simp only[Act.put,aN,aO,aP]
 refine aU 2 5 rfl rfl (v:=?_) (.inl ⟨by rfl,?_⟩) ?_
 rotate_left 1
 ·(intro w hSw;(try dsimp only at hSw);go_simp;(try with_reducible rfl))
 refine aU 3 6 rfl rfl (v:=?_) (.inl ⟨by rfl,?_⟩) ?_
 rotate_left 1
 ·(intro w hSw;(try dsimp only at hSw);go_simp;(try with_reducible rfl))
 try simp only[Act.put,aN,aO,aP]
 refine aU 4 7 rfl rfl (v:=?_) (.inl ⟨by rfl,?_⟩) ?_
 rotate_left 1
 ·(intro w hSw;(try dsimp only at hSw);go_simp;(try with_reducible rfl))
 refine aU 5 8 rfl rfl (v:=?_) (.inl ⟨by rfl,?_⟩) ?_
 rotate_left 1
 ·(intro w hSw;(try dsimp only at hSw);go_simp;(try with_reducible rfl))
 try simp only[Act.put,aN,aO,aP]
 refine aU 6 9 rfl rfl (v:=?_) (.inl ⟨by rfl,?_⟩) ?_
 rotate_left 1
 ·(intro w hSw;(try dsimp only at hSw);go_simp;(try with_reducible rfl))
 refine aU 7 10 rfl rfl (v:=?_) (.inl ⟨by rfl,?_⟩) ?_
 rotate_left 1
 ·(intro w hSw;(try dsimp only at hSw);go_simp;(try with_reducible rfl))
 try simp only[Act.put,aN,aO,aP]
 refine aU 8 11 rfl rfl (v:=?_) (.inl ⟨by rfl,?_⟩) ?_
 rotate_left 1
 ·(intro w hSw;(try dsimp only at hSw);go_simp;(try with_reducible rfl))
 refine aU 9 12 rfl rfl (v:=?_) (.inl ⟨by rfl,?_⟩) ?_
 rotate_left 1
 ·(intro w hSw;(try dsimp only at hSw);go_simp;(try with_reducible rfl))
 try simp only[Act.put,aN,aO,aP]
 refine aU 10 13 rfl rfl (v:=?_) (.inl ⟨by rfl,?_⟩) ?_
 rotate_left 1
 ·(intro w hSw;(try dsimp only at hSw);go_simp;(try with_reducible rfl))
 refine aU 11 14 rfl rfl (v:=?_) (.inl ⟨by rfl,?_⟩) ?_
 rotate_left 1
 ·(intro w hSw;(try dsimp only at hSw);go_simp;(try with_reducible rfl))
 try simp only[Act.put,aN,aO,aP]
 refine aU 12 15 rfl rfl (v:=?_) (.inl ⟨by rfl,?_⟩) ?_
 rotate_left 1
 ·(intro w hSw;(try dsimp only at hSw);go_simp;(try with_reducible rfl))
 refine aU 13 16 rfl rfl (v:=?_) (.inl ⟨by rfl,?_⟩) ?_
 rotate_left 1
 ·(intro w hSw;(try dsimp only at hSw);go_simp;(try with_reducible rfl))
 try simp only[Act.put,aN,aO,aP]
 refine bJ (i:=14) (by kernel_rfl) rfl (fun K hK=>?_)
 go_simp
 refine(HV.out _ bg.out).mono ?_
 rintro e Y2 ⟨rfl,hf2⟩
 have hS:=(⟨hf2.cell' hS.1 id,hf2.cell' hS.2.1 id,hf2.cell' hS.2.2 id⟩:Y2.cell? ⟨w.heap.size,0,none⟩=some (.slice a0 n c0)∧Y2.cell? ⟨w.heap.size,1,none⟩=some (.slice a1 m c1)∧Y2.cell? ⟨w.heap.size,2,none⟩=some (.slice a2 k c2))
 refine hK.out _ _ hS ?_
 clear hK K
 have HF2:=ah (bg.out.aC hf2);clear hf2
 try simp only[Act.put,aN,aO,aP]
 refine bJ (i:=15) (by kernel_rfl) rfl (fun K hK=>?_)
 go_simp
 refine(vH.out _).mono ?_
 rintro e Y3 ⟨v3,rfl,ho3,hl3⟩
 obtain⟨a3,c3,rfl⟩:=ho3.shape
 have hf3:=ho3.aH
 have hS:=(⟨hf3.cell' hS.1 id,hf3.cell' hS.2.1 id,hf3.cell' hS.2.2 id⟩:Y3.cell? ⟨w.heap.size,0,none⟩=some (.slice a0 n c0)∧Y3.cell? ⟨w.heap.size,1,none⟩=some (.slice a1 m c1)∧Y3.cell? ⟨w.heap.size,2,none⟩=some (.slice a2 k c2))
 refine hK.out _ _ hS ?_
 clear hK K
 have HF3:=ah (HF2.out.aC hf3);clear hf3
 have dZ:=ah ho3;clear ho3
 have lU:=ah hl3;clear hl3
 try simp only[Act.put,aN,aO,aP]
 refine bJ (i:=16) (by kernel_rfl) rfl (fun K hK=>?_)
 go_simp
 refine(pX.out _ _ HF3.out dZ.out.rd lU.out).mono ?_
 rintro e Y4 ⟨rfl,hf4⟩
 have hS:=(⟨hf4.cell' hS.1 id,hf4.cell' hS.2.1 id,hf4.cell' hS.2.2 id⟩:Y4.cell? ⟨w.heap.size,0,none⟩=some (.slice a0 n c0)∧Y4.cell? ⟨w.heap.size,1,none⟩=some (.slice a1 m c1)∧Y4.cell? ⟨w.heap.size,2,none⟩=some (.slice a2 k c2))
 refine hK.out _ _ hS ?_
 clear hK K
 have iI:=ah (HF3.out.aC hf4);clear hf4
 try simp only[Act.put,aN,aO,aP]
 refine aU 17 20 rfl rfl (v:=?_) (.inl ⟨by rfl,?_⟩) ?_
 rotate_left 1
 ·(intro w hSw;(try dsimp only at hSw);go_simp;(try with_reducible rfl))
 try simp only[Act.put,aN,aO,aP]
 refine iC (by kernel_rfl) (by kernel_rfl) rfl (fun K hK=>?_)
 go_simp
 refine hK.out _ _ ?_
 clear hK K hS
 go_wp2
 go_ret
 exact⟨by rw[HY.out];first|rfl|simp,iI.out⟩
open Go.RowKit
theorem acD (Q Q':Nat→Prop):∀(N:Nat) (es:List aQ) (ks:aS) (es':List aQ) (ks':aS) (w:World) (ev kv ev' kv':Value),jE ks<N→dh Q w ev kv es ks→dh Q' w ev' kv' es' ks'→sizeT es ks≤100000→sizeT es' ks'≤100000→
 Calls Tryz.prog 45 #[.agg #[ev,kv], .agg #[ev',kv']] w fun e w'=>e= .returned (.bool (tf (es=es'∧ks=ks')))∧aj ay w w':=by
 intro N
 induction N with
 |zero=>intros;exfalso;omega
 |succ N mV=>
  intro es ks es' ks' w ev kv ev' kv' hN ht ht' hsz hsz'
  obtain⟨ae,ce,rfl⟩:=ht.ents.rd.sl
  obtain⟨os,hkr,iP⟩:=ht.kids
  obtain⟨ak,ck,rfl⟩:=hkr.rd.sl
  obtain⟨h_,ig,rfl⟩:=ht'.ents.rd.sl
  obtain⟨os',lV,qx⟩:=ht'.kids
  obtain⟨iq,iw,rfl⟩:=lV.rd.sl
  have h1:es.length≤100000:=by unfold sizeT at hsz;omega
  have h2:es'.length≤100000:=by unfold sizeT at hsz';omega
  have h3:ks.len≤100000:=by have:=yU ks;unfold sizeT at hsz;omega
  have h4:ks'.len≤100000:=by have:=yU ks';unfold sizeT at hsz';omega
  by_cases hle:es.length=es'.length
  rotate_left 1
  ·rw[bf fun h=>hle (by rw[h.1])]
   clear ht ht' hkr lV iP qx mV hN hsz hsz'
   generalize es.length=n at*
   generalize ks.len=m at*
   generalize es'.length=n' at*
   generalize ks'.len=m' at*
   have hz:((n:Int)==(n':Int))=false:=by simp;omega
   have dI:=ah ((aj.alloc ay w (.cells #[.slice ae n ce, .slice ak m ck] 30)).alloc1 (o:= .cells #[.slice h_ n' ig, .slice iq m' iw] 30))
   go_enter Tryz.func45,Tryz.ntmps45
   go_wp2
   go_ret
   exact⟨rfl,dI.out⟩
  by_cases hlk:ks.len=ks'.len
  rotate_left 1
  ·rw[bf fun h=>hlk (by rw[h.2])]
   rw[←hle]
   clear ht ht' hkr lV iP qx mV hN hsz hsz' h2 hle
   generalize es.length=n at*
   generalize ks.len=m at*
   generalize ks'.len=m' at*
   have hz:((m:Int)==(m':Int))=false:=by simp;omega
   have dI:=ah ((aj.alloc ay w (.cells #[.slice ae n ce, .slice ak m ck] 30)).alloc1 (o:= .cells #[.slice h_ n ig, .slice iq m' iw] 30))
   go_enter Tryz.func45,Tryz.ntmps45
   go_wp2
   go_ret
   exact⟨rfl,dI.out⟩
  have HE:=ah ht.ents.rd
  have hE':=ht'.ents.rd
  have hK':=lV.rd
  rw[←hle]at hE'⊢
  rw[←hlk]at hK'⊢
  have Vw:=ah hE';clear hE'
  have mW:=ah hkr.rd
  have Vx:=ah hK';clear hK'
  have qw:=ah iP;clear iP
  have acE:=ah qx;clear qx
  have rM:=ah hle.symm;clear hle
  have yO:=ah hlk.symm;clear hlk
  have IH:=ah mV;clear mV
  have kF:=ah hsz;clear hsz
  have acF:=ah hsz';clear hsz'
  have kN:=ah hN;clear hN
  clear ht ht' hkr lV h2 h4
  generalize hes:es.length=n at*
  have HN:=ah hes;clear hes
  generalize hkl:ks.len=m at*
  have HM:=ah hkl;clear hkl
  have dI:=ah ((aj.alloc ay w (.cells #[.slice ae n ce, .slice ak m ck] 30)).alloc1 (o:= .cells #[.slice h_ n ig, .slice iq m iw] 30))
  have bF:=ah (abG w (.slice ae n ce) (.slice ak m ck) (.slice h_ n ig) (.slice iq m iw) 30)
  go_enter Tryz.func45,Tryz.ntmps45
  go_wp2
  go_loopw [26] (fun i ww=>∃k:Nat,k≤n∧i= .int .i64 k∧zo es es' k∧aj ay ((w.alloc (.cells #[.slice ae n ce, .slice ak m ck] 30)).alloc (.cells #[.slice h_ n ig, .slice iq m iw] 30)) ww) (fun i _=>n-(intOf i).toNat)
  case atStart=>exact⟨0,Nat.zero_le _,rfl,(fun j hj=>absurd hj (Nat.not_lt_zero _)),aj.refl _ _⟩
  case round=>
   obtain⟨k,hk,rfl,hlk,hw⟩:=hrel
   have Vy:=ah hlk;clear hlk
   have HW:=ah hw;clear hw
   obtain⟨b0,b1,b2,b3⟩:=bF.out wr HW.out
   by_cases hlt:k<n
   ·rcases Rd.shape HE.out with⟨ad,he,h0⟩|⟨e1,off1,UC,he,hmax⟩
    ·exfalso;omega
    rcases Rd.shape Vw.out with⟨ad,he2,h0⟩|⟨e2,off2,qQ,he2,IG⟩
    ·exfalso;omega
    injection he with g1 g2 g3
    injection he2 with g4 g5 g6
    subst g1 g3 g4 g6
    clear g2 g5
    obtain⟨p0,p1,p2,p3⟩:=xC HE.out k (by rw[HN.out];exact hlt)
    obtain⟨q0,q1,q2,q3⟩:=xC Vw.out k (by rw[rM.out];exact hlt)
    have hfw:=dI.out.aC HW.out
    have p0:=hfw.cell' p0 id
    have p1:=hfw.cell' p1 id
    have p2:=hfw.cell' p2 id
    have p3:=hfw.cell' p3 id
    have q0:=hfw.cell' q0 id
    have q1:=hfw.cell' q1 id
    have q2:=hfw.cell' q2 id
    have q3:=hfw.cell' q3 id
    clear hfw
    have HST:=ah (show es.getD k aQ.zero=es'.getD k aQ.zero→zo es es' (k+1)from Vy.out.step)
    have eP:=ah (show es.getD k aQ.zero≠es'.getD k aQ.zero→¬(es=es'∧ks=ks')from fun h e=>h (by rw[e.1]))
    generalize es.getD k aQ.zero=s at*
    generalize es'.getD k aQ.zero=t at*
    by_cases hst:s=t
    ·subst hst
     go_wp2_with fail
     go_quiet (fail)
     go_wp2
     go_roundw
     case rel=>exact⟨k+1,by omega,by go_num,HST.out (by trivial),HW.out.kS⟩
     case measure=>simp[intOf];omega
    ·have zn:=ah (show false=tf (es=es'∧ks=ks')from(bf (eP.out hst)).symm)
     obtain⟨s0,s1,s2,s3⟩:=s
     obtain⟨t0,t1,t2,t3⟩:=t
     clear HST eP
     dsimp only at p0 p1 p2 p3 q0 q1 q2 q3
     by_cases g0:s0=t0
     ·subst g0
      by_cases g1:s1=t1
      ·subst g1
       by_cases g2:s2=t2
       ·subst g2
        have g3:s3≠t3:=fun h=>hst (by rw[h])
        clear hst
        have gb:((s3:Int)==t3)=false:=by simpa using g3
        go_wp2_with fail
        go_quiet (fail)
        go_wp2
        go_ret
        exact⟨dK zn.out,dI.out.aC HW.out.kS⟩
       ·clear hst
        have gb:=UD g2
        go_wp2_with fail
        go_quiet (fail)
        go_wp2
        go_ret
        exact⟨dK zn.out,dI.out.aC HW.out.kS⟩
      ·clear hst
       have gb:((s1:Int)==t1)=false:=by simpa using g1
       go_wp2_with fail
       go_quiet (fail)
       go_wp2
       go_ret
       exact⟨dK zn.out,dI.out.aC HW.out.kS⟩
     ·clear hst
      have gb:((s0:Int)==t0)=false:=by simpa using g0
      go_wp2_with fail
      go_quiet (fail)
      go_wp2
      go_ret
      exact⟨dK zn.out,dI.out.aC HW.out.kS⟩
   ·obtain rfl:n=k:=by omega
    have hee:es=es':=zo.all (HN.out.trans rM.out.symm) (by rw[HN.out];exact Vy.out)
    have Bc:=ah hee;clear hee
    go_wp2
    clear b0 b1 b2 b3
    go_loopw [44] (fun i ww=>∃k:Nat,k≤m∧i= .int .i64 k∧(ks=ks'↔ks.drop k=ks'.drop k)∧aj ay ((w.alloc (.cells #[.slice ae n ce, .slice ak m ck] 30)).alloc (.cells #[.slice h_ n ig, .slice iq m iw] 30)) ww) (fun i _=>m-(intOf i).toNat)
    case atStart=>exact⟨0,Nat.zero_le _,rfl,Iff.rfl,HW.out⟩
    case round=>
     obtain⟨k,hk,rfl,hiff,hwk⟩:=hrel
     have JG:=ah hiff;clear hiff
     have fD:=ah hwk;clear hwk
     by_cases hlt:k<m
     ·obtain⟨key,es0,sub,rest,hdr⟩:=aS.xB (n:=k) (ks:=ks) (by rw[HM.out];exact hlt)
      obtain⟨key',JH,sub',rest',hdr'⟩:=aS.xB (n:=k) (ks:=ks') (by rw[yO.out];exact hlt)
      rcases Rd.shape mW.out with⟨ad,he,h0⟩|⟨e1,off1,UC,he,hmax⟩
      ·exfalso;omega
      rcases Rd.shape Vx.out with⟨ad,he2,h0⟩|⟨e2,off2,qQ,he2,IG⟩
      ·exfalso;omega
      injection he with g1 g2 g3
      injection he2 with g4 g5 g6
      subst g1 g3 g4 g6
      clear g2 g5
      have hfw:=dI.out.aC fD.out
      obtain⟨ev0,kv0,p0,p1,p2,hta⟩:=wz (mW.out.aJ hfw) (qw.out.aJ hfw) hdr
      obtain⟨ev1,kv1,q0,q1,q2,htb⟩:=wz (Vx.out.aJ hfw) (acE.out.aJ hfw) hdr'
      clear hfw
      have hss:=yT k hdr
      have hst1:=CU k hdr
      have hst2:=CU k hdr'
      have HC:=ah (fun W (f:aj ay wr W)=>IH.out es0 sub JH sub' W ev0 kv0 ev1 kv1 (by have:=kN.out;omega) (hta.aJ f) (htb.aJ f) (by have:=kF.out;unfold sizeT at*;omega) (by have:=acF.out;unfold sizeT at*;omega))
      have HST:=ah (abH hdr hdr')
      obtain⟨a0,c0,rfl⟩:=hta.ents.rd.sl
      obtain⟨o3,hk3,-⟩:=hta.kids
      obtain⟨a1,c1,rfl⟩:=hk3.rd.sl
      obtain⟨a0',c0',rfl⟩:=htb.ents.rd.sl
      obtain⟨o4,hk4,-⟩:=htb.kids
      obtain⟨a1',c1',rfl⟩:=hk4.rd.sl
      clear hk3 hk4 hta htb hdr hdr' hss hst1 hst2
      generalize es0.length=n0 at*
      generalize sub.len=m0 at*
      generalize JH.length=n1 at*
      generalize sub'.len=m1 at*
      obtain⟨α,hne,K,hK1,hK0,hK2⟩:=worlds wr
      have kb:=fun s=>bF.out (K s) (fD.out.aC (hK1 s))
      have k0:=fun s=>(kb s).1
      have k1:=fun s=>(kb s).2.1
      have k2:=fun s=>(kb s).2.2.1
      have k3:=fun s=>(kb s).2.2.2
      have r0:=fun s=>(hK1 s).cell' p0 id
      have r1:=fun s=>(hK1 s).cell' p1 id
      have r2:=fun s=>(hK1 s).cell' p2 id
      have t0:=fun s=>(hK1 s).cell' q0 id
      have t1:=fun s=>(hK1 s).cell' q1 id
      have t2:=fun s=>(hK1 s).cell' q2 id
      clear kb p0 p1 p2 q0 q1 q2
      have iy:=ah (fun s=>fD.out.aC (hK1 s))
      have yj:=ah hK1
      by_cases hkey:key=key'
      ·by_cases hsub:es0=JH∧sub=sub'
       ·rw[dO hsub]at HC
        have HY:=ah (show key=key'∧es0=JH∧sub=sub' from⟨hkey,hsub⟩)
        subst hkey
        clear hsub
        go_wp2_with fail
        refine dX K (by kernel_rfl) (by kernel_rfl) hK0 ?_
        repeat(go_big_quiet_step ((go_at_call 45;exact Calls.bY hK2 (HC.out _ (yj.out _)))))
        refine wpQuiet_nil ?_
        intro w' hw'
        obtain⟨s,rfl⟩:=hw'
        go_wp2
        go_roundw
        case rel=>exact⟨k+1,by omega,by go_num,JG.out.trans (HST.out.trans ⟨fun h=>h.2,fun h=>⟨⟨by trivial,HY.out.2⟩,h⟩⟩),iy.out s⟩
        case measure=>simp[intOf];omega
       ·rw[bf hsub]at HC
        have HY:=ah (show ¬(es=es'∧ks=ks')from fun h=>hsub (HST.out.1 (JG.out.1 h.2)).1.2)
        subst hkey
        clear hsub
        go_wp2_with fail
        refine dX K (by kernel_rfl) (by kernel_rfl) hK0 ?_
        repeat(go_big_quiet_step ((go_at_call 45;exact Calls.bY hK2 (HC.out _ (yj.out _)))))
        refine wpQuiet_nil ?_
        intro w' hw'
        obtain⟨s,rfl⟩:=hw'
        go_wp2
        go_ret
        exact⟨dK (bf HY.out).symm,dI.out.aC (iy.out s)⟩
      ·have HY:=ah (show ¬(es=es'∧ks=ks')from fun h=>hkey (HST.out.1 (JG.out.1 h.2)).1.1)
       have gb:=UD hkey
       have gc:(key.toList==key'.toList)=false:=by simpa using gb
       go_wp2_with fail
       refine dX K (by kernel_rfl) (by kernel_rfl) hK0 ?_
       repeat(go_big_quiet_step ((go_at_call 45;exact Calls.bY hK2 (HC.out _ (yj.out _)))))
       refine wpQuiet_nil ?_
       intro w' hw'
       obtain⟨s,rfl⟩:=hw'
       go_wp2
       go_ret
       exact⟨dK (bf HY.out).symm,dI.out.aC (iy.out s)⟩
     ·obtain rfl:m=k:=by omega
      have hkk:ks=ks':=JG.out.2 (by rw[aS.yR (by rw[HM.out];exact Nat.le_refl _),aS.yR (by rw[yO.out];exact Nat.le_refl _)])
      have HKK:=ah hkk;clear hkk
      go_wp2
      go_ret
      exact⟨dK (dO ⟨Bc.out,HKK.out⟩).symm,dI.out.aC fD.out⟩
open Go.RowKit
theorem Ot (Q Q':Nat→Prop) (es:List aQ) (ks:aS) (c:aX) (es':List aQ) (ks':aS) (c':aX) (w:World) (ev kv cv ev' kv' cv':Value) (h:gK Q w ev kv cv es ks c) (hok:jd es ks c) (h':gK Q' w ev' kv' cv' es' ks' c') (hok':jd es' ks' c'):
 Calls Tryz.prog 40 #[.agg #[ev,kv,cv], .agg #[ev',kv',cv']] w fun e w'=>e= .returned (.bool (tf ((es=es'∧ks=ks')∧c=c')))∧aj ay w w':=by
 obtain⟨a0,c0,a1,c1,a2,c2,rfl,rfl,rfl⟩:=h.shape
 obtain⟨b0,d0,b1,d1,b2,d2,rfl,rfl,rfl⟩:=h'.shape
 have HT:=ah (fun W (f:aj ay w W)=>acD Q Q' _ es ks es' ks' W _ _ _ _ (Nat.lt_succ_self _) (h.tree.aJ f) (h'.tree.aJ f) (Nat.le_trans hok.small (by decide)) (Nat.le_trans hok'.small (by decide)))
 have hde:decide (c=c')=tf (c=c'):=H_ (by rw[decide_eq_true_iff])
 have HC:=ah (fun W (f:aj ay w W)=>hde▸UA W _ _ c c' (Rd.aJ h.ctx f) (Rd.aJ h'.ctx f) (Nat.le_trans hok.len (by decide)) (Nat.le_trans hok'.len (by decide)))
 clear h hok h' hok' hde
 by_cases r3:es=es'∧ks=ks'
 rotate_left 1
 ·rw[bf r3]at HT
  rw[bf fun h=>r3 h.1]
  clear r3 HC
  generalize es.length=n at*
  generalize ks.len=m at*
  generalize c.length=k at*
  generalize es'.length=n' at*
  generalize ks'.len=m' at*
  generalize c'.length=k' at*
  have dI:=ah ((aj.alloc ay w (.cells #[.slice a0 n c0, .slice a1 m c1, .slice a2 k c2] 34)).alloc1 (o:= .cells #[.slice b0 n' d0, .slice b1 m' d1, .slice b2 k' d2] 34))
  have bF:=ah (UE w (.slice a0 n c0) (.slice a1 m c1) (.slice a2 k c2) (.slice b0 n' d0) (.slice b1 m' d1) (.slice b2 k' d2) 34)
  go_enter Tryz.func40,Tryz.ntmps40
  go_wp2_with(first
   |(go_at_call 45;refine(HT.out _ dI.out).mono ?_;rintro e w1 ⟨rfl,hw1⟩;obtain⟨y0,y1,y2,y3,y4,y5⟩:=bF.out w1 hw1;have HW1:=ah hw1;clear hw1))
  go_ret
  exact⟨rfl,dI.out.aC HW1.out⟩
 rw[dO r3]at HT
 have hall:tf ((es=es'∧ks=ks')∧c=c')=tf (c=c'):=qN ⟨fun h=>h.2,fun h=>⟨r3,h⟩⟩
 rw[hall]
 clear hall r3
 generalize tf (c=c')=y at*
 generalize es.length=n at*
 generalize ks.len=m at*
 generalize c.length=k at*
 generalize es'.length=n' at*
 generalize ks'.len=m' at*
 generalize c'.length=k' at*
 have dI:=ah ((aj.alloc ay w (.cells #[.slice a0 n c0, .slice a1 m c1, .slice a2 k c2] 34)).alloc1 (o:= .cells #[.slice b0 n' d0, .slice b1 m' d1, .slice b2 k' d2] 34))
 have bF:=ah (UE w (.slice a0 n c0) (.slice a1 m c1) (.slice a2 k c2) (.slice b0 n' d0) (.slice b1 m' d1) (.slice b2 k' d2) 34)
 go_enter Tryz.func40,Tryz.ntmps40
 go_wp2_with(first
  |(go_at_call 45;refine(HT.out _ dI.out).mono ?_;rintro e w1 ⟨rfl,hw1⟩;obtain⟨y0,y1,y2,y3,y4,y5⟩:=bF.out w1 hw1;have HW1:=ah hw1;clear hw1)
  |(go_at_call 84;refine(HC.out _ (dI.out.aC HW1.out)).mono ?_;rintro e w2 ⟨rfl,hw2⟩;have HW2:=ah (HW1.out.aC hw2);clear hw2))
 go_ret
 exact⟨rfl,dI.out.aC HW2.out⟩
open Go.RowKit
theorem acI (w:World) (dc af la v0 v1 v2 v3:Int) (a0 a1 a2:Option Addr) (n m k c0 c1 c2:Nat):
 Calls Tryz.prog 85 #[.agg #[.int .i64 dc, .int .i64 af, .int .i64 la, .int .i64 v0, .int .i64 v1, .int .i64 v2, .int .i64 v3, .slice a0 n c0, .slice a1 m c1, .slice a2 k c2]] w fun e w'=>e= .returned (.bool (tf (qW dc af la (bP v0 v1 v2 v3))))∧aj ay w w':=by
 obtain⟨α,hne,K,hK1,hK0,hK2⟩:=worlds (w.alloc (.cells #[.int .i64 dc, .int .i64 af, .int .i64 la, .int .i64 v0, .int .i64 v1, .int .i64 v2, .int .i64 v3, .slice a0 n c0, .slice a1 m c1, .slice a2 k c2] 55))
 have kb:=fun s=>EL w _ _ _ _ _ _ _ _ _ _ _ (K s) (hK1 s)
 have k0:=fun s=>(kb s).1
 have k1:=fun s=>(kb s).2.1
 have k2:=fun s=>(kb s).2.2.1
 have k3:=fun s=>(kb s).2.2.2.1
 have k4:=fun s=>(kb s).2.2.2.2.1
 have k5:=fun s=>(kb s).2.2.2.2.2.1
 have k6:=fun s=>(kb s).2.2.2.2.2.2.1
 have k7:=fun s=>(kb s).2.2.2.2.2.2.2.1
 have k8:=fun s=>(kb s).2.2.2.2.2.2.2.2.1
 have k9:=fun s=>(kb s).2.2.2.2.2.2.2.2.2
 clear kb
 cases h0:decide (0≤dc)with
 |false=>
  rw[bf (fun h=>by obtain⟨g0,g1,g2,g3,g4,g5,g6⟩:=h;simp at h0;omega)]
  go_enter Tryz.func85,Tryz.ntmps85
  go_wp2_with fail
  refine dX K (by kernel_rfl) (by kernel_rfl) hK0 ?_
  repeat(go_big_quiet_step (fail))
  refine wpQuiet_nil ?_
  intro w' hw'
  obtain⟨s,rfl⟩:=hw'
  have hfs:=(aj.alloc ay w _).aC (hK1 s)
  go_wp2
  go_ret
  exact⟨rfl,hfs⟩
 |true=>
  cases h1:decide (dc<4)with
  |false=>
   rw[bf (fun h=>by obtain⟨g0,g1,g2,g3,g4,g5,g6⟩:=h;simp at h1;omega)]
   go_enter Tryz.func85,Tryz.ntmps85
   go_wp2_with fail
   refine dX K (by kernel_rfl) (by kernel_rfl) hK0 ?_
   repeat(go_big_quiet_step (fail))
   refine wpQuiet_nil ?_
   intro w' hw'
   obtain⟨s,rfl⟩:=hw'
   have hfs:=(aj.alloc ay w _).aC (hK1 s)
   go_wp2
   go_ret
   exact⟨rfl,hfs⟩
  |true=>
   cases h2:decide (0≤af)with
   |false=>
    rw[bf (fun h=>by obtain⟨g0,g1,g2,g3,g4,g5,g6⟩:=h;simp at h2;omega)]
    go_enter Tryz.func85,Tryz.ntmps85
    go_wp2_with fail
    refine dX K (by kernel_rfl) (by kernel_rfl) hK0 ?_
    repeat(go_big_quiet_step (fail))
    refine wpQuiet_nil ?_
    intro w' hw'
    obtain⟨s,rfl⟩:=hw'
    have hfs:=(aj.alloc ay w _).aC (hK1 s)
    go_wp2
    go_ret
    exact⟨rfl,hfs⟩
   |true=>
    cases h3:decide (af<la)with
    |false=>
     rw[bf (fun h=>by obtain⟨g0,g1,g2,g3,g4,g5,g6⟩:=h;simp at h3;omega)]
     go_enter Tryz.func85,Tryz.ntmps85
     go_wp2_with fail
     refine dX K (by kernel_rfl) (by kernel_rfl) hK0 ?_
     repeat(go_big_quiet_step (fail))
     refine wpQuiet_nil ?_
     intro w' hw'
     obtain⟨s,rfl⟩:=hw'
     have hfs:=(aj.alloc ay w _).aC (hK1 s)
     go_wp2
     go_ret
     exact⟨rfl,hfs⟩
    |true=>
     cases h4:decide (la≤1099511627776)with
     |false=>
      rw[bf (fun h=>by obtain⟨g0,g1,g2,g3,g4,g5,g6⟩:=h;simp at h4;omega)]
      go_enter Tryz.func85,Tryz.ntmps85
      go_wp2_with fail
      refine dX K (by kernel_rfl) (by kernel_rfl) hK0 ?_
      repeat(go_big_quiet_step (fail))
      refine wpQuiet_nil ?_
      intro w' hw'
      obtain⟨s,rfl⟩:=hw'
      have hfs:=(aj.alloc ay w _).aC (hK1 s)
      go_wp2
      go_ret
      exact⟨rfl,hfs⟩
     |true=>
      obtain⟨dn,hdn⟩:∃dn:Nat,dc=dn:=⟨dc.toNat,by simp at h0;omega⟩
      subst hdn
      have hd4:dn<4:=by simp at h1;omega
      have kd:∀s,(K s).cell? ⟨w.heap.size,3+dn,none⟩=some (.int .i64 (bP v0 v1 v2 v3 dn)):=fun s=>by
       rcases(by omega:dn=0∨dn=1∨dn=2∨dn=3)with rfl|rfl|rfl|rfl
       ·exact k3 s
       ·exact k4 s
       ·exact k5 s
       ·exact k6 s
      have Ja:(dn:Int)<4:=by omega
      have afw:decide ((0:Int)≤(dn:Int))=true:=by simp
      have wS:=ah (fun W=>La W v0 v1 v2 v3)
      by_cases hm:g_ (bP v0 v1 v2 v3)
      ·rw[dO hm]at wS
       obtain⟨fd,hfd⟩:∃fd,fd=bP v0 v1 v2 v3 dn:=⟨_,rfl⟩
       have hy:tf (qW dn af la (bP v0 v1 v2 v3))=decide (fd≤af):=by
        simp at h0 h1 h2 h3 h4
        refine(H_ ?_).symm
        rw[decide_eq_true_iff,hfd]
        exact⟨fun h=>⟨by omega,h1,h2,h3,h4,h,hm⟩,fun h=>h.2.2.2.2.2.1⟩
       rw[hy]
       rw[←hfd]at kd
       clear hy hfd hm
       go_enter Tryz.func85,Tryz.ntmps85
       go_wp2_with fail
       refine dX K (by kernel_rfl) (by kernel_rfl) hK0 ?_
       repeat(go_big_quiet_step ((go_at_call 76;exact Calls.bY hK2 (wS.out _))))
       refine wpQuiet_nil ?_
       intro w' hw'
       obtain⟨s,rfl⟩:=hw'
       have hfs:=(aj.alloc ay w _).aC (hK1 s)
       go_wp2
       go_ret
       exact⟨rfl,hfs⟩
      ·rw[bf hm]at wS
       rw[bf (fun h=>hm h.2.2.2.2.2.2)]
       clear hm
       go_enter Tryz.func85,Tryz.ntmps85
       go_wp2_with fail
       refine dX K (by kernel_rfl) (by kernel_rfl) hK0 ?_
       repeat(go_big_quiet_step ((go_at_call 76;exact Calls.bY hK2 (wS.out _))))
       refine wpQuiet_nil ?_
       intro w' hw'
       obtain⟨s,rfl⟩:=hw'
       have hfs:=(aj.alloc ay w _).aC (hK1 s)
       go_wp2
       go_ret
       exact⟨rfl,hfs⟩
theorem acJ (w:World) (dc af la v0 v1 v2 v3:Int) (a0 a1 a2:Option Addr) (n m k c0 c1 c2:Nat) (hn:qW dc af la (bP v0 v1 v2 v3)):
 Calls Tryz.prog 88 #[.agg #[.int .i64 dc, .int .i64 af, .int .i64 la, .int .i64 v0, .int .i64 v1, .int .i64 v2, .int .i64 v3, .slice a0 n c0, .slice a1 m c1, .slice a2 k c2]] w fun e w'=>∃v',e= .returned v'∧jf w' v' [(dc,af+1,la)]∧aj ay w w':=by
 have hb:0≤af∧af<la∧la≤1099511627776:=⟨hn.2.2.1,hn.2.2.2.1,hn.2.2.2.2.1⟩
 have hwr:IntKind.i64.wrap (af+1)=af+1:=by simp[IntKind.wrap,IntKind.bits,IntKind.signed];omega
 clear hn
 go_enter Tryz.func88,Tryz.ntmps88
 go_wp2
 go_ret
 have hc:=heap_alloc_new (w.alloc (.cells #[.int .i64 dc, .int .i64 af, .int .i64 la, .int .i64 v0, .int .i64 v1, .int .i64 v2, .int .i64 v3, .slice a0 n c0, .slice a1 m c1, .slice a2 k c2] 55)) (.cells #[.int .i64 dc, .int .i64 (af+1), .int .i64 la] 144)
 refine⟨_,rfl, .inr ⟨_,0,1,rfl,Nat.le_refl _,by simp[maxLen],fun j u hu=>?_⟩,(aj.alloc ay _ _).alloc1⟩
 rw[Nat.zero_add]
 have hu2:([.int .i64 dc, .int .i64 (af+1), .int .i64 la]:List Value)[j]?=some u:=hu
 have:=au hc j (by simpa using hu2)
 simpa using this
end Go.Proofs.YtabkpccdnkjoiaaGreat
