/- Words for the law BundleOrder: BunS. -/
import Derived.Test.YtabkpccdnkjoiaaGreatBundleOrderG0
import Derived.Test.YtabkpccdnkjoiaaGreatBundleOrderG16
set_option linter.unusedSimpArgs false
set_option linter.unusedVariables false
set_option maxHeartbeats 32000000
set_option maxRecDepth 1000000
namespace Go.Proofs.YtabkpccdnkjoiaaGreat
open Go.RowKit
theorem Qs (W:World) (T:TypeId) (v0 v1 v2 v3 x:Int) (dn:Nat) (h:dn<4):
 (∀j:Nat,j<4→(W.alloc (.cells (([.int .i64 v0, .int .i64 v1, .int .i64 v2, .int .i64 v3]:List Value).set dn (.int .i64 x)).toArray T)).cell? ⟨W.heap.size,j,none⟩=some (.int .i64 (dA (aS v0 v1 v2 v3) dn x j)))∧
 aj au W (W.alloc (.cells (([.int .i64 v0, .int .i64 v1, .int .i64 v2, .int .i64 v3]:List Value).set dn (.int .i64 x)).toArray T)):=by
 refine⟨fun j hj=>?_,aj.alloc _ _ _⟩
 have h1:=heap_alloc_new W (.cells (([.int .i64 v0, .int .i64 v1, .int .i64 v2, .int .i64 v3]:List Value).set dn (.int .i64 x)).toArray T)
 rcases(by omega:dn=0∨dn=1∨dn=2∨dn=3)with rfl|rfl|rfl|rfl<;>rcases(by omega:j=0∨j=1∨j=2∨j=3)with rfl|rfl|rfl|rfl<;>exact aF h1 _ rfl
theorem Qu (W:World) (T:TypeId) (v0 v1 v2 v3:Int) (dn:Nat) (h:dn<4):
 (W.alloc (.cells #[.int .i64 v0, .int .i64 v1, .int .i64 v2, .int .i64 v3] T)).cell? ⟨W.heap.size,dn,none⟩=some (.int .i64 (aS v0 v1 v2 v3 dn))∧(W.alloc (.cells #[.int .i64 v0, .int .i64 v1, .int .i64 v2, .int .i64 v3] T)).frozen? ⟨W.heap.size,dn,none⟩=false:=by
 have h1:=heap_alloc_new W (.cells #[.int .i64 v0, .int .i64 v1, .int .i64 v2, .int .i64 v3] T)
 refine⟨?_,aY h1 dn⟩
 rcases(by omega:dn=0∨dn=1∨dn=2∨dn=3)with rfl|rfl|rfl|rfl<;>exact aF h1 _ rfl
theorem IK (Q:Nat→Prop) (es:List aG) (ks:aI) (c:aU) (w:World) (dc af la v0 v1 v2 v3:Int) (ev kv cv:Value) (h:gQ Q w ev kv cv es ks c) (hok:fG es ks c):
 Calls Tryz.prog 24 #[.agg #[.int .i64 dc, .int .i64 af, .int .i64 la, .int .i64 v0, .int .i64 v1, .int .i64 v2, .int .i64 v3,ev,kv,cv]] w fun e w'=>e= .returned (.bool (tf (fO dc af la (aS v0 v1 v2 v3) es ks c)))∧aj au w w':=by
 obtain⟨a0,c0,a1,c1,a2,c2,rfl,rfl,rfl⟩:=h.shape
 have eU:=ah (fun W=>Qq W dc af la v0 v1 v2 v3 a0 a1 a2 es.length ks.len c.length c0 c1 c2)
 have iR:=ah (fun W (f:aj au w W)=>Qp Q es ks c W _ _ _ (h.aP f) hok)
 have lF:=ah (fun W (f:aj au w W) hd=>IJ Q es ks W _ _ (h.tree.aP f) hok.small hd)
 have HOW:=ah (fun W hn=>Qr W dc af la v0 v1 v2 v3 a0 a1 a2 es.length ks.len c.length c0 c1 c2 hn)
 have jc:=ah (fun W (f:aj au w W)=>(show dL W (.slice a2 c.length c2) c from Rd.aP h.ctx f))
 have hcl:=hok.len
 have jd:=ah (fun W va vb a b ha hb ra rb la lb=>EZ W va vb a b ha hb ra rb la lb)
 have HB0:=ah (fun W va vb a b ha hb ra rb la lb=>EY W va vb a b ha hb ra rb la lb)
 clear h hok
 have bF:=ah (ql w (.int .i64 dc) (.int .i64 af) (.int .i64 la) (.int .i64 v0) (.int .i64 v1) (.int .i64 v2) (.int .i64 v3) (.slice a0 es.length c0) (.slice a1 ks.len c1) (.slice a2 c.length c2) 55)
 have hfa:aj au w (w.alloc (.cells #[.int .i64 dc, .int .i64 af, .int .i64 la, .int .i64 v0, .int .i64 v1, .int .i64 v2, .int .i64 v3, .slice a0 es.length c0, .slice a1 ks.len c1, .slice a2 c.length c2] 55)):=aj.alloc _ _ _
 have fA:=ah hfa;clear hfa
 by_cases hn:jl dc af la (aS v0 v1 v2 v3)
 rotate_left 1
 ·rw[bn hn]at eU
  rw[bn fun h=>hn h.nums]
  clear hn iR lF HOW jc jd HB0 hcl
  generalize es.length=n at*
  generalize ks.len=m at*
  generalize c.length=k at*
  go_enter Tryz.func24,Tryz.ntmps24
  go_wp2_with(go_at_call 85;refine(eU.out _).mono ?_;rintro e w1 ⟨rfl,hw1⟩;have HW1:=ah (fA.out.ay hw1);clear hw1)
  go_ret
  exact⟨rfl,HW1.out⟩
 rw[bM hn]at eU
 by_cases hc:eG es ks c
 rotate_left 1
 ·rw[bn hc]at iR
  rw[bn fun h=>hc ⟨h.tree,h.ctx,h.dots⟩]
  clear hn hc lF HOW jc jd HB0 hcl
  generalize es.length=n at*
  generalize ks.len=m at*
  generalize c.length=k at*
  go_enter Tryz.func24,Tryz.ntmps24
  go_wp2_with(first
   |(go_at_call 85;refine(eU.out _).mono ?_;rintro e w1 ⟨rfl,hw1⟩;obtain⟨y0,y1,y2,y3,y4,y5,y6,y7,y8,y9⟩:=bF.out w1 hw1;have HW1:=ah (fA.out.ay hw1);clear hw1)
   |(go_at_call 86;refine(iR.out _ HW1.out).mono ?_;rintro e w2 ⟨rfl,hw2⟩;have HW2:=ah (HW1.out.ay hw2);clear hw2))
  go_ret
  exact⟨rfl,HW2.out⟩
 rw[bM hc]at iR
 rcases Nat.eq_zero_or_pos es.length with he0|vV
 rotate_left 1
 ·rw[bn fun h=>by rw[h.bare]at vV;cases vV]
  clear hn hc lF HOW jc jd HB0 hcl
  generalize es.length=n at*
  generalize ks.len=m at*
  generalize c.length=k at*
  go_enter Tryz.func24,Tryz.ntmps24
  go_wp2_with(first
   |(go_at_call 85;refine(eU.out _).mono ?_;rintro e w1 ⟨rfl,hw1⟩;obtain⟨y0,y1,y2,y3,y4,y5,y6,y7,y8,y9⟩:=bF.out w1 hw1;have HW1:=ah hw1;clear hw1)
   |(go_at_call 86;refine(iR.out _ (fA.out.ay HW1.out)).mono ?_;rintro e w2 ⟨rfl,hw2⟩;clear y0 y1 y2 y3 y4 y5 y6 y7 y8 y9;obtain⟨y0,y1,y2,y3,y4,y5,y6,y7,y8,y9⟩:=bF.out w2 (HW1.out.ay hw2);have HW2:=ah (HW1.out.ay hw2);clear hw2))
  go_ret
  exact⟨rfl,fA.out.ay HW2.out⟩
 have hes:es=[]:=List.eq_nil_of_length_eq_zero he0
 have kS:=ah hc.tree
 have jR:=ah hc.ctx
 have qZ:=ah (uT hc.tree)
 have je:=ah hn.tY
 have iF:=ah hn
 have hp1:∀d,ku (bU es ks) d→tf (fK d [(dc,af+1,la)])=tf (mM (bU es ks) [(dc,af+1,la)]):=fun d hd=>lI (hd.leq qZ.out)
 have hp3:∀q,fU 2 c [(dc,af+1,la)] q→tf (fK q (eH (dA (aS v0 v1 v2 v3) dc af)))=tf (fK c (eH (dA (aS v0 v1 v2 v3) dc la))):=fun q hq=>lI (MW iF.out jR.out hq).symm
 have hfr:bH (eH (dA (aS v0 v1 v2 v3) dc af)):=Ey fun d h0 h4=>(hn.CU (x:=af) hn.2.2.1 (by have:=hn.2.2.2.1;have:=hn.2.2.2.2.1;omega) d h0 h4).2
 have jy:=ah hfr;clear hfr
 have ru:=ah hp1;clear hp1
 have CV:=ah hp3;clear hp3
 have hall:tf (fO dc af la (aS v0 v1 v2 v3) es ks c)=(tf (mM (bU es ks) [(dc,af+1,la)])&&(tf (fK [(dc,af+1,la)] c)&&tf (fK c (eH (dA (aS v0 v1 v2 v3) dc la))))):=by
  rw[Bool.eq_iff_iff]
  simp only[Bool.and_eq_true,o_]
  exact⟨fun h=>⟨h.mine,h.own,h.may⟩,fun h=>⟨hn,hc.tree,hc.ctx,hc.dots,hes,h.1,h.2.1,h.2.2⟩⟩
 rw[hall]
 have jS:=ah hcl
 obtain⟨dn,hdn⟩:∃dn:Nat,dc=dn:=⟨dc.toNat,by have:=hn.1;omega⟩
 have hd4:dn<4:=by have:=hn.2.1;omega
 have nS:(dn:Int)<4:=by omega
 have zo:decide ((dn:Int)<4)=true:=by simpa using nS
 clear hall hn hc hes hcl
 subst hdn
 generalize tf (fK c (eH (dA (aS v0 v1 v2 v3) dn la)))=b3 at*
 generalize hb2:tf (fK [((dn:Int),af+1,la)] c)=b2 at*
 have HP2:=ah hb2;clear hb2
 generalize tf (mM (bU es ks) [((dn:Int),af+1,la)])=b1 at*
 have mF:=ah (fun W=>Qs W 25 v0 v1 v2 v3 af dn hd4)
 have Dn:=ah (fun W=>Qu W 25 v0 v1 v2 v3 dn hd4)
 generalize hgg:dA (aS v0 v1 v2 v3) dn af=g at*
 clear hgg
 have Qv:=ah (show eH (aS (g 0) (g 1) (g 2) (g 3))=eH g from vT fun d h0 h4=>by rcases four h0 h4 with rfl|rfl|rfl|rfl<;>simp[aS])
 generalize hel:es.length=n at*
 subst he0
 clear hel
 generalize ks.len=m at*
 generalize hck:c.length=k at*
 have nT:=ah hck;clear hck
 cases b1 with
 |false=>
  go_enter Tryz.func24,Tryz.ntmps24
  go_wp2_with(first
   |(go_at_call 85;refine(eU.out _).mono ?_;rintro e w1 ⟨rfl,hw1⟩;obtain⟨y0,y1,y2,y3,y4,y5,y6,y7,y8,y9⟩:=bF.out w1 hw1;have HW1:=ah hw1;clear hw1)
   |(go_at_call 86;refine(iR.out _ (fA.out.ay HW1.out)).mono ?_;rintro e w2 ⟨rfl,hw2⟩;clear y0 y1 y2 y3 y4 y5 y6 y7 y8 y9;obtain⟨y0,y1,y2,y3,y4,y5,y6,y7,y8,y9⟩:=bF.out w2 (HW1.out.ay hw2);obtain⟨wB,hvf⟩:=Dn.out w2;have hbl:w.heap.size<w2.heap.size:=World.block_lt_of_cell? _ _ y0;have HW2:=ah (HW1.out.ay hw2);clear hw2))
  clear y0 y1 y2 y3 y4 y5 y6 y7 y8 y9 wB hvf hbl
  have hvs:=mF.out w2
  have mY:=ah (HW2.out.ay hvs.2)
  obtain⟨y0,y1,y2,y3,y4,y5,y6,y7,y8,y9⟩:=bF.out _ mY.out
  have oV:=hvs.1 0 (by decide)
  have vs1:=hvs.1 1 (by decide)
  have vs2:=hvs.1 2 (by decide)
  have vs3:=hvs.1 3 (by decide)
  clear hvs HW2
  generalize w2.heap.size=vb at*
  generalize (w2.alloc (.cells (([.int .i64 v0, .int .i64 v1, .int .i64 v2, .int .i64 v3]:List Value).set dn (.int .i64 af)).toArray 25))=X0 at*
  refine gX (S:=fun w'=>w'.cell? ⟨w.heap.size,0,none⟩=some (.int .i64 dn)∧w'.cell? ⟨w.heap.size,1,none⟩=some (.int .i64 af)∧w'.cell? ⟨w.heap.size,2,none⟩=some (.int .i64 la)∧w'.cell? ⟨w.heap.size,3,none⟩=some (.int .i64 v0)∧w'.cell? ⟨w.heap.size,4,none⟩=some (.int .i64 v1)∧w'.cell? ⟨w.heap.size,5,none⟩=some (.int .i64 v2)∧w'.cell? ⟨w.heap.size,6,none⟩=some (.int .i64 v3)∧w'.cell? ⟨w.heap.size,7,none⟩=some (.slice a0 0 c0)∧w'.cell? ⟨w.heap.size,8,none⟩=some (.slice a1 m c1)∧w'.cell? ⟨w.heap.size,9,none⟩=some (.slice a2 k c2)∧w'.cell? ⟨vb,0,none⟩=some (.int .i64 (g 0))∧w'.cell? ⟨vb,1,none⟩=some (.int .i64 (g 1))∧w'.cell? ⟨vb,2,none⟩=some (.int .i64 (g 2))∧w'.cell? ⟨vb,3,none⟩=some (.int .i64 (g 3))) 6 (by kernel_rfl) ⟨y0,y1,y2,y3,y4,y5,y6,y7,y8,y9,oV,vs1,vs2,vs3⟩ ?_
  intro hS
  have cu:=ah (fun Y Y' (f:aj au Y Y') (hS:Y.cell? ⟨w.heap.size,0,none⟩=some (.int .i64 dn)∧Y.cell? ⟨w.heap.size,1,none⟩=some (.int .i64 af)∧Y.cell? ⟨w.heap.size,2,none⟩=some (.int .i64 la)∧Y.cell? ⟨w.heap.size,3,none⟩=some (.int .i64 v0)∧Y.cell? ⟨w.heap.size,4,none⟩=some (.int .i64 v1)∧Y.cell? ⟨w.heap.size,5,none⟩=some (.int .i64 v2)∧Y.cell? ⟨w.heap.size,6,none⟩=some (.int .i64 v3)∧Y.cell? ⟨w.heap.size,7,none⟩=some (.slice a0 0 c0)∧Y.cell? ⟨w.heap.size,8,none⟩=some (.slice a1 m c1)∧Y.cell? ⟨w.heap.size,9,none⟩=some (.slice a2 k c2)∧Y.cell? ⟨vb,0,none⟩=some (.int .i64 (g 0))∧Y.cell? ⟨vb,1,none⟩=some (.int .i64 (g 1))∧Y.cell? ⟨vb,2,none⟩=some (.int .i64 (g 2))∧Y.cell? ⟨vb,3,none⟩=some (.int .i64 (g 3)))=>(⟨f.cell' hS.1 id,f.cell' hS.2.1 id,f.cell' hS.2.2.1 id,f.cell' hS.2.2.2.1 id,f.cell' hS.2.2.2.2.1 id,f.cell' hS.2.2.2.2.2.1 id,f.cell' hS.2.2.2.2.2.2.1 id,f.cell' hS.2.2.2.2.2.2.2.1 id,f.cell' hS.2.2.2.2.2.2.2.2.1 id,f.cell' hS.2.2.2.2.2.2.2.2.2.1 id,f.cell' hS.2.2.2.2.2.2.2.2.2.2.1 id,f.cell' hS.2.2.2.2.2.2.2.2.2.2.2.1 id,f.cell' hS.2.2.2.2.2.2.2.2.2.2.2.2.1 id,f.cell' hS.2.2.2.2.2.2.2.2.2.2.2.2.2 id⟩:Y'.cell? ⟨w.heap.size,0,none⟩=some (.int .i64 dn)∧Y'.cell? ⟨w.heap.size,1,none⟩=some (.int .i64 af)∧Y'.cell? ⟨w.heap.size,2,none⟩=some (.int .i64 la)∧Y'.cell? ⟨w.heap.size,3,none⟩=some (.int .i64 v0)∧Y'.cell? ⟨w.heap.size,4,none⟩=some (.int .i64 v1)∧Y'.cell? ⟨w.heap.size,5,none⟩=some (.int .i64 v2)∧Y'.cell? ⟨w.heap.size,6,none⟩=some (.int .i64 v3)∧Y'.cell? ⟨w.heap.size,7,none⟩=some (.slice a0 0 c0)∧Y'.cell? ⟨w.heap.size,8,none⟩=some (.slice a1 m c1)∧Y'.cell? ⟨w.heap.size,9,none⟩=some (.slice a2 k c2)∧Y'.cell? ⟨vb,0,none⟩=some (.int .i64 (g 0))∧Y'.cell? ⟨vb,1,none⟩=some (.int .i64 (g 1))∧Y'.cell? ⟨vb,2,none⟩=some (.int .i64 (g 2))∧Y'.cell? ⟨vb,3,none⟩=some (.int .i64 (g 3))))
  have gU:=ah ((fA.out.ay mY.out).ay (aj.drew au X0))
  clear y0 y1 y2 y3 y4 y5 y6 y7 y8 y9 oV vs1 vs2 vs3 mY
  generalize X0.drew=Y at*
  refine aT 0 29 rfl rfl (v:=?_) (.inl ⟨by rfl,?_⟩) ?_
  rotate_left 1
  ·(intro w hSw;(try dsimp only at hSw);go_simp;(try with_reducible rfl))
  refine aT 1 30 rfl rfl (v:=?_) (.inl ⟨by rfl,?_⟩) ?_
  rotate_left 1
  ·(intro w hSw;(try dsimp only at hSw);go_simp;(try with_reducible rfl))
  try simp only[Act.put,aJ,aN,aO]
  refine aT 2 31 rfl rfl (v:=?_) (.inl ⟨by rfl,?_⟩) ?_
  rotate_left 1
  ·(intro w hSw;(try dsimp only at hSw);go_simp;(try with_reducible rfl))
  refine aT 3 32 rfl rfl (v:=?_) (.inl ⟨by rfl,?_⟩) ?_
  rotate_left 1
  ·(intro w hSw;(try dsimp only at hSw);go_simp;(try with_reducible rfl))
  try simp only[Act.put,aJ,aN,aO]
  refine bD (i:=4) (by kernel_rfl) rfl (fun K hK=>?_)
  go_simp
  refine(HOW.out _ iF.out).mono ?_
  rintro e Y1 ⟨v1',rfl,hc1,hf1⟩;obtain⟨vX,vY,rfl⟩:∃a c,v1'= .slice a 1 c:=Rd.sl hc1
  have hS:=cu.out _ _ hf1 hS
  refine hK.out _ _ hS ?_
  clear hK K
  have dN:=ah (gU.out.ay hf1);have kH:=ah hc1;clear hc1 hf1
  try simp only[Act.put,aJ,aN,aO]
  refine bD (i:=5) (by kernel_rfl) rfl (fun K hK=>?_)
  go_simp
  refine(HB0.out _ _ _ c _ (jc.out _ dN.out) kH.out jR.out je.out (by have:=jS.out;have:=nT.out;omega) (by simp)).mono ?_
  rintro e Y2 ⟨v2',q,rfl,ho2,hby,-⟩;obtain⟨IL,IQ,rfl⟩:=ho2.shape;have hf2:=ho2.aH
  have hS:=cu.out _ _ hf2 hS
  refine hK.out _ _ hS ?_
  clear hK K
  have HF2:=ah (dN.out.ay hf2);have dD:=ah ho2;have rD:=ah hby;clear ho2 hf2 hby
  try simp only[Act.put,aJ,aN,aO]
  refine fD (by kernel_rfl) (by kernel_rfl) rfl (fun K hK=>?_)
  go_simp
  refine hK.out _ _ ?_
  clear hK K
  go_wp2_with fail
  refine gX (S:=fun w'=>w'.cell? ⟨w.heap.size,0,none⟩=some (.int .i64 dn)∧w'.cell? ⟨w.heap.size,1,none⟩=some (.int .i64 af)∧w'.cell? ⟨w.heap.size,2,none⟩=some (.int .i64 la)∧w'.cell? ⟨w.heap.size,3,none⟩=some (.int .i64 v0)∧w'.cell? ⟨w.heap.size,4,none⟩=some (.int .i64 v1)∧w'.cell? ⟨w.heap.size,5,none⟩=some (.int .i64 v2)∧w'.cell? ⟨w.heap.size,6,none⟩=some (.int .i64 v3)∧w'.cell? ⟨w.heap.size,7,none⟩=some (.slice a0 0 c0)∧w'.cell? ⟨w.heap.size,8,none⟩=some (.slice a1 m c1)∧w'.cell? ⟨w.heap.size,9,none⟩=some (.slice a2 k c2)∧w'.cell? ⟨vb,0,none⟩=some (.int .i64 (g 0))∧w'.cell? ⟨vb,1,none⟩=some (.int .i64 (g 1))∧w'.cell? ⟨vb,2,none⟩=some (.int .i64 (g 2))∧w'.cell? ⟨vb,3,none⟩=some (.int .i64 (g 3))) 21 (by kernel_rfl) ⟨(aj.drew au Y2).cell' hS.1 id,(aj.drew au Y2).cell' hS.2.1 id,(aj.drew au Y2).cell' hS.2.2.1 id,(aj.drew au Y2).cell' hS.2.2.2.1 id,(aj.drew au Y2).cell' hS.2.2.2.2.1 id,(aj.drew au Y2).cell' hS.2.2.2.2.2.1 id,(aj.drew au Y2).cell' hS.2.2.2.2.2.2.1 id,(aj.drew au Y2).cell' hS.2.2.2.2.2.2.2.1 id,(aj.drew au Y2).cell' hS.2.2.2.2.2.2.2.2.1 id,(aj.drew au Y2).cell' hS.2.2.2.2.2.2.2.2.2.1 id,(aj.drew au Y2).cell' hS.2.2.2.2.2.2.2.2.2.2.1 id,(aj.drew au Y2).cell' hS.2.2.2.2.2.2.2.2.2.2.2.1 id,(aj.drew au Y2).cell' hS.2.2.2.2.2.2.2.2.2.2.2.2.1 id,(aj.drew au Y2).cell' hS.2.2.2.2.2.2.2.2.2.2.2.2.2 id⟩ ?_
  clear hS
  intro hS
  have cu:=ah (fun Y Y' (f:aj au Y Y') (hS:Y.cell? ⟨w.heap.size,0,none⟩=some (.int .i64 dn)∧Y.cell? ⟨w.heap.size,1,none⟩=some (.int .i64 af)∧Y.cell? ⟨w.heap.size,2,none⟩=some (.int .i64 la)∧Y.cell? ⟨w.heap.size,3,none⟩=some (.int .i64 v0)∧Y.cell? ⟨w.heap.size,4,none⟩=some (.int .i64 v1)∧Y.cell? ⟨w.heap.size,5,none⟩=some (.int .i64 v2)∧Y.cell? ⟨w.heap.size,6,none⟩=some (.int .i64 v3)∧Y.cell? ⟨w.heap.size,7,none⟩=some (.slice a0 0 c0)∧Y.cell? ⟨w.heap.size,8,none⟩=some (.slice a1 m c1)∧Y.cell? ⟨w.heap.size,9,none⟩=some (.slice a2 k c2)∧Y.cell? ⟨vb,0,none⟩=some (.int .i64 (g 0))∧Y.cell? ⟨vb,1,none⟩=some (.int .i64 (g 1))∧Y.cell? ⟨vb,2,none⟩=some (.int .i64 (g 2))∧Y.cell? ⟨vb,3,none⟩=some (.int .i64 (g 3)))=>(⟨f.cell' hS.1 id,f.cell' hS.2.1 id,f.cell' hS.2.2.1 id,f.cell' hS.2.2.2.1 id,f.cell' hS.2.2.2.2.1 id,f.cell' hS.2.2.2.2.2.1 id,f.cell' hS.2.2.2.2.2.2.1 id,f.cell' hS.2.2.2.2.2.2.2.1 id,f.cell' hS.2.2.2.2.2.2.2.2.1 id,f.cell' hS.2.2.2.2.2.2.2.2.2.1 id,f.cell' hS.2.2.2.2.2.2.2.2.2.2.1 id,f.cell' hS.2.2.2.2.2.2.2.2.2.2.2.1 id,f.cell' hS.2.2.2.2.2.2.2.2.2.2.2.2.1 id,f.cell' hS.2.2.2.2.2.2.2.2.2.2.2.2.2 id⟩:Y'.cell? ⟨w.heap.size,0,none⟩=some (.int .i64 dn)∧Y'.cell? ⟨w.heap.size,1,none⟩=some (.int .i64 af)∧Y'.cell? ⟨w.heap.size,2,none⟩=some (.int .i64 la)∧Y'.cell? ⟨w.heap.size,3,none⟩=some (.int .i64 v0)∧Y'.cell? ⟨w.heap.size,4,none⟩=some (.int .i64 v1)∧Y'.cell? ⟨w.heap.size,5,none⟩=some (.int .i64 v2)∧Y'.cell? ⟨w.heap.size,6,none⟩=some (.int .i64 v3)∧Y'.cell? ⟨w.heap.size,7,none⟩=some (.slice a0 0 c0)∧Y'.cell? ⟨w.heap.size,8,none⟩=some (.slice a1 m c1)∧Y'.cell? ⟨w.heap.size,9,none⟩=some (.slice a2 k c2)∧Y'.cell? ⟨vb,0,none⟩=some (.int .i64 (g 0))∧Y'.cell? ⟨vb,1,none⟩=some (.int .i64 (g 1))∧Y'.cell? ⟨vb,2,none⟩=some (.int .i64 (g 2))∧Y'.cell? ⟨vb,3,none⟩=some (.int .i64 (g 3))))
  have HF3:=ah (HF2.out.ay (aj.drew au Y2))
  have wC:=ah (dD.out.rd.aP (aj.drew au Y2))
  have Dp:=ah (show q.length≤4*(c.length+1)from rD.out.Bq jR.out je.out)
  generalize Y2.drew=Z at*
  refine aT 0 35 rfl rfl (v:=?_) (.inl ⟨by rfl,?_⟩) ?_
  rotate_left 1
  ·(intro w hSw;(try dsimp only at hSw);go_simp;(try with_reducible rfl))
  refine aT 1 36 rfl rfl (v:=?_) (.inl ⟨by rfl,?_⟩) ?_
  rotate_left 1
  ·(intro w hSw;(try dsimp only at hSw);go_simp;(try with_reducible rfl))
  try simp only[Act.put,aJ,aN,aO]
  refine aT 2 37 rfl rfl (v:=?_) (.inl ⟨by rfl,?_⟩) ?_
  rotate_left 1
  ·(intro w hSw;(try dsimp only at hSw);go_simp;(try with_reducible rfl))
  refine aT 4 39 rfl rfl (v:=?_) (.inl ⟨by rfl,?_⟩) ?_
  rotate_left 1
  ·(intro w hSw;(try dsimp only at hSw);go_simp;(try with_reducible rfl))
  try simp only[Act.put,aJ,aN,aO]
  refine bD (i:=3) (by kernel_rfl) rfl (fun K hK=>?_)
  go_simp
  refine(lF.out _ HF3.out qZ.out).mono ?_
  rintro e Z1 ⟨v1',d,rfl,dh,hof,hl4⟩;obtain⟨IU,IV,rfl⟩:=dh.shape;have hf4:=dh.aH
  have hS:=cu.out _ _ hf4 hS
  refine hK.out _ _ hS ?_
  clear hK K
  have jG:=ah (HF3.out.ay hf4);have wE:=ah (wC.out.aP hf4);have iD:=ah dh;have eX:=ah hof;have wF:=ah hl4;clear dh hf4 hof hl4
  try simp only[Act.put,aJ,aN,aO]
  refine bD (i:=5) (by kernel_rfl) rfl (fun K hK=>?_)
  go_simp
  refine(HOW.out _ iF.out).mono ?_
  rintro e Z2 ⟨v2',rfl,hc5,hf5⟩;obtain⟨IW,IX,rfl⟩:∃a c,v2'= .slice a 1 c:=Rd.sl hc5
  have hS:=cu.out _ _ hf5 hS
  refine hK.out _ _ hS ?_
  clear hK K
  have lW:=ah (jG.out.ay hf5);have wG:=ah (wE.out.aP hf5);have HD5:=ah (iD.out.rd.aP hf5);have wH:=ah hc5;clear hc5 hf5
  try simp only[Act.put,aJ,aN,aO]
  refine bD (i:=6) (by kernel_rfl) rfl (fun K hK=>?_)
  go_simp
  refine(jd.out _ _ _ d _ HD5.out wH.out eX.out.right je.out (by have:=wF.out;omega) (by simp)).mono ?_
  rintro e Z3 ⟨rfl,jr⟩;rw[ru.out d eX.out]
  have hS:=cu.out _ _ jr hS
  refine hK.out _ _ hS ?_
  clear hK K
  have HF6:=ah (lW.out.ay jr);have zB:=ah (wG.out.aP jr);clear jr
  try simp only[Act.put,aJ,aN,aO]
  refine aT 7 42 rfl rfl (v:=?_) (.inl ⟨by rfl,?_⟩) ?_
  rotate_left 1
  ·(intro w hSw;(try dsimp only at hSw);go_simp;(try with_reducible rfl))
  refine b_ 8 43 rfl rfl ?_
  try simp only[Act.put,aJ,aN,aO]
  refine b_ 9 44 rfl rfl ?_
  refine b_ 10 45 rfl rfl ?_
  try simp only[Act.put,aJ,aN,aO]
  refine b_ 11 46 rfl rfl ?_
  refine b_ 12 47 rfl rfl ?_
  try simp only[Act.put,aJ,aN,aO]
  refine b_ 13 48 rfl rfl ?_
  refine aT 14 49 rfl rfl (v:=?_) (.inl ⟨by rfl,?_⟩) ?_
  rotate_left 1
  ·(intro w hSw;(try dsimp only at hSw);go_simp;(try with_reducible rfl))
  try simp only[Act.put,aJ,aN,aO]
  refine aT 15 50 rfl rfl (v:=?_) (.inl ⟨by rfl,?_⟩) ?_
  rotate_left 1
  ·(intro w hSw;(try dsimp only at hSw);go_simp;(try with_reducible rfl))
  refine b_ 16 51 rfl rfl ?_
  try simp only[Act.put,aJ,aN,aO]
  refine b_ 17 52 rfl rfl ?_
  refine b_ 18 53 rfl rfl ?_
  try simp only[Act.put,aJ,aN,aO]
  refine b_ 19 54 rfl rfl ?_
  refine aT 20 55 rfl rfl (v:=?_) (.inl ⟨by rfl,?_⟩) ?_
  rotate_left 1
  ·(intro w hSw;(try dsimp only at hSw);go_simp;(try with_reducible rfl))
  try simp only[Act.put,aJ,aN,aO]
  refine fD (by kernel_rfl) (by kernel_rfl) rfl (fun K hK=>?_)
  go_simp
  refine hK.out _ _ ?_
  clear hK K hS
  go_wp2
  go_ret
  exact⟨rfl,HF6.out⟩
 |true=>
  cases b2 with
  |false=>
   go_enter Tryz.func24,Tryz.ntmps24
   go_wp2_with(first
    |(go_at_call 85;refine(eU.out _).mono ?_;rintro e w1 ⟨rfl,hw1⟩;obtain⟨y0,y1,y2,y3,y4,y5,y6,y7,y8,y9⟩:=bF.out w1 hw1;have HW1:=ah hw1;clear hw1)
    |(go_at_call 86;refine(iR.out _ (fA.out.ay HW1.out)).mono ?_;rintro e w2 ⟨rfl,hw2⟩;clear y0 y1 y2 y3 y4 y5 y6 y7 y8 y9;obtain⟨y0,y1,y2,y3,y4,y5,y6,y7,y8,y9⟩:=bF.out w2 (HW1.out.ay hw2);obtain⟨wB,hvf⟩:=Dn.out w2;have hbl:w.heap.size<w2.heap.size:=World.block_lt_of_cell? _ _ y0;have HW2:=ah (HW1.out.ay hw2);clear hw2))
   clear y0 y1 y2 y3 y4 y5 y6 y7 y8 y9 wB hvf hbl
   have hvs:=mF.out w2
   have mY:=ah (HW2.out.ay hvs.2)
   obtain⟨y0,y1,y2,y3,y4,y5,y6,y7,y8,y9⟩:=bF.out _ mY.out
   have oV:=hvs.1 0 (by decide)
   have vs1:=hvs.1 1 (by decide)
   have vs2:=hvs.1 2 (by decide)
   have vs3:=hvs.1 3 (by decide)
   clear hvs HW2
   generalize w2.heap.size=vb at*
   generalize (w2.alloc (.cells (([.int .i64 v0, .int .i64 v1, .int .i64 v2, .int .i64 v3]:List Value).set dn (.int .i64 af)).toArray 25))=X0 at*
   refine gX (S:=fun w'=>w'.cell? ⟨w.heap.size,0,none⟩=some (.int .i64 dn)∧w'.cell? ⟨w.heap.size,1,none⟩=some (.int .i64 af)∧w'.cell? ⟨w.heap.size,2,none⟩=some (.int .i64 la)∧w'.cell? ⟨w.heap.size,3,none⟩=some (.int .i64 v0)∧w'.cell? ⟨w.heap.size,4,none⟩=some (.int .i64 v1)∧w'.cell? ⟨w.heap.size,5,none⟩=some (.int .i64 v2)∧w'.cell? ⟨w.heap.size,6,none⟩=some (.int .i64 v3)∧w'.cell? ⟨w.heap.size,7,none⟩=some (.slice a0 0 c0)∧w'.cell? ⟨w.heap.size,8,none⟩=some (.slice a1 m c1)∧w'.cell? ⟨w.heap.size,9,none⟩=some (.slice a2 k c2)∧w'.cell? ⟨vb,0,none⟩=some (.int .i64 (g 0))∧w'.cell? ⟨vb,1,none⟩=some (.int .i64 (g 1))∧w'.cell? ⟨vb,2,none⟩=some (.int .i64 (g 2))∧w'.cell? ⟨vb,3,none⟩=some (.int .i64 (g 3))) 6 (by kernel_rfl) ⟨y0,y1,y2,y3,y4,y5,y6,y7,y8,y9,oV,vs1,vs2,vs3⟩ ?_
   intro hS
   have cu:=ah (fun Y Y' (f:aj au Y Y') (hS:Y.cell? ⟨w.heap.size,0,none⟩=some (.int .i64 dn)∧Y.cell? ⟨w.heap.size,1,none⟩=some (.int .i64 af)∧Y.cell? ⟨w.heap.size,2,none⟩=some (.int .i64 la)∧Y.cell? ⟨w.heap.size,3,none⟩=some (.int .i64 v0)∧Y.cell? ⟨w.heap.size,4,none⟩=some (.int .i64 v1)∧Y.cell? ⟨w.heap.size,5,none⟩=some (.int .i64 v2)∧Y.cell? ⟨w.heap.size,6,none⟩=some (.int .i64 v3)∧Y.cell? ⟨w.heap.size,7,none⟩=some (.slice a0 0 c0)∧Y.cell? ⟨w.heap.size,8,none⟩=some (.slice a1 m c1)∧Y.cell? ⟨w.heap.size,9,none⟩=some (.slice a2 k c2)∧Y.cell? ⟨vb,0,none⟩=some (.int .i64 (g 0))∧Y.cell? ⟨vb,1,none⟩=some (.int .i64 (g 1))∧Y.cell? ⟨vb,2,none⟩=some (.int .i64 (g 2))∧Y.cell? ⟨vb,3,none⟩=some (.int .i64 (g 3)))=>(⟨f.cell' hS.1 id,f.cell' hS.2.1 id,f.cell' hS.2.2.1 id,f.cell' hS.2.2.2.1 id,f.cell' hS.2.2.2.2.1 id,f.cell' hS.2.2.2.2.2.1 id,f.cell' hS.2.2.2.2.2.2.1 id,f.cell' hS.2.2.2.2.2.2.2.1 id,f.cell' hS.2.2.2.2.2.2.2.2.1 id,f.cell' hS.2.2.2.2.2.2.2.2.2.1 id,f.cell' hS.2.2.2.2.2.2.2.2.2.2.1 id,f.cell' hS.2.2.2.2.2.2.2.2.2.2.2.1 id,f.cell' hS.2.2.2.2.2.2.2.2.2.2.2.2.1 id,f.cell' hS.2.2.2.2.2.2.2.2.2.2.2.2.2 id⟩:Y'.cell? ⟨w.heap.size,0,none⟩=some (.int .i64 dn)∧Y'.cell? ⟨w.heap.size,1,none⟩=some (.int .i64 af)∧Y'.cell? ⟨w.heap.size,2,none⟩=some (.int .i64 la)∧Y'.cell? ⟨w.heap.size,3,none⟩=some (.int .i64 v0)∧Y'.cell? ⟨w.heap.size,4,none⟩=some (.int .i64 v1)∧Y'.cell? ⟨w.heap.size,5,none⟩=some (.int .i64 v2)∧Y'.cell? ⟨w.heap.size,6,none⟩=some (.int .i64 v3)∧Y'.cell? ⟨w.heap.size,7,none⟩=some (.slice a0 0 c0)∧Y'.cell? ⟨w.heap.size,8,none⟩=some (.slice a1 m c1)∧Y'.cell? ⟨w.heap.size,9,none⟩=some (.slice a2 k c2)∧Y'.cell? ⟨vb,0,none⟩=some (.int .i64 (g 0))∧Y'.cell? ⟨vb,1,none⟩=some (.int .i64 (g 1))∧Y'.cell? ⟨vb,2,none⟩=some (.int .i64 (g 2))∧Y'.cell? ⟨vb,3,none⟩=some (.int .i64 (g 3))))
   have gU:=ah ((fA.out.ay mY.out).ay (aj.drew au X0))
   clear y0 y1 y2 y3 y4 y5 y6 y7 y8 y9 oV vs1 vs2 vs3 mY
   generalize X0.drew=Y at*
   refine aT 0 29 rfl rfl (v:=?_) (.inl ⟨by rfl,?_⟩) ?_
   rotate_left 1
   ·(intro w hSw;(try dsimp only at hSw);go_simp;(try with_reducible rfl))
   refine aT 1 30 rfl rfl (v:=?_) (.inl ⟨by rfl,?_⟩) ?_
   rotate_left 1
   ·(intro w hSw;(try dsimp only at hSw);go_simp;(try with_reducible rfl))
   try simp only[Act.put,aJ,aN,aO]
   refine aT 2 31 rfl rfl (v:=?_) (.inl ⟨by rfl,?_⟩) ?_
   rotate_left 1
   ·(intro w hSw;(try dsimp only at hSw);go_simp;(try with_reducible rfl))
   refine aT 3 32 rfl rfl (v:=?_) (.inl ⟨by rfl,?_⟩) ?_
   rotate_left 1
   ·(intro w hSw;(try dsimp only at hSw);go_simp;(try with_reducible rfl))
   try simp only[Act.put,aJ,aN,aO]
   refine bD (i:=4) (by kernel_rfl) rfl (fun K hK=>?_)
   go_simp
   refine(HOW.out _ iF.out).mono ?_
   rintro e Y1 ⟨v1',rfl,hc1,hf1⟩;obtain⟨vX,vY,rfl⟩:∃a c,v1'= .slice a 1 c:=Rd.sl hc1
   have hS:=cu.out _ _ hf1 hS
   refine hK.out _ _ hS ?_
   clear hK K
   have dN:=ah (gU.out.ay hf1);have kH:=ah hc1;clear hc1 hf1
   try simp only[Act.put,aJ,aN,aO]
   refine bD (i:=5) (by kernel_rfl) rfl (fun K hK=>?_)
   go_simp
   refine(HB0.out _ _ _ c _ (jc.out _ dN.out) kH.out jR.out je.out (by have:=jS.out;have:=nT.out;omega) (by simp)).mono ?_
   rintro e Y2 ⟨v2',q,rfl,ho2,hby,-⟩;obtain⟨IL,IQ,rfl⟩:=ho2.shape;have hf2:=ho2.aH
   have hS:=cu.out _ _ hf2 hS
   refine hK.out _ _ hS ?_
   clear hK K
   have HF2:=ah (dN.out.ay hf2);have dD:=ah ho2;have rD:=ah hby;clear ho2 hf2 hby
   try simp only[Act.put,aJ,aN,aO]
   refine fD (by kernel_rfl) (by kernel_rfl) rfl (fun K hK=>?_)
   go_simp
   refine hK.out _ _ ?_
   clear hK K
   go_wp2_with fail
   refine gX (S:=fun w'=>w'.cell? ⟨w.heap.size,0,none⟩=some (.int .i64 dn)∧w'.cell? ⟨w.heap.size,1,none⟩=some (.int .i64 af)∧w'.cell? ⟨w.heap.size,2,none⟩=some (.int .i64 la)∧w'.cell? ⟨w.heap.size,3,none⟩=some (.int .i64 v0)∧w'.cell? ⟨w.heap.size,4,none⟩=some (.int .i64 v1)∧w'.cell? ⟨w.heap.size,5,none⟩=some (.int .i64 v2)∧w'.cell? ⟨w.heap.size,6,none⟩=some (.int .i64 v3)∧w'.cell? ⟨w.heap.size,7,none⟩=some (.slice a0 0 c0)∧w'.cell? ⟨w.heap.size,8,none⟩=some (.slice a1 m c1)∧w'.cell? ⟨w.heap.size,9,none⟩=some (.slice a2 k c2)∧w'.cell? ⟨vb,0,none⟩=some (.int .i64 (g 0))∧w'.cell? ⟨vb,1,none⟩=some (.int .i64 (g 1))∧w'.cell? ⟨vb,2,none⟩=some (.int .i64 (g 2))∧w'.cell? ⟨vb,3,none⟩=some (.int .i64 (g 3))) 21 (by kernel_rfl) ⟨(aj.drew au Y2).cell' hS.1 id,(aj.drew au Y2).cell' hS.2.1 id,(aj.drew au Y2).cell' hS.2.2.1 id,(aj.drew au Y2).cell' hS.2.2.2.1 id,(aj.drew au Y2).cell' hS.2.2.2.2.1 id,(aj.drew au Y2).cell' hS.2.2.2.2.2.1 id,(aj.drew au Y2).cell' hS.2.2.2.2.2.2.1 id,(aj.drew au Y2).cell' hS.2.2.2.2.2.2.2.1 id,(aj.drew au Y2).cell' hS.2.2.2.2.2.2.2.2.1 id,(aj.drew au Y2).cell' hS.2.2.2.2.2.2.2.2.2.1 id,(aj.drew au Y2).cell' hS.2.2.2.2.2.2.2.2.2.2.1 id,(aj.drew au Y2).cell' hS.2.2.2.2.2.2.2.2.2.2.2.1 id,(aj.drew au Y2).cell' hS.2.2.2.2.2.2.2.2.2.2.2.2.1 id,(aj.drew au Y2).cell' hS.2.2.2.2.2.2.2.2.2.2.2.2.2 id⟩ ?_
   clear hS
   intro hS
   have cu:=ah (fun Y Y' (f:aj au Y Y') (hS:Y.cell? ⟨w.heap.size,0,none⟩=some (.int .i64 dn)∧Y.cell? ⟨w.heap.size,1,none⟩=some (.int .i64 af)∧Y.cell? ⟨w.heap.size,2,none⟩=some (.int .i64 la)∧Y.cell? ⟨w.heap.size,3,none⟩=some (.int .i64 v0)∧Y.cell? ⟨w.heap.size,4,none⟩=some (.int .i64 v1)∧Y.cell? ⟨w.heap.size,5,none⟩=some (.int .i64 v2)∧Y.cell? ⟨w.heap.size,6,none⟩=some (.int .i64 v3)∧Y.cell? ⟨w.heap.size,7,none⟩=some (.slice a0 0 c0)∧Y.cell? ⟨w.heap.size,8,none⟩=some (.slice a1 m c1)∧Y.cell? ⟨w.heap.size,9,none⟩=some (.slice a2 k c2)∧Y.cell? ⟨vb,0,none⟩=some (.int .i64 (g 0))∧Y.cell? ⟨vb,1,none⟩=some (.int .i64 (g 1))∧Y.cell? ⟨vb,2,none⟩=some (.int .i64 (g 2))∧Y.cell? ⟨vb,3,none⟩=some (.int .i64 (g 3)))=>(⟨f.cell' hS.1 id,f.cell' hS.2.1 id,f.cell' hS.2.2.1 id,f.cell' hS.2.2.2.1 id,f.cell' hS.2.2.2.2.1 id,f.cell' hS.2.2.2.2.2.1 id,f.cell' hS.2.2.2.2.2.2.1 id,f.cell' hS.2.2.2.2.2.2.2.1 id,f.cell' hS.2.2.2.2.2.2.2.2.1 id,f.cell' hS.2.2.2.2.2.2.2.2.2.1 id,f.cell' hS.2.2.2.2.2.2.2.2.2.2.1 id,f.cell' hS.2.2.2.2.2.2.2.2.2.2.2.1 id,f.cell' hS.2.2.2.2.2.2.2.2.2.2.2.2.1 id,f.cell' hS.2.2.2.2.2.2.2.2.2.2.2.2.2 id⟩:Y'.cell? ⟨w.heap.size,0,none⟩=some (.int .i64 dn)∧Y'.cell? ⟨w.heap.size,1,none⟩=some (.int .i64 af)∧Y'.cell? ⟨w.heap.size,2,none⟩=some (.int .i64 la)∧Y'.cell? ⟨w.heap.size,3,none⟩=some (.int .i64 v0)∧Y'.cell? ⟨w.heap.size,4,none⟩=some (.int .i64 v1)∧Y'.cell? ⟨w.heap.size,5,none⟩=some (.int .i64 v2)∧Y'.cell? ⟨w.heap.size,6,none⟩=some (.int .i64 v3)∧Y'.cell? ⟨w.heap.size,7,none⟩=some (.slice a0 0 c0)∧Y'.cell? ⟨w.heap.size,8,none⟩=some (.slice a1 m c1)∧Y'.cell? ⟨w.heap.size,9,none⟩=some (.slice a2 k c2)∧Y'.cell? ⟨vb,0,none⟩=some (.int .i64 (g 0))∧Y'.cell? ⟨vb,1,none⟩=some (.int .i64 (g 1))∧Y'.cell? ⟨vb,2,none⟩=some (.int .i64 (g 2))∧Y'.cell? ⟨vb,3,none⟩=some (.int .i64 (g 3))))
   have HF3:=ah (HF2.out.ay (aj.drew au Y2))
   have wC:=ah (dD.out.rd.aP (aj.drew au Y2))
   have Dp:=ah (show q.length≤4*(c.length+1)from rD.out.Bq jR.out je.out)
   generalize Y2.drew=Z at*
   refine aT 0 35 rfl rfl (v:=?_) (.inl ⟨by rfl,?_⟩) ?_
   rotate_left 1
   ·(intro w hSw;(try dsimp only at hSw);go_simp;(try with_reducible rfl))
   refine aT 1 36 rfl rfl (v:=?_) (.inl ⟨by rfl,?_⟩) ?_
   rotate_left 1
   ·(intro w hSw;(try dsimp only at hSw);go_simp;(try with_reducible rfl))
   try simp only[Act.put,aJ,aN,aO]
   refine aT 2 37 rfl rfl (v:=?_) (.inl ⟨by rfl,?_⟩) ?_
   rotate_left 1
   ·(intro w hSw;(try dsimp only at hSw);go_simp;(try with_reducible rfl))
   refine aT 4 39 rfl rfl (v:=?_) (.inl ⟨by rfl,?_⟩) ?_
   rotate_left 1
   ·(intro w hSw;(try dsimp only at hSw);go_simp;(try with_reducible rfl))
   try simp only[Act.put,aJ,aN,aO]
   refine bD (i:=3) (by kernel_rfl) rfl (fun K hK=>?_)
   go_simp
   refine(lF.out _ HF3.out qZ.out).mono ?_
   rintro e Z1 ⟨v1',d,rfl,dh,hof,hl4⟩;obtain⟨IU,IV,rfl⟩:=dh.shape;have hf4:=dh.aH
   have hS:=cu.out _ _ hf4 hS
   refine hK.out _ _ hS ?_
   clear hK K
   have jG:=ah (HF3.out.ay hf4);have wE:=ah (wC.out.aP hf4);have iD:=ah dh;have eX:=ah hof;have wF:=ah hl4;clear dh hf4 hof hl4
   try simp only[Act.put,aJ,aN,aO]
   refine bD (i:=5) (by kernel_rfl) rfl (fun K hK=>?_)
   go_simp
   refine(HOW.out _ iF.out).mono ?_
   rintro e Z2 ⟨v2',rfl,hc5,hf5⟩;obtain⟨IW,IX,rfl⟩:∃a c,v2'= .slice a 1 c:=Rd.sl hc5
   have hS:=cu.out _ _ hf5 hS
   refine hK.out _ _ hS ?_
   clear hK K
   have lW:=ah (jG.out.ay hf5);have wG:=ah (wE.out.aP hf5);have HD5:=ah (iD.out.rd.aP hf5);have wH:=ah hc5;clear hc5 hf5
   try simp only[Act.put,aJ,aN,aO]
   refine bD (i:=6) (by kernel_rfl) rfl (fun K hK=>?_)
   go_simp
   refine(jd.out _ _ _ d _ HD5.out wH.out eX.out.right je.out (by have:=wF.out;omega) (by simp)).mono ?_
   rintro e Z3 ⟨rfl,jr⟩;rw[ru.out d eX.out]
   have hS:=cu.out _ _ jr hS
   refine hK.out _ _ hS ?_
   clear hK K
   have HF6:=ah (lW.out.ay jr);have zB:=ah (wG.out.aP jr);clear jr
   try simp only[Act.put,aJ,aN,aO]
   refine aT 7 42 rfl rfl (v:=?_) (.inl ⟨by rfl,?_⟩) ?_
   rotate_left 1
   ·(intro w hSw;(try dsimp only at hSw);go_simp;(try with_reducible rfl))
   refine aT 8 43 rfl rfl (v:=?_) (.inl ⟨by rfl,?_⟩) ?_
   rotate_left 1
   ·(intro w hSw;(try dsimp only at hSw);go_simp;(try with_reducible rfl))
   try simp only[Act.put,aJ,aN,aO]
   refine aT 10 45 rfl rfl (v:=?_) (.inl ⟨by rfl,?_⟩) ?_
   rotate_left 1
   ·(intro w hSw;(try dsimp only at hSw);go_simp;(try with_reducible rfl))
   refine aT 11 46 rfl rfl (v:=?_) (.inl ⟨by rfl,?_⟩) ?_
   rotate_left 1
   ·(intro w hSw;(try dsimp only at hSw);go_simp;(try with_reducible rfl))
   try simp only[Act.put,aJ,aN,aO]
   refine aT 12 47 rfl rfl (v:=?_) (.inl ⟨by rfl,?_⟩) ?_
   rotate_left 1
   ·(intro w hSw;(try dsimp only at hSw);go_simp;(try with_reducible rfl))
   try simp only[Act.put,aJ,aN,aO]
   refine bD (i:=9) (by kernel_rfl) rfl (fun K hK=>?_)
   go_simp
   refine(HOW.out _ iF.out).mono ?_
   rintro e Z4 ⟨v4',rfl,rE,oW⟩;obtain⟨Qw,Qx,rfl⟩:∃a c,v4'= .slice a 1 c:=Rd.sl rE
   have hS:=cu.out _ _ oW hS
   refine hK.out _ _ hS ?_
   clear hK K
   have wI:=ah (HF6.out.ay oW);have Dq:=ah (zB.out.aP oW);have kF:=ah rE;clear rE oW
   try simp only[Act.put,aJ,aN,aO]
   refine bD (i:=13) (by kernel_rfl) rfl (fun K hK=>?_)
   go_simp
   refine(jd.out _ _ _ _ c kF.out (jc.out _ wI.out) je.out jR.out (by simp) (by have:=jS.out;have:=nT.out;omega)).mono ?_
   rintro e Z5 ⟨rfl,oZ⟩;rw[HP2.out]
   have hS:=cu.out _ _ oZ hS
   refine hK.out _ _ hS ?_
   clear hK K
   have vP:=ah (wI.out.ay oZ);have IY:=ah (Dq.out.aP oZ);clear oZ
   try simp only[Act.put,aJ,aN,aO]
   refine aT 14 49 rfl rfl (v:=?_) (.inl ⟨by rfl,?_⟩) ?_
   rotate_left 1
   ·(intro w hSw;(try dsimp only at hSw);go_simp;(try with_reducible rfl))
   refine aT 15 50 rfl rfl (v:=?_) (.inl ⟨by rfl,?_⟩) ?_
   rotate_left 1
   ·(intro w hSw;(try dsimp only at hSw);go_simp;(try with_reducible rfl))
   try simp only[Act.put,aJ,aN,aO]
   refine b_ 16 51 rfl rfl ?_
   refine b_ 17 52 rfl rfl ?_
   try simp only[Act.put,aJ,aN,aO]
   refine b_ 18 53 rfl rfl ?_
   refine b_ 19 54 rfl rfl ?_
   try simp only[Act.put,aJ,aN,aO]
   refine aT 20 55 rfl rfl (v:=?_) (.inl ⟨by rfl,?_⟩) ?_
   rotate_left 1
   ·(intro w hSw;(try dsimp only at hSw);go_simp;(try with_reducible rfl))
   try simp only[Act.put,aJ,aN,aO]
   refine fD (by kernel_rfl) (by kernel_rfl) rfl (fun K hK=>?_)
   go_simp
   refine hK.out _ _ ?_
   clear hK K hS
   go_wp2
   go_ret
   exact⟨rfl,vP.out⟩
  |true=>
   go_enter Tryz.func24,Tryz.ntmps24
   go_wp2_with(first
    |(go_at_call 85;refine(eU.out _).mono ?_;rintro e w1 ⟨rfl,hw1⟩;obtain⟨y0,y1,y2,y3,y4,y5,y6,y7,y8,y9⟩:=bF.out w1 hw1;have HW1:=ah hw1;clear hw1)
    |(go_at_call 86;refine(iR.out _ (fA.out.ay HW1.out)).mono ?_;rintro e w2 ⟨rfl,hw2⟩;clear y0 y1 y2 y3 y4 y5 y6 y7 y8 y9;obtain⟨y0,y1,y2,y3,y4,y5,y6,y7,y8,y9⟩:=bF.out w2 (HW1.out.ay hw2);obtain⟨wB,hvf⟩:=Dn.out w2;have hbl:w.heap.size<w2.heap.size:=World.block_lt_of_cell? _ _ y0;have HW2:=ah (HW1.out.ay hw2);clear hw2))
   clear y0 y1 y2 y3 y4 y5 y6 y7 y8 y9 wB hvf hbl
   have hvs:=mF.out w2
   have mY:=ah (HW2.out.ay hvs.2)
   obtain⟨y0,y1,y2,y3,y4,y5,y6,y7,y8,y9⟩:=bF.out _ mY.out
   have oV:=hvs.1 0 (by decide)
   have vs1:=hvs.1 1 (by decide)
   have vs2:=hvs.1 2 (by decide)
   have vs3:=hvs.1 3 (by decide)
   clear hvs HW2
   generalize w2.heap.size=vb at*
   generalize (w2.alloc (.cells (([.int .i64 v0, .int .i64 v1, .int .i64 v2, .int .i64 v3]:List Value).set dn (.int .i64 af)).toArray 25))=X0 at*
   refine gX (S:=fun w'=>w'.cell? ⟨w.heap.size,0,none⟩=some (.int .i64 dn)∧w'.cell? ⟨w.heap.size,1,none⟩=some (.int .i64 af)∧w'.cell? ⟨w.heap.size,2,none⟩=some (.int .i64 la)∧w'.cell? ⟨w.heap.size,3,none⟩=some (.int .i64 v0)∧w'.cell? ⟨w.heap.size,4,none⟩=some (.int .i64 v1)∧w'.cell? ⟨w.heap.size,5,none⟩=some (.int .i64 v2)∧w'.cell? ⟨w.heap.size,6,none⟩=some (.int .i64 v3)∧w'.cell? ⟨w.heap.size,7,none⟩=some (.slice a0 0 c0)∧w'.cell? ⟨w.heap.size,8,none⟩=some (.slice a1 m c1)∧w'.cell? ⟨w.heap.size,9,none⟩=some (.slice a2 k c2)∧w'.cell? ⟨vb,0,none⟩=some (.int .i64 (g 0))∧w'.cell? ⟨vb,1,none⟩=some (.int .i64 (g 1))∧w'.cell? ⟨vb,2,none⟩=some (.int .i64 (g 2))∧w'.cell? ⟨vb,3,none⟩=some (.int .i64 (g 3))) 6 (by kernel_rfl) ⟨y0,y1,y2,y3,y4,y5,y6,y7,y8,y9,oV,vs1,vs2,vs3⟩ ?_
   intro hS
   have cu:=ah (fun Y Y' (f:aj au Y Y') (hS:Y.cell? ⟨w.heap.size,0,none⟩=some (.int .i64 dn)∧Y.cell? ⟨w.heap.size,1,none⟩=some (.int .i64 af)∧Y.cell? ⟨w.heap.size,2,none⟩=some (.int .i64 la)∧Y.cell? ⟨w.heap.size,3,none⟩=some (.int .i64 v0)∧Y.cell? ⟨w.heap.size,4,none⟩=some (.int .i64 v1)∧Y.cell? ⟨w.heap.size,5,none⟩=some (.int .i64 v2)∧Y.cell? ⟨w.heap.size,6,none⟩=some (.int .i64 v3)∧Y.cell? ⟨w.heap.size,7,none⟩=some (.slice a0 0 c0)∧Y.cell? ⟨w.heap.size,8,none⟩=some (.slice a1 m c1)∧Y.cell? ⟨w.heap.size,9,none⟩=some (.slice a2 k c2)∧Y.cell? ⟨vb,0,none⟩=some (.int .i64 (g 0))∧Y.cell? ⟨vb,1,none⟩=some (.int .i64 (g 1))∧Y.cell? ⟨vb,2,none⟩=some (.int .i64 (g 2))∧Y.cell? ⟨vb,3,none⟩=some (.int .i64 (g 3)))=>(⟨f.cell' hS.1 id,f.cell' hS.2.1 id,f.cell' hS.2.2.1 id,f.cell' hS.2.2.2.1 id,f.cell' hS.2.2.2.2.1 id,f.cell' hS.2.2.2.2.2.1 id,f.cell' hS.2.2.2.2.2.2.1 id,f.cell' hS.2.2.2.2.2.2.2.1 id,f.cell' hS.2.2.2.2.2.2.2.2.1 id,f.cell' hS.2.2.2.2.2.2.2.2.2.1 id,f.cell' hS.2.2.2.2.2.2.2.2.2.2.1 id,f.cell' hS.2.2.2.2.2.2.2.2.2.2.2.1 id,f.cell' hS.2.2.2.2.2.2.2.2.2.2.2.2.1 id,f.cell' hS.2.2.2.2.2.2.2.2.2.2.2.2.2 id⟩:Y'.cell? ⟨w.heap.size,0,none⟩=some (.int .i64 dn)∧Y'.cell? ⟨w.heap.size,1,none⟩=some (.int .i64 af)∧Y'.cell? ⟨w.heap.size,2,none⟩=some (.int .i64 la)∧Y'.cell? ⟨w.heap.size,3,none⟩=some (.int .i64 v0)∧Y'.cell? ⟨w.heap.size,4,none⟩=some (.int .i64 v1)∧Y'.cell? ⟨w.heap.size,5,none⟩=some (.int .i64 v2)∧Y'.cell? ⟨w.heap.size,6,none⟩=some (.int .i64 v3)∧Y'.cell? ⟨w.heap.size,7,none⟩=some (.slice a0 0 c0)∧Y'.cell? ⟨w.heap.size,8,none⟩=some (.slice a1 m c1)∧Y'.cell? ⟨w.heap.size,9,none⟩=some (.slice a2 k c2)∧Y'.cell? ⟨vb,0,none⟩=some (.int .i64 (g 0))∧Y'.cell? ⟨vb,1,none⟩=some (.int .i64 (g 1))∧Y'.cell? ⟨vb,2,none⟩=some (.int .i64 (g 2))∧Y'.cell? ⟨vb,3,none⟩=some (.int .i64 (g 3))))
   have gU:=ah ((fA.out.ay mY.out).ay (aj.drew au X0))
   clear y0 y1 y2 y3 y4 y5 y6 y7 y8 y9 oV vs1 vs2 vs3 mY
   generalize X0.drew=Y at*
   refine aT 0 29 rfl rfl (v:=?_) (.inl ⟨by rfl,?_⟩) ?_
   rotate_left 1
   ·(intro w hSw;(try dsimp only at hSw);go_simp;(try with_reducible rfl))
   refine aT 1 30 rfl rfl (v:=?_) (.inl ⟨by rfl,?_⟩) ?_
   rotate_left 1
   ·(intro w hSw;(try dsimp only at hSw);go_simp;(try with_reducible rfl))
   try simp only[Act.put,aJ,aN,aO]
   refine aT 2 31 rfl rfl (v:=?_) (.inl ⟨by rfl,?_⟩) ?_
   rotate_left 1
   ·(intro w hSw;(try dsimp only at hSw);go_simp;(try with_reducible rfl))
   refine aT 3 32 rfl rfl (v:=?_) (.inl ⟨by rfl,?_⟩) ?_
   rotate_left 1
   ·(intro w hSw;(try dsimp only at hSw);go_simp;(try with_reducible rfl))
   try simp only[Act.put,aJ,aN,aO]
   refine bD (i:=4) (by kernel_rfl) rfl (fun K hK=>?_)
   go_simp
   refine(HOW.out _ iF.out).mono ?_
   rintro e Y1 ⟨v1',rfl,hc1,hf1⟩;obtain⟨vX,vY,rfl⟩:∃a c,v1'= .slice a 1 c:=Rd.sl hc1
   have hS:=cu.out _ _ hf1 hS
   refine hK.out _ _ hS ?_
   clear hK K
   have dN:=ah (gU.out.ay hf1);have kH:=ah hc1;clear hc1 hf1
   try simp only[Act.put,aJ,aN,aO]
   refine bD (i:=5) (by kernel_rfl) rfl (fun K hK=>?_)
   go_simp
   refine(HB0.out _ _ _ c _ (jc.out _ dN.out) kH.out jR.out je.out (by have:=jS.out;have:=nT.out;omega) (by simp)).mono ?_
   rintro e Y2 ⟨v2',q,rfl,ho2,hby,-⟩;obtain⟨IL,IQ,rfl⟩:=ho2.shape;have hf2:=ho2.aH
   have hS:=cu.out _ _ hf2 hS
   refine hK.out _ _ hS ?_
   clear hK K
   have HF2:=ah (dN.out.ay hf2);have dD:=ah ho2;have rD:=ah hby;clear ho2 hf2 hby
   try simp only[Act.put,aJ,aN,aO]
   refine fD (by kernel_rfl) (by kernel_rfl) rfl (fun K hK=>?_)
   go_simp
   refine hK.out _ _ ?_
   clear hK K
   go_wp2_with fail
   refine gX (S:=fun w'=>w'.cell? ⟨w.heap.size,0,none⟩=some (.int .i64 dn)∧w'.cell? ⟨w.heap.size,1,none⟩=some (.int .i64 af)∧w'.cell? ⟨w.heap.size,2,none⟩=some (.int .i64 la)∧w'.cell? ⟨w.heap.size,3,none⟩=some (.int .i64 v0)∧w'.cell? ⟨w.heap.size,4,none⟩=some (.int .i64 v1)∧w'.cell? ⟨w.heap.size,5,none⟩=some (.int .i64 v2)∧w'.cell? ⟨w.heap.size,6,none⟩=some (.int .i64 v3)∧w'.cell? ⟨w.heap.size,7,none⟩=some (.slice a0 0 c0)∧w'.cell? ⟨w.heap.size,8,none⟩=some (.slice a1 m c1)∧w'.cell? ⟨w.heap.size,9,none⟩=some (.slice a2 k c2)∧w'.cell? ⟨vb,0,none⟩=some (.int .i64 (g 0))∧w'.cell? ⟨vb,1,none⟩=some (.int .i64 (g 1))∧w'.cell? ⟨vb,2,none⟩=some (.int .i64 (g 2))∧w'.cell? ⟨vb,3,none⟩=some (.int .i64 (g 3))) 21 (by kernel_rfl) ⟨(aj.drew au Y2).cell' hS.1 id,(aj.drew au Y2).cell' hS.2.1 id,(aj.drew au Y2).cell' hS.2.2.1 id,(aj.drew au Y2).cell' hS.2.2.2.1 id,(aj.drew au Y2).cell' hS.2.2.2.2.1 id,(aj.drew au Y2).cell' hS.2.2.2.2.2.1 id,(aj.drew au Y2).cell' hS.2.2.2.2.2.2.1 id,(aj.drew au Y2).cell' hS.2.2.2.2.2.2.2.1 id,(aj.drew au Y2).cell' hS.2.2.2.2.2.2.2.2.1 id,(aj.drew au Y2).cell' hS.2.2.2.2.2.2.2.2.2.1 id,(aj.drew au Y2).cell' hS.2.2.2.2.2.2.2.2.2.2.1 id,(aj.drew au Y2).cell' hS.2.2.2.2.2.2.2.2.2.2.2.1 id,(aj.drew au Y2).cell' hS.2.2.2.2.2.2.2.2.2.2.2.2.1 id,(aj.drew au Y2).cell' hS.2.2.2.2.2.2.2.2.2.2.2.2.2 id⟩ ?_
   clear hS
   intro hS
   have cu:=ah (fun Y Y' (f:aj au Y Y') (hS:Y.cell? ⟨w.heap.size,0,none⟩=some (.int .i64 dn)∧Y.cell? ⟨w.heap.size,1,none⟩=some (.int .i64 af)∧Y.cell? ⟨w.heap.size,2,none⟩=some (.int .i64 la)∧Y.cell? ⟨w.heap.size,3,none⟩=some (.int .i64 v0)∧Y.cell? ⟨w.heap.size,4,none⟩=some (.int .i64 v1)∧Y.cell? ⟨w.heap.size,5,none⟩=some (.int .i64 v2)∧Y.cell? ⟨w.heap.size,6,none⟩=some (.int .i64 v3)∧Y.cell? ⟨w.heap.size,7,none⟩=some (.slice a0 0 c0)∧Y.cell? ⟨w.heap.size,8,none⟩=some (.slice a1 m c1)∧Y.cell? ⟨w.heap.size,9,none⟩=some (.slice a2 k c2)∧Y.cell? ⟨vb,0,none⟩=some (.int .i64 (g 0))∧Y.cell? ⟨vb,1,none⟩=some (.int .i64 (g 1))∧Y.cell? ⟨vb,2,none⟩=some (.int .i64 (g 2))∧Y.cell? ⟨vb,3,none⟩=some (.int .i64 (g 3)))=>(⟨f.cell' hS.1 id,f.cell' hS.2.1 id,f.cell' hS.2.2.1 id,f.cell' hS.2.2.2.1 id,f.cell' hS.2.2.2.2.1 id,f.cell' hS.2.2.2.2.2.1 id,f.cell' hS.2.2.2.2.2.2.1 id,f.cell' hS.2.2.2.2.2.2.2.1 id,f.cell' hS.2.2.2.2.2.2.2.2.1 id,f.cell' hS.2.2.2.2.2.2.2.2.2.1 id,f.cell' hS.2.2.2.2.2.2.2.2.2.2.1 id,f.cell' hS.2.2.2.2.2.2.2.2.2.2.2.1 id,f.cell' hS.2.2.2.2.2.2.2.2.2.2.2.2.1 id,f.cell' hS.2.2.2.2.2.2.2.2.2.2.2.2.2 id⟩:Y'.cell? ⟨w.heap.size,0,none⟩=some (.int .i64 dn)∧Y'.cell? ⟨w.heap.size,1,none⟩=some (.int .i64 af)∧Y'.cell? ⟨w.heap.size,2,none⟩=some (.int .i64 la)∧Y'.cell? ⟨w.heap.size,3,none⟩=some (.int .i64 v0)∧Y'.cell? ⟨w.heap.size,4,none⟩=some (.int .i64 v1)∧Y'.cell? ⟨w.heap.size,5,none⟩=some (.int .i64 v2)∧Y'.cell? ⟨w.heap.size,6,none⟩=some (.int .i64 v3)∧Y'.cell? ⟨w.heap.size,7,none⟩=some (.slice a0 0 c0)∧Y'.cell? ⟨w.heap.size,8,none⟩=some (.slice a1 m c1)∧Y'.cell? ⟨w.heap.size,9,none⟩=some (.slice a2 k c2)∧Y'.cell? ⟨vb,0,none⟩=some (.int .i64 (g 0))∧Y'.cell? ⟨vb,1,none⟩=some (.int .i64 (g 1))∧Y'.cell? ⟨vb,2,none⟩=some (.int .i64 (g 2))∧Y'.cell? ⟨vb,3,none⟩=some (.int .i64 (g 3))))
   have HF3:=ah (HF2.out.ay (aj.drew au Y2))
   have wC:=ah (dD.out.rd.aP (aj.drew au Y2))
   have Dp:=ah (show q.length≤4*(c.length+1)from rD.out.Bq jR.out je.out)
   generalize Y2.drew=Z at*
   refine aT 0 35 rfl rfl (v:=?_) (.inl ⟨by rfl,?_⟩) ?_
   rotate_left 1
   ·(intro w hSw;(try dsimp only at hSw);go_simp;(try with_reducible rfl))
   refine aT 1 36 rfl rfl (v:=?_) (.inl ⟨by rfl,?_⟩) ?_
   rotate_left 1
   ·(intro w hSw;(try dsimp only at hSw);go_simp;(try with_reducible rfl))
   try simp only[Act.put,aJ,aN,aO]
   refine aT 2 37 rfl rfl (v:=?_) (.inl ⟨by rfl,?_⟩) ?_
   rotate_left 1
   ·(intro w hSw;(try dsimp only at hSw);go_simp;(try with_reducible rfl))
   refine aT 4 39 rfl rfl (v:=?_) (.inl ⟨by rfl,?_⟩) ?_
   rotate_left 1
   ·(intro w hSw;(try dsimp only at hSw);go_simp;(try with_reducible rfl))
   try simp only[Act.put,aJ,aN,aO]
   refine bD (i:=3) (by kernel_rfl) rfl (fun K hK=>?_)
   go_simp
   refine(lF.out _ HF3.out qZ.out).mono ?_
   rintro e Z1 ⟨v1',d,rfl,dh,hof,hl4⟩;obtain⟨IU,IV,rfl⟩:=dh.shape;have hf4:=dh.aH
   have hS:=cu.out _ _ hf4 hS
   refine hK.out _ _ hS ?_
   clear hK K
   have jG:=ah (HF3.out.ay hf4);have wE:=ah (wC.out.aP hf4);have iD:=ah dh;have eX:=ah hof;have wF:=ah hl4;clear dh hf4 hof hl4
   try simp only[Act.put,aJ,aN,aO]
   refine bD (i:=5) (by kernel_rfl) rfl (fun K hK=>?_)
   go_simp
   refine(HOW.out _ iF.out).mono ?_
   rintro e Z2 ⟨v2',rfl,hc5,hf5⟩;obtain⟨IW,IX,rfl⟩:∃a c,v2'= .slice a 1 c:=Rd.sl hc5
   have hS:=cu.out _ _ hf5 hS
   refine hK.out _ _ hS ?_
   clear hK K
   have lW:=ah (jG.out.ay hf5);have wG:=ah (wE.out.aP hf5);have HD5:=ah (iD.out.rd.aP hf5);have wH:=ah hc5;clear hc5 hf5
   try simp only[Act.put,aJ,aN,aO]
   refine bD (i:=6) (by kernel_rfl) rfl (fun K hK=>?_)
   go_simp
   refine(jd.out _ _ _ d _ HD5.out wH.out eX.out.right je.out (by have:=wF.out;omega) (by simp)).mono ?_
   rintro e Z3 ⟨rfl,jr⟩;rw[ru.out d eX.out]
   have hS:=cu.out _ _ jr hS
   refine hK.out _ _ hS ?_
   clear hK K
   have HF6:=ah (lW.out.ay jr);have zB:=ah (wG.out.aP jr);clear jr
   try simp only[Act.put,aJ,aN,aO]
   refine aT 7 42 rfl rfl (v:=?_) (.inl ⟨by rfl,?_⟩) ?_
   rotate_left 1
   ·(intro w hSw;(try dsimp only at hSw);go_simp;(try with_reducible rfl))
   refine aT 8 43 rfl rfl (v:=?_) (.inl ⟨by rfl,?_⟩) ?_
   rotate_left 1
   ·(intro w hSw;(try dsimp only at hSw);go_simp;(try with_reducible rfl))
   try simp only[Act.put,aJ,aN,aO]
   refine aT 10 45 rfl rfl (v:=?_) (.inl ⟨by rfl,?_⟩) ?_
   rotate_left 1
   ·(intro w hSw;(try dsimp only at hSw);go_simp;(try with_reducible rfl))
   refine aT 11 46 rfl rfl (v:=?_) (.inl ⟨by rfl,?_⟩) ?_
   rotate_left 1
   ·(intro w hSw;(try dsimp only at hSw);go_simp;(try with_reducible rfl))
   try simp only[Act.put,aJ,aN,aO]
   refine aT 12 47 rfl rfl (v:=?_) (.inl ⟨by rfl,?_⟩) ?_
   rotate_left 1
   ·(intro w hSw;(try dsimp only at hSw);go_simp;(try with_reducible rfl))
   try simp only[Act.put,aJ,aN,aO]
   refine bD (i:=9) (by kernel_rfl) rfl (fun K hK=>?_)
   go_simp
   refine(HOW.out _ iF.out).mono ?_
   rintro e Z4 ⟨v4',rfl,rE,oW⟩;obtain⟨Qw,Qx,rfl⟩:∃a c,v4'= .slice a 1 c:=Rd.sl rE
   have hS:=cu.out _ _ oW hS
   refine hK.out _ _ hS ?_
   clear hK K
   have wI:=ah (HF6.out.ay oW);have Dq:=ah (zB.out.aP oW);have kF:=ah rE;clear rE oW
   try simp only[Act.put,aJ,aN,aO]
   refine bD (i:=13) (by kernel_rfl) rfl (fun K hK=>?_)
   go_simp
   refine(jd.out _ _ _ _ c kF.out (jc.out _ wI.out) je.out jR.out (by simp) (by have:=jS.out;have:=nT.out;omega)).mono ?_
   rintro e Z5 ⟨rfl,oZ⟩;rw[HP2.out]
   have hS:=cu.out _ _ oZ hS
   refine hK.out _ _ hS ?_
   clear hK K
   have vP:=ah (wI.out.ay oZ);have IY:=ah (Dq.out.aP oZ);clear oZ
   try simp only[Act.put,aJ,aN,aO]
   refine aT 14 49 rfl rfl (v:=?_) (.inl ⟨by rfl,?_⟩) ?_
   rotate_left 1
   ·(intro w hSw;(try dsimp only at hSw);go_simp;(try with_reducible rfl))
   refine aT 15 50 rfl rfl (v:=?_) (.inl ⟨by rfl,?_⟩) ?_
   rotate_left 1
   ·(intro w hSw;(try dsimp only at hSw);go_simp;(try with_reducible rfl))
   try simp only[Act.put,aJ,aN,aO]
   refine aT 16 51 rfl rfl (v:=?_) (.inl ⟨by rfl,?_⟩) ?_
   rotate_left 1
   ·(intro w hSw;(try dsimp only at hSw);go_simp;(try with_reducible rfl))
   refine aT 17 52 rfl rfl (v:=?_) (.inl ⟨by rfl,?_⟩) ?_
   rotate_left 1
   ·(intro w hSw;(try dsimp only at hSw);go_simp;(try with_reducible rfl))
   try simp only[Act.put,aJ,aN,aO]
   refine bD (i:=18) (by kernel_rfl) rfl (fun K hK=>?_)
   go_simp
   refine(KQ _ (g 0) (g 1) (g 2) (g 3)).mono ?_
   rintro e Z6 ⟨SK,rfl,wJ,Dt⟩;rw[Qv.out]at wJ Dt;obtain⟨SL,SN,rfl⟩:=wJ.shape;have zC:=wJ.aH
   have hS:=cu.out _ _ zC hS
   refine hK.out _ _ hS ?_
   clear hK K
   have Qy:=ah (vP.out.ay zC);have Qz:=ah (IY.out.aP zC);have QA:=ah wJ;have QB:=ah Dt;clear wJ zC Dt
   try simp only[Act.put,aJ,aN,aO]
   refine bD (i:=19) (by kernel_rfl) rfl (fun K hK=>?_)
   go_simp
   refine(jd.out _ _ _ q _ Qz.out QA.out.rd rD.out.right jy.out (by have:=Dp.out;have:=jS.out;have:=nT.out;omega) (by have:=QB.out;omega)).mono ?_
   rintro e Z7 ⟨rfl,Du⟩;rw[CV.out q rD.out]
   have hS:=cu.out _ _ Du hS
   refine hK.out _ _ hS ?_
   clear hK K
   have QC:=ah (Qy.out.ay Du);clear Du
   try simp only[Act.put,aJ,aN,aO]
   refine aT 20 55 rfl rfl (v:=?_) (.inl ⟨by rfl,?_⟩) ?_
   rotate_left 1
   ·(intro w hSw;(try dsimp only at hSw);go_simp;(try with_reducible rfl))
   try simp only[Act.put,aJ,aN,aO]
   refine fD (by kernel_rfl) (by kernel_rfl) rfl (fun K hK=>?_)
   go_simp
   refine hK.out _ _ ?_
   clear hK K hS
   go_wp2
   go_ret
   exact⟨rfl,QC.out⟩
end Go.Proofs.YtabkpccdnkjoiaaGreat
