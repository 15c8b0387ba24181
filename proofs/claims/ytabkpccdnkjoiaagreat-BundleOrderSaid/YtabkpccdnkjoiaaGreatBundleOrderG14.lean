/- Words for the law BundleOrder: BunQ. -/
import Derived.Test.YtabkpccdnkjoiaaGreatBundleOrderG0
import Derived.Test.YtabkpccdnkjoiaaGreatBundleOrderG13
set_option linter.unusedSimpArgs false
set_option linter.unusedVariables false
set_option maxHeartbeats 32000000
set_option maxRecDepth 1000000
namespace Go.Proofs.YtabkpccdnkjoiaaGreat
open Go.RowKit
theorem vU (Q:Nat→Prop) (es:List aG) (ks:aI) (c:aU) (w:World) (dc af la v0 v1 v2 v3:Int) (ev kv cv:Value) (h:gQ Q w ev kv cv es ks c) (hok:fG es ks c):
 Calls Tryz.prog 83 #[.agg #[.int .i64 dc, .int .i64 af, .int .i64 la, .int .i64 v0, .int .i64 v1, .int .i64 v2, .int .i64 v3,ev,kv,cv]] w fun e w'=>e= .returned (.bool (tf (fO dc af la (aS v0 v1 v2 v3) es ks c)))∧aj au w w':=by
 obtain⟨a0,c0,a1,c1,a2,c2,rfl,rfl,rfl⟩:=h.shape
 have eU:=ah (fun W=>Il W dc af la v0 v1 v2 v3 a0 a1 a2 es.length ks.len c.length c0 c1 c2)
 have iR:=ah (fun W (f:aj au w W)=>qO Q es ks c W _ _ _ (h.aP f) hok)
 have lF:=ah (fun W (f:aj au w W)=>GI Q es ks W _ _ (h.tree.aP f) hok.tree (Nat.le_trans hok.small (by decide)))
 have HOW:=ah (fun W hn=>Ip W dc af la v0 v1 v2 v3 a0 a1 a2 es.length ks.len c.length c0 c1 c2 hn)
 have zq:=ah (fun W hn=>PW W dc af la v0 v1 v2 v3 a0 a1 a2 es.length ks.len c.length c0 c1 c2 hn)
 have jc:=ah (fun W (f:aj au w W)=>(show dL W (.slice a2 c.length c2) c from Rd.aP h.ctx f))
 have tZ:=ah hok.fits
 have hcl:=hok.len
 have hdl:(bU es ks).length≤2000:=Nat.le_trans (uU es ks) hok.small
 have jD:=ah hdl;clear hdl
 have jd:=ah (fun W va vb a b ha hb fa fb la lb=>FT W va vb a b ha hb fa fb la lb)
 clear h hok
 have bF:=ah (ql w (.int .i64 dc) (.int .i64 af) (.int .i64 la) (.int .i64 v0) (.int .i64 v1) (.int .i64 v2) (.int .i64 v3) (.slice a0 es.length c0) (.slice a1 ks.len c1) (.slice a2 c.length c2) 59)
 have hfa:aj au w (w.alloc (.cells #[.int .i64 dc, .int .i64 af, .int .i64 la, .int .i64 v0, .int .i64 v1, .int .i64 v2, .int .i64 v3, .slice a0 es.length c0, .slice a1 ks.len c1, .slice a2 c.length c2] 59)):=aj.alloc _ _ _
 have fA:=ah hfa;clear hfa
 by_cases hn:jl dc af la (aS v0 v1 v2 v3)
 rotate_left 1
 ·rw[bn hn]at eU
  rw[bn fun h=>hn h.nums]
  clear hn iR lF HOW zq jc tZ jd hcl jD
  generalize es.length=n at*
  generalize ks.len=m at*
  generalize c.length=k at*
  go_enter Tryz.func83,Tryz.ntmps83
  go_wp2_with(go_at_call 143;refine(eU.out _).mono ?_;rintro e w1 ⟨rfl,hw1⟩;have HW1:=ah (fA.out.ay hw1);clear hw1)
  go_ret
  exact⟨rfl,HW1.out⟩
 rw[bM hn]at eU
 by_cases hc:eG es ks c
 rotate_left 1
 ·rw[bn hc]at iR
  rw[bn fun h=>hc ⟨h.tree,h.ctx,h.dots⟩]
  clear hn hc lF HOW zq jc tZ jd hcl jD
  generalize es.length=n at*
  generalize ks.len=m at*
  generalize c.length=k at*
  go_enter Tryz.func83,Tryz.ntmps83
  go_wp2_with(first
   |(go_at_call 143;refine(eU.out _).mono ?_;rintro e w1 ⟨rfl,hw1⟩;obtain⟨y0,y1,y2,y3,y4,y5,y6,y7,y8,y9⟩:=bF.out w1 hw1;have HW1:=ah (fA.out.ay hw1);clear hw1)
   |(go_at_call 93;refine(iR.out _ HW1.out).mono ?_;rintro e w2 ⟨rfl,hw2⟩;have HW2:=ah (HW1.out.ay hw2);clear hw2))
  go_ret
  exact⟨rfl,HW2.out⟩
 rw[bM hc]at iR
 rcases Nat.eq_zero_or_pos es.length with he0|vV
 rotate_left 1
 ·rw[bn fun h=>by rw[h.bare]at vV;cases vV]
  clear hn hc lF HOW zq jc tZ jd hcl jD
  generalize es.length=n at*
  generalize ks.len=m at*
  generalize c.length=k at*
  go_enter Tryz.func83,Tryz.ntmps83
  go_wp2_with(first
   |(go_at_call 143;refine(eU.out _).mono ?_;rintro e w1 ⟨rfl,hw1⟩;obtain⟨y0,y1,y2,y3,y4,y5,y6,y7,y8,y9⟩:=bF.out w1 hw1;have HW1:=ah hw1;clear hw1)
   |(go_at_call 93;refine(iR.out _ (fA.out.ay HW1.out)).mono ?_;rintro e w2 ⟨rfl,hw2⟩;clear y0 y1 y2 y3 y4 y5 y6 y7 y8 y9;obtain⟨y0,y1,y2,y3,y4,y5,y6,y7,y8,y9⟩:=bF.out w2 (HW1.out.ay hw2);have HW2:=ah (HW1.out.ay hw2);clear hw2))
  go_ret
  exact⟨rfl,fA.out.ay HW2.out⟩
 have hes:es=[]:=List.eq_nil_of_length_eq_zero he0
 have kS:=ah hc.tree
 have jR:=ah hc.ctx
 have qZ:=ah (uT hc.tree)
 have je:=ah hn.tY
 have Iq:=ah (Ey (v:=dA (aS v0 v1 v2 v3) dc la) fun d h0 h4=>(hn.CU (x:=la) (by have:=hn.2.2.1;have:=hn.2.2.2.1;omega) hn.2.2.2.2.1 d h0 h4).2)
 have hp1:∀d,ku (bU es ks) d→tf (bH d∧bH [(dc,af+1,la)]∧fK d [(dc,af+1,la)])=tf (mM (bU es ks) [(dc,af+1,la)]):=fun d hd=>lI ⟨fun h=>(hd.leq qZ.out).1 h.2.2,fun h=>⟨hd.right,je.out,(hd.leq qZ.out).2 h⟩⟩
 have hp2:tf (bH [(dc,af+1,la)]∧bH c∧fK [(dc,af+1,la)] c)=tf (fK [(dc,af+1,la)] c):=lI ⟨fun h=>h.2.2,fun h=>⟨je.out,jR.out,h⟩⟩
 have hp3:tf (bH c∧bH (eH (dA (aS v0 v1 v2 v3) dc la))∧fK c (eH (dA (aS v0 v1 v2 v3) dc la)))=tf (fK c (eH (dA (aS v0 v1 v2 v3) dc la))):=lI ⟨fun h=>h.2.2,fun h=>⟨jR.out,Iq.out,h⟩⟩
 have ru:=ah hp1;clear hp1
 have HP2:=ah hp2;clear hp2
 have CV:=ah hp3;clear hp3
 have hall:tf (fO dc af la (aS v0 v1 v2 v3) es ks c)=(tf (mM (bU es ks) [(dc,af+1,la)])&&(tf (fK [(dc,af+1,la)] c)&&tf (fK c (eH (dA (aS v0 v1 v2 v3) dc la))))):=by
  rw[Bool.eq_iff_iff]
  simp only[Bool.and_eq_true,o_]
  exact⟨fun h=>⟨h.mine,h.own,h.may⟩,fun h=>⟨hn,hc.tree,hc.ctx,hc.dots,hes,h.1,h.2.1,h.2.2⟩⟩
 rw[hall]
 have iF:=ah hn
 have jS:=ah hcl
 clear hall hn hc hes hcl
 generalize tf (fK c (eH (dA (aS v0 v1 v2 v3) dc la)))=b3 at*
 generalize dA (aS v0 v1 v2 v3) dc la=g at*
 generalize tf (fK [(dc,af+1,la)] c)=b2 at*
 generalize tf (mM (bU es ks) [(dc,af+1,la)])=b1 at*
 generalize hel:es.length=n at*
 subst he0
 have Bz:=ah hel;clear hel
 generalize ks.len=m at*
 generalize hck:c.length=k at*
 have nT:=ah hck;clear hck
 cases b1 with
 |false=>
  go_enter Tryz.func83,Tryz.ntmps83
  go_wp2_with(first
   |(go_at_call 143;refine(eU.out _).mono ?_;rintro e w1 ⟨rfl,hw1⟩;obtain⟨y0,y1,y2,y3,y4,y5,y6,y7,y8,y9⟩:=bF.out w1 hw1;have HW1:=ah hw1;clear hw1)
   |(go_at_call 93;refine(iR.out _ (fA.out.ay HW1.out)).mono ?_;rintro e w2 ⟨rfl,hw2⟩;clear y0 y1 y2 y3 y4 y5 y6 y7 y8 y9;obtain⟨y0,y1,y2,y3,y4,y5,y6,y7,y8,y9⟩:=bF.out w2 (HW1.out.ay hw2);have HW2:=ah (HW1.out.ay hw2);clear hw2)
   |(go_at_call 146;refine(lF.out _ (fA.out.ay HW2.out)).mono ?_;rintro e w3 ⟨hf3,hd3,-⟩;obtain⟨nU,d,rfl,ho3,hof,hl3⟩:=hd3 kS.out;clear hd3;obtain⟨a3,c3,rfl⟩:=ho3.shape;clear y0 y1 y2 y3 y4 y5 y6 y7 y8 y9;obtain⟨y0,y1,y2,y3,y4,y5,y6,y7,y8,y9⟩:=bF.out w3 (HW2.out.ay hf3);have HW3:=ah (HW2.out.ay hf3);clear hf3;have bI:=ah ho3;clear ho3;have eX:=ah hof;clear hof;have jk:=ah hl3;clear hl3))
  refine gX (S:=fun w'=>w'.cell? ⟨w.heap.size,0,none⟩=some (.int .i64 dc)∧w'.cell? ⟨w.heap.size,1,none⟩=some (.int .i64 af)∧w'.cell? ⟨w.heap.size,2,none⟩=some (.int .i64 la)∧w'.cell? ⟨w.heap.size,3,none⟩=some (.int .i64 v0)∧w'.cell? ⟨w.heap.size,4,none⟩=some (.int .i64 v1)∧w'.cell? ⟨w.heap.size,5,none⟩=some (.int .i64 v2)∧w'.cell? ⟨w.heap.size,6,none⟩=some (.int .i64 v3)∧w'.cell? ⟨w.heap.size,7,none⟩=some (.slice a0 0 c0)∧w'.cell? ⟨w.heap.size,8,none⟩=some (.slice a1 m c1)∧w'.cell? ⟨w.heap.size,9,none⟩=some (.slice a2 k c2)) 20 (by kernel_rfl) ⟨y0,y1,y2,y3,y4,y5,y6,y7,y8,y9⟩ ?_
  intro hS
  have cu:=ah (fun Y Y' (f:aj au Y Y') (hS:Y.cell? ⟨w.heap.size,0,none⟩=some (.int .i64 dc)∧Y.cell? ⟨w.heap.size,1,none⟩=some (.int .i64 af)∧Y.cell? ⟨w.heap.size,2,none⟩=some (.int .i64 la)∧Y.cell? ⟨w.heap.size,3,none⟩=some (.int .i64 v0)∧Y.cell? ⟨w.heap.size,4,none⟩=some (.int .i64 v1)∧Y.cell? ⟨w.heap.size,5,none⟩=some (.int .i64 v2)∧Y.cell? ⟨w.heap.size,6,none⟩=some (.int .i64 v3)∧Y.cell? ⟨w.heap.size,7,none⟩=some (.slice a0 0 c0)∧Y.cell? ⟨w.heap.size,8,none⟩=some (.slice a1 m c1)∧Y.cell? ⟨w.heap.size,9,none⟩=some (.slice a2 k c2))=>(⟨f.cell' hS.1 id,f.cell' hS.2.1 id,f.cell' hS.2.2.1 id,f.cell' hS.2.2.2.1 id,f.cell' hS.2.2.2.2.1 id,f.cell' hS.2.2.2.2.2.1 id,f.cell' hS.2.2.2.2.2.2.1 id,f.cell' hS.2.2.2.2.2.2.2.1 id,f.cell' hS.2.2.2.2.2.2.2.2.1 id,f.cell' hS.2.2.2.2.2.2.2.2.2 id⟩:Y'.cell? ⟨w.heap.size,0,none⟩=some (.int .i64 dc)∧Y'.cell? ⟨w.heap.size,1,none⟩=some (.int .i64 af)∧Y'.cell? ⟨w.heap.size,2,none⟩=some (.int .i64 la)∧Y'.cell? ⟨w.heap.size,3,none⟩=some (.int .i64 v0)∧Y'.cell? ⟨w.heap.size,4,none⟩=some (.int .i64 v1)∧Y'.cell? ⟨w.heap.size,5,none⟩=some (.int .i64 v2)∧Y'.cell? ⟨w.heap.size,6,none⟩=some (.int .i64 v3)∧Y'.cell? ⟨w.heap.size,7,none⟩=some (.slice a0 0 c0)∧Y'.cell? ⟨w.heap.size,8,none⟩=some (.slice a1 m c1)∧Y'.cell? ⟨w.heap.size,9,none⟩=some (.slice a2 k c2)))
  have gU:=ah ((fA.out.ay HW3.out).ay (aj.drew au w3))
  have vW:=ah (bI.out.rd.aP (aj.drew au w3))
  clear y0 y1 y2 y3 y4 y5 y6 y7 y8 y9 HW3 bI
  generalize w3.drew=Y at*
  refine aT 0 29 rfl rfl (v:=?_) (.inl ⟨by rfl,?_⟩) ?_
  rotate_left 1
  ·(intro w hSw;(try dsimp only at hSw);go_simp;(try with_reducible rfl))
  refine aT 1 30 rfl rfl (v:=?_) (.inl ⟨by rfl,?_⟩) ?_
  rotate_left 1
  ·(intro w hSw;(try dsimp only at hSw);go_simp;(try with_reducible rfl))
  try simp only[Act.put,aJ,aN,aO]
  refine bD (i:=2) (by kernel_rfl) rfl (fun K hK=>?_)
  go_simp
  refine(HOW.out _ iF.out).mono ?_
  rintro e Y1 ⟨v1',rfl,hc1,hf1⟩;obtain⟨vX,vY,rfl⟩:∃a c,v1'= .slice a 1 c:=Rd.sl hc1
  have hS:=cu.out _ _ hf1 hS
  refine hK.out _ _ hS ?_
  clear hK K
  have dN:=ah (gU.out.ay hf1);have HD1:=ah (vW.out.aP hf1);have kH:=ah hc1;clear hc1 hf1
  try simp only[Act.put,aJ,aN,aO]
  refine bD (i:=3) (by kernel_rfl) rfl (fun K hK=>?_)
  go_simp
  refine(jd.out _ _ _ d _ HD1.out kH.out eX.out.right.fits je.out.fits (by have:=jk.out;omega) (by simp)).mono ?_
  rintro e Y2 ⟨rfl,hf2⟩;rw[ru.out d eX.out]
  have hS:=cu.out _ _ hf2 hS
  refine hK.out _ _ hS ?_
  clear hK K
  have HF2:=ah (dN.out.ay hf2);clear hf2
  try simp only[Act.put,aJ,aN,aO]
  refine aT 4 33 rfl rfl (v:=?_) (.inl ⟨by rfl,?_⟩) ?_
  rotate_left 1
  ·(intro w hSw;(try dsimp only at hSw);go_simp;(try with_reducible rfl))
  refine b_ 5 34 rfl rfl ?_
  try simp only[Act.put,aJ,aN,aO]
  refine b_ 6 35 rfl rfl ?_
  refine b_ 7 36 rfl rfl ?_
  try simp only[Act.put,aJ,aN,aO]
  refine b_ 8 37 rfl rfl ?_
  refine b_ 9 38 rfl rfl ?_
  try simp only[Act.put,aJ,aN,aO]
  refine b_ 10 39 rfl rfl ?_
  refine aT 11 40 rfl rfl (v:=?_) (.inl ⟨by rfl,?_⟩) ?_
  rotate_left 1
  ·(intro w hSw;(try dsimp only at hSw);go_simp;(try with_reducible rfl))
  try simp only[Act.put,aJ,aN,aO]
  refine aT 12 41 rfl rfl (v:=?_) (.inl ⟨by rfl,?_⟩) ?_
  rotate_left 1
  ·(intro w hSw;(try dsimp only at hSw);go_simp;(try with_reducible rfl))
  refine b_ 13 42 rfl rfl ?_
  try simp only[Act.put,aJ,aN,aO]
  refine b_ 14 43 rfl rfl ?_
  refine b_ 15 44 rfl rfl ?_
  try simp only[Act.put,aJ,aN,aO]
  refine b_ 16 45 rfl rfl ?_
  refine b_ 17 46 rfl rfl ?_
  try simp only[Act.put,aJ,aN,aO]
  refine b_ 18 47 rfl rfl ?_
  refine aT 19 48 rfl rfl (v:=?_) (.inl ⟨by rfl,?_⟩) ?_
  rotate_left 1
  ·(intro w hSw;(try dsimp only at hSw);go_simp;(try with_reducible rfl))
  try simp only[Act.put,aJ,aN,aO]
  refine fD (by kernel_rfl) (by kernel_rfl) rfl (fun K hK=>?_)
  go_simp
  refine hK.out _ _ ?_
  clear hK K hS
  go_wp2
  go_ret
  exact⟨rfl,HF2.out⟩
 |true=>
  cases b2 with
  |false=>
   go_enter Tryz.func83,Tryz.ntmps83
   go_wp2_with(first
    |(go_at_call 143;refine(eU.out _).mono ?_;rintro e w1 ⟨rfl,hw1⟩;obtain⟨y0,y1,y2,y3,y4,y5,y6,y7,y8,y9⟩:=bF.out w1 hw1;have HW1:=ah hw1;clear hw1)
    |(go_at_call 93;refine(iR.out _ (fA.out.ay HW1.out)).mono ?_;rintro e w2 ⟨rfl,hw2⟩;clear y0 y1 y2 y3 y4 y5 y6 y7 y8 y9;obtain⟨y0,y1,y2,y3,y4,y5,y6,y7,y8,y9⟩:=bF.out w2 (HW1.out.ay hw2);have HW2:=ah (HW1.out.ay hw2);clear hw2)
    |(go_at_call 146;refine(lF.out _ (fA.out.ay HW2.out)).mono ?_;rintro e w3 ⟨hf3,hd3,-⟩;obtain⟨nU,d,rfl,ho3,hof,hl3⟩:=hd3 kS.out;clear hd3;obtain⟨a3,c3,rfl⟩:=ho3.shape;clear y0 y1 y2 y3 y4 y5 y6 y7 y8 y9;obtain⟨y0,y1,y2,y3,y4,y5,y6,y7,y8,y9⟩:=bF.out w3 (HW2.out.ay hf3);have HW3:=ah (HW2.out.ay hf3);clear hf3;have bI:=ah ho3;clear ho3;have eX:=ah hof;clear hof;have jk:=ah hl3;clear hl3))
   refine gX (S:=fun w'=>w'.cell? ⟨w.heap.size,0,none⟩=some (.int .i64 dc)∧w'.cell? ⟨w.heap.size,1,none⟩=some (.int .i64 af)∧w'.cell? ⟨w.heap.size,2,none⟩=some (.int .i64 la)∧w'.cell? ⟨w.heap.size,3,none⟩=some (.int .i64 v0)∧w'.cell? ⟨w.heap.size,4,none⟩=some (.int .i64 v1)∧w'.cell? ⟨w.heap.size,5,none⟩=some (.int .i64 v2)∧w'.cell? ⟨w.heap.size,6,none⟩=some (.int .i64 v3)∧w'.cell? ⟨w.heap.size,7,none⟩=some (.slice a0 0 c0)∧w'.cell? ⟨w.heap.size,8,none⟩=some (.slice a1 m c1)∧w'.cell? ⟨w.heap.size,9,none⟩=some (.slice a2 k c2)) 20 (by kernel_rfl) ⟨y0,y1,y2,y3,y4,y5,y6,y7,y8,y9⟩ ?_
   intro hS
   have cu:=ah (fun Y Y' (f:aj au Y Y') (hS:Y.cell? ⟨w.heap.size,0,none⟩=some (.int .i64 dc)∧Y.cell? ⟨w.heap.size,1,none⟩=some (.int .i64 af)∧Y.cell? ⟨w.heap.size,2,none⟩=some (.int .i64 la)∧Y.cell? ⟨w.heap.size,3,none⟩=some (.int .i64 v0)∧Y.cell? ⟨w.heap.size,4,none⟩=some (.int .i64 v1)∧Y.cell? ⟨w.heap.size,5,none⟩=some (.int .i64 v2)∧Y.cell? ⟨w.heap.size,6,none⟩=some (.int .i64 v3)∧Y.cell? ⟨w.heap.size,7,none⟩=some (.slice a0 0 c0)∧Y.cell? ⟨w.heap.size,8,none⟩=some (.slice a1 m c1)∧Y.cell? ⟨w.heap.size,9,none⟩=some (.slice a2 k c2))=>(⟨f.cell' hS.1 id,f.cell' hS.2.1 id,f.cell' hS.2.2.1 id,f.cell' hS.2.2.2.1 id,f.cell' hS.2.2.2.2.1 id,f.cell' hS.2.2.2.2.2.1 id,f.cell' hS.2.2.2.2.2.2.1 id,f.cell' hS.2.2.2.2.2.2.2.1 id,f.cell' hS.2.2.2.2.2.2.2.2.1 id,f.cell' hS.2.2.2.2.2.2.2.2.2 id⟩:Y'.cell? ⟨w.heap.size,0,none⟩=some (.int .i64 dc)∧Y'.cell? ⟨w.heap.size,1,none⟩=some (.int .i64 af)∧Y'.cell? ⟨w.heap.size,2,none⟩=some (.int .i64 la)∧Y'.cell? ⟨w.heap.size,3,none⟩=some (.int .i64 v0)∧Y'.cell? ⟨w.heap.size,4,none⟩=some (.int .i64 v1)∧Y'.cell? ⟨w.heap.size,5,none⟩=some (.int .i64 v2)∧Y'.cell? ⟨w.heap.size,6,none⟩=some (.int .i64 v3)∧Y'.cell? ⟨w.heap.size,7,none⟩=some (.slice a0 0 c0)∧Y'.cell? ⟨w.heap.size,8,none⟩=some (.slice a1 m c1)∧Y'.cell? ⟨w.heap.size,9,none⟩=some (.slice a2 k c2)))
   have gU:=ah ((fA.out.ay HW3.out).ay (aj.drew au w3))
   have vW:=ah (bI.out.rd.aP (aj.drew au w3))
   clear y0 y1 y2 y3 y4 y5 y6 y7 y8 y9 HW3 bI
   generalize w3.drew=Y at*
   refine aT 0 29 rfl rfl (v:=?_) (.inl ⟨by rfl,?_⟩) ?_
   rotate_left 1
   ·(intro w hSw;(try dsimp only at hSw);go_simp;(try with_reducible rfl))
   refine aT 1 30 rfl rfl (v:=?_) (.inl ⟨by rfl,?_⟩) ?_
   rotate_left 1
   ·(intro w hSw;(try dsimp only at hSw);go_simp;(try with_reducible rfl))
   try simp only[Act.put,aJ,aN,aO]
   refine bD (i:=2) (by kernel_rfl) rfl (fun K hK=>?_)
   go_simp
   refine(HOW.out _ iF.out).mono ?_
   rintro e Y1 ⟨v1',rfl,hc1,hf1⟩;obtain⟨vX,vY,rfl⟩:∃a c,v1'= .slice a 1 c:=Rd.sl hc1
   have hS:=cu.out _ _ hf1 hS
   refine hK.out _ _ hS ?_
   clear hK K
   have dN:=ah (gU.out.ay hf1);have HD1:=ah (vW.out.aP hf1);have kH:=ah hc1;clear hc1 hf1
   try simp only[Act.put,aJ,aN,aO]
   refine bD (i:=3) (by kernel_rfl) rfl (fun K hK=>?_)
   go_simp
   refine(jd.out _ _ _ d _ HD1.out kH.out eX.out.right.fits je.out.fits (by have:=jk.out;omega) (by simp)).mono ?_
   rintro e Y2 ⟨rfl,hf2⟩;rw[ru.out d eX.out]
   have hS:=cu.out _ _ hf2 hS
   refine hK.out _ _ hS ?_
   clear hK K
   have HF2:=ah (dN.out.ay hf2);clear hf2
   try simp only[Act.put,aJ,aN,aO]
   refine aT 4 33 rfl rfl (v:=?_) (.inl ⟨by rfl,?_⟩) ?_
   rotate_left 1
   ·(intro w hSw;(try dsimp only at hSw);go_simp;(try with_reducible rfl))
   refine aT 5 34 rfl rfl (v:=?_) (.inl ⟨by rfl,?_⟩) ?_
   rotate_left 1
   ·(intro w hSw;(try dsimp only at hSw);go_simp;(try with_reducible rfl))
   try simp only[Act.put,aJ,aN,aO]
   refine aT 7 36 rfl rfl (v:=?_) (.inl ⟨by rfl,?_⟩) ?_
   rotate_left 1
   ·(intro w hSw;(try dsimp only at hSw);go_simp;(try with_reducible rfl))
   refine aT 8 37 rfl rfl (v:=?_) (.inl ⟨by rfl,?_⟩) ?_
   rotate_left 1
   ·(intro w hSw;(try dsimp only at hSw);go_simp;(try with_reducible rfl))
   try simp only[Act.put,aJ,aN,aO]
   refine aT 9 38 rfl rfl (v:=?_) (.inl ⟨by rfl,?_⟩) ?_
   rotate_left 1
   ·(intro w hSw;(try dsimp only at hSw);go_simp;(try with_reducible rfl))
   try simp only[Act.put,aJ,aN,aO]
   refine bD (i:=6) (by kernel_rfl) rfl (fun K hK=>?_)
   go_simp
   refine(HOW.out _ iF.out).mono ?_
   rintro e Y3 ⟨nU,rfl,hc3,hf3⟩;obtain⟨CW,CX,rfl⟩:∃a c,nU= .slice a 1 c:=Rd.sl hc3
   have hS:=cu.out _ _ hf3 hS
   refine hK.out _ _ hS ?_
   clear hK K
   have HF3:=ah (HF2.out.ay hf3);have mG:=ah hc3;clear hc3 hf3
   try simp only[Act.put,aJ,aN,aO]
   refine bD (i:=10) (by kernel_rfl) rfl (fun K hK=>?_)
   go_simp
   refine(jd.out _ _ _ _ c mG.out (jc.out _ HF3.out) je.out.fits tZ.out (by simp) (by have:=jS.out;have:=nT.out;omega)).mono ?_
   rintro e Y4 ⟨rfl,hf4⟩;rw[HP2.out]
   have hS:=cu.out _ _ hf4 hS
   refine hK.out _ _ hS ?_
   clear hK K
   have jG:=ah (HF3.out.ay hf4);clear hf4
   try simp only[Act.put,aJ,aN,aO]
   refine aT 11 40 rfl rfl (v:=?_) (.inl ⟨by rfl,?_⟩) ?_
   rotate_left 1
   ·(intro w hSw;(try dsimp only at hSw);go_simp;(try with_reducible rfl))
   refine aT 12 41 rfl rfl (v:=?_) (.inl ⟨by rfl,?_⟩) ?_
   rotate_left 1
   ·(intro w hSw;(try dsimp only at hSw);go_simp;(try with_reducible rfl))
   try simp only[Act.put,aJ,aN,aO]
   refine b_ 13 42 rfl rfl ?_
   refine b_ 14 43 rfl rfl ?_
   try simp only[Act.put,aJ,aN,aO]
   refine b_ 15 44 rfl rfl ?_
   refine b_ 16 45 rfl rfl ?_
   try simp only[Act.put,aJ,aN,aO]
   refine b_ 17 46 rfl rfl ?_
   refine b_ 18 47 rfl rfl ?_
   try simp only[Act.put,aJ,aN,aO]
   refine aT 19 48 rfl rfl (v:=?_) (.inl ⟨by rfl,?_⟩) ?_
   rotate_left 1
   ·(intro w hSw;(try dsimp only at hSw);go_simp;(try with_reducible rfl))
   try simp only[Act.put,aJ,aN,aO]
   refine fD (by kernel_rfl) (by kernel_rfl) rfl (fun K hK=>?_)
   go_simp
   refine hK.out _ _ ?_
   clear hK K hS
   go_wp2
   go_ret
   exact⟨rfl,jG.out⟩
  |true=>
   go_enter Tryz.func83,Tryz.ntmps83
   go_wp2_with(first
    |(go_at_call 143;refine(eU.out _).mono ?_;rintro e w1 ⟨rfl,hw1⟩;obtain⟨y0,y1,y2,y3,y4,y5,y6,y7,y8,y9⟩:=bF.out w1 hw1;have HW1:=ah hw1;clear hw1)
    |(go_at_call 93;refine(iR.out _ (fA.out.ay HW1.out)).mono ?_;rintro e w2 ⟨rfl,hw2⟩;clear y0 y1 y2 y3 y4 y5 y6 y7 y8 y9;obtain⟨y0,y1,y2,y3,y4,y5,y6,y7,y8,y9⟩:=bF.out w2 (HW1.out.ay hw2);have HW2:=ah (HW1.out.ay hw2);clear hw2)
    |(go_at_call 146;refine(lF.out _ (fA.out.ay HW2.out)).mono ?_;rintro e w3 ⟨hf3,hd3,-⟩;obtain⟨nU,d,rfl,ho3,hof,hl3⟩:=hd3 kS.out;clear hd3;obtain⟨a3,c3,rfl⟩:=ho3.shape;clear y0 y1 y2 y3 y4 y5 y6 y7 y8 y9;obtain⟨y0,y1,y2,y3,y4,y5,y6,y7,y8,y9⟩:=bF.out w3 (HW2.out.ay hf3);have HW3:=ah (HW2.out.ay hf3);clear hf3;have bI:=ah ho3;clear ho3;have eX:=ah hof;clear hof;have jk:=ah hl3;clear hl3))
   refine gX (S:=fun w'=>w'.cell? ⟨w.heap.size,0,none⟩=some (.int .i64 dc)∧w'.cell? ⟨w.heap.size,1,none⟩=some (.int .i64 af)∧w'.cell? ⟨w.heap.size,2,none⟩=some (.int .i64 la)∧w'.cell? ⟨w.heap.size,3,none⟩=some (.int .i64 v0)∧w'.cell? ⟨w.heap.size,4,none⟩=some (.int .i64 v1)∧w'.cell? ⟨w.heap.size,5,none⟩=some (.int .i64 v2)∧w'.cell? ⟨w.heap.size,6,none⟩=some (.int .i64 v3)∧w'.cell? ⟨w.heap.size,7,none⟩=some (.slice a0 0 c0)∧w'.cell? ⟨w.heap.size,8,none⟩=some (.slice a1 m c1)∧w'.cell? ⟨w.heap.size,9,none⟩=some (.slice a2 k c2)) 20 (by kernel_rfl) ⟨y0,y1,y2,y3,y4,y5,y6,y7,y8,y9⟩ ?_
   intro hS
   have cu:=ah (fun Y Y' (f:aj au Y Y') (hS:Y.cell? ⟨w.heap.size,0,none⟩=some (.int .i64 dc)∧Y.cell? ⟨w.heap.size,1,none⟩=some (.int .i64 af)∧Y.cell? ⟨w.heap.size,2,none⟩=some (.int .i64 la)∧Y.cell? ⟨w.heap.size,3,none⟩=some (.int .i64 v0)∧Y.cell? ⟨w.heap.size,4,none⟩=some (.int .i64 v1)∧Y.cell? ⟨w.heap.size,5,none⟩=some (.int .i64 v2)∧Y.cell? ⟨w.heap.size,6,none⟩=some (.int .i64 v3)∧Y.cell? ⟨w.heap.size,7,none⟩=some (.slice a0 0 c0)∧Y.cell? ⟨w.heap.size,8,none⟩=some (.slice a1 m c1)∧Y.cell? ⟨w.heap.size,9,none⟩=some (.slice a2 k c2))=>(⟨f.cell' hS.1 id,f.cell' hS.2.1 id,f.cell' hS.2.2.1 id,f.cell' hS.2.2.2.1 id,f.cell' hS.2.2.2.2.1 id,f.cell' hS.2.2.2.2.2.1 id,f.cell' hS.2.2.2.2.2.2.1 id,f.cell' hS.2.2.2.2.2.2.2.1 id,f.cell' hS.2.2.2.2.2.2.2.2.1 id,f.cell' hS.2.2.2.2.2.2.2.2.2 id⟩:Y'.cell? ⟨w.heap.size,0,none⟩=some (.int .i64 dc)∧Y'.cell? ⟨w.heap.size,1,none⟩=some (.int .i64 af)∧Y'.cell? ⟨w.heap.size,2,none⟩=some (.int .i64 la)∧Y'.cell? ⟨w.heap.size,3,none⟩=some (.int .i64 v0)∧Y'.cell? ⟨w.heap.size,4,none⟩=some (.int .i64 v1)∧Y'.cell? ⟨w.heap.size,5,none⟩=some (.int .i64 v2)∧Y'.cell? ⟨w.heap.size,6,none⟩=some (.int .i64 v3)∧Y'.cell? ⟨w.heap.size,7,none⟩=some (.slice a0 0 c0)∧Y'.cell? ⟨w.heap.size,8,none⟩=some (.slice a1 m c1)∧Y'.cell? ⟨w.heap.size,9,none⟩=some (.slice a2 k c2)))
   have gU:=ah ((fA.out.ay HW3.out).ay (aj.drew au w3))
   have vW:=ah (bI.out.rd.aP (aj.drew au w3))
   clear y0 y1 y2 y3 y4 y5 y6 y7 y8 y9 HW3 bI
   generalize w3.drew=Y at*
   refine aT 0 29 rfl rfl (v:=?_) (.inl ⟨by rfl,?_⟩) ?_
   rotate_left 1
   ·(intro w hSw;(try dsimp only at hSw);go_simp;(try with_reducible rfl))
   refine aT 1 30 rfl rfl (v:=?_) (.inl ⟨by rfl,?_⟩) ?_
   rotate_left 1
   ·(intro w hSw;(try dsimp only at hSw);go_simp;(try with_reducible rfl))
   try simp only[Act.put,aJ,aN,aO]
   refine bD (i:=2) (by kernel_rfl) rfl (fun K hK=>?_)
   go_simp
   refine(HOW.out _ iF.out).mono ?_
   rintro e Y1 ⟨v1',rfl,hc1,hf1⟩;obtain⟨vX,vY,rfl⟩:∃a c,v1'= .slice a 1 c:=Rd.sl hc1
   have hS:=cu.out _ _ hf1 hS
   refine hK.out _ _ hS ?_
   clear hK K
   have dN:=ah (gU.out.ay hf1);have HD1:=ah (vW.out.aP hf1);have kH:=ah hc1;clear hc1 hf1
   try simp only[Act.put,aJ,aN,aO]
   refine bD (i:=3) (by kernel_rfl) rfl (fun K hK=>?_)
   go_simp
   refine(jd.out _ _ _ d _ HD1.out kH.out eX.out.right.fits je.out.fits (by have:=jk.out;omega) (by simp)).mono ?_
   rintro e Y2 ⟨rfl,hf2⟩;rw[ru.out d eX.out]
   have hS:=cu.out _ _ hf2 hS
   refine hK.out _ _ hS ?_
   clear hK K
   have HF2:=ah (dN.out.ay hf2);clear hf2
   try simp only[Act.put,aJ,aN,aO]
   refine aT 4 33 rfl rfl (v:=?_) (.inl ⟨by rfl,?_⟩) ?_
   rotate_left 1
   ·(intro w hSw;(try dsimp only at hSw);go_simp;(try with_reducible rfl))
   refine aT 5 34 rfl rfl (v:=?_) (.inl ⟨by rfl,?_⟩) ?_
   rotate_left 1
   ·(intro w hSw;(try dsimp only at hSw);go_simp;(try with_reducible rfl))
   try simp only[Act.put,aJ,aN,aO]
   refine aT 7 36 rfl rfl (v:=?_) (.inl ⟨by rfl,?_⟩) ?_
   rotate_left 1
   ·(intro w hSw;(try dsimp only at hSw);go_simp;(try with_reducible rfl))
   refine aT 8 37 rfl rfl (v:=?_) (.inl ⟨by rfl,?_⟩) ?_
   rotate_left 1
   ·(intro w hSw;(try dsimp only at hSw);go_simp;(try with_reducible rfl))
   try simp only[Act.put,aJ,aN,aO]
   refine aT 9 38 rfl rfl (v:=?_) (.inl ⟨by rfl,?_⟩) ?_
   rotate_left 1
   ·(intro w hSw;(try dsimp only at hSw);go_simp;(try with_reducible rfl))
   try simp only[Act.put,aJ,aN,aO]
   refine bD (i:=6) (by kernel_rfl) rfl (fun K hK=>?_)
   go_simp
   refine(HOW.out _ iF.out).mono ?_
   rintro e Y3 ⟨nU,rfl,hc3,hf3⟩;obtain⟨CW,CX,rfl⟩:∃a c,nU= .slice a 1 c:=Rd.sl hc3
   have hS:=cu.out _ _ hf3 hS
   refine hK.out _ _ hS ?_
   clear hK K
   have HF3:=ah (HF2.out.ay hf3);have mG:=ah hc3;clear hc3 hf3
   try simp only[Act.put,aJ,aN,aO]
   refine bD (i:=10) (by kernel_rfl) rfl (fun K hK=>?_)
   go_simp
   refine(jd.out _ _ _ _ c mG.out (jc.out _ HF3.out) je.out.fits tZ.out (by simp) (by have:=jS.out;have:=nT.out;omega)).mono ?_
   rintro e Y4 ⟨rfl,hf4⟩;rw[HP2.out]
   have hS:=cu.out _ _ hf4 hS
   refine hK.out _ _ hS ?_
   clear hK K
   have jG:=ah (HF3.out.ay hf4);clear hf4
   try simp only[Act.put,aJ,aN,aO]
   refine aT 11 40 rfl rfl (v:=?_) (.inl ⟨by rfl,?_⟩) ?_
   rotate_left 1
   ·(intro w hSw;(try dsimp only at hSw);go_simp;(try with_reducible rfl))
   refine aT 12 41 rfl rfl (v:=?_) (.inl ⟨by rfl,?_⟩) ?_
   rotate_left 1
   ·(intro w hSw;(try dsimp only at hSw);go_simp;(try with_reducible rfl))
   try simp only[Act.put,aJ,aN,aO]
   refine aT 13 42 rfl rfl (v:=?_) (.inl ⟨by rfl,?_⟩) ?_
   rotate_left 1
   ·(intro w hSw;(try dsimp only at hSw);go_simp;(try with_reducible rfl))
   refine aT 14 43 rfl rfl (v:=?_) (.inl ⟨by rfl,?_⟩) ?_
   rotate_left 1
   ·(intro w hSw;(try dsimp only at hSw);go_simp;(try with_reducible rfl))
   try simp only[Act.put,aJ,aN,aO]
   refine aT 15 44 rfl rfl (v:=?_) (.inl ⟨by rfl,?_⟩) ?_
   rotate_left 1
   ·(intro w hSw;(try dsimp only at hSw);go_simp;(try with_reducible rfl))
   refine aT 16 45 rfl rfl (v:=?_) (.inl ⟨by rfl,?_⟩) ?_
   rotate_left 1
   ·(intro w hSw;(try dsimp only at hSw);go_simp;(try with_reducible rfl))
   try simp only[Act.put,aJ,aN,aO]
   refine bD (i:=17) (by kernel_rfl) rfl (fun K hK=>?_)
   go_simp
   refine(zq.out _ iF.out).mono ?_
   rintro e Y5 ⟨SB,rfl,iZ,hl5⟩;obtain⟨SC,SE,rfl⟩:=iZ.shape;have hf5:=iZ.aH
   have hS:=cu.out _ _ hf5 hS
   refine hK.out _ _ hS ?_
   clear hK K
   have lW:=ah (jG.out.ay hf5);have jV:=ah iZ;have PX:=ah hl5;clear iZ hf5 hl5
   try simp only[Act.put,aJ,aN,aO]
   refine bD (i:=18) (by kernel_rfl) rfl (fun K hK=>?_)
   go_simp
   refine(jd.out _ _ _ c _ (jc.out _ lW.out) jV.out.rd tZ.out Iq.out.fits (by have:=jS.out;have:=nT.out;omega) (by have:=PX.out;omega)).mono ?_
   rintro e Y6 ⟨rfl,jr⟩;rw[CV.out]
   have hS:=cu.out _ _ jr hS
   refine hK.out _ _ hS ?_
   clear hK K
   have HF6:=ah (lW.out.ay jr);clear jr
   try simp only[Act.put,aJ,aN,aO]
   refine aT 19 48 rfl rfl (v:=?_) (.inl ⟨by rfl,?_⟩) ?_
   rotate_left 1
   ·(intro w hSw;(try dsimp only at hSw);go_simp;(try with_reducible rfl))
   try simp only[Act.put,aJ,aN,aO]
   refine fD (by kernel_rfl) (by kernel_rfl) rfl (fun K hK=>?_)
   go_simp
   refine hK.out _ _ ?_
   clear hK K hS
   go_wp2
   go_ret
   exact⟨rfl,HF6.out⟩
end Go.Proofs.YtabkpccdnkjoiaaGreat
