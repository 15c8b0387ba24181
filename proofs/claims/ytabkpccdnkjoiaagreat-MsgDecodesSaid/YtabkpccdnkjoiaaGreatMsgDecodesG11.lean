/- Words for the law MsgDecodes: BunQ. -/
import Derived.Test.YtabkpccdnkjoiaaGreatMsgDecodesG0
import Derived.Test.YtabkpccdnkjoiaaGreatMsgDecodesG10
set_option linter.unusedSimpArgs false
set_option linter.unusedVariables false
set_option maxHeartbeats 32000000
set_option maxRecDepth 1000000
namespace Go.Proofs.YtabkpccdnkjoiaaGreat
open Go.RowKit
theorem MN (Q:Nat→Prop) (es:List aQ) (ks:aS) (c:aX) (w:World) (dc af la v0 v1 v2 v3:Int) (ev kv cv:Value) (h:gK Q w ev kv cv es ks c) (hok:jd es ks c):
 Calls Tryz.prog 83 #[.agg #[.int .i64 dc, .int .i64 af, .int .i64 la, .int .i64 v0, .int .i64 v1, .int .i64 v2, .int .i64 v3,ev,kv,cv]] w fun e w'=>e= .returned (.bool (tf (nM dc af la (bP v0 v1 v2 v3) es ks c)))∧aj ay w w':=by
 obtain⟨a0,c0,a1,c1,a2,c2,rfl,rfl,rfl⟩:=h.shape
 have j_:=ah (fun W=>aat W dc af la v0 v1 v2 v3 a0 a1 a2 es.length ks.len c.length c0 c1 c2)
 have fU:=ah (fun W (f:aj ay w W)=>EK Q es ks c W _ _ _ (h.aJ f) hok)
 have tK:=ah (fun W (f:aj ay w W)=>Sr Q es ks W _ _ (h.tree.aJ f) hok.tree (Nat.le_trans hok.small (by decide)))
 have HOW:=ah (fun W hn=>aav W dc af la v0 v1 v2 v3 a0 a1 a2 es.length ks.len c.length c0 c1 c2 hn)
 have qY:=ah (fun W hn=>aaw W dc af la v0 v1 v2 v3 a0 a1 a2 es.length ks.len c.length c0 c1 c2 hn)
 have qZ:=ah (fun W (f:aj ay w W)=>(show jf W (.slice a2 c.length c2) c from Rd.aJ h.ctx f))
 have ni:=ah hok.fits
 have hcl:=hok.len
 have hdl:(iD es ks).length≤2000:=Nat.le_trans (EC es ks) hok.small
 have oK:=ah hdl;clear hdl
 have jS:=ah (fun W va vb a b ha hb fa fb la lb=>Rx W va vb a b ha hb fa fb la lb)
 clear h hok
 have bF:=ah (EL w (.int .i64 dc) (.int .i64 af) (.int .i64 la) (.int .i64 v0) (.int .i64 v1) (.int .i64 v2) (.int .i64 v3) (.slice a0 es.length c0) (.slice a1 ks.len c1) (.slice a2 c.length c2) 59)
 have hfa:aj ay w (w.alloc (.cells #[.int .i64 dc, .int .i64 af, .int .i64 la, .int .i64 v0, .int .i64 v1, .int .i64 v2, .int .i64 v3, .slice a0 es.length c0, .slice a1 ks.len c1, .slice a2 c.length c2] 59)):=aj.alloc _ _ _
 have bD:=ah hfa;clear hfa
 by_cases hn:qW dc af la (bP v0 v1 v2 v3)
 rotate_left 1
 ·rw[bf hn]at j_
  rw[bf fun h=>hn h.nums]
  clear hn fU tK HOW qY qZ ni jS hcl oK
  generalize es.length=n at*
  generalize ks.len=m at*
  generalize c.length=k at*
  go_enter Tryz.func83,Tryz.ntmps83
  go_wp2_with(go_at_call 143;refine(j_.out _).mono ?_;rintro e w1 ⟨rfl,hw1⟩;have HW1:=ah (bD.out.aC hw1);clear hw1)
  go_ret
  exact⟨rfl,HW1.out⟩
 rw[dO hn]at j_
 by_cases hc:jM es ks c
 rotate_left 1
 ·rw[bf hc]at fU
  rw[bf fun h=>hc ⟨h.tree,h.ctx,h.dots⟩]
  clear hn hc tK HOW qY qZ ni jS hcl oK
  generalize es.length=n at*
  generalize ks.len=m at*
  generalize c.length=k at*
  go_enter Tryz.func83,Tryz.ntmps83
  go_wp2_with(first
   |(go_at_call 143;refine(j_.out _).mono ?_;rintro e w1 ⟨rfl,hw1⟩;obtain⟨y0,y1,y2,y3,y4,y5,y6,y7,y8,y9⟩:=bF.out w1 hw1;have HW1:=ah (bD.out.aC hw1);clear hw1)
   |(go_at_call 93;refine(fU.out _ HW1.out).mono ?_;rintro e w2 ⟨rfl,hw2⟩;have HW2:=ah (HW1.out.aC hw2);clear hw2))
  go_ret
  exact⟨rfl,HW2.out⟩
 rw[dO hc]at fU
 rcases Nat.eq_zero_or_pos es.length with he0|EN
 rotate_left 1
 ·rw[bf fun h=>by rw[h.bare]at EN;cases EN]
  clear hn hc tK HOW qY qZ ni jS hcl oK
  generalize es.length=n at*
  generalize ks.len=m at*
  generalize c.length=k at*
  go_enter Tryz.func83,Tryz.ntmps83
  go_wp2_with(first
   |(go_at_call 143;refine(j_.out _).mono ?_;rintro e w1 ⟨rfl,hw1⟩;obtain⟨y0,y1,y2,y3,y4,y5,y6,y7,y8,y9⟩:=bF.out w1 hw1;have HW1:=ah hw1;clear hw1)
   |(go_at_call 93;refine(fU.out _ (bD.out.aC HW1.out)).mono ?_;rintro e w2 ⟨rfl,hw2⟩;clear y0 y1 y2 y3 y4 y5 y6 y7 y8 y9;obtain⟨y0,y1,y2,y3,y4,y5,y6,y7,y8,y9⟩:=bF.out w2 (HW1.out.aC hw2);have HW2:=ah (HW1.out.aC hw2);clear hw2))
  go_ret
  exact⟨rfl,bD.out.aC HW2.out⟩
 have hes:es=[]:=List.eq_nil_of_length_eq_zero he0
 have dU:=ah hc.tree
 have gU:=ah hc.ctx
 have Bh:=ah (Ez hc.tree)
 have nU:=ah hn.Sz
 have SA:=ah (Qu (v:=iE (bP v0 v1 v2 v3) dc la) fun d h0 h4=>(hn.ML (x:=la) (by have:=hn.2.2.1;have:=hn.2.2.2.1;omega) hn.2.2.2.2.1 d h0 h4).2)
 have hp1:∀d,qO (iD es ks) d→tf (dN d∧dN [(dc,af+1,la)]∧jX d [(dc,af+1,la)])=tf (wB (iD es ks) [(dc,af+1,la)]):=fun d hd=>qN ⟨fun h=>(hd.leq Bh.out).1 h.2.2,fun h=>⟨hd.right,nU.out,(hd.leq Bh.out).2 h⟩⟩
 have hp2:tf (dN [(dc,af+1,la)]∧dN c∧jX [(dc,af+1,la)] c)=tf (jX [(dc,af+1,la)] c):=qN ⟨fun h=>h.2.2,fun h=>⟨nU.out,gU.out,h⟩⟩
 have hp3:tf (dN c∧dN (f_ (iE (bP v0 v1 v2 v3) dc la))∧jX c (f_ (iE (bP v0 v1 v2 v3) dc la)))=tf (jX c (f_ (iE (bP v0 v1 v2 v3) dc la))):=qN ⟨fun h=>h.2.2,fun h=>⟨gU.out,SA.out,h⟩⟩
 have iQ:=ah hp1;clear hp1
 have HP2:=ah hp2;clear hp2
 have nN:=ah hp3;clear hp3
 have hall:tf (nM dc af la (bP v0 v1 v2 v3) es ks c)=(tf (wB (iD es ks) [(dc,af+1,la)])&&(tf (jX [(dc,af+1,la)] c)&&tf (jX c (f_ (iE (bP v0 v1 v2 v3) dc la))))):=by
  rw[Bool.eq_iff_iff]
  simp only[Bool.and_eq_true,yG]
  exact⟨fun h=>⟨h.mine,h.own,h.may⟩,fun h=>⟨hn,hc.tree,hc.ctx,hc.dots,hes,h.1,h.2.1,h.2.2⟩⟩
 rw[hall]
 have kN:=ah hn
 have qo:=ah hcl
 clear hall hn hc hes hcl
 generalize tf (jX c (f_ (iE (bP v0 v1 v2 v3) dc la)))=b3 at*
 generalize iE (bP v0 v1 v2 v3) dc la=g at*
 generalize tf (jX [(dc,af+1,la)] c)=b2 at*
 generalize tf (wB (iD es ks) [(dc,af+1,la)])=b1 at*
 generalize hel:es.length=n at*
 subst he0
 have L_:=ah hel;clear hel
 generalize ks.len=m at*
 generalize hck:c.length=k at*
 have wF:=ah hck;clear hck
 cases b1 with
 |false=>
  go_enter Tryz.func83,Tryz.ntmps83
  go_wp2_with(first
   |(go_at_call 143;refine(j_.out _).mono ?_;rintro e w1 ⟨rfl,hw1⟩;obtain⟨y0,y1,y2,y3,y4,y5,y6,y7,y8,y9⟩:=bF.out w1 hw1;have HW1:=ah hw1;clear hw1)
   |(go_at_call 93;refine(fU.out _ (bD.out.aC HW1.out)).mono ?_;rintro e w2 ⟨rfl,hw2⟩;clear y0 y1 y2 y3 y4 y5 y6 y7 y8 y9;obtain⟨y0,y1,y2,y3,y4,y5,y6,y7,y8,y9⟩:=bF.out w2 (HW1.out.aC hw2);have HW2:=ah (HW1.out.aC hw2);clear hw2)
   |(go_at_call 146;refine(tK.out _ (bD.out.aC HW2.out)).mono ?_;rintro e w3 ⟨hf3,hd3,-⟩;obtain⟨kG,d,rfl,ho3,hof,hl3⟩:=hd3 dU.out;clear hd3;obtain⟨a3,c3,rfl⟩:=ho3.shape;clear y0 y1 y2 y3 y4 y5 y6 y7 y8 y9;obtain⟨y0,y1,y2,y3,y4,y5,y6,y7,y8,y9⟩:=bF.out w3 (HW2.out.aC hf3);have HW3:=ah (HW2.out.aC hf3);clear hf3;have dZ:=ah ho3;clear ho3;have gy:=ah hof;clear hof;have lU:=ah hl3;clear hl3))
  refine ku (S:=fun w'=>w'.cell? ⟨w.heap.size,0,none⟩=some (.int .i64 dc)∧w'.cell? ⟨w.heap.size,1,none⟩=some (.int .i64 af)∧w'.cell? ⟨w.heap.size,2,none⟩=some (.int .i64 la)∧w'.cell? ⟨w.heap.size,3,none⟩=some (.int .i64 v0)∧w'.cell? ⟨w.heap.size,4,none⟩=some (.int .i64 v1)∧w'.cell? ⟨w.heap.size,5,none⟩=some (.int .i64 v2)∧w'.cell? ⟨w.heap.size,6,none⟩=some (.int .i64 v3)∧w'.cell? ⟨w.heap.size,7,none⟩=some (.slice a0 0 c0)∧w'.cell? ⟨w.heap.size,8,none⟩=some (.slice a1 m c1)∧w'.cell? ⟨w.heap.size,9,none⟩=some (.slice a2 k c2)) 20 (by kernel_rfl) ⟨y0,y1,y2,y3,y4,y5,y6,y7,y8,y9⟩ ?_
  intro hS
  have gQ:=ah (fun Y Y' (f:aj ay Y Y') (hS:Y.cell? ⟨w.heap.size,0,none⟩=some (.int .i64 dc)∧Y.cell? ⟨w.heap.size,1,none⟩=some (.int .i64 af)∧Y.cell? ⟨w.heap.size,2,none⟩=some (.int .i64 la)∧Y.cell? ⟨w.heap.size,3,none⟩=some (.int .i64 v0)∧Y.cell? ⟨w.heap.size,4,none⟩=some (.int .i64 v1)∧Y.cell? ⟨w.heap.size,5,none⟩=some (.int .i64 v2)∧Y.cell? ⟨w.heap.size,6,none⟩=some (.int .i64 v3)∧Y.cell? ⟨w.heap.size,7,none⟩=some (.slice a0 0 c0)∧Y.cell? ⟨w.heap.size,8,none⟩=some (.slice a1 m c1)∧Y.cell? ⟨w.heap.size,9,none⟩=some (.slice a2 k c2))=>(⟨f.cell' hS.1 id,f.cell' hS.2.1 id,f.cell' hS.2.2.1 id,f.cell' hS.2.2.2.1 id,f.cell' hS.2.2.2.2.1 id,f.cell' hS.2.2.2.2.2.1 id,f.cell' hS.2.2.2.2.2.2.1 id,f.cell' hS.2.2.2.2.2.2.2.1 id,f.cell' hS.2.2.2.2.2.2.2.2.1 id,f.cell' hS.2.2.2.2.2.2.2.2.2 id⟩:Y'.cell? ⟨w.heap.size,0,none⟩=some (.int .i64 dc)∧Y'.cell? ⟨w.heap.size,1,none⟩=some (.int .i64 af)∧Y'.cell? ⟨w.heap.size,2,none⟩=some (.int .i64 la)∧Y'.cell? ⟨w.heap.size,3,none⟩=some (.int .i64 v0)∧Y'.cell? ⟨w.heap.size,4,none⟩=some (.int .i64 v1)∧Y'.cell? ⟨w.heap.size,5,none⟩=some (.int .i64 v2)∧Y'.cell? ⟨w.heap.size,6,none⟩=some (.int .i64 v3)∧Y'.cell? ⟨w.heap.size,7,none⟩=some (.slice a0 0 c0)∧Y'.cell? ⟨w.heap.size,8,none⟩=some (.slice a1 m c1)∧Y'.cell? ⟨w.heap.size,9,none⟩=some (.slice a2 k c2)))
  have jo:=ah ((bD.out.aC HW3.out).aC (aj.drew ay w3))
  have EO:=ah (dZ.out.rd.aJ (aj.drew ay w3))
  clear y0 y1 y2 y3 y4 y5 y6 y7 y8 y9 HW3 dZ
  generalize w3.drew=Y at*
  refine aU 0 29 rfl rfl (v:=?_) (.inl ⟨by rfl,?_⟩) ?_
  rotate_left 1
  ·(intro w hSw;(try dsimp only at hSw);go_simp;(try with_reducible rfl))
  refine aU 1 30 rfl rfl (v:=?_) (.inl ⟨by rfl,?_⟩) ?_
  rotate_left 1
  ·(intro w hSw;(try dsimp only at hSw);go_simp;(try with_reducible rfl))
  try simp only[Act.put,aN,aO,aP]
  refine bJ (i:=2) (by kernel_rfl) rfl (fun K hK=>?_)
  go_simp
  refine(HOW.out _ kN.out).mono ?_
  rintro e Y1 ⟨v1',rfl,hc1,hf1⟩;obtain⟨EP,ER,rfl⟩:∃a c,v1'= .slice a 1 c:=Rd.sl hc1
  have hS:=gQ.out _ _ hf1 hS
  refine hK.out _ _ hS ?_
  clear hK K
  have bg:=ah (jo.out.aC hf1);have HD1:=ah (EO.out.aJ hf1);have bH:=ah hc1;clear hc1 hf1
  try simp only[Act.put,aN,aO,aP]
  refine bJ (i:=3) (by kernel_rfl) rfl (fun K hK=>?_)
  go_simp
  refine(jS.out _ _ _ d _ HD1.out bH.out gy.out.right.fits nU.out.fits (by have:=lU.out;omega) (by simp)).mono ?_
  rintro e Y2 ⟨rfl,hf2⟩;rw[iQ.out d gy.out]
  have hS:=gQ.out _ _ hf2 hS
  refine hK.out _ _ hS ?_
  clear hK K
  have HF2:=ah (bg.out.aC hf2);clear hf2
  try simp only[Act.put,aN,aO,aP]
  refine aU 4 33 rfl rfl (v:=?_) (.inl ⟨by rfl,?_⟩) ?_
  rotate_left 1
  ·(intro w hSw;(try dsimp only at hSw);go_simp;(try with_reducible rfl))
  refine dS 5 34 rfl rfl ?_
  try simp only[Act.put,aN,aO,aP]
  refine dS 6 35 rfl rfl ?_
  refine dS 7 36 rfl rfl ?_
  try simp only[Act.put,aN,aO,aP]
  refine dS 8 37 rfl rfl ?_
  refine dS 9 38 rfl rfl ?_
  try simp only[Act.put,aN,aO,aP]
  refine dS 10 39 rfl rfl ?_
  refine aU 11 40 rfl rfl (v:=?_) (.inl ⟨by rfl,?_⟩) ?_
  rotate_left 1
  ·(intro w hSw;(try dsimp only at hSw);go_simp;(try with_reducible rfl))
  try simp only[Act.put,aN,aO,aP]
  refine aU 12 41 rfl rfl (v:=?_) (.inl ⟨by rfl,?_⟩) ?_
  rotate_left 1
  ·(intro w hSw;(try dsimp only at hSw);go_simp;(try with_reducible rfl))
  refine dS 13 42 rfl rfl ?_
  try simp only[Act.put,aN,aO,aP]
  refine dS 14 43 rfl rfl ?_
  refine dS 15 44 rfl rfl ?_
  try simp only[Act.put,aN,aO,aP]
  refine dS 16 45 rfl rfl ?_
  refine dS 17 46 rfl rfl ?_
  try simp only[Act.put,aN,aO,aP]
  refine dS 18 47 rfl rfl ?_
  refine aU 19 48 rfl rfl (v:=?_) (.inl ⟨by rfl,?_⟩) ?_
  rotate_left 1
  ·(intro w hSw;(try dsimp only at hSw);go_simp;(try with_reducible rfl))
  try simp only[Act.put,aN,aO,aP]
  refine iC (by kernel_rfl) (by kernel_rfl) rfl (fun K hK=>?_)
  go_simp
  refine hK.out _ _ ?_
  clear hK K hS
  go_wp2
  go_ret
  exact⟨rfl,HF2.out⟩
 |true=>
  cases b2 with
  |false=>
   go_enter Tryz.func83,Tryz.ntmps83
   go_wp2_with(first
    |(go_at_call 143;refine(j_.out _).mono ?_;rintro e w1 ⟨rfl,hw1⟩;obtain⟨y0,y1,y2,y3,y4,y5,y6,y7,y8,y9⟩:=bF.out w1 hw1;have HW1:=ah hw1;clear hw1)
    |(go_at_call 93;refine(fU.out _ (bD.out.aC HW1.out)).mono ?_;rintro e w2 ⟨rfl,hw2⟩;clear y0 y1 y2 y3 y4 y5 y6 y7 y8 y9;obtain⟨y0,y1,y2,y3,y4,y5,y6,y7,y8,y9⟩:=bF.out w2 (HW1.out.aC hw2);have HW2:=ah (HW1.out.aC hw2);clear hw2)
    |(go_at_call 146;refine(tK.out _ (bD.out.aC HW2.out)).mono ?_;rintro e w3 ⟨hf3,hd3,-⟩;obtain⟨kG,d,rfl,ho3,hof,hl3⟩:=hd3 dU.out;clear hd3;obtain⟨a3,c3,rfl⟩:=ho3.shape;clear y0 y1 y2 y3 y4 y5 y6 y7 y8 y9;obtain⟨y0,y1,y2,y3,y4,y5,y6,y7,y8,y9⟩:=bF.out w3 (HW2.out.aC hf3);have HW3:=ah (HW2.out.aC hf3);clear hf3;have dZ:=ah ho3;clear ho3;have gy:=ah hof;clear hof;have lU:=ah hl3;clear hl3))
   refine ku (S:=fun w'=>w'.cell? ⟨w.heap.size,0,none⟩=some (.int .i64 dc)∧w'.cell? ⟨w.heap.size,1,none⟩=some (.int .i64 af)∧w'.cell? ⟨w.heap.size,2,none⟩=some (.int .i64 la)∧w'.cell? ⟨w.heap.size,3,none⟩=some (.int .i64 v0)∧w'.cell? ⟨w.heap.size,4,none⟩=some (.int .i64 v1)∧w'.cell? ⟨w.heap.size,5,none⟩=some (.int .i64 v2)∧w'.cell? ⟨w.heap.size,6,none⟩=some (.int .i64 v3)∧w'.cell? ⟨w.heap.size,7,none⟩=some (.slice a0 0 c0)∧w'.cell? ⟨w.heap.size,8,none⟩=some (.slice a1 m c1)∧w'.cell? ⟨w.heap.size,9,none⟩=some (.slice a2 k c2)) 20 (by kernel_rfl) ⟨y0,y1,y2,y3,y4,y5,y6,y7,y8,y9⟩ ?_
   intro hS
   have gQ:=ah (fun Y Y' (f:aj ay Y Y') (hS:Y.cell? ⟨w.heap.size,0,none⟩=some (.int .i64 dc)∧Y.cell? ⟨w.heap.size,1,none⟩=some (.int .i64 af)∧Y.cell? ⟨w.heap.size,2,none⟩=some (.int .i64 la)∧Y.cell? ⟨w.heap.size,3,none⟩=some (.int .i64 v0)∧Y.cell? ⟨w.heap.size,4,none⟩=some (.int .i64 v1)∧Y.cell? ⟨w.heap.size,5,none⟩=some (.int .i64 v2)∧Y.cell? ⟨w.heap.size,6,none⟩=some (.int .i64 v3)∧Y.cell? ⟨w.heap.size,7,none⟩=some (.slice a0 0 c0)∧Y.cell? ⟨w.heap.size,8,none⟩=some (.slice a1 m c1)∧Y.cell? ⟨w.heap.size,9,none⟩=some (.slice a2 k c2))=>(⟨f.cell' hS.1 id,f.cell' hS.2.1 id,f.cell' hS.2.2.1 id,f.cell' hS.2.2.2.1 id,f.cell' hS.2.2.2.2.1 id,f.cell' hS.2.2.2.2.2.1 id,f.cell' hS.2.2.2.2.2.2.1 id,f.cell' hS.2.2.2.2.2.2.2.1 id,f.cell' hS.2.2.2.2.2.2.2.2.1 id,f.cell' hS.2.2.2.2.2.2.2.2.2 id⟩:Y'.cell? ⟨w.heap.size,0,none⟩=some (.int .i64 dc)∧Y'.cell? ⟨w.heap.size,1,none⟩=some (.int .i64 af)∧Y'.cell? ⟨w.heap.size,2,none⟩=some (.int .i64 la)∧Y'.cell? ⟨w.heap.size,3,none⟩=some (.int .i64 v0)∧Y'.cell? ⟨w.heap.size,4,none⟩=some (.int .i64 v1)∧Y'.cell? ⟨w.heap.size,5,none⟩=some (.int .i64 v2)∧Y'.cell? ⟨w.heap.size,6,none⟩=some (.int .i64 v3)∧Y'.cell? ⟨w.heap.size,7,none⟩=some (.slice a0 0 c0)∧Y'.cell? ⟨w.heap.size,8,none⟩=some (.slice a1 m c1)∧Y'.cell? ⟨w.heap.size,9,none⟩=some (.slice a2 k c2)))
   have jo:=ah ((bD.out.aC HW3.out).aC (aj.drew ay w3))
   have EO:=ah (dZ.out.rd.aJ (aj.drew ay w3))
   clear y0 y1 y2 y3 y4 y5 y6 y7 y8 y9 HW3 dZ
   generalize w3.drew=Y at*
   refine aU 0 29 rfl rfl (v:=?_) (.inl ⟨by rfl,?_⟩) ?_
   rotate_left 1
   ·(intro w hSw;(try dsimp only at hSw);go_simp;(try with_reducible rfl))
   refine aU 1 30 rfl rfl (v:=?_) (.inl ⟨by rfl,?_⟩) ?_
   rotate_left 1
   ·(intro w hSw;(try dsimp only at hSw);go_simp;(try with_reducible rfl))
   try simp only[Act.put,aN,aO,aP]
   refine bJ (i:=2) (by kernel_rfl) rfl (fun K hK=>?_)
   go_simp
   refine(HOW.out _ kN.out).mono ?_
   rintro e Y1 ⟨v1',rfl,hc1,hf1⟩;obtain⟨EP,ER,rfl⟩:∃a c,v1'= .slice a 1 c:=Rd.sl hc1
   have hS:=gQ.out _ _ hf1 hS
   refine hK.out _ _ hS ?_
   clear hK K
   have bg:=ah (jo.out.aC hf1);have HD1:=ah (EO.out.aJ hf1);have bH:=ah hc1;clear hc1 hf1
   try simp only[Act.put,aN,aO,aP]
   refine bJ (i:=3) (by kernel_rfl) rfl (fun K hK=>?_)
   go_simp
   refine(jS.out _ _ _ d _ HD1.out bH.out gy.out.right.fits nU.out.fits (by have:=lU.out;omega) (by simp)).mono ?_
   rintro e Y2 ⟨rfl,hf2⟩;rw[iQ.out d gy.out]
   have hS:=gQ.out _ _ hf2 hS
   refine hK.out _ _ hS ?_
   clear hK K
   have HF2:=ah (bg.out.aC hf2);clear hf2
   try simp only[Act.put,aN,aO,aP]
   refine aU 4 33 rfl rfl (v:=?_) (.inl ⟨by rfl,?_⟩) ?_
   rotate_left 1
   ·(intro w hSw;(try dsimp only at hSw);go_simp;(try with_reducible rfl))
   refine aU 5 34 rfl rfl (v:=?_) (.inl ⟨by rfl,?_⟩) ?_
   rotate_left 1
   ·(intro w hSw;(try dsimp only at hSw);go_simp;(try with_reducible rfl))
   try simp only[Act.put,aN,aO,aP]
   refine aU 7 36 rfl rfl (v:=?_) (.inl ⟨by rfl,?_⟩) ?_
   rotate_left 1
   ·(intro w hSw;(try dsimp only at hSw);go_simp;(try with_reducible rfl))
   refine aU 8 37 rfl rfl (v:=?_) (.inl ⟨by rfl,?_⟩) ?_
   rotate_left 1
   ·(intro w hSw;(try dsimp only at hSw);go_simp;(try with_reducible rfl))
   try simp only[Act.put,aN,aO,aP]
   refine aU 9 38 rfl rfl (v:=?_) (.inl ⟨by rfl,?_⟩) ?_
   rotate_left 1
   ·(intro w hSw;(try dsimp only at hSw);go_simp;(try with_reducible rfl))
   try simp only[Act.put,aN,aO,aP]
   refine bJ (i:=6) (by kernel_rfl) rfl (fun K hK=>?_)
   go_simp
   refine(HOW.out _ kN.out).mono ?_
   rintro e Y3 ⟨kG,rfl,hc3,hf3⟩;obtain⟨b3a,b3c,rfl⟩:∃a c,kG= .slice a 1 c:=Rd.sl hc3
   have hS:=gQ.out _ _ hf3 hS
   refine hK.out _ _ hS ?_
   clear hK K
   have HF3:=ah (HF2.out.aC hf3);have mP:=ah hc3;clear hc3 hf3
   try simp only[Act.put,aN,aO,aP]
   refine bJ (i:=10) (by kernel_rfl) rfl (fun K hK=>?_)
   go_simp
   refine(jS.out _ _ _ _ c mP.out (qZ.out _ HF3.out) nU.out.fits ni.out (by simp) (by have:=qo.out;have:=wF.out;omega)).mono ?_
   rintro e Y4 ⟨rfl,hf4⟩;rw[HP2.out]
   have hS:=gQ.out _ _ hf4 hS
   refine hK.out _ _ hS ?_
   clear hK K
   have iI:=ah (HF3.out.aC hf4);clear hf4
   try simp only[Act.put,aN,aO,aP]
   refine aU 11 40 rfl rfl (v:=?_) (.inl ⟨by rfl,?_⟩) ?_
   rotate_left 1
   ·(intro w hSw;(try dsimp only at hSw);go_simp;(try with_reducible rfl))
   refine aU 12 41 rfl rfl (v:=?_) (.inl ⟨by rfl,?_⟩) ?_
   rotate_left 1
   ·(intro w hSw;(try dsimp only at hSw);go_simp;(try with_reducible rfl))
   try simp only[Act.put,aN,aO,aP]
   refine dS 13 42 rfl rfl ?_
   refine dS 14 43 rfl rfl ?_
   try simp only[Act.put,aN,aO,aP]
   refine dS 15 44 rfl rfl ?_
   refine dS 16 45 rfl rfl ?_
   try simp only[Act.put,aN,aO,aP]
   refine dS 17 46 rfl rfl ?_
   refine dS 18 47 rfl rfl ?_
   try simp only[Act.put,aN,aO,aP]
   refine aU 19 48 rfl rfl (v:=?_) (.inl ⟨by rfl,?_⟩) ?_
   rotate_left 1
   ·(intro w hSw;(try dsimp only at hSw);go_simp;(try with_reducible rfl))
   try simp only[Act.put,aN,aO,aP]
   refine iC (by kernel_rfl) (by kernel_rfl) rfl (fun K hK=>?_)
   go_simp
   refine hK.out _ _ ?_
   clear hK K hS
   go_wp2
   go_ret
   exact⟨rfl,iI.out⟩
  |true=>
   go_enter Tryz.func83,Tryz.ntmps83
   go_wp2_with(first
    |(go_at_call 143;refine(j_.out _).mono ?_;rintro e w1 ⟨rfl,hw1⟩;obtain⟨y0,y1,y2,y3,y4,y5,y6,y7,y8,y9⟩:=bF.out w1 hw1;have HW1:=ah hw1;clear hw1)
    |(go_at_call 93;refine(fU.out _ (bD.out.aC HW1.out)).mono ?_;rintro e w2 ⟨rfl,hw2⟩;clear y0 y1 y2 y3 y4 y5 y6 y7 y8 y9;obtain⟨y0,y1,y2,y3,y4,y5,y6,y7,y8,y9⟩:=bF.out w2 (HW1.out.aC hw2);have HW2:=ah (HW1.out.aC hw2);clear hw2)
    |(go_at_call 146;refine(tK.out _ (bD.out.aC HW2.out)).mono ?_;rintro e w3 ⟨hf3,hd3,-⟩;obtain⟨kG,d,rfl,ho3,hof,hl3⟩:=hd3 dU.out;clear hd3;obtain⟨a3,c3,rfl⟩:=ho3.shape;clear y0 y1 y2 y3 y4 y5 y6 y7 y8 y9;obtain⟨y0,y1,y2,y3,y4,y5,y6,y7,y8,y9⟩:=bF.out w3 (HW2.out.aC hf3);have HW3:=ah (HW2.out.aC hf3);clear hf3;have dZ:=ah ho3;clear ho3;have gy:=ah hof;clear hof;have lU:=ah hl3;clear hl3))
   refine ku (S:=fun w'=>w'.cell? ⟨w.heap.size,0,none⟩=some (.int .i64 dc)∧w'.cell? ⟨w.heap.size,1,none⟩=some (.int .i64 af)∧w'.cell? ⟨w.heap.size,2,none⟩=some (.int .i64 la)∧w'.cell? ⟨w.heap.size,3,none⟩=some (.int .i64 v0)∧w'.cell? ⟨w.heap.size,4,none⟩=some (.int .i64 v1)∧w'.cell? ⟨w.heap.size,5,none⟩=some (.int .i64 v2)∧w'.cell? ⟨w.heap.size,6,none⟩=some (.int .i64 v3)∧w'.cell? ⟨w.heap.size,7,none⟩=some (.slice a0 0 c0)∧w'.cell? ⟨w.heap.size,8,none⟩=some (.slice a1 m c1)∧w'.cell? ⟨w.heap.size,9,none⟩=some (.slice a2 k c2)) 20 (by kernel_rfl) ⟨y0,y1,y2,y3,y4,y5,y6,y7,y8,y9⟩ ?_
   intro hS
   have gQ:=ah (fun Y Y' (f:aj ay Y Y') (hS:Y.cell? ⟨w.heap.size,0,none⟩=some (.int .i64 dc)∧Y.cell? ⟨w.heap.size,1,none⟩=some (.int .i64 af)∧Y.cell? ⟨w.heap.size,2,none⟩=some (.int .i64 la)∧Y.cell? ⟨w.heap.size,3,none⟩=some (.int .i64 v0)∧Y.cell? ⟨w.heap.size,4,none⟩=some (.int .i64 v1)∧Y.cell? ⟨w.heap.size,5,none⟩=some (.int .i64 v2)∧Y.cell? ⟨w.heap.size,6,none⟩=some (.int .i64 v3)∧Y.cell? ⟨w.heap.size,7,none⟩=some (.slice a0 0 c0)∧Y.cell? ⟨w.heap.size,8,none⟩=some (.slice a1 m c1)∧Y.cell? ⟨w.heap.size,9,none⟩=some (.slice a2 k c2))=>(⟨f.cell' hS.1 id,f.cell' hS.2.1 id,f.cell' hS.2.2.1 id,f.cell' hS.2.2.2.1 id,f.cell' hS.2.2.2.2.1 id,f.cell' hS.2.2.2.2.2.1 id,f.cell' hS.2.2.2.2.2.2.1 id,f.cell' hS.2.2.2.2.2.2.2.1 id,f.cell' hS.2.2.2.2.2.2.2.2.1 id,f.cell' hS.2.2.2.2.2.2.2.2.2 id⟩:Y'.cell? ⟨w.heap.size,0,none⟩=some (.int .i64 dc)∧Y'.cell? ⟨w.heap.size,1,none⟩=some (.int .i64 af)∧Y'.cell? ⟨w.heap.size,2,none⟩=some (.int .i64 la)∧Y'.cell? ⟨w.heap.size,3,none⟩=some (.int .i64 v0)∧Y'.cell? ⟨w.heap.size,4,none⟩=some (.int .i64 v1)∧Y'.cell? ⟨w.heap.size,5,none⟩=some (.int .i64 v2)∧Y'.cell? ⟨w.heap.size,6,none⟩=some (.int .i64 v3)∧Y'.cell? ⟨w.heap.size,7,none⟩=some (.slice a0 0 c0)∧Y'.cell? ⟨w.heap.size,8,none⟩=some (.slice a1 m c1)∧Y'.cell? ⟨w.heap.size,9,none⟩=some (.slice a2 k c2)))
   have jo:=ah ((bD.out.aC HW3.out).aC (aj.drew ay w3))
   have EO:=ah (dZ.out.rd.aJ (aj.drew ay w3))
   clear y0 y1 y2 y3 y4 y5 y6 y7 y8 y9 HW3 dZ
   generalize w3.drew=Y at*
   refine aU 0 29 rfl rfl (v:=?_) (.inl ⟨by rfl,?_⟩) ?_
   rotate_left 1
   ·(intro w hSw;(try dsimp only at hSw);go_simp;(try with_reducible rfl))
   refine aU 1 30 rfl rfl (v:=?_) (.inl ⟨by rfl,?_⟩) ?_
   rotate_left 1
   ·(intro w hSw;(try dsimp only at hSw);go_simp;(try with_reducible rfl))
   try simp only[Act.put,aN,aO,aP]
   refine bJ (i:=2) (by kernel_rfl) rfl (fun K hK=>?_)
   go_simp
   refine(HOW.out _ kN.out).mono ?_
   rintro e Y1 ⟨v1',rfl,hc1,hf1⟩;obtain⟨EP,ER,rfl⟩:∃a c,v1'= .slice a 1 c:=Rd.sl hc1
   have hS:=gQ.out _ _ hf1 hS
   refine hK.out _ _ hS ?_
   clear hK K
   have bg:=ah (jo.out.aC hf1);have HD1:=ah (EO.out.aJ hf1);have bH:=ah hc1;clear hc1 hf1
   try simp only[Act.put,aN,aO,aP]
   refine bJ (i:=3) (by kernel_rfl) rfl (fun K hK=>?_)
   go_simp
   refine(jS.out _ _ _ d _ HD1.out bH.out gy.out.right.fits nU.out.fits (by have:=lU.out;omega) (by simp)).mono ?_
   rintro e Y2 ⟨rfl,hf2⟩;rw[iQ.out d gy.out]
   have hS:=gQ.out _ _ hf2 hS
   refine hK.out _ _ hS ?_
   clear hK K
   have HF2:=ah (bg.out.aC hf2);clear hf2
   try simp only[Act.put,aN,aO,aP]
   refine aU 4 33 rfl rfl (v:=?_) (.inl ⟨by rfl,?_⟩) ?_
   rotate_left 1
   ·(intro w hSw;(try dsimp only at hSw);go_simp;(try with_reducible rfl))
   refine aU 5 34 rfl rfl (v:=?_) (.inl ⟨by rfl,?_⟩) ?_
   rotate_left 1
   ·(intro w hSw;(try dsimp only at hSw);go_simp;(try with_reducible rfl))
   try simp only[Act.put,aN,aO,aP]
   refine aU 7 36 rfl rfl (v:=?_) (.inl ⟨by rfl,?_⟩) ?_
   rotate_left 1
   ·(intro w hSw;(try dsimp only at hSw);go_simp;(try with_reducible rfl))
   refine aU 8 37 rfl rfl (v:=?_) (.inl ⟨by rfl,?_⟩) ?_
   rotate_left 1
   ·(intro w hSw;(try dsimp only at hSw);go_simp;(try with_reducible rfl))
   try simp only[Act.put,aN,aO,aP]
   refine aU 9 38 rfl rfl (v:=?_) (.inl ⟨by rfl,?_⟩) ?_
   rotate_left 1
   ·(intro w hSw;(try dsimp only at hSw);go_simp;(try with_reducible rfl))
   try simp only[Act.put,aN,aO,aP]
   refine bJ (i:=6) (by kernel_rfl) rfl (fun K hK=>?_)
   go_simp
   refine(HOW.out _ kN.out).mono ?_
   rintro e Y3 ⟨kG,rfl,hc3,hf3⟩;obtain⟨b3a,b3c,rfl⟩:∃a c,kG= .slice a 1 c:=Rd.sl hc3
   have hS:=gQ.out _ _ hf3 hS
   refine hK.out _ _ hS ?_
   clear hK K
   have HF3:=ah (HF2.out.aC hf3);have mP:=ah hc3;clear hc3 hf3
   try simp only[Act.put,aN,aO,aP]
   refine bJ (i:=10) (by kernel_rfl) rfl (fun K hK=>?_)
   go_simp
   refine(jS.out _ _ _ _ c mP.out (qZ.out _ HF3.out) nU.out.fits ni.out (by simp) (by have:=qo.out;have:=wF.out;omega)).mono ?_
   rintro e Y4 ⟨rfl,hf4⟩;rw[HP2.out]
   have hS:=gQ.out _ _ hf4 hS
   refine hK.out _ _ hS ?_
   clear hK K
   have iI:=ah (HF3.out.aC hf4);clear hf4
   try simp only[Act.put,aN,aO,aP]
   refine aU 11 40 rfl rfl (v:=?_) (.inl ⟨by rfl,?_⟩) ?_
   rotate_left 1
   ·(intro w hSw;(try dsimp only at hSw);go_simp;(try with_reducible rfl))
   refine aU 12 41 rfl rfl (v:=?_) (.inl ⟨by rfl,?_⟩) ?_
   rotate_left 1
   ·(intro w hSw;(try dsimp only at hSw);go_simp;(try with_reducible rfl))
   try simp only[Act.put,aN,aO,aP]
   refine aU 13 42 rfl rfl (v:=?_) (.inl ⟨by rfl,?_⟩) ?_
   rotate_left 1
   ·(intro w hSw;(try dsimp only at hSw);go_simp;(try with_reducible rfl))
   refine aU 14 43 rfl rfl (v:=?_) (.inl ⟨by rfl,?_⟩) ?_
   rotate_left 1
   ·(intro w hSw;(try dsimp only at hSw);go_simp;(try with_reducible rfl))
   try simp only[Act.put,aN,aO,aP]
   refine aU 15 44 rfl rfl (v:=?_) (.inl ⟨by rfl,?_⟩) ?_
   rotate_left 1
   ·(intro w hSw;(try dsimp only at hSw);go_simp;(try with_reducible rfl))
   refine aU 16 45 rfl rfl (v:=?_) (.inl ⟨by rfl,?_⟩) ?_
   rotate_left 1
   ·(intro w hSw;(try dsimp only at hSw);go_simp;(try with_reducible rfl))
   try simp only[Act.put,aN,aO,aP]
   refine bJ (i:=17) (by kernel_rfl) rfl (fun K hK=>?_)
   go_simp
   refine(qY.out _ kN.out).mono ?_
   rintro e Y5 ⟨v5',rfl,qX,hl5⟩;obtain⟨b5a,b5c,rfl⟩:=qX.shape;have hf5:=qX.aH
   have hS:=gQ.out _ _ hf5 hS
   refine hK.out _ _ hS ?_
   clear hK K
   have iJ:=ah (iI.out.aC hf5);have xM:=ah qX;have SB:=ah hl5;clear qX hf5 hl5
   try simp only[Act.put,aN,aO,aP]
   refine bJ (i:=18) (by kernel_rfl) rfl (fun K hK=>?_)
   go_simp
   refine(jS.out _ _ _ c _ (qZ.out _ iJ.out) xM.out.rd ni.out SA.out.fits (by have:=qo.out;have:=wF.out;omega) (by have:=SB.out;omega)).mono ?_
   rintro e Y6 ⟨rfl,fF⟩;rw[nN.out]
   have hS:=gQ.out _ _ fF hS
   refine hK.out _ _ hS ?_
   clear hK K
   have HF6:=ah (iJ.out.aC fF);clear fF
   try simp only[Act.put,aN,aO,aP]
   refine aU 19 48 rfl rfl (v:=?_) (.inl ⟨by rfl,?_⟩) ?_
   rotate_left 1
   ·(intro w hSw;(try dsimp only at hSw);go_simp;(try with_reducible rfl))
   try simp only[Act.put,aN,aO,aP]
   refine iC (by kernel_rfl) (by kernel_rfl) rfl (fun K hK=>?_)
   go_simp
   refine hK.out _ _ ?_
   clear hK K hS
   go_wp2
   go_ret
   exact⟨rfl,HF6.out⟩
end Go.Proofs.YtabkpccdnkjoiaaGreat
