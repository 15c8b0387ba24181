/- Words for the law MsgSame: BunQ. -/
import Derived.Test.YtabkpccdnkjoiaaGreatMsgSameG0
import Derived.Test.YtabkpccdnkjoiaaGreatMsgSameG10
set_option linter.unusedSimpArgs false
set_option linter.unusedVariables false
set_option maxHeartbeats 32000000
set_option maxRecDepth 1000000
namespace Go.Proofs.YtabkpccdnkjoiaaGreat
open Go.RowKit
theorem B_ (Q:Nat→Prop) (es:List aG) (ks:aH) (c:aW) (w:World) (dc af la v0 v1 v2 v3:Int) (ev kv cv:Value) (h:fH Q w ev kv cv es ks c) (hok:fP es ks c):
 Calls Tryz.prog 83 #[.agg #[.int .i64 dc, .int .i64 af, .int .i64 la, .int .i64 v0, .int .i64 v1, .int .i64 v2, .int .i64 v3,ev,kv,cv]] w fun e w'=>e= .returned (.bool (tf (je dc af la (bG v0 v1 v2 v3) es ks c)))∧aj ay w w':=by
 obtain⟨a0,c0,a1,c1,a2,c2,rfl,rfl,rfl⟩:=h.shape
 have jv:=ah (fun W=>WR W dc af la v0 v1 v2 v3 a0 a1 a2 es.length ks.len c.length c0 c1 c2)
 have ig:=ah (fun W (f:aj ay w W)=>yO Q es ks c W _ _ _ (h.aO f) hok)
 have qN:=ah (fun W (f:aj ay w W)=>OI Q es ks W _ _ (h.tree.aO f) hok.tree (Nat.le_trans hok.small (by decide)))
 have HOW:=ah (fun W hn=>WT W dc af la v0 v1 v2 v3 a0 a1 a2 es.length ks.len c.length c0 c1 c2 hn)
 have oG:=ah (fun W hn=>WU W dc af la v0 v1 v2 v3 a0 a1 a2 es.length ks.len c.length c0 c1 c2 hn)
 have oH:=ah (fun W (f:aj ay w W)=>(show fZ W (.slice a2 c.length c2) c from Rd.aO h.ctx f))
 have oI:=ah hok.fits
 have hcl:=hok.len
 have hdl:(gq es ks).length≤2000:=Nat.le_trans (BL es ks) hok.small
 have mJ:=ah hdl;clear hdl
 have jo:=ah (fun W va vb a b ha hb fa fb la lb=>Oa W va vb a b ha hb fa fb la lb)
 clear h hok
 have aQ:=ah (BX w (.int .i64 dc) (.int .i64 af) (.int .i64 la) (.int .i64 v0) (.int .i64 v1) (.int .i64 v2) (.int .i64 v3) (.slice a0 es.length c0) (.slice a1 ks.len c1) (.slice a2 c.length c2) 59)
 have hfa:aj ay w (w.alloc (.cells #[.int .i64 dc, .int .i64 af, .int .i64 la, .int .i64 v0, .int .i64 v1, .int .i64 v2, .int .i64 v3, .slice a0 es.length c0, .slice a1 ks.len c1, .slice a2 c.length c2] 59)):=aj.alloc _ _ _
 have aU:=ah hfa;clear hfa
 by_cases hn:oC dc af la (bG v0 v1 v2 v3)
 rotate_left 1
 ·rw[aZ hn]at jv
  rw[aZ fun h=>hn h.nums]
  clear hn ig qN HOW oG oH oI jo hcl mJ
  generalize es.length=n at*
  generalize ks.len=m at*
  generalize c.length=k at*
  go_enter Tryz.func83,Tryz.ntmps83
  go_wp2_with(go_at_call 143;refine(jv.out _).mono ?_;rintro e w1 ⟨rfl,hw1⟩;have HW1:=ah (aU.out.au hw1);clear hw1)
  go_ret
  exact⟨rfl,HW1.out⟩
 rw[bZ hn]at jv
 by_cases hc:fG es ks c
 rotate_left 1
 ·rw[aZ hc]at ig
  rw[aZ fun h=>hc ⟨h.tree,h.ctx,h.dots⟩]
  clear hn hc qN HOW oG oH oI jo hcl mJ
  generalize es.length=n at*
  generalize ks.len=m at*
  generalize c.length=k at*
  go_enter Tryz.func83,Tryz.ntmps83
  go_wp2_with(first
   |(go_at_call 143;refine(jv.out _).mono ?_;rintro e w1 ⟨rfl,hw1⟩;obtain⟨y0,y1,y2,y3,y4,y5,y6,y7,y8,y9⟩:=aQ.out w1 hw1;have HW1:=ah (aU.out.au hw1);clear hw1)
   |(go_at_call 93;refine(ig.out _ HW1.out).mono ?_;rintro e w2 ⟨rfl,hw2⟩;have HW2:=ah (HW1.out.au hw2);clear hw2))
  go_ret
  exact⟨rfl,HW2.out⟩
 rw[bZ hc]at ig
 rcases Nat.eq_zero_or_pos es.length with he0|Cb
 rotate_left 1
 ·rw[aZ fun h=>by rw[h.bare]at Cb;cases Cb]
  clear hn hc qN HOW oG oH oI jo hcl mJ
  generalize es.length=n at*
  generalize ks.len=m at*
  generalize c.length=k at*
  go_enter Tryz.func83,Tryz.ntmps83
  go_wp2_with(first
   |(go_at_call 143;refine(jv.out _).mono ?_;rintro e w1 ⟨rfl,hw1⟩;obtain⟨y0,y1,y2,y3,y4,y5,y6,y7,y8,y9⟩:=aQ.out w1 hw1;have HW1:=ah hw1;clear hw1)
   |(go_at_call 93;refine(ig.out _ (aU.out.au HW1.out)).mono ?_;rintro e w2 ⟨rfl,hw2⟩;clear y0 y1 y2 y3 y4 y5 y6 y7 y8 y9;obtain⟨y0,y1,y2,y3,y4,y5,y6,y7,y8,y9⟩:=aQ.out w2 (HW1.out.au hw2);have HW2:=ah (HW1.out.au hw2);clear hw2))
  go_ret
  exact⟨rfl,aU.out.au HW2.out⟩
 have hes:es=[]:=List.eq_nil_of_length_eq_zero he0
 have eF:=ah hc.tree
 have jh:=ah hc.ctx
 have yP:=ah (BK hc.tree)
 have lN:=ah hn.OM
 have OQ:=ah (MV (v:=gu (bG v0 v1 v2 v3) dc la) fun d h0 h4=>(hn.Jg (x:=la) (by have:=hn.2.2.1;have:=hn.2.2.2.1;omega) hn.2.2.2.2.1 d h0 h4).2)
 have hp1:∀d,og (gq es ks) d→tf (dw d∧dw [(dc,af+1,la)]∧jr d [(dc,af+1,la)])=tf (uO (gq es ks) [(dc,af+1,la)]):=fun d hd=>kT ⟨fun h=>(hd.leq yP.out).1 h.2.2,fun h=>⟨hd.right,lN.out,(hd.leq yP.out).2 h⟩⟩
 have hp2:tf (dw [(dc,af+1,la)]∧dw c∧jr [(dc,af+1,la)] c)=tf (jr [(dc,af+1,la)] c):=kT ⟨fun h=>h.2.2,fun h=>⟨lN.out,jh.out,h⟩⟩
 have hp3:tf (dw c∧dw (eU (gu (bG v0 v1 v2 v3) dc la))∧jr c (eU (gu (bG v0 v1 v2 v3) dc la)))=tf (jr c (eU (gu (bG v0 v1 v2 v3) dc la))):=kT ⟨fun h=>h.2.2,fun h=>⟨jh.out,OQ.out,h⟩⟩
 have iC:=ah hp1;clear hp1
 have HP2:=ah hp2;clear hp2
 have lH:=ah hp3;clear hp3
 have hall:tf (je dc af la (bG v0 v1 v2 v3) es ks c)=(tf (uO (gq es ks) [(dc,af+1,la)])&&(tf (jr [(dc,af+1,la)] c)&&tf (jr c (eU (gu (bG v0 v1 v2 v3) dc la))))):=by
  rw[Bool.eq_iff_iff]
  simp only[Bool.and_eq_true,sG]
  exact⟨fun h=>⟨h.mine,h.own,h.may⟩,fun h=>⟨hn,hc.tree,hc.ctx,hc.dots,hes,h.1,h.2.1,h.2.2⟩⟩
 rw[hall]
 have jJ:=ah hn
 have nR:=ah hcl
 clear hall hn hc hes hcl
 generalize tf (jr c (eU (gu (bG v0 v1 v2 v3) dc la)))=b3 at*
 generalize gu (bG v0 v1 v2 v3) dc la=g at*
 generalize tf (jr [(dc,af+1,la)] c)=b2 at*
 generalize tf (uO (gq es ks) [(dc,af+1,la)])=b1 at*
 generalize hel:es.length=n at*
 subst he0
 have IY:=ah hel;clear hel
 generalize ks.len=m at*
 generalize hck:c.length=k at*
 have uU:=ah hck;clear hck
 cases b1 with
 |false=>
  go_enter Tryz.func83,Tryz.ntmps83
  go_wp2_with(first
   |(go_at_call 143;refine(jv.out _).mono ?_;rintro e w1 ⟨rfl,hw1⟩;obtain⟨y0,y1,y2,y3,y4,y5,y6,y7,y8,y9⟩:=aQ.out w1 hw1;have HW1:=ah hw1;clear hw1)
   |(go_at_call 93;refine(ig.out _ (aU.out.au HW1.out)).mono ?_;rintro e w2 ⟨rfl,hw2⟩;clear y0 y1 y2 y3 y4 y5 y6 y7 y8 y9;obtain⟨y0,y1,y2,y3,y4,y5,y6,y7,y8,y9⟩:=aQ.out w2 (HW1.out.au hw2);have HW2:=ah (HW1.out.au hw2);clear hw2)
   |(go_at_call 146;refine(qN.out _ (aU.out.au HW2.out)).mono ?_;rintro e w3 ⟨hf3,hd3,-⟩;obtain⟨dO,d,rfl,ho3,hof,hl3⟩:=hd3 eF.out;clear hd3;obtain⟨a3,c3,rfl⟩:=ho3.shape;clear y0 y1 y2 y3 y4 y5 y6 y7 y8 y9;obtain⟨y0,y1,y2,y3,y4,y5,y6,y7,y8,y9⟩:=aQ.out w3 (HW2.out.au hf3);have HW3:=ah (HW2.out.au hf3);clear hf3;have dJ:=ah ho3;clear ho3;have iW:=ah hof;clear hof;have kV:=ah hl3;clear hl3))
  refine iI (S:=fun w'=>w'.cell? ⟨w.heap.size,0,none⟩=some (.int .i64 dc)∧w'.cell? ⟨w.heap.size,1,none⟩=some (.int .i64 af)∧w'.cell? ⟨w.heap.size,2,none⟩=some (.int .i64 la)∧w'.cell? ⟨w.heap.size,3,none⟩=some (.int .i64 v0)∧w'.cell? ⟨w.heap.size,4,none⟩=some (.int .i64 v1)∧w'.cell? ⟨w.heap.size,5,none⟩=some (.int .i64 v2)∧w'.cell? ⟨w.heap.size,6,none⟩=some (.int .i64 v3)∧w'.cell? ⟨w.heap.size,7,none⟩=some (.slice a0 0 c0)∧w'.cell? ⟨w.heap.size,8,none⟩=some (.slice a1 m c1)∧w'.cell? ⟨w.heap.size,9,none⟩=some (.slice a2 k c2)) 20 (by kernel_rfl) ⟨y0,y1,y2,y3,y4,y5,y6,y7,y8,y9⟩ ?_
  intro hS
  have fO:=ah (fun Y Y' (f:aj ay Y Y') (hS:Y.cell? ⟨w.heap.size,0,none⟩=some (.int .i64 dc)∧Y.cell? ⟨w.heap.size,1,none⟩=some (.int .i64 af)∧Y.cell? ⟨w.heap.size,2,none⟩=some (.int .i64 la)∧Y.cell? ⟨w.heap.size,3,none⟩=some (.int .i64 v0)∧Y.cell? ⟨w.heap.size,4,none⟩=some (.int .i64 v1)∧Y.cell? ⟨w.heap.size,5,none⟩=some (.int .i64 v2)∧Y.cell? ⟨w.heap.size,6,none⟩=some (.int .i64 v3)∧Y.cell? ⟨w.heap.size,7,none⟩=some (.slice a0 0 c0)∧Y.cell? ⟨w.heap.size,8,none⟩=some (.slice a1 m c1)∧Y.cell? ⟨w.heap.size,9,none⟩=some (.slice a2 k c2))=>(⟨f.cell' hS.1 id,f.cell' hS.2.1 id,f.cell' hS.2.2.1 id,f.cell' hS.2.2.2.1 id,f.cell' hS.2.2.2.2.1 id,f.cell' hS.2.2.2.2.2.1 id,f.cell' hS.2.2.2.2.2.2.1 id,f.cell' hS.2.2.2.2.2.2.2.1 id,f.cell' hS.2.2.2.2.2.2.2.2.1 id,f.cell' hS.2.2.2.2.2.2.2.2.2 id⟩:Y'.cell? ⟨w.heap.size,0,none⟩=some (.int .i64 dc)∧Y'.cell? ⟨w.heap.size,1,none⟩=some (.int .i64 af)∧Y'.cell? ⟨w.heap.size,2,none⟩=some (.int .i64 la)∧Y'.cell? ⟨w.heap.size,3,none⟩=some (.int .i64 v0)∧Y'.cell? ⟨w.heap.size,4,none⟩=some (.int .i64 v1)∧Y'.cell? ⟨w.heap.size,5,none⟩=some (.int .i64 v2)∧Y'.cell? ⟨w.heap.size,6,none⟩=some (.int .i64 v3)∧Y'.cell? ⟨w.heap.size,7,none⟩=some (.slice a0 0 c0)∧Y'.cell? ⟨w.heap.size,8,none⟩=some (.slice a1 m c1)∧Y'.cell? ⟨w.heap.size,9,none⟩=some (.slice a2 k c2)))
  have gy:=ah ((aU.out.au HW3.out).au (aj.drew ay w3))
  have Cc:=ah (dJ.out.rd.aO (aj.drew ay w3))
  clear y0 y1 y2 y3 y4 y5 y6 y7 y8 y9 HW3 dJ
  generalize w3.drew=Y at*
  refine aS 0 29 rfl rfl (v:=?_) (.inl ⟨by rfl,?_⟩) ?_
  rotate_left 1
  ·(intro w hSw;(try dsimp only at hSw);go_simp;(try with_reducible rfl))
  refine aS 1 30 rfl rfl (v:=?_) (.inl ⟨by rfl,?_⟩) ?_
  rotate_left 1
  ·(intro w hSw;(try dsimp only at hSw);go_simp;(try with_reducible rfl))
  try simp only[Act.put,aI,aJ,aN]
  refine bM (i:=2) (by kernel_rfl) rfl (fun K hK=>?_)
  go_simp
  refine(HOW.out _ jJ.out).mono ?_
  rintro e Y1 ⟨v1',rfl,hc1,hf1⟩;obtain⟨Ce,Ci,rfl⟩:∃a c,v1'= .slice a 1 c:=Rd.sl hc1
  have hS:=fO.out _ _ hf1 hS
  refine hK.out _ _ hS ?_
  clear hK K
  have bH:=ah (gy.out.au hf1);have HD1:=ah (Cc.out.aO hf1);have cO:=ah hc1;clear hc1 hf1
  try simp only[Act.put,aI,aJ,aN]
  refine bM (i:=3) (by kernel_rfl) rfl (fun K hK=>?_)
  go_simp
  refine(jo.out _ _ _ d _ HD1.out cO.out iW.out.right.fits lN.out.fits (by have:=kV.out;omega) (by simp)).mono ?_
  rintro e Y2 ⟨rfl,hf2⟩;rw[iC.out d iW.out]
  have hS:=fO.out _ _ hf2 hS
  refine hK.out _ _ hS ?_
  clear hK K
  have HF2:=ah (bH.out.au hf2);clear hf2
  try simp only[Act.put,aI,aJ,aN]
  refine aS 4 33 rfl rfl (v:=?_) (.inl ⟨by rfl,?_⟩) ?_
  rotate_left 1
  ·(intro w hSw;(try dsimp only at hSw);go_simp;(try with_reducible rfl))
  refine dF 5 34 rfl rfl ?_
  try simp only[Act.put,aI,aJ,aN]
  refine dF 6 35 rfl rfl ?_
  refine dF 7 36 rfl rfl ?_
  try simp only[Act.put,aI,aJ,aN]
  refine dF 8 37 rfl rfl ?_
  refine dF 9 38 rfl rfl ?_
  try simp only[Act.put,aI,aJ,aN]
  refine dF 10 39 rfl rfl ?_
  refine aS 11 40 rfl rfl (v:=?_) (.inl ⟨by rfl,?_⟩) ?_
  rotate_left 1
  ·(intro w hSw;(try dsimp only at hSw);go_simp;(try with_reducible rfl))
  try simp only[Act.put,aI,aJ,aN]
  refine aS 12 41 rfl rfl (v:=?_) (.inl ⟨by rfl,?_⟩) ?_
  rotate_left 1
  ·(intro w hSw;(try dsimp only at hSw);go_simp;(try with_reducible rfl))
  refine dF 13 42 rfl rfl ?_
  try simp only[Act.put,aI,aJ,aN]
  refine dF 14 43 rfl rfl ?_
  refine dF 15 44 rfl rfl ?_
  try simp only[Act.put,aI,aJ,aN]
  refine dF 16 45 rfl rfl ?_
  refine dF 17 46 rfl rfl ?_
  try simp only[Act.put,aI,aJ,aN]
  refine dF 18 47 rfl rfl ?_
  refine aS 19 48 rfl rfl (v:=?_) (.inl ⟨by rfl,?_⟩) ?_
  rotate_left 1
  ·(intro w hSw;(try dsimp only at hSw);go_simp;(try with_reducible rfl))
  try simp only[Act.put,aI,aJ,aN]
  refine iQ (by kernel_rfl) (by kernel_rfl) rfl (fun K hK=>?_)
  go_simp
  refine hK.out _ _ ?_
  clear hK K hS
  go_wp2
  go_ret
  exact⟨rfl,HF2.out⟩
 |true=>
  cases b2 with
  |false=>
   go_enter Tryz.func83,Tryz.ntmps83
   go_wp2_with(first
    |(go_at_call 143;refine(jv.out _).mono ?_;rintro e w1 ⟨rfl,hw1⟩;obtain⟨y0,y1,y2,y3,y4,y5,y6,y7,y8,y9⟩:=aQ.out w1 hw1;have HW1:=ah hw1;clear hw1)
    |(go_at_call 93;refine(ig.out _ (aU.out.au HW1.out)).mono ?_;rintro e w2 ⟨rfl,hw2⟩;clear y0 y1 y2 y3 y4 y5 y6 y7 y8 y9;obtain⟨y0,y1,y2,y3,y4,y5,y6,y7,y8,y9⟩:=aQ.out w2 (HW1.out.au hw2);have HW2:=ah (HW1.out.au hw2);clear hw2)
    |(go_at_call 146;refine(qN.out _ (aU.out.au HW2.out)).mono ?_;rintro e w3 ⟨hf3,hd3,-⟩;obtain⟨dO,d,rfl,ho3,hof,hl3⟩:=hd3 eF.out;clear hd3;obtain⟨a3,c3,rfl⟩:=ho3.shape;clear y0 y1 y2 y3 y4 y5 y6 y7 y8 y9;obtain⟨y0,y1,y2,y3,y4,y5,y6,y7,y8,y9⟩:=aQ.out w3 (HW2.out.au hf3);have HW3:=ah (HW2.out.au hf3);clear hf3;have dJ:=ah ho3;clear ho3;have iW:=ah hof;clear hof;have kV:=ah hl3;clear hl3))
   refine iI (S:=fun w'=>w'.cell? ⟨w.heap.size,0,none⟩=some (.int .i64 dc)∧w'.cell? ⟨w.heap.size,1,none⟩=some (.int .i64 af)∧w'.cell? ⟨w.heap.size,2,none⟩=some (.int .i64 la)∧w'.cell? ⟨w.heap.size,3,none⟩=some (.int .i64 v0)∧w'.cell? ⟨w.heap.size,4,none⟩=some (.int .i64 v1)∧w'.cell? ⟨w.heap.size,5,none⟩=some (.int .i64 v2)∧w'.cell? ⟨w.heap.size,6,none⟩=some (.int .i64 v3)∧w'.cell? ⟨w.heap.size,7,none⟩=some (.slice a0 0 c0)∧w'.cell? ⟨w.heap.size,8,none⟩=some (.slice a1 m c1)∧w'.cell? ⟨w.heap.size,9,none⟩=some (.slice a2 k c2)) 20 (by kernel_rfl) ⟨y0,y1,y2,y3,y4,y5,y6,y7,y8,y9⟩ ?_
   intro hS
   have fO:=ah (fun Y Y' (f:aj ay Y Y') (hS:Y.cell? ⟨w.heap.size,0,none⟩=some (.int .i64 dc)∧Y.cell? ⟨w.heap.size,1,none⟩=some (.int .i64 af)∧Y.cell? ⟨w.heap.size,2,none⟩=some (.int .i64 la)∧Y.cell? ⟨w.heap.size,3,none⟩=some (.int .i64 v0)∧Y.cell? ⟨w.heap.size,4,none⟩=some (.int .i64 v1)∧Y.cell? ⟨w.heap.size,5,none⟩=some (.int .i64 v2)∧Y.cell? ⟨w.heap.size,6,none⟩=some (.int .i64 v3)∧Y.cell? ⟨w.heap.size,7,none⟩=some (.slice a0 0 c0)∧Y.cell? ⟨w.heap.size,8,none⟩=some (.slice a1 m c1)∧Y.cell? ⟨w.heap.size,9,none⟩=some (.slice a2 k c2))=>(⟨f.cell' hS.1 id,f.cell' hS.2.1 id,f.cell' hS.2.2.1 id,f.cell' hS.2.2.2.1 id,f.cell' hS.2.2.2.2.1 id,f.cell' hS.2.2.2.2.2.1 id,f.cell' hS.2.2.2.2.2.2.1 id,f.cell' hS.2.2.2.2.2.2.2.1 id,f.cell' hS.2.2.2.2.2.2.2.2.1 id,f.cell' hS.2.2.2.2.2.2.2.2.2 id⟩:Y'.cell? ⟨w.heap.size,0,none⟩=some (.int .i64 dc)∧Y'.cell? ⟨w.heap.size,1,none⟩=some (.int .i64 af)∧Y'.cell? ⟨w.heap.size,2,none⟩=some (.int .i64 la)∧Y'.cell? ⟨w.heap.size,3,none⟩=some (.int .i64 v0)∧Y'.cell? ⟨w.heap.size,4,none⟩=some (.int .i64 v1)∧Y'.cell? ⟨w.heap.size,5,none⟩=some (.int .i64 v2)∧Y'.cell? ⟨w.heap.size,6,none⟩=some (.int .i64 v3)∧Y'.cell? ⟨w.heap.size,7,none⟩=some (.slice a0 0 c0)∧Y'.cell? ⟨w.heap.size,8,none⟩=some (.slice a1 m c1)∧Y'.cell? ⟨w.heap.size,9,none⟩=some (.slice a2 k c2)))
   have gy:=ah ((aU.out.au HW3.out).au (aj.drew ay w3))
   have Cc:=ah (dJ.out.rd.aO (aj.drew ay w3))
   clear y0 y1 y2 y3 y4 y5 y6 y7 y8 y9 HW3 dJ
   generalize w3.drew=Y at*
   refine aS 0 29 rfl rfl (v:=?_) (.inl ⟨by rfl,?_⟩) ?_
   rotate_left 1
   ·(intro w hSw;(try dsimp only at hSw);go_simp;(try with_reducible rfl))
   refine aS 1 30 rfl rfl (v:=?_) (.inl ⟨by rfl,?_⟩) ?_
   rotate_left 1
   ·(intro w hSw;(try dsimp only at hSw);go_simp;(try with_reducible rfl))
   try simp only[Act.put,aI,aJ,aN]
   refine bM (i:=2) (by kernel_rfl) rfl (fun K hK=>?_)
   go_simp
   refine(HOW.out _ jJ.out).mono ?_
   rintro e Y1 ⟨v1',rfl,hc1,hf1⟩;obtain⟨Ce,Ci,rfl⟩:∃a c,v1'= .slice a 1 c:=Rd.sl hc1
   have hS:=fO.out _ _ hf1 hS
   refine hK.out _ _ hS ?_
   clear hK K
   have bH:=ah (gy.out.au hf1);have HD1:=ah (Cc.out.aO hf1);have cO:=ah hc1;clear hc1 hf1
   try simp only[Act.put,aI,aJ,aN]
   refine bM (i:=3) (by kernel_rfl) rfl (fun K hK=>?_)
   go_simp
   refine(jo.out _ _ _ d _ HD1.out cO.out iW.out.right.fits lN.out.fits (by have:=kV.out;omega) (by simp)).mono ?_
   rintro e Y2 ⟨rfl,hf2⟩;rw[iC.out d iW.out]
   have hS:=fO.out _ _ hf2 hS
   refine hK.out _ _ hS ?_
   clear hK K
   have HF2:=ah (bH.out.au hf2);clear hf2
   try simp only[Act.put,aI,aJ,aN]
   refine aS 4 33 rfl rfl (v:=?_) (.inl ⟨by rfl,?_⟩) ?_
   rotate_left 1
   ·(intro w hSw;(try dsimp only at hSw);go_simp;(try with_reducible rfl))
   refine aS 5 34 rfl rfl (v:=?_) (.inl ⟨by rfl,?_⟩) ?_
   rotate_left 1
   ·(intro w hSw;(try dsimp only at hSw);go_simp;(try with_reducible rfl))
   try simp only[Act.put,aI,aJ,aN]
   refine aS 7 36 rfl rfl (v:=?_) (.inl ⟨by rfl,?_⟩) ?_
   rotate_left 1
   ·(intro w hSw;(try dsimp only at hSw);go_simp;(try with_reducible rfl))
   refine aS 8 37 rfl rfl (v:=?_) (.inl ⟨by rfl,?_⟩) ?_
   rotate_left 1
   ·(intro w hSw;(try dsimp only at hSw);go_simp;(try with_reducible rfl))
   try simp only[Act.put,aI,aJ,aN]
   refine aS 9 38 rfl rfl (v:=?_) (.inl ⟨by rfl,?_⟩) ?_
   rotate_left 1
   ·(intro w hSw;(try dsimp only at hSw);go_simp;(try with_reducible rfl))
   try simp only[Act.put,aI,aJ,aN]
   refine bM (i:=6) (by kernel_rfl) rfl (fun K hK=>?_)
   go_simp
   refine(HOW.out _ jJ.out).mono ?_
   rintro e Y3 ⟨dO,rfl,hc3,hf3⟩;obtain⟨WV,WW,rfl⟩:∃a c,dO= .slice a 1 c:=Rd.sl hc3
   have hS:=fO.out _ _ hf3 hS
   refine hK.out _ _ hS ?_
   clear hK K
   have HF3:=ah (HF2.out.au hf3);have rH:=ah hc3;clear hc3 hf3
   try simp only[Act.put,aI,aJ,aN]
   refine bM (i:=10) (by kernel_rfl) rfl (fun K hK=>?_)
   go_simp
   refine(jo.out _ _ _ _ c rH.out (oH.out _ HF3.out) lN.out.fits oI.out (by simp) (by have:=nR.out;have:=uU.out;omega)).mono ?_
   rintro e Y4 ⟨rfl,hf4⟩;rw[HP2.out]
   have hS:=fO.out _ _ hf4 hS
   refine hK.out _ _ hS ?_
   clear hK K
   have iL:=ah (HF3.out.au hf4);clear hf4
   try simp only[Act.put,aI,aJ,aN]
   refine aS 11 40 rfl rfl (v:=?_) (.inl ⟨by rfl,?_⟩) ?_
   rotate_left 1
   ·(intro w hSw;(try dsimp only at hSw);go_simp;(try with_reducible rfl))
   refine aS 12 41 rfl rfl (v:=?_) (.inl ⟨by rfl,?_⟩) ?_
   rotate_left 1
   ·(intro w hSw;(try dsimp only at hSw);go_simp;(try with_reducible rfl))
   try simp only[Act.put,aI,aJ,aN]
   refine dF 13 42 rfl rfl ?_
   refine dF 14 43 rfl rfl ?_
   try simp only[Act.put,aI,aJ,aN]
   refine dF 15 44 rfl rfl ?_
   refine dF 16 45 rfl rfl ?_
   try simp only[Act.put,aI,aJ,aN]
   refine dF 17 46 rfl rfl ?_
   refine dF 18 47 rfl rfl ?_
   try simp only[Act.put,aI,aJ,aN]
   refine aS 19 48 rfl rfl (v:=?_) (.inl ⟨by rfl,?_⟩) ?_
   rotate_left 1
   ·(intro w hSw;(try dsimp only at hSw);go_simp;(try with_reducible rfl))
   try simp only[Act.put,aI,aJ,aN]
   refine iQ (by kernel_rfl) (by kernel_rfl) rfl (fun K hK=>?_)
   go_simp
   refine hK.out _ _ ?_
   clear hK K hS
   go_wp2
   go_ret
   exact⟨rfl,iL.out⟩
  |true=>
   go_enter Tryz.func83,Tryz.ntmps83
   go_wp2_with(first
    |(go_at_call 143;refine(jv.out _).mono ?_;rintro e w1 ⟨rfl,hw1⟩;obtain⟨y0,y1,y2,y3,y4,y5,y6,y7,y8,y9⟩:=aQ.out w1 hw1;have HW1:=ah hw1;clear hw1)
    |(go_at_call 93;refine(ig.out _ (aU.out.au HW1.out)).mono ?_;rintro e w2 ⟨rfl,hw2⟩;clear y0 y1 y2 y3 y4 y5 y6 y7 y8 y9;obtain⟨y0,y1,y2,y3,y4,y5,y6,y7,y8,y9⟩:=aQ.out w2 (HW1.out.au hw2);have HW2:=ah (HW1.out.au hw2);clear hw2)
    |(go_at_call 146;refine(qN.out _ (aU.out.au HW2.out)).mono ?_;rintro e w3 ⟨hf3,hd3,-⟩;obtain⟨dO,d,rfl,ho3,hof,hl3⟩:=hd3 eF.out;clear hd3;obtain⟨a3,c3,rfl⟩:=ho3.shape;clear y0 y1 y2 y3 y4 y5 y6 y7 y8 y9;obtain⟨y0,y1,y2,y3,y4,y5,y6,y7,y8,y9⟩:=aQ.out w3 (HW2.out.au hf3);have HW3:=ah (HW2.out.au hf3);clear hf3;have dJ:=ah ho3;clear ho3;have iW:=ah hof;clear hof;have kV:=ah hl3;clear hl3))
   refine iI (S:=fun w'=>w'.cell? ⟨w.heap.size,0,none⟩=some (.int .i64 dc)∧w'.cell? ⟨w.heap.size,1,none⟩=some (.int .i64 af)∧w'.cell? ⟨w.heap.size,2,none⟩=some (.int .i64 la)∧w'.cell? ⟨w.heap.size,3,none⟩=some (.int .i64 v0)∧w'.cell? ⟨w.heap.size,4,none⟩=some (.int .i64 v1)∧w'.cell? ⟨w.heap.size,5,none⟩=some (.int .i64 v2)∧w'.cell? ⟨w.heap.size,6,none⟩=some (.int .i64 v3)∧w'.cell? ⟨w.heap.size,7,none⟩=some (.slice a0 0 c0)∧w'.cell? ⟨w.heap.size,8,none⟩=some (.slice a1 m c1)∧w'.cell? ⟨w.heap.size,9,none⟩=some (.slice a2 k c2)) 20 (by kernel_rfl) ⟨y0,y1,y2,y3,y4,y5,y6,y7,y8,y9⟩ ?_
   intro hS
   have fO:=ah (fun Y Y' (f:aj ay Y Y') (hS:Y.cell? ⟨w.heap.size,0,none⟩=some (.int .i64 dc)∧Y.cell? ⟨w.heap.size,1,none⟩=some (.int .i64 af)∧Y.cell? ⟨w.heap.size,2,none⟩=some (.int .i64 la)∧Y.cell? ⟨w.heap.size,3,none⟩=some (.int .i64 v0)∧Y.cell? ⟨w.heap.size,4,none⟩=some (.int .i64 v1)∧Y.cell? ⟨w.heap.size,5,none⟩=some (.int .i64 v2)∧Y.cell? ⟨w.heap.size,6,none⟩=some (.int .i64 v3)∧Y.cell? ⟨w.heap.size,7,none⟩=some (.slice a0 0 c0)∧Y.cell? ⟨w.heap.size,8,none⟩=some (.slice a1 m c1)∧Y.cell? ⟨w.heap.size,9,none⟩=some (.slice a2 k c2))=>(⟨f.cell' hS.1 id,f.cell' hS.2.1 id,f.cell' hS.2.2.1 id,f.cell' hS.2.2.2.1 id,f.cell' hS.2.2.2.2.1 id,f.cell' hS.2.2.2.2.2.1 id,f.cell' hS.2.2.2.2.2.2.1 id,f.cell' hS.2.2.2.2.2.2.2.1 id,f.cell' hS.2.2.2.2.2.2.2.2.1 id,f.cell' hS.2.2.2.2.2.2.2.2.2 id⟩:Y'.cell? ⟨w.heap.size,0,none⟩=some (.int .i64 dc)∧Y'.cell? ⟨w.heap.size,1,none⟩=some (.int .i64 af)∧Y'.cell? ⟨w.heap.size,2,none⟩=some (.int .i64 la)∧Y'.cell? ⟨w.heap.size,3,none⟩=some (.int .i64 v0)∧Y'.cell? ⟨w.heap.size,4,none⟩=some (.int .i64 v1)∧Y'.cell? ⟨w.heap.size,5,none⟩=some (.int .i64 v2)∧Y'.cell? ⟨w.heap.size,6,none⟩=some (.int .i64 v3)∧Y'.cell? ⟨w.heap.size,7,none⟩=some (.slice a0 0 c0)∧Y'.cell? ⟨w.heap.size,8,none⟩=some (.slice a1 m c1)∧Y'.cell? ⟨w.heap.size,9,none⟩=some (.slice a2 k c2)))
   have gy:=ah ((aU.out.au HW3.out).au (aj.drew ay w3))
   have Cc:=ah (dJ.out.rd.aO (aj.drew ay w3))
   clear y0 y1 y2 y3 y4 y5 y6 y7 y8 y9 HW3 dJ
   generalize w3.drew=Y at*
   refine aS 0 29 rfl rfl (v:=?_) (.inl ⟨by rfl,?_⟩) ?_
   rotate_left 1
   ·(intro w hSw;(try dsimp only at hSw);go_simp;(try with_reducible rfl))
   refine aS 1 30 rfl rfl (v:=?_) (.inl ⟨by rfl,?_⟩) ?_
   rotate_left 1
   ·(intro w hSw;(try dsimp only at hSw);go_simp;(try with_reducible rfl))
   try simp only[Act.put,aI,aJ,aN]
   refine bM (i:=2) (by kernel_rfl) rfl (fun K hK=>?_)
   go_simp
   refine(HOW.out _ jJ.out).mono ?_
   rintro e Y1 ⟨v1',rfl,hc1,hf1⟩;obtain⟨Ce,Ci,rfl⟩:∃a c,v1'= .slice a 1 c:=Rd.sl hc1
   have hS:=fO.out _ _ hf1 hS
   refine hK.out _ _ hS ?_
   clear hK K
   have bH:=ah (gy.out.au hf1);have HD1:=ah (Cc.out.aO hf1);have cO:=ah hc1;clear hc1 hf1
   try simp only[Act.put,aI,aJ,aN]
   refine bM (i:=3) (by kernel_rfl) rfl (fun K hK=>?_)
   go_simp
   refine(jo.out _ _ _ d _ HD1.out cO.out iW.out.right.fits lN.out.fits (by have:=kV.out;omega) (by simp)).mono ?_
   rintro e Y2 ⟨rfl,hf2⟩;rw[iC.out d iW.out]
   have hS:=fO.out _ _ hf2 hS
   refine hK.out _ _ hS ?_
   clear hK K
   have HF2:=ah (bH.out.au hf2);clear hf2
   try simp only[Act.put,aI,aJ,aN]
   refine aS 4 33 rfl rfl (v:=?_) (.inl ⟨by rfl,?_⟩) ?_
   rotate_left 1
   ·(intro w hSw;(try dsimp only at hSw);go_simp;(try with_reducible rfl))
   refine aS 5 34 rfl rfl (v:=?_) (.inl ⟨by rfl,?_⟩) ?_
   rotate_left 1
   ·(intro w hSw;(try dsimp only at hSw);go_simp;(try with_reducible rfl))
   try simp only[Act.put,aI,aJ,aN]
   refine aS 7 36 rfl rfl (v:=?_) (.inl ⟨by rfl,?_⟩) ?_
   rotate_left 1
   ·(intro w hSw;(try dsimp only at hSw);go_simp;(try with_reducible rfl))
   refine aS 8 37 rfl rfl (v:=?_) (.inl ⟨by rfl,?_⟩) ?_
   rotate_left 1
   ·(intro w hSw;(try dsimp only at hSw);go_simp;(try with_reducible rfl))
   try simp only[Act.put,aI,aJ,aN]
   refine aS 9 38 rfl rfl (v:=?_) (.inl ⟨by rfl,?_⟩) ?_
   rotate_left 1
   ·(intro w hSw;(try dsimp only at hSw);go_simp;(try with_reducible rfl))
   try simp only[Act.put,aI,aJ,aN]
   refine bM (i:=6) (by kernel_rfl) rfl (fun K hK=>?_)
   go_simp
   refine(HOW.out _ jJ.out).mono ?_
   rintro e Y3 ⟨dO,rfl,hc3,hf3⟩;obtain⟨WV,WW,rfl⟩:∃a c,dO= .slice a 1 c:=Rd.sl hc3
   have hS:=fO.out _ _ hf3 hS
   refine hK.out _ _ hS ?_
   clear hK K
   have HF3:=ah (HF2.out.au hf3);have rH:=ah hc3;clear hc3 hf3
   try simp only[Act.put,aI,aJ,aN]
   refine bM (i:=10) (by kernel_rfl) rfl (fun K hK=>?_)
   go_simp
   refine(jo.out _ _ _ _ c rH.out (oH.out _ HF3.out) lN.out.fits oI.out (by simp) (by have:=nR.out;have:=uU.out;omega)).mono ?_
   rintro e Y4 ⟨rfl,hf4⟩;rw[HP2.out]
   have hS:=fO.out _ _ hf4 hS
   refine hK.out _ _ hS ?_
   clear hK K
   have iL:=ah (HF3.out.au hf4);clear hf4
   try simp only[Act.put,aI,aJ,aN]
   refine aS 11 40 rfl rfl (v:=?_) (.inl ⟨by rfl,?_⟩) ?_
   rotate_left 1
   ·(intro w hSw;(try dsimp only at hSw);go_simp;(try with_reducible rfl))
   refine aS 12 41 rfl rfl (v:=?_) (.inl ⟨by rfl,?_⟩) ?_
   rotate_left 1
   ·(intro w hSw;(try dsimp only at hSw);go_simp;(try with_reducible rfl))
   try simp only[Act.put,aI,aJ,aN]
   refine aS 13 42 rfl rfl (v:=?_) (.inl ⟨by rfl,?_⟩) ?_
   rotate_left 1
   ·(intro w hSw;(try dsimp only at hSw);go_simp;(try with_reducible rfl))
   refine aS 14 43 rfl rfl (v:=?_) (.inl ⟨by rfl,?_⟩) ?_
   rotate_left 1
   ·(intro w hSw;(try dsimp only at hSw);go_simp;(try with_reducible rfl))
   try simp only[Act.put,aI,aJ,aN]
   refine aS 15 44 rfl rfl (v:=?_) (.inl ⟨by rfl,?_⟩) ?_
   rotate_left 1
   ·(intro w hSw;(try dsimp only at hSw);go_simp;(try with_reducible rfl))
   refine aS 16 45 rfl rfl (v:=?_) (.inl ⟨by rfl,?_⟩) ?_
   rotate_left 1
   ·(intro w hSw;(try dsimp only at hSw);go_simp;(try with_reducible rfl))
   try simp only[Act.put,aI,aJ,aN]
   refine bM (i:=17) (by kernel_rfl) rfl (fun K hK=>?_)
   go_simp
   refine(oG.out _ jJ.out).mono ?_
   rintro e Y5 ⟨v5',rfl,oD,hl5⟩;obtain⟨b5a,b5c,rfl⟩:=oD.shape;have hf5:=oD.aP
   have hS:=fO.out _ _ hf5 hS
   refine hK.out _ _ hS ?_
   clear hK K
   have lQ:=ah (iL.out.au hf5);have vY:=ah oD;have WX:=ah hl5;clear oD hf5 hl5
   try simp only[Act.put,aI,aJ,aN]
   refine bM (i:=18) (by kernel_rfl) rfl (fun K hK=>?_)
   go_simp
   refine(jo.out _ _ _ c _ (oH.out _ lQ.out) vY.out.rd oI.out OQ.out.fits (by have:=nR.out;have:=uU.out;omega) (by have:=WX.out;omega)).mono ?_
   rintro e Y6 ⟨rfl,eP⟩;rw[lH.out]
   have hS:=fO.out _ _ eP hS
   refine hK.out _ _ hS ?_
   clear hK K
   have HF6:=ah (lQ.out.au eP);clear eP
   try simp only[Act.put,aI,aJ,aN]
   refine aS 19 48 rfl rfl (v:=?_) (.inl ⟨by rfl,?_⟩) ?_
   rotate_left 1
   ·(intro w hSw;(try dsimp only at hSw);go_simp;(try with_reducible rfl))
   try simp only[Act.put,aI,aJ,aN]
   refine iQ (by kernel_rfl) (by kernel_rfl) rfl (fun K hK=>?_)
   go_simp
   refine hK.out _ _ ?_
   clear hK K hS
   go_wp2
   go_ret
   exact⟨rfl,HF6.out⟩
end Go.Proofs.YtabkpccdnkjoiaaGreat
