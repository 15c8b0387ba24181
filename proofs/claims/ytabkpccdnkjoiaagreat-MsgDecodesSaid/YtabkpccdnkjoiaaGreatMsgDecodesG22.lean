/- Words for the law MsgDecodes: BunS. -/
import Derived.Test.YtabkpccdnkjoiaaGreatMsgDecodesG0
import Derived.Test.YtabkpccdnkjoiaaGreatMsgDecodesG21
set_option linter.unusedSimpArgs false
set_option linter.unusedVariables false
set_option maxHeartbeats 32000000
set_option maxRecDepth 1000000
namespace Go.Proofs.YtabkpccdnkjoiaaGreat
open Go.RowKit
theorem acK (W:World) (T:TypeId) (v0 v1 v2 v3 x:Int) (dn:Nat) (h:dn<4):
 (∀j:Nat,j<4→(W.alloc (.cells (([.int .i64 v0, .int .i64 v1, .int .i64 v2, .int .i64 v3]:List Value).set dn (.int .i64 x)).toArray T)).cell? ⟨W.heap.size,j,none⟩=some (.int .i64 (iE (bP v0 v1 v2 v3) dn x j)))∧
 aj ay W (W.alloc (.cells (([.int .i64 v0, .int .i64 v1, .int .i64 v2, .int .i64 v3]:List Value).set dn (.int .i64 x)).toArray T)):=by
 refine⟨fun j hj=>?_,aj.alloc _ _ _⟩
 have h1:=heap_alloc_new W (.cells (([.int .i64 v0, .int .i64 v1, .int .i64 v2, .int .i64 v3]:List Value).set dn (.int .i64 x)).toArray T)
 rcases(by omega:dn=0∨dn=1∨dn=2∨dn=3)with rfl|rfl|rfl|rfl<;>rcases(by omega:j=0∨j=1∨j=2∨j=3)with rfl|rfl|rfl|rfl<;>exact au h1 _ rfl
theorem acL (W:World) (T:TypeId) (v0 v1 v2 v3:Int) (dn:Nat) (h:dn<4):
 (W.alloc (.cells #[.int .i64 v0, .int .i64 v1, .int .i64 v2, .int .i64 v3] T)).cell? ⟨W.heap.size,dn,none⟩=some (.int .i64 (bP v0 v1 v2 v3 dn))∧(W.alloc (.cells #[.int .i64 v0, .int .i64 v1, .int .i64 v2, .int .i64 v3] T)).frozen? ⟨W.heap.size,dn,none⟩=false:=by
 have h1:=heap_alloc_new W (.cells #[.int .i64 v0, .int .i64 v1, .int .i64 v2, .int .i64 v3] T)
 refine⟨?_,aG h1 dn⟩
 rcases(by omega:dn=0∨dn=1∨dn=2∨dn=3)with rfl|rfl|rfl|rfl<;>exact au h1 _ rfl
theorem Vz (Q:Nat→Prop) (es:List aQ) (ks:aS) (c:aX) (w:World) (dc af la v0 v1 v2 v3:Int) (ev kv cv:Value) (h:gK Q w ev kv cv es ks c) (hok:jd es ks c):
 Calls Tryz.prog 24 #[.agg #[.int .i64 dc, .int .i64 af, .int .i64 la, .int .i64 v0, .int .i64 v1, .int .i64 v2, .int .i64 v3,ev,kv,cv]] w fun e w'=>e= .returned (.bool (tf (nM dc af la (bP v0 v1 v2 v3) es ks c)))∧aj ay w w':=by
 obtain⟨a0,c0,a1,c1,a2,c2,rfl,rfl,rfl⟩:=h.shape
 have j_:=ah (fun W=>acI W dc af la v0 v1 v2 v3 a0 a1 a2 es.length ks.len c.length c0 c1 c2)
 have fU:=ah (fun W (f:aj ay w W)=>Oq Q es ks c W _ _ _ (h.aJ f) hok)
 have tK:=ah (fun W (f:aj ay w W) hd=>Vt Q es ks W _ _ (h.tree.aJ f) hok.small hd)
 have HOW:=ah (fun W hn=>acJ W dc af la v0 v1 v2 v3 a0 a1 a2 es.length ks.len c.length c0 c1 c2 hn)
 have qZ:=ah (fun W (f:aj ay w W)=>(show jf W (.slice a2 c.length c2) c from Rd.aJ h.ctx f))
 have hcl:=hok.len
 have jS:=ah (fun W va vb a b ha hb ra rb la lb=>QU W va vb a b ha hb ra rb la lb)
 have HB0:=ah (fun W va vb a b ha hb ra rb la lb=>QT W va vb a b ha hb ra rb la lb)
 clear h hok
 have bF:=ah (EL w (.int .i64 dc) (.int .i64 af) (.int .i64 la) (.int .i64 v0) (.int .i64 v1) (.int .i64 v2) (.int .i64 v3) (.slice a0 es.length c0) (.slice a1 ks.len c1) (.slice a2 c.length c2) 55)
 have hfa:aj ay w (w.alloc (.cells #[.int .i64 dc, .int .i64 af, .int .i64 la, .int .i64 v0, .int .i64 v1, .int .i64 v2, .int .i64 v3, .slice a0 es.length c0, .slice a1 ks.len c1, .slice a2 c.length c2] 55)):=aj.alloc _ _ _
 have bD:=ah hfa;clear hfa
 by_cases hn:qW dc af la (bP v0 v1 v2 v3)
 rotate_left 1
 ·rw[bf hn]at j_
  rw[bf fun h=>hn h.nums]
  clear hn fU tK HOW qZ jS HB0 hcl
  generalize es.length=n at*
  generalize ks.len=m at*
  generalize c.length=k at*
  go_enter Tryz.func24,Tryz.ntmps24
  go_wp2_with(go_at_call 85;refine(j_.out _).mono ?_;rintro e w1 ⟨rfl,hw1⟩;have HW1:=ah (bD.out.aC hw1);clear hw1)
  go_ret
  exact⟨rfl,HW1.out⟩
 rw[dO hn]at j_
 by_cases hc:jM es ks c
 rotate_left 1
 ·rw[bf hc]at fU
  rw[bf fun h=>hc ⟨h.tree,h.ctx,h.dots⟩]
  clear hn hc tK HOW qZ jS HB0 hcl
  generalize es.length=n at*
  generalize ks.len=m at*
  generalize c.length=k at*
  go_enter Tryz.func24,Tryz.ntmps24
  go_wp2_with(first
   |(go_at_call 85;refine(j_.out _).mono ?_;rintro e w1 ⟨rfl,hw1⟩;obtain⟨y0,y1,y2,y3,y4,y5,y6,y7,y8,y9⟩:=bF.out w1 hw1;have HW1:=ah (bD.out.aC hw1);clear hw1)
   |(go_at_call 86;refine(fU.out _ HW1.out).mono ?_;rintro e w2 ⟨rfl,hw2⟩;have HW2:=ah (HW1.out.aC hw2);clear hw2))
  go_ret
  exact⟨rfl,HW2.out⟩
 rw[dO hc]at fU
 rcases Nat.eq_zero_or_pos es.length with he0|EN
 rotate_left 1
 ·rw[bf fun h=>by rw[h.bare]at EN;cases EN]
  clear hn hc tK HOW qZ jS HB0 hcl
  generalize es.length=n at*
  generalize ks.len=m at*
  generalize c.length=k at*
  go_enter Tryz.func24,Tryz.ntmps24
  go_wp2_with(first
   |(go_at_call 85;refine(j_.out _).mono ?_;rintro e w1 ⟨rfl,hw1⟩;obtain⟨y0,y1,y2,y3,y4,y5,y6,y7,y8,y9⟩:=bF.out w1 hw1;have HW1:=ah hw1;clear hw1)
   |(go_at_call 86;refine(fU.out _ (bD.out.aC HW1.out)).mono ?_;rintro e w2 ⟨rfl,hw2⟩;clear y0 y1 y2 y3 y4 y5 y6 y7 y8 y9;obtain⟨y0,y1,y2,y3,y4,y5,y6,y7,y8,y9⟩:=bF.out w2 (HW1.out.aC hw2);have HW2:=ah (HW1.out.aC hw2);clear hw2))
  go_ret
  exact⟨rfl,bD.out.aC HW2.out⟩
 have hes:es=[]:=List.eq_nil_of_length_eq_zero he0
 have dU:=ah hc.tree
 have gU:=ah hc.ctx
 have Bh:=ah (Ez hc.tree)
 have nU:=ah hn.Sz
 have kN:=ah hn
 have hp1:∀d,qO (iD es ks) d→tf (jX d [(dc,af+1,la)])=tf (wB (iD es ks) [(dc,af+1,la)]):=fun d hd=>qN (hd.leq Bh.out)
 have hp3:∀q,rU 2 c [(dc,af+1,la)] q→tf (jX q (f_ (iE (bP v0 v1 v2 v3) dc af)))=tf (jX c (f_ (iE (bP v0 v1 v2 v3) dc la))):=fun q hq=>qN (ZJ kN.out gU.out hq).symm
 have hfr:dN (f_ (iE (bP v0 v1 v2 v3) dc af)):=Qu fun d h0 h4=>(hn.ML (x:=af) hn.2.2.1 (by have:=hn.2.2.2.1;have:=hn.2.2.2.2.1;omega) d h0 h4).2
 have mO:=ah hfr;clear hfr
 have iQ:=ah hp1;clear hp1
 have nN:=ah hp3;clear hp3
 have hall:tf (nM dc af la (bP v0 v1 v2 v3) es ks c)=(tf (wB (iD es ks) [(dc,af+1,la)])&&(tf (jX [(dc,af+1,la)] c)&&tf (jX c (f_ (iE (bP v0 v1 v2 v3) dc la))))):=by
  rw[Bool.eq_iff_iff]
  simp only[Bool.and_eq_true,yG]
  exact⟨fun h=>⟨h.mine,h.own,h.may⟩,fun h=>⟨hn,hc.tree,hc.ctx,hc.dots,hes,h.1,h.2.1,h.2.2⟩⟩
 rw[hall]
 have qo:=ah hcl
 obtain⟨dn,hdn⟩:∃dn:Nat,dc=dn:=⟨dc.toNat,by have:=hn.1;omega⟩
 have hd4:dn<4:=by have:=hn.2.1;omega
 have Ja:(dn:Int)<4:=by omega
 have aau:decide ((dn:Int)<4)=true:=by simpa using Ja
 clear hall hn hc hes hcl
 subst hdn
 generalize tf (jX c (f_ (iE (bP v0 v1 v2 v3) dn la)))=b3 at*
 generalize hb2:tf (jX [((dn:Int),af+1,la)] c)=b2 at*
 have HP2:=ah hb2;clear hb2
 generalize tf (wB (iD es ks) [((dn:Int),af+1,la)])=b1 at*
 have CO:=ah (fun W=>acK W 25 v0 v1 v2 v3 af dn hd4)
 have DJ:=ah (fun W=>acL W 25 v0 v1 v2 v3 dn hd4)
 generalize hgg:iE (bP v0 v1 v2 v3) dn af=g at*
 clear hgg
 have HVF:=ah (show f_ (bP (g 0) (g 1) (g 2) (g 3))=f_ g from Dh fun d h0 h4=>by rcases four h0 h4 with rfl|rfl|rfl|rfl<;>simp[bP])
 generalize hel:es.length=n at*
 subst he0
 clear hel
 generalize ks.len=m at*
 generalize hck:c.length=k at*
 have wF:=ah hck;clear hck
 cases b1 with
 |false=>
  go_enter Tryz.func24,Tryz.ntmps24
  go_wp2_with(first
   |(go_at_call 85;refine(j_.out _).mono ?_;rintro e w1 ⟨rfl,hw1⟩;obtain⟨y0,y1,y2,y3,y4,y5,y6,y7,y8,y9⟩:=bF.out w1 hw1;have HW1:=ah hw1;clear hw1)
   |(go_at_call 86;refine(fU.out _ (bD.out.aC HW1.out)).mono ?_;rintro e w2 ⟨rfl,hw2⟩;clear y0 y1 y2 y3 y4 y5 y6 y7 y8 y9;obtain⟨y0,y1,y2,y3,y4,y5,y6,y7,y8,y9⟩:=bF.out w2 (HW1.out.aC hw2);obtain⟨ug,hvf⟩:=DJ.out w2;have hbl:w.heap.size<w2.heap.size:=World.block_lt_of_cell? _ _ y0;have HW2:=ah (HW1.out.aC hw2);clear hw2))
  clear y0 y1 y2 y3 y4 y5 y6 y7 y8 y9 ug hvf hbl
  have hvs:=CO.out w2
  have vI:=ah (HW2.out.aC hvs.2)
  obtain⟨y0,y1,y2,y3,y4,y5,y6,y7,y8,y9⟩:=bF.out _ vI.out
  have yt:=hvs.1 0 (by decide)
  have vs1:=hvs.1 1 (by decide)
  have vs2:=hvs.1 2 (by decide)
  have vs3:=hvs.1 3 (by decide)
  clear hvs HW2
  generalize w2.heap.size=vb at*
  generalize (w2.alloc (.cells (([.int .i64 v0, .int .i64 v1, .int .i64 v2, .int .i64 v3]:List Value).set dn (.int .i64 af)).toArray 25))=X0 at*
  refine ku (S:=fun w'=>w'.cell? ⟨w.heap.size,0,none⟩=some (.int .i64 dn)∧w'.cell? ⟨w.heap.size,1,none⟩=some (.int .i64 af)∧w'.cell? ⟨w.heap.size,2,none⟩=some (.int .i64 la)∧w'.cell? ⟨w.heap.size,3,none⟩=some (.int .i64 v0)∧w'.cell? ⟨w.heap.size,4,none⟩=some (.int .i64 v1)∧w'.cell? ⟨w.heap.size,5,none⟩=some (.int .i64 v2)∧w'.cell? ⟨w.heap.size,6,none⟩=some (.int .i64 v3)∧w'.cell? ⟨w.heap.size,7,none⟩=some (.slice a0 0 c0)∧w'.cell? ⟨w.heap.size,8,none⟩=some (.slice a1 m c1)∧w'.cell? ⟨w.heap.size,9,none⟩=some (.slice a2 k c2)∧w'.cell? ⟨vb,0,none⟩=some (.int .i64 (g 0))∧w'.cell? ⟨vb,1,none⟩=some (.int .i64 (g 1))∧w'.cell? ⟨vb,2,none⟩=some (.int .i64 (g 2))∧w'.cell? ⟨vb,3,none⟩=some (.int .i64 (g 3))) 6 (by kernel_rfl) ⟨y0,y1,y2,y3,y4,y5,y6,y7,y8,y9,yt,vs1,vs2,vs3⟩ ?_
  intro hS
  have gQ:=ah (fun Y Y' (f:aj ay Y Y') (hS:Y.cell? ⟨w.heap.size,0,none⟩=some (.int .i64 dn)∧Y.cell? ⟨w.heap.size,1,none⟩=some (.int .i64 af)∧Y.cell? ⟨w.heap.size,2,none⟩=some (.int .i64 la)∧Y.cell? ⟨w.heap.size,3,none⟩=some (.int .i64 v0)∧Y.cell? ⟨w.heap.size,4,none⟩=some (.int .i64 v1)∧Y.cell? ⟨w.heap.size,5,none⟩=some (.int .i64 v2)∧Y.cell? ⟨w.heap.size,6,none⟩=some (.int .i64 v3)∧Y.cell? ⟨w.heap.size,7,none⟩=some (.slice a0 0 c0)∧Y.cell? ⟨w.heap.size,8,none⟩=some (.slice a1 m c1)∧Y.cell? ⟨w.heap.size,9,none⟩=some (.slice a2 k c2)∧Y.cell? ⟨vb,0,none⟩=some (.int .i64 (g 0))∧Y.cell? ⟨vb,1,none⟩=some (.int .i64 (g 1))∧Y.cell? ⟨vb,2,none⟩=some (.int .i64 (g 2))∧Y.cell? ⟨vb,3,none⟩=some (.int .i64 (g 3)))=>(⟨f.cell' hS.1 id,f.cell' hS.2.1 id,f.cell' hS.2.2.1 id,f.cell' hS.2.2.2.1 id,f.cell' hS.2.2.2.2.1 id,f.cell' hS.2.2.2.2.2.1 id,f.cell' hS.2.2.2.2.2.2.1 id,f.cell' hS.2.2.2.2.2.2.2.1 id,f.cell' hS.2.2.2.2.2.2.2.2.1 id,f.cell' hS.2.2.2.2.2.2.2.2.2.1 id,f.cell' hS.2.2.2.2.2.2.2.2.2.2.1 id,f.cell' hS.2.2.2.2.2.2.2.2.2.2.2.1 id,f.cell' hS.2.2.2.2.2.2.2.2.2.2.2.2.1 id,f.cell' hS.2.2.2.2.2.2.2.2.2.2.2.2.2 id⟩:Y'.cell? ⟨w.heap.size,0,none⟩=some (.int .i64 dn)∧Y'.cell? ⟨w.heap.size,1,none⟩=some (.int .i64 af)∧Y'.cell? ⟨w.heap.size,2,none⟩=some (.int .i64 la)∧Y'.cell? ⟨w.heap.size,3,none⟩=some (.int .i64 v0)∧Y'.cell? ⟨w.heap.size,4,none⟩=some (.int .i64 v1)∧Y'.cell? ⟨w.heap.size,5,none⟩=some (.int .i64 v2)∧Y'.cell? ⟨w.heap.size,6,none⟩=some (.int .i64 v3)∧Y'.cell? ⟨w.heap.size,7,none⟩=some (.slice a0 0 c0)∧Y'.cell? ⟨w.heap.size,8,none⟩=some (.slice a1 m c1)∧Y'.cell? ⟨w.heap.size,9,none⟩=some (.slice a2 k c2)∧Y'.cell? ⟨vb,0,none⟩=some (.int .i64 (g 0))∧Y'.cell? ⟨vb,1,none⟩=some (.int .i64 (g 1))∧Y'.cell? ⟨vb,2,none⟩=some (.int .i64 (g 2))∧Y'.cell? ⟨vb,3,none⟩=some (.int .i64 (g 3))))
  have jo:=ah ((bD.out.aC vI.out).aC (aj.drew ay X0))
  clear y0 y1 y2 y3 y4 y5 y6 y7 y8 y9 yt vs1 vs2 vs3 vI
  generalize X0.drew=Y at*
  refine aU 0 29 rfl rfl (v:=?_) (.inl ⟨by rfl,?_⟩) ?_
  rotate_left 1
  ·(intro w hSw;(try dsimp only at hSw);go_simp;(try with_reducible rfl))
  refine aU 1 30 rfl rfl (v:=?_) (.inl ⟨by rfl,?_⟩) ?_
  rotate_left 1
  ·(intro w hSw;(try dsimp only at hSw);go_simp;(try with_reducible rfl))
  try simp only[Act.put,aN,aO,aP]
  refine aU 2 31 rfl rfl (v:=?_) (.inl ⟨by rfl,?_⟩) ?_
  rotate_left 1
  ·(intro w hSw;(try dsimp only at hSw);go_simp;(try with_reducible rfl))
  refine aU 3 32 rfl rfl (v:=?_) (.inl ⟨by rfl,?_⟩) ?_
  rotate_left 1
  ·(intro w hSw;(try dsimp only at hSw);go_simp;(try with_reducible rfl))
  try simp only[Act.put,aN,aO,aP]
  refine bJ (i:=4) (by kernel_rfl) rfl (fun K hK=>?_)
  go_simp
  refine(HOW.out _ kN.out).mono ?_
  rintro e Y1 ⟨v1',rfl,hc1,hf1⟩;obtain⟨EP,ER,rfl⟩:∃a c,v1'= .slice a 1 c:=Rd.sl hc1
  have hS:=gQ.out _ _ hf1 hS
  refine hK.out _ _ hS ?_
  clear hK K
  have bg:=ah (jo.out.aC hf1);have bH:=ah hc1;clear hc1 hf1
  try simp only[Act.put,aN,aO,aP]
  refine bJ (i:=5) (by kernel_rfl) rfl (fun K hK=>?_)
  go_simp
  refine(HB0.out _ _ _ c _ (qZ.out _ bg.out) bH.out gU.out nU.out (by have:=qo.out;have:=wF.out;omega) (by simp)).mono ?_
  rintro e Y2 ⟨v2',q,rfl,ho2,hby,-⟩;obtain⟨VA,VB,rfl⟩:=ho2.shape;have hf2:=ho2.aH
  have hS:=gQ.out _ _ hf2 hS
  refine hK.out _ _ hS ?_
  clear hK K
  have HF2:=ah (bg.out.aC hf2);have jZ:=ah ho2;have uh:=ah hby;clear ho2 hf2 hby
  try simp only[Act.put,aN,aO,aP]
  refine iC (by kernel_rfl) (by kernel_rfl) rfl (fun K hK=>?_)
  go_simp
  refine hK.out _ _ ?_
  clear hK K
  go_wp2_with fail
  refine ku (S:=fun w'=>w'.cell? ⟨w.heap.size,0,none⟩=some (.int .i64 dn)∧w'.cell? ⟨w.heap.size,1,none⟩=some (.int .i64 af)∧w'.cell? ⟨w.heap.size,2,none⟩=some (.int .i64 la)∧w'.cell? ⟨w.heap.size,3,none⟩=some (.int .i64 v0)∧w'.cell? ⟨w.heap.size,4,none⟩=some (.int .i64 v1)∧w'.cell? ⟨w.heap.size,5,none⟩=some (.int .i64 v2)∧w'.cell? ⟨w.heap.size,6,none⟩=some (.int .i64 v3)∧w'.cell? ⟨w.heap.size,7,none⟩=some (.slice a0 0 c0)∧w'.cell? ⟨w.heap.size,8,none⟩=some (.slice a1 m c1)∧w'.cell? ⟨w.heap.size,9,none⟩=some (.slice a2 k c2)∧w'.cell? ⟨vb,0,none⟩=some (.int .i64 (g 0))∧w'.cell? ⟨vb,1,none⟩=some (.int .i64 (g 1))∧w'.cell? ⟨vb,2,none⟩=some (.int .i64 (g 2))∧w'.cell? ⟨vb,3,none⟩=some (.int .i64 (g 3))) 21 (by kernel_rfl) ⟨(aj.drew ay Y2).cell' hS.1 id,(aj.drew ay Y2).cell' hS.2.1 id,(aj.drew ay Y2).cell' hS.2.2.1 id,(aj.drew ay Y2).cell' hS.2.2.2.1 id,(aj.drew ay Y2).cell' hS.2.2.2.2.1 id,(aj.drew ay Y2).cell' hS.2.2.2.2.2.1 id,(aj.drew ay Y2).cell' hS.2.2.2.2.2.2.1 id,(aj.drew ay Y2).cell' hS.2.2.2.2.2.2.2.1 id,(aj.drew ay Y2).cell' hS.2.2.2.2.2.2.2.2.1 id,(aj.drew ay Y2).cell' hS.2.2.2.2.2.2.2.2.2.1 id,(aj.drew ay Y2).cell' hS.2.2.2.2.2.2.2.2.2.2.1 id,(aj.drew ay Y2).cell' hS.2.2.2.2.2.2.2.2.2.2.2.1 id,(aj.drew ay Y2).cell' hS.2.2.2.2.2.2.2.2.2.2.2.2.1 id,(aj.drew ay Y2).cell' hS.2.2.2.2.2.2.2.2.2.2.2.2.2 id⟩ ?_
  clear hS
  intro hS
  have gQ:=ah (fun Y Y' (f:aj ay Y Y') (hS:Y.cell? ⟨w.heap.size,0,none⟩=some (.int .i64 dn)∧Y.cell? ⟨w.heap.size,1,none⟩=some (.int .i64 af)∧Y.cell? ⟨w.heap.size,2,none⟩=some (.int .i64 la)∧Y.cell? ⟨w.heap.size,3,none⟩=some (.int .i64 v0)∧Y.cell? ⟨w.heap.size,4,none⟩=some (.int .i64 v1)∧Y.cell? ⟨w.heap.size,5,none⟩=some (.int .i64 v2)∧Y.cell? ⟨w.heap.size,6,none⟩=some (.int .i64 v3)∧Y.cell? ⟨w.heap.size,7,none⟩=some (.slice a0 0 c0)∧Y.cell? ⟨w.heap.size,8,none⟩=some (.slice a1 m c1)∧Y.cell? ⟨w.heap.size,9,none⟩=some (.slice a2 k c2)∧Y.cell? ⟨vb,0,none⟩=some (.int .i64 (g 0))∧Y.cell? ⟨vb,1,none⟩=some (.int .i64 (g 1))∧Y.cell? ⟨vb,2,none⟩=some (.int .i64 (g 2))∧Y.cell? ⟨vb,3,none⟩=some (.int .i64 (g 3)))=>(⟨f.cell' hS.1 id,f.cell' hS.2.1 id,f.cell' hS.2.2.1 id,f.cell' hS.2.2.2.1 id,f.cell' hS.2.2.2.2.1 id,f.cell' hS.2.2.2.2.2.1 id,f.cell' hS.2.2.2.2.2.2.1 id,f.cell' hS.2.2.2.2.2.2.2.1 id,f.cell' hS.2.2.2.2.2.2.2.2.1 id,f.cell' hS.2.2.2.2.2.2.2.2.2.1 id,f.cell' hS.2.2.2.2.2.2.2.2.2.2.1 id,f.cell' hS.2.2.2.2.2.2.2.2.2.2.2.1 id,f.cell' hS.2.2.2.2.2.2.2.2.2.2.2.2.1 id,f.cell' hS.2.2.2.2.2.2.2.2.2.2.2.2.2 id⟩:Y'.cell? ⟨w.heap.size,0,none⟩=some (.int .i64 dn)∧Y'.cell? ⟨w.heap.size,1,none⟩=some (.int .i64 af)∧Y'.cell? ⟨w.heap.size,2,none⟩=some (.int .i64 la)∧Y'.cell? ⟨w.heap.size,3,none⟩=some (.int .i64 v0)∧Y'.cell? ⟨w.heap.size,4,none⟩=some (.int .i64 v1)∧Y'.cell? ⟨w.heap.size,5,none⟩=some (.int .i64 v2)∧Y'.cell? ⟨w.heap.size,6,none⟩=some (.int .i64 v3)∧Y'.cell? ⟨w.heap.size,7,none⟩=some (.slice a0 0 c0)∧Y'.cell? ⟨w.heap.size,8,none⟩=some (.slice a1 m c1)∧Y'.cell? ⟨w.heap.size,9,none⟩=some (.slice a2 k c2)∧Y'.cell? ⟨vb,0,none⟩=some (.int .i64 (g 0))∧Y'.cell? ⟨vb,1,none⟩=some (.int .i64 (g 1))∧Y'.cell? ⟨vb,2,none⟩=some (.int .i64 (g 2))∧Y'.cell? ⟨vb,3,none⟩=some (.int .i64 (g 3))))
  have HF3:=ah (HF2.out.aC (aj.drew ay Y2))
  have wU:=ah (jZ.out.rd.aJ (aj.drew ay Y2))
  have Ou:=ah (show q.length≤4*(c.length+1)from uh.out.LY gU.out nU.out)
  generalize Y2.drew=Z at*
  refine aU 0 35 rfl rfl (v:=?_) (.inl ⟨by rfl,?_⟩) ?_
  rotate_left 1
  ·(intro w hSw;(try dsimp only at hSw);go_simp;(try with_reducible rfl))
  refine aU 1 36 rfl rfl (v:=?_) (.inl ⟨by rfl,?_⟩) ?_
  rotate_left 1
  ·(intro w hSw;(try dsimp only at hSw);go_simp;(try with_reducible rfl))
  try simp only[Act.put,aN,aO,aP]
  refine aU 2 37 rfl rfl (v:=?_) (.inl ⟨by rfl,?_⟩) ?_
  rotate_left 1
  ·(intro w hSw;(try dsimp only at hSw);go_simp;(try with_reducible rfl))
  refine aU 4 39 rfl rfl (v:=?_) (.inl ⟨by rfl,?_⟩) ?_
  rotate_left 1
  ·(intro w hSw;(try dsimp only at hSw);go_simp;(try with_reducible rfl))
  try simp only[Act.put,aN,aO,aP]
  refine bJ (i:=3) (by kernel_rfl) rfl (fun K hK=>?_)
  go_simp
  refine(tK.out _ HF3.out Bh.out).mono ?_
  rintro e Z1 ⟨v1',d,rfl,kL,hof,hl4⟩;obtain⟨VD,VE,rfl⟩:=kL.shape;have hf4:=kL.aH
  have hS:=gQ.out _ _ hf4 hS
  refine hK.out _ _ hS ?_
  clear hK K
  have iI:=ah (HF3.out.aC hf4);have zG:=ah (wU.out.aJ hf4);have tq:=ah kL;have gy:=ah hof;have FU:=ah hl4;clear kL hf4 hof hl4
  try simp only[Act.put,aN,aO,aP]
  refine bJ (i:=5) (by kernel_rfl) rfl (fun K hK=>?_)
  go_simp
  refine(HOW.out _ kN.out).mono ?_
  rintro e Z2 ⟨v2',rfl,hc5,hf5⟩;obtain⟨VF,VG,rfl⟩:∃a c,v2'= .slice a 1 c:=Rd.sl hc5
  have hS:=gQ.out _ _ hf5 hS
  refine hK.out _ _ hS ?_
  clear hK K
  have iJ:=ah (iI.out.aC hf5);have FV:=ah (zG.out.aJ hf5);have HD5:=ah (tq.out.rd.aJ hf5);have vJ:=ah hc5;clear hc5 hf5
  try simp only[Act.put,aN,aO,aP]
  refine bJ (i:=6) (by kernel_rfl) rfl (fun K hK=>?_)
  go_simp
  refine(jS.out _ _ _ d _ HD5.out vJ.out gy.out.right nU.out (by have:=FU.out;omega) (by simp)).mono ?_
  rintro e Z3 ⟨rfl,fF⟩;rw[iQ.out d gy.out]
  have hS:=gQ.out _ _ fF hS
  refine hK.out _ _ hS ?_
  clear hK K
  have HF6:=ah (iJ.out.aC fF);have JI:=ah (FV.out.aJ fF);clear fF
  try simp only[Act.put,aN,aO,aP]
  refine aU 7 42 rfl rfl (v:=?_) (.inl ⟨by rfl,?_⟩) ?_
  rotate_left 1
  ·(intro w hSw;(try dsimp only at hSw);go_simp;(try with_reducible rfl))
  refine dS 8 43 rfl rfl ?_
  try simp only[Act.put,aN,aO,aP]
  refine dS 9 44 rfl rfl ?_
  refine dS 10 45 rfl rfl ?_
  try simp only[Act.put,aN,aO,aP]
  refine dS 11 46 rfl rfl ?_
  refine dS 12 47 rfl rfl ?_
  try simp only[Act.put,aN,aO,aP]
  refine dS 13 48 rfl rfl ?_
  refine aU 14 49 rfl rfl (v:=?_) (.inl ⟨by rfl,?_⟩) ?_
  rotate_left 1
  ·(intro w hSw;(try dsimp only at hSw);go_simp;(try with_reducible rfl))
  try simp only[Act.put,aN,aO,aP]
  refine aU 15 50 rfl rfl (v:=?_) (.inl ⟨by rfl,?_⟩) ?_
  rotate_left 1
  ·(intro w hSw;(try dsimp only at hSw);go_simp;(try with_reducible rfl))
  refine dS 16 51 rfl rfl ?_
  try simp only[Act.put,aN,aO,aP]
  refine dS 17 52 rfl rfl ?_
  refine dS 18 53 rfl rfl ?_
  try simp only[Act.put,aN,aO,aP]
  refine dS 19 54 rfl rfl ?_
  refine aU 20 55 rfl rfl (v:=?_) (.inl ⟨by rfl,?_⟩) ?_
  rotate_left 1
  ·(intro w hSw;(try dsimp only at hSw);go_simp;(try with_reducible rfl))
  try simp only[Act.put,aN,aO,aP]
  refine iC (by kernel_rfl) (by kernel_rfl) rfl (fun K hK=>?_)
  go_simp
  refine hK.out _ _ ?_
  clear hK K hS
  go_wp2
  go_ret
  exact⟨rfl,HF6.out⟩
 |true=>
  cases b2 with
  |false=>
   go_enter Tryz.func24,Tryz.ntmps24
   go_wp2_with(first
    |(go_at_call 85;refine(j_.out _).mono ?_;rintro e w1 ⟨rfl,hw1⟩;obtain⟨y0,y1,y2,y3,y4,y5,y6,y7,y8,y9⟩:=bF.out w1 hw1;have HW1:=ah hw1;clear hw1)
    |(go_at_call 86;refine(fU.out _ (bD.out.aC HW1.out)).mono ?_;rintro e w2 ⟨rfl,hw2⟩;clear y0 y1 y2 y3 y4 y5 y6 y7 y8 y9;obtain⟨y0,y1,y2,y3,y4,y5,y6,y7,y8,y9⟩:=bF.out w2 (HW1.out.aC hw2);obtain⟨ug,hvf⟩:=DJ.out w2;have hbl:w.heap.size<w2.heap.size:=World.block_lt_of_cell? _ _ y0;have HW2:=ah (HW1.out.aC hw2);clear hw2))
   clear y0 y1 y2 y3 y4 y5 y6 y7 y8 y9 ug hvf hbl
   have hvs:=CO.out w2
   have vI:=ah (HW2.out.aC hvs.2)
   obtain⟨y0,y1,y2,y3,y4,y5,y6,y7,y8,y9⟩:=bF.out _ vI.out
   have yt:=hvs.1 0 (by decide)
   have vs1:=hvs.1 1 (by decide)
   have vs2:=hvs.1 2 (by decide)
   have vs3:=hvs.1 3 (by decide)
   clear hvs HW2
   generalize w2.heap.size=vb at*
   generalize (w2.alloc (.cells (([.int .i64 v0, .int .i64 v1, .int .i64 v2, .int .i64 v3]:List Value).set dn (.int .i64 af)).toArray 25))=X0 at*
   refine ku (S:=fun w'=>w'.cell? ⟨w.heap.size,0,none⟩=some (.int .i64 dn)∧w'.cell? ⟨w.heap.size,1,none⟩=some (.int .i64 af)∧w'.cell? ⟨w.heap.size,2,none⟩=some (.int .i64 la)∧w'.cell? ⟨w.heap.size,3,none⟩=some (.int .i64 v0)∧w'.cell? ⟨w.heap.size,4,none⟩=some (.int .i64 v1)∧w'.cell? ⟨w.heap.size,5,none⟩=some (.int .i64 v2)∧w'.cell? ⟨w.heap.size,6,none⟩=some (.int .i64 v3)∧w'.cell? ⟨w.heap.size,7,none⟩=some (.slice a0 0 c0)∧w'.cell? ⟨w.heap.size,8,none⟩=some (.slice a1 m c1)∧w'.cell? ⟨w.heap.size,9,none⟩=some (.slice a2 k c2)∧w'.cell? ⟨vb,0,none⟩=some (.int .i64 (g 0))∧w'.cell? ⟨vb,1,none⟩=some (.int .i64 (g 1))∧w'.cell? ⟨vb,2,none⟩=some (.int .i64 (g 2))∧w'.cell? ⟨vb,3,none⟩=some (.int .i64 (g 3))) 6 (by kernel_rfl) ⟨y0,y1,y2,y3,y4,y5,y6,y7,y8,y9,yt,vs1,vs2,vs3⟩ ?_
   intro hS
   have gQ:=ah (fun Y Y' (f:aj ay Y Y') (hS:Y.cell? ⟨w.heap.size,0,none⟩=some (.int .i64 dn)∧Y.cell? ⟨w.heap.size,1,none⟩=some (.int .i64 af)∧Y.cell? ⟨w.heap.size,2,none⟩=some (.int .i64 la)∧Y.cell? ⟨w.heap.size,3,none⟩=some (.int .i64 v0)∧Y.cell? ⟨w.heap.size,4,none⟩=some (.int .i64 v1)∧Y.cell? ⟨w.heap.size,5,none⟩=some (.int .i64 v2)∧Y.cell? ⟨w.heap.size,6,none⟩=some (.int .i64 v3)∧Y.cell? ⟨w.heap.size,7,none⟩=some (.slice a0 0 c0)∧Y.cell? ⟨w.heap.size,8,none⟩=some (.slice a1 m c1)∧Y.cell? ⟨w.heap.size,9,none⟩=some (.slice a2 k c2)∧Y.cell? ⟨vb,0,none⟩=some (.int .i64 (g 0))∧Y.cell? ⟨vb,1,none⟩=some (.int .i64 (g 1))∧Y.cell? ⟨vb,2,none⟩=some (.int .i64 (g 2))∧Y.cell? ⟨vb,3,none⟩=some (.int .i64 (g 3)))=>(⟨f.cell' hS.1 id,f.cell' hS.2.1 id,f.cell' hS.2.2.1 id,f.cell' hS.2.2.2.1 id,f.cell' hS.2.2.2.2.1 id,f.cell' hS.2.2.2.2.2.1 id,f.cell' hS.2.2.2.2.2.2.1 id,f.cell' hS.2.2.2.2.2.2.2.1 id,f.cell' hS.2.2.2.2.2.2.2.2.1 id,f.cell' hS.2.2.2.2.2.2.2.2.2.1 id,f.cell' hS.2.2.2.2.2.2.2.2.2.2.1 id,f.cell' hS.2.2.2.2.2.2.2.2.2.2.2.1 id,f.cell' hS.2.2.2.2.2.2.2.2.2.2.2.2.1 id,f.cell' hS.2.2.2.2.2.2.2.2.2.2.2.2.2 id⟩:Y'.cell? ⟨w.heap.size,0,none⟩=some (.int .i64 dn)∧Y'.cell? ⟨w.heap.size,1,none⟩=some (.int .i64 af)∧Y'.cell? ⟨w.heap.size,2,none⟩=some (.int .i64 la)∧Y'.cell? ⟨w.heap.size,3,none⟩=some (.int .i64 v0)∧Y'.cell? ⟨w.heap.size,4,none⟩=some (.int .i64 v1)∧Y'.cell? ⟨w.heap.size,5,none⟩=some (.int .i64 v2)∧Y'.cell? ⟨w.heap.size,6,none⟩=some (.int .i64 v3)∧Y'.cell? ⟨w.heap.size,7,none⟩=some (.slice a0 0 c0)∧Y'.cell? ⟨w.heap.size,8,none⟩=some (.slice a1 m c1)∧Y'.cell? ⟨w.heap.size,9,none⟩=some (.slice a2 k c2)∧Y'.cell? ⟨vb,0,none⟩=some (.int .i64 (g 0))∧Y'.cell? ⟨vb,1,none⟩=some (.int .i64 (g 1))∧Y'.cell? ⟨vb,2,none⟩=some (.int .i64 (g 2))∧Y'.cell? ⟨vb,3,none⟩=some (.int .i64 (g 3))))
   have jo:=ah ((bD.out.aC vI.out).aC (aj.drew ay X0))
   clear y0 y1 y2 y3 y4 y5 y6 y7 y8 y9 yt vs1 vs2 vs3 vI
   generalize X0.drew=Y at*
   refine aU 0 29 rfl rfl (v:=?_) (.inl ⟨by rfl,?_⟩) ?_
   rotate_left 1
   ·(intro w hSw;(try dsimp only at hSw);go_simp;(try with_reducible rfl))
   refine aU 1 30 rfl rfl (v:=?_) (.inl ⟨by rfl,?_⟩) ?_
   rotate_left 1
   ·(intro w hSw;(try dsimp only at hSw);go_simp;(try with_reducible rfl))
   try simp only[Act.put,aN,aO,aP]
   refine aU 2 31 rfl rfl (v:=?_) (.inl ⟨by rfl,?_⟩) ?_
   rotate_left 1
   ·(intro w hSw;(try dsimp only at hSw);go_simp;(try with_reducible rfl))
   refine aU 3 32 rfl rfl (v:=?_) (.inl ⟨by rfl,?_⟩) ?_
   rotate_left 1
   ·(intro w hSw;(try dsimp only at hSw);go_simp;(try with_reducible rfl))
   try simp only[Act.put,aN,aO,aP]
   refine bJ (i:=4) (by kernel_rfl) rfl (fun K hK=>?_)
   go_simp
   refine(HOW.out _ kN.out).mono ?_
   rintro e Y1 ⟨v1',rfl,hc1,hf1⟩;obtain⟨EP,ER,rfl⟩:∃a c,v1'= .slice a 1 c:=Rd.sl hc1
   have hS:=gQ.out _ _ hf1 hS
   refine hK.out _ _ hS ?_
   clear hK K
   have bg:=ah (jo.out.aC hf1);have bH:=ah hc1;clear hc1 hf1
   try simp only[Act.put,aN,aO,aP]
   refine bJ (i:=5) (by kernel_rfl) rfl (fun K hK=>?_)
   go_simp
   refine(HB0.out _ _ _ c _ (qZ.out _ bg.out) bH.out gU.out nU.out (by have:=qo.out;have:=wF.out;omega) (by simp)).mono ?_
   rintro e Y2 ⟨v2',q,rfl,ho2,hby,-⟩;obtain⟨VA,VB,rfl⟩:=ho2.shape;have hf2:=ho2.aH
   have hS:=gQ.out _ _ hf2 hS
   refine hK.out _ _ hS ?_
   clear hK K
   have HF2:=ah (bg.out.aC hf2);have jZ:=ah ho2;have uh:=ah hby;clear ho2 hf2 hby
   try simp only[Act.put,aN,aO,aP]
   refine iC (by kernel_rfl) (by kernel_rfl) rfl (fun K hK=>?_)
   go_simp
   refine hK.out _ _ ?_
   clear hK K
   go_wp2_with fail
   refine ku (S:=fun w'=>w'.cell? ⟨w.heap.size,0,none⟩=some (.int .i64 dn)∧w'.cell? ⟨w.heap.size,1,none⟩=some (.int .i64 af)∧w'.cell? ⟨w.heap.size,2,none⟩=some (.int .i64 la)∧w'.cell? ⟨w.heap.size,3,none⟩=some (.int .i64 v0)∧w'.cell? ⟨w.heap.size,4,none⟩=some (.int .i64 v1)∧w'.cell? ⟨w.heap.size,5,none⟩=some (.int .i64 v2)∧w'.cell? ⟨w.heap.size,6,none⟩=some (.int .i64 v3)∧w'.cell? ⟨w.heap.size,7,none⟩=some (.slice a0 0 c0)∧w'.cell? ⟨w.heap.size,8,none⟩=some (.slice a1 m c1)∧w'.cell? ⟨w.heap.size,9,none⟩=some (.slice a2 k c2)∧w'.cell? ⟨vb,0,none⟩=some (.int .i64 (g 0))∧w'.cell? ⟨vb,1,none⟩=some (.int .i64 (g 1))∧w'.cell? ⟨vb,2,none⟩=some (.int .i64 (g 2))∧w'.cell? ⟨vb,3,none⟩=some (.int .i64 (g 3))) 21 (by kernel_rfl) ⟨(aj.drew ay Y2).cell' hS.1 id,(aj.drew ay Y2).cell' hS.2.1 id,(aj.drew ay Y2).cell' hS.2.2.1 id,(aj.drew ay Y2).cell' hS.2.2.2.1 id,(aj.drew ay Y2).cell' hS.2.2.2.2.1 id,(aj.drew ay Y2).cell' hS.2.2.2.2.2.1 id,(aj.drew ay Y2).cell' hS.2.2.2.2.2.2.1 id,(aj.drew ay Y2).cell' hS.2.2.2.2.2.2.2.1 id,(aj.drew ay Y2).cell' hS.2.2.2.2.2.2.2.2.1 id,(aj.drew ay Y2).cell' hS.2.2.2.2.2.2.2.2.2.1 id,(aj.drew ay Y2).cell' hS.2.2.2.2.2.2.2.2.2.2.1 id,(aj.drew ay Y2).cell' hS.2.2.2.2.2.2.2.2.2.2.2.1 id,(aj.drew ay Y2).cell' hS.2.2.2.2.2.2.2.2.2.2.2.2.1 id,(aj.drew ay Y2).cell' hS.2.2.2.2.2.2.2.2.2.2.2.2.2 id⟩ ?_
   clear hS
   intro hS
   have gQ:=ah (fun Y Y' (f:aj ay Y Y') (hS:Y.cell? ⟨w.heap.size,0,none⟩=some (.int .i64 dn)∧Y.cell? ⟨w.heap.size,1,none⟩=some (.int .i64 af)∧Y.cell? ⟨w.heap.size,2,none⟩=some (.int .i64 la)∧Y.cell? ⟨w.heap.size,3,none⟩=some (.int .i64 v0)∧Y.cell? ⟨w.heap.size,4,none⟩=some (.int .i64 v1)∧Y.cell? ⟨w.heap.size,5,none⟩=some (.int .i64 v2)∧Y.cell? ⟨w.heap.size,6,none⟩=some (.int .i64 v3)∧Y.cell? ⟨w.heap.size,7,none⟩=some (.slice a0 0 c0)∧Y.cell? ⟨w.heap.size,8,none⟩=some (.slice a1 m c1)∧Y.cell? ⟨w.heap.size,9,none⟩=some (.slice a2 k c2)∧Y.cell? ⟨vb,0,none⟩=some (.int .i64 (g 0))∧Y.cell? ⟨vb,1,none⟩=some (.int .i64 (g 1))∧Y.cell? ⟨vb,2,none⟩=some (.int .i64 (g 2))∧Y.cell? ⟨vb,3,none⟩=some (.int .i64 (g 3)))=>(⟨f.cell' hS.1 id,f.cell' hS.2.1 id,f.cell' hS.2.2.1 id,f.cell' hS.2.2.2.1 id,f.cell' hS.2.2.2.2.1 id,f.cell' hS.2.2.2.2.2.1 id,f.cell' hS.2.2.2.2.2.2.1 id,f.cell' hS.2.2.2.2.2.2.2.1 id,f.cell' hS.2.2.2.2.2.2.2.2.1 id,f.cell' hS.2.2.2.2.2.2.2.2.2.1 id,f.cell' hS.2.2.2.2.2.2.2.2.2.2.1 id,f.cell' hS.2.2.2.2.2.2.2.2.2.2.2.1 id,f.cell' hS.2.2.2.2.2.2.2.2.2.2.2.2.1 id,f.cell' hS.2.2.2.2.2.2.2.2.2.2.2.2.2 id⟩:Y'.cell? ⟨w.heap.size,0,none⟩=some (.int .i64 dn)∧Y'.cell? ⟨w.heap.size,1,none⟩=some (.int .i64 af)∧Y'.cell? ⟨w.heap.size,2,none⟩=some (.int .i64 la)∧Y'.cell? ⟨w.heap.size,3,none⟩=some (.int .i64 v0)∧Y'.cell? ⟨w.heap.size,4,none⟩=some (.int .i64 v1)∧Y'.cell? ⟨w.heap.size,5,none⟩=some (.int .i64 v2)∧Y'.cell? ⟨w.heap.size,6,none⟩=some (.int .i64 v3)∧Y'.cell? ⟨w.heap.size,7,none⟩=some (.slice a0 0 c0)∧Y'.cell? ⟨w.heap.size,8,none⟩=some (.slice a1 m c1)∧Y'.cell? ⟨w.heap.size,9,none⟩=some (.slice a2 k c2)∧Y'.cell? ⟨vb,0,none⟩=some (.int .i64 (g 0))∧Y'.cell? ⟨vb,1,none⟩=some (.int .i64 (g 1))∧Y'.cell? ⟨vb,2,none⟩=some (.int .i64 (g 2))∧Y'.cell? ⟨vb,3,none⟩=some (.int .i64 (g 3))))
   have HF3:=ah (HF2.out.aC (aj.drew ay Y2))
   have wU:=ah (jZ.out.rd.aJ (aj.drew ay Y2))
   have Ou:=ah (show q.length≤4*(c.length+1)from uh.out.LY gU.out nU.out)
   generalize Y2.drew=Z at*
   refine aU 0 35 rfl rfl (v:=?_) (.inl ⟨by rfl,?_⟩) ?_
   rotate_left 1
   ·(intro w hSw;(try dsimp only at hSw);go_simp;(try with_reducible rfl))
   refine aU 1 36 rfl rfl (v:=?_) (.inl ⟨by rfl,?_⟩) ?_
   rotate_left 1
   ·(intro w hSw;(try dsimp only at hSw);go_simp;(try with_reducible rfl))
   try simp only[Act.put,aN,aO,aP]
   refine aU 2 37 rfl rfl (v:=?_) (.inl ⟨by rfl,?_⟩) ?_
   rotate_left 1
   ·(intro w hSw;(try dsimp only at hSw);go_simp;(try with_reducible rfl))
   refine aU 4 39 rfl rfl (v:=?_) (.inl ⟨by rfl,?_⟩) ?_
   rotate_left 1
   ·(intro w hSw;(try dsimp only at hSw);go_simp;(try with_reducible rfl))
   try simp only[Act.put,aN,aO,aP]
   refine bJ (i:=3) (by kernel_rfl) rfl (fun K hK=>?_)
   go_simp
   refine(tK.out _ HF3.out Bh.out).mono ?_
   rintro e Z1 ⟨v1',d,rfl,kL,hof,hl4⟩;obtain⟨VD,VE,rfl⟩:=kL.shape;have hf4:=kL.aH
   have hS:=gQ.out _ _ hf4 hS
   refine hK.out _ _ hS ?_
   clear hK K
   have iI:=ah (HF3.out.aC hf4);have zG:=ah (wU.out.aJ hf4);have tq:=ah kL;have gy:=ah hof;have FU:=ah hl4;clear kL hf4 hof hl4
   try simp only[Act.put,aN,aO,aP]
   refine bJ (i:=5) (by kernel_rfl) rfl (fun K hK=>?_)
   go_simp
   refine(HOW.out _ kN.out).mono ?_
   rintro e Z2 ⟨v2',rfl,hc5,hf5⟩;obtain⟨VF,VG,rfl⟩:∃a c,v2'= .slice a 1 c:=Rd.sl hc5
   have hS:=gQ.out _ _ hf5 hS
   refine hK.out _ _ hS ?_
   clear hK K
   have iJ:=ah (iI.out.aC hf5);have FV:=ah (zG.out.aJ hf5);have HD5:=ah (tq.out.rd.aJ hf5);have vJ:=ah hc5;clear hc5 hf5
   try simp only[Act.put,aN,aO,aP]
   refine bJ (i:=6) (by kernel_rfl) rfl (fun K hK=>?_)
   go_simp
   refine(jS.out _ _ _ d _ HD5.out vJ.out gy.out.right nU.out (by have:=FU.out;omega) (by simp)).mono ?_
   rintro e Z3 ⟨rfl,fF⟩;rw[iQ.out d gy.out]
   have hS:=gQ.out _ _ fF hS
   refine hK.out _ _ hS ?_
   clear hK K
   have HF6:=ah (iJ.out.aC fF);have JI:=ah (FV.out.aJ fF);clear fF
   try simp only[Act.put,aN,aO,aP]
   refine aU 7 42 rfl rfl (v:=?_) (.inl ⟨by rfl,?_⟩) ?_
   rotate_left 1
   ·(intro w hSw;(try dsimp only at hSw);go_simp;(try with_reducible rfl))
   refine aU 8 43 rfl rfl (v:=?_) (.inl ⟨by rfl,?_⟩) ?_
   rotate_left 1
   ·(intro w hSw;(try dsimp only at hSw);go_simp;(try with_reducible rfl))
   try simp only[Act.put,aN,aO,aP]
   refine aU 10 45 rfl rfl (v:=?_) (.inl ⟨by rfl,?_⟩) ?_
   rotate_left 1
   ·(intro w hSw;(try dsimp only at hSw);go_simp;(try with_reducible rfl))
   refine aU 11 46 rfl rfl (v:=?_) (.inl ⟨by rfl,?_⟩) ?_
   rotate_left 1
   ·(intro w hSw;(try dsimp only at hSw);go_simp;(try with_reducible rfl))
   try simp only[Act.put,aN,aO,aP]
   refine aU 12 47 rfl rfl (v:=?_) (.inl ⟨by rfl,?_⟩) ?_
   rotate_left 1
   ·(intro w hSw;(try dsimp only at hSw);go_simp;(try with_reducible rfl))
   try simp only[Act.put,aN,aO,aP]
   refine bJ (i:=9) (by kernel_rfl) rfl (fun K hK=>?_)
   go_simp
   refine(HOW.out _ kN.out).mono ?_
   rintro e Z4 ⟨v4',rfl,BI,jU⟩;obtain⟨d4a,d4c,rfl⟩:∃a c,v4'= .slice a 1 c:=Rd.sl BI
   have hS:=gQ.out _ _ jU hS
   refine hK.out _ _ hS ?_
   clear hK K
   have FW:=ah (HF6.out.aC jU);have Ov:=ah (JI.out.aJ jU);have Ox:=ah BI;clear BI jU
   try simp only[Act.put,aN,aO,aP]
   refine bJ (i:=13) (by kernel_rfl) rfl (fun K hK=>?_)
   go_simp
   refine(jS.out _ _ _ _ c Ox.out (qZ.out _ FW.out) nU.out gU.out (by simp) (by have:=qo.out;have:=wF.out;omega)).mono ?_
   rintro e Z5 ⟨rfl,cZ⟩;rw[HP2.out]
   have hS:=gQ.out _ _ cZ hS
   refine hK.out _ _ hS ?_
   clear hK K
   have Oy:=ah (FW.out.aC cZ);have VH:=ah (Ov.out.aJ cZ);clear cZ
   try simp only[Act.put,aN,aO,aP]
   refine aU 14 49 rfl rfl (v:=?_) (.inl ⟨by rfl,?_⟩) ?_
   rotate_left 1
   ·(intro w hSw;(try dsimp only at hSw);go_simp;(try with_reducible rfl))
   refine aU 15 50 rfl rfl (v:=?_) (.inl ⟨by rfl,?_⟩) ?_
   rotate_left 1
   ·(intro w hSw;(try dsimp only at hSw);go_simp;(try with_reducible rfl))
   try simp only[Act.put,aN,aO,aP]
   refine dS 16 51 rfl rfl ?_
   refine dS 17 52 rfl rfl ?_
   try simp only[Act.put,aN,aO,aP]
   refine dS 18 53 rfl rfl ?_
   refine dS 19 54 rfl rfl ?_
   try simp only[Act.put,aN,aO,aP]
   refine aU 20 55 rfl rfl (v:=?_) (.inl ⟨by rfl,?_⟩) ?_
   rotate_left 1
   ·(intro w hSw;(try dsimp only at hSw);go_simp;(try with_reducible rfl))
   try simp only[Act.put,aN,aO,aP]
   refine iC (by kernel_rfl) (by kernel_rfl) rfl (fun K hK=>?_)
   go_simp
   refine hK.out _ _ ?_
   clear hK K hS
   go_wp2
   go_ret
   exact⟨rfl,Oy.out⟩
  |true=>
   go_enter Tryz.func24,Tryz.ntmps24
   go_wp2_with(first
    |(go_at_call 85;refine(j_.out _).mono ?_;rintro e w1 ⟨rfl,hw1⟩;obtain⟨y0,y1,y2,y3,y4,y5,y6,y7,y8,y9⟩:=bF.out w1 hw1;have HW1:=ah hw1;clear hw1)
    |(go_at_call 86;refine(fU.out _ (bD.out.aC HW1.out)).mono ?_;rintro e w2 ⟨rfl,hw2⟩;clear y0 y1 y2 y3 y4 y5 y6 y7 y8 y9;obtain⟨y0,y1,y2,y3,y4,y5,y6,y7,y8,y9⟩:=bF.out w2 (HW1.out.aC hw2);obtain⟨ug,hvf⟩:=DJ.out w2;have hbl:w.heap.size<w2.heap.size:=World.block_lt_of_cell? _ _ y0;have HW2:=ah (HW1.out.aC hw2);clear hw2))
   clear y0 y1 y2 y3 y4 y5 y6 y7 y8 y9 ug hvf hbl
   have hvs:=CO.out w2
   have vI:=ah (HW2.out.aC hvs.2)
   obtain⟨y0,y1,y2,y3,y4,y5,y6,y7,y8,y9⟩:=bF.out _ vI.out
   have yt:=hvs.1 0 (by decide)
   have vs1:=hvs.1 1 (by decide)
   have vs2:=hvs.1 2 (by decide)
   have vs3:=hvs.1 3 (by decide)
   clear hvs HW2
   generalize w2.heap.size=vb at*
   generalize (w2.alloc (.cells (([.int .i64 v0, .int .i64 v1, .int .i64 v2, .int .i64 v3]:List Value).set dn (.int .i64 af)).toArray 25))=X0 at*
   refine ku (S:=fun w'=>w'.cell? ⟨w.heap.size,0,none⟩=some (.int .i64 dn)∧w'.cell? ⟨w.heap.size,1,none⟩=some (.int .i64 af)∧w'.cell? ⟨w.heap.size,2,none⟩=some (.int .i64 la)∧w'.cell? ⟨w.heap.size,3,none⟩=some (.int .i64 v0)∧w'.cell? ⟨w.heap.size,4,none⟩=some (.int .i64 v1)∧w'.cell? ⟨w.heap.size,5,none⟩=some (.int .i64 v2)∧w'.cell? ⟨w.heap.size,6,none⟩=some (.int .i64 v3)∧w'.cell? ⟨w.heap.size,7,none⟩=some (.slice a0 0 c0)∧w'.cell? ⟨w.heap.size,8,none⟩=some (.slice a1 m c1)∧w'.cell? ⟨w.heap.size,9,none⟩=some (.slice a2 k c2)∧w'.cell? ⟨vb,0,none⟩=some (.int .i64 (g 0))∧w'.cell? ⟨vb,1,none⟩=some (.int .i64 (g 1))∧w'.cell? ⟨vb,2,none⟩=some (.int .i64 (g 2))∧w'.cell? ⟨vb,3,none⟩=some (.int .i64 (g 3))) 6 (by kernel_rfl) ⟨y0,y1,y2,y3,y4,y5,y6,y7,y8,y9,yt,vs1,vs2,vs3⟩ ?_
   intro hS
   have gQ:=ah (fun Y Y' (f:aj ay Y Y') (hS:Y.cell? ⟨w.heap.size,0,none⟩=some (.int .i64 dn)∧Y.cell? ⟨w.heap.size,1,none⟩=some (.int .i64 af)∧Y.cell? ⟨w.heap.size,2,none⟩=some (.int .i64 la)∧Y.cell? ⟨w.heap.size,3,none⟩=some (.int .i64 v0)∧Y.cell? ⟨w.heap.size,4,none⟩=some (.int .i64 v1)∧Y.cell? ⟨w.heap.size,5,none⟩=some (.int .i64 v2)∧Y.cell? ⟨w.heap.size,6,none⟩=some (.int .i64 v3)∧Y.cell? ⟨w.heap.size,7,none⟩=some (.slice a0 0 c0)∧Y.cell? ⟨w.heap.size,8,none⟩=some (.slice a1 m c1)∧Y.cell? ⟨w.heap.size,9,none⟩=some (.slice a2 k c2)∧Y.cell? ⟨vb,0,none⟩=some (.int .i64 (g 0))∧Y.cell? ⟨vb,1,none⟩=some (.int .i64 (g 1))∧Y.cell? ⟨vb,2,none⟩=some (.int .i64 (g 2))∧Y.cell? ⟨vb,3,none⟩=some (.int .i64 (g 3)))=>(⟨f.cell' hS.1 id,f.cell' hS.2.1 id,f.cell' hS.2.2.1 id,f.cell' hS.2.2.2.1 id,f.cell' hS.2.2.2.2.1 id,f.cell' hS.2.2.2.2.2.1 id,f.cell' hS.2.2.2.2.2.2.1 id,f.cell' hS.2.2.2.2.2.2.2.1 id,f.cell' hS.2.2.2.2.2.2.2.2.1 id,f.cell' hS.2.2.2.2.2.2.2.2.2.1 id,f.cell' hS.2.2.2.2.2.2.2.2.2.2.1 id,f.cell' hS.2.2.2.2.2.2.2.2.2.2.2.1 id,f.cell' hS.2.2.2.2.2.2.2.2.2.2.2.2.1 id,f.cell' hS.2.2.2.2.2.2.2.2.2.2.2.2.2 id⟩:Y'.cell? ⟨w.heap.size,0,none⟩=some (.int .i64 dn)∧Y'.cell? ⟨w.heap.size,1,none⟩=some (.int .i64 af)∧Y'.cell? ⟨w.heap.size,2,none⟩=some (.int .i64 la)∧Y'.cell? ⟨w.heap.size,3,none⟩=some (.int .i64 v0)∧Y'.cell? ⟨w.heap.size,4,none⟩=some (.int .i64 v1)∧Y'.cell? ⟨w.heap.size,5,none⟩=some (.int .i64 v2)∧Y'.cell? ⟨w.heap.size,6,none⟩=some (.int .i64 v3)∧Y'.cell? ⟨w.heap.size,7,none⟩=some (.slice a0 0 c0)∧Y'.cell? ⟨w.heap.size,8,none⟩=some (.slice a1 m c1)∧Y'.cell? ⟨w.heap.size,9,none⟩=some (.slice a2 k c2)∧Y'.cell? ⟨vb,0,none⟩=some (.int .i64 (g 0))∧Y'.cell? ⟨vb,1,none⟩=some (.int .i64 (g 1))∧Y'.cell? ⟨vb,2,none⟩=some (.int .i64 (g 2))∧Y'.cell? ⟨vb,3,none⟩=some (.int .i64 (g 3))))
   have jo:=ah ((bD.out.aC vI.out).aC (aj.drew ay X0))
   clear y0 y1 y2 y3 y4 y5 y6 y7 y8 y9 yt vs1 vs2 vs3 vI
   generalize X0.drew=Y at*
   refine aU 0 29 rfl rfl (v:=?_) (.inl ⟨by rfl,?_⟩) ?_
   rotate_left 1
   ·(intro w hSw;(try dsimp only at hSw);go_simp;(try with_reducible rfl))
   refine aU 1 30 rfl rfl (v:=?_) (.inl ⟨by rfl,?_⟩) ?_
   rotate_left 1
   ·(intro w hSw;(try dsimp only at hSw);go_simp;(try with_reducible rfl))
   try simp only[Act.put,aN,aO,aP]
   refine aU 2 31 rfl rfl (v:=?_) (.inl ⟨by rfl,?_⟩) ?_
   rotate_left 1
   ·(intro w hSw;(try dsimp only at hSw);go_simp;(try with_reducible rfl))
   refine aU 3 32 rfl rfl (v:=?_) (.inl ⟨by rfl,?_⟩) ?_
   rotate_left 1
   ·(intro w hSw;(try dsimp only at hSw);go_simp;(try with_reducible rfl))
   try simp only[Act.put,aN,aO,aP]
   refine bJ (i:=4) (by kernel_rfl) rfl (fun K hK=>?_)
   go_simp
   refine(HOW.out _ kN.out).mono ?_
   rintro e Y1 ⟨v1',rfl,hc1,hf1⟩;obtain⟨EP,ER,rfl⟩:∃a c,v1'= .slice a 1 c:=Rd.sl hc1
   have hS:=gQ.out _ _ hf1 hS
   refine hK.out _ _ hS ?_
   clear hK K
   have bg:=ah (jo.out.aC hf1);have bH:=ah hc1;clear hc1 hf1
   try simp only[Act.put,aN,aO,aP]
   refine bJ (i:=5) (by kernel_rfl) rfl (fun K hK=>?_)
   go_simp
   refine(HB0.out _ _ _ c _ (qZ.out _ bg.out) bH.out gU.out nU.out (by have:=qo.out;have:=wF.out;omega) (by simp)).mono ?_
   rintro e Y2 ⟨v2',q,rfl,ho2,hby,-⟩;obtain⟨VA,VB,rfl⟩:=ho2.shape;have hf2:=ho2.aH
   have hS:=gQ.out _ _ hf2 hS
   refine hK.out _ _ hS ?_
   clear hK K
   have HF2:=ah (bg.out.aC hf2);have jZ:=ah ho2;have uh:=ah hby;clear ho2 hf2 hby
   try simp only[Act.put,aN,aO,aP]
   refine iC (by kernel_rfl) (by kernel_rfl) rfl (fun K hK=>?_)
   go_simp
   refine hK.out _ _ ?_
   clear hK K
   go_wp2_with fail
   refine ku (S:=fun w'=>w'.cell? ⟨w.heap.size,0,none⟩=some (.int .i64 dn)∧w'.cell? ⟨w.heap.size,1,none⟩=some (.int .i64 af)∧w'.cell? ⟨w.heap.size,2,none⟩=some (.int .i64 la)∧w'.cell? ⟨w.heap.size,3,none⟩=some (.int .i64 v0)∧w'.cell? ⟨w.heap.size,4,none⟩=some (.int .i64 v1)∧w'.cell? ⟨w.heap.size,5,none⟩=some (.int .i64 v2)∧w'.cell? ⟨w.heap.size,6,none⟩=some (.int .i64 v3)∧w'.cell? ⟨w.heap.size,7,none⟩=some (.slice a0 0 c0)∧w'.cell? ⟨w.heap.size,8,none⟩=some (.slice a1 m c1)∧w'.cell? ⟨w.heap.size,9,none⟩=some (.slice a2 k c2)∧w'.cell? ⟨vb,0,none⟩=some (.int .i64 (g 0))∧w'.cell? ⟨vb,1,none⟩=some (.int .i64 (g 1))∧w'.cell? ⟨vb,2,none⟩=some (.int .i64 (g 2))∧w'.cell? ⟨vb,3,none⟩=some (.int .i64 (g 3))) 21 (by kernel_rfl) ⟨(aj.drew ay Y2).cell' hS.1 id,(aj.drew ay Y2).cell' hS.2.1 id,(aj.drew ay Y2).cell' hS.2.2.1 id,(aj.drew ay Y2).cell' hS.2.2.2.1 id,(aj.drew ay Y2).cell' hS.2.2.2.2.1 id,(aj.drew ay Y2).cell' hS.2.2.2.2.2.1 id,(aj.drew ay Y2).cell' hS.2.2.2.2.2.2.1 id,(aj.drew ay Y2).cell' hS.2.2.2.2.2.2.2.1 id,(aj.drew ay Y2).cell' hS.2.2.2.2.2.2.2.2.1 id,(aj.drew ay Y2).cell' hS.2.2.2.2.2.2.2.2.2.1 id,(aj.drew ay Y2).cell' hS.2.2.2.2.2.2.2.2.2.2.1 id,(aj.drew ay Y2).cell' hS.2.2.2.2.2.2.2.2.2.2.2.1 id,(aj.drew ay Y2).cell' hS.2.2.2.2.2.2.2.2.2.2.2.2.1 id,(aj.drew ay Y2).cell' hS.2.2.2.2.2.2.2.2.2.2.2.2.2 id⟩ ?_
   clear hS
   intro hS
   have gQ:=ah (fun Y Y' (f:aj ay Y Y') (hS:Y.cell? ⟨w.heap.size,0,none⟩=some (.int .i64 dn)∧Y.cell? ⟨w.heap.size,1,none⟩=some (.int .i64 af)∧Y.cell? ⟨w.heap.size,2,none⟩=some (.int .i64 la)∧Y.cell? ⟨w.heap.size,3,none⟩=some (.int .i64 v0)∧Y.cell? ⟨w.heap.size,4,none⟩=some (.int .i64 v1)∧Y.cell? ⟨w.heap.size,5,none⟩=some (.int .i64 v2)∧Y.cell? ⟨w.heap.size,6,none⟩=some (.int .i64 v3)∧Y.cell? ⟨w.heap.size,7,none⟩=some (.slice a0 0 c0)∧Y.cell? ⟨w.heap.size,8,none⟩=some (.slice a1 m c1)∧Y.cell? ⟨w.heap.size,9,none⟩=some (.slice a2 k c2)∧Y.cell? ⟨vb,0,none⟩=some (.int .i64 (g 0))∧Y.cell? ⟨vb,1,none⟩=some (.int .i64 (g 1))∧Y.cell? ⟨vb,2,none⟩=some (.int .i64 (g 2))∧Y.cell? ⟨vb,3,none⟩=some (.int .i64 (g 3)))=>(⟨f.cell' hS.1 id,f.cell' hS.2.1 id,f.cell' hS.2.2.1 id,f.cell' hS.2.2.2.1 id,f.cell' hS.2.2.2.2.1 id,f.cell' hS.2.2.2.2.2.1 id,f.cell' hS.2.2.2.2.2.2.1 id,f.cell' hS.2.2.2.2.2.2.2.1 id,f.cell' hS.2.2.2.2.2.2.2.2.1 id,f.cell' hS.2.2.2.2.2.2.2.2.2.1 id,f.cell' hS.2.2.2.2.2.2.2.2.2.2.1 id,f.cell' hS.2.2.2.2.2.2.2.2.2.2.2.1 id,f.cell' hS.2.2.2.2.2.2.2.2.2.2.2.2.1 id,f.cell' hS.2.2.2.2.2.2.2.2.2.2.2.2.2 id⟩:Y'.cell? ⟨w.heap.size,0,none⟩=some (.int .i64 dn)∧Y'.cell? ⟨w.heap.size,1,none⟩=some (.int .i64 af)∧Y'.cell? ⟨w.heap.size,2,none⟩=some (.int .i64 la)∧Y'.cell? ⟨w.heap.size,3,none⟩=some (.int .i64 v0)∧Y'.cell? ⟨w.heap.size,4,none⟩=some (.int .i64 v1)∧Y'.cell? ⟨w.heap.size,5,none⟩=some (.int .i64 v2)∧Y'.cell? ⟨w.heap.size,6,none⟩=some (.int .i64 v3)∧Y'.cell? ⟨w.heap.size,7,none⟩=some (.slice a0 0 c0)∧Y'.cell? ⟨w.heap.size,8,none⟩=some (.slice a1 m c1)∧Y'.cell? ⟨w.heap.size,9,none⟩=some (.slice a2 k c2)∧Y'.cell? ⟨vb,0,none⟩=some (.int .i64 (g 0))∧Y'.cell? ⟨vb,1,none⟩=some (.int .i64 (g 1))∧Y'.cell? ⟨vb,2,none⟩=some (.int .i64 (g 2))∧Y'.cell? ⟨vb,3,none⟩=some (.int .i64 (g 3))))
   have HF3:=ah (HF2.out.aC (aj.drew ay Y2))
   have wU:=ah (jZ.out.rd.aJ (aj.drew ay Y2))
   have Ou:=ah (show q.length≤4*(c.length+1)from uh.out.LY gU.out nU.out)
   generalize Y2.drew=Z at*
   refine aU 0 35 rfl rfl (v:=?_) (.inl ⟨by rfl,?_⟩) ?_
   rotate_left 1
   ·(intro w hSw;(try dsimp only at hSw);go_simp;(try with_reducible rfl))
   refine aU 1 36 rfl rfl (v:=?_) (.inl ⟨by rfl,?_⟩) ?_
   rotate_left 1
   ·(intro w hSw;(try dsimp only at hSw);go_simp;(try with_reducible rfl))
   try simp only[Act.put,aN,aO,aP]
   refine aU 2 37 rfl rfl (v:=?_) (.inl ⟨by rfl,?_⟩) ?_
   rotate_left 1
   ·(intro w hSw;(try dsimp only at hSw);go_simp;(try with_reducible rfl))
   refine aU 4 39 rfl rfl (v:=?_) (.inl ⟨by rfl,?_⟩) ?_
   rotate_left 1
   ·(intro w hSw;(try dsimp only at hSw);go_simp;(try with_reducible rfl))
   try simp only[Act.put,aN,aO,aP]
   refine bJ (i:=3) (by kernel_rfl) rfl (fun K hK=>?_)
   go_simp
   refine(tK.out _ HF3.out Bh.out).mono ?_
   rintro e Z1 ⟨v1',d,rfl,kL,hof,hl4⟩;obtain⟨VD,VE,rfl⟩:=kL.shape;have hf4:=kL.aH
   have hS:=gQ.out _ _ hf4 hS
   refine hK.out _ _ hS ?_
   clear hK K
   have iI:=ah (HF3.out.aC hf4);have zG:=ah (wU.out.aJ hf4);have tq:=ah kL;have gy:=ah hof;have FU:=ah hl4;clear kL hf4 hof hl4
   try simp only[Act.put,aN,aO,aP]
   refine bJ (i:=5) (by kernel_rfl) rfl (fun K hK=>?_)
   go_simp
   refine(HOW.out _ kN.out).mono ?_
   rintro e Z2 ⟨v2',rfl,hc5,hf5⟩;obtain⟨VF,VG,rfl⟩:∃a c,v2'= .slice a 1 c:=Rd.sl hc5
   have hS:=gQ.out _ _ hf5 hS
   refine hK.out _ _ hS ?_
   clear hK K
   have iJ:=ah (iI.out.aC hf5);have FV:=ah (zG.out.aJ hf5);have HD5:=ah (tq.out.rd.aJ hf5);have vJ:=ah hc5;clear hc5 hf5
   try simp only[Act.put,aN,aO,aP]
   refine bJ (i:=6) (by kernel_rfl) rfl (fun K hK=>?_)
   go_simp
   refine(jS.out _ _ _ d _ HD5.out vJ.out gy.out.right nU.out (by have:=FU.out;omega) (by simp)).mono ?_
   rintro e Z3 ⟨rfl,fF⟩;rw[iQ.out d gy.out]
   have hS:=gQ.out _ _ fF hS
   refine hK.out _ _ hS ?_
   clear hK K
   have HF6:=ah (iJ.out.aC fF);have JI:=ah (FV.out.aJ fF);clear fF
   try simp only[Act.put,aN,aO,aP]
   refine aU 7 42 rfl rfl (v:=?_) (.inl ⟨by rfl,?_⟩) ?_
   rotate_left 1
   ·(intro w hSw;(try dsimp only at hSw);go_simp;(try with_reducible rfl))
   refine aU 8 43 rfl rfl (v:=?_) (.inl ⟨by rfl,?_⟩) ?_
   rotate_left 1
   ·(intro w hSw;(try dsimp only at hSw);go_simp;(try with_reducible rfl))
   try simp only[Act.put,aN,aO,aP]
   refine aU 10 45 rfl rfl (v:=?_) (.inl ⟨by rfl,?_⟩) ?_
   rotate_left 1
   ·(intro w hSw;(try dsimp only at hSw);go_simp;(try with_reducible rfl))
   refine aU 11 46 rfl rfl (v:=?_) (.inl ⟨by rfl,?_⟩) ?_
   rotate_left 1
   ·(intro w hSw;(try dsimp only at hSw);go_simp;(try with_reducible rfl))
   try simp only[Act.put,aN,aO,aP]
   refine aU 12 47 rfl rfl (v:=?_) (.inl ⟨by rfl,?_⟩) ?_
   rotate_left 1
   ·(intro w hSw;(try dsimp only at hSw);go_simp;(try with_reducible rfl))
   try simp only[Act.put,aN,aO,aP]
   refine bJ (i:=9) (by kernel_rfl) rfl (fun K hK=>?_)
   go_simp
   refine(HOW.out _ kN.out).mono ?_
   rintro e Z4 ⟨v4',rfl,BI,jU⟩;obtain⟨d4a,d4c,rfl⟩:∃a c,v4'= .slice a 1 c:=Rd.sl BI
   have hS:=gQ.out _ _ jU hS
   refine hK.out _ _ hS ?_
   clear hK K
   have FW:=ah (HF6.out.aC jU);have Ov:=ah (JI.out.aJ jU);have Ox:=ah BI;clear BI jU
   try simp only[Act.put,aN,aO,aP]
   refine bJ (i:=13) (by kernel_rfl) rfl (fun K hK=>?_)
   go_simp
   refine(jS.out _ _ _ _ c Ox.out (qZ.out _ FW.out) nU.out gU.out (by simp) (by have:=qo.out;have:=wF.out;omega)).mono ?_
   rintro e Z5 ⟨rfl,cZ⟩;rw[HP2.out]
   have hS:=gQ.out _ _ cZ hS
   refine hK.out _ _ hS ?_
   clear hK K
   have Oy:=ah (FW.out.aC cZ);have VH:=ah (Ov.out.aJ cZ);clear cZ
   try simp only[Act.put,aN,aO,aP]
   refine aU 14 49 rfl rfl (v:=?_) (.inl ⟨by rfl,?_⟩) ?_
   rotate_left 1
   ·(intro w hSw;(try dsimp only at hSw);go_simp;(try with_reducible rfl))
   refine aU 15 50 rfl rfl (v:=?_) (.inl ⟨by rfl,?_⟩) ?_
   rotate_left 1
   ·(intro w hSw;(try dsimp only at hSw);go_simp;(try with_reducible rfl))
   try simp only[Act.put,aN,aO,aP]
   refine aU 16 51 rfl rfl (v:=?_) (.inl ⟨by rfl,?_⟩) ?_
   rotate_left 1
   ·(intro w hSw;(try dsimp only at hSw);go_simp;(try with_reducible rfl))
   refine aU 17 52 rfl rfl (v:=?_) (.inl ⟨by rfl,?_⟩) ?_
   rotate_left 1
   ·(intro w hSw;(try dsimp only at hSw);go_simp;(try with_reducible rfl))
   try simp only[Act.put,aN,aO,aP]
   refine bJ (i:=18) (by kernel_rfl) rfl (fun K hK=>?_)
   go_simp
   refine(QW _ (g 0) (g 1) (g 2) (g 3)).mono ?_
   rintro e Z6 ⟨v6',rfl,FX,Oz⟩;rw[HVF.out]at FX Oz;obtain⟨d6a,d6c,rfl⟩:=FX.shape;have bZ:=FX.aH
   have hS:=gQ.out _ _ bZ hS
   refine hK.out _ _ hS ?_
   clear hK K
   have uj:=ah (Oy.out.aC bZ);have OA:=ah (VH.out.aJ bZ);have FY:=ah FX;have HL9:=ah Oz;clear FX bZ Oz
   try simp only[Act.put,aN,aO,aP]
   refine bJ (i:=19) (by kernel_rfl) rfl (fun K hK=>?_)
   go_simp
   refine(jS.out _ _ _ q _ OA.out FY.out.rd uh.out.right mO.out (by have:=Ou.out;have:=qo.out;have:=wF.out;omega) (by have:=HL9.out;omega)).mono ?_
   rintro e Z7 ⟨rfl,jk⟩;rw[nN.out q uh.out]
   have hS:=gQ.out _ _ jk hS
   refine hK.out _ _ hS ?_
   clear hK K
   have BJ:=ah (uj.out.aC jk);clear jk
   try simp only[Act.put,aN,aO,aP]
   refine aU 20 55 rfl rfl (v:=?_) (.inl ⟨by rfl,?_⟩) ?_
   rotate_left 1
   ·(intro w hSw;(try dsimp only at hSw);go_simp;(try with_reducible rfl))
   try simp only[Act.put,aN,aO,aP]
   refine iC (by kernel_rfl) (by kernel_rfl) rfl (fun K hK=>?_)
   go_simp
   refine hK.out _ _ ?_
   clear hK K hS
   go_wp2
   go_ret
   exact⟨rfl,BJ.out⟩
end Go.Proofs.YtabkpccdnkjoiaaGreat
