/- Words for the law MsgSame: BunS. -/
import Derived.Test.YtabkpccdnkjoiaaGreatMsgSameG0
import Derived.Test.YtabkpccdnkjoiaaGreatMsgSameG21
set_option linter.unusedSimpArgs false
set_option linter.unusedVariables false
set_option maxHeartbeats 32000000
set_option maxRecDepth 1000000
namespace Go.Proofs.YtabkpccdnkjoiaaGreat
open Go.RowKit
theorem ZO (W:World) (T:TypeId) (v0 v1 v2 v3 x:Int) (dn:Nat) (h:dn<4):
 (∀j:Nat,j<4→(W.alloc (.cells (([.int .i64 v0, .int .i64 v1, .int .i64 v2, .int .i64 v3]:List Value).set dn (.int .i64 x)).toArray T)).cell? ⟨W.heap.size,j,none⟩=some (.int .i64 (gu (bG v0 v1 v2 v3) dn x j)))∧
 aj ay W (W.alloc (.cells (([.int .i64 v0, .int .i64 v1, .int .i64 v2, .int .i64 v3]:List Value).set dn (.int .i64 x)).toArray T)):=by
 refine⟨fun j hj=>?_,aj.alloc _ _ _⟩
 have h1:=heap_alloc_new W (.cells (([.int .i64 v0, .int .i64 v1, .int .i64 v2, .int .i64 v3]:List Value).set dn (.int .i64 x)).toArray T)
 rcases(by omega:dn=0∨dn=1∨dn=2∨dn=3)with rfl|rfl|rfl|rfl<;>rcases(by omega:j=0∨j=1∨j=2∨j=3)with rfl|rfl|rfl|rfl<;>exact aC h1 _ rfl
theorem ZP (W:World) (T:TypeId) (v0 v1 v2 v3:Int) (dn:Nat) (h:dn<4):
 (W.alloc (.cells #[.int .i64 v0, .int .i64 v1, .int .i64 v2, .int .i64 v3] T)).cell? ⟨W.heap.size,dn,none⟩=some (.int .i64 (bG v0 v1 v2 v3 dn))∧(W.alloc (.cells #[.int .i64 v0, .int .i64 v1, .int .i64 v2, .int .i64 v3] T)).frozen? ⟨W.heap.size,dn,none⟩=false:=by
 have h1:=heap_alloc_new W (.cells #[.int .i64 v0, .int .i64 v1, .int .i64 v2, .int .i64 v3] T)
 refine⟨?_,bf h1 dn⟩
 rcases(by omega:dn=0∨dn=1∨dn=2∨dn=3)with rfl|rfl|rfl|rfl<;>exact aC h1 _ rfl
theorem ZQ (Q:Nat→Prop) (es:List aG) (ks:aH) (c:aW) (w:World) (dc af la v0 v1 v2 v3:Int) (ev kv cv:Value) (h:fH Q w ev kv cv es ks c) (hok:fP es ks c):
 Calls Tryz.prog 24 #[.agg #[.int .i64 dc, .int .i64 af, .int .i64 la, .int .i64 v0, .int .i64 v1, .int .i64 v2, .int .i64 v3,ev,kv,cv]] w fun e w'=>e= .returned (.bool (tf (je dc af la (bG v0 v1 v2 v3) es ks c)))∧aj ay w w':=by
 obtain⟨a0,c0,a1,c1,a2,c2,rfl,rfl,rfl⟩:=h.shape
 have jv:=ah (fun W=>ZM W dc af la v0 v1 v2 v3 a0 a1 a2 es.length ks.len c.length c0 c1 c2)
 have ig:=ah (fun W (f:aj ay w W)=>QY Q es ks c W _ _ _ (h.aO f) hok)
 have qN:=ah (fun W (f:aj ay w W) hd=>QW Q es ks W _ _ (h.tree.aO f) hok.small hd)
 have HOW:=ah (fun W hn=>ZN W dc af la v0 v1 v2 v3 a0 a1 a2 es.length ks.len c.length c0 c1 c2 hn)
 have oH:=ah (fun W (f:aj ay w W)=>(show fZ W (.slice a2 c.length c2) c from Rd.aO h.ctx f))
 have hcl:=hok.len
 have jo:=ah (fun W va vb a b ha hb ra rb la lb=>NC W va vb a b ha hb ra rb la lb)
 have HB0:=ah (fun W va vb a b ha hb ra rb la lb=>Nz W va vb a b ha hb ra rb la lb)
 clear h hok
 have aQ:=ah (BX w (.int .i64 dc) (.int .i64 af) (.int .i64 la) (.int .i64 v0) (.int .i64 v1) (.int .i64 v2) (.int .i64 v3) (.slice a0 es.length c0) (.slice a1 ks.len c1) (.slice a2 c.length c2) 55)
 have hfa:aj ay w (w.alloc (.cells #[.int .i64 dc, .int .i64 af, .int .i64 la, .int .i64 v0, .int .i64 v1, .int .i64 v2, .int .i64 v3, .slice a0 es.length c0, .slice a1 ks.len c1, .slice a2 c.length c2] 55)):=aj.alloc _ _ _
 have aU:=ah hfa;clear hfa
 by_cases hn:oC dc af la (bG v0 v1 v2 v3)
 rotate_left 1
 ·rw[aZ hn]at jv
  rw[aZ fun h=>hn h.nums]
  clear hn ig qN HOW oH jo HB0 hcl
  generalize es.length=n at*
  generalize ks.len=m at*
  generalize c.length=k at*
  go_enter Tryz.func24,Tryz.ntmps24
  go_wp2_with(go_at_call 85;refine(jv.out _).mono ?_;rintro e w1 ⟨rfl,hw1⟩;have HW1:=ah (aU.out.au hw1);clear hw1)
  go_ret
  exact⟨rfl,HW1.out⟩
 rw[bZ hn]at jv
 by_cases hc:fG es ks c
 rotate_left 1
 ·rw[aZ hc]at ig
  rw[aZ fun h=>hc ⟨h.tree,h.ctx,h.dots⟩]
  clear hn hc qN HOW oH jo HB0 hcl
  generalize es.length=n at*
  generalize ks.len=m at*
  generalize c.length=k at*
  go_enter Tryz.func24,Tryz.ntmps24
  go_wp2_with(first
   |(go_at_call 85;refine(jv.out _).mono ?_;rintro e w1 ⟨rfl,hw1⟩;obtain⟨y0,y1,y2,y3,y4,y5,y6,y7,y8,y9⟩:=aQ.out w1 hw1;have HW1:=ah (aU.out.au hw1);clear hw1)
   |(go_at_call 86;refine(ig.out _ HW1.out).mono ?_;rintro e w2 ⟨rfl,hw2⟩;have HW2:=ah (HW1.out.au hw2);clear hw2))
  go_ret
  exact⟨rfl,HW2.out⟩
 rw[bZ hc]at ig
 rcases Nat.eq_zero_or_pos es.length with he0|Cb
 rotate_left 1
 ·rw[aZ fun h=>by rw[h.bare]at Cb;cases Cb]
  clear hn hc qN HOW oH jo HB0 hcl
  generalize es.length=n at*
  generalize ks.len=m at*
  generalize c.length=k at*
  go_enter Tryz.func24,Tryz.ntmps24
  go_wp2_with(first
   |(go_at_call 85;refine(jv.out _).mono ?_;rintro e w1 ⟨rfl,hw1⟩;obtain⟨y0,y1,y2,y3,y4,y5,y6,y7,y8,y9⟩:=aQ.out w1 hw1;have HW1:=ah hw1;clear hw1)
   |(go_at_call 86;refine(ig.out _ (aU.out.au HW1.out)).mono ?_;rintro e w2 ⟨rfl,hw2⟩;clear y0 y1 y2 y3 y4 y5 y6 y7 y8 y9;obtain⟨y0,y1,y2,y3,y4,y5,y6,y7,y8,y9⟩:=aQ.out w2 (HW1.out.au hw2);have HW2:=ah (HW1.out.au hw2);clear hw2))
  go_ret
  exact⟨rfl,aU.out.au HW2.out⟩
 have hes:es=[]:=List.eq_nil_of_length_eq_zero he0
 have eF:=ah hc.tree
 have jh:=ah hc.ctx
 have yP:=ah (BK hc.tree)
 have lN:=ah hn.OM
 have jJ:=ah hn
 have hp1:∀d,og (gq es ks) d→tf (jr d [(dc,af+1,la)])=tf (uO (gq es ks) [(dc,af+1,la)]):=fun d hd=>kT (hd.leq yP.out)
 have hp3:∀q,oW 2 c [(dc,af+1,la)] q→tf (jr q (eU (gu (bG v0 v1 v2 v3) dc af)))=tf (jr c (eU (gu (bG v0 v1 v2 v3) dc la))):=fun q hq=>kT (VO jJ.out jh.out hq).symm
 have hfr:dw (eU (gu (bG v0 v1 v2 v3) dc af)):=MV fun d h0 h4=>(hn.Jg (x:=af) hn.2.2.1 (by have:=hn.2.2.2.1;have:=hn.2.2.2.2.1;omega) d h0 h4).2
 have lK:=ah hfr;clear hfr
 have iC:=ah hp1;clear hp1
 have lH:=ah hp3;clear hp3
 have hall:tf (je dc af la (bG v0 v1 v2 v3) es ks c)=(tf (uO (gq es ks) [(dc,af+1,la)])&&(tf (jr [(dc,af+1,la)] c)&&tf (jr c (eU (gu (bG v0 v1 v2 v3) dc la))))):=by
  rw[Bool.eq_iff_iff]
  simp only[Bool.and_eq_true,sG]
  exact⟨fun h=>⟨h.mine,h.own,h.may⟩,fun h=>⟨hn,hc.tree,hc.ctx,hc.dots,hes,h.1,h.2.1,h.2.2⟩⟩
 rw[hall]
 have nR:=ah hcl
 obtain⟨dn,hdn⟩:∃dn:Nat,dc=dn:=⟨dc.toNat,by have:=hn.1;omega⟩
 have hd4:dn<4:=by have:=hn.2.1;omega
 have E_:(dn:Int)<4:=by omega
 have WS:decide ((dn:Int)<4)=true:=by simpa using E_
 clear hall hn hc hes hcl
 subst hdn
 generalize tf (jr c (eU (gu (bG v0 v1 v2 v3) dn la)))=b3 at*
 generalize hb2:tf (jr [((dn:Int),af+1,la)] c)=b2 at*
 have HP2:=ah hb2;clear hb2
 generalize tf (uO (gq es ks) [((dn:Int),af+1,la)])=b1 at*
 have zN:=ah (fun W=>ZO W 25 v0 v1 v2 v3 af dn hd4)
 have KN:=ah (fun W=>ZP W 25 v0 v1 v2 v3 dn hd4)
 generalize hgg:gu (bG v0 v1 v2 v3) dn af=g at*
 clear hgg
 have ZR:=ah (show eU (bG (g 0) (g 1) (g 2) (g 3))=eU g from zX fun d h0 h4=>by rcases four h0 h4 with rfl|rfl|rfl|rfl<;>simp[bG])
 generalize hel:es.length=n at*
 subst he0
 clear hel
 generalize ks.len=m at*
 generalize hck:c.length=k at*
 have uU:=ah hck;clear hck
 cases b1 with
 |false=>
  go_enter Tryz.func24,Tryz.ntmps24
  go_wp2_with(first
   |(go_at_call 85;refine(jv.out _).mono ?_;rintro e w1 ⟨rfl,hw1⟩;obtain⟨y0,y1,y2,y3,y4,y5,y6,y7,y8,y9⟩:=aQ.out w1 hw1;have HW1:=ah hw1;clear hw1)
   |(go_at_call 86;refine(ig.out _ (aU.out.au HW1.out)).mono ?_;rintro e w2 ⟨rfl,hw2⟩;clear y0 y1 y2 y3 y4 y5 y6 y7 y8 y9;obtain⟨y0,y1,y2,y3,y4,y5,y6,y7,y8,y9⟩:=aQ.out w2 (HW1.out.au hw2);obtain⟨qY,hvf⟩:=KN.out w2;have hbl:w.heap.size<w2.heap.size:=World.block_lt_of_cell? _ _ y0;have HW2:=ah (HW1.out.au hw2);clear hw2))
  clear y0 y1 y2 y3 y4 y5 y6 y7 y8 y9 qY hvf hbl
  have hvs:=zN.out w2
  have ug:=ah (HW2.out.au hvs.2)
  obtain⟨y0,y1,y2,y3,y4,y5,y6,y7,y8,y9⟩:=aQ.out _ ug.out
  have wJ:=hvs.1 0 (by decide)
  have vs1:=hvs.1 1 (by decide)
  have vs2:=hvs.1 2 (by decide)
  have vs3:=hvs.1 3 (by decide)
  clear hvs HW2
  generalize w2.heap.size=vb at*
  generalize (w2.alloc (.cells (([.int .i64 v0, .int .i64 v1, .int .i64 v2, .int .i64 v3]:List Value).set dn (.int .i64 af)).toArray 25))=X0 at*
  refine iI (S:=fun w'=>w'.cell? ⟨w.heap.size,0,none⟩=some (.int .i64 dn)∧w'.cell? ⟨w.heap.size,1,none⟩=some (.int .i64 af)∧w'.cell? ⟨w.heap.size,2,none⟩=some (.int .i64 la)∧w'.cell? ⟨w.heap.size,3,none⟩=some (.int .i64 v0)∧w'.cell? ⟨w.heap.size,4,none⟩=some (.int .i64 v1)∧w'.cell? ⟨w.heap.size,5,none⟩=some (.int .i64 v2)∧w'.cell? ⟨w.heap.size,6,none⟩=some (.int .i64 v3)∧w'.cell? ⟨w.heap.size,7,none⟩=some (.slice a0 0 c0)∧w'.cell? ⟨w.heap.size,8,none⟩=some (.slice a1 m c1)∧w'.cell? ⟨w.heap.size,9,none⟩=some (.slice a2 k c2)∧w'.cell? ⟨vb,0,none⟩=some (.int .i64 (g 0))∧w'.cell? ⟨vb,1,none⟩=some (.int .i64 (g 1))∧w'.cell? ⟨vb,2,none⟩=some (.int .i64 (g 2))∧w'.cell? ⟨vb,3,none⟩=some (.int .i64 (g 3))) 6 (by kernel_rfl) ⟨y0,y1,y2,y3,y4,y5,y6,y7,y8,y9,wJ,vs1,vs2,vs3⟩ ?_
  intro hS
  have fO:=ah (fun Y Y' (f:aj ay Y Y') (hS:Y.cell? ⟨w.heap.size,0,none⟩=some (.int .i64 dn)∧Y.cell? ⟨w.heap.size,1,none⟩=some (.int .i64 af)∧Y.cell? ⟨w.heap.size,2,none⟩=some (.int .i64 la)∧Y.cell? ⟨w.heap.size,3,none⟩=some (.int .i64 v0)∧Y.cell? ⟨w.heap.size,4,none⟩=some (.int .i64 v1)∧Y.cell? ⟨w.heap.size,5,none⟩=some (.int .i64 v2)∧Y.cell? ⟨w.heap.size,6,none⟩=some (.int .i64 v3)∧Y.cell? ⟨w.heap.size,7,none⟩=some (.slice a0 0 c0)∧Y.cell? ⟨w.heap.size,8,none⟩=some (.slice a1 m c1)∧Y.cell? ⟨w.heap.size,9,none⟩=some (.slice a2 k c2)∧Y.cell? ⟨vb,0,none⟩=some (.int .i64 (g 0))∧Y.cell? ⟨vb,1,none⟩=some (.int .i64 (g 1))∧Y.cell? ⟨vb,2,none⟩=some (.int .i64 (g 2))∧Y.cell? ⟨vb,3,none⟩=some (.int .i64 (g 3)))=>(⟨f.cell' hS.1 id,f.cell' hS.2.1 id,f.cell' hS.2.2.1 id,f.cell' hS.2.2.2.1 id,f.cell' hS.2.2.2.2.1 id,f.cell' hS.2.2.2.2.2.1 id,f.cell' hS.2.2.2.2.2.2.1 id,f.cell' hS.2.2.2.2.2.2.2.1 id,f.cell' hS.2.2.2.2.2.2.2.2.1 id,f.cell' hS.2.2.2.2.2.2.2.2.2.1 id,f.cell' hS.2.2.2.2.2.2.2.2.2.2.1 id,f.cell' hS.2.2.2.2.2.2.2.2.2.2.2.1 id,f.cell' hS.2.2.2.2.2.2.2.2.2.2.2.2.1 id,f.cell' hS.2.2.2.2.2.2.2.2.2.2.2.2.2 id⟩:Y'.cell? ⟨w.heap.size,0,none⟩=some (.int .i64 dn)∧Y'.cell? ⟨w.heap.size,1,none⟩=some (.int .i64 af)∧Y'.cell? ⟨w.heap.size,2,none⟩=some (.int .i64 la)∧Y'.cell? ⟨w.heap.size,3,none⟩=some (.int .i64 v0)∧Y'.cell? ⟨w.heap.size,4,none⟩=some (.int .i64 v1)∧Y'.cell? ⟨w.heap.size,5,none⟩=some (.int .i64 v2)∧Y'.cell? ⟨w.heap.size,6,none⟩=some (.int .i64 v3)∧Y'.cell? ⟨w.heap.size,7,none⟩=some (.slice a0 0 c0)∧Y'.cell? ⟨w.heap.size,8,none⟩=some (.slice a1 m c1)∧Y'.cell? ⟨w.heap.size,9,none⟩=some (.slice a2 k c2)∧Y'.cell? ⟨vb,0,none⟩=some (.int .i64 (g 0))∧Y'.cell? ⟨vb,1,none⟩=some (.int .i64 (g 1))∧Y'.cell? ⟨vb,2,none⟩=some (.int .i64 (g 2))∧Y'.cell? ⟨vb,3,none⟩=some (.int .i64 (g 3))))
  have gy:=ah ((aU.out.au ug.out).au (aj.drew ay X0))
  clear y0 y1 y2 y3 y4 y5 y6 y7 y8 y9 wJ vs1 vs2 vs3 ug
  generalize X0.drew=Y at*
  refine aS 0 29 rfl rfl (v:=?_) (.inl ⟨by rfl,?_⟩) ?_
  rotate_left 1
  ·(intro w hSw;(try dsimp only at hSw);go_simp;(try with_reducible rfl))
  refine aS 1 30 rfl rfl (v:=?_) (.inl ⟨by rfl,?_⟩) ?_
  rotate_left 1
  ·(intro w hSw;(try dsimp only at hSw);go_simp;(try with_reducible rfl))
  try simp only[Act.put,aI,aJ,aN]
  refine aS 2 31 rfl rfl (v:=?_) (.inl ⟨by rfl,?_⟩) ?_
  rotate_left 1
  ·(intro w hSw;(try dsimp only at hSw);go_simp;(try with_reducible rfl))
  refine aS 3 32 rfl rfl (v:=?_) (.inl ⟨by rfl,?_⟩) ?_
  rotate_left 1
  ·(intro w hSw;(try dsimp only at hSw);go_simp;(try with_reducible rfl))
  try simp only[Act.put,aI,aJ,aN]
  refine bM (i:=4) (by kernel_rfl) rfl (fun K hK=>?_)
  go_simp
  refine(HOW.out _ jJ.out).mono ?_
  rintro e Y1 ⟨v1',rfl,hc1,hf1⟩;obtain⟨Ce,Ci,rfl⟩:∃a c,v1'= .slice a 1 c:=Rd.sl hc1
  have hS:=fO.out _ _ hf1 hS
  refine hK.out _ _ hS ?_
  clear hK K
  have bH:=ah (gy.out.au hf1);have cO:=ah hc1;clear hc1 hf1
  try simp only[Act.put,aI,aJ,aN]
  refine bM (i:=5) (by kernel_rfl) rfl (fun K hK=>?_)
  go_simp
  refine(HB0.out _ _ _ c _ (oH.out _ bH.out) cO.out jh.out lN.out (by have:=nR.out;have:=uU.out;omega) (by simp)).mono ?_
  rintro e Y2 ⟨v2',q,rfl,ho2,hby,-⟩;obtain⟨Rf,Rh,rfl⟩:=ho2.shape;have hf2:=ho2.aP
  have hS:=fO.out _ _ hf2 hS
  refine hK.out _ _ hS ?_
  clear hK K
  have HF2:=ah (bH.out.au hf2);have jG:=ah ho2;have lY:=ah hby;clear ho2 hf2 hby
  try simp only[Act.put,aI,aJ,aN]
  refine iQ (by kernel_rfl) (by kernel_rfl) rfl (fun K hK=>?_)
  go_simp
  refine hK.out _ _ ?_
  clear hK K
  go_wp2_with fail
  refine iI (S:=fun w'=>w'.cell? ⟨w.heap.size,0,none⟩=some (.int .i64 dn)∧w'.cell? ⟨w.heap.size,1,none⟩=some (.int .i64 af)∧w'.cell? ⟨w.heap.size,2,none⟩=some (.int .i64 la)∧w'.cell? ⟨w.heap.size,3,none⟩=some (.int .i64 v0)∧w'.cell? ⟨w.heap.size,4,none⟩=some (.int .i64 v1)∧w'.cell? ⟨w.heap.size,5,none⟩=some (.int .i64 v2)∧w'.cell? ⟨w.heap.size,6,none⟩=some (.int .i64 v3)∧w'.cell? ⟨w.heap.size,7,none⟩=some (.slice a0 0 c0)∧w'.cell? ⟨w.heap.size,8,none⟩=some (.slice a1 m c1)∧w'.cell? ⟨w.heap.size,9,none⟩=some (.slice a2 k c2)∧w'.cell? ⟨vb,0,none⟩=some (.int .i64 (g 0))∧w'.cell? ⟨vb,1,none⟩=some (.int .i64 (g 1))∧w'.cell? ⟨vb,2,none⟩=some (.int .i64 (g 2))∧w'.cell? ⟨vb,3,none⟩=some (.int .i64 (g 3))) 21 (by kernel_rfl) ⟨(aj.drew ay Y2).cell' hS.1 id,(aj.drew ay Y2).cell' hS.2.1 id,(aj.drew ay Y2).cell' hS.2.2.1 id,(aj.drew ay Y2).cell' hS.2.2.2.1 id,(aj.drew ay Y2).cell' hS.2.2.2.2.1 id,(aj.drew ay Y2).cell' hS.2.2.2.2.2.1 id,(aj.drew ay Y2).cell' hS.2.2.2.2.2.2.1 id,(aj.drew ay Y2).cell' hS.2.2.2.2.2.2.2.1 id,(aj.drew ay Y2).cell' hS.2.2.2.2.2.2.2.2.1 id,(aj.drew ay Y2).cell' hS.2.2.2.2.2.2.2.2.2.1 id,(aj.drew ay Y2).cell' hS.2.2.2.2.2.2.2.2.2.2.1 id,(aj.drew ay Y2).cell' hS.2.2.2.2.2.2.2.2.2.2.2.1 id,(aj.drew ay Y2).cell' hS.2.2.2.2.2.2.2.2.2.2.2.2.1 id,(aj.drew ay Y2).cell' hS.2.2.2.2.2.2.2.2.2.2.2.2.2 id⟩ ?_
  clear hS
  intro hS
  have fO:=ah (fun Y Y' (f:aj ay Y Y') (hS:Y.cell? ⟨w.heap.size,0,none⟩=some (.int .i64 dn)∧Y.cell? ⟨w.heap.size,1,none⟩=some (.int .i64 af)∧Y.cell? ⟨w.heap.size,2,none⟩=some (.int .i64 la)∧Y.cell? ⟨w.heap.size,3,none⟩=some (.int .i64 v0)∧Y.cell? ⟨w.heap.size,4,none⟩=some (.int .i64 v1)∧Y.cell? ⟨w.heap.size,5,none⟩=some (.int .i64 v2)∧Y.cell? ⟨w.heap.size,6,none⟩=some (.int .i64 v3)∧Y.cell? ⟨w.heap.size,7,none⟩=some (.slice a0 0 c0)∧Y.cell? ⟨w.heap.size,8,none⟩=some (.slice a1 m c1)∧Y.cell? ⟨w.heap.size,9,none⟩=some (.slice a2 k c2)∧Y.cell? ⟨vb,0,none⟩=some (.int .i64 (g 0))∧Y.cell? ⟨vb,1,none⟩=some (.int .i64 (g 1))∧Y.cell? ⟨vb,2,none⟩=some (.int .i64 (g 2))∧Y.cell? ⟨vb,3,none⟩=some (.int .i64 (g 3)))=>(⟨f.cell' hS.1 id,f.cell' hS.2.1 id,f.cell' hS.2.2.1 id,f.cell' hS.2.2.2.1 id,f.cell' hS.2.2.2.2.1 id,f.cell' hS.2.2.2.2.2.1 id,f.cell' hS.2.2.2.2.2.2.1 id,f.cell' hS.2.2.2.2.2.2.2.1 id,f.cell' hS.2.2.2.2.2.2.2.2.1 id,f.cell' hS.2.2.2.2.2.2.2.2.2.1 id,f.cell' hS.2.2.2.2.2.2.2.2.2.2.1 id,f.cell' hS.2.2.2.2.2.2.2.2.2.2.2.1 id,f.cell' hS.2.2.2.2.2.2.2.2.2.2.2.2.1 id,f.cell' hS.2.2.2.2.2.2.2.2.2.2.2.2.2 id⟩:Y'.cell? ⟨w.heap.size,0,none⟩=some (.int .i64 dn)∧Y'.cell? ⟨w.heap.size,1,none⟩=some (.int .i64 af)∧Y'.cell? ⟨w.heap.size,2,none⟩=some (.int .i64 la)∧Y'.cell? ⟨w.heap.size,3,none⟩=some (.int .i64 v0)∧Y'.cell? ⟨w.heap.size,4,none⟩=some (.int .i64 v1)∧Y'.cell? ⟨w.heap.size,5,none⟩=some (.int .i64 v2)∧Y'.cell? ⟨w.heap.size,6,none⟩=some (.int .i64 v3)∧Y'.cell? ⟨w.heap.size,7,none⟩=some (.slice a0 0 c0)∧Y'.cell? ⟨w.heap.size,8,none⟩=some (.slice a1 m c1)∧Y'.cell? ⟨w.heap.size,9,none⟩=some (.slice a2 k c2)∧Y'.cell? ⟨vb,0,none⟩=some (.int .i64 (g 0))∧Y'.cell? ⟨vb,1,none⟩=some (.int .i64 (g 1))∧Y'.cell? ⟨vb,2,none⟩=some (.int .i64 (g 2))∧Y'.cell? ⟨vb,3,none⟩=some (.int .i64 (g 3))))
  have HF3:=ah (HF2.out.au (aj.drew ay Y2))
  have Dt:=ah (jG.out.rd.aO (aj.drew ay Y2))
  have KO:=ah (show q.length≤4*(c.length+1)from lY.out.IW jh.out lN.out)
  generalize Y2.drew=Z at*
  refine aS 0 35 rfl rfl (v:=?_) (.inl ⟨by rfl,?_⟩) ?_
  rotate_left 1
  ·(intro w hSw;(try dsimp only at hSw);go_simp;(try with_reducible rfl))
  refine aS 1 36 rfl rfl (v:=?_) (.inl ⟨by rfl,?_⟩) ?_
  rotate_left 1
  ·(intro w hSw;(try dsimp only at hSw);go_simp;(try with_reducible rfl))
  try simp only[Act.put,aI,aJ,aN]
  refine aS 2 37 rfl rfl (v:=?_) (.inl ⟨by rfl,?_⟩) ?_
  rotate_left 1
  ·(intro w hSw;(try dsimp only at hSw);go_simp;(try with_reducible rfl))
  refine aS 4 39 rfl rfl (v:=?_) (.inl ⟨by rfl,?_⟩) ?_
  rotate_left 1
  ·(intro w hSw;(try dsimp only at hSw);go_simp;(try with_reducible rfl))
  try simp only[Act.put,aI,aJ,aN]
  refine bM (i:=3) (by kernel_rfl) rfl (fun K hK=>?_)
  go_simp
  refine(qN.out _ HF3.out yP.out).mono ?_
  rintro e Z1 ⟨v1',d,rfl,jH,hof,hl4⟩;obtain⟨Ri,Rj,rfl⟩:=jH.shape;have hf4:=jH.aP
  have hS:=fO.out _ _ hf4 hS
  refine hK.out _ _ hS ?_
  clear hK K
  have iL:=ah (HF3.out.au hf4);have Du:=ah (Dt.out.aO hf4);have qI:=ah jH;have iW:=ah hof;have Dv:=ah hl4;clear jH hf4 hof hl4
  try simp only[Act.put,aI,aJ,aN]
  refine bM (i:=5) (by kernel_rfl) rfl (fun K hK=>?_)
  go_simp
  refine(HOW.out _ jJ.out).mono ?_
  rintro e Z2 ⟨v2',rfl,hc5,hf5⟩;obtain⟨Rk,Rl,rfl⟩:∃a c,v2'= .slice a 1 c:=Rd.sl hc5
  have hS:=fO.out _ _ hf5 hS
  refine hK.out _ _ hS ?_
  clear hK K
  have lQ:=ah (iL.out.au hf5);have Dw:=ah (Du.out.aO hf5);have HD5:=ah (qI.out.rd.aO hf5);have wK:=ah hc5;clear hc5 hf5
  try simp only[Act.put,aI,aJ,aN]
  refine bM (i:=6) (by kernel_rfl) rfl (fun K hK=>?_)
  go_simp
  refine(jo.out _ _ _ d _ HD5.out wK.out iW.out.right lN.out (by have:=Dv.out;omega) (by simp)).mono ?_
  rintro e Z3 ⟨rfl,eP⟩;rw[iC.out d iW.out]
  have hS:=fO.out _ _ eP hS
  refine hK.out _ _ hS ?_
  clear hK K
  have HF6:=ah (lQ.out.au eP);have Gg:=ah (Dw.out.aO eP);clear eP
  try simp only[Act.put,aI,aJ,aN]
  refine aS 7 42 rfl rfl (v:=?_) (.inl ⟨by rfl,?_⟩) ?_
  rotate_left 1
  ·(intro w hSw;(try dsimp only at hSw);go_simp;(try with_reducible rfl))
  refine dF 8 43 rfl rfl ?_
  try simp only[Act.put,aI,aJ,aN]
  refine dF 9 44 rfl rfl ?_
  refine dF 10 45 rfl rfl ?_
  try simp only[Act.put,aI,aJ,aN]
  refine dF 11 46 rfl rfl ?_
  refine dF 12 47 rfl rfl ?_
  try simp only[Act.put,aI,aJ,aN]
  refine dF 13 48 rfl rfl ?_
  refine aS 14 49 rfl rfl (v:=?_) (.inl ⟨by rfl,?_⟩) ?_
  rotate_left 1
  ·(intro w hSw;(try dsimp only at hSw);go_simp;(try with_reducible rfl))
  try simp only[Act.put,aI,aJ,aN]
  refine aS 15 50 rfl rfl (v:=?_) (.inl ⟨by rfl,?_⟩) ?_
  rotate_left 1
  ·(intro w hSw;(try dsimp only at hSw);go_simp;(try with_reducible rfl))
  refine dF 16 51 rfl rfl ?_
  try simp only[Act.put,aI,aJ,aN]
  refine dF 17 52 rfl rfl ?_
  refine dF 18 53 rfl rfl ?_
  try simp only[Act.put,aI,aJ,aN]
  refine dF 19 54 rfl rfl ?_
  refine aS 20 55 rfl rfl (v:=?_) (.inl ⟨by rfl,?_⟩) ?_
  rotate_left 1
  ·(intro w hSw;(try dsimp only at hSw);go_simp;(try with_reducible rfl))
  try simp only[Act.put,aI,aJ,aN]
  refine iQ (by kernel_rfl) (by kernel_rfl) rfl (fun K hK=>?_)
  go_simp
  refine hK.out _ _ ?_
  clear hK K hS
  go_wp2
  go_ret
  exact⟨rfl,HF6.out⟩
 |true=>
  cases b2 with
  |false=>
   go_enter Tryz.func24,Tryz.ntmps24
   go_wp2_with(first
    |(go_at_call 85;refine(jv.out _).mono ?_;rintro e w1 ⟨rfl,hw1⟩;obtain⟨y0,y1,y2,y3,y4,y5,y6,y7,y8,y9⟩:=aQ.out w1 hw1;have HW1:=ah hw1;clear hw1)
    |(go_at_call 86;refine(ig.out _ (aU.out.au HW1.out)).mono ?_;rintro e w2 ⟨rfl,hw2⟩;clear y0 y1 y2 y3 y4 y5 y6 y7 y8 y9;obtain⟨y0,y1,y2,y3,y4,y5,y6,y7,y8,y9⟩:=aQ.out w2 (HW1.out.au hw2);obtain⟨qY,hvf⟩:=KN.out w2;have hbl:w.heap.size<w2.heap.size:=World.block_lt_of_cell? _ _ y0;have HW2:=ah (HW1.out.au hw2);clear hw2))
   clear y0 y1 y2 y3 y4 y5 y6 y7 y8 y9 qY hvf hbl
   have hvs:=zN.out w2
   have ug:=ah (HW2.out.au hvs.2)
   obtain⟨y0,y1,y2,y3,y4,y5,y6,y7,y8,y9⟩:=aQ.out _ ug.out
   have wJ:=hvs.1 0 (by decide)
   have vs1:=hvs.1 1 (by decide)
   have vs2:=hvs.1 2 (by decide)
   have vs3:=hvs.1 3 (by decide)
   clear hvs HW2
   generalize w2.heap.size=vb at*
   generalize (w2.alloc (.cells (([.int .i64 v0, .int .i64 v1, .int .i64 v2, .int .i64 v3]:List Value).set dn (.int .i64 af)).toArray 25))=X0 at*
   refine iI (S:=fun w'=>w'.cell? ⟨w.heap.size,0,none⟩=some (.int .i64 dn)∧w'.cell? ⟨w.heap.size,1,none⟩=some (.int .i64 af)∧w'.cell? ⟨w.heap.size,2,none⟩=some (.int .i64 la)∧w'.cell? ⟨w.heap.size,3,none⟩=some (.int .i64 v0)∧w'.cell? ⟨w.heap.size,4,none⟩=some (.int .i64 v1)∧w'.cell? ⟨w.heap.size,5,none⟩=some (.int .i64 v2)∧w'.cell? ⟨w.heap.size,6,none⟩=some (.int .i64 v3)∧w'.cell? ⟨w.heap.size,7,none⟩=some (.slice a0 0 c0)∧w'.cell? ⟨w.heap.size,8,none⟩=some (.slice a1 m c1)∧w'.cell? ⟨w.heap.size,9,none⟩=some (.slice a2 k c2)∧w'.cell? ⟨vb,0,none⟩=some (.int .i64 (g 0))∧w'.cell? ⟨vb,1,none⟩=some (.int .i64 (g 1))∧w'.cell? ⟨vb,2,none⟩=some (.int .i64 (g 2))∧w'.cell? ⟨vb,3,none⟩=some (.int .i64 (g 3))) 6 (by kernel_rfl) ⟨y0,y1,y2,y3,y4,y5,y6,y7,y8,y9,wJ,vs1,vs2,vs3⟩ ?_
   intro hS
   have fO:=ah (fun Y Y' (f:aj ay Y Y') (hS:Y.cell? ⟨w.heap.size,0,none⟩=some (.int .i64 dn)∧Y.cell? ⟨w.heap.size,1,none⟩=some (.int .i64 af)∧Y.cell? ⟨w.heap.size,2,none⟩=some (.int .i64 la)∧Y.cell? ⟨w.heap.size,3,none⟩=some (.int .i64 v0)∧Y.cell? ⟨w.heap.size,4,none⟩=some (.int .i64 v1)∧Y.cell? ⟨w.heap.size,5,none⟩=some (.int .i64 v2)∧Y.cell? ⟨w.heap.size,6,none⟩=some (.int .i64 v3)∧Y.cell? ⟨w.heap.size,7,none⟩=some (.slice a0 0 c0)∧Y.cell? ⟨w.heap.size,8,none⟩=some (.slice a1 m c1)∧Y.cell? ⟨w.heap.size,9,none⟩=some (.slice a2 k c2)∧Y.cell? ⟨vb,0,none⟩=some (.int .i64 (g 0))∧Y.cell? ⟨vb,1,none⟩=some (.int .i64 (g 1))∧Y.cell? ⟨vb,2,none⟩=some (.int .i64 (g 2))∧Y.cell? ⟨vb,3,none⟩=some (.int .i64 (g 3)))=>(⟨f.cell' hS.1 id,f.cell' hS.2.1 id,f.cell' hS.2.2.1 id,f.cell' hS.2.2.2.1 id,f.cell' hS.2.2.2.2.1 id,f.cell' hS.2.2.2.2.2.1 id,f.cell' hS.2.2.2.2.2.2.1 id,f.cell' hS.2.2.2.2.2.2.2.1 id,f.cell' hS.2.2.2.2.2.2.2.2.1 id,f.cell' hS.2.2.2.2.2.2.2.2.2.1 id,f.cell' hS.2.2.2.2.2.2.2.2.2.2.1 id,f.cell' hS.2.2.2.2.2.2.2.2.2.2.2.1 id,f.cell' hS.2.2.2.2.2.2.2.2.2.2.2.2.1 id,f.cell' hS.2.2.2.2.2.2.2.2.2.2.2.2.2 id⟩:Y'.cell? ⟨w.heap.size,0,none⟩=some (.int .i64 dn)∧Y'.cell? ⟨w.heap.size,1,none⟩=some (.int .i64 af)∧Y'.cell? ⟨w.heap.size,2,none⟩=some (.int .i64 la)∧Y'.cell? ⟨w.heap.size,3,none⟩=some (.int .i64 v0)∧Y'.cell? ⟨w.heap.size,4,none⟩=some (.int .i64 v1)∧Y'.cell? ⟨w.heap.size,5,none⟩=some (.int .i64 v2)∧Y'.cell? ⟨w.heap.size,6,none⟩=some (.int .i64 v3)∧Y'.cell? ⟨w.heap.size,7,none⟩=some (.slice a0 0 c0)∧Y'.cell? ⟨w.heap.size,8,none⟩=some (.slice a1 m c1)∧Y'.cell? ⟨w.heap.size,9,none⟩=some (.slice a2 k c2)∧Y'.cell? ⟨vb,0,none⟩=some (.int .i64 (g 0))∧Y'.cell? ⟨vb,1,none⟩=some (.int .i64 (g 1))∧Y'.cell? ⟨vb,2,none⟩=some (.int .i64 (g 2))∧Y'.cell? ⟨vb,3,none⟩=some (.int .i64 (g 3))))
   have gy:=ah ((aU.out.au ug.out).au (aj.drew ay X0))
   clear y0 y1 y2 y3 y4 y5 y6 y7 y8 y9 wJ vs1 vs2 vs3 ug
   generalize X0.drew=Y at*
   refine aS 0 29 rfl rfl (v:=?_) (.inl ⟨by rfl,?_⟩) ?_
   rotate_left 1
   ·(intro w hSw;(try dsimp only at hSw);go_simp;(try with_reducible rfl))
   refine aS 1 30 rfl rfl (v:=?_) (.inl ⟨by rfl,?_⟩) ?_
   rotate_left 1
   ·(intro w hSw;(try dsimp only at hSw);go_simp;(try with_reducible rfl))
   try simp only[Act.put,aI,aJ,aN]
   refine aS 2 31 rfl rfl (v:=?_) (.inl ⟨by rfl,?_⟩) ?_
   rotate_left 1
   ·(intro w hSw;(try dsimp only at hSw);go_simp;(try with_reducible rfl))
   refine aS 3 32 rfl rfl (v:=?_) (.inl ⟨by rfl,?_⟩) ?_
   rotate_left 1
   ·(intro w hSw;(try dsimp only at hSw);go_simp;(try with_reducible rfl))
   try simp only[Act.put,aI,aJ,aN]
   refine bM (i:=4) (by kernel_rfl) rfl (fun K hK=>?_)
   go_simp
   refine(HOW.out _ jJ.out).mono ?_
   rintro e Y1 ⟨v1',rfl,hc1,hf1⟩;obtain⟨Ce,Ci,rfl⟩:∃a c,v1'= .slice a 1 c:=Rd.sl hc1
   have hS:=fO.out _ _ hf1 hS
   refine hK.out _ _ hS ?_
   clear hK K
   have bH:=ah (gy.out.au hf1);have cO:=ah hc1;clear hc1 hf1
   try simp only[Act.put,aI,aJ,aN]
   refine bM (i:=5) (by kernel_rfl) rfl (fun K hK=>?_)
   go_simp
   refine(HB0.out _ _ _ c _ (oH.out _ bH.out) cO.out jh.out lN.out (by have:=nR.out;have:=uU.out;omega) (by simp)).mono ?_
   rintro e Y2 ⟨v2',q,rfl,ho2,hby,-⟩;obtain⟨Rf,Rh,rfl⟩:=ho2.shape;have hf2:=ho2.aP
   have hS:=fO.out _ _ hf2 hS
   refine hK.out _ _ hS ?_
   clear hK K
   have HF2:=ah (bH.out.au hf2);have jG:=ah ho2;have lY:=ah hby;clear ho2 hf2 hby
   try simp only[Act.put,aI,aJ,aN]
   refine iQ (by kernel_rfl) (by kernel_rfl) rfl (fun K hK=>?_)
   go_simp
   refine hK.out _ _ ?_
   clear hK K
   go_wp2_with fail
   refine iI (S:=fun w'=>w'.cell? ⟨w.heap.size,0,none⟩=some (.int .i64 dn)∧w'.cell? ⟨w.heap.size,1,none⟩=some (.int .i64 af)∧w'.cell? ⟨w.heap.size,2,none⟩=some (.int .i64 la)∧w'.cell? ⟨w.heap.size,3,none⟩=some (.int .i64 v0)∧w'.cell? ⟨w.heap.size,4,none⟩=some (.int .i64 v1)∧w'.cell? ⟨w.heap.size,5,none⟩=some (.int .i64 v2)∧w'.cell? ⟨w.heap.size,6,none⟩=some (.int .i64 v3)∧w'.cell? ⟨w.heap.size,7,none⟩=some (.slice a0 0 c0)∧w'.cell? ⟨w.heap.size,8,none⟩=some (.slice a1 m c1)∧w'.cell? ⟨w.heap.size,9,none⟩=some (.slice a2 k c2)∧w'.cell? ⟨vb,0,none⟩=some (.int .i64 (g 0))∧w'.cell? ⟨vb,1,none⟩=some (.int .i64 (g 1))∧w'.cell? ⟨vb,2,none⟩=some (.int .i64 (g 2))∧w'.cell? ⟨vb,3,none⟩=some (.int .i64 (g 3))) 21 (by kernel_rfl) ⟨(aj.drew ay Y2).cell' hS.1 id,(aj.drew ay Y2).cell' hS.2.1 id,(aj.drew ay Y2).cell' hS.2.2.1 id,(aj.drew ay Y2).cell' hS.2.2.2.1 id,(aj.drew ay Y2).cell' hS.2.2.2.2.1 id,(aj.drew ay Y2).cell' hS.2.2.2.2.2.1 id,(aj.drew ay Y2).cell' hS.2.2.2.2.2.2.1 id,(aj.drew ay Y2).cell' hS.2.2.2.2.2.2.2.1 id,(aj.drew ay Y2).cell' hS.2.2.2.2.2.2.2.2.1 id,(aj.drew ay Y2).cell' hS.2.2.2.2.2.2.2.2.2.1 id,(aj.drew ay Y2).cell' hS.2.2.2.2.2.2.2.2.2.2.1 id,(aj.drew ay Y2).cell' hS.2.2.2.2.2.2.2.2.2.2.2.1 id,(aj.drew ay Y2).cell' hS.2.2.2.2.2.2.2.2.2.2.2.2.1 id,(aj.drew ay Y2).cell' hS.2.2.2.2.2.2.2.2.2.2.2.2.2 id⟩ ?_
   clear hS
   intro hS
   have fO:=ah (fun Y Y' (f:aj ay Y Y') (hS:Y.cell? ⟨w.heap.size,0,none⟩=some (.int .i64 dn)∧Y.cell? ⟨w.heap.size,1,none⟩=some (.int .i64 af)∧Y.cell? ⟨w.heap.size,2,none⟩=some (.int .i64 la)∧Y.cell? ⟨w.heap.size,3,none⟩=some (.int .i64 v0)∧Y.cell? ⟨w.heap.size,4,none⟩=some (.int .i64 v1)∧Y.cell? ⟨w.heap.size,5,none⟩=some (.int .i64 v2)∧Y.cell? ⟨w.heap.size,6,none⟩=some (.int .i64 v3)∧Y.cell? ⟨w.heap.size,7,none⟩=some (.slice a0 0 c0)∧Y.cell? ⟨w.heap.size,8,none⟩=some (.slice a1 m c1)∧Y.cell? ⟨w.heap.size,9,none⟩=some (.slice a2 k c2)∧Y.cell? ⟨vb,0,none⟩=some (.int .i64 (g 0))∧Y.cell? ⟨vb,1,none⟩=some (.int .i64 (g 1))∧Y.cell? ⟨vb,2,none⟩=some (.int .i64 (g 2))∧Y.cell? ⟨vb,3,none⟩=some (.int .i64 (g 3)))=>(⟨f.cell' hS.1 id,f.cell' hS.2.1 id,f.cell' hS.2.2.1 id,f.cell' hS.2.2.2.1 id,f.cell' hS.2.2.2.2.1 id,f.cell' hS.2.2.2.2.2.1 id,f.cell' hS.2.2.2.2.2.2.1 id,f.cell' hS.2.2.2.2.2.2.2.1 id,f.cell' hS.2.2.2.2.2.2.2.2.1 id,f.cell' hS.2.2.2.2.2.2.2.2.2.1 id,f.cell' hS.2.2.2.2.2.2.2.2.2.2.1 id,f.cell' hS.2.2.2.2.2.2.2.2.2.2.2.1 id,f.cell' hS.2.2.2.2.2.2.2.2.2.2.2.2.1 id,f.cell' hS.2.2.2.2.2.2.2.2.2.2.2.2.2 id⟩:Y'.cell? ⟨w.heap.size,0,none⟩=some (.int .i64 dn)∧Y'.cell? ⟨w.heap.size,1,none⟩=some (.int .i64 af)∧Y'.cell? ⟨w.heap.size,2,none⟩=some (.int .i64 la)∧Y'.cell? ⟨w.heap.size,3,none⟩=some (.int .i64 v0)∧Y'.cell? ⟨w.heap.size,4,none⟩=some (.int .i64 v1)∧Y'.cell? ⟨w.heap.size,5,none⟩=some (.int .i64 v2)∧Y'.cell? ⟨w.heap.size,6,none⟩=some (.int .i64 v3)∧Y'.cell? ⟨w.heap.size,7,none⟩=some (.slice a0 0 c0)∧Y'.cell? ⟨w.heap.size,8,none⟩=some (.slice a1 m c1)∧Y'.cell? ⟨w.heap.size,9,none⟩=some (.slice a2 k c2)∧Y'.cell? ⟨vb,0,none⟩=some (.int .i64 (g 0))∧Y'.cell? ⟨vb,1,none⟩=some (.int .i64 (g 1))∧Y'.cell? ⟨vb,2,none⟩=some (.int .i64 (g 2))∧Y'.cell? ⟨vb,3,none⟩=some (.int .i64 (g 3))))
   have HF3:=ah (HF2.out.au (aj.drew ay Y2))
   have Dt:=ah (jG.out.rd.aO (aj.drew ay Y2))
   have KO:=ah (show q.length≤4*(c.length+1)from lY.out.IW jh.out lN.out)
   generalize Y2.drew=Z at*
   refine aS 0 35 rfl rfl (v:=?_) (.inl ⟨by rfl,?_⟩) ?_
   rotate_left 1
   ·(intro w hSw;(try dsimp only at hSw);go_simp;(try with_reducible rfl))
   refine aS 1 36 rfl rfl (v:=?_) (.inl ⟨by rfl,?_⟩) ?_
   rotate_left 1
   ·(intro w hSw;(try dsimp only at hSw);go_simp;(try with_reducible rfl))
   try simp only[Act.put,aI,aJ,aN]
   refine aS 2 37 rfl rfl (v:=?_) (.inl ⟨by rfl,?_⟩) ?_
   rotate_left 1
   ·(intro w hSw;(try dsimp only at hSw);go_simp;(try with_reducible rfl))
   refine aS 4 39 rfl rfl (v:=?_) (.inl ⟨by rfl,?_⟩) ?_
   rotate_left 1
   ·(intro w hSw;(try dsimp only at hSw);go_simp;(try with_reducible rfl))
   try simp only[Act.put,aI,aJ,aN]
   refine bM (i:=3) (by kernel_rfl) rfl (fun K hK=>?_)
   go_simp
   refine(qN.out _ HF3.out yP.out).mono ?_
   rintro e Z1 ⟨v1',d,rfl,jH,hof,hl4⟩;obtain⟨Ri,Rj,rfl⟩:=jH.shape;have hf4:=jH.aP
   have hS:=fO.out _ _ hf4 hS
   refine hK.out _ _ hS ?_
   clear hK K
   have iL:=ah (HF3.out.au hf4);have Du:=ah (Dt.out.aO hf4);have qI:=ah jH;have iW:=ah hof;have Dv:=ah hl4;clear jH hf4 hof hl4
   try simp only[Act.put,aI,aJ,aN]
   refine bM (i:=5) (by kernel_rfl) rfl (fun K hK=>?_)
   go_simp
   refine(HOW.out _ jJ.out).mono ?_
   rintro e Z2 ⟨v2',rfl,hc5,hf5⟩;obtain⟨Rk,Rl,rfl⟩:∃a c,v2'= .slice a 1 c:=Rd.sl hc5
   have hS:=fO.out _ _ hf5 hS
   refine hK.out _ _ hS ?_
   clear hK K
   have lQ:=ah (iL.out.au hf5);have Dw:=ah (Du.out.aO hf5);have HD5:=ah (qI.out.rd.aO hf5);have wK:=ah hc5;clear hc5 hf5
   try simp only[Act.put,aI,aJ,aN]
   refine bM (i:=6) (by kernel_rfl) rfl (fun K hK=>?_)
   go_simp
   refine(jo.out _ _ _ d _ HD5.out wK.out iW.out.right lN.out (by have:=Dv.out;omega) (by simp)).mono ?_
   rintro e Z3 ⟨rfl,eP⟩;rw[iC.out d iW.out]
   have hS:=fO.out _ _ eP hS
   refine hK.out _ _ hS ?_
   clear hK K
   have HF6:=ah (lQ.out.au eP);have Gg:=ah (Dw.out.aO eP);clear eP
   try simp only[Act.put,aI,aJ,aN]
   refine aS 7 42 rfl rfl (v:=?_) (.inl ⟨by rfl,?_⟩) ?_
   rotate_left 1
   ·(intro w hSw;(try dsimp only at hSw);go_simp;(try with_reducible rfl))
   refine aS 8 43 rfl rfl (v:=?_) (.inl ⟨by rfl,?_⟩) ?_
   rotate_left 1
   ·(intro w hSw;(try dsimp only at hSw);go_simp;(try with_reducible rfl))
   try simp only[Act.put,aI,aJ,aN]
   refine aS 10 45 rfl rfl (v:=?_) (.inl ⟨by rfl,?_⟩) ?_
   rotate_left 1
   ·(intro w hSw;(try dsimp only at hSw);go_simp;(try with_reducible rfl))
   refine aS 11 46 rfl rfl (v:=?_) (.inl ⟨by rfl,?_⟩) ?_
   rotate_left 1
   ·(intro w hSw;(try dsimp only at hSw);go_simp;(try with_reducible rfl))
   try simp only[Act.put,aI,aJ,aN]
   refine aS 12 47 rfl rfl (v:=?_) (.inl ⟨by rfl,?_⟩) ?_
   rotate_left 1
   ·(intro w hSw;(try dsimp only at hSw);go_simp;(try with_reducible rfl))
   try simp only[Act.put,aI,aJ,aN]
   refine bM (i:=9) (by kernel_rfl) rfl (fun K hK=>?_)
   go_simp
   refine(HOW.out _ jJ.out).mono ?_
   rintro e Z4 ⟨v4',rfl,lC,kH⟩;obtain⟨ZT,ZU,rfl⟩:∃a c,v4'= .slice a 1 c:=Rd.sl lC
   have hS:=fO.out _ _ kH hS
   refine hK.out _ _ hS ?_
   clear hK K
   have Dx:=ah (HF6.out.au kH);have KP:=ah (Gg.out.aO kH);have yY:=ah lC;clear lC kH
   try simp only[Act.put,aI,aJ,aN]
   refine bM (i:=13) (by kernel_rfl) rfl (fun K hK=>?_)
   go_simp
   refine(jo.out _ _ _ _ c yY.out (oH.out _ Dx.out) lN.out jh.out (by simp) (by have:=nR.out;have:=uU.out;omega)).mono ?_
   rintro e Z5 ⟨rfl,dS⟩;rw[HP2.out]
   have hS:=fO.out _ _ dS hS
   refine hK.out _ _ hS ?_
   clear hK K
   have KQ:=ah (Dx.out.au dS);have Rn:=ah (KP.out.aO dS);clear dS
   try simp only[Act.put,aI,aJ,aN]
   refine aS 14 49 rfl rfl (v:=?_) (.inl ⟨by rfl,?_⟩) ?_
   rotate_left 1
   ·(intro w hSw;(try dsimp only at hSw);go_simp;(try with_reducible rfl))
   refine aS 15 50 rfl rfl (v:=?_) (.inl ⟨by rfl,?_⟩) ?_
   rotate_left 1
   ·(intro w hSw;(try dsimp only at hSw);go_simp;(try with_reducible rfl))
   try simp only[Act.put,aI,aJ,aN]
   refine dF 16 51 rfl rfl ?_
   refine dF 17 52 rfl rfl ?_
   try simp only[Act.put,aI,aJ,aN]
   refine dF 18 53 rfl rfl ?_
   refine dF 19 54 rfl rfl ?_
   try simp only[Act.put,aI,aJ,aN]
   refine aS 20 55 rfl rfl (v:=?_) (.inl ⟨by rfl,?_⟩) ?_
   rotate_left 1
   ·(intro w hSw;(try dsimp only at hSw);go_simp;(try with_reducible rfl))
   try simp only[Act.put,aI,aJ,aN]
   refine iQ (by kernel_rfl) (by kernel_rfl) rfl (fun K hK=>?_)
   go_simp
   refine hK.out _ _ ?_
   clear hK K hS
   go_wp2
   go_ret
   exact⟨rfl,KQ.out⟩
  |true=>
   go_enter Tryz.func24,Tryz.ntmps24
   go_wp2_with(first
    |(go_at_call 85;refine(jv.out _).mono ?_;rintro e w1 ⟨rfl,hw1⟩;obtain⟨y0,y1,y2,y3,y4,y5,y6,y7,y8,y9⟩:=aQ.out w1 hw1;have HW1:=ah hw1;clear hw1)
    |(go_at_call 86;refine(ig.out _ (aU.out.au HW1.out)).mono ?_;rintro e w2 ⟨rfl,hw2⟩;clear y0 y1 y2 y3 y4 y5 y6 y7 y8 y9;obtain⟨y0,y1,y2,y3,y4,y5,y6,y7,y8,y9⟩:=aQ.out w2 (HW1.out.au hw2);obtain⟨qY,hvf⟩:=KN.out w2;have hbl:w.heap.size<w2.heap.size:=World.block_lt_of_cell? _ _ y0;have HW2:=ah (HW1.out.au hw2);clear hw2))
   clear y0 y1 y2 y3 y4 y5 y6 y7 y8 y9 qY hvf hbl
   have hvs:=zN.out w2
   have ug:=ah (HW2.out.au hvs.2)
   obtain⟨y0,y1,y2,y3,y4,y5,y6,y7,y8,y9⟩:=aQ.out _ ug.out
   have wJ:=hvs.1 0 (by decide)
   have vs1:=hvs.1 1 (by decide)
   have vs2:=hvs.1 2 (by decide)
   have vs3:=hvs.1 3 (by decide)
   clear hvs HW2
   generalize w2.heap.size=vb at*
   generalize (w2.alloc (.cells (([.int .i64 v0, .int .i64 v1, .int .i64 v2, .int .i64 v3]:List Value).set dn (.int .i64 af)).toArray 25))=X0 at*
   refine iI (S:=fun w'=>w'.cell? ⟨w.heap.size,0,none⟩=some (.int .i64 dn)∧w'.cell? ⟨w.heap.size,1,none⟩=some (.int .i64 af)∧w'.cell? ⟨w.heap.size,2,none⟩=some (.int .i64 la)∧w'.cell? ⟨w.heap.size,3,none⟩=some (.int .i64 v0)∧w'.cell? ⟨w.heap.size,4,none⟩=some (.int .i64 v1)∧w'.cell? ⟨w.heap.size,5,none⟩=some (.int .i64 v2)∧w'.cell? ⟨w.heap.size,6,none⟩=some (.int .i64 v3)∧w'.cell? ⟨w.heap.size,7,none⟩=some (.slice a0 0 c0)∧w'.cell? ⟨w.heap.size,8,none⟩=some (.slice a1 m c1)∧w'.cell? ⟨w.heap.size,9,none⟩=some (.slice a2 k c2)∧w'.cell? ⟨vb,0,none⟩=some (.int .i64 (g 0))∧w'.cell? ⟨vb,1,none⟩=some (.int .i64 (g 1))∧w'.cell? ⟨vb,2,none⟩=some (.int .i64 (g 2))∧w'.cell? ⟨vb,3,none⟩=some (.int .i64 (g 3))) 6 (by kernel_rfl) ⟨y0,y1,y2,y3,y4,y5,y6,y7,y8,y9,wJ,vs1,vs2,vs3⟩ ?_
   intro hS
   have fO:=ah (fun Y Y' (f:aj ay Y Y') (hS:Y.cell? ⟨w.heap.size,0,none⟩=some (.int .i64 dn)∧Y.cell? ⟨w.heap.size,1,none⟩=some (.int .i64 af)∧Y.cell? ⟨w.heap.size,2,none⟩=some (.int .i64 la)∧Y.cell? ⟨w.heap.size,3,none⟩=some (.int .i64 v0)∧Y.cell? ⟨w.heap.size,4,none⟩=some (.int .i64 v1)∧Y.cell? ⟨w.heap.size,5,none⟩=some (.int .i64 v2)∧Y.cell? ⟨w.heap.size,6,none⟩=some (.int .i64 v3)∧Y.cell? ⟨w.heap.size,7,none⟩=some (.slice a0 0 c0)∧Y.cell? ⟨w.heap.size,8,none⟩=some (.slice a1 m c1)∧Y.cell? ⟨w.heap.size,9,none⟩=some (.slice a2 k c2)∧Y.cell? ⟨vb,0,none⟩=some (.int .i64 (g 0))∧Y.cell? ⟨vb,1,none⟩=some (.int .i64 (g 1))∧Y.cell? ⟨vb,2,none⟩=some (.int .i64 (g 2))∧Y.cell? ⟨vb,3,none⟩=some (.int .i64 (g 3)))=>(⟨f.cell' hS.1 id,f.cell' hS.2.1 id,f.cell' hS.2.2.1 id,f.cell' hS.2.2.2.1 id,f.cell' hS.2.2.2.2.1 id,f.cell' hS.2.2.2.2.2.1 id,f.cell' hS.2.2.2.2.2.2.1 id,f.cell' hS.2.2.2.2.2.2.2.1 id,f.cell' hS.2.2.2.2.2.2.2.2.1 id,f.cell' hS.2.2.2.2.2.2.2.2.2.1 id,f.cell' hS.2.2.2.2.2.2.2.2.2.2.1 id,f.cell' hS.2.2.2.2.2.2.2.2.2.2.2.1 id,f.cell' hS.2.2.2.2.2.2.2.2.2.2.2.2.1 id,f.cell' hS.2.2.2.2.2.2.2.2.2.2.2.2.2 id⟩:Y'.cell? ⟨w.heap.size,0,none⟩=some (.int .i64 dn)∧Y'.cell? ⟨w.heap.size,1,none⟩=some (.int .i64 af)∧Y'.cell? ⟨w.heap.size,2,none⟩=some (.int .i64 la)∧Y'.cell? ⟨w.heap.size,3,none⟩=some (.int .i64 v0)∧Y'.cell? ⟨w.heap.size,4,none⟩=some (.int .i64 v1)∧Y'.cell? ⟨w.heap.size,5,none⟩=some (.int .i64 v2)∧Y'.cell? ⟨w.heap.size,6,none⟩=some (.int .i64 v3)∧Y'.cell? ⟨w.heap.size,7,none⟩=some (.slice a0 0 c0)∧Y'.cell? ⟨w.heap.size,8,none⟩=some (.slice a1 m c1)∧Y'.cell? ⟨w.heap.size,9,none⟩=some (.slice a2 k c2)∧Y'.cell? ⟨vb,0,none⟩=some (.int .i64 (g 0))∧Y'.cell? ⟨vb,1,none⟩=some (.int .i64 (g 1))∧Y'.cell? ⟨vb,2,none⟩=some (.int .i64 (g 2))∧Y'.cell? ⟨vb,3,none⟩=some (.int .i64 (g 3))))
   have gy:=ah ((aU.out.au ug.out).au (aj.drew ay X0))
   clear y0 y1 y2 y3 y4 y5 y6 y7 y8 y9 wJ vs1 vs2 vs3 ug
   generalize X0.drew=Y at*
   refine aS 0 29 rfl rfl (v:=?_) (.inl ⟨by rfl,?_⟩) ?_
   rotate_left 1
   ·(intro w hSw;(try dsimp only at hSw);go_simp;(try with_reducible rfl))
   refine aS 1 30 rfl rfl (v:=?_) (.inl ⟨by rfl,?_⟩) ?_
   rotate_left 1
   ·(intro w hSw;(try dsimp only at hSw);go_simp;(try with_reducible rfl))
   try simp only[Act.put,aI,aJ,aN]
   refine aS 2 31 rfl rfl (v:=?_) (.inl ⟨by rfl,?_⟩) ?_
   rotate_left 1
   ·(intro w hSw;(try dsimp only at hSw);go_simp;(try with_reducible rfl))
   refine aS 3 32 rfl rfl (v:=?_) (.inl ⟨by rfl,?_⟩) ?_
   rotate_left 1
   ·(intro w hSw;(try dsimp only at hSw);go_simp;(try with_reducible rfl))
   try simp only[Act.put,aI,aJ,aN]
   refine bM (i:=4) (by kernel_rfl) rfl (fun K hK=>?_)
   go_simp
   refine(HOW.out _ jJ.out).mono ?_
   rintro e Y1 ⟨v1',rfl,hc1,hf1⟩;obtain⟨Ce,Ci,rfl⟩:∃a c,v1'= .slice a 1 c:=Rd.sl hc1
   have hS:=fO.out _ _ hf1 hS
   refine hK.out _ _ hS ?_
   clear hK K
   have bH:=ah (gy.out.au hf1);have cO:=ah hc1;clear hc1 hf1
   try simp only[Act.put,aI,aJ,aN]
   refine bM (i:=5) (by kernel_rfl) rfl (fun K hK=>?_)
   go_simp
   refine(HB0.out _ _ _ c _ (oH.out _ bH.out) cO.out jh.out lN.out (by have:=nR.out;have:=uU.out;omega) (by simp)).mono ?_
   rintro e Y2 ⟨v2',q,rfl,ho2,hby,-⟩;obtain⟨Rf,Rh,rfl⟩:=ho2.shape;have hf2:=ho2.aP
   have hS:=fO.out _ _ hf2 hS
   refine hK.out _ _ hS ?_
   clear hK K
   have HF2:=ah (bH.out.au hf2);have jG:=ah ho2;have lY:=ah hby;clear ho2 hf2 hby
   try simp only[Act.put,aI,aJ,aN]
   refine iQ (by kernel_rfl) (by kernel_rfl) rfl (fun K hK=>?_)
   go_simp
   refine hK.out _ _ ?_
   clear hK K
   go_wp2_with fail
   refine iI (S:=fun w'=>w'.cell? ⟨w.heap.size,0,none⟩=some (.int .i64 dn)∧w'.cell? ⟨w.heap.size,1,none⟩=some (.int .i64 af)∧w'.cell? ⟨w.heap.size,2,none⟩=some (.int .i64 la)∧w'.cell? ⟨w.heap.size,3,none⟩=some (.int .i64 v0)∧w'.cell? ⟨w.heap.size,4,none⟩=some (.int .i64 v1)∧w'.cell? ⟨w.heap.size,5,none⟩=some (.int .i64 v2)∧w'.cell? ⟨w.heap.size,6,none⟩=some (.int .i64 v3)∧w'.cell? ⟨w.heap.size,7,none⟩=some (.slice a0 0 c0)∧w'.cell? ⟨w.heap.size,8,none⟩=some (.slice a1 m c1)∧w'.cell? ⟨w.heap.size,9,none⟩=some (.slice a2 k c2)∧w'.cell? ⟨vb,0,none⟩=some (.int .i64 (g 0))∧w'.cell? ⟨vb,1,none⟩=some (.int .i64 (g 1))∧w'.cell? ⟨vb,2,none⟩=some (.int .i64 (g 2))∧w'.cell? ⟨vb,3,none⟩=some (.int .i64 (g 3))) 21 (by kernel_rfl) ⟨(aj.drew ay Y2).cell' hS.1 id,(aj.drew ay Y2).cell' hS.2.1 id,(aj.drew ay Y2).cell' hS.2.2.1 id,(aj.drew ay Y2).cell' hS.2.2.2.1 id,(aj.drew ay Y2).cell' hS.2.2.2.2.1 id,(aj.drew ay Y2).cell' hS.2.2.2.2.2.1 id,(aj.drew ay Y2).cell' hS.2.2.2.2.2.2.1 id,(aj.drew ay Y2).cell' hS.2.2.2.2.2.2.2.1 id,(aj.drew ay Y2).cell' hS.2.2.2.2.2.2.2.2.1 id,(aj.drew ay Y2).cell' hS.2.2.2.2.2.2.2.2.2.1 id,(aj.drew ay Y2).cell' hS.2.2.2.2.2.2.2.2.2.2.1 id,(aj.drew ay Y2).cell' hS.2.2.2.2.2.2.2.2.2.2.2.1 id,(aj.drew ay Y2).cell' hS.2.2.2.2.2.2.2.2.2.2.2.2.1 id,(aj.drew ay Y2).cell' hS.2.2.2.2.2.2.2.2.2.2.2.2.2 id⟩ ?_
   clear hS
   intro hS
   have fO:=ah (fun Y Y' (f:aj ay Y Y') (hS:Y.cell? ⟨w.heap.size,0,none⟩=some (.int .i64 dn)∧Y.cell? ⟨w.heap.size,1,none⟩=some (.int .i64 af)∧Y.cell? ⟨w.heap.size,2,none⟩=some (.int .i64 la)∧Y.cell? ⟨w.heap.size,3,none⟩=some (.int .i64 v0)∧Y.cell? ⟨w.heap.size,4,none⟩=some (.int .i64 v1)∧Y.cell? ⟨w.heap.size,5,none⟩=some (.int .i64 v2)∧Y.cell? ⟨w.heap.size,6,none⟩=some (.int .i64 v3)∧Y.cell? ⟨w.heap.size,7,none⟩=some (.slice a0 0 c0)∧Y.cell? ⟨w.heap.size,8,none⟩=some (.slice a1 m c1)∧Y.cell? ⟨w.heap.size,9,none⟩=some (.slice a2 k c2)∧Y.cell? ⟨vb,0,none⟩=some (.int .i64 (g 0))∧Y.cell? ⟨vb,1,none⟩=some (.int .i64 (g 1))∧Y.cell? ⟨vb,2,none⟩=some (.int .i64 (g 2))∧Y.cell? ⟨vb,3,none⟩=some (.int .i64 (g 3)))=>(⟨f.cell' hS.1 id,f.cell' hS.2.1 id,f.cell' hS.2.2.1 id,f.cell' hS.2.2.2.1 id,f.cell' hS.2.2.2.2.1 id,f.cell' hS.2.2.2.2.2.1 id,f.cell' hS.2.2.2.2.2.2.1 id,f.cell' hS.2.2.2.2.2.2.2.1 id,f.cell' hS.2.2.2.2.2.2.2.2.1 id,f.cell' hS.2.2.2.2.2.2.2.2.2.1 id,f.cell' hS.2.2.2.2.2.2.2.2.2.2.1 id,f.cell' hS.2.2.2.2.2.2.2.2.2.2.2.1 id,f.cell' hS.2.2.2.2.2.2.2.2.2.2.2.2.1 id,f.cell' hS.2.2.2.2.2.2.2.2.2.2.2.2.2 id⟩:Y'.cell? ⟨w.heap.size,0,none⟩=some (.int .i64 dn)∧Y'.cell? ⟨w.heap.size,1,none⟩=some (.int .i64 af)∧Y'.cell? ⟨w.heap.size,2,none⟩=some (.int .i64 la)∧Y'.cell? ⟨w.heap.size,3,none⟩=some (.int .i64 v0)∧Y'.cell? ⟨w.heap.size,4,none⟩=some (.int .i64 v1)∧Y'.cell? ⟨w.heap.size,5,none⟩=some (.int .i64 v2)∧Y'.cell? ⟨w.heap.size,6,none⟩=some (.int .i64 v3)∧Y'.cell? ⟨w.heap.size,7,none⟩=some (.slice a0 0 c0)∧Y'.cell? ⟨w.heap.size,8,none⟩=some (.slice a1 m c1)∧Y'.cell? ⟨w.heap.size,9,none⟩=some (.slice a2 k c2)∧Y'.cell? ⟨vb,0,none⟩=some (.int .i64 (g 0))∧Y'.cell? ⟨vb,1,none⟩=some (.int .i64 (g 1))∧Y'.cell? ⟨vb,2,none⟩=some (.int .i64 (g 2))∧Y'.cell? ⟨vb,3,none⟩=some (.int .i64 (g 3))))
   have HF3:=ah (HF2.out.au (aj.drew ay Y2))
   have Dt:=ah (jG.out.rd.aO (aj.drew ay Y2))
   have KO:=ah (show q.length≤4*(c.length+1)from lY.out.IW jh.out lN.out)
   generalize Y2.drew=Z at*
   refine aS 0 35 rfl rfl (v:=?_) (.inl ⟨by rfl,?_⟩) ?_
   rotate_left 1
   ·(intro w hSw;(try dsimp only at hSw);go_simp;(try with_reducible rfl))
   refine aS 1 36 rfl rfl (v:=?_) (.inl ⟨by rfl,?_⟩) ?_
   rotate_left 1
   ·(intro w hSw;(try dsimp only at hSw);go_simp;(try with_reducible rfl))
   try simp only[Act.put,aI,aJ,aN]
   refine aS 2 37 rfl rfl (v:=?_) (.inl ⟨by rfl,?_⟩) ?_
   rotate_left 1
   ·(intro w hSw;(try dsimp only at hSw);go_simp;(try with_reducible rfl))
   refine aS 4 39 rfl rfl (v:=?_) (.inl ⟨by rfl,?_⟩) ?_
   rotate_left 1
   ·(intro w hSw;(try dsimp only at hSw);go_simp;(try with_reducible rfl))
   try simp only[Act.put,aI,aJ,aN]
   refine bM (i:=3) (by kernel_rfl) rfl (fun K hK=>?_)
   go_simp
   refine(qN.out _ HF3.out yP.out).mono ?_
   rintro e Z1 ⟨v1',d,rfl,jH,hof,hl4⟩;obtain⟨Ri,Rj,rfl⟩:=jH.shape;have hf4:=jH.aP
   have hS:=fO.out _ _ hf4 hS
   refine hK.out _ _ hS ?_
   clear hK K
   have iL:=ah (HF3.out.au hf4);have Du:=ah (Dt.out.aO hf4);have qI:=ah jH;have iW:=ah hof;have Dv:=ah hl4;clear jH hf4 hof hl4
   try simp only[Act.put,aI,aJ,aN]
   refine bM (i:=5) (by kernel_rfl) rfl (fun K hK=>?_)
   go_simp
   refine(HOW.out _ jJ.out).mono ?_
   rintro e Z2 ⟨v2',rfl,hc5,hf5⟩;obtain⟨Rk,Rl,rfl⟩:∃a c,v2'= .slice a 1 c:=Rd.sl hc5
   have hS:=fO.out _ _ hf5 hS
   refine hK.out _ _ hS ?_
   clear hK K
   have lQ:=ah (iL.out.au hf5);have Dw:=ah (Du.out.aO hf5);have HD5:=ah (qI.out.rd.aO hf5);have wK:=ah hc5;clear hc5 hf5
   try simp only[Act.put,aI,aJ,aN]
   refine bM (i:=6) (by kernel_rfl) rfl (fun K hK=>?_)
   go_simp
   refine(jo.out _ _ _ d _ HD5.out wK.out iW.out.right lN.out (by have:=Dv.out;omega) (by simp)).mono ?_
   rintro e Z3 ⟨rfl,eP⟩;rw[iC.out d iW.out]
   have hS:=fO.out _ _ eP hS
   refine hK.out _ _ hS ?_
   clear hK K
   have HF6:=ah (lQ.out.au eP);have Gg:=ah (Dw.out.aO eP);clear eP
   try simp only[Act.put,aI,aJ,aN]
   refine aS 7 42 rfl rfl (v:=?_) (.inl ⟨by rfl,?_⟩) ?_
   rotate_left 1
   ·(intro w hSw;(try dsimp only at hSw);go_simp;(try with_reducible rfl))
   refine aS 8 43 rfl rfl (v:=?_) (.inl ⟨by rfl,?_⟩) ?_
   rotate_left 1
   ·(intro w hSw;(try dsimp only at hSw);go_simp;(try with_reducible rfl))
   try simp only[Act.put,aI,aJ,aN]
   refine aS 10 45 rfl rfl (v:=?_) (.inl ⟨by rfl,?_⟩) ?_
   rotate_left 1
   ·(intro w hSw;(try dsimp only at hSw);go_simp;(try with_reducible rfl))
   refine aS 11 46 rfl rfl (v:=?_) (.inl ⟨by rfl,?_⟩) ?_
   rotate_left 1
   ·(intro w hSw;(try dsimp only at hSw);go_simp;(try with_reducible rfl))
   try simp only[Act.put,aI,aJ,aN]
   refine aS 12 47 rfl rfl (v:=?_) (.inl ⟨by rfl,?_⟩) ?_
   rotate_left 1
   ·(intro w hSw;(try dsimp only at hSw);go_simp;(try with_reducible rfl))
   try simp only[Act.put,aI,aJ,aN]
   refine bM (i:=9) (by kernel_rfl) rfl (fun K hK=>?_)
   go_simp
   refine(HOW.out _ jJ.out).mono ?_
   rintro e Z4 ⟨v4',rfl,lC,kH⟩;obtain⟨ZT,ZU,rfl⟩:∃a c,v4'= .slice a 1 c:=Rd.sl lC
   have hS:=fO.out _ _ kH hS
   refine hK.out _ _ hS ?_
   clear hK K
   have Dx:=ah (HF6.out.au kH);have KP:=ah (Gg.out.aO kH);have yY:=ah lC;clear lC kH
   try simp only[Act.put,aI,aJ,aN]
   refine bM (i:=13) (by kernel_rfl) rfl (fun K hK=>?_)
   go_simp
   refine(jo.out _ _ _ _ c yY.out (oH.out _ Dx.out) lN.out jh.out (by simp) (by have:=nR.out;have:=uU.out;omega)).mono ?_
   rintro e Z5 ⟨rfl,dS⟩;rw[HP2.out]
   have hS:=fO.out _ _ dS hS
   refine hK.out _ _ hS ?_
   clear hK K
   have KQ:=ah (Dx.out.au dS);have Rn:=ah (KP.out.aO dS);clear dS
   try simp only[Act.put,aI,aJ,aN]
   refine aS 14 49 rfl rfl (v:=?_) (.inl ⟨by rfl,?_⟩) ?_
   rotate_left 1
   ·(intro w hSw;(try dsimp only at hSw);go_simp;(try with_reducible rfl))
   refine aS 15 50 rfl rfl (v:=?_) (.inl ⟨by rfl,?_⟩) ?_
   rotate_left 1
   ·(intro w hSw;(try dsimp only at hSw);go_simp;(try with_reducible rfl))
   try simp only[Act.put,aI,aJ,aN]
   refine aS 16 51 rfl rfl (v:=?_) (.inl ⟨by rfl,?_⟩) ?_
   rotate_left 1
   ·(intro w hSw;(try dsimp only at hSw);go_simp;(try with_reducible rfl))
   refine aS 17 52 rfl rfl (v:=?_) (.inl ⟨by rfl,?_⟩) ?_
   rotate_left 1
   ·(intro w hSw;(try dsimp only at hSw);go_simp;(try with_reducible rfl))
   try simp only[Act.put,aI,aJ,aN]
   refine bM (i:=18) (by kernel_rfl) rfl (fun K hK=>?_)
   go_simp
   refine(NG _ (g 0) (g 1) (g 2) (g 3)).mono ?_
   rintro e Z6 ⟨v6',rfl,Dy,KR⟩;rw[ZR.out]at Dy KR;obtain⟨d6a,d6c,rfl⟩:=Dy.shape;have vg:=Dy.aP
   have hS:=fO.out _ _ vg hS
   refine hK.out _ _ hS ?_
   clear hK K
   have ZV:=ah (KQ.out.au vg);have ZW:=ah (Rn.out.aO vg);have Dz:=ah Dy;have ZX:=ah KR;clear Dy vg KR
   try simp only[Act.put,aI,aJ,aN]
   refine bM (i:=19) (by kernel_rfl) rfl (fun K hK=>?_)
   go_simp
   refine(jo.out _ _ _ q _ ZW.out Dz.out.rd lY.out.right lK.out (by have:=KO.out;have:=nR.out;have:=uU.out;omega) (by have:=ZX.out;omega)).mono ?_
   rintro e Z7 ⟨rfl,lZ⟩;rw[lH.out q lY.out]
   have hS:=fO.out _ _ lZ hS
   refine hK.out _ _ hS ?_
   clear hK K
   have yZ:=ah (ZV.out.au lZ);clear lZ
   try simp only[Act.put,aI,aJ,aN]
   refine aS 20 55 rfl rfl (v:=?_) (.inl ⟨by rfl,?_⟩) ?_
   rotate_left 1
   ·(intro w hSw;(try dsimp only at hSw);go_simp;(try with_reducible rfl))
   try simp only[Act.put,aI,aJ,aN]
   refine iQ (by kernel_rfl) (by kernel_rfl) rfl (fun K hK=>?_)
   go_simp
   refine hK.out _ _ ?_
   clear hK K hS
   go_wp2
   go_ret
   exact⟨rfl,yZ.out⟩
end Go.Proofs.YtabkpccdnkjoiaaGreat
