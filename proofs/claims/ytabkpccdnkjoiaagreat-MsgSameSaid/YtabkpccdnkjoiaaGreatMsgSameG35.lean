/- Words for the law MsgSame: MsgSame. -/
import Derived.Test.YtabkpccdnkjoiaaGreatMsgSameG0
import Derived.Test.YtabkpccdnkjoiaaGreatMsgSameG31
import Derived.Test.YtabkpccdnkjoiaaGreatMsgSameG34
set_option linter.unusedSimpArgs false
set_option linter.unusedVariables false
set_option maxHeartbeats 32000000
set_option maxRecDepth 1000000
namespace Go.Proofs.YtabkpccdnkjoiaaGreat
open Go.RowKit
theorem abY (w:World) (u0 u1 u2 u3 u4 u5 u6 u7 u8 u9 u10 x0 x1 x2 x3 x4 x5 x6 x7 x8 x9 x10:Value) (T:TypeId) (W:World) (f:aj ay ((w.alloc (.cells #[u0,u1,u2,u3,u4,u5,u6,u7,u8,u9,u10] T)).alloc (.cells #[x0,x1,x2,x3,x4,x5,x6,x7,x8,x9,x10] T)) W):
 (W.cell? ⟨w.heap.size,0,none⟩=some u0∧W.cell? ⟨w.heap.size,1,none⟩=some u1∧W.cell? ⟨w.heap.size,2,none⟩=some u2∧W.cell? ⟨w.heap.size,3,none⟩=some u3∧W.cell? ⟨w.heap.size,4,none⟩=some u4∧W.cell? ⟨w.heap.size,5,none⟩=some u5∧W.cell? ⟨w.heap.size,6,none⟩=some u6∧W.cell? ⟨w.heap.size,7,none⟩=some u7∧W.cell? ⟨w.heap.size,8,none⟩=some u8∧W.cell? ⟨w.heap.size,9,none⟩=some u9∧W.cell? ⟨w.heap.size,10,none⟩=some u10)∧W.cell? ⟨w.heap.size+1,0,none⟩=some x0∧W.cell? ⟨w.heap.size+1,1,none⟩=some x1∧W.cell? ⟨w.heap.size+1,2,none⟩=some x2∧W.cell? ⟨w.heap.size+1,3,none⟩=some x3∧W.cell? ⟨w.heap.size+1,4,none⟩=some x4∧W.cell? ⟨w.heap.size+1,5,none⟩=some x5∧W.cell? ⟨w.heap.size+1,6,none⟩=some x6∧W.cell? ⟨w.heap.size+1,7,none⟩=some x7∧W.cell? ⟨w.heap.size+1,8,none⟩=some x8∧W.cell? ⟨w.heap.size+1,9,none⟩=some x9∧W.cell? ⟨w.heap.size+1,10,none⟩=some x10:=by
 have h0:((w.alloc (.cells #[u0,u1,u2,u3,u4,u5,u6,u7,u8,u9,u10] T)).alloc (.cells #[x0,x1,x2,x3,x4,x5,x6,x7,x8,x9,x10] T)).heap[w.heap.size]?=some (.cells #[u0,u1,u2,u3,u4,u5,u6,u7,u8,u9,u10] T (0,0)):=by rw[Below.heap_alloc _ _ _ (by simp)];exact heap_alloc_new w _
 have h1:((w.alloc (.cells #[u0,u1,u2,u3,u4,u5,u6,u7,u8,u9,u10] T)).alloc (.cells #[x0,x1,x2,x3,x4,x5,x6,x7,x8,x9,x10] T)).heap[w.heap.size+1]?=some (.cells #[x0,x1,x2,x3,x4,x5,x6,x7,x8,x9,x10] T (0,0)):=by
  have:=heap_alloc_new (w.alloc (.cells #[u0,u1,u2,u3,u4,u5,u6,u7,u8,u9,u10] T)) (.cells #[x0,x1,x2,x3,x4,x5,x6,x7,x8,x9,x10] T)
  simpa using this
 exact⟨⟨f.cell' (aC h0 0 rfl) id,f.cell' (aC h0 1 rfl) id,f.cell' (aC h0 2 rfl) id,f.cell' (aC h0 3 rfl) id,f.cell' (aC h0 4 rfl) id,f.cell' (aC h0 5 rfl) id,f.cell' (aC h0 6 rfl) id,f.cell' (aC h0 7 rfl) id,f.cell' (aC h0 8 rfl) id,f.cell' (aC h0 9 rfl) id,f.cell' (aC h0 10 rfl) id⟩,f.cell' (aC h1 0 rfl) id,f.cell' (aC h1 1 rfl) id,f.cell' (aC h1 2 rfl) id,f.cell' (aC h1 3 rfl) id,f.cell' (aC h1 4 rfl) id,f.cell' (aC h1 5 rfl) id,f.cell' (aC h1 6 rfl) id,f.cell' (aC h1 7 rfl) id,f.cell' (aC h1 8 rfl) id,f.cell' (aC h1 9 rfl) id,f.cell' (aC h1 10 rfl) id⟩
theorem abZ:fG [] .nil []:=⟨rfl,Ho,fun r hr=>by cases hr⟩
theorem bF.right.TA {m:bF} (h:m.right):fG m.es m.ks m.c:=by
 by_cases hk:m.kind=2
 ·exact h.dD hk
 ·obtain⟨h1,h2,h3⟩:=h.bare hk
  rw[h1,h2,h3]
  exact abZ
theorem ab1 (Q Q':Nat→Prop) (a b:bF) (ps qs:List aY) (w:World) (lv ev kv cv jc ev' kv' cv':Value) (h:iP Q w a ps lv ev kv cv) (g:iP Q' w b qs jc ev' kv' cv') (hok:lq a) (lJ:lq b):
 Calls Tryz.prog 20 #[a.ag lv ev kv cv,b.ag jc ev' kv' cv'] w fun e w'=>e= .returned (.bool (tf (a.right∧b.right∧a=b)))∧aj ay w w':=by
 have jw:=ah (fun W (f:aj ay w W)=>xU Q a ps W lv ev kv cv (h.aO f) hok)
 have jD:=ah (fun W (f:aj ay w W)=>xU Q' b qs W jc ev' kv' cv' (g.aO f) lJ)
 have LY:=ah (fun W (f:aj ay w W)=>abV Q Q' ps qs W lv jc (h.bs.aO f) (g.bs.aO f) (h.each hok) (g.each lJ) (by rw[h.len];have:=hok.len;omega))
 have tu:=ah (fun W (f:aj ay w W)=>Qp Q Q' a.es a.ks a.c b.es b.ks b.c W ev kv cv ev' kv' cv' (h.dD.aO f) hok.st (g.dD.aO f) lJ.st)
 have HD:=ah (show(a.right∧b.right∧a=b)↔a.right∧b.right∧a.kind=b.kind∧a.fr=b.fr∧a.tt=b.tt∧(a.v0=b.v0∧a.v1=b.v1∧a.v2=b.v2∧a.v3=b.v3)∧(decide (ps.length=qs.length)&&uz sF ps qs)=true∧(fG a.es a.ks a.c∧fG b.es b.ks b.c∧(a.es=b.es∧a.ks=b.ks)∧a.c=b.c) by
  have hh:=h.eq
  have gg:=g.eq
  constructor
  ·rintro⟨h1,h2,rfl⟩
   have hl:ps.length=qs.length:=by rw[h.len,g.len]
   refine⟨h1,h1,rfl,rfl,rfl,⟨rfl,rfl,rfl,rfl⟩,?_,h1.TA,h1.TA,⟨rfl,rfl⟩,rfl⟩
   rw[decide_eq_true hl,Bool.true_and,Tz hl (hh▸h1.each) (gg▸h1.each),hh,gg]
  ·rintro⟨h1,h2,k1,k2,k3,⟨k4,k5,k6,k7⟩,k8,-,-,⟨k9,k10⟩,k11⟩
   refine⟨h1,h2,?_⟩
   simp only[Bool.and_eq_true,decide_eq_true_iff]at k8
   obtain⟨hl,hb⟩:=k8
   rw[Tz hl (hh▸h1.each) (gg▸h2.each),hh,gg]at hb
   cases a
   cases b
   simp only at k1 k2 k3 k4 k5 k6 k7 k9 k10 k11 hb
   subst k1 k2 k3 k4 k5 k6 k7 k9 k10 k11 hb
   rfl)
 generalize (a.right∧b.right∧a=b)=P at*
 generalize a.right=PA at*
 generalize b.right=PB at*
 generalize (fG a.es a.ks a.c∧fG b.es b.ks b.c∧(a.es=b.es∧a.ks=b.ks)∧a.c=b.c)=PC at*
 generalize (decide (ps.length=qs.length)&&uz sF ps qs)=y at*
 obtain⟨kind,fr,tt,v0,v1,v2,v3,bs,es,ks,c⟩:=a
 obtain⟨kind',fr',vF,v0',v1',v2',dO,bs',es',ks',c'⟩:=b
 dsimp only at HD
 (try dsimp only[bF.ag]at jw)
 (try dsimp only[bF.ag]at jD)
 dsimp only[bF.ag]
 obtain⟨a0,c0,a1,c1,a2,c2,rfl,rfl,rfl⟩:=h.dD.shape
 obtain⟨b0,d0,b1,d1,b2,d2,rfl,rfl,rfl⟩:=g.dD.shape
 obtain⟨al,cl,rfl⟩:=h.bs.rd.sl
 obtain⟨bl,dl,rfl⟩:=g.bs.rd.sl
 clear h g hok lJ
 (try dsimp only at jw)
 (try dsimp only at jD)
 (try dsimp only at LY)
 (try dsimp only at tu)
 have aQ:=ah (fun W f=>abY w (.int .i64 kind) (.int .i64 fr) (.int .i64 tt) (.int .i64 v0) (.int .i64 v1) (.int .i64 v2) (.int .i64 v3) (.slice al ps.length cl) (.slice a0 es.length c0) (.slice a1 ks.len c1) (.slice a2 c.length c2) (.int .i64 kind') (.int .i64 fr') (.int .i64 vF) (.int .i64 v0') (.int .i64 v1') (.int .i64 v2') (.int .i64 dO) (.slice bl qs.length dl) (.slice b0 es'.length d0) (.slice b1 ks'.len d1) (.slice b2 c'.length d2) 36 W f)
 (try dsimp only at aQ)
 generalize ps.length=ln at*
 generalize qs.length=zy at*
 generalize es.length=n at*
 generalize ks.len=m at*
 generalize c.length=k at*
 generalize es'.length=n' at*
 generalize ks'.len=m' at*
 generalize c'.length=k' at*
 have aU:=ah (show aj ay w ((w.alloc (.cells #[.int .i64 kind, .int .i64 fr, .int .i64 tt, .int .i64 v0, .int .i64 v1, .int .i64 v2, .int .i64 v3, .slice al ln cl, .slice a0 n c0, .slice a1 m c1, .slice a2 k c2] 36)).alloc (.cells #[.int .i64 kind', .int .i64 fr', .int .i64 vF, .int .i64 v0', .int .i64 v1', .int .i64 v2', .int .i64 dO, .slice bl zy dl, .slice b0 n' d0, .slice b1 m' d1, .slice b2 k' d2] 36))from(aj.alloc _ _ _).au (aj.alloc _ _ _))
 by_cases ha:PA
 rotate_left 1
 ·rw[aZ (show ¬P from fun h=>ha (HD.out.1 h).1)]
  rw[aZ ha]at jw
  clear HD ha
  go_enter Tryz.func20,Tryz.ntmps20
  go_wp2_with(first
   |(go_at_call 62;(refine(jw.out _ aU.out).mono ?_;rintro e w1 ⟨rfl,hw1⟩;obtain⟨⟨y0,y1,y2,y3,y4,y5,y6,y7,y8,y9,aT⟩,z0,z1,z2,z3,z4,z5,z6,z7,z8,z9,z10⟩:=aQ.out w1 hw1;have hlb:=World.block_lt_of_cell? _ _ y0;have hlc:=World.block_lt_of_cell? _ _ z0;have HW1:=ah hw1;clear hw1)))
  go_ret
  exact⟨rfl,aU.out.au HW1.out⟩
 rw[bZ ha]at jw
 by_cases hb:PB
 rotate_left 1
 ·rw[aZ (show ¬P from fun h=>hb (HD.out.1 h).2.1)]
  rw[aZ hb]at jD
  clear HD ha hb
  go_enter Tryz.func20,Tryz.ntmps20
  go_wp2_with(first
   |(go_at_call 62;first|(have q9:=HW1;clear q9;refine(jD.out _ (aU.out.au HW1.out)).mono ?_;rintro e w2 ⟨rfl,hw2⟩;clear y0 y1 y2 y3 y4 y5 y6 y7 y8 y9 aT z0 z1 z2 z3 z4 z5 z6 z7 z8 z9 z10 hlb hlc;obtain⟨⟨y0,y1,y2,y3,y4,y5,y6,y7,y8,y9,aT⟩,z0,z1,z2,z3,z4,z5,z6,z7,z8,z9,z10⟩:=aQ.out w2 (HW1.out.au hw2);have hlb:=World.block_lt_of_cell? _ _ y0;have hlc:=World.block_lt_of_cell? _ _ z0;have HW2:=ah (HW1.out.au hw2);clear hw2)|(refine(jw.out _ aU.out).mono ?_;rintro e w1 ⟨rfl,hw1⟩;obtain⟨⟨y0,y1,y2,y3,y4,y5,y6,y7,y8,y9,aT⟩,z0,z1,z2,z3,z4,z5,z6,z7,z8,z9,z10⟩:=aQ.out w1 hw1;have hlb:=World.block_lt_of_cell? _ _ y0;have hlc:=World.block_lt_of_cell? _ _ z0;have HW1:=ah hw1;clear hw1)))
  go_ret
  exact⟨rfl,aU.out.au HW2.out⟩
 rw[bZ hb]at jD
 by_cases h1:kind=kind'
 rotate_left 1
 ·rw[aZ (show ¬P from fun h=>h1 (HD.out.1 h).2.2.1)]
  have h1':((kind:Int)==kind')=false:=beq_false_of_ne h1
  clear HD ha hb h1
  go_enter Tryz.func20,Tryz.ntmps20
  go_wp2_with(first
   |(go_at_call 62;first|(have q9:=HW1;clear q9;refine(jD.out _ (aU.out.au HW1.out)).mono ?_;rintro e w2 ⟨rfl,hw2⟩;clear y0 y1 y2 y3 y4 y5 y6 y7 y8 y9 aT z0 z1 z2 z3 z4 z5 z6 z7 z8 z9 z10 hlb hlc;obtain⟨⟨y0,y1,y2,y3,y4,y5,y6,y7,y8,y9,aT⟩,z0,z1,z2,z3,z4,z5,z6,z7,z8,z9,z10⟩:=aQ.out w2 (HW1.out.au hw2);have hlb:=World.block_lt_of_cell? _ _ y0;have hlc:=World.block_lt_of_cell? _ _ z0;have HW2:=ah (HW1.out.au hw2);clear hw2)|(refine(jw.out _ aU.out).mono ?_;rintro e w1 ⟨rfl,hw1⟩;obtain⟨⟨y0,y1,y2,y3,y4,y5,y6,y7,y8,y9,aT⟩,z0,z1,z2,z3,z4,z5,z6,z7,z8,z9,z10⟩:=aQ.out w1 hw1;have hlb:=World.block_lt_of_cell? _ _ y0;have hlc:=World.block_lt_of_cell? _ _ z0;have HW1:=ah hw1;clear hw1)))
  go_ret
  exact⟨rfl,aU.out.au HW2.out⟩
 subst h1
 by_cases h2:fr=fr'
 rotate_left 1
 ·rw[aZ (show ¬P from fun h=>h2 (HD.out.1 h).2.2.2.1)]
  have h1':((fr:Int)==fr')=false:=beq_false_of_ne h2
  clear HD ha hb h2
  go_enter Tryz.func20,Tryz.ntmps20
  go_wp2_with(first
   |(go_at_call 62;first|(have q9:=HW1;clear q9;refine(jD.out _ (aU.out.au HW1.out)).mono ?_;rintro e w2 ⟨rfl,hw2⟩;clear y0 y1 y2 y3 y4 y5 y6 y7 y8 y9 aT z0 z1 z2 z3 z4 z5 z6 z7 z8 z9 z10 hlb hlc;obtain⟨⟨y0,y1,y2,y3,y4,y5,y6,y7,y8,y9,aT⟩,z0,z1,z2,z3,z4,z5,z6,z7,z8,z9,z10⟩:=aQ.out w2 (HW1.out.au hw2);have hlb:=World.block_lt_of_cell? _ _ y0;have hlc:=World.block_lt_of_cell? _ _ z0;have HW2:=ah (HW1.out.au hw2);clear hw2)|(refine(jw.out _ aU.out).mono ?_;rintro e w1 ⟨rfl,hw1⟩;obtain⟨⟨y0,y1,y2,y3,y4,y5,y6,y7,y8,y9,aT⟩,z0,z1,z2,z3,z4,z5,z6,z7,z8,z9,z10⟩:=aQ.out w1 hw1;have hlb:=World.block_lt_of_cell? _ _ y0;have hlc:=World.block_lt_of_cell? _ _ z0;have HW1:=ah hw1;clear hw1)))
  go_ret
  exact⟨rfl,aU.out.au HW2.out⟩
 subst h2
 by_cases h3:tt=vF
 rotate_left 1
 ·rw[aZ (show ¬P from fun h=>h3 (HD.out.1 h).2.2.2.2.1)]
  have h1':((tt:Int)==vF)=false:=beq_false_of_ne h3
  clear HD ha hb h3
  go_enter Tryz.func20,Tryz.ntmps20
  go_wp2_with(first
   |(go_at_call 62;first|(have q9:=HW1;clear q9;refine(jD.out _ (aU.out.au HW1.out)).mono ?_;rintro e w2 ⟨rfl,hw2⟩;clear y0 y1 y2 y3 y4 y5 y6 y7 y8 y9 aT z0 z1 z2 z3 z4 z5 z6 z7 z8 z9 z10 hlb hlc;obtain⟨⟨y0,y1,y2,y3,y4,y5,y6,y7,y8,y9,aT⟩,z0,z1,z2,z3,z4,z5,z6,z7,z8,z9,z10⟩:=aQ.out w2 (HW1.out.au hw2);have hlb:=World.block_lt_of_cell? _ _ y0;have hlc:=World.block_lt_of_cell? _ _ z0;have HW2:=ah (HW1.out.au hw2);clear hw2)|(refine(jw.out _ aU.out).mono ?_;rintro e w1 ⟨rfl,hw1⟩;obtain⟨⟨y0,y1,y2,y3,y4,y5,y6,y7,y8,y9,aT⟩,z0,z1,z2,z3,z4,z5,z6,z7,z8,z9,z10⟩:=aQ.out w1 hw1;have hlb:=World.block_lt_of_cell? _ _ y0;have hlc:=World.block_lt_of_cell? _ _ z0;have HW1:=ah hw1;clear hw1)))
  go_ret
  exact⟨rfl,aU.out.au HW2.out⟩
 subst h3
 by_cases h4:v0=v0'∧v1=v1'∧v2=v2'∧v3=dO
 rotate_left 1
 ·rw[aZ (show ¬P from fun h=>h4 (HD.out.1 h).2.2.2.2.2.1)]
  have uY:=JX h4
  clear HD ha hb h4
  go_enter Tryz.func20,Tryz.ntmps20
  go_wp2_with(first
   |(go_at_call 62;first|(have q9:=HW1;clear q9;refine(jD.out _ (aU.out.au HW1.out)).mono ?_;rintro e w2 ⟨rfl,hw2⟩;clear y0 y1 y2 y3 y4 y5 y6 y7 y8 y9 aT z0 z1 z2 z3 z4 z5 z6 z7 z8 z9 z10 hlb hlc;obtain⟨⟨y0,y1,y2,y3,y4,y5,y6,y7,y8,y9,aT⟩,z0,z1,z2,z3,z4,z5,z6,z7,z8,z9,z10⟩:=aQ.out w2 (HW1.out.au hw2);have hlb:=World.block_lt_of_cell? _ _ y0;have hlc:=World.block_lt_of_cell? _ _ z0;have HW2:=ah (HW1.out.au hw2);clear hw2)|(refine(jw.out _ aU.out).mono ?_;rintro e w1 ⟨rfl,hw1⟩;obtain⟨⟨y0,y1,y2,y3,y4,y5,y6,y7,y8,y9,aT⟩,z0,z1,z2,z3,z4,z5,z6,z7,z8,z9,z10⟩:=aQ.out w1 hw1;have hlb:=World.block_lt_of_cell? _ _ y0;have hlc:=World.block_lt_of_cell? _ _ z0;have HW1:=ah hw1;clear hw1)))
  go_ret
  exact⟨rfl,aU.out.au HW2.out⟩
 obtain⟨rfl,rfl,rfl,rfl⟩:=h4
 have uY:=Qr v0 v1 v2 v3
 cases y with
 |false=>
  rw[aZ (show ¬P from fun h=>by have:=(HD.out.1 h).2.2.2.2.2.2.1;cases this)]
  clear HD ha hb
  go_enter Tryz.func20,Tryz.ntmps20
  go_wp2_with(first
   |(go_at_call 62;first|(have q9:=HW1;clear q9;refine(jD.out _ (aU.out.au HW1.out)).mono ?_;rintro e w2 ⟨rfl,hw2⟩;clear y0 y1 y2 y3 y4 y5 y6 y7 y8 y9 aT z0 z1 z2 z3 z4 z5 z6 z7 z8 z9 z10 hlb hlc;obtain⟨⟨y0,y1,y2,y3,y4,y5,y6,y7,y8,y9,aT⟩,z0,z1,z2,z3,z4,z5,z6,z7,z8,z9,z10⟩:=aQ.out w2 (HW1.out.au hw2);have hlb:=World.block_lt_of_cell? _ _ y0;have hlc:=World.block_lt_of_cell? _ _ z0;have HW2:=ah (HW1.out.au hw2);clear hw2)|(refine(jw.out _ aU.out).mono ?_;rintro e w1 ⟨rfl,hw1⟩;obtain⟨⟨y0,y1,y2,y3,y4,y5,y6,y7,y8,y9,aT⟩,z0,z1,z2,z3,z4,z5,z6,z7,z8,z9,z10⟩:=aQ.out w1 hw1;have hlb:=World.block_lt_of_cell? _ _ y0;have hlc:=World.block_lt_of_cell? _ _ z0;have HW1:=ah hw1;clear hw1))
   |(go_at_call 79;refine(LY.out _ (aU.out.au HW2.out)).mono ?_;rintro e w3 ⟨rfl,hw3⟩;clear y0 y1 y2 y3 y4 y5 y6 y7 y8 y9 aT z0 z1 z2 z3 z4 z5 z6 z7 z8 z9 z10 hlb hlc;obtain⟨⟨y0,y1,y2,y3,y4,y5,y6,y7,y8,y9,aT⟩,z0,z1,z2,z3,z4,z5,z6,z7,z8,z9,z10⟩:=aQ.out w3 (HW2.out.au hw3);have hlb:=World.block_lt_of_cell? _ _ y0;have hlc:=World.block_lt_of_cell? _ _ z0;have HW3:=ah (HW2.out.au hw3);clear hw3))
  go_ret
  exact⟨rfl,aU.out.au HW3.out⟩
 |true=>
  rw[show tf P=tf PC from kT ⟨fun h=>(HD.out.1 h).2.2.2.2.2.2.2,fun h=>HD.out.2 ⟨ha,hb,rfl,rfl,rfl,⟨rfl,rfl,rfl,rfl⟩,rfl,h⟩⟩]
  clear HD ha hb
  go_enter Tryz.func20,Tryz.ntmps20
  go_wp2_with(first
   |(go_at_call 62;first|(have q9:=HW1;clear q9;refine(jD.out _ (aU.out.au HW1.out)).mono ?_;rintro e w2 ⟨rfl,hw2⟩;clear y0 y1 y2 y3 y4 y5 y6 y7 y8 y9 aT z0 z1 z2 z3 z4 z5 z6 z7 z8 z9 z10 hlb hlc;obtain⟨⟨y0,y1,y2,y3,y4,y5,y6,y7,y8,y9,aT⟩,z0,z1,z2,z3,z4,z5,z6,z7,z8,z9,z10⟩:=aQ.out w2 (HW1.out.au hw2);have hlb:=World.block_lt_of_cell? _ _ y0;have hlc:=World.block_lt_of_cell? _ _ z0;have HW2:=ah (HW1.out.au hw2);clear hw2)|(refine(jw.out _ aU.out).mono ?_;rintro e w1 ⟨rfl,hw1⟩;obtain⟨⟨y0,y1,y2,y3,y4,y5,y6,y7,y8,y9,aT⟩,z0,z1,z2,z3,z4,z5,z6,z7,z8,z9,z10⟩:=aQ.out w1 hw1;have hlb:=World.block_lt_of_cell? _ _ y0;have hlc:=World.block_lt_of_cell? _ _ z0;have HW1:=ah hw1;clear hw1))
   |(go_at_call 79;refine(LY.out _ (aU.out.au HW2.out)).mono ?_;rintro e w3 ⟨rfl,hw3⟩;clear y0 y1 y2 y3 y4 y5 y6 y7 y8 y9 aT z0 z1 z2 z3 z4 z5 z6 z7 z8 z9 z10 hlb hlc;obtain⟨⟨y0,y1,y2,y3,y4,y5,y6,y7,y8,y9,aT⟩,z0,z1,z2,z3,z4,z5,z6,z7,z8,z9,z10⟩:=aQ.out w3 (HW2.out.au hw3);have hlb:=World.block_lt_of_cell? _ _ y0;have hlc:=World.block_lt_of_cell? _ _ z0;have HW3:=ah (HW2.out.au hw3);clear hw3)
   |(go_at_call 29;refine(tu.out _ (aU.out.au HW3.out)).mono ?_;rintro e w4 ⟨rfl,hw4⟩;have lU:=ah (HW3.out.au hw4);clear hw4))
  go_ret
  exact⟨rfl,aU.out.au lU.out⟩
end Go.Proofs.YtabkpccdnkjoiaaGreat
