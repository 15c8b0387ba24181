/- Words for the law MsgSame: VecEq, Same2, BunEnc, Op1, Op2, MsgA, Vec, Solid. -/
import Derived.Test.YtabkpccdnkjoiaaGreatMsgSameG0
import Derived.Test.YtabkpccdnkjoiaaGreatMsgSameG2
import Derived.Test.YtabkpccdnkjoiaaGreatMsgSameG3
import Derived.Test.YtabkpccdnkjoiaaGreatMsgSameG6
import Derived.Test.YtabkpccdnkjoiaaGreatMsgSameG7
import Derived.Test.YtabkpccdnkjoiaaGreatMsgSameG9
import Derived.Test.YtabkpccdnkjoiaaGreatMsgSameG10
import Derived.Test.YtabkpccdnkjoiaaGreatMsgSameG11
import Derived.Test.YtabkpccdnkjoiaaGreatMsgSameG14
import Derived.Test.YtabkpccdnkjoiaaGreatMsgSameG16
import Derived.ChangeKeysEq
import Derived.Shelf.Abstract
set_option linter.unusedSimpArgs false
set_option linter.unusedVariables false
set_option maxHeartbeats 32000000
set_option maxRecDepth 1000000
namespace Go.Proofs.YtabkpccdnkjoiaaGreat
open Go.RowKit
theorem Tryz.vec_cells:Tryz.prog.cellsOf 2=1:=by kernel_rfl
theorem YH (d:Nat) (a b:Int) (W:World):(Op.equalIn (d+1) 2 (.int .i64 a) (.int .i64 b)).run Tryz.prog W= .ok (a==b) W:=by
 simp[Op.equalIn,run_underlying Tryz.underlying2]
theorem Qq (xs:Array Value) (k:Nat) (v:Value) (h:xs[k]?=some v) (W:World):(part 2 xs k).run Tryz.prog W= .ok v W:=by
 obtain⟨i0,hi,hz0,hz1,hz2⟩:=info_parts zJ
 simp[part,go_sem,h]
theorem FI (d:Nat) (xs ys:Array Value) (i:Nat) (is:List Nat) (a b:Int) (hx:xs[i]?=some (.int .i64 a)) (hy:ys[i]?=some (.int .i64 b)) (W:World):
 (Op.eqItems (d+1) 2 1 xs ys (i::is)).run Tryz.prog W=if a=b then(Op.eqItems (d+1) 2 1 xs ys is).run Tryz.prog W else .ok false W:=by
 have h1:=Qq xs i _ hx
 have h2:=Qq ys i _ hy
 rw[Op.eqItems]
 simp only[Sem.run_bind,Nat.mul_one,h1,h2,Result.andThen_ok,YH]
 by_cases h:a=b
 ·rw[if_pos h];subst h;simp
 ·rw[if_neg h]
  have:(a==b)=false:=by simpa using h
  rw[this];simp
theorem JW (a0 a1 a2 a3 b0 b1 b2 b3:Int) (W:World):(Op.equal 25 (.agg #[.int .i64 a0, .int .i64 a1, .int .i64 a2, .int .i64 a3]) (.agg #[.int .i64 b0, .int .i64 b1, .int .i64 b2, .int .i64 b3])).run Tryz.prog W= .ok ((a0==b0)&&((a1==b1)&&((a2==b2)&&(a3==b3)))) W:=by
 obtain⟨i0,hi,hz0,hz1,hz2⟩:=info_parts zJ
 unfold Op.equal
 obtain⟨d,hd⟩:∃d,Op.maxDepth=d+1+1:=⟨Op.maxDepth-2,rfl⟩
 rw[hd,run_equalIn_array (d:=d+1) (hu:=Tryz.underlying25) (hi:=hi),Tryz.vec_cells,show List.range 4=[0,1,2,3]from rfl]
 rw[FI d _ _ 0 _ a0 b0 rfl rfl,FI d _ _ 1 _ a1 b1 rfl rfl,FI d _ _ 2 _ a2 b2 rfl rfl,FI d _ _ 3 _ a3 b3 rfl rfl]
 by_cases h0:a0=b0<;>by_cases h1:a1=b1<;>by_cases h2:a2=b2<;>by_cases h3:a3=b3<;>simp[h0,h1,h2,h3,Op.eqItems]
theorem Dc (a0 a1 a2 a3 b0 b1 b2 b3:Int) (W:World):(binOp .eql 25 (.agg #[.int .i64 a0, .int .i64 a1, .int .i64 a2, .int .i64 a3]) (.agg #[.int .i64 b0, .int .i64 b1, .int .i64 b2, .int .i64 b3])).run Tryz.prog W= .ok (.bool ((a0==b0)&&((a1==b1)&&((a2==b2)&&(a3==b3))))) W:=by
 simp[binOp,JW]
theorem Qr (a0 a1 a2 a3:Int) (W:World):(binOp .eql 25 (.agg #[.int .i64 a0, .int .i64 a1, .int .i64 a2, .int .i64 a3]) (.agg #[.int .i64 a0, .int .i64 a1, .int .i64 a2, .int .i64 a3])).run Tryz.prog W= .ok (.bool true) W:=by
 rw[Dc];simp
open Go.RowKit
theorem rY (w:World) (u0 u1 u2 u3 u4 u5 u6 u7 u8 u9 x0 x1 x2 x3 x4 x5 x6 x7 x8 x9:Value) (T:TypeId) (W:World) (f:aj ay ((w.alloc (.cells #[u0,u1,u2,u3,u4,u5,u6,u7,u8,u9] T)).alloc (.cells #[x0,x1,x2,x3,x4,x5,x6,x7,x8,x9] T)) W):
 (W.cell? ⟨w.heap.size,0,none⟩=some u0∧W.cell? ⟨w.heap.size,1,none⟩=some u1∧W.cell? ⟨w.heap.size,2,none⟩=some u2∧W.cell? ⟨w.heap.size,3,none⟩=some u3∧W.cell? ⟨w.heap.size,4,none⟩=some u4∧W.cell? ⟨w.heap.size,5,none⟩=some u5∧W.cell? ⟨w.heap.size,6,none⟩=some u6∧W.cell? ⟨w.heap.size,7,none⟩=some u7∧W.cell? ⟨w.heap.size,8,none⟩=some u8∧W.cell? ⟨w.heap.size,9,none⟩=some u9)∧W.cell? ⟨w.heap.size+1,0,none⟩=some x0∧W.cell? ⟨w.heap.size+1,1,none⟩=some x1∧W.cell? ⟨w.heap.size+1,2,none⟩=some x2∧W.cell? ⟨w.heap.size+1,3,none⟩=some x3∧W.cell? ⟨w.heap.size+1,4,none⟩=some x4∧W.cell? ⟨w.heap.size+1,5,none⟩=some x5∧W.cell? ⟨w.heap.size+1,6,none⟩=some x6∧W.cell? ⟨w.heap.size+1,7,none⟩=some x7∧W.cell? ⟨w.heap.size+1,8,none⟩=some x8∧W.cell? ⟨w.heap.size+1,9,none⟩=some x9:=by
 obtain⟨h1,_,_⟩:=sZ w (.cells #[u0,u1,u2,u3,u4,u5,u6,u7,u8,u9] T) #[x0,x1,x2,x3,x4,x5,x6,x7,x8,x9] T
 exact⟨BX w u0 u1 u2 u3 u4 u5 u6 u7 u8 u9 T W ((aj.alloc ay _ _).au f),f.cell' (aC h1 0 rfl) id,f.cell' (aC h1 1 rfl) id,f.cell' (aC h1 2 rfl) id,f.cell' (aC h1 3 rfl) id,f.cell' (aC h1 4 rfl) id,f.cell' (aC h1 5 rfl) id,f.cell' (aC h1 6 rfl) id,f.cell' (aC h1 7 rfl) id,f.cell' (aC h1 8 rfl) id,f.cell' (aC h1 9 rfl) id⟩
def Ap (dc af la v0 v1 v2 v3 dc' jL la' v0' v1' v2' dO:Int) (es:List aG) (ks:aH) (c:aW) (es':List aG) (ks':aH) (c':aW):Prop:=
 dc=dc'∧af=jL∧la=la'∧(v0=v0'∧v1=v1'∧v2=v2'∧v3=dO)∧(es=es'∧ks=ks')∧c=c'
theorem je.dD {dc af la:Int} {f:Int→Int} {es:List aG} {ks:aH} {c:aW} (h:je dc af la f es ks c):fG es ks c:=⟨h.tree,h.ctx,h.dots⟩
theorem Qs {a0 a1 a2 a3 b0 b1 b2 b3:Int} (h:a0=b0∧a1=b1∧a2=b2∧a3=b3) (W:World):(binOp .eql 25 (.agg #[.int .i64 a0, .int .i64 a1, .int .i64 a2, .int .i64 a3]) (.agg #[.int .i64 b0, .int .i64 b1, .int .i64 b2, .int .i64 b3])).run Tryz.prog W= .ok (.bool true) W:=by
 rw[Dc];simp[h.1,h.2.1,h.2.2.1,h.2.2.2]
theorem JX {a0 a1 a2 a3 b0 b1 b2 b3:Int} (h:¬(a0=b0∧a1=b1∧a2=b2∧a3=b3)) (W:World):(binOp .eql 25 (.agg #[.int .i64 a0, .int .i64 a1, .int .i64 a2, .int .i64 a3]) (.agg #[.int .i64 b0, .int .i64 b1, .int .i64 b2, .int .i64 b3])).run Tryz.prog W= .ok (.bool false) W:=by
 rw[Dc]
 have:((a0==b0)&&((a1==b1)&&((a2==b2)&&(a3==b3))))=false:=by
  rw[Bool.eq_false_iff]
  intro e
  simp only[Bool.and_eq_true,beq_iff_eq]at e
  exact h e
 rw[this]
theorem YI (Q Q':Nat→Prop) (es:List aG) (ks:aH) (c:aW) (es':List aG) (ks':aH) (c':aW) (w:World) (dc af la v0 v1 v2 v3 dc' jL la' v0' v1' v2' dO:Int) (ev kv cv ev' kv' cv':Value) (h:fH Q w ev kv cv es ks c) (hok:fP es ks c) (h':fH Q' w ev' kv' cv' es' ks' c') (hok':fP es' ks' c'):
 Calls Tryz.prog 80 #[.agg #[.int .i64 dc, .int .i64 af, .int .i64 la, .int .i64 v0, .int .i64 v1, .int .i64 v2, .int .i64 v3,ev,kv,cv], .agg #[.int .i64 dc', .int .i64 jL, .int .i64 la', .int .i64 v0', .int .i64 v1', .int .i64 v2', .int .i64 dO,ev',kv',cv']] w fun e w'=>e= .returned (.bool (tf (je dc af la (bG v0 v1 v2 v3) es ks c∧je dc' jL la' (bG v0' v1' v2' dO) es' ks' c'∧Ap dc af la v0 v1 v2 v3 dc' jL la' v0' v1' v2' dO es ks c es' ks' c')))∧aj ay w w':=by
 have HA:=ah (fun W (f:aj ay w W)=>B_ Q es ks c W dc af la v0 v1 v2 v3 _ _ _ (h.aO f) hok)
 have HB:=ah (fun W (f:aj ay w W)=>B_ Q' es' ks' c' W dc' jL la' v0' v1' v2' dO _ _ _ (h'.aO f) hok')
 have HC:=ah (fun W (f:aj ay w W)=>Qp Q Q' es ks c es' ks' c' W _ _ _ _ _ _ (h.aO f) hok (h'.aO f) hok')
 obtain⟨a0,c0,a1,c1,a2,c2,rfl,rfl,rfl⟩:=h.shape
 obtain⟨b0,d0,b1,d1,b2,d2,rfl,rfl,rfl⟩:=h'.shape
 clear h hok h' hok'
 by_cases r1:je dc af la (bG v0 v1 v2 v3) es ks c
 rotate_left 1
 ·rw[aZ r1]at HA
  rw[aZ fun h=>r1 h.1]
  clear r1 HB HC
  generalize es.length=n at*
  generalize ks.len=m at*
  generalize c.length=k at*
  generalize es'.length=n' at*
  generalize ks'.len=m' at*
  generalize c'.length=k' at*
  have bg:=ah ((aj.alloc ay w (.cells #[.int .i64 dc, .int .i64 af, .int .i64 la, .int .i64 v0, .int .i64 v1, .int .i64 v2, .int .i64 v3, .slice a0 n c0, .slice a1 m c1, .slice a2 k c2] 59)).alloc1 (o:= .cells #[.int .i64 dc', .int .i64 jL, .int .i64 la', .int .i64 v0', .int .i64 v1', .int .i64 v2', .int .i64 dO, .slice b0 n' d0, .slice b1 m' d1, .slice b2 k' d2] 59))
  have aQ:=ah (rY w (.int .i64 dc) (.int .i64 af) (.int .i64 la) (.int .i64 v0) (.int .i64 v1) (.int .i64 v2) (.int .i64 v3) (.slice a0 n c0) (.slice a1 m c1) (.slice a2 k c2) (.int .i64 dc') (.int .i64 jL) (.int .i64 la') (.int .i64 v0') (.int .i64 v1') (.int .i64 v2') (.int .i64 dO) (.slice b0 n' d0) (.slice b1 m' d1) (.slice b2 k' d2) 59)
  go_enter Tryz.func80,Tryz.ntmps80
  go_wp2_with(first
   |(go_at_call 83;refine(HA.out _ bg.out).mono ?_;rintro e w1 ⟨rfl,hw1⟩;obtain⟨⟨y0,y1,y2,y3,y4,y5,y6,y7,y8,y9⟩,z0,z1,z2,z3,z4,z5,z6,z7,z8,z9⟩:=aQ.out w1 hw1;have HW1:=ah hw1;clear hw1))
  go_ret
  exact⟨rfl,bg.out.au HW1.out⟩
 by_cases r2:je dc' jL la' (bG v0' v1' v2' dO) es' ks' c'
 rotate_left 1
 ·rw[bZ r1]at HA
  rw[aZ r2]at HB
  rw[aZ fun h=>r2 h.2.1]
  clear r1 r2 HC
  generalize es.length=n at*
  generalize ks.len=m at*
  generalize c.length=k at*
  generalize es'.length=n' at*
  generalize ks'.len=m' at*
  generalize c'.length=k' at*
  have bg:=ah ((aj.alloc ay w (.cells #[.int .i64 dc, .int .i64 af, .int .i64 la, .int .i64 v0, .int .i64 v1, .int .i64 v2, .int .i64 v3, .slice a0 n c0, .slice a1 m c1, .slice a2 k c2] 59)).alloc1 (o:= .cells #[.int .i64 dc', .int .i64 jL, .int .i64 la', .int .i64 v0', .int .i64 v1', .int .i64 v2', .int .i64 dO, .slice b0 n' d0, .slice b1 m' d1, .slice b2 k' d2] 59))
  have aQ:=ah (rY w (.int .i64 dc) (.int .i64 af) (.int .i64 la) (.int .i64 v0) (.int .i64 v1) (.int .i64 v2) (.int .i64 v3) (.slice a0 n c0) (.slice a1 m c1) (.slice a2 k c2) (.int .i64 dc') (.int .i64 jL) (.int .i64 la') (.int .i64 v0') (.int .i64 v1') (.int .i64 v2') (.int .i64 dO) (.slice b0 n' d0) (.slice b1 m' d1) (.slice b2 k' d2) 59)
  go_enter Tryz.func80,Tryz.ntmps80
  go_wp2_with(first
   |(go_at_call 83;first|(refine(HB.out _ (bg.out.au HW1.out)).mono ?_;rintro e w2 ⟨rfl,hw2⟩;clear y0 y1 y2 y3 y4 y5 y6 y7 y8 y9 z0 z1 z2 z3 z4 z5 z6 z7 z8 z9;obtain⟨⟨y0,y1,y2,y3,y4,y5,y6,y7,y8,y9⟩,z0,z1,z2,z3,z4,z5,z6,z7,z8,z9⟩:=aQ.out w2 (HW1.out.au hw2);have HW2:=ah (HW1.out.au hw2);clear hw2)|(refine(HA.out _ bg.out).mono ?_;rintro e w1 ⟨rfl,hw1⟩;obtain⟨⟨y0,y1,y2,y3,y4,y5,y6,y7,y8,y9⟩,z0,z1,z2,z3,z4,z5,z6,z7,z8,z9⟩:=aQ.out w1 hw1;have HW1:=ah hw1;clear hw1)))
  go_ret
  exact⟨rfl,bg.out.au HW2.out⟩
 rw[bZ r1]at HA
 rw[bZ r2]at HB
 by_cases e0:dc=dc'
 rotate_left 1
 ·rw[aZ fun h=>e0 h.2.2.1]
  have ge:((dc:Int)==dc')=false:=by simpa using e0
  clear r1 r2 e0 HC
  generalize es.length=n at*
  generalize ks.len=m at*
  generalize c.length=k at*
  generalize es'.length=n' at*
  generalize ks'.len=m' at*
  generalize c'.length=k' at*
  have bg:=ah ((aj.alloc ay w (.cells #[.int .i64 dc, .int .i64 af, .int .i64 la, .int .i64 v0, .int .i64 v1, .int .i64 v2, .int .i64 v3, .slice a0 n c0, .slice a1 m c1, .slice a2 k c2] 59)).alloc1 (o:= .cells #[.int .i64 dc', .int .i64 jL, .int .i64 la', .int .i64 v0', .int .i64 v1', .int .i64 v2', .int .i64 dO, .slice b0 n' d0, .slice b1 m' d1, .slice b2 k' d2] 59))
  have aQ:=ah (rY w (.int .i64 dc) (.int .i64 af) (.int .i64 la) (.int .i64 v0) (.int .i64 v1) (.int .i64 v2) (.int .i64 v3) (.slice a0 n c0) (.slice a1 m c1) (.slice a2 k c2) (.int .i64 dc') (.int .i64 jL) (.int .i64 la') (.int .i64 v0') (.int .i64 v1') (.int .i64 v2') (.int .i64 dO) (.slice b0 n' d0) (.slice b1 m' d1) (.slice b2 k' d2) 59)
  go_enter Tryz.func80,Tryz.ntmps80
  go_wp2_with(first
   |(go_at_call 83;first|(refine(HB.out _ (bg.out.au HW1.out)).mono ?_;rintro e w2 ⟨rfl,hw2⟩;clear y0 y1 y2 y3 y4 y5 y6 y7 y8 y9 z0 z1 z2 z3 z4 z5 z6 z7 z8 z9;obtain⟨⟨y0,y1,y2,y3,y4,y5,y6,y7,y8,y9⟩,z0,z1,z2,z3,z4,z5,z6,z7,z8,z9⟩:=aQ.out w2 (HW1.out.au hw2);have HW2:=ah (HW1.out.au hw2);clear hw2)|(refine(HA.out _ bg.out).mono ?_;rintro e w1 ⟨rfl,hw1⟩;obtain⟨⟨y0,y1,y2,y3,y4,y5,y6,y7,y8,y9⟩,z0,z1,z2,z3,z4,z5,z6,z7,z8,z9⟩:=aQ.out w1 hw1;have HW1:=ah hw1;clear hw1)))
  go_ret
  exact⟨rfl,bg.out.au HW2.out⟩
 subst e0
 by_cases e1:af=jL
 rotate_left 1
 ·rw[aZ fun h=>e1 h.2.2.2.1]
  have ge:((af:Int)==jL)=false:=by simpa using e1
  clear r1 r2 e1 HC
  generalize es.length=n at*
  generalize ks.len=m at*
  generalize c.length=k at*
  generalize es'.length=n' at*
  generalize ks'.len=m' at*
  generalize c'.length=k' at*
  have bg:=ah ((aj.alloc ay w (.cells #[.int .i64 dc, .int .i64 af, .int .i64 la, .int .i64 v0, .int .i64 v1, .int .i64 v2, .int .i64 v3, .slice a0 n c0, .slice a1 m c1, .slice a2 k c2] 59)).alloc1 (o:= .cells #[.int .i64 dc, .int .i64 jL, .int .i64 la', .int .i64 v0', .int .i64 v1', .int .i64 v2', .int .i64 dO, .slice b0 n' d0, .slice b1 m' d1, .slice b2 k' d2] 59))
  have aQ:=ah (rY w (.int .i64 dc) (.int .i64 af) (.int .i64 la) (.int .i64 v0) (.int .i64 v1) (.int .i64 v2) (.int .i64 v3) (.slice a0 n c0) (.slice a1 m c1) (.slice a2 k c2) (.int .i64 dc) (.int .i64 jL) (.int .i64 la') (.int .i64 v0') (.int .i64 v1') (.int .i64 v2') (.int .i64 dO) (.slice b0 n' d0) (.slice b1 m' d1) (.slice b2 k' d2) 59)
  go_enter Tryz.func80,Tryz.ntmps80
  go_wp2_with(first
   |(go_at_call 83;first|(refine(HB.out _ (bg.out.au HW1.out)).mono ?_;rintro e w2 ⟨rfl,hw2⟩;clear y0 y1 y2 y3 y4 y5 y6 y7 y8 y9 z0 z1 z2 z3 z4 z5 z6 z7 z8 z9;obtain⟨⟨y0,y1,y2,y3,y4,y5,y6,y7,y8,y9⟩,z0,z1,z2,z3,z4,z5,z6,z7,z8,z9⟩:=aQ.out w2 (HW1.out.au hw2);have HW2:=ah (HW1.out.au hw2);clear hw2)|(refine(HA.out _ bg.out).mono ?_;rintro e w1 ⟨rfl,hw1⟩;obtain⟨⟨y0,y1,y2,y3,y4,y5,y6,y7,y8,y9⟩,z0,z1,z2,z3,z4,z5,z6,z7,z8,z9⟩:=aQ.out w1 hw1;have HW1:=ah hw1;clear hw1)))
  go_ret
  exact⟨rfl,bg.out.au HW2.out⟩
 subst e1
 by_cases e2:la=la'
 rotate_left 1
 ·rw[aZ fun h=>e2 h.2.2.2.2.1]
  have ge:((la:Int)==la')=false:=by simpa using e2
  clear r1 r2 e2 HC
  generalize es.length=n at*
  generalize ks.len=m at*
  generalize c.length=k at*
  generalize es'.length=n' at*
  generalize ks'.len=m' at*
  generalize c'.length=k' at*
  have bg:=ah ((aj.alloc ay w (.cells #[.int .i64 dc, .int .i64 af, .int .i64 la, .int .i64 v0, .int .i64 v1, .int .i64 v2, .int .i64 v3, .slice a0 n c0, .slice a1 m c1, .slice a2 k c2] 59)).alloc1 (o:= .cells #[.int .i64 dc, .int .i64 af, .int .i64 la', .int .i64 v0', .int .i64 v1', .int .i64 v2', .int .i64 dO, .slice b0 n' d0, .slice b1 m' d1, .slice b2 k' d2] 59))
  have aQ:=ah (rY w (.int .i64 dc) (.int .i64 af) (.int .i64 la) (.int .i64 v0) (.int .i64 v1) (.int .i64 v2) (.int .i64 v3) (.slice a0 n c0) (.slice a1 m c1) (.slice a2 k c2) (.int .i64 dc) (.int .i64 af) (.int .i64 la') (.int .i64 v0') (.int .i64 v1') (.int .i64 v2') (.int .i64 dO) (.slice b0 n' d0) (.slice b1 m' d1) (.slice b2 k' d2) 59)
  go_enter Tryz.func80,Tryz.ntmps80
  go_wp2_with(first
   |(go_at_call 83;first|(refine(HB.out _ (bg.out.au HW1.out)).mono ?_;rintro e w2 ⟨rfl,hw2⟩;clear y0 y1 y2 y3 y4 y5 y6 y7 y8 y9 z0 z1 z2 z3 z4 z5 z6 z7 z8 z9;obtain⟨⟨y0,y1,y2,y3,y4,y5,y6,y7,y8,y9⟩,z0,z1,z2,z3,z4,z5,z6,z7,z8,z9⟩:=aQ.out w2 (HW1.out.au hw2);have HW2:=ah (HW1.out.au hw2);clear hw2)|(refine(HA.out _ bg.out).mono ?_;rintro e w1 ⟨rfl,hw1⟩;obtain⟨⟨y0,y1,y2,y3,y4,y5,y6,y7,y8,y9⟩,z0,z1,z2,z3,z4,z5,z6,z7,z8,z9⟩:=aQ.out w1 hw1;have HW1:=ah hw1;clear hw1)))
  go_ret
  exact⟨rfl,bg.out.au HW2.out⟩
 subst e2
 by_cases e3:v0=v0'∧v1=v1'∧v2=v2'∧v3=dO
 rotate_left 1
 ·rw[aZ fun h=>e3 h.2.2.2.2.2.1]
  have JY:=JX e3
  clear r1 r2 e3 HC
  generalize es.length=n at*
  generalize ks.len=m at*
  generalize c.length=k at*
  generalize es'.length=n' at*
  generalize ks'.len=m' at*
  generalize c'.length=k' at*
  have bg:=ah ((aj.alloc ay w (.cells #[.int .i64 dc, .int .i64 af, .int .i64 la, .int .i64 v0, .int .i64 v1, .int .i64 v2, .int .i64 v3, .slice a0 n c0, .slice a1 m c1, .slice a2 k c2] 59)).alloc1 (o:= .cells #[.int .i64 dc, .int .i64 af, .int .i64 la, .int .i64 v0', .int .i64 v1', .int .i64 v2', .int .i64 dO, .slice b0 n' d0, .slice b1 m' d1, .slice b2 k' d2] 59))
  have aQ:=ah (rY w (.int .i64 dc) (.int .i64 af) (.int .i64 la) (.int .i64 v0) (.int .i64 v1) (.int .i64 v2) (.int .i64 v3) (.slice a0 n c0) (.slice a1 m c1) (.slice a2 k c2) (.int .i64 dc) (.int .i64 af) (.int .i64 la) (.int .i64 v0') (.int .i64 v1') (.int .i64 v2') (.int .i64 dO) (.slice b0 n' d0) (.slice b1 m' d1) (.slice b2 k' d2) 59)
  go_enter Tryz.func80,Tryz.ntmps80
  go_wp2_with(first
   |(go_at_call 83;first|(refine(HB.out _ (bg.out.au HW1.out)).mono ?_;rintro e w2 ⟨rfl,hw2⟩;clear y0 y1 y2 y3 y4 y5 y6 y7 y8 y9 z0 z1 z2 z3 z4 z5 z6 z7 z8 z9;obtain⟨⟨y0,y1,y2,y3,y4,y5,y6,y7,y8,y9⟩,z0,z1,z2,z3,z4,z5,z6,z7,z8,z9⟩:=aQ.out w2 (HW1.out.au hw2);have HW2:=ah (HW1.out.au hw2);clear hw2)|(refine(HA.out _ bg.out).mono ?_;rintro e w1 ⟨rfl,hw1⟩;obtain⟨⟨y0,y1,y2,y3,y4,y5,y6,y7,y8,y9⟩,z0,z1,z2,z3,z4,z5,z6,z7,z8,z9⟩:=aQ.out w1 hw1;have HW1:=ah hw1;clear hw1)))
  go_ret
  exact⟨rfl,bg.out.au HW2.out⟩
 have JY:=Qs e3
 have hall:tf (je dc af la (bG v0 v1 v2 v3) es ks c∧je dc af la (bG v0' v1' v2' dO) es' ks' c'∧Ap dc af la v0 v1 v2 v3 dc af la v0' v1' v2' dO es ks c es' ks' c')=tf ((es=es'∧ks=ks')∧c=c'):=kT ⟨fun h=>h.2.2.2.2.2.2,fun h=>⟨r1,r2,rfl,rfl,rfl,e3,h⟩⟩
 rw[hall]
 have hca:tf (fG es ks c∧fG es' ks' c'∧(es=es'∧ks=ks')∧c=c')=tf ((es=es'∧ks=ks')∧c=c'):=kT ⟨fun h=>h.2.2,fun h=>⟨r1.dD,r2.dD,h⟩⟩
 rw[hca]at HC
 clear hall hca r1 r2 e3
 generalize tf ((es=es'∧ks=ks')∧c=c')=y at*
 generalize es.length=n at*
 generalize ks.len=m at*
 generalize c.length=k at*
 generalize es'.length=n' at*
 generalize ks'.len=m' at*
 generalize c'.length=k' at*
 have bg:=ah ((aj.alloc ay w (.cells #[.int .i64 dc, .int .i64 af, .int .i64 la, .int .i64 v0, .int .i64 v1, .int .i64 v2, .int .i64 v3, .slice a0 n c0, .slice a1 m c1, .slice a2 k c2] 59)).alloc1 (o:= .cells #[.int .i64 dc, .int .i64 af, .int .i64 la, .int .i64 v0', .int .i64 v1', .int .i64 v2', .int .i64 dO, .slice b0 n' d0, .slice b1 m' d1, .slice b2 k' d2] 59))
 have aQ:=ah (rY w (.int .i64 dc) (.int .i64 af) (.int .i64 la) (.int .i64 v0) (.int .i64 v1) (.int .i64 v2) (.int .i64 v3) (.slice a0 n c0) (.slice a1 m c1) (.slice a2 k c2) (.int .i64 dc) (.int .i64 af) (.int .i64 la) (.int .i64 v0') (.int .i64 v1') (.int .i64 v2') (.int .i64 dO) (.slice b0 n' d0) (.slice b1 m' d1) (.slice b2 k' d2) 59)
 go_enter Tryz.func80,Tryz.ntmps80
 go_wp2_with(first
  |(go_at_call 83;first|(refine(HB.out _ (bg.out.au HW1.out)).mono ?_;rintro e w2 ⟨rfl,hw2⟩;clear y0 y1 y2 y3 y4 y5 y6 y7 y8 y9 z0 z1 z2 z3 z4 z5 z6 z7 z8 z9;obtain⟨⟨y0,y1,y2,y3,y4,y5,y6,y7,y8,y9⟩,z0,z1,z2,z3,z4,z5,z6,z7,z8,z9⟩:=aQ.out w2 (HW1.out.au hw2);have HW2:=ah (HW1.out.au hw2);clear hw2)|(refine(HA.out _ bg.out).mono ?_;rintro e w1 ⟨rfl,hw1⟩;obtain⟨⟨y0,y1,y2,y3,y4,y5,y6,y7,y8,y9⟩,z0,z1,z2,z3,z4,z5,z6,z7,z8,z9⟩:=aQ.out w1 hw1;have HW1:=ah hw1;clear hw1))
  |(go_at_call 29;refine(HC.out _ (bg.out.au HW2.out)).mono ?_;rintro e w3 ⟨rfl,hw3⟩;have HW3:=ah (HW2.out.au hw3);clear hw3))
 go_ret
 exact⟨rfl,bg.out.au HW3.out⟩
open Go.RowKit
def xI (dc af la v0 v1 v2 v3:Int) (es:List aG) (ks:aH) (c:aW):List UInt8:=bD dc++(bD af++(bD la++(iZ v0 v1 v2 v3++jf es ks c)))
structure dh where
 dc:Int
 af:Int
 la:Int
 v0:Int
 v1:Int
 v2:Int
 v3:Int
 es:List aG
 ks:aH
 c:aW
def dh.enc (b:dh):List UInt8:=xI b.dc b.af b.la b.v0 b.v1 b.v2 b.v3 b.es b.ks b.c
def dh.right (b:dh):Prop:=je b.dc b.af b.la (bG b.v0 b.v1 b.v2 b.v3) b.es b.ks b.c
def dh.zero:dh:=⟨0,0,0,0,0,0,0,[], .nil,[]⟩
theorem Qu {a b:dh} {x y:List UInt8} (h:a.enc++x=b.enc++y):a=b∧x=y:=by
 unfold dh.enc xI at h
 simp only[List.append_assoc]at h
 replace h:=jY h
 obtain⟨h1,h⟩:=h
 replace h:=jY h
 obtain⟨h2,h⟩:=h
 replace h:=jY h
 obtain⟨h3,h⟩:=h
 replace h:=JD h
 obtain⟨⟨h4,h5,h6,h7⟩,h⟩:=h
 replace h:=Jr h
 obtain⟨⟨⟨h8,h9⟩,h10⟩,h⟩:=h
 cases a
 cases b
 simp only at h1 h2 h3 h4 h5 h6 h7 h8 h9 h10
 subst h1 h2 h3 h4 h5 h6 h7 h8 h9 h10
 exact⟨rfl,h⟩
def jU (st:Option (List UInt8)) (b:dh) (s:Option (List UInt8)):Prop:=
 (∃rest,st=some (b.enc++rest)∧b.right∧s=some rest)∨(s=none∧b=dh.zero∧∀(b':dh) rest,st=some (b'.enc++rest)→¬b'.right)
theorem jU.bY {st s s':Option (List UInt8)} {a b:dh} (h:jU st a s) (k:jU st b s'):a=b∧s=s':=by
 rcases h with⟨r,h1,h2,h3⟩|⟨h1,h2,h3⟩<;>rcases k with⟨r',k1,k2,k3⟩|⟨k1,k2,k3⟩
 ·rw[h1]at k1
  injection k1 with k1
  obtain⟨e,rfl⟩:=Qu k1
  exact⟨e,by rw[h3,k3]⟩
 ·exact absurd h2 (k3 _ _ h1)
 ·exact absurd k2 (h3 _ _ k1)
 ·exact⟨by rw[h2,k2],by rw[h1,k1]⟩
theorem jU.total (st:Option (List UInt8)):∃b s,jU st b s:=by
 by_cases h:∃(b:dh) (rest:List UInt8),st=some (b.enc++rest)∧b.right
 ·obtain⟨b,rest,h1,h2⟩:=h
  exact⟨b,some rest, .inl ⟨rest,h1,h2,rfl⟩⟩
 ·exact⟨dh.zero,none, .inr ⟨rfl,rfl,fun b rest h1 h2=>h ⟨b,rest,h1,h2⟩⟩⟩
theorem YJ {m1 m2:Int} {st s1 s2 s3 s4:Option (List UInt8)} {b:dh} {r:List UInt8} (h1:b_ st m1 b.dc s1) (h2:b_ s1 m2 b.af s2) (h3:b_ s2 m2 b.la s3) (h4:jK s3 b.v0 b.v1 b.v2 b.v3 s4) (h5:kY s4 b.es b.ks b.c (some r)) (hr:b.right):jU st b (some r):=by
 rcases h5 with⟨r',rfl,_,h⟩|⟨h,_⟩
 ·injection h with h;subst h
  rcases h4 with⟨r2,rfl,_,h⟩|⟨h,_⟩
  ·injection h with h;subst h
   obtain⟨rfl,_⟩:=lI h3
   obtain⟨rfl,_⟩:=lI h2
   obtain⟨rfl,_⟩:=lI h1
   exact .inl ⟨r,by unfold dh.enc xI;simp only[List.append_assoc],hr,rfl⟩
  ·cases h
 ·cases h
theorem YK {m1 m2:Int} (hm1:4≤m1) (JZ:m1≤9223372036854775807) (hm2:1099511627776≤m2) (qU:m2≤9223372036854775807) {st s1 s2 s3 s4 s5:Option (List UInt8)} {b:dh} (h1:b_ st m1 b.dc s1) (h2:b_ s1 m2 b.af s2) (h3:b_ s2 m2 b.la s3) (h4:jK s3 b.v0 b.v1 b.v2 b.v3 s4) (h5:kY s4 b.es b.ks b.c s5)
 (hb:s5=none∨¬b.right):jU st dh.zero none:=by
 refine .inr ⟨rfl,rfl,fun b' rest hs hr=>?_⟩
 subst hs
 have hn:=je.nums hr
 obtain⟨n1,n2,n3,n4,n5,n6,n7⟩:=hn
 unfold dh.enc xI at h1
 simp only[List.append_assoc]at h1
 obtain⟨e1,rfl⟩:=h1.bY (iO _ ⟨by omega,by omega⟩ JZ)
 obtain⟨e2,rfl⟩:=h2.bY (iO _ ⟨by omega,by omega⟩ qU)
 obtain⟨e3,rfl⟩:=h3.bY (iO _ ⟨by omega,by omega⟩ qU)
 obtain⟨⟨e4,e5,e6,e7⟩,rfl⟩:=h4.bY (jK.make _ n7)
 obtain⟨⟨⟨e8,e9⟩,e10⟩,rfl⟩:=h5.bY (kY.make _ (je.dD hr))
 rcases hb with hb|hb
 ·cases hb
 ·cases b
  cases b'
  simp only at e1 e2 e3 e4 e5 e6 e7 e8 e9 e10
  subst e1 e2 e3 e4 e5 e6 e7 e8 e9 e10
  exact hb hr
def xJ (st:Option (List UInt8)):Prop:=∀(m1 m2 dc af la v0 v1 v2 v3:Int) (s1 s2 s3 s4:Option (List UInt8)),4≤m1→m1≤9223372036854775807→1099511627776≤m2→m2≤9223372036854775807→
 b_ st m1 dc s1→b_ s1 m2 af s2→b_ s2 m2 la s3→jK s3 v0 v1 v2 v3 s4→pY s4
theorem xJ.small {st:Option (List UInt8)} (hl:(leftOf st).length≤6000):xJ st:=fun m1 m2 dc af la v0 v1 v2 v3 s1 s2 s3 s4 _ _ _ _ g1 g2 g3 g4=> .small (by
 have q1:=g1.left
 have q2:=g2.left
 have q3:=g3.left
 have q4:=g4.left
 omega)
theorem xJ.known {b:dh} {r:List UInt8} (hr:b.right) (hk:fP b.es b.ks b.c):xJ (some (b.enc++r)):=fun m1 m2 dc af la v0 v1 v2 v3 s1 s2 s3 s4 hm1 JZ hm2 qU h1 h2 h3 h4=>by
 have hn:=je.nums hr
 obtain⟨n1,n2,n3,n4,n5,n6,n7⟩:=hn
 unfold dh.enc xI at h1
 simp only[List.append_assoc]at h1
 obtain⟨-,rfl⟩:=h1.bY (iO _ ⟨by omega,by omega⟩ JZ)
 obtain⟨-,rfl⟩:=h2.bY (iO _ ⟨by omega,by omega⟩ qU)
 obtain⟨-,rfl⟩:=h3.bY (iO _ ⟨by omega,by omega⟩ qU)
 obtain⟨-,rfl⟩:=h4.bY (jK.make _ n7)
 exact .known (je.dD hr) hk
theorem jU.okF {st s:Option (List UInt8)} {b:dh} (hf:xJ st) (h:jU st b s):fP b.es b.ks b.c:=by
 rcases h with⟨r,rfl,hr,rfl⟩|⟨rfl,rfl,_⟩
 ·obtain⟨n1,n2,n3,n4,n5,n6,n7⟩:=je.nums hr
  have hh:pY (some (jf b.es b.ks b.c++r)):=by
   unfold dh.enc xI at hf
   simp only[List.append_assoc]at hf
   exact hf 1099511627776 1099511627776 b.dc b.af b.la b.v0 b.v1 b.v2 b.v3 _ _ _ _ (by decide) (by decide) (by decide) (by decide) (iO _ ⟨by omega,by omega⟩ (by decide)) (iO _ ⟨by omega,by omega⟩ (by decide)) (iO _ ⟨by omega,by omega⟩ (by decide)) (jK.make _ n7)
  exact hh.ok (kY.make r (je.dD hr))
 ·exact⟨JM,Nat.zero_le _,(fun s hs=>by cases hs),Nat.zero_le _⟩
open Go.RowKit
def YL (x:Int):Int:=if x=102 then 1 else if x=115 then 2 else if x=99 then 3 else if x=114 then 4 else if x=109 then 5 else 0
def kindOf (s:ByteArray):Int:=if h:0<s.size then YL (s[0].toNat:Int)else 0
open Go.RowKit
def p1 (s:ByteArray):Bool:=decide (30<s.size)||(kindOf s==0)
def p2 (s:ByteArray):Bool:= !(kindOf s==5)
structure YM (b:Bool) (w:World) (e:Ending) (w':World):Prop where
 aP:aj ay w w'
 yes:b=true→∃k:Nat,e= .returned (.int .i64 k)
 no:b=false→e= .returned (.int .i64 (-1))
open Go.RowKit
structure aY where
 b:dh
 ev:Value
 kv:Value
 cv:Value
def aY.cells (p:aY):List Value:=[.int .i64 p.b.dc, .int .i64 p.b.af, .int .i64 p.b.la, .int .i64 p.b.v0, .int .i64 p.b.v1, .int .i64 p.b.v2, .int .i64 p.b.v3,p.ev,p.kv,p.cv]
def aY.zero:aY:=⟨dh.zero, .bool false, .bool false, .bool false⟩
def jV (ps:List aY):List Value:=ps.flatMap aY.cells
theorem Qv:∀(ps:List aY) (k:Nat),k<ps.length→∀i,i<10→(jV ps)[k*10+i]?=(ps.getD k aY.zero).cells[i]?
 |[],_,h,_,_=>by cases h
 |p::ps,0,_,i,hi=>by
  have e:jV (p::ps)=p.cells++jV ps:=rfl
  rw[e,Nat.zero_mul,Nat.zero_add,List.getElem?_append_left (by simpa[aY.cells]using hi)]
  rfl
 |p::ps,k+1,h,i,hi=>by
  have e:jV (p::ps)=p.cells++jV ps:=rfl
  have hl:p.cells.length=10:=rfl
  rw[e,show(k+1)*10+i=10+(k*10+i) by omega,List.getElem?_append_right (by rw[hl];omega),hl,Nat.add_sub_cancel_left]
  exact Qv ps k (by simpa using h) i hi
structure tZ (Q:Nat→Prop) (w:World) (v:Value) (ps:List aY):Prop where
 rd:Rd w v ps.length (jV ps)
 dD:∀p∈ps,fH Q w p.ev p.kv p.cv p.b.es p.b.ks p.b.c
theorem tZ.aO {Q:Nat→Prop} {w w':World} {v:Value} {ps:List aY} (h:tZ Q w v ps) (f:aj ay w w'):tZ Q w' v ps:=⟨Rd.aO h.rd f,fun p hp=>(h.dD p hp).aO f⟩
theorem wF {w:World} {b off c n:Nat} {ps:List aY} (h:Rd w (.slice (some ⟨b,off,none⟩) n c) n (jV ps)) (k:Nat) (hk:k<ps.length):
 w.cell? ⟨b,off+k*10,none⟩=some (.int .i64 (ps.getD k aY.zero).b.dc)∧w.cell? ⟨b,off+k*10+1,none⟩=some (.int .i64 (ps.getD k aY.zero).b.af)∧w.cell? ⟨b,off+k*10+2,none⟩=some (.int .i64 (ps.getD k aY.zero).b.la)∧
 w.cell? ⟨b,off+k*10+3,none⟩=some (.int .i64 (ps.getD k aY.zero).b.v0)∧w.cell? ⟨b,off+k*10+4,none⟩=some (.int .i64 (ps.getD k aY.zero).b.v1)∧w.cell? ⟨b,off+k*10+5,none⟩=some (.int .i64 (ps.getD k aY.zero).b.v2)∧w.cell? ⟨b,off+k*10+6,none⟩=some (.int .i64 (ps.getD k aY.zero).b.v3)∧
 w.cell? ⟨b,off+k*10+7,none⟩=some (ps.getD k aY.zero).ev∧w.cell? ⟨b,off+k*10+8,none⟩=some (ps.getD k aY.zero).kv∧w.cell? ⟨b,off+k*10+9,none⟩=some (ps.getD k aY.zero).cv:=
 have H:=Qv ps k hk
 ⟨h.cell (k*10) _ (H 0 (by omega)),h.cell (k*10+1) _ (H 1 (by omega)),h.cell (k*10+2) _ (H 2 (by omega)),h.cell (k*10+3) _ (H 3 (by omega)),h.cell (k*10+4) _ (H 4 (by omega)),h.cell (k*10+5) _ (H 5 (by omega)),h.cell (k*10+6) _ (H 6 (by omega)),h.cell (k*10+7) _ (H 7 (by omega)),h.cell (k*10+8) _ (H 8 (by omega)),h.cell (k*10+9) _ (H 9 (by omega))⟩
noncomputable def pW (p:aY):Bool:= !tf p.b.right
theorem J_ {p:aY→Bool} {ss:List aY} {k:Nat} (hk:k<ss.length):(ss.take (k+1)).any p=((ss.take k).any p||p (ss.getD k aY.zero)):=by
 rw[take_succ aY.zero hk,List.any_append]
 simp
theorem Ko {p:aY→Bool} {ss:List aY} {k:Nat} (hk:k<ss.length) (h:p (ss.getD k aY.zero)=true):ss.any p=true:=
 List.any_eq_true.2 ⟨_,getD_mem aY.zero hk,h⟩
theorem YN (Q:Nat→Prop) (es:List aG) (ks:aH) (c:aW) (w:World) (dc af la v0 v1 v2 v3:Int) (ev kv cv:Value) (h:fH Q w ev kv cv es ks c) (hok:fP es ks c):
 Calls Tryz.prog 129 #[.agg #[.int .i64 dc, .int .i64 af, .int .i64 la, .int .i64 v0, .int .i64 v1, .int .i64 v2, .int .i64 v3,ev,kv,cv]] w fun e w'=>e= .returned (.bool (!tf (je dc af la (bG v0 v1 v2 v3) es ks c)))∧aj ay w w':=by
 have HB:=ah (fun W (f:aj ay w W)=>B_ Q es ks c W dc af la v0 v1 v2 v3 ev kv cv (h.aO f) hok)
 obtain⟨a0,c0,a1,c1,a2,c2,rfl,rfl,rfl⟩:=h.shape
 clear h hok
 have aU:=ah (show aj ay w (w.alloc (.cells #[.int .i64 dc, .int .i64 af, .int .i64 la, .int .i64 v0, .int .i64 v1, .int .i64 v2, .int .i64 v3, .slice a0 es.length c0, .slice a1 ks.len c1, .slice a2 c.length c2] 59))from aj.alloc _ _ _)
 generalize tf (je dc af la (bG v0 v1 v2 v3) es ks c)=y at*
 generalize es.length=n at*
 generalize ks.len=m at*
 generalize c.length=k at*
 go_enter Tryz.func129,Tryz.ntmps129
 go_wp2_with(go_at_call 83;refine(HB.out _ aU.out).mono ?_;rintro e w1 ⟨rfl,hw1⟩;have HW1:=ah (aU.out.au hw1);clear hw1)
 go_ret
 exact⟨rfl,HW1.out⟩
theorem YO (Q:Nat→Prop) (ps:List aY) (w:World) (v:Value) (h:tZ Q w v ps) (hok:∀p∈ps,fP p.b.es p.b.ks p.b.c) (hl:ps.length≤100000):
 Calls Tryz.prog 175 #[v, .func (.func 129) #[] #[]] w (YM (ps.any pW) w):=by
 have eg:∀args w,(callFunc 129 args).run Tryz.prog w= .ok (.enter 129 args) w:=enters_of Tryz.func129 (by kernel_rfl) rfl
 have HP:=ah (fun p hp W (f:aj ay w W)=>YN Q p.b.es p.b.ks p.b.c W p.b.dc p.b.af p.b.la p.b.v0 p.b.v1 p.b.v2 p.b.v3 p.ev p.kv p.cv ((h.dD p hp).aO f) (hok p hp))
 have qc:=ah (fun p hp=>(h.dD p hp).shape)
 replace h:=h.rd
 clear hok
 rcases Rd.shape h with⟨ad,rfl,h0⟩|⟨b,off,c,rfl,hmax⟩
 ·have YP:=ah (show ps.any pW=false by rw[List.eq_nil_of_length_eq_zero h0];rfl)
  clear h h0
  go_enter Tryz.func175,Tryz.ntmps175
  go_wp2
  go_loop [8] (fun i=>i= .int .i64 0) (fun _=>0)
  case atStart=>rfl
  case round=>
   obtain rfl:=hrel
   go_wp2
   go_ret
   exact⟨aj.refl _ _,fun h=>(by rw[YP.out]at h;cases h),fun _=>rfl⟩
 ·have HH:=ah h;clear h
  generalize hn:ps.length=n at*
  have HN:=ah hn;clear hn
  go_enter Tryz.func175,Tryz.ntmps175
  go_wp2
  go_loopw [8] (fun i W=>∃k:Nat,k≤n∧i= .int .i64 k∧(ps.take k).any pW=false∧aj ay w W) (fun i _=>n-(intOf i).toNat)
  case atStart=>exact⟨0,Nat.zero_le _,rfl,by simp,aj.refl _ _⟩
  case round=>
   obtain⟨k,hk,rfl,ha,hw⟩:=hrel
   have qg:=ah ha;clear ha
   have HW:=ah hw;clear hw
   by_cases hlt:k<n
   ·have hlk:k<ps.length:=by rw[HN.out];exact hlt
    obtain⟨q0,q1,q2,q3,q4,q5,q6,q7,q8,q9⟩:=wF HH.out k hlk
    replace q0:=HW.out.cell' q0 id
    replace q1:=HW.out.cell' q1 id
    replace q2:=HW.out.cell' q2 id
    replace q3:=HW.out.cell' q3 id
    replace q4:=HW.out.cell' q4 id
    replace q5:=HW.out.cell' q5 id
    replace q6:=HW.out.cell' q6 id
    replace q7:=HW.out.cell' q7 id
    replace q8:=HW.out.cell' q8 id
    replace q9:=HW.out.cell' q9 id
    have hm:=getD_mem aY.zero hlk
    have HC:=ah (fun W f=>HP.out _ hm W f)
    obtain⟨a0,c0,a1,c1,a2,c2,e0,e1,e2⟩:=qc.out _ hm
    have HT:=ah (J_ (p:=pW) hlk)
    have HE:=ah (Ko (p:=pW) hlk)
    rw[e0]at q7
    rw[e1]at q8
    rw[e2]at q9
    rw[e0,e1,e2]at HC
    clear hm e0 e1 e2
    have hpw:pW (ps.getD k aY.zero)= !tf (je (ps.getD k aY.zero).b.dc (ps.getD k aY.zero).b.af (ps.getD k aY.zero).b.la (bG (ps.getD k aY.zero).b.v0 (ps.getD k aY.zero).b.v1 (ps.getD k aY.zero).b.v2 (ps.getD k aY.zero).b.v3) (ps.getD k aY.zero).b.es (ps.getD k aY.zero).b.ks (ps.getD k aY.zero).b.c):=rfl
    rw[←hpw]at HC
    clear hpw
    generalize pW (ps.getD k aY.zero)=y at*
    generalize (ps.getD k aY.zero).b.es.length=n0 at*
    generalize (ps.getD k aY.zero).b.ks.len=n1 at*
    generalize (ps.getD k aY.zero).b.c.length=n2 at*
    generalize (ps.getD k aY.zero).b.dc=x0 at*
    generalize (ps.getD k aY.zero).b.af=x1 at*
    generalize (ps.getD k aY.zero).b.la=x2 at*
    generalize (ps.getD k aY.zero).b.v0=x3 at*
    generalize (ps.getD k aY.zero).b.v1=x4 at*
    generalize (ps.getD k aY.zero).b.v2=x5 at*
    generalize (ps.getD k aY.zero).b.v3=x6 at*
    cases y with
    |true=>
     have HEX:=ah (HE.out rfl)
     clear HE HT
     go_wp2_with(go_at_call 129;refine(HC.out _ HW.out).mono ?_;rintro e w1 ⟨rfl,hw1⟩;have HW1:=ah (HW.out.au hw1);clear hw1)
     go_ret
     exact⟨HW1.out,fun _=>⟨k,rfl⟩,fun h=>(by rw[HEX.out]at h;cases h)⟩
    |false=>
     have Df:=ah (show(ps.take (k+1)).any pW=false by rw[HT.out,qg.out];rfl)
     clear HE HT
     go_wp2_with(go_at_call 129;refine(HC.out _ HW.out).mono ?_;rintro e w1 ⟨rfl,hw1⟩;have HW1:=ah (HW.out.au hw1);clear hw1)
     go_roundw
     case rel=>exact⟨k+1,by omega,by go_num,Df.out,HW1.out⟩
     case measure=>simp[intOf];omega
   ·have hnk:n=k:=by omega
    have hall:ps.any pW=false:=by
     have:=qg.out
     rwa [List.take_of_length_le (by rw[HN.out,hnk];exact Nat.le_refl _)]at this
    have qV:=ah hall;clear hall
    go_wp2
    go_ret
    exact⟨HW.out,fun h=>(by rw[qV.out]at h;cases h),fun _=>rfl⟩
theorem YQ (Q:Nat→Prop) (ps:List aY) (w:World) (v:Value) (h:tZ Q w v ps) (hok:∀p∈ps,fP p.b.es p.b.ks p.b.c) (hl:ps.length≤100000):
 Calls Tryz.prog 128 #[v, .func (.func 129) #[] #[]] w fun e w'=>e= .returned (.bool (ps.any pW))∧aj ay w w':=by
 have HI:=ah (YO Q ps w v h hok hl)
 obtain⟨a,c,rfl⟩:=h.rd.sl
 clear h hok
 generalize ps.length=n at*
 cases ha:ps.any pW with
 |true=>
  have HA:=ah ha;clear ha
  go_enter Tryz.func128,Tryz.ntmps128
  go_wp2_with(go_at_call 175;refine HI.out.mono ?_;rintro e w1 ⟨hw1,hy,-⟩;obtain⟨k,he⟩:=hy HA.out;subst he;have HW1:=ah hw1;clear hw1 hy)
  go_ret
  exact⟨by first|rfl|(simp;omega),HW1.out⟩
 |false=>
  have HA:=ah ha;clear ha
  go_enter Tryz.func128,Tryz.ntmps128
  go_wp2_with(go_at_call 175;refine HI.out.mono ?_;rintro e w1 ⟨hw1,-,hy⟩;have he:=hy HA.out;subst he;have HW1:=ah hw1;clear hw1 hy)
  go_ret
  exact⟨by first|rfl|(simp;omega),HW1.out⟩
theorem Qw (n:Int) (w:World):Calls Tryz.prog 127 #[.int .i64 n] w fun e w'=>e= .returned (.bool (decide (0≤n∧n<4)))∧w'=w:=by
 by_cases h0:0≤n
 ·by_cases h4:n<4
  ·rw[decide_eq_true (show 0≤n∧n<4 from⟨h0,h4⟩)]
   go_enter Tryz.func127,Tryz.ntmps127
   go_wp2
   go_ret
   exact⟨rfl,rfl⟩
  ·rw[decide_eq_false (show ¬(0≤n∧n<4)from fun h=>h4 h.2)]
   go_enter Tryz.func127,Tryz.ntmps127
   go_wp2
   go_ret
   exact⟨rfl,rfl⟩
 ·rw[decide_eq_false (show ¬(0≤n∧n<4)from fun h=>h0 h.1)]
  go_enter Tryz.func127,Tryz.ntmps127
  go_wp2
  go_ret
  exact⟨rfl,rfl⟩
open Go.RowKit
def nD (f:Int→Int):Array Value:= #[.int .i64 (f 0), .int .i64 (f 1), .int .i64 (f 2), .int .i64 (f 3)]
theorem YR (f:Int→Int) {k:Nat} (h:k<4):(nD f)[k]?=some (.int .i64 (f k)):=by
 rcases(by omega:k=0∨k=1∨k=2∨k=3)with rfl|rfl|rfl|rfl<;>rfl
theorem YS (f:Int→Int) {k:Nat} (h:k<4) (x:Int):(nD f).setIfInBounds k (.int .i64 x)=nD (gu f k x):=by
 rcases(by omega:k=0∨k=1∨k=2∨k=3)with rfl|rfl|rfl|rfl<;>simp[nD,gu]
theorem YT {f g:Int→Int} (h:∀d,0≤d→d<4→f d=g d):nD f=nD g:=by
 unfold nD
 rw[h 0 (by decide) (by decide),h 1 (by decide) (by decide),h 2 (by decide) (by decide),h 3 (by decide) (by decide)]
def lV (w:World) (g:Nat) (f:Int→Int) (T:TypeId):Prop:=w.heap[g]?=some (.cells (nD f) T (0,0))
theorem lV.cell {w:World} {g:Nat} {f:Int→Int} {T:TypeId} (h:lV w g f T) {k:Nat} (hk:k<4):w.cell? ⟨g,k,none⟩=some (.int .i64 (f k)):=aC h k (YR f hk)
theorem lV.free {w:World} {g:Nat} {f:Int→Int} {T:TypeId} (h:lV w g f T) (k:Nat):w.frozen? ⟨g,k,none⟩=false:=bf h k
theorem lV.set {w:World} {g:Nat} {f:Int→Int} {T:TypeId} (h:lV w g f T) {k:Nat} (hk:k<4) (x:Int):lV (w.setCell ⟨g,k,none⟩ (.int .i64 x)) g (gu f k x) T:=by
 have:=bJ h k (.int .i64 x)
 rw[YS f hk]at this
 exact this
theorem lV.keep {w w':World} {g:Nat} {f:Int→Int} {T:TypeId} (h:lV w g f T) (fr:aj ay w w'):lV w' g f T:=fr.blk h id
theorem lV.congr {w:World} {g:Nat} {f f':Int→Int} {T:TypeId} (h:lV w g f T) (he:∀d,0≤d→d<4→f d=f' d):lV w g f' T:=by
 unfold lV at*
 rw[←YT he]
 exact h
theorem lV.Dh {w:World} {b:Nat} {f:Int→Int} {T:TypeId} (h:lV w b f T) (g:Int→Int):lV ((((w.setCell ⟨b,0,none⟩ (.int .i64 (g 0))).setCell ⟨b,1,none⟩ (.int .i64 (g 1))).setCell ⟨b,2,none⟩ (.int .i64 (g 2))).setCell ⟨b,3,none⟩ (.int .i64 (g 3))) b g T:=
 bJ (bJ (bJ (bJ h 0 _) 1 _) 2 _) 3 _
theorem aj.Dh {w0 w:World} {b:Nat} (f:aj ay w0 w) (hb:w0.heap.size≤b) (v0 v1 v2 v3:Value):aj ay w0 ((((w.setCell ⟨b,0,none⟩ v0).setCell ⟨b,1,none⟩ v1).setCell ⟨b,2,none⟩ v2).setCell ⟨b,3,none⟩ v3):=
 (((f.set1 (p:=⟨b,0,none⟩) (.inr hb)).set1 (p:=⟨b,1,none⟩) (.inr hb)).set1 (p:=⟨b,2,none⟩) (.inr hb)).set1 (p:=⟨b,3,none⟩) (.inr hb)
open Go.RowKit
def wG (f:Int→Int) (k:Nat) (d:Int):Int:=if d<k then f d else 0
theorem Qx (f:Int→Int) (k:Nat) (d:Int):gu (wG f k) k (f k) d=wG f (k+1) d:=by
 unfold gu wG
 by_cases h:d=k
 ·subst h;simp;intro h3;omega
 ·rw[if_neg h]
  by_cases h2:d<k
  ·rw[if_pos h2,if_pos (by omega)]
  ·rw[if_neg h2,if_neg (by omega)]
theorem Qy (f:Int→Int) {d:Int} (h:d<4):wG f 4 d=f d:=by unfold wG;exact if_pos (by omega)
structure qW (w w1 ww:World) (f:Int→Int) (T:TypeId):Prop where
 a:lV ww (w.heap.size+1) f T
 r:lV ww w.heap.size (fun _=>0) T
 aP:aj ay w ww
 old:aj (fun b=>b=w.heap.size+1) w1 ww
theorem qW.keep {w w1 ww w':World} {f:Int→Int} {T:TypeId} (h:qW w w1 ww f T) (fr:aj ay ww w'):qW w w1 w' f T:=⟨h.a.keep fr,h.r.keep fr,h.aP.au fr,h.old.au fr⟩
theorem qW.set {w w1 ww:World} {f:Int→Int} {T:TypeId} (h:qW w w1 ww f T) {k:Nat} (hk:k<4) (x:Int):qW w w1 (ww.setCell ⟨w.heap.size+1,k,none⟩ (.int .i64 x)) (gu f k x) T:=
 ⟨h.a.set hk x,(zU (by omega)).trans h.r,h.aP.set1 (.inr (Nat.le_succ _)),h.old.set1 (.inl rfl)⟩
theorem qW.congr {w w1 ww:World} {f f':Int→Int} {T:TypeId} (h:qW w w1 ww f T) (he:∀d,0≤d→d<4→f d=f' d):qW w w1 ww f' T:=⟨h.a.congr he,h.r,h.aP,h.old⟩
end Go.Proofs.YtabkpccdnkjoiaaGreat
