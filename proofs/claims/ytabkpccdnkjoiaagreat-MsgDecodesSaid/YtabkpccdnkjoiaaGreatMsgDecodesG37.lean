/- Words for the law MsgDecodes: R25Same. -/
import Derived.Test.YtabkpccdnkjoiaaGreatMsgDecodesG0
import Derived.Test.YtabkpccdnkjoiaaGreatMsgDecodesG36
set_option linter.unusedSimpArgs false
set_option linter.unusedVariables false
set_option maxHeartbeats 32000000
set_option maxRecDepth 1000000
namespace Go.Proofs.YtabkpccdnkjoiaaGreat
open Go.RowKit
theorem aeI (w:World) (u0 u1 u2 u3 u4 u5 u6 u7 u8 u9 u10 x0 x1 x2 x3 x4 x5 x6 x7 x8 x9 x10:Value) (T:TypeId) (W:World) (f:aj ay ((w.alloc (.cells #[u0,u1,u2,u3,u4,u5,u6,u7,u8,u9,u10] T)).alloc (.cells #[x0,x1,x2,x3,x4,x5,x6,x7,x8,x9,x10] T)) W):
 (W.cell? ⟨w.heap.size,0,none⟩=some u0∧W.cell? ⟨w.heap.size,1,none⟩=some u1∧W.cell? ⟨w.heap.size,2,none⟩=some u2∧W.cell? ⟨w.heap.size,3,none⟩=some u3∧W.cell? ⟨w.heap.size,4,none⟩=some u4∧W.cell? ⟨w.heap.size,5,none⟩=some u5∧W.cell? ⟨w.heap.size,6,none⟩=some u6∧W.cell? ⟨w.heap.size,7,none⟩=some u7∧W.cell? ⟨w.heap.size,8,none⟩=some u8∧W.cell? ⟨w.heap.size,9,none⟩=some u9∧W.cell? ⟨w.heap.size,10,none⟩=some u10)∧W.cell? ⟨w.heap.size+1,0,none⟩=some x0∧W.cell? ⟨w.heap.size+1,1,none⟩=some x1∧W.cell? ⟨w.heap.size+1,2,none⟩=some x2∧W.cell? ⟨w.heap.size+1,3,none⟩=some x3∧W.cell? ⟨w.heap.size+1,4,none⟩=some x4∧W.cell? ⟨w.heap.size+1,5,none⟩=some x5∧W.cell? ⟨w.heap.size+1,6,none⟩=some x6∧W.cell? ⟨w.heap.size+1,7,none⟩=some x7∧W.cell? ⟨w.heap.size+1,8,none⟩=some x8∧W.cell? ⟨w.heap.size+1,9,none⟩=some x9∧W.cell? ⟨w.heap.size+1,10,none⟩=some x10:=by
 have h0:((w.alloc (.cells #[u0,u1,u2,u3,u4,u5,u6,u7,u8,u9,u10] T)).alloc (.cells #[x0,x1,x2,x3,x4,x5,x6,x7,x8,x9,x10] T)).heap[w.heap.size]?=some (.cells #[u0,u1,u2,u3,u4,u5,u6,u7,u8,u9,u10] T (0,0)):=by rw[Below.heap_alloc _ _ _ (by simp)];exact heap_alloc_new w _
 have h1:((w.alloc (.cells #[u0,u1,u2,u3,u4,u5,u6,u7,u8,u9,u10] T)).alloc (.cells #[x0,x1,x2,x3,x4,x5,x6,x7,x8,x9,x10] T)).heap[w.heap.size+1]?=some (.cells #[x0,x1,x2,x3,x4,x5,x6,x7,x8,x9,x10] T (0,0)):=by
  have:=heap_alloc_new (w.alloc (.cells #[u0,u1,u2,u3,u4,u5,u6,u7,u8,u9,u10] T)) (.cells #[x0,x1,x2,x3,x4,x5,x6,x7,x8,x9,x10] T)
  simpa using this
 exact⟨⟨f.cell' (au h0 0 rfl) id,f.cell' (au h0 1 rfl) id,f.cell' (au h0 2 rfl) id,f.cell' (au h0 3 rfl) id,f.cell' (au h0 4 rfl) id,f.cell' (au h0 5 rfl) id,f.cell' (au h0 6 rfl) id,f.cell' (au h0 7 rfl) id,f.cell' (au h0 8 rfl) id,f.cell' (au h0 9 rfl) id,f.cell' (au h0 10 rfl) id⟩,f.cell' (au h1 0 rfl) id,f.cell' (au h1 1 rfl) id,f.cell' (au h1 2 rfl) id,f.cell' (au h1 3 rfl) id,f.cell' (au h1 4 rfl) id,f.cell' (au h1 5 rfl) id,f.cell' (au h1 6 rfl) id,f.cell' (au h1 7 rfl) id,f.cell' (au h1 8 rfl) id,f.cell' (au h1 9 rfl) id,f.cell' (au h1 10 rfl) id⟩
theorem aeJ {a0 a1 a2 a3 b0 b1 b2 b3:Int} (h:¬(a0=b0∧a1=b1∧a2=b2∧a3=b3)) (W:World):(binOp .neq 25 (.agg #[.int .i64 a0, .int .i64 a1, .int .i64 a2, .int .i64 a3]) (.agg #[.int .i64 b0, .int .i64 b1, .int .i64 b2, .int .i64 b3])).run Tryz.prog W= .ok (.bool true) W:=by
 have h1:((a0==b0)&&((a1==b1)&&((a2==b2)&&(a3==b3))))=false:=by
  rw[Bool.eq_false_iff]
  intro hh
  simp only[Bool.and_eq_true,beq_iff_eq]at hh
  exact h hh
 simp[binOp,NU,h1]
theorem aeK (a0 a1 a2 a3:Int) (W:World):(binOp .neq 25 (.agg #[.int .i64 a0, .int .i64 a1, .int .i64 a2, .int .i64 a3]) (.agg #[.int .i64 a0, .int .i64 a1, .int .i64 a2, .int .i64 a3])).run Tryz.prog W= .ok (.bool false) W:=by
 simp[binOp,NU]
theorem aeL (Q Q':Nat→Prop) (a b:bW) (ps qs:List aZ) (w:World) (lv ev kv cv nS ev' kv' cv':Value) (h:mZ Q w a ps lv ev kv cv) (g:mZ Q' w b qs nS ev' kv' cv') (hok:kZ a) (PW:kZ b):
 Calls Tryz.prog 15 #[a.ag lv ev kv cv,b.ag nS ev' kv' cv'] w fun e w'=>e= .returned (.bool (tf (a=b)))∧aj ay w w':=by
 have hoe:∀p∈ps,jd p.b.es p.b.ks p.b.c:=fun p hp=>hok.each p.b (h.eq▸List.mem_map.2 ⟨p,hp,rfl⟩)
 have XE:∀p∈qs,jd p.b.es p.b.ks p.b.c:=fun p hp=>PW.each p.b (g.eq▸List.mem_map.2 ⟨p,hp,rfl⟩)
 have HB:=ah (fun p hp q hq W (f:aj ay w W)=>(show Calls Tryz.prog 69 #[.agg #[.int .i64 p.b.dc, .int .i64 p.b.af, .int .i64 p.b.la, .int .i64 p.b.v0, .int .i64 p.b.v1, .int .i64 p.b.v2, .int .i64 p.b.v3,p.ev,p.kv,p.cv], .agg #[.int .i64 q.b.dc, .int .i64 q.b.af, .int .i64 q.b.la, .int .i64 q.b.v0, .int .i64 q.b.v1, .int .i64 q.b.v2, .int .i64 q.b.v3,q.ev,q.kv,q.cv]] W fun e w'=>e= .returned (.bool (wW p q))∧aj ay W w' from aeG Q Q' p.b.es p.b.ks p.b.c q.b.es q.b.ks q.b.c W p.b.dc p.b.af p.b.la p.b.v0 p.b.v1 p.b.v2 p.b.v3 q.b.dc q.b.af q.b.la q.b.v0 q.b.v1 q.b.v2 q.b.v3 p.ev p.kv p.cv q.ev q.kv q.cv ((h.bs.eX p hp).aJ f) (hoe p hp) ((g.bs.eX q hq).aJ f) (XE q hq)))
 have wM:=ah (fun p hp=>(h.bs.eX p hp).shape)
 have GSH:=ah (fun p hp=>(g.bs.eX p hp).shape)
 have rY:=ah (fun W (f:aj ay w W)=>Ot Q Q' a.es a.ks a.c b.es b.ks b.c W ev kv cv ev' kv' cv' (h.eX.aJ f) hok.st (g.eX.aJ f) PW.st)
 have HD:=ah (show(a=b)↔a.kind=b.kind∧a.fr=b.fr∧a.tt=b.tt∧(a.v0=b.v0∧a.v1=b.v1∧a.v2=b.v2∧a.v3=b.v3)∧ps.length=qs.length∧((a.es=b.es∧a.ks=b.ks)∧a.c=b.c)∧Eb wW ps qs=true by
  have hh:=h.eq
  have gg:=g.eq
  constructor
  ·rintro rfl
   have hl:ps.length=qs.length:=by rw[h.len,g.len]
   exact⟨rfl,rfl,rfl,⟨rfl,rfl,rfl,rfl⟩,hl,⟨⟨rfl,rfl⟩,rfl⟩,(XD hl).2 (by rw[hh,gg])⟩
  ·rintro⟨k1,k2,k3,⟨k4,k5,k6,k7⟩,hl,⟨⟨k9,k10⟩,k11⟩,hb⟩
   rw[XD hl,hh,gg]at hb
   cases a
   cases b
   simp only at k1 k2 k3 k4 k5 k6 k7 k9 k10 k11 hb
   subst k1 k2 k3 k4 k5 k6 k7 k9 k10 k11 hb
   rfl)
 have hlp:ps.length≤100:=by rw[h.len];exact hok.len
 generalize (a=b)=P at*
 generalize ((a.es=b.es∧a.ks=b.ks)∧a.c=b.c)=PC at*
 obtain⟨kind,fr,tt,v0,v1,v2,v3,bs,es,ks,c⟩:=a
 obtain⟨kind',fr',GU,v0',v1',v2',kG,bs',es',ks',c'⟩:=b
 dsimp only at HD
 dsimp only[bW.ag]
 obtain⟨a0,c0,a1,c1,a2,c2,rfl,rfl,rfl⟩:=h.eX.shape
 obtain⟨b0,d0,b1,d1,b2,d2,rfl,rfl,rfl⟩:=g.eX.shape
 have hrd:=h.bs.rd
 have grd:=g.bs.rd
 obtain⟨al,cl,rfl⟩:=h.bs.rd.sl
 obtain⟨bl,dl,rfl⟩:=g.bs.rd.sl
 have HH:=ah hrd;clear hrd
 have GG:=ah grd;clear grd
 clear h g hok PW hoe XE
 (try dsimp only at rY)
 have bF:=ah (fun W f=>aeI w (.int .i64 kind) (.int .i64 fr) (.int .i64 tt) (.int .i64 v0) (.int .i64 v1) (.int .i64 v2) (.int .i64 v3) (.slice al ps.length cl) (.slice a0 es.length c0) (.slice a1 ks.len c1) (.slice a2 c.length c2) (.int .i64 kind') (.int .i64 fr') (.int .i64 GU) (.int .i64 v0') (.int .i64 v1') (.int .i64 v2') (.int .i64 kG) (.slice bl qs.length dl) (.slice b0 es'.length d0) (.slice b1 ks'.len d1) (.slice b2 c'.length d2) 42 W f)
 (try dsimp only at bF)
 have HAT:=ah (fun j (hj:j<ps.length)=>aeE (f:=wW) (ps:=ps) (qs:=qs) hj)
 have DL:=ah (fun(hj:∀j,j<ps.length→wW (ps.getD j aZ.zero) (qs.getD j aZ.zero)=true)=>PU.2 hj)
 generalize Eb wW ps qs=R at*
 generalize hn:ps.length=ln at*
 have HN:=ah hn;clear hn
 generalize hn2:qs.length=GX at*
 have HN2:=ah hn2;clear hn2
 generalize es.length=n at*
 generalize ks.len=m at*
 generalize c.length=k at*
 generalize es'.length=n' at*
 generalize ks'.len=m' at*
 generalize c'.length=k' at*
 have bD:=ah (show aj ay w ((w.alloc (.cells #[.int .i64 kind, .int .i64 fr, .int .i64 tt, .int .i64 v0, .int .i64 v1, .int .i64 v2, .int .i64 v3, .slice al ln cl, .slice a0 n c0, .slice a1 m c1, .slice a2 k c2] 42)).alloc (.cells #[.int .i64 kind', .int .i64 fr', .int .i64 GU, .int .i64 v0', .int .i64 v1', .int .i64 v2', .int .i64 kG, .slice bl GX dl, .slice b0 n' d0, .slice b1 m' d1, .slice b2 k' d2] 42))from(aj.alloc _ _ _).aC (aj.alloc _ _ _))
 by_cases h1:kind=kind'
 rotate_left 1
 ·rw[bf (show ¬P from fun h=>h1 (HD.out.1 h).1)]
  have h1':((kind:Int)==kind')=false:=beq_false_of_ne h1
  have XF:((kind:Int) !=kind')=true:=by rw[bne,h1'];rfl
  clear HD h1
  go_enter Tryz.func15,Tryz.ntmps15
  go_wp2
  go_ret
  exact⟨rfl,bD.out⟩
 subst h1
 by_cases h2:fr=fr'
 rotate_left 1
 ·rw[bf (show ¬P from fun h=>h2 (HD.out.1 h).2.1)]
  have h1':((fr:Int)==fr')=false:=beq_false_of_ne h2
  have XF:((fr:Int) !=fr')=true:=by rw[bne,h1'];rfl
  clear HD h2
  go_enter Tryz.func15,Tryz.ntmps15
  go_wp2
  go_ret
  exact⟨rfl,bD.out⟩
 subst h2
 by_cases h3:tt=GU
 rotate_left 1
 ·rw[bf (show ¬P from fun h=>h3 (HD.out.1 h).2.2.1)]
  have h1':((tt:Int)==GU)=false:=beq_false_of_ne h3
  have XF:((tt:Int) !=GU)=true:=by rw[bne,h1'];rfl
  clear HD h3
  go_enter Tryz.func15,Tryz.ntmps15
  go_wp2
  go_ret
  exact⟨rfl,bD.out⟩
 subst h3
 by_cases h4:v0=v0'∧v1=v1'∧v2=v2'∧v3=kG
 rotate_left 1
 ·rw[bf (show ¬P from fun h=>h4 (HD.out.1 h).2.2.2.1)]
  have zy:=aeJ h4
  clear HD h4
  go_enter Tryz.func15,Tryz.ntmps15
  go_wp2
  go_ret
  exact⟨rfl,bD.out⟩
 obtain⟨rfl,rfl,rfl,rfl⟩:=h4
 have zy:=aeK v0 v1 v2 v3
 by_cases h5:ln=GX
 rotate_left 1
 ·rw[bf (show ¬P from fun h=>h5 (HD.out.1 h).2.2.2.2.1)]
  have XG:¬((ln:Int)=(GX:Int)):=by omega
  have h5':((ln:Int)==(GX:Int))=false:=beq_false_of_ne XG
  have h5a:((ln:Int) !=(GX:Int))=true:=by rw[bne,h5'];rfl
  clear HD h5 XG
  go_enter Tryz.func15,Tryz.ntmps15
  go_wp2
  go_ret
  exact⟨rfl,bD.out⟩
 subst h5
 by_cases h6:PC
 rotate_left 1
 ·rw[bf (show ¬P from fun h=>h6 (HD.out.1 h).2.2.2.2.2.1)]
  rw[bf h6]at rY
  clear HD h6
  go_enter Tryz.func15,Tryz.ntmps15
  go_wp2_with(first
   |(go_at_call 40;refine(rY.out _ bD.out).mono ?_;rintro e w1 ⟨rfl,hw1⟩;obtain⟨⟨y0,y1,y2,y3,y4,y5,y6,y7,y8,y9,aY⟩,z0,z1,z2,z3,z4,z5,z6,z7,z8,z9,z10⟩:=bF.out w1 hw1;have hlb:=World.block_lt_of_cell? _ _ y0;have hlc:=World.block_lt_of_cell? _ _ z0;have HW1:=ah hw1;clear hw1))
  go_ret
  exact⟨rfl,bD.out.aC HW1.out⟩
 rw[dO h6]at rY
 rw[show tf P=R from by
  cases R with
  |true=>exact dO (HD.out.2 ⟨rfl,rfl,rfl,⟨rfl,rfl,rfl,rfl⟩,rfl,h6,rfl⟩)
  |false=>exact bf fun h=>by have:=(HD.out.1 h).2.2.2.2.2.2;cases this]
 clear HD h6
 go_enter Tryz.func15,Tryz.ntmps15
 go_wp2_with(go_at_call 40;refine(rY.out _ bD.out).mono ?_;rintro e w1 ⟨rfl,hw1⟩;obtain⟨⟨y0,y1,y2,y3,y4,y5,y6,y7,y8,y9,aY⟩,z0,z1,z2,z3,z4,z5,z6,z7,z8,z9,z10⟩:=bF.out w1 hw1;have hlb:=World.block_lt_of_cell? _ _ y0;have hlc:=World.block_lt_of_cell? _ _ z0;have HW1:=ah hw1;clear hw1)
 clear y0 y1 y2 y3 y4 y5 y6 y7 y8 y9 aY z0 z1 z2 z3 z4 z5 z6 z7 z8 z9 z10 hlb hlc
 go_loopw [52] (fun i W=>∃q:Nat,q≤ln∧i= .int .i64 q∧(∀j,j<q→wW (ps.getD j aZ.zero) (qs.getD j aZ.zero)=true)∧aj ay ((w.alloc (.cells #[.int .i64 kind, .int .i64 fr, .int .i64 tt, .int .i64 v0, .int .i64 v1, .int .i64 v2, .int .i64 v3, .slice al ln cl, .slice a0 n c0, .slice a1 m c1, .slice a2 k c2] 42)).alloc (.cells #[.int .i64 kind, .int .i64 fr, .int .i64 tt, .int .i64 v0, .int .i64 v1, .int .i64 v2, .int .i64 v3, .slice bl ln dl, .slice b0 n' d0, .slice b1 m' d1, .slice b2 k' d2] 42)) W) (fun i _=>ln-(intOf i).toNat)
 case atStart=>exact⟨0,Nat.zero_le _,rfl,fun j hj=>absurd hj (Nat.not_lt_zero _),HW1.out⟩
 case round=>
  obtain⟨q,hq,rfl,ha,hw⟩:=hrel
  have zu:=ah ha;clear ha
  have HW:=ah hw;clear hw
  clear HW1
  obtain⟨⟨y0,y1,y2,y3,y4,y5,y6,y7,y8,y9,aY⟩,z0,z1,z2,z3,z4,z5,z6,z7,z8,z9,z10⟩:=bF.out wr HW.out;have hlb:=World.block_lt_of_cell? _ _ y0;have hlc:=World.block_lt_of_cell? _ _ z0
  by_cases hlt:q<ln
  ·have hlk:q<ps.length:=by rw[HN.out];exact hlt
   have hlq:q<qs.length:=by rw[HN2.out];exact hlt
   have hrd:=HH.out.aJ (bD.out.aC HW.out)
   have grd:=GG.out.aJ (bD.out.aC HW.out)
   rcases Rd.shape hrd with⟨ad,he,h0⟩|⟨e,off,cc,he,hmax⟩
   ·exfalso;omega
   rcases Rd.shape grd with⟨ad,he',h0⟩|⟨e',off',cc',he',afD⟩
   ·exfalso;omega
   injection he with e1 e2 e3
   subst e1 e3
   clear e2
   injection he' with e1 e2 e3
   subst e1 e3
   clear e2
   obtain⟨q0,q1,q2,q3,q4,q5,q6,q7,q8,q9⟩:=Dz hrd q hlk
   obtain⟨r0,r1,r2,r3,r4,r5,r6,r7,r8,r9⟩:=Dz grd q hlq
   clear hrd grd
   have hm:=getD_mem aZ.zero hlk
   have gm:=getD_mem aZ.zero hlq
   have hbc:=HB.out _ hm _ gm
   have hsh:=wM.out _ hm
   have PX:=GSH.out _ gm
   have hat:=HAT.out q hlt
   have HST:=ah (fun(he:wW (ps.getD q aZ.zero) (qs.getD q aZ.zero)=true)=>(show ∀j,j<q+1→wW (ps.getD j aZ.zero) (qs.getD j aZ.zero)=true from fun j hj=>by
    rcases Nat.lt_or_ge j q with h|h
    ·exact zu.out j h
    ·rw[show j=q by omega];exact he))
   clear hm gm
   generalize wW (ps.getD q aZ.zero) (qs.getD q aZ.zero)=y at*
   obtain⟨p,hgd⟩:∃p,p=ps.getD q aZ.zero:=⟨_,rfl⟩
   obtain⟨o,PY⟩:∃o,o=qs.getD q aZ.zero:=⟨_,rfl⟩
   rw[←hgd]at q0 q1 q2 q3 q4 q5 q6 q7 q8 q9 hsh
   rw[←PY]at r0 r1 r2 r3 r4 r5 r6 r7 r8 r9 PX
   rw[←hgd,←PY]at hbc
   clear hgd PY
   obtain⟨⟨dc,af,la,u0,u1,u2,u3,e3s,k3s,c3s⟩,ev',kv',cv'⟩:=p
   obtain⟨⟨dd,ag,lb,x0,x1,x2,x3,ep,kp,cp⟩,ew,kw,cw⟩:=o
   dsimp only at q0 q1 q2 q3 q4 q5 q6 q7 q8 q9 r0 r1 r2 r3 r4 r5 r6 r7 r8 r9 hbc hsh PX
   obtain⟨a3,c3,a4,c4,a5,c5,rfl,rfl,rfl⟩:=hsh
   obtain⟨b3,d3,b4,d4,b5,d5,rfl,rfl,rfl⟩:=PX
   have uh:=ah hbc;clear hbc
   have PZ:=ah hat;clear hat
   generalize e3s.length=n1 at*
   generalize k3s.len=n2 at*
   generalize c3s.length=n3 at*
   generalize ep.length=n4 at*
   generalize kp.len=n5 at*
   generalize cp.length=n6 at*
   cases y with
   |false=>
    have HTF:=ah (PZ.out rfl)
    clear PZ HST
    obtain⟨α,hne,K,hK1,hK0,hK2⟩:=worlds wr
    have iy:=ah (fun s=>HW.out.aC (hK1 s))
    go_wp2_with fail
    have kq:=fun s=>(⟨(hK1 s).cell' y7 id,(hK1 s).cell' z7 id,(hK1 s).cell' q0 id,(hK1 s).cell' q1 id,(hK1 s).cell' q2 id,(hK1 s).cell' q3 id,(hK1 s).cell' q4 id,(hK1 s).cell' q5 id,(hK1 s).cell' q6 id,(hK1 s).cell' q7 id,(hK1 s).cell' q8 id,(hK1 s).cell' q9 id,(hK1 s).cell' r0 id,(hK1 s).cell' r1 id,(hK1 s).cell' r2 id,(hK1 s).cell' r3 id,(hK1 s).cell' r4 id,(hK1 s).cell' r5 id,(hK1 s).cell' r6 id,(hK1 s).cell' r7 id,(hK1 s).cell' r8 id,(hK1 s).cell' r9 id⟩:(K s).cell? ⟨w.heap.size,7,none⟩=some (.slice (some ⟨e,off,none⟩) ln cl)∧(K s).cell? ⟨w.heap.size+1,7,none⟩=some (.slice (some ⟨e',off',none⟩) ln dl)∧(K s).cell? ⟨e,off+q*10,none⟩=some (.int .i64 dc)∧(K s).cell? ⟨e,off+q*10+1,none⟩=some (.int .i64 af)∧(K s).cell? ⟨e,off+q*10+2,none⟩=some (.int .i64 la)∧(K s).cell? ⟨e,off+q*10+3,none⟩=some (.int .i64 u0)∧(K s).cell? ⟨e,off+q*10+4,none⟩=some (.int .i64 u1)∧(K s).cell? ⟨e,off+q*10+5,none⟩=some (.int .i64 u2)∧(K s).cell? ⟨e,off+q*10+6,none⟩=some (.int .i64 u3)∧(K s).cell? ⟨e,off+q*10+7,none⟩=some (.slice a3 n1 c3)∧(K s).cell? ⟨e,off+q*10+8,none⟩=some (.slice a4 n2 c4)∧(K s).cell? ⟨e,off+q*10+9,none⟩=some (.slice a5 n3 c5)∧(K s).cell? ⟨e',off'+q*10,none⟩=some (.int .i64 dd)∧(K s).cell? ⟨e',off'+q*10+1,none⟩=some (.int .i64 ag)∧(K s).cell? ⟨e',off'+q*10+2,none⟩=some (.int .i64 lb)∧(K s).cell? ⟨e',off'+q*10+3,none⟩=some (.int .i64 x0)∧(K s).cell? ⟨e',off'+q*10+4,none⟩=some (.int .i64 x1)∧(K s).cell? ⟨e',off'+q*10+5,none⟩=some (.int .i64 x2)∧(K s).cell? ⟨e',off'+q*10+6,none⟩=some (.int .i64 x3)∧(K s).cell? ⟨e',off'+q*10+7,none⟩=some (.slice b3 n4 d3)∧(K s).cell? ⟨e',off'+q*10+8,none⟩=some (.slice b4 n5 d4)∧(K s).cell? ⟨e',off'+q*10+9,none⟩=some (.slice b5 n6 d5))
    have k0:=fun s=>(kq s).1
    have k1:=fun s=>(kq s).2.1
    have k2:=fun s=>(kq s).2.2.1
    have k3:=fun s=>(kq s).2.2.2.1
    have k4:=fun s=>(kq s).2.2.2.2.1
    have k5:=fun s=>(kq s).2.2.2.2.2.1
    have k6:=fun s=>(kq s).2.2.2.2.2.2.1
    have k7:=fun s=>(kq s).2.2.2.2.2.2.2.1
    have k8:=fun s=>(kq s).2.2.2.2.2.2.2.2.1
    have k9:=fun s=>(kq s).2.2.2.2.2.2.2.2.2.1
    have k10:=fun s=>(kq s).2.2.2.2.2.2.2.2.2.2.1
    have k11:=fun s=>(kq s).2.2.2.2.2.2.2.2.2.2.2.1
    have k12:=fun s=>(kq s).2.2.2.2.2.2.2.2.2.2.2.2.1
    have k13:=fun s=>(kq s).2.2.2.2.2.2.2.2.2.2.2.2.2.1
    have k14:=fun s=>(kq s).2.2.2.2.2.2.2.2.2.2.2.2.2.2.1
    have k15:=fun s=>(kq s).2.2.2.2.2.2.2.2.2.2.2.2.2.2.2.1
    have k16:=fun s=>(kq s).2.2.2.2.2.2.2.2.2.2.2.2.2.2.2.2.1
    have k17:=fun s=>(kq s).2.2.2.2.2.2.2.2.2.2.2.2.2.2.2.2.2.1
    have k18:=fun s=>(kq s).2.2.2.2.2.2.2.2.2.2.2.2.2.2.2.2.2.2.1
    have k19:=fun s=>(kq s).2.2.2.2.2.2.2.2.2.2.2.2.2.2.2.2.2.2.2.1
    have k20:=fun s=>(kq s).2.2.2.2.2.2.2.2.2.2.2.2.2.2.2.2.2.2.2.2.1
    have k21:=fun s=>(kq s).2.2.2.2.2.2.2.2.2.2.2.2.2.2.2.2.2.2.2.2.2
    clear kq hK1 y0 y1 y2 y3 y4 y5 y6 y7 y8 y9 aY z0 z1 z2 z3 z4 z5 z6 z7 z8 z9 z10 hlb hlc q0 q1 q2 q3 q4 q5 q6 q7 q8 q9 r0 r1 r2 r3 r4 r5 r6 r7 r8 r9
    refine dX K (by kernel_rfl) (by kernel_rfl) hK0 ?_
    repeat(go_big_quiet_step ((go_at_call 69;exact Calls.bY hK2 (uh.out _ (bD.out.aC (iy.out _))))))
    refine wpQuiet_nil ?_
    intro w' hw'
    obtain⟨s,rfl⟩:=hw'
    have bg:=ah (iy.out s)
    go_wp2
    go_ret
    exact⟨by rw[HTF.out];rfl,bD.out.aC bg.out⟩
   |true=>
    have HSX:=ah (HST.out rfl)
    clear PZ HST
    obtain⟨α,hne,K,hK1,hK0,hK2⟩:=worlds wr
    have iy:=ah (fun s=>HW.out.aC (hK1 s))
    go_wp2_with fail
    have kq:=fun s=>(⟨(hK1 s).cell' y7 id,(hK1 s).cell' z7 id,(hK1 s).cell' q0 id,(hK1 s).cell' q1 id,(hK1 s).cell' q2 id,(hK1 s).cell' q3 id,(hK1 s).cell' q4 id,(hK1 s).cell' q5 id,(hK1 s).cell' q6 id,(hK1 s).cell' q7 id,(hK1 s).cell' q8 id,(hK1 s).cell' q9 id,(hK1 s).cell' r0 id,(hK1 s).cell' r1 id,(hK1 s).cell' r2 id,(hK1 s).cell' r3 id,(hK1 s).cell' r4 id,(hK1 s).cell' r5 id,(hK1 s).cell' r6 id,(hK1 s).cell' r7 id,(hK1 s).cell' r8 id,(hK1 s).cell' r9 id⟩:(K s).cell? ⟨w.heap.size,7,none⟩=some (.slice (some ⟨e,off,none⟩) ln cl)∧(K s).cell? ⟨w.heap.size+1,7,none⟩=some (.slice (some ⟨e',off',none⟩) ln dl)∧(K s).cell? ⟨e,off+q*10,none⟩=some (.int .i64 dc)∧(K s).cell? ⟨e,off+q*10+1,none⟩=some (.int .i64 af)∧(K s).cell? ⟨e,off+q*10+2,none⟩=some (.int .i64 la)∧(K s).cell? ⟨e,off+q*10+3,none⟩=some (.int .i64 u0)∧(K s).cell? ⟨e,off+q*10+4,none⟩=some (.int .i64 u1)∧(K s).cell? ⟨e,off+q*10+5,none⟩=some (.int .i64 u2)∧(K s).cell? ⟨e,off+q*10+6,none⟩=some (.int .i64 u3)∧(K s).cell? ⟨e,off+q*10+7,none⟩=some (.slice a3 n1 c3)∧(K s).cell? ⟨e,off+q*10+8,none⟩=some (.slice a4 n2 c4)∧(K s).cell? ⟨e,off+q*10+9,none⟩=some (.slice a5 n3 c5)∧(K s).cell? ⟨e',off'+q*10,none⟩=some (.int .i64 dd)∧(K s).cell? ⟨e',off'+q*10+1,none⟩=some (.int .i64 ag)∧(K s).cell? ⟨e',off'+q*10+2,none⟩=some (.int .i64 lb)∧(K s).cell? ⟨e',off'+q*10+3,none⟩=some (.int .i64 x0)∧(K s).cell? ⟨e',off'+q*10+4,none⟩=some (.int .i64 x1)∧(K s).cell? ⟨e',off'+q*10+5,none⟩=some (.int .i64 x2)∧(K s).cell? ⟨e',off'+q*10+6,none⟩=some (.int .i64 x3)∧(K s).cell? ⟨e',off'+q*10+7,none⟩=some (.slice b3 n4 d3)∧(K s).cell? ⟨e',off'+q*10+8,none⟩=some (.slice b4 n5 d4)∧(K s).cell? ⟨e',off'+q*10+9,none⟩=some (.slice b5 n6 d5))
    have k0:=fun s=>(kq s).1
    have k1:=fun s=>(kq s).2.1
    have k2:=fun s=>(kq s).2.2.1
    have k3:=fun s=>(kq s).2.2.2.1
    have k4:=fun s=>(kq s).2.2.2.2.1
    have k5:=fun s=>(kq s).2.2.2.2.2.1
    have k6:=fun s=>(kq s).2.2.2.2.2.2.1
    have k7:=fun s=>(kq s).2.2.2.2.2.2.2.1
    have k8:=fun s=>(kq s).2.2.2.2.2.2.2.2.1
    have k9:=fun s=>(kq s).2.2.2.2.2.2.2.2.2.1
    have k10:=fun s=>(kq s).2.2.2.2.2.2.2.2.2.2.1
    have k11:=fun s=>(kq s).2.2.2.2.2.2.2.2.2.2.2.1
    have k12:=fun s=>(kq s).2.2.2.2.2.2.2.2.2.2.2.2.1
    have k13:=fun s=>(kq s).2.2.2.2.2.2.2.2.2.2.2.2.2.1
    have k14:=fun s=>(kq s).2.2.2.2.2.2.2.2.2.2.2.2.2.2.1
    have k15:=fun s=>(kq s).2.2.2.2.2.2.2.2.2.2.2.2.2.2.2.1
    have k16:=fun s=>(kq s).2.2.2.2.2.2.2.2.2.2.2.2.2.2.2.2.1
    have k17:=fun s=>(kq s).2.2.2.2.2.2.2.2.2.2.2.2.2.2.2.2.2.1
    have k18:=fun s=>(kq s).2.2.2.2.2.2.2.2.2.2.2.2.2.2.2.2.2.2.1
    have k19:=fun s=>(kq s).2.2.2.2.2.2.2.2.2.2.2.2.2.2.2.2.2.2.2.1
    have k20:=fun s=>(kq s).2.2.2.2.2.2.2.2.2.2.2.2.2.2.2.2.2.2.2.2.1
    have k21:=fun s=>(kq s).2.2.2.2.2.2.2.2.2.2.2.2.2.2.2.2.2.2.2.2.2
    clear kq hK1 y0 y1 y2 y3 y4 y5 y6 y7 y8 y9 aY z0 z1 z2 z3 z4 z5 z6 z7 z8 z9 z10 hlb hlc q0 q1 q2 q3 q4 q5 q6 q7 q8 q9 r0 r1 r2 r3 r4 r5 r6 r7 r8 r9
    refine dX K (by kernel_rfl) (by kernel_rfl) hK0 ?_
    repeat(go_big_quiet_step ((go_at_call 69;exact Calls.bY hK2 (uh.out _ (bD.out.aC (iy.out _))))))
    refine wpQuiet_nil ?_
    intro w' hw'
    obtain⟨s,rfl⟩:=hw'
    have bg:=ah (iy.out s)
    go_wp2
    go_roundw
    case rel=>exact⟨q+1,by omega,by go_num,HSX.out,bg.out⟩
    case measure=>simp[intOf];omega
  ·obtain rfl:ln=q:=by omega
   have hall:=DL.out zu.out
   have rH:=ah hall
   clear hall hlt hq
   go_wp2
   go_ret
   exact⟨by rw[rH.out];rfl,bD.out.aC HW.out⟩
end Go.Proofs.YtabkpccdnkjoiaaGreat
