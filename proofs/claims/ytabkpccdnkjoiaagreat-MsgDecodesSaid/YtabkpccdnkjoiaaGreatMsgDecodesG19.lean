/- Words for the law MsgDecodes: MsgB, MsgC0, CrcP, MsgP, SmallT, MsgS, MsgFit. -/
import Derived.Test.YtabkpccdnkjoiaaGreatMsgDecodesG0
import Derived.Test.YtabkpccdnkjoiaaGreatMsgDecodesG6
import Derived.Test.YtabkpccdnkjoiaaGreatMsgDecodesG10
import Derived.Test.YtabkpccdnkjoiaaGreatMsgDecodesG12
import Derived.Test.YtabkpccdnkjoiaaGreatMsgDecodesG17
import Derived.Test.YtabkpccdnkjoiaaGreatMsgDecodesG18
set_option linter.unusedSimpArgs false
set_option linter.unusedVariables false
set_option maxHeartbeats 32000000
set_option maxRecDepth 1000000
namespace Go.Proofs.YtabkpccdnkjoiaaGreat
open Go.RowKit
theorem yc (w:World) (u0 u1 u2 u3 u4 u5 u6 u7 u8 u9 u10:Value) (T:TypeId) (W:World) (f:aj ay (w.alloc (.cells #[u0,u1,u2,u3,u4,u5,u6,u7,u8,u9,u10] T)) W):W.cell? ⟨w.heap.size,0,none⟩=some u0∧W.cell? ⟨w.heap.size,1,none⟩=some u1∧W.cell? ⟨w.heap.size,2,none⟩=some u2∧W.cell? ⟨w.heap.size,3,none⟩=some u3∧W.cell? ⟨w.heap.size,4,none⟩=some u4∧W.cell? ⟨w.heap.size,5,none⟩=some u5∧W.cell? ⟨w.heap.size,6,none⟩=some u6∧W.cell? ⟨w.heap.size,7,none⟩=some u7∧W.cell? ⟨w.heap.size,8,none⟩=some u8∧W.cell? ⟨w.heap.size,9,none⟩=some u9∧W.cell? ⟨w.heap.size,10,none⟩=some u10:=
 ⟨f.cell' (au (heap_alloc_new w _) 0 rfl) id,f.cell' (au (heap_alloc_new w _) 1 rfl) id,f.cell' (au (heap_alloc_new w _) 2 rfl) id,f.cell' (au (heap_alloc_new w _) 3 rfl) id,f.cell' (au (heap_alloc_new w _) 4 rfl) id,f.cell' (au (heap_alloc_new w _) 5 rfl) id,f.cell' (au (heap_alloc_new w _) 6 rfl) id,f.cell' (au (heap_alloc_new w _) 7 rfl) id,f.cell' (au (heap_alloc_new w _) 8 rfl) id,f.cell' (au (heap_alloc_new w _) 9 rfl) id,f.cell' (au (heap_alloc_new w _) 10 rfl) id⟩
def su (v0 v1 v2 v3:Int) (es:List aQ) (ks:aS) (c:aX):Prop:=jM es ks c∧uf c 4=true∧(dA c 0=v0∧dA c 1=v1∧dA c 2=v2∧dA c 3=v3)∧es=[]
theorem ab3 (Q:Nat→Prop) (es:List aQ) (ks:aS) (c:aX) (w:World) (kind fr to' v0 v1 v2 v3:Int) (lv ev kv cv:Value) (hlv:∃a n c,lv= .slice a n c) (h:gK Q w ev kv cv es ks c) (hok:jd es ks c):
 Calls Tryz.prog 130 #[.agg #[.int .i64 kind, .int .i64 fr, .int .i64 to', .int .i64 v0, .int .i64 v1, .int .i64 v2, .int .i64 v3,lv,ev,kv,cv]] w fun e w'=>e= .returned (.bool (tf (su v0 v1 v2 v3 es ks c)))∧aj ay w w':=by
 obtain⟨a0,c0,a1,c1,a2,c2,rfl,rfl,rfl⟩:=h.shape
 obtain⟨al,nl,cl,rfl⟩:=hlv
 have HT:=ah (fun W (f:aj ay w W)=>EK Q es ks c W _ _ _ (h.aJ f) hok)
 have bF:=ah (show ∀W,aj ay (w.alloc (.cells #[.int .i64 kind, .int .i64 fr, .int .i64 to', .int .i64 v0, .int .i64 v1, .int .i64 v2, .int .i64 v3, .slice al nl cl, .slice a0 es.length c0, .slice a1 ks.len c1, .slice a2 c.length c2] 36)) W→W.cell? ⟨w.heap.size,3,none⟩=some (.int .i64 v0)∧W.cell? ⟨w.heap.size,4,none⟩=some (.int .i64 v1)∧W.cell? ⟨w.heap.size,5,none⟩=some (.int .i64 v2)∧W.cell? ⟨w.heap.size,6,none⟩=some (.int .i64 v3)∧W.cell? ⟨w.heap.size,8,none⟩=some (.slice a0 es.length c0)∧W.cell? ⟨w.heap.size,9,none⟩=some (.slice a1 ks.len c1)∧W.cell? ⟨w.heap.size,10,none⟩=some (.slice a2 c.length c2)from fun W f=>by
  obtain⟨_,_,_,y3,y4,y5,y6,_,y8,y9,aY⟩:=yc w _ _ _ _ _ _ _ _ _ _ _ _ W f
  exact⟨y3,y4,y5,y6,y8,y9,aY⟩)
 by_cases hr:jM es ks c
 rotate_left 1
 ·rw[bf hr]at HT
  rw[bf (show ¬su v0 v1 v2 v3 es ks c from fun h=>hr h.1)]
  clear hr h hok
  generalize es.length=n at*
  generalize ks.len=m at*
  generalize c.length=k at*
  obtain⟨α,hne,K,hK1,hK0,hK2⟩:=worlds (w.alloc (.cells #[.int .i64 kind, .int .i64 fr, .int .i64 to', .int .i64 v0, .int .i64 v1, .int .i64 v2, .int .i64 v3, .slice al nl cl, .slice a0 n c0, .slice a1 m c1, .slice a2 k c2] 36))
  have iy:=ah (fun s=>(aj.alloc ay w _).aC (hK1 s))
  have kb:=fun s=>bF.out (K s) (hK1 s)
  have k0:=fun s=>(kb s).1
  have k1:=fun s=>(kb s).2.1
  have k2:=fun s=>(kb s).2.2.1
  have k3:=fun s=>(kb s).2.2.2.1
  have k4:=fun s=>(kb s).2.2.2.2.1
  have k5:=fun s=>(kb s).2.2.2.2.2.1
  have k6:=fun s=>(kb s).2.2.2.2.2.2
  clear kb hK1
  go_enter Tryz.func130,Tryz.ntmps130
  go_wp2_with fail
  refine dX K (by kernel_rfl) (by kernel_rfl) hK0 ?_
  repeat(go_big_quiet_step ((first|(go_at_call 93;exact Calls.bY hK2 (HT.out _ (iy.out _))))))
  refine wpQuiet_nil ?_
  intro w' hw'
  obtain⟨s,rfl⟩:=hw'
  go_wp2
  go_ret
  exact⟨rfl,iy.out s⟩
 rw[dO hr]at HT
 have zx:=ah (fun W (f:aj ay w W)=>ab2 W _ c (Rd.aJ h.ctx f) hr.ctx (by have:=hok.len;omega))
 cases hs:uf c 4
 ·rw[hs]at zx
  rw[bf (show ¬su v0 v1 v2 v3 es ks c from fun h=>by rw[h.2.1]at hs;cases hs)]
  clear hr h hok hs
  generalize es.length=n at*
  generalize ks.len=m at*
  generalize c.length=k at*
  obtain⟨α,hne,K,hK1,hK0,hK2⟩:=worlds (w.alloc (.cells #[.int .i64 kind, .int .i64 fr, .int .i64 to', .int .i64 v0, .int .i64 v1, .int .i64 v2, .int .i64 v3, .slice al nl cl, .slice a0 n c0, .slice a1 m c1, .slice a2 k c2] 36))
  have iy:=ah (fun s=>(aj.alloc ay w _).aC (hK1 s))
  have kb:=fun s=>bF.out (K s) (hK1 s)
  have k0:=fun s=>(kb s).1
  have k1:=fun s=>(kb s).2.1
  have k2:=fun s=>(kb s).2.2.1
  have k3:=fun s=>(kb s).2.2.2.1
  have k4:=fun s=>(kb s).2.2.2.2.1
  have k5:=fun s=>(kb s).2.2.2.2.2.1
  have k6:=fun s=>(kb s).2.2.2.2.2.2
  clear kb hK1
  go_enter Tryz.func130,Tryz.ntmps130
  go_wp2_with fail
  refine dX K (by kernel_rfl) (by kernel_rfl) hK0 ?_
  repeat(go_big_quiet_step ((first|(go_at_call 93;exact Calls.bY hK2 (HT.out _ (iy.out _)))|(go_at_call 176;exact Calls.bY hK2 (zx.out _ (iy.out _))))))
  refine wpQuiet_nil ?_
  intro w' hw'
  obtain⟨s,rfl⟩:=hw'
  go_wp2
  go_ret
  exact⟨rfl,iy.out s⟩
 rw[hs]at zx
 have HV:=ah (fun W (f:aj ay w W)=>abY W _ c (Rd.aJ h.ctx f) hr.ctx (by have:=hok.len;omega))
 have ug:pU (fun d=>n_ (bQ c d))= #[.int .i64 (dA c 0), .int .i64 (dA c 1), .int .i64 (dA c 2), .int .i64 (dA c 3)]:=rfl
 rw[ug]at HV
 clear ug
 have zy:=FD (dA c 0) (dA c 1) (dA c 2) (dA c 3) v0 v1 v2 v3
 by_cases hv:dA c 0=v0∧dA c 1=v1∧dA c 2=v2∧dA c 3=v3
 rotate_left 1
 ·rw[show((dA c 0==v0)&&((dA c 1==v1)&&((dA c 2==v2)&&(dA c 3==v3))))=false by
   rw[Bool.eq_false_iff]
   intro hh
   simp only[Bool.and_eq_true,beq_iff_eq]at hh
   exact hv hh]at zy
  rw[bf (show ¬su v0 v1 v2 v3 es ks c from fun h=>hv h.2.2.1)]
  clear hr h hok hs hv
  generalize dA c 0=f0 at*
  generalize dA c 1=f1 at*
  generalize dA c 2=f2 at*
  generalize dA c 3=f3 at*
  generalize es.length=n at*
  generalize ks.len=m at*
  generalize c.length=k at*
  obtain⟨α,hne,K,hK1,hK0,hK2⟩:=worlds (w.alloc (.cells #[.int .i64 kind, .int .i64 fr, .int .i64 to', .int .i64 v0, .int .i64 v1, .int .i64 v2, .int .i64 v3, .slice al nl cl, .slice a0 n c0, .slice a1 m c1, .slice a2 k c2] 36))
  have iy:=ah (fun s=>(aj.alloc ay w _).aC (hK1 s))
  have kb:=fun s=>bF.out (K s) (hK1 s)
  have k0:=fun s=>(kb s).1
  have k1:=fun s=>(kb s).2.1
  have k2:=fun s=>(kb s).2.2.1
  have k3:=fun s=>(kb s).2.2.2.1
  have k4:=fun s=>(kb s).2.2.2.2.1
  have k5:=fun s=>(kb s).2.2.2.2.2.1
  have k6:=fun s=>(kb s).2.2.2.2.2.2
  clear kb hK1
  go_enter Tryz.func130,Tryz.ntmps130
  go_wp2_with fail
  refine dX K (by kernel_rfl) (by kernel_rfl) hK0 ?_
  repeat(go_big_quiet_step ((first|(go_at_call 93;exact Calls.bY hK2 (HT.out _ (iy.out _)))|(go_at_call 176;exact Calls.bY hK2 (zx.out _ (iy.out _)))|(go_at_call 177;exact Calls.bY hK2 (HV.out _ (iy.out _))))))
  refine wpQuiet_nil ?_
  intro w' hw'
  obtain⟨s,rfl⟩:=hw'
  go_wp2
  go_ret
  exact⟨rfl,iy.out s⟩
 rw[show((dA c 0==v0)&&((dA c 1==v1)&&((dA c 2==v2)&&(dA c 3==v3))))=true by
  simp only[Bool.and_eq_true,beq_iff_eq]
  exact hv]at zy
 have HY:=ah (show tf (su v0 v1 v2 v3 es ks c)=((es.length:Int)==0) by
  by_cases he:es=[]
  ·rw[dO (show su v0 v1 v2 v3 es ks c from⟨hr,hs,hv,he⟩),he];rfl
  ·rw[bf (show ¬su v0 v1 v2 v3 es ks c from fun h=>he h.2.2.2)]
   exact(beq_false_of_ne (by
    have:0<es.length:=List.length_pos_iff.2 he
    omega)).symm)
 clear hr h hok hs hv
 generalize tf (su v0 v1 v2 v3 es ks c)=y at*
 generalize dA c 0=f0 at*
 generalize dA c 1=f1 at*
 generalize dA c 2=f2 at*
 generalize dA c 3=f3 at*
 generalize es.length=n at*
 generalize ks.len=m at*
 generalize c.length=k at*
 obtain⟨α,hne,K,hK1,hK0,hK2⟩:=worlds (w.alloc (.cells #[.int .i64 kind, .int .i64 fr, .int .i64 to', .int .i64 v0, .int .i64 v1, .int .i64 v2, .int .i64 v3, .slice al nl cl, .slice a0 n c0, .slice a1 m c1, .slice a2 k c2] 36))
 have iy:=ah (fun s=>(aj.alloc ay w _).aC (hK1 s))
 have kb:=fun s=>bF.out (K s) (hK1 s)
 have k0:=fun s=>(kb s).1
 have k1:=fun s=>(kb s).2.1
 have k2:=fun s=>(kb s).2.2.1
 have k3:=fun s=>(kb s).2.2.2.1
 have k4:=fun s=>(kb s).2.2.2.2.1
 have k5:=fun s=>(kb s).2.2.2.2.2.1
 have k6:=fun s=>(kb s).2.2.2.2.2.2
 clear kb hK1
 go_enter Tryz.func130,Tryz.ntmps130
 go_wp2_with fail
 refine dX K (by kernel_rfl) (by kernel_rfl) hK0 ?_
 repeat(go_big_quiet_step ((first|(go_at_call 93;exact Calls.bY hK2 (HT.out _ (iy.out _)))|(go_at_call 176;exact Calls.bY hK2 (zx.out _ (iy.out _)))|(go_at_call 177;exact Calls.bY hK2 (HV.out _ (iy.out _))))))
 refine wpQuiet_nil ?_
 intro w' hw'
 obtain⟨s,rfl⟩:=hw'
 go_wp2
 go_ret
 exact⟨by rw[HY.out];first|rfl|simp,iy.out s⟩
open Go.RowKit
def DF (es:List aQ) (ks:aS) (c:aX):Prop:=c.length=0∧es.length=0∧ks.len=0
def UW (kind v0 v1 v2 v3:Int) (bs:List aZ) (es:List aQ) (ks:aS) (c:aX):Prop:=
 (kind=1∧DF es ks c∧1≤bs.length∧bs.length≤16∧bs.any pW=false)∨(kind=2∧bs.length=0∧su v0 v1 v2 v3 es ks c)∨((kind=3∨kind=4)∧DF es ks c∧bs.length=0)
def DI (kind fr tt v0 v1 v2 v3:Int) (bs:List aZ) (es:List aQ) (ks:aS) (c:aX):Prop:=
 g_ (bP v0 v1 v2 v3)∧(0≤fr∧fr<4)∧(0≤tt∧tt<4)∧fr≠tt∧UW kind v0 v1 v2 v3 bs es ks c
structure FK (P SP:Prop) (hv:Bool) (ln n m k:Nat) (kind fr tt v0 v1 v2 v3:Int) (al a0 a1 a2:Option Addr) (cl c0 c1 c2:Nat) (w:World):Prop where
 bh:∀W,aj ay w W→Calls Tryz.prog 128 #[.slice al ln cl, .func (.func 129) #[] #[]] W fun e w'=>e= .returned (.bool hv)∧aj ay W w'
 st:∀W,aj ay w W→Calls Tryz.prog 130 #[.agg #[.int .i64 kind, .int .i64 fr, .int .i64 tt, .int .i64 v0, .int .i64 v1, .int .i64 v2, .int .i64 v3, .slice al ln cl, .slice a0 n c0, .slice a1 m c1, .slice a2 k c2]] W fun e w'=>e= .returned (.bool (tf SP))∧aj ay W w'
 fu:∀W,Calls Tryz.prog 124 #[.agg #[.int .i64 v0, .int .i64 v1, .int .i64 v2, .int .i64 v3]] W fun e w1=>aj ay W w1∧∃av nv cv,e= .returned (.tuple #[.slice av nv cv, .int .i64 0])
 Jz:∀W,Calls Tryz.prog 127 #[.int .i64 fr] W fun e w'=>e= .returned (.bool true)∧w'=W
 JA:∀W,Calls Tryz.prog 127 #[.int .i64 tt] W fun e w'=>e= .returned (.bool true)∧w'=W
 bx:∀W,aj ay (w.alloc (.cells #[.int .i64 kind, .int .i64 fr, .int .i64 tt, .int .i64 v0, .int .i64 v1, .int .i64 v2, .int .i64 v3, .slice al ln cl, .slice a0 n c0, .slice a1 m c1, .slice a2 k c2] 36)) W→W.cell? ⟨w.heap.size,0,none⟩=some (.int .i64 kind)∧W.cell? ⟨w.heap.size,1,none⟩=some (.int .i64 fr)∧W.cell? ⟨w.heap.size,2,none⟩=some (.int .i64 tt)∧W.cell? ⟨w.heap.size,3,none⟩=some (.int .i64 v0)∧W.cell? ⟨w.heap.size,4,none⟩=some (.int .i64 v1)∧W.cell? ⟨w.heap.size,5,none⟩=some (.int .i64 v2)∧W.cell? ⟨w.heap.size,6,none⟩=some (.int .i64 v3)∧W.cell? ⟨w.heap.size,7,none⟩=some (.slice al ln cl)∧W.cell? ⟨w.heap.size,8,none⟩=some (.slice a0 n c0)∧W.cell? ⟨w.heap.size,9,none⟩=some (.slice a1 m c1)∧W.cell? ⟨w.heap.size,10,none⟩=some (.slice a2 k c2)
 ne:fr≠tt
 hd:P↔((kind=1∧(k=0∧n=0∧m=0)∧1≤ln∧ln≤16∧hv=false)∨(kind=2∧ln=0∧SP)∨((kind=3∨kind=4)∧(k=0∧n=0∧m=0)∧ln=0))
end Go.Proofs.YtabkpccdnkjoiaaGreat
namespace Go.Proofs.YtabkpccdnkjoiaaGreat
namespace aT
def P:BitVec 32:=0x82f63b78#32
def Q:BitVec 32:=0x1edc6f41#32
def st (c:BitVec 32):BitVec 32:=if c.getLsbD 0=true then(c>>>1)^^^P else c>>>1
def zA:Nat→BitVec 32→BitVec 32
 |0,c=>c
 |n+1,c=>st (zA n c)
def add (c:BitVec 32) (b:UInt8):BitVec 32:=zA 8 (c^^^BitVec.ofNat 32 b.toNat)
def all (c:BitVec 32) (l:List UInt8):BitVec 32:=l.foldl add c
def crc (l:List UInt8):BitVec 32:=all (BitVec.allOnes 32) l^^^BitVec.allOnes 32
def mY (r:BitVec 32) (x:Bool):BitVec 32:=if r.msb=x then r<<<1 else(r<<<1)^^^Q
def wO:Nat→BitVec 32→Nat→BitVec 32
 |0,r,_=>r
 |n+1,r,x=>mY (wO n r x) (x.testBit n)
def BG (r:BitVec 32) (b:UInt8):BitVec 32:=wO 8 r b.toNat
def wP (r:BitVec 32) (l:List UInt8):BitVec 32:=l.foldl BG r
def UY (l:List UInt8):BitVec 32:=(wP (BitVec.allOnes 32) l^^^BitVec.allOnes 32).reverse
theorem UZ (a b:BitVec 32):(a^^^b).reverse=a.reverse^^^b.reverse:=by
 ext i h
 simp only[BitVec.getElem_reverse,BitVec.getElem_xor,BitVec.getMsbD_xor]
theorem rev_rev (a:BitVec 32):a.reverse.reverse=a:=by
 ext i h
 rw[BitVec.getElem_reverse,BitVec.getMsbD_reverse,BitVec.getLsbD_eq_getElem]
theorem ab4 (a:BitVec 32):(a>>>1).reverse=a.reverse<<<1:=by
 ext i h
 rw[BitVec.getElem_reverse,BitVec.getElem_shiftLeft,BitVec.getMsbD_eq_getLsbD,BitVec.getLsbD_ushiftRight]
 by_cases h0:i=0
 ·subst h0
  simp
 ·have h1:¬i<1:=by omega
  simp only[h,decide_true,Bool.true_and,h1,decide_false,Bool.not_false]
  rw[BitVec.getElem_reverse,BitVec.getMsbD_eq_getLsbD]
  have:32-1-(i-1)=1+(32-1-i):=by omega
  rw[this]
  simp;omega
theorem ab5:P.reverse=Q:=by decide
theorem U_ (c:BitVec 32) (b:Nat):∀n,n≤32→zA n (c^^^BitVec.ofNat 32 b)=(wO n c.reverse b).reverse^^^(BitVec.ofNat 32 b>>>n)
 |0,_=>by
  show c^^^BitVec.ofNat 32 b=c.reverse.reverse^^^_
  rw[rev_rev,BitVec.ushiftRight_zero]
 |n+1,hn=>by
  show st (zA n _)=(mY (wO n c.reverse b) (b.testBit n)).reverse^^^_
  rw[U_ c b n (by omega)]
  generalize wO n c.reverse b=r
  have hb:(r.reverse^^^(BitVec.ofNat 32 b>>>n)).getLsbD 0=(r.msb^^b.testBit n):=by
   rw[BitVec.getLsbD_xor,BitVec.getLsbD_ushiftRight,BitVec.getLsbD_reverse,BitVec.getLsbD_ofNat,decide_eq_true (by omega:n+0<32)]
   rfl
  have hs:(r.reverse^^^(BitVec.ofNat 32 b>>>n))>>>1=r.reverse>>>1^^^BitVec.ofNat 32 b>>>(n+1):=by
   rw[BitVec.ushiftRight_xor_distrib,←BitVec.shiftRight_add]
  have hr:r.reverse>>>1=(r<<<1).reverse:=by
   have:=ab4 r.reverse
   rw[rev_rev]at this
   rw[←this,rev_rev]
  unfold st mY
  rw[hb,hs,hr]
  generalize BitVec.ofNat 32 b>>>(n+1)=B
  cases hm:r.msb<;>cases ht:b.testBit n<;>simp only[Bool.false_xor,Bool.true_xor,Bool.not_true,Bool.not_false,if_true,if_false,reduceCtorEq]
  all_goals
   rw[UZ,←ab5,rev_rev,BitVec.xor_assoc,BitVec.xor_comm B,←BitVec.xor_assoc]
theorem ab6 (c:BitVec 32) (b:UInt8):add c b=(BG c.reverse b).reverse:=by
 unfold add BG
 rw[U_ c b.toNat 8 (by omega)]
 have h:BitVec.ofNat 32 b.toNat>>>8=0#32:=by
  apply BitVec.eq_of_toNat_eq
  rw[BitVec.toNat_ushiftRight,BitVec.toNat_ofNat,Nat.shiftRight_eq_div_pow]
  have:=b.toNat_lt
  show b.toNat%2^32/2^8=0
  omega
 rw[h,BitVec.xor_zero]
theorem ab7 (c:BitVec 32) (l:List UInt8):all c l=(wP c.reverse l).reverse:=by
 induction l generalizing c with
 |nil=>exact(rev_rev c).symm
 |cons b l ih=>
  show all (add c b) l=(wP (BG c.reverse b) l).reverse
  rw[ih,ab6,rev_rev]
theorem Va:(BitVec.allOnes 32).reverse=BitVec.allOnes 32:=by
 ext i h
 rw[BitVec.getElem_reverse,BitVec.getMsbD_eq_getLsbD,BitVec.getLsbD_allOnes,BitVec.getElem_allOnes,decide_eq_true h,Bool.true_and]
 exact decide_eq_true (by omega)
theorem ab8 (l:List UInt8):crc l=UY l:=by
 unfold crc UY
 rw[UZ,Va,ab7,Va]
def four (n:Nat):List UInt8:=[UInt8.ofNat n,UInt8.ofNat (n/256),UInt8.ofNat (n/65536),UInt8.ofNat (n/16777216)]
def bM (l:List UInt8):Nat:=(l.getD 0 0).toNat+256*(l.getD 1 0).toNat+65536*(l.getD 2 0).toNat+16777216*(l.getD 3 0).toNat
def sum (l:List UInt8):Nat:=(crc l).toNat
def iK (bs:List UInt8):List UInt8:=(four bs.length++bs)++four (sum (four bs.length++bs))
def gX (b:List UInt8):Int:=if b.length<8∨60000<bM b∨bM b+8≠b.length then 2 else if sum (b.take (4+bM b))=bM (b.drop (4+bM b))then 0 else 11
def jI (b:List UInt8):List UInt8:=if gX b=0 then(b.drop 4).take (bM b)else []
theorem zB (n:Nat):(four n).length=4:=rfl
theorem sum_lt (l:List UInt8):sum l<4294967296:=(crc l).isLt
theorem Oa {n:Nat} (h:n<4294967296) (r:List UInt8):bM (four n++r)=n:=by
 show(UInt8.ofNat n).toNat+256*(UInt8.ofNat (n/256)).toNat+65536*(UInt8.ofNat (n/65536)).toNat+16777216*(UInt8.ofNat (n/16777216)).toNat=n
 simp only[UInt8.toNat_ofNat']
 omega
theorem ab9 (l:List UInt8):bM l<4294967296:=by
 unfold bM
 have h0:=(l.getD 0 0).toNat_lt
 have h1:=(l.getD 1 0).toNat_lt
 have h2:=(l.getD 2 0).toNat_lt
 have h3:=(l.getD 3 0).toNat_lt
 omega
theorem JB:∀ {l:List UInt8},l.length=4→four (bM l)=l
 |[a,b,c,d],_=>by
  have h0:=a.toNat_lt
  have h1:=b.toNat_lt
  have h2:=c.toNat_lt
  have h3:=d.toNat_lt
  show [_,_,_,_]=[a,b,c,d]
  have e:bM [a,b,c,d]=a.toNat+256*b.toNat+65536*c.toNat+16777216*d.toNat:=rfl
  rw[e]
  refine List.cons_eq_cons.2 ⟨?_,List.cons_eq_cons.2 ⟨?_,List.cons_eq_cons.2 ⟨?_,List.cons_eq_cons.2 ⟨?_,rfl⟩⟩⟩⟩<;>apply UInt8.toNat_inj.1<;>rw[UInt8.toNat_ofNat']<;>omega
theorem Vb {l:List UInt8} (h:4≤l.length):bM (l.take 4)=bM l:=by
 obtain⟨a,b,c,d,r,rfl⟩:∃a b c d r,l=a::b::c::d::r:=by
  match l,h with
  |a::b::c::d::r,_=>exact⟨a,b,c,d,r,rfl⟩
 rfl
theorem JC (bs:List UInt8):(iK bs).length=bs.length+8:=by
 unfold iK
 simp only[List.length_append,zB]
 omega
theorem ab_ {bs:List UInt8} (h:bs.length≤60000):bM (iK bs)=bs.length∧(iK bs).take (4+bs.length)=four bs.length++bs∧(iK bs).drop (4+bs.length)=four (sum (four bs.length++bs)):=by
 have hl:(four bs.length++bs).length=4+bs.length:=by rw[List.length_append,zB]
 refine⟨?_,?_,?_⟩
 ·unfold iK
  rw[List.append_assoc]
  exact Oa (by omega) _
 ·unfold iK
  rw[←hl,List.take_left]
 ·unfold iK
  rw[←hl,List.drop_left]
theorem acd {bs:List UInt8} (h:bs.length≤60000):gX (iK bs)=0∧jI (iK bs)=bs:=by
 obtain⟨h1,h2,h3⟩:=ab_ h
 have he:gX (iK bs)=0:=by
  unfold gX
  rw[if_neg,h1,h2,h3,if_pos]
  ·have:=Oa (sum_lt (four bs.length++bs)) []
   rw[List.append_nil]at this
   exact this.symm
  ·rw[h1,JC];omega
 refine⟨he,?_⟩
 unfold jI
 rw[if_pos he,h1]
 unfold iK
 rw[List.append_assoc]
 show(List.drop (four bs.length).length _).take _=_
 rw[List.drop_left,List.take_left]
theorem one_le {b:List UInt8} (h:gX b=0):(bM b≤60000∧bM b+8=b.length)∧sum (b.take (4+bM b))=bM (b.drop (4+bM b)):=by
 unfold gX at h
 by_cases h1:b.length<8∨60000<bM b∨bM b+8≠b.length
 ·rw[if_pos h1]at h;cases h
 ·rw[if_neg h1]at h
  by_cases h2:sum (b.take (4+bM b))=bM (b.drop (4+bM b))
  ·exact⟨⟨by omega,by omega⟩,h2⟩
  ·rw[if_neg h2]at h;cases h
theorem Vd {b:List UInt8} (h:gX b=0):b=iK (jI b)∧(jI b).length≤60000:=by
 obtain⟨⟨h1,h2⟩,h3⟩:=one_le h
 have hb:jI b=(b.drop 4).take (bM b):=if_pos h
 have hlen:(jI b).length=bM b:=by rw[hb,List.length_take,List.length_drop];omega
 have h4:four (jI b).length=b.take 4:=by
  rw[hlen,←Vb (by omega)]
  exact JB (by rw[List.length_take];omega)
 have h5:four (jI b).length++jI b=b.take (4+bM b):=by
  rw[h4,hb,List.take_add]
 refine⟨?_,by omega⟩
 unfold iK
 rw[h5,h3,JB (by rw[List.length_drop];omega),List.take_append_drop]
end aT
open Go.RowKit
structure bW where
 kind:Int
 fr:Int
 tt:Int
 v0:Int
 v1:Int
 v2:Int
 v3:Int
 bs:List dL
 es:List aQ
 ks:aS
 c:aX
structure mZ (Q:Nat→Prop) (w:World) (m:bW) (ps:List aZ) (lv ev kv cv:Value):Prop where
 bs:zq Q w lv ps
 eq:ps.map (·.b)=m.bs
 eX:gK Q w ev kv cv m.es m.ks m.c
theorem mZ.aJ {Q:Nat→Prop} {w w':World} {m:bW} {ps:List aZ} {lv ev kv cv:Value} (h:mZ Q w m ps lv ev kv cv) (f:aj ay w w'):mZ Q w' m ps lv ev kv cv:=⟨h.bs.aJ f,h.eq,h.eX.aJ f⟩
theorem mZ.len {Q:Nat→Prop} {w:World} {m:bW} {ps:List aZ} {lv ev kv cv:Value} (h:mZ Q w m ps lv ev kv cv):ps.length=m.bs.length:=by rw[←h.eq,List.length_map]
abbrev bW.ag (m:bW) (lv ev kv cv:Value):Value:= .agg #[.int .i64 m.kind, .int .i64 m.fr, .int .i64 m.tt, .int .i64 m.v0, .int .i64 m.v1, .int .i64 m.v2, .int .i64 m.v3,lv,ev,kv,cv]
structure kZ (m:bW):Prop where
 each:∀b∈m.bs,jd b.es b.ks b.c
 len:m.bs.length≤100
 st:jd m.es m.ks m.c
def bW.zero:bW:=⟨0,0,0,0,0,0,0,[],[], .nil,[]⟩
def bW.right (m:bW):Prop:=
 g_ (bP m.v0 m.v1 m.v2 m.v3)∧(0≤m.fr∧m.fr<4)∧(0≤m.tt∧m.tt<4)∧m.fr≠m.tt∧
  ((m.kind=1∧DF m.es m.ks m.c∧1≤m.bs.length∧m.bs.length≤16∧∀b∈m.bs,b.right)∨(m.kind=2∧m.bs.length=0∧su m.v0 m.v1 m.v2 m.v3 m.es m.ks m.c)∨((m.kind=3∨m.kind=4)∧DF m.es m.ks m.c∧m.bs.length=0))
theorem Ve {ps:List aZ}:ps.any pW=false↔∀b∈ps.map (·.b),b.right:=by
 rw[List.any_eq_false]
 constructor
 ·intro h b hb
  obtain⟨p,hp,rfl⟩:=List.mem_map.1 hb
  have:=h p hp
  unfold pW at this
  simp only[Bool.not_eq_true',Bool.not_eq_false]at this
  by_cases hr:p.b.right
  ·exact hr
  ·rw[bf hr]at this;cases this
 ·intro h p hp
  unfold pW
  rw[dO (h p.b (List.mem_map.2 ⟨p,hp,rfl⟩))]
  simp
theorem ace {kind fr tt v0 v1 v2 v3:Int} {ps:List aZ} {es:List aQ} {ks:aS} {c:aX}:DI kind fr tt v0 v1 v2 v3 ps es ks c↔bW.right ⟨kind,fr,tt,v0,v1,v2,v3,ps.map (·.b),es,ks,c⟩:=by
 unfold DI UW bW.right
 simp only[Ve,List.length_map]
theorem Ob {es:List aQ} {ks:aS} {c:aX} (h:DF es ks c):es=[]∧ks= .nil∧c=[]:=by
 obtain⟨h1,h2,h3⟩:=h
 refine⟨List.eq_nil_of_length_eq_zero h2,?_,List.eq_nil_of_length_eq_zero h1⟩
 cases ks with
 |nil=>rfl
 |cons _ _ _ r=>exact absurd h3 (by show r.len+1≠0;omega)
def bW.tail (m:bW):List UInt8:=if m.kind=2 then kC m.es m.ks m.c else []
def bW.enc (m:bW):List UInt8:=bG m.kind++(bG m.fr++(bG m.tt++(jH m.v0 m.v1 m.v2 m.v3++(bG (m.bs.length:Int)++(m.bs.flatMap dL.enc++m.tail)))))
theorem bW.right.kind {m:bW} (h:m.right):1≤m.kind∧m.kind≤4:=by
 obtain⟨-,-,-,-,h⟩:=h
 rcases h with⟨h,-⟩|⟨h,-⟩|⟨h,-⟩<;>omega
theorem bW.right.len {m:bW} (h:m.right):m.bs.length≤16:=by
 obtain⟨-,-,-,-,h⟩:=h
 rcases h with⟨-,-,-,h,-⟩|⟨-,h,-⟩|⟨-,-,h⟩<;>omega
theorem bW.right.each {m:bW} (h:m.right):∀b∈m.bs,b.right:=by
 obtain⟨-,-,-,-,h⟩:=h
 rcases h with⟨-,-,-,-,h⟩|⟨-,h,-⟩|⟨-,-,h⟩
 ·exact h
 ·rw[List.eq_nil_of_length_eq_zero h];exact fun b hb=>by cases hb
 ·rw[List.eq_nil_of_length_eq_zero h];exact fun b hb=>by cases hb
theorem bW.right.bare {m:bW} (h:m.right) (hk:m.kind≠2):m.es=[]∧m.ks= .nil∧m.c=[]:=by
 obtain⟨-,-,-,-,h⟩:=h
 rcases h with⟨-,h,-⟩|⟨h,-⟩|⟨-,h,-⟩
 ·exact Ob h
 ·exact absurd h hk
 ·exact Ob h
theorem bW.right.eX {m:bW} (h:m.right) (hk:m.kind=2):jM m.es m.ks m.c:=by
 obtain⟨-,-,-,-,h⟩:=h
 rcases h with⟨h,-⟩|⟨-,-,h⟩|⟨h,-⟩
 ·omega
 ·exact h.1
 ·omega
theorem acf {a b:bW} (ha:a.right) (hb:b.right) (h:a.enc=b.enc):a=b:=by
 unfold bW.enc at h
 replace h:=lF h
 obtain⟨h1,h⟩:=h
 replace h:=lF h
 obtain⟨h2,h⟩:=h
 replace h:=lF h
 obtain⟨h3,h⟩:=h
 replace h:=Nr h
 obtain⟨⟨h4,h5,h6,h7⟩,h⟩:=h
 replace h:=lF h
 obtain⟨h8,h⟩:=h
 have hl:a.bs.length=b.bs.length:=by omega
 replace h:=Ji (f:=dL.enc) UG hl h
 obtain⟨h9,h⟩:=h
 have hx:(a.es=b.es∧a.ks=b.ks)∧a.c=b.c:=by
  by_cases hk:a.kind=2
  ·have hk':b.kind=2:=h1▸hk
   unfold bW.tail at h
   rw[if_pos hk,if_pos hk']at h
   exact aa5 h
  ·have hk':¬b.kind=2:=h1▸hk
   obtain⟨a1,a2,a3⟩:=ha.bare hk
   obtain⟨b1,b2,b3⟩:=hb.bare hk'
   exact⟨⟨a1.trans b1.symm,a2.trans b2.symm⟩,a3.trans b3.symm⟩
 obtain⟨⟨h10,h11⟩,h12⟩:=hx
 cases a
 cases b
 simp only at h1 h2 h3 h4 h5 h6 h7 h9 h10 h11 h12
 subst h1 h2 h3 h4 h5 h6 h7 h9 h10 h11 h12
 rfl
def qH (x:List UInt8) (r:Option bW):Prop:=(∃m,r=some m∧m.right∧x=m.enc)∨(r=none∧∀m:bW,m.right→x≠m.enc)
theorem qH.b_ {x:List UInt8} {r s:Option bW} (h:qH x r) (k:qH x s):r=s:=by
 rcases h with⟨m,rfl,h1,h2⟩|⟨rfl,h⟩<;>rcases k with⟨m',rfl,k1,k2⟩|⟨rfl,k⟩
 ·rw[acf h1 k1 (h2.symm.trans k2)]
 ·exact absurd h2 (k m h1)
 ·exact absurd k2 (h m' k1)
 ·rfl
theorem qH.make {m:bW} (h:m.right):qH m.enc (some m):= .inl ⟨m,rfl,h,rfl⟩
structure qI (mk m2:Int) (x:List UInt8) (m:bW) (n:Int) (k:Nat) (s4 s5 s6 s7:Option (List UInt8)):Prop where
 hd:∃s1 s2 s3,dw (some x) mk m.kind s1∧dw s1 m2 m.fr s2∧dw s2 m2 m.tt s3∧kD s3 m.v0 m.v1 m.v2 m.v3 s4
 num:dw s4 16 n s5
 run:Run jT s5 k m.bs s6
 lim:k=n.toNat∨s6=none
 le:k≤n.toNat
 st:if m.kind=2 then kW s6 m.es m.ks m.c s7 else(m.es=[]∧m.ks= .nil∧m.c=[])∧s7=s6
theorem acg {st t:Option (List UInt8)} {k:Nat} {l:List dL} (h:Run jT st k l t) {r:List UInt8} (ht:t=some r):st=some (l.flatMap dL.enc++r)∧∀b∈l,b.right:=
 Run.good (f:=dL.enc) (P:=dL.right) (fun {s e r} h=>by
  rcases h with⟨r',h1,h2,h3⟩|⟨h1,-⟩
  ·injection h3 with h3;subst h3;exact⟨h1,h2⟩
  ·cases h1) h ht
theorem ach {l:List dL} (r:List UInt8) (h:∀b∈l,b.right):Run jT (some (l.flatMap dL.enc++r)) l.length l (some r):=
 Run.make (f:=dL.enc) (P:=dL.right) (fun {e} r he=> .inl ⟨r,rfl,he,rfl⟩) r h
theorem qI.good {mk m2 n:Int} {x:List UInt8} {m:bW} {k:Nat} {s4 s5 s6:Option (List UInt8)} (h:qI mk m2 x m n k s4 s5 s6 (some [])) (h0:0≤n) (hr:m.right):qH x (some m):=by
 obtain⟨⟨s1,s2,s3,g1,g2,g3,g4⟩,g5,g6,g7,-,g9⟩:=h
 have h6:s6=some m.tail:=by
  unfold bW.tail
  by_cases hk:m.kind=2
  ·rw[if_pos hk]at g9⊢
   rcases g9 with⟨r,e1,-,e2⟩|⟨e1,-⟩
   ·injection e2 with e2;subst e2;rw[e1,List.append_nil]
   ·cases e1
  ·rw[if_neg hk]at g9⊢
   exact g9.2.symm
 subst h6
 have hk:k=n.toNat:=g7.resolve_right fun h=>by cases h
 obtain⟨rfl,-⟩:=acg g6 rfl
 obtain⟨rfl,-,-⟩:=nP g5
 rcases g4 with⟨r2,rfl,_,e⟩|⟨e,_⟩
 ·injection e with e;subst e
  obtain⟨rfl,-⟩:=nP g3
  obtain⟨rfl,-⟩:=nP g2
  obtain⟨e,-⟩:=nP g1
  injection e with e
  have hn:(m.bs.length:Int)=n:=by rw[g6.len,hk];omega
  exact .inl ⟨m,rfl,hr,by unfold bW.enc;rw[e,hn]⟩
 ·cases e
theorem Oc {l:List dL} (r:List UInt8) (h:∀b∈l,b.right) (k:Nat) (hk:k≤l.length):Run jT (some (l.flatMap dL.enc++r)) k (l.take k) (some ((l.drop k).flatMap dL.enc++r)):=by
 have:=ach (l:=l.take k) ((l.drop k).flatMap dL.enc++r) fun b hb=>h b (List.mem_of_mem_take hb)
 rw[←List.append_assoc,←List.flatMap_append,List.take_append_drop,List.length_take,Nat.min_eq_left hk]at this
 exact this
theorem qI.bad {mk m2 n:Int} (hmk:4≤mk) (hmk':mk≤9223372036854775807) (hm2:4≤m2) (tZ:m2≤9223372036854775807) {x:List UInt8} {m:bW} {k:Nat} {s4 s5 s6 s7:Option (List UInt8)} (h:qI mk m2 x m n k s4 s5 s6 s7) (hb:n<0∨s7≠some []∨¬m.right):qH x none:=by
 refine .inr ⟨rfl,fun m' hr hx=>?_⟩
 subst hx
 obtain⟨⟨s1,s2,s3,g1,g2,g3,g4⟩,g5,g6,g7,g8,g9⟩:=h
 have hkd:=hr.kind
 have hln:=hr.len
 have hea:=hr.each
 obtain⟨q1,q2,q3,-,-⟩:=id hr
 unfold bW.enc at g1
 obtain⟨e1,rfl⟩:=g1.b_ (jy _ ⟨by omega,by omega⟩ hmk')
 obtain⟨e2,rfl⟩:=g2.b_ (jy _ ⟨by omega,by omega⟩ tZ)
 obtain⟨e3,rfl⟩:=g3.b_ (jy _ ⟨by omega,by omega⟩ tZ)
 obtain⟨⟨e4,e5,e6,e7⟩,rfl⟩:=g4.b_ (kD.make _ q1)
 obtain⟨e8,rfl⟩:=g5.b_ (jy _ ⟨by omega,by omega⟩ (by decide))
 have hkl:k≤m'.bs.length:=by omega
 obtain⟨e9,e10⟩:=Run.b_ (R:=jT) (fun h k=>h.b_ k) g6 (Oc m'.tail hea k hkl)
 have hk:k=m'.bs.length:=by
  rcases g7 with h|h
  ·omega
  ·rw[e10]at h;cases h
 subst hk
 rw[List.take_length]at e9
 rw[List.drop_length]at e10
 subst e10
 have hfin:((m.es=m'.es∧m.ks=m'.ks)∧m.c=m'.c)∧s7=some []:=by
  by_cases hk:m'.kind=2
  ·rw[if_pos (e1.trans hk)]at g9
   have ht:m'.tail=kC m'.es m'.ks m'.c++ []:=by unfold bW.tail;rw[if_pos hk,List.append_nil]
   rw[List.flatMap_nil,List.nil_append,ht]at g9
   exact g9.b_ (kW.make _ (hr.eX hk))
  ·rw[if_neg (fun h=>hk (e1.symm.trans h))]at g9
   obtain⟨a1,a2,a3⟩:=g9.1
   obtain⟨b1,b2,b3⟩:=hr.bare hk
   have ht:m'.tail=[]:=by unfold bW.tail;rw[if_neg hk]
   refine⟨⟨⟨a1.trans b1.symm,a2.trans b2.symm⟩,a3.trans b3.symm⟩,?_⟩
   rw[g9.2,ht];rfl
 obtain⟨⟨⟨e11,e12⟩,e13⟩,e14⟩:=hfin
 rcases hb with hb|hb|hb
 ·omega
 ·exact hb e14
 ·cases m
  cases m'
  simp only at e1 e2 e3 e4 e5 e6 e7 e9 e11 e12 e13
  subst e1 e2 e3 e4 e5 e6 e7 e9 e11 e12 e13
  exact hb hr
def sD (b:List UInt8) (k:Int) (m:bW):Prop:=
 (aT.gX b≠0∧k=aT.gX b∧m=bW.zero)∨(aT.gX b=0∧((k=0∧qH (aT.jI b) (some m))∨(k=2∧m=bW.zero∧qH (aT.jI b) none)))
theorem sD.b_ {b:List UInt8} {k k':Int} {m m':bW} (h:sD b k m) (g:sD b k' m'):k=k'∧m=m':=by
 rcases h with⟨h0,h1,h2⟩|⟨h0,⟨h1,h2⟩|⟨h1,h2,h3⟩⟩<;>rcases g with⟨g0,g1,g2⟩|⟨g0,⟨g1,g2⟩|⟨g1,g2,g3⟩⟩
 ·exact⟨h1.trans g1.symm,h2.trans g2.symm⟩
 ·exact absurd g0 h0
 ·exact absurd g0 h0
 ·exact absurd h0 g0
 ·have:=h2.b_ g2;injection this with this;exact⟨h1.trans g1.symm,this⟩
 ·cases h2.b_ g3
 ·exact absurd h0 g0
 ·cases h3.b_ g2
 ·exact⟨h1.trans g1.symm,h2.trans g2.symm⟩
open Go.RowKit
theorem aci {v0 v1 v2 v3:Int} (h:g_ (bP v0 v1 v2 v3)):(jH v0 v1 v2 v3).length≤40:=by
 obtain⟨h0,h1,h2,h3⟩:=Ns h
 have l0:=jr (v:=v0) (by omega) (by omega)
 have l1:=jr (v:=v1) (by omega) (by omega)
 have l2:=jr (v:=v2) (by omega) (by omega)
 have l3:=jr (v:=v3) (by omega) (by omega)
 unfold jH
 simp only[List.length_append]
 omega
theorem bW.right.nums {m:bW} (h:m.right):g_ (bP m.v0 m.v1 m.v2 m.v3)∧(0≤m.fr∧m.fr<4)∧(0≤m.tt∧m.tt<4)∧m.fr≠m.tt:=⟨h.1,h.2.1,h.2.2.1,h.2.2.2.1⟩
theorem bW.right.lens {m:bW} (h:m.right):(bG m.kind).length≤10∧(bG m.fr).length≤10∧(bG m.tt).length≤10∧(jH m.v0 m.v1 m.v2 m.v3).length≤40∧(bG (m.bs.length:Int)).length≤10:=by
 have h1:=h.kind
 obtain⟨h2,h3,h4,-⟩:=h.nums
 have h5:=h.len
 exact⟨jr (by omega) (by omega),jr (by omega) (by omega),jr (by omega) (by omega),aci h2,jr (by omega) (by omega)⟩
open Go.RowKit
def zC (x:List UInt8):Prop:=x.length≤6000∨∃m:bW,x=m.enc∧m.right∧kZ m∧x.length≤60000
theorem zC.len {x:List UInt8} (h:zC x):x.length≤60000:=by
 rcases h with h|⟨_,_,_,_,h⟩
 ·omega
 ·exact h
theorem jT.left {st s:Option (List UInt8)} {b:dL} (h:jT st b s):(leftOf s).length≤(leftOf st).length:=by
 rcases h with⟨r,h1,_,h3⟩|⟨h1,_,_⟩
 ·subst h1 h3
  show r.length≤(b.enc++r).length
  rw[List.length_append];omega
 ·subst h1;exact Nat.zero_le _
theorem acj {st t:Option (List UInt8)} {k:Nat} {l:List dL} (h:Run jT st k l t):(leftOf t).length≤(leftOf st).length:=by
 induction h with
 |zero=>exact Nat.le_refl _
 |snoc _ h2 ih=>exact Nat.le_trans (jT.left h2) ih
def FN (mk m2:Int) (x:List UInt8) (kind fr tt v0 v1 v2 v3:Int) (s4:Option (List UInt8)):Prop:=
 ∃s1 s2 s3,dw (some x) mk kind s1∧dw s1 m2 fr s2∧dw s2 m2 tt s3∧kD s3 v0 v1 v2 v3 s4
theorem FN.left {mk m2:Int} {x:List UInt8} {kind fr tt v0 v1 v2 v3:Int} {s4:Option (List UInt8)} (h:FN mk m2 x kind fr tt v0 v1 v2 v3 s4):(leftOf s4).length≤x.length:=by
 obtain⟨s1,s2,s3,g1,g2,g3,g4⟩:=h
 have h1:=dw.left g1
 have h2:=dw.left g2
 have h3:=dw.left g3
 have h4:=g4.left
 have h0:(leftOf (some x)).length=x.length:=rfl
 omega
theorem Vf {mk m2:Int} (hmk:4≤mk) (hmk':mk≤9223372036854775807) (hm2:4≤m2) (tZ:m2≤9223372036854775807) {x:List UInt8} (hf:zC x) {kind fr tt v0 v1 v2 v3 n:Int} {s4 s5 s:Option (List UInt8)} {k:Nat} {l:List dL} (hd:FN mk m2 x kind fr tt v0 v1 v2 v3 s4) (g5:dw s4 16 n s5) (g6:Run jT s5 k l s):
 (leftOf s).length≤60000∧(k<n.toNat→xX s)∧(k=n.toNat→kind=2→oP s):=by
 have hx:=hf.len
 have h1:=hd.left
 have h2:=dw.left g5
 have h3:=acj g6
 refine⟨by omega,fun hk=>?_,fun hk hkd=>?_⟩
 ·rcases hf with hf|⟨m,rfl,hr,hok,-⟩
  ·exact .small (by omega)
  ·obtain⟨s1,s2,s3,g1,g2,g3,g4⟩:=hd
   have hkd:=hr.kind
   have hln:=hr.len
   obtain⟨q1,q2,q3,-,-⟩:=id hr
   unfold bW.enc at g1
   obtain⟨e1,rfl⟩:=g1.b_ (jy _ ⟨by omega,by omega⟩ hmk')
   obtain⟨e2,rfl⟩:=g2.b_ (jy _ ⟨by omega,by omega⟩ tZ)
   obtain⟨e3,rfl⟩:=g3.b_ (jy _ ⟨by omega,by omega⟩ tZ)
   obtain⟨-,rfl⟩:=g4.b_ (kD.make _ q1)
   obtain⟨e8,rfl⟩:=g5.b_ (jy _ ⟨by omega,by omega⟩ (by decide))
   have hkl:k<m.bs.length:=by omega
   obtain⟨-,rfl⟩:=Run.b_ (R:=jT) (fun h k=>h.b_ k) g6 (Oc m.tail hr.each k (by omega))
   have hdr:m.bs.drop k=m.bs[k]::m.bs.drop (k+1):=List.drop_eq_getElem_cons hkl
   rw[hdr,List.flatMap_cons,List.append_assoc]
   exact xX.known (hr.each _ (List.getElem_mem hkl)) (hok.each _ (List.getElem_mem hkl))
 ·rcases hf with hf|⟨m,rfl,hr,hok,-⟩
  ·exact .small (by omega)
  ·obtain⟨s1,s2,s3,g1,g2,g3,g4⟩:=hd
   have afu:=hr.kind
   have hln:=hr.len
   obtain⟨q1,q2,q3,-,-⟩:=id hr
   unfold bW.enc at g1
   obtain⟨e1,rfl⟩:=g1.b_ (jy _ ⟨by omega,by omega⟩ hmk')
   obtain⟨e2,rfl⟩:=g2.b_ (jy _ ⟨by omega,by omega⟩ tZ)
   obtain⟨e3,rfl⟩:=g3.b_ (jy _ ⟨by omega,by omega⟩ tZ)
   obtain⟨-,rfl⟩:=g4.b_ (kD.make _ q1)
   obtain⟨e8,rfl⟩:=g5.b_ (jy _ ⟨by omega,by omega⟩ (by decide))
   have hkl:k=m.bs.length:=by omega
   subst hkl
   obtain⟨-,rfl⟩:=Run.b_ (R:=jT) (fun h k=>h.b_ k) g6 (Oc m.tail hr.each _ (Nat.le_refl _))
   have hk2:m.kind=2:=e1▸hkd
   have ht:m.tail=kC m.es m.ks m.c++ []:=by unfold bW.tail;rw[if_pos hk2,List.append_nil]
   rw[List.drop_length,List.flatMap_nil,List.nil_append,ht]
   exact oP.known (hr.eX hk2) hok.st
theorem yg:kZ bW.zero:=⟨fun b hb=>(by cases hb),Nat.zero_le _,⟨⟨⟨Nat.zero_le _,fun e he=>by cases he⟩,Nat.zero_le _,trivial⟩,Nat.zero_le _,fun s hs=>(by cases hs),Nat.zero_le _⟩⟩
theorem Vg (mk m2:Int) (x:List UInt8):∃kind fr tt v0 v1 v2 v3 s1 s2 s3 s4 n s5,dw (some x) mk kind s1∧dw s1 m2 fr s2∧dw s2 m2 tt s3∧kD s3 v0 v1 v2 v3 s4∧dw s4 16 n s5:=by
 obtain⟨kind,s1,h1⟩:=dw.total (some x) mk
 obtain⟨fr,s2,h2⟩:=dw.total s1 m2
 obtain⟨tt,s3,h3⟩:=dw.total s2 m2
 obtain⟨v0,v1,v2,v3,s4,h4⟩:=kD.total s3
 obtain⟨n,s5,h5⟩:=dw.total s4 16
 exact⟨kind,fr,tt,v0,v1,v2,v3,s1,s2,s3,s4,n,s5,h1,h2,h3,h4,h5⟩
theorem Vh {st s:Option (List UInt8)} {v:Int} (h:dw st 16 v s):-16≤v∧v≤16:=by
 unfold dw at h
 cases st with
 |none=>obtain⟨rfl,-⟩:=h;omega
 |some bs=>
  rcases h with⟨r,-,-,h1,h2,-⟩|⟨-,rfl,-⟩
  ·omega
  ·omega
theorem JD {l:List UInt8} {m:bW} (h0:aT.gX l=0) (h:qH (aT.jI l) (some m)):sD l 0 m:= .inr ⟨h0, .inl ⟨rfl,h⟩⟩
theorem Oe {l:List UInt8} (h0:aT.gX l=0) (h:qH (aT.jI l) none):sD l 2 bW.zero:= .inr ⟨h0, .inr ⟨rfl,rfl,h⟩⟩
theorem Og {l:List UInt8} (h0:aT.gX l≠0):sD l (aT.gX l) bW.zero:= .inl ⟨h0,rfl,rfl⟩
end Go.Proofs.YtabkpccdnkjoiaaGreat
