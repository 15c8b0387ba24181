/- Words for the law MsgSame: SmallT, MsgS, MsgFit, R7Vec, Leaf, R8d. -/
import Derived.Test.YtabkpccdnkjoiaaGreatMsgSameG0
import Derived.Test.YtabkpccdnkjoiaaGreatMsgSameG4
import Derived.Test.YtabkpccdnkjoiaaGreatMsgSameG6
import Derived.Test.YtabkpccdnkjoiaaGreatMsgSameG8
import Derived.Test.YtabkpccdnkjoiaaGreatMsgSameG9
import Derived.Test.YtabkpccdnkjoiaaGreatMsgSameG16
import Derived.Test.YtabkpccdnkjoiaaGreatMsgSameG18
set_option linter.unusedSimpArgs false
set_option linter.unusedVariables false
set_option maxHeartbeats 32000000
set_option maxRecDepth 1000000
namespace Go.Proofs.YtabkpccdnkjoiaaGreat
def nV:aH→Int→Nat→Int
 | .nil,left,_=>left
 | .cons _ es sub rest,left,d=>if left<0∨d=0 then-1 else nV rest (nV sub (left-es.length-sub.len) (d-1)) d
def nX (es:List aG) (ks:aH) (left:Int) (d:Nat):Int:=nV ks (left-es.length-ks.len) d
theorem FP (key:ByteArray) (es:List aG) (sub rest:aH) (left:Int) (d:Nat):nV (.cons key es sub rest) left d=if left<0∨d=0 then-1 else nV rest (nX es sub left (d-1)) d:=rfl
theorem Zh:∀ {ks:aH} {left:Int} {d:Nat},0≤nV ks left d→0≤left
 | .nil,_,_,h=>h
 | .cons _ es sub rest,left,d,h=>by
   rw[FP]at h
   split at h
   ·omega
   ·omega
theorem KA:∀ {ks:aH} {left:Int} {d:Nat},0≤nV ks left d→nV ks left d+gW ks=left+ks.len
 | .nil,_,_,_=>by simp[nV,gW,aH.len]
 | .cons _ es sub rest,left,d,h=>by
   rw[FP]at h⊢
   split at h
   ·omega
   ·rename_i hc
    rw[if_neg hc]
    have h1:=Zh h
    have h2:=KA h
    have h3:=KA (ks:=sub) h1
    unfold nX at h2 h3⊢
    simp only[gW,aH.len]
    omega
theorem Zi {es:List aG} {ks:aH} {left:Int} {d:Nat} (h:0≤nX es ks left d):(sizeT es ks:Int)≤left:=by
 have:=KA h
 unfold nX at h
 unfold sizeT
 omega
theorem KC:∀ {ks:aH} {left:Int} {d:Nat},ks.Ok→left≤1000→-300000000000000≤left→nV ks left d≤1000∧-300000000000000≤nV ks left d
 | .nil,_,_,_,h1,h2=>⟨h1,h2⟩
 | .cons _ es sub rest,left,d,hk,h1,h2=>by
   rw[FP]
   split
   ·omega
   ·obtain⟨_,he,hs,hok,hr⟩:=hk
    have:=he.len
    have h3:=KC (ks:=sub) (left:=left-es.length-sub.len) (d:=d-1) hok (by omega) (by omega)
    exact KC hr h3.1 h3.2
theorem Zj {ks:aH} {n:Nat} {key:ByteArray} {es:List aG} {sub rest:aH} (h:ks.drop n= .cons key es sub rest) (left:Int) (d:Nat):
 nV (ks.drop n) left d=if left<0∨d=0 then-1 else nV (ks.drop (n+1)) (nX es sub left (d-1)) d:=by
 rw[h,aH.yI n ks h,FP]
open Go.RowKit
def ql (es:List aG) (ks:aH) (c:aW):Bool:=decide (0≤nX es ks 30 8)&&decide ((c.length:Int)≤30)
def bF.small (m:bF):Bool:=decide (m.bs.length≤20)&&(ql m.es m.ks m.c&&m.bs.all fun b=>ql b.es b.ks b.c)
theorem QF {es:List aG} {ks:aH} {c:aW} (h:ql es ks c=true):sizeT es ks≤30∧c.length≤30:=by
 unfold ql at h
 simp only[Bool.and_eq_true,decide_eq_true_iff]at h
 have:=Zi h.1
 exact⟨by omega,by omega⟩
theorem QG {es:List aG} {ks:aH} {c:aW} (hok:iJ es ks) (hf:kE c) (h:ql es ks c=true):fP es ks c:=by
 obtain⟨h1,h2⟩:=QF h
 exact⟨hok,by omega,hf,by omega⟩
theorem bF.small.parts {m:bF} (h:m.small=true):m.bs.length≤20∧ql m.es m.ks m.c=true∧∀b∈m.bs,ql b.es b.ks b.c=true:=by
 unfold bF.small at h
 simp only[Bool.and_eq_true,decide_eq_true_iff,List.all_eq_true]at h
 exact⟨h.1,h.2.1,h.2.2⟩
theorem bF.small.ok {m:bF} (h:m.small=true) (hf:Dl m):lq m:=by
 obtain⟨h1,h2,h3⟩:=bF.small.parts h
 exact⟨fun b hb=>QG (hf.each b hb).1 (hf.each b hb).2.1 (h3 b hb),by omega,QG hf.st.1 hf.st.2.1 h2⟩
theorem QH {es:List aG} {ks:aH} {c:aW} (h:fG es ks c) (hl:ql es ks c=true):(jf es ks c).length≤3180:=by
 obtain⟨h1,h2⟩:=QF hl
 have g1:=JC h.tree (by omega)
 have g2:=Yb h.ctx (by omega)
 unfold jf
 rw[List.length_append]
 omega
theorem QI {v0 v1 v2 v3:Int} (h:f_ (bG v0 v1 v2 v3)):(iZ v0 v1 v2 v3).length≤40:=by
 obtain⟨h0,h1,h2,h3⟩:=JE h
 have l0:=iq (v:=v0) (by omega) (by omega)
 have l1:=iq (v:=v1) (by omega) (by omega)
 have l2:=iq (v:=v2) (by omega) (by omega)
 have l3:=iq (v:=v3) (by omega) (by omega)
 unfold iZ
 simp only[List.length_append]
 omega
theorem Zk {b:dh} (h:b.right) (hl:ql b.es b.ks b.c=true):b.enc.length≤3250:=by
 have h':je b.dc b.af b.la (bG b.v0 b.v1 b.v2 b.v3) b.es b.ks b.c:=h
 obtain⟨n1,n2,n3,n4,n5,n6,n7⟩:=je.nums h'
 have g1:=QH (je.dD h') hl
 have g2:=QI n7
 have l1:=iq (v:=b.dc) (by omega) (by omega)
 have l2:=iq (v:=b.af) (by omega) (by omega)
 have l3:=iq (v:=b.la) (by omega) (by omega)
 unfold dh.enc xI
 simp only[List.length_append]
 omega
theorem bF.right.nums {m:bF} (h:m.right):f_ (bG m.v0 m.v1 m.v2 m.v3)∧(0≤m.fr∧m.fr<4)∧(0≤m.tt∧m.tt<4)∧m.fr≠m.tt:=⟨h.1,h.2.1,h.2.2.1,h.2.2.2.1⟩
theorem bF.right.lens {m:bF} (h:m.right):(bD m.kind).length≤10∧(bD m.fr).length≤10∧(bD m.tt).length≤10∧(iZ m.v0 m.v1 m.v2 m.v3).length≤40∧(bD (m.bs.length:Int)).length≤10:=by
 have h1:=h.kind
 obtain⟨h2,h3,h4,-⟩:=h.nums
 have h5:=h.len
 exact⟨iq (by omega) (by omega),iq (by omega) (by omega),iq (by omega) (by omega),QI h2,iq (by omega) (by omega)⟩
theorem Az {m:bF} (h:m.right) (hl:m.small=true):m.enc.length≤60000:=by
 obtain⟨h1,h2,h3⟩:=bF.small.parts hl
 obtain⟨l1,l2,l3,l4,l5⟩:=h.lens
 have l6:=Aa (f:=dh.enc) (m:=3250) (l:=m.bs) fun b hb=>Zk (h.each b hb) (h3 b hb)
 have h5:=h.len
 have l7:m.tail.length≤3180:=by
  unfold bF.tail
  split
  ·rename_i hk;exact QH (h.dD hk) h2
  ·simp
 have l8:3250*m.bs.length≤52000:=by omega
 unfold bF.enc
 simp only[List.length_append]
 omega
open Go.RowKit
def FQ (x:List UInt8):Prop:=x.length≤6000∨∃m:bF,x=m.enc∧m.right∧lq m∧x.length≤60000
theorem FQ.len {x:List UInt8} (h:FQ x):x.length≤60000:=by
 rcases h with h|⟨_,_,_,_,h⟩
 ·omega
 ·exact h
theorem jU.left {st s:Option (List UInt8)} {b:dh} (h:jU st b s):(leftOf s).length≤(leftOf st).length:=by
 rcases h with⟨r,h1,_,h3⟩|⟨h1,_,_⟩
 ·subst h1 h3
  show r.length≤(b.enc++r).length
  rw[List.length_append];omega
 ·subst h1;exact Nat.zero_le _
theorem Zl {st t:Option (List UInt8)} {k:Nat} {l:List dh} (h:Run jU st k l t):(leftOf t).length≤(leftOf st).length:=by
 induction h with
 |zero=>exact Nat.le_refl _
 |snoc _ h2 ih=>exact Nat.le_trans (jU.left h2) ih
def FT (mk m2:Int) (x:List UInt8) (kind fr tt v0 v1 v2 v3:Int) (s4:Option (List UInt8)):Prop:=
 ∃s1 s2 s3,b_ (some x) mk kind s1∧b_ s1 m2 fr s2∧b_ s2 m2 tt s3∧jK s3 v0 v1 v2 v3 s4
theorem FT.left {mk m2:Int} {x:List UInt8} {kind fr tt v0 v1 v2 v3:Int} {s4:Option (List UInt8)} (h:FT mk m2 x kind fr tt v0 v1 v2 v3 s4):(leftOf s4).length≤x.length:=by
 obtain⟨s1,s2,s3,g1,g2,g3,g4⟩:=h
 have h1:=b_.left g1
 have h2:=b_.left g2
 have h3:=b_.left g3
 have h4:=g4.left
 have h0:(leftOf (some x)).length=x.length:=rfl
 omega
theorem Zm {mk m2:Int} (hmk:4≤mk) (hmk':mk≤9223372036854775807) (hm2:4≤m2) (qU:m2≤9223372036854775807) {x:List UInt8} (hf:FQ x) {kind fr tt v0 v1 v2 v3 n:Int} {s4 s5 s:Option (List UInt8)} {k:Nat} {l:List dh} (hd:FT mk m2 x kind fr tt v0 v1 v2 v3 s4) (g5:b_ s4 16 n s5) (g6:Run jU s5 k l s):
 (leftOf s).length≤60000∧(k<n.toNat→xJ s)∧(k=n.toNat→kind=2→pY s):=by
 have hx:=hf.len
 have h1:=hd.left
 have h2:=b_.left g5
 have h3:=Zl g6
 refine⟨by omega,fun hk=>?_,fun hk hkd=>?_⟩
 ·rcases hf with hf|⟨m,rfl,hr,hok,-⟩
  ·exact .small (by omega)
  ·obtain⟨s1,s2,s3,g1,g2,g3,g4⟩:=hd
   have hkd:=hr.kind
   have hln:=hr.len
   obtain⟨q1,q2,q3,-,-⟩:=id hr
   unfold bF.enc at g1
   obtain⟨e1,rfl⟩:=g1.bY (iO _ ⟨by omega,by omega⟩ hmk')
   obtain⟨e2,rfl⟩:=g2.bY (iO _ ⟨by omega,by omega⟩ qU)
   obtain⟨e3,rfl⟩:=g3.bY (iO _ ⟨by omega,by omega⟩ qU)
   obtain⟨-,rfl⟩:=g4.bY (jK.make _ q1)
   obtain⟨e8,rfl⟩:=g5.bY (iO _ ⟨by omega,by omega⟩ (by decide))
   have hkl:k<m.bs.length:=by omega
   obtain⟨-,rfl⟩:=Run.bY (R:=jU) (fun h k=>h.bY k) g6 (Kz m.tail hr.each k (by omega))
   have hdr:m.bs.drop k=m.bs[k]::m.bs.drop (k+1):=List.drop_eq_getElem_cons hkl
   rw[hdr,List.flatMap_cons,List.append_assoc]
   exact xJ.known (hr.each _ (List.getElem_mem hkl)) (hok.each _ (List.getElem_mem hkl))
 ·rcases hf with hf|⟨m,rfl,hr,hok,-⟩
  ·exact .small (by omega)
  ·obtain⟨s1,s2,s3,g1,g2,g3,g4⟩:=hd
   have acS:=hr.kind
   have hln:=hr.len
   obtain⟨q1,q2,q3,-,-⟩:=id hr
   unfold bF.enc at g1
   obtain⟨e1,rfl⟩:=g1.bY (iO _ ⟨by omega,by omega⟩ hmk')
   obtain⟨e2,rfl⟩:=g2.bY (iO _ ⟨by omega,by omega⟩ qU)
   obtain⟨e3,rfl⟩:=g3.bY (iO _ ⟨by omega,by omega⟩ qU)
   obtain⟨-,rfl⟩:=g4.bY (jK.make _ q1)
   obtain⟨e8,rfl⟩:=g5.bY (iO _ ⟨by omega,by omega⟩ (by decide))
   have hkl:k=m.bs.length:=by omega
   subst hkl
   obtain⟨-,rfl⟩:=Run.bY (R:=jU) (fun h k=>h.bY k) g6 (Kz m.tail hr.each _ (Nat.le_refl _))
   have hk2:m.kind=2:=e1▸hkd
   have ht:m.tail=jf m.es m.ks m.c++ []:=by unfold bF.tail;rw[if_pos hk2,List.append_nil]
   rw[List.drop_length,List.flatMap_nil,List.nil_append,ht]
   exact pY.known (hr.dD hk2) hok.st
theorem FU:lq bF.zero:=⟨fun b hb=>(by cases hb),Nat.zero_le _,⟨⟨⟨Nat.zero_le _,fun e he=>by cases he⟩,Nat.zero_le _,trivial⟩,Nat.zero_le _,fun s hs=>(by cases hs),Nat.zero_le _⟩⟩
theorem Zn (mk m2:Int) (x:List UInt8):∃kind fr tt v0 v1 v2 v3 s1 s2 s3 s4 n s5,b_ (some x) mk kind s1∧b_ s1 m2 fr s2∧b_ s2 m2 tt s3∧jK s3 v0 v1 v2 v3 s4∧b_ s4 16 n s5:=by
 obtain⟨kind,s1,h1⟩:=b_.total (some x) mk
 obtain⟨fr,s2,h2⟩:=b_.total s1 m2
 obtain⟨tt,s3,h3⟩:=b_.total s2 m2
 obtain⟨v0,v1,v2,v3,s4,h4⟩:=jK.total s3
 obtain⟨n,s5,h5⟩:=b_.total s4 16
 exact⟨kind,fr,tt,v0,v1,v2,v3,s1,s2,s3,s4,n,s5,h1,h2,h3,h4,h5⟩
theorem Zo {st s:Option (List UInt8)} {v:Int} (h:b_ st 16 v s):-16≤v∧v≤16:=by
 unfold b_ at h
 cases st with
 |none=>obtain⟨rfl,-⟩:=h;omega
 |some bs=>
  rcases h with⟨r,-,-,h1,h2,-⟩|⟨-,rfl,-⟩
  ·omega
  ·omega
theorem QJ {l:List UInt8} {m:bF} (h0:bC.nG l=0) (h:qj (bC.qZ l) (some m)):xM l 0 m:= .inr ⟨h0, .inl ⟨rfl,h⟩⟩
theorem Zp {l:List UInt8} (h0:bC.nG l=0) (h:qj (bC.qZ l) none):xM l 2 bF.zero:= .inr ⟨h0, .inr ⟨rfl,rfl,h⟩⟩
open Go.RowKit
theorem Zq {l:aX} (h:dA l):∀k,0<k→k<l.length→(l.getD k (0,0)).1≠1:=by
 cases l with
 |nil=>intro k _ hk;cases hk
 |cons r l=>
  intro k h0 hk
  obtain⟨⟨g1,g2,g3⟩,-⟩:=h
  obtain⟨j,rfl⟩:∃j,k=j+1:=⟨k-1,by omega⟩
  have hj:j<l.length:=by simpa using hk
  exact YV g3 (by omega) _ (by
   show l.getD j (0,0)∈l
   exact getD_mem (0,0) hj)
theorem QK (w:World) (v:Value) (ct:aW) (h:fZ w v ct) (hr:dw ct) (hl:ct.length≤100000):Calls Tryz.prog 78 #[v] w fun e w'=>e= .returned (.agg (nD fun d=>lW (bI ct d)))∧aj ay w w':=by
 have HC:=ah (fun W (d:Int) (fr:aj ay w W)=>ED W v ct d (Rd.aO h fr) hl)
 obtain⟨a,c,rfl⟩:=Rd.sl h
 have eF:=ah hr
 have yV:=ah (fun d h0 h4=>(hr.2 d h0 h4:dA (bI ct d)))
 clear h hr
 generalize hf:(fun d=>lW (bI ct d))=f at*
 have Kr:=ah (fun d=>(by rw[←hf]:f d=lW (bI ct d)))
 clear hf
 generalize ct.length=n at*
 obtain⟨hb1,hfb,hbs⟩:=sZ w (.cells #[.int .i64 0, .int .i64 0, .int .i64 0, .int .i64 0] 25) #[.int .i64 0, .int .i64 0, .int .i64 0, .int .i64 0] 25
 have hb0:((w.alloc (.cells #[.int .i64 0, .int .i64 0, .int .i64 0, .int .i64 0] 25)).alloc (.cells #[.int .i64 0, .int .i64 0, .int .i64 0, .int .i64 0] 25)).heap[w.heap.size]?=some (.cells #[.int .i64 0, .int .i64 0, .int .i64 0, .int .i64 0] 25 (0,0)):=(aj.alloc ay _ _).blk (heap_alloc_new w _) id
 have HB1:=ah hb1;clear hb1
 have HB0:=ah hb0;clear hb0
 have bg:=ah hfb;clear hfb
 have uT:=ah hbs;clear hbs
 go_enter Tryz.func78,Tryz.ntmps78
 go_wp2
 have hst:qW w ((w.alloc (.cells #[.int .i64 0, .int .i64 0, .int .i64 0, .int .i64 0] 25)).alloc (.cells #[.int .i64 0, .int .i64 0, .int .i64 0, .int .i64 0] 25)) ((w.alloc (.cells #[.int .i64 0, .int .i64 0, .int .i64 0, .int .i64 0] 25)).alloc (.cells #[.int .i64 0, .int .i64 0, .int .i64 0, .int .i64 0] 25)) (fun _=>0) 25:=⟨HB1.out,HB0.out,bg.out,aj.refl _ _⟩
 have HST:=ah hst;clear hst
 go_loopw [5] (fun i ww=>∃k:Nat,k≤4∧i= .int .i64 k∧qW w ((w.alloc (.cells #[.int .i64 0, .int .i64 0, .int .i64 0, .int .i64 0] 25)).alloc (.cells #[.int .i64 0, .int .i64 0, .int .i64 0, .int .i64 0] 25)) ww (wG f k) 25) (fun i _=>4-(intOf i).toNat)
 case atStart=>exact⟨0,Nat.zero_le _,rfl,HST.out.congr fun d h0 h4=>by unfold wG;rw[if_neg (by omega)]⟩
 case round=>
  obtain⟨k,hk,rfl,hv⟩:=hrel
  have HV:=ah hv;clear hv
  by_cases hlt:k<4
  ·have hki:(k:Int)<4:=by omega
   have oq:=ah (HC.out wr (k:Int) HV.out.aP)
   have fV:=ah (Kr.out k)
   have EM:=ah (yV.out k (by omega) hki)
   have Kt:=ah (fun d=>Qx f k d)
   generalize f k=x at*
   go_wp2_with(first
    |(go_at_call 142;refine oq.out.mono ?_;rintro e w2 ⟨v2,rfl,ho2⟩;obtain⟨a2,c2,rfl⟩:=ho2.shape;have Zr:=ah (HV.out.keep ho2.aP);have lK:=ah (fV.out▸YW w2 _ (bI ct k) ho2.rd (Zq EM.out));clear ho2)
    |(go_at_call 141;refine lK.out.mono ?_;rintro e w3 ⟨rfl,hw3⟩;have gY:=ah (Zr.out.keep hw3);clear hw3;have z0:=gY.out.a.cell hlt;have g0:=gY.out.a.free k;have Ku:=ah (gY.out.set hlt x)))
   clear z0 g0
   go_roundw
   case rel=>exact⟨k+1,by omega,by go_num,Ku.out.congr fun d h0 h4=>Kt.out d⟩
   case measure=>simp[intOf];omega
  ·obtain rfl:k=4:=by omega
   have gY:=ah (HV.out.congr fun d h0 h4=>Qy f h4)
   have a0':=gY.out.a.cell (k:=0) (by decide)
   have a1':=gY.out.a.cell (k:=1) (by decide)
   have a2':=gY.out.a.cell (k:=2) (by decide)
   have a3':=gY.out.a.cell (k:=3) (by decide)
   have r0:=gY.out.r.cell (k:=0) (by decide)
   have r1:=gY.out.r.cell (k:=1) (by decide)
   have r2:=gY.out.r.cell (k:=2) (by decide)
   have r3:=gY.out.r.cell (k:=3) (by decide)
   have g0:=gY.out.r.free 0
   have g1:=gY.out.r.free 1
   have g2:=gY.out.r.free 2
   have g3:=gY.out.r.free 3
   have HR:=ah (gY.out.r.Dh f)
   have HF:=ah (gY.out.aP.Dh (b:=w.heap.size) (Nat.le_refl _) (.int .i64 (f 0)) (.int .i64 (f 1)) (.int .i64 (f 2)) (.int .i64 (f 3)))
   go_wp2
   clear a0' a1' a2' a3' r0 r1 r2 r3 g0 g1 g2 g3
   have r0:=HR.out.cell (k:=0) (by decide)
   have r1:=HR.out.cell (k:=1) (by decide)
   have r2:=HR.out.cell (k:=2) (by decide)
   have r3:=HR.out.cell (k:=3) (by decide)
   exact bodyPost_ret (v:= .agg (nD f)) (by simp[results,Tryz.results78,go_sem,r0,r1,r2,r3,nD]) rfl ⟨rfl,HF.out⟩
open Go.RowKit
abbrev nY:=List (Value×aG)
def nH (l:nY):List Value:=l.flatMap fun x=>x.1::x.2.cells
def qm (p:Value) (es:List aG):nY:=es.map fun e=>(p,e)
def oM (l:nY):aX:=l.map fun x=>(x.2.dc,x.2.n)
def u_ (l:nY):Prop:=∀x∈l,x.1.oneCell'=true
theorem FV (a b:nY):nH (a++b)=nH a++nH b:=by simp[nH]
theorem QL (x:Value×aG) (l:nY):nH (x::l)=x.1:: .int .i64 x.2.dc:: .int .i64 x.2.n:: .string x.2.s:: .int .i64 x.2.k::nH l:=rfl
theorem FW:∀l:nY,(nH l).length=l.length*5
 |[]=>rfl
 |x::l=>by rw[QL];simp only[List.length_cons,FW l];omega
theorem KD {l:nY} (h:u_ l):∀v∈nH l,v.oneCell'=true:=by
 intro v hv
 simp only[nH,List.mem_flatMap]at hv
 obtain⟨x,hx,hv⟩:=hv
 rcases List.mem_cons.1 hv with rfl|hv
 ·exact h x hx
 ·simp[aG.cells]at hv
  rcases hv with rfl|rfl|rfl|rfl<;>rfl
theorem QM:∀(l:nY) (k:Nat),k<l.length→(nH l)[k*5+1]?=some (.int .i64 (l.getD k (.bool true,aG.zero)).2.dc)∧(nH l)[k*5+2]?=some (.int .i64 (l.getD k (.bool true,aG.zero)).2.n)
 |[],_,h=>by cases h
 |x::l,0,_=>⟨rfl,rfl⟩
 |x::l,k+1,h=>by
  obtain⟨h1,h2⟩:=QM l k (by simpa using h)
  rw[QL,show(k+1)*5+1=(k*5+1)+1+1+1+1+1 by omega,show(k+1)*5+2=(k*5+2)+1+1+1+1+1 by omega]
  exact⟨h1,h2⟩
theorem Zt {w:World} {b off c n:Nat} {l:nY} (h:Rd w (.slice (some ⟨b,off,none⟩) n c) n (nH l)) (k:Nat) (hk:k<l.length):
 w.cell? ⟨b,off+k*5+1,none⟩=some (.int .i64 (l.getD k (.bool true,aG.zero)).2.dc)∧w.cell? ⟨b,off+k*5+2,none⟩=some (.int .i64 (l.getD k (.bool true,aG.zero)).2.n):=by
 obtain⟨h1,h2⟩:=QM l k hk
 exact⟨h.cell (k*5+1) _ h1,h.cell (k*5+2) _ h2⟩
theorem Zu {l:nY} {k:Nat} (hk:k<l.length):oM (l.take (k+1))=oM (l.take k)++ [((l.getD k (.bool true,aG.zero)).2.dc,(l.getD k (.bool true,aG.zero)).2.n)]:=by
 rw[take_succ (.bool true,aG.zero) hk];simp[oM]
theorem KE (a b:nY):oM (a++b)=oM a++oM b:=by simp[oM]
theorem wI (l:nY):(oM l).length=l.length:=by simp[oM]
theorem Zv (p:Value) (es:List aG):oM (qm p es)=pI es:=by simp[oM,qm,pI]
theorem Zw (p:Value) (es:List aG):(qm p es).length=es.length:=by simp[qm]
theorem u_.qm {p:Value} (h:p.oneCell'=true) (es:List aG):u_ (qm p es):=fun x hx=>by
 obtain⟨e,_,rfl⟩:=List.mem_map.1 hx
 exact h
theorem u_.append {a b:nY} (ha:u_ a) (hb:u_ b):u_ (a++b):=fun x hx=>(List.mem_append.1 hx).elim (ha x) (hb x)
theorem Zx {p:Value} {es:List aG} {k:Nat} (hk:k<es.length):nH (qm p (es.take (k+1)))=nH (qm p (es.take k))++ [p, .int .i64 (es.getD k aG.zero).dc, .int .i64 (es.getD k aG.zero).n, .string (es.getD k aG.zero).s, .int .i64 (es.getD k aG.zero).k]:=by
 rw[take_succ aG.zero hk,show qm p (es.take k++ [es.getD k aG.zero])=qm p (es.take k)++ [(p,es.getD k aG.zero)] by simp[qm],FV]
 rfl
def nZ (l:List ByteArray):List Value:=l.map .string
theorem KF (a b:List ByteArray):nZ (a++b)=nZ a++nZ b:=by simp[nZ]
@[simp] theorem KG (l:List ByteArray):(nZ l).length=l.length:=by simp[nZ]
theorem KH (l:List ByteArray):∀v∈nZ l,v.oneCell'=true:=by
 intro v hv
 simp only[nZ,List.mem_map]at hv
 obtain⟨r,_,rfl⟩:=hv
 rfl
theorem Zy:(Tryz.prog.info? 175).map (fun i=>(i.zero,i.size,i.bytes))=some (some (.agg #[.slice none 0 0, .int .i64 0, .int .i64 0, .string ByteArray.empty, .int .i64 0]),5,64):=by kernel_rfl
theorem Zz:(Tryz.prog.info? 9).map (fun i=>(i.zero,i.size,i.bytes))=some (some (.string ByteArray.empty),1,16):=by kernel_rfl
open Go.RowKit
def QN (w:World) (es:List aG) (ks:aH) (e:Ending) (w':World):Prop:=
 ∃(v':Value) (l:nY),e= .returned v'∧OwnAt w w' 175 5 v' l.length (nH l)∧oM l=gq es ks∧u_ l
theorem ZA (Q:Nat→Prop):∀(N:Nat) (es:List aG) (ks:aH) (w:World) (ev kv pv:Value) (pl:List ByteArray),gW ks<N→bQ Q w ev kv es ks→sizeT es ks≤100000→Rd w pv pl.length (nZ pl)→pl.length+N≤200000→
 Calls Tryz.prog 108 #[.agg #[ev,kv],pv] w (QN w es ks):=by
 intro N
 induction N with
 |zero=>intros;exfalso;omega
 |succ N jy=>
  intro es ks w ev kv pv pl hN ht hsz hp hpl
  obtain⟨i0,hi,hz0,hz1,hz2⟩:=info_parts Zy
  obtain⟨j0,hji,hy0,hy1,hy2⟩:=info_parts Zz
  obtain⟨ae,ce,rfl⟩:=ht.ents.rd.sl
  obtain⟨os,hkr,fD⟩:=ht.kids
  obtain⟨ak,ck,rfl⟩:=hkr.rd.sl
  obtain⟨ap,cp,rfl⟩:=hp.sl
  have HP:=ah hp;clear hp
  have HE:=ah ht.ents.rd
  have jl:=ah hkr.rd;clear hkr ht
  have kW:=ah fD;clear fD
  have IH:=ah jy;clear jy
  have dB:=ah (aj.alloc ay w (.cells #[.slice ae es.length ce, .slice ak ks.len ck] 30))
  have box0:(w.alloc (.cells #[.slice ae es.length ce, .slice ak ks.len ck] 30)).cell? ⟨w.heap.size,0,none⟩=some (.slice ae es.length ce):=aC (heap_alloc_new w _) 0 rfl
  have box1:(w.alloc (.cells #[.slice ae es.length ce, .slice ak ks.len ck] 30)).cell? ⟨w.heap.size,1,none⟩=some (.slice ak ks.len ck):=aC (heap_alloc_new w _) 1 rfl
  have B0:=ah box0;clear box0
  have B1:=ah box1;clear box1
  have mJ:=ah (Nat.le_trans (BL es ks) hsz)
  have xw:es.length≤100000:=by unfold sizeT at hsz;omega
  have BP:ks.len≤100000:=by have:=uQ ks;unfold sizeT at hsz;omega
  have m_:=ah hsz;clear hsz
  have jJ:=ah hN;clear hN
  have hq5:pl.length≤200000:=by omega
  have kU:=ah hpl;clear hpl
  generalize hes:es.length=n at*
  have HN:=ah hes;clear hes
  generalize hkl:ks.len=m at*
  have HM:=ah hkl;clear hkl
  generalize QO:pl.length=q at*
  have HQ:=ah QO;clear QO
  go_enter Tryz.func108,Tryz.ntmps108
  go_wp2_with fail
  have b0:=B0.out
  go_wp2
  clear b0
  go_loopw [5,12] (fun v i ww=>∃k:Nat,k≤n∧i= .int .i64 k∧OwnAt (w.alloc (.cells #[.slice ae n ce, .slice ak m ck] 30)) ww 175 5 v k (nH (qm (.slice ap q cp) (es.take k)))) (fun _ i _=>n-(intOf i).toNat)
  case atStart=>exact⟨0,Nat.zero_le _,rfl,OwnAt.nil (aj.refl _ _) _ _⟩
  case round=>
   obtain⟨k,hk,rfl,ho⟩:=hrel
   obtain⟨av,cv,rfl⟩:=ho.shape
   have HO:=ah ho;clear ho
   by_cases hlt:k<n
   ·rcases Rd.shape HE.out with⟨ad,he,h0⟩|⟨b,off,cc,he,hmax⟩
    ·exfalso;have:=HN.out;omega
    ·injection he with e1 e2 e3
     subst e1 e3
     clear e2
     have hlk:k<es.length:=by rw[HN.out];exact hlt
     obtain⟨p0,p1,p2,p3⟩:=sW HE.out k hlk
     have f2:=dB.out.au HO.out.aP
     have q0:=f2.cell' p0 id
     have q1:=f2.cell' p1 id
     have q2:=f2.cell' p2 id
     have q3:=f2.cell' p3 id
     have b0:=HO.out.aP.cell' B0.out id
     clear p0 p1 p2 p3 f2
     have hE:=Zx (p:= .slice ap q cp) hlk
     generalize es.getD k aG.zero=e at*
     have yK:=ah hE;clear hE
     go_wp2_with(at_builtin;refine oh _ _ [.slice ap q cp, .int .i64 e.dc, .int .i64 e.n, .string e.s, .int .i64 e.k] rfl (.tmp 15) (.tmp 23) 81 rfl 175 i0 _ 5 64 Tryz.underlying81 hi hz0 hz1 hz2 (by decide) (by decide) _ _ _ HO.out 1 1 rfl (by simp[Act.eval]) rfl (by simp[Value.oneCell']) (by simp only[maxLen];omega) (by omega) ?_;intro EN mF w2 cZ;have OW:=ah cZ;clear cZ)
     go_roundw
     case rel=>exact⟨k+1,by omega,by go_num,by rw[yK.out];exact OW.out⟩
     case measure=>simp[intOf];omega
   ·obtain rfl:n=k:=by omega
    rw[List.take_of_length_le (by rw[HN.out];exact Nat.le_refl _)]at HO
    have b1:=HO.out.aP.cell' B1.out id
    go_wp2
    clear b1
    go_loopw [5,29] (fun v i ww=>∃(k:Nat) (l:nY),k≤m∧i= .int .i64 k∧OwnAt (w.alloc (.cells #[.slice ae n ce, .slice ak m ck] 30)) ww 175 5 v l.length (nH l)∧gq es ks=oM l++oz (ks.drop k)∧u_ l) (fun _ i _=>m-(intOf i).toNat)
    case atStart=>exact⟨0,qm (.slice ap q cp) es,Nat.zero_le _,rfl,by rw[Zw,HN.out];exact HO.out,by rw[Zv];rfl,u_.qm rfl es⟩
    case round=>
     obtain⟨k,l,hk,rfl,ho,hd,hone⟩:=hrel
     obtain⟨av,cv,rfl⟩:=ho.shape
     have dL:=ah ho;clear ho
     have HD:=ah hd;clear hd
     have pJ:=ah hone;clear hone
     by_cases hlt:k<m
     ·obtain⟨key,es',sub,rest,hdr⟩:=aH.rM (n:=k) (ks:=ks) (by rw[HM.out];exact hlt)
      rcases Rd.shape jl.out with⟨ad,he,h0⟩|⟨b,off,cc,he,hmax⟩
      ·exfalso;have:=HM.out;omega
      ·injection he with e1 e2 e3
       subst e1 e3
       clear e2
       have f2:=dB.out.au dL.out.aP
       obtain⟨ev',kv',c0,c1,c2,hta⟩:=qK (jl.out.aO f2) (kW.out.aO f2) hdr
       obtain⟨dW,dX,rfl⟩:=hta.ents.rd.sl
       obtain⟨os',iK,kX⟩:=hta.kids
       obtain⟨dY,dZ,rfl⟩:=iK.rd.sl
       clear iK kX
       have hpr:=HP.out.aO f2
       have yV:=ah hpr;clear hpr f2
       have b1:=dL.out.aP.cell' B1.out id
       have yL:=ah (Ox hdr)
       have fF:=ah (uP k hdr)
       have HST:=ah (xu k hdr)
       have dM:=ah hta;clear hta
       have HIH:=ah (fun w' (h:aj ay wr w') pv (hpv:Rd w' pv (pl++ [key]).length (nZ (pl++ [key])))=>IH.out es' sub w' _ _ pv (pl++ [key]) (by have:=fF.out;have:=jJ.out;omega) (dM.out.aO h) (by have:=HST.out;have:=m_.out;unfold sizeT at*;omega) hpv (by have:=kU.out;have:=HQ.out;simp;omega))
       have hlen:l.length+(gq es' sub).length≤100000:=by
        have h1:=mJ.out
        rw[HD.out,yL.out,List.length_append,List.length_append,wI]at h1
        omega
       have HLEN:=ah hlen;clear hlen
       clear hdr
       generalize es'.length=n' at*
       generalize sub.len=m' at*
       go_wp2_with fail
       refine iI (S:=fun w'=>w'.cell? ⟨w.heap.size,1,none⟩=some (.slice (some ⟨b,off,none⟩) m ck)∧w'.cell? ⟨b,off+k*3,none⟩=some (.string key)) 11 (by kernel_rfl) ⟨b1,c0⟩ ?_
       intro hS
       have lX:aj ay wr wr.drew:=aj.drew _ _
       have acT:=ah lX
       generalize wr.drew=Y at*
       refine aS 1 33 rfl rfl (v:=?_) (.inl ⟨by rfl,?_⟩) ?_
       rotate_left 1
       ·(intro w hSw;(try dsimp only at hSw);go_simp;(try with_reducible rfl))
       refine aS 3 35 rfl rfl (v:=?_) (.inl ⟨by rfl,?_⟩) ?_
       rotate_left 1
       ·(intro w hSw;(try dsimp only at hSw);go_simp;(try with_reducible rfl))
       try simp only[Act.put,aI,aJ,aN]
       refine aS 4 36 rfl rfl (v:=?_) (.inl ⟨by rfl,?_⟩) ?_
       rotate_left 1
       ·(intro w hSw;(try dsimp only at hSw);go_simp;(try with_reducible rfl))
       refine aS 5 37 rfl rfl (v:=?_) (.inl ⟨by rfl,?_⟩) ?_
       rotate_left 1
       ·(intro w hSw;(try dsimp only at hSw);go_simp;(try with_reducible rfl))
       try simp only[Act.put,aI,aJ,aN]
       refine aS 6 38 rfl rfl (v:=?_) (.inl ⟨by rfl,?_⟩) ?_
       rotate_left 1
       ·(intro w hSw;(try dsimp only at hSw);go_simp;(try with_reducible rfl))
       refine aS 7 39 rfl rfl (v:=?_) (.inl ⟨by rfl,?_⟩) ?_
       rotate_left 1
       ·(intro w hSw;(try dsimp only at hSw);go_simp;(try with_reducible rfl))
       try simp only[Act.put,aI,aJ,aN]
       refine aS 8 40 rfl rfl (v:=?_) (.inl ⟨by rfl,?_⟩) ?_
       rotate_left 1
       ·(intro w hSw;(try dsimp only at hSw);go_simp;(try with_reducible rfl))
       try simp only[Act.put,aI,aJ,aN]
       refine OL (i:=0) (j:=9) (by kernel_rfl) rfl rfl (fun K hK=>?_) (fun K hK=>?_)
       ·go_simp
        have hfA:aj ay Y (Y.alloc (.cells #[] 9)):=aj.alloc _ _ _
        have hE:OwnAt wr (Y.alloc (.cells #[] 9)) 9 1 (.slice (some ⟨Y.heap.size,0,none⟩) 0 0) 0 []:=OwnAt.empty lX _ _
        have hS:(Y.alloc (.cells #[] 9)).cell? ⟨w.heap.size,1,none⟩=some (.slice (some ⟨b,off,none⟩) m ck)∧(Y.alloc (.cells #[] 9)).cell? ⟨b,off+k*3,none⟩=some (.string key):=⟨hfA.cell' hS.1 id,hfA.cell' hS.2 id⟩
        have lX:=lX.au hfA
        (try have hne:kb≠Y.heap.size:=by have:=hkb;omega)
        (try have lu:=lu.aO hfA)
        refine hK.out _ _ hS ?_
        clear hK K hfA
        obtain⟨eb,heb⟩:∃eb,Y.heap.size=eb:=⟨_,rfl⟩
        rw[heb]at hE⊢
        have yX:eb<(Y.alloc (.cells #[] 9)).heap.size:=by rw[←heb];simp
        (try rw[heb]at hne)
        clear heb
        generalize Y.alloc (.cells #[] 9)=Y at*
        try simp only[Act.put,aI,aJ,aN]
        refine OL (i:=2) (j:=9) (by kernel_rfl) rfl rfl (fun K hK=>?_) (fun K hK=>?_)
        ·refine zW wr Y (nZ pl) rfl (.tmp 32) (.tmp 33) 173 173 rfl 9 9 j0 _ 1 16 Tryz.underlying173 Tryz.underlying173 hji hy0 hy1 hy2 (by decide) (by decide) _ 0 [] hE _ q (by simp[Act.eval]) (by simp[Act.eval]) (yV.out.aO lX) (by rw[KG,HQ.out];omega) (KH _) (by simp only[maxLen];omega) (by omega) ?_
         intro QS EO Y2 hP xO Dn
         rw[Nat.zero_add]at hP
         rw[List.nil_append]at hP
         have hS:Y2.cell? ⟨w.heap.size,1,none⟩=some (.slice (some ⟨b,off,none⟩) m ck)∧Y2.cell? ⟨b,off+k*3,none⟩=some (.string key):=⟨hP.aP.cell' b1 id,hP.aP.cell' c0 id⟩
         have lX:=hP.aP
         (try have lu:=lu.keep xO (fun x hx hr=>by simp[fJ,Value.ownBlock]at hx hr;omega))
         rw[Nat.zero_add]
         refine hK.out _ _ hS ?_
         clear hK K xO Dn hE yX
         generalize Y2=Y at*
         try simp only[Act.put,aI,aJ,aN]
         refine bM (i:=9) (by kernel_rfl) rfl (fun K hK=>?_)
         go_simp
         have hfA:aj ay Y (Y.alloc (.cells #[.string key] 9)):=aj.alloc _ _ _
         have hS:(Y.alloc (.cells #[.string key] 9)).cell? ⟨w.heap.size,1,none⟩=some (.slice (some ⟨b,off,none⟩) m ck)∧(Y.alloc (.cells #[.string key] 9)).cell? ⟨b,off+k*3,none⟩=some (.string key):=⟨hfA.cell' hS.1 id,hfA.cell' hS.2 id⟩
         have lX:=lX.au hfA
         (try have hne:Y.heap.size≠eb:=by have:=yX;omega)
         (try have hE:=hE.keep hfA)
         (try have hP:=hP.keep hfA)
         have lu:Rd (Y.alloc (.cells #[.string key] 9)) (.slice (some ⟨Y.heap.size,0,none⟩) 1 1) 1 [.string key]:= .inr ⟨Y.heap.size,0,1,rfl,Nat.le_refl _,by decide,fun j u hu=>by rw[Nat.zero_add];exact aC (heap_alloc_new Y _) j (by simpa using hu)⟩
         refine hK.out _ _ hS ?_
         clear hK K hfA
         obtain⟨kb,qo⟩:∃kb,Y.heap.size=kb:=⟨_,rfl⟩
         rw[qo]at lu⊢
         have hkb:kb<(Y.alloc (.cells #[.string key] 9)).heap.size:=by rw[←qo];simp
         (try rw[qo]at hne)
         clear qo
         generalize Y.alloc (.cells #[.string key] 9)=Y at*
         try simp only[Act.put,aI,aJ,aN]
         refine bM (i:=10) (by kernel_rfl) rfl (fun K hK=>?_)
         refine zW wr Y [.string key] rfl (.tmp 34) (.tmp 41) 173 173 rfl 9 9 j0 _ 1 16 Tryz.underlying173 Tryz.underlying173 hji hy0 hy1 hy2 (by decide) (by decide) _ q (nZ pl) hP _ 1 (by simp[Act.eval]) (by simp[Act.eval]) lu rfl (by simp[Value.oneCell']) (by simp only[maxLen];omega) (by omega) ?_
         intro QT QU Y3 qp Dp Dq
         have hS:Y3.cell? ⟨w.heap.size,1,none⟩=some (.slice (some ⟨b,off,none⟩) m ck)∧Y3.cell? ⟨b,off+k*3,none⟩=some (.string key):=⟨qp.aP.cell' b1 id,qp.aP.cell' c0 id⟩
         refine hK.out _ _ hS ?_
         clear hK K Dp Dq hP
         have iy:=ah qp;clear qp
         try simp only[Act.put,aI,aJ,aN]
         refine iQ (by kernel_rfl) (by kernel_rfl) rfl (fun K hK=>?_)
         go_simp
         refine hK.out _ _ ?_
         clear hK K lu hS
         have c1:=iy.out.aP.cell' c1 id
         have c2:=iy.out.aP.cell' c2 id
         have b1:=iy.out.aP.cell' b1 id
         go_wp2_with(first
          |(go_at_call 108;refine(HIH.out _ iy.out.aP _ (by have:=iy.out.rd;rw[KF,List.length_append,HQ.out];exact this)).mono ?_;rintro e w3 ⟨v3,l3,rfl,ho3,hd3,t_⟩;obtain⟨a3,c3,rfl⟩:=ho3.shape;have dJ:=ah ho3;clear ho3;have HD3:=ah hd3;clear hd3;have xP:=ah t_;clear t_;have HKK:=ah (dL.out.keep (iy.out.aP.au dJ.out.aP)))
          |(at_builtin;refine vN _ _ _ rfl (.tmp 43) (.tmp 51) 81 81 rfl 175 175 i0 _ 5 64 Tryz.underlying81 Tryz.underlying81 hi hz0 hz1 hz2 (by decide) (by decide) _ _ _ HKK.out _ l3.length rfl rfl dJ.out.rd (by rw[FW]) (KD xP.out) (by have:=HLEN.out;rw[←HD3.out,wI]at this;simp only[maxLen];omega) (by have:=HLEN.out;rw[←HD3.out,wI]at this;omega) ?_;intro QV KI w5 kD;have OW:=ah kD;clear kD))
         go_roundw
         case rel=>exact⟨k+1,l++l3,by omega,by go_num,by rw[List.length_append,FV];exact OW.out,by rw[HD.out,yL.out,KE,HD3.out,List.append_assoc],pJ.out.append xP.out⟩
         case measure=>simp[intOf];omega
        ·go_simp
         have hfA:aj ay Y (Y.alloc (.cells #[.string key] 9)):=aj.alloc _ _ _
         have hS:(Y.alloc (.cells #[.string key] 9)).cell? ⟨w.heap.size,1,none⟩=some (.slice (some ⟨b,off,none⟩) m ck)∧(Y.alloc (.cells #[.string key] 9)).cell? ⟨b,off+k*3,none⟩=some (.string key):=⟨hfA.cell' hS.1 id,hfA.cell' hS.2 id⟩
         have lX:=lX.au hfA
         (try have hne:Y.heap.size≠eb:=by have:=yX;omega)
         (try have hE:=hE.keep hfA)
         (try have hP:=hP.keep hfA)
         have lu:Rd (Y.alloc (.cells #[.string key] 9)) (.slice (some ⟨Y.heap.size,0,none⟩) 1 1) 1 [.string key]:= .inr ⟨Y.heap.size,0,1,rfl,Nat.le_refl _,by decide,fun j u hu=>by rw[Nat.zero_add];exact aC (heap_alloc_new Y _) j (by simpa using hu)⟩
         refine hK.out _ _ hS ?_
         clear hK K hfA
         obtain⟨kb,qo⟩:∃kb,Y.heap.size=kb:=⟨_,rfl⟩
         rw[qo]at lu⊢
         have hkb:kb<(Y.alloc (.cells #[.string key] 9)).heap.size:=by rw[←qo];simp
         (try rw[qo]at hne)
         clear qo
         generalize Y.alloc (.cells #[.string key] 9)=Y at*
         try simp only[Act.put,aI,aJ,aN]
         refine bM (i:=2) (by kernel_rfl) rfl (fun K hK=>?_)
         refine zW wr Y (nZ pl) rfl (.tmp 32) (.tmp 33) 173 173 rfl 9 9 j0 _ 1 16 Tryz.underlying173 Tryz.underlying173 hji hy0 hy1 hy2 (by decide) (by decide) _ 0 [] hE _ q (by simp[Act.eval]) (by simp[Act.eval]) (yV.out.aO lX) (by rw[KG,HQ.out];omega) (KH _) (by simp only[maxLen];omega) (by omega) ?_
         intro QS EO Y2 hP xO Dn
         rw[Nat.zero_add]at hP
         rw[List.nil_append]at hP
         have hS:Y2.cell? ⟨w.heap.size,1,none⟩=some (.slice (some ⟨b,off,none⟩) m ck)∧Y2.cell? ⟨b,off+k*3,none⟩=some (.string key):=⟨hP.aP.cell' b1 id,hP.aP.cell' c0 id⟩
         have lX:=hP.aP
         (try have lu:=lu.keep xO (fun x hx hr=>by simp[fJ,Value.ownBlock]at hx hr;omega))
         rw[Nat.zero_add]
         refine hK.out _ _ hS ?_
         clear hK K xO Dn hE yX
         generalize Y2=Y at*
         try simp only[Act.put,aI,aJ,aN]
         refine bM (i:=10) (by kernel_rfl) rfl (fun K hK=>?_)
         refine zW wr Y [.string key] rfl (.tmp 34) (.tmp 41) 173 173 rfl 9 9 j0 _ 1 16 Tryz.underlying173 Tryz.underlying173 hji hy0 hy1 hy2 (by decide) (by decide) _ q (nZ pl) hP _ 1 (by simp[Act.eval]) (by simp[Act.eval]) lu rfl (by simp[Value.oneCell']) (by simp only[maxLen];omega) (by omega) ?_
         intro QT QU Y3 qp Dp Dq
         have hS:Y3.cell? ⟨w.heap.size,1,none⟩=some (.slice (some ⟨b,off,none⟩) m ck)∧Y3.cell? ⟨b,off+k*3,none⟩=some (.string key):=⟨qp.aP.cell' b1 id,qp.aP.cell' c0 id⟩
         refine hK.out _ _ hS ?_
         clear hK K Dp Dq hP
         have iy:=ah qp;clear qp
         try simp only[Act.put,aI,aJ,aN]
         refine iQ (by kernel_rfl) (by kernel_rfl) rfl (fun K hK=>?_)
         go_simp
         refine hK.out _ _ ?_
         clear hK K lu hS
         have c1:=iy.out.aP.cell' c1 id
         have c2:=iy.out.aP.cell' c2 id
         have b1:=iy.out.aP.cell' b1 id
         go_wp2_with(first
          |(go_at_call 108;refine(HIH.out _ iy.out.aP _ (by have:=iy.out.rd;rw[KF,List.length_append,HQ.out];exact this)).mono ?_;rintro e w3 ⟨v3,l3,rfl,ho3,hd3,t_⟩;obtain⟨a3,c3,rfl⟩:=ho3.shape;have dJ:=ah ho3;clear ho3;have HD3:=ah hd3;clear hd3;have xP:=ah t_;clear t_;have HKK:=ah (dL.out.keep (iy.out.aP.au dJ.out.aP)))
          |(at_builtin;refine vN _ _ _ rfl (.tmp 43) (.tmp 51) 81 81 rfl 175 175 i0 _ 5 64 Tryz.underlying81 Tryz.underlying81 hi hz0 hz1 hz2 (by decide) (by decide) _ _ _ HKK.out _ l3.length rfl rfl dJ.out.rd (by rw[FW]) (KD xP.out) (by have:=HLEN.out;rw[←HD3.out,wI]at this;simp only[maxLen];omega) (by have:=HLEN.out;rw[←HD3.out,wI]at this;omega) ?_;intro QV KI w5 kD;have OW:=ah kD;clear kD))
         go_roundw
         case rel=>exact⟨k+1,l++l3,by omega,by go_num,by rw[List.length_append,FV];exact OW.out,by rw[HD.out,yL.out,KE,HD3.out,List.append_assoc],pJ.out.append xP.out⟩
         case measure=>simp[intOf];omega
       ·go_simp
        have hfA:aj ay Y (Y.alloc (.cells #[.string key] 9)):=aj.alloc _ _ _
        have hS:(Y.alloc (.cells #[.string key] 9)).cell? ⟨w.heap.size,1,none⟩=some (.slice (some ⟨b,off,none⟩) m ck)∧(Y.alloc (.cells #[.string key] 9)).cell? ⟨b,off+k*3,none⟩=some (.string key):=⟨hfA.cell' hS.1 id,hfA.cell' hS.2 id⟩
        have lX:=lX.au hfA
        (try have hne:Y.heap.size≠eb:=by have:=yX;omega)
        (try have hE:=hE.keep hfA)
        (try have hP:=hP.keep hfA)
        have lu:Rd (Y.alloc (.cells #[.string key] 9)) (.slice (some ⟨Y.heap.size,0,none⟩) 1 1) 1 [.string key]:= .inr ⟨Y.heap.size,0,1,rfl,Nat.le_refl _,by decide,fun j u hu=>by rw[Nat.zero_add];exact aC (heap_alloc_new Y _) j (by simpa using hu)⟩
        refine hK.out _ _ hS ?_
        clear hK K hfA
        obtain⟨kb,qo⟩:∃kb,Y.heap.size=kb:=⟨_,rfl⟩
        rw[qo]at lu⊢
        have hkb:kb<(Y.alloc (.cells #[.string key] 9)).heap.size:=by rw[←qo];simp
        (try rw[qo]at hne)
        clear qo
        generalize Y.alloc (.cells #[.string key] 9)=Y at*
        try simp only[Act.put,aI,aJ,aN]
        refine bM (i:=0) (by kernel_rfl) rfl (fun K hK=>?_)
        go_simp
        have hfA:aj ay Y (Y.alloc (.cells #[] 9)):=aj.alloc _ _ _
        have hE:OwnAt wr (Y.alloc (.cells #[] 9)) 9 1 (.slice (some ⟨Y.heap.size,0,none⟩) 0 0) 0 []:=OwnAt.empty lX _ _
        have hS:(Y.alloc (.cells #[] 9)).cell? ⟨w.heap.size,1,none⟩=some (.slice (some ⟨b,off,none⟩) m ck)∧(Y.alloc (.cells #[] 9)).cell? ⟨b,off+k*3,none⟩=some (.string key):=⟨hfA.cell' hS.1 id,hfA.cell' hS.2 id⟩
        have lX:=lX.au hfA
        (try have hne:kb≠Y.heap.size:=by have:=hkb;omega)
        (try have lu:=lu.aO hfA)
        refine hK.out _ _ hS ?_
        clear hK K hfA
        obtain⟨eb,heb⟩:∃eb,Y.heap.size=eb:=⟨_,rfl⟩
        rw[heb]at hE⊢
        have yX:eb<(Y.alloc (.cells #[] 9)).heap.size:=by rw[←heb];simp
        (try rw[heb]at hne)
        clear heb
        generalize Y.alloc (.cells #[] 9)=Y at*
        try simp only[Act.put,aI,aJ,aN]
        refine bM (i:=2) (by kernel_rfl) rfl (fun K hK=>?_)
        refine zW wr Y (nZ pl) rfl (.tmp 32) (.tmp 33) 173 173 rfl 9 9 j0 _ 1 16 Tryz.underlying173 Tryz.underlying173 hji hy0 hy1 hy2 (by decide) (by decide) _ 0 [] hE _ q (by simp[Act.eval]) (by simp[Act.eval]) (yV.out.aO lX) (by rw[KG,HQ.out];omega) (KH _) (by simp only[maxLen];omega) (by omega) ?_
        intro QS EO Y2 hP xO Dn
        rw[Nat.zero_add]at hP
        rw[List.nil_append]at hP
        have hS:Y2.cell? ⟨w.heap.size,1,none⟩=some (.slice (some ⟨b,off,none⟩) m ck)∧Y2.cell? ⟨b,off+k*3,none⟩=some (.string key):=⟨hP.aP.cell' b1 id,hP.aP.cell' c0 id⟩
        have lX:=hP.aP
        (try have lu:=lu.keep xO (fun x hx hr=>by simp[fJ,Value.ownBlock]at hx hr;omega))
        rw[Nat.zero_add]
        refine hK.out _ _ hS ?_
        clear hK K xO Dn hE yX
        generalize Y2=Y at*
        try simp only[Act.put,aI,aJ,aN]
        refine bM (i:=10) (by kernel_rfl) rfl (fun K hK=>?_)
        refine zW wr Y [.string key] rfl (.tmp 34) (.tmp 41) 173 173 rfl 9 9 j0 _ 1 16 Tryz.underlying173 Tryz.underlying173 hji hy0 hy1 hy2 (by decide) (by decide) _ q (nZ pl) hP _ 1 (by simp[Act.eval]) (by simp[Act.eval]) lu rfl (by simp[Value.oneCell']) (by simp only[maxLen];omega) (by omega) ?_
        intro QT QU Y3 qp Dp Dq
        have hS:Y3.cell? ⟨w.heap.size,1,none⟩=some (.slice (some ⟨b,off,none⟩) m ck)∧Y3.cell? ⟨b,off+k*3,none⟩=some (.string key):=⟨qp.aP.cell' b1 id,qp.aP.cell' c0 id⟩
        refine hK.out _ _ hS ?_
        clear hK K Dp Dq hP
        have iy:=ah qp;clear qp
        try simp only[Act.put,aI,aJ,aN]
        refine iQ (by kernel_rfl) (by kernel_rfl) rfl (fun K hK=>?_)
        go_simp
        refine hK.out _ _ ?_
        clear hK K lu hS
        have c1:=iy.out.aP.cell' c1 id
        have c2:=iy.out.aP.cell' c2 id
        have b1:=iy.out.aP.cell' b1 id
        go_wp2_with(first
         |(go_at_call 108;refine(HIH.out _ iy.out.aP _ (by have:=iy.out.rd;rw[KF,List.length_append,HQ.out];exact this)).mono ?_;rintro e w3 ⟨v3,l3,rfl,ho3,hd3,t_⟩;obtain⟨a3,c3,rfl⟩:=ho3.shape;have dJ:=ah ho3;clear ho3;have HD3:=ah hd3;clear hd3;have xP:=ah t_;clear t_;have HKK:=ah (dL.out.keep (iy.out.aP.au dJ.out.aP)))
         |(at_builtin;refine vN _ _ _ rfl (.tmp 43) (.tmp 51) 81 81 rfl 175 175 i0 _ 5 64 Tryz.underlying81 Tryz.underlying81 hi hz0 hz1 hz2 (by decide) (by decide) _ _ _ HKK.out _ l3.length rfl rfl dJ.out.rd (by rw[FW]) (KD xP.out) (by have:=HLEN.out;rw[←HD3.out,wI]at this;simp only[maxLen];omega) (by have:=HLEN.out;rw[←HD3.out,wI]at this;omega) ?_;intro QV KI w5 kD;have OW:=ah kD;clear kD))
        go_roundw
        case rel=>exact⟨k+1,l++l3,by omega,by go_num,by rw[List.length_append,FV];exact OW.out,by rw[HD.out,yL.out,KE,HD3.out,List.append_assoc],pJ.out.append xP.out⟩
        case measure=>simp[intOf];omega
     ·obtain rfl:m=k:=by omega
      have hd:=HD.out
      rw[aH.sV (by rw[HM.out];exact Nat.le_refl _)]at hd
      have hd2:oM l=gq es ks:=by rw[hd];simp[oz]
      have HD2:=ah hd2;clear hd2 hd
      go_wp2
      go_ret
      exact⟨_,l,rfl,dL.out.base dB.out,HD2.out,pJ.out⟩
end Go.Proofs.YtabkpccdnkjoiaaGreat
