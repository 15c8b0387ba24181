/- Words for the law BundleOrder: Behind, CSame, Eq, TSame, Same1, VecEq. -/
import Derived.Test.YtabkpccdnkjoiaaGreatBundleOrderG0
import Derived.Test.YtabkpccdnkjoiaaGreatBundleOrderG3
import Derived.Test.YtabkpccdnkjoiaaGreatBundleOrderG8
import Derived.Test.YtabkpccdnkjoiaaGreatBundleOrderG9
import Derived.Test.YtabkpccdnkjoiaaGreatBundleOrderG10
import Derived.Test.YtabkpccdnkjoiaaGreatBundleOrderG15
import Derived.Test.YtabkpccdnkjoiaaGreatBundleOrderG17
import Derived.ChangeKeysEq
set_option linter.unusedSimpArgs false
set_option linter.unusedVariables false
set_option maxHeartbeats 32000000
set_option maxRecDepth 1000000
namespace Go.Proofs.YtabkpccdnkjoiaaGreat
open Go.RowKit
def dV (u v:Int→Int) (dc la:Int):Int→Int:=dA (oQ u v) dc (max (oQ u v dc) la)
structure lG (w ww:World) (f:Int→Int) (cs:Array Value) (T TB:TypeId):Prop where
 a:fQ ww w.heap.size f T
 b:ww.heap[w.heap.size+1]?=some (.cells cs TB (0,0))
 r:fQ ww (w.heap.size+1+1) (fun _=>0) T
 aH:aj au w ww
theorem lG.start (w:World) (u0 u1 u2 u3:Int) (cs:Array Value) (T TB:TypeId):lG w (((w.alloc (.cells #[.int .i64 u0, .int .i64 u1, .int .i64 u2, .int .i64 u3] T)).alloc (.cells cs TB)).alloc (.cells #[.int .i64 0, .int .i64 0, .int .i64 0, .int .i64 0] T)) (aS u0 u1 u2 u3) cs T TB:=by
 have h0:=heap_alloc_new w (.cells #[.int .i64 u0, .int .i64 u1, .int .i64 u2, .int .i64 u3] T)
 have h1:=heap_alloc_new (w.alloc (.cells #[.int .i64 u0, .int .i64 u1, .int .i64 u2, .int .i64 u3] T)) (.cells cs TB)
 have h2:=heap_alloc_new ((w.alloc (.cells #[.int .i64 u0, .int .i64 u1, .int .i64 u2, .int .i64 u3] T)).alloc (.cells cs TB)) (.cells #[.int .i64 0, .int .i64 0, .int .i64 0, .int .i64 0] T)
 have sz:∀(u:World) (o:Obj),(u.alloc o).heap.size=u.heap.size+1:=fun u o=>by simp
 simp only[sz]at h1 h2
 exact⟨((aj.alloc au _ _).alloc1).blk h0 id,(aj.alloc au _ _).blk h1 id,h2,((aj.alloc au _ _).alloc1).alloc1⟩
theorem lG.keep {w ww w':World} {f:Int→Int} {cs:Array Value} {T TB:TypeId} (h:lG w ww f cs T TB) (fr:aj au ww w'):lG w w' f cs T TB:=⟨h.a.keep fr,fr.blk h.b id,h.r.keep fr,h.aH.ay fr⟩
theorem lG.set {w ww:World} {f:Int→Int} {cs:Array Value} {T TB:TypeId} (h:lG w ww f cs T TB) {k:Nat} (hk:k<4) (x:Int):lG w (ww.setCell ⟨w.heap.size,k,none⟩ (.int .i64 x)) (dA f k x) cs T TB:=
 ⟨h.a.set hk x,(iJ (by omega)).trans h.b,(iJ (by omega)).trans h.r,h.aH.set1 (.inr (Nat.le_refl _))⟩
theorem lG.congr {w ww:World} {f f':Int→Int} {cs:Array Value} {T TB:TypeId} (h:lG w ww f cs T TB) (he:∀d,0≤d→d<4→f d=f' d):lG w ww f' cs T TB:=⟨h.a.congr he,h.b,h.r,h.aH⟩
theorem IZ (Q:Nat→Prop) (es:List aG) (ks:aI) (c:aU) (w:World) (dc af la v0 v1 v2 v3 u0 u1 u2 u3:Int) (ev kv cv:Value) (h:gQ Q w ev kv cv es ks c) (hok:fG es ks c) (hr:fO dc af la (aS v0 v1 v2 v3) es ks c):
 Calls Tryz.prog 28 #[jh u0 u1 u2 u3, .agg #[.int .i64 dc, .int .i64 af, .int .i64 la, .int .i64 v0, .int .i64 v1, .int .i64 v2, .int .i64 v3,ev,kv,cv]] w fun e w'=>e= .returned (.agg (lV (dV (aS u0 u1 u2 u3) (aS v0 v1 v2 v3) dc la)))∧aj au w w':=by
 obtain⟨a0,c0,a1,c1,a2,c2,rfl,rfl,rfl⟩:=h.shape
 have HR:=ah (fun W (f:aj au w W)=>bM hr▸vU Q es ks c W dc af la v0 v1 v2 v3 _ _ _ (h.aP f) hok)
 have hn:=hr.nums
 clear h hok hr
 obtain⟨dn,hdn⟩:∃dn:Nat,dc=dn:=⟨dc.toNat,by have:=hn.1;omega⟩
 have hd4:dn<4:=by have:=hn.2.1;omega
 have nS:(dn:Int)<4:=by omega
 have zo:decide ((dn:Int)<4)=true:=by simpa using nS
 clear hn
 subst hdn
 generalize es.length=n at*
 generalize ks.len=m at*
 generalize c.length=k at*
 have hix:∀(k:Nat),k<4→∀W,(Instr.index 25 (.agg #[.int .i64 v0, .int .i64 v1, .int .i64 v2, .int .i64 v3]) (.int .i64 (k:Int))).run Tryz.prog W= .ok (.int .i64 ((aS v0 v1 v2 v3) k)) W:=fun k hk=>by
  rcases(by omega:k=0∨k=1∨k=2∨k=3)with rfl|rfl|rfl|rfl<;>exact fun _=>by kernel_rfl
 have tX:=ah hix;clear hix
 have hst:=lG.start w u0 u1 u2 u3 #[.int .i64 dn, .int .i64 af, .int .i64 la, .int .i64 v0, .int .i64 v1, .int .i64 v2, .int .i64 v3, .slice a0 n c0, .slice a1 m c1, .slice a2 k c2] 25 59
 have HST:=ah hst;clear hst
 unfold jh
 generalize hfv:(aS v0 v1 v2 v3)=f at*
 generalize hfu:(aS u0 u1 u2 u3)=u at*
 clear hfv hfu
 go_enter Tryz.func28,Tryz.ntmps28
 go_wp2_with(go_at_call 83;refine(HR.out _ HST.out.aH).mono ?_;rintro e w1 ⟨rfl,hw1⟩;have HB1:=ah (HST.out.keep hw1);clear hw1;have b3:=aF HB1.out.b 3 rfl;have b4:=aF HB1.out.b 4 rfl;have b5:=aF HB1.out.b 5 rfl;have b6:=aF HB1.out.b 6 rfl)
 clear b3 b4 b5 b6
 go_loopw [13] (fun i ww=>∃j:Nat,j≤4∧i= .int .i64 j∧lG w ww (mW u f j) #[.int .i64 dn, .int .i64 af, .int .i64 la, .int .i64 v0, .int .i64 v1, .int .i64 v2, .int .i64 v3, .slice a0 n c0, .slice a1 m c1, .slice a2 k c2] 25 59) (fun i _=>4-(intOf i).toNat)
 case atStart=>exact⟨0,Nat.zero_le _,rfl,HB1.out.congr fun d h0 h4=>by unfold mW;rw[if_neg (by omega)]⟩
 case round=>
  obtain⟨k',hk,rfl,hv⟩:=hrel
  have HV:=ah hv;clear hv
  by_cases hlt:k'<4
  ·have hki:(k':Int)<4:=by omega
   have c0':=HV.out.a.cell hlt
   have hx:=tX.out k' hlt
   have g0:=HV.out.a.free k'
   have HS2:=ah (HV.out.set hlt (max (u k') (f k')))
   rw[PS]at c0'
   have hup:∀d,dA (mW u f k') k' (max (u k') (f k')) d=mW u f (k'+1) d:=fun d=>PO u f k' d
   have QD:=ah hup;clear hup
   generalize u k'=x at*
   generalize f k'=y at*
   go_wp2
   go_roundw
   case rel=>exact⟨k'+1,by omega,by go_num,HS2.out.congr fun d h0 h4=>QD.out d⟩
   case measure=>simp[intOf];omega
  ·obtain rfl:k'=4:=by omega
   have rF:=ah (HV.out.congr fun d h0 h4=>PU u f h4)
   have c0':=rF.out.a.cell hd4
   have g0:=rF.out.a.free dn
   have d0:=aF rF.out.b 0 rfl
   have d2:=aF rF.out.b 2 rfl
   have hbl:w.heap.size<wr.heap.size:=lt_of_block rF.out.a
   have I_:w.heap.size+1<wr.heap.size:=lt_of_block rF.out.b
   have QE:=ah (rF.out.set hd4 (max (oQ u f dn) la))
   have hbe:∀d,dA (oQ u f) dn (max (oQ u f dn) la) d=dV u f dn la d:=fun d=>rfl
   have QF:=ah hbe;clear hbe
   generalize oQ u f dn=x at*
   go_wp2_with fail
   go_region
   clear c0' g0 d0 d2 hbl I_
   have kX:=ah ((QE.out.congr fun d h0 h4=>QF.out d).keep (aj.drew au _))
   generalize hgg:dV u f dn la=g at*
   have sF:=ah hgg;clear hgg
   generalize (wr.setCell ⟨w.heap.size,dn,none⟩ (.int .i64 (max x la))).drew=X at*
   have a0':=kX.out.a.cell (k:=0) (by decide)
   have a1':=kX.out.a.cell (k:=1) (by decide)
   have a2':=kX.out.a.cell (k:=2) (by decide)
   have a3':=kX.out.a.cell (k:=3) (by decide)
   have r0:=kX.out.r.cell (k:=0) (by decide)
   have r1:=kX.out.r.cell (k:=1) (by decide)
   have r2:=kX.out.r.cell (k:=2) (by decide)
   have r3:=kX.out.r.cell (k:=3) (by decide)
   have g0:=kX.out.r.free 0
   have g1:=kX.out.r.free 1
   have g2:=kX.out.r.free 2
   have g3:=kX.out.r.free 3
   have HR4:=ah (kX.out.r.CS g)
   have jG:=ah (kX.out.aH.CS (b:=w.heap.size+1+1) (by omega) (.int .i64 (g 0)) (.int .i64 (g 1)) (.int .i64 (g 2)) (.int .i64 (g 3)))
   go_wp2
   clear a0' a1' a2' a3' r0 r1 r2 r3 g0 g1 g2 g3
   have r0:=HR4.out.cell (k:=0) (by decide)
   have r1:=HR4.out.cell (k:=1) (by decide)
   have r2:=HR4.out.cell (k:=2) (by decide)
   have r3:=HR4.out.cell (k:=3) (by decide)
   exact bodyPost_ret (v:= .agg (lV g)) (by simp[results,Tryz.results28,go_sem,r0,r1,r2,r3,lV]) rfl ⟨by rw[sF.out],jG.out⟩
theorem Ja (w:World) (dc af la v0 v1 v2 v3 u0 u1 u2 u3:Int) (a0 a1 a2:Option Addr) (n m k c0 c1 c2:Nat) (hn:jl dc af la (aS v0 v1 v2 v3)):
 Calls Tryz.prog 25 #[.agg #[.int .i64 dc, .int .i64 af, .int .i64 la, .int .i64 v0, .int .i64 v1, .int .i64 v2, .int .i64 v3, .slice a0 n c0, .slice a1 m c1, .slice a2 k c2],jh u0 u1 u2 u3] w fun e w'=>e= .returned (.bool (tf ((aS u0 u1 u2 u3) dc=af∧iG (aS v0 v1 v2 v3) (aS u0 u1 u2 u3))))∧aj au w w':=by
 have HM:=ah (fun W=>PV W v0 v1 v2 v3 u0 u1 u2 u3)
 obtain⟨dn,hdn⟩:∃dn:Nat,dc=dn:=⟨dc.toNat,by have:=hn.1;omega⟩
 have hd4:dn<4:=by have:=hn.2.1;omega
 have nS:(dn:Int)<4:=by omega
 have zo:decide ((dn:Int)<4)=true:=by simpa using nS
 clear hn
 subst hdn
 obtain⟨α,hne,K,hK1,hK0,hK2⟩:=worlds ((w.alloc (.cells #[.int .i64 dn, .int .i64 af, .int .i64 la, .int .i64 v0, .int .i64 v1, .int .i64 v2, .int .i64 v3, .slice a0 n c0, .slice a1 m c1, .slice a2 k c2] 55)).alloc (.cells #[.int .i64 u0, .int .i64 u1, .int .i64 u2, .int .i64 u3] 25))
 have dH:=ah (fun s=>((aj.alloc au w (.cells #[.int .i64 dn, .int .i64 af, .int .i64 la, .int .i64 v0, .int .i64 v1, .int .i64 v2, .int .i64 v3, .slice a0 n c0, .slice a1 m c1, .slice a2 k c2] 55)).alloc1 (o:= .cells #[.int .i64 u0, .int .i64 u1, .int .i64 u2, .int .i64 u3] 25)).ay (hK1 s))
 have kb:=fun s=>ql w _ _ _ _ _ _ _ _ _ _ _ (K s) ((aj.alloc au _ _).ay (hK1 s))
 have k0:=fun s=>(kb s).1
 have k1:=fun s=>(kb s).2.1
 have k2:=fun s=>(kb s).2.2.1
 have k3:=fun s=>(kb s).2.2.2.1
 have k4:=fun s=>(kb s).2.2.2.2.1
 have k5:=fun s=>(kb s).2.2.2.2.2.1
 have k6:=fun s=>(kb s).2.2.2.2.2.2.1
 have k7:=fun s=>(kb s).2.2.2.2.2.2.2.1
 have k8:=fun s=>(kb s).2.2.2.2.2.2.2.2.1
 have k9:=fun s=>(kb s).2.2.2.2.2.2.2.2.2
 clear kb
 have hvu:∀s,fQ (K s) (w.heap.size+1) (aS u0 u1 u2 u3) 25:=fun s=>(show fQ ((w.alloc (.cells #[.int .i64 dn, .int .i64 af, .int .i64 la, .int .i64 v0, .int .i64 v1, .int .i64 v2, .int .i64 v3, .slice a0 n c0, .slice a1 m c1, .slice a2 k c2] 55)).alloc (.cells #[.int .i64 u0, .int .i64 u1, .int .i64 u2, .int .i64 u3] 25)) (w.heap.size+1) (aS u0 u1 u2 u3) 25 from(oL w _ _ _).1).keep (hK1 s)
 have nV:=ah hvu;clear hvu
 have kd:=fun s=>(nV.out s).cell hd4
 have q0:∀s,(K s).cell? ⟨w.heap.size+1,0,none⟩=some (.int .i64 u0):=fun s=>(nV.out s).cell (k:=0) (by decide)
 have q1:∀s,(K s).cell? ⟨w.heap.size+1,1,none⟩=some (.int .i64 u1):=fun s=>(nV.out s).cell (k:=1) (by decide)
 have q2:∀s,(K s).cell? ⟨w.heap.size+1,2,none⟩=some (.int .i64 u2):=fun s=>(nV.out s).cell (k:=2) (by decide)
 have q3:∀s,(K s).cell? ⟨w.heap.size+1,3,none⟩=some (.int .i64 u3):=fun s=>(nV.out s).cell (k:=3) (by decide)
 unfold jh at*
 generalize hA:iG (aS v0 v1 v2 v3) (aS u0 u1 u2 u3)=A at*
 clear hA
 by_cases he:(aS u0 u1 u2 u3) dn=af
 ·have hy:tf ((aS u0 u1 u2 u3) dn=af∧A)=tf A:=lI ⟨fun h=>h.2,fun h=>⟨he,h⟩⟩
  rw[hy]
  rw[he]at kd
  clear he hy
  generalize tf A=b at*
  go_enter Tryz.func25,Tryz.ntmps25
  go_wp2_with fail
  refine bK K (by kernel_rfl) (by kernel_rfl) hK0 ?_
  repeat(go_big_quiet_step ((go_at_call 92;exact Calls.aW hK2 (HM.out _))))
  refine wpQuiet_nil ?_
  intro w' hw'
  obtain⟨s,rfl⟩:=hw'
  go_wp2
  go_ret
  exact⟨rfl,dH.out s⟩
 ·rw[bn fun h=>he h.1]
  have hb:(((aS u0 u1 u2 u3) dn:Int)==af)=false:=by simpa using he
  clear he
  generalize (aS u0 u1 u2 u3) dn=x at*
  go_enter Tryz.func25,Tryz.ntmps25
  go_wp2_with fail
  refine bK K (by kernel_rfl) (by kernel_rfl) hK0 ?_
  repeat(go_big_quiet_step ((go_at_call 92;exact Calls.aW hK2 (HM.out _))))
  refine wpQuiet_nil ?_
  intro w' hw'
  obtain⟨s,rfl⟩:=hw'
  go_wp2
  go_ret
  exact⟨rfl,dH.out s⟩
open Go.RowKit
def mZ (a b:aU) (k:Nat):Prop:=∀j,j<k→a.getD j (0,0,0)=b.getD j (0,0,0)
theorem mZ.all {a b:aU} (hl:a.length=b.length) (h:mZ a b a.length):a=b:=by
 refine List.ext_getElem hl fun j h1 h2=>?_
 have:=h j h1
 rwa [getD_at _ h1,getD_at _ h2]at this
theorem mZ.step {a b:aU} {k:Nat} (h:mZ a b k) (he:a.getD k (0,0,0)=b.getD k (0,0,0)):mZ a b (k+1):=fun j hj=>by
 rcases Nat.lt_succ_iff_lt_or_eq.1 hj with hj|rfl
 ·exact h j hj
 ·exact he
theorem QG (w:World) (va vb:Value) (a b:aU) (ha:dL w va a) (hb:dL w vb b) (la:a.length≤100000) (lb:b.length≤100000):
 Calls Tryz.prog 84 #[va,vb] w fun e w'=>e= .returned (.bool (decide (a=b)))∧aj au w w':=by
 obtain⟨aA,cA,rfl⟩:=ha.sl
 obtain⟨aB,cB,rfl⟩:=hb.sl
 by_cases hab:a.length=b.length
 rotate_left 1
 ·have hne:decide (a=b)=false:=by rw[decide_eq_false_iff_not];intro h;exact hab (by rw[h])
  rw[hne]
  clear hne ha hb
  generalize a.length=n at*
  generalize b.length=m at*
  have hz:((n:Int)==(m:Int))=false:=by simp;omega
  go_enter Tryz.func84,Tryz.ntmps84
  go_wp2
  go_ret
  exact⟨rfl,aj.refl _ _⟩
 have HAB:=ah hab
 rw[←hab]at lb
 have hb2:dL w (.slice aB a.length cB) b:=by rw[hab];exact hb
 have HA:=ah ha;clear ha
 have HB:=ah hb2;clear hb hb2
 clear hab lb
 have hbl:b.length=a.length:=HAB.out.symm
 rw[hbl]
 clear hbl
 generalize hn:a.length=n at*
 have HN:=ah hn;clear hn
 go_enter Tryz.func84,Tryz.ntmps84
 go_wp2
 go_loopw [13] (fun i ww=>∃k:Nat,k≤n∧i= .int .i64 k∧mZ a b k∧aj au w ww) (fun i _=>n-(intOf i).toNat)
 case atStart=>exact⟨0,Nat.zero_le _,rfl,(fun j hj=>absurd hj (Nat.not_lt_zero _)),aj.refl _ _⟩
 case round=>
  obtain⟨k,hk,rfl,hlk,hf⟩:=hrel
  have mD:=ah hlk;clear hlk
  have HF:=ah hf;clear hf
  by_cases hlt:k<n
  ·have hka:k<a.length:=by rw[HN.out];exact hlt
   have hkb:k<b.length:=by rw[←HAB.out];exact hlt
   rcases Rd.shape HA.out with⟨ad,he,h0⟩|⟨o1,off1,Jb,he,hmax⟩
   ·exfalso;have:=HN.out;omega
   rcases Rd.shape HB.out with⟨ad,he2,h0⟩|⟨o2,off2,iP,he2,uM⟩
   ·exfalso;have:=HN.out;have:=HAB.out;omega
   injection he with e1 e2 e3
   injection he2 with e4 e5 e6
   subst e1 e3 e4 e6
   clear e2 e5
   obtain⟨p0,p1,p2⟩:=pF HA.out (by rw[HN.out]) k hka
   obtain⟨q0,q1,q2⟩:=pF HB.out HAB.out k hkb
   have p0:=HF.out.cell' p0 id
   have p1:=HF.out.cell' p1 id
   have p2:=HF.out.cell' p2 id
   have q0:=HF.out.cell' q0 id
   have q1:=HF.out.cell' q1 id
   have q2:=HF.out.cell' q2 id
   have hst:a.getD k (0,0,0)=b.getD k (0,0,0)→mZ a b (k+1):=mD.out.step
   have HST:=ah hst;clear hst
   have hno:a.getD k (0,0,0)≠b.getD k (0,0,0)→a≠b:=fun h e=>h (by rw[e])
   have ji:=ah hno;clear hno
   generalize a.getD k (0,0,0)=s at*
   generalize b.getD k (0,0,0)=t at*
   by_cases hst:s=t
   ·subst hst
    go_wp2_with fail
    go_quiet (fail)
    go_wp2
    go_roundw
    case rel=>exact⟨k+1,by omega,by go_num,HST.out (by trivial),HF.out.eF⟩
    case measure=>simp[intOf];omega
   ·have jX:=ah (show false=decide (a=b)from by symm;rw[decide_eq_false_iff_not];exact ji.out hst)
    obtain⟨s0,s1,s2⟩:=s
    obtain⟨t0,t1,t2⟩:=t
    clear HST ji
    dsimp only at p0 p1 p2 q0 q1 q2
    by_cases g0:s0=t0
    ·subst g0
     by_cases g1:s1=t1
     ·subst g1
      have g2:s2≠t2:=fun h=>hst (by rw[h])
      clear hst
      have gb:((s2:Int)==t2)=false:=by simpa using g2
      go_wp2_with fail
      go_quiet (fail)
      go_wp2
      go_ret
      exact⟨bg jX.out,HF.out.eF⟩
     ·clear hst
      have gb:((s1:Int)==t1)=false:=by simpa using g1
      go_wp2_with fail
      go_quiet (fail)
      go_wp2
      go_ret
      exact⟨bg jX.out,HF.out.eF⟩
    ·clear hst
     have gb:((s0:Int)==t0)=false:=by simpa using g0
     go_wp2_with fail
     go_quiet (fail)
     go_wp2
     go_ret
     exact⟨bg jX.out,HF.out.eF⟩
  ·obtain rfl:n=k:=by omega
   have heq:decide (a=b)=true:=by rw[decide_eq_true_iff];exact mZ.all (HN.out.trans HAB.out) (by rw[HN.out];exact mD.out)
   have nX:=ah heq;clear heq
   go_wp2
   go_ret
   exact⟨bg nX.out.symm,HF.out⟩
open Go.RowKit
def qw (a b:List aG) (k:Nat):Prop:=∀j,j<k→a.getD j aG.zero=b.getD j aG.zero
theorem qw.all {a b:List aG} (hl:a.length=b.length) (h:qw a b a.length):a=b:=by
 refine List.ext_getElem hl fun j h1 h2=>?_
 have:=h j h1
 rwa [getD_at _ h1,getD_at _ h2]at this
theorem qw.step {a b:List aG} {k:Nat} (h:qw a b k) (he:a.getD k aG.zero=b.getD k aG.zero):qw a b (k+1):=fun j hj=>by
 rcases Nat.lt_succ_iff_lt_or_eq.1 hj with hj|rfl
 ·exact h j hj
 ·exact he
theorem QH (w:World) (va vb:Value) (a b:aU) (ha:dL w va a) (hb:dL w vb b) (la:a.length≤100000) (lb:b.length≤100000):
 Calls Tryz.prog 158 #[va,vb] w fun e w'=>e= .returned (.bool (decide (a=b)))∧aj au w w':=by
 obtain⟨aA,cA,rfl⟩:=ha.sl
 obtain⟨aB,cB,rfl⟩:=hb.sl
 by_cases hab:a.length=b.length
 rotate_left 1
 ·have hne:decide (a=b)=false:=by rw[decide_eq_false_iff_not];intro h;exact hab (by rw[h])
  rw[hne]
  clear hne ha hb
  generalize a.length=n at*
  generalize b.length=m at*
  have hz:((n:Int)==(m:Int))=false:=by simp;omega
  go_enter Tryz.func158,Tryz.ntmps158
  go_wp2
  go_ret
  exact⟨rfl,aj.refl _ _⟩
 have HAB:=ah hab
 rw[←hab]at lb
 have hb2:dL w (.slice aB a.length cB) b:=by rw[hab];exact hb
 have HA:=ah ha;clear ha
 have HB:=ah hb2;clear hb hb2
 clear hab lb
 have hbl:b.length=a.length:=HAB.out.symm
 rw[hbl]
 clear hbl
 generalize hn:a.length=n at*
 have HN:=ah hn;clear hn
 go_enter Tryz.func158,Tryz.ntmps158
 go_wp2
 go_loopw [13] (fun i ww=>∃k:Nat,k≤n∧i= .int .i64 k∧mZ a b k∧aj au w ww) (fun i _=>n-(intOf i).toNat)
 case atStart=>exact⟨0,Nat.zero_le _,rfl,(fun j hj=>absurd hj (Nat.not_lt_zero _)),aj.refl _ _⟩
 case round=>
  obtain⟨k,hk,rfl,hlk,hf⟩:=hrel
  have mD:=ah hlk;clear hlk
  have HF:=ah hf;clear hf
  by_cases hlt:k<n
  ·have hka:k<a.length:=by rw[HN.out];exact hlt
   have hkb:k<b.length:=by rw[←HAB.out];exact hlt
   rcases Rd.shape HA.out with⟨ad,he,h0⟩|⟨o1,off1,Jb,he,hmax⟩
   ·exfalso;have:=HN.out;omega
   rcases Rd.shape HB.out with⟨ad,he2,h0⟩|⟨o2,off2,iP,he2,uM⟩
   ·exfalso;have:=HN.out;have:=HAB.out;omega
   injection he with e1 e2 e3
   injection he2 with e4 e5 e6
   subst e1 e3 e4 e6
   clear e2 e5
   obtain⟨p0,p1,p2⟩:=pF HA.out (by rw[HN.out]) k hka
   obtain⟨q0,q1,q2⟩:=pF HB.out HAB.out k hkb
   have p0:=HF.out.cell' p0 id
   have p1:=HF.out.cell' p1 id
   have p2:=HF.out.cell' p2 id
   have q0:=HF.out.cell' q0 id
   have q1:=HF.out.cell' q1 id
   have q2:=HF.out.cell' q2 id
   have hst:a.getD k (0,0,0)=b.getD k (0,0,0)→mZ a b (k+1):=mD.out.step
   have HST:=ah hst;clear hst
   have hno:a.getD k (0,0,0)≠b.getD k (0,0,0)→a≠b:=fun h e=>h (by rw[e])
   have ji:=ah hno;clear hno
   generalize a.getD k (0,0,0)=s at*
   generalize b.getD k (0,0,0)=t at*
   by_cases hst:s=t
   ·subst hst
    go_wp2_with fail
    go_quiet (fail)
    go_wp2
    go_roundw
    case rel=>exact⟨k+1,by omega,by go_num,HST.out (by trivial),HF.out.eF⟩
    case measure=>simp[intOf];omega
   ·have jX:=ah (show false=decide (a=b)from by symm;rw[decide_eq_false_iff_not];exact ji.out hst)
    obtain⟨s0,s1,s2⟩:=s
    obtain⟨t0,t1,t2⟩:=t
    clear HST ji
    dsimp only at p0 p1 p2 q0 q1 q2
    by_cases g0:s0=t0
    ·subst g0
     by_cases g1:s1=t1
     ·subst g1
      have g2:s2≠t2:=fun h=>hst (by rw[h])
      clear hst
      have gb:((s2:Int)==t2)=false:=by simpa using g2
      go_wp2_with fail
      go_quiet (fail)
      go_wp2
      go_ret
      exact⟨bg jX.out,HF.out.eF⟩
     ·clear hst
      have gb:((s1:Int)==t1)=false:=by simpa using g1
      go_wp2_with fail
      go_quiet (fail)
      go_wp2
      go_ret
      exact⟨bg jX.out,HF.out.eF⟩
    ·clear hst
     have gb:((s0:Int)==t0)=false:=by simpa using g0
     go_wp2_with fail
     go_quiet (fail)
     go_wp2
     go_ret
     exact⟨bg jX.out,HF.out.eF⟩
  ·obtain rfl:n=k:=by omega
   have heq:decide (a=b)=true:=by rw[decide_eq_true_iff];exact mZ.all (HN.out.trans HAB.out) (by rw[HN.out];exact mD.out)
   have nX:=ah heq;clear heq
   go_wp2
   go_ret
   exact⟨bg nX.out.symm,HF.out⟩
theorem QI (w:World) (va vb:Value) (a b:List aG) (ha:Rd w va a.length (eY a)) (hb:Rd w vb b.length (eY b)) (la:a.length≤100000) (lb:b.length≤100000):
 Calls Tryz.prog 202 #[va,vb] w fun e w'=>e= .returned (.bool (tf (a=b)))∧aj au w w':=by
 obtain⟨aA,cA,rfl⟩:=ha.sl
 obtain⟨aB,cB,rfl⟩:=hb.sl
 by_cases hab:a.length=b.length
 rotate_left 1
 ·have hne:tf (a=b)=false:=by exact bn fun h=>hab (by rw[h])
  rw[hne]
  clear hne ha hb
  generalize a.length=n at*
  generalize b.length=m at*
  have hz:((n:Int)==(m:Int))=false:=by simp;omega
  go_enter Tryz.func202,Tryz.ntmps202
  go_wp2
  go_ret
  exact⟨rfl,aj.refl _ _⟩
 have HAB:=ah hab
 rw[←hab]at lb
 have hb2:Rd w (.slice aB a.length cB) a.length (eY b):=by rw[hab];exact hb
 have HA:=ah ha;clear ha
 have HB:=ah hb2;clear hb hb2
 clear hab lb
 have hbl:b.length=a.length:=HAB.out.symm
 rw[hbl]
 clear hbl
 generalize hn:a.length=n at*
 have HN:=ah hn;clear hn
 go_enter Tryz.func202,Tryz.ntmps202
 go_wp2
 go_loopw [13] (fun i ww=>∃k:Nat,k≤n∧i= .int .i64 k∧qw a b k∧aj au w ww) (fun i _=>n-(intOf i).toNat)
 case atStart=>exact⟨0,Nat.zero_le _,rfl,(fun j hj=>absurd hj (Nat.not_lt_zero _)),aj.refl _ _⟩
 case round=>
  obtain⟨k,hk,rfl,hlk,hf⟩:=hrel
  have mD:=ah hlk;clear hlk
  have HF:=ah hf;clear hf
  by_cases hlt:k<n
  ·have hka:k<a.length:=by rw[HN.out];exact hlt
   have hkb:k<b.length:=by rw[←HAB.out];exact hlt
   rcases Rd.shape HA.out with⟨ad,he,h0⟩|⟨o1,off1,Jb,he,hmax⟩
   ·exfalso;have:=HN.out;omega
   rcases Rd.shape HB.out with⟨ad,he2,h0⟩|⟨o2,off2,iP,he2,uM⟩
   ·exfalso;have:=HN.out;have:=HAB.out;omega
   injection he with e1 e2 e3
   injection he2 with e4 e5 e6
   subst e1 e3 e4 e6
   clear e2 e5
   obtain⟨p0,p1,p2,p3⟩:=nJ HA.out k hka
   obtain⟨q0,q1,q2,q3⟩:=nJ HB.out k hkb
   have p0:=HF.out.cell' p0 id
   have p1:=HF.out.cell' p1 id
   have p2:=HF.out.cell' p2 id
   have p3:=HF.out.cell' p3 id
   have q0:=HF.out.cell' q0 id
   have q1:=HF.out.cell' q1 id
   have q2:=HF.out.cell' q2 id
   have q3:=HF.out.cell' q3 id
   have hst:a.getD k aG.zero=b.getD k aG.zero→qw a b (k+1):=mD.out.step
   have HST:=ah hst;clear hst
   have hno:a.getD k aG.zero≠b.getD k aG.zero→a≠b:=fun h e=>h (by rw[e])
   have ji:=ah hno;clear hno
   generalize a.getD k aG.zero=s at*
   generalize b.getD k aG.zero=t at*
   by_cases hst:s=t
   ·subst hst
    go_wp2_with fail
    go_quiet (fail)
    go_wp2
    go_roundw
    case rel=>exact⟨k+1,by omega,by go_num,HST.out (by trivial),HF.out.eF⟩
    case measure=>simp[intOf];omega
   ·have jX:=ah (show false=tf (a=b)from(bn (ji.out hst)).symm)
    obtain⟨s0,s1,s2,s3⟩:=s
    obtain⟨t0,t1,t2,t3⟩:=t
    clear HST ji
    dsimp only at p0 p1 p2 p3 q0 q1 q2 q3
    by_cases g0:s0=t0
    ·subst g0
     by_cases g1:s1=t1
     ·subst g1
      by_cases g2:s2=t2
      ·subst g2
       have g3:s3≠t3:=fun h=>hst (by rw[h])
       clear hst
       have gb:((s3:Int)==t3)=false:=by simpa using g3
       go_wp2_with fail
       go_quiet (fail)
       go_wp2
       go_ret
       exact⟨bg jX.out,HF.out.eF⟩
      ·clear hst
       have gb:¬s2.toList=t2.toList:=fun h=>g2 (by rw[ByteArray.toList_eq,ByteArray.toList_eq]at h;exact ByteArray.ext (Array.toList_inj.1 h))
       go_wp2_with fail
       go_quiet (fail)
       go_wp2
       go_ret
       exact⟨bg jX.out,HF.out.eF⟩
     ·clear hst
      have gb:((s1:Int)==t1)=false:=by simpa using g1
      go_wp2_with fail
      go_quiet (fail)
      go_wp2
      go_ret
      exact⟨bg jX.out,HF.out.eF⟩
    ·clear hst
     have gb:((s0:Int)==t0)=false:=by simpa using g0
     go_wp2_with fail
     go_quiet (fail)
     go_wp2
     go_ret
     exact⟨bg jX.out,HF.out.eF⟩
  ·obtain rfl:n=k:=by omega
   have heq:tf (a=b)=true:=bM (qw.all (HN.out.trans HAB.out) (by rw[HN.out];exact mD.out))
   have nX:=ah heq;clear heq
   go_wp2
   go_ret
   exact⟨bg nX.out.symm,HF.out⟩
open Go.RowKit
theorem QJ {s t:ByteArray} (h:¬s=t):¬s.toList=t.toList:=fun e=>h (by rw[ByteArray.toList_eq,ByteArray.toList_eq]at e;exact ByteArray.ext (Array.toList_inj.1 e))
theorem Jc (w:World) (a0 a1 b0 b1:Value) (T:TypeId) (W:World) (f:aj au ((w.alloc (.cells #[a0,a1] T)).alloc (.cells #[b0,b1] T)) W):
 W.cell? ⟨w.heap.size,0,none⟩=some a0∧W.cell? ⟨w.heap.size,1,none⟩=some a1∧W.cell? ⟨w.heap.size+1,0,none⟩=some b0∧W.cell? ⟨w.heap.size+1,1,none⟩=some b1:=by
 obtain⟨h1,_,_⟩:=oL w (.cells #[a0,a1] T) #[b0,b1] T
 have h0:((w.alloc (.cells #[a0,a1] T)).alloc (.cells #[b0,b1] T)).heap[w.heap.size]?=some (.cells #[a0,a1] T (0,0)):=(aj.alloc au _ _).blk (heap_alloc_new w _) id
 exact⟨f.cell' (aF h0 0 rfl) id,f.cell' (aF h0 1 rfl) id,f.cell' (aF h1 0 rfl) id,f.cell' (aF h1 1 rfl) id⟩
theorem zD (w:World) (a0 a1 a2 b0 b1 b2:Value) (T:TypeId) (W:World) (f:aj au ((w.alloc (.cells #[a0,a1,a2] T)).alloc (.cells #[b0,b1,b2] T)) W):
 W.cell? ⟨w.heap.size,0,none⟩=some a0∧W.cell? ⟨w.heap.size,1,none⟩=some a1∧W.cell? ⟨w.heap.size,2,none⟩=some a2∧W.cell? ⟨w.heap.size+1,0,none⟩=some b0∧W.cell? ⟨w.heap.size+1,1,none⟩=some b1∧W.cell? ⟨w.heap.size+1,2,none⟩=some b2:=by
 obtain⟨h1,_,_⟩:=oL w (.cells #[a0,a1,a2] T) #[b0,b1,b2] T
 have h0:((w.alloc (.cells #[a0,a1,a2] T)).alloc (.cells #[b0,b1,b2] T)).heap[w.heap.size]?=some (.cells #[a0,a1,a2] T (0,0)):=(aj.alloc au _ _).blk (heap_alloc_new w _) id
 exact⟨f.cell' (aF h0 0 rfl) id,f.cell' (aF h0 1 rfl) id,f.cell' (aF h0 2 rfl) id,f.cell' (aF h1 0 rfl) id,f.cell' (aF h1 1 rfl) id,f.cell' (aF h1 2 rfl) id⟩
theorem QK (key key':ByteArray) (b:Bool) (W:World) (a0 a1 b0 b1:Option Addr) (n m n' m' c0 c1 d0 d1:Nat)
 (HT:∀W',aj au W W'→Calls Tryz.prog 156 #[.agg #[.slice a0 n c0, .slice a1 m c1], .agg #[.slice b0 n' d0, .slice b1 m' d1]] W' fun e w'=>e= .returned (.bool b)∧aj au W' w'):
 Calls Tryz.prog 204 #[.agg #[.string key, .slice a0 n c0, .slice a1 m c1], .agg #[.string key', .slice b0 n' d0, .slice b1 m' d1]] W fun e w'=>e= .returned (.bool (tf (key=key')&&b))∧aj au W w':=by
 have QL:=ah HT;clear HT
 have HF:=ah ((aj.alloc au W (.cells #[.string key, .slice a0 n c0, .slice a1 m c1] 83)).alloc1 (o:= .cells #[.string key', .slice b0 n' d0, .slice b1 m' d1] 83))
 by_cases hk:key=key'
 ·subst hk
  rw[bM rfl,Bool.true_and]
  go_enter Tryz.func204,Tryz.ntmps204
  go_wp2_with(go_at_call 156;refine(QL.out _ HF.out).mono ?_;rintro e w1 ⟨rfl,hw1⟩;have HW1:=ah (HF.out.ay hw1);clear hw1)
  go_ret
  exact⟨rfl,HW1.out⟩
 ·rw[bn hk,Bool.false_and]
  have hne:=QJ hk
  clear hk
  go_enter Tryz.func204,Tryz.ntmps204
  go_wp2
  go_ret
  exact⟨rfl,HF.out⟩
theorem QM {ks ks':aI} {k:Nat} {key key':ByteArray} {es es':List aG} {sub sub' rest rest':aI} (h:ks.drop k= .cons key es sub rest) (h':ks'.drop k= .cons key' es' sub' rest'):
 (ks.drop k=ks'.drop k)↔((key=key'∧es=es'∧sub=sub')∧ks.drop (k+1)=ks'.drop (k+1)):=by
 rw[aI.pU k ks h,aI.pU k ks' h',h,h']
 constructor
 ·intro e
  injection e with e1 e2 e3 e4
  exact⟨⟨e1,e2,e3⟩,e4⟩
 ·rintro⟨⟨rfl,rfl,rfl⟩,rfl⟩
  rfl
theorem QN (Q Q':Nat→Prop) (ks ks':aI) (w:World) (kv kv':Value) (os os':List (Value×Value)) (h:Rd w kv ks.len (fM ks os)) (hf:gu Q w ks os) (h':Rd w kv' ks'.len (fM ks' os')) (hf':gu Q' w ks' os') (hl:ks.len≤100000) (hl':ks'.len≤100000)
 (HG:∀n key es sub rest key' es' sub' rest',ks.drop n= .cons key es sub rest→ks'.drop n= .cons key' es' sub' rest'→∀W ev kv ev' kv',bJ Q W ev kv es sub→bJ Q' W ev' kv' es' sub'→
   Calls Tryz.prog 204 #[.agg #[.string key,ev,kv], .agg #[.string key',ev',kv']] W fun e w'=>e= .returned (.bool (tf (key=key'∧es=es'∧sub=sub')))∧aj au W w'):
 Calls Tryz.prog 203 #[kv,kv', .func (.func 204) #[] #[]] w fun e w'=>e= .returned (.bool (tf (ks=ks')))∧aj au w w':=by
 have eg:∀args w,(callFunc 204 args).run Tryz.prog w= .ok (.enter 204 args) w:=enters_of Tryz.func204 (by kernel_rfl) rfl
 obtain⟨a0,c0,rfl⟩:=h.sl
 obtain⟨a1,c1,rfl⟩:=h'.sl
 have gJ:=ah h;clear h
 have jU:=ah hf;clear hf
 have zF:=ah h';clear h'
 have Jd:=ah hf';clear hf'
 have sF:=ah HG;clear HG
 by_cases hlen:ks.len=ks'.len
 rotate_left 1
 ·rw[bn fun e=>hlen (by rw[e])]
  clear gJ jU zF Jd sF eg
  generalize ks.len=n at*
  generalize ks'.len=m at*
  have hz:((n:Int)==(m:Int))=false:=by simp;omega
  go_enter Tryz.func203,Tryz.ntmps203
  go_wp2
  go_ret
  exact⟨rfl,aj.refl _ _⟩
 have HLEN:=ah hlen.symm
 rw[←hlen]at zF⊢
 clear hlen hl'
 generalize hkl:ks.len=m at*
 have HM:=ah hkl;clear hkl
 go_enter Tryz.func203,Tryz.ntmps203
 go_wp2
 go_loopw [17] (fun i ww=>∃k:Nat,k≤m∧i= .int .i64 k∧(ks=ks'↔ks.drop k=ks'.drop k)∧aj au w ww) (fun i _=>m-(intOf i).toNat)
 case atStart=>exact⟨0,Nat.zero_le _,rfl,Iff.rfl,aj.refl _ _⟩
 case round=>
  obtain⟨k,hk,rfl,he,hw⟩:=hrel
  have HE:=ah he;clear he
  have HW:=ah hw;clear hw
  by_cases hlt:k<m
  ·obtain⟨key,es,sub,rest,hdr⟩:=aI.nI (n:=k) (ks:=ks) (by rw[HM.out];exact hlt)
   obtain⟨key',es',sub',rest',hdr'⟩:=aI.nI (n:=k) (ks:=ks') (by rw[HLEN.out];exact hlt)
   rcases Rd.shape gJ.out with⟨ad,he,h0⟩|⟨b,off,cc,he,hmax⟩
   ·exfalso;omega
   rcases Rd.shape zF.out with⟨ad,he2,h0⟩|⟨b2,off2,iP,he2,uM⟩
   ·exfalso;omega
   injection he with e1 e2 e3
   injection he2 with e4 e5 e6
   subst e1 e3 e4 e6
   clear e2 e5
   obtain⟨ev,kv,p0,p1,p2,hta⟩:=lS (gJ.out.aP HW.out) (jU.out.aP HW.out) hdr
   obtain⟨ev',kv',q0,q1,q2,htb⟩:=lS (zF.out.aP HW.out) (Jd.out.aP HW.out) hdr'
   have HC:=ah (fun W (f:aj au wr W)=>sF.out k key es sub rest key' es' sub' rest' hdr hdr' W ev kv ev' kv' (hta.aP f) (htb.aP f))
   have HST:=ah (QM hdr hdr')
   obtain⟨ae,ce,rfl⟩:=hta.ents.rd.sl
   obtain⟨o3,hk3,-⟩:=hta.kids
   obtain⟨ak,ck,rfl⟩:=hk3.rd.sl
   obtain⟨dP,dQ,rfl⟩:=htb.ents.rd.sl
   obtain⟨o4,hk4,-⟩:=htb.kids
   obtain⟨dR,dS,rfl⟩:=hk4.rd.sl
   clear hk3 hk4 hta htb hdr hdr'
   generalize es.length=n0 at*
   generalize sub.len=m0 at*
   generalize es'.length=n1 at*
   generalize sub'.len=m1 at*
   have bW:=ah ((aj.alloc au wr (.cells #[.string key, .slice ae n0 ce, .slice ak m0 ck] 83)).alloc1 (o:= .cells #[.string key', .slice dP n1 dQ, .slice dR m1 dS] 83))
   have I_:b<wr.heap.size:=World.block_lt_of_cell? _ _ p0
   have SQ:b2<wr.heap.size:=World.block_lt_of_cell? _ _ q0
   by_cases hy:key=key'∧es=es'∧sub=sub'
   ·rw[bM hy]at HC
    have HY:=ah hy;clear hy
    go_wp2_with(go_at_call 204;refine(HC.out _ bW.out).mono ?_;rintro e w1 ⟨rfl,hw1⟩;have HW1:=ah (bW.out.ay hw1);clear hw1)
    go_roundw
    case rel=>exact⟨k+1,by omega,by go_num,HE.out.trans (HST.out.trans ⟨fun h=>h.2,fun h=>⟨HY.out,h⟩⟩),HW.out.ay HW1.out⟩
    case measure=>simp[intOf];omega
   ·rw[bn hy]at HC
    have HY:=ah hy;clear hy
    go_wp2_with(go_at_call 204;refine(HC.out _ bW.out).mono ?_;rintro e w1 ⟨rfl,hw1⟩;have HW1:=ah (bW.out.ay hw1);clear hw1)
    go_ret
    exact⟨bg (bn fun h=>HY.out (HST.out.1 (HE.out.1 h)).1).symm,HW.out.ay HW1.out⟩
  ·obtain rfl:m=k:=by omega
   have hend:ks=ks':=HE.out.2 (by rw[aI.pV (by rw[HM.out];exact Nat.le_refl _),aI.pV (by rw[HLEN.out];exact Nat.le_refl _)])
   have QO:=ah hend;clear hend
   go_wp2
   go_ret
   exact⟨bg (bM QO.out).symm,HW.out⟩
theorem QS (Q Q':Nat→Prop):∀(N:Nat) (es:List aG) (ks:aI) (es':List aG) (ks':aI) (w:World) (ev kv ev' kv':Value),dX ks<N→bJ Q w ev kv es ks→bJ Q' w ev' kv' es' ks'→sizeT es ks≤100000→sizeT es' ks'≤100000→
 Calls Tryz.prog 156 #[.agg #[ev,kv], .agg #[ev',kv']] w fun e w'=>e= .returned (.bool (tf (es=es'∧ks=ks')))∧aj au w w':=by
 intro N
 induction N with
 |zero=>intros;exfalso;omega
 |succ N iq=>
  intro es ks es' ks' w ev kv ev' kv' hN ht ht' hsz hsz'
  obtain⟨ae,ce,rfl⟩:=ht.ents.rd.sl
  obtain⟨os,hkr,dZ⟩:=ht.kids
  obtain⟨ak,ck,rfl⟩:=hkr.rd.sl
  obtain⟨dP,dQ,rfl⟩:=ht'.ents.rd.sl
  obtain⟨os',fJ,kR⟩:=ht'.kids
  obtain⟨dR,dS,rfl⟩:=fJ.rd.sl
  have h1:es.length≤100000:=by unfold sizeT at hsz;omega
  have h2:es'.length≤100000:=by unfold sizeT at hsz';omega
  have h3:ks.len≤100000:=by have:=nM ks;unfold sizeT at hsz;omega
  have h4:ks'.len≤100000:=by have:=nM ks';unfold sizeT at hsz';omega
  have oK:=ah (fun W (f:aj au w W)=>QI W _ _ es es' (ht.ents.rd.aP f) (ht'.ents.rd.aP f) h1 h2)
  have qY:=ah (fun W (f:aj au w W)=>QN Q Q' ks ks' W _ _ os os' (hkr.rd.aP f) (dZ.aP f) (fJ.rd.aP f) (kR.aP f) h3 h4 (fun n key es0 sub rest key' zG sub' rest' hd hd' W ev kv ev' kv' hta htb=>by
   obtain⟨a0,c0,rfl⟩:=hta.ents.rd.sl
   obtain⟨o3,hk3,_⟩:=hta.kids
   obtain⟨a1,c1,rfl⟩:=hk3.rd.sl
   obtain⟨b0,d0,rfl⟩:=htb.ents.rd.sl
   obtain⟨o4,hk4,_⟩:=htb.kids
   obtain⟨b1,d1,rfl⟩:=hk4.rd.sl
   have hss:=pW n hd
   have hst:=sO n hd
   have hst':=sO n hd'
   have:=QK key key' (tf (es0=zG∧sub=sub')) W _ _ _ _ _ _ _ _ _ _ _ _ fun W' f=>iq es0 sub zG sub' W' _ _ _ _ (by omega) (hta.aP f) (htb.aP f) (by unfold sizeT at*;omega) (by unfold sizeT at*;omega)
   have he:(tf (key=key')&&tf (es0=zG∧sub=sub'))=tf (key=key'∧es0=zG∧sub=sub'):=by
    rw[Bool.eq_iff_iff];simp only[Bool.and_eq_true,o_]
   rw[he]at this
   exact this))
  clear hkr fJ dZ kR ht ht' iq hN hsz hsz' h1 h2 h3 h4
  have bW:=ah ((aj.alloc au w (.cells #[.slice ae es.length ce, .slice ak ks.len ck] 30)).alloc1 (o:= .cells #[.slice dP es'.length dQ, .slice dR ks'.len dS] 30))
  have bF:=ah (Jc w (.slice ae es.length ce) (.slice ak ks.len ck) (.slice dP es'.length dQ) (.slice dR ks'.len dS) 30)
  by_cases hy:es=es'
  ·rw[bM hy]at oK
   have hall:tf (es=es'∧ks=ks')=tf (ks=ks'):=lI ⟨fun h=>h.2,fun h=>⟨hy,h⟩⟩
   rw[hall]
   clear hall hy
   generalize tf (ks=ks')=b at*
   generalize es.length=n at*
   generalize ks.len=m at*
   generalize es'.length=n' at*
   generalize ks'.len=m' at*
   go_enter Tryz.func156,Tryz.ntmps156
   go_wp2_with(first
    |(go_at_call 202;refine(oK.out _ bW.out).mono ?_;rintro e w1 ⟨rfl,hw1⟩;obtain⟨y0,y1,y2,y3⟩:=bF.out w1 hw1;have HW1:=ah (bW.out.ay hw1);clear hw1)
    |(go_at_call 203;refine(qY.out _ HW1.out).mono ?_;rintro e w2 ⟨rfl,hw2⟩;have HW2:=ah (HW1.out.ay hw2);clear hw2))
   go_ret
   exact⟨rfl,HW2.out⟩
  ·rw[bn hy]at oK
   rw[bn fun h=>hy h.1]
   clear hy qY
   generalize es.length=n at*
   generalize ks.len=m at*
   generalize es'.length=n' at*
   generalize ks'.len=m' at*
   go_enter Tryz.func156,Tryz.ntmps156
   go_wp2_with(go_at_call 202;refine(oK.out _ bW.out).mono ?_;rintro e w1 ⟨rfl,hw1⟩;have HW1:=ah (bW.out.ay hw1);clear hw1)
   go_ret
   exact⟨rfl,HW1.out⟩
open Go.RowKit
theorem QT (w:World) (va vb:Value) (a b:aU) (ha:dL w va a) (hb:dL w vb b) (ra:bH a) (rb:bH b) (la:a.length≤20000) (lb:b.length≤20000):
 Calls Tryz.prog 96 #[va,vb] w fun e w'=>e= .returned (.bool (tf (a=b)))∧aj au w w':=by
 obtain⟨aA,cA,rfl⟩:=ha.sl
 obtain⟨aB,cB,rfl⟩:=hb.sl
 have kQ:=ah (bM ra▸yx w _ a ha ra.fits (by omega))
 have lu:=ah (fun W (f:aj au w W)=>bM rb▸yx W _ b (Rd.aP hb f) rb.fits (by omega))
 have nX:=ah (fun W (f:aj au w W)=>QH W _ _ a b (Rd.aP ha f) (Rd.aP hb f) (by omega) (by omega))
 have hde:decide (a=b)=tf (a=b):=uq (by rw[decide_eq_true_iff])
 rw[hde]at nX
 clear ha hb ra rb la lb hde
 generalize tf (a=b)=y at*
 generalize a.length=n at*
 generalize b.length=m at*
 go_enter Tryz.func96,Tryz.ntmps96
 go_wp2_with(first
  |(go_at_call_of 157 aA;refine kQ.out.mono ?_;rintro e w1 ⟨rfl,hw1⟩;have HW1:=ah hw1;clear hw1)
  |(go_at_call_of 157 aB;refine(lu.out _ HW1.out).mono ?_;rintro e w2 ⟨rfl,hw2⟩;have HW2:=ah (HW1.out.ay hw2);clear hw2)
  |(go_at_call 158;refine(nX.out _ HW2.out).mono ?_;rintro e w3 ⟨rfl,hw3⟩;have HW3:=ah (HW2.out.ay hw3);clear hw3))
 go_ret
 exact⟨rfl,HW3.out⟩
theorem QU (Q Q':Nat→Prop) (es:List aG) (ks:aI) (es':List aG) (ks':aI) (w:World) (ev kv ev' kv':Value) (ht:bJ Q w ev kv es ks) (hok:gG es ks) (hr:aX 5 es ks=true) (hs:sizeT es ks≤4000)
 (ht':bJ Q' w ev' kv' es' ks') (hok':gG es' ks') (hr':aX 5 es' ks'=true) (hs':sizeT es' ks'≤4000):
 Calls Tryz.prog 95 #[.agg #[ev,kv], .agg #[ev',kv']] w fun e w'=>e= .returned (.bool (tf (es=es'∧ks=ks')))∧aj au w w':=by
 have HA:=ah (fun W (f:aj au w W)=>hr▸yH Q es ks W _ _ (ht.aP f) hok)
 have HB:=ah (fun W (f:aj au w W)=>hr'▸yH Q' es' ks' W _ _ (ht'.aP f) hok')
 have HS:=ah (fun W (f:aj au w W)=>QS Q Q' _ es ks es' ks' W _ _ _ _ (Nat.lt_succ_self _) (ht.aP f) (ht'.aP f) (by omega) (by omega))
 obtain⟨ae,ce,rfl⟩:=ht.ents.rd.sl
 obtain⟨os,hkr,-⟩:=ht.kids
 obtain⟨ak,ck,rfl⟩:=hkr.rd.sl
 obtain⟨dP,dQ,rfl⟩:=ht'.ents.rd.sl
 obtain⟨os',fJ,-⟩:=ht'.kids
 obtain⟨dR,dS,rfl⟩:=fJ.rd.sl
 clear hkr fJ ht ht' hok hok' hr hr' hs hs'
 generalize tf (es=es'∧ks=ks')=y at*
 generalize es.length=n at*
 generalize ks.len=m at*
 generalize es'.length=n' at*
 generalize ks'.len=m' at*
 have bW:=ah ((aj.alloc au w (.cells #[.slice ae n ce, .slice ak m ck] 30)).alloc1 (o:= .cells #[.slice dP n' dQ, .slice dR m' dS] 30))
 have bF:=ah (Jc w (.slice ae n ce) (.slice ak m ck) (.slice dP n' dQ) (.slice dR m' dS) 30)
 go_enter Tryz.func95,Tryz.ntmps95
 go_wp2_with(first
  |(go_at_call 156;refine(HS.out _ (bW.out.ay HW2.out)).mono ?_;rintro e w3 ⟨rfl,hw3⟩;have HW3:=ah ((bW.out.ay HW2.out).ay hw3);clear hw3)
  |(go_at_call 155;first
   |(refine(HB.out _ (bW.out.ay HW1.out)).mono ?_;rintro e w2 ⟨rfl,hw2⟩;clear y0 y1 y2 y3;obtain⟨y0,y1,y2,y3⟩:=bF.out w2 (HW1.out.ay hw2);have HW2:=ah (HW1.out.ay hw2);clear hw2)
   |(refine(HA.out _ bW.out).mono ?_;rintro e w1 ⟨rfl,hw1⟩;obtain⟨y0,y1,y2,y3⟩:=bF.out w1 hw1;have HW1:=ah hw1;clear hw1)))
 go_ret
 exact⟨rfl,HW3.out⟩
theorem QV (Q Q':Nat→Prop) (es:List aG) (ks:aI) (c:aU) (es':List aG) (ks':aI) (c':aU) (w:World) (ev kv cv ev' kv' cv':Value) (h:gQ Q w ev kv cv es ks c) (hok:fG es ks c) (h':gQ Q' w ev' kv' cv' es' ks' c') (hok':fG es' ks' c'):
 Calls Tryz.prog 29 #[.agg #[ev,kv,cv], .agg #[ev',kv',cv']] w fun e w'=>e= .returned (.bool (tf (eG es ks c∧eG es' ks' c'∧(es=es'∧ks=ks')∧c=c')))∧aj au w w':=by
 obtain⟨a0,c0,a1,c1,a2,c2,rfl,rfl,rfl⟩:=h.shape
 obtain⟨b0,d0,b1,d1,b2,d2,rfl,rfl,rfl⟩:=h'.shape
 have HA:=ah (fun W (f:aj au w W)=>qO Q es ks c W _ _ _ (h.aP f) hok)
 have HB:=ah (fun W (f:aj au w W)=>qO Q' es' ks' c' W _ _ _ (h'.aP f) hok')
 have HT:=ah (fun W (f:aj au w W) r r'=>QU Q Q' es ks es' ks' W _ _ _ _ (h.tree.aP f) hok.tree r (Nat.le_trans hok.small (by decide)) (h'.tree.aP f) hok'.tree r' (Nat.le_trans hok'.small (by decide)))
 have HC:=ah (fun W (f:aj au w W) r r'=>QT W _ _ c c' (Rd.aP h.ctx f) (Rd.aP h'.ctx f) r r' (Nat.le_trans hok.len (by decide)) (Nat.le_trans hok'.len (by decide)))
 clear h hok h' hok'
 by_cases r1:eG es ks c
 rotate_left 1
 ·rw[bn r1]at HA
  rw[bn fun h=>r1 h.1]
  clear r1 HB HT HC
  generalize es.length=n at*
  generalize ks.len=m at*
  generalize c.length=k at*
  generalize es'.length=n' at*
  generalize ks'.len=m' at*
  generalize c'.length=k' at*
  have bW:=ah ((aj.alloc au w (.cells #[.slice a0 n c0, .slice a1 m c1, .slice a2 k c2] 34)).alloc1 (o:= .cells #[.slice b0 n' d0, .slice b1 m' d1, .slice b2 k' d2] 34))
  have bF:=ah (zD w (.slice a0 n c0) (.slice a1 m c1) (.slice a2 k c2) (.slice b0 n' d0) (.slice b1 m' d1) (.slice b2 k' d2) 34)
  go_enter Tryz.func29,Tryz.ntmps29
  go_wp2_with(first
   |(go_at_call 93;refine(HA.out _ bW.out).mono ?_;rintro e w1 ⟨rfl,hw1⟩;obtain⟨y0,y1,y2,y3,y4,y5⟩:=bF.out w1 hw1;have HW1:=ah hw1;clear hw1))
  go_ret
  exact⟨rfl,bW.out.ay HW1.out⟩
 by_cases r2:eG es' ks' c'
 rotate_left 1
 ·rw[bM r1]at HA
  rw[bn r2]at HB
  rw[bn fun h=>r2 h.2.1]
  clear r1 r2 HT HC
  generalize es.length=n at*
  generalize ks.len=m at*
  generalize c.length=k at*
  generalize es'.length=n' at*
  generalize ks'.len=m' at*
  generalize c'.length=k' at*
  have bW:=ah ((aj.alloc au w (.cells #[.slice a0 n c0, .slice a1 m c1, .slice a2 k c2] 34)).alloc1 (o:= .cells #[.slice b0 n' d0, .slice b1 m' d1, .slice b2 k' d2] 34))
  have bF:=ah (zD w (.slice a0 n c0) (.slice a1 m c1) (.slice a2 k c2) (.slice b0 n' d0) (.slice b1 m' d1) (.slice b2 k' d2) 34)
  go_enter Tryz.func29,Tryz.ntmps29
  go_wp2_with(first
   |(go_at_call 93;first|(refine(HB.out _ (bW.out.ay HW1.out)).mono ?_;rintro e w2 ⟨rfl,hw2⟩;clear y0 y1 y2 y3 y4 y5;obtain⟨y0,y1,y2,y3,y4,y5⟩:=bF.out w2 (HW1.out.ay hw2);have HW2:=ah (HW1.out.ay hw2);clear hw2)|(refine(HA.out _ bW.out).mono ?_;rintro e w1 ⟨rfl,hw1⟩;obtain⟨y0,y1,y2,y3,y4,y5⟩:=bF.out w1 hw1;have HW1:=ah hw1;clear hw1)))
  go_ret
  exact⟨rfl,bW.out.ay HW2.out⟩
 rw[bM r1]at HA
 rw[bM r2]at HB
 have HT:=ah (fun W f=>HT.out W f r1.tree r2.tree)
 have HC:=ah (fun W f=>HC.out W f r1.ctx r2.ctx)
 by_cases r3:es=es'∧ks=ks'
 rotate_left 1
 ·rw[bn r3]at HT
  rw[bn fun h=>r3 h.2.2.1]
  clear r1 r2 r3 HC
  generalize es.length=n at*
  generalize ks.len=m at*
  generalize c.length=k at*
  generalize es'.length=n' at*
  generalize ks'.len=m' at*
  generalize c'.length=k' at*
  have bW:=ah ((aj.alloc au w (.cells #[.slice a0 n c0, .slice a1 m c1, .slice a2 k c2] 34)).alloc1 (o:= .cells #[.slice b0 n' d0, .slice b1 m' d1, .slice b2 k' d2] 34))
  have bF:=ah (zD w (.slice a0 n c0) (.slice a1 m c1) (.slice a2 k c2) (.slice b0 n' d0) (.slice b1 m' d1) (.slice b2 k' d2) 34)
  go_enter Tryz.func29,Tryz.ntmps29
  go_wp2_with(first
   |(go_at_call 93;first|(refine(HB.out _ (bW.out.ay HW1.out)).mono ?_;rintro e w2 ⟨rfl,hw2⟩;clear y0 y1 y2 y3 y4 y5;obtain⟨y0,y1,y2,y3,y4,y5⟩:=bF.out w2 (HW1.out.ay hw2);have HW2:=ah (HW1.out.ay hw2);clear hw2)|(refine(HA.out _ bW.out).mono ?_;rintro e w1 ⟨rfl,hw1⟩;obtain⟨y0,y1,y2,y3,y4,y5⟩:=bF.out w1 hw1;have HW1:=ah hw1;clear hw1))
   |(go_at_call 95;refine(HT.out _ (bW.out.ay HW2.out)).mono ?_;rintro e w3 ⟨rfl,hw3⟩;clear y0 y1 y2 y3 y4 y5;obtain⟨y0,y1,y2,y3,y4,y5⟩:=bF.out w3 (HW2.out.ay hw3);have HW3:=ah (HW2.out.ay hw3);clear hw3))
  go_ret
  exact⟨rfl,bW.out.ay HW3.out⟩
 rw[bM r3]at HT
 have hall:tf (eG es ks c∧eG es' ks' c'∧(es=es'∧ks=ks')∧c=c')=tf (c=c'):=lI ⟨fun h=>h.2.2.2,fun h=>⟨r1,r2,r3,h⟩⟩
 rw[hall]
 clear hall r1 r2 r3
 generalize tf (c=c')=y at*
 generalize es.length=n at*
 generalize ks.len=m at*
 generalize c.length=k at*
 generalize es'.length=n' at*
 generalize ks'.len=m' at*
 generalize c'.length=k' at*
 have bW:=ah ((aj.alloc au w (.cells #[.slice a0 n c0, .slice a1 m c1, .slice a2 k c2] 34)).alloc1 (o:= .cells #[.slice b0 n' d0, .slice b1 m' d1, .slice b2 k' d2] 34))
 have bF:=ah (zD w (.slice a0 n c0) (.slice a1 m c1) (.slice a2 k c2) (.slice b0 n' d0) (.slice b1 m' d1) (.slice b2 k' d2) 34)
 go_enter Tryz.func29,Tryz.ntmps29
 go_wp2_with(first
  |(go_at_call 93;first|(refine(HB.out _ (bW.out.ay HW1.out)).mono ?_;rintro e w2 ⟨rfl,hw2⟩;clear y0 y1 y2 y3 y4 y5;obtain⟨y0,y1,y2,y3,y4,y5⟩:=bF.out w2 (HW1.out.ay hw2);have HW2:=ah (HW1.out.ay hw2);clear hw2)|(refine(HA.out _ bW.out).mono ?_;rintro e w1 ⟨rfl,hw1⟩;obtain⟨y0,y1,y2,y3,y4,y5⟩:=bF.out w1 hw1;have HW1:=ah hw1;clear hw1))
  |(go_at_call 95;refine(HT.out _ (bW.out.ay HW2.out)).mono ?_;rintro e w3 ⟨rfl,hw3⟩;clear y0 y1 y2 y3 y4 y5;obtain⟨y0,y1,y2,y3,y4,y5⟩:=bF.out w3 (HW2.out.ay hw3);have HW3:=ah (HW2.out.ay hw3);clear hw3)
  |(go_at_call 96;refine(HC.out _ (bW.out.ay HW3.out)).mono ?_;rintro e w4 ⟨rfl,hw4⟩;have Dv:=ah (HW3.out.ay hw4);clear hw4))
 go_ret
 exact⟨rfl,bW.out.ay Dv.out⟩
open Go.RowKit
theorem Tryz.vec_cells:Tryz.prog.cellsOf 2=1:=by kernel_rfl
theorem QW (d:Nat) (a b:Int) (W:World):(Op.equalIn (d+1) 2 (.int .i64 a) (.int .i64 b)).run Tryz.prog W= .ok (a==b) W:=by
 simp[Op.equalIn,run_underlying Tryz.underlying2]
theorem Je (xs:Array Value) (k:Nat) (v:Value) (h:xs[k]?=some v) (W:World):(part 2 xs k).run Tryz.prog W= .ok v W:=by
 obtain⟨i0,hi,hz0,hz1,hz2⟩:=info_parts rW
 simp[part,go_sem,h]
theorem zH (d:Nat) (xs ys:Array Value) (i:Nat) (is:List Nat) (a b:Int) (hx:xs[i]?=some (.int .i64 a)) (hy:ys[i]?=some (.int .i64 b)) (W:World):
 (Op.eqItems (d+1) 2 1 xs ys (i::is)).run Tryz.prog W=if a=b then(Op.eqItems (d+1) 2 1 xs ys is).run Tryz.prog W else .ok false W:=by
 have h1:=Je xs i _ hx
 have h2:=Je ys i _ hy
 rw[Op.eqItems]
 simp only[Sem.run_bind,Nat.mul_one,h1,h2,Result.andThen_ok,QW]
 by_cases h:a=b
 ·rw[if_pos h];subst h;simp
 ·rw[if_neg h]
  have:(a==b)=false:=by simpa using h
  rw[this];simp
theorem QX (a0 a1 a2 a3 b0 b1 b2 b3:Int) (W:World):(Op.equal 25 (.agg #[.int .i64 a0, .int .i64 a1, .int .i64 a2, .int .i64 a3]) (.agg #[.int .i64 b0, .int .i64 b1, .int .i64 b2, .int .i64 b3])).run Tryz.prog W= .ok ((a0==b0)&&((a1==b1)&&((a2==b2)&&(a3==b3)))) W:=by
 obtain⟨i0,hi,hz0,hz1,hz2⟩:=info_parts rW
 unfold Op.equal
 obtain⟨d,hd⟩:∃d,Op.maxDepth=d+1+1:=⟨Op.maxDepth-2,rfl⟩
 rw[hd,run_equalIn_array (d:=d+1) (hu:=Tryz.underlying25) (hi:=hi),Tryz.vec_cells,show List.range 4=[0,1,2,3]from rfl]
 rw[zH d _ _ 0 _ a0 b0 rfl rfl,zH d _ _ 1 _ a1 b1 rfl rfl,zH d _ _ 2 _ a2 b2 rfl rfl,zH d _ _ 3 _ a3 b3 rfl rfl]
 by_cases h0:a0=b0<;>by_cases h1:a1=b1<;>by_cases h2:a2=b2<;>by_cases h3:a3=b3<;>simp[h0,h1,h2,h3,Op.eqItems]
theorem QY (a0 a1 a2 a3 b0 b1 b2 b3:Int) (W:World):(binOp .eql 25 (.agg #[.int .i64 a0, .int .i64 a1, .int .i64 a2, .int .i64 a3]) (.agg #[.int .i64 b0, .int .i64 b1, .int .i64 b2, .int .i64 b3])).run Tryz.prog W= .ok (.bool ((a0==b0)&&((a1==b1)&&((a2==b2)&&(a3==b3))))) W:=by
 simp[binOp,QX]
theorem QZ (a0 a1 a2 a3:Int) (W:World):(binOp .eql 25 (.agg #[.int .i64 a0, .int .i64 a1, .int .i64 a2, .int .i64 a3]) (.agg #[.int .i64 a0, .int .i64 a1, .int .i64 a2, .int .i64 a3])).run Tryz.prog W= .ok (.bool true) W:=by
 rw[QY];simp
end Go.Proofs.YtabkpccdnkjoiaaGreat
