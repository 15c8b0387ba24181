/- Words for the law BundleOrder: Ready, Leaf, R8d, R8e, SmallT, R8c. -/
import Derived.Test.YtabkpccdnkjoiaaGreatBundleOrderG0
import Derived.Test.YtabkpccdnkjoiaaGreatBundleOrderG7
import Derived.Test.YtabkpccdnkjoiaaGreatBundleOrderG8
import Derived.Test.YtabkpccdnkjoiaaGreatBundleOrderG9
import Derived.Test.YtabkpccdnkjoiaaGreatBundleOrderG10
import Derived.Test.YtabkpccdnkjoiaaGreatBundleOrderG13
import Derived.Test.YtabkpccdnkjoiaaGreatBundleOrderG14
set_option linter.unusedSimpArgs false
set_option linter.unusedVariables false
set_option maxHeartbeats 32000000
set_option maxRecDepth 1000000
namespace Go.Proofs.YtabkpccdnkjoiaaGreat
open Go.RowKit
theorem Ir (Q:Nat→Prop) (es:List aG) (ks:aI) (c:aU) (w:World) (dc af la v0 v1 v2 v3 u0 u1 u2 u3:Int) (ev kv cv:Value) (h:gQ Q w ev kv cv es ks c) (hok:fG es ks c):
 Calls Tryz.prog 27 #[.agg #[.int .i64 dc, .int .i64 af, .int .i64 la, .int .i64 v0, .int .i64 v1, .int .i64 v2, .int .i64 v3,ev,kv,cv],jh u0 u1 u2 u3] w fun e w'=>e= .returned (.bool (tf (fO dc af la (aS v0 v1 v2 v3) es ks c∧(aS u0 u1 u2 u3) dc=af∧iG (aS v0 v1 v2 v3) (aS u0 u1 u2 u3))))∧aj au w w':=by
 obtain⟨a0,c0,a1,c1,a2,c2,rfl,rfl,rfl⟩:=h.shape
 have HR:=ah (fun W (f:aj au w W)=>vU Q es ks c W dc af la v0 v1 v2 v3 _ _ _ (h.aP f) hok)
 clear h hok
 have hix:∀(k:Nat),k<4→∀W,(Instr.index 25 (.agg #[.int .i64 v0, .int .i64 v1, .int .i64 v2, .int .i64 v3]) (.int .i64 (k:Int))).run Tryz.prog W= .ok (.int .i64 ((aS v0 v1 v2 v3) k)) W:=fun k hk=>by
  rcases(by omega:k=0∨k=1∨k=2∨k=3)with rfl|rfl|rfl|rfl<;>exact fun _=>by kernel_rfl
 have tX:=ah hix;clear hix
 unfold jh
 by_cases hr:fO dc af la (aS v0 v1 v2 v3) es ks c
 ·rw[bM hr]at HR
  have hn:=hr.nums
  have HRR:=ah hr;clear hr
  obtain⟨dn,hdn⟩:∃dn:Nat,dc=dn:=⟨dc.toNat,by have:=hn.1;omega⟩
  have hd4:dn<4:=by have:=hn.2.1;omega
  have nS:(dn:Int)<4:=by omega
  have zo:decide ((dn:Int)<4)=true:=by simpa using nS
  clear hn
  subst hdn
  have sH:=ah (show ∀b:Bool,b=tf ((aS u0 u1 u2 u3) dn=af∧iG (aS v0 v1 v2 v3) (aS u0 u1 u2 u3))→b=tf (fO dn af la (aS v0 v1 v2 v3) es ks c∧(aS u0 u1 u2 u3) dn=af∧iG (aS v0 v1 v2 v3) (aS u0 u1 u2 u3))from fun b hb=>hb.trans (lI ⟨fun h=>⟨HRR.out,h⟩,fun h=>h.2⟩))
  clear HRR
  generalize fO dn af la (aS v0 v1 v2 v3) es ks c=R at*
  generalize es.length=n at*
  generalize ks.len=m at*
  generalize c.length=k at*
  obtain⟨α,hne,K,hK1,hK0,hK2⟩:=worlds ((w.alloc (.cells #[.int .i64 dn, .int .i64 af, .int .i64 la, .int .i64 v0, .int .i64 v1, .int .i64 v2, .int .i64 v3, .slice a0 n c0, .slice a1 m c1, .slice a2 k c2] 59)).alloc (.cells #[.int .i64 u0, .int .i64 u1, .int .i64 u2, .int .i64 u3] 25))
  have dH:=ah (fun s=>((aj.alloc au w (.cells #[.int .i64 dn, .int .i64 af, .int .i64 la, .int .i64 v0, .int .i64 v1, .int .i64 v2, .int .i64 v3, .slice a0 n c0, .slice a1 m c1, .slice a2 k c2] 59)).alloc1 (o:= .cells #[.int .i64 u0, .int .i64 u1, .int .i64 u2, .int .i64 u3] 25)).ay (hK1 s))
  have kb:=fun s=>ql w _ _ _ _ _ _ _ _ _ _ _ (K s) ((aj.alloc au _ _).ay (hK1 s))
  have k0:=fun s=>(kb s).1
  have k1:=fun s=>(kb s).2.1
  have k2:=fun s=>(kb s).2.2.1
  have k3:=fun s=>(kb s).2.2.2.1
  have k4:=fun s=>(kb s).2.2.2.2.1
  have k5:=fun s=>(kb s).2.2.2.2.2.1
  have k6:=fun s=>(kb s).2.2.2.2.2.2.1
  have k7:=fun s=>(kb s).2.2.2.2.2.2.2.1
  have k8:=fun s=>(kb s).2.2.2.2.2.2.2.2.1
  have k9:=fun s=>(kb s).2.2.2.2.2.2.2.2.2
  clear kb
  have hvu:∀s,fQ (K s) (w.heap.size+1) (aS u0 u1 u2 u3) 25:=fun s=>(show fQ ((w.alloc (.cells #[.int .i64 dn, .int .i64 af, .int .i64 la, .int .i64 v0, .int .i64 v1, .int .i64 v2, .int .i64 v3, .slice a0 n c0, .slice a1 m c1, .slice a2 k c2] 59)).alloc (.cells #[.int .i64 u0, .int .i64 u1, .int .i64 u2, .int .i64 u3] 25)) (w.heap.size+1) (aS u0 u1 u2 u3) 25 from(oL w _ _ _).1).keep (hK1 s)
  have nV:=ah hvu;clear hvu
  have kd:=fun s=>(nV.out s).cell hd4
  generalize hfv:(aS v0 v1 v2 v3)=f at*
  generalize hfu:(aS u0 u1 u2 u3)=g at*
  clear hfv hfu
  by_cases he:g dn=af
  ·have nX:=ah he
   rw[he]at kd
   clear he
   go_enter Tryz.func27,Tryz.ntmps27
   go_wp2_with fail
   refine bK K (by kernel_rfl) (by kernel_rfl) hK0 ?_
   repeat(go_big_quiet_step ((go_at_call 83;exact Calls.aW hK2 (HR.out _ (dH.out _)))))
   refine wpQuiet_nil ?_
   intro w' hw'
   obtain⟨s,rfl⟩:=hw'
   have mF:=ah (nV.out s)
   have Iu:=ah (dH.out s)
   have y3:=k3 s
   have y4:=k4 s
   have y5:=k5 s
   have y6:=k6 s
   clear kd k0 k1 k2 k3 k4 k5 k6 k7 k8 k9 dH nV HR
   generalize K s=X at*
   clear hK0 hK1 hK2
   go_wp2
   clear y3 y4 y5 y6
   go_loopw [21] (fun i ww=>∃k:Nat,k≤4∧i= .int .i64 k∧(∀d:Int,0≤d→d<k→f d≤g d)∧aj au X ww) (fun i _=>4-(intOf i).toNat)
   case atStart=>exact⟨0,Nat.zero_le _,rfl,(fun d h0 h1=>by have:d<0:=h1;omega),aj.refl _ _⟩
   case round=>
    obtain⟨k,hk,rfl,hrr,hw⟩:=hrel
    have xZ:=ah hrr;clear hrr
    have HW:=ah hw;clear hw
    by_cases hlt:k<4
    ·have hki:(k:Int)<4:=by omega
     have hx:=tX.out k hlt
     have c1:=(mF.out.keep HW.out).cell hlt
     have hst:f k≤g k→∀d:Int,0≤d→d<((k+1:Nat):Int)→f d≤g d:=fun h d h0 h1=>by
      by_cases he:d=k
      ·subst he;exact h
      ·exact xZ.out d h0 (by omega)
     have hno:g k<f k→¬iG f g:=fun h h2=>by have:=h2 k (by omega) hki;omega
     have HST:=ah hst;clear hst
     have ji:=ah hno;clear hno
     generalize f k=x at*
     generalize g k=y at*
     cases hc:decide (y<x)with
     |true=>
      have HC:=ah hc
      go_wp2
      go_ret
      exact⟨bg (sH.out _ (bn fun h=>ji.out (by simpa using HC.out) h.2).symm),Iu.out.ay HW.out⟩
     |false=>
      have HC:=ah hc
      go_wp2
      go_roundw
      case rel=>exact⟨k+1,by omega,by go_num,HST.out (by have:=HC.out;simp at this;exact this),HW.out⟩
      case measure=>simp[intOf];omega
    ·obtain rfl:k=4:=by omega
     go_wp2
     go_ret
     exact⟨bg (sH.out _ (bM ⟨nX.out,fun d h0 h4=>xZ.out d h0 h4⟩).symm),Iu.out.ay HW.out⟩
  ·have jX:=ah he
   have hb:((g dn:Int)==af)=false:=by simpa using he
   clear he
   generalize g dn=x at*
   go_enter Tryz.func27,Tryz.ntmps27
   go_wp2_with fail
   refine bK K (by kernel_rfl) (by kernel_rfl) hK0 ?_
   repeat(go_big_quiet_step ((go_at_call 83;exact Calls.aW hK2 (HR.out _ (dH.out _)))))
   refine wpQuiet_nil ?_
   intro w' hw'
   obtain⟨s,rfl⟩:=hw'
   go_wp2
   go_ret
   exact⟨bg (sH.out _ (bn fun h=>jX.out h.1).symm),dH.out s⟩
 ·rw[bn hr]at HR
  rw[bn fun h=>hr h.1]
  clear hr tX
  generalize es.length=n at*
  generalize ks.len=m at*
  generalize c.length=k at*
  obtain⟨α,hne,K,hK1,hK0,hK2⟩:=worlds ((w.alloc (.cells #[.int .i64 dc, .int .i64 af, .int .i64 la, .int .i64 v0, .int .i64 v1, .int .i64 v2, .int .i64 v3, .slice a0 n c0, .slice a1 m c1, .slice a2 k c2] 59)).alloc (.cells #[.int .i64 u0, .int .i64 u1, .int .i64 u2, .int .i64 u3] 25))
  have dH:=ah (fun s=>((aj.alloc au w (.cells #[.int .i64 dc, .int .i64 af, .int .i64 la, .int .i64 v0, .int .i64 v1, .int .i64 v2, .int .i64 v3, .slice a0 n c0, .slice a1 m c1, .slice a2 k c2] 59)).alloc1 (o:= .cells #[.int .i64 u0, .int .i64 u1, .int .i64 u2, .int .i64 u3] 25)).ay (hK1 s))
  have kb:=fun s=>ql w _ _ _ _ _ _ _ _ _ _ _ (K s) ((aj.alloc au _ _).ay (hK1 s))
  have k0:=fun s=>(kb s).1
  have k1:=fun s=>(kb s).2.1
  have k2:=fun s=>(kb s).2.2.1
  have k3:=fun s=>(kb s).2.2.2.1
  have k4:=fun s=>(kb s).2.2.2.2.1
  have k5:=fun s=>(kb s).2.2.2.2.2.1
  have k6:=fun s=>(kb s).2.2.2.2.2.2.1
  have k7:=fun s=>(kb s).2.2.2.2.2.2.2.1
  have k8:=fun s=>(kb s).2.2.2.2.2.2.2.2.1
  have k9:=fun s=>(kb s).2.2.2.2.2.2.2.2.2
  clear kb
  have hvu:∀s,fQ (K s) (w.heap.size+1) (aS u0 u1 u2 u3) 25:=fun s=>(show fQ ((w.alloc (.cells #[.int .i64 dc, .int .i64 af, .int .i64 la, .int .i64 v0, .int .i64 v1, .int .i64 v2, .int .i64 v3, .slice a0 n c0, .slice a1 m c1, .slice a2 k c2] 59)).alloc (.cells #[.int .i64 u0, .int .i64 u1, .int .i64 u2, .int .i64 u3] 25)) (w.heap.size+1) (aS u0 u1 u2 u3) 25 from(oL w _ _ _).1).keep (hK1 s)
  have nV:=ah hvu;clear hvu
  go_enter Tryz.func27,Tryz.ntmps27
  go_wp2_with fail
  refine bK K (by kernel_rfl) (by kernel_rfl) hK0 ?_
  repeat(go_big_quiet_step ((go_at_call 83;exact Calls.aW hK2 (HR.out _ (dH.out _)))))
  refine wpQuiet_nil ?_
  intro w' hw'
  obtain⟨s,rfl⟩:=hw'
  go_wp2
  go_ret
  exact⟨rfl,dH.out s⟩
open Go.RowKit
abbrev jY:=List (Value×aG)
def jH (l:jY):List Value:=l.flatMap fun x=>x.1::x.2.cells
def kU (p:Value) (es:List aG):jY:=es.map fun e=>(p,e)
def kJ (l:jY):aQ:=l.map fun x=>(x.2.dc,x.2.n)
def nY (l:jY):Prop:=∀x∈l,x.1.oneCell'=true
theorem zu (a b:jY):jH (a++b)=jH a++jH b:=by simp[jH]
theorem Iw (x:Value×aG) (l:jY):jH (x::l)=x.1:: .int .i64 x.2.dc:: .int .i64 x.2.n:: .string x.2.s:: .int .i64 x.2.k::jH l:=rfl
theorem zx:∀l:jY,(jH l).length=l.length*5
 |[]=>rfl
 |x::l=>by rw[Iw];simp only[List.length_cons,zx l];omega
theorem CY {l:jY} (h:nY l):∀v∈jH l,v.oneCell'=true:=by
 intro v hv
 simp only[jH,List.mem_flatMap]at hv
 obtain⟨x,hx,hv⟩:=hv
 rcases List.mem_cons.1 hv with rfl|hv
 ·exact h x hx
 ·simp[aG.cells]at hv
  rcases hv with rfl|rfl|rfl|rfl<;>rfl
theorem Iy:∀(l:jY) (k:Nat),k<l.length→(jH l)[k*5+1]?=some (.int .i64 (l.getD k (.bool true,aG.zero)).2.dc)∧(jH l)[k*5+2]?=some (.int .i64 (l.getD k (.bool true,aG.zero)).2.n)
 |[],_,h=>by cases h
 |x::l,0,_=>⟨rfl,rfl⟩
 |x::l,k+1,h=>by
  obtain⟨h1,h2⟩:=Iy l k (by simpa using h)
  rw[Iw,show(k+1)*5+1=(k*5+1)+1+1+1+1+1 by omega,show(k+1)*5+2=(k*5+2)+1+1+1+1+1 by omega]
  exact⟨h1,h2⟩
theorem PY {w:World} {b off c n:Nat} {l:jY} (h:Rd w (.slice (some ⟨b,off,none⟩) n c) n (jH l)) (k:Nat) (hk:k<l.length):
 w.cell? ⟨b,off+k*5+1,none⟩=some (.int .i64 (l.getD k (.bool true,aG.zero)).2.dc)∧w.cell? ⟨b,off+k*5+2,none⟩=some (.int .i64 (l.getD k (.bool true,aG.zero)).2.n):=by
 obtain⟨h1,h2⟩:=Iy l k hk
 exact⟨h.cell (k*5+1) _ h1,h.cell (k*5+2) _ h2⟩
theorem PZ {l:jY} {k:Nat} (hk:k<l.length):kJ (l.take (k+1))=kJ (l.take k)++ [((l.getD k (.bool true,aG.zero)).2.dc,(l.getD k (.bool true,aG.zero)).2.n)]:=by
 rw[take_succ (.bool true,aG.zero) hk];simp[kJ]
theorem CZ (a b:jY):kJ (a++b)=kJ a++kJ b:=by simp[kJ]
theorem oU (l:jY):(kJ l).length=l.length:=by simp[kJ]
theorem P_ (p:Value) (es:List aG):kJ (kU p es)=jT es:=by simp[kJ,kU,jT]
theorem Qa (p:Value) (es:List aG):(kU p es).length=es.length:=by simp[kU]
theorem nY.kU {p:Value} (h:p.oneCell'=true) (es:List aG):nY (kU p es):=fun x hx=>by
 obtain⟨e,_,rfl⟩:=List.mem_map.1 hx
 exact h
theorem nY.append {a b:jY} (ha:nY a) (hb:nY b):nY (a++b):=fun x hx=>(List.mem_append.1 hx).elim (ha x) (hb x)
theorem Qb {p:Value} {es:List aG} {k:Nat} (hk:k<es.length):jH (kU p (es.take (k+1)))=jH (kU p (es.take k))++ [p, .int .i64 (es.getD k aG.zero).dc, .int .i64 (es.getD k aG.zero).n, .string (es.getD k aG.zero).s, .int .i64 (es.getD k aG.zero).k]:=by
 rw[take_succ aG.zero hk,show kU p (es.take k++ [es.getD k aG.zero])=kU p (es.take k)++ [(p,es.getD k aG.zero)] by simp[kU],zu]
 rfl
def jZ (l:List ByteArray):List Value:=l.map .string
theorem C_ (a b:List ByteArray):jZ (a++b)=jZ a++jZ b:=by simp[jZ]
@[simp] theorem Dc (l:List ByteArray):(jZ l).length=l.length:=by simp[jZ]
theorem Df (l:List ByteArray):∀v∈jZ l,v.oneCell'=true:=by
 intro v hv
 simp only[jZ,List.mem_map]at hv
 obtain⟨r,_,rfl⟩:=hv
 rfl
theorem Qc:(Tryz.prog.info? 175).map (fun i=>(i.zero,i.size,i.bytes))=some (some (.agg #[.slice none 0 0, .int .i64 0, .int .i64 0, .string ByteArray.empty, .int .i64 0]),5,64):=by kernel_rfl
theorem Qd:(Tryz.prog.info? 9).map (fun i=>(i.zero,i.size,i.bytes))=some (some (.string ByteArray.empty),1,16):=by kernel_rfl
open Go.RowKit
def Iz (w:World) (es:List aG) (ks:aI) (e:Ending) (w':World):Prop:=
 ∃(v':Value) (l:jY),e= .returned v'∧OwnAt w w' 175 5 v' l.length (jH l)∧kJ l=bU es ks∧nY l
theorem Qe (Q:Nat→Prop):∀(N:Nat) (es:List aG) (ks:aI) (w:World) (ev kv pv:Value) (pl:List ByteArray),dX ks<N→bJ Q w ev kv es ks→sizeT es ks≤100000→Rd w pv pl.length (jZ pl)→pl.length+N≤200000→
 Calls Tryz.prog 108 #[.agg #[ev,kv],pv] w (Iz w es ks):=by
 intro N
 induction N with
 |zero=>intros;exfalso;omega
 |succ N iq=>
  intro es ks w ev kv pv pl hN ht hsz hp hpl
  obtain⟨i0,hi,hz0,hz1,hz2⟩:=info_parts Qc
  obtain⟨j0,hji,hy0,hy1,hy2⟩:=info_parts Qd
  obtain⟨ae,ce,rfl⟩:=ht.ents.rd.sl
  obtain⟨os,hkr,dZ⟩:=ht.kids
  obtain⟨ak,ck,rfl⟩:=hkr.rd.sl
  obtain⟨ap,cp,rfl⟩:=hp.sl
  have HP:=ah hp;clear hp
  have HE:=ah ht.ents.rd
  have gJ:=ah hkr.rd;clear hkr ht
  have jU:=ah dZ;clear dZ
  have IH:=ah iq;clear iq
  have bQ:=ah (aj.alloc au w (.cells #[.slice ae es.length ce, .slice ak ks.len ck] 30))
  have box0:(w.alloc (.cells #[.slice ae es.length ce, .slice ak ks.len ck] 30)).cell? ⟨w.heap.size,0,none⟩=some (.slice ae es.length ce):=aF (heap_alloc_new w _) 0 rfl
  have box1:(w.alloc (.cells #[.slice ae es.length ce, .slice ak ks.len ck] 30)).cell? ⟨w.heap.size,1,none⟩=some (.slice ak ks.len ck):=aF (heap_alloc_new w _) 1 rfl
  have B0:=ah box0;clear box0
  have B1:=ah box1;clear box1
  have jD:=ah (Nat.le_trans (uU es ks) hsz)
  have pX:es.length≤100000:=by unfold sizeT at hsz;omega
  have Gs:ks.len≤100000:=by have:=nM ks;unfold sizeT at hsz;omega
  have mO:=ah hsz;clear hsz
  have iF:=ah hN;clear hN
  have hq5:pl.length≤200000:=by omega
  have kP:=ah hpl;clear hpl
  generalize hes:es.length=n at*
  have HN:=ah hes;clear hes
  generalize hkl:ks.len=m at*
  have HM:=ah hkl;clear hkl
  generalize IB:pl.length=q at*
  have HQ:=ah IB;clear IB
  go_enter Tryz.func108,Tryz.ntmps108
  go_wp2_with fail
  have b0:=B0.out
  go_wp2
  clear b0
  go_loopw [5,12] (fun v i ww=>∃k:Nat,k≤n∧i= .int .i64 k∧OwnAt (w.alloc (.cells #[.slice ae n ce, .slice ak m ck] 30)) ww 175 5 v k (jH (kU (.slice ap q cp) (es.take k)))) (fun _ i _=>n-(intOf i).toNat)
  case atStart=>exact⟨0,Nat.zero_le _,rfl,OwnAt.nil (aj.refl _ _) _ _⟩
  case round=>
   obtain⟨k,hk,rfl,ho⟩:=hrel
   obtain⟨av,cv,rfl⟩:=ho.shape
   have HO:=ah ho;clear ho
   by_cases hlt:k<n
   ·rcases Rd.shape HE.out with⟨ad,he,h0⟩|⟨b,off,cc,he,hmax⟩
    ·exfalso;have:=HN.out;omega
    ·injection he with e1 e2 e3
     subst e1 e3
     clear e2
     have hlk:k<es.length:=by rw[HN.out];exact hlt
     obtain⟨p0,p1,p2,p3⟩:=nJ HE.out k hlk
     have f2:=bQ.out.ay HO.out.aH
     have q0:=f2.cell' p0 id
     have q1:=f2.cell' p1 id
     have q2:=f2.cell' p2 id
     have q3:=f2.cell' p3 id
     have b0:=HO.out.aH.cell' B0.out id
     clear p0 p1 p2 p3 f2
     have hE:=Qb (p:= .slice ap q cp) hlk
     generalize es.getD k aG.zero=e at*
     have uX:=ah hE;clear hE
     go_wp2_with(at_builtin;refine jg _ _ [.slice ap q cp, .int .i64 e.dc, .int .i64 e.n, .string e.s, .int .i64 e.k] rfl (.tmp 15) (.tmp 23) 81 rfl 175 i0 _ 5 64 Tryz.underlying81 hi hz0 hz1 hz2 (by decide) (by decide) _ _ _ HO.out 1 1 rfl (by simp[Act.eval]) rfl (by simp[Value.oneCell']) (by simp only[maxLen];omega) (by omega) ?_;intro yc iP w2 bC;have OW:=ah bC;clear bC)
     go_roundw
     case rel=>exact⟨k+1,by omega,by go_num,by rw[uX.out];exact OW.out⟩
     case measure=>simp[intOf];omega
   ·obtain rfl:n=k:=by omega
    rw[List.take_of_length_le (by rw[HN.out];exact Nat.le_refl _)]at HO
    have b1:=HO.out.aH.cell' B1.out id
    go_wp2
    clear b1
    go_loopw [5,29] (fun v i ww=>∃(k:Nat) (l:jY),k≤m∧i= .int .i64 k∧OwnAt (w.alloc (.cells #[.slice ae n ce, .slice ak m ck] 30)) ww 175 5 v l.length (jH l)∧bU es ks=kJ l++iE (ks.drop k)∧nY l) (fun _ i _=>m-(intOf i).toNat)
    case atStart=>exact⟨0,kU (.slice ap q cp) es,Nat.zero_le _,rfl,by rw[Qa,HN.out];exact HO.out,by rw[P_];rfl,nY.kU rfl es⟩
    case round=>
     obtain⟨k,l,hk,rfl,ho,hd,hone⟩:=hrel
     obtain⟨av,cv,rfl⟩:=ho.shape
     have dw:=ah ho;clear ho
     have HD:=ah hd;clear hd
     have nK:=ah hone;clear hone
     by_cases hlt:k<m
     ·obtain⟨key,es',sub,rest,hdr⟩:=aI.nI (n:=k) (ks:=ks) (by rw[HM.out];exact hlt)
      rcases Rd.shape gJ.out with⟨ad,he,h0⟩|⟨b,off,cc,he,hmax⟩
      ·exfalso;have:=HM.out;omega
      ·injection he with e1 e2 e3
       subst e1 e3
       clear e2
       have f2:=bQ.out.ay dw.out.aH
       obtain⟨ev',kv',c0,c1,c2,hta⟩:=lS (gJ.out.aP f2) (jU.out.aP f2) hdr
       obtain⟨dP,dQ,rfl⟩:=hta.ents.rd.sl
       obtain⟨os',fJ,kR⟩:=hta.kids
       obtain⟨dR,dS,rfl⟩:=fJ.rd.sl
       clear fJ kR
       have hpr:=HP.out.aP f2
       have Dh:=ah hpr;clear hpr f2
       have b1:=dw.out.aH.cell' B1.out id
       have qL:=ah (Gq hdr)
       have eP:=ah (pW k hdr)
       have HST:=ah (sO k hdr)
       have iW:=ah hta;clear hta
       have HIH:=ah (fun w' (h:aj au wr w') pv (hpv:Rd w' pv (pl++ [key]).length (jZ (pl++ [key])))=>IH.out es' sub w' _ _ pv (pl++ [key]) (by have:=eP.out;have:=iF.out;omega) (iW.out.aP h) (by have:=HST.out;have:=mO.out;unfold sizeT at*;omega) hpv (by have:=kP.out;have:=HQ.out;simp;omega))
       have hlen:l.length+(bU es' sub).length≤100000:=by
        have h1:=jD.out
        rw[HD.out,qL.out,List.length_append,List.length_append,oU]at h1
        omega
       have HLEN:=ah hlen;clear hlen
       clear hdr
       generalize es'.length=n' at*
       generalize sub.len=m' at*
       go_wp2_with fail
       refine gX (S:=fun w'=>w'.cell? ⟨w.heap.size,1,none⟩=some (.slice (some ⟨b,off,none⟩) m ck)∧w'.cell? ⟨b,off+k*3,none⟩=some (.string key)) 11 (by kernel_rfl) ⟨b1,c0⟩ ?_
       intro hS
       have eu:aj au wr wr.drew:=aj.drew _ _
       have SG:=ah eu
       generalize wr.drew=Y at*
       refine aT 1 33 rfl rfl (v:=?_) (.inl ⟨by rfl,?_⟩) ?_
       rotate_left 1
       ·(intro w hSw;(try dsimp only at hSw);go_simp;(try with_reducible rfl))
       refine aT 3 35 rfl rfl (v:=?_) (.inl ⟨by rfl,?_⟩) ?_
       rotate_left 1
       ·(intro w hSw;(try dsimp only at hSw);go_simp;(try with_reducible rfl))
       try simp only[Act.put,aJ,aN,aO]
       refine aT 4 36 rfl rfl (v:=?_) (.inl ⟨by rfl,?_⟩) ?_
       rotate_left 1
       ·(intro w hSw;(try dsimp only at hSw);go_simp;(try with_reducible rfl))
       refine aT 5 37 rfl rfl (v:=?_) (.inl ⟨by rfl,?_⟩) ?_
       rotate_left 1
       ·(intro w hSw;(try dsimp only at hSw);go_simp;(try with_reducible rfl))
       try simp only[Act.put,aJ,aN,aO]
       refine aT 6 38 rfl rfl (v:=?_) (.inl ⟨by rfl,?_⟩) ?_
       rotate_left 1
       ·(intro w hSw;(try dsimp only at hSw);go_simp;(try with_reducible rfl))
       refine aT 7 39 rfl rfl (v:=?_) (.inl ⟨by rfl,?_⟩) ?_
       rotate_left 1
       ·(intro w hSw;(try dsimp only at hSw);go_simp;(try with_reducible rfl))
       try simp only[Act.put,aJ,aN,aO]
       refine aT 8 40 rfl rfl (v:=?_) (.inl ⟨by rfl,?_⟩) ?_
       rotate_left 1
       ·(intro w hSw;(try dsimp only at hSw);go_simp;(try with_reducible rfl))
       try simp only[Act.put,aJ,aN,aO]
       refine tq (i:=0) (j:=9) (by kernel_rfl) rfl rfl (fun K hK=>?_) (fun K hK=>?_)
       ·go_simp
        have hfA:aj au Y (Y.alloc (.cells #[] 9)):=aj.alloc _ _ _
        have hE:OwnAt wr (Y.alloc (.cells #[] 9)) 9 1 (.slice (some ⟨Y.heap.size,0,none⟩) 0 0) 0 []:=OwnAt.empty eu _ _
        have hS:(Y.alloc (.cells #[] 9)).cell? ⟨w.heap.size,1,none⟩=some (.slice (some ⟨b,off,none⟩) m ck)∧(Y.alloc (.cells #[] 9)).cell? ⟨b,off+k*3,none⟩=some (.string key):=⟨hfA.cell' hS.1 id,hfA.cell' hS.2 id⟩
        have eu:=eu.ay hfA
        (try have hne:kb≠Y.heap.size:=by have:=hkb;omega)
        (try have iK:=iK.aP hfA)
        refine hK.out _ _ hS ?_
        clear hK K hfA
        obtain⟨eb,heb⟩:∃eb,Y.heap.size=eb:=⟨_,rfl⟩
        rw[heb]at hE⊢
        have rC:eb<(Y.alloc (.cells #[] 9)).heap.size:=by rw[←heb];simp
        (try rw[heb]at hne)
        clear heb
        generalize Y.alloc (.cells #[] 9)=Y at*
        try simp only[Act.put,aJ,aN,aO]
        refine tq (i:=2) (j:=9) (by kernel_rfl) rfl rfl (fun K hK=>?_) (fun K hK=>?_)
        ·refine tu wr Y (jZ pl) rfl (.tmp 32) (.tmp 33) 173 173 rfl 9 9 j0 _ 1 16 Tryz.underlying173 Tryz.underlying173 hji hy0 hy1 hy2 (by decide) (by decide) _ 0 [] hE _ q (by simp[Act.eval]) (by simp[Act.eval]) (Dh.out.aP eu) (by rw[Dc,HQ.out];omega) (Df _) (by simp only[maxLen];omega) (by omega) ?_
         intro IC yh Y2 hP qo vZ
         rw[Nat.zero_add]at hP
         rw[List.nil_append]at hP
         have hS:Y2.cell? ⟨w.heap.size,1,none⟩=some (.slice (some ⟨b,off,none⟩) m ck)∧Y2.cell? ⟨b,off+k*3,none⟩=some (.string key):=⟨hP.aH.cell' b1 id,hP.aH.cell' c0 id⟩
         have eu:=hP.aH
         (try have iK:=iK.keep qo (fun x hx hr=>by simp[iL,Value.ownBlock]at hx hr;omega))
         rw[Nat.zero_add]
         refine hK.out _ _ hS ?_
         clear hK K qo vZ hE rC
         generalize Y2=Y at*
         try simp only[Act.put,aJ,aN,aO]
         refine bD (i:=9) (by kernel_rfl) rfl (fun K hK=>?_)
         go_simp
         have hfA:aj au Y (Y.alloc (.cells #[.string key] 9)):=aj.alloc _ _ _
         have hS:(Y.alloc (.cells #[.string key] 9)).cell? ⟨w.heap.size,1,none⟩=some (.slice (some ⟨b,off,none⟩) m ck)∧(Y.alloc (.cells #[.string key] 9)).cell? ⟨b,off+k*3,none⟩=some (.string key):=⟨hfA.cell' hS.1 id,hfA.cell' hS.2 id⟩
         have eu:=eu.ay hfA
         (try have hne:Y.heap.size≠eb:=by have:=rC;omega)
         (try have hE:=hE.keep hfA)
         (try have hP:=hP.keep hfA)
         have iK:Rd (Y.alloc (.cells #[.string key] 9)) (.slice (some ⟨Y.heap.size,0,none⟩) 1 1) 1 [.string key]:= .inr ⟨Y.heap.size,0,1,rfl,Nat.le_refl _,by decide,fun j u hu=>by rw[Nat.zero_add];exact aF (heap_alloc_new Y _) j (by simpa using hu)⟩
         refine hK.out _ _ hS ?_
         clear hK K hfA
         obtain⟨kb,kV⟩:∃kb,Y.heap.size=kb:=⟨_,rfl⟩
         rw[kV]at iK⊢
         have hkb:kb<(Y.alloc (.cells #[.string key] 9)).heap.size:=by rw[←kV];simp
         (try rw[kV]at hne)
         clear kV
         generalize Y.alloc (.cells #[.string key] 9)=Y at*
         try simp only[Act.put,aJ,aN,aO]
         refine bD (i:=10) (by kernel_rfl) rfl (fun K hK=>?_)
         refine tu wr Y [.string key] rfl (.tmp 34) (.tmp 41) 173 173 rfl 9 9 j0 _ 1 16 Tryz.underlying173 Tryz.underlying173 hji hy0 hy1 hy2 (by decide) (by decide) _ q (jZ pl) hP _ 1 (by simp[Act.eval]) (by simp[Act.eval]) iK rfl (by simp[Value.oneCell']) (by simp only[maxLen];omega) (by omega) ?_
         intro IE IG Y3 kW wu wz
         have hS:Y3.cell? ⟨w.heap.size,1,none⟩=some (.slice (some ⟨b,off,none⟩) m ck)∧Y3.cell? ⟨b,off+k*3,none⟩=some (.string key):=⟨kW.aH.cell' b1 id,kW.aH.cell' c0 id⟩
         refine hK.out _ _ hS ?_
         clear hK K wu wz hP
         have iT:=ah kW;clear kW
         try simp only[Act.put,aJ,aN,aO]
         refine fD (by kernel_rfl) (by kernel_rfl) rfl (fun K hK=>?_)
         go_simp
         refine hK.out _ _ ?_
         clear hK K iK hS
         have c1:=iT.out.aH.cell' c1 id
         have c2:=iT.out.aH.cell' c2 id
         have b1:=iT.out.aH.cell' b1 id
         go_wp2_with(first
          |(go_at_call 108;refine(HIH.out _ iT.out.aH _ (by have:=iT.out.rd;rw[C_,List.length_append,HQ.out];exact this)).mono ?_;rintro e w3 ⟨v3,l3,rfl,ho3,hd3,mX⟩;obtain⟨a3,c3,rfl⟩:=ho3.shape;have bI:=ah ho3;clear ho3;have HD3:=ah hd3;clear hd3;have qp:=ah mX;clear mX;have HKK:=ah (dw.out.keep (iT.out.aH.ay bI.out.aH)))
          |(at_builtin;refine lq _ _ _ rfl (.tmp 43) (.tmp 51) 81 81 rfl 175 175 i0 _ 5 64 Tryz.underlying81 Tryz.underlying81 hi hz0 hz1 hz2 (by decide) (by decide) _ _ _ HKK.out _ l3.length rfl rfl bI.out.rd (by rw[zx]) (CY qp.out) (by have:=HLEN.out;rw[←HD3.out,oU]at this;simp only[maxLen];omega) (by have:=HLEN.out;rw[←HD3.out,oU]at this;omega) ?_;intro II Di w5 dF;have OW:=ah dF;clear dF))
         go_roundw
         case rel=>exact⟨k+1,l++l3,by omega,by go_num,by rw[List.length_append,zu];exact OW.out,by rw[HD.out,qL.out,CZ,HD3.out,List.append_assoc],nK.out.append qp.out⟩
         case measure=>simp[intOf];omega
        ·go_simp
         have hfA:aj au Y (Y.alloc (.cells #[.string key] 9)):=aj.alloc _ _ _
         have hS:(Y.alloc (.cells #[.string key] 9)).cell? ⟨w.heap.size,1,none⟩=some (.slice (some ⟨b,off,none⟩) m ck)∧(Y.alloc (.cells #[.string key] 9)).cell? ⟨b,off+k*3,none⟩=some (.string key):=⟨hfA.cell' hS.1 id,hfA.cell' hS.2 id⟩
         have eu:=eu.ay hfA
         (try have hne:Y.heap.size≠eb:=by have:=rC;omega)
         (try have hE:=hE.keep hfA)
         (try have hP:=hP.keep hfA)
         have iK:Rd (Y.alloc (.cells #[.string key] 9)) (.slice (some ⟨Y.heap.size,0,none⟩) 1 1) 1 [.string key]:= .inr ⟨Y.heap.size,0,1,rfl,Nat.le_refl _,by decide,fun j u hu=>by rw[Nat.zero_add];exact aF (heap_alloc_new Y _) j (by simpa using hu)⟩
         refine hK.out _ _ hS ?_
         clear hK K hfA
         obtain⟨kb,kV⟩:∃kb,Y.heap.size=kb:=⟨_,rfl⟩
         rw[kV]at iK⊢
         have hkb:kb<(Y.alloc (.cells #[.string key] 9)).heap.size:=by rw[←kV];simp
         (try rw[kV]at hne)
         clear kV
         generalize Y.alloc (.cells #[.string key] 9)=Y at*
         try simp only[Act.put,aJ,aN,aO]
         refine bD (i:=2) (by kernel_rfl) rfl (fun K hK=>?_)
         refine tu wr Y (jZ pl) rfl (.tmp 32) (.tmp 33) 173 173 rfl 9 9 j0 _ 1 16 Tryz.underlying173 Tryz.underlying173 hji hy0 hy1 hy2 (by decide) (by decide) _ 0 [] hE _ q (by simp[Act.eval]) (by simp[Act.eval]) (Dh.out.aP eu) (by rw[Dc,HQ.out];omega) (Df _) (by simp only[maxLen];omega) (by omega) ?_
         intro IC yh Y2 hP qo vZ
         rw[Nat.zero_add]at hP
         rw[List.nil_append]at hP
         have hS:Y2.cell? ⟨w.heap.size,1,none⟩=some (.slice (some ⟨b,off,none⟩) m ck)∧Y2.cell? ⟨b,off+k*3,none⟩=some (.string key):=⟨hP.aH.cell' b1 id,hP.aH.cell' c0 id⟩
         have eu:=hP.aH
         (try have iK:=iK.keep qo (fun x hx hr=>by simp[iL,Value.ownBlock]at hx hr;omega))
         rw[Nat.zero_add]
         refine hK.out _ _ hS ?_
         clear hK K qo vZ hE rC
         generalize Y2=Y at*
         try simp only[Act.put,aJ,aN,aO]
         refine bD (i:=10) (by kernel_rfl) rfl (fun K hK=>?_)
         refine tu wr Y [.string key] rfl (.tmp 34) (.tmp 41) 173 173 rfl 9 9 j0 _ 1 16 Tryz.underlying173 Tryz.underlying173 hji hy0 hy1 hy2 (by decide) (by decide) _ q (jZ pl) hP _ 1 (by simp[Act.eval]) (by simp[Act.eval]) iK rfl (by simp[Value.oneCell']) (by simp only[maxLen];omega) (by omega) ?_
         intro IE IG Y3 kW wu wz
         have hS:Y3.cell? ⟨w.heap.size,1,none⟩=some (.slice (some ⟨b,off,none⟩) m ck)∧Y3.cell? ⟨b,off+k*3,none⟩=some (.string key):=⟨kW.aH.cell' b1 id,kW.aH.cell' c0 id⟩
         refine hK.out _ _ hS ?_
         clear hK K wu wz hP
         have iT:=ah kW;clear kW
         try simp only[Act.put,aJ,aN,aO]
         refine fD (by kernel_rfl) (by kernel_rfl) rfl (fun K hK=>?_)
         go_simp
         refine hK.out _ _ ?_
         clear hK K iK hS
         have c1:=iT.out.aH.cell' c1 id
         have c2:=iT.out.aH.cell' c2 id
         have b1:=iT.out.aH.cell' b1 id
         go_wp2_with(first
          |(go_at_call 108;refine(HIH.out _ iT.out.aH _ (by have:=iT.out.rd;rw[C_,List.length_append,HQ.out];exact this)).mono ?_;rintro e w3 ⟨v3,l3,rfl,ho3,hd3,mX⟩;obtain⟨a3,c3,rfl⟩:=ho3.shape;have bI:=ah ho3;clear ho3;have HD3:=ah hd3;clear hd3;have qp:=ah mX;clear mX;have HKK:=ah (dw.out.keep (iT.out.aH.ay bI.out.aH)))
          |(at_builtin;refine lq _ _ _ rfl (.tmp 43) (.tmp 51) 81 81 rfl 175 175 i0 _ 5 64 Tryz.underlying81 Tryz.underlying81 hi hz0 hz1 hz2 (by decide) (by decide) _ _ _ HKK.out _ l3.length rfl rfl bI.out.rd (by rw[zx]) (CY qp.out) (by have:=HLEN.out;rw[←HD3.out,oU]at this;simp only[maxLen];omega) (by have:=HLEN.out;rw[←HD3.out,oU]at this;omega) ?_;intro II Di w5 dF;have OW:=ah dF;clear dF))
         go_roundw
         case rel=>exact⟨k+1,l++l3,by omega,by go_num,by rw[List.length_append,zu];exact OW.out,by rw[HD.out,qL.out,CZ,HD3.out,List.append_assoc],nK.out.append qp.out⟩
         case measure=>simp[intOf];omega
       ·go_simp
        have hfA:aj au Y (Y.alloc (.cells #[.string key] 9)):=aj.alloc _ _ _
        have hS:(Y.alloc (.cells #[.string key] 9)).cell? ⟨w.heap.size,1,none⟩=some (.slice (some ⟨b,off,none⟩) m ck)∧(Y.alloc (.cells #[.string key] 9)).cell? ⟨b,off+k*3,none⟩=some (.string key):=⟨hfA.cell' hS.1 id,hfA.cell' hS.2 id⟩
        have eu:=eu.ay hfA
        (try have hne:Y.heap.size≠eb:=by have:=rC;omega)
        (try have hE:=hE.keep hfA)
        (try have hP:=hP.keep hfA)
        have iK:Rd (Y.alloc (.cells #[.string key] 9)) (.slice (some ⟨Y.heap.size,0,none⟩) 1 1) 1 [.string key]:= .inr ⟨Y.heap.size,0,1,rfl,Nat.le_refl _,by decide,fun j u hu=>by rw[Nat.zero_add];exact aF (heap_alloc_new Y _) j (by simpa using hu)⟩
        refine hK.out _ _ hS ?_
        clear hK K hfA
        obtain⟨kb,kV⟩:∃kb,Y.heap.size=kb:=⟨_,rfl⟩
        rw[kV]at iK⊢
        have hkb:kb<(Y.alloc (.cells #[.string key] 9)).heap.size:=by rw[←kV];simp
        (try rw[kV]at hne)
        clear kV
        generalize Y.alloc (.cells #[.string key] 9)=Y at*
        try simp only[Act.put,aJ,aN,aO]
        refine bD (i:=0) (by kernel_rfl) rfl (fun K hK=>?_)
        go_simp
        have hfA:aj au Y (Y.alloc (.cells #[] 9)):=aj.alloc _ _ _
        have hE:OwnAt wr (Y.alloc (.cells #[] 9)) 9 1 (.slice (some ⟨Y.heap.size,0,none⟩) 0 0) 0 []:=OwnAt.empty eu _ _
        have hS:(Y.alloc (.cells #[] 9)).cell? ⟨w.heap.size,1,none⟩=some (.slice (some ⟨b,off,none⟩) m ck)∧(Y.alloc (.cells #[] 9)).cell? ⟨b,off+k*3,none⟩=some (.string key):=⟨hfA.cell' hS.1 id,hfA.cell' hS.2 id⟩
        have eu:=eu.ay hfA
        (try have hne:kb≠Y.heap.size:=by have:=hkb;omega)
        (try have iK:=iK.aP hfA)
        refine hK.out _ _ hS ?_
        clear hK K hfA
        obtain⟨eb,heb⟩:∃eb,Y.heap.size=eb:=⟨_,rfl⟩
        rw[heb]at hE⊢
        have rC:eb<(Y.alloc (.cells #[] 9)).heap.size:=by rw[←heb];simp
        (try rw[heb]at hne)
        clear heb
        generalize Y.alloc (.cells #[] 9)=Y at*
        try simp only[Act.put,aJ,aN,aO]
        refine bD (i:=2) (by kernel_rfl) rfl (fun K hK=>?_)
        refine tu wr Y (jZ pl) rfl (.tmp 32) (.tmp 33) 173 173 rfl 9 9 j0 _ 1 16 Tryz.underlying173 Tryz.underlying173 hji hy0 hy1 hy2 (by decide) (by decide) _ 0 [] hE _ q (by simp[Act.eval]) (by simp[Act.eval]) (Dh.out.aP eu) (by rw[Dc,HQ.out];omega) (Df _) (by simp only[maxLen];omega) (by omega) ?_
        intro IC yh Y2 hP qo vZ
        rw[Nat.zero_add]at hP
        rw[List.nil_append]at hP
        have hS:Y2.cell? ⟨w.heap.size,1,none⟩=some (.slice (some ⟨b,off,none⟩) m ck)∧Y2.cell? ⟨b,off+k*3,none⟩=some (.string key):=⟨hP.aH.cell' b1 id,hP.aH.cell' c0 id⟩
        have eu:=hP.aH
        (try have iK:=iK.keep qo (fun x hx hr=>by simp[iL,Value.ownBlock]at hx hr;omega))
        rw[Nat.zero_add]
        refine hK.out _ _ hS ?_
        clear hK K qo vZ hE rC
        generalize Y2=Y at*
        try simp only[Act.put,aJ,aN,aO]
        refine bD (i:=10) (by kernel_rfl) rfl (fun K hK=>?_)
        refine tu wr Y [.string key] rfl (.tmp 34) (.tmp 41) 173 173 rfl 9 9 j0 _ 1 16 Tryz.underlying173 Tryz.underlying173 hji hy0 hy1 hy2 (by decide) (by decide) _ q (jZ pl) hP _ 1 (by simp[Act.eval]) (by simp[Act.eval]) iK rfl (by simp[Value.oneCell']) (by simp only[maxLen];omega) (by omega) ?_
        intro IE IG Y3 kW wu wz
        have hS:Y3.cell? ⟨w.heap.size,1,none⟩=some (.slice (some ⟨b,off,none⟩) m ck)∧Y3.cell? ⟨b,off+k*3,none⟩=some (.string key):=⟨kW.aH.cell' b1 id,kW.aH.cell' c0 id⟩
        refine hK.out _ _ hS ?_
        clear hK K wu wz hP
        have iT:=ah kW;clear kW
        try simp only[Act.put,aJ,aN,aO]
        refine fD (by kernel_rfl) (by kernel_rfl) rfl (fun K hK=>?_)
        go_simp
        refine hK.out _ _ ?_
        clear hK K iK hS
        have c1:=iT.out.aH.cell' c1 id
        have c2:=iT.out.aH.cell' c2 id
        have b1:=iT.out.aH.cell' b1 id
        go_wp2_with(first
         |(go_at_call 108;refine(HIH.out _ iT.out.aH _ (by have:=iT.out.rd;rw[C_,List.length_append,HQ.out];exact this)).mono ?_;rintro e w3 ⟨v3,l3,rfl,ho3,hd3,mX⟩;obtain⟨a3,c3,rfl⟩:=ho3.shape;have bI:=ah ho3;clear ho3;have HD3:=ah hd3;clear hd3;have qp:=ah mX;clear mX;have HKK:=ah (dw.out.keep (iT.out.aH.ay bI.out.aH)))
         |(at_builtin;refine lq _ _ _ rfl (.tmp 43) (.tmp 51) 81 81 rfl 175 175 i0 _ 5 64 Tryz.underlying81 Tryz.underlying81 hi hz0 hz1 hz2 (by decide) (by decide) _ _ _ HKK.out _ l3.length rfl rfl bI.out.rd (by rw[zx]) (CY qp.out) (by have:=HLEN.out;rw[←HD3.out,oU]at this;simp only[maxLen];omega) (by have:=HLEN.out;rw[←HD3.out,oU]at this;omega) ?_;intro II Di w5 dF;have OW:=ah dF;clear dF))
        go_roundw
        case rel=>exact⟨k+1,l++l3,by omega,by go_num,by rw[List.length_append,zu];exact OW.out,by rw[HD.out,qL.out,CZ,HD3.out,List.append_assoc],nK.out.append qp.out⟩
        case measure=>simp[intOf];omega
     ·obtain rfl:m=k:=by omega
      have hd:=HD.out
      rw[aI.pV (by rw[HM.out];exact Nat.le_refl _)]at hd
      have hd2:kJ l=bU es ks:=by rw[hd];simp[iE]
      have HD2:=ah hd2;clear hd2 hd
      go_wp2
      go_ret
      exact⟨_,l,rfl,dw.out.base bQ.out,HD2.out,nK.out⟩
open Go.RowKit
theorem Qg (Q:Nat→Prop) (es:List aG) (ks:aI) (w:World) (ev kv:Value) (ht:bJ Q w ev kv es ks) (hsz:sizeT es ks≤100000):
 Calls Tryz.prog 44 #[.agg #[ev,kv]] w (Iz w es ks):=by
 obtain⟨ae,ce,rfl⟩:=ht.ents.rd.sl
 obtain⟨os,hkr,dZ⟩:=ht.kids
 obtain⟨ak,ck,rfl⟩:=hkr.rd.sl
 have HC:=ah (fun W (f:aj au w W)=>Qe Q _ es ks W _ _ (.slice none 0 0) [] (Nat.lt_succ_self _) (ht.aP f) hsz (.inl ⟨none,rfl,rfl,rfl⟩) (by unfold sizeT at hsz;simp;omega))
 clear hkr dZ ht hsz
 go_enter Tryz.func44,Tryz.ntmps44
 go_wp2_with(go_at_call 108;refine(HC.out _ (aj.alloc _ _ _)).mono ?_;rintro e w3 ⟨v3,l,rfl,ho3,hd3,mX⟩;obtain⟨a3,c3,rfl⟩:=ho3.shape;have bI:=ah (ho3.base (aj.alloc au w _));clear ho3;have HD3:=ah hd3;clear hd3;have Qh:=ah mX;clear mX)
 go_ret
 exact⟨_,l,rfl,bI.out,HD3.out,Qh.out⟩
theorem IJ (Q:Nat→Prop) (es:List aG) (ks:aI) (w:World) (ev kv:Value) (ht:bJ Q w ev kv es ks) (hsz:sizeT es ks≤2000) (hd:oG (bU es ks)):
 Calls Tryz.prog 90 #[.agg #[ev,kv]] w fun e w'=>∃v' c,e= .returned v'∧OwnAt w w' 144 3 v' c.length (bT c)∧ku (bU es ks) c∧c.length≤8000:=by
 obtain⟨i0,hi,hz0,hz1,hz2⟩:=info_parts Gp
 obtain⟨ae,ce,rfl⟩:=ht.ents.rd.sl
 obtain⟨os,hkr,dZ⟩:=ht.kids
 obtain⟨ak,ck,rfl⟩:=hkr.rd.sl
 have HC:=ah (fun W (f:aj au w W)=>Qg Q es ks W _ _ (ht.aP f) (by omega))
 have hdl:=uU es ks
 have jD:=ah (show(bU es ks).length≤2000 by omega)
 have HDK:=ah hd;clear hd
 have fA:=ah (aj.alloc au w (.cells #[.slice ae es.length ce, .slice ak ks.len ck] 30))
 clear hkr dZ ht hsz hdl
 go_enter Tryz.func90,Tryz.ntmps90
 go_wp2_with(go_at_call 44;refine(HC.out _ fA.out).mono ?_;rintro e w3 ⟨v3,l,rfl,ho3,hd3,-⟩;obtain⟨a3,c3,rfl⟩:=ho3.shape;have bI:=ah (ho3.base fA.out);clear ho3;have HD3:=ah hd3;clear hd3)
 have hl:=jD.out
 rw[←HD3.out,oU]at hl
 generalize hn:l.length=n at*
 have HN:=ah hn;clear hn
 go_loopw [3,10] (fun v i ww=>∃k:Nat,k≤n∧i= .int .i64 k∧OwnAt w3 ww 170 2 v k (bP (kJ (l.take k)))) (fun _ i _=>n-(intOf i).toNat)
 case atStart=>exact⟨0,Nat.zero_le _,rfl,OwnAt.nil (aj.refl _ _) _ _⟩
 case round=>
  obtain⟨k,hk,rfl,ho⟩:=hrel
  obtain⟨av,cv,rfl⟩:=ho.shape
  have HO:=ah ho;clear ho
  by_cases hlt:k<n
  ·rcases Rd.shape bI.out.rd with⟨ad,he,h0⟩|⟨b,off,cc,he,hmax⟩
   ·exfalso;omega
   ·injection he with e1 e2 e3
    subst e1 e3
    clear e2
    have hlk:k<l.length:=by rw[HN.out];exact hlt
    obtain⟨p0,p1⟩:=PY bI.out.rd k hlk
    have q0:=HO.out.aH.cell' p0 id
    have q1:=HO.out.aH.cell' p1 id
    clear p0 p1
    have hE:=PZ hlk
    generalize l.getD k (.bool true,aG.zero)=x at*
    have uX:=ah hE;clear hE
    go_wp2_with(at_builtin;refine jg _ _ [.int .i64 x.2.dc, .int .i64 x.2.n] rfl (.tmp 13) (.tmp 20) 226 rfl 170 i0 _ 2 16 Tryz.underlying226 hi hz0 hz1 hz2 (by decide) (by decide) _ _ _ HO.out 1 1 rfl (by simp[Act.eval]) rfl (by simp[Value.oneCell']) (by simp only[maxLen];omega) (by omega) ?_;intro yc iP w2 bC;have OW:=ah bC;clear bC)
    go_roundw
    case rel=>exact⟨k+1,by omega,by go_num,by rw[uX.out,kD];exact OW.out⟩
    case measure=>simp[intOf];omega
  ·obtain rfl:n=k:=by omega
   rw[List.take_of_length_le (by rw[HN.out];exact Nat.le_refl _),HD3.out]at HO
   have hnn:n=(bU es ks).length:=by rw[←HD3.out,oU];exact HN.out.symm
   have hrun:f_ wr (.slice av n cv) (bU es ks):=by show Rd wr _ (bU es ks).length _;rw[←hnn];exact HO.out.rd
   have Qi:=ah hrun;clear hrun hnn
   go_wp2_with(go_at_call 153;refine(MR _ _ (bU es ks) Qi.out HDK.out (by have:=jD.out;omega)).mono ?_;rintro e w5 ⟨v5,c5,rfl,iZ,hof,-⟩;obtain⟨a5,Di,rfl⟩:=iZ.shape;have jV:=ah iZ;clear iZ;have eX:=ah hof;clear hof)
   go_ret
   exact⟨_,c5,rfl,(jV.out.base HO.out.aH).base bI.out.aH,eX.out,by have:=eX.out.length;have:=jD.out;omega⟩
end Go.Proofs.YtabkpccdnkjoiaaGreat
namespace Go.Proofs.YtabkpccdnkjoiaaGreat
def j_:aI→Int→Nat→Int
 | .nil,left,_=>left
 | .cons _ es sub rest,left,d=>if left<0∨d=0 then-1 else j_ rest (j_ sub (left-es.length-sub.len) (d-1)) d
def iU (es:List aG) (ks:aI) (left:Int) (d:Nat):Int:=j_ ks (left-es.length-ks.len) d
theorem zy (key:ByteArray) (es:List aG) (sub rest:aI) (left:Int) (d:Nat):j_ (.cons key es sub rest) left d=if left<0∨d=0 then-1 else j_ rest (iU es sub left (d-1)) d:=rfl
theorem Qj:∀ {ks:aI} {left:Int} {d:Nat},0≤j_ ks left d→0≤left
 | .nil,_,_,h=>h
 | .cons _ es sub rest,left,d,h=>by
   rw[zy]at h
   split at h
   ·omega
   ·omega
theorem Dj:∀ {ks:aI} {left:Int} {d:Nat},0≤j_ ks left d→j_ ks left d+dX ks=left+ks.len
 | .nil,_,_,_=>by simp[j_,dX,aI.len]
 | .cons _ es sub rest,left,d,h=>by
   rw[zy]at h⊢
   split at h
   ·omega
   ·rename_i hc
    rw[if_neg hc]
    have h1:=Qj h
    have h2:=Dj h
    have h3:=Dj (ks:=sub) h1
    unfold iU at h2 h3⊢
    simp only[dX,aI.len]
    omega
theorem Dk {es:List aG} {ks:aI} {left:Int} {d:Nat} (h:0≤iU es ks left d):(sizeT es ks:Int)≤left:=by
 have:=Dj h
 unfold iU at h
 unfold sizeT
 omega
theorem Dl:∀ {ks:aI} {left:Int} {d:Nat},ks.Ok→left≤1000→-300000000000000≤left→j_ ks left d≤1000∧-300000000000000≤j_ ks left d
 | .nil,_,_,_,h1,h2=>⟨h1,h2⟩
 | .cons _ es sub rest,left,d,hk,h1,h2=>by
   rw[zy]
   split
   ·omega
   ·obtain⟨_,he,hs,hok,hr⟩:=hk
    have:=he.len
    have h3:=Dl (ks:=sub) (left:=left-es.length-sub.len) (d:=d-1) hok (by omega) (by omega)
    exact Dl hr h3.1 h3.2
theorem Qk {ks:aI} {n:Nat} {key:ByteArray} {es:List aG} {sub rest:aI} (h:ks.drop n= .cons key es sub rest) (left:Int) (d:Nat):
 j_ (ks.drop n) left d=if left<0∨d=0 then-1 else j_ (ks.drop (n+1)) (iU es sub left (d-1)) d:=by
 rw[h,aI.pU n ks h,zy]
open Go.RowKit
theorem Ql (Q:Nat→Prop):∀(N:Nat) (es:List aG) (ks:aI) (left:Int) (d:Nat) (w:World) (ev kv:Value),dX ks<N→bJ Q w ev kv es ks→gG es ks→left≤1000→0≤left→d≤100→
 Calls Tryz.prog 167 #[.agg #[ev,kv], .int .i64 left, .int .i64 d] w fun e w'=>e= .returned (.int .i64 (iU es ks left d))∧aj au w w':=by
 intro N
 induction N with
 |zero=>intros;exfalso;omega
 |succ N iq=>
  intro es ks left d w ev kv hN ht hok hl1 hl2 hd
  obtain⟨ae,ce,rfl⟩:=ht.ents.rd.sl
  obtain⟨os,hkr,dZ⟩:=ht.kids
  obtain⟨ak,ck,rfl⟩:=hkr.rd.sl
  have gJ:=ah hkr.rd;clear hkr ht
  have jU:=ah dZ;clear dZ
  have IH:=ah iq;clear iq
  have bQ:=ah (aj.alloc au w (.cells #[.slice ae es.length ce, .slice ak ks.len ck] 30))
  have box1:(w.alloc (.cells #[.slice ae es.length ce, .slice ak ks.len ck] 30)).cell? ⟨w.heap.size,1,none⟩=some (.slice ak ks.len ck):=aF (heap_alloc_new w _) 1 rfl
  have B1:=ah box1;clear box1
  have hel:=hok.es.len
  have SH:=hok.len
  have dw:=ah hok.ks;clear hok
  have mO:=ah hN;clear hN
  have hrt:iU es ks left d=j_ ks (left-es.length-ks.len) d:=rfl
  rw[hrt]
  clear hrt
  generalize es.length=n at*
  generalize hkl:ks.len=m at*
  have HM:=ah hkl;clear hkl
  obtain⟨l0,hl0⟩:∃l0:Int,l0=left-n-m:=⟨_,rfl⟩
  have hb0:l0≤1000∧-300000000000000≤l0:=by omega
  rw[←hl0]
  go_enter Tryz.func167,Tryz.ntmps167
  go_wp2
  go_loopw [1,20] (fun lv i ww=>∃(k:Nat) (x:Int),k≤m∧i= .int .i64 k∧lv= .int .i64 x∧x≤1000∧-300000000000000≤x∧j_ ks l0 d=j_ (ks.drop k) x d∧aj au (w.alloc (.cells #[.slice ae n ce, .slice ak m ck] 30)) ww) (fun _ i _=>m-(intOf i).toNat)
  case atStart=>exact⟨0,l0,Nat.zero_le _,rfl,by rw[hl0],hb0.1,hb0.2,rfl,aj.refl _ _⟩
  case round=>
   clear hl0
   obtain⟨k,x,hk,rfl,rfl,hx1,hx2,hr,hw⟩:=hrel
   have HW:=ah hw;clear hw
   have b1:=HW.out.cell' B1.out id
   by_cases hlt:k<m
   ·obtain⟨key,es',sub,rest,hdr⟩:=aI.nI (n:=k) (ks:=ks) (by rw[HM.out];exact hlt)
    rw[Qk hdr]at hr
    by_cases hx0:x<0
    ·rw[if_pos (.inl hx0)]at hr
     have HR:=ah hr;clear hr
     clear hdr
     go_wp2
     go_ret
     exact⟨rH HR.out.symm,bQ.out.ay HW.out⟩
    ·by_cases hd0:d=0
     ·subst hd0
      rw[if_pos (.inr rfl)]at hr
      have HR:=ah hr;clear hr
      clear hdr
      go_wp2
      go_ret
      exact⟨rH HR.out.symm,bQ.out.ay HW.out⟩
     ·rw[if_neg (by omega)]at hr
      rcases Rd.shape (gJ.out.aP (bQ.out.ay HW.out))with⟨ad,he,h0⟩|⟨b,off,cc,he,hmax⟩
      ·exfalso;have:=HM.out;omega
      ·injection he with e1 e2 e3
       subst e1 e3
       clear e2
       obtain⟨ev',kv',c0,c1,c2,hta⟩:=lS (gJ.out.aP (bQ.out.ay HW.out)) (jU.out.aP (bQ.out.ay HW.out)) hdr
       obtain⟨dP,dQ,rfl⟩:=hta.ents.rd.sl
       obtain⟨os',fJ,kR⟩:=hta.kids
       obtain⟨dR,dS,rfl⟩:=fJ.rd.sl
       clear fJ kR
       have hok':=dw.out.drop k
       rw[hdr]at hok'
       have hsub:gG es' sub:=⟨hok'.2.1,hok'.2.2.1,hok'.2.2.2.1⟩
       have hbd:=Dl (ks:=sub) (left:=x-es'.length-sub.len) (d:=d-1) hsub.ks (by omega) (by have:=hsub.es.len;have:=hsub.len;omega)
       obtain⟨y,hy⟩:∃y,y=iU es' sub x (d-1):=⟨_,rfl⟩
       have lY:=ah (show y≤1000∧-300000000000000≤y by rw[hy];exact hbd);clear hbd
       have hih:=IH.out es' sub x (d-1) wr _ _ (by have:=pW k hdr;have:=mO.out;omega) hta hsub hx1 (by omega) (by omega)
       rw[show((d-1:Nat):Int)=(d:Int)-1 by omega]at hih
       rw[←hy]at hih hr
       have HIH:=ah hih;clear hih hta hok' hsub hdr hy
       have HR:=ah hr;clear hr
       generalize es'.length=n' at*
       generalize sub.len=m' at*
       have hd1:(d:Int)≤100:=by omega
       have hd2:(1:Int)≤d:=by omega
       have hdz:((d:Int)==0)=false:=by simp;omega
       go_wp2_with(go_at_call 167;refine HIH.out.mono ?_;rintro e w3 ⟨rfl,hw3⟩;have HW3:=ah hw3;clear hw3)
       go_roundw
       case rel=>exact⟨k+1,y,by omega,by go_num,rfl,lY.out.1,lY.out.2,HR.out,HW.out.ay HW3.out⟩
       case measure=>simp[intOf];omega
   ·obtain rfl:m=k:=by omega
    rw[aI.pV (by rw[HM.out];exact Nat.le_refl _)]at hr
    have HR:=ah hr;clear hr
    go_wp2
    go_ret
    exact⟨rH HR.out.symm,bQ.out.ay HW.out⟩
theorem Qm (Q:Nat→Prop) (es:List aG) (ks:aI) (left:Int) (w:World) (ev kv:Value) (ht:bJ Q w ev kv es ks) (hok:gG es ks) (h1:left≤1000) (h2:0≤left):
 Calls Tryz.prog 113 #[.agg #[ev,kv], .int .i64 left] w fun e w'=>e= .returned (.bool (decide (0≤iU es ks left 8)))∧aj au w w':=by
 obtain⟨ae,ce,rfl⟩:=ht.ents.rd.sl
 obtain⟨os,hkr,dZ⟩:=ht.kids
 obtain⟨ak,ck,rfl⟩:=hkr.rd.sl
 have hc:∀W,aj au w W→Calls Tryz.prog 167 #[.agg #[.slice ae es.length ce, .slice ak ks.len ck], .int .i64 left, .int .i64 8] W fun e w'=>e= .returned (.int .i64 (iU es ks left 8))∧aj au W w':=fun W f=>Ql Q _ es ks left 8 W _ _ (Nat.lt_succ_self _) (ht.aP f) hok h1 h2 (by omega)
 have HC:=ah hc
 clear hkr dZ ht hok hc
 generalize iU es ks left 8=y at*
 generalize es.length=n at*
 generalize ks.len=m at*
 go_enter Tryz.func113,Tryz.ntmps113
 go_wp2_with(go_at_call 167;refine(HC.out _ (aj.alloc _ _ _)).mono ?_;rintro e w3 ⟨rfl,hw3⟩;have HW3:=ah ((aj.alloc au _ _).ay hw3);clear hw3)
 go_ret
 exact⟨rfl,HW3.out⟩
theorem Qn (Q:Nat→Prop) (es:List aG) (ks:aI) (w:World) (ev kv:Value) (ht:bJ Q w ev kv es ks) (hok:gG es ks):
 Calls Tryz.prog 149 #[.agg #[ev,kv]] w fun e w'=>e= .returned (.bool (aX 5 es ks))∧aj au w w':=by
 obtain⟨ae,ce,rfl⟩:=ht.ents.rd.sl
 obtain⟨os,hkr,dZ⟩:=ht.kids
 obtain⟨ak,ck,rfl⟩:=hkr.rd.sl
 have hc:∀W,aj au w W→Calls Tryz.prog 189 #[.agg #[.slice ae es.length ce, .slice ak ks.len ck], .int .i64 5] W fun e w'=>e= .returned (.bool (aX 5 es ks))∧aj au W w':=fun W f=>Nl Q _ es ks 5 W _ _ (Nat.lt_succ_self _) (ht.aP f) hok (by omega)
 have HC:=ah hc
 clear hkr dZ ht hok hc
 generalize aX 5 es ks=y at*
 generalize es.length=n at*
 generalize ks.len=m at*
 go_enter Tryz.func149,Tryz.ntmps149
 go_wp2_with(go_at_call 189;refine(HC.out _ (aj.alloc _ _ _)).mono ?_;rintro e w3 ⟨rfl,hw3⟩;have HW3:=ah ((aj.alloc au _ _).ay hw3);clear hw3)
 go_ret
 exact⟨rfl,HW3.out⟩
end Go.Proofs.YtabkpccdnkjoiaaGreat
