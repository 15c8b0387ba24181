/- Words for the law ShardPlays: CaTreesP, CSame, Eq, TSame, Only1. -/
import Derived.Test.YtlhmbkjdfjoilaaGreatShardPlaysG0
import Derived.Test.YtlhmbkjdfjoilaaGreatShardPlaysG4
import Derived.Test.YtlhmbkjdfjoilaaGreatShardPlaysG5
import Derived.Test.YtlhmbkjdfjoilaaGreatShardPlaysG10
import Derived.Test.YtlhmbkjdfjoilaaGreatShardPlaysG11
import Derived.Test.YtlhmbkjdfjoilaaGreatShardPlaysG12
set_option linter.unusedSimpArgs false
set_option linter.unusedVariables false
set_option maxHeartbeats 32000000
set_option maxRecDepth 1000000
namespace Go.Proofs.YtlhmbkjdfjoilaaGreat
open Go.RowKit
def Em (xs:List Value) (l:List ByteArray):Prop:=∀j,j<l.length→∃a0 n0 c0 a1 n1 c1,xs[j*3]?=some (.string (l.getD j ByteArray.empty))∧xs[j*3+1]?=some (.slice a0 n0 c0)∧xs[j*3+2]?=some (.slice a1 n1 c1)
theorem En {Q:Nat→Prop} {w:World}:∀ {ks:aT} {os:List (Value×Value)},jX Q w ks os→Em (jG ks os) ks.keys
 | .nil,_,_=>fun j hj=>by cases hj
 | .cons key es sub rest,_,⟨ev,kv,qH,os,h1,h2,h3,_,h5⟩=>by
   subst h1
   obtain⟨a0,c0,rfl⟩:=h2.rd.sl
   obtain⟨a1,c1,rfl⟩:=h3.rd.sl
   have ih:=En h5
   intro j hj
   cases j with
   |zero=>exact⟨_,_,_,_,_,_,rfl,rfl,rfl⟩
   |succ j=>
    obtain⟨a0',Ad,c0',a1',n1',c1',g0,g1,g2⟩:=ih j (by simpa[aT.keys]using hj)
    refine⟨a0',Ad,c0',a1',n1',c1',?_,?_,?_⟩
    ·rw[show(j+1)*3=j*3+1+1+1 by omega];exact g0
    ·rw[show(j+1)*3+1=(j*3+1)+1+1+1 by omega];exact g1
    ·rw[show(j+1)*3+2=(j*3+2)+1+1+1 by omega];exact g2
theorem Em.append {xs ys:List Value} {l m:List ByteArray} (h:Em xs l) (g:Em ys m) (hl:xs.length=l.length*3):Em (xs++ys) (l++m):=fun j hj=>by
 by_cases hjl:j<l.length
 ·obtain⟨a0,n0,c0,a1,n1,c1,g0,g1,g2⟩:=h j hjl
  have e:(l++m).getD j ByteArray.empty=l.getD j ByteArray.empty:=by rw[List.getD_eq_getElem?_getD,List.getD_eq_getElem?_getD,List.getElem?_append_left hjl]
  rw[e]
  refine⟨a0,n0,c0,a1,n1,c1,?_,?_,?_⟩
  ·rw[List.getElem?_append_left (by omega)];exact g0
  ·rw[List.getElem?_append_left (by omega)];exact g1
  ·rw[List.getElem?_append_left (by omega)];exact g2
 ·have hjm:j-l.length<m.length:=by rw[List.length_append]at hj;omega
  obtain⟨a0,n0,c0,a1,n1,c1,g0,g1,g2⟩:=g _ hjm
  have e:(l++m).getD j ByteArray.empty=m.getD (j-l.length) ByteArray.empty:=by rw[List.getD_eq_getElem?_getD,List.getD_eq_getElem?_getD,List.getElem?_append_right (by omega)]
  rw[e]
  refine⟨a0,n0,c0,a1,n1,c1,?_,?_,?_⟩
  ·rw[List.getElem?_append_right (by omega),show j*3-xs.length=(j-l.length)*3 by omega];exact g0
  ·rw[List.getElem?_append_right (by omega),show j*3+1-xs.length=(j-l.length)*3+1 by omega];exact g1
  ·rw[List.getElem?_append_right (by omega),show j*3+2-xs.length=(j-l.length)*3+2 by omega];exact g2
theorem VH {Q:Nat→Prop} {w:World} {ks:aT} {os:List (Value×Value)} (h:jX Q w ks os):∀v∈jG ks os,v.oneCell'=true:=fun v hv=>by
 obtain⟨i,hi,he⟩:=List.getElem_of_mem hv
 have hl:=h.length
 have hk:=ks.sH
 obtain⟨a0,n0,c0,a1,n1,c1,g0,g1,g2⟩:=En h (i/3) (by omega)
 have ho:(jG ks os)[i]?=some v:=by rw[List.getElem?_eq_getElem hi,he]
 rcases(by omega:i=i/3*3∨i=i/3*3+1∨i=i/3*3+2)with e|e|e
 ·rw[e,g0]at ho;cases ho;rfl
 ·rw[e,g1]at ho;cases ho;rfl
 ·rw[e,g2]at ho;cases ho;rfl
theorem oZ {d:Nat} {es:List aQ} {ks:aT} (h:bM (d+1) es ks=true):jg none es=true∧jh ks d none=true:=by
 simp only[bM,Bool.and_eq_true]at h
 exact⟨h.1.2,h.2⟩
theorem xW {d:Nat} {ks:aT} {k:ByteArray} (h:jh ks d none=true) (hd:1≤d):bM d (ks.find k).1 (ks.find k).2=true:=by
 by_cases hm:k∈ks.keys
 ·exact((uZ _ _ _ k h).1 hm).1
 ·rw[(uZ _ _ _ k h).2 hm];exact Vz hd
theorem xX {d:Nat} {ks:aT} {k:ByteArray} (h:jh ks d none=true) (hm:k∈ks.keys):1≤d:=by
 have:=((uZ _ _ _ k h).1 hm).1
 simp only[bM,Bool.and_eq_true,decide_eq_true_eq]at this
 exact this.1.1
theorem Pq:∀(ks:aT) (s:ByteArray),sizeT (ks.find s).1 (ks.find s).2≤dM ks
 | .nil,_=>Nat.le_refl _
 | .cons key es sub rest,s=>by
   unfold aT.find
   split
   ·simp only[sizeT,dM];omega
   ·have:=Pq rest s;simp only[dM];omega
theorem VI (ha hb:Int→Int→Bool) (a b:List aQ):(iG ha hb a b).length≤a.length+b.length:=by
 have kl:∀h x,(oC h x).length≤1:=fun h x=>by unfold oC;split<;>simp
 fun_induction iG ha hb a b with
 |case1=>simp
 |case2 x a ih=>have:=kl hb x;simp only[List.length_append,List.length_cons,List.length_nil]at*;omega
 |case3 y b ih=>have:=kl ha y;simp only[List.length_append,List.length_cons,List.length_nil]at*;omega
 |case4 x a y b _ ih=>have:=kl hb x;simp only[List.length_append,List.length_cons]at*;omega
 |case5 x a y b _ _ ih=>have:=kl ha y;simp only[List.length_append,List.length_cons]at*;omega
 |case6 x a y b _ _ ih=>simp only[List.length_cons]at*;omega
theorem VJ (a b:List ByteArray):(kW a b).length≤a.length+b.length:=by
 fun_induction kW a b with
 |case1 b=>simp
 |case2 x a=>simp
 |case3 x a y b _ ih=>simp only[List.length_cons]at*;omega
 |case4 x a y b _ _ ih=>simp only[List.length_cons]at*;omega
 |case5 x a y b _ _ ih=>simp only[List.length_cons]at*;omega
theorem Pv:(Tryz.prog.info? 9).map (fun i=>(i.zero,i.size,i.bytes))=some (some (.string ByteArray.empty),1,16):=by kernel_rfl
theorem acX {l:List ByteArray} {k:Nat} (hk:k<l.length):(l.take (k+1)).map Value.string=(l.take k).map .string++ [.string (l.getD k ByteArray.empty)]:=by
 rw[take_succ ByteArray.empty hk,List.map_append];rfl
theorem acY {l:List ByteArray} {i:Nat} (h:i<l.length):l.drop i=l.getD i ByteArray.empty::l.drop (i+1):=by
 rw[List.drop_eq_getElem_cons h,getD_at _ h]
open Go.RowKit
def wu (a b:bD) (k:Nat):Prop:=∀j,j<k→a.getD j (0,0,0)=b.getD j (0,0,0)
theorem wu.all {a b:bD} (hl:a.length=b.length) (h:wu a b a.length):a=b:=by
 refine List.ext_getElem hl fun j h1 h2=>?_
 have:=h j h1
 rwa [getD_at _ h1,getD_at _ h2]at this
theorem wu.step {a b:bD} {k:Nat} (h:wu a b k) (he:a.getD k (0,0,0)=b.getD k (0,0,0)):wu a b (k+1):=fun j hj=>by
 rcases Nat.lt_succ_iff_lt_or_eq.1 hj with hj|rfl
 ·exact h j hj
 ·exact he
theorem acZ (w:World) (va vb:Value) (a b:bD) (ha:je w va a) (hb:je w vb b) (la:a.length≤100000) (lb:b.length≤100000):
 Calls Tryz.prog 45 #[va,vb] w fun e w'=>e= .returned (.bool (decide (a=b)))∧aj aF w w':=by
 obtain⟨aA,cA,rfl⟩:=ha.sl
 obtain⟨aB,cB,rfl⟩:=hb.sl
 by_cases hab:a.length=b.length
 rotate_left 1
 ·have hne:decide (a=b)=false:=by rw[decide_eq_false_iff_not];intro h;exact hab (by rw[h])
  rw[hne]
  clear hne ha hb
  generalize a.length=n at*
  generalize b.length=m at*
  have hz:((n:Int)==(m:Int))=false:=by simp;omega
  go_enter Tryz.func45,Tryz.ntmps45
  go_wp2
  go_ret
  exact⟨rfl,aj.refl _ _⟩
 have HAB:=ah hab
 rw[←hab]at lb
 have hb2:je w (.slice aB a.length cB) b:=by rw[hab];exact hb
 have HA:=ah ha;clear ha
 have HB:=ah hb2;clear hb hb2
 clear hab lb
 have hbl:b.length=a.length:=HAB.out.symm
 rw[hbl]
 clear hbl
 generalize hn:a.length=n at*
 have HN:=ah hn;clear hn
 go_enter Tryz.func45,Tryz.ntmps45
 go_wp2
 go_loopw [13] (fun i ww=>∃k:Nat,k≤n∧i= .int .i64 k∧wu a b k∧aj aF w ww) (fun i _=>n-(intOf i).toNat)
 case atStart=>exact⟨0,Nat.zero_le _,rfl,(fun j hj=>absurd hj (Nat.not_lt_zero _)),aj.refl _ _⟩
 case round=>
  obtain⟨k,hk,rfl,hlk,hf⟩:=hrel
  have nT:=ah hlk;clear hlk
  have HF:=ah hf;clear hf
  by_cases hlt:k<n
  ·have hka:k<a.length:=by rw[HN.out];exact hlt
   have hkb:k<b.length:=by rw[←HAB.out];exact hlt
   rcases Rd.shape HA.out with⟨ad,he,h0⟩|⟨o1,off1,GZ,he,hmax⟩
   ·exfalso;have:=HN.out;omega
   rcases Rd.shape HB.out with⟨ad,he2,h0⟩|⟨o2,off2,lg,he2,zY⟩
   ·exfalso;have:=HN.out;have:=HAB.out;omega
   injection he with e1 e2 e3
   injection he2 with e4 e5 e6
   subst e1 e3 e4 e6
   clear e2 e5
   obtain⟨p0,p1,p2⟩:=zS HA.out (by rw[HN.out]) k hka
   obtain⟨q0,q1,q2⟩:=zS HB.out HAB.out k hkb
   have p0:=HF.out.cell' p0 id
   have p1:=HF.out.cell' p1 id
   have p2:=HF.out.cell' p2 id
   have q0:=HF.out.cell' q0 id
   have q1:=HF.out.cell' q1 id
   have q2:=HF.out.cell' q2 id
   have hst:a.getD k (0,0,0)=b.getD k (0,0,0)→wu a b (k+1):=nT.out.step
   have HST:=ah hst;clear hst
   have hno:a.getD k (0,0,0)≠b.getD k (0,0,0)→a≠b:=fun h e=>h (by rw[e])
   have lQ:=ah hno;clear hno
   generalize a.getD k (0,0,0)=s at*
   generalize b.getD k (0,0,0)=t at*
   by_cases hst:s=t
   ·subst hst
    go_wp2_with fail
    go_quiet (fail)
    go_wp2
    go_roundw
    case rel=>exact⟨k+1,by omega,by go_num,HST.out (by trivial),HF.out.iy⟩
    case measure=>simp[intOf];omega
   ·have iE:=ah (show false=decide (a=b)from by symm;rw[decide_eq_false_iff_not];exact lQ.out hst)
    obtain⟨s0,s1,s2⟩:=s
    obtain⟨t0,t1,t2⟩:=t
    clear HST lQ
    dsimp only at p0 p1 p2 q0 q1 q2
    by_cases g0:s0=t0
    ·subst g0
     by_cases g1:s1=t1
     ·subst g1
      have g2:s2≠t2:=fun h=>hst (by rw[h])
      clear hst
      have gb:((s2:Int)==t2)=false:=by simpa using g2
      go_wp2_with fail
      go_quiet (fail)
      go_wp2
      go_ret
      exact⟨dF iE.out,HF.out.iy⟩
     ·clear hst
      have gb:((s1:Int)==t1)=false:=by simpa using g1
      go_wp2_with fail
      go_quiet (fail)
      go_wp2
      go_ret
      exact⟨dF iE.out,HF.out.iy⟩
    ·clear hst
     have gb:((s0:Int)==t0)=false:=by simpa using g0
     go_wp2_with fail
     go_quiet (fail)
     go_wp2
     go_ret
     exact⟨dF iE.out,HF.out.iy⟩
  ·obtain rfl:n=k:=by omega
   have heq:decide (a=b)=true:=by rw[decide_eq_true_iff];exact wu.all (HN.out.trans HAB.out) (by rw[HN.out];exact nT.out)
   have Ae:=ah heq;clear heq
   go_wp2
   go_ret
   exact⟨dF Ae.out.symm,HF.out⟩
open Go.RowKit
def wz (a b:List aQ) (k:Nat):Prop:=∀j,j<k→a.getD j aQ.zero=b.getD j aQ.zero
theorem wz.all {a b:List aQ} (hl:a.length=b.length) (h:wz a b a.length):a=b:=by
 refine List.ext_getElem hl fun j h1 h2=>?_
 have:=h j h1
 rwa [getD_at _ h1,getD_at _ h2]at this
theorem wz.step {a b:List aQ} {k:Nat} (h:wz a b k) (he:a.getD k aQ.zero=b.getD k aQ.zero):wz a b (k+1):=fun j hj=>by
 rcases Nat.lt_succ_iff_lt_or_eq.1 hj with hj|rfl
 ·exact h j hj
 ·exact he
theorem ac0 (w:World) (va vb:Value) (a b:bD) (ha:je w va a) (hb:je w vb b) (la:a.length≤100000) (lb:b.length≤100000):
 Calls Tryz.prog 96 #[va,vb] w fun e w'=>e= .returned (.bool (decide (a=b)))∧aj aF w w':=by
 obtain⟨aA,cA,rfl⟩:=ha.sl
 obtain⟨aB,cB,rfl⟩:=hb.sl
 by_cases hab:a.length=b.length
 rotate_left 1
 ·have hne:decide (a=b)=false:=by rw[decide_eq_false_iff_not];intro h;exact hab (by rw[h])
  rw[hne]
  clear hne ha hb
  generalize a.length=n at*
  generalize b.length=m at*
  have hz:((n:Int)==(m:Int))=false:=by simp;omega
  go_enter Tryz.func96,Tryz.ntmps96
  go_wp2
  go_ret
  exact⟨rfl,aj.refl _ _⟩
 have HAB:=ah hab
 rw[←hab]at lb
 have hb2:je w (.slice aB a.length cB) b:=by rw[hab];exact hb
 have HA:=ah ha;clear ha
 have HB:=ah hb2;clear hb hb2
 clear hab lb
 have hbl:b.length=a.length:=HAB.out.symm
 rw[hbl]
 clear hbl
 generalize hn:a.length=n at*
 have HN:=ah hn;clear hn
 go_enter Tryz.func96,Tryz.ntmps96
 go_wp2
 go_loopw [13] (fun i ww=>∃k:Nat,k≤n∧i= .int .i64 k∧wu a b k∧aj aF w ww) (fun i _=>n-(intOf i).toNat)
 case atStart=>exact⟨0,Nat.zero_le _,rfl,(fun j hj=>absurd hj (Nat.not_lt_zero _)),aj.refl _ _⟩
 case round=>
  obtain⟨k,hk,rfl,hlk,hf⟩:=hrel
  have nT:=ah hlk;clear hlk
  have HF:=ah hf;clear hf
  by_cases hlt:k<n
  ·have hka:k<a.length:=by rw[HN.out];exact hlt
   have hkb:k<b.length:=by rw[←HAB.out];exact hlt
   rcases Rd.shape HA.out with⟨ad,he,h0⟩|⟨o1,off1,GZ,he,hmax⟩
   ·exfalso;have:=HN.out;omega
   rcases Rd.shape HB.out with⟨ad,he2,h0⟩|⟨o2,off2,lg,he2,zY⟩
   ·exfalso;have:=HN.out;have:=HAB.out;omega
   injection he with e1 e2 e3
   injection he2 with e4 e5 e6
   subst e1 e3 e4 e6
   clear e2 e5
   obtain⟨p0,p1,p2⟩:=zS HA.out (by rw[HN.out]) k hka
   obtain⟨q0,q1,q2⟩:=zS HB.out HAB.out k hkb
   have p0:=HF.out.cell' p0 id
   have p1:=HF.out.cell' p1 id
   have p2:=HF.out.cell' p2 id
   have q0:=HF.out.cell' q0 id
   have q1:=HF.out.cell' q1 id
   have q2:=HF.out.cell' q2 id
   have hst:a.getD k (0,0,0)=b.getD k (0,0,0)→wu a b (k+1):=nT.out.step
   have HST:=ah hst;clear hst
   have hno:a.getD k (0,0,0)≠b.getD k (0,0,0)→a≠b:=fun h e=>h (by rw[e])
   have lQ:=ah hno;clear hno
   generalize a.getD k (0,0,0)=s at*
   generalize b.getD k (0,0,0)=t at*
   by_cases hst:s=t
   ·subst hst
    go_wp2_with fail
    go_quiet (fail)
    go_wp2
    go_roundw
    case rel=>exact⟨k+1,by omega,by go_num,HST.out (by trivial),HF.out.iy⟩
    case measure=>simp[intOf];omega
   ·have iE:=ah (show false=decide (a=b)from by symm;rw[decide_eq_false_iff_not];exact lQ.out hst)
    obtain⟨s0,s1,s2⟩:=s
    obtain⟨t0,t1,t2⟩:=t
    clear HST lQ
    dsimp only at p0 p1 p2 q0 q1 q2
    by_cases g0:s0=t0
    ·subst g0
     by_cases g1:s1=t1
     ·subst g1
      have g2:s2≠t2:=fun h=>hst (by rw[h])
      clear hst
      have gb:((s2:Int)==t2)=false:=by simpa using g2
      go_wp2_with fail
      go_quiet (fail)
      go_wp2
      go_ret
      exact⟨dF iE.out,HF.out.iy⟩
     ·clear hst
      have gb:((s1:Int)==t1)=false:=by simpa using g1
      go_wp2_with fail
      go_quiet (fail)
      go_wp2
      go_ret
      exact⟨dF iE.out,HF.out.iy⟩
    ·clear hst
     have gb:((s0:Int)==t0)=false:=by simpa using g0
     go_wp2_with fail
     go_quiet (fail)
     go_wp2
     go_ret
     exact⟨dF iE.out,HF.out.iy⟩
  ·obtain rfl:n=k:=by omega
   have heq:decide (a=b)=true:=by rw[decide_eq_true_iff];exact wu.all (HN.out.trans HAB.out) (by rw[HN.out];exact nT.out)
   have Ae:=ah heq;clear heq
   go_wp2
   go_ret
   exact⟨dF Ae.out.symm,HF.out⟩
theorem ac1 (w:World) (va vb:Value) (a b:List aQ) (ha:Rd w va a.length (jy a)) (hb:Rd w vb b.length (jy b)) (la:a.length≤100000) (lb:b.length≤100000):
 Calls Tryz.prog 134 #[va,vb] w fun e w'=>e= .returned (.bool (tf (a=b)))∧aj aF w w':=by
 obtain⟨aA,cA,rfl⟩:=ha.sl
 obtain⟨aB,cB,rfl⟩:=hb.sl
 by_cases hab:a.length=b.length
 rotate_left 1
 ·have hne:tf (a=b)=false:=by exact eH fun h=>hab (by rw[h])
  rw[hne]
  clear hne ha hb
  generalize a.length=n at*
  generalize b.length=m at*
  have hz:((n:Int)==(m:Int))=false:=by simp;omega
  go_enter Tryz.func134,Tryz.ntmps134
  go_wp2
  go_ret
  exact⟨rfl,aj.refl _ _⟩
 have HAB:=ah hab
 rw[←hab]at lb
 have hb2:Rd w (.slice aB a.length cB) a.length (jy b):=by rw[hab];exact hb
 have HA:=ah ha;clear ha
 have HB:=ah hb2;clear hb hb2
 clear hab lb
 have hbl:b.length=a.length:=HAB.out.symm
 rw[hbl]
 clear hbl
 generalize hn:a.length=n at*
 have HN:=ah hn;clear hn
 go_enter Tryz.func134,Tryz.ntmps134
 go_wp2
 go_loopw [13] (fun i ww=>∃k:Nat,k≤n∧i= .int .i64 k∧wz a b k∧aj aF w ww) (fun i _=>n-(intOf i).toNat)
 case atStart=>exact⟨0,Nat.zero_le _,rfl,(fun j hj=>absurd hj (Nat.not_lt_zero _)),aj.refl _ _⟩
 case round=>
  obtain⟨k,hk,rfl,hlk,hf⟩:=hrel
  have nT:=ah hlk;clear hlk
  have HF:=ah hf;clear hf
  by_cases hlt:k<n
  ·have hka:k<a.length:=by rw[HN.out];exact hlt
   have hkb:k<b.length:=by rw[←HAB.out];exact hlt
   rcases Rd.shape HA.out with⟨ad,he,h0⟩|⟨o1,off1,GZ,he,hmax⟩
   ·exfalso;have:=HN.out;omega
   rcases Rd.shape HB.out with⟨ad,he2,h0⟩|⟨o2,off2,lg,he2,zY⟩
   ·exfalso;have:=HN.out;have:=HAB.out;omega
   injection he with e1 e2 e3
   injection he2 with e4 e5 e6
   subst e1 e3 e4 e6
   clear e2 e5
   obtain⟨p0,p1,p2,p3⟩:=ug HA.out k hka
   obtain⟨q0,q1,q2,q3⟩:=ug HB.out k hkb
   have p0:=HF.out.cell' p0 id
   have p1:=HF.out.cell' p1 id
   have p2:=HF.out.cell' p2 id
   have p3:=HF.out.cell' p3 id
   have q0:=HF.out.cell' q0 id
   have q1:=HF.out.cell' q1 id
   have q2:=HF.out.cell' q2 id
   have q3:=HF.out.cell' q3 id
   have hst:a.getD k aQ.zero=b.getD k aQ.zero→wz a b (k+1):=nT.out.step
   have HST:=ah hst;clear hst
   have hno:a.getD k aQ.zero≠b.getD k aQ.zero→a≠b:=fun h e=>h (by rw[e])
   have lQ:=ah hno;clear hno
   generalize a.getD k aQ.zero=s at*
   generalize b.getD k aQ.zero=t at*
   by_cases hst:s=t
   ·subst hst
    go_wp2_with fail
    go_quiet (fail)
    go_wp2
    go_roundw
    case rel=>exact⟨k+1,by omega,by go_num,HST.out (by trivial),HF.out.iy⟩
    case measure=>simp[intOf];omega
   ·have iE:=ah (show false=tf (a=b)from(eH (lQ.out hst)).symm)
    obtain⟨s0,s1,s2,s3⟩:=s
    obtain⟨t0,t1,t2,t3⟩:=t
    clear HST lQ
    dsimp only at p0 p1 p2 p3 q0 q1 q2 q3
    by_cases g0:s0=t0
    ·subst g0
     by_cases g1:s1=t1
     ·subst g1
      by_cases g2:s2=t2
      ·subst g2
       have g3:s3≠t3:=fun h=>hst (by rw[h])
       clear hst
       have gb:((s3:Int)==t3)=false:=by simpa using g3
       go_wp2_with fail
       go_quiet (fail)
       go_wp2
       go_ret
       exact⟨dF iE.out,HF.out.iy⟩
      ·clear hst
       have gb:¬s2.toList=t2.toList:=fun h=>g2 (by rw[ByteArray.toList_eq,ByteArray.toList_eq]at h;exact ByteArray.ext (Array.toList_inj.1 h))
       go_wp2_with fail
       go_quiet (fail)
       go_wp2
       go_ret
       exact⟨dF iE.out,HF.out.iy⟩
     ·clear hst
      have gb:((s1:Int)==t1)=false:=by simpa using g1
      go_wp2_with fail
      go_quiet (fail)
      go_wp2
      go_ret
      exact⟨dF iE.out,HF.out.iy⟩
    ·clear hst
     have gb:((s0:Int)==t0)=false:=by simpa using g0
     go_wp2_with fail
     go_quiet (fail)
     go_wp2
     go_ret
     exact⟨dF iE.out,HF.out.iy⟩
  ·obtain rfl:n=k:=by omega
   have heq:tf (a=b)=true:=gu (wz.all (HN.out.trans HAB.out) (by rw[HN.out];exact nT.out))
   have Ae:=ah heq;clear heq
   go_wp2
   go_ret
   exact⟨dF Ae.out.symm,HF.out⟩
open Go.RowKit
theorem Cb {s t:ByteArray} (h:¬s=t):¬s.toList=t.toList:=fun e=>h (by rw[ByteArray.toList_eq,ByteArray.toList_eq]at e;exact ByteArray.ext (Array.toList_inj.1 e))
theorem Px (w:World) (a0 a1 b0 b1:Value) (T:TypeId) (W:World) (f:aj aF ((w.alloc (.cells #[a0,a1] T)).alloc (.cells #[b0,b1] T)) W):
 W.cell? ⟨w.heap.size,0,none⟩=some a0∧W.cell? ⟨w.heap.size,1,none⟩=some a1∧W.cell? ⟨w.heap.size+1,0,none⟩=some b0∧W.cell? ⟨w.heap.size+1,1,none⟩=some b1:=by
 obtain⟨h1,_,_⟩:=lY w (.cells #[a0,a1] T) #[b0,b1] T
 have h0:((w.alloc (.cells #[a0,a1] T)).alloc (.cells #[b0,b1] T)).heap[w.heap.size]?=some (.cells #[a0,a1] T (0,0)):=(aj.alloc aF _ _).blk (heap_alloc_new w _) id
 exact⟨f.cell' (aG h0 0 rfl) id,f.cell' (aG h0 1 rfl) id,f.cell' (aG h1 0 rfl) id,f.cell' (aG h1 1 rfl) id⟩
theorem Eo (w:World) (a0 a1 a2 b0 b1 b2:Value) (T:TypeId) (W:World) (f:aj aF ((w.alloc (.cells #[a0,a1,a2] T)).alloc (.cells #[b0,b1,b2] T)) W):
 W.cell? ⟨w.heap.size,0,none⟩=some a0∧W.cell? ⟨w.heap.size,1,none⟩=some a1∧W.cell? ⟨w.heap.size,2,none⟩=some a2∧W.cell? ⟨w.heap.size+1,0,none⟩=some b0∧W.cell? ⟨w.heap.size+1,1,none⟩=some b1∧W.cell? ⟨w.heap.size+1,2,none⟩=some b2:=by
 obtain⟨h1,_,_⟩:=lY w (.cells #[a0,a1,a2] T) #[b0,b1,b2] T
 have h0:((w.alloc (.cells #[a0,a1,a2] T)).alloc (.cells #[b0,b1,b2] T)).heap[w.heap.size]?=some (.cells #[a0,a1,a2] T (0,0)):=(aj.alloc aF _ _).blk (heap_alloc_new w _) id
 exact⟨f.cell' (aG h0 0 rfl) id,f.cell' (aG h0 1 rfl) id,f.cell' (aG h0 2 rfl) id,f.cell' (aG h1 0 rfl) id,f.cell' (aG h1 1 rfl) id,f.cell' (aG h1 2 rfl) id⟩
theorem ac2 (key key':ByteArray) (b:Bool) (W:World) (a0 a1 b0 b1:Option Addr) (n m n' m' c0 c1 d0 d1:Nat)
 (HT:∀W',aj aF W W'→Calls Tryz.prog 95 #[.agg #[.slice a0 n c0, .slice a1 m c1], .agg #[.slice b0 n' d0, .slice b1 m' d1]] W' fun e w'=>e= .returned (.bool b)∧aj aF W' w'):
 Calls Tryz.prog 136 #[.agg #[.string key, .slice a0 n c0, .slice a1 m c1], .agg #[.string key', .slice b0 n' d0, .slice b1 m' d1]] W fun e w'=>e= .returned (.bool (tf (key=key')&&b))∧aj aF W w':=by
 have HTT:=ah HT;clear HT
 have HF:=ah ((aj.alloc aF W (.cells #[.string key, .slice a0 n c0, .slice a1 m c1] 52)).alloc1 (o:= .cells #[.string key', .slice b0 n' d0, .slice b1 m' d1] 52))
 by_cases hk:key=key'
 ·subst hk
  rw[gu rfl,Bool.true_and]
  go_enter Tryz.func136,Tryz.ntmps136
  go_wp2_with(go_at_call 95;refine(HTT.out _ HF.out).mono ?_;rintro e w1 ⟨rfl,hw1⟩;have HW1:=ah (HF.out.aH hw1);clear hw1)
  go_ret
  exact⟨rfl,HW1.out⟩
 ·rw[eH hk,Bool.false_and]
  have hne:=Cb hk
  clear hk
  go_enter Tryz.func136,Tryz.ntmps136
  go_wp2
  go_ret
  exact⟨rfl,HF.out⟩
theorem VK {ks ks':aT} {k:Nat} {key key':ByteArray} {es es':List aQ} {sub sub' rest rest':aT} (h:ks.drop k= .cons key es sub rest) (h':ks'.drop k= .cons key' es' sub' rest'):
 (ks.drop k=ks'.drop k)↔((key=key'∧es=es'∧sub=sub')∧ks.drop (k+1)=ks'.drop (k+1)):=by
 rw[aT.yN k ks h,aT.yN k ks' h',h,h']
 constructor
 ·intro e
  injection e with e1 e2 e3 e4
  exact⟨⟨e1,e2,e3⟩,e4⟩
 ·rintro⟨⟨rfl,rfl,rfl⟩,rfl⟩
  rfl
theorem ac4 (Q Q':Nat→Prop) (ks ks':aT) (w:World) (kv kv':Value) (os os':List (Value×Value)) (h:Rd w kv ks.len (jG ks os)) (hf:jX Q w ks os) (h':Rd w kv' ks'.len (jG ks' os')) (hf':jX Q' w ks' os') (hl:ks.len≤100000) (hl':ks'.len≤100000)
 (HG:∀n key es sub rest key' es' sub' rest',ks.drop n= .cons key es sub rest→ks'.drop n= .cons key' es' sub' rest'→∀W ev kv ev' kv',bZ Q W ev kv es sub→bZ Q' W ev' kv' es' sub'→
   Calls Tryz.prog 136 #[.agg #[.string key,ev,kv], .agg #[.string key',ev',kv']] W fun e w'=>e= .returned (.bool (tf (key=key'∧es=es'∧sub=sub')))∧aj aF W w'):
 Calls Tryz.prog 135 #[kv,kv', .func (.func 136) #[] #[]] w fun e w'=>e= .returned (.bool (tf (ks=ks')))∧aj aF w w':=by
 have eg:∀args w,(callFunc 136 args).run Tryz.prog w= .ok (.enter 136 args) w:=enters_of Tryz.func136 (by kernel_rfl) rfl
 obtain⟨a0,c0,rfl⟩:=h.sl
 obtain⟨a1,c1,rfl⟩:=h'.sl
 have iT:=ah h;clear h
 have nR:=ah hf;clear hf
 have Cc:=ah h';clear h'
 have KD:=ah hf';clear hf'
 have JX:=ah HG;clear HG
 by_cases hlen:ks.len=ks'.len
 rotate_left 1
 ·rw[eH fun e=>hlen (by rw[e])]
  clear iT nR Cc KD JX eg
  generalize ks.len=n at*
  generalize ks'.len=m at*
  have hz:((n:Int)==(m:Int))=false:=by simp;omega
  go_enter Tryz.func135,Tryz.ntmps135
  go_wp2
  go_ret
  exact⟨rfl,aj.refl _ _⟩
 have HLEN:=ah hlen.symm
 rw[←hlen]at Cc⊢
 clear hlen hl'
 generalize hkl:ks.len=m at*
 have HM:=ah hkl;clear hkl
 go_enter Tryz.func135,Tryz.ntmps135
 go_wp2
 go_loopw [17] (fun i ww=>∃k:Nat,k≤m∧i= .int .i64 k∧(ks=ks'↔ks.drop k=ks'.drop k)∧aj aF w ww) (fun i _=>m-(intOf i).toNat)
 case atStart=>exact⟨0,Nat.zero_le _,rfl,Iff.rfl,aj.refl _ _⟩
 case round=>
  obtain⟨k,hk,rfl,he,hw⟩:=hrel
  have HE:=ah he;clear he
  have HW:=ah hw;clear hw
  by_cases hlt:k<m
  ·obtain⟨key,es,sub,rest,hdr⟩:=aT.uf (n:=k) (ks:=ks) (by rw[HM.out];exact hlt)
   obtain⟨key',es',sub',rest',hdr'⟩:=aT.uf (n:=k) (ks:=ks') (by rw[HLEN.out];exact hlt)
   rcases Rd.shape iT.out with⟨ad,he,h0⟩|⟨b,off,cc,he,hmax⟩
   ·exfalso;omega
   rcases Rd.shape Cc.out with⟨ad,he2,h0⟩|⟨b2,off2,lg,he2,zY⟩
   ·exfalso;omega
   injection he with e1 e2 e3
   injection he2 with e4 e5 e6
   subst e1 e3 e4 e6
   clear e2 e5
   obtain⟨ev,kv,p0,p1,p2,hta⟩:=rD (iT.out.aS HW.out) (nR.out.aS HW.out) hdr
   obtain⟨ev',kv',q0,q1,q2,htb⟩:=rD (Cc.out.aS HW.out) (KD.out.aS HW.out) hdr'
   have HC:=ah (fun W (f:aj aF wr W)=>JX.out k key es sub rest key' es' sub' rest' hdr hdr' W ev kv ev' kv' (hta.aS f) (htb.aS f))
   have HST:=ah (VK hdr hdr')
   obtain⟨ae,ce,rfl⟩:=hta.ents.rd.sl
   obtain⟨o3,hk3,-⟩:=hta.kids
   obtain⟨ak,ck,rfl⟩:=hk3.rd.sl
   obtain⟨gZ,g_,rfl⟩:=htb.ents.rd.sl
   obtain⟨o4,hk4,-⟩:=htb.kids
   obtain⟨h_,ig,rfl⟩:=hk4.rd.sl
   clear hk3 hk4 hta htb hdr hdr'
   generalize es.length=n0 at*
   generalize sub.len=m0 at*
   generalize es'.length=n1 at*
   generalize sub'.len=m1 at*
   have b_:=ah ((aj.alloc aF wr (.cells #[.string key, .slice ae n0 ce, .slice ak m0 ck] 52)).alloc1 (o:= .cells #[.string key', .slice gZ n1 g_, .slice h_ m1 ig] 52))
   have aji:b<wr.heap.size:=World.block_lt_of_cell? _ _ p0
   have ajj:b2<wr.heap.size:=World.block_lt_of_cell? _ _ q0
   by_cases hy:key=key'∧es=es'∧sub=sub'
   ·rw[gu hy]at HC
    have HY:=ah hy;clear hy
    go_wp2_with(go_at_call 136;refine(HC.out _ b_.out).mono ?_;rintro e w1 ⟨rfl,hw1⟩;have HW1:=ah (b_.out.aH hw1);clear hw1)
    go_roundw
    case rel=>exact⟨k+1,by omega,by go_num,HE.out.trans (HST.out.trans ⟨fun h=>h.2,fun h=>⟨HY.out,h⟩⟩),HW.out.aH HW1.out⟩
    case measure=>simp[intOf];omega
   ·rw[eH hy]at HC
    have HY:=ah hy;clear hy
    go_wp2_with(go_at_call 136;refine(HC.out _ b_.out).mono ?_;rintro e w1 ⟨rfl,hw1⟩;have HW1:=ah (b_.out.aH hw1);clear hw1)
    go_ret
    exact⟨dF (eH fun h=>HY.out (HST.out.1 (HE.out.1 h)).1).symm,HW.out.aH HW1.out⟩
  ·obtain rfl:m=k:=by omega
   have hend:ks=ks':=HE.out.2 (by rw[aT.uP (by rw[HM.out];exact Nat.le_refl _),aT.uP (by rw[HLEN.out];exact Nat.le_refl _)])
   have ac5:=ah hend;clear hend
   go_wp2
   go_ret
   exact⟨dF (gu ac5.out).symm,HW.out⟩
theorem ac6 (Q Q':Nat→Prop):∀(N:Nat) (es:List aQ) (ks:aT) (es':List aQ) (ks':aT) (w:World) (ev kv ev' kv':Value),dM ks<N→bZ Q w ev kv es ks→bZ Q' w ev' kv' es' ks'→sizeT es ks≤100000→sizeT es' ks'≤100000→
 Calls Tryz.prog 95 #[.agg #[ev,kv], .agg #[ev',kv']] w fun e w'=>e= .returned (.bool (tf (es=es'∧ks=ks')))∧aj aF w w':=by
 intro N
 induction N with
 |zero=>intros;exfalso;omega
 |succ N jH=>
  intro es ks es' ks' w ev kv ev' kv' hN ht ht' hsz hsz'
  obtain⟨ae,ce,rfl⟩:=ht.ents.rd.sl
  obtain⟨os,hkr,gY⟩:=ht.kids
  obtain⟨ak,ck,rfl⟩:=hkr.rd.sl
  obtain⟨gZ,g_,rfl⟩:=ht'.ents.rd.sl
  obtain⟨os',ji,nC⟩:=ht'.kids
  obtain⟨h_,ig,rfl⟩:=ji.rd.sl
  have h1:es.length≤100000:=by unfold sizeT at hsz;omega
  have h2:es'.length≤100000:=by unfold sizeT at hsz';omega
  have h3:ks.len≤100000:=by have:=oQ ks;unfold sizeT at hsz;omega
  have h4:ks'.len≤100000:=by have:=oQ ks';unfold sizeT at hsz';omega
  have zh:=ah (fun W (f:aj aF w W)=>ac1 W _ _ es es' (ht.ents.rd.aS f) (ht'.ents.rd.aS f) h1 h2)
  have Ce:=ah (fun W (f:aj aF w W)=>ac4 Q Q' ks ks' W _ _ os os' (hkr.rd.aS f) (gY.aS f) (ji.rd.aS f) (nC.aS f) h3 h4 (fun n key es0 sub rest key' zl sub' rest' hd hd' W ev kv ev' kv' hta htb=>by
   obtain⟨a0,c0,rfl⟩:=hta.ents.rd.sl
   obtain⟨o3,hk3,_⟩:=hta.kids
   obtain⟨a1,c1,rfl⟩:=hk3.rd.sl
   obtain⟨b0,d0,rfl⟩:=htb.ents.rd.sl
   obtain⟨o4,hk4,_⟩:=htb.kids
   obtain⟨b1,d1,rfl⟩:=hk4.rd.sl
   have hss:=xJ n hd
   have hst:=yQ n hd
   have hst':=yQ n hd'
   have:=ac2 key key' (tf (es0=zl∧sub=sub')) W _ _ _ _ _ _ _ _ _ _ _ _ fun W' f=>jH es0 sub zl sub' W' _ _ _ _ (by omega) (hta.aS f) (htb.aS f) (by unfold sizeT at*;omega) (by unfold sizeT at*;omega)
   have he:(tf (key=key')&&tf (es0=zl∧sub=sub'))=tf (key=key'∧es0=zl∧sub=sub'):=by
    rw[Bool.eq_iff_iff];simp only[Bool.and_eq_true,xC]
   rw[he]at this
   exact this))
  clear hkr ji gY nC ht ht' jH hN hsz hsz' h1 h2 h3 h4
  have b_:=ah ((aj.alloc aF w (.cells #[.slice ae es.length ce, .slice ak ks.len ck] 28)).alloc1 (o:= .cells #[.slice gZ es'.length g_, .slice h_ ks'.len ig] 28))
  have bW:=ah (Px w (.slice ae es.length ce) (.slice ak ks.len ck) (.slice gZ es'.length g_) (.slice h_ ks'.len ig) 28)
  by_cases hy:es=es'
  ·rw[gu hy]at zh
   have hall:tf (es=es'∧ks=ks')=tf (ks=ks'):=Dv ⟨fun h=>h.2,fun h=>⟨hy,h⟩⟩
   rw[hall]
   clear hall hy
   generalize tf (ks=ks')=b at*
   generalize es.length=n at*
   generalize ks.len=m at*
   generalize es'.length=n' at*
   generalize ks'.len=m' at*
   go_enter Tryz.func95,Tryz.ntmps95
   go_wp2_with(first
    |(go_at_call 134;refine(zh.out _ b_.out).mono ?_;rintro e w1 ⟨rfl,hw1⟩;obtain⟨y0,y1,y2,y3⟩:=bW.out w1 hw1;have HW1:=ah (b_.out.aH hw1);clear hw1)
    |(go_at_call 135;refine(Ce.out _ HW1.out).mono ?_;rintro e w2 ⟨rfl,hw2⟩;have HW2:=ah (HW1.out.aH hw2);clear hw2))
   go_ret
   exact⟨rfl,HW2.out⟩
  ·rw[eH hy]at zh
   rw[eH fun h=>hy h.1]
   clear hy Ce
   generalize es.length=n at*
   generalize ks.len=m at*
   generalize es'.length=n' at*
   generalize ks'.len=m' at*
   go_enter Tryz.func95,Tryz.ntmps95
   go_wp2_with(go_at_call 134;refine(zh.out _ b_.out).mono ?_;rintro e w1 ⟨rfl,hw1⟩;have HW1:=ah (b_.out.aH hw1);clear hw1)
   go_ret
   exact⟨rfl,HW1.out⟩
open Go.RowKit
def eqS (s x:ByteArray):Bool:=decide (x=s)
theorem ac7 (l:List ByteArray) (s:ByteArray):l.any (eqS s)=tf (s∈l):=by
 refine Dw ?_
 rw[List.any_eq_true]
 unfold eqS
 simp
theorem ac8 {w:World} {b off c n:Nat} {l:List ByteArray} (h:Rd w (.slice (some ⟨b,off,none⟩) n c) n (l.map .string)) (k:Nat) (hk:k<l.length):w.cell? ⟨b,off+k,none⟩=some (.string (l.getD k ByteArray.empty)):=
 h.cell k _ (by rw[List.getElem?_map,List.getElem?_eq_getElem hk,getD_at _ hk];rfl)
theorem ac9 (l:List ByteArray) (s:ByteArray) (w:World) (v:Value) (h:Rd w v l.length (l.map .string)) (hl:l.length≤1000000):
 Calls Tryz.prog 169 #[v, .string s] w fun e w'=>aj aF w w'∧(l.any (eqS s)=true→∃k:Nat,e= .returned (.int .i64 k))∧(l.any (eqS s)=false→e= .returned (.int .i64 (-1))):=by
 obtain⟨A,hA⟩:∃A,A=l.any (eqS s):=⟨_,rfl⟩
 have HA:=ah hA
 rw[←hA]
 clear hA
 rcases Rd.shape h with⟨ad,rfl,h0⟩|⟨p,off,c,rfl,hmax⟩
 ·have BL:=ah (show A=false by rw[HA.out,List.eq_nil_of_length_eq_zero h0];rfl)
  clear h h0
  go_enter Tryz.func169,Tryz.ntmps169
  go_wp2
  go_loop [8] (fun i=>i= .int .i64 0) (fun _=>0)
  case atStart=>rfl
  case round=>
   obtain rfl:=hrel
   go_wp2
   go_ret
   exact⟨aj.refl _ _,fun h=>(by rw[BL.out]at h;cases h),fun _=>rfl⟩
 ·have HH:=ah h;clear h
  generalize hn:l.length=m at*
  have HN:=ah hn;clear hn
  go_enter Tryz.func169,Tryz.ntmps169
  go_wp2
  go_loopw [8] (fun i W=>∃k:Nat,k≤m∧i= .int .i64 k∧(l.take k).any (eqS s)=false∧aj aF w W) (fun i _=>m-(intOf i).toNat)
  case atStart=>exact⟨0,Nat.zero_le _,rfl,by simp,aj.refl _ _⟩
  case round=>
   obtain⟨k,hk,rfl,ha,hw⟩:=hrel
   have HW:=ah hw;clear hw
   have qN:=ah ha;clear ha
   by_cases hlt:k<m
   ·have hlk:k<l.length:=by rw[HN.out];exact hlt
    have q0:=ac8 (HH.out.aS HW.out) k hlk
    have HT:=ah (JZ (p:=eqS s) ByteArray.empty hlk)
    have HE:=ah (fun h=>HA.out.trans (List.any_eq_true.2 ⟨_,getD_mem ByteArray.empty hlk,h⟩):eqS s (l.getD k ByteArray.empty)=true→A=true)
    clear hlk
    generalize l.getD k ByteArray.empty=x at*
    by_cases hx:x=s
    ·subst hx
     have HEX:=ah (HE.out (by simp[eqS]))
     clear HE HT
     go_wp2
     go_ret
     exact⟨HW.out,fun _=>⟨k,rfl⟩,fun h=>(by rw[HEX.out]at h;cases h)⟩
    ·have Gy:=ah (show(l.take (k+1)).any (eqS s)=false by rw[HT.out,qN.out];simp[eqS,hx])
     have hne:(s.toList==x.toList)=false:=by simpa using Cb (fun h=>hx h.symm:¬s=x)
     clear HE HT hx
     go_wp2
     go_roundw
     case rel=>exact⟨k+1,by omega,by go_num,Gy.out,HW.out⟩
     case measure=>simp[intOf];omega
   ·have hnk:m=k:=by omega
    have hall:A=false:=by
     rw[HA.out]
     have:=qN.out
     rwa [List.take_of_length_le (by rw[HN.out,hnk];exact Nat.le_refl _)]at this
    have yY:=ah hall;clear hall
    go_wp2
    go_ret
    exact⟨HW.out,fun h=>(by rw[yY.out]at h;cases h),fun _=>rfl⟩
theorem ac_ (l:List ByteArray) (s:ByteArray) (w:World) (v:Value) (h:Rd w v l.length (l.map .string)) (hl:l.length≤1000000):
 Calls Tryz.prog 133 #[v, .string s] w fun e w'=>e= .returned (.bool (tf (s∈l)))∧aj aF w w':=by
 have HI:=ah (ac9 l s w v h hl)
 obtain⟨a,c,rfl⟩:=Rd.sl h
 rw[←ac7]
 clear h
 generalize l.length=m at*
 generalize l.any (eqS s)=y at*
 cases y with
 |true=>
  go_enter Tryz.func133,Tryz.ntmps133
  go_wp2_with(go_at_call 169;refine HI.out.mono ?_;rintro e w1 ⟨hw1,hy,-⟩;obtain⟨k,he⟩:=hy rfl;subst he;have HW1:=ah hw1;clear hw1 hy)
  go_ret
  exact⟨by first|rfl|(simp;omega),HW1.out⟩
 |false=>
  go_enter Tryz.func133,Tryz.ntmps133
  go_wp2_with(go_at_call 169;refine HI.out.mono ?_;rintro e w1 ⟨hw1,-,hy⟩;have he:=hy rfl;subst he;have HW1:=ah hw1;clear hw1 hy)
  go_ret
  exact⟨by first|rfl|(simp;omega),HW1.out⟩
theorem VL (l:List ByteArray) (key:ByteArray) (a a':Option Addr) (n c n' c' b:Nat) (v:Value) (w:World) (h:Rd w v l.length (l.map .string)) (hl:l.length≤1000000) (hb:w.cell? ⟨b,0,none⟩=some v):
 Calls Tryz.prog 132 #[.agg #[.string key, .slice a n c, .slice a' n' c'], .pointer (some ⟨b,0,none⟩)] w fun e w'=>e= .returned (.bool (!tf (key∈l)))∧aj aF w w':=by
 have HC:=ah (fun W (f:aj aF w W)=>ac_ l key W v (h.aS f) hl)
 obtain⟨p,d,rfl⟩:=h.sl
 have hlt:b<w.heap.size:=World.block_lt_of_cell? _ _ hb
 clear h
 generalize l.length=m at*
 generalize tf (key∈l)=y at*
 go_enter Tryz.func132,Tryz.ntmps132
 go_wp2_with(go_at_call 133;refine(HC.out _ (aj.alloc _ _ _)).mono ?_;rintro e w1 ⟨rfl,hw1⟩;have HW1:=ah ((aj.alloc aF w _).aH hw1);clear hw1)
 go_ret
 exact⟨rfl,HW1.out⟩
end Go.Proofs.YtlhmbkjdfjoilaaGreat
