/- Words for the law ShSet: CaTreesP, CSame, Eq, TSame, Only1, Only2. -/
import Derived.Test.YtlhmbkjdfjoilaaGreatShSetG0
import Derived.Test.YtlhmbkjdfjoilaaGreatShSetG3
import Derived.Test.YtlhmbkjdfjoilaaGreatShSetG7
import Derived.Test.YtlhmbkjdfjoilaaGreatShSetG9
import Derived.Test.YtlhmbkjdfjoilaaGreatShSetG10
import Derived.Test.YtlhmbkjdfjoilaaGreatShSetG11
set_option linter.unusedSimpArgs false
set_option linter.unusedVariables false
set_option maxHeartbeats 32000000
set_option maxRecDepth 1000000
namespace Go.Proofs.YtlhmbkjdfjoilaaGreat
open Go.RowKit
def vH (xs:List Value) (l:List ByteArray):Prop:=∀j,j<l.length→∃a0 n0 c0 a1 n1 c1,xs[j*3]?=some (.string (l.getD j ByteArray.empty))∧xs[j*3+1]?=some (.slice a0 n0 c0)∧xs[j*3+2]?=some (.slice a1 n1 c1)
theorem xJ {Q:Nat→Prop} {w:World}:∀ {ks:aH} {os:List (Value×Value)},gQ Q w ks os→vH (fZ ks os) ks.keys
 | .nil,_,_=>fun j hj=>by cases hj
 | .cons key es sub rest,_,⟨ev,kv,lF,os,h1,h2,h3,_,h5⟩=>by
   subst h1
   obtain⟨a0,c0,rfl⟩:=h2.rd.sl
   obtain⟨a1,c1,rfl⟩:=h3.rd.sl
   have ih:=xJ h5
   intro j hj
   cases j with
   |zero=>exact⟨_,_,_,_,_,_,rfl,rfl,rfl⟩
   |succ j=>
    obtain⟨a0',rF,c0',a1',n1',c1',g0,g1,g2⟩:=ih j (by simpa[aH.keys]using hj)
    refine⟨a0',rF,c0',a1',n1',c1',?_,?_,?_⟩
    ·rw[show(j+1)*3=j*3+1+1+1 by omega];exact g0
    ·rw[show(j+1)*3+1=(j*3+1)+1+1+1 by omega];exact g1
    ·rw[show(j+1)*3+2=(j*3+2)+1+1+1 by omega];exact g2
theorem vH.append {xs ys:List Value} {l m:List ByteArray} (h:vH xs l) (g:vH ys m) (hl:xs.length=l.length*3):vH (xs++ys) (l++m):=fun j hj=>by
 by_cases hjl:j<l.length
 ·obtain⟨a0,n0,c0,a1,n1,c1,g0,g1,g2⟩:=h j hjl
  have e:(l++m).getD j ByteArray.empty=l.getD j ByteArray.empty:=by rw[List.getD_eq_getElem?_getD,List.getD_eq_getElem?_getD,List.getElem?_append_left hjl]
  rw[e]
  refine⟨a0,n0,c0,a1,n1,c1,?_,?_,?_⟩
  ·rw[List.getElem?_append_left (by omega)];exact g0
  ·rw[List.getElem?_append_left (by omega)];exact g1
  ·rw[List.getElem?_append_left (by omega)];exact g2
 ·have hjm:j-l.length<m.length:=by rw[List.length_append]at hj;omega
  obtain⟨a0,n0,c0,a1,n1,c1,g0,g1,g2⟩:=g _ hjm
  have e:(l++m).getD j ByteArray.empty=m.getD (j-l.length) ByteArray.empty:=by rw[List.getD_eq_getElem?_getD,List.getD_eq_getElem?_getD,List.getElem?_append_right (by omega)]
  rw[e]
  refine⟨a0,n0,c0,a1,n1,c1,?_,?_,?_⟩
  ·rw[List.getElem?_append_right (by omega),show j*3-xs.length=(j-l.length)*3 by omega];exact g0
  ·rw[List.getElem?_append_right (by omega),show j*3+1-xs.length=(j-l.length)*3+1 by omega];exact g1
  ·rw[List.getElem?_append_right (by omega),show j*3+2-xs.length=(j-l.length)*3+2 by omega];exact g2
theorem Jl {Q:Nat→Prop} {w:World} {ks:aH} {os:List (Value×Value)} (h:gQ Q w ks os):∀v∈fZ ks os,v.oneCell'=true:=fun v hv=>by
 obtain⟨i,hi,he⟩:=List.getElem_of_mem hv
 have hl:=h.length
 have hk:=ks.nM
 obtain⟨a0,n0,c0,a1,n1,c1,g0,g1,g2⟩:=xJ h (i/3) (by omega)
 have ho:(fZ ks os)[i]?=some v:=by rw[List.getElem?_eq_getElem hi,he]
 rcases(by omega:i=i/3*3∨i=i/3*3+1∨i=i/3*3+2)with e|e|e
 ·rw[e,g0]at ho;cases ho;rfl
 ·rw[e,g1]at ho;cases ho;rfl
 ·rw[e,g2]at ho;cases ho;rfl
theorem vI {d:Nat} {es:List aG} {ks:aH} (h:aY (d+1) es ks=true):eP none es=true∧fQ ks d none=true:=by
 simp only[aY,Bool.and_eq_true]at h
 exact⟨h.1.2,h.2⟩
theorem xK {d:Nat} {ks:aH} {k:ByteArray} (h:fQ ks d none=true) (hd:1≤d):aY d (ks.find k).1 (ks.find k).2=true:=by
 by_cases hm:k∈ks.keys
 ·exact((rE _ _ _ k h).1 hm).1
 ·rw[(rE _ _ _ k h).2 hm];exact Jd hd
theorem xM {d:Nat} {ks:aH} {k:ByteArray} (h:fQ ks d none=true) (hm:k∈ks.keys):1≤d:=by
 have:=((rE _ _ _ k h).1 hm).1
 simp only[aY,Bool.and_eq_true,decide_eq_true_eq]at this
 exact this.1.1
theorem DU:∀(ks:aH) (s:ByteArray),sizeT (ks.find s).1 (ks.find s).2≤dF ks
 | .nil,_=>Nat.le_refl _
 | .cons key es sub rest,s=>by
   unfold aH.find
   split
   ·simp only[sizeT,dF];omega
   ·have:=DU rest s;simp only[dF];omega
theorem Jm (ha hb:Int→Int→Bool) (a b:List aG):(eG ha hb a b).length≤a.length+b.length:=by
 have kl:∀h x,(jV h x).length≤1:=fun h x=>by unfold jV;split<;>simp
 fun_induction eG ha hb a b with
 |case1=>simp
 |case2 x a ih=>have:=kl hb x;simp only[List.length_append,List.length_cons,List.length_nil]at*;omega
 |case3 y b ih=>have:=kl ha y;simp only[List.length_append,List.length_cons,List.length_nil]at*;omega
 |case4 x a y b _ ih=>have:=kl hb x;simp only[List.length_append,List.length_cons]at*;omega
 |case5 x a y b _ _ ih=>have:=kl ha y;simp only[List.length_append,List.length_cons]at*;omega
 |case6 x a y b _ _ ih=>simp only[List.length_cons]at*;omega
theorem Jo (a b:List ByteArray):(iI a b).length≤a.length+b.length:=by
 fun_induction iI a b with
 |case1 b=>simp
 |case2 x a=>simp
 |case3 x a y b _ ih=>simp only[List.length_cons]at*;omega
 |case4 x a y b _ _ ih=>simp only[List.length_cons]at*;omega
 |case5 x a y b _ _ ih=>simp only[List.length_cons]at*;omega
theorem Jp:(Tryz.prog.info? 9).map (fun i=>(i.zero,i.size,i.bytes))=some (some (.string ByteArray.empty),1,16):=by kernel_rfl
theorem Ro {l:List ByteArray} {k:Nat} (hk:k<l.length):(l.take (k+1)).map Value.string=(l.take k).map .string++ [.string (l.getD k ByteArray.empty)]:=by
 rw[take_succ ByteArray.empty hk,List.map_append];rfl
theorem Rq {l:List ByteArray} {i:Nat} (h:i<l.length):l.drop i=l.getD i ByteArray.empty::l.drop (i+1):=by
 rw[List.drop_eq_getElem_cons h,getD_at _ h]
open Go.RowKit
def nZ (a b:aV) (k:Nat):Prop:=∀j,j<k→a.getD j (0,0,0)=b.getD j (0,0,0)
theorem nZ.all {a b:aV} (hl:a.length=b.length) (h:nZ a b a.length):a=b:=by
 refine List.ext_getElem hl fun j h1 h2=>?_
 have:=h j h1
 rwa [getD_at _ h1,getD_at _ h2]at this
theorem nZ.step {a b:aV} {k:Nat} (h:nZ a b k) (he:a.getD k (0,0,0)=b.getD k (0,0,0)):nZ a b (k+1):=fun j hj=>by
 rcases Nat.lt_succ_iff_lt_or_eq.1 hj with hj|rfl
 ·exact h j hj
 ·exact he
theorem Rt (w:World) (va vb:Value) (a b:aV) (ha:fB w va a) (hb:fB w vb b) (la:a.length≤100000) (lb:b.length≤100000):
 Calls Tryz.prog 45 #[va,vb] w fun e w'=>e= .returned (.bool (decide (a=b)))∧aj au w w':=by
 obtain⟨aA,cA,rfl⟩:=ha.sl
 obtain⟨aB,cB,rfl⟩:=hb.sl
 by_cases hab:a.length=b.length
 rotate_left 1
 ·have hne:decide (a=b)=false:=by rw[decide_eq_false_iff_not];intro h;exact hab (by rw[h])
  rw[hne]
  clear hne ha hb
  generalize a.length=n at*
  generalize b.length=m at*
  have hz:((n:Int)==(m:Int))=false:=by simp;omega
  go_enter Tryz.func45,Tryz.ntmps45
  go_wp2
  go_ret
  exact⟨rfl,aj.refl _ _⟩
 have HAB:=ah hab
 rw[←hab]at lb
 have hb2:fB w (.slice aB a.length cB) b:=by rw[hab];exact hb
 have HA:=ah ha;clear ha
 have HB:=ah hb2;clear hb hb2
 clear hab lb
 have hbl:b.length=a.length:=HAB.out.symm
 rw[hbl]
 clear hbl
 generalize hn:a.length=n at*
 have HN:=ah hn;clear hn
 go_enter Tryz.func45,Tryz.ntmps45
 go_wp2
 go_loopw [13] (fun i ww=>∃k:Nat,k≤n∧i= .int .i64 k∧nZ a b k∧aj au w ww) (fun i _=>n-(intOf i).toNat)
 case atStart=>exact⟨0,Nat.zero_le _,rfl,(fun j hj=>absurd hj (Nat.not_lt_zero _)),aj.refl _ _⟩
 case round=>
  obtain⟨k,hk,rfl,hlk,hf⟩:=hrel
  have jQ:=ah hlk;clear hlk
  have HF:=ah hf;clear hf
  by_cases hlt:k<n
  ·have hka:k<a.length:=by rw[HN.out];exact hlt
   have hkb:k<b.length:=by rw[←HAB.out];exact hlt
   rcases Rd.shape HA.out with⟨ad,he,h0⟩|⟨o1,off1,zT,he,hmax⟩
   ·exfalso;have:=HN.out;omega
   rcases Rd.shape HB.out with⟨ad,he2,h0⟩|⟨o2,off2,iU,he2,sK⟩
   ·exfalso;have:=HN.out;have:=HAB.out;omega
   injection he with e1 e2 e3
   injection he2 with e4 e5 e6
   subst e1 e3 e4 e6
   clear e2 e5
   obtain⟨p0,p1,p2⟩:=qR HA.out (by rw[HN.out]) k hka
   obtain⟨q0,q1,q2⟩:=qR HB.out HAB.out k hkb
   have p0:=HF.out.cell' p0 id
   have p1:=HF.out.cell' p1 id
   have p2:=HF.out.cell' p2 id
   have q0:=HF.out.cell' q0 id
   have q1:=HF.out.cell' q1 id
   have q2:=HF.out.cell' q2 id
   have hst:a.getD k (0,0,0)=b.getD k (0,0,0)→nZ a b (k+1):=jQ.out.step
   have HST:=ah hst;clear hst
   have hno:a.getD k (0,0,0)≠b.getD k (0,0,0)→a≠b:=fun h e=>h (by rw[e])
   have jm:=ah hno;clear hno
   generalize a.getD k (0,0,0)=s at*
   generalize b.getD k (0,0,0)=t at*
   by_cases hst:s=t
   ·subst hst
    go_wp2_with fail
    go_quiet (fail)
    go_wp2
    go_roundw
    case rel=>exact⟨k+1,by omega,by go_num,HST.out (by trivial),HF.out.eX⟩
    case measure=>simp[intOf];omega
   ·have jd:=ah (show false=decide (a=b)from by symm;rw[decide_eq_false_iff_not];exact jm.out hst)
    obtain⟨s0,s1,s2⟩:=s
    obtain⟨t0,t1,t2⟩:=t
    clear HST jm
    dsimp only at p0 p1 p2 q0 q1 q2
    by_cases g0:s0=t0
    ·subst g0
     by_cases g1:s1=t1
     ·subst g1
      have g2:s2≠t2:=fun h=>hst (by rw[h])
      clear hst
      have gb:((s2:Int)==t2)=false:=by simpa using g2
      go_wp2_with fail
      go_quiet (fail)
      go_wp2
      go_ret
      exact⟨bH jd.out,HF.out.eX⟩
     ·clear hst
      have gb:((s1:Int)==t1)=false:=by simpa using g1
      go_wp2_with fail
      go_quiet (fail)
      go_wp2
      go_ret
      exact⟨bH jd.out,HF.out.eX⟩
    ·clear hst
     have gb:((s0:Int)==t0)=false:=by simpa using g0
     go_wp2_with fail
     go_quiet (fail)
     go_wp2
     go_ret
     exact⟨bH jd.out,HF.out.eX⟩
  ·obtain rfl:n=k:=by omega
   have heq:decide (a=b)=true:=by rw[decide_eq_true_iff];exact nZ.all (HN.out.trans HAB.out) (by rw[HN.out];exact jQ.out)
   have rG:=ah heq;clear heq
   go_wp2
   go_ret
   exact⟨bH rG.out.symm,HF.out⟩
open Go.RowKit
def n_ (a b:List aG) (k:Nat):Prop:=∀j,j<k→a.getD j aG.zero=b.getD j aG.zero
theorem n_.all {a b:List aG} (hl:a.length=b.length) (h:n_ a b a.length):a=b:=by
 refine List.ext_getElem hl fun j h1 h2=>?_
 have:=h j h1
 rwa [getD_at _ h1,getD_at _ h2]at this
theorem n_.step {a b:List aG} {k:Nat} (h:n_ a b k) (he:a.getD k aG.zero=b.getD k aG.zero):n_ a b (k+1):=fun j hj=>by
 rcases Nat.lt_succ_iff_lt_or_eq.1 hj with hj|rfl
 ·exact h j hj
 ·exact he
theorem Ru (w:World) (va vb:Value) (a b:aV) (ha:fB w va a) (hb:fB w vb b) (la:a.length≤100000) (lb:b.length≤100000):
 Calls Tryz.prog 96 #[va,vb] w fun e w'=>e= .returned (.bool (decide (a=b)))∧aj au w w':=by
 obtain⟨aA,cA,rfl⟩:=ha.sl
 obtain⟨aB,cB,rfl⟩:=hb.sl
 by_cases hab:a.length=b.length
 rotate_left 1
 ·have hne:decide (a=b)=false:=by rw[decide_eq_false_iff_not];intro h;exact hab (by rw[h])
  rw[hne]
  clear hne ha hb
  generalize a.length=n at*
  generalize b.length=m at*
  have hz:((n:Int)==(m:Int))=false:=by simp;omega
  go_enter Tryz.func96,Tryz.ntmps96
  go_wp2
  go_ret
  exact⟨rfl,aj.refl _ _⟩
 have HAB:=ah hab
 rw[←hab]at lb
 have hb2:fB w (.slice aB a.length cB) b:=by rw[hab];exact hb
 have HA:=ah ha;clear ha
 have HB:=ah hb2;clear hb hb2
 clear hab lb
 have hbl:b.length=a.length:=HAB.out.symm
 rw[hbl]
 clear hbl
 generalize hn:a.length=n at*
 have HN:=ah hn;clear hn
 go_enter Tryz.func96,Tryz.ntmps96
 go_wp2
 go_loopw [13] (fun i ww=>∃k:Nat,k≤n∧i= .int .i64 k∧nZ a b k∧aj au w ww) (fun i _=>n-(intOf i).toNat)
 case atStart=>exact⟨0,Nat.zero_le _,rfl,(fun j hj=>absurd hj (Nat.not_lt_zero _)),aj.refl _ _⟩
 case round=>
  obtain⟨k,hk,rfl,hlk,hf⟩:=hrel
  have jQ:=ah hlk;clear hlk
  have HF:=ah hf;clear hf
  by_cases hlt:k<n
  ·have hka:k<a.length:=by rw[HN.out];exact hlt
   have hkb:k<b.length:=by rw[←HAB.out];exact hlt
   rcases Rd.shape HA.out with⟨ad,he,h0⟩|⟨o1,off1,zT,he,hmax⟩
   ·exfalso;have:=HN.out;omega
   rcases Rd.shape HB.out with⟨ad,he2,h0⟩|⟨o2,off2,iU,he2,sK⟩
   ·exfalso;have:=HN.out;have:=HAB.out;omega
   injection he with e1 e2 e3
   injection he2 with e4 e5 e6
   subst e1 e3 e4 e6
   clear e2 e5
   obtain⟨p0,p1,p2⟩:=qR HA.out (by rw[HN.out]) k hka
   obtain⟨q0,q1,q2⟩:=qR HB.out HAB.out k hkb
   have p0:=HF.out.cell' p0 id
   have p1:=HF.out.cell' p1 id
   have p2:=HF.out.cell' p2 id
   have q0:=HF.out.cell' q0 id
   have q1:=HF.out.cell' q1 id
   have q2:=HF.out.cell' q2 id
   have hst:a.getD k (0,0,0)=b.getD k (0,0,0)→nZ a b (k+1):=jQ.out.step
   have HST:=ah hst;clear hst
   have hno:a.getD k (0,0,0)≠b.getD k (0,0,0)→a≠b:=fun h e=>h (by rw[e])
   have jm:=ah hno;clear hno
   generalize a.getD k (0,0,0)=s at*
   generalize b.getD k (0,0,0)=t at*
   by_cases hst:s=t
   ·subst hst
    go_wp2_with fail
    go_quiet (fail)
    go_wp2
    go_roundw
    case rel=>exact⟨k+1,by omega,by go_num,HST.out (by trivial),HF.out.eX⟩
    case measure=>simp[intOf];omega
   ·have jd:=ah (show false=decide (a=b)from by symm;rw[decide_eq_false_iff_not];exact jm.out hst)
    obtain⟨s0,s1,s2⟩:=s
    obtain⟨t0,t1,t2⟩:=t
    clear HST jm
    dsimp only at p0 p1 p2 q0 q1 q2
    by_cases g0:s0=t0
    ·subst g0
     by_cases g1:s1=t1
     ·subst g1
      have g2:s2≠t2:=fun h=>hst (by rw[h])
      clear hst
      have gb:((s2:Int)==t2)=false:=by simpa using g2
      go_wp2_with fail
      go_quiet (fail)
      go_wp2
      go_ret
      exact⟨bH jd.out,HF.out.eX⟩
     ·clear hst
      have gb:((s1:Int)==t1)=false:=by simpa using g1
      go_wp2_with fail
      go_quiet (fail)
      go_wp2
      go_ret
      exact⟨bH jd.out,HF.out.eX⟩
    ·clear hst
     have gb:((s0:Int)==t0)=false:=by simpa using g0
     go_wp2_with fail
     go_quiet (fail)
     go_wp2
     go_ret
     exact⟨bH jd.out,HF.out.eX⟩
  ·obtain rfl:n=k:=by omega
   have heq:decide (a=b)=true:=by rw[decide_eq_true_iff];exact nZ.all (HN.out.trans HAB.out) (by rw[HN.out];exact jQ.out)
   have rG:=ah heq;clear heq
   go_wp2
   go_ret
   exact⟨bH rG.out.symm,HF.out⟩
theorem Rw (w:World) (va vb:Value) (a b:List aG) (ha:Rd w va a.length (fK a)) (hb:Rd w vb b.length (fK b)) (la:a.length≤100000) (lb:b.length≤100000):
 Calls Tryz.prog 134 #[va,vb] w fun e w'=>e= .returned (.bool (tf (a=b)))∧aj au w w':=by
 obtain⟨aA,cA,rfl⟩:=ha.sl
 obtain⟨aB,cB,rfl⟩:=hb.sl
 by_cases hab:a.length=b.length
 rotate_left 1
 ·have hne:tf (a=b)=false:=by exact bW fun h=>hab (by rw[h])
  rw[hne]
  clear hne ha hb
  generalize a.length=n at*
  generalize b.length=m at*
  have hz:((n:Int)==(m:Int))=false:=by simp;omega
  go_enter Tryz.func134,Tryz.ntmps134
  go_wp2
  go_ret
  exact⟨rfl,aj.refl _ _⟩
 have HAB:=ah hab
 rw[←hab]at lb
 have hb2:Rd w (.slice aB a.length cB) a.length (fK b):=by rw[hab];exact hb
 have HA:=ah ha;clear ha
 have HB:=ah hb2;clear hb hb2
 clear hab lb
 have hbl:b.length=a.length:=HAB.out.symm
 rw[hbl]
 clear hbl
 generalize hn:a.length=n at*
 have HN:=ah hn;clear hn
 go_enter Tryz.func134,Tryz.ntmps134
 go_wp2
 go_loopw [13] (fun i ww=>∃k:Nat,k≤n∧i= .int .i64 k∧n_ a b k∧aj au w ww) (fun i _=>n-(intOf i).toNat)
 case atStart=>exact⟨0,Nat.zero_le _,rfl,(fun j hj=>absurd hj (Nat.not_lt_zero _)),aj.refl _ _⟩
 case round=>
  obtain⟨k,hk,rfl,hlk,hf⟩:=hrel
  have jQ:=ah hlk;clear hlk
  have HF:=ah hf;clear hf
  by_cases hlt:k<n
  ·have hka:k<a.length:=by rw[HN.out];exact hlt
   have hkb:k<b.length:=by rw[←HAB.out];exact hlt
   rcases Rd.shape HA.out with⟨ad,he,h0⟩|⟨o1,off1,zT,he,hmax⟩
   ·exfalso;have:=HN.out;omega
   rcases Rd.shape HB.out with⟨ad,he2,h0⟩|⟨o2,off2,iU,he2,sK⟩
   ·exfalso;have:=HN.out;have:=HAB.out;omega
   injection he with e1 e2 e3
   injection he2 with e4 e5 e6
   subst e1 e3 e4 e6
   clear e2 e5
   obtain⟨p0,p1,p2,p3⟩:=nJ HA.out k hka
   obtain⟨q0,q1,q2,q3⟩:=nJ HB.out k hkb
   have p0:=HF.out.cell' p0 id
   have p1:=HF.out.cell' p1 id
   have p2:=HF.out.cell' p2 id
   have p3:=HF.out.cell' p3 id
   have q0:=HF.out.cell' q0 id
   have q1:=HF.out.cell' q1 id
   have q2:=HF.out.cell' q2 id
   have q3:=HF.out.cell' q3 id
   have hst:a.getD k aG.zero=b.getD k aG.zero→n_ a b (k+1):=jQ.out.step
   have HST:=ah hst;clear hst
   have hno:a.getD k aG.zero≠b.getD k aG.zero→a≠b:=fun h e=>h (by rw[e])
   have jm:=ah hno;clear hno
   generalize a.getD k aG.zero=s at*
   generalize b.getD k aG.zero=t at*
   by_cases hst:s=t
   ·subst hst
    go_wp2_with fail
    go_quiet (fail)
    go_wp2
    go_roundw
    case rel=>exact⟨k+1,by omega,by go_num,HST.out (by trivial),HF.out.eX⟩
    case measure=>simp[intOf];omega
   ·have jd:=ah (show false=tf (a=b)from(bW (jm.out hst)).symm)
    obtain⟨s0,s1,s2,s3⟩:=s
    obtain⟨t0,t1,t2,t3⟩:=t
    clear HST jm
    dsimp only at p0 p1 p2 p3 q0 q1 q2 q3
    by_cases g0:s0=t0
    ·subst g0
     by_cases g1:s1=t1
     ·subst g1
      by_cases g2:s2=t2
      ·subst g2
       have g3:s3≠t3:=fun h=>hst (by rw[h])
       clear hst
       have gb:((s3:Int)==t3)=false:=by simpa using g3
       go_wp2_with fail
       go_quiet (fail)
       go_wp2
       go_ret
       exact⟨bH jd.out,HF.out.eX⟩
      ·clear hst
       have gb:¬s2.toList=t2.toList:=fun h=>g2 (by rw[ByteArray.toList_eq,ByteArray.toList_eq]at h;exact ByteArray.ext (Array.toList_inj.1 h))
       go_wp2_with fail
       go_quiet (fail)
       go_wp2
       go_ret
       exact⟨bH jd.out,HF.out.eX⟩
     ·clear hst
      have gb:((s1:Int)==t1)=false:=by simpa using g1
      go_wp2_with fail
      go_quiet (fail)
      go_wp2
      go_ret
      exact⟨bH jd.out,HF.out.eX⟩
    ·clear hst
     have gb:((s0:Int)==t0)=false:=by simpa using g0
     go_wp2_with fail
     go_quiet (fail)
     go_wp2
     go_ret
     exact⟨bH jd.out,HF.out.eX⟩
  ·obtain rfl:n=k:=by omega
   have heq:tf (a=b)=true:=dH (n_.all (HN.out.trans HAB.out) (by rw[HN.out];exact jQ.out))
   have rG:=ah heq;clear heq
   go_wp2
   go_ret
   exact⟨bH rG.out.symm,HF.out⟩
open Go.RowKit
theorem zU {s t:ByteArray} (h:¬s=t):¬s.toList=t.toList:=fun e=>h (by rw[ByteArray.toList_eq,ByteArray.toList_eq]at e;exact ByteArray.ext (Array.toList_inj.1 e))
theorem DV (w:World) (a0 a1 b0 b1:Value) (T:TypeId) (W:World) (f:aj au ((w.alloc (.cells #[a0,a1] T)).alloc (.cells #[b0,b1] T)) W):
 W.cell? ⟨w.heap.size,0,none⟩=some a0∧W.cell? ⟨w.heap.size,1,none⟩=some a1∧W.cell? ⟨w.heap.size+1,0,none⟩=some b0∧W.cell? ⟨w.heap.size+1,1,none⟩=some b1:=by
 obtain⟨h1,_,_⟩:=mV w (.cells #[a0,a1] T) #[b0,b1] T
 have h0:((w.alloc (.cells #[a0,a1] T)).alloc (.cells #[b0,b1] T)).heap[w.heap.size]?=some (.cells #[a0,a1] T (0,0)):=(aj.alloc au _ _).blk (heap_alloc_new w _) id
 exact⟨f.cell' (aI h0 0 rfl) id,f.cell' (aI h0 1 rfl) id,f.cell' (aI h1 0 rfl) id,f.cell' (aI h1 1 rfl) id⟩
theorem vJ (w:World) (a0 a1 a2 b0 b1 b2:Value) (T:TypeId) (W:World) (f:aj au ((w.alloc (.cells #[a0,a1,a2] T)).alloc (.cells #[b0,b1,b2] T)) W):
 W.cell? ⟨w.heap.size,0,none⟩=some a0∧W.cell? ⟨w.heap.size,1,none⟩=some a1∧W.cell? ⟨w.heap.size,2,none⟩=some a2∧W.cell? ⟨w.heap.size+1,0,none⟩=some b0∧W.cell? ⟨w.heap.size+1,1,none⟩=some b1∧W.cell? ⟨w.heap.size+1,2,none⟩=some b2:=by
 obtain⟨h1,_,_⟩:=mV w (.cells #[a0,a1,a2] T) #[b0,b1,b2] T
 have h0:((w.alloc (.cells #[a0,a1,a2] T)).alloc (.cells #[b0,b1,b2] T)).heap[w.heap.size]?=some (.cells #[a0,a1,a2] T (0,0)):=(aj.alloc au _ _).blk (heap_alloc_new w _) id
 exact⟨f.cell' (aI h0 0 rfl) id,f.cell' (aI h0 1 rfl) id,f.cell' (aI h0 2 rfl) id,f.cell' (aI h1 0 rfl) id,f.cell' (aI h1 1 rfl) id,f.cell' (aI h1 2 rfl) id⟩
theorem Rx (key key':ByteArray) (b:Bool) (W:World) (a0 a1 b0 b1:Option Addr) (n m n' m' c0 c1 d0 d1:Nat)
 (HT:∀W',aj au W W'→Calls Tryz.prog 95 #[.agg #[.slice a0 n c0, .slice a1 m c1], .agg #[.slice b0 n' d0, .slice b1 m' d1]] W' fun e w'=>e= .returned (.bool b)∧aj au W' w'):
 Calls Tryz.prog 136 #[.agg #[.string key, .slice a0 n c0, .slice a1 m c1], .agg #[.string key', .slice b0 n' d0, .slice b1 m' d1]] W fun e w'=>e= .returned (.bool (tf (key=key')&&b))∧aj au W w':=by
 have Ry:=ah HT;clear HT
 have HF:=ah ((aj.alloc au W (.cells #[.string key, .slice a0 n c0, .slice a1 m c1] 52)).alloc1 (o:= .cells #[.string key', .slice b0 n' d0, .slice b1 m' d1] 52))
 by_cases hk:key=key'
 ·subst hk
  rw[dH rfl,Bool.true_and]
  go_enter Tryz.func136,Tryz.ntmps136
  go_wp2_with(go_at_call 95;refine(Ry.out _ HF.out).mono ?_;rintro e w1 ⟨rfl,hw1⟩;have HW1:=ah (HF.out.aF hw1);clear hw1)
  go_ret
  exact⟨rfl,HW1.out⟩
 ·rw[bW hk,Bool.false_and]
  have hne:=zU hk
  clear hk
  go_enter Tryz.func136,Tryz.ntmps136
  go_wp2
  go_ret
  exact⟨rfl,HF.out⟩
theorem Jq {ks ks':aH} {k:Nat} {key key':ByteArray} {es es':List aG} {sub sub' rest rest':aH} (h:ks.drop k= .cons key es sub rest) (h':ks'.drop k= .cons key' es' sub' rest'):
 (ks.drop k=ks'.drop k)↔((key=key'∧es=es'∧sub=sub')∧ks.drop (k+1)=ks'.drop (k+1)):=by
 rw[aH.qY k ks h,aH.qY k ks' h',h,h']
 constructor
 ·intro e
  injection e with e1 e2 e3 e4
  exact⟨⟨e1,e2,e3⟩,e4⟩
 ·rintro⟨⟨rfl,rfl,rfl⟩,rfl⟩
  rfl
theorem Rz (Q Q':Nat→Prop) (ks ks':aH) (w:World) (kv kv':Value) (os os':List (Value×Value)) (h:Rd w kv ks.len (fZ ks os)) (hf:gQ Q w ks os) (h':Rd w kv' ks'.len (fZ ks' os')) (hf':gQ Q' w ks' os') (hl:ks.len≤100000) (hl':ks'.len≤100000)
 (HG:∀n key es sub rest key' es' sub' rest',ks.drop n= .cons key es sub rest→ks'.drop n= .cons key' es' sub' rest'→∀W ev kv ev' kv',bC Q W ev kv es sub→bC Q' W ev' kv' es' sub'→
   Calls Tryz.prog 136 #[.agg #[.string key,ev,kv], .agg #[.string key',ev',kv']] W fun e w'=>e= .returned (.bool (tf (key=key'∧es=es'∧sub=sub')))∧aj au W w'):
 Calls Tryz.prog 135 #[kv,kv', .func (.func 136) #[] #[]] w fun e w'=>e= .returned (.bool (tf (ks=ks')))∧aj au w w':=by
 have eg:∀args w,(callFunc 136 args).run Tryz.prog w= .ok (.enter 136 args) w:=enters_of Tryz.func136 (by kernel_rfl) rfl
 obtain⟨a0,c0,rfl⟩:=h.sl
 obtain⟨a1,c1,rfl⟩:=h'.sl
 have fH:=ah h;clear h
 have jH:=ah hf;clear hf
 have tH:=ah h';clear h'
 have zV:=ah hf';clear hf'
 have zx:=ah HG;clear HG
 by_cases hlen:ks.len=ks'.len
 rotate_left 1
 ·rw[bW fun e=>hlen (by rw[e])]
  clear fH jH tH zV zx eg
  generalize ks.len=n at*
  generalize ks'.len=m at*
  have hz:((n:Int)==(m:Int))=false:=by simp;omega
  go_enter Tryz.func135,Tryz.ntmps135
  go_wp2
  go_ret
  exact⟨rfl,aj.refl _ _⟩
 have HLEN:=ah hlen.symm
 rw[←hlen]at tH⊢
 clear hlen hl'
 generalize hkl:ks.len=m at*
 have HM:=ah hkl;clear hkl
 go_enter Tryz.func135,Tryz.ntmps135
 go_wp2
 go_loopw [17] (fun i ww=>∃k:Nat,k≤m∧i= .int .i64 k∧(ks=ks'↔ks.drop k=ks'.drop k)∧aj au w ww) (fun i _=>m-(intOf i).toNat)
 case atStart=>exact⟨0,Nat.zero_le _,rfl,Iff.rfl,aj.refl _ _⟩
 case round=>
  obtain⟨k,hk,rfl,he,hw⟩:=hrel
  have HE:=ah he;clear he
  have HW:=ah hw;clear hw
  by_cases hlt:k<m
  ·obtain⟨key,es,sub,rest,hdr⟩:=aH.nI (n:=k) (ks:=ks) (by rw[HM.out];exact hlt)
   obtain⟨key',es',sub',rest',hdr'⟩:=aH.nI (n:=k) (ks:=ks') (by rw[HLEN.out];exact hlt)
   rcases Rd.shape fH.out with⟨ad,he,h0⟩|⟨b,off,cc,he,hmax⟩
   ·exfalso;omega
   rcases Rd.shape tH.out with⟨ad,he2,h0⟩|⟨b2,off2,iU,he2,sK⟩
   ·exfalso;omega
   injection he with e1 e2 e3
   injection he2 with e4 e5 e6
   subst e1 e3 e4 e6
   clear e2 e5
   obtain⟨ev,kv,p0,p1,p2,hta⟩:=lG (fH.out.aN HW.out) (jH.out.aN HW.out) hdr
   obtain⟨ev',kv',q0,q1,q2,htb⟩:=lG (tH.out.aN HW.out) (zV.out.aN HW.out) hdr'
   have HC:=ah (fun W (f:aj au wr W)=>zx.out k key es sub rest key' es' sub' rest' hdr hdr' W ev kv ev' kv' (hta.aN f) (htb.aN f))
   have HST:=ah (Jq hdr hdr')
   obtain⟨ae,ce,rfl⟩:=hta.ents.rd.sl
   obtain⟨o3,hk3,-⟩:=hta.kids
   obtain⟨ak,ck,rfl⟩:=hk3.rd.sl
   obtain⟨dI,dJ,rfl⟩:=htb.ents.rd.sl
   obtain⟨o4,hk4,-⟩:=htb.kids
   obtain⟨dK,dL,rfl⟩:=hk4.rd.sl
   clear hk3 hk4 hta htb hdr hdr'
   generalize es.length=n0 at*
   generalize sub.len=m0 at*
   generalize es'.length=n1 at*
   generalize sub'.len=m1 at*
   have bG:=ah ((aj.alloc au wr (.cells #[.string key, .slice ae n0 ce, .slice ak m0 ck] 52)).alloc1 (o:= .cells #[.string key', .slice dI n1 dJ, .slice dK m1 dL] 52))
   have XD:b<wr.heap.size:=World.block_lt_of_cell? _ _ p0
   have XE:b2<wr.heap.size:=World.block_lt_of_cell? _ _ q0
   by_cases hy:key=key'∧es=es'∧sub=sub'
   ·rw[dH hy]at HC
    have HY:=ah hy;clear hy
    go_wp2_with(go_at_call 136;refine(HC.out _ bG.out).mono ?_;rintro e w1 ⟨rfl,hw1⟩;have HW1:=ah (bG.out.aF hw1);clear hw1)
    go_roundw
    case rel=>exact⟨k+1,by omega,by go_num,HE.out.trans (HST.out.trans ⟨fun h=>h.2,fun h=>⟨HY.out,h⟩⟩),HW.out.aF HW1.out⟩
    case measure=>simp[intOf];omega
   ·rw[bW hy]at HC
    have HY:=ah hy;clear hy
    go_wp2_with(go_at_call 136;refine(HC.out _ bG.out).mono ?_;rintro e w1 ⟨rfl,hw1⟩;have HW1:=ah (bG.out.aF hw1);clear hw1)
    go_ret
    exact⟨bH (bW fun h=>HY.out (HST.out.1 (HE.out.1 h)).1).symm,HW.out.aF HW1.out⟩
  ·obtain rfl:m=k:=by omega
   have hend:ks=ks':=HE.out.2 (by rw[aH.nX (by rw[HM.out];exact Nat.le_refl _),aH.nX (by rw[HLEN.out];exact Nat.le_refl _)])
   have RD:=ah hend;clear hend
   go_wp2
   go_ret
   exact⟨bH (dH RD.out).symm,HW.out⟩
theorem RF (Q Q':Nat→Prop):∀(N:Nat) (es:List aG) (ks:aH) (es':List aG) (ks':aH) (w:World) (ev kv ev' kv':Value),dF ks<N→bC Q w ev kv es ks→bC Q' w ev' kv' es' ks'→sizeT es ks≤100000→sizeT es' ks'≤100000→
 Calls Tryz.prog 95 #[.agg #[ev,kv], .agg #[ev',kv']] w fun e w'=>e= .returned (.bool (tf (es=es'∧ks=ks')))∧aj au w w':=by
 intro N
 induction N with
 |zero=>intros;exfalso;omega
 |succ N gG=>
  intro es ks es' ks' w ev kv ev' kv' hN ht ht' hsz hsz'
  obtain⟨ae,ce,rfl⟩:=ht.ents.rd.sl
  obtain⟨os,hkr,dU⟩:=ht.kids
  obtain⟨ak,ck,rfl⟩:=hkr.rd.sl
  obtain⟨dI,dJ,rfl⟩:=ht'.ents.rd.sl
  obtain⟨os',fC,jA⟩:=ht'.kids
  obtain⟨dK,dL,rfl⟩:=fC.rd.sl
  have h1:es.length≤100000:=by unfold sizeT at hsz;omega
  have h2:es'.length≤100000:=by unfold sizeT at hsz';omega
  have h3:ks.len≤100000:=by have:=kV ks;unfold sizeT at hsz;omega
  have h4:ks'.len≤100000:=by have:=kV ks';unfold sizeT at hsz';omega
  have qB:=ah (fun W (f:aj au w W)=>Rw W _ _ es es' (ht.ents.rd.aN f) (ht'.ents.rd.aN f) h1 h2)
  have tJ:=ah (fun W (f:aj au w W)=>Rz Q Q' ks ks' W _ _ os os' (hkr.rd.aN f) (dU.aN f) (fC.rd.aN f) (jA.aN f) h3 h4 (fun n key es0 sub rest key' qH sub' rest' hd hd' W ev kv ev' kv' hta htb=>by
   obtain⟨a0,c0,rfl⟩:=hta.ents.rd.sl
   obtain⟨o3,hk3,_⟩:=hta.kids
   obtain⟨a1,c1,rfl⟩:=hk3.rd.sl
   obtain⟨b0,d0,rfl⟩:=htb.ents.rd.sl
   obtain⟨o4,hk4,_⟩:=htb.kids
   obtain⟨b1,d1,rfl⟩:=hk4.rd.sl
   have hss:=qx n hd
   have hst:=q_ n hd
   have hst':=q_ n hd'
   have:=Rx key key' (tf (es0=qH∧sub=sub')) W _ _ _ _ _ _ _ _ _ _ _ _ fun W' f=>gG es0 sub qH sub' W' _ _ _ _ (by omega) (hta.aN f) (htb.aN f) (by unfold sizeT at*;omega) (by unfold sizeT at*;omega)
   have he:(tf (key=key')&&tf (es0=qH∧sub=sub'))=tf (key=key'∧es0=qH∧sub=sub'):=by
    rw[Bool.eq_iff_iff];simp only[Bool.and_eq_true,uw]
   rw[he]at this
   exact this))
  clear hkr fC dU jA ht ht' gG hN hsz hsz' h1 h2 h3 h4
  have bG:=ah ((aj.alloc au w (.cells #[.slice ae es.length ce, .slice ak ks.len ck] 28)).alloc1 (o:= .cells #[.slice dI es'.length dJ, .slice dK ks'.len dL] 28))
  have bD:=ah (DV w (.slice ae es.length ce) (.slice ak ks.len ck) (.slice dI es'.length dJ) (.slice dK ks'.len dL) 28)
  by_cases hy:es=es'
  ·rw[dH hy]at qB
   have hall:tf (es=es'∧ks=ks')=tf (ks=ks'):=uz ⟨fun h=>h.2,fun h=>⟨hy,h⟩⟩
   rw[hall]
   clear hall hy
   generalize tf (ks=ks')=b at*
   generalize es.length=n at*
   generalize ks.len=m at*
   generalize es'.length=n' at*
   generalize ks'.len=m' at*
   go_enter Tryz.func95,Tryz.ntmps95
   go_wp2_with(first
    |(go_at_call 134;refine(qB.out _ bG.out).mono ?_;rintro e w1 ⟨rfl,hw1⟩;obtain⟨y0,y1,y2,y3⟩:=bD.out w1 hw1;have HW1:=ah (bG.out.aF hw1);clear hw1)
    |(go_at_call 135;refine(tJ.out _ HW1.out).mono ?_;rintro e w2 ⟨rfl,hw2⟩;have HW2:=ah (HW1.out.aF hw2);clear hw2))
   go_ret
   exact⟨rfl,HW2.out⟩
  ·rw[bW hy]at qB
   rw[bW fun h=>hy h.1]
   clear hy tJ
   generalize es.length=n at*
   generalize ks.len=m at*
   generalize es'.length=n' at*
   generalize ks'.len=m' at*
   go_enter Tryz.func95,Tryz.ntmps95
   go_wp2_with(go_at_call 134;refine(qB.out _ bG.out).mono ?_;rintro e w1 ⟨rfl,hw1⟩;have HW1:=ah (bG.out.aF hw1);clear hw1)
   go_ret
   exact⟨rfl,HW1.out⟩
open Go.RowKit
def eqS (s x:ByteArray):Bool:=decide (x=s)
theorem RG (l:List ByteArray) (s:ByteArray):l.any (eqS s)=tf (s∈l):=by
 refine uD ?_
 rw[List.any_eq_true]
 unfold eqS
 simp
theorem RH {w:World} {b off c n:Nat} {l:List ByteArray} (h:Rd w (.slice (some ⟨b,off,none⟩) n c) n (l.map .string)) (k:Nat) (hk:k<l.length):w.cell? ⟨b,off+k,none⟩=some (.string (l.getD k ByteArray.empty)):=
 h.cell k _ (by rw[List.getElem?_map,List.getElem?_eq_getElem hk,getD_at _ hk];rfl)
theorem RI (l:List ByteArray) (s:ByteArray) (w:World) (v:Value) (h:Rd w v l.length (l.map .string)) (hl:l.length≤1000000):
 Calls Tryz.prog 169 #[v, .string s] w fun e w'=>aj au w w'∧(l.any (eqS s)=true→∃k:Nat,e= .returned (.int .i64 k))∧(l.any (eqS s)=false→e= .returned (.int .i64 (-1))):=by
 obtain⟨A,hA⟩:∃A,A=l.any (eqS s):=⟨_,rfl⟩
 have HA:=ah hA
 rw[←hA]
 clear hA
 rcases Rd.shape h with⟨ad,rfl,h0⟩|⟨p,off,c,rfl,hmax⟩
 ·have wU:=ah (show A=false by rw[HA.out,List.eq_nil_of_length_eq_zero h0];rfl)
  clear h h0
  go_enter Tryz.func169,Tryz.ntmps169
  go_wp2
  go_loop [8] (fun i=>i= .int .i64 0) (fun _=>0)
  case atStart=>rfl
  case round=>
   obtain rfl:=hrel
   go_wp2
   go_ret
   exact⟨aj.refl _ _,fun h=>(by rw[wU.out]at h;cases h),fun _=>rfl⟩
 ·have HH:=ah h;clear h
  generalize hn:l.length=m at*
  have HN:=ah hn;clear hn
  go_enter Tryz.func169,Tryz.ntmps169
  go_wp2
  go_loopw [8] (fun i W=>∃k:Nat,k≤m∧i= .int .i64 k∧(l.take k).any (eqS s)=false∧aj au w W) (fun i _=>m-(intOf i).toNat)
  case atStart=>exact⟨0,Nat.zero_le _,rfl,by simp,aj.refl _ _⟩
  case round=>
   obtain⟨k,hk,rfl,ha,hw⟩:=hrel
   have HW:=ah hw;clear hw
   have mM:=ah ha;clear ha
   by_cases hlt:k<m
   ·have hlk:k<l.length:=by rw[HN.out];exact hlt
    have q0:=RH (HH.out.aN HW.out) k hlk
    have HT:=ah (CS (p:=eqS s) ByteArray.empty hlk)
    have HE:=ah (fun h=>HA.out.trans (List.any_eq_true.2 ⟨_,getD_mem ByteArray.empty hlk,h⟩):eqS s (l.getD k ByteArray.empty)=true→A=true)
    clear hlk
    generalize l.getD k ByteArray.empty=x at*
    by_cases hx:x=s
    ·subst hx
     have HEX:=ah (HE.out (by simp[eqS]))
     clear HE HT
     go_wp2
     go_ret
     exact⟨HW.out,fun _=>⟨k,rfl⟩,fun h=>(by rw[HEX.out]at h;cases h)⟩
    ·have wV:=ah (show(l.take (k+1)).any (eqS s)=false by rw[HT.out,mM.out];simp[eqS,hx])
     have hne:(s.toList==x.toList)=false:=by simpa using zU (fun h=>hx h.symm:¬s=x)
     clear HE HT hx
     go_wp2
     go_roundw
     case rel=>exact⟨k+1,by omega,by go_num,wV.out,HW.out⟩
     case measure=>simp[intOf];omega
   ·have hnk:m=k:=by omega
    have hall:A=false:=by
     rw[HA.out]
     have:=mM.out
     rwa [List.take_of_length_le (by rw[HN.out,hnk];exact Nat.le_refl _)]at this
    have wW:=ah hall;clear hall
    go_wp2
    go_ret
    exact⟨HW.out,fun h=>(by rw[wW.out]at h;cases h),fun _=>rfl⟩
theorem RJ (l:List ByteArray) (s:ByteArray) (w:World) (v:Value) (h:Rd w v l.length (l.map .string)) (hl:l.length≤1000000):
 Calls Tryz.prog 133 #[v, .string s] w fun e w'=>e= .returned (.bool (tf (s∈l)))∧aj au w w':=by
 have HI:=ah (RI l s w v h hl)
 obtain⟨a,c,rfl⟩:=Rd.sl h
 rw[←RG]
 clear h
 generalize l.length=m at*
 generalize l.any (eqS s)=y at*
 cases y with
 |true=>
  go_enter Tryz.func133,Tryz.ntmps133
  go_wp2_with(go_at_call 169;refine HI.out.mono ?_;rintro e w1 ⟨hw1,hy,-⟩;obtain⟨k,he⟩:=hy rfl;subst he;have HW1:=ah hw1;clear hw1 hy)
  go_ret
  exact⟨by first|rfl|(simp;omega),HW1.out⟩
 |false=>
  go_enter Tryz.func133,Tryz.ntmps133
  go_wp2_with(go_at_call 169;refine HI.out.mono ?_;rintro e w1 ⟨hw1,-,hy⟩;have he:=hy rfl;subst he;have HW1:=ah hw1;clear hw1 hy)
  go_ret
  exact⟨by first|rfl|(simp;omega),HW1.out⟩
theorem Jr (l:List ByteArray) (key:ByteArray) (a a':Option Addr) (n c n' c' b:Nat) (v:Value) (w:World) (h:Rd w v l.length (l.map .string)) (hl:l.length≤1000000) (hb:w.cell? ⟨b,0,none⟩=some v):
 Calls Tryz.prog 132 #[.agg #[.string key, .slice a n c, .slice a' n' c'], .pointer (some ⟨b,0,none⟩)] w fun e w'=>e= .returned (.bool (!tf (key∈l)))∧aj au w w':=by
 have HC:=ah (fun W (f:aj au w W)=>RJ l key W v (h.aN f) hl)
 obtain⟨p,d,rfl⟩:=h.sl
 have hlt:b<w.heap.size:=World.block_lt_of_cell? _ _ hb
 clear h
 generalize l.length=m at*
 generalize tf (key∈l)=y at*
 go_enter Tryz.func132,Tryz.ntmps132
 go_wp2_with(go_at_call 133;refine(HC.out _ (aj.alloc _ _ _)).mono ?_;rintro e w1 ⟨rfl,hw1⟩;have HW1:=ah ((aj.alloc au w _).aF hw1);clear hw1)
 go_ret
 exact⟨rfl,HW1.out⟩
open Go.RowKit
def bF (p:ByteArray→Bool):aH→aH
 | .nil=> .nil
 | .cons key es sub rest=>if p key=true then .cons key es sub (bF p rest)else bF p rest
theorem Js (p:ByteArray→Bool):∀l:List bg,bF p (mkK l)=mkK (l.filter fun q=>p q.key)
 |[]=>rfl
 |q::l=>by
  show(if p q.key=true then aH.cons q.key q.es q.sub (bF p (mkK l))else bF p (mkK l))=_
  rw[Js p l,List.filter_cons]
  split<;>rfl
def bg.shaped (q:bg):Prop:=(∃a n c,q.ev= .slice a n c)∧∃a n c,q.kv= .slice a n c
theorem xO:∀(l:List bg) (j:Nat),j<l.length→(l.flatMap bg.cells)[j*3]?=some (.string (l.getD j default).key)∧(l.flatMap bg.cells)[j*3+1]?=some (l.getD j default).ev∧(l.flatMap bg.cells)[j*3+2]?=some (l.getD j default).kv
 |[],_,h=>by cases h
 |q::l,0,_=>⟨rfl,rfl,rfl⟩
 |q::l,j+1,h=>by
  obtain⟨h1,h2,h3⟩:=xO l j (by simpa using h)
  refine⟨?_,?_,?_⟩
  ·rw[show(j+1)*3=j*3+1+1+1 by omega];exact h1
  ·rw[show(j+1)*3+1=(j*3+1)+1+1+1 by omega];exact h2
  ·rw[show(j+1)*3+2=(j*3+2)+1+1+1 by omega];exact h3
theorem Jt:∀(l:List bg) (i:Nat) (q:bg),i<l.length→(l.set i q).flatMap bg.cells=(((l.flatMap bg.cells).set (i*3) (.string q.key)).set (i*3+1) q.ev).set (i*3+2) q.kv
 |[],_,_,h=>by cases h
 |x::l,0,q,_=>rfl
 |x::l,i+1,q,h=>by
  have ih:=Jt l i q (by simpa using h)
  rw[aO,List.flatMap_cons,ih,List.flatMap_cons]
  rw[show(i+1)*3=i*3+1+1+1 by omega,show i*3+1+1+1+1=(i*3+1)+1+1+1 by omega,show i*3+1+1+1+2=(i*3+2)+1+1+1 by omega]
  rfl
theorem RN (l:List bg) (i:Nat):(l.take i).flatMap bg.cells=(l.flatMap bg.cells).take (i*3):=by
 induction l generalizing i with
 |nil=>simp
 |cons q l ih=>
  cases i with
  |zero=>simp
  |succ i=>
   rw[List.take_succ_cons,List.flatMap_cons,ih,List.flatMap_cons,show(i+1)*3=i*3+1+1+1 by omega]
   rfl
theorem RQ (w:World) (b o n c:Nat) (hn:0<n) (hc:∀j,j<n*3→(w.cell? ⟨b,o+j,none⟩).isSome=true) (hf:∀j,j<n*3→w.frozen? ⟨b,o+j,none⟩=false):
 ∃Z:List Value,Z.length=n*3∧∀ty,(Builtin.clear_ #[26] ty #[.slice (some ⟨b,o,none⟩) n c]).run Tryz.prog w= .ok (.tuple #[]) (w.setCells b o Z):=by
 obtain⟨Z,hZ⟩:∃Z,Z=(Builtin.zeroCells #[.string ByteArray.empty, .slice none 0 0, .slice none 0 0] n).toList:=⟨_,rfl⟩
 have hl:Z.length=n*3:=by rw[hZ,Array.length_toList,size_zeroCells];rfl
 have h1:∀v∈Z,v.oneCell'=true:=fun v hv=>by
  rw[hZ]at hv
  simp[Builtin.zeroCells]at hv
  obtain⟨i,_,rfl⟩:=hv
  have:i%3<3:=Nat.mod_lt _ (by decide)
  rcases(by omega:i%3=0∨i%3=1∨i%3=2)with h|h|h<;>simp[h,Value.oneCell']
 refine⟨Z,hl,fun ty=>?_⟩
 have hst:=run_storeCells_cells (P:=Tryz.prog) b o Z 0 w (by rw[hl];simpa using hc) (by rw[hl];simpa using hf) h1
 simp only[Nat.add_zero]at hst
 obtain⟨m,rfl⟩:∃m,n=m+1:=⟨n-1,by omega⟩
 have hz:∀w,(zeroValue 52).run Tryz.prog w= .ok (.agg #[.string ByteArray.empty, .slice none 0 0, .slice none 0 0]) w:=Tryz.zeroValue52
 have hv:(Value.agg #[.string ByteArray.empty, .slice none 0 0, .slice none 0 0]).cells= #[.string ByteArray.empty, .slice none 0 0, .slice none 0 0]:=rfl
 simp[Builtin.clear_,run_underlying Tryz.underlying26,hz,hv,←hZ,hst]
noncomputable def fD (keys:List ByteArray) (q:bg):Bool:= !tf (q.key∈keys)
theorem RS (keys:List ByteArray) (l:List bg) (b:Nat) (w:World) (v vk:Value) (h:Rd w v l.length (l.flatMap bg.cells)) (hs:∀q∈l,q.shaped) (hl:l.length≤100000) (hk:Rd w vk keys.length (keys.map .string)) (hkl:keys.length≤1000000) (hb:w.cell? ⟨b,0,none⟩=some vk):
 Calls Tryz.prog 168 #[v, .func (.func 132) #[] #[.pointer (some ⟨b,0,none⟩)]] w fun e w'=>aj au w w'∧(l.any (fD keys)=true→∃k:Nat,e= .returned (.int .i64 k)∧k<l.length∧fD keys (l.getD k default)=true∧(l.take k).any (fD keys)=false)∧(l.any (fD keys)=false→e= .returned (.int .i64 (-1))):=by
 have eg:∀args w,(callFunc 132 args).run Tryz.prog w= .ok (.enter 132 args) w:=enters_of Tryz.func132 (by kernel_rfl) rfl
 have HP:=ah (fun key a n c a' n' c' W (f:aj au w W)=>Jr keys key a a' n c n' c' b vk W (hk.aN f) hkl (f.cell' hb id));clear hb hk
 obtain⟨A,hA⟩:∃A,A=l.any (fD keys):=⟨_,rfl⟩
 have HA:=ah hA
 rw[←hA]
 clear hA
 rcases Rd.shape h with⟨ad,rfl,h0⟩|⟨p,off,c,rfl,hmax⟩
 ·have wU:=ah (show A=false by rw[HA.out,List.eq_nil_of_length_eq_zero h0];rfl)
  clear h h0 hs
  go_enter Tryz.func168,Tryz.ntmps168
  go_wp2
  go_loop [8] (fun i=>i= .int .i64 0) (fun _=>0)
  case atStart=>rfl
  case round=>
   obtain rfl:=hrel
   go_wp2
   go_ret
   exact⟨aj.refl _ _,fun h=>(by rw[wU.out]at h;cases h),fun _=>rfl⟩
 ·have HH:=ah h;clear h
  have rH:=ah hs;clear hs
  generalize hn:l.length=m at*
  have HN:=ah hn;clear hn
  go_enter Tryz.func168,Tryz.ntmps168
  go_wp2
  go_loopw [8] (fun i W=>∃k:Nat,k≤m∧i= .int .i64 k∧(l.take k).any (fD keys)=false∧aj au w W) (fun i _=>m-(intOf i).toNat)
  case atStart=>exact⟨0,Nat.zero_le _,rfl,by simp,aj.refl _ _⟩
  case round=>
   obtain⟨k,hk,rfl,ha,hw⟩:=hrel
   have mM:=ah ha;clear ha
   have HW:=ah hw;clear hw
   by_cases hlt:k<m
   ·have hlk:k<l.length:=by rw[HN.out];exact hlt
    obtain⟨g0,g1,g2⟩:=xO l k hlk
    obtain⟨⟨a0,n0,c0,e0⟩,a1,n1,c1,e1⟩:=rH.out _ (getD_mem default hlk)
    rw[e0]at g1
    rw[e1]at g2
    have r:=HH.out.aN HW.out
    have q0:wr.cell? ⟨p,off+k*3,none⟩=_:=r.cell _ _ g0
    have q1:wr.cell? ⟨p,off+k*3+1,none⟩=_:=r.cell (k*3+1) _ g1
    have q2:wr.cell? ⟨p,off+k*3+2,none⟩=_:=r.cell (k*3+2) _ g2
    clear g0 g1 g2 e0 e1 r
    have HT:=ah (CS (p:=fD keys) default hlk)
    have HE:=ah (fun h=>HA.out.trans (List.any_eq_true.2 ⟨_,getD_mem default hlk,h⟩):fD keys (l.getD k default)=true→A=true)
    have HC:=ah (HP.out (l.getD k default).key a0 n0 c0 a1 n1 c1)
    have hpe:(!tf ((l.getD k default).key∈keys))=fD keys (l.getD k default):=rfl
    rw[hpe]at HC
    clear hpe hlk
    generalize (l.getD k default).key=x0 at*
    cases hy:fD keys (l.getD k default)with
    |true=>
     rw[hy]at HC
     have HEX:=ah (HE.out hy)
     have HY:=ah hy;clear hy
     clear HE HT
     go_wp2_with(go_at_call 132;refine(HC.out _ HW.out).mono ?_;rintro e w1 ⟨rfl,hw1⟩;have HW1:=ah (HW.out.aF hw1);clear hw1)
     go_ret
     exact⟨HW1.out,fun _=>⟨k,rfl,hlt,HY.out,mM.out⟩,fun h=>(by rw[HEX.out]at h;cases h)⟩
    |false=>
     rw[hy]at HC
     have wV:=ah (show(l.take (k+1)).any (fD keys)=false by rw[HT.out,mM.out,hy];rfl)
     clear HE HT hy
     go_wp2_with(go_at_call 132;refine(HC.out _ HW.out).mono ?_;rintro e w1 ⟨rfl,hw1⟩;have HW1:=ah (HW.out.aF hw1);clear hw1)
     go_roundw
     case rel=>exact⟨k+1,by omega,by go_num,wV.out,HW1.out⟩
     case measure=>simp[intOf];omega
   ·have hnk:m=k:=by omega
    have hall:A=false:=by
     rw[HA.out]
     have:=mM.out
     rwa [List.take_of_length_le (by rw[HN.out,hnk];exact Nat.le_refl _)]at this
    have wW:=ah hall;clear hall
    go_wp2
    go_ret
    exact⟨HW.out,fun h=>(by rw[wW.out]at h;cases h),fun _=>rfl⟩
theorem OwnAt.set0 {w0 w:World} {e:TypeId} {size g n c:Nat} {xs:List Value} (h:OwnAt w0 w e size (.slice (some ⟨g,0,none⟩) n c) n xs) (hn:0<n) (j:Nat) (u:Value):OwnAt w0 (w.setCell ⟨g,j,none⟩ u) e size (.slice (some ⟨g,0,none⟩) n c) n (xs.set j u):=by
 obtain⟨g',c',he,_,_,_,_,_,hset⟩:=h.row hn
 cases he
 exact hset j u
theorem OwnAt.at0 {w0 w:World} {e:TypeId} {size g n c:Nat} {xs:List Value} (h:OwnAt w0 w e size (.slice (some ⟨g,0,none⟩) n c) n xs) (hn:0<n):w0.heap.size≤g∧g<w.heap.size∧n≤c∧(∀j u,xs[j]?=some u→w.cell? ⟨g,j,none⟩=some u)∧∀j,w.frozen? ⟨g,j,none⟩=false:=by
 obtain⟨g',c',he,h1,h2,h3,h4,h5,_⟩:=h.row hn
 cases he
 exact⟨h1,h2,h3,h4,h5⟩
structure rJ (keys:List ByteArray) (l:List bg) (w0 w W:World) (g n c i j:Nat) (m:List bg):Prop where
 own:OwnAt w0 W 52 3 (.slice (some ⟨g,0,none⟩) n c) n (m.flatMap bg.cells)
 aJ:aj (dh (.slice (some ⟨g,0,none⟩) n c)) w W
 len:m.length=n
 lt:i<j
 done:m.take i=(l.take j).filter fun q=> !fD keys q
 rest:m.drop j=l.drop j
theorem DW {l:List bg} {p:bg→Bool} {j:Nat} (h:j<l.length):(l.take (j+1)).filter p=(l.take j).filter p++if p (l.getD j default)=true then [l.getD j default]else []:=by
 rw[take_succ default h,List.filter_append,List.filter_cons]
 split<;>simp
theorem rJ.skip {keys:List ByteArray} {l:List bg} {w0 w W W':World} {g n c i j:Nat} {m:List bg} (h:rJ keys l w0 w W g n c i j m) (hj:j<n) (hl:l.length=n) (f:aj au W W') (ho:fD keys (l.getD j default)=true):rJ keys l w0 w W' g n c i (j+1) m:=
 ⟨h.own.keep f,h.aJ.aF f,h.len,by have:=h.lt;omega,by rw[h.done,DW (by omega),ho];simp,by rw[←List.drop_drop,h.rest,List.drop_drop]⟩
theorem rJ.take {keys:List ByteArray} {l:List bg} {w0 w W W':World} {g n c i j:Nat} {m:List bg} (h:rJ keys l w0 w W g n c i j m) (hj:j<n) (hl:l.length=n) (f:aj au W W') (ho:fD keys (l.getD j default)=false):
 rJ keys l w0 w (((W'.setCell ⟨g,i*3,none⟩ (.string (l.getD j default).key)).setCell ⟨g,i*3+1,none⟩ (l.getD j default).ev).setCell ⟨g,i*3+2,none⟩ (l.getD j default).kv) g n c (i+1) (j+1) (m.set i (l.getD j default)):=by
 have hij:=h.lt
 have hn:0<n:=by omega
 refine⟨?_,?_,by rw[List.length_set,h.len],by omega,?_,?_⟩
 ·rw[Jt _ _ _ (by rw[h.len];omega)]
  exact(((h.own.keep f).set0 hn _ _).set0 hn _ _).set0 hn _ _
 ·have hr:dh (.slice (some ⟨g,0,none⟩) n c) g:=rfl
  exact(((h.aJ.aF f).set1 (p:=⟨g,i*3,none⟩) (.inl hr)).set1 (p:=⟨g,i*3+1,none⟩) (.inl hr)).set1 (p:=⟨g,i*3+2,none⟩) (.inl hr)
 ·rw[DW (by omega),←h.done,ho]
  simp only[Bool.not_false,if_true]
  rw[take_succ default (by rw[List.length_set,h.len];omega),List.take_set_of_le (Nat.le_refl _),getD_at default (by rw[List.length_set,h.len];omega),List.getElem_set_self]
 ·rw[List.drop_set_of_lt (by omega),←List.drop_drop,h.rest,List.drop_drop]
end Go.Proofs.YtlhmbkjdfjoilaaGreat
