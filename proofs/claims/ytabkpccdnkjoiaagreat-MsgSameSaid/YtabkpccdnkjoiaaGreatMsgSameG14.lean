/- Words for the law MsgSame: Enc2, VecEnc, RTake, RTake2, RIn, RIText, Takes0, Puts0, PackGet, GetAt. -/
import Derived.Test.YtabkpccdnkjoiaaGreatMsgSameG0
import Derived.Test.YtabkpccdnkjoiaaGreatMsgSameG4
import Derived.Test.YtabkpccdnkjoiaaGreatMsgSameG9
import Derived.Test.YtabkpccdnkjoiaaGreatMsgSameG12
import Derived.Test.YtabkpccdnkjoiaaGreatMsgSameG13
import Derived.Deep.RegionWith
import Derived.Deep.RegionHeld3
import Derived.Deep.RegionLaw
set_option linter.unusedSimpArgs false
set_option linter.unusedVariables false
set_option maxHeartbeats 32000000
set_option maxRecDepth 1000000
namespace Go.Proofs.YtabkpccdnkjoiaaGreat
open Go.RowKit
structure tK (B:dR) (d:Nat) (bs:List UInt8) (es:List aG) (ks:aH) (rest:List UInt8):Prop where
 eq:bs=eX es ks++rest
 Fp:∀e∈es,e.bd B
 Ac:ks.bd B
 deep:kP ks+1≤d
structure Fq (B:dR) (d:Nat) (bs:List UInt8) (m:Nat) (ks:aH) (rest:List UInt8):Prop where
 eq:bs=iE ks++rest
 len:ks.len=m
 Ac:ks.bd B
 deep:kP ks≤d
def rV (B:dR) (d:Nat) (st:Option (List UInt8)) (es:List aG) (ks:aH) (s:Option (List UInt8)):Prop:=
 (∃bs rest,st=some bs∧s=some rest∧tK B d bs es ks rest)∨(s=none∧∀bs es ks rest,st=some bs→¬tK B d bs es ks rest)
theorem Jv:∀(l:List fM) (r:aH),iE (nS l r)=iE (mkK l)++iE r
 |[],_=>rfl
 |q::l,r=>by
  show iE (.cons q.key q.es q.sub (nS l r))=iE (.cons q.key q.es q.sub (mkK l))++_
  rw[yR,yR,Jv l r]
  simp only[List.append_assoc]
theorem PI {B:dR}:∀ {l:List fM} {r:aH},(mkK l).bd B→r.bd B→(nS l r).bd B
 |[],_,_,h=>h
 |q::l,r,h,k=>⟨h.1,h.2.1,h.2.2.1,PI (l:=l) h.2.2.2 k⟩
theorem PK {d:Nat}:∀ {l:List fM} {r:aH},kP (mkK l)≤d→kP r≤d→kP (nS l r)≤d
 |[],_,_,h=>h
 |q::l,r,h,k=>by
  have h:max (1+kP q.sub) (kP (mkK l))≤d:=h
  have:=PK (l:=l) (r:=r) (d:=d) (by omega) k
  show max (1+kP q.sub) (kP (nS l r))≤d
  omega
def aH.Ad:Nat→aH→List fM
 |0,_=> []
 |_+1, .nil=> []
 |n+1, .cons key es sub rest=>⟨key,es,sub, .slice none 0 0, .slice none 0 0⟩::aH.Ad n rest
theorem aH.take_drop:∀(n:Nat) (ks:aH),ks=nS (ks.Ad n) (ks.drop n)
 |0,_=>rfl
 |_+1, .nil=>rfl
 |n+1, .cons key es sub rest=>by
  show _=aH.cons key es sub (nS (rest.Ad n) (rest.drop n))
  rw[←aH.take_drop n rest]
theorem aH.PL:∀(n:Nat) (ks:aH),n≤ks.len→(ks.Ad n).length=n
 |0,_,_=>rfl
 |_+1, .nil,h=>by cases h
 |n+1, .cons _ _ _ rest,h=>by
  show(rest.Ad n).length+1=n+1
  rw[aH.PL n rest (by have h:n+1≤rest.len+1:=h;omega)]
theorem Fq.next {B:dR} {d m:Nat} {b3 r rest:List UInt8} {ks:aH} {l:List fM} (h:Fq B d b3 m ks rest) (hb:b3=iE (mkK l)++r) (hk:l.length<m):
 ∃key es sub q,r=iR key++(eX es sub++q)∧(key.size:Int)≤B.s∧tK B d (eX es sub++q) es sub q:=by
 have hlen:=h.len
 obtain⟨key,es,sub,PN,hd⟩:=aH.rM (n:=l.length) (ks:=ks) (by omega)
 have hq:(ks.Ad l.length).length=l.length:=aH.PL _ _ (by omega)
 have he:=h.eq
 rw[aH.take_drop l.length ks,Jv,hb,List.append_assoc]at he
 obtain⟨_,hr⟩:=Fg (by rw[vX,vX,hq]) he
 rw[hd,yR]at hr
 have hbd:=h.Ac.drop l.length
 rw[hd]at hbd
 have hdp:=PE l.length ks
 rw[hd]at hdp
 have hdp:max (1+kP sub) (kP PN)≤kP ks:=hdp
 have:=h.deep
 exact⟨key,es,sub,iE PN++rest,by rw[hr];simp only[List.append_assoc],hbd.1,rfl,hbd.2.1,hbd.2.2.1,by omega⟩
structure PO (B:dR) (d:Nat) (b3:List UInt8) (l:List fM) (r:List UInt8):Prop where
 eq:b3=iE (mkK l)++r
 bd:(mkK l).bd B
 deep:kP (mkK l)≤d
def uX (B:dR) (d:Nat) (s3:Option (List UInt8)) (m:Nat) (l:List fM) (s:Option (List UInt8)):Prop:=
 (∃b3 r,s3=some b3∧s=some r∧PO B d b3 l r)∨(s=none∧∀b3 ks rest,s3=some b3→¬Fq B d b3 m ks rest)
theorem uX.start (B:dR) (d:Nat) (s3:Option (List UInt8)) (m:Nat):uX B d s3 m [] s3:=by
 cases s3 with
 |none=>exact .inr ⟨rfl,fun _ _ _ h=>by cases h⟩
 |some b=>exact .inl ⟨b,b,rfl,rfl,rfl,trivial,Nat.zero_le _⟩
theorem uX.good {B:dR} {d m:Nat} {s3:Option (List UInt8)} {l:List fM} {r:List UInt8} (h:uX B d s3 m l (some r)):∃b3,s3=some b3∧PO B d b3 l r:=by
 rcases h with⟨b3,r',h1,h2,h3⟩|⟨h1,_⟩
 ·injection h2 with h2;subst h2;exact⟨b3,h1,h3⟩
 ·cases h1
theorem uX.step {B:dR} {d m:Nat} {s3 t1 t2:Option (List UInt8)} {l:List fM} {r:List UInt8} (h:uX B d s3 m l (some r)) (hB:B.Ok) (hk:l.length<m) {q:fM}
 (ht:ny (some r) B.s q.key t1) (hg:rV B d t1 q.es q.sub t2):uX B d s3 m (l++ [q]) t2:=by
 obtain⟨b3,rfl,hb⟩:=h.good
 cases t2 with
 |some r2=>
  rcases hg with⟨bs,rest,rfl,hr,hg⟩|⟨hg,_⟩
  ·injection hr with hr;subst hr
   obtain⟨hr,hs⟩:=Ju ht
   injection hr with hr
   refine .inl ⟨b3,r2,rfl,rfl,?_,?_,?_⟩
   ·show b3=iE (nS (l++ [q]) .nil)++r2
    rw[BR,Jv,yR,hb.eq,hr,hg.eq]
    simp only[List.append_assoc,iE,List.nil_append]
   ·show(nS (l++ [q]) .nil).bd B
    rw[BR]
    exact PI hb.bd ⟨hs,hg.Fp,hg.Ac,trivial⟩
   ·show kP (nS (l++ [q]) .nil)≤d
    rw[BR]
    have:=hg.deep
    exact PK hb.deep (by show max (1+kP q.sub) 0≤d;omega)
  ·cases hg
 |none=>
  refine .inr ⟨rfl,fun b ks rest hb3 hks=>?_⟩
  injection hb3 with hb3;subst hb3
  obtain⟨key,es,sub,x,hr,hs,hgk⟩:=hks.next hb.eq hk
  subst hr
  obtain⟨_,rfl⟩:=ht.bY (PG _ hs hB.s.2)
  rcases hg with⟨_,_,_,hg,_⟩|⟨_,hg⟩
  ·cases hg
  ·exact hg _ _ _ _ rfl hgk
theorem Jw (es:List aG) (ks:aH):es.length≤(iD es).length∧ks.len≤(iE ks).length:=⟨Js XM es,PD ks⟩
theorem PS {B:dR} (hB:B.Ok) {M:Int} (hM:M≤9223372036854775807) {d n m:Nat} {st s1 s2 s3:Option (List UInt8)} {es:List aG} (hl:((leftOf st).length:Int)≤M) (h1:jq st M n s1) (h2:wz B s1 n es s2) (h3:jq s2 M m s3)
 {bs:List UInt8} {es':List aG} {ks':aH} {rest:List UInt8} (hs:st=some bs) (hg:tK B (d+1) bs es' ks' rest):es'=es∧∃b3,s3=some b3∧Fq B d b3 m ks' rest:=by
 subst hs
 have he:=hg.eq
 unfold eX at he
 simp only[List.append_assoc]at he
 subst he
 have hge:=Jw es' ks'
 have hl:((bD es'.length++(iD es'++(bD ks'.len++(iE ks'++rest)))).length:Int)≤M:=hl
 simp only[List.length_append]at hl
 obtain⟨rfl,rfl⟩:=h1.bY (jq.make (by simp only[List.length_append];omega) (by omega) hM)
 obtain⟨rfl,rfl⟩:=Run.bY (R:=oK B) (fun h k=>oK.bY h k) h2 (wz.make hB _ hg.Fp)
 obtain⟨rfl,rfl⟩:=h3.bY (jq.make (by simp only[List.length_append];omega) (by omega) hM)
 have:=hg.deep
 exact⟨rfl,_,rfl,rfl,rfl,hg.Ac,by omega⟩
theorem XP {B:dR} (hB:B.Ok) {M:Int} (hM:M≤9223372036854775807) {d n m:Nat} {st s1 s2 s3 s:Option (List UInt8)} {es:List aG} {l:List fM} (hl:((leftOf st).length:Int)≤M) (h1:jq st M n s1) (h2:wz B s1 n es s2) (h3:jq s2 M m s3)
 (hk:uX B d s3 m l s) (hm:l.length=m):rV B (d+1) st es (mkK l) s:=by
 cases s with
 |some r=>
  obtain⟨b3,rfl,hb⟩:=hk.good
  obtain⟨rfl,_,_⟩:=h3.good
  obtain⟨rfl,hes⟩:=h2.good
  obtain⟨rfl,_,_⟩:=h1.good
  have hd:=hb.deep
  refine .inl ⟨_,r,rfl,rfl,?_,hes,hb.bd,by omega⟩
  unfold eX
  rw[hb.eq,h2.len,vX,hm]
  simp only[List.append_assoc]
 |none=>
  refine .inr ⟨rfl,fun bs es' ks' rest hs hg=>?_⟩
  obtain⟨_,b3,h4,h5⟩:=PS hB hM hl h1 h2 h3 hs hg
  rcases hk with⟨_,_,_,h6,_⟩|⟨_,h6⟩
  ·cases h6
  ·exact h6 _ _ _ h4 h5
theorem XQ {B:dR} (hB:B.Ok) {M:Int} (hM:M≤9223372036854775807) {d n m:Nat} {st s1 s2 s3:Option (List UInt8)} {es:List aG} {l:List fM} (hl:((leftOf st).length:Int)≤M) (h1:jq st M n s1) (h2:wz B s1 n es s2) (h3:jq s2 M m s3)
 (hk:uX B d s3 m l none) (es':List aG) (ks':aH):rV B (d+1) st es' ks' none:=by
 refine .inr ⟨rfl,fun bs es' ks' rest hs hg=>?_⟩
 obtain⟨_,b3,h4,h5⟩:=PS hB hM hl h1 h2 h3 hs hg
 rcases hk with⟨_,_,_,h6,_⟩|⟨_,h6⟩
 ·cases h6
 ·exact h6 _ _ _ h4 h5
theorem XR (B:dR) (st:Option (List UInt8)) (es:List aG) (ks:aH):rV B 0 st es ks none:= .inr ⟨rfl,fun _ _ _ _ _ h=>by have:=h.deep;omega⟩
theorem XT {e:aG} (h:gV e=true):e.bd gB:=by
 unfold gV nJ at h
 simp only[Bool.and_eq_true,decide_eq_true_eq]at h
 obtain⟨⟨h1,h2,h3,h4⟩,h5,h6,h7⟩:=h
 exact⟨by simp only[gB];omega,by simp only[gB];omega,by simp only[gB];omega,by simp only[gB];omega⟩
theorem Jy:∀ {p:Option aG} {es:List aG},jk p es=true→∀e∈es,e.bd gB
 |_,[],_,e,he=>by cases he
 |p,x::es,h,e,he=>by
  simp only[jk,Bool.and_eq_true]at h
  rcases List.mem_cons.1 he with rfl|he
  ·exact XT h.1.1
  ·exact Jy h.2 e he
theorem Jz:∀ {ks:aH} {d:Nat} {p:Option ByteArray},mZ ks d p=true→ks.bd gB∧kP ks≤d
 | .nil,_,_,_=>⟨trivial,Nat.zero_le _⟩
 | .cons key es sub rest,d,p,h=>by
   simp only[mZ,Bool.and_eq_true,decide_eq_true_eq]at h
   obtain⟨⟨⟨⟨h1,_⟩,_⟩,⟨h2,h3⟩,h4⟩,h5⟩:=h
   obtain⟨g1,g2⟩:=Jz h4
   obtain⟨g3,g4⟩:=Jz h5
   unfold rE at h1
   simp only[decide_eq_true_eq]at h1
   exact⟨⟨by simp only[gB];omega,Jy h3,g1,g3⟩,by show max (1+kP sub) (kP rest)≤d;omega⟩
def CB (B:dR):Prop:=(∀e:aG,e.bd gB→e.bd B)∧(∀ks:aH,ks.bd gB→ks.bd B)∧∀s,xC gB s→xC B s
theorem CG:CB gB:=⟨fun _ h=>h,fun _ h=>h,fun _ h=>h⟩
theorem JA {B:dR} (hW:CB B) {es:List aG} {ks:aH} {rest:List UInt8} (h:bW 5 es ks=true):tK B 5 (eX es ks++rest) es ks rest:=by
 unfold bW at h
 simp only[Bool.and_eq_true,decide_eq_true_eq]at h
 obtain⟨⟨_,h1⟩,h2⟩:=h
 obtain⟨g1,g2⟩:=Jz h2
 exact⟨rfl,fun e he=>hW.1 e (Jy h1 e he),hW.2.1 ks g1,by omega⟩
def jT (st:Option (List UInt8)) (es:List aG) (ks:aH) (s:Option (List UInt8)):Prop:=
 (∃rest,st=some (eX es ks++rest)∧bW 5 es ks=true∧s=some rest)∨(s=none∧es=[]∧ks= .nil∧∀es ks rest,st=some (eX es ks++rest)→bW 5 es ks=false)
theorem tree_good {B:dR} {st:Option (List UInt8)} {es:List aG} {ks:aH} {rest:List UInt8} (h:rV B 5 st es ks (some rest)) (hr:bW 5 es ks=true):jT st es ks (some rest):=by
 rcases h with⟨bs,r,rfl,h2,h3⟩|⟨h,_⟩
 ·injection h2 with h2;subst h2
  exact .inl ⟨rest,by rw[h3.eq],hr,rfl⟩
 ·cases h
theorem XU {B:dR} {st:Option (List UInt8)} {es:List aG} {ks:aH} {rest:List UInt8} (h:rV B 5 st es ks (some rest)) (hr:bW 5 es ks=false):jT st [] .nil none:=by
 rcases h with⟨bs,r,rfl,h2,h3⟩|⟨h,_⟩
 ·refine .inr ⟨rfl,rfl,rfl,fun es' ks' rest' hs=>?_⟩
  injection hs with hs
  rw[h3.eq]at hs
  obtain⟨⟨rfl,rfl⟩,_⟩:=Fh hs
  exact hr
 ·cases h
theorem XV {B:dR} (hW:CB B) {st:Option (List UInt8)} {es:List aG} {ks:aH} (h:rV B 5 st es ks none):jT st [] .nil none:=by
 rcases h with⟨_,_,_,h2,_⟩|⟨_,h⟩
 ·cases h2
 ·refine .inr ⟨rfl,rfl,rfl,fun es' ks' rest' hs=>?_⟩
  cases hr:bW 5 es' ks' with
  |false=>rfl
  |true=>exact absurd (JA hW hr) (h _ _ _ _ hs)
theorem jT.bY {st s s':Option (List UInt8)} {es es':List aG} {ks ks':aH} (h:jT st es ks s) (k:jT st es' ks' s'):(es=es'∧ks=ks')∧s=s':=by
 rcases h with⟨r,h1,h2,h3⟩|⟨h1,h2,h3,h4⟩<;>rcases k with⟨r',k1,k2,k3⟩|⟨k1,k2,k3,k4⟩
 ·rw[h1]at k1
  injection k1 with k1
  obtain⟨e,rfl⟩:=Fh k1
  exact⟨e,by rw[h3,k3]⟩
 ·rw[k4 _ _ _ h1]at h2;cases h2
 ·rw[h4 _ _ _ k1]at k2;cases k2
 ·exact⟨⟨by rw[h2,k2],by rw[h3,k3]⟩,by rw[h1,k1]⟩
theorem jT.make {es:List aG} {ks:aH} (rest:List UInt8) (h:bW 5 es ks=true):jT (some (eX es ks++rest)) es ks (some rest):= .inl ⟨rest,rfl,h,rfl⟩
theorem dw.each {c:aW} (h:dw c):∀s∈c,xC gB s:=fun s hs=>by
 have hd:∀ {c:aW} {lo:Int},g_ lo c→∀s∈c,lo≤s.1∧s.1<4:=by
  intro c
  induction c with
  |nil=>intro lo _ s hs;cases hs
  |cons x c ih=>
   intro lo h s hs
   rcases List.mem_cons.1 hs with rfl|hs
   ·exact⟨h.1,h.2.1⟩
   ·have:=ih h.2.2 s hs
    have:=h.1
    omega
 obtain⟨h0,h4⟩:=hd h.1 s hs
 have hr:=h.2 s.1 h0 h4
 have hm:s.2∈bI c s.1:=by
  unfold bI
  exact List.mem_map.2 ⟨s,List.mem_filter.2 ⟨hs,by simp⟩,rfl⟩
 have g1:=mY hr.1 _ hm
 have g2:=hr.2 _ hm
 refine⟨?_,?_,?_⟩<;>simp only[gB]<;>omega
def kG (st:Option (List UInt8)) (c:aW) (s:Option (List UInt8)):Prop:=
 (∃rest,st=some (jS c++rest)∧dw c∧s=some rest)∨(s=none∧c=[]∧∀c rest,st=some (jS c++rest)→¬dw c)
theorem XW {B:dR} (hB:B.Ok) (hW:CB B) {M:Int} (hM:M≤9223372036854775807) {n:Nat} {st s1 s2:Option (List UInt8)} {c:aW} (hl:((leftOf st).length:Int)≤M) (h1:jq st M n s1) (h2:qQ B s1 n c s2)
 {c':aW} {rest:List UInt8} (hs:st=some (jS c'++rest)) (hr:dw c'):c'=c∧s2=some rest:=by
 subst hs
 have hge:c'.length≤(mQ c').length:=Js XO c'
 have hl:((jS c'++rest).length:Int)≤M:=hl
 unfold jS at hl h1
 rw[List.append_assoc]at hl h1
 simp only[List.length_append]at hl
 obtain⟨rfl,rfl⟩:=h1.bY (jq.make (by simp only[List.length_append];omega) (by omega) hM)
 obtain⟨rfl,rfl⟩:=Run.bY (R:=nC B) (fun h k=>nC.bY h k) h2 (qQ.make hB _ fun s hs=>hW.2.2 s (hr.each s hs))
 exact⟨rfl,rfl⟩
theorem XY {B:dR} {M:Int} {n:Nat} {st s1:Option (List UInt8)} {c:aW} {rest:List UInt8} (h1:jq st M n s1) (h2:qQ B s1 n c (some rest)) (hr:dw c):kG st c (some rest):=by
 obtain⟨rfl,_⟩:=h2.good
 obtain⟨rfl,_,_⟩:=h1.good
 refine .inl ⟨rest,?_,hr,rfl⟩
 unfold jS
 rw[h2.len,List.append_assoc]
theorem PU {B:dR} (hB:B.Ok) (hW:CB B) {M:Int} (hM:M≤9223372036854775807) {n:Nat} {st s1 s2:Option (List UInt8)} {c:aW} (hl:((leftOf st).length:Int)≤M) (h1:jq st M n s1) (h2:qQ B s1 n c s2) (h:s2=none∨¬dw c):kG st [] none:=by
 refine .inr ⟨rfl,rfl,fun c' rest hs hr=>?_⟩
 obtain⟨rfl,h3⟩:=XW hB hW hM hl h1 h2 hs hr
 rcases h with h|h
 ·rw[h]at h3;cases h3
 ·exact h hr
theorem kG.bY {st s s':Option (List UInt8)} {c c':aW} (h:kG st c s) (k:kG st c' s'):c=c'∧s=s':=by
 rcases h with⟨r,h1,h2,h3⟩|⟨h1,h2,h4⟩<;>rcases k with⟨r',k1,k2,k3⟩|⟨k1,k2,k4⟩
 ·rw[h1]at k1
  injection k1 with k1
  obtain⟨e,rfl⟩:=Pz k1
  exact⟨e,by rw[h3,k3]⟩
 ·exact absurd h2 (k4 _ _ h1)
 ·exact absurd k2 (h4 _ _ k1)
 ·exact⟨by rw[h2,k2],by rw[h1,k1]⟩
theorem kG.make {c:aW} (rest:List UInt8) (h:dw c):kG (some (jS c++rest)) c (some rest):= .inl ⟨rest,rfl,h,rfl⟩
def kY (st:Option (List UInt8)) (es:List aG) (ks:aH) (c:aW) (s:Option (List UInt8)):Prop:=
 (∃rest,st=some (jf es ks c++rest)∧fG es ks c∧s=some rest)∨(s=none∧es=[]∧ks= .nil∧c=[]∧∀es ks c rest,st=some (jf es ks c++rest)→¬fG es ks c)
theorem PV {st s1 s2:Option (List UInt8)} {es es':List aG} {ks ks':aH} {c c':aW} {rest:List UInt8} (h1:jT st es ks s1) (h2:kG s1 c s2) (hs:st=some (jf es' ks' c'++rest)) (hr:fG es' ks' c'):
 es'=es∧ks'=ks∧c'=c∧s2=some rest:=by
 subst hs
 unfold jf at h1
 rw[List.append_assoc]at h1
 obtain⟨⟨rfl,rfl⟩,rfl⟩:=h1.bY (jT.make _ hr.tree)
 obtain⟨rfl,rfl⟩:=h2.bY (kG.make _ hr.ctx)
 exact⟨rfl,rfl,rfl,rfl⟩
theorem XZ {st s1:Option (List UInt8)} {es:List aG} {ks:aH} {c:aW} {rest:List UInt8} (h1:jT st es ks s1) (h2:kG s1 c (some rest)):st=some (jf es ks c++rest)∧bW 5 es ks=true∧dw c:=by
 rcases h2 with⟨r,rfl,k2,k3⟩|⟨k1,_⟩
 ·injection k3 with k3;subst k3
  rcases h1 with⟨r',rfl,h2,h3⟩|⟨h1,_⟩
  ·injection h3 with h3;subst h3
   exact⟨by unfold jf;rw[List.append_assoc],h2,k2⟩
  ·cases h1
 ·cases k1
theorem X_ {st s1:Option (List UInt8)} {es:List aG} {ks:aH} {c:aW} {rest:List UInt8} (h1:jT st es ks s1) (h2:kG s1 c (some rest)) (hr:fG es ks c):kY st es ks c (some rest):=
 .inl ⟨rest,(XZ h1 h2).1,hr,rfl⟩
theorem PW {st s1 s2:Option (List UInt8)} {es:List aG} {ks:aH} {c:aW} (h1:jT st es ks s1) (h2:kG s1 c s2) (h:s2=none∨¬fG es ks c):kY st [] .nil [] none:=by
 refine .inr ⟨rfl,rfl,rfl,rfl,fun es' ks' c' rest hs hr=>?_⟩
 obtain⟨rfl,rfl,rfl,h3⟩:=PV h1 h2 hs hr
 rcases h with h|h
 ·rw[h]at h3;cases h3
 ·exact h hr
theorem kY.bY {st s s':Option (List UInt8)} {es es':List aG} {ks ks':aH} {c c':aW} (h:kY st es ks c s) (k:kY st es' ks' c' s'):((es=es'∧ks=ks')∧c=c')∧s=s':=by
 rcases h with⟨r,h1,h2,h3⟩|⟨h1,h2,h3,h5,h4⟩<;>rcases k with⟨r',k1,k2,k3⟩|⟨k1,k2,k3,k5,k4⟩
 ·rw[h1]at k1
  injection k1 with k1
  obtain⟨e,rfl⟩:=Jr k1
  exact⟨e,by rw[h3,k3]⟩
 ·exact absurd h2 (k4 _ _ _ _ h1)
 ·exact absurd k2 (h4 _ _ _ _ k1)
 ·exact⟨⟨⟨by rw[h2,k2],by rw[h3,k3]⟩,by rw[h5,k5]⟩,by rw[h1,k1]⟩
theorem kY.make {es:List aG} {ks:aH} {c:aW} (rest:List UInt8) (h:fG es ks c):kY (some (jf es ks c++rest)) es ks c (some rest):= .inl ⟨rest,rfl,h,rfl⟩
theorem Ae {v m:Int} (h:-m≤v∧v≤m) (hm:m≤9223372036854775807):(bD v).length≤10:=iq (by omega) (by omega)
theorem PX {e:aG} (h:e.bd gB):(mP e).length≤70:=by
 have h1:=Ae h.dc qP.dc.2
 have h2:=Ae h.n qP.n.2
 have h4:=Ae h.k qP.k.2
 have h3:=h.s
 have h5:(bD e.s.size).length≤10:=iq (by simp only[gB]at h3;omega) (by simp only[gB]at h3;omega)
 have h6:e.s.data.toList.length=e.s.size:=Array.length_toList
 unfold mP iR
 simp only[List.length_append,gB]at*
 omega
theorem Ya {s:Int×Int×Int} (h:xC gB s):(encS s).length≤30:=by
 have h1:=Ae h.1 qP.dc.2
 have h2:=Ae h.2.1 qP.n.2
 have h3:=Ae h.2.2 qP.n.2
 unfold encS
 simp only[List.length_append]
 omega
theorem Af {n:Nat} (h:n≤9223372036854775807):(bD n).length≤10:=iq (by omega) (by omega)
theorem JB:∀ {ks:aH},ks.bd gB→gW ks≤9223372036854775807→(iE ks).length≤75*gW ks
 | .nil,_,_=>Nat.zero_le _
 | .cons key es sub rest,h,hs=>by
   have hs':1+es.length+gW sub+gW rest≤9223372036854775807:=hs
   have h1:=JB h.2.2.1 (by omega)
   have h2:=JB h.2.2.2 (by omega)
   have h3:(iD es).length≤70*es.length:=Aa fun e he=>PX (h.2.1 e he)
   have h4:=h.1
   have h5:(bD key.size).length≤10:=iq (by simp only[gB]at h4;omega) (by simp only[gB]at h4;omega)
   have h6:key.data.toList.length=key.size:=Array.length_toList
   have h7:=Af (n:=es.length) (by omega)
   have h9:sub.len≤gW sub:=uQ sub
   have h8:=Af (n:=sub.len) (by omega)
   simp only[gB]at h4
   unfold iE gW iR
   simp only[List.length_append]
   omega
theorem JC {es:List aG} {ks:aH} (h:bW 5 es ks=true) (hs:sizeT es ks≤9223372036854775807):(eX es ks).length≤20+75*sizeT es ks:=by
 have hg:=JA CG (rest:=[]) h
 have hs':es.length+gW ks≤9223372036854775807:=hs
 have h1:=JB hg.Ac (by omega)
 have h3:(iD es).length≤70*es.length:=Aa fun e he=>PX (hg.Fp e he)
 have h9:ks.len≤gW ks:=uQ ks
 have h7:=Af (n:=es.length) (by omega)
 have h8:=Af (n:=ks.len) (by omega)
 unfold eX sizeT
 simp only[List.length_append]
 omega
theorem Yb {c:aW} (h:dw c) (hl:c.length≤9223372036854775807):(jS c).length≤10+30*c.length:=by
 have h3:(mQ c).length≤30*c.length:=Aa fun s hs=>Ya (h.each s hs)
 have h7:=Af (n:=c.length) hl
 unfold jS
 simp only[List.length_append]
 omega
open Go.RowKit
def iZ (v0 v1 v2 v3:Int):List UInt8:=bD v0++(bD v1++(bD v2++bD v3))
theorem JD {a b c d a' b' c' d':Int} {x y:List UInt8} (h:iZ a b c d++x=iZ a' b' c' d'++y):(a=a'∧b=b'∧c=c'∧d=d')∧x=y:=by
 unfold iZ at h
 simp only[List.append_assoc]at h
 replace h:=jY h
 obtain⟨h1,h⟩:=h
 replace h:=jY h
 obtain⟨h2,h⟩:=h
 replace h:=jY h
 obtain⟨h3,h⟩:=h
 replace h:=jY h
 obtain⟨h4,h⟩:=h
 exact⟨⟨h1,h2,h3,h4⟩,h⟩
def jK (st:Option (List UInt8)) (v0 v1 v2 v3:Int) (s:Option (List UInt8)):Prop:=
 (∃rest,st=some (iZ v0 v1 v2 v3++rest)∧f_ (bG v0 v1 v2 v3)∧s=some rest)∨(s=none∧v0=0∧v1=0∧v2=0∧v3=0∧∀u0 u1 u2 u3 rest,st=some (iZ u0 u1 u2 u3++rest)→¬f_ (bG u0 u1 u2 u3))
theorem JE {v0 v1 v2 v3:Int} (h:f_ (bG v0 v1 v2 v3)):(0≤v0∧v0≤1099511627776)∧(0≤v1∧v1≤1099511627776)∧(0≤v2∧v2≤1099511627776)∧0≤v3∧v3≤1099511627776:=
 ⟨h 0 (by decide) (by decide),h 1 (by decide) (by decide),h 2 (by decide) (by decide),h 3 (by decide) (by decide)⟩
theorem jK.bY {st s s':Option (List UInt8)} {a b c d a' b' c' d':Int} (h:jK st a b c d s) (k:jK st a' b' c' d' s'):(a=a'∧b=b'∧c=c'∧d=d')∧s=s':=by
 rcases h with⟨r,h1,h2,h3⟩|⟨h1,h2,h3,h4,h5,h6⟩<;>rcases k with⟨r',k1,k2,k3⟩|⟨k1,k2,k3,k4,k5,k6⟩
 ·rw[h1]at k1
  injection k1 with k1
  obtain⟨e,rfl⟩:=JD k1
  exact⟨e,by rw[h3,k3]⟩
 ·exact absurd h2 (k6 _ _ _ _ _ h1)
 ·exact absurd k2 (h6 _ _ _ _ _ k1)
 ·subst h2 h3 h4 h5 k2 k3 k4 k5
  exact⟨⟨rfl,rfl,rfl,rfl⟩,by rw[h1,k1]⟩
theorem jK.total (st:Option (List UInt8)):∃v0 v1 v2 v3 s,jK st v0 v1 v2 v3 s:=by
 by_cases h:∃v0 v1 v2 v3 rest,st=some (iZ v0 v1 v2 v3++rest)∧f_ (bG v0 v1 v2 v3)
 ·obtain⟨v0,v1,v2,v3,rest,h1,h2⟩:=h
  exact⟨v0,v1,v2,v3,some rest, .inl ⟨rest,h1,h2,rfl⟩⟩
 ·exact⟨0,0,0,0,none, .inr ⟨rfl,rfl,rfl,rfl,rfl,fun u0 u1 u2 u3 rest h1 h2=>h ⟨u0,u1,u2,u3,rest,h1,h2⟩⟩⟩
theorem jK.make {v0 v1 v2 v3:Int} (rest:List UInt8) (h:f_ (bG v0 v1 v2 v3)):jK (some (iZ v0 v1 v2 v3++rest)) v0 v1 v2 v3 (some rest):= .inl ⟨rest,rfl,h,rfl⟩
theorem jK.left {st s:Option (List UInt8)} {v0 v1 v2 v3:Int} (h:jK st v0 v1 v2 v3 s):(leftOf s).length≤(leftOf st).length:=by
 rcases h with⟨r,rfl,_,rfl⟩|⟨rfl,_⟩
 ·show r.length≤(iZ v0 v1 v2 v3++r).length
  rw[List.length_append];omega
 ·exact Nat.zero_le _
def V4 (m:Int) (st:Option (List UInt8)) (v0 v1 v2 v3:Int) (s4:Option (List UInt8)):Prop:=
 ∃s1 s2 s3,b_ st m v0 s1∧b_ s1 m v1 s2∧b_ s2 m v2 s3∧b_ s3 m v3 s4
theorem Yc {m:Int} {st:Option (List UInt8)} {v0 v1 v2 v3:Int} {r:List UInt8} (h:V4 m st v0 v1 v2 v3 (some r)) (hm:f_ (bG v0 v1 v2 v3)):jK st v0 v1 v2 v3 (some r):=by
 obtain⟨s1,s2,s3,h1,h2,h3,h4⟩:=h
 obtain⟨rfl,_,_⟩:=lI h4
 obtain⟨rfl,_,_⟩:=lI h3
 obtain⟨rfl,_,_⟩:=lI h2
 obtain⟨rfl,_,_⟩:=lI h1
 exact .inl ⟨r,by unfold iZ;simp only[List.append_assoc],hm,rfl⟩
theorem PY {m:Int} (hm1:1099511627776≤m) (hm2:m≤9223372036854775807) {st s4:Option (List UInt8)} {v0 v1 v2 v3:Int} (h:V4 m st v0 v1 v2 v3 s4) (hb:s4=none∨¬f_ (bG v0 v1 v2 v3)):jK st 0 0 0 0 none:=by
 refine .inr ⟨rfl,rfl,rfl,rfl,rfl,fun u0 u1 u2 u3 rest hs hu=>?_⟩
 subst hs
 obtain⟨s1,s2,s3,h1,h2,h3,h4⟩:=h
 obtain⟨g0,g1,g2,g3⟩:=JE hu
 unfold iZ at h1
 simp only[List.append_assoc]at h1
 obtain⟨rfl,rfl⟩:=h1.bY (iO _ ⟨by omega,by omega⟩ hm2)
 obtain⟨rfl,rfl⟩:=h2.bY (iO _ ⟨by omega,by omega⟩ hm2)
 obtain⟨rfl,rfl⟩:=h3.bY (iO _ ⟨by omega,by omega⟩ hm2)
 obtain⟨rfl,rfl⟩:=h4.bY (iO _ ⟨by omega,by omega⟩ hm2)
 rcases hb with hb|hb
 ·cases hb
 ·exact hb hu
theorem V4.total (m:Int) (st:Option (List UInt8)):∃v0 v1 v2 v3 s1 s2 s3 s4,b_ st m v0 s1∧b_ s1 m v1 s2∧b_ s2 m v2 s3∧b_ s3 m v3 s4:=by
 obtain⟨v0,s1,h1⟩:=b_.total st m
 obtain⟨v1,s2,h2⟩:=b_.total s1 m
 obtain⟨v2,s3,h3⟩:=b_.total s2 m
 obtain⟨v3,s4,h4⟩:=b_.total s3 m
 exact⟨v0,v1,v2,v3,s1,s2,s3,s4,h1,h2,h3,h4⟩
open Go.RowKit
open Go.RowKit
open Go.RowKit
open Go.RowKit
open Go.RowKit
theorem cu.keep {w w':World} {ib:Nat} {st:Option (List UInt8)} (h:cu w ib st) {S:Nat→Prop} (f:aj S w w') (h1:∀k,k≤ib→¬S k):cu w' ib st:=by
 cases st with
 |none=>exact f.blk (show w.heap[ib]?=_ from h) (h1 ib (Nat.le_refl _))
 |some bs=>
  obtain⟨v,hv,hlt⟩:=h
  exact⟨v,hv.keep f (h1 ib (Nat.le_refl _)) fun k hk=>h1 k (Nat.le_of_lt (hlt k hk)),hlt⟩
theorem cu.lt {w:World} {ib:Nat} {st:Option (List UInt8)} (h:cu w ib st):ib<w.heap.size:=by
 obtain⟨a,c,hh⟩:=h.heap
 exact lt_of_block hh
theorem xE (w:World) (b:Nat) (u u':Value):aj (Only b) w ((w.setCell ⟨b,0,none⟩ u).setCell ⟨b,1,none⟩ u'):=(eG w b 0 u).trans (eG _ b 1 u') fun _ _ h=>h
open Go.RowKit
theorem CJ {w:World} {e:TypeId} {size:Nat} {v:Value} {n:Nat} {xs:List Value} (h:w.ownsRow 0 e size v n xs):∀k,v.ownBlock=some k→k<w.heap.size:=fun k hk=>(h.lt k hk).2
theorem wQ.fresh {w wi:World} {v v':Value} (h:wQ w v) (hs:w.heap.size≤wi.heap.size) (f:gK wi v v'):wQ w v':=fun k hk=>by
 rcases f k hk with h1|h1
 ·exact h k h1
 ·omega
theorem iM.keep {w w':World} {ob:Nat} {v:Value} {bs:List UInt8} (h:iM w ob v bs) {S:Nat→Prop} (f:aj S w w') (h1:¬S ob) (h2:∀k,v.ownBlock=some k→¬S k):iM w' ob v bs:=
 ⟨f.blk h.cell h1,f.owns h.own h2,h.apart⟩
open Go.RowKit
theorem CO (ib:Nat) (st:Option (List UInt8)) (w:World) (h:cu w ib st):
 Calls Tryz.prog 174 #[.pointer (some ⟨ib,0,none⟩)] w fun e w'=>∃(n:Nat) (st':Option (List UInt8)),e= .returned (.int .i64 n)∧jq st 60000 n st'∧cu w' ib st'∧aj (Only ib) w w':=by
 obtain⟨v,s1,hs⟩:=b_.total st 60000
 have hvr:=Fj hs
 have HN:=ah (jZ ib st 60000 v s1 w h hs (by omega) (by omega))
 clear h
 have HS:=ah hs;clear hs
 obtain⟨L,hL⟩:∃L,L=(leftOf s1).length:=⟨_,rfl⟩
 by_cases c1:v<0
 ·have hpost:∀w',cu w' ib none→jq st 60000 0 none:=fun w' _=>⟨v,s1,HS.out,by
   cases s1 with
   |none=>exact⟨rfl,rfl⟩
   |some r=>exact .inr ⟨.inl c1,rfl,rfl⟩⟩
  have jm:=ah hpost;clear hpost
  go_enter Tryz.func174,Tryz.ntmps174
  go_wp2_with(first
   |(go_at_call 56;refine HN.out.mono ?_;rintro e w1 ⟨rfl,hi,hf⟩;have HI:=ah hi;clear hi;have HF:=ah hf;clear hf)
   |(go_at_call 123;obtain⟨a,c,hh⟩:=HI.out.heap;refine(ni ib _ _ w1 hh).mono ?_;rintro e w2 ⟨rfl,hi2,hf2⟩;have HI2:=ah hi2;clear hi2 hh;have HF2:=ah hf2;clear hf2))
  go_ret
  exact⟨0,none,rfl,jm.out w2 HI2.out,HI2.out,HF.out.trans HF2.out fun _ _ h=>h⟩
 ·by_cases c2:(L:Int)<v
  ·have hpost:∀w',cu w' ib none→jq st 60000 0 none:=fun w' _=>⟨v,s1,HS.out,by
    cases s1 with
    |none=>exact⟨rfl,rfl⟩
    |some r=>exact .inr ⟨.inr (by rw[hL]at c2;exact c2),rfl,rfl⟩⟩
   have jm:=ah hpost;clear hpost
   have HL:=ah hL;clear hL
   go_enter Tryz.func174,Tryz.ntmps174
   go_wp2_with(first
    |(go_at_call 56;refine HN.out.mono ?_;rintro e w1 ⟨rfl,hi,hf⟩;have HI:=ah hi;clear hi;have HF:=ah hf;clear hf)
    |(go_at_call 223;refine(O_ ib s1 w1 HI.out).mono ?_;rintro e w2 ⟨rfl,rfl⟩;rw[←HL.out])
    |(go_at_call 123;obtain⟨a,c,hh⟩:=HI.out.heap;refine(ni ib _ _ w1 hh).mono ?_;rintro e w2 ⟨rfl,hi2,hf2⟩;have HI2:=ah hi2;clear hi2 hh;have HF2:=ah hf2;clear hf2))
   go_ret
   exact⟨0,none,rfl,jm.out w2 HI2.out,HI2.out,HF.out.trans HF2.out fun _ _ h=>h⟩
  ·obtain⟨n,rfl⟩:=Int.eq_ofNat_of_zero_le (show 0≤v by omega)
   have hpost:∃st',jq st 60000 n st'∧st'=s1:=⟨s1,⟨n,s1,HS.out,by
    cases s1 with
    |none=>exact⟨by rw[hL]at c2;simp[leftOf]at c2;omega,rfl⟩
    |some r=>exact .inl ⟨by omega,by rw[hL]at c2;simpa[leftOf]using c2,by omega,rfl⟩⟩,rfl⟩
   have jm:=ah hpost;clear hpost
   have HL:=ah hL;clear hL
   go_enter Tryz.func174,Tryz.ntmps174
   go_wp2_with(first
    |(go_at_call 56;refine HN.out.mono ?_;rintro e w1 ⟨rfl,hi,hf⟩;have HI:=ah hi;clear hi;have HF:=ah hf;clear hf)
    |(go_at_call 223;refine(O_ ib s1 w1 HI.out).mono ?_;rintro e w2 ⟨rfl,rfl⟩;rw[←HL.out]))
   go_ret
   obtain⟨st',h1,rfl⟩:=jm.out
   exact⟨n,_,rfl,h1,HI.out,HF.out⟩
structure wB (S:Nat→Prop) (w ww:World) (e:TypeId) (size:Nat) (v:Value) (n:Nat) (xs:List Value):Prop where
 own:ww.ownsRow 0 e size v n xs
 new:wQ w v
 aP:aj S w ww
theorem wB.keep {S:Nat→Prop} {w ww w':World} {e:TypeId} {size:Nat} {v:Value} {n:Nat} {xs:List Value} (low:∀k,S k→k<w.heap.size) (h:wB S w ww e size v n xs) (f:aj S ww w'):wB S w w' e size v n xs:=
 ⟨f.owns h.own fun b hb hs=>by have:=h.new b hb;have:=low b hs;omega,h.new,h.aP.trans f fun _ _ h=>h⟩
theorem wB.step {S:Nat→Prop} {w w1 w':World} {e e':TypeId} {size size':Nat} {v v':Value} {n n':Nat} {xs xs':List Value} (h:wB S w w1 e size v n xs) (own:w'.ownsRow 0 e' size' v' n' xs') (fm:aj (fJ v) w1 w') (fr:gK w1 v v'):wB S w w' e' size' v' n' xs':=
 ⟨own,wQ.fresh (w:=w) (wi:=w1) (v:=v) (v':=v') h.new h.aP.size fr,h.aP.trans fm fun i hi hs=>by have:=h.new i hs;omega⟩
theorem wB.EX {S:Nat→Prop} {w ww:World} {e:TypeId} {size:Nat} {v:Value} {n:Nat} {xs:List Value} (h:wB S w ww e size v n xs):fC (fun k=>w.heap.size≤k) ww v n xs:=⟨Rd.own h.own,fun _ k hk=>h.new k hk⟩
theorem nC.total (B:dR) (st:Option (List UInt8)):∃(a b c:Int) (s1 s2 s3:Option (List UInt8)),b_ st B.dc a s1∧b_ s1 B.n b s2∧b_ s2 B.n c s3:=by
 obtain⟨a,s1,h1⟩:=b_.total st B.dc
 obtain⟨b,s2,h2⟩:=b_.total s1 B.n
 obtain⟨c,s3,h3⟩:=b_.total s2 B.n
 exact⟨a,b,c,s1,s2,s3,h1,h2,h3⟩
theorem qQ.fits {B:dR} {st t:Option (List UInt8)} {k:Nat} {c:aW} (h:qQ B st k c t):kE c:=fun s hs=>by
 obtain⟨h1,h2,h3⟩:=Run.all (P:=fun s=>kF s.1∧kF s.2.1∧kF s.2.2) (fun h=>nC.fits h) h s hs
 exact⟨h1.1,h1.2,h2.1,h2.2,h3.1,h3.2⟩
theorem Yd (c:aW) (a b d:Int):eu c++ [.int .i64 a, .int .i64 b, .int .i64 d]=eu (c++ [(a,b,d)]):=by rw[yD];rfl
def Ye (st:Option (List UInt8)) (ib:Nat) (w:World) (e:Ending) (w':World):Prop:=
 ∃cv c s,e= .returned cv∧fC (fun b=>w.heap.size≤b) w' cv c.length (eu c)∧kG st c s∧kE c∧(c.length≤(leftOf st).length)∧cu w' ib s∧aj (Only ib) w w'
theorem jq.left {st s:Option (List UInt8)} {m:Int} {n:Nat} (h:jq st m n s):n≤(leftOf st).length:=by
 cases s with
 |some r=>
  obtain⟨rfl,h1,_⟩:=h.good
  show n≤(bD n++r).length
  rw[List.length_append];omega
 |none=>
  obtain⟨v,s1,h1,h2⟩:=h
  cases s1 with
  |none=>rw[h2.1];exact Nat.zero_le _
  |some q=>
   rcases h2 with⟨_,_,_,d⟩|⟨_,c,_⟩
   ·cases d
   ·rw[c];exact Nat.zero_le _
theorem Yf (ib:Nat) (st:Option (List UInt8)) (w:World) (h:cu w ib st) (hl:(leftOf st).length≤60000):
 Calls Tryz.prog 126 #[.pointer (some ⟨ib,0,none⟩)] w (Ye st ib w):=by
 obtain⟨i0,hi,hz0,hz1,hz2⟩:=info_parts wX
 have HC:=ah (CO ib st w h)
 have low:∀k,Only ib k→k<w.heap.size:=fun k hk=>by rw[show k=ib from hk];exact h.lt
 have Ag:=ah low;clear low
 clear h
 go_enter Tryz.func126,Tryz.ntmps126
 go_wp2_with(go_at_call 174;refine HC.out.mono ?_;rintro e w1 ⟨n,s1,rfl,hc1,hi1,hf1⟩;have cO:=ah hc1;have hn:n≤60000:=by {have:=hc1.left;omega};clear hc1;have HI1:=ah hi1;clear hi1;have bH:=ah hf1;clear hf1)
 go_loopw [3,6] (fun cv i ww=>∃(k:Nat) (c:aW) (s:Option (List UInt8)),k≤n∧i= .int .i64 k∧qQ gB s1 k c s∧cu ww ib s∧wB (Only ib) w ww 144 3 cv k (eu c)) (fun _ i _=>n-(intOf i).toNat)
 case atStart=>exact⟨0,[],s1,Nat.zero_le _,rfl, .zero,HI1.out,World.ownsRow_nil _ 0 _ 3,(fun b hb=>by simp[Value.ownBlock]at hb),bH.out⟩
 case round=>
  obtain⟨k,c,s,hk,rfl,hrun,hin,hmd⟩:=hrel
  have kZ:=ah hrun;clear hrun
  have lg:=ah hin;clear hin
  obtain⟨aV,cV,rfl⟩:=(Rd.own hmd.own).sl
  have Ah:=ah hmd;clear hmd
  by_cases hlt:k<n
  ·obtain⟨d,a,b,t1,t2,t3,g1,g2,g3⟩:=nC.total gB s
   have pR:=ah g1;clear g1
   have HG2:=ah g2;clear g2
   have pU:=ah g3;clear g3
   go_wp2_with(first
    |(go_at_call 56;refine(jZ ib t2 1099511627776 b t3 _ HI4.out pU.out (by omega) (by omega)).mono ?_;rintro e w5 ⟨rfl,hi5,hf5⟩;have xG:=ah hi5;clear hi5;have lQ:=ah hf5;clear hf5)
    |(go_at_call 56;refine(jZ ib t1 1099511627776 a t2 _ HI3.out HG2.out (by omega) (by omega)).mono ?_;rintro e w4 ⟨rfl,hi4,hf4⟩;have HI4:=ah hi4;clear hi4;have iL:=ah hf4;clear hf4)
    |(go_at_call 56;refine(jZ ib s 4 d t1 _ lg.out pR.out (by omega) (by omega)).mono ?_;rintro e w3 ⟨rfl,hi3,hf3⟩;have HI3:=ah hi3;clear hi3;have HF3:=ah hf3;clear hf3)
    |(at_builtin;have BP:=((Ah.out.keep Ag.out HF3.out).keep Ag.out iL.out).keep Ag.out lQ.out;have JF:=ah BP;clear BP;refine Bc w5 [.int .i64 d, .int .i64 a, .int .i64 b] rfl (.tmp 8) (.tmp 16) 32 rfl 144 i0 _ 3 24 Tryz.underlying32 hi hz0 hz1 hz2 (by decide) (by decide) _ _ _ JF.out.own 1 1 rfl rfl rfl ?c1 ?c2 ?c3 ?_))
   case c1=>simp[Value.oneCell']
   case c2=>simp only[maxLen];omega
   case c3=>omega
   intro ad cc w6 pV eY pX
   have CP:=ah (show cu w6 ib t3 from xG.out.keep eY fun j hj hs=>by
    have:=JF.out.new j hs
    have:=Ag.out ib rfl
    omega)
   have HST:=ah (JF.out.step pV eY pX)
   clear pV eY pX
   go_wp2
   go_roundw
   case rel=>exact⟨k+1,c++ [(d,a,b)],t3,by omega,by go_num, .snoc kZ.out ⟨_,_,pR.out,HG2.out,pU.out⟩,CP.out,by rw[←Yd];exact HST.out⟩
   case measure=>simp[intOf];omega
  ·obtain rfl:n=k:=by omega
   have hcl:=kZ.out.len
   have HBAD:=ah (mO ib s wr lg.out)
   cases s with
   |none=>
    have jm:=ah (PU qP CG (M:=60000) (by omega) (by omega) cO.out kZ.out (.inl rfl))
    go_wp2_with(first
     |(go_at_call 58;refine HBAD.out.mono ?_;rintro e w2 ⟨rfl,rfl⟩)
     |(go_at_call 123;obtain⟨a,c,hh⟩:=lg.out.heap;refine(ni ib _ _ wr hh).mono ?_;rintro e w2 ⟨rfl,hi2,hf2⟩;have HI2:=ah hi2;clear hi2 hh;have HF2:=ah hf2;clear hf2))
    go_ret
    exact⟨_,[],none,rfl,⟨.inl ⟨none,rfl,rfl,rfl⟩,fun h=>absurd rfl h⟩,jm.out,(fun s hs=>by cases hs),Nat.zero_le _,HI2.out,Ah.out.aP.trans HF2.out fun _ _ h=>h⟩
   |some r=>
    have hcr:=zQ wr (.slice aV n cV) c (by unfold fZ;rw[hcl];exact Rd.own Ah.out.own) (qQ.fits kZ.out) (by omega)
    have ig:=ah hcr;clear hcr
    by_cases hr:dw c
    ·rw[bZ hr]at ig
     have jm:=ah (XY cO.out kZ.out hr);clear hr
     have wC:=ah (qQ.fits kZ.out)
     have hnl:=cO.out.left
     go_wp2_with(first
      |(go_at_call 58;refine HBAD.out.mono ?_;rintro e w2 ⟨rfl,rfl⟩)
      |(go_at_call 157;refine ig.out.mono ?_;rintro e w2 ⟨rfl,hf2⟩;have HF2:=ah hf2;clear hf2))
     go_ret
     exact⟨_,c,some r,rfl,by rw[hcl];exact Ah.out.EX.keep HF2.out (fun _ _ s=>s.elim),jm.out,wC.out,by omega,lg.out.keep HF2.out (fun _ _ h=>h),Ah.out.aP.trans HF2.out fun _ _ h=>h.elim⟩
    ·rw[aZ hr]at ig
     have jm:=ah (PU qP CG (M:=60000) (by omega) (by omega) cO.out kZ.out (.inr hr));clear hr
     go_wp2_with(first
      |(go_at_call 58;refine HBAD.out.mono ?_;rintro e w2 ⟨rfl,rfl⟩)
      |(go_at_call 157;refine ig.out.mono ?_;rintro e w2 ⟨rfl,hf2⟩;have Fv:=ah (lg.out.keep hf2 (fun _ _ h=>h));have HF2:=ah hf2;clear hf2)
      |(go_at_call 123;obtain⟨a,c,hh⟩:=Fv.out.heap;refine(ni ib _ _ w2 hh).mono ?_;rintro e w3 ⟨rfl,hi2,hf2⟩;have HI2:=ah hi2;clear hi2 hh;have HF3:=ah hf2;clear hf2))
     go_ret
     exact⟨_,[],none,rfl,⟨.inl ⟨none,rfl,rfl,rfl⟩,fun h=>absurd rfl h⟩,jm.out,(fun s hs=>by cases hs),Nat.zero_le _,HI2.out,(Ah.out.aP.trans HF2.out fun _ _ h=>h.elim).trans HF3.out fun _ _ h=>h⟩
open Go.RowKit
theorem Fz {P:Program} {ops:Array Oper} {o:Oper} {a:Act} (w:World) {K:Act→World→Prop} {Q:Exit→Act→World→Prop} {E:Prop} (news:List Value) (hgd:o.guard=none) (s x:Operand) (t:TypeId)
 (ho:o.op= .call {callee:= .builtin .append,args:= #[s,x],argTypes:= #[t,t]})
 (e:TypeId) (i:TypeInfo) (z:Value) (size bytes:Nat) (ht:P.underlying t=some (.slice e)) (hi:P.info? e=some i) (hz:i.zero=some z)
 (hsize:i.size=size) (hby:i.bytes=bytes) (hzs:z.cells.size=size) (hsz:0<size)
 (v:Value) (n:Nat) (xs:List Value) (hown:w.ownsRow 0 e size v n xs) (m c:Nat) (hv:a.eval s=v) (hx:a.eval x= .slice (some ⟨w.heap.size,0,none⟩) m c)
 (hnl:news.length=m*size) (h1:∀u∈news,u.oneCell'=true) (h63:n+m≤maxLen) (hbytes:(n+m)*bytes≤140737488355328)
 (h:∀ad c w',w'.ownsRow 0 e size (.slice ad (n+m) c) (n+m) (xs++news)→aj (fJ v) w w'→gK w v (.slice ad (n+m) c)→K (a.put o.dst (.slice ad (n+m) c)) w'):
 if Region.wanted o (yielded ops a.tmps)=true then Oper.wp P o a (w.alloc (.cells news.toArray e)) K Q else E:=by
 have hw:Region.wanted o (yielded ops a.tmps)=true:=by simp[Region.wanted,hgd]
 rw[if_pos hw]
 have hs:Src P size t (.slice (some ⟨w.heap.size,0,none⟩) m c) m news (w.alloc (.cells news.toArray e)):=
  Src.ofSlice _ ht ⟨w.heap.size,0,none⟩ m c news hnl (fun j u hj=>by
   have hadd:(⟨w.heap.size,0,none⟩:Addr).add j=⟨w.heap.size,j,none⟩:=by unfold Addr.add;split<;>simp_all
   rw[hadd,cell_of_row (w.alloc (.cells news.toArray e)) w.heap.size j news.toArray e (0,0) (heap_alloc_new w _)]
   simpa using hj) h1
 obtain⟨v',w',hr,h2,h3,h4,⟨ad,c',rfl⟩,h6⟩:=Ba (P:=P) (w.alloc (.cells news.toArray e)) t t o.type e i z size bytes ht hi hz hsize hby hzs hsz v n xs (hown.alloc _) _ m news hs h63 hbytes
 unfold Oper.wp execOp
 simp only[ho,resolve,invoke,builtin,Sem.run_bind,Sem.run_pure,Result.andThen_ok,List.map_toArray,List.map_cons,List.map_nil,hv,hx,hr]
 refine h ad c' w' h2 ((aj.alloc (fJ v) w _).trans h3 (fun _ _ h=>h)) fun k hk=>?_
 rcases h4 k hk with h|h
 ·exact .inl h
 ·refine .inr ?_
  simp at h
  omega
def CQ (w:World) (X:Nat→Prop) (h3:Nat) (ev kv:Value) (b:Nat):Prop:=w.heap.size≤b∧¬X b∧b≠h3∧ev.ownBlock≠some b∧kv.ownBlock≠some b
structure jE (S X:Nat→Prop) (w ww:World) (h3:Nat) (es:List aG) (l:List fM) (ev kv:Value):Prop where
 low:∀k,S k→k<w.heap.size
 rW:∀k,X k→w.heap.size≤k
 xlt:∀k,X k→k<ww.heap.size
 aP:aj S w ww
 b3:ww.heap[h3]?=some (.cells #[ev,kv] 30 (0,0))
 qM:w.heap.size≤h3
 Ai:¬X h3
 xH:ww.ownsRow 0 172 4 ev es.length (iY es)
 rX:∀b,ev.ownBlock=some b→w.heap.size≤b∧¬X b∧b≠h3
 CS:ww.ownsRow 0 83 3 kv l.length (l.flatMap fM.cells)
 knew:∀b,kv.ownBlock=some b→w.heap.size≤b∧¬X b∧b≠h3∧ev.ownBlock≠some b
 kids:∀q∈l,bQ (CQ w X h3 ev kv) ww q.ev q.kv q.es q.sub
section
variable {S X:Nat→Prop} {w ww w1 w':World} {h3:Nat} {es:List aG} {l:List fM} {ev kv ev' kv':Value}
theorem jE.keep (h:jE S X w ww h3 es l ev kv) (f:aj (fun k=>S k∨X k) ww w'):jE S X w w' h3 es l ev kv:=by
 have no:∀b,w.heap.size≤b→¬X b→¬(S b∨X b):=fun b hb hx hs=>hs.elim (fun s=>by have:=h.low b s;omega) hx
 refine⟨h.low,h.rW,fun k hk=>Nat.lt_of_lt_of_le (h.xlt k hk) f.size,?_,f.blk h.b3 (no _ h.qM h.Ai),h.qM,h.Ai,f.owns h.xH fun b hb=>no b (h.rX b hb).1 (h.rX b hb).2.1,h.rX,f.owns h.CS fun b hb=>no b (h.knew b hb).1 (h.knew b hb).2.1,h.knew,fun q hq=>(h.kids q hq).turn fun b hb hQ=>⟨f.block b hb (no b hQ.1 hQ.2.1),hQ⟩⟩
 exact h.aP.trans f fun i hi hs=>hs.elim id fun hx=>by have:=h.rW i hx;omega
theorem jE.nT (h:jE S X w ww h3 es l ev kv) (f:aj S ww w'):jE S X w w' h3 es l ev kv:=h.keep (f.mono fun _ _ s=> .inl s)
theorem jE.aO (h:jE S X w ww h3 es l ev kv) (f:aj ay ww w'):jE S X w w' h3 es l ev kv:=h.keep (f.mono fun _ _ s=>s.elim)
theorem jE.l3 (h:jE S X w ww h3 es l ev kv):h3<ww.heap.size:=lt_of_block h.b3
theorem jE.start (low:∀k,S k→k<w.heap.size) (rW:∀k,X k→w.heap.size≤k) (xlt:∀k,X k→k<ww.heap.size) (f:aj S w ww) (b3:ww.heap[h3]?=some (.cells #[.slice none 0 0, .slice none 0 0] 30 (0,0))) (qM:w.heap.size≤h3) (Ai:¬X h3):
 jE S X w ww h3 [] [] (.slice none 0 0) (.slice none 0 0):=
 ⟨low,rW,xlt,f,b3,qM,Ai,World.ownsRow_nil _ 0 _ 4,(fun b hb=>by simp[Value.ownBlock]at hb),World.ownsRow_nil _ 0 _ 3,(fun b hb=>by simp[Value.ownBlock]at hb),fun q hq=>by cases hq⟩
theorem jE.Yg (h:jE S X w w1 h3 es [] ev (.slice none 0 0)) {e:aG} (own:w'.ownsRow 0 172 4 ev' (es.length+1) (iY es++e.cells)) (fm:aj (fJ ev) w1 w') (fr:gK w1 ev ev'):
 jE S X w (w'.setCell ⟨h3,0,none⟩ ev') h3 (es++ [e]) [] ev' (.slice none 0 0):=by
 have hb3:¬fJ ev h3:=fun hs=>(h.rX h3 hs).2.2 rfl
 have hset:aj (fun b=>b=h3) w' (w'.setCell ⟨h3,0,none⟩ ev'):=aj.setCell (S:=fun b=>b=h3) w' (p:=⟨h3,0,none⟩) (.inl rfl) _
 have l3:=h.l3
 have hne:∀b,ev'.ownBlock=some b→w.heap.size≤b∧¬X b∧b≠h3:=fun b hb=>by
  rcases fr b hb with h1|h1
  ·exact h.rX b h1
  ·have:=h.aP.size
   exact⟨by omega,fun hx=>by have:=h.xlt b hx;omega,by omega⟩
 refine⟨h.low,h.rW,fun k hk=>Nat.lt_of_lt_of_le (h.xlt k hk) (Nat.le_trans fm.size hset.size),?_,bJ (fm.blk h.b3 hb3) 0 ev',h.qM,h.Ai,?_,hne,World.ownsRow_nil _ 0 _ 3,(fun b hb=>by simp[Value.ownBlock]at hb),fun q hq=>by cases hq⟩
 ·have f1:aj S w w':=h.aP.trans fm fun i hi hs=>by have:=(h.rX i hs).1;omega
  exact f1.trans hset fun i hi hs=>by have hs:i=h3:=hs;have:=h.qM;omega
 ·rw[List.length_append,VK]
  have:iY [e]=e.cells:=by simp[iY]
  rw[this]
  exact hset.owns own fun b hb hs=>(hne b hb).2.2 hs
theorem jE.Yh (h:jE S X w w1 h3 es l ev kv) {q:fM} (hq:bQ (CQ w X h3 ev kv) w1 q.ev q.kv q.es q.sub) (own:w'.ownsRow 0 83 3 kv' (l.length+1) (l.flatMap fM.cells++q.cells)) (fm:aj (fJ kv) w1 w') (fr:gK w1 kv kv'):
 jE S X w (w'.setCell ⟨h3,1,none⟩ kv') h3 es (l++ [q]) ev kv':=by
 have hb3:¬fJ kv h3:=fun hs=>(h.knew h3 hs).2.2.1 rfl
 have hset:aj (fun b=>b=h3) w' (w'.setCell ⟨h3,1,none⟩ kv'):=aj.setCell (S:=fun b=>b=h3) w' (p:=⟨h3,1,none⟩) (.inl rfl) _
 have l3:=h.l3
 have hne:∀b,kv'.ownBlock=some b→w.heap.size≤b∧¬X b∧b≠h3∧ev.ownBlock≠some b:=fun b hb=>by
  rcases fr b hb with h1|h1
  ·exact h.knew b h1
  ·have:=h.aP.size
   exact⟨by omega,fun hx=>by have:=h.xlt b hx;omega,by omega,fun he=>by have:=CJ h.xH b he;omega⟩
 have turn:∀b,b<w1.heap.size→CQ w X h3 ev kv b→(w'.setCell ⟨h3,1,none⟩ kv').heap[b]?=w1.heap[b]?∧CQ w X h3 ev kv' b:=fun b hb hQ=>by
  refine⟨?_,hQ.1,hQ.2.1,hQ.2.2.1,hQ.2.2.2.1,fun e=>?_⟩
  ·rw[hset.block b (Nat.lt_of_lt_of_le hb fm.size) hQ.2.2.1,fm.block b hb hQ.2.2.2.2]
  ·rcases fr b e with h1|h1
   ·exact hQ.2.2.2.2 h1
   ·omega
 refine⟨h.low,h.rW,fun k hk=>Nat.lt_of_lt_of_le (h.xlt k hk) (Nat.le_trans fm.size hset.size),?_,bJ (fm.blk h.b3 hb3) 1 kv',h.qM,h.Ai,?_,h.rX,?_,hne,fun x hx=>?_⟩
 ·have f1:aj S w w':=h.aP.trans fm fun i hi hs=>by have:=(h.knew i hs).1;omega
  exact f1.trans hset fun i hi hs=>by have hs:i=h3:=hs;have:=h.qM;omega
 ·have o1:=fm.owns h.xH fun b hb hs=>(h.knew b hs).2.2.2 hb
  exact hset.owns o1 fun b hb hs=>(h.rX b hb).2.2 hs
 ·rw[List.length_append,List.flatMap_append]
  have: [q].flatMap fM.cells=q.cells:=by simp
  rw[this]
  exact hset.owns own fun b hb hs=>(hne b hb).2.2.1 hs
 ·rcases List.mem_append.1 hx with hx|hx
  ·exact(h.kids x hx).turn turn
  ·rw[List.mem_singleton]at hx
   subst hx
   exact hq.turn turn
theorem jE.done (h:jE S X w ww h3 es l ev kv):bQ (fun b=>w.heap.size≤b∧¬X b∧b≠h3) ww ev kv es (mkK l):=by
 refine⟨⟨Rd.own h.xH,fun _ b hb=>h.rX b hb⟩,yM l,⟨?_,fun _ b hb=>⟨(h.knew b hb).1,(h.knew b hb).2.1,(h.knew b hb).2.2.1⟩⟩,EW fun q hq=>(h.kids q hq).turn fun b hb hQ=>⟨rfl,hQ.1,hQ.2.1,hQ.2.2.1⟩⟩
 rw[EU,vX]
 exact Rd.own h.CS
theorem jE.kid (h:jE S X w w1 h3 es l ev kv) {e2 k2:Value} {es2:List aG} {qR:aH} (ht:bQ (fun b=>w1.heap.size≤b) ww e2 k2 es2 qR) (hs:w1.heap.size≤ww.heap.size):bQ (CQ w X h3 ev kv) ww e2 k2 es2 qR:=
 ht.turn fun b hb hQ=>⟨rfl,by have:=h.aP.size;omega,fun hx=>by have:=h.xlt b hx;omega,by have:=h.l3;omega,fun he=>by have:=CJ h.xH b he;omega,fun he=>by have:=CJ h.CS b he;omega⟩
end
end Go.Proofs.YtabkpccdnkjoiaaGreat
