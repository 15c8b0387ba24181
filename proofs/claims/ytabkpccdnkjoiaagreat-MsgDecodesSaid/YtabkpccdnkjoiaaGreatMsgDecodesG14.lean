/- Words for the law MsgDecodes: Enc2, VecEnc, RTake, RTake2, RIn, RIText. -/
import Derived.Test.YtabkpccdnkjoiaaGreatMsgDecodesG0
import Derived.Test.YtabkpccdnkjoiaaGreatMsgDecodesG4
import Derived.Test.YtabkpccdnkjoiaaGreatMsgDecodesG13
import Derived.Deep.RegionWith
import Derived.Deep.RegionHeld3
set_option linter.unusedSimpArgs false
set_option linter.unusedVariables false
set_option maxHeartbeats 32000000
set_option maxRecDepth 1000000
namespace Go.Proofs.YtabkpccdnkjoiaaGreat
open Go.RowKit
structure rC (B:fA) (d:Nat) (bs:List UInt8) (es:List aQ) (ks:aS) (rest:List UInt8):Prop where
 eq:bs=fM es ks++rest
 Jl:∀e∈es,e.bd B
 Dp:ks.bd B
 deep:mQ ks+1≤d
structure Jm (B:fA) (d:Nat) (bs:List UInt8) (m:Nat) (ks:aS) (rest:List UInt8):Prop where
 eq:bs=jh ks++rest
 len:ks.len=m
 Dp:ks.bd B
 deep:mQ ks≤d
def rD (B:fA) (d:Nat) (st:Option (List UInt8)) (es:List aQ) (ks:aS) (s:Option (List UInt8)):Prop:=
 (∃bs rest,st=some bs∧s=some rest∧rC B d bs es ks rest)∨(s=none∧∀bs es ks rest,st=some bs→¬rC B d bs es ks rest)
theorem Nb:∀(l:List gB) (r:aS),jh (qy l r)=jh (mkK l)++jh r
 |[],_=>rfl
 |q::l,r=>by
  show jh (.cons q.key q.es q.sub (qy l r))=jh (.cons q.key q.es q.sub (mkK l))++_
  rw[Bl,Bl,Nb l r]
  simp only[List.append_assoc]
theorem TG {B:fA}:∀ {l:List gB} {r:aS},(mkK l).bd B→r.bd B→(qy l r).bd B
 |[],_,_,h=>h
 |q::l,r,h,k=>⟨h.1,h.2.1,h.2.2.1,TG (l:=l) h.2.2.2 k⟩
theorem TI {d:Nat}:∀ {l:List gB} {r:aS},mQ (mkK l)≤d→mQ r≤d→mQ (qy l r)≤d
 |[],_,_,h=>h
 |q::l,r,h,k=>by
  have h:max (1+mQ q.sub) (mQ (mkK l))≤d:=h
  have:=TI (l:=l) (r:=r) (d:=d) (by omega) k
  show max (1+mQ q.sub) (mQ (qy l r))≤d
  omega
def aS.Dq:Nat→aS→List gB
 |0,_=> []
 |_+1, .nil=> []
 |n+1, .cons key es sub rest=>⟨key,es,sub, .slice none 0 0, .slice none 0 0⟩::aS.Dq n rest
theorem aS.take_drop:∀(n:Nat) (ks:aS),ks=qy (ks.Dq n) (ks.drop n)
 |0,_=>rfl
 |_+1, .nil=>rfl
 |n+1, .cons key es sub rest=>by
  show _=aS.cons key es sub (qy (rest.Dq n) (rest.drop n))
  rw[←aS.take_drop n rest]
theorem aS.TJ:∀(n:Nat) (ks:aS),n≤ks.len→(ks.Dq n).length=n
 |0,_,_=>rfl
 |_+1, .nil,h=>by cases h
 |n+1, .cons _ _ _ rest,h=>by
  show(rest.Dq n).length+1=n+1
  rw[aS.TJ n rest (by have h:n+1≤rest.len+1:=h;omega)]
theorem Jm.next {B:fA} {d m:Nat} {b3 r rest:List UInt8} {ks:aS} {l:List gB} (h:Jm B d b3 m ks rest) (hb:b3=jh (mkK l)++r) (hk:l.length<m):
 ∃key es sub q,r=jF key++(fM es sub++q)∧(key.size:Int)≤B.s∧rC B d (fM es sub++q) es sub q:=by
 have hlen:=h.len
 obtain⟨key,es,sub,mY,hd⟩:=aS.xB (n:=l.length) (ks:=ks) (by omega)
 have hq:(ks.Dq l.length).length=l.length:=aS.TJ _ _ (by omega)
 have he:=h.eq
 rw[aS.take_drop l.length ks,Nb,hb,List.append_assoc]at he
 obtain⟨_,hr⟩:=Jj (by rw[CX,CX,hq]) he
 rw[hd,Bl]at hr
 have hbd:=h.Dp.drop l.length
 rw[hd]at hbd
 have hdp:=TD l.length ks
 rw[hd]at hdp
 have hdp:max (1+mQ sub) (mQ mY)≤mQ ks:=hdp
 have:=h.deep
 exact⟨key,es,sub,jh mY++rest,by rw[hr];simp only[List.append_assoc],hbd.1,rfl,hbd.2.1,hbd.2.2.1,by omega⟩
structure TK (B:fA) (d:Nat) (b3:List UInt8) (l:List gB) (r:List UInt8):Prop where
 eq:b3=jh (mkK l)++r
 bd:(mkK l).bd B
 deep:mQ (mkK l)≤d
def vw (B:fA) (d:Nat) (s3:Option (List UInt8)) (m:Nat) (l:List gB) (s:Option (List UInt8)):Prop:=
 (∃b3 r,s3=some b3∧s=some r∧TK B d b3 l r)∨(s=none∧∀b3 ks rest,s3=some b3→¬Jm B d b3 m ks rest)
theorem vw.start (B:fA) (d:Nat) (s3:Option (List UInt8)) (m:Nat):vw B d s3 m [] s3:=by
 cases s3 with
 |none=>exact .inr ⟨rfl,fun _ _ _ h=>by cases h⟩
 |some b=>exact .inl ⟨b,b,rfl,rfl,rfl,trivial,Nat.zero_le _⟩
theorem vw.good {B:fA} {d m:Nat} {s3:Option (List UInt8)} {l:List gB} {r:List UInt8} (h:vw B d s3 m l (some r)):∃b3,s3=some b3∧TK B d b3 l r:=by
 rcases h with⟨b3,r',h1,h2,h3⟩|⟨h1,_⟩
 ·injection h2 with h2;subst h2;exact⟨b3,h1,h3⟩
 ·cases h1
theorem vw.step {B:fA} {d m:Nat} {s3 t1 t2:Option (List UInt8)} {l:List gB} {r:List UInt8} (h:vw B d s3 m l (some r)) (hB:B.Ok) (hk:l.length<m) {q:gB}
 (ht:mX (some r) B.s q.key t1) (hg:rD B d t1 q.es q.sub t2):vw B d s3 m (l++ [q]) t2:=by
 obtain⟨b3,rfl,hb⟩:=h.good
 cases t2 with
 |some r2=>
  rcases hg with⟨bs,rest,rfl,hr,hg⟩|⟨hg,_⟩
  ·injection hr with hr;subst hr
   obtain⟨hr,hs⟩:=Na ht
   injection hr with hr
   refine .inl ⟨b3,r2,rfl,rfl,?_,?_,?_⟩
   ·show b3=jh (qy (l++ [q]) .nil)++r2
    rw[EH,Nb,Bl,hb.eq,hr,hg.eq]
    simp only[List.append_assoc,jh,List.nil_append]
   ·show(qy (l++ [q]) .nil).bd B
    rw[EH]
    exact TG hb.bd ⟨hs,hg.Jl,hg.Dp,trivial⟩
   ·show mQ (qy (l++ [q]) .nil)≤d
    rw[EH]
    have:=hg.deep
    exact TI hb.deep (by show max (1+mQ q.sub) 0≤d;omega)
  ·cases hg
 |none=>
  refine .inr ⟨rfl,fun b ks rest hb3 hks=>?_⟩
  injection hb3 with hb3;subst hb3
  obtain⟨key,es,sub,x,hr,hs,hgk⟩:=hks.next hb.eq hk
  subst hr
  obtain⟨_,rfl⟩:=ht.b_ (TF _ hs hB.s.2)
  rcases hg with⟨_,_,_,hg,_⟩|⟨_,hg⟩
  ·cases hg
  ·exact hg _ _ _ _ rfl hgk
theorem Nc (es:List aQ) (ks:aS):es.length≤(jg es).length∧ks.len≤(jh ks).length:=⟨MZ aa6 es,TB ks⟩
theorem TL {B:fA} (hB:B.Ok) {M:Int} (hM:M≤9223372036854775807) {d n m:Nat} {st s1 s2 s3:Option (List UInt8)} {es:List aQ} (hl:((leftOf st).length:Int)≤M) (h1:ji st M n s1) (h2:wH B s1 n es s2) (h3:ji s2 M m s3)
 {bs:List UInt8} {es':List aQ} {ks':aS} {rest:List UInt8} (hs:st=some bs) (hg:rC B (d+1) bs es' ks' rest):es'=es∧∃b3,s3=some b3∧Jm B d b3 m ks' rest:=by
 subst hs
 have he:=hg.eq
 unfold fM at he
 simp only[List.append_assoc]at he
 subst he
 have hge:=Nc es' ks'
 have hl:((bG es'.length++(jg es'++(bG ks'.len++(jh ks'++rest)))).length:Int)≤M:=hl
 simp only[List.length_append]at hl
 obtain⟨rfl,rfl⟩:=h1.b_ (ji.make (by simp only[List.length_append];omega) (by omega) hM)
 obtain⟨rfl,rfl⟩:=Run.b_ (R:=pJ B) (fun h k=>pJ.b_ h k) h2 (wH.make hB _ hg.Jl)
 obtain⟨rfl,rfl⟩:=h3.b_ (ji.make (by simp only[List.length_append];omega) (by omega) hM)
 have:=hg.deep
 exact⟨rfl,_,rfl,rfl,rfl,hg.Dp,by omega⟩
theorem TM {B:fA} (hB:B.Ok) {M:Int} (hM:M≤9223372036854775807) {d n m:Nat} {st s1 s2 s3 s:Option (List UInt8)} {es:List aQ} {l:List gB} (hl:((leftOf st).length:Int)≤M) (h1:ji st M n s1) (h2:wH B s1 n es s2) (h3:ji s2 M m s3)
 (hk:vw B d s3 m l s) (hm:l.length=m):rD B (d+1) st es (mkK l) s:=by
 cases s with
 |some r=>
  obtain⟨b3,rfl,hb⟩:=hk.good
  obtain⟨rfl,_,_⟩:=h3.good
  obtain⟨rfl,hes⟩:=h2.good
  obtain⟨rfl,_,_⟩:=h1.good
  have hd:=hb.deep
  refine .inl ⟨_,r,rfl,rfl,?_,hes,hb.bd,by omega⟩
  unfold fM
  rw[hb.eq,h2.len,CX,hm]
  simp only[List.append_assoc]
 |none=>
  refine .inr ⟨rfl,fun bs es' ks' rest hs hg=>?_⟩
  obtain⟨_,b3,h4,h5⟩:=TL hB hM hl h1 h2 h3 hs hg
  rcases hk with⟨_,_,_,h6,_⟩|⟨_,h6⟩
  ·cases h6
  ·exact h6 _ _ _ h4 h5
theorem TN {B:fA} (hB:B.Ok) {M:Int} (hM:M≤9223372036854775807) {d n m:Nat} {st s1 s2 s3:Option (List UInt8)} {es:List aQ} {l:List gB} (hl:((leftOf st).length:Int)≤M) (h1:ji st M n s1) (h2:wH B s1 n es s2) (h3:ji s2 M m s3)
 (hk:vw B d s3 m l none) (es':List aQ) (ks':aS):rD B (d+1) st es' ks' none:=by
 refine .inr ⟨rfl,fun bs es' ks' rest hs hg=>?_⟩
 obtain⟨_,b3,h4,h5⟩:=TL hB hM hl h1 h2 h3 hs hg
 rcases hk with⟨_,_,_,h6,_⟩|⟨_,h6⟩
 ·cases h6
 ·exact h6 _ _ _ h4 h5
theorem TP (B:fA) (st:Option (List UInt8)) (es:List aQ) (ks:aS):rD B 0 st es ks none:= .inr ⟨rfl,fun _ _ _ _ _ h=>by have:=h.deep;omega⟩
theorem aa8 {e:aQ} (h:iO e=true):e.bd gG:=by
 unfold iO qg at h
 simp only[Bool.and_eq_true,decide_eq_true_eq]at h
 obtain⟨⟨h1,h2,h3,h4⟩,h5,h6,h7⟩:=h
 exact⟨by simp only[gG];omega,by simp only[gG];omega,by simp only[gG];omega,by simp only[gG];omega⟩
theorem Nh:∀ {p:Option aQ} {es:List aQ},jQ p es=true→∀e∈es,e.bd gG
 |_,[],_,e,he=>by cases he
 |p,x::es,h,e,he=>by
  simp only[jQ,Bool.and_eq_true]at h
  rcases List.mem_cons.1 he with rfl|he
  ·exact aa8 h.1.1
  ·exact Nh h.2 e he
theorem Nj:∀ {ks:aS} {d:Nat} {p:Option ByteArray},pz ks d p=true→ks.bd gG∧mQ ks≤d
 | .nil,_,_,_=>⟨trivial,Nat.zero_le _⟩
 | .cons key es sub rest,d,p,h=>by
   simp only[pz,Bool.and_eq_true,decide_eq_true_eq]at h
   obtain⟨⟨⟨⟨h1,_⟩,_⟩,⟨h2,h3⟩,h4⟩,h5⟩:=h
   obtain⟨g1,g2⟩:=Nj h4
   obtain⟨g3,g4⟩:=Nj h5
   unfold uy at h1
   simp only[decide_eq_true_eq]at h1
   exact⟨⟨by simp only[gG];omega,Nh h3,g1,g3⟩,by show max (1+mQ sub) (mQ rest)≤d;omega⟩
theorem aQ.bd.up {e:aQ} (h:e.bd gG):e.bd jw:=by
 obtain⟨h1,h2,h3,h4⟩:=h
 simp only[gG]at h1 h2 h3 h4
 exact⟨by simp only[jw];omega,by simp only[jw];omega,by simp only[jw];omega,by simp only[jw];omega⟩
theorem aS.bd.up:∀ {ks:aS},ks.bd gG→ks.bd jw
 | .nil,_=>trivial
 | .cons _ _ _ _,h=>⟨by have:=h.1;simp only[gG]at this;simp only[jw];omega,fun e he=>(h.2.1 e he).up,h.2.2.1.up,h.2.2.2.up⟩
def Dt (B:fA):Prop:=(∀e:aQ,e.bd gG→e.bd B)∧(∀ks:aS,ks.bd gG→ks.bd B)∧∀s,Bo gG s→Bo B s
theorem EU:Dt gG:=⟨fun _ h=>h,fun _ h=>h,fun _ h=>h⟩
theorem Nk:Dt jw:=⟨fun _ h=>h.up,fun _ h=>h.up,fun s h=>by
 obtain⟨h1,h2,h3⟩:=h
 simp only[gG]at h1 h2 h3
 exact⟨by simp only[jw];omega,by simp only[jw];omega,by simp only[jw];omega⟩⟩
theorem Nl {B:fA} (hW:Dt B) {es:List aQ} {ks:aS} {rest:List UInt8} (h:dD 5 es ks=true):rC B 5 (fM es ks++rest) es ks rest:=by
 unfold dD at h
 simp only[Bool.and_eq_true,decide_eq_true_eq]at h
 obtain⟨⟨_,h1⟩,h2⟩:=h
 obtain⟨g1,g2⟩:=Nj h2
 exact⟨rfl,fun e he=>hW.1 e (Nh h1 e he),hW.2.1 ks g1,by omega⟩
def kH (st:Option (List UInt8)) (es:List aQ) (ks:aS) (s:Option (List UInt8)):Prop:=
 (∃rest,st=some (fM es ks++rest)∧dD 5 es ks=true∧s=some rest)∨(s=none∧es=[]∧ks= .nil∧∀es ks rest,st=some (fM es ks++rest)→dD 5 es ks=false)
theorem tree_good {B:fA} {st:Option (List UInt8)} {es:List aQ} {ks:aS} {rest:List UInt8} (h:rD B 5 st es ks (some rest)) (hr:dD 5 es ks=true):kH st es ks (some rest):=by
 rcases h with⟨bs,r,rfl,h2,h3⟩|⟨h,_⟩
 ·injection h2 with h2;subst h2
  exact .inl ⟨rest,by rw[h3.eq],hr,rfl⟩
 ·cases h
theorem TQ {B:fA} {st:Option (List UInt8)} {es:List aQ} {ks:aS} {rest:List UInt8} (h:rD B 5 st es ks (some rest)) (hr:dD 5 es ks=false):kH st [] .nil none:=by
 rcases h with⟨bs,r,rfl,h2,h3⟩|⟨h,_⟩
 ·refine .inr ⟨rfl,rfl,rfl,fun es' ks' rest' hs=>?_⟩
  injection hs with hs
  rw[h3.eq]at hs
  obtain⟨⟨rfl,rfl⟩,_⟩:=ES hs
  exact hr
 ·cases h
theorem TR {B:fA} (hW:Dt B) {st:Option (List UInt8)} {es:List aQ} {ks:aS} (h:rD B 5 st es ks none):kH st [] .nil none:=by
 rcases h with⟨_,_,_,h2,_⟩|⟨_,h⟩
 ·cases h2
 ·refine .inr ⟨rfl,rfl,rfl,fun es' ks' rest' hs=>?_⟩
  cases hr:dD 5 es' ks' with
  |false=>rfl
  |true=>exact absurd (Nl hW hr) (h _ _ _ _ hs)
theorem kH.b_ {st s s':Option (List UInt8)} {es es':List aQ} {ks ks':aS} (h:kH st es ks s) (k:kH st es' ks' s'):(es=es'∧ks=ks')∧s=s':=by
 rcases h with⟨r,h1,h2,h3⟩|⟨h1,h2,h3,h4⟩<;>rcases k with⟨r',k1,k2,k3⟩|⟨k1,k2,k3,k4⟩
 ·rw[h1]at k1
  injection k1 with k1
  obtain⟨e,rfl⟩:=ES k1
  exact⟨e,by rw[h3,k3]⟩
 ·rw[k4 _ _ _ h1]at h2;cases h2
 ·rw[h4 _ _ _ k1]at k2;cases k2
 ·exact⟨⟨by rw[h2,k2],by rw[h3,k3]⟩,by rw[h1,k1]⟩
theorem kH.make {es:List aQ} {ks:aS} (rest:List UInt8) (h:dD 5 es ks=true):kH (some (fM es ks++rest)) es ks (some rest):= .inl ⟨rest,rfl,h,rfl⟩
theorem dN.each {c:aX} (h:dN c):∀s∈c,Bo gG s:=fun s hs=>by
 have hd:∀ {c:aX} {lo:Int},iZ lo c→∀s∈c,lo≤s.1∧s.1<4:=by
  intro c
  induction c with
  |nil=>intro lo _ s hs;cases hs
  |cons x c ih=>
   intro lo h s hs
   rcases List.mem_cons.1 hs with rfl|hs
   ·exact⟨h.1,h.2.1⟩
   ·have:=ih h.2.2 s hs
    have:=h.1
    omega
 obtain⟨h0,h4⟩:=hd h.1 s hs
 have hr:=h.2 s.1 h0 h4
 have hm:s.2∈bQ c s.1:=by
  unfold bQ
  exact List.mem_map.2 ⟨s,List.mem_filter.2 ⟨hs,by simp⟩,rfl⟩
 have g1:=oZ hr.1 _ hm
 have g2:=hr.2 _ hm
 refine⟨?_,?_,?_⟩<;>simp only[gG]<;>omega
def kV (st:Option (List UInt8)) (c:aX) (s:Option (List UInt8)):Prop:=
 (∃rest,st=some (lZ c++rest)∧dN c∧s=some rest)∨(s=none∧c=[]∧∀c rest,st=some (lZ c++rest)→¬dN c)
theorem aa9 {B:fA} (hB:B.Ok) (hW:Dt B) {M:Int} (hM:M≤9223372036854775807) {n:Nat} {st s1 s2:Option (List UInt8)} {c:aX} (hl:((leftOf st).length:Int)≤M) (h1:ji st M n s1) (h2:ru B s1 n c s2)
 {c':aX} {rest:List UInt8} (hs:st=some (lZ c'++rest)) (hr:dN c'):c'=c∧s2=some rest:=by
 subst hs
 have hge:c'.length≤(pI c').length:=MZ aa7 c'
 have hl:((lZ c'++rest).length:Int)≤M:=hl
 unfold lZ at hl h1
 rw[List.append_assoc]at hl h1
 simp only[List.length_append]at hl
 obtain⟨rfl,rfl⟩:=h1.b_ (ji.make (by simp only[List.length_append];omega) (by omega) hM)
 obtain⟨rfl,rfl⟩:=Run.b_ (R:=nR B) (fun h k=>nR.b_ h k) h2 (ru.make hB _ fun s hs=>hW.2.2 s (hr.each s hs))
 exact⟨rfl,rfl⟩
theorem TS {B:fA} {M:Int} {n:Nat} {st s1:Option (List UInt8)} {c:aX} {rest:List UInt8} (h1:ji st M n s1) (h2:ru B s1 n c (some rest)) (hr:dN c):kV st c (some rest):=by
 obtain⟨rfl,_⟩:=h2.good
 obtain⟨rfl,_,_⟩:=h1.good
 refine .inl ⟨rest,?_,hr,rfl⟩
 unfold lZ
 rw[h2.len,List.append_assoc]
theorem Jo {B:fA} (hB:B.Ok) (hW:Dt B) {M:Int} (hM:M≤9223372036854775807) {n:Nat} {st s1 s2:Option (List UInt8)} {c:aX} (hl:((leftOf st).length:Int)≤M) (h1:ji st M n s1) (h2:ru B s1 n c s2) (h:s2=none∨¬dN c):kV st [] none:=by
 refine .inr ⟨rfl,rfl,fun c' rest hs hr=>?_⟩
 obtain⟨rfl,h3⟩:=aa9 hB hW hM hl h1 h2 hs hr
 rcases h with h|h
 ·rw[h]at h3;cases h3
 ·exact h hr
theorem kV.b_ {st s s':Option (List UInt8)} {c c':aX} (h:kV st c s) (k:kV st c' s'):c=c'∧s=s':=by
 rcases h with⟨r,h1,h2,h3⟩|⟨h1,h2,h4⟩<;>rcases k with⟨r',k1,k2,k3⟩|⟨k1,k2,k4⟩
 ·rw[h1]at k1
  injection k1 with k1
  obtain⟨e,rfl⟩:=TA k1
  exact⟨e,by rw[h3,k3]⟩
 ·exact absurd h2 (k4 _ _ h1)
 ·exact absurd k2 (h4 _ _ k1)
 ·exact⟨by rw[h2,k2],by rw[h1,k1]⟩
theorem kV.make {c:aX} (rest:List UInt8) (h:dN c):kV (some (lZ c++rest)) c (some rest):= .inl ⟨rest,rfl,h,rfl⟩
def kW (st:Option (List UInt8)) (es:List aQ) (ks:aS) (c:aX) (s:Option (List UInt8)):Prop:=
 (∃rest,st=some (kC es ks c++rest)∧jM es ks c∧s=some rest)∨(s=none∧es=[]∧ks= .nil∧c=[]∧∀es ks c rest,st=some (kC es ks c++rest)→¬jM es ks c)
theorem TT {st s1 s2:Option (List UInt8)} {es es':List aQ} {ks ks':aS} {c c':aX} {rest:List UInt8} (h1:kH st es ks s1) (h2:kV s1 c s2) (hs:st=some (kC es' ks' c'++rest)) (hr:jM es' ks' c'):
 es'=es∧ks'=ks∧c'=c∧s2=some rest:=by
 subst hs
 unfold kC at h1
 rw[List.append_assoc]at h1
 obtain⟨⟨rfl,rfl⟩,rfl⟩:=h1.b_ (kH.make _ hr.tree)
 obtain⟨rfl,rfl⟩:=h2.b_ (kV.make _ hr.ctx)
 exact⟨rfl,rfl,rfl,rfl⟩
theorem aa_ {st s1:Option (List UInt8)} {es:List aQ} {ks:aS} {c:aX} {rest:List UInt8} (h1:kH st es ks s1) (h2:kV s1 c (some rest)):st=some (kC es ks c++rest)∧dD 5 es ks=true∧dN c:=by
 rcases h2 with⟨r,rfl,k2,k3⟩|⟨k1,_⟩
 ·injection k3 with k3;subst k3
  rcases h1 with⟨r',rfl,h2,h3⟩|⟨h1,_⟩
  ·injection h3 with h3;subst h3
   exact⟨by unfold kC;rw[List.append_assoc],h2,k2⟩
  ·cases h1
 ·cases k1
theorem TU {st s1:Option (List UInt8)} {es:List aQ} {ks:aS} {c:aX} {rest:List UInt8} (h1:kH st es ks s1) (h2:kV s1 c (some rest)) (hr:jM es ks c):kW st es ks c (some rest):=
 .inl ⟨rest,(aa_ h1 h2).1,hr,rfl⟩
theorem Jp {st s1 s2:Option (List UInt8)} {es:List aQ} {ks:aS} {c:aX} (h1:kH st es ks s1) (h2:kV s1 c s2) (h:s2=none∨¬jM es ks c):kW st [] .nil [] none:=by
 refine .inr ⟨rfl,rfl,rfl,rfl,fun es' ks' c' rest hs hr=>?_⟩
 obtain⟨rfl,rfl,rfl,h3⟩:=TT h1 h2 hs hr
 rcases h with h|h
 ·rw[h]at h3;cases h3
 ·exact h hr
theorem kW.b_ {st s s':Option (List UInt8)} {es es':List aQ} {ks ks':aS} {c c':aX} (h:kW st es ks c s) (k:kW st es' ks' c' s'):((es=es'∧ks=ks')∧c=c')∧s=s':=by
 rcases h with⟨r,h1,h2,h3⟩|⟨h1,h2,h3,h5,h4⟩<;>rcases k with⟨r',k1,k2,k3⟩|⟨k1,k2,k3,k5,k4⟩
 ·rw[h1]at k1
  injection k1 with k1
  obtain⟨e,rfl⟩:=MX k1
  exact⟨e,by rw[h3,k3]⟩
 ·exact absurd h2 (k4 _ _ _ _ h1)
 ·exact absurd k2 (h4 _ _ _ _ k1)
 ·exact⟨⟨⟨by rw[h2,k2],by rw[h3,k3]⟩,by rw[h5,k5]⟩,by rw[h1,k1]⟩
theorem kW.make {es:List aQ} {ks:aS} {c:aX} (rest:List UInt8) (h:jM es ks c):kW (some (kC es ks c++rest)) es ks c (some rest):= .inl ⟨rest,rfl,h,rfl⟩
theorem Np {v m:Int} (h:-m≤v∧v≤m) (hm:m≤9223372036854775807):(bG v).length≤10:=jr (by omega) (by omega)
theorem TV {e:aQ} (h:e.bd gG):(oO e).length≤70:=by
 have h1:=Np h.dc wG.dc.2
 have h2:=Np h.n wG.n.2
 have h4:=Np h.k wG.k.2
 have h3:=h.s
 have h5:(bG e.s.size).length≤10:=jr (by simp only[gG]at h3;omega) (by simp only[gG]at h3;omega)
 have h6:e.s.data.toList.length=e.s.size:=Array.length_toList
 unfold oO jF
 simp only[List.length_append,gG]at*
 omega
theorem EW {n:Nat} (h:n≤9223372036854775807):(bG n).length≤10:=jr (by omega) (by omega)
theorem Nq:∀ {ks:aS},ks.bd gG→jE ks≤9223372036854775807→(jh ks).length≤75*jE ks
 | .nil,_,_=>Nat.zero_le _
 | .cons key es sub rest,h,hs=>by
   have hs':1+es.length+jE sub+jE rest≤9223372036854775807:=hs
   have h1:=Nq h.2.2.1 (by omega)
   have h2:=Nq h.2.2.2 (by omega)
   have h3:(jg es).length≤70*es.length:=Jk fun e he=>TV (h.2.1 e he)
   have h4:=h.1
   have h5:(bG key.size).length≤10:=jr (by simp only[gG]at h4;omega) (by simp only[gG]at h4;omega)
   have h6:key.data.toList.length=key.size:=Array.length_toList
   have h7:=EW (n:=es.length) (by omega)
   have h9:sub.len≤jE sub:=yU sub
   have h8:=EW (n:=sub.len) (by omega)
   simp only[gG]at h4
   unfold jh jE jF
   simp only[List.length_append]
   omega
theorem TW {es:List aQ} {ks:aS} (h:dD 5 es ks=true) (hs:sizeT es ks≤9223372036854775807):(fM es ks).length≤20+75*sizeT es ks:=by
 have hg:=Nl EU (rest:=[]) h
 have hs':es.length+jE ks≤9223372036854775807:=hs
 have h1:=Nq hg.Dp (by omega)
 have h3:(jg es).length≤70*es.length:=Jk fun e he=>TV (hg.Jl e he)
 have h9:ks.len≤jE ks:=yU ks
 have h7:=EW (n:=es.length) (by omega)
 have h8:=EW (n:=ks.len) (by omega)
 unfold fM sizeT
 simp only[List.length_append]
 omega
open Go.RowKit
def jH (v0 v1 v2 v3:Int):List UInt8:=bG v0++(bG v1++(bG v2++bG v3))
theorem Nr {a b c d a' b' c' d':Int} {x y:List UInt8} (h:jH a b c d++x=jH a' b' c' d'++y):(a=a'∧b=b'∧c=c'∧d=d')∧x=y:=by
 unfold jH at h
 simp only[List.append_assoc]at h
 replace h:=lF h
 obtain⟨h1,h⟩:=h
 replace h:=lF h
 obtain⟨h2,h⟩:=h
 replace h:=lF h
 obtain⟨h3,h⟩:=h
 replace h:=lF h
 obtain⟨h4,h⟩:=h
 exact⟨⟨h1,h2,h3,h4⟩,h⟩
def kD (st:Option (List UInt8)) (v0 v1 v2 v3:Int) (s:Option (List UInt8)):Prop:=
 (∃rest,st=some (jH v0 v1 v2 v3++rest)∧g_ (bP v0 v1 v2 v3)∧s=some rest)∨(s=none∧v0=0∧v1=0∧v2=0∧v3=0∧∀u0 u1 u2 u3 rest,st=some (jH u0 u1 u2 u3++rest)→¬g_ (bP u0 u1 u2 u3))
theorem Ns {v0 v1 v2 v3:Int} (h:g_ (bP v0 v1 v2 v3)):(0≤v0∧v0≤1099511627776)∧(0≤v1∧v1≤1099511627776)∧(0≤v2∧v2≤1099511627776)∧0≤v3∧v3≤1099511627776:=
 ⟨h 0 (by decide) (by decide),h 1 (by decide) (by decide),h 2 (by decide) (by decide),h 3 (by decide) (by decide)⟩
theorem kD.b_ {st s s':Option (List UInt8)} {a b c d a' b' c' d':Int} (h:kD st a b c d s) (k:kD st a' b' c' d' s'):(a=a'∧b=b'∧c=c'∧d=d')∧s=s':=by
 rcases h with⟨r,h1,h2,h3⟩|⟨h1,h2,h3,h4,h5,h6⟩<;>rcases k with⟨r',k1,k2,k3⟩|⟨k1,k2,k3,k4,k5,k6⟩
 ·rw[h1]at k1
  injection k1 with k1
  obtain⟨e,rfl⟩:=Nr k1
  exact⟨e,by rw[h3,k3]⟩
 ·exact absurd h2 (k6 _ _ _ _ _ h1)
 ·exact absurd k2 (h6 _ _ _ _ _ k1)
 ·subst h2 h3 h4 h5 k2 k3 k4 k5
  exact⟨⟨rfl,rfl,rfl,rfl⟩,by rw[h1,k1]⟩
theorem kD.total (st:Option (List UInt8)):∃v0 v1 v2 v3 s,kD st v0 v1 v2 v3 s:=by
 by_cases h:∃v0 v1 v2 v3 rest,st=some (jH v0 v1 v2 v3++rest)∧g_ (bP v0 v1 v2 v3)
 ·obtain⟨v0,v1,v2,v3,rest,h1,h2⟩:=h
  exact⟨v0,v1,v2,v3,some rest, .inl ⟨rest,h1,h2,rfl⟩⟩
 ·exact⟨0,0,0,0,none, .inr ⟨rfl,rfl,rfl,rfl,rfl,fun u0 u1 u2 u3 rest h1 h2=>h ⟨u0,u1,u2,u3,rest,h1,h2⟩⟩⟩
theorem kD.make {v0 v1 v2 v3:Int} (rest:List UInt8) (h:g_ (bP v0 v1 v2 v3)):kD (some (jH v0 v1 v2 v3++rest)) v0 v1 v2 v3 (some rest):= .inl ⟨rest,rfl,h,rfl⟩
theorem kD.left {st s:Option (List UInt8)} {v0 v1 v2 v3:Int} (h:kD st v0 v1 v2 v3 s):(leftOf s).length≤(leftOf st).length:=by
 rcases h with⟨r,rfl,_,rfl⟩|⟨rfl,_⟩
 ·show r.length≤(jH v0 v1 v2 v3++r).length
  rw[List.length_append];omega
 ·exact Nat.zero_le _
def V4 (m:Int) (st:Option (List UInt8)) (v0 v1 v2 v3:Int) (s4:Option (List UInt8)):Prop:=
 ∃s1 s2 s3,dw st m v0 s1∧dw s1 m v1 s2∧dw s2 m v2 s3∧dw s3 m v3 s4
theorem TY {m:Int} {st:Option (List UInt8)} {v0 v1 v2 v3:Int} {r:List UInt8} (h:V4 m st v0 v1 v2 v3 (some r)) (hm:g_ (bP v0 v1 v2 v3)):kD st v0 v1 v2 v3 (some r):=by
 obtain⟨s1,s2,s3,h1,h2,h3,h4⟩:=h
 obtain⟨rfl,_,_⟩:=nP h4
 obtain⟨rfl,_,_⟩:=nP h3
 obtain⟨rfl,_,_⟩:=nP h2
 obtain⟨rfl,_,_⟩:=nP h1
 exact .inl ⟨r,by unfold jH;simp only[List.append_assoc],hm,rfl⟩
theorem Jq {m:Int} (hm1:1099511627776≤m) (hm2:m≤9223372036854775807) {st s4:Option (List UInt8)} {v0 v1 v2 v3:Int} (h:V4 m st v0 v1 v2 v3 s4) (hb:s4=none∨¬g_ (bP v0 v1 v2 v3)):kD st 0 0 0 0 none:=by
 refine .inr ⟨rfl,rfl,rfl,rfl,rfl,fun u0 u1 u2 u3 rest hs hu=>?_⟩
 subst hs
 obtain⟨s1,s2,s3,h1,h2,h3,h4⟩:=h
 obtain⟨g0,g1,g2,g3⟩:=Ns hu
 unfold jH at h1
 simp only[List.append_assoc]at h1
 obtain⟨rfl,rfl⟩:=h1.b_ (jy _ ⟨by omega,by omega⟩ hm2)
 obtain⟨rfl,rfl⟩:=h2.b_ (jy _ ⟨by omega,by omega⟩ hm2)
 obtain⟨rfl,rfl⟩:=h3.b_ (jy _ ⟨by omega,by omega⟩ hm2)
 obtain⟨rfl,rfl⟩:=h4.b_ (jy _ ⟨by omega,by omega⟩ hm2)
 rcases hb with hb|hb
 ·cases hb
 ·exact hb hu
theorem V4.total (m:Int) (st:Option (List UInt8)):∃v0 v1 v2 v3 s1 s2 s3 s4,dw st m v0 s1∧dw s1 m v1 s2∧dw s2 m v2 s3∧dw s3 m v3 s4:=by
 obtain⟨v0,s1,h1⟩:=dw.total st m
 obtain⟨v1,s2,h2⟩:=dw.total s1 m
 obtain⟨v2,s3,h3⟩:=dw.total s2 m
 obtain⟨v3,s4,h4⟩:=dw.total s3 m
 exact⟨v0,v1,v2,v3,s1,s2,s3,s4,h1,h2,h3,h4⟩
open Go.RowKit
theorem aa' {u0 x k:Nat} (hx:u0+x*128^k<18446744073709551616):IntKind.u64.wrap ((u0:Int)+IntKind.u64.wrap ((x:Int)*2^(7*k)))=((u0+x*128^k:Nat):Int):=by
 have e:((x:Int)*2^(7*k))=((x*128^k:Nat):Int):=by rw[←Jh];simp
 rw[e,IntWalk.u64_in ((x*128^k:Nat):Int) (by omega),IntWalk.u64_in _ (by omega)]
 omega
theorem Rd.pre2 {w:World} {ad:Option Addr} {c n:Nat} {bs:List UInt8} (h:Rd w (.slice ad n c) n (bV bs)) (hn:bs.length=n) (k:Nat) (hk:k≤n):Rd w (.slice ad k c) (bs.take k).length (bV (bs.take k)):=by
 subst hn;exact h.pre k hk
theorem T_ {U:Int} {k M:Nat} {a:Bool} (h:k+1=M) (hb:a=true):Ending.returned (.tuple #[.int .i64 U, .int .i64 ((k:Int)+1), .bool a])= .returned (.tuple #[.int .i64 U, .int .i64 M, .bool true]):=by
 subst h hb;rfl
theorem Ua {U:Int} {k:Nat} {a:Bool} (hb:a=false):∃x m:Int,Ending.returned (.tuple #[.int .i64 U, .int .i64 ((k:Int)+1), .bool a])= .returned (.tuple #[.int .i64 x, .int .i64 m, .bool false]):=⟨_,_,by rw[hb]⟩
def abb (e:Ending):Prop:=∃x m:Int,e= .returned (.tuple #[.int .i64 x, .int .i64 m, .bool false])
theorem abd (n:Nat):n<128^(vl n).length:=by
 induction n using Nat.strongRecOn with
 |ind n ih=>
  by_cases hn:n<128
  ·rw[qB hn];simpa using hn
  ·rw[tN hn,List.length_cons,yY]
   have:=ih (n/128) (by omega)
   omega
theorem Ub (v:Value) (bs rest:List UInt8) (n:Nat) (w:World) (h:Rd w v bs.length (bV bs)) (hb:bs=vl n++rest) (hn:n<18446744073709551616):
 Calls Tryz.prog 133 #[v] w fun e w'=>e= .returned (.tuple #[.int .i64 (qC n), .int .i64 (vl n).length, .bool true])∧aj fK w w':=by
 have hpos:=Jc n
 rcases h with⟨ad,rfl,h0,_⟩|⟨b,off,c,rfl,hc1,hc2,hcell⟩
 ·exfalso
  rw[hb,List.length_append]at h0
  omega
 ·have hl63:bs.length≤9223372036854775807:=Nat.le_trans hc1 hc2
  have hlen:(vl n).length≤bs.length:=by rw[hb,List.length_append];omega
  have aaT:=Bj hn
  have HH:Hid (Rd w (.slice (some ⟨b,off,none⟩) bs.length c) bs.length (bV bs)):=ah (.inr ⟨b,off,c,rfl,hc1,hc2,hcell⟩)
  have HB:=ah hb;clear hb
  have HN:=ah hn;clear hn
  have HC:=ah hcell;clear hcell
  have Uc:=SX HN.out
  generalize hL:bs.length=L at*
  have HL:=ah hL;clear hL
  generalize hM:(vl n).length=M at*
  have HM:=ah hM;clear hM
  generalize hU:qC n=U at*
  have HU:=ah hU;clear hU
  clear hc2
  go_enter Tryz.func133,Tryz.ntmps133
  go_wp2
  go_loop [5,10] (fun u i=>∃k:Nat,k<M∧i= .int .i64 k∧u= .int .u64 (n%128^k:Nat)) (fun _ i=>M-(intOf i).toNat)
  case atStart=>exact⟨0,by omega,rfl,by simp[Nat.mod_one]⟩
  case round=>
   obtain⟨k,hk,rfl,rfl⟩:=hrel
   obtain⟨hk',h9,h1,hm,hlast,hend,hmore⟩:=SQ HB.out HN.out (by rw[HM.out];exact hk)
   have hcl:w.cell? ⟨b,off+k,none⟩=some (.int .u8 (bs[k].toNat:Int)):=HC.out k _ (by simp[bV,hk'])
   generalize hbk:bs[k]=ck at*
   have hlt:=ck.toNat_lt
   generalize hcn:ck.toNat=c0 at*
   have MQ:k<L:=by rw[←HL.out];exact hk'
   have hu1:n%128^k+c0%128*128^k=n%128^(k+1):=by rw[hm];exact SS n k
   have abe:n%128^(k+1)≤n:=Nat.mod_le _ _
   have hadd:=aa' (u0:=n%128^k) (x:=c0%128) (by rw[hu1];have:=HN.out;omega)
   rw[hu1]at hadd
   have hmd:(c0:Int)%128=((c0%128:Nat):Int):=by omega
   generalize n%128^k=u0 at*
   have A1:=ah hm;clear hm
   have A2:=ah hlast;clear hlast
   have A3:=ah hend;clear hend
   have A4:=ah hmore;clear hmore
   have A7:=ah hbk;clear hbk
   clear hcn h1 hu1 abe
   have hx:c0%128<128:=Nat.mod_lt _ (by omega)
   generalize c0%128=x at*
   generalize hz:n%128^(k+1)=u1 at*
   have HZ:=ah hz;clear hz
   by_cases hc:c0<128
   ·have yZ:k+1=M:=by rw[←HM.out];exact A2.out.1 hc
    have hun:u1=n:=by
     rw[←HZ.out,yZ,←HM.out]
     exact Nat.mod_eq_of_lt (abd n)
    obtain⟨q,hq⟩:∃q,u1/2=q:=⟨_,rfl⟩
    have hqb:q≤9223372036854775807:=by have:=HN.out;omega
    have hqi:(u1:Int)/2=(q:Int):=by omega
    have hck:k+1≤c:=by omega
    have hcmp:bG U=bs.take (k+1):=by
     rw[←HU.out,SY,HB.out,yZ,←HM.out,List.take_left]
    have hcall:=fun W=>SL U W Uc.1 Uc.2
    have xK:=ah hcall;clear hcall
    have EX:=ah hcmp;clear hcmp
    have hpre:=HH.out.pre2 HL.out (k+1) (by omega)
    have Bq:=ah hpre;clear hpre
    have cvb:=kQ (Bq.out.keep (aj.drew fK w) fun _ _ h=>h)
    have hw1:IntKind.i64.wrap ((k:Int)+1)=(k:Int)+1:=IntWalk.i64_in _ (by omega)
    have wu:=ah yZ;clear yZ
    rcases Nat.mod_two_eq_zero_or_one u1 with h2|h2
    ·have Nu:(u1:Int)%2=0:=by omega
     have Nv:(q:Int)=U:=by rw[←HU.out,←hun];unfold qC;rw[if_pos h2,hq]
     clear hq h2 hun
     go_wp2_with fail
     go_region_with (go_at_call 179;refine(xK.out _).mono ?_;rintro e wx ⟨vx,rfl,hcx⟩;have Nw:=kQ hcx.rd;have Ny:=kQ (Bq.out.keep ((aj.drew fK w).trans hcx.aH fun _ _ h=>h) fun _ _ h=>h);have HX:=ah hcx;clear hcx)
     all_goals
      go_wp2
      go_ret3
      exact⟨T_ wu.out (beq_iff_eq.2 EX.out),(aj.drew fK w).trans HX.out.aH fun _ _ h=>h⟩
    ·have Nu:(u1:Int)%2=1:=by omega
     have Nv:-(q:Int)-1=U:=by rw[←HU.out,←hun];unfold qC;rw[if_neg (by omega),hq]
     clear hq h2 hun
     go_wp2_with fail
     go_region_with (go_at_call 179;refine(xK.out _).mono ?_;rintro e wx ⟨vx,rfl,hcx⟩;have Nw:=kQ hcx.rd;have Ny:=kQ (Bq.out.keep ((aj.drew fK w).trans hcx.aH fun _ _ h=>h) fun _ _ h=>h);have HX:=ah hcx;clear hcx)
     all_goals
      go_wp2
      go_ret3
      exact⟨T_ wu.out (beq_iff_eq.2 EX.out),(aj.drew fK w).trans HX.out.aH fun _ _ h=>h⟩
   ·have yZ:k+1<M:=by rw[←HM.out];exact A4.out (by omega)
    go_wp2
    go_round
    case rel=>exact⟨k+1,yZ,by go_num,by rw[HZ.out]⟩
    case measure=>simp[intOf];omega
open Go.RowKit
theorem Ud (v:Value) (bs:List UInt8) (w:World) (h:Rd w v bs.length (bV bs)) (hno:Jf bs):
 Calls Tryz.prog 133 #[v] w fun e w'=>abb e∧aj fK w w':=by
 rcases h with⟨ad,rfl,h0,_⟩|⟨b,off,c,rfl,hc1,hc2,hcell⟩
 ·clear hno h0
  go_enter Tryz.func133,Tryz.ntmps133
  go_wp2
  go_loop [5,10] (fun u i=>u= .int .u64 0∧i= .int .i64 0) (fun _ _=>0)
  case atStart=>exact⟨rfl,rfl⟩
  case round=>
   obtain⟨rfl,rfl⟩:=hrel
   go_wp2
   go_ret3
   exact⟨⟨_,_,rfl⟩,aj.refl _ _⟩
 ·have hl63:bs.length≤9223372036854775807:=Nat.le_trans hc1 hc2
  have HH:Hid (Rd w (.slice (some ⟨b,off,none⟩) bs.length c) bs.length (bV bs)):=ah (.inr ⟨b,off,c,rfl,hc1,hc2,hcell⟩)
  have eP:=ah hno;clear hno
  have HC:=ah hcell;clear hcell
  generalize hL:bs.length=L at*
  have HL:=ah hL;clear hL
  clear hc2
  go_enter Tryz.func133,Tryz.ntmps133
  go_wp2
  go_loop [5,10] (fun u i=>∃(k u0:Nat),k≤L∧i= .int .i64 k∧u= .int .u64 u0∧u0<18446744073709551616) (fun _ i=>L-(intOf i).toNat)
  case atStart=>exact⟨0,0,by omega,rfl,rfl,by omega⟩
  case round=>
   obtain⟨k,u0,hk,rfl,rfl,hu0⟩:=hrel
   have HU0:=ah hu0;clear hu0
   by_cases MQ:k<L
   ·have hk':k<bs.length:=by rw[HL.out];exact MQ
    have hcl:w.cell? ⟨b,off+k,none⟩=some (.int .u8 (bs[k].toNat:Int)):=HC.out k _ (by simp[bV,hk'])
    generalize bs[k]=ck at*
    have hlt:=ck.toNat_lt
    generalize ck.toNat=c0 at*
    by_cases hk9:9<k
    ·go_wp2
     go_ret3
     exact⟨⟨_,_,rfl⟩,aj.refl _ _⟩
    ·have hmd:(c0:Int)%128=((c0%128:Nat):Int):=by omega
     have hx:c0%128<128:=Nat.mod_lt _ (by omega)
     generalize c0%128=x at*
     obtain⟨u1,hadd,hu1⟩:∃u1:Nat,IntKind.u64.wrap ((u0:Int)+IntKind.u64.wrap ((x:Int)*2^(7*k)))=(u1:Int)∧u1<18446744073709551616:=by
      rw[IntKind.wrap_u64 ((u0:Int)+_)]
      exact⟨(((u0:Int)+IntKind.u64.wrap ((x:Int)*2^(7*k)))%18446744073709551616).toNat,by omega,by omega⟩
     have Ue:=ah hu1;clear hu1
     by_cases hc:c0<128
     ·obtain⟨q,hq⟩:∃q,u1/2=q:=⟨_,rfl⟩
      have hqb:q≤9223372036854775807:=by have:=Ue.out;omega
      have hqi:(u1:Int)/2=(q:Int):=by omega
      have hck:k+1≤c:=by omega
      have hcmp:∀U:Int,-9223372036854775808≤U→U≤9223372036854775807→¬bG U=bs.take (k+1):=fun U h1 h2 e=>eP.out U (bs.drop (k+1)) ⟨⟨h1,h2⟩,by rw[e,List.take_append_drop]⟩
      have hcall:=fun U h1 h2 W=>SL U W h1 h2
      have xK:=ah hcall;clear hcall
      have EX:=ah hcmp;clear hcmp
      have hpre:=HH.out.pre2 HL.out (k+1) (by omega)
      have Bq:=ah hpre;clear hpre
      have cvb:=kQ (Bq.out.keep (aj.drew fK w) fun _ _ h=>h)
      have hw1:IntKind.i64.wrap ((k:Int)+1)=(k:Int)+1:=IntWalk.i64_in _ (by omega)
      rcases Nat.mod_two_eq_zero_or_one u1 with h2|h2
      ·have Nu:(u1:Int)%2=0:=by omega
       obtain⟨U,Nv⟩:∃U,(q:Int)=U:=⟨_,rfl⟩
       have EY:-9223372036854775808≤U:=by omega
       have EZ:U≤9223372036854775807:=by omega
       clear hq h2
       go_wp2_with fail
       go_region_with (go_at_call 179;refine(xK.out U EY EZ _).mono ?_;rintro e wx ⟨vx,rfl,hcx⟩;have Nw:=kQ hcx.rd;have Ny:=kQ (Bq.out.keep ((aj.drew fK w).trans hcx.aH fun _ _ h=>h) fun _ _ h=>h);have HX:=ah hcx;clear hcx)
       all_goals
        go_wp2
        go_ret3
        exact⟨Ua (beq_false_of_ne (EX.out U EY EZ)),(aj.drew fK w).trans HX.out.aH fun _ _ h=>h⟩
      ·have Nu:(u1:Int)%2=1:=by omega
       obtain⟨U,Nv⟩:∃U,-(q:Int)-1=U:=⟨_,rfl⟩
       have EY:-9223372036854775808≤U:=by omega
       have EZ:U≤9223372036854775807:=by omega
       clear hq h2
       go_wp2_with fail
       go_region_with (go_at_call 179;refine(xK.out U EY EZ _).mono ?_;rintro e wx ⟨vx,rfl,hcx⟩;have Nw:=kQ hcx.rd;have Ny:=kQ (Bq.out.keep ((aj.drew fK w).trans hcx.aH fun _ _ h=>h) fun _ _ h=>h);have HX:=ah hcx;clear hcx)
       all_goals
        go_wp2
        go_ret3
        exact⟨Ua (beq_false_of_ne (EX.out U EY EZ)),(aj.drew fK w).trans HX.out.aH fun _ _ h=>h⟩
     ·go_wp2
      go_round
      case rel=>exact⟨k+1,u1,by omega,by go_num,rfl,Ue.out⟩
      case measure=>simp[intOf];omega
   ·go_wp2
    go_ret3
    exact⟨⟨_,_,rfl⟩,aj.refl _ _⟩
open Go.RowKit
def qE (w:World) (v:Value) (bad:Bool):Option (List UInt8)→Prop
 |none=>v= .slice none 0 0∧bad=true
 |some bs=>bad=false∧Rd w v bs.length (bV bs)
theorem qE.keep {w w':World} {v:Value} {bad:Bool} {st:Option (List UInt8)} (h:qE w v bad st) {S:Nat→Prop} (f:aj S w w') (hn:∀k,v.ownBlock=some k→¬S k):qE w' v bad st:=by
 cases st with
 |none=>exact h
 |some bs=>exact⟨h.1,h.2.keep f hn⟩
theorem Du (w:World) (v:Value) (bad:Bool) (st:Option (List UInt8)) (h:qE w v bad st):
 Calls Tryz.prog 68 #[.agg #[v, .bool bad]] w fun e w'=>e= .returned (.bool (nO st))∧aj fK w w':=by
 cases st with
 |none=>
  obtain⟨rfl,rfl⟩:=h
  go_enter Tryz.func68,Tryz.ntmps68
  go_wp2
  go_ret
  exact⟨rfl,aj.alloc fK w _⟩
 |some bs=>
  obtain⟨rfl,hr⟩:=h
  obtain⟨a,c,rfl⟩:=xQ hr
  clear hr
  by_cases h0:bs.length=0
  ·have hd:((bs.length:Int)==0)=true:=beq_iff_eq.2 (by omega)
   have he:nO (some bs)=true:=by simp[nO];simpa using h0
   rw[he]
   clear he h0
   go_enter Tryz.func68,Tryz.ntmps68
   go_wp2
   go_ret
   exact⟨rfl,aj.alloc fK w _⟩
  ·have hd:((bs.length:Int)==0)=false:=beq_false_of_ne (by omega)
   have he:nO (some bs)=false:=by simp[nO];simpa using h0
   rw[he]
   clear he h0
   go_enter Tryz.func68,Tryz.ntmps68
   go_wp2
   go_ret
   exact⟨rfl,aj.alloc fK w _⟩
def vC (v' v:Value):Prop:=∀k,v'.ownBlock=some k→v.ownBlock=some k
theorem vC.nil (v:Value):vC (.slice none 0 0) v:=fun _ h=>by simp[Value.ownBlock]at h
theorem Uf (a:Option Addr) (n c n' c':Nat):(Value.slice a n c).ownBlock=(Value.slice a n' c').ownBlock:=by cases a<;>rfl
theorem Nz (a:Option Addr) (k n c n' c':Nat):(Value.slice (a.map fun x=>x.add k) n c).ownBlock=(Value.slice a n' c').ownBlock:=by
 cases a with
 |none=>rfl
 |some a=>simp[Value.ownBlock,Addr.add];split<;>rfl
theorem Rd.drop {w:World} {a:Option Addr} {L c:Nat} {bs:List UInt8} (h:Rd w (.slice a L c) L (bV bs)) (hL:bs.length=L) (k:Nat) (hk:k≤L):
 Rd w (.slice (a.map fun x=>x.add k) (L-k) (c-k)) (bs.drop k).length (bV (bs.drop k)):=by
 have hlen:(bs.drop k).length=L-k:=by rw[List.length_drop,hL]
 rcases h with⟨ad,h1,h2,h3⟩|⟨b,off,c'',h1,h2,h3,h4⟩
 ·injection h1 with e1 e2 e3
  have hb:bs=[]:=by simpa[bV]using h3
  subst hb
  exact .inl ⟨a.map fun x=>x.add k,by rw[h2,e3];simp,by simp,by simp[bV]⟩
 ·injection h1 with e1 e2 e3
  subst e1
  refine .inr ⟨b,off+k,c-k,by rw[hlen];simp[addr_add],by omega,by omega,fun j u hu=>?_⟩
  have:=h4 (k+j) u (by rw[←hu,bV,bV,List.map_drop,List.getElem?_drop])
  rwa [←Nat.add_assoc]at this
theorem wI {w w1:World} {o1 o2:Obj} (h:aj fK ((w.alloc o1).alloc o2) w1) (u u':Value):aj fK w ((w1.setCell ⟨w.heap.size+1,0,none⟩ u).setCell ⟨w.heap.size+1,1,none⟩ u'):=by
 have h0:aj fK w w1:=((aj.alloc fK w o1).trans (aj.alloc fK _ o2) fun _ _ h=>h).trans h fun _ _ h=>h
 refine(h0.trans (dG w1 (w.heap.size+1) 0 u) fun i hi hs=>?_).trans (dG _ (w.heap.size+1) 1 u') fun i hi hs=>?_
 ·have:i=w.heap.size+1:=hs;omega
 ·have:i=w.heap.size+1:=hs;omega
theorem abj (m:Int) (w:World):Calls Tryz.prog 64 #[.agg #[.slice none 0 0, .bool true], .int .i64 m] w fun e w'=>e= .returned (.tuple #[.int .i64 0, .agg #[.slice none 0 0, .bool true]])∧aj fK w w':=by
 have hno:Jf []:=fun v r h=>by
  have h1:=congrArg List.length h.2
  have h2:=rX v
  simp only[List.length_nil,List.length_append]at h1
  omega
 have htk:=fun W=>Ud (.slice none 0 0) [] W (.inl ⟨none,rfl,rfl,rfl⟩) hno
 have xR:=ah htk;clear htk
 clear hno
 go_enter Tryz.func64,Tryz.ntmps64
 go_wp2_with(go_at_call 133;refine(xR.out _).mono ?_)
 rintro e w1 ⟨⟨x,k,rfl⟩,hfm⟩
 have hz:=hfm.size
 have hc:=fun o=>hfm.cell (p:=⟨w.heap.size+1,o,none⟩) (by simp) (fun h=>h)
 have hc':=fun o=>hfm.cell (p:=⟨w.heap.size,o,none⟩) (by simp;omega) (fun h=>h)
 have hq:=fun o=>hfm.frozen (p:=⟨w.heap.size+1,o,none⟩) (by simp) (fun h=>h)
 have pK:=ah hfm;clear hfm
 go_wp2
 exact bodyPost_ret (v:= .tuple #[.int .i64 0, .agg #[.slice none 0 0, .bool true]]) (by simp[results,Tryz.results64,go_sem,hc]) rfl ⟨rfl,wI pK.out _ _⟩
theorem abk (m:Int) (v:Value) (bs:List UInt8) (w:World) (h:Rd w v bs.length (bV bs)) (hno:Jf bs):
 Calls Tryz.prog 64 #[.agg #[v, .bool false], .int .i64 m] w fun e w'=>e= .returned (.tuple #[.int .i64 0, .agg #[.slice none 0 0, .bool true]])∧aj fK w w':=by
 have htk:=fun W h=>Ud v bs W h hno
 obtain⟨a,c,rfl⟩:=xQ h
 have xR:=ah htk;clear htk
 have HH:=ah h;clear h
 clear hno
 go_enter Tryz.func64,Tryz.ntmps64
 go_wp2_with(go_at_call 133;refine(xR.out _ (HH.out.keep ((aj.alloc fK w _).trans (aj.alloc fK _ _) fun _ _ h=>h) fun _ _ h=>h)).mono ?_)
 rintro e w1 ⟨⟨x,k,rfl⟩,hfm⟩
 have hz:=hfm.size
 have hc:=fun o=>hfm.cell (p:=⟨w.heap.size+1,o,none⟩) (by simp) (fun h=>h)
 have hc':=fun o=>hfm.cell (p:=⟨w.heap.size,o,none⟩) (by simp;omega) (fun h=>h)
 have hq:=fun o=>hfm.frozen (p:=⟨w.heap.size+1,o,none⟩) (by simp) (fun h=>h)
 have pK:=ah hfm;clear hfm
 go_wp2
 exact bodyPost_ret (v:= .tuple #[.int .i64 0, .agg #[.slice none 0 0, .bool true]]) (by simp[results,Tryz.results64,go_sem,hc]) rfl ⟨rfl,wI pK.out _ _⟩
theorem abl (m:Int) (v:Value) (bs r:List UInt8) (u:Int) (w:World) (h:Rd w v bs.length (bV bs)) (hb:Begins bs u r) (hm:m<0∨m<u∨u< -m) (hm2:m≤9223372036854775807) (afo:-9223372036854775808≤m):
 Calls Tryz.prog 64 #[.agg #[v, .bool false], .int .i64 m] w fun e w'=>e= .returned (.tuple #[.int .i64 0, .agg #[.slice none 0 0, .bool true]])∧aj fK w w':=by
 have hn:=hb.vl
 have htk:=fun W h=>Ub v bs r (zz u) W h hn.2 hn.1
 rw[Je]at htk
 obtain⟨a,c,rfl⟩:=xQ h
 have xR:=ah htk;clear htk
 have HH:=ah h;clear h
 generalize (vl (zz u)).length=M at*
 clear hb hn
 rcases(show m<0∨(0≤m∧m<u)∨(0≤m∧u≤m∧u< -m) by omega)with h0|⟨h0,h1⟩|⟨h0,h1,h2⟩
 all_goals
  clear hm
  go_enter Tryz.func64,Tryz.ntmps64
  go_wp2_with(go_at_call 133;refine(xR.out _ (HH.out.keep ((aj.alloc fK w _).trans (aj.alloc fK _ _) fun _ _ h=>h) fun _ _ h=>h)).mono ?_)
  rintro e w1 ⟨rfl,hfm⟩
  have hz:=hfm.size
  have hc:=fun o=>hfm.cell (p:=⟨w.heap.size+1,o,none⟩) (by simp) (fun h=>h)
  have hc':=fun o=>hfm.cell (p:=⟨w.heap.size,o,none⟩) (by simp;omega) (fun h=>h)
  have hq:=fun o=>hfm.frozen (p:=⟨w.heap.size+1,o,none⟩) (by simp) (fun h=>h)
  have pK:=ah hfm;clear hfm
  go_wp2
  exact bodyPost_ret (v:= .tuple #[.int .i64 0, .agg #[.slice none 0 0, .bool true]]) (by simp[results,Tryz.results64,go_sem,hc]) rfl ⟨rfl,wI pK.out _ _⟩
theorem abm (m:Int) (v:Value) (bs r:List UInt8) (u:Int) (w:World) (h:Rd w v bs.length (bV bs)) (hb:Begins bs u r) (hm:0≤m∧u≤m∧-m≤u) (hm2:m≤9223372036854775807):
 Calls Tryz.prog 64 #[.agg #[v, .bool false], .int .i64 m] w fun e w'=>∃v',e= .returned (.tuple #[.int .i64 u, .agg #[v', .bool false]])∧Rd w' v' r.length (bV r)∧(v'.ownBlock=v.ownBlock)∧aj fK w w':=by
 have hn:=hb.vl
 have htk:=fun W h=>Ub v bs r (zz u) W h hn.2 hn.1
 rw[Je]at htk
 obtain⟨a,c,rfl⟩:=xQ h
 have hcap:=MW h
 have hlen:(vl (zz u)).length+r.length=bs.length:=by rw[hn.2];simp
 have hdrop:bs.drop (vl (zz u)).length=r:=(congrArg (List.drop (vl (zz u)).length) hn.2).trans List.drop_left
 have xR:=ah htk;clear htk
 have HH:=ah h;clear h
 generalize (vl (zz u)).length=M at*
 generalize hL:bs.length=L at*
 have HL:=ah hL;clear hL
 have HD:=ah hdrop;clear hdrop
 have hML:M≤L:=by omega
 have HLEN:=ah hlen;clear hlen
 obtain⟨h0,h1,h2⟩:=hm
 clear hb hn
 go_enter Tryz.func64,Tryz.ntmps64
 go_wp2_with(go_at_call 133;refine(xR.out _ (HH.out.keep ((aj.alloc fK w _).trans (aj.alloc fK _ _) fun _ _ h=>h) fun _ _ h=>h)).mono ?_)
 rintro e w1 ⟨rfl,hfm⟩
 have hz:=hfm.size
 have hc:=fun o=>hfm.cell (p:=⟨w.heap.size+1,o,none⟩) (by simp) (fun h=>h)
 have hc':=fun o=>hfm.cell (p:=⟨w.heap.size,o,none⟩) (by simp;omega) (fun h=>h)
 have hq:=fun o=>hfm.frozen (p:=⟨w.heap.size+1,o,none⟩) (by simp) (fun h=>h)
 have pK:=ah hfm;clear hfm
 by_cases hcap2:c=M
 ·subst hcap2
  go_wp2_with fail
  go_region
  go_wp2
  refine bodyPost_ret (v:= .tuple #[.int .i64 u, .agg #[.slice a 0 0, .bool false]]) (by simp[results,Tryz.results64,go_sem,hc]) rfl ⟨_,rfl,?_,Uf a 0 0 L c,(wI pK.out _ _).trans (aj.drew fK _) fun _ _ h=>h⟩
  have:r=[]:=List.eq_nil_of_length_eq_zero (by have:=HLEN.out;omega)
  subst this
  exact .inl ⟨a,rfl,rfl,rfl⟩
 ·go_wp2_with fail
  go_region
  go_wp2
  refine bodyPost_ret (v:= .tuple #[.int .i64 u, .agg #[.slice (Option.map (fun x=>x.add M) a) (L-M) (c-M), .bool false]]) (by simp[results,Tryz.results64,go_sem,hc]) rfl ⟨_,rfl,?_,Nz a M _ _ L c,(wI pK.out _ _).trans (aj.drew fK _) fun _ _ h=>h⟩
  have hd:=HH.out.drop HL.out M hML
  rw[HD.out]at hd
  exact hd.keep ((wI pK.out _ _).trans (aj.drew fK _) fun _ _ h=>h) fun _ _ h=>h
theorem Ug (m:Int) (v:Value) (bad:Bool) (st:Option (List UInt8)) (w:World) (h:qE w v bad st) (hm2:m≤9223372036854775807) (jG:-9223372036854775808≤m):
 Calls Tryz.prog 64 #[.agg #[v, .bool bad], .int .i64 m] w fun e w'=>∃n v' bad' st',e= .returned (.tuple #[.int .i64 n, .agg #[v', .bool bad']])∧dw st m n st'∧qE w' v' bad' st'∧vC v' v∧aj fK w w':=by
 cases st with
 |none=>
  obtain⟨rfl,rfl⟩:=h
  exact(abj m w).mono fun e w' ⟨he,hf⟩=>⟨0,_,true,none,he,⟨rfl,rfl⟩,⟨rfl,rfl⟩,vC.nil _,hf⟩
 |some bs=>
  obtain⟨rfl,hr⟩:=h
  by_cases hb:∃u r,Begins bs u r
  ·obtain⟨u,r,hb⟩:=hb
   by_cases hm:0≤m∧u≤m∧-m≤u
   ·exact(abm m v bs r u w hr hb hm hm2).mono fun e w' ⟨v',he,h1,h2,h3⟩=>⟨u,v',false,some r,he, .inl ⟨r,hb,hm.1,hm.2.1,hm.2.2,rfl⟩,⟨rfl,h1⟩,fun k hk=>h2▸hk,h3⟩
   ·exact(abl m v bs r u w hr hb (by omega) hm2 jG).mono fun e w' ⟨he,hf⟩=>⟨0,_,true,none,he, .inr ⟨fun u' r' hb'=>by
     obtain⟨e1,_⟩:=hb.unique hb'
     omega,rfl,rfl⟩,⟨rfl,rfl⟩,vC.nil _,hf⟩
  ·exact(abk m v bs w hr fun u r h=>hb ⟨u,r,h⟩).mono fun e w' ⟨he,hf⟩=>⟨0,_,true,none,he, .inr ⟨fun u r h=>(hb ⟨u,r,h⟩).elim,rfl,rfl⟩,⟨rfl,rfl⟩,vC.nil _,hf⟩
open Go.RowKit
theorem Rd.Uh {w w':World} {v:Value} {n:Nat} {xs:List Value} (h:Rd w v n xs) {S:Nat→Prop} (f:aj S w w') (hn:xs≠ []→∀k,v.ownBlock=some k→¬S k):Rd w' v n xs:=by
 rcases h with h|⟨b,off,c,rfl,h1,h2,h3⟩
 ·exact .inl h
 ·refine .inr ⟨b,off,c,rfl,h1,h2,fun j u hu=>f.cell' (h3 j u hu) (hn (fun e=>?_) b rfl)⟩
  subst e
  simp at hu
theorem Rd.lt {w:World} {v:Value} {n:Nat} {xs:List Value} (h:Rd w v n xs) (hne:xs≠ []):∀k,v.ownBlock=some k→k<w.heap.size:=fun k hk=>by
 rcases h with⟨ad,_,_,h3⟩|⟨b,off,c,rfl,_,_,h3⟩
 ·exact absurd h3 hne
 ·simp[Value.ownBlock]at hk
  subst hk
  obtain⟨x,l,rfl⟩:=List.exists_cons_of_ne_nil hne
  exact World.block_lt_of_cell? _ _ (h3 0 x rfl)
theorem abo {w:World} {v:Value} {bad:Bool} {st:Option (List UInt8)} {m n:Int} {r:List UInt8} (h:qE w v bad st) (hs:dw st m n (some r)):∀k,v.ownBlock=some k→k<w.heap.size:=by
 cases st with
 |none=>cases hs.2
 |some bs=>
  refine h.2.lt fun e=>?_
  rcases hs with⟨r',hb,_⟩|⟨_,_,h3⟩
  ·have h1:=congrArg List.length hb.2
   have h2:=rX n
   have h3:bs=[]:=by simpa[bV]using e
   subst h3
   simp only[List.length_nil,List.length_append]at h1
   omega
  ·cases h3
theorem abp (m:Int) (v:Value) (bad:Bool) (st:Option (List UInt8)) (w:World) (h:qE w v bad st) (hm2:m≤9223372036854775807) (jG:-9223372036854775808≤m):
 Calls Tryz.prog 226 #[.agg #[v, .bool bad], .int .i64 m] w fun e w'=>∃s v' bad' st',e= .returned (.tuple #[.string s, .agg #[v', .bool bad']])∧mX st m s st'∧qE w' v' bad' st'∧vC v' v∧aj fK w w':=by
 have hcall:=fun W h=>Ug m v bad st W h hm2 jG
 have xK:=ah hcall;clear hcall
 have HH:=ah h;clear h
 go_enter Tryz.func226,Tryz.ntmps226
 go_wp2_with fail
 refine(xK.out _ (HH.out.keep ((aj.alloc fK w _).trans (aj.alloc fK _ _) fun _ _ h=>h) fun _ _ h=>h)).mono ?_
 rintro e w1 ⟨n,v1,afp,st1,rfl,hs1,hr1,ho1,hf1⟩
 have hz:=hf1.size
 have hc:=fun o=>hf1.cell (p:=⟨w.heap.size+1,o,none⟩) (by simp) (fun h=>h)
 have hc':=fun o=>hf1.cell (p:=⟨w.heap.size,o,none⟩) (by simp;omega) (fun h=>h)
 have hq:=fun o=>hf1.frozen (p:=⟨w.heap.size+1,o,none⟩) (by simp) (fun h=>h)
 have hz1:w.heap.size+1<w1.heap.size:=by simp at hz;omega
 clear hz
 have HS:=ah hs1;clear hs1
 have HO:=ah ho1;clear ho1
 have HF:=ah hf1;clear hf1
 cases st1 with
 |none=>
  obtain⟨rfl,rfl⟩:=hr1
  go_wp2
  exact bodyPost_ret (v:= .tuple #[.string ⟨#[]⟩, .agg #[.slice none 0 0, .bool true]]) (by simp[results,Tryz.results226,go_sem,hc,hz1]) rfl ⟨_,_,_,none,rfl,⟨n,none,HS.out,rfl,rfl⟩,⟨rfl,rfl⟩,vC.nil _,(wI HF.out _ _).trans (aj.alloc fK _ _) fun _ _ h=>h⟩
 |some bs=>
  obtain⟨rfl,hrd⟩:=hr1
  obtain⟨a,c,rfl⟩:=xQ hrd
  have hcap:=MW hrd
  have HR:=ah hrd;clear hrd
  by_cases hn:0≤n∧n≤bs.length
  ·obtain⟨k,rfl⟩:=Int.eq_ofNat_of_zero_le hn.1
   have hk:k≤bs.length:=by omega
   have Ui:=HR.out.pre k hk
   have CVP:=ah Ui;clear Ui
   have cv:=fun(W:World) (f:aj fK w1 W)=>kQ (CVP.out.keep f fun _ _ h=>h)
   have CV:=ah cv;clear cv
   have cv0:=CV.out ((w1.alloc (.cells #[.slice a bs.length c, .bool false] 115)).drew) ((aj.alloc fK w1 _).trans (aj.drew fK _) fun _ _ h=>h)
   have hstep:mX st m ⟨(bs.take k).toArray⟩ (some (bs.drop k)):=⟨k,some bs,HS.out, .inl ⟨by omega,by omega,by simp,by simp⟩⟩
   have ST:=ah hstep;clear hstep
   generalize hL:bs.length=L at*
   have HL:=ah hL;clear hL
   clear hn
   by_cases hcap2:c=k
   ·subst hcap2
    go_wp2_with fail
    go_region
    go_wp2
    have hlc:L=c:=by omega
    have hd:bs.drop c=[]:=by rw[←hlc,←HL.out];exact List.drop_length
    have st:=ST.out
    rw[hd]at st
    refine bodyPost_ret (v:= .tuple #[.string ⟨(bs.take c).toArray⟩, .agg #[.slice a 0 0, .bool false]]) (by simp[results,Tryz.results226,go_sem,hc,hz1]) rfl ⟨_,_,_,some [],rfl,st,⟨rfl, .inl ⟨a,rfl,rfl,rfl⟩⟩,fun i hi=>HO.out i ((Uf a 0 0 L c)▸hi),?_⟩
    exact((wI HF.out _ _).trans (aj.alloc fK _ _) fun _ _ h=>h).trans (aj.drew fK _) fun _ _ h=>h
   ·go_wp2_with fail
    go_region
    go_wp2
    refine bodyPost_ret (v:= .tuple #[.string ⟨(bs.take k).toArray⟩, .agg #[.slice (Option.map (fun x=>x.add k) a) (L-k) (c-k), .bool false]]) (by simp[results,Tryz.results226,go_sem,hc,hz1]) rfl ⟨_,_,_,some (bs.drop k),rfl,ST.out,⟨rfl,?_⟩,?_,?_⟩
    ·have hd:=HR.out.drop HL.out k hk
     have hfr:aj (Only (w.heap.size+1)) w1 (((((w1.setCell ⟨w.heap.size+1,0,none⟩ (.slice (Option.map (fun x=>x.add k) a) (L-k) (c-k))).setCell ⟨w.heap.size+1,1,none⟩ (.bool false)).alloc (.cells #[.slice a L c, .bool false] 115)).drew)):=
      (((dG w1 _ 0 _).trans (dG _ _ 1 _) fun _ _ h=>h).trans (aj.alloc _ _ _) fun _ _ h=>h).trans (aj.drew (Only (w.heap.size+1)) _) fun _ _ h=>h
     refine hd.Uh hfr fun _ i hi hs=>?_
     have h1:=HO.out i ((Nz a k _ _ L c)▸hi)
     have h2:=abo HH.out HS.out i h1
     have h3:i=w.heap.size+1:=hs
     omega
    ·exact fun i hi=>HO.out i ((Nz a k _ _ L c)▸hi)
    ·exact((wI HF.out _ _).trans (aj.alloc fK _ _) fun _ _ h=>h).trans (aj.drew fK _) fun _ _ h=>h
  ·have hn':n<0∨(bs.length:Int)<n:=by omega
   rcases hn' with h0|h0
   all_goals
    clear hn
    go_wp2
    exact bodyPost_ret (v:= .tuple #[.string ⟨#[]⟩, .agg #[.slice none 0 0, .bool true]]) (by simp[results,Tryz.results226,go_sem,hc,hz1]) rfl ⟨_,_,_,none,rfl,⟨n,some bs,HS.out, .inr ⟨by omega,rfl,rfl⟩⟩,⟨rfl,rfl⟩,vC.nil _,(wI HF.out _ _).trans (aj.alloc fK _ _) fun _ _ h=>h⟩
end Go.Proofs.YtabkpccdnkjoiaaGreat
