/- Words for the law ShSet: Tree, BunLaw, Size, SOf, COf, R8a. -/
import Derived.Test.YtlhmbkjdfjoilaaGreatShSetG0
import Derived.Test.YtlhmbkjdfjoilaaGreatShSetG3
import Derived.Test.YtlhmbkjdfjoilaaGreatShSetG6
set_option linter.unusedSimpArgs false
set_option linter.unusedVariables false
set_option maxHeartbeats 32000000
set_option maxRecDepth 1000000
namespace Go.Proofs.YtlhmbkjdfjoilaaGreat
open Go.RowKit
structure aG where
 dc:Int
 n:Int
 s:ByteArray
 k:Int
inductive aH where
 |nil:aH
 |cons (key:ByteArray) (es:List aG) (sub rest:aH):aH
def aH.len:aH→Nat
 | .nil=>0
 | .cons _ _ _ rest=>rest.len+1
def aG.zero:aG:=⟨0,0,ByteArray.empty,0⟩
def aG.cells (e:aG):List Value:=[.int .i64 e.dc, .int .i64 e.n, .string e.s, .int .i64 e.k]
def fK (es:List aG):List Value:=es.flatMap aG.cells
theorem Ij (e:aG) (es:List aG):fK (e::es)= .int .i64 e.dc:: .int .i64 e.n:: .string e.s:: .int .i64 e.k::fK es:=rfl
theorem CY (a b:List aG):fK (a++b)=fK a++fK b:=by simp[fK]
theorem Ik:∀es:List aG,(fK es).length=es.length*4
 |[]=>rfl
 |e::es=>by rw[Ij];simp only[List.length_cons,Ik es];omega
theorem PW (es:List aG):∀v∈fK es,v.oneCell'=true:=by
 intro v hv
 simp only[fK,List.mem_flatMap]at hv
 obtain⟨r,_,hv⟩:=hv
 simp[aG.cells]at hv
 rcases hv with rfl|rfl|rfl|rfl<;>rfl
theorem Il:∀(es:List aG) (k:Nat),k<es.length→(fK es)[k*4]?=some (.int .i64 (es.getD k aG.zero).dc)∧(fK es)[k*4+1]?=some (.int .i64 (es.getD k aG.zero).n)∧
 (fK es)[k*4+2]?=some (.string (es.getD k aG.zero).s)∧(fK es)[k*4+3]?=some (.int .i64 (es.getD k aG.zero).k)
 |[],_,h=>by cases h
 |e::es,0,_=>⟨rfl,rfl,rfl,rfl⟩
 |e::es,k+1,h=>by
  obtain⟨h1,h2,h3,h4⟩:=Il es k (by simpa using h)
  rw[Ij,show(k+1)*4=k*4+1+1+1+1 by omega,show k*4+1+1+1+1+1=(k*4+1)+1+1+1+1 by omega,show k*4+1+1+1+1+2=(k*4+2)+1+1+1+1 by omega,show k*4+1+1+1+1+3=(k*4+3)+1+1+1+1 by omega]
  exact⟨h1,h2,h3,h4⟩
def fZ:aH→List (Value×Value)→List Value
 | .cons key _ _ rest,o::outs=> .string key::o.1::o.2::fZ rest outs
 |_,_=> []
structure lD (Q:Nat→Prop) (w:World) (v:Value) (n:Nat) (xs:List Value):Prop where
 rd:Rd w v n xs
 q:xs≠ []→∀k,v.ownBlock=some k→Q k
theorem lD.keep {Q S:Nat→Prop} {w w':World} {v:Value} {n:Nat} {xs:List Value} (h:lD Q w v n xs) (f:aj S w w') (hs:∀k,k<w.heap.size→S k→¬Q k):lD Q w' v n xs:=by
 refine⟨?_,h.q⟩
 rcases h.rd with h1|⟨b,off,c,rfl,h1,h2,h3⟩
 ·exact .inl h1
 ·refine .inr ⟨b,off,c,rfl,h1,h2,fun j u hu=>f.cell' (h3 j u hu) fun s=>?_⟩
  have hlt:b<w.heap.size:=World.block_lt_of_cell? _ _ (h3 j u hu)
  exact hs b hlt s (h.q (fun e=>by rw[e]at hu;simp at hu) b rfl)
def gQ (Q:Nat→Prop) (w:World):aH→List (Value×Value)→Prop
 | .nil,outs=>outs=[]
 | .cons _ es sub rest,outs=>∃ev kv lF os,outs=(ev,kv)::lF∧lD Q w ev es.length (fK es)∧lD Q w kv sub.len (fZ sub os)∧gQ Q w sub os∧gQ Q w rest lF
structure bC (Q:Nat→Prop) (w:World) (ev kv:Value) (es:List aG) (ks:aH):Prop where
 ents:lD Q w ev es.length (fK es)
 kids:∃os,lD Q w kv ks.len (fZ ks os)∧gQ Q w ks os
theorem gQ.keep {Q S:Nat→Prop} {w w':World} (f:aj S w w') (hs:∀k,k<w.heap.size→S k→¬Q k):∀ {ks:aH} {os:List (Value×Value)},gQ Q w ks os→gQ Q w' ks os
 | .nil,_,h=>h
 | .cons _ _ _ _,_,⟨ev,kv,lF,os,h1,h2,h3,h4,h5⟩=>⟨ev,kv,lF,os,h1,h2.keep f hs,h3.keep f hs,h4.keep f hs,h5.keep f hs⟩
theorem bC.keep {Q S:Nat→Prop} {w w':World} {ev kv:Value} {es:List aG} {ks:aH} (h:bC Q w ev kv es ks) (f:aj S w w') (hs:∀k,k<w.heap.size→S k→¬Q k):bC Q w' ev kv es ks:=
 ⟨h.ents.keep f hs,let⟨os,h1,h2⟩:=h.kids;⟨os,h1.keep f hs,h2.keep f hs⟩⟩
theorem bC.aN {Q:Nat→Prop} {w w':World} {ev kv:Value} {es:List aG} {ks:aH} (h:bC Q w ev kv es ks) (f:aj au w w'):bC Q w' ev kv es ks:=h.keep f fun _ _ s=>s.elim
theorem gQ.aN {Q:Nat→Prop} {w w':World} {ks:aH} {os:List (Value×Value)} (h:gQ Q w ks os) (f:aj au w w'):gQ Q w' ks os:=h.keep f fun _ _ s=>s.elim
theorem gQ.length {Q:Nat→Prop} {w:World}:∀ {ks:aH} {os:List (Value×Value)},gQ Q w ks os→(fZ ks os).length=ks.len*3
 | .nil,_,h=>by cases h;rfl
 | .cons _ _ _ _,_,⟨ev,kv,lF,os,h1,_,_,_,h5⟩=>by
   subst h1
   have:=h5.length
   show(_::_::_::fZ _ lF).length=_
   simp only[List.length_cons,this,aH.len]
   omega
def aH.drop:Nat→aH→aH
 |0,ks=>ks
 |_+1, .nil=> .nil
 |n+1, .cons _ _ _ rest=>rest.drop n
theorem gQ.drop {Q:Nat→Prop} {w:World}:∀(n:Nat) {ks:aH} {os:List (Value×Value)},gQ Q w ks os→∃os',gQ Q w (ks.drop n) os'∧(fZ ks os).drop (n*3)=fZ (ks.drop n) os'
 |0,ks,os,h=>⟨os,h,by simp[aH.drop]⟩
 |n+1, .nil,os,h=>by cases h;exact⟨[],rfl,by simp[fZ,aH.drop]⟩
 |n+1, .cons key es sub rest,_,⟨ev,kv,lF,os,h1,_,_,_,h5⟩=>by
  subst h1
  obtain⟨os',h6,h7⟩:=gQ.drop n h5
  refine⟨os',h6,?_⟩
  show(_::_::_::fZ rest lF).drop ((n+1)*3)=_
  rw[show(n+1)*3=n*3+1+1+1 by omega]
  exact h7
theorem aH.zB:∀(n:Nat) (ks:aH),(ks.drop n).len=ks.len-n
 |0,ks=>by simp[aH.drop]
 |n+1, .nil=>by simp[aH.drop,aH.len]
 |n+1, .cons _ _ _ rest=>by
  show(rest.drop n).len=rest.len+1-(n+1)
  rw[aH.zB n rest];omega
theorem aH.qY:∀(n:Nat) (ks:aH) {key:ByteArray} {es:List aG} {sub rest:aH},ks.drop n= .cons key es sub rest→ks.drop (n+1)=rest
 |0, .cons _ _ _ _,_,_,_,_,h=>by cases h;rfl
 |0, .nil,_,_,_,_,h=>by cases h
 |n+1, .nil,_,_,_,_,h=>by cases h
 |n+1, .cons _ _ _ r,_,_,_,_,h=>aH.qY n r h
theorem aH.nI {n:Nat} {ks:aH} (h:n<ks.len):∃key es sub rest,ks.drop n= .cons key es sub rest:=by
 have hl:=aH.zB n ks
 cases hd:ks.drop n with
 |nil=>rw[hd]at hl;simp[aH.len]at hl;omega
 |cons key es sub rest=>exact⟨_,_,_,_,rfl⟩
theorem aH.nX {n:Nat} {ks:aH} (h:ks.len≤n):ks.drop n= .nil:=by
 have hl:=aH.zB n ks
 cases hd:ks.drop n with
 |nil=>rfl
 |cons key es sub rest=>rw[hd]at hl;simp[aH.len]at hl;omega
theorem lG {Q:Nat→Prop} {w:World} {b off c m:Nat} {ks:aH} {os:List (Value×Value)} (h:Rd w (.slice (some ⟨b,off,none⟩) m c) m (fZ ks os)) (hf:gQ Q w ks os) {n:Nat} {key:ByteArray} {es:List aG} {sub rest:aH} (hd:ks.drop n= .cons key es sub rest):
 ∃ev kv,w.cell? ⟨b,off+n*3,none⟩=some (.string key)∧w.cell? ⟨b,off+n*3+1,none⟩=some ev∧w.cell? ⟨b,off+n*3+2,none⟩=some kv∧bC Q w ev kv es sub:=by
 obtain⟨os',h1,h2⟩:=hf.drop n
 rw[hd]at h1 h2
 obtain⟨ev,kv,lF,os2,rfl,g2,g3,g4,_⟩:=h1
 have uT:∀j u,(fZ (.cons key es sub rest) ((ev,kv)::lF))[j]?=some u→w.cell? ⟨b,off+n*3+j,none⟩=some u:=fun j u hu=>by
  rw[←h2,List.getElem?_drop]at hu
  have:=h.cell _ u hu
  rwa [←Nat.add_assoc]at this
 exact⟨ev,kv,uT 0 _ rfl,uT 1 _ rfl,uT 2 _ rfl,g2,os2,g3,g4⟩
theorem nJ {w:World} {b off c n:Nat} {es:List aG} (h:Rd w (.slice (some ⟨b,off,none⟩) n c) n (fK es)) (k:Nat) (hk:k<es.length):
 w.cell? ⟨b,off+k*4,none⟩=some (.int .i64 (es.getD k aG.zero).dc)∧w.cell? ⟨b,off+k*4+1,none⟩=some (.int .i64 (es.getD k aG.zero).n)∧w.cell? ⟨b,off+k*4+2,none⟩=some (.string (es.getD k aG.zero).s)∧w.cell? ⟨b,off+k*4+3,none⟩=some (.int .i64 (es.getD k aG.zero).k):=by
 obtain⟨h1,h2,h3,h4⟩:=Il es k hk
 exact⟨h.cell _ _ h1,h.cell (k*4+1) _ h2,h.cell (k*4+2) _ h3,h.cell (k*4+3) _ h4⟩
def aG.fits (e:aG):Prop:=(-9223372036854775808≤e.dc∧e.dc≤9223372036854775807)∧(-9223372036854775808≤e.n∧e.n≤9223372036854775807)∧(-9223372036854775808≤e.k∧e.k≤9223372036854775807)∧e.s.size≤9223372036854775807
structure uU (es:List aG):Prop where
 len:es.length≤140737488351232
 fits:∀e∈es,e.fits
def aH.Ok:aH→Prop
 | .nil=>True
 | .cons key es sub rest=>key.size≤9223372036854775807∧uU es∧sub.len≤140737488351232∧sub.Ok∧rest.Ok
theorem aH.Ok.drop:∀(n:Nat) {ks:aH},ks.Ok→(ks.drop n).Ok
 |0,_,h=>h
 |_+1, .nil,_=>trivial
 |n+1, .cons _ _ _ _,h=>aH.Ok.drop n h.2.2.2.2
structure iE (es:List aG) (ks:aH):Prop where
 es:uU es
 len:ks.len≤140737488351232
 ks:ks.Ok
def dW (e:aG):Bool:=kR e.dc e.n&&decide (e.s.size≤30∧e.k≤1099511627776∧-1099511627776≤e.k)
def oP:Option aG→aG→Bool
 |none,_=>true
 |some p,e=>ni p.dc p.n e.dc e.n
def eP:Option aG→List aG→Bool
 |_,[]=>true
 |p,e::l=>dW e&&oP p e&&eP (some e) l
def dD (a b:ByteArray):Bool:=Op.bytesLess a.toList b.toList
def ltK:Option ByteArray→ByteArray→Bool
 |none,_=>true
 |some p,s=>dD p s
def isNil (es:List aG) (ks:aH):Bool:=decide (es.length=0∧ks.len=0)
def fQ:aH→Nat→Option ByteArray→Bool
 | .nil,_,_=>true
 | .cons key es sub rest,d,p=>lg key&&ltK p key&& !isNil es sub&&(decide (1≤d)&&eP none es&&fQ sub (d-1) none)&&fQ rest d (some key)
def aY (d:Nat) (es:List aG) (ks:aH):Bool:=decide (1≤d)&&eP none es&&fQ ks (d-1) none
theorem oQ (key:ByteArray) (es:List aG) (sub rest:aH) (d:Nat) (p:Option ByteArray):fQ (.cons key es sub rest) d p=(lg key&&ltK p key&& !isNil es sub&&aY d es sub&&fQ rest d (some key)):=rfl
def jR (es:List aG):aS:=es.map fun e=>(e.dc,e.n)
def gB:aH→aS
 | .nil=> []
 | .cons _ es sub rest=>jR es++gB sub++gB rest
def dX (es:List aG) (ks:aH):aS:=jR es++gB ks
def dF:aH→Nat
 | .nil=>0
 | .cons _ es sub rest=>1+es.length+dF sub+dF rest
def sizeT (es:List aG) (ks:aH):Nat:=es.length+dF ks
end Go.Proofs.YtlhmbkjdfjoilaaGreat
namespace Go.Proofs.YtlhmbkjdfjoilaaGreat
def Io (l:aS) (c:aV):Prop:=∀r∈l,iy c r.1 r.2
theorem mg.leq {l:aS} {c d:aV} (hd:qp l) (h:mg l d):qQ d c↔Io l c:=by
 constructor
 ·intro hl r hr
  obtain⟨h0,h4,_⟩:=hd r hr
  exact hl r.1 r.2 h0 h4 ((h.mem r.1 r.2 h0 h4).2 hr)
 ·intro hl e n h0 h4 hi
  exact hl (e,n) ((h.mem e n h0 h4).1 hi)
theorem CZ:∀ {l:List aG} {p:Option aG},eP p l=true→qp (jR l)
 |[],_,_=>fun r hr=>by cases hr
 |e::l,p,h=>by
  have h:(dW e&&oP p e&&eP (some e) l)=true:=h
  simp only[Bool.and_eq_true]at h
  intro r hr
  rcases List.mem_cons.1 hr with rfl|hr
  ·have:=h.1.1
   unfold dW kR at this
   simp at this
   exact this.1
  ·exact CZ h.2 r hr
theorem C_:∀ {ks:aH} {d:Nat} {p:Option ByteArray},fQ ks d p=true→qp (gB ks)
 | .nil,_,_,_=>fun r hr=>by cases hr
 | .cons key es sub rest,d,p,h=>by
   rw[oQ]at h
   unfold aY at h
   simp only[Bool.and_eq_true]at h
   intro r hr
   have hr:r∈jR es++gB sub++gB rest:=hr
   rcases List.mem_append.1 hr with hr|hr
   ·rcases List.mem_append.1 hr with hr|hr
    ·exact CZ h.1.2.1.2 r hr
    ·exact C_ h.1.2.2 r hr
   ·exact C_ h.2 r hr
theorem Dc {d:Nat} {es:List aG} {ks:aH} (h:aY d es ks=true):qp (dX es ks):=by
 unfold aY at h
 simp only[Bool.and_eq_true]at h
 intro r hr
 rcases List.mem_append.1 hr with hr|hr
 ·exact CZ h.1.2 r hr
 ·exact C_ h.2 r hr
theorem Df (es:List aG):(jR es).length=es.length:=by simp[jR]
theorem Dh:∀ks:aH,(gB ks).length≤dF ks
 | .nil=>Nat.le_refl _
 | .cons _ es sub rest=>by
   have h1:=Dh sub
   have h2:=Dh rest
   show(jR es++gB sub++gB rest).length≤1+es.length+dF sub+dF rest
   rw[List.length_append,List.length_append,Df]
   omega
theorem zC (es:List aG) (ks:aH):(dX es ks).length≤sizeT es ks:=by
 have:=Dh ks
 unfold dX sizeT
 rw[List.length_append,Df]
 omega
end Go.Proofs.YtlhmbkjdfjoilaaGreat
namespace Go.Proofs.YtlhmbkjdfjoilaaGreat
theorem PX (p:Int→aS):(jh p).length=(p 0).length+((p 1).length+((p 2).length+(p 3).length)):=by simp[jh,dR]
theorem bY.length {c:aV} (h:bY c) {n:Nat} (hp:∀d,0≤d→d<4→(aZ c d).length≤n):c.length≤4*n:=by
 have e:=congrArg List.length (sG (Int.le_refl 0) h.1)
 rw[PX]at e
 have h0:=hp 0 (by decide) (by decide)
 have h1:=hp 1 (by decide) (by decide)
 have h2:=hp 2 (by decide) (by decide)
 have h3:=hp 3 (by decide) (by decide)
 omega
theorem mg.length {l:aS} {c:aV} (h:mg l c):c.length≤4*l.length:=by
 refine h.right.length fun d h0 h4=>?_
 have hr:=(h.right.2 d h0 h4).1
 have hn:=zu hr
 have hs:∀x∈(aZ c d).map (·.1),x∈l.map (·.2):=fun x hx=>by
  obtain⟨r,hr1,rfl⟩:=List.mem_map.1 hx
  have hi:iy c d r.1:=⟨r,hr1,Int.le_refl _,(iT hr r hr1).2⟩
  exact List.mem_map.2 ⟨_,(h.mem d r.1 h0 h4).1 hi,rfl⟩
 have:=zq hn hs
 simpa using this
theorem bY.fits {c:aV} (h:bY c):g_ c:=fun s hs=>by
 have hd:∀ {c:aV} {lo:Int},eH lo c→∀s∈c,lo≤s.1∧s.1<4:=by
  intro c
  induction c with
  |nil=>intro lo _ s hs;cases hs
  |cons x c ih=>
   intro lo h s hs
   rcases List.mem_cons.1 hs with rfl|hs
   ·exact⟨h.1,h.2.1⟩
   ·have:=ih h.2.2 s hs
    have:=h.1
    omega
 have h1:=hd h.1 s hs
 have h2:=(h.2 s.1 h1.1 h1.2)
 have hm:s.2∈aZ c s.1:=by
  unfold aZ
  exact List.mem_map.2 ⟨s,List.mem_filter.2 ⟨hs,by simp⟩,rfl⟩
 have h3:=iT h2.1 s.2 hm
 have h4:=h2.2 s.2 hm
 omega
end Go.Proofs.YtlhmbkjdfjoilaaGreat
namespace Go.Proofs.YtlhmbkjdfjoilaaGreat
open Go.RowKit Go.Sort
def qw (l:List Int):aS:=l.map fun x=>(x,x)
theorem PY {l:List Int} {k:Nat} (hk:k<l.length):qw (l.take (k+1))=qw (l.take k)++ [(l.getD k 0,l.getD k 0)]:=by
 rw[take_succ 0 hk];simp[qw]
theorem PZ (l:List Int) (n:Int):aX (qw l) n↔n∈l:=by
 constructor
 ·rintro⟨r,hr,h⟩
  obtain⟨x,hx,rfl⟩:=List.mem_map.1 hr
  have:n=x:=by have h1:x≤n:=h.1;have h2:n≤x:=h.2;omega
  rw[this];exact hx
 ·exact fun h=>⟨(n,n),List.mem_map.2 ⟨n,h,rfl⟩,Int.le_refl _,Int.le_refl _⟩
theorem P_ (w:World) (v:Value) (l:List Int) (hv:yR w v l) (hl:l.length≤100000) (hb:∀x∈l,1≤x∧x≤1099511627776):
 Calls Tryz.prog 127 #[v] w fun e w'=>∃v' out,e= .returned (.tuple #[v', .int .i64 0])∧OwnAt w w' 206 2 v' out.length (bZ out)∧bM out∧(∀n,aX out n↔n∈l)∧out.length≤l.length:=by
 obtain⟨i0,hi,hz0,hz1,hz2⟩:=info_parts uN
 obtain⟨aA,cA,rfl⟩:=hv.sl
 have HH:=ah hv;clear hv
 have HB:=ah hb;clear hb
 have hone:(qw l).length=l.length:=by simp[qw]
 have oU:=ah hone;clear hone
 have HL:=ah hl;clear hl
 generalize hn:l.length=n at*
 have HN:=ah hn;clear hn
 have eg:∀args w,(callFunc 166 args).run Tryz.prog w= .ok (.enter 166 args) w:=enters_of Tryz.func166 (by kernel_rfl) rfl
 go_enter Tryz.func127,Tryz.ntmps127
 go_wp2
 go_loopw [4,9] (fun v i ww=>∃k:Nat,k≤n∧i= .int .i64 k∧OwnAt w ww 206 2 v k (bZ (qw (l.take k)))) (fun _ i _=>n-(intOf i).toNat)
 case atStart=>exact⟨0,Nat.zero_le _,rfl,OwnAt.nil (aj.refl _ _) _ _⟩
 case round=>
  obtain⟨k,hk,rfl,ho⟩:=hrel
  obtain⟨av,cv,rfl⟩:=ho.shape
  have HO:=ah ho;clear ho
  by_cases hlt:k<n
  ·rcases Rd.shape HH.out with⟨ad,he,h0⟩|⟨b,off,cc,he,hmax⟩
   ·exfalso;have:=HN.out;omega
   ·injection he with e1 e2 e3
    subst e1 e3
    clear e2
    rw[HN.out]at hmax
    have hlk:k<l.length:=by rw[HN.out];exact hlt
    have p0:=Gs HH.out HN.out.symm k hlk
    have q0:=HO.out.aJ.cell' p0 id
    clear p0
    have hbx:=HB.out _ (getD_mem 0 hlk)
    have hE:=PY hlk
    generalize l.getD k 0=x at*
    have HE:=ah hE;clear hE
    have hnb:oI x=true:=by unfold oI;simpa using hbx
    have qZ:=ah (fun W=>hnb▸sH x W);clear hnb
    have hk1:k≤100000:=Nat.le_trans hk HL.out
    go_wp2_with(first
     |(go_at_call 165;refine(qZ.out _).mono ?_;rintro e w1 ⟨rfl,hw1⟩;rw[hw1];clear hw1 w1)
     |(at_builtin;refine jF w _ [.int .i64 x, .int .i64 x] rfl (.tmp 16) (.tmp 20) 175 rfl 206 i0 _ 2 16 Tryz.underlying175 hi hz0 hz1 hz2 (by decide) (by decide) _ _ _ HO.out 1 1 rfl (by simp[Act.eval]) rfl (by simp[Value.oneCell']) (by simp only[maxLen];omega) (by omega) ?_;intro zk iU w2 bI;have OW:=ah bI;clear bI))
    go_roundw
    case rel=>exact⟨k+1,by omega,by go_num,by rw[HE.out,kS];exact OW.out⟩
    case measure=>simp[intOf];omega
  ·obtain rfl:n=k:=by omega
   rw[List.take_of_length_le (by rw[HN.out];exact Nat.le_refl _)]at HO
   have hbd:∀r∈qw l,1≤r.1∧r.1≤r.2∧r.2≤1099511627776:=fun r hr=>by
    obtain⟨x,hx,rfl⟩:=List.mem_map.1 hr
    have:=HB.out x hx
    exact⟨this.1,Int.le_refl _,this.2⟩
   have nT:=ah hbd;clear hbd
   have hl5:=HL.out
   go_wp2_with(first
    |(go_at_call 153;refine(H_ 166 eg OY _ _ _ n (qw l) HO.out oU.out (Nat.le_trans HL.out (by decide))).mono ?_;rintro e w3 ⟨rfl,l',hp,hs,ho3⟩;have HP:=ah hp;clear hp;have HS:=ah hs;clear hs;have bJ:=ah ho3;clear ho3)
    |(go_at_call 156;refine(He _ _ l' (by have:=bJ.out.rd;rw[←oU.out,←HP.out.length_eq]at this;rw[←oU.out,←HP.out.length_eq];exact this) (by rw[HP.out.length_eq,oU.out];exact Nat.le_trans HL.out (by decide)) (wL HP.out HS.out nT.out).2.2).mono ?_;rintro e w4 ⟨v4,rfl,ji⟩;obtain⟨a4,c4,rfl⟩:=ji.shape;have jy:=ah ji;clear ji))
   go_ret2
   have hj:=wL HP.out HS.out nT.out
   exact⟨_,k_ l',rfl,jy.out.base bJ.out.aJ,hj.1,fun x=>by rw[hj.2.1,PZ],Nat.le_trans (Ia l') (by rw[HP.out.length_eq,oU.out];exact Nat.le_refl _)⟩
open Go.RowKit
structure Di (l:aS) (k:Nat) (p:Nat→aS):Prop where
 done:∀d,d<k→bM (p d)∧(∀n,aX (p d) n↔((d:Int),n)∈l)∧(p d).length≤20000
 todo:∀d,k≤d→d<4→p d=[]
theorem Di.CW {l:aS} {p:Nat→aS} (h:Di l 4 p):mg l (jh fun d=>p d.toNat):=by
 refine⟨Gl fun d h0 h4=>(h.done d.toNat (by omega)).1,fun d n h0 h4=>?_⟩
 unfold iy
 rw[BA _ h0 h4]
 have:=(h.done d.toNat (by omega)).2.1 n
 rwa [Int.toNat_of_nonneg h0]at this
theorem Qa (w:World) (v:Value) (l:aS) (hv:gZ w v l) (hd:qp l) (hl:l.length≤20000):
 Calls Tryz.prog 90 #[v] w fun e w'=>∃v' c,e= .returned (.tuple #[v', .int .i64 0])∧OwnAt w w' 92 3 v' c.length (bU c)∧mg l c∧c.length≤800000:=by
 obtain⟨i0,hi,hz0,hz1,hz2⟩:=info_parts yU
 obtain⟨aA,cA,rfl⟩:=hv.sl
 have HH:=ah hv;clear hv
 have HD:=ah hd;clear hd
 have HL:=ah hl;clear hl
 generalize hn:l.length=n at*
 have HN:=ah hn;clear hn
 have HST:=ah (fV.start (M:=fun _=>False) 173 2 1 (aj.refl au w) (fun k hk=>hk.elim))
 go_enter Tryz.func90,Tryz.ntmps90
 go_wp2
 go_loopw [12] (fun i ww=>∃(k:Nat) (vs:Nat→Value),k≤n∧i= .int .i64 k∧fV (fun _=>False) 173 2 1 w ww w.heap.size vs (fun d=>(numsL (l.take k) d).length) (fun d=>kE (numsL (l.take k) d))) (fun i _=>n-(intOf i).toNat)
 case atStart=>exact⟨0,fun _=> .slice none 0 0,Nat.zero_le _,rfl,HST.out⟩
 case round=>
  obtain⟨k,vs,hk,rfl,h4⟩:=hrel
  have H4:=ah h4;clear h4
  by_cases hlt:k<n
  ·rcases Rd.shape HH.out with⟨ad,he,h0⟩|⟨b,off,cc,he,hmax⟩
   ·exfalso;have:=HN.out;omega
   ·injection he with e1 e2 e3
    subst e1 e3
    clear e2
    rw[HN.out]at hmax
    have hlk:k<l.length:=by rw[HN.out];exact hlt
    obtain⟨p0,p1⟩:=lq HH.out HN.out.symm k hlk
    have q0:=H4.out.aJ.cell' p0 id
    have q1:=H4.out.aJ.cell' p1 id
    clear p0 p1
    have hdk:=HD.out _ (getD_mem (0,0) hlk)
    have nV:=ah (fun d=>Ih (l:=l) (k:=k) d hlk)
    obtain⟨s,hgd⟩:∃s,s=l.getD k (0,0):=⟨_,rfl⟩
    rw[←hgd]at nV q0 q1 hdk
    clear hgd
    have hdr:kR s.1 s.2=true:=by unfold kR;simpa using hdk
    have HDR:=ah (fun W=>hdr▸uH s.1 s.2 W);clear hdr
    obtain⟨dn,hdn⟩:∃dn:Nat,s.1=dn:=⟨s.1.toNat,by omega⟩
    have hd4:dn<4:=by omega
    rw[hdn]at q0 HDR
    have iM:=ah hdn;clear hdn hdk
    have hc4:(dn:Int)<4:=by omega
    have hsp:(wr.alloc (.cells #[.int .i64 dn, .int .i64 s.2] 98)).heap[wr.heap.size]?=some (.cells #[.int .i64 dn, .int .i64 s.2] 98 (0,0)):=heap_alloc_new wr _
    have oM:=ah hsp;clear hsp
    have HB4:=ah (H4.out.box (.cells #[.int .i64 dn, .int .i64 s.2] 98))
    have hlen:(numsL (l.take k) dn).length≤k:=Nat.le_trans (CU _ _) (List.length_take_le _ _)
    have HLEN:=ah (Nat.le_trans hlen (Nat.le_trans hk HL.out))
    clear hlen
    go_wp2_with(go_at_call 126;refine(HDR.out _).mono ?_;rintro e w1 ⟨rfl,hw1⟩;have HW1:=ah hw1;clear hw1;have n0:w1.cell? ⟨wr.heap.size,0,none⟩=some (.int .i64 dn):=HW1.out.cell' (aI oM.out 0 rfl) id;have n1:w1.cell? ⟨wr.heap.size,1,none⟩=some (.int .i64 s.2):=HW1.out.cell' (aI oM.out 1 rfl) id)
    have iO:=ah ((HB4.out.keep HW1.out).keep (aj.drew _ _))
    have hsb:wr.heap.size<w1.heap.size:=World.block_lt_of_cell? _ _ n0
    obtain⟨pl,hpl⟩:∃pl,pl=(numsL (l.take k) dn).length:=⟨_,rfl⟩
    have hob:dP (qV (fun k=>False∨k=wr.heap.size) w.heap.size vs dn) w w1.drew 2 1 (vs dn) pl (kE (numsL (l.take k) dn)):=by rw[hpl];exact iO.out.but hd4
    have wJ:=ah hob;clear hob
    rw[←hpl]at HLEN
    have lu:=ah hpl;clear hpl
    clear q0 q1
    generalize wr.heap.size=sb at*
    refine iY (S:=fun w'=>w'.cell? ⟨sb,0,none⟩=some (.int .i64 dn)∧w'.cell? ⟨sb,1,none⟩=some (.int .i64 s.2)∧w'.cell? ⟨w.heap.size,dn,none⟩=some (vs dn)) 11 (by kernel_rfl) ⟨n0,n1,iO.out.cell hd4⟩ ?_
    intro hS
    have hsb:sb<w1.drew.heap.size:=hsb
    clear n0 n1
    generalize w1.drew=Y at*
    refine aT 0 19 rfl rfl (v:=?_) (.inl ⟨by rfl,?_⟩) ?_
    rotate_left 1
    ·(intro w hSw;(try dsimp only at hSw);go_simp;(try with_reducible rfl))
    refine aT 1 20 rfl rfl (v:=?_) (.inl ⟨by rfl,?_⟩) ?_
    rotate_left 1
    ·(intro w hSw;(try dsimp only at hSw);go_simp;(try with_reducible rfl))
    try simp only[Act.put,aP,aQ,aO]
    refine aT 2 21 rfl rfl (v:=?_) (.inl ⟨by rfl,?_⟩) ?_
    rotate_left 1
    ·(intro w hSw;(try dsimp only at hSw);go_simp;(try with_reducible rfl))
    refine aT 3 22 rfl rfl (v:=?_) (.inl ⟨by rfl,?_⟩) ?_
    rotate_left 1
    ·(intro w hSw;(try dsimp only at hSw);go_simp;(try with_reducible rfl))
    try simp only[Act.put,aP,aQ,aO]
    refine aT 4 23 rfl rfl (v:=?_) (.inl ⟨by rfl,?_⟩) ?_
    rotate_left 1
    ·(intro w hSw;(try dsimp only at hSw);go_simp;(try with_reducible rfl))
    refine aT 5 24 rfl rfl (v:=?_) (.inl ⟨by rfl,?_⟩) ?_
    rotate_left 1
    ·(intro w hSw;(try dsimp only at hSw);go_simp;(try with_reducible rfl))
    try simp only[Act.put,aP,aQ,aO]
    refine aT 6 25 rfl rfl (v:=?_) (.inl ⟨by rfl,?_⟩) ?_
    rotate_left 1
    ·(intro w hSw;(try dsimp only at hSw);go_simp;(try with_reducible rfl))
    refine aT 7 26 rfl rfl (v:=?_) (.inl ⟨by rfl,?_⟩) ?_
    rotate_left 1
    ·(intro w hSw;(try dsimp only at hSw);go_simp;(try with_reducible rfl))
    try simp only[Act.put,aP,aQ,aO]
    refine bP (i:=8) (by kernel_rfl) rfl (fun K hK=>?_)
    go_simp
    have hS1:(Y.alloc (.cells #[.int .i64 s.2] 2)).cell? ⟨sb,0,none⟩=some (.int .i64 dn)∧(Y.alloc (.cells #[.int .i64 s.2] 2)).cell? ⟨sb,1,none⟩=some (.int .i64 s.2)∧(Y.alloc (.cells #[.int .i64 s.2] 2)).cell? ⟨w.heap.size,dn,none⟩=some (vs dn):=⟨(aj.alloc au Y _).cell' hS.1 id,(aj.alloc au Y _).cell' hS.2.1 id,(aj.alloc au Y _).cell' hS.2.2 id⟩
    refine hK.out _ _ hS1 ?_
    clear hK K
    try simp only[Act.put,aP,aQ,aO]
    refine bP (i:=9) (by kernel_rfl) rfl (fun K hK=>?_)
    refine BZ (qV (fun k=>False∨k=sb) w.heap.size vs dn) w Y [.int .i64 s.2] rfl (.tmp 24) (.tmp 27) 171 rfl 2 i0 _ 1 8 Tryz.underlying171 hi hz0 hz1 hz2 (by decide) (by decide) (vs dn) pl _ wJ.out (iO.out.lt dn) 1 1 (by simp[Act.eval]) (by simp[Act.eval]) rfl (by simp[Value.oneCell']) (by have:=HLEN.out;simp only[maxLen];omega) (by have:=HLEN.out;omega) ?_
    intro ad iU w2 bI fP
    have hS2:w2.cell? ⟨sb,0,none⟩=some (.int .i64 dn)∧w2.cell? ⟨sb,1,none⟩=some (.int .i64 s.2)∧w2.cell? ⟨w.heap.size,dn,none⟩=some (vs dn):=⟨fP.cell (.inr (.inl (.inr rfl))) hS.1,fP.cell (.inr (.inl (.inr rfl))) hS.2.1,fP.cell (.inl rfl) hS.2.2⟩
    refine hK.out _ _ hS2 ?_
    clear hK K hS1
    have sJ:=ah (((iO.out.step hd4 fP bI).mono (M':=fun _=>False) fun k hk=>hk.elim).congr (n':=fun d=>(numsL (l.take (k+1)) d).length) (xs':=fun d=>kE (numsL (l.take (k+1)) d)) (fun d hd=>by
     rw[nV.out]
     by_cases he:d=dn
     ·subst he;rw[upd_same,if_pos iM.out,List.length_append,←lu.out];rfl
     ·rw[kH _ _ he,if_neg (by rw[iM.out];omega),List.append_nil]) (fun d hd=>by
     rw[nV.out]
     by_cases he:d=dn
     ·subst he;rw[upd_same,if_pos iM.out,yN];rfl
     ·rw[kH _ _ he,if_neg (by rw[iM.out];omega),List.append_nil]))
    have hcf:=fP.frozen (p:=⟨w.heap.size,dn,none⟩) (.inl rfl) (bn iO.out.blk dn)
    clear bI fP
    try simp only[Act.put,aP,aQ,aO]
    refine aT 10 29 rfl rfl (v:=?_) (.inl ⟨by rfl,?_⟩) ?_
    rotate_left 1
    ·(intro w hSw;(try dsimp only at hSw);go_simp;(try with_reducible rfl))
    try simp only[Act.put,aP,aQ,aO]
    refine iK (by kernel_rfl) (by kernel_rfl) rfl (fun K hK=>?_)
    have hcz:=hS2.2.2
    clear hS2 hS
    go_simp
    refine hK.out _ _ ?_
    clear hK K hcz hcf
    go_wp2
    go_roundw
    case rel=>exact⟨k+1,_,by omega,by go_num,sJ.out⟩
    case measure=>simp[intOf];omega
  ·obtain rfl:n=k:=by omega
   rw[List.take_of_length_le (by rw[HN.out];exact Nat.le_refl _)]at H4
   obtain⟨wo,rfl⟩:∃wo:World,wo=wr:=⟨_,rfl⟩
   have hsh:∀d,d<4→∃t:Option Addr×Nat×Nat,vs d= .slice t.1 t.2.1 t.2.2:=fun d hd=>by
    obtain⟨a,c,h⟩:=(H4.out.own d hd).at_.shape
    exact⟨(a,_,c),h⟩
   obtain⟨A,hA⟩:=Go.Deep.choose_lt hsh
   clear hsh
   have c0:wo.cell? ⟨w.heap.size,0,none⟩=some (.slice (A 0).1 (A 0).2.1 (A 0).2.2):=hA 0 (by omega)▸H4.out.cell (d:=0) (by omega)
   have c1:wo.cell? ⟨w.heap.size,1,none⟩=some (.slice (A 1).1 (A 1).2.1 (A 1).2.2):=hA 1 (by omega)▸H4.out.cell (d:=1) (by omega)
   have c2:wo.cell? ⟨w.heap.size,2,none⟩=some (.slice (A 2).1 (A 2).2.1 (A 2).2.2):=hA 2 (by omega)▸H4.out.cell (d:=2) (by omega)
   have c3:wo.cell? ⟨w.heap.size,3,none⟩=some (.slice (A 3).1 (A 3).2.1 (A 3).2.2):=hA 3 (by omega)▸H4.out.cell (d:=3) (by omega)
   have qW:=ah hA;clear hA
   have hgw:w.heap.size<wo.heap.size:=World.block_lt_of_cell? _ _ c0
   have hp0:=kU.start (w0:=w) (w:=wo) (A:=fun _=>(none,0,0)) (p:=fun _=> []) ⟨fun d hd=>OwnAt.nil H4.out.aJ _ _⟩
   have CP:=ah hp0;clear hp0
   go_wp2
   clear c0 c1 c2 c3
   go_loopw [32] (fun i ww=>∃(j:Nat) (A':Nat→Sl) (p:Nat→aS),j≤4∧i= .int .i64 j∧kU w ww wo.heap.size A' p∧Di l j p∧
    aj (fun k=>k=wo.heap.size) (wo.alloc (.cells #[.slice none 0 0, .slice none 0 0, .slice none 0 0, .slice none 0 0] 177)) ww) (fun i _=>4-(intOf i).toNat)
   case atStart=>exact⟨0,fun _=>(none,0,0),fun _=> [],by omega,rfl,CP.out,⟨fun d hd=>by omega,fun d _ _=>rfl⟩,aj.refl _ _⟩
   case round=>
    obtain⟨j,A',p,hj,rfl,hp,hou,wQ⟩:=hrel
    have HP:=ah hp;clear hp
    have zD:=ah hou;clear hou
    have uQ:=ah wQ;clear wQ
    by_cases qX:j<4
    ·have hki:(j:Int)<4:=by omega
     have hkd:decide ((j:Int)<4)=true:=by simpa using hki
     have hix:∀W,(Instr.index 173 (.agg #[.slice (A 0).1 (A 0).2.1 (A 0).2.2, .slice (A 1).1 (A 1).2.1 (A 1).2.2, .slice (A 2).1 (A 2).2.1 (A 2).2.2, .slice (A 3).1 (A 3).2.1 (A 3).2.2]) (.int .i64 (j:Int))).run Tryz.prog W= .ok (.slice (A j).1 (A j).2.1 (A j).2.2) W:=by
      rcases(by omega:j=0∨j=1∨j=2∨j=3)with rfl|rfl|rfl|rfl<;>exact fun _=>by kernel_rfl
     have hob:=((H4.out.own j qX).at_.keep (aj.alloc au wo (.cells #[.slice none 0 0, .slice none 0 0, .slice none 0 0, .slice none 0 0] 177)))
     have hno:=Rd.keep hob.rd uQ.out (fun q hq h=>by have:=(H4.out.own j qX).at_.lt q hq;have h:q=wo.heap.size:=h;omega)
     rw[qW.out j qX]at hno
     have hcall:=P_ wr _ (numsL l j) hno (Nat.le_trans (CU l j) (by rw[HN.out];exact Nat.le_trans HL.out (by decide))) (fun x hx=>by have:=HD.out _ (zA.1 hx);exact⟨this.2.2.1,this.2.2.2⟩)
     have HC:=ah hcall;clear hcall hob hno
     have hpc:=HP.out.cell qX
     have Dj:=ah hpc;clear hpc
     go_wp2_with(go_at_call 127;refine HC.out.mono ?_;rintro e w3 ⟨v3,out,rfl,ho3,hr3,wS,hl3⟩;obtain⟨a3,c3,rfl⟩:=ho3.shape;have bJ:=ah ho3;clear ho3;have HR3:=ah hr3;clear hr3;have yX:=ah wS;clear wS;have nH:=ah hl3;clear hl3;have hcz:=bJ.out.aJ.cell' Dj.out id;have hfz:w3.frozen? ⟨wo.heap.size,j,none⟩=false:=bn (HP.out.keep bJ.out.aJ).blk j)
     have qm:=ah (HP.out.set qX (t:=(a3,out.length,c3)) bJ.out)
     go_roundw
     case rel=>exact⟨j+1,_,_,by omega,by go_num,qm.out,⟨fun d hd=>by
      by_cases he:d=j
      ·subst he;rw[upd_same];exact⟨HR3.out,fun n=>by rw[yX.out,zA],Nat.le_trans nH.out (Nat.le_trans (CU l d) (by rw[HN.out];exact HL.out))⟩
      ·rw[kH _ _ he];exact zD.out.done d (by omega),fun d h1 h2=>by
      rw[kH _ _ (by omega)];exact zD.out.todo d (by omega) h2⟩,(uQ.out.aF bJ.out.aJ).trans (aj.setCell (S:=fun k=>k=wo.heap.size) w3 (p:=⟨wo.heap.size,j,none⟩) (.inl rfl) _) fun _ _ h=>h⟩
     case measure=>simp[intOf];omega
    ·obtain rfl:j=4:=by omega
     have c0:wr.cell? ⟨wo.heap.size,0,none⟩=some (.slice (A' 0).1 (A' 0).2.1 (A' 0).2.2):=HP.out.cell (by omega)
     have c1:wr.cell? ⟨wo.heap.size,1,none⟩=some (.slice (A' 1).1 (A' 1).2.1 (A' 1).2.2):=HP.out.cell (by omega)
     have c2:wr.cell? ⟨wo.heap.size,2,none⟩=some (.slice (A' 2).1 (A' 2).2.1 (A' 2).2.2):=HP.out.cell (by omega)
     have c3:wr.cell? ⟨wo.heap.size,3,none⟩=some (.slice (A' 3).1 (A' 3).2.1 (A' 3).2.2):=HP.out.cell (by omega)
     go_wp2_with(go_at_call 128;refine(Hr _ A' p (fun d hd=>(HP.out.own d hd).at_.rd) (fun d hd=>Nat.le_trans (zD.out.done d hd).2.2 (by decide))).mono ?_;rintro e w3 ⟨v3,c,rfl,ho3,hc3,hl3⟩;obtain⟨a3,k3,rfl⟩:=ho3.shape;have bJ:=ah ho3;clear ho3;have sN:=ah hc3;clear hc3;have nH:=ah hl3;clear hl3)
     go_ret2
     exact⟨_,c,rfl,bJ.out.base (HP.out.own 0 (by omega)).at_.aJ,by rw[sN.out];exact zD.out.CW,nH.out⟩
open Go.RowKit
def aG.v (e:aG):Value:= .agg #[.int .i64 e.dc, .int .i64 e.n, .string e.s, .int .i64 e.k]
theorem wY (e:aG) (hs:e.s.size≤9223372036854775807) (w:World):Calls Tryz.prog 120 #[e.v] w fun x w'=>x= .returned (.bool (dW e))∧aj au w w':=by
 unfold aG.v
 have c2:(w.alloc (.cells #[.int .i64 e.dc, .int .i64 e.n, .string e.s, .int .i64 e.k] 100)).cell? ⟨w.heap.size,2,none⟩=some (.string e.s):=aI (heap_alloc_new w _) 2 rfl
 have c3:(w.alloc (.cells #[.int .i64 e.dc, .int .i64 e.n, .string e.s, .int .i64 e.k] 100)).cell? ⟨w.heap.size,3,none⟩=some (.int .i64 e.k):=aI (heap_alloc_new w _) 3 rfl
 cases hd:kR e.dc e.n with
 |false=>
  go_enter Tryz.func120,Tryz.ntmps120
  go_wp2_with(go_at_call 159;refine(Gn _ _ _).mono ?_;rintro x w1 ⟨rfl,hw1⟩;rw[hd])
  go_ret
  exact⟨bH (by simp[dW,hd]),(aj.alloc _ _ _).aF hw1⟩
 |true=>
  go_enter Tryz.func120,Tryz.ntmps120
  go_wp2_with(go_at_call 159;refine(Gn _ _ _).mono ?_;rintro x w1 ⟨rfl,hw1⟩;rw[hd];have k2:=hw1.cell' c2 id;have k3:=hw1.cell' c3 id)
  all_goals
   go_ret
   refine⟨bH ?_,(aj.alloc _ _ _).aF hw1⟩
   rw[Bool.eq_iff_iff]
   simp[dW,hd]<;>omega
theorem Ip:∀(l:List aG) (p:Option aG) (e:aG),eP p (l++ [e])=(eP p l&&dW e&&oP (match l.getLast? with|some x=>some x|none=>p) e)
 |[],p,e=>by simp[eP]
 |x::l,p,e=>by
  show(dW x&&oP p x&&eP (some x) (l++ [e]))=((dW x&&oP p x&&eP (some x) l)&&dW e&&_)
  rw[Ip l (some x) e]
  have:(match(x::l).getLast? with|some y=>some y|none=>p)=(match l.getLast? with|some y=>some y|none=>some x):=by
   cases l with
   |nil=>rfl
   |cons y l=>
    rw[List.getLast?_cons_cons]
    cases h:(y::l).getLast? with
    |none=>simp at h
    |some z=>rfl
  rw[this]
  simp only[Bool.and_assoc]
theorem Iq:∀(l:List aG) (p:Option aG) (k:Nat),eP p l=true→eP p (l.take k)=true
 |[],_,_,_=>by simp[eP]
 |_::_,_,0,_=>rfl
 |x::l,p,k+1,h=>by
  have h:(dW x&&oP p x&&eP (some x) l)=true:=h
  show(dW x&&oP p x&&eP (some x) (l.take k))=true
  simp only[Bool.and_eq_true]at h⊢
  exact⟨h.1,Iq l _ k h.2⟩
theorem Ir {l:List aG} (h:0<l.length):eP none (l.take (0+1))=dW (l.getD 0 aG.zero):=by
 rw[take_succ aG.zero h]
 simp[eP,oP]
theorem Iu {l:List aG} {j:Nat} (h:j+1<l.length) (hr:eP none (l.take (j+1))=true):eP none (l.take (j+1+1))=(dW (l.getD (j+1) aG.zero)&&ni (l.getD j aG.zero).dc (l.getD j aG.zero).n (l.getD (j+1) aG.zero).dc (l.getD (j+1) aG.zero).n):=by
 rw[take_succ aG.zero h,Ip,hr]
 have:(l.take (j+1)).getLast?=some (l.getD j aG.zero):=by
  rw[take_succ aG.zero (by omega)];simp
 rw[this]
 simp[oP]
theorem nK {l:List aG} {k:Nat} (h:eP none (l.take k)=false):eP none l=false:=by
 cases hh:eP none l with
 |false=>rfl
 |true=>rw[Iq l none k hh]at h;cases h
theorem uU.at {es:List aG} (h:uU es) {k:Nat} (hk:k<es.length):(es.getD k aG.zero).fits:=h.fits _ (getD_mem _ hk)
end Go.Proofs.YtlhmbkjdfjoilaaGreat
