/- Words for the law MsgDecodes: BunEnc, Op1, Op2, MsgA, Vec, Solid, Front, SolidA. -/
import Derived.Test.YtabkpccdnkjoiaaGreatMsgDecodesG0
import Derived.Test.YtabkpccdnkjoiaaGreatMsgDecodesG2
import Derived.Test.YtabkpccdnkjoiaaGreatMsgDecodesG6
import Derived.Test.YtabkpccdnkjoiaaGreatMsgDecodesG7
import Derived.Test.YtabkpccdnkjoiaaGreatMsgDecodesG9
import Derived.Test.YtabkpccdnkjoiaaGreatMsgDecodesG10
import Derived.Test.YtabkpccdnkjoiaaGreatMsgDecodesG11
import Derived.Test.YtabkpccdnkjoiaaGreatMsgDecodesG14
import Derived.Test.YtabkpccdnkjoiaaGreatMsgDecodesG17
import Derived.Shelf.Abstract
set_option linter.unusedSimpArgs false
set_option linter.unusedVariables false
set_option maxHeartbeats 32000000
set_option maxRecDepth 1000000
namespace Go.Proofs.YtabkpccdnkjoiaaGreat
open Go.RowKit
def BD (dc af la v0 v1 v2 v3:Int) (es:List aQ) (ks:aS) (c:aX):List UInt8:=bG dc++(bG af++(bG la++(jH v0 v1 v2 v3++kC es ks c)))
structure dL where
 dc:Int
 af:Int
 la:Int
 v0:Int
 v1:Int
 v2:Int
 v3:Int
 es:List aQ
 ks:aS
 c:aX
def dL.enc (b:dL):List UInt8:=BD b.dc b.af b.la b.v0 b.v1 b.v2 b.v3 b.es b.ks b.c
def dL.right (b:dL):Prop:=nM b.dc b.af b.la (bP b.v0 b.v1 b.v2 b.v3) b.es b.ks b.c
def dL.zero:dL:=⟨0,0,0,0,0,0,0,[], .nil,[]⟩
theorem UG {a b:dL} {x y:List UInt8} (h:a.enc++x=b.enc++y):a=b∧x=y:=by
 unfold dL.enc BD at h
 simp only[List.append_assoc]at h
 replace h:=lF h
 obtain⟨h1,h⟩:=h
 replace h:=lF h
 obtain⟨h2,h⟩:=h
 replace h:=lF h
 obtain⟨h3,h⟩:=h
 replace h:=Nr h
 obtain⟨⟨h4,h5,h6,h7⟩,h⟩:=h
 replace h:=MX h
 obtain⟨⟨⟨h8,h9⟩,h10⟩,h⟩:=h
 cases a
 cases b
 simp only at h1 h2 h3 h4 h5 h6 h7 h8 h9 h10
 subst h1 h2 h3 h4 h5 h6 h7 h8 h9 h10
 exact⟨rfl,h⟩
def jT (st:Option (List UInt8)) (b:dL) (s:Option (List UInt8)):Prop:=
 (∃rest,st=some (b.enc++rest)∧b.right∧s=some rest)∨(s=none∧b=dL.zero∧∀(b':dL) rest,st=some (b'.enc++rest)→¬b'.right)
theorem jT.b_ {st s s':Option (List UInt8)} {a b:dL} (h:jT st a s) (k:jT st b s'):a=b∧s=s':=by
 rcases h with⟨r,h1,h2,h3⟩|⟨h1,h2,h3⟩<;>rcases k with⟨r',k1,k2,k3⟩|⟨k1,k2,k3⟩
 ·rw[h1]at k1
  injection k1 with k1
  obtain⟨e,rfl⟩:=UG k1
  exact⟨e,by rw[h3,k3]⟩
 ·exact absurd h2 (k3 _ _ h1)
 ·exact absurd k2 (h3 _ _ k1)
 ·exact⟨by rw[h2,k2],by rw[h1,k1]⟩
theorem jT.total (st:Option (List UInt8)):∃b s,jT st b s:=by
 by_cases h:∃(b:dL) (rest:List UInt8),st=some (b.enc++rest)∧b.right
 ·obtain⟨b,rest,h1,h2⟩:=h
  exact⟨b,some rest, .inl ⟨rest,h1,h2,rfl⟩⟩
 ·exact⟨dL.zero,none, .inr ⟨rfl,rfl,fun b rest h1 h2=>h ⟨b,rest,h1,h2⟩⟩⟩
theorem UH {m1 m2:Int} {st s1 s2 s3 s4:Option (List UInt8)} {b:dL} {r:List UInt8} (h1:dw st m1 b.dc s1) (h2:dw s1 m2 b.af s2) (h3:dw s2 m2 b.la s3) (h4:kD s3 b.v0 b.v1 b.v2 b.v3 s4) (h5:kW s4 b.es b.ks b.c (some r)) (hr:b.right):jT st b (some r):=by
 rcases h5 with⟨r',rfl,_,h⟩|⟨h,_⟩
 ·injection h with h;subst h
  rcases h4 with⟨r2,rfl,_,h⟩|⟨h,_⟩
  ·injection h with h;subst h
   obtain⟨rfl,_⟩:=nP h3
   obtain⟨rfl,_⟩:=nP h2
   obtain⟨rfl,_⟩:=nP h1
   exact .inl ⟨r,by unfold dL.enc BD;simp only[List.append_assoc],hr,rfl⟩
  ·cases h
 ·cases h
theorem UJ {m1 m2:Int} (hm1:4≤m1) (NV:m1≤9223372036854775807) (hm2:1099511627776≤m2) (tZ:m2≤9223372036854775807) {st s1 s2 s3 s4 s5:Option (List UInt8)} {b:dL} (h1:dw st m1 b.dc s1) (h2:dw s1 m2 b.af s2) (h3:dw s2 m2 b.la s3) (h4:kD s3 b.v0 b.v1 b.v2 b.v3 s4) (h5:kW s4 b.es b.ks b.c s5)
 (hb:s5=none∨¬b.right):jT st dL.zero none:=by
 refine .inr ⟨rfl,rfl,fun b' rest hs hr=>?_⟩
 subst hs
 have hn:=nM.nums hr
 obtain⟨n1,n2,n3,n4,n5,n6,n7⟩:=hn
 unfold dL.enc BD at h1
 simp only[List.append_assoc]at h1
 obtain⟨e1,rfl⟩:=h1.b_ (jy _ ⟨by omega,by omega⟩ NV)
 obtain⟨e2,rfl⟩:=h2.b_ (jy _ ⟨by omega,by omega⟩ tZ)
 obtain⟨e3,rfl⟩:=h3.b_ (jy _ ⟨by omega,by omega⟩ tZ)
 obtain⟨⟨e4,e5,e6,e7⟩,rfl⟩:=h4.b_ (kD.make _ n7)
 obtain⟨⟨⟨e8,e9⟩,e10⟩,rfl⟩:=h5.b_ (kW.make _ (nM.eX hr))
 rcases hb with hb|hb
 ·cases hb
 ·cases b
  cases b'
  simp only at e1 e2 e3 e4 e5 e6 e7 e8 e9 e10
  subst e1 e2 e3 e4 e5 e6 e7 e8 e9 e10
  exact hb hr
def xX (st:Option (List UInt8)):Prop:=∀(m1 m2 dc af la v0 v1 v2 v3:Int) (s1 s2 s3 s4:Option (List UInt8)),4≤m1→m1≤9223372036854775807→1099511627776≤m2→m2≤9223372036854775807→
 dw st m1 dc s1→dw s1 m2 af s2→dw s2 m2 la s3→kD s3 v0 v1 v2 v3 s4→oP s4
theorem xX.small {st:Option (List UInt8)} (hl:(leftOf st).length≤6000):xX st:=fun m1 m2 dc af la v0 v1 v2 v3 s1 s2 s3 s4 _ _ _ _ g1 g2 g3 g4=> .small (by
 have q1:=g1.left
 have q2:=g2.left
 have q3:=g3.left
 have q4:=g4.left
 omega)
theorem xX.known {b:dL} {r:List UInt8} (hr:b.right) (hk:jd b.es b.ks b.c):xX (some (b.enc++r)):=fun m1 m2 dc af la v0 v1 v2 v3 s1 s2 s3 s4 hm1 NV hm2 tZ h1 h2 h3 h4=>by
 have hn:=nM.nums hr
 obtain⟨n1,n2,n3,n4,n5,n6,n7⟩:=hn
 unfold dL.enc BD at h1
 simp only[List.append_assoc]at h1
 obtain⟨-,rfl⟩:=h1.b_ (jy _ ⟨by omega,by omega⟩ NV)
 obtain⟨-,rfl⟩:=h2.b_ (jy _ ⟨by omega,by omega⟩ tZ)
 obtain⟨-,rfl⟩:=h3.b_ (jy _ ⟨by omega,by omega⟩ tZ)
 obtain⟨-,rfl⟩:=h4.b_ (kD.make _ n7)
 exact .known (nM.eX hr) hk
theorem jT.okF {st s:Option (List UInt8)} {b:dL} (hf:xX st) (h:jT st b s):jd b.es b.ks b.c:=by
 rcases h with⟨r,rfl,hr,rfl⟩|⟨rfl,rfl,_⟩
 ·obtain⟨n1,n2,n3,n4,n5,n6,n7⟩:=nM.nums hr
  have hh:oP (some (kC b.es b.ks b.c++r)):=by
   unfold dL.enc BD at hf
   simp only[List.append_assoc]at hf
   exact hf 1099511627776 1099511627776 b.dc b.af b.la b.v0 b.v1 b.v2 b.v3 _ _ _ _ (by decide) (by decide) (by decide) (by decide) (jy _ ⟨by omega,by omega⟩ (by decide)) (jy _ ⟨by omega,by omega⟩ (by decide)) (jy _ ⟨by omega,by omega⟩ (by decide)) (kD.make _ n7)
  exact hh.ok (kW.make r (nM.eX hr))
 ·exact⟨NR,Nat.zero_le _,(fun s hs=>by cases hs),Nat.zero_le _⟩
open Go.RowKit
def abM (x:Int):Int:=if x=102 then 1 else if x=115 then 2 else if x=99 then 3 else if x=114 then 4 else if x=109 then 5 else 0
def kindOf (s:ByteArray):Int:=if h:0<s.size then abM (s[0].toNat:Int)else 0
open Go.RowKit
def p1 (s:ByteArray):Bool:=decide (30<s.size)||(kindOf s==0)
def p2 (s:ByteArray):Bool:= !(kindOf s==5)
structure abN (b:Bool) (w:World) (e:Ending) (w':World):Prop where
 aH:aj ay w w'
 yes:b=true→∃k:Nat,e= .returned (.int .i64 k)
 no:b=false→e= .returned (.int .i64 (-1))
open Go.RowKit
structure aZ where
 b:dL
 ev:Value
 kv:Value
 cv:Value
def aZ.cells (p:aZ):List Value:=[.int .i64 p.b.dc, .int .i64 p.b.af, .int .i64 p.b.la, .int .i64 p.b.v0, .int .i64 p.b.v1, .int .i64 p.b.v2, .int .i64 p.b.v3,p.ev,p.kv,p.cv]
def aZ.zero:aZ:=⟨dL.zero, .bool false, .bool false, .bool false⟩
def kR (ps:List aZ):List Value:=ps.flatMap aZ.cells
theorem UK:∀(ps:List aZ) (k:Nat),k<ps.length→∀i,i<10→(kR ps)[k*10+i]?=(ps.getD k aZ.zero).cells[i]?
 |[],_,h,_,_=>by cases h
 |p::ps,0,_,i,hi=>by
  have e:kR (p::ps)=p.cells++kR ps:=rfl
  rw[e,Nat.zero_mul,Nat.zero_add,List.getElem?_append_left (by simpa[aZ.cells]using hi)]
  rfl
 |p::ps,k+1,h,i,hi=>by
  have e:kR (p::ps)=p.cells++kR ps:=rfl
  have hl:p.cells.length=10:=rfl
  rw[e,show(k+1)*10+i=10+(k*10+i) by omega,List.getElem?_append_right (by rw[hl];omega),hl,Nat.add_sub_cancel_left]
  exact UK ps k (by simpa using h) i hi
structure zq (Q:Nat→Prop) (w:World) (v:Value) (ps:List aZ):Prop where
 rd:Rd w v ps.length (kR ps)
 eX:∀p∈ps,gK Q w p.ev p.kv p.cv p.b.es p.b.ks p.b.c
theorem zq.aJ {Q:Nat→Prop} {w w':World} {v:Value} {ps:List aZ} (h:zq Q w v ps) (f:aj ay w w'):zq Q w' v ps:=⟨Rd.aJ h.rd f,fun p hp=>(h.eX p hp).aJ f⟩
theorem Dz {w:World} {b off c n:Nat} {ps:List aZ} (h:Rd w (.slice (some ⟨b,off,none⟩) n c) n (kR ps)) (k:Nat) (hk:k<ps.length):
 w.cell? ⟨b,off+k*10,none⟩=some (.int .i64 (ps.getD k aZ.zero).b.dc)∧w.cell? ⟨b,off+k*10+1,none⟩=some (.int .i64 (ps.getD k aZ.zero).b.af)∧w.cell? ⟨b,off+k*10+2,none⟩=some (.int .i64 (ps.getD k aZ.zero).b.la)∧
 w.cell? ⟨b,off+k*10+3,none⟩=some (.int .i64 (ps.getD k aZ.zero).b.v0)∧w.cell? ⟨b,off+k*10+4,none⟩=some (.int .i64 (ps.getD k aZ.zero).b.v1)∧w.cell? ⟨b,off+k*10+5,none⟩=some (.int .i64 (ps.getD k aZ.zero).b.v2)∧w.cell? ⟨b,off+k*10+6,none⟩=some (.int .i64 (ps.getD k aZ.zero).b.v3)∧
 w.cell? ⟨b,off+k*10+7,none⟩=some (ps.getD k aZ.zero).ev∧w.cell? ⟨b,off+k*10+8,none⟩=some (ps.getD k aZ.zero).kv∧w.cell? ⟨b,off+k*10+9,none⟩=some (ps.getD k aZ.zero).cv:=
 have H:=UK ps k hk
 ⟨h.cell (k*10) _ (H 0 (by omega)),h.cell (k*10+1) _ (H 1 (by omega)),h.cell (k*10+2) _ (H 2 (by omega)),h.cell (k*10+3) _ (H 3 (by omega)),h.cell (k*10+4) _ (H 4 (by omega)),h.cell (k*10+5) _ (H 5 (by omega)),h.cell (k*10+6) _ (H 6 (by omega)),h.cell (k*10+7) _ (H 7 (by omega)),h.cell (k*10+8) _ (H 8 (by omega)),h.cell (k*10+9) _ (H 9 (by omega))⟩
noncomputable def pW (p:aZ):Bool:= !tf p.b.right
theorem UL {p:aZ→Bool} {ss:List aZ} {k:Nat} (hk:k<ss.length):(ss.take (k+1)).any p=((ss.take k).any p||p (ss.getD k aZ.zero)):=by
 rw[take_succ aZ.zero hk,List.any_append]
 simp
theorem UM {p:aZ→Bool} {ss:List aZ} {k:Nat} (hk:k<ss.length) (h:p (ss.getD k aZ.zero)=true):ss.any p=true:=
 List.any_eq_true.2 ⟨_,getD_mem aZ.zero hk,h⟩
theorem abO (Q:Nat→Prop) (es:List aQ) (ks:aS) (c:aX) (w:World) (dc af la v0 v1 v2 v3:Int) (ev kv cv:Value) (h:gK Q w ev kv cv es ks c) (hok:jd es ks c):
 Calls Tryz.prog 129 #[.agg #[.int .i64 dc, .int .i64 af, .int .i64 la, .int .i64 v0, .int .i64 v1, .int .i64 v2, .int .i64 v3,ev,kv,cv]] w fun e w'=>e= .returned (.bool (!tf (nM dc af la (bP v0 v1 v2 v3) es ks c)))∧aj ay w w':=by
 have HB:=ah (fun W (f:aj ay w W)=>MN Q es ks c W dc af la v0 v1 v2 v3 ev kv cv (h.aJ f) hok)
 obtain⟨a0,c0,a1,c1,a2,c2,rfl,rfl,rfl⟩:=h.shape
 clear h hok
 have bD:=ah (show aj ay w (w.alloc (.cells #[.int .i64 dc, .int .i64 af, .int .i64 la, .int .i64 v0, .int .i64 v1, .int .i64 v2, .int .i64 v3, .slice a0 es.length c0, .slice a1 ks.len c1, .slice a2 c.length c2] 59))from aj.alloc _ _ _)
 generalize tf (nM dc af la (bP v0 v1 v2 v3) es ks c)=y at*
 generalize es.length=n at*
 generalize ks.len=m at*
 generalize c.length=k at*
 go_enter Tryz.func129,Tryz.ntmps129
 go_wp2_with(go_at_call 83;refine(HB.out _ bD.out).mono ?_;rintro e w1 ⟨rfl,hw1⟩;have HW1:=ah (bD.out.aC hw1);clear hw1)
 go_ret
 exact⟨rfl,HW1.out⟩
theorem abP (Q:Nat→Prop) (ps:List aZ) (w:World) (v:Value) (h:zq Q w v ps) (hok:∀p∈ps,jd p.b.es p.b.ks p.b.c) (hl:ps.length≤100000):
 Calls Tryz.prog 175 #[v, .func (.func 129) #[] #[]] w (abN (ps.any pW) w):=by
 have eg:∀args w,(callFunc 129 args).run Tryz.prog w= .ok (.enter 129 args) w:=enters_of Tryz.func129 (by kernel_rfl) rfl
 have HP:=ah (fun p hp W (f:aj ay w W)=>abO Q p.b.es p.b.ks p.b.c W p.b.dc p.b.af p.b.la p.b.v0 p.b.v1 p.b.v2 p.b.v3 p.ev p.kv p.cv ((h.eX p hp).aJ f) (hok p hp))
 have wM:=ah (fun p hp=>(h.eX p hp).shape)
 replace h:=h.rd
 clear hok
 rcases Rd.shape h with⟨ad,rfl,h0⟩|⟨b,off,c,rfl,hmax⟩
 ·have abQ:=ah (show ps.any pW=false by rw[List.eq_nil_of_length_eq_zero h0];rfl)
  clear h h0
  go_enter Tryz.func175,Tryz.ntmps175
  go_wp2
  go_loop [8] (fun i=>i= .int .i64 0) (fun _=>0)
  case atStart=>rfl
  case round=>
   obtain rfl:=hrel
   go_wp2
   go_ret
   exact⟨aj.refl _ _,fun h=>(by rw[abQ.out]at h;cases h),fun _=>rfl⟩
 ·have HH:=ah h;clear h
  generalize hn:ps.length=n at*
  have HN:=ah hn;clear hn
  go_enter Tryz.func175,Tryz.ntmps175
  go_wp2
  go_loopw [8] (fun i W=>∃k:Nat,k≤n∧i= .int .i64 k∧(ps.take k).any pW=false∧aj ay w W) (fun i _=>n-(intOf i).toNat)
  case atStart=>exact⟨0,Nat.zero_le _,rfl,by simp,aj.refl _ _⟩
  case round=>
   obtain⟨k,hk,rfl,ha,hw⟩:=hrel
   have zu:=ah ha;clear ha
   have HW:=ah hw;clear hw
   by_cases hlt:k<n
   ·have hlk:k<ps.length:=by rw[HN.out];exact hlt
    obtain⟨q0,q1,q2,q3,q4,q5,q6,q7,q8,q9⟩:=Dz HH.out k hlk
    replace q0:=HW.out.cell' q0 id
    replace q1:=HW.out.cell' q1 id
    replace q2:=HW.out.cell' q2 id
    replace q3:=HW.out.cell' q3 id
    replace q4:=HW.out.cell' q4 id
    replace q5:=HW.out.cell' q5 id
    replace q6:=HW.out.cell' q6 id
    replace q7:=HW.out.cell' q7 id
    replace q8:=HW.out.cell' q8 id
    replace q9:=HW.out.cell' q9 id
    have hm:=getD_mem aZ.zero hlk
    have HC:=ah (fun W f=>HP.out _ hm W f)
    obtain⟨a0,c0,a1,c1,a2,c2,e0,e1,e2⟩:=wM.out _ hm
    have HT:=ah (UL (p:=pW) hlk)
    have HE:=ah (UM (p:=pW) hlk)
    rw[e0]at q7
    rw[e1]at q8
    rw[e2]at q9
    rw[e0,e1,e2]at HC
    clear hm e0 e1 e2
    have hpw:pW (ps.getD k aZ.zero)= !tf (nM (ps.getD k aZ.zero).b.dc (ps.getD k aZ.zero).b.af (ps.getD k aZ.zero).b.la (bP (ps.getD k aZ.zero).b.v0 (ps.getD k aZ.zero).b.v1 (ps.getD k aZ.zero).b.v2 (ps.getD k aZ.zero).b.v3) (ps.getD k aZ.zero).b.es (ps.getD k aZ.zero).b.ks (ps.getD k aZ.zero).b.c):=rfl
    rw[←hpw]at HC
    clear hpw
    generalize pW (ps.getD k aZ.zero)=y at*
    generalize (ps.getD k aZ.zero).b.es.length=n0 at*
    generalize (ps.getD k aZ.zero).b.ks.len=n1 at*
    generalize (ps.getD k aZ.zero).b.c.length=n2 at*
    generalize (ps.getD k aZ.zero).b.dc=x0 at*
    generalize (ps.getD k aZ.zero).b.af=x1 at*
    generalize (ps.getD k aZ.zero).b.la=x2 at*
    generalize (ps.getD k aZ.zero).b.v0=x3 at*
    generalize (ps.getD k aZ.zero).b.v1=x4 at*
    generalize (ps.getD k aZ.zero).b.v2=x5 at*
    generalize (ps.getD k aZ.zero).b.v3=x6 at*
    cases y with
    |true=>
     have HEX:=ah (HE.out rfl)
     clear HE HT
     go_wp2_with(go_at_call 129;refine(HC.out _ HW.out).mono ?_;rintro e w1 ⟨rfl,hw1⟩;have HW1:=ah (HW.out.aC hw1);clear hw1)
     go_ret
     exact⟨HW1.out,fun _=>⟨k,rfl⟩,fun h=>(by rw[HEX.out]at h;cases h)⟩
    |false=>
     have NW:=ah (show(ps.take (k+1)).any pW=false by rw[HT.out,zu.out];rfl)
     clear HE HT
     go_wp2_with(go_at_call 129;refine(HC.out _ HW.out).mono ?_;rintro e w1 ⟨rfl,hw1⟩;have HW1:=ah (HW.out.aC hw1);clear hw1)
     go_roundw
     case rel=>exact⟨k+1,by omega,by go_num,NW.out,HW1.out⟩
     case measure=>simp[intOf];omega
   ·have hnk:n=k:=by omega
    have hall:ps.any pW=false:=by
     have:=zu.out
     rwa [List.take_of_length_le (by rw[HN.out,hnk];exact Nat.le_refl _)]at this
    have rH:=ah hall;clear hall
    go_wp2
    go_ret
    exact⟨HW.out,fun h=>(by rw[rH.out]at h;cases h),fun _=>rfl⟩
theorem abR (Q:Nat→Prop) (ps:List aZ) (w:World) (v:Value) (h:zq Q w v ps) (hok:∀p∈ps,jd p.b.es p.b.ks p.b.c) (hl:ps.length≤100000):
 Calls Tryz.prog 128 #[v, .func (.func 129) #[] #[]] w fun e w'=>e= .returned (.bool (ps.any pW))∧aj ay w w':=by
 have HI:=ah (abP Q ps w v h hok hl)
 obtain⟨a,c,rfl⟩:=h.rd.sl
 clear h hok
 generalize ps.length=n at*
 cases ha:ps.any pW with
 |true=>
  have HA:=ah ha;clear ha
  go_enter Tryz.func128,Tryz.ntmps128
  go_wp2_with(go_at_call 175;refine HI.out.mono ?_;rintro e w1 ⟨hw1,hy,-⟩;obtain⟨k,he⟩:=hy HA.out;subst he;have HW1:=ah hw1;clear hw1 hy)
  go_ret
  exact⟨by first|rfl|(simp;omega),HW1.out⟩
 |false=>
  have HA:=ah ha;clear ha
  go_enter Tryz.func128,Tryz.ntmps128
  go_wp2_with(go_at_call 175;refine HI.out.mono ?_;rintro e w1 ⟨hw1,-,hy⟩;have he:=hy HA.out;subst he;have HW1:=ah hw1;clear hw1 hy)
  go_ret
  exact⟨by first|rfl|(simp;omega),HW1.out⟩
theorem UN (n:Int) (w:World):Calls Tryz.prog 127 #[.int .i64 n] w fun e w'=>e= .returned (.bool (decide (0≤n∧n<4)))∧w'=w:=by
 by_cases h0:0≤n
 ·by_cases h4:n<4
  ·rw[decide_eq_true (show 0≤n∧n<4 from⟨h0,h4⟩)]
   go_enter Tryz.func127,Tryz.ntmps127
   go_wp2
   go_ret
   exact⟨rfl,rfl⟩
  ·rw[decide_eq_false (show ¬(0≤n∧n<4)from fun h=>h4 h.2)]
   go_enter Tryz.func127,Tryz.ntmps127
   go_wp2
   go_ret
   exact⟨rfl,rfl⟩
 ·rw[decide_eq_false (show ¬(0≤n∧n<4)from fun h=>h0 h.1)]
  go_enter Tryz.func127,Tryz.ntmps127
  go_wp2
  go_ret
  exact⟨rfl,rfl⟩
open Go.RowKit
def pU (f:Int→Int):Array Value:= #[.int .i64 (f 0), .int .i64 (f 1), .int .i64 (f 2), .int .i64 (f 3)]
theorem abS (f:Int→Int) {k:Nat} (h:k<4):(pU f)[k]?=some (.int .i64 (f k)):=by
 rcases(by omega:k=0∨k=1∨k=2∨k=3)with rfl|rfl|rfl|rfl<;>rfl
theorem abT (f:Int→Int) {k:Nat} (h:k<4) (x:Int):(pU f).setIfInBounds k (.int .i64 x)=pU (iE f k x):=by
 rcases(by omega:k=0∨k=1∨k=2∨k=3)with rfl|rfl|rfl|rfl<;>simp[pU,iE]
theorem abU {f g:Int→Int} (h:∀d,0≤d→d<4→f d=g d):pU f=pU g:=by
 unfold pU
 rw[h 0 (by decide) (by decide),h 1 (by decide) (by decide),h 2 (by decide) (by decide),h 3 (by decide) (by decide)]
def nZ (w:World) (g:Nat) (f:Int→Int) (T:TypeId):Prop:=w.heap[g]?=some (.cells (pU f) T (0,0))
theorem nZ.cell {w:World} {g:Nat} {f:Int→Int} {T:TypeId} (h:nZ w g f T) {k:Nat} (hk:k<4):w.cell? ⟨g,k,none⟩=some (.int .i64 (f k)):=au h k (abS f hk)
theorem nZ.free {w:World} {g:Nat} {f:Int→Int} {T:TypeId} (h:nZ w g f T) (k:Nat):w.frozen? ⟨g,k,none⟩=false:=aG h k
theorem nZ.set {w:World} {g:Nat} {f:Int→Int} {T:TypeId} (h:nZ w g f T) {k:Nat} (hk:k<4) (x:Int):nZ (w.setCell ⟨g,k,none⟩ (.int .i64 x)) g (iE f k x) T:=by
 have:=bC h k (.int .i64 x)
 rw[abT f hk]at this
 exact this
theorem nZ.keep {w w':World} {g:Nat} {f:Int→Int} {T:TypeId} (h:nZ w g f T) (fr:aj ay w w'):nZ w' g f T:=fr.blk h id
theorem nZ.congr {w:World} {g:Nat} {f f':Int→Int} {T:TypeId} (h:nZ w g f T) (he:∀d,0≤d→d<4→f d=f' d):nZ w g f' T:=by
 unfold nZ at*
 rw[←abU he]
 exact h
theorem nZ.FI {w:World} {b:Nat} {f:Int→Int} {T:TypeId} (h:nZ w b f T) (g:Int→Int):nZ ((((w.setCell ⟨b,0,none⟩ (.int .i64 (g 0))).setCell ⟨b,1,none⟩ (.int .i64 (g 1))).setCell ⟨b,2,none⟩ (.int .i64 (g 2))).setCell ⟨b,3,none⟩ (.int .i64 (g 3))) b g T:=
 bC (bC (bC (bC h 0 _) 1 _) 2 _) 3 _
theorem aj.FI {w0 w:World} {b:Nat} (f:aj ay w0 w) (hb:w0.heap.size≤b) (v0 v1 v2 v3:Value):aj ay w0 ((((w.setCell ⟨b,0,none⟩ v0).setCell ⟨b,1,none⟩ v1).setCell ⟨b,2,none⟩ v2).setCell ⟨b,3,none⟩ v3):=
 (((f.set1 (p:=⟨b,0,none⟩) (.inr hb)).set1 (p:=⟨b,1,none⟩) (.inr hb)).set1 (p:=⟨b,2,none⟩) (.inr hb)).set1 (p:=⟨b,3,none⟩) (.inr hb)
open Go.RowKit
def xY (f:Int→Int) (k:Nat) (d:Int):Int:=if d<k then f d else 0
theorem UO (f:Int→Int) (k:Nat) (d:Int):iE (xY f k) k (f k) d=xY f (k+1) d:=by
 unfold iE xY
 by_cases h:d=k
 ·subst h;simp;intro h3;omega
 ·rw[if_neg h]
  by_cases h2:d<k
  ·rw[if_pos h2,if_pos (by omega)]
  ·rw[if_neg h2,if_neg (by omega)]
theorem UQ (f:Int→Int) {d:Int} (h:d<4):xY f 4 d=f d:=by unfold xY;exact if_pos (by omega)
structure t_ (w w1 ww:World) (f:Int→Int) (T:TypeId):Prop where
 a:nZ ww (w.heap.size+1) f T
 r:nZ ww w.heap.size (fun _=>0) T
 aH:aj ay w ww
 old:aj (fun b=>b=w.heap.size+1) w1 ww
theorem t_.keep {w w1 ww w':World} {f:Int→Int} {T:TypeId} (h:t_ w w1 ww f T) (fr:aj ay ww w'):t_ w w1 w' f T:=⟨h.a.keep fr,h.r.keep fr,h.aH.aC fr,h.old.aC fr⟩
theorem t_.set {w w1 ww:World} {f:Int→Int} {T:TypeId} (h:t_ w w1 ww f T) {k:Nat} (hk:k<4) (x:Int):t_ w w1 (ww.setCell ⟨w.heap.size+1,k,none⟩ (.int .i64 x)) (iE f k x) T:=
 ⟨h.a.set hk x,(C_ (by omega)).trans h.r,h.aH.set1 (.inr (Nat.le_succ _)),h.old.set1 (.inl rfl)⟩
theorem t_.congr {w w1 ww:World} {f f':Int→Int} {T:TypeId} (h:t_ w w1 ww f T) (he:∀d,0≤d→d<4→f d=f' d):t_ w w1 ww f' T:=⟨h.a.congr he,h.r,h.aH,h.old⟩
open Go.RowKit
def n_:aW→Int
 |[]=>0
 |r::_=>if r.1=1 then r.2 else 0
theorem UR {l:aW} (h:l≠ []):n_ l=if(l.getD 0 (0,0)).1=1 then(l.getD 0 (0,0)).2 else 0:=by
 cases l with
 |nil=>exact absurd rfl h
 |cons r l=>rfl
theorem abV (w:World) (v:Value) (l:aW) (h:lK w v l) (hr:dR l):Calls Tryz.prog 224 #[v] w fun e w'=>e= .returned (.int .i64 (n_ l))∧aj ay w w':=by
 have HR:=ah (dO hr▸Il w v l h hr.fits)
 rcases Rd.shape h with⟨ad,rfl,h0⟩|⟨b,off,c,rfl,hmax⟩
 ·obtain rfl:l=[]:=List.eq_nil_of_length_eq_zero h0
  clear h hr
  go_enter Tryz.func224,Tryz.ntmps224
  go_wp2_with(go_at_call 251;refine HR.out.mono ?_;rintro e w1 ⟨rfl,hw1⟩;have HW1:=ah hw1;clear hw1)
  go_ret
  exact⟨rfl,HW1.out⟩
 ·by_cases hl:l=[]
  ·subst hl
   clear h hr
   go_enter Tryz.func224,Tryz.ntmps224
   go_wp2_with(go_at_call 251;refine HR.out.mono ?_;rintro e w1 ⟨rfl,hw1⟩;have HW1:=ah hw1;clear hw1)
   go_ret
   exact⟨rfl,HW1.out⟩
  ·have hp:0<l.length:=List.length_pos_iff.2 hl
   obtain⟨c0,c1⟩:=qj h rfl 0 hp
   rw[Nat.zero_mul,Nat.add_zero]at c0 c1
   have HF:=ah (UR hl)
   have C0:=ah c0;clear c0
   have C1:=ah c1;clear c1
   have hn0:((l.length:Int)==0)=false:=beq_false_of_ne (by omega)
   have hn1:(1:Int)≤l.length:=by omega
   generalize (l.getD 0 (0,0)).1=x at*
   generalize (l.getD 0 (0,0)).2=y at*
   clear h hr hl hp
   generalize l.length=n at*
   by_cases hx:x=1
   ·subst hx
    rw[if_pos rfl]at HF
    go_enter Tryz.func224,Tryz.ntmps224
    go_wp2_with(go_at_call 251;refine HR.out.mono ?_;rintro e w1 ⟨rfl,hw1⟩;have d0:=hw1.cell' C0.out id;have d1:=hw1.cell' C1.out id;have HW1:=ah hw1;clear hw1)
    go_ret
    exact⟨by rw[HF.out];rfl,HW1.out⟩
   ·rw[if_neg hx]at HF
    have hxb:((x:Int) !=1)=true:=by simp[bne,hx]
    clear hx
    go_enter Tryz.func224,Tryz.ntmps224
    go_wp2_with(go_at_call 251;refine HR.out.mono ?_;rintro e w1 ⟨rfl,hw1⟩;have d0:=hw1.cell' C0.out id;have d1:=hw1.cell' C1.out id;have HW1:=ah hw1;clear hw1)
    go_ret
    exact⟨by rw[HF.out];rfl,HW1.out⟩
theorem abW {l:aW} {lo:Int} (h:iM lo l) (hlo:2≤lo):∀r∈l,r.1≠1:=by
 induction l generalizing lo with
 |nil=>intro r hr;cases hr
 |cons a l ih=>
  intro r hr
  obtain⟨h1,h2,h3⟩:=h
  rcases List.mem_cons.1 hr with rfl|hr
  ·omega
  ·exact ih h3 (by omega) r hr
theorem abX (w:World) (v:Value) (l:aW) (h:lK w v l) (hr:∀k,0<k→k<l.length→(l.getD k (0,0)).1≠1):Calls Tryz.prog 141 #[v] w fun e w'=>e= .returned (.int .i64 (n_ l))∧aj ay w w':=by
 obtain⟨a,c,rfl⟩:=Rd.sl h
 have HH:=ah h;clear h
 have HR:=ah hr;clear hr
 generalize hn:l.length=n at*
 have HN:=ah hn;clear hn
 go_enter Tryz.func141,Tryz.ntmps141
 go_wp2
 go_loopw [6] (fun i W=>∃k:Nat,k≤n∧i= .int .i64 k∧(0<k→n_ l=0)∧W=w) (fun i _=>n-(intOf i).toNat)
 case atStart=>exact⟨0,Nat.zero_le _,rfl,fun h=>absurd h (by omega),rfl⟩
 case round=>
  obtain⟨k,hk,rfl,hz,rfl⟩:=hrel
  have HZ:=ah hz;clear hz
  by_cases hlt:k<n
  ·have hkl:k<l.length:=by rw[HN.out];exact hlt
   have hrd:=HH.out
   rcases Rd.shape hrd with⟨ad,he,h0⟩|⟨b,off,cc,he,hmax⟩
   ·exfalso;have:=HN.out;omega
   injection he with e1 e2 e3
   subst e1 e3
   clear e2
   obtain⟨q0,q1⟩:=qj HH.out HN.out.symm k hkl
   have hmx:(n:Int)≤9223372036854775807:=by have:=HN.out;omega
   clear hrd hmax
   have DC:=ah (fun h0:0<k=>HR.out k h0 hlt)
   have qG:=ah (show k=0→n_ l=if(l.getD k (0,0)).1=1 then(l.getD k (0,0)).2 else 0 from fun h0=>by subst h0;exact UR (l:=l) (fun e=>by rw[e]at hkl;cases hkl))
   generalize (l.getD k (0,0)).1=x at*
   generalize (l.getD k (0,0)).2=y at*
   by_cases hx:x=1
   ·have hk0:k=0:=by
     by_cases h0:0<k
     ·exact absurd hx (DC.out h0)
     ·omega
    have HF:=ah (qG.out hk0)
    rw[if_pos hx]at HF
    subst hx
    clear DC qG hk0
    go_wp2
    go_ret
    exact⟨by rw[HF.out];rfl,aj.refl _ _⟩
   ·have hxb:((x:Int)==1)=false:=beq_false_of_ne hx
    have HZ2:=ah (show 0<k+1→n_ l=0 from fun _=>by
     by_cases h0:0<k
     ·exact HZ.out h0
     ·rw[qG.out (by omega),if_neg hx])
    clear DC qG hx
    go_wp2
    go_roundw
    case rel=>exact⟨k+1,by omega,by go_num,HZ2.out,trivial⟩
    case measure=>simp[intOf];omega
  ·obtain rfl:n=k:=by omega
   have HF:=ah (show n_ l=0 by
    by_cases h0:0<n
    ·exact HZ.out h0
    ·obtain rfl:l=[]:=List.eq_nil_of_length_eq_zero (by rw[HN.out];omega)
     rfl)
   go_wp2
   go_ret
   exact⟨by rw[HF.out];rfl,aj.refl _ _⟩
theorem abY (w:World) (v:Value) (ct:aX) (h:jf w v ct) (hr:dN ct) (hl:ct.length≤100000):Calls Tryz.prog 177 #[v] w fun e w'=>e= .returned (.agg (pU fun d=>n_ (bQ ct d)))∧aj ay w w':=by
 have HC:=ah (fun W (fr:aj ay w W)=>Et W v ct (Rd.aJ h fr) hr.fits (by omega))
 obtain⟨a,c,rfl⟩:=Rd.sl h
 have dU:=ah hr
 have BF:=ah (fun d h0 h4=>(hr.2 d h0 h4:dR (bQ ct d)))
 clear h hr
 generalize hf:(fun d=>n_ (bQ ct d))=f at*
 have NY:=ah (fun d=>(by rw[←hf]:f d=n_ (bQ ct d)))
 clear hf
 generalize ct.length=n at*
 obtain⟨hb1,hfb,hbs⟩:=uJ w (.cells #[.int .i64 0, .int .i64 0, .int .i64 0, .int .i64 0] 25) #[.int .i64 0, .int .i64 0, .int .i64 0, .int .i64 0] 25
 have hb0:((w.alloc (.cells #[.int .i64 0, .int .i64 0, .int .i64 0, .int .i64 0] 25)).alloc (.cells #[.int .i64 0, .int .i64 0, .int .i64 0, .int .i64 0] 25)).heap[w.heap.size]?=some (.cells #[.int .i64 0, .int .i64 0, .int .i64 0, .int .i64 0] 25 (0,0)):=(aj.alloc ay _ _).blk (heap_alloc_new w _) id
 have HB1:=ah hb1;clear hb1
 have HB0:=ah hb0;clear hb0
 have dI:=ah hfb;clear hfb
 have wE:=ah hbs;clear hbs
 go_enter Tryz.func177,Tryz.ntmps177
 go_wp2_with(go_at_call 205;refine(HC.out _ dI.out).mono ?_;rintro e w1 ⟨hf1,hp1,-⟩;obtain⟨A,rfl,hpt⟩:=hp1 dU.out;clear hp1;have bg:=ah hf1;clear hf1;have qR:=ah hpt;clear hpt)
 have hix:∀(k:Nat),k<4→∀W,(Instr.index 268 (.agg #[.slice (A 0).1 (A 0).2.1 (A 0).2.2, .slice (A 1).1 (A 1).2.1 (A 1).2.2, .slice (A 2).1 (A 2).2.1 (A 2).2.2, .slice (A 3).1 (A 3).2.1 (A 3).2.2]) (.int .i64 (k:Int))).run Tryz.prog W= .ok (.slice (A k).1 (A k).2.1 (A k).2.2) W:=fun k hk=>by
  rcases(by omega:k=0∨k=1∨k=2∨k=3)with rfl|rfl|rfl|rfl<;>exact fun _=>by kernel_rfl
 have EM:=ah hix;clear hix
 have hfa:aj ay w1 (w1.alloc (.cells #[.slice (A 0).1 (A 0).2.1 (A 0).2.2, .slice (A 1).1 (A 1).2.1 (A 1).2.2, .slice (A 2).1 (A 2).2.1 (A 2).2.2, .slice (A 3).1 (A 3).2.1 (A 3).2.2] 268)):=aj.alloc _ _ _
 have hst:t_ w w1 (w1.alloc (.cells #[.slice (A 0).1 (A 0).2.1 (A 0).2.2, .slice (A 1).1 (A 1).2.1 (A 1).2.2, .slice (A 2).1 (A 2).2.1 (A 2).2.2, .slice (A 3).1 (A 3).2.1 (A 3).2.2] 268)) (fun _=>0) 25:=
  ⟨hfa.blk (bg.out.blk HB1.out id) id,hfa.blk (bg.out.blk HB0.out id) id,(dI.out.aC bg.out).aC hfa,hfa.mono fun _ _ h=>h.elim⟩
 have HST:=ah hst;clear hst hfa
 go_loopw [15] (fun i ww=>∃k:Nat,k≤4∧i= .int .i64 k∧t_ w w1 ww (xY f k) 25) (fun i _=>4-(intOf i).toNat)
 case atStart=>exact⟨0,Nat.zero_le _,rfl,HST.out.congr fun d h0 h4=>by unfold xY;rw[if_neg (by omega)]⟩
 case round=>
  obtain⟨k,hk,rfl,hv⟩:=hrel
  have HV:=ah hv;clear hv
  by_cases hlt:k<4
  ·have hki:(k:Int)<4:=by omega
   have hx:=EM.out k hlt
   have ho:=qR.out.own k hlt
   have hsz1:=wE.out
   have hrun:lK wr (.slice (A k).1 (A k).2.1 (A k).2.2) (bQ ct k):=ho.rd.keep HV.out.old fun b hb he=>by have:=ho.new b hb;omega
   have mO:=ah (NY.out k▸abV wr _ (bQ ct k) hrun (BF.out k (by omega) hki))
   have NZ:=ah (fun d=>UO f k d)
   clear ho hrun hsz1
   obtain⟨ak,lk,ck,hak⟩:∃ak lk ck,A k=(ak,lk,ck):=⟨_,_,_,rfl⟩
   rw[hak]at hx mO
   clear hak
   generalize f k=x at*
   go_wp2_with(go_at_call 224;refine mO.out.mono ?_;rintro e w2 ⟨rfl,hw2⟩;have iU:=ah (HV.out.keep hw2);clear hw2;have z0:=iU.out.a.cell hlt;have g0:=iU.out.a.free k;have N_:=ah (iU.out.set hlt x))
   clear z0 g0
   go_roundw
   case rel=>exact⟨k+1,by omega,by go_num,N_.out.congr fun d h0 h4=>NZ.out d⟩
   case measure=>simp[intOf];omega
  ·obtain rfl:k=4:=by omega
   have iU:=ah (HV.out.congr fun d h0 h4=>UQ f h4)
   have a0':=iU.out.a.cell (k:=0) (by decide)
   have a1':=iU.out.a.cell (k:=1) (by decide)
   have a2':=iU.out.a.cell (k:=2) (by decide)
   have a3':=iU.out.a.cell (k:=3) (by decide)
   have r0:=iU.out.r.cell (k:=0) (by decide)
   have r1:=iU.out.r.cell (k:=1) (by decide)
   have r2:=iU.out.r.cell (k:=2) (by decide)
   have r3:=iU.out.r.cell (k:=3) (by decide)
   have g0:=iU.out.r.free 0
   have g1:=iU.out.r.free 1
   have g2:=iU.out.r.free 2
   have g3:=iU.out.r.free 3
   have HR:=ah (iU.out.r.FI f)
   have HF:=ah (iU.out.aH.FI (b:=w.heap.size) (Nat.le_refl _) (.int .i64 (f 0)) (.int .i64 (f 1)) (.int .i64 (f 2)) (.int .i64 (f 3)))
   go_wp2
   clear a0' a1' a2' a3' r0 r1 r2 r3 g0 g1 g2 g3
   have r0:=HR.out.cell (k:=0) (by decide)
   have r1:=HR.out.cell (k:=1) (by decide)
   have r2:=HR.out.cell (k:=2) (by decide)
   have r3:=HR.out.cell (k:=3) (by decide)
   exact bodyPost_ret (v:= .agg (pU f)) (by simp[results,Tryz.results177,go_sem,r0,r1,r2,r3,pU]) rfl ⟨rfl,HF.out⟩
open Go.RowKit
def xZ:aW→Bool
 |[]=>true
 |[r]=>r.1==1
 |_=>false
def uf (c:aX) (k:Nat):Bool:=(List.range k).all fun d=>xZ (bQ c d)
theorem abZ (c:aX) (k:Nat):uf c (k+1)=(uf c k&&xZ (bQ c k)):=by
 unfold uf
 rw[List.range_succ,List.all_append]
 simp
def dA (c:aX) (d:Int):Int:=n_ (bQ c d)
theorem ab1 {l:aW} (h:dR l):kU (n_ l)=l↔xZ l=true:=by
 match l,h with
 |[],_=>exact⟨fun _=>rfl,fun _=>rfl⟩
 |[(a,b)],h=>
  have h1:1≤a∧a≤b:=by
   obtain⟨⟨g1,g2,_⟩,_⟩:=h
   exact⟨g1,g2⟩
  by_cases ha:a=1
  ·subst ha
   refine⟨fun _=>rfl,fun _=>?_⟩
   show kU (if(1:Int)=1 then b else 0)=_
   rw[if_pos rfl]
   exact if_pos (by omega)
  ·constructor
   ·intro e
    exfalso
    have e2:n_ [(a,b)]=0:=if_neg ha
    rw[e2]at e
    cases e
   ·intro e
    exact absurd (eq_of_beq (show(a==1)=true from e)) ha
 |r::r2::l,_=>
  constructor
  ·intro e
   exfalso
   have e2:=congrArg List.length e
   unfold kU at e2
   split at e2
   ·simp at e2
   ·simp at e2
  ·intro e
   cases e
theorem UU {c:aX} (h:dN c):uf c 4=true↔c=f_ (dA c):=by
 have e4:uf c 4=(xZ (bQ c 0)&&(xZ (bQ c 1)&&(xZ (bQ c 2)&&xZ (bQ c 3)))):=by
  unfold uf
  simp[List.range,List.range.loop,Bool.and_assoc]
 have p:∀d:Int,0≤d→d<4→(kU (dA c d)=bQ c d↔xZ (bQ c d)=true):=fun d h0 h4=>ab1 (h.2 d h0 h4)
 rw[e4]
 simp only[Bool.and_eq_true]
 constructor
 ·rintro⟨g0,g1,g2,g3⟩
  have e0:=(p 0 (by decide) (by decide)).2 g0
  have e1:=(p 1 (by decide) (by decide)).2 g1
  have e2:=(p 2 (by decide) (by decide)).2 g2
  have e3:=(p 3 (by decide) (by decide)).2 g3
  refine(Ce (Int.le_refl 0) h.1).symm.trans ?_
  show fC 0 (bQ c 0)++(fC 1 (bQ c 1)++(fC 2 (bQ c 2)++fC 3 (bQ c 3)))=fC 0 (kU (dA c 0))++(fC 1 (kU (dA c 1))++(fC 2 (kU (dA c 2))++fC 3 (kU (dA c 3))))
  rw[e0,e1,e2,e3]
 ·intro e
  have key:∀d:Int,0≤d→d<4→xZ (bQ c d)=true:=fun d h0 h4=>(p d h0 h4).1 (by
   have e5:bQ (f_ (dA c)) d=kU (dA c d):=Ej _ h0 h4
   rw[←e]at e5
   exact e5.symm)
  exact⟨key 0 (by decide) (by decide),key 1 (by decide) (by decide),key 2 (by decide) (by decide),key 3 (by decide) (by decide)⟩
theorem ab2 (w:World) (v:Value) (ct:aX) (h:jf w v ct) (hr:dN ct) (hl:ct.length≤100000):Calls Tryz.prog 176 #[v] w fun e w'=>e= .returned (.bool (uf ct 4))∧aj ay w w':=by
 have HC:=ah (Et w v ct h hr.fits (by omega))
 obtain⟨a,c,rfl⟩:=Rd.sl h
 have dU:=ah hr
 clear h hr
 generalize ct.length=n at*
 go_enter Tryz.func176,Tryz.ntmps176
 go_wp2_with(go_at_call 205;refine HC.out.mono ?_;rintro e w1 ⟨hf1,hp1,-⟩;obtain⟨A,rfl,hpt⟩:=hp1 dU.out;clear hp1;have bg:=ah hf1;clear hf1;have qR:=ah hpt;clear hpt)
 have hix:∀(k:Nat),k<4→∀W,(Instr.index 268 (.agg #[.slice (A 0).1 (A 0).2.1 (A 0).2.2, .slice (A 1).1 (A 1).2.1 (A 1).2.2, .slice (A 2).1 (A 2).2.1 (A 2).2.2, .slice (A 3).1 (A 3).2.1 (A 3).2.2]) (.int .i64 (k:Int))).run Tryz.prog W= .ok (.slice (A k).1 (A k).2.1 (A k).2.2) W:=fun k hk=>by
  rcases(by omega:k=0∨k=1∨k=2∨k=3)with rfl|rfl|rfl|rfl<;>exact fun _=>by kernel_rfl
 have EM:=ah hix;clear hix
 have hfa:aj ay w1 (w1.alloc (.cells #[.slice (A 0).1 (A 0).2.1 (A 0).2.2, .slice (A 1).1 (A 1).2.1 (A 1).2.2, .slice (A 2).1 (A 2).2.1 (A 2).2.2, .slice (A 3).1 (A 3).2.1 (A 3).2.2] 268)):=aj.alloc _ _ _
 have bD:=ah hfa;clear hfa
 go_loopw [4,13] (fun o i ww=>∃k:Nat,k≤4∧i= .int .i64 k∧o= .bool (uf ct k)∧aj ay w1 ww) (fun _ i _=>4-(intOf i).toNat)
 case atStart=>exact⟨0,Nat.zero_le _,rfl,rfl,bD.out⟩
 case round=>
  obtain⟨k,hk,rfl,rfl,hw⟩:=hrel
  have HW:=ah hw;clear hw
  by_cases hlt:k<4
  ·have hki:(k:Int)<4:=by omega
   have hx:=EM.out k hlt
   have ho:=qR.out.own k hlt
   have HS:=ah (abZ ct k)
   obtain⟨ak,lk,ck,hak⟩:∃ak lk ck,A k=(ak,lk,ck):=⟨_,_,_,rfl⟩
   rw[hak]at hx ho
   have hro:Rd wr (.slice ak lk ck) (bQ ct k).length (fH (bQ ct k)):=ho.rd.aJ HW.out
   generalize bQ ct k=l at*
   obtain⟨a',c',e⟩:=hro.sl
   injection e with e1 e2 e3
   subst e1 e2 e3
   clear ho hak
   cases hq:uf ct k with
   |false=>
    rw[hq]at HS
    clear hro
    generalize l.length=ln at*
    go_wp2
    go_roundw
    case rel=>exact⟨k+1,by omega,by go_num,by rw[HS.out];rfl,HW.out⟩
    case measure=>simp[intOf];omega
   |true=>
    rw[hq]at HS
    rcases l with _|⟨r,_|⟨r2,l'⟩⟩
    ·simp only[List.length_nil]at hx
     clear hro
     go_wp2
     go_roundw
     case rel=>exact⟨k+1,by omega,by go_num,by rw[HS.out];rfl,HW.out⟩
     case measure=>simp[intOf];omega
    ·replace hx:∀W,_=Result.ok (Value.slice _ 1 _) W:=hx
     rcases Rd.shape hro with⟨ad,he,h0⟩|⟨g,off,cc,he,hmax⟩
     ·cases h0
     injection he with e4 e5 e6
     subst e4
     have c0:=(qj (l:=[r]) (n:=1) (c:=ck) (show lK wr (.slice (some ⟨g,off,none⟩) 1 ck) [r]from hro) rfl 0 (Nat.succ_pos _)).1
     rw[Nat.zero_mul,Nat.add_zero]at c0
     replace c0:wr.cell? ⟨g,off,none⟩=some (.int .i64 r.1):=c0
     have HS2:=ah (show uf ct (k+1)=(true&&(r.1==1))from HS.out)
     generalize r.1=x at*
     clear hro hmax HS e5 e6
     by_cases hx1:x=1
     ·subst hx1
      go_wp2
      go_roundw
      case rel=>exact⟨k+1,by omega,by go_num,by rw[HS2.out];rfl,HW.out⟩
      case measure=>simp[intOf];omega
     ·have hxb:((x:Int)==1)=false:=beq_false_of_ne hx1
      rw[hxb]at HS2
      clear hx1
      go_wp2
      go_roundw
      case rel=>exact⟨k+1,by omega,by go_num,by rw[HS2.out];rfl,HW.out⟩
      case measure=>simp[intOf];omega
    ·have hl0:(((r::r2::l').length:Int)==0)=false:=beq_false_of_ne (by simp;omega)
     have hl1:(((r::r2::l').length:Int)==1)=false:=beq_false_of_ne (by simp;omega)
     have HS2:=ah (show uf ct (k+1)=(true&&false)from HS.out)
     clear hro HS
     generalize (r::r2::l').length=ln at*
     go_wp2
     go_roundw
     case rel=>exact⟨k+1,by omega,by go_num,by rw[HS2.out];rfl,HW.out⟩
     case measure=>simp[intOf];omega
  ·obtain rfl:k=4:=by omega
   go_wp2
   go_ret
   exact⟨rfl,bg.out.aC HW.out⟩
end Go.Proofs.YtabkpccdnkjoiaaGreat
