/- Words for the law MsgDecodes: MsgC, Trod, TreeOpen, CauOpen, Awake0, Make, Awake, BunSm, BunOpen, Op3, Op4, Op5, OpS, Thing, Few16, OpEnc, PackVec, PackOp, Put1, PutOp, PutVec. -/
import Derived.Test.YtabkpccdnkjoiaaGreatMsgDecodesG0
import Derived.Test.YtabkpccdnkjoiaaGreatMsgDecodesG1
import Derived.Test.YtabkpccdnkjoiaaGreatMsgDecodesG2
import Derived.Test.YtabkpccdnkjoiaaGreatMsgDecodesG7
import Derived.Test.YtabkpccdnkjoiaaGreatMsgDecodesG8
import Derived.Test.YtabkpccdnkjoiaaGreatMsgDecodesG9
import Derived.Test.YtabkpccdnkjoiaaGreatMsgDecodesG10
import Derived.Test.YtabkpccdnkjoiaaGreatMsgDecodesG11
import Derived.Test.YtabkpccdnkjoiaaGreatMsgDecodesG14
import Derived.Test.YtabkpccdnkjoiaaGreatMsgDecodesG15
import Derived.Test.YtabkpccdnkjoiaaGreatMsgDecodesG16
import Derived.Test.YtabkpccdnkjoiaaGreatMsgDecodesG17
import Derived.Test.YtabkpccdnkjoiaaGreatMsgDecodesG18
import Derived.Test.YtabkpccdnkjoiaaGreatMsgDecodesG19
import Derived.Test.YtabkpccdnkjoiaaGreatMsgDecodesG21
import Derived.Test.YtabkpccdnkjoiaaGreatMsgDecodesG22
import Derived.Test.YtabkpccdnkjoiaaGreatMsgDecodesG24
import Derived.Test.YtabkpccdnkjoiaaGreatMsgDecodesG25
import Derived.Test.YtabkpccdnkjoiaaGreatMsgDecodesG26
import Derived.Test.YtabkpccdnkjoiaaGreatMsgDecodesG27
import Derived.Deep.Strs
import Derived.ChangeArms
import Derived.ProofKit
import Derived.OpenShut
import Derived.ChangeSame
import Derived.SizedLaws
import Derived.Laws.IdiomArrays
set_option linter.unusedSimpArgs false
set_option linter.unusedVariables false
set_option maxHeartbeats 32000000
set_option maxRecDepth 1000000
namespace Go.Proofs.YtabkpccdnkjoiaaGreat
open Go.RowKit
theorem ac8 (Q:Nat→Prop) (bs:List aZ) (es:List aQ) (ks:aS) (c:aX) (w:World) (kind fr tt v0 v1 v2 v3:Int) (lv ev kv cv:Value) (hb:zq Q w lv bs) (Es:∀p∈bs,jd p.b.es p.b.ks p.b.c) (hbl:bs.length≤100000) (h:gK Q w ev kv cv es ks c) (hok:jd es ks c):
 Calls Tryz.prog 62 #[.agg #[.int .i64 kind, .int .i64 fr, .int .i64 tt, .int .i64 v0, .int .i64 v1, .int .i64 v2, .int .i64 v3,lv,ev,kv,cv]] w fun e w'=>e= .returned (.bool (tf (DI kind fr tt v0 v1 v2 v3 bs es ks c)))∧aj ay w w':=by
 have DK:=ah (fun W (f:aj ay w W)=>abR Q bs W lv (hb.aJ f) Es hbl)
 have HST:=ah (fun W (f:aj ay w W)=>ab3 Q es ks c W kind fr tt v0 v1 v2 v3 lv ev kv cv (hb.rd.sl.elim fun a h=>h.elim fun n h=>⟨a,_,n,h⟩) (h.aJ f) hok)
 have fP:=ah (fun W=>xO W v0 v1 v2 v3)
 unfold uF at fP
 have bH:=ah (fun W=>UN fr W)
 have HC2:=ah (fun W=>UN tt W)
 obtain⟨a0,c0,a1,c1,a2,c2,rfl,rfl,rfl⟩:=h.shape
 obtain⟨al,cl,rfl⟩:=hb.rd.sl
 clear h hok hb Es
 have bF:=ah (fun W f=>yc w (.int .i64 kind) (.int .i64 fr) (.int .i64 tt) (.int .i64 v0) (.int .i64 v1) (.int .i64 v2) (.int .i64 v3) (.slice al bs.length cl) (.slice a0 es.length c0) (.slice a1 ks.len c1) (.slice a2 c.length c2) 36 W f)
 have oQ:=ah (show DI kind fr tt v0 v1 v2 v3 bs es ks c↔g_ (bP v0 v1 v2 v3)∧(0≤fr∧fr<4)∧(0≤tt∧tt<4)∧fr≠tt∧((kind=1∧(c.length=0∧es.length=0∧ks.len=0)∧1≤bs.length∧bs.length≤16∧bs.any pW=false)∨(kind=2∧bs.length=0∧su v0 v1 v2 v3 es ks c)∨((kind=3∨kind=4)∧(c.length=0∧es.length=0∧ks.len=0)∧bs.length=0))from Iff.rfl)
 generalize DI kind fr tt v0 v1 v2 v3 bs es ks c=P at*
 generalize hSP:su v0 v1 v2 v3 es ks c=SP at*
 clear hSP
 generalize bs.any pW=hv at*
 generalize bs.length=ln at*
 generalize es.length=n at*
 generalize ks.len=m at*
 generalize c.length=k at*
 generalize bP v0 v1 v2 v3=f at*
 have bD:=ah (show aj ay w (w.alloc (.cells #[.int .i64 kind, .int .i64 fr, .int .i64 tt, .int .i64 v0, .int .i64 v1, .int .i64 v2, .int .i64 v3, .slice al ln cl, .slice a0 n c0, .slice a1 m c1, .slice a2 k c2] 36))from aj.alloc _ _ _)
 by_cases hm:g_ f
 rotate_left 1
 ·rw[bf (show ¬P from fun h=>hm (oQ.out.1 h).1)]
  have HM:=ah hm
  clear hm oQ
  go_enter Tryz.func62,Tryz.ntmps62
  go_wp2_with(first
   |(go_at_call 124;refine(fP.out _).mono ?_;rintro e w1 ⟨hw1,-,hy⟩;have he:=hy HM.out;subst he;clear hy;have HW1:=ah (bD.out.aC hw1);clear hw1))
  go_ret
  exact⟨rfl,HW1.out⟩
 have VQ:∀W,Calls Tryz.prog 124 #[.agg #[.int .i64 v0, .int .i64 v1, .int .i64 v2, .int .i64 v3]] W fun e w1=>aj ay W w1∧∃av nv cv,e= .returned (.tuple #[.slice av nv cv, .int .i64 0]):=fun W=>(fP.out W).mono fun e w1 q=>by
  obtain⟨hw1,hy,-⟩:=q
  obtain⟨v',he,ho,-⟩:=hy hm
  obtain⟨av,cv,rfl⟩:=ho.shape
  exact⟨hw1,av,_,cv,he⟩
 have HM:=ah hm;clear hm fP
 have fP:=ah VQ;clear VQ
 by_cases h1:0≤fr∧fr<4
 rotate_left 1
 ·rw[bf (show ¬P from fun h=>h1 (oQ.out.1 h).2.1)]
  rw[decide_eq_false h1]at bH
  clear h1 oQ
  go_enter Tryz.func62,Tryz.ntmps62
  go_wp2_with(first
   |(go_at_call 124;refine(fP.out _).mono ?_;rintro e w1 ⟨hw1,av,nv,cv,he⟩;subst he;obtain⟨y0,y1,y2,y3,y4,y5,y6,y7,y8,y9,aY⟩:=bF.out w1 hw1;have HW1:=ah (bD.out.aC hw1);clear hw1)
   |(go_at_call 127;(first|refine(bH.out _).mono ?_|refine(HC2.out _).mono ?_);rintro e w9 ⟨rfl,rfl⟩))
  go_ret
  exact⟨rfl,HW1.out⟩
 rw[decide_eq_true h1]at bH
 by_cases h2:0≤tt∧tt<4
 rotate_left 1
 ·rw[bf (show ¬P from fun h=>h2 (oQ.out.1 h).2.2.1)]
  rw[decide_eq_false h2]at HC2
  clear h1 h2 oQ
  go_enter Tryz.func62,Tryz.ntmps62
  go_wp2_with(first
   |(go_at_call 124;refine(fP.out _).mono ?_;rintro e w1 ⟨hw1,av,nv,cv,he⟩;subst he;obtain⟨y0,y1,y2,y3,y4,y5,y6,y7,y8,y9,aY⟩:=bF.out w1 hw1;have HW1:=ah (bD.out.aC hw1);clear hw1)
   |(go_at_call 127;(first|refine(bH.out _).mono ?_|refine(HC2.out _).mono ?_);rintro e w9 ⟨rfl,rfl⟩))
  go_ret
  exact⟨rfl,HW1.out⟩
 rw[decide_eq_true h2]at HC2
 by_cases h3:fr=tt
 ·rw[bf (show ¬P from fun h=>(oQ.out.1 h).2.2.2.1 h3)]
  have h3':((fr:Int)==tt)=true:=by rw[h3];exact beq_self_eq_true _
  clear h1 h2 h3 oQ
  go_enter Tryz.func62,Tryz.ntmps62
  go_wp2_with(first
   |(go_at_call 124;refine(fP.out _).mono ?_;rintro e w1 ⟨hw1,av,nv,cv,he⟩;subst he;obtain⟨y0,y1,y2,y3,y4,y5,y6,y7,y8,y9,aY⟩:=bF.out w1 hw1;have HW1:=ah (bD.out.aC hw1);clear hw1)
   |(go_at_call 127;(first|refine(bH.out _).mono ?_|refine(HC2.out _).mono ?_);rintro e w9 ⟨rfl,rfl⟩))
  go_ret
  exact⟨rfl,HW1.out⟩
 have X:FK P SP hv ln n m k kind fr tt v0 v1 v2 v3 al a0 a1 a2 cl c0 c1 c2 w:=⟨DK.out,HST.out,fP.out,bH.out,HC2.out,bF.out,h3,⟨fun h=>(oQ.out.1 h).2.2.2.2,fun h=>oQ.out.2 ⟨HM.out,h1,h2,h3,h⟩⟩⟩
 by_cases hk:k=0
 rotate_left 1
 ·exact ac3 X hk
 by_cases hn:n=0
 rotate_left 1
 ·exact ac4 X hk hn
 by_cases hm:m=0
 rotate_left 1
 ·exact ac5 X hk hn hm
 exact ac6 X hk hn hm
open Go.RowKit
theorem ac9 {α:Type} [Inhabited α] {n:Nat} {p:Nat→α→Prop} (h:∀i,i<n→∃x,p i x):∃l:List α,l.length=n∧∀i,i<n→∀d,p i (l.getD i d):=by
 obtain⟨f,hf⟩:=Go.Deep.choose_lt h
 refine⟨(List.range n).map f,by simp,fun i hi d=>?_⟩
 have:((List.range n).map f).getD i d=f i:=by simp[List.getD,hi]
 rw[this]
 exact hf i hi
section
variable {H:Type} {enc:TypeId×Value→H} {P:Program} {w:World} {base:Nat} {sp:Nat→Bool} {held:Bool}
theorem open_arr {t e sz:Nat} {a0:Option Addr} {len cap:Nat} {d:DataW H×List MemPlace} {fuel:Nat} (ht:P.underlying t=some (.slice e)) (hsz:P.cellsOf e=sz) (hpos:0<sz) (hsp:∀b,sp b=true)
 (h:DataW.trod enc P w base sp held fuel t [.slice a0 len cap]=some d):
 (len=0∧cap=0)∨∃b off,a0=some ⟨b,off,none⟩∧len≤cap∧cap≤maxLen∧
   ∃n,∀k,k<len→∃cs:List Value,cs.length=sz∧(∀j u,cs[j]?=some u→w.cell? ⟨b,off+k*sz+j,none⟩=some u)∧∃y,DataW.trod enc P w base sp held n e cs=some y:=by
 rcases Go.Deep.open_slice ht h with⟨hcs,_⟩|⟨a,len',cap',m,n,D,Pl,hcs,_,hl,hm,hmm,_,hel⟩
 ·left
  simp only[List.cons.injEq,Value.slice.injEq,and_true]at hcs
  exact⟨hcs.2.1,hcs.2.2⟩
 ·simp only[List.cons.injEq,Value.slice.injEq,and_true]at hcs
  obtain⟨rfl,rfl,rfl⟩:=hcs
  rw[hsp]at hmm
  simp only[if_true]at hmm
  subst hmm
  subst hsz
  rcases Nat.eq_zero_or_pos m with h0|h0
  ·left;omega
  ·right
   obtain⟨b,off,spot⟩:=a
   have hspot:spot=none:=by
    obtain⟨cs',hc,_⟩:=hel 0 h0
    obtain⟨_,hlen,hcells⟩:=World.cells?_some hc
    have h00:cs'[0]?=some (cs'[0]'(by omega)):=List.getElem?_eq_getElem _
    have:=hcells 0 (by omega)
    rw[h00]at this
    have hs:=World.cell?_spot this
    simpa[Addr.add]using hs
   subst hspot
   refine⟨b,off,rfl,hl,hm,n,fun k hk=>?_⟩
   obtain⟨cs',hc,ht'⟩:=hel k (by omega)
   obtain⟨_,hlen,hcells⟩:=World.cells?_some hc
   refine⟨cs',hlen,fun j u hu=>?_,_,ht'⟩
   have hj:j<P.cellsOf e:=by rw[←hlen];exact(List.getElem?_eq_some_iff.1 hu).1
   have:=hcells j hj
   rw[addr_add,addr_add]at this
   rw[this,hu]
end
end Go.Proofs.YtabkpccdnkjoiaaGreat
namespace Go.Proofs.YtabkpccdnkjoiaaGreat
open Go.RowKit Go.WideShapes
section
variable {H:Type} {enc:TypeId×Value→H} {w:World}
instance:Inhabited aQ:=⟨aQ.zero⟩
instance:Inhabited aS:=⟨.nil⟩
end
end Go.Proofs.YtabkpccdnkjoiaaGreat
namespace Go.Proofs.YtabkpccdnkjoiaaGreat
open Go.RowKit Go.WideShapes Go.ChangeShapes
open Go.RowKit
open Go.RowKit
open Go.RowKit
open Go.RowKit
end Go.Proofs.YtabkpccdnkjoiaaGreat
namespace Go.Proofs.YtabkpccdnkjoiaaGreat
open Go.RowKit Go.WideShapes Go.ChangeShapes
open Go.RowKit
open Go.RowKit
open Go.RowKit
open Go.RowKit
end Go.Proofs.YtabkpccdnkjoiaaGreat
namespace Go.Proofs.YtabkpccdnkjoiaaGreat
open Go.RowKit Go.WideShapes Go.ChangeShapes
structure Th where
 kind:Int
 cv:Value
 ev:Value
 kv:Value
 xv:Value
 pv:Value
 a:Int
 s:ByteArray
 n:Int
 v0:Int
 v1:Int
 v2:Int
 v3:Int
 c:aX
 es:List aQ
 ks:aS
 xc:aX
 ss:List ByteArray
def Th.zero:Th:=⟨0, .slice none 0 0, .slice none 0 0, .slice none 0 0, .slice none 0 0, .slice none 0 0,0,ByteArray.empty,0,0,0,0,0,[],[], .nil,[],[]⟩
instance:Inhabited Th:=⟨Th.zero⟩
open Go.RowKit
open Go.RowKit
open Go.RowKit
theorem zI (w:World) (b:Nat) (u0 u1 u2 u3:Value):aj (Only b) w ((((w.setCell ⟨b,0,none⟩ u0).setCell ⟨b,1,none⟩ u1).setCell ⟨b,2,none⟩ u2).setCell ⟨b,3,none⟩ u3):=((fV w b u0 u1).trans (dG _ b 2 u2) fun _ _ h=>h).trans (dG _ b 3 u3) fun _ _ h=>h
theorem JO {w:World} {b:Nat} {a0 a1 a2 a3:Value} {T:TypeId} (h:w.heap[b]?=some (.cells #[a0,a1,a2,a3] T (0,0))) (u0 u1 u2 u3:Value) (W:World) (hW:W=(((w.setCell ⟨b,0,none⟩ u0).setCell ⟨b,1,none⟩ u1).setCell ⟨b,2,none⟩ u2).setCell ⟨b,3,none⟩ u3):
 W.cell? ⟨b,0,none⟩=some u0∧W.cell? ⟨b,1,none⟩=some u1∧W.cell? ⟨b,2,none⟩=some u2∧W.cell? ⟨b,3,none⟩=some u3:=by
 subst hW
 have g:=bC (bC (bC (bC h 0 u0) 1 u1) 2 u2) 3 u3
 exact⟨au g 0 rfl,au g 1 rfl,au g 2 rfl,au g 3 rfl⟩
structure GV (w W:World) (ib:Nat) (t:Option (List UInt8)) (cs:Array Value):Prop where
 ins:dJ W ib t
 arr:W.heap[w.heap.size+1]?=some (.cells cs 25 (0,0))
 res:W.heap[w.heap.size]?=some (.cells #[.int .i64 0, .int .i64 0, .int .i64 0, .int .i64 0] 25 (0,0))
 aH:aj (Only ib) w W
 hib:ib<w.heap.size
theorem GV.call {w W W1:World} {ib:Nat} {t t':Option (List UInt8)} {cs:Array Value} (h:GV w W ib t cs) (hi:dJ W1 ib t') (f:aj (Only ib) W W1):GV w W1 ib t' cs:=
 ⟨hi,f.blk h.arr fun e=>(by have e:w.heap.size+1=ib:=e;have:=h.hib;omega),f.blk h.res fun e=>(by have e:w.heap.size=ib:=e;have:=h.hib;omega),h.aH.trans f fun _ _ s=>s,h.hib⟩
theorem GV.set {w W:World} {ib:Nat} {t:Option (List UInt8)} {cs:Array Value} (h:GV w W ib t cs) (j:Nat) (u:Value):GV w (W.setCell ⟨w.heap.size+1,j,none⟩ u) ib t (cs.setIfInBounds j u):=
 have f:=dG W (w.heap.size+1) j u
 ⟨h.ins.keep f fun k hk e=>(by have e:k=w.heap.size+1:=e;have:=h.hib;omega),bC h.arr j u,f.blk h.res fun e=>(by have e:w.heap.size=w.heap.size+1:=e;omega),h.aH.trans f fun i hi e=>(by have e:i=w.heap.size+1:=e;omega),h.hib⟩
def VR (v0 v1 v2 v3:Int) (s:Option (List UInt8)) (ib:Nat) (w:World) (e:Ending) (w':World):Prop:=
 e= .returned (.agg #[.int .i64 v0, .int .i64 v1, .int .i64 v2, .int .i64 v3])∧dJ w' ib s∧aj (Only ib) w w'
theorem GV.out {w W:World} {ib:Nat} {s:Option (List UInt8)} {cs:Array Value} (h:GV w W ib s cs) (v0 v1 v2 v3:Int) (W':World) (f:aj (Only w.heap.size) W W'):VR v0 v1 v2 v3 s ib w (.returned (.agg #[.int .i64 v0, .int .i64 v1, .int .i64 v2, .int .i64 v3])) W':=
 ⟨rfl,h.ins.keep f fun k hk e=>(by have e:k=w.heap.size:=e;have:=h.hib;omega),h.aH.trans f fun i hi e=>(by have e:i=w.heap.size:=e;omega)⟩
theorem VT (ib:Nat) (st s:Option (List UInt8)) (u0 u1 u2 u3:Int) (w:World) (hc:kD st u0 u1 u2 u3 s) (h:dJ w ib st):
 Calls Tryz.prog 57 #[.pointer (some ⟨ib,0,none⟩)] w (VR u0 u1 u2 u3 s ib w):=by
 obtain⟨v0,v1,v2,v3,t1,t2,t3,t4,g0,g1,g2,g3⟩:=V4.total 1099511627776 st
 have BK:=ah (show V4 1099511627776 st v0 v1 v2 v3 t4 from⟨t1,t2,t3,g0,g1,g2,g3⟩)
 have HC:=ah hc;clear hc
 have rF:=ah g0
 have fZ:=ah g1
 have HG2:=ah g2
 have gW:=ah g3
 have fP:=ah (fun W=>xO W v0 v1 v2 v3)
 unfold uF at fP
 clear g0 g1 g2 g3
 have hb1:=heap_alloc_new (w.alloc (.cells #[.int .i64 0, .int .i64 0, .int .i64 0, .int .i64 0] 25)) (.cells #[.int .i64 0, .int .i64 0, .int .i64 0, .int .i64 0] 25)
 rw[show(w.alloc (.cells #[.int .i64 0, .int .i64 0, .int .i64 0, .int .i64 0] 25)).heap.size=w.heap.size+1 by simp]at hb1
 have HST:=ah (show GV w ((w.alloc (.cells #[.int .i64 0, .int .i64 0, .int .i64 0, .int .i64 0] 25)).alloc (.cells #[.int .i64 0, .int .i64 0, .int .i64 0, .int .i64 0] 25)) ib st #[.int .i64 0, .int .i64 0, .int .i64 0, .int .i64 0]from
  ⟨(h.keep (aj.alloc ay _ _) fun _ _=>id).keep (aj.alloc ay _ _) fun _ _=>id,hb1,(aj.alloc ay _ _).blk (heap_alloc_new w _) id,((aj.alloc ay w _).alloc1).mono fun _ _ s=>s.elim,h.lt⟩)
 clear h hb1
 go_enter Tryz.func57,Tryz.ntmps57
 go_wp2
 go_loopw [7] (fun j W=>∃(J:Nat) (x0 x1 x2 x3:Int) (t:Option (List UInt8)),((J=0∧x0=0∧x1=0∧x2=0∧x3=0∧t=st)∨(J=1∧x0=v0∧x1=0∧x2=0∧x3=0∧t=t1)∨(J=2∧x0=v0∧x1=v1∧x2=0∧x3=0∧t=t2)∨(J=3∧x0=v0∧x1=v1∧x2=v2∧x3=0∧t=t3)∨(J=4∧x0=v0∧x1=v1∧x2=v2∧x3=v3∧t=t4))∧j= .int .i64 J∧GV w W ib t #[.int .i64 x0, .int .i64 x1, .int .i64 x2, .int .i64 x3]) (fun j _=>4-(intOf j).toNat)
 case atStart=>exact⟨0,0,0,0,0,st, .inl ⟨rfl,rfl,rfl,rfl,rfl,rfl⟩,rfl,HST.out⟩
 case round=>
  obtain⟨J,x0,x1,x2,x3,t,hcase,rfl,hs⟩:=hrel
  rcases hcase with⟨rfl,rfl,rfl,rfl,rfl,rfl⟩|⟨rfl,rfl,rfl,rfl,rfl,rfl⟩|⟨rfl,rfl,rfl,rfl,rfl,rfl⟩|⟨rfl,rfl,rfl,rfl,rfl,rfl⟩|⟨rfl,rfl,rfl,rfl,rfl,rfl⟩
  ·have bH:=ah (lG ib _ 1099511627776 _ _ wr hs.ins rF.out (by omega) (by omega))
   have HS:=ah hs;clear hs
   go_wp2_with(go_at_call 56;refine bH.out.mono ?_;rintro e W1 ⟨rfl,hi5,hf5⟩;have z8:=aG (HS.out.call hi5 hf5).arr 0;have z9:=au (HS.out.call hi5 hf5).arr 0 rfl;have z7:=lt_of_block (HS.out.call hi5 hf5).arr;have HN:=ah (fun u=>(HS.out.call hi5 hf5).set 0 u);clear hi5 hf5)
   go_roundw
   case rel=>exact⟨1,_,_,_,_,_, .inr (.inl ⟨rfl,rfl,rfl,rfl,rfl,rfl⟩),by go_num,HN.out _⟩
   case measure=>simp[intOf]
  ·have bH:=ah (lG ib _ 1099511627776 _ _ wr hs.ins fZ.out (by omega) (by omega))
   have HS:=ah hs;clear hs
   go_wp2_with(go_at_call 56;refine bH.out.mono ?_;rintro e W1 ⟨rfl,hi5,hf5⟩;have z8:=aG (HS.out.call hi5 hf5).arr 1;have z9:=au (HS.out.call hi5 hf5).arr 1 rfl;have z7:=lt_of_block (HS.out.call hi5 hf5).arr;have HN:=ah (fun u=>(HS.out.call hi5 hf5).set 1 u);clear hi5 hf5)
   go_roundw
   case rel=>exact⟨2,_,_,_,_,_, .inr (.inr (.inl ⟨rfl,rfl,rfl,rfl,rfl,rfl⟩)),by go_num,HN.out _⟩
   case measure=>simp[intOf]
  ·have bH:=ah (lG ib _ 1099511627776 _ _ wr hs.ins HG2.out (by omega) (by omega))
   have HS:=ah hs;clear hs
   go_wp2_with(go_at_call 56;refine bH.out.mono ?_;rintro e W1 ⟨rfl,hi5,hf5⟩;have z8:=aG (HS.out.call hi5 hf5).arr 2;have z9:=au (HS.out.call hi5 hf5).arr 2 rfl;have z7:=lt_of_block (HS.out.call hi5 hf5).arr;have HN:=ah (fun u=>(HS.out.call hi5 hf5).set 2 u);clear hi5 hf5)
   go_roundw
   case rel=>exact⟨3,_,_,_,_,_, .inr (.inr (.inr (.inl ⟨rfl,rfl,rfl,rfl,rfl,rfl⟩))),by go_num,HN.out _⟩
   case measure=>simp[intOf]
  ·have bH:=ah (lG ib _ 1099511627776 _ _ wr hs.ins gW.out (by omega) (by omega))
   have HS:=ah hs;clear hs
   go_wp2_with(go_at_call 56;refine bH.out.mono ?_;rintro e W1 ⟨rfl,hi5,hf5⟩;have z8:=aG (HS.out.call hi5 hf5).arr 3;have z9:=au (HS.out.call hi5 hf5).arr 3 rfl;have z7:=lt_of_block (HS.out.call hi5 hf5).arr;have HN:=ah (fun u=>(HS.out.call hi5 hf5).set 3 u);clear hi5 hf5)
   go_roundw
   case rel=>exact⟨4,_,_,_,_,_, .inr (.inr (.inr (.inr (⟨rfl,rfl,rfl,rfl,rfl,rfl⟩)))),by go_num,HN.out _⟩
   case measure=>simp[intOf]
  ·have HS:=ah hs;clear hs
   have z0:wr.cell? ⟨w.heap.size+1,0,none⟩=some (.int .i64 x0):=au HS.out.arr 0 rfl
   have z1:wr.cell? ⟨w.heap.size+1,1,none⟩=some (.int .i64 x1):=au HS.out.arr 1 rfl
   have z2:wr.cell? ⟨w.heap.size+1,2,none⟩=some (.int .i64 x2):=au HS.out.arr 2 rfl
   have z3:wr.cell? ⟨w.heap.size+1,3,none⟩=some (.int .i64 x3):=au HS.out.arr 3 rfl
   have zl:=lt_of_block HS.out.arr
   cases t with
   |none=>
    obtain⟨⟨rfl,rfl,rfl,rfl⟩,rfl⟩:=HC.out.b_ (Jq (by decide) (by decide) BK.out (.inl rfl))
    by_cases hmay:g_ (bP x0 x1 x2 x3)
    ·have oU:=ah hmay;clear hmay
     go_wp2_with(first
      |(go_at_call 124;refine(fP.out _).mono ?_;rintro e w2 ⟨hf2,FZ,-⟩;obtain⟨v',he,hown,-⟩:=FZ oU.out;subst he;obtain⟨aF,cF,rfl⟩:=hown.rd.sl;clear hown FZ
        have HS2:=ah (HS.out.call (HS.out.ins.keep hf2 fun _ _=>id) (hf2.mono fun _ _ s=>s.elim))
        clear z0 z1 z2 z3 zl hf2
        generalize (f_ (bP x0 x1 x2 x3)).length=nF at*
        have z0:w2.cell? ⟨w.heap.size+1,0,none⟩=some (.int .i64 x0):=au HS2.out.arr 0 rfl
        have z1:w2.cell? ⟨w.heap.size+1,1,none⟩=some (.int .i64 x1):=au HS2.out.arr 1 rfl
        have z2:w2.cell? ⟨w.heap.size+1,2,none⟩=some (.int .i64 x2):=au HS2.out.arr 2 rfl
        have z3:w2.cell? ⟨w.heap.size+1,3,none⟩=some (.int .i64 x3):=au HS2.out.arr 3 rfl
        have zl:=lt_of_block HS2.out.arr
        have y0:=au HS2.out.res 0 rfl
        have y1:=au HS2.out.res 1 rfl
        have y2:=au HS2.out.res 2 rfl
        have y3:=au HS2.out.res 3 rfl
        have f0:=aG HS2.out.res 0
        have f1:=aG HS2.out.res 1
        have f2:=aG HS2.out.res 2
        have f3:=aG HS2.out.res 3
        have hl2:=lt_of_block HS2.out.res)
      |(go_at_call 58;refine(oN ib _ _ HS2.out.ins).mono ?_;rintro e w3 ⟨rfl,rfl⟩)
      |(go_at_call 123;obtain⟨a,c,hh⟩:=HS2.out.ins.heap;refine(pG ib _ _ _ hh).mono ?_;rintro e w4 ⟨rfl,hi4,hf4⟩
        have cO:=ah (HS2.out.call (show dJ w4 ib none from hi4) hf4)
        clear y0 y1 y2 y3 f0 f1 f2 f3 hl2 z0 z1 z2 z3 zl hi4 hf4 hh
        have y0:=au cO.out.res 0 rfl
        have y1:=au cO.out.res 1 rfl
        have y2:=au cO.out.res 2 rfl
        have y3:=au cO.out.res 3 rfl
        have f0:=aG cO.out.res 0
        have f1:=aG cO.out.res 1
        have f2:=aG cO.out.res 2
        have f3:=aG cO.out.res 3
        have hl2:=lt_of_block cO.out.res))
     clear y0 y1 y2 y3 f0 f1 f2 f3 hl2
     obtain⟨y0,y1,y2,y3⟩:=JO cO.out.res (.int .i64 0) (.int .i64 0) (.int .i64 0) (.int .i64 0) _ rfl
     exact bodyPost_ret (v:= .agg #[.int .i64 0, .int .i64 0, .int .i64 0, .int .i64 0]) (by simp[results,Tryz.results57,go_sem,y0,y1,y2,y3]) rfl (cO.out.out 0 0 0 0 _ (zI w4 _ _ _ _ _))
    ·have oU:=ah hmay;clear hmay
     go_wp2_with(first
      |(go_at_call 124;refine(fP.out _).mono ?_;rintro e w2 ⟨hf2,-,hfn⟩;have he:=hfn oU.out;subst he;clear hfn
        have HS2:=ah (HS.out.call (HS.out.ins.keep hf2 fun _ _=>id) (hf2.mono fun _ _ s=>s.elim))
        clear z0 z1 z2 z3 zl hf2)
      |(go_at_call 58;refine(oN ib _ _ HS2.out.ins).mono ?_;rintro e w3 ⟨rfl,rfl⟩)
      |(go_at_call 123;obtain⟨a,c,hh⟩:=HS2.out.ins.heap;refine(pG ib _ _ _ hh).mono ?_;rintro e w4 ⟨rfl,hi4,hf4⟩
        have cO:=ah (HS2.out.call (show dJ w4 ib none from hi4) hf4)
        clear hi4 hf4 hh
        have y0:=au cO.out.res 0 rfl
        have y1:=au cO.out.res 1 rfl
        have y2:=au cO.out.res 2 rfl
        have y3:=au cO.out.res 3 rfl
        have f0:=aG cO.out.res 0
        have f1:=aG cO.out.res 1
        have f2:=aG cO.out.res 2
        have f3:=aG cO.out.res 3
        have hl2:=lt_of_block cO.out.res))
     clear y0 y1 y2 y3 f0 f1 f2 f3 hl2
     obtain⟨y0,y1,y2,y3⟩:=JO cO.out.res (.int .i64 0) (.int .i64 0) (.int .i64 0) (.int .i64 0) _ rfl
     exact bodyPost_ret (v:= .agg #[.int .i64 0, .int .i64 0, .int .i64 0, .int .i64 0]) (by simp[results,Tryz.results57,go_sem,y0,y1,y2,y3]) rfl (cO.out.out 0 0 0 0 _ (zI w4 _ _ _ _ _))
   |some r=>
    by_cases hmay:g_ (bP x0 x1 x2 x3)
    ·obtain⟨⟨rfl,rfl,rfl,rfl⟩,rfl⟩:=HC.out.b_ (TY BK.out hmay)
     have oU:=ah hmay;clear hmay
     go_wp2_with(first
      |(go_at_call 124;refine(fP.out _).mono ?_;rintro e w2 ⟨hf2,FZ,-⟩;obtain⟨v',he,hown,-⟩:=FZ oU.out;subst he;obtain⟨aF,cF,rfl⟩:=hown.rd.sl;clear hown FZ
        have HS2:=ah (HS.out.call (HS.out.ins.keep hf2 fun _ _=>id) (hf2.mono fun _ _ s=>s.elim))
        clear z0 z1 z2 z3 zl hf2
        generalize (f_ (bP u0 u1 u2 u3)).length=nF at*
        have z0:w2.cell? ⟨w.heap.size+1,0,none⟩=some (.int .i64 u0):=au HS2.out.arr 0 rfl
        have z1:w2.cell? ⟨w.heap.size+1,1,none⟩=some (.int .i64 u1):=au HS2.out.arr 1 rfl
        have z2:w2.cell? ⟨w.heap.size+1,2,none⟩=some (.int .i64 u2):=au HS2.out.arr 2 rfl
        have z3:w2.cell? ⟨w.heap.size+1,3,none⟩=some (.int .i64 u3):=au HS2.out.arr 3 rfl
        have zl:=lt_of_block HS2.out.arr
        have y0:=au HS2.out.res 0 rfl
        have y1:=au HS2.out.res 1 rfl
        have y2:=au HS2.out.res 2 rfl
        have y3:=au HS2.out.res 3 rfl
        have f0:=aG HS2.out.res 0
        have f1:=aG HS2.out.res 1
        have f2:=aG HS2.out.res 2
        have f3:=aG HS2.out.res 3
        have hl2:=lt_of_block HS2.out.res)
      |(go_at_call 58;refine(oN ib _ _ HS2.out.ins).mono ?_;rintro e w3 ⟨rfl,rfl⟩))
     clear y0 y1 y2 y3 f0 f1 f2 f3 hl2 z0 z1 z2 z3 zl
     obtain⟨y0,y1,y2,y3⟩:=JO HS2.out.res (.int .i64 u0) (.int .i64 u1) (.int .i64 u2) (.int .i64 u3) _ rfl
     exact bodyPost_ret (v:= .agg #[.int .i64 u0, .int .i64 u1, .int .i64 u2, .int .i64 u3]) (by simp[results,Tryz.results57,go_sem,y0,y1,y2,y3]) rfl (HS2.out.out u0 u1 u2 u3 _ (zI w2 _ _ _ _ _))
    ·obtain⟨⟨rfl,rfl,rfl,rfl⟩,rfl⟩:=HC.out.b_ (Jq (by decide) (by decide) BK.out (.inr hmay))
     have oU:=ah hmay;clear hmay
     go_wp2_with(first
      |(go_at_call 124;refine(fP.out _).mono ?_;rintro e w2 ⟨hf2,-,hfn⟩;have he:=hfn oU.out;subst he;clear hfn
        have HS2:=ah (HS.out.call (HS.out.ins.keep hf2 fun _ _=>id) (hf2.mono fun _ _ s=>s.elim))
        clear z0 z1 z2 z3 zl hf2)
      |(go_at_call 58;refine(oN ib _ _ HS2.out.ins).mono ?_;rintro e w3 ⟨rfl,rfl⟩)
      |(go_at_call 123;obtain⟨a,c,hh⟩:=HS2.out.ins.heap;refine(pG ib _ _ _ hh).mono ?_;rintro e w4 ⟨rfl,hi4,hf4⟩
        have cO:=ah (HS2.out.call (show dJ w4 ib none from hi4) hf4)
        clear hi4 hf4 hh
        have y0:=au cO.out.res 0 rfl
        have y1:=au cO.out.res 1 rfl
        have y2:=au cO.out.res 2 rfl
        have y3:=au cO.out.res 3 rfl
        have f0:=aG cO.out.res 0
        have f1:=aG cO.out.res 1
        have f2:=aG cO.out.res 2
        have f3:=aG cO.out.res 3
        have hl2:=lt_of_block cO.out.res))
     clear y0 y1 y2 y3 f0 f1 f2 f3 hl2
     obtain⟨y0,y1,y2,y3⟩:=JO cO.out.res (.int .i64 0) (.int .i64 0) (.int .i64 0) (.int .i64 0) _ rfl
     exact bodyPost_ret (v:= .agg #[.int .i64 0, .int .i64 0, .int .i64 0, .int .i64 0]) (by simp[results,Tryz.results57,go_sem,y0,y1,y2,y3]) rfl (cO.out.out 0 0 0 0 _ (zI w4 _ _ _ _ _))
open Go.RowKit
open Go.RowKit
def dY (w:World) (ob:Nat) (v:Value) (bs cs:List UInt8) (ww:World):Prop:=
 ∃v',jv ww ob v' (bs++cs)∧gZ w v v'∧aj (iT ob v) w ww
variable {w ww w':World} {ob:Nat} {v:Value} {bs cs ds:List UInt8}
theorem dY.start (h:jv w ob v bs):dY w ob v bs [] w:=⟨v,by rwa [List.append_nil],gZ.refl _ _,aj.refl _ _⟩
theorem jv.aJ (h:jv w ob v bs) (f:aj ay w w'):jv w' ob v bs:=h.keep f id fun _ _=>id
theorem dY.aJ (h:dY w ob v bs cs ww) (f:aj ay ww w'):dY w ob v bs cs w':=by
 obtain⟨v',h1,h2,h3⟩:=h
 exact⟨v',h1.aJ f,h2,h3.aC f⟩
theorem dY.base (h:dY ww ob v bs cs w') (f:aj ay w ww):dY w ob v bs cs w':=by
 obtain⟨v',h1,h2,h3⟩:=h
 exact⟨v',h1,gZ.trans (gZ.refl w v) f.size h2,(f.mono (T:=iT ob v) fun _ _ h=>h.elim).trans h3 fun _ _ h=>h⟩
theorem dY.cast {cs':List UInt8} (h:dY w ob v bs cs w') (e:cs=cs'):dY w ob v bs cs' w':=e▸h
theorem dY.trans {v':Value} (h2:gZ w v v') (h3:aj (iT ob v) w ww) (k:dY ww ob v' (bs++cs) ds w'):dY w ob v bs (cs++ds) w':=by
 obtain⟨v2,k1,k2,k3⟩:=k
 exact⟨v2,by rw[←List.append_assoc];exact k1,h2.trans h3.size k2,h3.trans k3 (Dj h2)⟩
theorem dY.call {f:FuncId} {args:Array Value} {E:Ending} (h:dY w ob v bs cs ww)
 (k:∀v',jv ww ob v' (bs++cs)→(∀b,b<w.heap.size→iT ob v' b→iT ob v b)→aj (iT ob v) w ww→Calls Tryz.prog f args ww fun e w'=>e=E∧dY ww ob v' (bs++cs) ds w'):
 Calls Tryz.prog f args ww fun e w'=>e=E∧dY w ob v bs (cs++ds) w':=by
 obtain⟨v',h1,h2,h3⟩:=h
 exact(k v' h1 (Dj h2) h3).mono fun e w' ⟨he,hp⟩=>⟨he,dY.trans h2 h3 hp⟩
theorem vM (h:jv w ob v bs):∀b,iT ob v b→b<w.heap.size:=fun b hb=>by
 rcases hb with hb|hb
 ·rw[hb];exact lt_of_block h.cell
 ·exact E_ h.own b hb
theorem dY.cell {VU:World} {p:Addr} {u:Value} (h:dY ww ob v bs cs VU) (hu:ww.cell? p=some u) (hn:¬iT ob v p.block):VU.cell? p=some u:=by
 obtain⟨_,_,_,f⟩:=h
 exact f.cell' hu hn
theorem lg (h:dY w ob v bs cs ww) (x:Int) (hx:lY x) (hl:bs.length+cs.length≤95000000):
 Calls Tryz.prog 70 #[.pointer (some ⟨ob,0,none⟩), .int .i64 x] ww fun e w'=>e= .returned (.tuple #[])∧dY w ob v bs (cs++bG x) w':=
 h.call fun v' ho _ _=>SE ob x ww v' _ ho hx.1 hx.2 (by rw[List.length_append];omega)
theorem VW (h:dY w ob v bs cs ww) (s:ByteArray) (hl:bs.length+cs.length+s.size≤95000000):
 Calls Tryz.prog 228 #[.pointer (some ⟨ob,0,none⟩), .string s] ww fun e w'=>e= .returned (.tuple #[])∧dY w ob v bs (cs++jF s) w':=
 h.call fun v' ho _ _=>aaI ob s ww v' _ ho (by rw[List.length_append];omega)
theorem eH.put {Q:Nat→Prop} {u:Value} {n:Nat} {xs:List Value} (h:eH Q w u n xs) (hq:∀b,iT ob v b→¬Q b) (hp:dY w ob v bs cs ww):Rd ww u n xs:=by
 obtain⟨_,_,_,f⟩:=hp
 exact(h.keep f fun b _ hs=>hq b hs).rd
open Go.RowKit
open Go.RowKit
theorem VX (v0 v1 v2 v3:Int):(∀W,(Instr.index 25 (.agg #[.int .i64 v0, .int .i64 v1, .int .i64 v2, .int .i64 v3]) (.int .i64 0)).run Tryz.prog W= .ok (.int .i64 v0) W)∧(∀W,(Instr.index 25 (.agg #[.int .i64 v0, .int .i64 v1, .int .i64 v2, .int .i64 v3]) (.int .i64 1)).run Tryz.prog W= .ok (.int .i64 v1) W)∧
 (∀W,(Instr.index 25 (.agg #[.int .i64 v0, .int .i64 v1, .int .i64 v2, .int .i64 v3]) (.int .i64 2)).run Tryz.prog W= .ok (.int .i64 v2) W)∧∀W,(Instr.index 25 (.agg #[.int .i64 v0, .int .i64 v1, .int .i64 v2, .int .i64 v3]) (.int .i64 3)).run Tryz.prog W= .ok (.int .i64 v3) W:=
 ⟨fun _=>by kernel_rfl,fun _=>by kernel_rfl,fun _=>by kernel_rfl,fun _=>by kernel_rfl⟩
theorem ac_ (ob:Nat) (w:World) (v:Value) (bs:List UInt8) (v0 v1 v2 v3:Int) (ho:jv w ob v bs) (hb:bs.length≤80000000):
 Calls Tryz.prog 71 #[.pointer (some ⟨ob,0,none⟩), .agg #[.int .i64 v0, .int .i64 v1, .int .i64 v2, .int .i64 v3]] w fun e w'=>e= .returned (.tuple #[])∧(g_ (bP v0 v1 v2 v3)→dY w ob v bs (jH v0 v1 v2 v3) w')∧(¬g_ (bP v0 v1 v2 v3)→dY w ob v bs (jH 0 0 0 0) w'):=by
 have fP:=ah (fun W=>xO W v0 v1 v2 v3)
 unfold uF at fP
 have hal:aj ay w (w.alloc (.cells #[.int .i64 v0, .int .i64 v1, .int .i64 v2, .int .i64 v3] 25)):=aj.alloc _ _ _
 have bF:=ah (heap_alloc_new w (.cells #[.int .i64 v0, .int .i64 v1, .int .i64 v2, .int .i64 v3] 25))
 have eP:=ah (show ¬iT ob v w.heap.size from fun h=>by have:=vM ho _ h;omega)
 have zJ:=ah (fun W (f:aj ay (w.alloc (.cells #[.int .i64 v0, .int .i64 v1, .int .i64 v2, .int .i64 v3] 25)) W)=>(dY.start (ho.aJ hal)).aJ f)
 have HO:=ah ho;clear ho
 have DL:=ah hal;clear hal
 by_cases hm:g_ (bP v0 v1 v2 v3)
 ·obtain⟨i0,i1,i2,i3⟩:=VX v0 v1 v2 v3
  have hbd:=Ns hm
  have HB:=ah (show lY v0∧lY v1∧lY v2∧lY v3∧True from⟨⟨by omega,by omega⟩,⟨by omega,by omega⟩,⟨by omega,by omega⟩,⟨by omega,by omega⟩,trivial⟩)
  have VY:=ah HB.out.1
  have VZ:=ah HB.out.2.1
  have Jr:=ah HB.out.2.2.1
  have V_:=ah HB.out.2.2.2.1
  have jS:=ah (show(bG v0).length≤10 from jr (by omega) (by omega))
  have oL:=ah (show(bG v1).length≤10 from jr (by omega) (by omega))
  have HL2:=ah (show(bG v2).length≤10 from jr (by omega) (by omega))
  have HM:=ah hm;clear hm hbd
  go_enter Tryz.func71,Tryz.ntmps71
  go_wp2_with(go_at_call 124;refine(fP.out _).mono ?_;rintro e w1 ⟨hf1,h1,-⟩;obtain⟨u',he,hown,-⟩:=h1 HM.out;subst he;obtain⟨aF,cF,rfl⟩:=hown.rd.sl;clear hown h1;generalize (f_ (bP v0 v1 v2 v3)).length=nF at*;have hb1:=hf1.blk bF.out id;have y0:=au hb1 0 rfl;have y1:=au hb1 1 rfl;have y2:=au hb1 2 rfl;have y3:=au hb1 3 rfl;have yl:=lt_of_block hb1;have vg:=ah (zJ.out w1 hf1);clear hf1 hb1)
  clear y0 y1 y2 y3 yl
  go_loopw [17] (fun i ww=>∃(k:Nat) (cs:List UInt8),((k=0∧cs=[])∨(k=1∧cs=bG v0)∨(k=2∧cs=bG v0++bG v1)∨(k=3∧cs=bG v0++bG v1++bG v2)∨(k=4∧cs=bG v0++bG v1++bG v2++bG v3))∧i= .int .i64 k∧dY (w.alloc (.cells #[.int .i64 v0, .int .i64 v1, .int .i64 v2, .int .i64 v3] 25)) ob v bs cs ww) (fun i _=>4-(intOf i).toNat)
  case atStart=>exact⟨0,[], .inl ⟨rfl,rfl⟩,rfl,vg.out⟩
  case round=>
   obtain⟨k,cs,hcase,rfl,hp⟩:=hrel
   have HP:=ah hp;clear hp
   rcases hcase with⟨rfl,rfl⟩|⟨rfl,rfl⟩|⟨rfl,rfl⟩|⟨rfl,rfl⟩|⟨rfl,rfl⟩
   ·go_wp2_with(go_at_call 70;refine(lg HP.out v0 (by first|exact VY.out|exact⟨by omega,by omega⟩) (by have h0:=jS.out;have h1:=oL.out;have h2:=HL2.out;(try simp only[List.length_append,List.length_nil]);omega)).mono ?_;rintro e w5 ⟨rfl,gY⟩;have kJ:=ah gY;clear gY)
    go_roundw
    case rel=>exact⟨1,_, .inr (.inl ⟨rfl,rfl⟩),by go_num,kJ.out.cast (by rw[List.nil_append])⟩
    case measure=>simp[intOf]
   ·go_wp2_with(go_at_call 70;refine(lg HP.out v1 (by first|exact VZ.out|exact⟨by omega,by omega⟩) (by have h0:=jS.out;have h1:=oL.out;have h2:=HL2.out;(try simp only[List.length_append,List.length_nil]);omega)).mono ?_;rintro e w5 ⟨rfl,gY⟩;have kJ:=ah gY;clear gY)
    go_roundw
    case rel=>exact⟨2,_, .inr (.inr (.inl ⟨rfl,rfl⟩)),by go_num,kJ.out⟩
    case measure=>simp[intOf]
   ·go_wp2_with(go_at_call 70;refine(lg HP.out v2 (by first|exact Jr.out|exact⟨by omega,by omega⟩) (by have h0:=jS.out;have h1:=oL.out;have h2:=HL2.out;(try simp only[List.length_append,List.length_nil]);omega)).mono ?_;rintro e w5 ⟨rfl,gY⟩;have kJ:=ah gY;clear gY)
    go_roundw
    case rel=>exact⟨3,_, .inr (.inr (.inr (.inl ⟨rfl,rfl⟩))),by go_num,kJ.out⟩
    case measure=>simp[intOf]
   ·go_wp2_with(go_at_call 70;refine(lg HP.out v3 (by first|exact V_.out|exact⟨by omega,by omega⟩) (by have h0:=jS.out;have h1:=oL.out;have h2:=HL2.out;(try simp only[List.length_append,List.length_nil]);omega)).mono ?_;rintro e w5 ⟨rfl,gY⟩;have kJ:=ah gY;clear gY)
    go_roundw
    case rel=>exact⟨4,_, .inr (.inr (.inr (.inr (⟨rfl,rfl⟩)))),by go_num,kJ.out⟩
    case measure=>simp[intOf]
   ·go_wp2
    go_end0
    exact⟨rfl,fun _=>(HP.out.base DL.out).cast (by unfold jH;simp only[List.append_assoc]),fun h=>absurd HM.out h⟩
 ·obtain⟨i0,i1,i2,i3⟩:=VX 0 0 0 0
  have jS:=ah (show(bG 0).length≤10 from jr (by omega) (by omega))
  have oL:=ah (show(bG 0).length≤10 from jr (by omega) (by omega))
  have HL2:=ah (show(bG 0).length≤10 from jr (by omega) (by omega))
  have HM:=ah hm;clear hm
  go_enter Tryz.func71,Tryz.ntmps71
  go_wp2_with(go_at_call 124;refine(fP.out _).mono ?_;rintro e w1 ⟨hf1,-,h1⟩;have he:=h1 HM.out;subst he;clear h1;have hb1:=hf1.blk bF.out id;have y0:=au hb1 0 rfl;have y1:=au hb1 1 rfl;have y2:=au hb1 2 rfl;have y3:=au hb1 3 rfl;have f0:=aG hb1 0;have f1:=aG hb1 1;have f2:=aG hb1 2;have f3:=aG hb1 3;have yl:=lt_of_block hb1;have HW1:=ah (DL.out.aC hf1);clear hf1 hb1)
  have hw2:aj ay w ((((w1.setCell ⟨w.heap.size,0,none⟩ (.int .i64 0)).setCell ⟨w.heap.size,1,none⟩ (.int .i64 0)).setCell ⟨w.heap.size,2,none⟩ (.int .i64 0)).setCell ⟨w.heap.size,3,none⟩ (.int .i64 0)):=HW1.out.trans (zI w1 w.heap.size _ _ _ _) fun i hi e=>by have e:i=w.heap.size:=e;omega
  clear y0 y1 y2 y3 f0 f1 f2 f3 yl
  generalize (((w1.setCell ⟨w.heap.size,0,none⟩ (.int .i64 0)).setCell ⟨w.heap.size,1,none⟩ (.int .i64 0)).setCell ⟨w.heap.size,2,none⟩ (.int .i64 0)).setCell ⟨w.heap.size,3,none⟩ (.int .i64 0)=W2 at*
  have HW2:=ah hw2
  have vg:=ah (dY.start (HO.out.aJ hw2));clear hw2
  go_loopw [17] (fun i ww=>∃(k:Nat) (cs:List UInt8),((k=0∧cs=[])∨(k=1∧cs=bG 0)∨(k=2∧cs=bG 0++bG 0)∨(k=3∧cs=bG 0++bG 0++bG 0)∨(k=4∧cs=bG 0++bG 0++bG 0++bG 0))∧i= .int .i64 k∧dY W2 ob v bs cs ww) (fun i _=>4-(intOf i).toNat)
  case atStart=>exact⟨0,[], .inl ⟨rfl,rfl⟩,rfl,vg.out⟩
  case round=>
   obtain⟨k,cs,hcase,rfl,hp⟩:=hrel
   have HP:=ah hp;clear hp
   rcases hcase with⟨rfl,rfl⟩|⟨rfl,rfl⟩|⟨rfl,rfl⟩|⟨rfl,rfl⟩|⟨rfl,rfl⟩
   ·go_wp2_with(go_at_call 70;refine(lg HP.out 0 (by first|exact VY.out|exact⟨by omega,by omega⟩) (by have h0:=jS.out;have h1:=oL.out;have h2:=HL2.out;(try simp only[List.length_append,List.length_nil]);omega)).mono ?_;rintro e w5 ⟨rfl,gY⟩;have kJ:=ah gY;clear gY)
    go_roundw
    case rel=>exact⟨1,_, .inr (.inl ⟨rfl,rfl⟩),by go_num,kJ.out.cast (by rw[List.nil_append])⟩
    case measure=>simp[intOf]
   ·go_wp2_with(go_at_call 70;refine(lg HP.out 0 (by first|exact VZ.out|exact⟨by omega,by omega⟩) (by have h0:=jS.out;have h1:=oL.out;have h2:=HL2.out;(try simp only[List.length_append,List.length_nil]);omega)).mono ?_;rintro e w5 ⟨rfl,gY⟩;have kJ:=ah gY;clear gY)
    go_roundw
    case rel=>exact⟨2,_, .inr (.inr (.inl ⟨rfl,rfl⟩)),by go_num,kJ.out⟩
    case measure=>simp[intOf]
   ·go_wp2_with(go_at_call 70;refine(lg HP.out 0 (by first|exact Jr.out|exact⟨by omega,by omega⟩) (by have h0:=jS.out;have h1:=oL.out;have h2:=HL2.out;(try simp only[List.length_append,List.length_nil]);omega)).mono ?_;rintro e w5 ⟨rfl,gY⟩;have kJ:=ah gY;clear gY)
    go_roundw
    case rel=>exact⟨3,_, .inr (.inr (.inr (.inl ⟨rfl,rfl⟩))),by go_num,kJ.out⟩
    case measure=>simp[intOf]
   ·go_wp2_with(go_at_call 70;refine(lg HP.out 0 (by first|exact V_.out|exact⟨by omega,by omega⟩) (by have h0:=jS.out;have h1:=oL.out;have h2:=HL2.out;(try simp only[List.length_append,List.length_nil]);omega)).mono ?_;rintro e w5 ⟨rfl,gY⟩;have kJ:=ah gY;clear gY)
    go_roundw
    case rel=>exact⟨4,_, .inr (.inr (.inr (.inr (⟨rfl,rfl⟩)))),by go_num,kJ.out⟩
    case measure=>simp[intOf]
   ·go_wp2
    go_end0
    exact⟨rfl,fun h=>absurd h HM.out,fun _=>(HP.out.base HW2.out).cast (by unfold jH;simp only[List.append_assoc])⟩
end Go.Proofs.YtabkpccdnkjoiaaGreat
