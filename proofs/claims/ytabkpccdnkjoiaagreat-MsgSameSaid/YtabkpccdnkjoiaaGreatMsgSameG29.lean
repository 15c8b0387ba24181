/- Words for the law MsgSame: Op3, Op4, Op5, OpS, Thing, Few16, OpEnc, PackVec, PackOp, Put1, PutOp, PutVec, R16d, R16e, R16f, R16g, R16h, R16v, R16a, PackPut. -/
import Derived.Test.YtabkpccdnkjoiaaGreatMsgSameG0
import Derived.Test.YtabkpccdnkjoiaaGreatMsgSameG1
import Derived.Test.YtabkpccdnkjoiaaGreatMsgSameG2
import Derived.Test.YtabkpccdnkjoiaaGreatMsgSameG4
import Derived.Test.YtabkpccdnkjoiaaGreatMsgSameG7
import Derived.Test.YtabkpccdnkjoiaaGreatMsgSameG9
import Derived.Test.YtabkpccdnkjoiaaGreatMsgSameG10
import Derived.Test.YtabkpccdnkjoiaaGreatMsgSameG12
import Derived.Test.YtabkpccdnkjoiaaGreatMsgSameG13
import Derived.Test.YtabkpccdnkjoiaaGreatMsgSameG14
import Derived.Test.YtabkpccdnkjoiaaGreatMsgSameG15
import Derived.Test.YtabkpccdnkjoiaaGreatMsgSameG16
import Derived.Test.YtabkpccdnkjoiaaGreatMsgSameG17
import Derived.Test.YtabkpccdnkjoiaaGreatMsgSameG20
import Derived.Test.YtabkpccdnkjoiaaGreatMsgSameG28
set_option linter.unusedSimpArgs false
set_option linter.unusedVariables false
set_option maxHeartbeats 32000000
set_option maxRecDepth 1000000
namespace Go.Proofs.YtabkpccdnkjoiaaGreat
open Go.RowKit
open Go.RowKit
open Go.RowKit
open Go.RowKit
end Go.Proofs.YtabkpccdnkjoiaaGreat
namespace Go.Proofs.YtabkpccdnkjoiaaGreat
open Go.RowKit Go.WideShapes Go.ChangeShapes
structure Th where
 kind:Int
 cv:Value
 ev:Value
 kv:Value
 xv:Value
 pv:Value
 a:Int
 s:ByteArray
 n:Int
 v0:Int
 v1:Int
 v2:Int
 v3:Int
 c:aW
 es:List aG
 ks:aH
 xc:aW
 ss:List ByteArray
def Th.zero:Th:=⟨0, .slice none 0 0, .slice none 0 0, .slice none 0 0, .slice none 0 0, .slice none 0 0,0,ByteArray.empty,0,0,0,0,0,[],[], .nil,[],[]⟩
instance:Inhabited Th:=⟨Th.zero⟩
open Go.RowKit
open Go.RowKit
open Go.RowKit
theorem AB (w:World) (b:Nat) (u0 u1 u2 u3:Value):aj (Only b) w ((((w.setCell ⟨b,0,none⟩ u0).setCell ⟨b,1,none⟩ u1).setCell ⟨b,2,none⟩ u2).setCell ⟨b,3,none⟩ u3):=((xE w b u0 u1).trans (eG _ b 2 u2) fun _ _ h=>h).trans (eG _ b 3 u3) fun _ _ h=>h
theorem Gp {w:World} {b:Nat} {a0 a1 a2 a3:Value} {T:TypeId} (h:w.heap[b]?=some (.cells #[a0,a1,a2,a3] T (0,0))) (u0 u1 u2 u3:Value) (W:World) (hW:W=(((w.setCell ⟨b,0,none⟩ u0).setCell ⟨b,1,none⟩ u1).setCell ⟨b,2,none⟩ u2).setCell ⟨b,3,none⟩ u3):
 W.cell? ⟨b,0,none⟩=some u0∧W.cell? ⟨b,1,none⟩=some u1∧W.cell? ⟨b,2,none⟩=some u2∧W.cell? ⟨b,3,none⟩=some u3:=by
 subst hW
 have g:=bJ (bJ (bJ (bJ h 0 u0) 1 u1) 2 u2) 3 u3
 exact⟨aC g 0 rfl,aC g 1 rfl,aC g 2 rfl,aC g 3 rfl⟩
structure GV (w W:World) (ib:Nat) (t:Option (List UInt8)) (cs:Array Value):Prop where
 ins:cu W ib t
 arr:W.heap[w.heap.size+1]?=some (.cells cs 25 (0,0))
 res:W.heap[w.heap.size]?=some (.cells #[.int .i64 0, .int .i64 0, .int .i64 0, .int .i64 0] 25 (0,0))
 aP:aj (Only ib) w W
 hib:ib<w.heap.size
theorem GV.call {w W W1:World} {ib:Nat} {t t':Option (List UInt8)} {cs:Array Value} (h:GV w W ib t cs) (hi:cu W1 ib t') (f:aj (Only ib) W W1):GV w W1 ib t' cs:=
 ⟨hi,f.blk h.arr fun e=>(by have e:w.heap.size+1=ib:=e;have:=h.hib;omega),f.blk h.res fun e=>(by have e:w.heap.size=ib:=e;have:=h.hib;omega),h.aP.trans f fun _ _ s=>s,h.hib⟩
theorem GV.set {w W:World} {ib:Nat} {t:Option (List UInt8)} {cs:Array Value} (h:GV w W ib t cs) (j:Nat) (u:Value):GV w (W.setCell ⟨w.heap.size+1,j,none⟩ u) ib t (cs.setIfInBounds j u):=
 have f:=eG W (w.heap.size+1) j u
 ⟨h.ins.keep f fun k hk e=>(by have e:k=w.heap.size+1:=e;have:=h.hib;omega),bJ h.arr j u,f.blk h.res fun e=>(by have e:w.heap.size=w.heap.size+1:=e;omega),h.aP.trans f fun i hi e=>(by have e:i=w.heap.size+1:=e;omega),h.hib⟩
def RJ (v0 v1 v2 v3:Int) (s:Option (List UInt8)) (ib:Nat) (w:World) (e:Ending) (w':World):Prop:=
 e= .returned (.agg #[.int .i64 v0, .int .i64 v1, .int .i64 v2, .int .i64 v3])∧cu w' ib s∧aj (Only ib) w w'
theorem GV.out {w W:World} {ib:Nat} {s:Option (List UInt8)} {cs:Array Value} (h:GV w W ib s cs) (v0 v1 v2 v3:Int) (W':World) (f:aj (Only w.heap.size) W W'):RJ v0 v1 v2 v3 s ib w (.returned (.agg #[.int .i64 v0, .int .i64 v1, .int .i64 v2, .int .i64 v3])) W':=
 ⟨rfl,h.ins.keep f fun k hk e=>(by have e:k=w.heap.size:=e;have:=h.hib;omega),h.aP.trans f fun i hi e=>(by have e:i=w.heap.size:=e;omega)⟩
theorem RN (ib:Nat) (st s:Option (List UInt8)) (u0 u1 u2 u3:Int) (w:World) (hc:jK st u0 u1 u2 u3 s) (h:cu w ib st):
 Calls Tryz.prog 57 #[.pointer (some ⟨ib,0,none⟩)] w (RJ u0 u1 u2 u3 s ib w):=by
 obtain⟨v0,v1,v2,v3,t1,t2,t3,t4,g0,g1,g2,g3⟩:=V4.total 1099511627776 st
 have KZ:=ah (show V4 1099511627776 st v0 v1 v2 v3 t4 from⟨t1,t2,t3,g0,g1,g2,g3⟩)
 have HC:=ah hc;clear hc
 have yT:=ah g0
 have pR:=ah g1
 have HG2:=ah g2
 have pU:=ah g3
 have eH:=ah (fun W=>vZ W v0 v1 v2 v3)
 unfold sN at eH
 clear g0 g1 g2 g3
 have hb1:=heap_alloc_new (w.alloc (.cells #[.int .i64 0, .int .i64 0, .int .i64 0, .int .i64 0] 25)) (.cells #[.int .i64 0, .int .i64 0, .int .i64 0, .int .i64 0] 25)
 rw[show(w.alloc (.cells #[.int .i64 0, .int .i64 0, .int .i64 0, .int .i64 0] 25)).heap.size=w.heap.size+1 by simp]at hb1
 have HST:=ah (show GV w ((w.alloc (.cells #[.int .i64 0, .int .i64 0, .int .i64 0, .int .i64 0] 25)).alloc (.cells #[.int .i64 0, .int .i64 0, .int .i64 0, .int .i64 0] 25)) ib st #[.int .i64 0, .int .i64 0, .int .i64 0, .int .i64 0]from
  ⟨(h.keep (aj.alloc ay _ _) fun _ _=>id).keep (aj.alloc ay _ _) fun _ _=>id,hb1,(aj.alloc ay _ _).blk (heap_alloc_new w _) id,((aj.alloc ay w _).alloc1).mono fun _ _ s=>s.elim,h.lt⟩)
 clear h hb1
 go_enter Tryz.func57,Tryz.ntmps57
 go_wp2
 go_loopw [7] (fun j W=>∃(J:Nat) (x0 x1 x2 x3:Int) (t:Option (List UInt8)),((J=0∧x0=0∧x1=0∧x2=0∧x3=0∧t=st)∨(J=1∧x0=v0∧x1=0∧x2=0∧x3=0∧t=t1)∨(J=2∧x0=v0∧x1=v1∧x2=0∧x3=0∧t=t2)∨(J=3∧x0=v0∧x1=v1∧x2=v2∧x3=0∧t=t3)∨(J=4∧x0=v0∧x1=v1∧x2=v2∧x3=v3∧t=t4))∧j= .int .i64 J∧GV w W ib t #[.int .i64 x0, .int .i64 x1, .int .i64 x2, .int .i64 x3]) (fun j _=>4-(intOf j).toNat)
 case atStart=>exact⟨0,0,0,0,0,st, .inl ⟨rfl,rfl,rfl,rfl,rfl,rfl⟩,rfl,HST.out⟩
 case round=>
  obtain⟨J,x0,x1,x2,x3,t,hcase,rfl,hs⟩:=hrel
  rcases hcase with⟨rfl,rfl,rfl,rfl,rfl,rfl⟩|⟨rfl,rfl,rfl,rfl,rfl,rfl⟩|⟨rfl,rfl,rfl,rfl,rfl,rfl⟩|⟨rfl,rfl,rfl,rfl,rfl,rfl⟩|⟨rfl,rfl,rfl,rfl,rfl,rfl⟩
  ·have cO:=ah (jZ ib _ 1099511627776 _ _ wr hs.ins yT.out (by omega) (by omega))
   have HS:=ah hs;clear hs
   go_wp2_with(go_at_call 56;refine cO.out.mono ?_;rintro e W1 ⟨rfl,hi5,hf5⟩;have z8:=bf (HS.out.call hi5 hf5).arr 0;have z9:=aC (HS.out.call hi5 hf5).arr 0 rfl;have z7:=lt_of_block (HS.out.call hi5 hf5).arr;have HN:=ah (fun u=>(HS.out.call hi5 hf5).set 0 u);clear hi5 hf5)
   go_roundw
   case rel=>exact⟨1,_,_,_,_,_, .inr (.inl ⟨rfl,rfl,rfl,rfl,rfl,rfl⟩),by go_num,HN.out _⟩
   case measure=>simp[intOf]
  ·have cO:=ah (jZ ib _ 1099511627776 _ _ wr hs.ins pR.out (by omega) (by omega))
   have HS:=ah hs;clear hs
   go_wp2_with(go_at_call 56;refine cO.out.mono ?_;rintro e W1 ⟨rfl,hi5,hf5⟩;have z8:=bf (HS.out.call hi5 hf5).arr 1;have z9:=aC (HS.out.call hi5 hf5).arr 1 rfl;have z7:=lt_of_block (HS.out.call hi5 hf5).arr;have HN:=ah (fun u=>(HS.out.call hi5 hf5).set 1 u);clear hi5 hf5)
   go_roundw
   case rel=>exact⟨2,_,_,_,_,_, .inr (.inr (.inl ⟨rfl,rfl,rfl,rfl,rfl,rfl⟩)),by go_num,HN.out _⟩
   case measure=>simp[intOf]
  ·have cO:=ah (jZ ib _ 1099511627776 _ _ wr hs.ins HG2.out (by omega) (by omega))
   have HS:=ah hs;clear hs
   go_wp2_with(go_at_call 56;refine cO.out.mono ?_;rintro e W1 ⟨rfl,hi5,hf5⟩;have z8:=bf (HS.out.call hi5 hf5).arr 2;have z9:=aC (HS.out.call hi5 hf5).arr 2 rfl;have z7:=lt_of_block (HS.out.call hi5 hf5).arr;have HN:=ah (fun u=>(HS.out.call hi5 hf5).set 2 u);clear hi5 hf5)
   go_roundw
   case rel=>exact⟨3,_,_,_,_,_, .inr (.inr (.inr (.inl ⟨rfl,rfl,rfl,rfl,rfl,rfl⟩))),by go_num,HN.out _⟩
   case measure=>simp[intOf]
  ·have cO:=ah (jZ ib _ 1099511627776 _ _ wr hs.ins pU.out (by omega) (by omega))
   have HS:=ah hs;clear hs
   go_wp2_with(go_at_call 56;refine cO.out.mono ?_;rintro e W1 ⟨rfl,hi5,hf5⟩;have z8:=bf (HS.out.call hi5 hf5).arr 3;have z9:=aC (HS.out.call hi5 hf5).arr 3 rfl;have z7:=lt_of_block (HS.out.call hi5 hf5).arr;have HN:=ah (fun u=>(HS.out.call hi5 hf5).set 3 u);clear hi5 hf5)
   go_roundw
   case rel=>exact⟨4,_,_,_,_,_, .inr (.inr (.inr (.inr (⟨rfl,rfl,rfl,rfl,rfl,rfl⟩)))),by go_num,HN.out _⟩
   case measure=>simp[intOf]
  ·have HS:=ah hs;clear hs
   have z0:wr.cell? ⟨w.heap.size+1,0,none⟩=some (.int .i64 x0):=aC HS.out.arr 0 rfl
   have z1:wr.cell? ⟨w.heap.size+1,1,none⟩=some (.int .i64 x1):=aC HS.out.arr 1 rfl
   have z2:wr.cell? ⟨w.heap.size+1,2,none⟩=some (.int .i64 x2):=aC HS.out.arr 2 rfl
   have z3:wr.cell? ⟨w.heap.size+1,3,none⟩=some (.int .i64 x3):=aC HS.out.arr 3 rfl
   have zl:=lt_of_block HS.out.arr
   cases t with
   |none=>
    obtain⟨⟨rfl,rfl,rfl,rfl⟩,rfl⟩:=HC.out.bY (PY (by decide) (by decide) KZ.out (.inl rfl))
    by_cases hmay:f_ (bG x0 x1 x2 x3)
    ·have mW:=ah hmay;clear hmay
     go_wp2_with(first
      |(go_at_call 124;refine(eH.out _).mono ?_;rintro e w2 ⟨hf2,vk,-⟩;obtain⟨v',he,hown,-⟩:=vk mW.out;subst he;obtain⟨aF,cF,rfl⟩:=hown.rd.sl;clear hown vk
        have HS2:=ah (HS.out.call (HS.out.ins.keep hf2 fun _ _=>id) (hf2.mono fun _ _ s=>s.elim))
        clear z0 z1 z2 z3 zl hf2
        generalize (eU (bG x0 x1 x2 x3)).length=nF at*
        have z0:w2.cell? ⟨w.heap.size+1,0,none⟩=some (.int .i64 x0):=aC HS2.out.arr 0 rfl
        have z1:w2.cell? ⟨w.heap.size+1,1,none⟩=some (.int .i64 x1):=aC HS2.out.arr 1 rfl
        have z2:w2.cell? ⟨w.heap.size+1,2,none⟩=some (.int .i64 x2):=aC HS2.out.arr 2 rfl
        have z3:w2.cell? ⟨w.heap.size+1,3,none⟩=some (.int .i64 x3):=aC HS2.out.arr 3 rfl
        have zl:=lt_of_block HS2.out.arr
        have y0:=aC HS2.out.res 0 rfl
        have y1:=aC HS2.out.res 1 rfl
        have y2:=aC HS2.out.res 2 rfl
        have y3:=aC HS2.out.res 3 rfl
        have f0:=bf HS2.out.res 0
        have f1:=bf HS2.out.res 1
        have f2:=bf HS2.out.res 2
        have f3:=bf HS2.out.res 3
        have hl2:=lt_of_block HS2.out.res)
      |(go_at_call 58;refine(mO ib _ _ HS2.out.ins).mono ?_;rintro e w3 ⟨rfl,rfl⟩)
      |(go_at_call 123;obtain⟨a,c,hh⟩:=HS2.out.ins.heap;refine(ni ib _ _ _ hh).mono ?_;rintro e w4 ⟨rfl,hi4,hf4⟩
        have iF:=ah (HS2.out.call (show cu w4 ib none from hi4) hf4)
        clear y0 y1 y2 y3 f0 f1 f2 f3 hl2 z0 z1 z2 z3 zl hi4 hf4 hh
        have y0:=aC iF.out.res 0 rfl
        have y1:=aC iF.out.res 1 rfl
        have y2:=aC iF.out.res 2 rfl
        have y3:=aC iF.out.res 3 rfl
        have f0:=bf iF.out.res 0
        have f1:=bf iF.out.res 1
        have f2:=bf iF.out.res 2
        have f3:=bf iF.out.res 3
        have hl2:=lt_of_block iF.out.res))
     clear y0 y1 y2 y3 f0 f1 f2 f3 hl2
     obtain⟨y0,y1,y2,y3⟩:=Gp iF.out.res (.int .i64 0) (.int .i64 0) (.int .i64 0) (.int .i64 0) _ rfl
     exact bodyPost_ret (v:= .agg #[.int .i64 0, .int .i64 0, .int .i64 0, .int .i64 0]) (by simp[results,Tryz.results57,go_sem,y0,y1,y2,y3]) rfl (iF.out.out 0 0 0 0 _ (AB w4 _ _ _ _ _))
    ·have mW:=ah hmay;clear hmay
     go_wp2_with(first
      |(go_at_call 124;refine(eH.out _).mono ?_;rintro e w2 ⟨hf2,-,hfn⟩;have he:=hfn mW.out;subst he;clear hfn
        have HS2:=ah (HS.out.call (HS.out.ins.keep hf2 fun _ _=>id) (hf2.mono fun _ _ s=>s.elim))
        clear z0 z1 z2 z3 zl hf2)
      |(go_at_call 58;refine(mO ib _ _ HS2.out.ins).mono ?_;rintro e w3 ⟨rfl,rfl⟩)
      |(go_at_call 123;obtain⟨a,c,hh⟩:=HS2.out.ins.heap;refine(ni ib _ _ _ hh).mono ?_;rintro e w4 ⟨rfl,hi4,hf4⟩
        have iF:=ah (HS2.out.call (show cu w4 ib none from hi4) hf4)
        clear hi4 hf4 hh
        have y0:=aC iF.out.res 0 rfl
        have y1:=aC iF.out.res 1 rfl
        have y2:=aC iF.out.res 2 rfl
        have y3:=aC iF.out.res 3 rfl
        have f0:=bf iF.out.res 0
        have f1:=bf iF.out.res 1
        have f2:=bf iF.out.res 2
        have f3:=bf iF.out.res 3
        have hl2:=lt_of_block iF.out.res))
     clear y0 y1 y2 y3 f0 f1 f2 f3 hl2
     obtain⟨y0,y1,y2,y3⟩:=Gp iF.out.res (.int .i64 0) (.int .i64 0) (.int .i64 0) (.int .i64 0) _ rfl
     exact bodyPost_ret (v:= .agg #[.int .i64 0, .int .i64 0, .int .i64 0, .int .i64 0]) (by simp[results,Tryz.results57,go_sem,y0,y1,y2,y3]) rfl (iF.out.out 0 0 0 0 _ (AB w4 _ _ _ _ _))
   |some r=>
    by_cases hmay:f_ (bG x0 x1 x2 x3)
    ·obtain⟨⟨rfl,rfl,rfl,rfl⟩,rfl⟩:=HC.out.bY (Yc KZ.out hmay)
     have mW:=ah hmay;clear hmay
     go_wp2_with(first
      |(go_at_call 124;refine(eH.out _).mono ?_;rintro e w2 ⟨hf2,vk,-⟩;obtain⟨v',he,hown,-⟩:=vk mW.out;subst he;obtain⟨aF,cF,rfl⟩:=hown.rd.sl;clear hown vk
        have HS2:=ah (HS.out.call (HS.out.ins.keep hf2 fun _ _=>id) (hf2.mono fun _ _ s=>s.elim))
        clear z0 z1 z2 z3 zl hf2
        generalize (eU (bG u0 u1 u2 u3)).length=nF at*
        have z0:w2.cell? ⟨w.heap.size+1,0,none⟩=some (.int .i64 u0):=aC HS2.out.arr 0 rfl
        have z1:w2.cell? ⟨w.heap.size+1,1,none⟩=some (.int .i64 u1):=aC HS2.out.arr 1 rfl
        have z2:w2.cell? ⟨w.heap.size+1,2,none⟩=some (.int .i64 u2):=aC HS2.out.arr 2 rfl
        have z3:w2.cell? ⟨w.heap.size+1,3,none⟩=some (.int .i64 u3):=aC HS2.out.arr 3 rfl
        have zl:=lt_of_block HS2.out.arr
        have y0:=aC HS2.out.res 0 rfl
        have y1:=aC HS2.out.res 1 rfl
        have y2:=aC HS2.out.res 2 rfl
        have y3:=aC HS2.out.res 3 rfl
        have f0:=bf HS2.out.res 0
        have f1:=bf HS2.out.res 1
        have f2:=bf HS2.out.res 2
        have f3:=bf HS2.out.res 3
        have hl2:=lt_of_block HS2.out.res)
      |(go_at_call 58;refine(mO ib _ _ HS2.out.ins).mono ?_;rintro e w3 ⟨rfl,rfl⟩))
     clear y0 y1 y2 y3 f0 f1 f2 f3 hl2 z0 z1 z2 z3 zl
     obtain⟨y0,y1,y2,y3⟩:=Gp HS2.out.res (.int .i64 u0) (.int .i64 u1) (.int .i64 u2) (.int .i64 u3) _ rfl
     exact bodyPost_ret (v:= .agg #[.int .i64 u0, .int .i64 u1, .int .i64 u2, .int .i64 u3]) (by simp[results,Tryz.results57,go_sem,y0,y1,y2,y3]) rfl (HS2.out.out u0 u1 u2 u3 _ (AB w2 _ _ _ _ _))
    ·obtain⟨⟨rfl,rfl,rfl,rfl⟩,rfl⟩:=HC.out.bY (PY (by decide) (by decide) KZ.out (.inr hmay))
     have mW:=ah hmay;clear hmay
     go_wp2_with(first
      |(go_at_call 124;refine(eH.out _).mono ?_;rintro e w2 ⟨hf2,-,hfn⟩;have he:=hfn mW.out;subst he;clear hfn
        have HS2:=ah (HS.out.call (HS.out.ins.keep hf2 fun _ _=>id) (hf2.mono fun _ _ s=>s.elim))
        clear z0 z1 z2 z3 zl hf2)
      |(go_at_call 58;refine(mO ib _ _ HS2.out.ins).mono ?_;rintro e w3 ⟨rfl,rfl⟩)
      |(go_at_call 123;obtain⟨a,c,hh⟩:=HS2.out.ins.heap;refine(ni ib _ _ _ hh).mono ?_;rintro e w4 ⟨rfl,hi4,hf4⟩
        have iF:=ah (HS2.out.call (show cu w4 ib none from hi4) hf4)
        clear hi4 hf4 hh
        have y0:=aC iF.out.res 0 rfl
        have y1:=aC iF.out.res 1 rfl
        have y2:=aC iF.out.res 2 rfl
        have y3:=aC iF.out.res 3 rfl
        have f0:=bf iF.out.res 0
        have f1:=bf iF.out.res 1
        have f2:=bf iF.out.res 2
        have f3:=bf iF.out.res 3
        have hl2:=lt_of_block iF.out.res))
     clear y0 y1 y2 y3 f0 f1 f2 f3 hl2
     obtain⟨y0,y1,y2,y3⟩:=Gp iF.out.res (.int .i64 0) (.int .i64 0) (.int .i64 0) (.int .i64 0) _ rfl
     exact bodyPost_ret (v:= .agg #[.int .i64 0, .int .i64 0, .int .i64 0, .int .i64 0]) (by simp[results,Tryz.results57,go_sem,y0,y1,y2,y3]) rfl (iF.out.out 0 0 0 0 _ (AB w4 _ _ _ _ _))
open Go.RowKit
open Go.RowKit
def dH (w:World) (ob:Nat) (v:Value) (bs cs:List UInt8) (ww:World):Prop:=
 ∃v',iM ww ob v' (bs++cs)∧gK w v v'∧aj (gX ob v) w ww
variable {w ww w':World} {ob:Nat} {v:Value} {bs cs ds:List UInt8}
theorem dH.start (h:iM w ob v bs):dH w ob v bs [] w:=⟨v,by rwa [List.append_nil],gK.refl _ _,aj.refl _ _⟩
theorem iM.aO (h:iM w ob v bs) (f:aj ay w w'):iM w' ob v bs:=h.keep f id fun _ _=>id
theorem dH.aO (h:dH w ob v bs cs ww) (f:aj ay ww w'):dH w ob v bs cs w':=by
 obtain⟨v',h1,h2,h3⟩:=h
 exact⟨v',h1.aO f,h2,h3.au f⟩
theorem dH.base (h:dH ww ob v bs cs w') (f:aj ay w ww):dH w ob v bs cs w':=by
 obtain⟨v',h1,h2,h3⟩:=h
 exact⟨v',h1,gK.trans (gK.refl w v) f.size h2,(f.mono (T:=gX ob v) fun _ _ h=>h.elim).trans h3 fun _ _ h=>h⟩
theorem dH.cast {cs':List UInt8} (h:dH w ob v bs cs w') (e:cs=cs'):dH w ob v bs cs' w':=e▸h
theorem dH.trans {v':Value} (h2:gK w v v') (h3:aj (gX ob v) w ww) (k:dH ww ob v' (bs++cs) ds w'):dH w ob v bs (cs++ds) w':=by
 obtain⟨v2,k1,k2,k3⟩:=k
 exact⟨v2,by rw[←List.append_assoc];exact k1,h2.trans h3.size k2,h3.trans k3 (zY h2)⟩
theorem dH.call {f:FuncId} {args:Array Value} {E:Ending} (h:dH w ob v bs cs ww)
 (k:∀v',iM ww ob v' (bs++cs)→(∀b,b<w.heap.size→gX ob v' b→gX ob v b)→aj (gX ob v) w ww→Calls Tryz.prog f args ww fun e w'=>e=E∧dH ww ob v' (bs++cs) ds w'):
 Calls Tryz.prog f args ww fun e w'=>e=E∧dH w ob v bs (cs++ds) w':=by
 obtain⟨v',h1,h2,h3⟩:=h
 exact(k v' h1 (zY h2) h3).mono fun e w' ⟨he,hp⟩=>⟨he,dH.trans h2 h3 hp⟩
theorem um (h:iM w ob v bs):∀b,gX ob v b→b<w.heap.size:=fun b hb=>by
 rcases hb with hb|hb
 ·rw[hb];exact lt_of_block h.cell
 ·exact CJ h.own b hb
theorem dH.cell {RP:World} {p:Addr} {u:Value} (h:dH ww ob v bs cs RP) (hu:ww.cell? p=some u) (hn:¬gX ob v p.block):RP.cell? p=some u:=by
 obtain⟨_,_,_,f⟩:=h
 exact f.cell' hu hn
theorem jW (h:dH w ob v bs cs ww) (x:Int) (hx:kF x) (hl:bs.length+cs.length≤95000000):
 Calls Tryz.prog 70 #[.pointer (some ⟨ob,0,none⟩), .int .i64 x] ww fun e w'=>e= .returned (.tuple #[])∧dH w ob v bs (cs++bD x) w':=
 h.call fun v' ho _ _=>OU ob x ww v' _ ho hx.1 hx.2 (by rw[List.length_append];omega)
theorem RQ (h:dH w ob v bs cs ww) (s:ByteArray) (hl:bs.length+cs.length+s.size≤95000000):
 Calls Tryz.prog 228 #[.pointer (some ⟨ob,0,none⟩), .string s] ww fun e w'=>e= .returned (.tuple #[])∧dH w ob v bs (cs++iR s) w':=
 h.call fun v' ho _ _=>Xh ob s ww v' _ ho (by rw[List.length_append];omega)
theorem fC.put {Q:Nat→Prop} {u:Value} {n:Nat} {xs:List Value} (h:fC Q w u n xs) (hq:∀b,gX ob v b→¬Q b) (hp:dH w ob v bs cs ww):Rd ww u n xs:=by
 obtain⟨_,_,_,f⟩:=hp
 exact(h.keep f fun b _ hs=>hq b hs).rd
open Go.RowKit
open Go.RowKit
theorem RS (v0 v1 v2 v3:Int):(∀W,(Instr.index 25 (.agg #[.int .i64 v0, .int .i64 v1, .int .i64 v2, .int .i64 v3]) (.int .i64 0)).run Tryz.prog W= .ok (.int .i64 v0) W)∧(∀W,(Instr.index 25 (.agg #[.int .i64 v0, .int .i64 v1, .int .i64 v2, .int .i64 v3]) (.int .i64 1)).run Tryz.prog W= .ok (.int .i64 v1) W)∧
 (∀W,(Instr.index 25 (.agg #[.int .i64 v0, .int .i64 v1, .int .i64 v2, .int .i64 v3]) (.int .i64 2)).run Tryz.prog W= .ok (.int .i64 v2) W)∧∀W,(Instr.index 25 (.agg #[.int .i64 v0, .int .i64 v1, .int .i64 v2, .int .i64 v3]) (.int .i64 3)).run Tryz.prog W= .ok (.int .i64 v3) W:=
 ⟨fun _=>by kernel_rfl,fun _=>by kernel_rfl,fun _=>by kernel_rfl,fun _=>by kernel_rfl⟩
theorem aaB (ob:Nat) (w:World) (v:Value) (bs:List UInt8) (v0 v1 v2 v3:Int) (ho:iM w ob v bs) (hb:bs.length≤80000000):
 Calls Tryz.prog 71 #[.pointer (some ⟨ob,0,none⟩), .agg #[.int .i64 v0, .int .i64 v1, .int .i64 v2, .int .i64 v3]] w fun e w'=>e= .returned (.tuple #[])∧(f_ (bG v0 v1 v2 v3)→dH w ob v bs (iZ v0 v1 v2 v3) w')∧(¬f_ (bG v0 v1 v2 v3)→dH w ob v bs (iZ 0 0 0 0) w'):=by
 have eH:=ah (fun W=>vZ W v0 v1 v2 v3)
 unfold sN at eH
 have hal:aj ay w (w.alloc (.cells #[.int .i64 v0, .int .i64 v1, .int .i64 v2, .int .i64 v3] 25)):=aj.alloc _ _ _
 have aQ:=ah (heap_alloc_new w (.cells #[.int .i64 v0, .int .i64 v1, .int .i64 v2, .int .i64 v3] 25))
 have dK:=ah (show ¬gX ob v w.heap.size from fun h=>by have:=um ho _ h;omega)
 have xR:=ah (fun W (f:aj ay (w.alloc (.cells #[.int .i64 v0, .int .i64 v1, .int .i64 v2, .int .i64 v3] 25)) W)=>(dH.start (ho.aO hal)).aO f)
 have HO:=ah ho;clear ho
 have AL:=ah hal;clear hal
 by_cases hm:f_ (bG v0 v1 v2 v3)
 ·obtain⟨i0,i1,i2,i3⟩:=RS v0 v1 v2 v3
  have hbd:=JE hm
  have HB:=ah (show kF v0∧kF v1∧kF v2∧kF v3∧True from⟨⟨by omega,by omega⟩,⟨by omega,by omega⟩,⟨by omega,by omega⟩,⟨by omega,by omega⟩,trivial⟩)
  have RU:=ah HB.out.1
  have RV:=ah HB.out.2.1
  have Fv:=ah HB.out.2.2.1
  have RX:=ah HB.out.2.2.2.1
  have jo:=ah (show(bD v0).length≤10 from iq (by omega) (by omega))
  have pK:=ah (show(bD v1).length≤10 from iq (by omega) (by omega))
  have HL2:=ah (show(bD v2).length≤10 from iq (by omega) (by omega))
  have HM:=ah hm;clear hm hbd
  go_enter Tryz.func71,Tryz.ntmps71
  go_wp2_with(go_at_call 124;refine(eH.out _).mono ?_;rintro e w1 ⟨hf1,h1,-⟩;obtain⟨u',he,hown,-⟩:=h1 HM.out;subst he;obtain⟨aF,cF,rfl⟩:=hown.rd.sl;clear hown h1;generalize (eU (bG v0 v1 v2 v3)).length=nF at*;have hb1:=hf1.blk aQ.out id;have y0:=aC hb1 0 rfl;have y1:=aC hb1 1 rfl;have y2:=aC hb1 2 rfl;have y3:=aC hb1 3 rfl;have yl:=lt_of_block hb1;have sU:=ah (xR.out w1 hf1);clear hf1 hb1)
  clear y0 y1 y2 y3 yl
  go_loopw [17] (fun i ww=>∃(k:Nat) (cs:List UInt8),((k=0∧cs=[])∨(k=1∧cs=bD v0)∨(k=2∧cs=bD v0++bD v1)∨(k=3∧cs=bD v0++bD v1++bD v2)∨(k=4∧cs=bD v0++bD v1++bD v2++bD v3))∧i= .int .i64 k∧dH (w.alloc (.cells #[.int .i64 v0, .int .i64 v1, .int .i64 v2, .int .i64 v3] 25)) ob v bs cs ww) (fun i _=>4-(intOf i).toNat)
  case atStart=>exact⟨0,[], .inl ⟨rfl,rfl⟩,rfl,sU.out⟩
  case round=>
   obtain⟨k,cs,hcase,rfl,hp⟩:=hrel
   have HP:=ah hp;clear hp
   rcases hcase with⟨rfl,rfl⟩|⟨rfl,rfl⟩|⟨rfl,rfl⟩|⟨rfl,rfl⟩|⟨rfl,rfl⟩
   ·go_wp2_with(go_at_call 70;refine(jW HP.out v0 (by first|exact RU.out|exact⟨by omega,by omega⟩) (by have h0:=jo.out;have h1:=pK.out;have h2:=HL2.out;(try simp only[List.length_append,List.length_nil]);omega)).mono ?_;rintro e w5 ⟨rfl,fQ⟩;have jF:=ah fQ;clear fQ)
    go_roundw
    case rel=>exact⟨1,_, .inr (.inl ⟨rfl,rfl⟩),by go_num,jF.out.cast (by rw[List.nil_append])⟩
    case measure=>simp[intOf]
   ·go_wp2_with(go_at_call 70;refine(jW HP.out v1 (by first|exact RV.out|exact⟨by omega,by omega⟩) (by have h0:=jo.out;have h1:=pK.out;have h2:=HL2.out;(try simp only[List.length_append,List.length_nil]);omega)).mono ?_;rintro e w5 ⟨rfl,fQ⟩;have jF:=ah fQ;clear fQ)
    go_roundw
    case rel=>exact⟨2,_, .inr (.inr (.inl ⟨rfl,rfl⟩)),by go_num,jF.out⟩
    case measure=>simp[intOf]
   ·go_wp2_with(go_at_call 70;refine(jW HP.out v2 (by first|exact Fv.out|exact⟨by omega,by omega⟩) (by have h0:=jo.out;have h1:=pK.out;have h2:=HL2.out;(try simp only[List.length_append,List.length_nil]);omega)).mono ?_;rintro e w5 ⟨rfl,fQ⟩;have jF:=ah fQ;clear fQ)
    go_roundw
    case rel=>exact⟨3,_, .inr (.inr (.inr (.inl ⟨rfl,rfl⟩))),by go_num,jF.out⟩
    case measure=>simp[intOf]
   ·go_wp2_with(go_at_call 70;refine(jW HP.out v3 (by first|exact RX.out|exact⟨by omega,by omega⟩) (by have h0:=jo.out;have h1:=pK.out;have h2:=HL2.out;(try simp only[List.length_append,List.length_nil]);omega)).mono ?_;rintro e w5 ⟨rfl,fQ⟩;have jF:=ah fQ;clear fQ)
    go_roundw
    case rel=>exact⟨4,_, .inr (.inr (.inr (.inr (⟨rfl,rfl⟩)))),by go_num,jF.out⟩
    case measure=>simp[intOf]
   ·go_wp2
    go_end0
    exact⟨rfl,fun _=>(HP.out.base AL.out).cast (by unfold iZ;simp only[List.append_assoc]),fun h=>absurd HM.out h⟩
 ·obtain⟨i0,i1,i2,i3⟩:=RS 0 0 0 0
  have jo:=ah (show(bD 0).length≤10 from iq (by omega) (by omega))
  have pK:=ah (show(bD 0).length≤10 from iq (by omega) (by omega))
  have HL2:=ah (show(bD 0).length≤10 from iq (by omega) (by omega))
  have HM:=ah hm;clear hm
  go_enter Tryz.func71,Tryz.ntmps71
  go_wp2_with(go_at_call 124;refine(eH.out _).mono ?_;rintro e w1 ⟨hf1,-,h1⟩;have he:=h1 HM.out;subst he;clear h1;have hb1:=hf1.blk aQ.out id;have y0:=aC hb1 0 rfl;have y1:=aC hb1 1 rfl;have y2:=aC hb1 2 rfl;have y3:=aC hb1 3 rfl;have f0:=bf hb1 0;have f1:=bf hb1 1;have f2:=bf hb1 2;have f3:=bf hb1 3;have yl:=lt_of_block hb1;have HW1:=ah (AL.out.au hf1);clear hf1 hb1)
  have hw2:aj ay w ((((w1.setCell ⟨w.heap.size,0,none⟩ (.int .i64 0)).setCell ⟨w.heap.size,1,none⟩ (.int .i64 0)).setCell ⟨w.heap.size,2,none⟩ (.int .i64 0)).setCell ⟨w.heap.size,3,none⟩ (.int .i64 0)):=HW1.out.trans (AB w1 w.heap.size _ _ _ _) fun i hi e=>by have e:i=w.heap.size:=e;omega
  clear y0 y1 y2 y3 f0 f1 f2 f3 yl
  generalize (((w1.setCell ⟨w.heap.size,0,none⟩ (.int .i64 0)).setCell ⟨w.heap.size,1,none⟩ (.int .i64 0)).setCell ⟨w.heap.size,2,none⟩ (.int .i64 0)).setCell ⟨w.heap.size,3,none⟩ (.int .i64 0)=W2 at*
  have HW2:=ah hw2
  have sU:=ah (dH.start (HO.out.aO hw2));clear hw2
  go_loopw [17] (fun i ww=>∃(k:Nat) (cs:List UInt8),((k=0∧cs=[])∨(k=1∧cs=bD 0)∨(k=2∧cs=bD 0++bD 0)∨(k=3∧cs=bD 0++bD 0++bD 0)∨(k=4∧cs=bD 0++bD 0++bD 0++bD 0))∧i= .int .i64 k∧dH W2 ob v bs cs ww) (fun i _=>4-(intOf i).toNat)
  case atStart=>exact⟨0,[], .inl ⟨rfl,rfl⟩,rfl,sU.out⟩
  case round=>
   obtain⟨k,cs,hcase,rfl,hp⟩:=hrel
   have HP:=ah hp;clear hp
   rcases hcase with⟨rfl,rfl⟩|⟨rfl,rfl⟩|⟨rfl,rfl⟩|⟨rfl,rfl⟩|⟨rfl,rfl⟩
   ·go_wp2_with(go_at_call 70;refine(jW HP.out 0 (by first|exact RU.out|exact⟨by omega,by omega⟩) (by have h0:=jo.out;have h1:=pK.out;have h2:=HL2.out;(try simp only[List.length_append,List.length_nil]);omega)).mono ?_;rintro e w5 ⟨rfl,fQ⟩;have jF:=ah fQ;clear fQ)
    go_roundw
    case rel=>exact⟨1,_, .inr (.inl ⟨rfl,rfl⟩),by go_num,jF.out.cast (by rw[List.nil_append])⟩
    case measure=>simp[intOf]
   ·go_wp2_with(go_at_call 70;refine(jW HP.out 0 (by first|exact RV.out|exact⟨by omega,by omega⟩) (by have h0:=jo.out;have h1:=pK.out;have h2:=HL2.out;(try simp only[List.length_append,List.length_nil]);omega)).mono ?_;rintro e w5 ⟨rfl,fQ⟩;have jF:=ah fQ;clear fQ)
    go_roundw
    case rel=>exact⟨2,_, .inr (.inr (.inl ⟨rfl,rfl⟩)),by go_num,jF.out⟩
    case measure=>simp[intOf]
   ·go_wp2_with(go_at_call 70;refine(jW HP.out 0 (by first|exact Fv.out|exact⟨by omega,by omega⟩) (by have h0:=jo.out;have h1:=pK.out;have h2:=HL2.out;(try simp only[List.length_append,List.length_nil]);omega)).mono ?_;rintro e w5 ⟨rfl,fQ⟩;have jF:=ah fQ;clear fQ)
    go_roundw
    case rel=>exact⟨3,_, .inr (.inr (.inr (.inl ⟨rfl,rfl⟩))),by go_num,jF.out⟩
    case measure=>simp[intOf]
   ·go_wp2_with(go_at_call 70;refine(jW HP.out 0 (by first|exact RX.out|exact⟨by omega,by omega⟩) (by have h0:=jo.out;have h1:=pK.out;have h2:=HL2.out;(try simp only[List.length_append,List.length_nil]);omega)).mono ?_;rintro e w5 ⟨rfl,fQ⟩;have jF:=ah fQ;clear fQ)
    go_roundw
    case rel=>exact⟨4,_, .inr (.inr (.inr (.inr (⟨rfl,rfl⟩)))),by go_num,jF.out⟩
    case measure=>simp[intOf]
   ·go_wp2
    go_end0
    exact⟨rfl,fun h=>absurd h HM.out,fun _=>(HP.out.base HW2.out).cast (by unfold iZ;simp only[List.append_assoc])⟩
open Go.RowKit
open Go.RowKit
open Go.RowKit
open Go.RowKit
open Go.RowKit
open Go.RowKit
open Go.RowKit
theorem RY {ops:Array Oper} {rest:List Oper} {o:Oper} {a:Act} {Q:Exit→Act→World→Prop} (w0 W:World) (hgd:o.guard=none) (s x:Operand)
 (ho:o.op= .call {callee:= .builtin .append,args:= #[s,x],argTypes:= #[22,22]}) (v:Value) (bs:List UInt8) (hp:Copy w0 v bs W) (xv:Value) (cs:List UInt8)
 (hv:a.eval s=v) (hx:a.eval x=xv) (hc:Rd W xv cs.length (bV cs)) (hl:bs.length+cs.length≤140737488355328)
 (h:∀ad c w' t,Hid (t=bs++cs)→Copy w0 (.slice ad t.length c) t w'→aj (fJ v) W w'→gK W v (.slice ad t.length c)→wpList Tryz.prog ops Q rest (a.put o.dst (.slice ad t.length c)) w'):
 wpList Tryz.prog ops Q (o::rest) a W:=
 Ji W hgd s x 22 ho v bs hp.own xv cs hv hx (hc.src Tryz.underlying22 (by simp) (MH _)) hl fun ad c w' own fm fr _=>by
  have hh:=h ad c w' (bs++cs) (ah rfl)
  rw[List.length_append]at hh
  exact hh (hp.app own rfl fm fr) fm fr
def Ret (W:World) (bs:List UInt8) (e:Ending) (w':World):Prop:=∃a c t,t=bs∧e= .returned (.slice a t.length c)∧Copy W (.slice a t.length c) t w'
open Go.RowKit
theorem aaD {c:aW} (hf:kE c):∀k,(mQ (c.take k)).length≤30*k:=fun k=>by
 have h:(mQ (c.take k)).length≤30*(c.take k).length:=Aa fun s hs=>by
  have hb:=hf s (List.mem_of_mem_take hs)
  have h1:=iq (v:=s.1) (by omega) (by omega)
  have h2:=iq (v:=s.2.1) (by omega) (by omega)
  have h3:=iq (v:=s.2.2) (by omega) (by omega)
  unfold encS
  simp only[List.length_append]
  omega
 have:=List.length_take_le k c
 exact Nat.le_trans h (Nat.mul_le_mul_left _ this)
theorem aaE {c:aW} {k:Nat} (h:k<c.length):mQ (c.take (k+1))=mQ (c.take k)++encS (c.getD k (0,0,0)):=by
 rw[take_succ (0,0,0) h]
 unfold mQ
 rw[List.flatMap_append]
 simp
noncomputable def ctxB (c:aW):List UInt8:=if tf (dw c)then jS c else jS []
theorem aaF:jS []=bD 0:=by unfold jS mQ;simp
theorem aaG (Q:Nat→Prop) (ob:Nat) (w:World) (v:Value) (bs:List UInt8) (cv:Value) (c:aW) (ho:iM w ob v bs) (hc:fC Q w cv c.length (eu c)) (hq:∀b,gX ob v b→¬Q b) (hf:kE c) (hl:c.length≤100000) (hb:bs.length≤80000000):
 Calls Tryz.prog 138 #[.pointer (some ⟨ob,0,none⟩),cv] w fun e w'=>e= .returned (.tuple #[])∧dH w ob v bs (ctxB c) w':=by
 have eF:=ah (zQ w cv c hc.rd hf hl)
 have HQ:=ah hq;clear hq
 have HC:=ah hc;clear hc
 have HF:=ah hf;clear hf
 have HO:=ah ho;clear ho
 obtain⟨aA,cA,rfl⟩:=HC.out.rd.sl
 unfold ctxB
 by_cases hr:dw c
 ·rw[bZ hr]at eF⊢
  clear hr
  have HE:=ah (aaD HF.out)
  have uo:=ah (show bD c.length++mQ (c.take c.length)=jS c by unfold jS;rw[List.take_length])
  generalize hn:c.length=n at*
  have HN:=ah hn;clear hn
  rw[if_pos rfl]
  go_enter Tryz.func138,Tryz.ntmps138
  go_wp2_with(first
   |(go_at_call 157;refine eF.out.mono ?_;rintro e w1 ⟨rfl,hw1⟩;have sU:=ah ((dH.start HO.out).aO hw1);clear hw1)
   |(go_at_call 70;refine(jW sU.out n ⟨by omega,by omega⟩ (by simp only[List.length_nil];omega)).mono ?_;rintro e w2 ⟨rfl,hp⟩;have HP:=ah hp;clear hp))
  go_loopw [15] (fun i ww=>∃k:Nat,k≤n∧i= .int .i64 k∧dH w ob v bs (bD n++mQ (c.take k)) ww) (fun i _=>n-(intOf i).toNat)
  case atStart=>exact⟨0,Nat.zero_le _,rfl,HP.out.cast (by simp[mQ])⟩
  case round=>
   obtain⟨k,hk,rfl,hp⟩:=hrel
   have iC:=ah hp;clear hp
   by_cases hlt:k<n
   ·have hlk:k<c.length:=by rw[HN.out];exact hlt
    have hrd:=HC.out.put HQ.out iC.out
    rcases Rd.shape hrd with⟨ad,he,h0⟩|⟨b,off,cc,he,hmax⟩
    ·exfalso;omega
    ·injection he with e1 e2 e3
     subst e1 e3
     clear e2
     obtain⟨q0,q1,q2⟩:=vM (c:=cA) (l:=c) (by unfold fZ;rw[HN.out];exact hrd) HN.out.symm k hlk
     clear hrd
     have hbf:=HF.out _ (getD_mem (0,0,0) hlk)
     have HST:=ah (aaE hlk)
     obtain⟨s,hgd⟩:∃s,s=c.getD k (0,0,0):=⟨_,rfl⟩
     rw[←hgd]at HST q0 q1 q2 hbf
     clear hgd
     have HEk:=ah (HE.out k)
     have RZ:(bD n).length≤10:=Af (by omega)
     have aaI:=ah RZ;clear RZ
     have qw:=ah hbf;clear hbf
     obtain⟨v',ho',hfr,hfm⟩:=iC.out
     have gI:=ah ho';clear ho'
     have lK:=ah hfr;clear hfr
     have zh:=ah hfm;clear hfm
     have hno:¬gX ob v' wr.heap.size:=fun h=>by have:=um gI.out _ h;omega
     have dK:=ah hno;clear hno
     have HB:=ah (dH.start (gI.out.aO (aj.alloc ay wr (.cells #[.int .i64 s.1, .int .i64 s.2.1, .int .i64 s.2.2] 144))))
     have hbl:(bs++(bD n++mQ (c.take k))).length≤83000010:=by
      have:=HEk.out
      have:=aaI.out
      simp only[List.length_append];omega
     have rC:=ah hbl;clear hbl
     have h1:=iq (v:=s.1) (by have:=qw.out;omega) (by have:=qw.out;omega)
     have h2:=iq (v:=s.2.1) (by have:=qw.out;omega) (by have:=qw.out;omega)
     have H1:=ah h1;clear h1
     have H2:=ah h2;clear h2
     go_wp2_with(first
      |(go_at_call 70;refine(jW iy.out s.2.2 qw.out.2.2.2.2 (by have h0:=rC.out;have h1:=H1.out;have h2:=H2.out;simp only[List.nil_append,List.length_append]at h0 h1 h2⊢;omega)).mono ?_;rintro e w5 ⟨rfl,fQ⟩;have jF:=ah fQ;clear fQ z2)
      |(go_at_call 70;refine(jW lH.out s.2.1 ⟨qw.out.2.2.1,qw.out.2.2.2.1⟩ (by have:=rC.out;have:=H1.out;simp only[List.nil_append];omega)).mono ?_;rintro e w4 ⟨rfl,kJ⟩;have z2:w4.cell? ⟨wr.heap.size,2,none⟩=some (.int .i64 s.2.2):=kJ.cell (aC (heap_alloc_new wr _) 2 rfl) dK.out;have iy:=ah kJ;clear kJ y1 y2 lH)
      |(go_at_call 70;refine(jW HB.out s.1 ⟨qw.out.1,qw.out.2.1⟩ (by have:=rC.out;simp only[List.length_nil];omega)).mono ?_;rintro e w3 ⟨rfl,hp3⟩;have y1:w3.cell? ⟨wr.heap.size,1,none⟩=some (.int .i64 s.2.1):=hp3.cell (aC (heap_alloc_new wr _) 1 rfl) dK.out;have y2:w3.cell? ⟨wr.heap.size,2,none⟩=some (.int .i64 s.2.2):=hp3.cell (aC (heap_alloc_new wr _) 2 rfl) dK.out;have lH:=ah hp3;clear hp3 HB))
     go_roundw
     case rel=>exact⟨k+1,by omega,by go_num,(dH.trans lK.out zh.out (jF.out.base (aj.alloc _ _ _))).cast (by rw[HST.out];unfold encS;simp only[List.append_assoc,List.nil_append])⟩
     case measure=>simp[intOf];omega
   ·obtain rfl:n=k:=by omega
    go_wp2
    go_end0
    exact⟨rfl,iC.out.cast uo.out⟩
 ·rw[aZ hr]at eF⊢
  clear hr
  rw[if_neg (by decide),aaF]
  go_enter Tryz.func138,Tryz.ntmps138
  go_wp2_with(first
   |(go_at_call 157;refine eF.out.mono ?_;rintro e w1 ⟨rfl,hw1⟩;have sU:=ah ((dH.start HO.out).aO hw1);clear hw1)
   |(go_at_call 70;refine(jW sU.out 0 ⟨by omega,by omega⟩ (by simp only[List.length_nil];omega)).mono ?_;rintro e w2 ⟨rfl,hp⟩;have HP:=ah hp;clear hp))
  go_loopw [15] (fun i ww=>i= .int .i64 0∧dH w ob v bs (bD 0) ww) (fun i _=>0)
  case atStart=>exact⟨rfl,HP.out⟩
  case round=>
   obtain⟨rfl,hp⟩:=hrel
   have iC:=ah hp;clear hp
   go_wp2
   go_end0
   exact⟨rfl,iC.out⟩
end Go.Proofs.YtabkpccdnkjoiaaGreat
