/- Words for the law MsgDecodes: BunGet, MsgDec0. -/
import Derived.Test.YtabkpccdnkjoiaaGreatMsgDecodesG0
import Derived.Test.YtabkpccdnkjoiaaGreatMsgDecodesG11
import Derived.Test.YtabkpccdnkjoiaaGreatMsgDecodesG18
import Derived.Test.YtabkpccdnkjoiaaGreatMsgDecodesG23
import Derived.Test.YtabkpccdnkjoiaaGreatMsgDecodesG28
import Derived.Test.YtabkpccdnkjoiaaGreatMsgDecodesG33
set_option linter.unusedSimpArgs false
set_option linter.unusedVariables false
set_option maxHeartbeats 32000000
set_option maxRecDepth 1000000
namespace Go.Proofs.YtabkpccdnkjoiaaGreat
open Go.RowKit
theorem Ea (w:World) (b:Nat) (x0 x1 x2 x3 x4 x5 x6 x7 x8 x9:Value):aj (Only b) w (((((((((((w).setCell ⟨b,0,none⟩ (x0)).setCell ⟨b,1,none⟩ (x1)).setCell ⟨b,2,none⟩ (x2)).setCell ⟨b,3,none⟩ (x3)).setCell ⟨b,4,none⟩ (x4)).setCell ⟨b,5,none⟩ (x5)).setCell ⟨b,6,none⟩ (x6)).setCell ⟨b,7,none⟩ (x7)).setCell ⟨b,8,none⟩ (x8)).setCell ⟨b,9,none⟩ (x9)):=
 (((zI w b x0 x1 x2 x3).trans ((((dG _ b 4 x4).trans (dG _ b 5 x5) fun _ _ h=>h).trans (dG _ b 6 x6) fun _ _ h=>h).trans (dG _ b 7 x7) fun _ _ h=>h) fun _ _ h=>h).trans (dG _ b 8 x8) fun _ _ h=>h).trans (dG _ b 9 x9) fun _ _ h=>h
theorem Gz {w:World} {b:Nat} {a0 a1 a2 a3 a4 a5 a6 a7 a8 a9:Value} {T:TypeId} (h:w.heap[b]?=some (.cells #[a0,a1,a2,a3,a4,a5,a6,a7,a8,a9] T (0,0))) (x0 x1 x2 x3 x4 x5 x6 x7 x8 x9:Value) (W:World) (hW:W=((((((((((w).setCell ⟨b,0,none⟩ (x0)).setCell ⟨b,1,none⟩ (x1)).setCell ⟨b,2,none⟩ (x2)).setCell ⟨b,3,none⟩ (x3)).setCell ⟨b,4,none⟩ (x4)).setCell ⟨b,5,none⟩ (x5)).setCell ⟨b,6,none⟩ (x6)).setCell ⟨b,7,none⟩ (x7)).setCell ⟨b,8,none⟩ (x8)).setCell ⟨b,9,none⟩ (x9)):
 W.heap[b]?=some (.cells #[x0,x1,x2,x3,x4,x5,x6,x7,x8,x9] T (0,0)):=by
 subst hW
 have e0:((w).setCell ⟨b,0,none⟩ (x0)).heap[b]?=some (.cells #[x0,a1,a2,a3,a4,a5,a6,a7,a8,a9] T (0,0)):=bC h 0 x0
 have e1:(((w).setCell ⟨b,0,none⟩ (x0)).setCell ⟨b,1,none⟩ (x1)).heap[b]?=some (.cells #[x0,x1,a2,a3,a4,a5,a6,a7,a8,a9] T (0,0)):=bC e0 1 x1
 have e2:((((w).setCell ⟨b,0,none⟩ (x0)).setCell ⟨b,1,none⟩ (x1)).setCell ⟨b,2,none⟩ (x2)).heap[b]?=some (.cells #[x0,x1,x2,a3,a4,a5,a6,a7,a8,a9] T (0,0)):=bC e1 2 x2
 have e3:(((((w).setCell ⟨b,0,none⟩ (x0)).setCell ⟨b,1,none⟩ (x1)).setCell ⟨b,2,none⟩ (x2)).setCell ⟨b,3,none⟩ (x3)).heap[b]?=some (.cells #[x0,x1,x2,x3,a4,a5,a6,a7,a8,a9] T (0,0)):=bC e2 3 x3
 have e4:((((((w).setCell ⟨b,0,none⟩ (x0)).setCell ⟨b,1,none⟩ (x1)).setCell ⟨b,2,none⟩ (x2)).setCell ⟨b,3,none⟩ (x3)).setCell ⟨b,4,none⟩ (x4)).heap[b]?=some (.cells #[x0,x1,x2,x3,x4,a5,a6,a7,a8,a9] T (0,0)):=bC e3 4 x4
 have e5:(((((((w).setCell ⟨b,0,none⟩ (x0)).setCell ⟨b,1,none⟩ (x1)).setCell ⟨b,2,none⟩ (x2)).setCell ⟨b,3,none⟩ (x3)).setCell ⟨b,4,none⟩ (x4)).setCell ⟨b,5,none⟩ (x5)).heap[b]?=some (.cells #[x0,x1,x2,x3,x4,x5,a6,a7,a8,a9] T (0,0)):=bC e4 5 x5
 have e6:((((((((w).setCell ⟨b,0,none⟩ (x0)).setCell ⟨b,1,none⟩ (x1)).setCell ⟨b,2,none⟩ (x2)).setCell ⟨b,3,none⟩ (x3)).setCell ⟨b,4,none⟩ (x4)).setCell ⟨b,5,none⟩ (x5)).setCell ⟨b,6,none⟩ (x6)).heap[b]?=some (.cells #[x0,x1,x2,x3,x4,x5,x6,a7,a8,a9] T (0,0)):=bC e5 6 x6
 have e7:(((((((((w).setCell ⟨b,0,none⟩ (x0)).setCell ⟨b,1,none⟩ (x1)).setCell ⟨b,2,none⟩ (x2)).setCell ⟨b,3,none⟩ (x3)).setCell ⟨b,4,none⟩ (x4)).setCell ⟨b,5,none⟩ (x5)).setCell ⟨b,6,none⟩ (x6)).setCell ⟨b,7,none⟩ (x7)).heap[b]?=some (.cells #[x0,x1,x2,x3,x4,x5,x6,x7,a8,a9] T (0,0)):=bC e6 7 x7
 have e8:((((((((((w).setCell ⟨b,0,none⟩ (x0)).setCell ⟨b,1,none⟩ (x1)).setCell ⟨b,2,none⟩ (x2)).setCell ⟨b,3,none⟩ (x3)).setCell ⟨b,4,none⟩ (x4)).setCell ⟨b,5,none⟩ (x5)).setCell ⟨b,6,none⟩ (x6)).setCell ⟨b,7,none⟩ (x7)).setCell ⟨b,8,none⟩ (x8)).heap[b]?=some (.cells #[x0,x1,x2,x3,x4,x5,x6,x7,x8,a9] T (0,0)):=bC e7 8 x8
 have e9:(((((((((((w).setCell ⟨b,0,none⟩ (x0)).setCell ⟨b,1,none⟩ (x1)).setCell ⟨b,2,none⟩ (x2)).setCell ⟨b,3,none⟩ (x3)).setCell ⟨b,4,none⟩ (x4)).setCell ⟨b,5,none⟩ (x5)).setCell ⟨b,6,none⟩ (x6)).setCell ⟨b,7,none⟩ (x7)).setCell ⟨b,8,none⟩ (x8)).setCell ⟨b,9,none⟩ (x9)).heap[b]?=some (.cells #[x0,x1,x2,x3,x4,x5,x6,x7,x8,x9] T (0,0)):=bC e8 9 x9
 exact e9
def Xz (b:dL) (s:Option (List UInt8)) (ib:Nat) (w:World) (e:Ending) (w':World):Prop:=
 ∃ev kv cv,e= .returned (.agg #[.int .i64 b.dc, .int .i64 b.af, .int .i64 b.la, .int .i64 b.v0, .int .i64 b.v1, .int .i64 b.v2, .int .i64 b.v3,ev,kv,cv])∧dh (fun b=>w.heap.size≤b) w' ev kv b.es b.ks∧dP (fun b=>w.heap.size≤b) w' cv b.c∧dJ w' ib s∧aj (Only ib) w w'
structure GB (w W:World) (ib:Nat) (t:Option (List UInt8)) (B:Nat) (cs:Array Value):Prop where
 ins:dJ W ib t
 arr:W.heap[B]?=some (.cells cs 59 (0,0))
 res:W.heap[w.heap.size]?=some (.cells #[.int .i64 0, .int .i64 0, .int .i64 0, .int .i64 0, .int .i64 0, .int .i64 0, .int .i64 0, .slice none 0 0, .slice none 0 0, .slice none 0 0] 59 (0,0))
 aH:aj (Only ib) w W
 hib:ib<w.heap.size
 hB:w.heap.size<B
theorem GB.call {w W W1:World} {ib B:Nat} {t t':Option (List UInt8)} {cs:Array Value} (h:GB w W ib t B cs) (hi:dJ W1 ib t') (f:aj (Only ib) W W1):GB w W1 ib t' B cs:=
 ⟨hi,f.blk h.arr fun e=>(by have e:B=ib:=e;have:=h.hib;have:=h.hB;omega),f.blk h.res fun e=>(by have e:w.heap.size=ib:=e;have:=h.hib;omega),h.aH.trans f fun _ _ s=>s,h.hib,h.hB⟩
theorem GB.set {w W:World} {ib B:Nat} {t:Option (List UInt8)} {cs:Array Value} (h:GB w W ib t B cs) (j:Nat) (u:Value):GB w (W.setCell ⟨B,j,none⟩ u) ib t B (cs.setIfInBounds j u):=
 have f:=dG W B j u
 ⟨h.ins.keep f fun k hk e=>(by have e:k=B:=e;have:=h.hib;have:=h.hB;omega),bC h.arr j u,f.blk h.res fun e=>(by have e:w.heap.size=B:=e;have:=h.hB;omega),h.aH.trans f fun i hi e=>(by have e:i=B:=e;have:=h.hB;omega),h.hib,h.hB⟩
theorem GB.out {w W:World} {ib B:Nat} {s:Option (List UInt8)} {cs:Array Value} {ev kv cv:Value} (h:GB w W ib s B cs) (b:dL) (ht:dh (fun b=>w.heap.size<b) W ev kv b.es b.ks) (hx:dP (fun b=>w.heap.size<b) W cv b.c) (W':World) (f:aj (Only w.heap.size) W W'):
 Xz b s ib w (.returned (.agg #[.int .i64 b.dc, .int .i64 b.af, .int .i64 b.la, .int .i64 b.v0, .int .i64 b.v1, .int .i64 b.v2, .int .i64 b.v3,ev,kv,cv])) W':=
 have turn:∀k,k<W.heap.size→w.heap.size<k→W'.heap[k]?=W.heap[k]?∧w.heap.size≤k:=fun k hk hQ=>⟨f.block k hk fun e=>(by have e:k=w.heap.size:=e;omega),Nat.le_of_lt hQ⟩
 ⟨ev,kv,cv,rfl,ht.turn turn,eH.turn hx turn,h.ins.keep f fun k hk e=>(by have e:k=w.heap.size:=e;have:=h.hib;omega),h.aH.trans f fun i hi e=>(by have e:i=w.heap.size:=e;omega)⟩
theorem aes (ib:Nat) (st s:Option (List UInt8)) (b:dL) (w:World) (hc:jT st b s) (h:dJ w ib st) (hl:(leftOf st).length≤60000) (hfit:xX st):
 Calls Tryz.prog 59 #[.pointer (some ⟨ib,0,none⟩)] w (Xz b s ib w):=by
 obtain⟨dc,t1,g1⟩:=dw.total st 4
 obtain⟨af,t2,g2⟩:=dw.total t1 1099511627776
 obtain⟨la,t3,g3⟩:=dw.total t2 1099511627776
 obtain⟨v0,v1,v2,v3,t4,g4⟩:=kD.total t3
 obtain⟨es,ks,c,t5,g5⟩:=kW.total t4
 have hl4:(leftOf t4).length≤60000:=by
  have q1:=g1.left
  have q2:=g2.left
  have q3:=g3.left
  have q4:=g4.left
  omega
 have hf4:=hfit 4 1099511627776 _ _ _ _ _ _ _ _ _ _ _ (by decide) (by decide) (by decide) (by decide) g1 g2 g3 g4
 have hok:=hf4.ok g5
 have hlt:=h.lt
 have HI0:=ah (h.keep (aj.alloc ay w (.cells #[.int .i64 0, .int .i64 0, .int .i64 0, .int .i64 0, .int .i64 0, .int .i64 0, .int .i64 0, .slice none 0 0, .slice none 0 0, .slice none 0 0] 59)) fun _ _=>id)
 have HB0:=ah (heap_alloc_new w (.cells #[.int .i64 0, .int .i64 0, .int .i64 0, .int .i64 0, .int .i64 0, .int .i64 0, .int .i64 0, .slice none 0 0, .slice none 0 0, .slice none 0 0] 59))
 have qG:=ah ((aj.alloc ay w (.cells #[.int .i64 0, .int .i64 0, .int .i64 0, .int .i64 0, .int .i64 0, .int .i64 0, .int .i64 0, .slice none 0 0, .slice none 0 0, .slice none 0 0] 59)).mono (T:=Only ib) fun _ _ s=>s.elim)
 have nV:=ah hlt;clear hlt h hl
 have HC:=ah hc;clear hc
 have fZ:=ah g1
 have HG2:=ah g2
 have gW:=ah g3
 have HV:=ah (fun W (hi:dJ W ib t3)=>VT ib t3 t4 v0 v1 v2 v3 W g4 hi)
 have HX:=ah (fun W (hi:dJ W ib t4)=>Dy ib t4 t5 es ks c W g5 hi hl4 hf4)
 have dU:=ah (fun W Q ev kv cv (h:gK Q W ev kv cv es ks c)=>MN Q es ks c W dc af la v0 v1 v2 v3 ev kv cv h hok)
 have pq:=ah (fun hb=>UJ (m1:=4) (m2:=1099511627776) (by decide) (by decide) (by decide) (by decide) (b:=⟨dc,af,la,v0,v1,v2,v3,es,ks,c⟩) g1 g2 g3 g4 g5 hb)
 have yB:=ah (fun(r:List UInt8) (e:t5=some r) hr=>UH (b:=⟨dc,af,la,v0,v1,v2,v3,es,ks,c⟩) g1 g2 g3 g4 (e▸g5) hr)
 clear g1 g2 g3 g4 g5 hok hl4 hf4 hfit
 cases t5 with
 |none=>
  obtain⟨rfl,rfl⟩:=HC.out.b_ (pq.out (.inl rfl))
  clear dU pq yB
  ·go_enter Tryz.func59,Tryz.ntmps59
   go_wp2_with(first
    |(go_at_call 56;first
     |(refine(lG ib t2 1099511627776 la t3 _ HI2.out gW.out (by omega) (by omega)).mono ?_;rintro e w3 ⟨rfl,hi3,hf3⟩
       have hn:w.heap.size<w3.heap.size:=by have h1:=lt_of_block (((vT.out.trans hf3 fun _ _ h=>h).blk HB0.out fun e=>by have e:w.heap.size=ib:=e;have:=nV.out;omega));exact h1
       have jl:=ah (show GB w (w3.alloc (.cells #[.int .i64 dc, .int .i64 af, .int .i64 la, .int .i64 0, .int .i64 0, .int .i64 0, .int .i64 0, .slice none 0 0, .slice none 0 0, .slice none 0 0] 59)) ib t3 w3.heap.size #[.int .i64 dc, .int .i64 af, .int .i64 la, .int .i64 0, .int .i64 0, .int .i64 0, .int .i64 0, .slice none 0 0, .slice none 0 0, .slice none 0 0]from
        ⟨hi3.keep (aj.alloc ay w3 _) fun _ _=>id,heap_alloc_new w3 _,(aj.alloc ay w3 _).blk ((vT.out.trans hf3 fun _ _ h=>h).blk HB0.out fun e=>(by have e:w.heap.size=ib:=e;have:=nV.out;omega)) id,((qG.out.trans vT.out fun _ _ h=>h).trans hf3 fun _ _ h=>h).trans (aj.alloc ay w3 _) fun _ _ s=>s.elim,nV.out,hn⟩)
       clear hi3 hf3)
     |(refine(lG ib t1 1099511627776 af t2 _ HI1.out HG2.out (by omega) (by omega)).mono ?_;rintro e w2 ⟨rfl,hi2,hf2⟩;have HI2:=ah hi2;have vT:=ah (bg.out.trans hf2 fun _ _ h=>h);clear hi2 hf2)
     |(refine(lG ib st 4 dc t1 _ HI0.out fZ.out (by omega) (by omega)).mono ?_;rintro e w1 ⟨rfl,hi1,hf1⟩;have HI1:=ah hi1;have bg:=ah hf1;clear hi1 hf1))
    |(go_at_call 57;refine(HV.out _ jl.out.ins).mono ?_;rintro e w4 ⟨rfl,hi4,hf4⟩
      have zQ:GB w ((w4).setCell ⟨w3.heap.size,3,none⟩ (.int .i64 v0)) ib t4 w3.heap.size #[.int .i64 dc, .int .i64 af, .int .i64 la, .int .i64 v0, .int .i64 0, .int .i64 0, .int .i64 0, .slice none 0 0, .slice none 0 0, .slice none 0 0]:=(jl.out.call hi4 hf4).set 3 (.int .i64 v0)
      have zS:GB w (((w4).setCell ⟨w3.heap.size,3,none⟩ (.int .i64 v0)).setCell ⟨w3.heap.size,4,none⟩ (.int .i64 v1)) ib t4 w3.heap.size #[.int .i64 dc, .int .i64 af, .int .i64 la, .int .i64 v0, .int .i64 v1, .int .i64 0, .int .i64 0, .slice none 0 0, .slice none 0 0, .slice none 0 0]:=zQ.set 4 (.int .i64 v1)
      have zT:GB w ((((w4).setCell ⟨w3.heap.size,3,none⟩ (.int .i64 v0)).setCell ⟨w3.heap.size,4,none⟩ (.int .i64 v1)).setCell ⟨w3.heap.size,5,none⟩ (.int .i64 v2)) ib t4 w3.heap.size #[.int .i64 dc, .int .i64 af, .int .i64 la, .int .i64 v0, .int .i64 v1, .int .i64 v2, .int .i64 0, .slice none 0 0, .slice none 0 0, .slice none 0 0]:=zS.set 5 (.int .i64 v2)
      have zU:GB w (((((w4).setCell ⟨w3.heap.size,3,none⟩ (.int .i64 v0)).setCell ⟨w3.heap.size,4,none⟩ (.int .i64 v1)).setCell ⟨w3.heap.size,5,none⟩ (.int .i64 v2)).setCell ⟨w3.heap.size,6,none⟩ (.int .i64 v3)) ib t4 w3.heap.size #[.int .i64 dc, .int .i64 af, .int .i64 la, .int .i64 v0, .int .i64 v1, .int .i64 v2, .int .i64 v3, .slice none 0 0, .slice none 0 0, .slice none 0 0]:=zT.set 6 (.int .i64 v3)
      have eG:=ah zU
      clear zQ zS zT zU
      have z3:=au (jl.out.call hi4 hf4).arr 3 rfl
      have f3:=aG (jl.out.call hi4 hf4).arr 3
      have z4:=au (jl.out.call hi4 hf4).arr 4 rfl
      have f4:=aG (jl.out.call hi4 hf4).arr 4
      have z5:=au (jl.out.call hi4 hf4).arr 5 rfl
      have f5:=aG (jl.out.call hi4 hf4).arr 5
      have z6:=au (jl.out.call hi4 hf4).arr 6 rfl
      have f6:=aG (jl.out.call hi4 hf4).arr 6
      have zl:=lt_of_block (jl.out.call hi4 hf4).arr
      clear hi4 hf4)
    |(go_at_call 60;refine(HX.out _ eG.out.ins).mono ?_;rintro e w5 ⟨ev,kv,cv,rfl,hta,hrc,hi5,hf5⟩;obtain⟨a3,c3,rfl⟩:=hta.ents.rd.sl;obtain⟨os3,fE,-⟩:=hta.kids;obtain⟨a4,c4,rfl⟩:=fE.rd.sl;obtain⟨a5,c5,rfl⟩:=hrc.at_.sl;clear fE z3 z4 z5 z6 f3 f4 f5 f6 zl
      have hb5:=lt_of_block eG.out.arr
      have zV:GB w ((w5).setCell ⟨w3.heap.size,7,none⟩ (.slice a3 es.length c3)) ib none w3.heap.size #[.int .i64 dc, .int .i64 af, .int .i64 la, .int .i64 v0, .int .i64 v1, .int .i64 v2, .int .i64 v3, .slice a3 es.length c3, .slice none 0 0, .slice none 0 0]:=(eG.out.call hi5 hf5).set 7 (.slice a3 es.length c3)
      have zW:GB w (((w5).setCell ⟨w3.heap.size,7,none⟩ (.slice a3 es.length c3)).setCell ⟨w3.heap.size,8,none⟩ (.slice a4 ks.len c4)) ib none w3.heap.size #[.int .i64 dc, .int .i64 af, .int .i64 la, .int .i64 v0, .int .i64 v1, .int .i64 v2, .int .i64 v3, .slice a3 es.length c3, .slice a4 ks.len c4, .slice none 0 0]:=zV.set 8 (.slice a4 ks.len c4)
      have zX:GB w ((((w5).setCell ⟨w3.heap.size,7,none⟩ (.slice a3 es.length c3)).setCell ⟨w3.heap.size,8,none⟩ (.slice a4 ks.len c4)).setCell ⟨w3.heap.size,9,none⟩ (.slice a5 c.length c5)) ib none w3.heap.size #[.int .i64 dc, .int .i64 af, .int .i64 la, .int .i64 v0, .int .i64 v1, .int .i64 v2, .int .i64 v3, .slice a3 es.length c3, .slice a4 ks.len c4, .slice a5 c.length c5]:=zW.set 9 (.slice a5 c.length c5)
      have uT:=ah zX
      clear zV zW zX
      have hft:aj (Only w3.heap.size) w5 ((((w5).setCell ⟨w3.heap.size,7,none⟩ (.slice a3 es.length c3)).setCell ⟨w3.heap.size,8,none⟩ (.slice a4 ks.len c4)).setCell ⟨w3.heap.size,9,none⟩ (.slice a5 c.length c5)):=((dG w5 _ 7 _).trans (dG _ _ 8 _) fun _ _ h=>h).trans (dG _ _ 9 _) fun _ _ h=>h
      have hB:=eG.out.hB
      have turn:∀k,k<w5.heap.size→(((((w4).setCell ⟨w3.heap.size,3,none⟩ (.int .i64 v0)).setCell ⟨w3.heap.size,4,none⟩ (.int .i64 v1)).setCell ⟨w3.heap.size,5,none⟩ (.int .i64 v2)).setCell ⟨w3.heap.size,6,none⟩ (.int .i64 v3)).heap.size≤k→((((w5).setCell ⟨w3.heap.size,7,none⟩ (.slice a3 es.length c3)).setCell ⟨w3.heap.size,8,none⟩ (.slice a4 ks.len c4)).setCell ⟨w3.heap.size,9,none⟩ (.slice a5 c.length c5)).heap[k]?=w5.heap[k]?∧w.heap.size<k:=fun k hk hQ=>⟨hft.block k hk fun e=>(by have e:k=w3.heap.size:=e;subst e;exact absurd (Nat.lt_of_lt_of_le hb5 hQ) (Nat.lt_irrefl _)),Nat.lt_trans hB (Nat.lt_of_lt_of_le hb5 hQ)⟩
      have gV:=ah (hta.turn turn)
      have gU:=ah (show dP (fun k=>w.heap.size<k) _ (.slice a5 c.length c5) c from eH.turn hrc turn)
      have z7:=au (eG.out.call hi5 hf5).arr 7 rfl
      have f7:=aG (eG.out.call hi5 hf5).arr 7
      have z8:=au (eG.out.call hi5 hf5).arr 8 rfl
      have f8:=aG (eG.out.call hi5 hf5).arr 8
      have z9:=au (eG.out.call hi5 hf5).arr 9 rfl
      have f9:=aG (eG.out.call hi5 hf5).arr 9
      have zl:=lt_of_block (eG.out.call hi5 hf5).arr
      have z0:w5.cell? ⟨w3.heap.size,0,none⟩=some (.int .i64 dc):=au (eG.out.call hi5 hf5).arr 0 rfl
      have z1:w5.cell? ⟨w3.heap.size,1,none⟩=some (.int .i64 af):=au (eG.out.call hi5 hf5).arr 1 rfl
      have z2:w5.cell? ⟨w3.heap.size,2,none⟩=some (.int .i64 la):=au (eG.out.call hi5 hf5).arr 2 rfl
      have z3:w5.cell? ⟨w3.heap.size,3,none⟩=some (.int .i64 v0):=au (eG.out.call hi5 hf5).arr 3 rfl
      have z4:w5.cell? ⟨w3.heap.size,4,none⟩=some (.int .i64 v1):=au (eG.out.call hi5 hf5).arr 4 rfl
      have z5:w5.cell? ⟨w3.heap.size,5,none⟩=some (.int .i64 v2):=au (eG.out.call hi5 hf5).arr 5 rfl
      have z6:w5.cell? ⟨w3.heap.size,6,none⟩=some (.int .i64 v3):=au (eG.out.call hi5 hf5).arr 6 rfl
      clear hft hta hrc hi5 hf5 turn hb5 hB
      generalize es.length=n at*
      generalize ks.len=m at*
      generalize c.length=k at*)
    |(go_at_call 58;refine(oN ib _ _ uT.out.ins).mono ?_;rintro e w6 ⟨rfl,rfl⟩)
    |(go_at_call 123;obtain⟨a,c,hh⟩:=uT.out.ins.heap;refine(pG ib _ _ _ hh).mono ?_;rintro e w8 ⟨rfl,lq,cZ⟩
      clear z0 z1 z2 z3 z4 z5 z6 z7 z8 z9 f7 f8 f9 zl
      have gq:=ah (uT.out.call (show dJ w8 ib none from lq) cZ)
      clear lq cZ hh
      have y0:=au gq.out.res 0 rfl
      have g0:=aG gq.out.res 0
      have y1:=au gq.out.res 1 rfl
      have g1:=aG gq.out.res 1
      have y2:=au gq.out.res 2 rfl
      have g2:=aG gq.out.res 2
      have y3:=au gq.out.res 3 rfl
      have g3:=aG gq.out.res 3
      have y4:=au gq.out.res 4 rfl
      have g4:=aG gq.out.res 4
      have y5:=au gq.out.res 5 rfl
      have g5:=aG gq.out.res 5
      have y6:=au gq.out.res 6 rfl
      have g6:=aG gq.out.res 6
      have y7:=au gq.out.res 7 rfl
      have g7:=aG gq.out.res 7
      have y8:=au gq.out.res 8 rfl
      have g8:=aG gq.out.res 8
      have y9:=au gq.out.res 9 rfl
      have g9:=aG gq.out.res 9
      have yl:=lt_of_block gq.out.res))
   clear y0 g0 y1 g1 y2 g2 y3 g3 y4 g4 y5 g5 y6 g6 y7 g7 y8 g8 y9 g9 yl
   have dW:=Gz gq.out.res (.int .i64 0) (.int .i64 0) (.int .i64 0) (.int .i64 0) (.int .i64 0) (.int .i64 0) (.int .i64 0) (.slice none 0 0) (.slice none 0 0) (.slice none 0 0) _ rfl
   have y0:=au dW 0 rfl
   have y1:=au dW 1 rfl
   have y2:=au dW 2 rfl
   have y3:=au dW 3 rfl
   have y4:=au dW 4 rfl
   have y5:=au dW 5 rfl
   have y6:=au dW 6 rfl
   have y7:=au dW 7 rfl
   have y8:=au dW 8 rfl
   have y9:=au dW 9 rfl
   exact bodyPost_ret (v:= .agg #[.int .i64 0, .int .i64 0, .int .i64 0, .int .i64 0, .int .i64 0, .int .i64 0, .int .i64 0, .slice none 0 0, .slice none 0 0, .slice none 0 0]) (by simp[results,Tryz.results59,go_sem,y0,y1,y2,y3,y4,y5,y6,y7,y8,y9]) rfl (gq.out.out dL.zero (tX _ _) (wK _ _) _ (Ea w8 _ _ _ _ _ _ _ _ _ _ _))
 |some r=>
  by_cases hr:nM dc af la (bP v0 v1 v2 v3) es ks c
  ·rw[dO hr]at dU
   obtain⟨rfl,rfl⟩:=HC.out.b_ (yB.out r rfl hr)
   clear hr pq yB
   go_enter Tryz.func59,Tryz.ntmps59
   go_wp2_with(first
    |(go_at_call 56;first
     |(refine(lG ib t2 1099511627776 la t3 _ HI2.out gW.out (by omega) (by omega)).mono ?_;rintro e w3 ⟨rfl,hi3,hf3⟩
       have hn:w.heap.size<w3.heap.size:=by have h1:=lt_of_block (((vT.out.trans hf3 fun _ _ h=>h).blk HB0.out fun e=>by have e:w.heap.size=ib:=e;have:=nV.out;omega));exact h1
       have jl:=ah (show GB w (w3.alloc (.cells #[.int .i64 dc, .int .i64 af, .int .i64 la, .int .i64 0, .int .i64 0, .int .i64 0, .int .i64 0, .slice none 0 0, .slice none 0 0, .slice none 0 0] 59)) ib t3 w3.heap.size #[.int .i64 dc, .int .i64 af, .int .i64 la, .int .i64 0, .int .i64 0, .int .i64 0, .int .i64 0, .slice none 0 0, .slice none 0 0, .slice none 0 0]from
        ⟨hi3.keep (aj.alloc ay w3 _) fun _ _=>id,heap_alloc_new w3 _,(aj.alloc ay w3 _).blk ((vT.out.trans hf3 fun _ _ h=>h).blk HB0.out fun e=>(by have e:w.heap.size=ib:=e;have:=nV.out;omega)) id,((qG.out.trans vT.out fun _ _ h=>h).trans hf3 fun _ _ h=>h).trans (aj.alloc ay w3 _) fun _ _ s=>s.elim,nV.out,hn⟩)
       clear hi3 hf3)
     |(refine(lG ib t1 1099511627776 af t2 _ HI1.out HG2.out (by omega) (by omega)).mono ?_;rintro e w2 ⟨rfl,hi2,hf2⟩;have HI2:=ah hi2;have vT:=ah (bg.out.trans hf2 fun _ _ h=>h);clear hi2 hf2)
     |(refine(lG ib st 4 dc t1 _ HI0.out fZ.out (by omega) (by omega)).mono ?_;rintro e w1 ⟨rfl,hi1,hf1⟩;have HI1:=ah hi1;have bg:=ah hf1;clear hi1 hf1))
    |(go_at_call 57;refine(HV.out _ jl.out.ins).mono ?_;rintro e w4 ⟨rfl,hi4,hf4⟩
      have zQ:GB w ((w4).setCell ⟨w3.heap.size,3,none⟩ (.int .i64 v0)) ib t4 w3.heap.size #[.int .i64 dc, .int .i64 af, .int .i64 la, .int .i64 v0, .int .i64 0, .int .i64 0, .int .i64 0, .slice none 0 0, .slice none 0 0, .slice none 0 0]:=(jl.out.call hi4 hf4).set 3 (.int .i64 v0)
      have zS:GB w (((w4).setCell ⟨w3.heap.size,3,none⟩ (.int .i64 v0)).setCell ⟨w3.heap.size,4,none⟩ (.int .i64 v1)) ib t4 w3.heap.size #[.int .i64 dc, .int .i64 af, .int .i64 la, .int .i64 v0, .int .i64 v1, .int .i64 0, .int .i64 0, .slice none 0 0, .slice none 0 0, .slice none 0 0]:=zQ.set 4 (.int .i64 v1)
      have zT:GB w ((((w4).setCell ⟨w3.heap.size,3,none⟩ (.int .i64 v0)).setCell ⟨w3.heap.size,4,none⟩ (.int .i64 v1)).setCell ⟨w3.heap.size,5,none⟩ (.int .i64 v2)) ib t4 w3.heap.size #[.int .i64 dc, .int .i64 af, .int .i64 la, .int .i64 v0, .int .i64 v1, .int .i64 v2, .int .i64 0, .slice none 0 0, .slice none 0 0, .slice none 0 0]:=zS.set 5 (.int .i64 v2)
      have zU:GB w (((((w4).setCell ⟨w3.heap.size,3,none⟩ (.int .i64 v0)).setCell ⟨w3.heap.size,4,none⟩ (.int .i64 v1)).setCell ⟨w3.heap.size,5,none⟩ (.int .i64 v2)).setCell ⟨w3.heap.size,6,none⟩ (.int .i64 v3)) ib t4 w3.heap.size #[.int .i64 dc, .int .i64 af, .int .i64 la, .int .i64 v0, .int .i64 v1, .int .i64 v2, .int .i64 v3, .slice none 0 0, .slice none 0 0, .slice none 0 0]:=zT.set 6 (.int .i64 v3)
      have eG:=ah zU
      clear zQ zS zT zU
      have z3:=au (jl.out.call hi4 hf4).arr 3 rfl
      have f3:=aG (jl.out.call hi4 hf4).arr 3
      have z4:=au (jl.out.call hi4 hf4).arr 4 rfl
      have f4:=aG (jl.out.call hi4 hf4).arr 4
      have z5:=au (jl.out.call hi4 hf4).arr 5 rfl
      have f5:=aG (jl.out.call hi4 hf4).arr 5
      have z6:=au (jl.out.call hi4 hf4).arr 6 rfl
      have f6:=aG (jl.out.call hi4 hf4).arr 6
      have zl:=lt_of_block (jl.out.call hi4 hf4).arr
      clear hi4 hf4)
    |(go_at_call 60;refine(HX.out _ eG.out.ins).mono ?_;rintro e w5 ⟨ev,kv,cv,rfl,hta,hrc,hi5,hf5⟩;obtain⟨a3,c3,rfl⟩:=hta.ents.rd.sl;obtain⟨os3,fE,-⟩:=hta.kids;obtain⟨a4,c4,rfl⟩:=fE.rd.sl;obtain⟨a5,c5,rfl⟩:=hrc.at_.sl;clear fE z3 z4 z5 z6 f3 f4 f5 f6 zl
      have hb5:=lt_of_block eG.out.arr
      have zV:GB w ((w5).setCell ⟨w3.heap.size,7,none⟩ (.slice a3 es.length c3)) ib (some r) w3.heap.size #[.int .i64 dc, .int .i64 af, .int .i64 la, .int .i64 v0, .int .i64 v1, .int .i64 v2, .int .i64 v3, .slice a3 es.length c3, .slice none 0 0, .slice none 0 0]:=(eG.out.call hi5 hf5).set 7 (.slice a3 es.length c3)
      have zW:GB w (((w5).setCell ⟨w3.heap.size,7,none⟩ (.slice a3 es.length c3)).setCell ⟨w3.heap.size,8,none⟩ (.slice a4 ks.len c4)) ib (some r) w3.heap.size #[.int .i64 dc, .int .i64 af, .int .i64 la, .int .i64 v0, .int .i64 v1, .int .i64 v2, .int .i64 v3, .slice a3 es.length c3, .slice a4 ks.len c4, .slice none 0 0]:=zV.set 8 (.slice a4 ks.len c4)
      have zX:GB w ((((w5).setCell ⟨w3.heap.size,7,none⟩ (.slice a3 es.length c3)).setCell ⟨w3.heap.size,8,none⟩ (.slice a4 ks.len c4)).setCell ⟨w3.heap.size,9,none⟩ (.slice a5 c.length c5)) ib (some r) w3.heap.size #[.int .i64 dc, .int .i64 af, .int .i64 la, .int .i64 v0, .int .i64 v1, .int .i64 v2, .int .i64 v3, .slice a3 es.length c3, .slice a4 ks.len c4, .slice a5 c.length c5]:=zW.set 9 (.slice a5 c.length c5)
      have uT:=ah zX
      clear zV zW zX
      have hft:aj (Only w3.heap.size) w5 ((((w5).setCell ⟨w3.heap.size,7,none⟩ (.slice a3 es.length c3)).setCell ⟨w3.heap.size,8,none⟩ (.slice a4 ks.len c4)).setCell ⟨w3.heap.size,9,none⟩ (.slice a5 c.length c5)):=((dG w5 _ 7 _).trans (dG _ _ 8 _) fun _ _ h=>h).trans (dG _ _ 9 _) fun _ _ h=>h
      have hB:=eG.out.hB
      have turn:∀k,k<w5.heap.size→(((((w4).setCell ⟨w3.heap.size,3,none⟩ (.int .i64 v0)).setCell ⟨w3.heap.size,4,none⟩ (.int .i64 v1)).setCell ⟨w3.heap.size,5,none⟩ (.int .i64 v2)).setCell ⟨w3.heap.size,6,none⟩ (.int .i64 v3)).heap.size≤k→((((w5).setCell ⟨w3.heap.size,7,none⟩ (.slice a3 es.length c3)).setCell ⟨w3.heap.size,8,none⟩ (.slice a4 ks.len c4)).setCell ⟨w3.heap.size,9,none⟩ (.slice a5 c.length c5)).heap[k]?=w5.heap[k]?∧w.heap.size<k:=fun k hk hQ=>⟨hft.block k hk fun e=>(by have e:k=w3.heap.size:=e;subst e;exact absurd (Nat.lt_of_lt_of_le hb5 hQ) (Nat.lt_irrefl _)),Nat.lt_trans hB (Nat.lt_of_lt_of_le hb5 hQ)⟩
      have gV:=ah (hta.turn turn)
      have gU:=ah (show dP (fun k=>w.heap.size<k) _ (.slice a5 c.length c5) c from eH.turn hrc turn)
      have z7:=au (eG.out.call hi5 hf5).arr 7 rfl
      have f7:=aG (eG.out.call hi5 hf5).arr 7
      have z8:=au (eG.out.call hi5 hf5).arr 8 rfl
      have f8:=aG (eG.out.call hi5 hf5).arr 8
      have z9:=au (eG.out.call hi5 hf5).arr 9 rfl
      have f9:=aG (eG.out.call hi5 hf5).arr 9
      have zl:=lt_of_block (eG.out.call hi5 hf5).arr
      have z0:w5.cell? ⟨w3.heap.size,0,none⟩=some (.int .i64 dc):=au (eG.out.call hi5 hf5).arr 0 rfl
      have z1:w5.cell? ⟨w3.heap.size,1,none⟩=some (.int .i64 af):=au (eG.out.call hi5 hf5).arr 1 rfl
      have z2:w5.cell? ⟨w3.heap.size,2,none⟩=some (.int .i64 la):=au (eG.out.call hi5 hf5).arr 2 rfl
      have z3:w5.cell? ⟨w3.heap.size,3,none⟩=some (.int .i64 v0):=au (eG.out.call hi5 hf5).arr 3 rfl
      have z4:w5.cell? ⟨w3.heap.size,4,none⟩=some (.int .i64 v1):=au (eG.out.call hi5 hf5).arr 4 rfl
      have z5:w5.cell? ⟨w3.heap.size,5,none⟩=some (.int .i64 v2):=au (eG.out.call hi5 hf5).arr 5 rfl
      have z6:w5.cell? ⟨w3.heap.size,6,none⟩=some (.int .i64 v3):=au (eG.out.call hi5 hf5).arr 6 rfl
      clear hft hta hrc hi5 hf5 turn hb5 hB
      generalize es.length=n at*
      generalize ks.len=m at*
      generalize c.length=k at*)
    |(go_at_call 58;refine(oN ib _ _ uT.out.ins).mono ?_;rintro e w6 ⟨rfl,rfl⟩)
    |(go_at_call 83;refine(dU.out _ _ _ _ _ ⟨gV.out,gU.out.at_⟩).mono ?_;rintro e w7 ⟨rfl,jU⟩
      clear z0 z1 z2 z3 z4 z5 z6 z7 z8 z9 f7 f8 f9 zl
      have iY:=ah (uT.out.call (uT.out.ins.keep jU fun _ _=>id) (jU.mono fun _ _ s=>s.elim))
      have Ko:=ah (gV.out.aJ jU)
      have Kq:=ah (gU.out.aJ jU)
      clear jU
      have z0:w7.cell? ⟨w3.heap.size,0,none⟩=some (.int .i64 dc):=au iY.out.arr 0 rfl
      have z1:w7.cell? ⟨w3.heap.size,1,none⟩=some (.int .i64 af):=au iY.out.arr 1 rfl
      have z2:w7.cell? ⟨w3.heap.size,2,none⟩=some (.int .i64 la):=au iY.out.arr 2 rfl
      have z3:w7.cell? ⟨w3.heap.size,3,none⟩=some (.int .i64 v0):=au iY.out.arr 3 rfl
      have z4:w7.cell? ⟨w3.heap.size,4,none⟩=some (.int .i64 v1):=au iY.out.arr 4 rfl
      have z5:w7.cell? ⟨w3.heap.size,5,none⟩=some (.int .i64 v2):=au iY.out.arr 5 rfl
      have z6:w7.cell? ⟨w3.heap.size,6,none⟩=some (.int .i64 v3):=au iY.out.arr 6 rfl
      have z7:w7.cell? ⟨w3.heap.size,7,none⟩=some (.slice a3 n c3):=au iY.out.arr 7 rfl
      have z8:w7.cell? ⟨w3.heap.size,8,none⟩=some (.slice a4 m c4):=au iY.out.arr 8 rfl
      have z9:w7.cell? ⟨w3.heap.size,9,none⟩=some (.slice a5 k c5):=au iY.out.arr 9 rfl
      have zl:=lt_of_block iY.out.arr
      have y0:=au iY.out.res 0 rfl
      have g0:=aG iY.out.res 0
      have y1:=au iY.out.res 1 rfl
      have g1:=aG iY.out.res 1
      have y2:=au iY.out.res 2 rfl
      have g2:=aG iY.out.res 2
      have y3:=au iY.out.res 3 rfl
      have g3:=aG iY.out.res 3
      have y4:=au iY.out.res 4 rfl
      have g4:=aG iY.out.res 4
      have y5:=au iY.out.res 5 rfl
      have g5:=aG iY.out.res 5
      have y6:=au iY.out.res 6 rfl
      have g6:=aG iY.out.res 6
      have y7:=au iY.out.res 7 rfl
      have g7:=aG iY.out.res 7
      have y8:=au iY.out.res 8 rfl
      have g8:=aG iY.out.res 8
      have y9:=au iY.out.res 9 rfl
      have g9:=aG iY.out.res 9
      have yl:=lt_of_block iY.out.res))
   clear z0 z1 z2 z3 z4 z5 z6 z7 z8 z9 zl
   clear y0 g0 y1 g1 y2 g2 y3 g3 y4 g4 y5 g5 y6 g6 y7 g7 y8 g8 y9 g9 yl
   have dW:=Gz iY.out.res (.int .i64 dc) (.int .i64 af) (.int .i64 la) (.int .i64 v0) (.int .i64 v1) (.int .i64 v2) (.int .i64 v3) (.slice a3 n c3) (.slice a4 m c4) (.slice a5 k c5) _ rfl
   have y0:=au dW 0 rfl
   have y1:=au dW 1 rfl
   have y2:=au dW 2 rfl
   have y3:=au dW 3 rfl
   have y4:=au dW 4 rfl
   have y5:=au dW 5 rfl
   have y6:=au dW 6 rfl
   have y7:=au dW 7 rfl
   have y8:=au dW 8 rfl
   have y9:=au dW 9 rfl
   exact bodyPost_ret (v:= .agg #[.int .i64 dc, .int .i64 af, .int .i64 la, .int .i64 v0, .int .i64 v1, .int .i64 v2, .int .i64 v3, .slice a3 n c3, .slice a4 m c4, .slice a5 k c5]) (by simp[results,Tryz.results59,go_sem,y0,y1,y2,y3,y4,y5,y6,y7,y8,y9]) rfl (iY.out.out ⟨dc,af,la,v0,v1,v2,v3,es,ks,c⟩ Ko.out Kq.out _ (Ea w7 _ _ _ _ _ _ _ _ _ _ _))
  ·rw[bf hr]at dU
   obtain⟨rfl,rfl⟩:=HC.out.b_ (pq.out (.inr hr))
   clear hr pq yB
   go_enter Tryz.func59,Tryz.ntmps59
   go_wp2_with(first
    |(go_at_call 56;first
     |(refine(lG ib t2 1099511627776 la t3 _ HI2.out gW.out (by omega) (by omega)).mono ?_;rintro e w3 ⟨rfl,hi3,hf3⟩
       have hn:w.heap.size<w3.heap.size:=by have h1:=lt_of_block (((vT.out.trans hf3 fun _ _ h=>h).blk HB0.out fun e=>by have e:w.heap.size=ib:=e;have:=nV.out;omega));exact h1
       have jl:=ah (show GB w (w3.alloc (.cells #[.int .i64 dc, .int .i64 af, .int .i64 la, .int .i64 0, .int .i64 0, .int .i64 0, .int .i64 0, .slice none 0 0, .slice none 0 0, .slice none 0 0] 59)) ib t3 w3.heap.size #[.int .i64 dc, .int .i64 af, .int .i64 la, .int .i64 0, .int .i64 0, .int .i64 0, .int .i64 0, .slice none 0 0, .slice none 0 0, .slice none 0 0]from
        ⟨hi3.keep (aj.alloc ay w3 _) fun _ _=>id,heap_alloc_new w3 _,(aj.alloc ay w3 _).blk ((vT.out.trans hf3 fun _ _ h=>h).blk HB0.out fun e=>(by have e:w.heap.size=ib:=e;have:=nV.out;omega)) id,((qG.out.trans vT.out fun _ _ h=>h).trans hf3 fun _ _ h=>h).trans (aj.alloc ay w3 _) fun _ _ s=>s.elim,nV.out,hn⟩)
       clear hi3 hf3)
     |(refine(lG ib t1 1099511627776 af t2 _ HI1.out HG2.out (by omega) (by omega)).mono ?_;rintro e w2 ⟨rfl,hi2,hf2⟩;have HI2:=ah hi2;have vT:=ah (bg.out.trans hf2 fun _ _ h=>h);clear hi2 hf2)
     |(refine(lG ib st 4 dc t1 _ HI0.out fZ.out (by omega) (by omega)).mono ?_;rintro e w1 ⟨rfl,hi1,hf1⟩;have HI1:=ah hi1;have bg:=ah hf1;clear hi1 hf1))
    |(go_at_call 57;refine(HV.out _ jl.out.ins).mono ?_;rintro e w4 ⟨rfl,hi4,hf4⟩
      have zQ:GB w ((w4).setCell ⟨w3.heap.size,3,none⟩ (.int .i64 v0)) ib t4 w3.heap.size #[.int .i64 dc, .int .i64 af, .int .i64 la, .int .i64 v0, .int .i64 0, .int .i64 0, .int .i64 0, .slice none 0 0, .slice none 0 0, .slice none 0 0]:=(jl.out.call hi4 hf4).set 3 (.int .i64 v0)
      have zS:GB w (((w4).setCell ⟨w3.heap.size,3,none⟩ (.int .i64 v0)).setCell ⟨w3.heap.size,4,none⟩ (.int .i64 v1)) ib t4 w3.heap.size #[.int .i64 dc, .int .i64 af, .int .i64 la, .int .i64 v0, .int .i64 v1, .int .i64 0, .int .i64 0, .slice none 0 0, .slice none 0 0, .slice none 0 0]:=zQ.set 4 (.int .i64 v1)
      have zT:GB w ((((w4).setCell ⟨w3.heap.size,3,none⟩ (.int .i64 v0)).setCell ⟨w3.heap.size,4,none⟩ (.int .i64 v1)).setCell ⟨w3.heap.size,5,none⟩ (.int .i64 v2)) ib t4 w3.heap.size #[.int .i64 dc, .int .i64 af, .int .i64 la, .int .i64 v0, .int .i64 v1, .int .i64 v2, .int .i64 0, .slice none 0 0, .slice none 0 0, .slice none 0 0]:=zS.set 5 (.int .i64 v2)
      have zU:GB w (((((w4).setCell ⟨w3.heap.size,3,none⟩ (.int .i64 v0)).setCell ⟨w3.heap.size,4,none⟩ (.int .i64 v1)).setCell ⟨w3.heap.size,5,none⟩ (.int .i64 v2)).setCell ⟨w3.heap.size,6,none⟩ (.int .i64 v3)) ib t4 w3.heap.size #[.int .i64 dc, .int .i64 af, .int .i64 la, .int .i64 v0, .int .i64 v1, .int .i64 v2, .int .i64 v3, .slice none 0 0, .slice none 0 0, .slice none 0 0]:=zT.set 6 (.int .i64 v3)
      have eG:=ah zU
      clear zQ zS zT zU
      have z3:=au (jl.out.call hi4 hf4).arr 3 rfl
      have f3:=aG (jl.out.call hi4 hf4).arr 3
      have z4:=au (jl.out.call hi4 hf4).arr 4 rfl
      have f4:=aG (jl.out.call hi4 hf4).arr 4
      have z5:=au (jl.out.call hi4 hf4).arr 5 rfl
      have f5:=aG (jl.out.call hi4 hf4).arr 5
      have z6:=au (jl.out.call hi4 hf4).arr 6 rfl
      have f6:=aG (jl.out.call hi4 hf4).arr 6
      have zl:=lt_of_block (jl.out.call hi4 hf4).arr
      clear hi4 hf4)
    |(go_at_call 60;refine(HX.out _ eG.out.ins).mono ?_;rintro e w5 ⟨ev,kv,cv,rfl,hta,hrc,hi5,hf5⟩;obtain⟨a3,c3,rfl⟩:=hta.ents.rd.sl;obtain⟨os3,fE,-⟩:=hta.kids;obtain⟨a4,c4,rfl⟩:=fE.rd.sl;obtain⟨a5,c5,rfl⟩:=hrc.at_.sl;clear fE z3 z4 z5 z6 f3 f4 f5 f6 zl
      have hb5:=lt_of_block eG.out.arr
      have zV:GB w ((w5).setCell ⟨w3.heap.size,7,none⟩ (.slice a3 es.length c3)) ib (some r) w3.heap.size #[.int .i64 dc, .int .i64 af, .int .i64 la, .int .i64 v0, .int .i64 v1, .int .i64 v2, .int .i64 v3, .slice a3 es.length c3, .slice none 0 0, .slice none 0 0]:=(eG.out.call hi5 hf5).set 7 (.slice a3 es.length c3)
      have zW:GB w (((w5).setCell ⟨w3.heap.size,7,none⟩ (.slice a3 es.length c3)).setCell ⟨w3.heap.size,8,none⟩ (.slice a4 ks.len c4)) ib (some r) w3.heap.size #[.int .i64 dc, .int .i64 af, .int .i64 la, .int .i64 v0, .int .i64 v1, .int .i64 v2, .int .i64 v3, .slice a3 es.length c3, .slice a4 ks.len c4, .slice none 0 0]:=zV.set 8 (.slice a4 ks.len c4)
      have zX:GB w ((((w5).setCell ⟨w3.heap.size,7,none⟩ (.slice a3 es.length c3)).setCell ⟨w3.heap.size,8,none⟩ (.slice a4 ks.len c4)).setCell ⟨w3.heap.size,9,none⟩ (.slice a5 c.length c5)) ib (some r) w3.heap.size #[.int .i64 dc, .int .i64 af, .int .i64 la, .int .i64 v0, .int .i64 v1, .int .i64 v2, .int .i64 v3, .slice a3 es.length c3, .slice a4 ks.len c4, .slice a5 c.length c5]:=zW.set 9 (.slice a5 c.length c5)
      have uT:=ah zX
      clear zV zW zX
      have hft:aj (Only w3.heap.size) w5 ((((w5).setCell ⟨w3.heap.size,7,none⟩ (.slice a3 es.length c3)).setCell ⟨w3.heap.size,8,none⟩ (.slice a4 ks.len c4)).setCell ⟨w3.heap.size,9,none⟩ (.slice a5 c.length c5)):=((dG w5 _ 7 _).trans (dG _ _ 8 _) fun _ _ h=>h).trans (dG _ _ 9 _) fun _ _ h=>h
      have hB:=eG.out.hB
      have turn:∀k,k<w5.heap.size→(((((w4).setCell ⟨w3.heap.size,3,none⟩ (.int .i64 v0)).setCell ⟨w3.heap.size,4,none⟩ (.int .i64 v1)).setCell ⟨w3.heap.size,5,none⟩ (.int .i64 v2)).setCell ⟨w3.heap.size,6,none⟩ (.int .i64 v3)).heap.size≤k→((((w5).setCell ⟨w3.heap.size,7,none⟩ (.slice a3 es.length c3)).setCell ⟨w3.heap.size,8,none⟩ (.slice a4 ks.len c4)).setCell ⟨w3.heap.size,9,none⟩ (.slice a5 c.length c5)).heap[k]?=w5.heap[k]?∧w.heap.size<k:=fun k hk hQ=>⟨hft.block k hk fun e=>(by have e:k=w3.heap.size:=e;subst e;exact absurd (Nat.lt_of_lt_of_le hb5 hQ) (Nat.lt_irrefl _)),Nat.lt_trans hB (Nat.lt_of_lt_of_le hb5 hQ)⟩
      have gV:=ah (hta.turn turn)
      have gU:=ah (show dP (fun k=>w.heap.size<k) _ (.slice a5 c.length c5) c from eH.turn hrc turn)
      have z7:=au (eG.out.call hi5 hf5).arr 7 rfl
      have f7:=aG (eG.out.call hi5 hf5).arr 7
      have z8:=au (eG.out.call hi5 hf5).arr 8 rfl
      have f8:=aG (eG.out.call hi5 hf5).arr 8
      have z9:=au (eG.out.call hi5 hf5).arr 9 rfl
      have f9:=aG (eG.out.call hi5 hf5).arr 9
      have zl:=lt_of_block (eG.out.call hi5 hf5).arr
      have z0:w5.cell? ⟨w3.heap.size,0,none⟩=some (.int .i64 dc):=au (eG.out.call hi5 hf5).arr 0 rfl
      have z1:w5.cell? ⟨w3.heap.size,1,none⟩=some (.int .i64 af):=au (eG.out.call hi5 hf5).arr 1 rfl
      have z2:w5.cell? ⟨w3.heap.size,2,none⟩=some (.int .i64 la):=au (eG.out.call hi5 hf5).arr 2 rfl
      have z3:w5.cell? ⟨w3.heap.size,3,none⟩=some (.int .i64 v0):=au (eG.out.call hi5 hf5).arr 3 rfl
      have z4:w5.cell? ⟨w3.heap.size,4,none⟩=some (.int .i64 v1):=au (eG.out.call hi5 hf5).arr 4 rfl
      have z5:w5.cell? ⟨w3.heap.size,5,none⟩=some (.int .i64 v2):=au (eG.out.call hi5 hf5).arr 5 rfl
      have z6:w5.cell? ⟨w3.heap.size,6,none⟩=some (.int .i64 v3):=au (eG.out.call hi5 hf5).arr 6 rfl
      clear hft hta hrc hi5 hf5 turn hb5 hB
      generalize es.length=n at*
      generalize ks.len=m at*
      generalize c.length=k at*)
    |(go_at_call 58;refine(oN ib _ _ uT.out.ins).mono ?_;rintro e w6 ⟨rfl,rfl⟩)
    |(go_at_call 83;refine(dU.out _ _ _ _ _ ⟨gV.out,gU.out.at_⟩).mono ?_;rintro e w7 ⟨rfl,jU⟩
      clear z0 z1 z2 z3 z4 z5 z6 z7 z8 z9 f7 f8 f9 zl
      have iY:=ah (uT.out.call (uT.out.ins.keep jU fun _ _=>id) (jU.mono fun _ _ s=>s.elim))
      clear jU)
    |(go_at_call 123;obtain⟨a,c,hh⟩:=iY.out.ins.heap;refine(pG ib _ _ _ hh).mono ?_;rintro e w8 ⟨rfl,lq,cZ⟩
      skip
      have gq:=ah (iY.out.call (show dJ w8 ib none from lq) cZ)
      clear lq cZ hh
      have y0:=au gq.out.res 0 rfl
      have g0:=aG gq.out.res 0
      have y1:=au gq.out.res 1 rfl
      have g1:=aG gq.out.res 1
      have y2:=au gq.out.res 2 rfl
      have g2:=aG gq.out.res 2
      have y3:=au gq.out.res 3 rfl
      have g3:=aG gq.out.res 3
      have y4:=au gq.out.res 4 rfl
      have g4:=aG gq.out.res 4
      have y5:=au gq.out.res 5 rfl
      have g5:=aG gq.out.res 5
      have y6:=au gq.out.res 6 rfl
      have g6:=aG gq.out.res 6
      have y7:=au gq.out.res 7 rfl
      have g7:=aG gq.out.res 7
      have y8:=au gq.out.res 8 rfl
      have g8:=aG gq.out.res 8
      have y9:=au gq.out.res 9 rfl
      have g9:=aG gq.out.res 9
      have yl:=lt_of_block gq.out.res))
   clear y0 g0 y1 g1 y2 g2 y3 g3 y4 g4 y5 g5 y6 g6 y7 g7 y8 g8 y9 g9 yl
   have dW:=Gz gq.out.res (.int .i64 0) (.int .i64 0) (.int .i64 0) (.int .i64 0) (.int .i64 0) (.int .i64 0) (.int .i64 0) (.slice none 0 0) (.slice none 0 0) (.slice none 0 0) _ rfl
   have y0:=au dW 0 rfl
   have y1:=au dW 1 rfl
   have y2:=au dW 2 rfl
   have y3:=au dW 3 rfl
   have y4:=au dW 4 rfl
   have y5:=au dW 5 rfl
   have y6:=au dW 6 rfl
   have y7:=au dW 7 rfl
   have y8:=au dW 8 rfl
   have y9:=au dW 9 rfl
   exact bodyPost_ret (v:= .agg #[.int .i64 0, .int .i64 0, .int .i64 0, .int .i64 0, .int .i64 0, .int .i64 0, .int .i64 0, .slice none 0 0, .slice none 0 0, .slice none 0 0]) (by simp[results,Tryz.results59,go_sem,y0,y1,y2,y3,y4,y5,y6,y7,y8,y9]) rfl (gq.out.out dL.zero (tX _ _) (wK _ _) _ (Ea w8 _ _ _ _ _ _ _ _ _ _ _))
open Go.RowKit
structure DG (w w0 W:World) (ib B:Nat) (s:Option (List UInt8)) (cs:Array Value) (ps:List aZ) (lv:Value):Prop where
 ins:dJ W ib s
 arr:W.heap[B]?=some (.cells cs 36 (0,0))
 res:W.heap[w.heap.size]?=some (.cells #[.int .i64 0, .int .i64 0, .int .i64 0, .int .i64 0, .int .i64 0, .int .i64 0, .int .i64 0, .slice none 0 0, .slice none 0 0, .slice none 0 0, .slice none 0 0] 36 (0,0))
 base:aj ay w w0
 hib:w.heap.size<ib
 rO:ib<w0.heap.size
 hB:w0.heap.size≤B
 fQ:jq 59 (Only ib) (Only B) w0 W ps lv
 each:lJ (iV w0 (Only B) lv) W ps
section
variable {w w0 W W1:World} {ib B:Nat} {s s':Option (List UInt8)} {cs:Array Value} {ps:List aZ} {lv:Value}
theorem DG.call (h:DG w w0 W ib B s cs ps lv) (hi:dJ W1 ib s') (f:aj (Only ib) W W1):DG w w0 W1 ib B s' cs ps lv:=
 ⟨hi,f.blk h.arr fun e=>(by have e:B=ib:=e;have:=h.rO;have:=h.hB;omega),f.blk h.res fun e=>(by have e:w.heap.size=ib:=e;have:=h.hib;omega),h.base,h.hib,h.rO,h.hB,h.fQ.pO f,h.each.pO h.fQ f⟩
theorem DG.aJ (h:DG w w0 W ib B s cs ps lv) (f:aj ay W W1):DG w w0 W1 ib B s cs ps lv:=h.call (h.ins.keep f fun _ _ h=>h) (f.mono fun _ _ h=>h.elim)
theorem DG.lB (h:DG w w0 W ib B s cs ps lv):B<W.heap.size:=lt_of_block h.arr
theorem DG.old (h:DG w w0 W ib B s cs ps lv):aj ay w W:=h.base.trans h.fQ.aH fun i hi e=>(by have e:i=ib:=e;have:=h.hib;omega)
theorem DG.set (h:DG w w0 W ib B s cs ps lv) (j:Nat) (u:Value):DG w w0 (W.setCell ⟨B,j,none⟩ u) ib B s (cs.setIfInBounds j u) ps lv:=
 have f:=dG W B j u
 ⟨h.ins.keep f fun k hk e=>(by have e:k=B:=e;have:=h.rO;have:=h.hB;omega),bC h.arr j u,f.blk h.res fun e=>(by have e:w.heap.size=B:=e;have:=h.hib;have:=h.rO;have:=h.hB;omega),h.base,h.hib,h.rO,h.hB,h.fQ.r_ f,h.each.r_ h.fQ f⟩
theorem DG.step {Y Y1 W2:World} {ad:Option Addr} {n c:Nat} (h:DG w w0 Y ib B s cs ps lv) {p:aZ} (hi:dJ Y1 ib s') (f:aj (Only ib) Y Y1)
 (ht:dh (fun b=>Y.heap.size≤b) Y1 p.ev p.kv p.b.es p.b.ks) (hc:dP (fun b=>Y.heap.size≤b) Y1 p.cv p.b.c)
 (own:W2.ownsRow 0 59 10 (.slice ad n c) (ps.length+1) (kR ps++p.cells)) (fm:aj (eY lv) Y1 W2) (fr:gZ Y1 lv (.slice ad n c)):
 DG w w0 (W2.setCell ⟨B,7,none⟩ (.slice ad n c)) ib B s' (cs.setIfInBounds 7 (.slice ad n c)) (ps++ [p]) (.slice ad n c):=by
 have h1:=h.call hi f
 have hno:∀x,x=ib∨x=B∨x=w.heap.size→¬eY lv x:=fun x hx hr=>by
  have h2:=h1.fQ.new x hr
  have:=h1.hib
  have:=h1.rO
  rcases hx with hx|hx|hx
  ·omega
  ·exact h2.2 hx
  ·omega
 have h2:DG w w0 W2 ib B s' cs (ps++ [p]) (.slice ad n c):=
  ⟨h1.ins.keep fm fun j hj hr=>(by have h3:=(h1.fQ.new j hr).1;have:=h1.rO;omega),fm.blk h1.arr (hno _ (.inr (.inl rfl))),fm.blk h1.res (hno _ (.inr (.inr rfl))),h1.base,h1.hib,h1.rO,h1.hB,h1.fQ.step own fm fr,h1.each.step h1.fQ (h.fQ.newP ht hc) fm fr⟩
 exact h2.set 7 _
end
theorem DG.eX {w w0 W W8:World} {ib B:Nat} {s s7:Option (List UInt8)} {kind fr tt v0 v1 v2 v3:Int} {ps:List aZ} {lv ev kv cv:Value} {es:List aQ} {ks:aS} {c:aX} (h:DG w w0 W ib B s #[.int .i64 kind, .int .i64 fr, .int .i64 tt, .int .i64 v0, .int .i64 v1, .int .i64 v2, .int .i64 v3,lv, .slice none 0 0, .slice none 0 0, .slice none 0 0] ps lv) (hi:dJ W8 ib s7) (hf:aj (Only ib) W W8)
 (ht:dh (fun b=>W.heap.size≤b) W8 ev kv es ks) (hc:dP (fun b=>W.heap.size≤b) W8 cv c):
 DG w w0 (((W8.setCell ⟨B,8,none⟩ ev).setCell ⟨B,9,none⟩ kv).setCell ⟨B,10,none⟩ cv) ib B s7 #[.int .i64 kind, .int .i64 fr, .int .i64 tt, .int .i64 v0, .int .i64 v1, .int .i64 v2, .int .i64 v3,lv,ev,kv,cv] ps lv∧dh (iV w0 (Only B) lv) (((W8.setCell ⟨B,8,none⟩ ev).setCell ⟨B,9,none⟩ kv).setCell ⟨B,10,none⟩ cv) ev kv es ks∧dP (iV w0 (Only B) lv) (((W8.setCell ⟨B,8,none⟩ ev).setCell ⟨B,9,none⟩ kv).setCell ⟨B,10,none⟩ cv) cv c:=by
 have h8:=h.call hi hf
 have ha:DG w w0 (W8.setCell ⟨B,8,none⟩ ev) ib B s7 #[.int .i64 kind, .int .i64 fr, .int .i64 tt, .int .i64 v0, .int .i64 v1, .int .i64 v2, .int .i64 v3,lv,ev, .slice none 0 0, .slice none 0 0] ps lv:=h8.set 8 _
 have hb:DG w w0 ((W8.setCell ⟨B,8,none⟩ ev).setCell ⟨B,9,none⟩ kv) ib B s7 #[.int .i64 kind, .int .i64 fr, .int .i64 tt, .int .i64 v0, .int .i64 v1, .int .i64 v2, .int .i64 v3,lv,ev,kv, .slice none 0 0] ps lv:=ha.set 9 _
 have f:aj (Only B) W8 (((W8.setCell ⟨B,8,none⟩ ev).setCell ⟨B,9,none⟩ kv).setCell ⟨B,10,none⟩ cv):=((dG _ _ _ _).trans (dG _ _ _ _) fun _ _ h=>h).trans (dG _ _ _ _) fun _ _ h=>h
 exact⟨hb.set 10 _,ht.turn fun b hb hq=>⟨f.block b hb fun e=>(h.fQ.fresh b hq).2.1 e,h.fQ.fresh b hq⟩,eH.turn hc fun b hb hq=>⟨f.block b hb fun e=>(h.fQ.fresh b hq).2.1 e,h.fQ.fresh b hq⟩⟩
theorem DG.pY {l:List UInt8} {w w0 W W1:World} {ib B:Nat} {s:Option (List UInt8)} {cs:Array Value} {ps:List aZ} {lv:Value} (h:DG w w0 W ib B s cs ps lv) {k:Int} (hd:sD l k bW.zero) (f:aj (Only w.heap.size) W W1):
 vK l w (.returned (.tuple #[bW.zero.ag (.slice none 0 0) (.slice none 0 0) (.slice none 0 0) (.slice none 0 0), .int .i64 k])) W1:=
 ⟨k,bW.zero,[],_,_,_,_,hd,rfl,JJ _ _,yg,h.old.trans f fun i hi e=>by have e:i=w.heap.size:=e;omega⟩
theorem DG.GH {l:List UInt8} {w w0 W W1:World} {ib B:Nat} {s:Option (List UInt8)} {cs:Array Value} {ps:List aZ} {lv ev kv cv:Value} (h:DG w w0 W ib B s cs ps lv) {m:bW} (hd:sD l 0 m) (he:ps.map (·.b)=m.bs) (hok:kZ m)
 (hc:dh (iV w0 (Only B) lv) W ev kv m.es m.ks∧dP (iV w0 (Only B) lv) W cv m.c) (f:aj (Only w.heap.size) W W1):
 vK l w (.returned (.tuple #[m.ag lv ev kv cv, .int .i64 0])) W1:=by
 have hq:∀b,iV w0 (Only B) lv b→b≠w.heap.size:=fun b hb e=>by
  have:=hb.1
  have:=h.hib
  have:=h.rO
  omega
 have hrow:Rd W1 lv ps.length (kR ps):=(Rd.own h.fQ.own).keep f fun k hk e=>by
  have e:k=w.heap.size:=e
  have:=(h.fQ.new k hk).1
  have:=h.hib
  have:=h.rO
  omega
 refine⟨0,m,ps,lv,ev,kv,cv,hd,rfl,⟨⟨hrow,fun p hp=>?_⟩,he,?_⟩,hok,h.old.trans f fun i hi e=>by have e:i=w.heap.size:=e;omega⟩
 ·obtain⟨h1,h2⟩:=h.each p hp
  exact⟨h1.turn fun b hb hQ=>⟨f.block b hb fun e=>hq b hQ e,trivial⟩,dP.at_ (Q:=fun _=>True) (eH.turn h2 fun b hb hQ=>⟨f.block b hb fun e=>hq b hQ e,trivial⟩)⟩
 ·exact⟨hc.1.turn fun b hb hQ=>⟨f.block b hb fun e=>hq b hQ e,trivial⟩,dP.at_ (Q:=fun _=>True) (eH.turn hc.2 fun b hb hQ=>⟨f.block b hb fun e=>hq b hQ e,trivial⟩)⟩
theorem aeu (l:List UInt8) (v:Value) (w:World) (h:Rd w v l.length (bV l)) (h0:aT.gX l≠0):Calls Tryz.prog 54 #[v] w fun e w'=>e= .returned (.tuple #[.slice none 0 0, .int .i64 (aT.gX l)])∧aj ay w w':=
 (Xm l v w h).mono fun e w' hp=>by unfold zN at hp;rwa [if_neg h0]at hp
theorem aev (l:List UInt8) (v:Value) (w:World) (h:Rd w v l.length (bV l)) (h0:aT.gX l=0):Calls Tryz.prog 54 #[v] w fun e w'=>∃a c t,t=aT.jI l∧e= .returned (.tuple #[.slice a t.length c, .int .i64 0])∧Copy w (.slice a t.length c) t w':=
 (Xm l v w h).mono fun e w' hp=>by
   unfold zN at hp
   rw[if_pos h0]at hp
   obtain⟨a,c,h1,h2⟩:=hp
   exact⟨a,c,_,rfl,h1,h2⟩
end Go.Proofs.YtabkpccdnkjoiaaGreat
