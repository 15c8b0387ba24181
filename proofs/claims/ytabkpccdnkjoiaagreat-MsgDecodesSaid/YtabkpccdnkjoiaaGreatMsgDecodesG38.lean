/- Words for the law MsgDecodes: R22To. -/
import Derived.Test.YtabkpccdnkjoiaaGreatMsgDecodesG0
import Derived.Test.YtabkpccdnkjoiaaGreatMsgDecodesG22
import Derived.Test.YtabkpccdnkjoiaaGreatMsgDecodesG31
import Derived.Test.YtabkpccdnkjoiaaGreatMsgDecodesG34
set_option linter.unusedSimpArgs false
set_option linter.unusedVariables false
set_option maxHeartbeats 32000000
set_option maxRecDepth 1000000
namespace Go.Proofs.YtabkpccdnkjoiaaGreat
open Go.RowKit
theorem dH.kK {w0 w wr W W1:World} {B:Nat} {T:TypeId} {cs:Array Value} {v v':Value} {t t':Option (List UInt8)} (h:dH w0 w wr W B T cs v t) (hr:bK w0 W1 v' t') (j:Nat) (x:Value):bK w0 (W1.setCell ⟨B,j,none⟩ x) v' t':=
 hr.keep (dG W1 B j x) fun k hk hs=>by have hs:k=B:=hs;have:=h.h0;have:=h.new;have:=h.old;omega
def P_ (w0 w:World) (b:dL) (s:Option (List UInt8)) (e:Ending) (w':World):Prop:=
 ∃ev kv cv a l,e= .returned (.tuple #[.agg #[.int .i64 b.dc, .int .i64 b.af, .int .i64 b.la, .int .i64 b.v0, .int .i64 b.v1, .int .i64 b.v2, .int .i64 b.v3,ev,kv,cv], .agg #[.slice a (leftOf s).length l, .bool s.isNone]])∧dh (fun b=>w.heap.size≤b) w' ev kv b.es b.ks∧dP (fun b=>w.heap.size≤b) w' cv b.c∧bK w0 w' (.slice a (leftOf s).length l) s∧aj ay w w'
theorem Qa {w0 w W W':World} (b:dL) {ev kv cv:Value} {a:Option Addr} {l:Nat} {s:Option (List UInt8)} (ht:dh (fun b=>w.heap.size+1+1+1≤b) W ev kv b.es b.ks) (hx:dP (fun b=>w.heap.size+1+1+1≤b) W cv b.c) (hr:bK w0 W (.slice a (leftOf s).length l) s) (h0:w0.heap.size≤w.heap.size) (hf:aj ay w W) (f:aj (XT w) W W'):
 P_ w0 w b s (.returned (.tuple #[.agg #[.int .i64 b.dc, .int .i64 b.af, .int .i64 b.la, .int .i64 b.v0, .int .i64 b.v1, .int .i64 b.v2, .int .i64 b.v3,ev,kv,cv], .agg #[.slice a (leftOf s).length l, .bool s.isNone]])) W':=by
 have turn:∀b,b<W.heap.size→w.heap.size+1+1+1≤b→W'.heap[b]?=W.heap[b]?∧w.heap.size≤b:=fun b hb hQ=>⟨f.block b hb fun hs=>(by rcases hs with hs|hs|hs<;>omega),by omega⟩
 refine⟨ev,kv,cv,a,l,rfl,ht.turn turn,eH.turn hx turn,hr.keep f fun k hk hs=>?_,hf.trans f fun i hi hs=>?_⟩
 ·rcases hs with hs|hs|hs<;>omega
 ·rcases hs with hs|hs|hs<;>omega
theorem Qb (w W:World) (x0 x1 x2 x3 x4 x5 x6 x7 x8 x9 y0 y1:Value):aj (XT w) W (((((((((((((W).setCell ⟨w.heap.size+1,0,none⟩ (x0)).setCell ⟨w.heap.size+1,1,none⟩ (x1)).setCell ⟨w.heap.size+1,2,none⟩ (x2)).setCell ⟨w.heap.size+1,3,none⟩ (x3)).setCell ⟨w.heap.size+1,4,none⟩ (x4)).setCell ⟨w.heap.size+1,5,none⟩ (x5)).setCell ⟨w.heap.size+1,6,none⟩ (x6)).setCell ⟨w.heap.size+1,7,none⟩ (x7)).setCell ⟨w.heap.size+1,8,none⟩ (x8)).setCell ⟨w.heap.size+1,9,none⟩ (x9)).setCell ⟨w.heap.size+1+1,0,none⟩ (y0)).setCell ⟨w.heap.size+1+1,1,none⟩ (y1)):=
 (((Ea W (w.heap.size+1) x0 x1 x2 x3 x4 x5 x6 x7 x8 x9).mono fun k _ hk=> .inr (.inl hk)).trans ((fV _ (w.heap.size+1+1) y0 y1).mono fun k _ hk=> .inr (.inr hk)) fun _ _ h=>h)
theorem Qc {w W:World} {x0 x1 x2 x3 x4 x5 x6 x7 x8 x9 y0 y1:Value} {a0 a1 a2 a3 a4 a5 a6 a7 a8 a9 c d:Value} (h1:W.heap[w.heap.size+1]?=some (.cells #[a0,a1,a2,a3,a4,a5,a6,a7,a8,a9] 55 (0,0))) (h2:W.heap[w.heap.size+1+1]?=some (.cells #[c,d] 115 (0,0))) (W':World)
 (hW:W'=((((((((((((W).setCell ⟨w.heap.size+1,0,none⟩ (x0)).setCell ⟨w.heap.size+1,1,none⟩ (x1)).setCell ⟨w.heap.size+1,2,none⟩ (x2)).setCell ⟨w.heap.size+1,3,none⟩ (x3)).setCell ⟨w.heap.size+1,4,none⟩ (x4)).setCell ⟨w.heap.size+1,5,none⟩ (x5)).setCell ⟨w.heap.size+1,6,none⟩ (x6)).setCell ⟨w.heap.size+1,7,none⟩ (x7)).setCell ⟨w.heap.size+1,8,none⟩ (x8)).setCell ⟨w.heap.size+1,9,none⟩ (x9)).setCell ⟨w.heap.size+1+1,0,none⟩ (y0)).setCell ⟨w.heap.size+1+1,1,none⟩ (y1)):
 W'.heap[w.heap.size+1]?=some (.cells #[x0,x1,x2,x3,x4,x5,x6,x7,x8,x9] 55 (0,0))∧W'.heap[w.heap.size+1+1]?=some (.cells #[y0,y1] 115 (0,0)):=by
 have g1:=Gz h1 x0 x1 x2 x3 x4 x5 x6 x7 x8 x9 _ rfl
 have f1:=Ea W (w.heap.size+1) x0 x1 x2 x3 x4 x5 x6 x7 x8 x9
 have f2:=fV (((((((((((W).setCell ⟨w.heap.size+1,0,none⟩ (x0)).setCell ⟨w.heap.size+1,1,none⟩ (x1)).setCell ⟨w.heap.size+1,2,none⟩ (x2)).setCell ⟨w.heap.size+1,3,none⟩ (x3)).setCell ⟨w.heap.size+1,4,none⟩ (x4)).setCell ⟨w.heap.size+1,5,none⟩ (x5)).setCell ⟨w.heap.size+1,6,none⟩ (x6)).setCell ⟨w.heap.size+1,7,none⟩ (x7)).setCell ⟨w.heap.size+1,8,none⟩ (x8)).setCell ⟨w.heap.size+1,9,none⟩ (x9)) (w.heap.size+1+1) y0 y1
 have g2:=f1.blk h2 fun e=>by have e:w.heap.size+1+1=w.heap.size+1:=e;omega
 subst hW
 exact⟨f2.blk g1 fun e=>(by have e:w.heap.size+1=w.heap.size+1+1:=e;omega),bC (bC g2 0 y0) 1 y1⟩
theorem aeT {w0:World} {v:Value} {st s:Option (List UInt8)} {b:dL} (w:World) (h:bK w0 w v st) (h0:w0.heap.size≤w.heap.size) (hc:jT st b s) (hl:(leftOf st).length≤60000) (hfit:xX st):
 Calls Tryz.prog 66 #[.agg #[v, .bool st.isNone]] w (P_ w0 w b s):=by
 obtain⟨a0,c0,rfl⟩:=h.shape
 obtain⟨dc,t1,g1⟩:=dw.total st 1099511627776
 obtain⟨af,t2,g2⟩:=dw.total t1 1099511627776
 obtain⟨la,t3,g3⟩:=dw.total t2 1099511627776
 obtain⟨v0,v1,v2,v3,t4,g4⟩:=kD.total t3
 obtain⟨es,ks,c,t5,g5⟩:=kW.total t4
 have hl4:(leftOf t4).length≤60000:=by
  have q1:=g1.left
  have q2:=g2.left
  have q3:=g3.left
  have q4:=g4.left
  omega
 have hf4:=hfit 1099511627776 1099511627776 _ _ _ _ _ _ _ _ _ _ _ (by decide) (by decide) (by decide) (by decide) g1 g2 g3 g4
 have hok:=hf4.ok g5
 have HC:=ah hc;clear hc
 have fZ:=ah (fun W v (hs:bK w0 W v st)=>oV hs g1 (by decide) (by decide))
 have HG2:=ah (fun W v (hs:bK w0 W v t1)=>oV hs g2 (by decide) (by decide))
 have gW:=ah (fun W v (hs:bK w0 W v t2)=>oV hs g3 (by decide) (by decide))
 unfold qL at fZ HG2 gW
 have HV:=ah (fun W v (hr:bK w0 W v t3) (f:w0.heap.size≤W.heap.size)=>WI W hr f g4)
 unfold JU at HV
 have HX:=ah (fun W v (hr:bK w0 W v t4) (f:w0.heap.size≤W.heap.size)=>O_ W hr f g5 hl4 hf4)
 unfold Gn at HX
 have dU:=ah (fun W Q ev kv cv (h:gK Q W ev kv cv es ks c)=>Vz Q es ks c W dc af la v0 v1 v2 v3 ev kv cv h hok)
 have pq:=ah (fun hb=>UJ (m1:=1099511627776) (m2:=1099511627776) (by decide) (by decide) (by decide) (by decide) (b:=⟨dc,af,la,v0,v1,v2,v3,es,ks,c⟩) g1 g2 g3 g4 g5 hb)
 have yB:=ah (fun(r:List UInt8) (e:t5=some r) hr=>UH (b:=⟨dc,af,la,v0,v1,v2,v3,es,ks,c⟩) g1 g2 g3 g4 (e▸g5) hr)
 clear g1 g2 g3 g4 g5 hok hl4 hf4 hfit
 obtain⟨WB,eU⟩:∃W,W=(((w.alloc (.cells #[.slice a0 (leftOf st).length c0, .bool st.isNone] 115)).alloc (.cells #[.int .i64 0, .int .i64 0, .int .i64 0, .int .i64 0, .int .i64 0, .int .i64 0, .int .i64 0, .slice none 0 0, .slice none 0 0, .slice none 0 0] 55)).alloc (.cells #[.slice none 0 0, .bool false] 115)).alloc (.cells #[.int .i64 0, .int .i64 0, .int .i64 0, .int .i64 0, .int .i64 0, .int .i64 0, .int .i64 0, .slice none 0 0, .slice none 0 0, .slice none 0 0] 55):=⟨_,rfl⟩
 obtain⟨wr,hst,hk1,hk2,zM,hsz,hsr⟩:=dH.start4 h h0 _ _ _ _ eU
 have HST:=ah hst;clear hst
 have yj:=ah hk1;clear hk1
 have BN:=ah hk2;clear hk2
 have Gp:=ah zM;clear zM hsz hsr
 have HH0:=ah h0;clear h0
 clear h hl
 have lS:=ah (fun(W:World) (f:aj (Only w.heap.size) wr W)=>(⟨f.blk yj.out fun e=>(by have e:w.heap.size+1=w.heap.size:=e;omega),f.blk BN.out fun e=>(by have e:w.heap.size+1+1=w.heap.size:=e;omega),Gp.out.trans f fun i hi e=>(by have e:i=w.heap.size:=e;omega)⟩:
  W.heap[w.heap.size+1]?=some (.cells #[.int .i64 0, .int .i64 0, .int .i64 0, .int .i64 0, .int .i64 0, .int .i64 0, .int .i64 0, .slice none 0 0, .slice none 0 0, .slice none 0 0] 55 (0,0))∧W.heap[w.heap.size+1+1]?=some (.cells #[.slice none 0 0, .bool false] 115 (0,0))∧aj ay w W))
 generalize hb0:st.isNone=b0 at*
 generalize hm0:(leftOf st).length=L0 at*
 have HB0:=ah hb0;clear hb0
 have Wx:=ah hm0;clear hm0
 generalize hb1:t1.isNone=b1 at*
 generalize hm1:(leftOf t1).length=L1 at*
 have HB1:=ah hb1;clear hb1
 have DW:=ah hm1;clear hm1
 generalize hb2:t2.isNone=b2 at*
 generalize hm2:(leftOf t2).length=L2 at*
 have HB2:=ah hb2;clear hb2
 have OM:=ah hm2;clear hm2
 generalize hb3:t3.isNone=b3 at*
 generalize jG:(leftOf t3).length=L3 at*
 have HB3:=ah hb3;clear hb3
 have xu:=ah jG;clear jG
 generalize hb4:t4.isNone=b4 at*
 generalize hm4:(leftOf t4).length=L4 at*
 have HB4:=ah hb4;clear hb4
 have Wy:=ah hm4;clear hm4
 have dF:=ah eU;clear eU
 cases t5 with
 |none=>
  clear dU
  simp only[show(leftOf (none:Option (List UInt8))).length=0 from rfl,show(none:Option (List UInt8)).isNone=true from rfl]at HX
  obtain⟨rfl,rfl⟩:=HC.out.b_ (pq.out (.inl rfl))
  clear pq yB
  go_enter Tryz.func66,Tryz.ntmps66
  go_wp2_with(first
   |(go_at_call 64;first
    |(refine(gW.out _ _ HS2.out.rin).mono ?_;rintro e3 w3 ⟨a3,c3,rfl,hr3,hf3⟩
      clear z1 q1
      clear y0 y1 y2 y3 y4 y5 y6 y7
      obtain⟨y0,y1,y2,y3,y4,y5,y6,y7⟩:=(HS2.out.call hf3).jC HB2.out
      have z2:=(HS2.out.call hf3).free 2
      have q2:=(HS2.out.call hf3).cell 2 rfl
      have zY:dH w0 w wr ((w3).setCell ⟨w.heap.size+1+1+1,2,none⟩ (.int .i64 la)) (w.heap.size+1+1+1) 55 #[.int .i64 dc, .int .i64 af, .int .i64 la, .int .i64 0, .int .i64 0, .int .i64 0, .int .i64 0, .slice none 0 0, .slice none 0 0, .slice none 0 0] _ _:=(HS2.out.call hf3).je 2 (.int .i64 la)
      have zZ:=HST.out.kK hr3 2 (.int .i64 la)
      have fG:=ah (zY.qM zZ HB3.out)
      clear zY zZ
      clear hr3 hf3)
    |(refine(HG2.out _ _ dQ.out.rin).mono ?_;rintro e2 w2 ⟨a2,c2,rfl,hr2,hf2⟩
      clear z0 q0
      clear y0 y1 y2 y3 y4 y5 y6 y7
      obtain⟨y0,y1,y2,y3,y4,y5,y6,y7⟩:=(dQ.out.call hf2).jC HB1.out
      have z1:=(dQ.out.call hf2).free 1
      have q1:=(dQ.out.call hf2).cell 1 rfl
      have z_:dH w0 w wr ((w2).setCell ⟨w.heap.size+1+1+1,1,none⟩ (.int .i64 af)) (w.heap.size+1+1+1) 55 #[.int .i64 dc, .int .i64 af, .int .i64 0, .int .i64 0, .int .i64 0, .int .i64 0, .int .i64 0, .slice none 0 0, .slice none 0 0, .slice none 0 0] _ _:=(dQ.out.call hf2).je 1 (.int .i64 af)
      have Aa:=HST.out.kK hr2 1 (.int .i64 af)
      have HS2:=ah (z_.qM Aa HB2.out)
      clear z_ Aa
      clear hr2 hf2)
    |(rw[←dF.out];refine(fZ.out _ _ HST.out.rin).mono ?_;rintro e1 w1 ⟨a1,c1,rfl,hr1,hf1⟩
      obtain⟨y0,y1,y2,y3,y4,y5,y6,y7⟩:=(HST.out.call hf1).jC HB0.out
      have z0:=(HST.out.call hf1).free 0
      have q0:=(HST.out.call hf1).cell 0 rfl
      have Ac:=(HST.out.call hf1).qM hr1 HB1.out
      have Ad:dH w0 w wr ((((w1).setCell ⟨w.heap.size,0,none⟩ (.slice a1 L1 c1)).setCell ⟨w.heap.size,1,none⟩ (.bool b1)).setCell ⟨w.heap.size+1+1+1,0,none⟩ (.int .i64 dc)) (w.heap.size+1+1+1) 55 #[.int .i64 dc, .int .i64 0, .int .i64 0, .int .i64 0, .int .i64 0, .int .i64 0, .int .i64 0, .slice none 0 0, .slice none 0 0, .slice none 0 0] (.slice a1 L1 c1) t1:=Ac.je 0 (.int .i64 dc)
      have dQ:=ah Ad
      clear Ac Ad
      clear hr1 hf1))
   |(go_at_call 65;refine(HV.out _ _ fG.out.rin (Nat.le_trans fG.out.h0 (Nat.le_of_lt (lt_of_block fG.out.box)))).mono ?_;rintro e4 w4 ⟨a4,c4,rfl,hr4,hf4⟩
     clear z2 q2
     clear y0 y1 y2 y3 y4 y5 y6 y7
     obtain⟨y0,y1,y2,y3,y4,y5,y6,y7⟩:=(fG.out.call hf4).jC HB3.out
     have z3:=(fG.out.call hf4).free 3
     have q3:=(fG.out.call hf4).cell 3 rfl
     have z4:=(fG.out.call hf4).free 4
     have q4:=(fG.out.call hf4).cell 4 rfl
     have z5:=(fG.out.call hf4).free 5
     have q5:=(fG.out.call hf4).cell 5 rfl
     have z6:=(fG.out.call hf4).free 6
     have q6:=(fG.out.call hf4).cell 6 rfl
     have Ae:dH w0 w wr ((w4).setCell ⟨w.heap.size+1+1+1,3,none⟩ (.int .i64 v0)) (w.heap.size+1+1+1) 55 #[.int .i64 dc, .int .i64 af, .int .i64 la, .int .i64 v0, .int .i64 0, .int .i64 0, .int .i64 0, .slice none 0 0, .slice none 0 0, .slice none 0 0] _ _:=(fG.out.call hf4).je 3 (.int .i64 v0)
     have Af:=HST.out.kK hr4 3 (.int .i64 v0)
     have Ag:dH w0 w wr (((w4).setCell ⟨w.heap.size+1+1+1,3,none⟩ (.int .i64 v0)).setCell ⟨w.heap.size+1+1+1,4,none⟩ (.int .i64 v1)) (w.heap.size+1+1+1) 55 #[.int .i64 dc, .int .i64 af, .int .i64 la, .int .i64 v0, .int .i64 v1, .int .i64 0, .int .i64 0, .slice none 0 0, .slice none 0 0, .slice none 0 0] _ _:=Ae.je 4 (.int .i64 v1)
     have Ah:=HST.out.kK Af 4 (.int .i64 v1)
     have Ai:dH w0 w wr ((((w4).setCell ⟨w.heap.size+1+1+1,3,none⟩ (.int .i64 v0)).setCell ⟨w.heap.size+1+1+1,4,none⟩ (.int .i64 v1)).setCell ⟨w.heap.size+1+1+1,5,none⟩ (.int .i64 v2)) (w.heap.size+1+1+1) 55 #[.int .i64 dc, .int .i64 af, .int .i64 la, .int .i64 v0, .int .i64 v1, .int .i64 v2, .int .i64 0, .slice none 0 0, .slice none 0 0, .slice none 0 0] _ _:=Ag.je 5 (.int .i64 v2)
     have Aj:=HST.out.kK Ah 5 (.int .i64 v2)
     have Ak:dH w0 w wr (((((w4).setCell ⟨w.heap.size+1+1+1,3,none⟩ (.int .i64 v0)).setCell ⟨w.heap.size+1+1+1,4,none⟩ (.int .i64 v1)).setCell ⟨w.heap.size+1+1+1,5,none⟩ (.int .i64 v2)).setCell ⟨w.heap.size+1+1+1,6,none⟩ (.int .i64 v3)) (w.heap.size+1+1+1) 55 #[.int .i64 dc, .int .i64 af, .int .i64 la, .int .i64 v0, .int .i64 v1, .int .i64 v2, .int .i64 v3, .slice none 0 0, .slice none 0 0, .slice none 0 0] _ _:=Ai.je 6 (.int .i64 v3)
     have Am:=HST.out.kK Aj 6 (.int .i64 v3)
     have cO:=ah (Ak.qM Am HB4.out)
     clear Ae Af Ag Ah Ai Aj Ak Am
     clear hr4 hf4)
   |(go_at_call 67;refine(HX.out _ _ cO.out.rin (Nat.le_trans cO.out.h0 (Nat.le_of_lt (lt_of_block cO.out.box)))).mono ?_;rintro e5 w5 ⟨ev,kv,cv,a5,c5,rfl,hta,hrc,gI,hf5⟩
     obtain⟨d3,e3,rfl⟩:=hta.ents.rd.sl
     obtain⟨os3,fE,-⟩:=hta.kids
     obtain⟨d4,e4,rfl⟩:=fE.rd.sl
     obtain⟨d5,e5,rfl⟩:=hrc.at_.sl
     clear fE
     clear z3 q3 z4 q4 z5 q5 z6 q6
     clear y0 y1 y2 y3 y4 y5 y6 y7
     obtain⟨y0,y1,y2,y3,y4,y5,y6,y7⟩:=(cO.out.call hf5).jC HB4.out
     have z7:=(cO.out.call hf5).free 7
     have q7:=(cO.out.call hf5).cell 7 rfl
     have z8:=(cO.out.call hf5).free 8
     have q8:=(cO.out.call hf5).cell 8 rfl
     have z9:=(cO.out.call hf5).free 9
     have q9:=(cO.out.call hf5).cell 9 rfl
     have p0:w5.cell? ⟨w.heap.size+1+1+1,0,none⟩=some (.int .i64 dc):=(cO.out.call hf5).cell 0 rfl
     have p1:w5.cell? ⟨w.heap.size+1+1+1,1,none⟩=some (.int .i64 af):=(cO.out.call hf5).cell 1 rfl
     have p2:w5.cell? ⟨w.heap.size+1+1+1,2,none⟩=some (.int .i64 la):=(cO.out.call hf5).cell 2 rfl
     have p3:w5.cell? ⟨w.heap.size+1+1+1,3,none⟩=some (.int .i64 v0):=(cO.out.call hf5).cell 3 rfl
     have p4:w5.cell? ⟨w.heap.size+1+1+1,4,none⟩=some (.int .i64 v1):=(cO.out.call hf5).cell 4 rfl
     have p5:w5.cell? ⟨w.heap.size+1+1+1,5,none⟩=some (.int .i64 v2):=(cO.out.call hf5).cell 5 rfl
     have p6:w5.cell? ⟨w.heap.size+1+1+1,6,none⟩=some (.int .i64 v3):=(cO.out.call hf5).cell 6 rfl
     have Ap:dH w0 w wr ((w5).setCell ⟨w.heap.size+1+1+1,7,none⟩ (.slice d3 es.length e3)) (w.heap.size+1+1+1) 55 #[.int .i64 dc, .int .i64 af, .int .i64 la, .int .i64 v0, .int .i64 v1, .int .i64 v2, .int .i64 v3, .slice d3 es.length e3, .slice none 0 0, .slice none 0 0] _ _:=(cO.out.call hf5).je 7 (.slice d3 es.length e3)
     have Aq:=HST.out.kK gI 7 (.slice d3 es.length e3)
     have Ar:dH w0 w wr (((w5).setCell ⟨w.heap.size+1+1+1,7,none⟩ (.slice d3 es.length e3)).setCell ⟨w.heap.size+1+1+1,8,none⟩ (.slice d4 ks.len e4)) (w.heap.size+1+1+1) 55 #[.int .i64 dc, .int .i64 af, .int .i64 la, .int .i64 v0, .int .i64 v1, .int .i64 v2, .int .i64 v3, .slice d3 es.length e3, .slice d4 ks.len e4, .slice none 0 0] _ _:=Ap.je 8 (.slice d4 ks.len e4)
     have Au:=HST.out.kK Aq 8 (.slice d4 ks.len e4)
     have Aw:dH w0 w wr ((((w5).setCell ⟨w.heap.size+1+1+1,7,none⟩ (.slice d3 es.length e3)).setCell ⟨w.heap.size+1+1+1,8,none⟩ (.slice d4 ks.len e4)).setCell ⟨w.heap.size+1+1+1,9,none⟩ (.slice d5 c.length e5)) (w.heap.size+1+1+1) 55 #[.int .i64 dc, .int .i64 af, .int .i64 la, .int .i64 v0, .int .i64 v1, .int .i64 v2, .int .i64 v3, .slice d3 es.length e3, .slice d4 ks.len e4, .slice d5 c.length e5] _ _:=Ar.je 9 (.slice d5 c.length e5)
     have Az:=HST.out.kK Au 9 (.slice d5 c.length e5)
     have GY:=ah (Aw.qM Az (b:=true) rfl)
     clear Ap Aq Ar Au Aw Az
     have hsz1:=lt_of_block cO.out.blk
     have hft:aj (fun k=>k=w.heap.size+1+1+1∨k=w.heap.size) w5 ((((((w5).setCell ⟨w.heap.size+1+1+1,7,none⟩ (.slice d3 es.length e3)).setCell ⟨w.heap.size+1+1+1,8,none⟩ (.slice d4 ks.len e4)).setCell ⟨w.heap.size+1+1+1,9,none⟩ (.slice d5 c.length e5)).setCell ⟨w.heap.size,0,none⟩ (.slice a5 0 c5)).setCell ⟨w.heap.size,1,none⟩ (.bool true)):=
      ((((dG w5 (w.heap.size+1+1+1) 7 _).trans (dG _ (w.heap.size+1+1+1) 8 _) fun _ _ h=>h).trans (dG _ (w.heap.size+1+1+1) 9 _) fun _ _ h=>h).mono fun k _ hk=> .inl hk).trans ((fV _ w.heap.size _ _).mono fun k _ hk=> .inr hk) fun _ _ h=>h
     have turn:∀k,k<w5.heap.size→(((((((w4).setCell ⟨w.heap.size+1+1+1,3,none⟩ (.int .i64 v0)).setCell ⟨w.heap.size+1+1+1,4,none⟩ (.int .i64 v1)).setCell ⟨w.heap.size+1+1+1,5,none⟩ (.int .i64 v2)).setCell ⟨w.heap.size+1+1+1,6,none⟩ (.int .i64 v3)).setCell ⟨w.heap.size,0,none⟩ (.slice a4 L4 c4)).setCell ⟨w.heap.size,1,none⟩ (.bool b4)).heap.size≤k→((((((w5).setCell ⟨w.heap.size+1+1+1,7,none⟩ (.slice d3 es.length e3)).setCell ⟨w.heap.size+1+1+1,8,none⟩ (.slice d4 ks.len e4)).setCell ⟨w.heap.size+1+1+1,9,none⟩ (.slice d5 c.length e5)).setCell ⟨w.heap.size,0,none⟩ (.slice a5 0 c5)).setCell ⟨w.heap.size,1,none⟩ (.bool true)).heap[k]?=w5.heap[k]?∧w.heap.size+1+1+1≤k:=fun k hk hQ=>⟨hft.block k hk fun hs=>(by have h9:=Nat.lt_of_lt_of_le hsz1 hQ;clear hft hsz1;rcases hs with hs|hs<;>omega),Nat.le_of_lt (Nat.lt_of_lt_of_le hsz1 hQ)⟩
     have gV:=ah (hta.turn turn)
     have gU:=ah (show dP (fun k=>w.heap.size+1+1+1≤k) _ (.slice d5 c.length e5) c from eH.turn hrc turn)
     obtain⟨g1,g2,hfw⟩:=lS.out w5 (cO.out.call hf5).aH
     have k0:=au g1 0 rfl
     have i0:=aG g1 0
     have k1:=au g1 1 rfl
     have i1:=aG g1 1
     have k2:=au g1 2 rfl
     have i2:=aG g1 2
     have k3:=au g1 3 rfl
     have i3:=aG g1 3
     have k4:=au g1 4 rfl
     have i4:=aG g1 4
     have k5:=au g1 5 rfl
     have i5:=aG g1 5
     have k6:=au g1 6 rfl
     have i6:=aG g1 6
     have k7:=au g1 7 rfl
     have i7:=aG g1 7
     have k8:=au g1 8 rfl
     have i8:=aG g1 8
     have k9:=au g1 9 rfl
     have i9:=aG g1 9
     have hl1:=lt_of_block g1
     have k10:=au g2 0 rfl
     have GZ:=aG g2 0
     have k11:=au g2 1 rfl
     have i11:=aG g2 1
     have hl2:=lt_of_block g2
     clear g1 g2 hfw
     clear hft turn hta hrc gI hf5 hsz1
     generalize es.length=n at*
     generalize ks.len=m at*
     generalize c.length=k at*))
  clear k0 i0 k1 i1 k2 i2 k3 i3 k4 i4 k5 i5 k6 i6 k7 i7 k8 i8 k9 i9 k10 GZ k11 i11 hl1 hl2
  clear p0 p1 p2 p3 p4 p5 p6 z7 q7 z8 q8 z9 q9 y0 y1 y2 y3 y4 y5 y6 y7
  obtain⟨g1,g2,hfw⟩:=lS.out _ GY.out.aH
  have G1:=ah g1;clear g1
  have G2:=ah g2;clear g2
  obtain⟨dW,AA⟩:=Qc (x0:= .int .i64 0) (x1:= .int .i64 0) (x2:= .int .i64 0) (x3:= .int .i64 0) (x4:= .int .i64 0) (x5:= .int .i64 0) (x6:= .int .i64 0) (x7:= .slice none 0 0) (x8:= .slice none 0 0) (x9:= .slice none 0 0) (y0:= .slice none 0 0) (y1:= .bool true) G1.out G2.out _ rfl
  have y0:=au dW 0 rfl
  have y1:=au dW 1 rfl
  have y2:=au dW 2 rfl
  have y3:=au dW 3 rfl
  have y4:=au dW 4 rfl
  have y5:=au dW 5 rfl
  have y6:=au dW 6 rfl
  have y7:=au dW 7 rfl
  have y8:=au dW 8 rfl
  have y9:=au dW 9 rfl
  have aY:=au AA 0 rfl
  have G_:=au AA 1 rfl
  exact bodyPost_ret (v:= .tuple #[.agg #[.int .i64 0, .int .i64 0, .int .i64 0, .int .i64 0, .int .i64 0, .int .i64 0, .int .i64 0, .slice none 0 0, .slice none 0 0, .slice none 0 0], .agg #[.slice none 0 0, .bool true]]) (by simp[results,Tryz.results66,go_sem,y0,y1,y2,y3,y4,y5,y6,y7,y8,y9,aY,G_]) rfl (Qa dL.zero (tX _ _) (wK _ _) (a:=none) (l:=0) (s:=none) (bK.bad w0 _) HH0.out hfw (Qb w _ _ _ _ _ _ _ _ _ _ _ _ _))
 |some r=>
  simp only[show(leftOf (some r)).length=r.length from rfl,show(some r).isNone=false from rfl]at HX
  by_cases hr:nM dc af la (bP v0 v1 v2 v3) es ks c
  ·rw[dO hr]at dU
   obtain⟨rfl,rfl⟩:=HC.out.b_ (yB.out r rfl hr)
   clear hr pq yB
   go_enter Tryz.func66,Tryz.ntmps66
   go_wp2_with(first
    |(go_at_call 64;first
     |(refine(gW.out _ _ HS2.out.rin).mono ?_;rintro e3 w3 ⟨a3,c3,rfl,hr3,hf3⟩
       clear z1 q1
       clear y0 y1 y2 y3 y4 y5 y6 y7
       obtain⟨y0,y1,y2,y3,y4,y5,y6,y7⟩:=(HS2.out.call hf3).jC HB2.out
       have z2:=(HS2.out.call hf3).free 2
       have q2:=(HS2.out.call hf3).cell 2 rfl
       have zY:dH w0 w wr ((w3).setCell ⟨w.heap.size+1+1+1,2,none⟩ (.int .i64 la)) (w.heap.size+1+1+1) 55 #[.int .i64 dc, .int .i64 af, .int .i64 la, .int .i64 0, .int .i64 0, .int .i64 0, .int .i64 0, .slice none 0 0, .slice none 0 0, .slice none 0 0] _ _:=(HS2.out.call hf3).je 2 (.int .i64 la)
       have zZ:=HST.out.kK hr3 2 (.int .i64 la)
       have fG:=ah (zY.qM zZ HB3.out)
       clear zY zZ
       clear hr3 hf3)
     |(refine(HG2.out _ _ dQ.out.rin).mono ?_;rintro e2 w2 ⟨a2,c2,rfl,hr2,hf2⟩
       clear z0 q0
       clear y0 y1 y2 y3 y4 y5 y6 y7
       obtain⟨y0,y1,y2,y3,y4,y5,y6,y7⟩:=(dQ.out.call hf2).jC HB1.out
       have z1:=(dQ.out.call hf2).free 1
       have q1:=(dQ.out.call hf2).cell 1 rfl
       have z_:dH w0 w wr ((w2).setCell ⟨w.heap.size+1+1+1,1,none⟩ (.int .i64 af)) (w.heap.size+1+1+1) 55 #[.int .i64 dc, .int .i64 af, .int .i64 0, .int .i64 0, .int .i64 0, .int .i64 0, .int .i64 0, .slice none 0 0, .slice none 0 0, .slice none 0 0] _ _:=(dQ.out.call hf2).je 1 (.int .i64 af)
       have Aa:=HST.out.kK hr2 1 (.int .i64 af)
       have HS2:=ah (z_.qM Aa HB2.out)
       clear z_ Aa
       clear hr2 hf2)
     |(rw[←dF.out];refine(fZ.out _ _ HST.out.rin).mono ?_;rintro e1 w1 ⟨a1,c1,rfl,hr1,hf1⟩
       obtain⟨y0,y1,y2,y3,y4,y5,y6,y7⟩:=(HST.out.call hf1).jC HB0.out
       have z0:=(HST.out.call hf1).free 0
       have q0:=(HST.out.call hf1).cell 0 rfl
       have Ac:=(HST.out.call hf1).qM hr1 HB1.out
       have Ad:dH w0 w wr ((((w1).setCell ⟨w.heap.size,0,none⟩ (.slice a1 L1 c1)).setCell ⟨w.heap.size,1,none⟩ (.bool b1)).setCell ⟨w.heap.size+1+1+1,0,none⟩ (.int .i64 dc)) (w.heap.size+1+1+1) 55 #[.int .i64 dc, .int .i64 0, .int .i64 0, .int .i64 0, .int .i64 0, .int .i64 0, .int .i64 0, .slice none 0 0, .slice none 0 0, .slice none 0 0] (.slice a1 L1 c1) t1:=Ac.je 0 (.int .i64 dc)
       have dQ:=ah Ad
       clear Ac Ad
       clear hr1 hf1))
    |(go_at_call 65;refine(HV.out _ _ fG.out.rin (Nat.le_trans fG.out.h0 (Nat.le_of_lt (lt_of_block fG.out.box)))).mono ?_;rintro e4 w4 ⟨a4,c4,rfl,hr4,hf4⟩
      clear z2 q2
      clear y0 y1 y2 y3 y4 y5 y6 y7
      obtain⟨y0,y1,y2,y3,y4,y5,y6,y7⟩:=(fG.out.call hf4).jC HB3.out
      have z3:=(fG.out.call hf4).free 3
      have q3:=(fG.out.call hf4).cell 3 rfl
      have z4:=(fG.out.call hf4).free 4
      have q4:=(fG.out.call hf4).cell 4 rfl
      have z5:=(fG.out.call hf4).free 5
      have q5:=(fG.out.call hf4).cell 5 rfl
      have z6:=(fG.out.call hf4).free 6
      have q6:=(fG.out.call hf4).cell 6 rfl
      have Ae:dH w0 w wr ((w4).setCell ⟨w.heap.size+1+1+1,3,none⟩ (.int .i64 v0)) (w.heap.size+1+1+1) 55 #[.int .i64 dc, .int .i64 af, .int .i64 la, .int .i64 v0, .int .i64 0, .int .i64 0, .int .i64 0, .slice none 0 0, .slice none 0 0, .slice none 0 0] _ _:=(fG.out.call hf4).je 3 (.int .i64 v0)
      have Af:=HST.out.kK hr4 3 (.int .i64 v0)
      have Ag:dH w0 w wr (((w4).setCell ⟨w.heap.size+1+1+1,3,none⟩ (.int .i64 v0)).setCell ⟨w.heap.size+1+1+1,4,none⟩ (.int .i64 v1)) (w.heap.size+1+1+1) 55 #[.int .i64 dc, .int .i64 af, .int .i64 la, .int .i64 v0, .int .i64 v1, .int .i64 0, .int .i64 0, .slice none 0 0, .slice none 0 0, .slice none 0 0] _ _:=Ae.je 4 (.int .i64 v1)
      have Ah:=HST.out.kK Af 4 (.int .i64 v1)
      have Ai:dH w0 w wr ((((w4).setCell ⟨w.heap.size+1+1+1,3,none⟩ (.int .i64 v0)).setCell ⟨w.heap.size+1+1+1,4,none⟩ (.int .i64 v1)).setCell ⟨w.heap.size+1+1+1,5,none⟩ (.int .i64 v2)) (w.heap.size+1+1+1) 55 #[.int .i64 dc, .int .i64 af, .int .i64 la, .int .i64 v0, .int .i64 v1, .int .i64 v2, .int .i64 0, .slice none 0 0, .slice none 0 0, .slice none 0 0] _ _:=Ag.je 5 (.int .i64 v2)
      have Aj:=HST.out.kK Ah 5 (.int .i64 v2)
      have Ak:dH w0 w wr (((((w4).setCell ⟨w.heap.size+1+1+1,3,none⟩ (.int .i64 v0)).setCell ⟨w.heap.size+1+1+1,4,none⟩ (.int .i64 v1)).setCell ⟨w.heap.size+1+1+1,5,none⟩ (.int .i64 v2)).setCell ⟨w.heap.size+1+1+1,6,none⟩ (.int .i64 v3)) (w.heap.size+1+1+1) 55 #[.int .i64 dc, .int .i64 af, .int .i64 la, .int .i64 v0, .int .i64 v1, .int .i64 v2, .int .i64 v3, .slice none 0 0, .slice none 0 0, .slice none 0 0] _ _:=Ai.je 6 (.int .i64 v3)
      have Am:=HST.out.kK Aj 6 (.int .i64 v3)
      have cO:=ah (Ak.qM Am HB4.out)
      clear Ae Af Ag Ah Ai Aj Ak Am
      clear hr4 hf4)
    |(go_at_call 67;refine(HX.out _ _ cO.out.rin (Nat.le_trans cO.out.h0 (Nat.le_of_lt (lt_of_block cO.out.box)))).mono ?_;rintro e5 w5 ⟨ev,kv,cv,a5,c5,rfl,hta,hrc,gI,hf5⟩
      obtain⟨d3,e3,rfl⟩:=hta.ents.rd.sl
      obtain⟨os3,fE,-⟩:=hta.kids
      obtain⟨d4,e4,rfl⟩:=fE.rd.sl
      obtain⟨d5,e5,rfl⟩:=hrc.at_.sl
      clear fE
      clear z3 q3 z4 q4 z5 q5 z6 q6
      clear y0 y1 y2 y3 y4 y5 y6 y7
      obtain⟨y0,y1,y2,y3,y4,y5,y6,y7⟩:=(cO.out.call hf5).jC HB4.out
      have z7:=(cO.out.call hf5).free 7
      have q7:=(cO.out.call hf5).cell 7 rfl
      have z8:=(cO.out.call hf5).free 8
      have q8:=(cO.out.call hf5).cell 8 rfl
      have z9:=(cO.out.call hf5).free 9
      have q9:=(cO.out.call hf5).cell 9 rfl
      have p0:w5.cell? ⟨w.heap.size+1+1+1,0,none⟩=some (.int .i64 dc):=(cO.out.call hf5).cell 0 rfl
      have p1:w5.cell? ⟨w.heap.size+1+1+1,1,none⟩=some (.int .i64 af):=(cO.out.call hf5).cell 1 rfl
      have p2:w5.cell? ⟨w.heap.size+1+1+1,2,none⟩=some (.int .i64 la):=(cO.out.call hf5).cell 2 rfl
      have p3:w5.cell? ⟨w.heap.size+1+1+1,3,none⟩=some (.int .i64 v0):=(cO.out.call hf5).cell 3 rfl
      have p4:w5.cell? ⟨w.heap.size+1+1+1,4,none⟩=some (.int .i64 v1):=(cO.out.call hf5).cell 4 rfl
      have p5:w5.cell? ⟨w.heap.size+1+1+1,5,none⟩=some (.int .i64 v2):=(cO.out.call hf5).cell 5 rfl
      have p6:w5.cell? ⟨w.heap.size+1+1+1,6,none⟩=some (.int .i64 v3):=(cO.out.call hf5).cell 6 rfl
      have Ap:dH w0 w wr ((w5).setCell ⟨w.heap.size+1+1+1,7,none⟩ (.slice d3 es.length e3)) (w.heap.size+1+1+1) 55 #[.int .i64 dc, .int .i64 af, .int .i64 la, .int .i64 v0, .int .i64 v1, .int .i64 v2, .int .i64 v3, .slice d3 es.length e3, .slice none 0 0, .slice none 0 0] _ _:=(cO.out.call hf5).je 7 (.slice d3 es.length e3)
      have Aq:=HST.out.kK gI 7 (.slice d3 es.length e3)
      have Ar:dH w0 w wr (((w5).setCell ⟨w.heap.size+1+1+1,7,none⟩ (.slice d3 es.length e3)).setCell ⟨w.heap.size+1+1+1,8,none⟩ (.slice d4 ks.len e4)) (w.heap.size+1+1+1) 55 #[.int .i64 dc, .int .i64 af, .int .i64 la, .int .i64 v0, .int .i64 v1, .int .i64 v2, .int .i64 v3, .slice d3 es.length e3, .slice d4 ks.len e4, .slice none 0 0] _ _:=Ap.je 8 (.slice d4 ks.len e4)
      have Au:=HST.out.kK Aq 8 (.slice d4 ks.len e4)
      have Aw:dH w0 w wr ((((w5).setCell ⟨w.heap.size+1+1+1,7,none⟩ (.slice d3 es.length e3)).setCell ⟨w.heap.size+1+1+1,8,none⟩ (.slice d4 ks.len e4)).setCell ⟨w.heap.size+1+1+1,9,none⟩ (.slice d5 c.length e5)) (w.heap.size+1+1+1) 55 #[.int .i64 dc, .int .i64 af, .int .i64 la, .int .i64 v0, .int .i64 v1, .int .i64 v2, .int .i64 v3, .slice d3 es.length e3, .slice d4 ks.len e4, .slice d5 c.length e5] _ _:=Ar.je 9 (.slice d5 c.length e5)
      have Az:=HST.out.kK Au 9 (.slice d5 c.length e5)
      have GY:=ah (Aw.qM Az (b:=false) rfl)
      clear Ap Aq Ar Au Aw Az
      have hsz1:=lt_of_block cO.out.blk
      have hft:aj (fun k=>k=w.heap.size+1+1+1∨k=w.heap.size) w5 ((((((w5).setCell ⟨w.heap.size+1+1+1,7,none⟩ (.slice d3 es.length e3)).setCell ⟨w.heap.size+1+1+1,8,none⟩ (.slice d4 ks.len e4)).setCell ⟨w.heap.size+1+1+1,9,none⟩ (.slice d5 c.length e5)).setCell ⟨w.heap.size,0,none⟩ (.slice a5 r.length c5)).setCell ⟨w.heap.size,1,none⟩ (.bool false)):=
       ((((dG w5 (w.heap.size+1+1+1) 7 _).trans (dG _ (w.heap.size+1+1+1) 8 _) fun _ _ h=>h).trans (dG _ (w.heap.size+1+1+1) 9 _) fun _ _ h=>h).mono fun k _ hk=> .inl hk).trans ((fV _ w.heap.size _ _).mono fun k _ hk=> .inr hk) fun _ _ h=>h
      have turn:∀k,k<w5.heap.size→(((((((w4).setCell ⟨w.heap.size+1+1+1,3,none⟩ (.int .i64 v0)).setCell ⟨w.heap.size+1+1+1,4,none⟩ (.int .i64 v1)).setCell ⟨w.heap.size+1+1+1,5,none⟩ (.int .i64 v2)).setCell ⟨w.heap.size+1+1+1,6,none⟩ (.int .i64 v3)).setCell ⟨w.heap.size,0,none⟩ (.slice a4 L4 c4)).setCell ⟨w.heap.size,1,none⟩ (.bool b4)).heap.size≤k→((((((w5).setCell ⟨w.heap.size+1+1+1,7,none⟩ (.slice d3 es.length e3)).setCell ⟨w.heap.size+1+1+1,8,none⟩ (.slice d4 ks.len e4)).setCell ⟨w.heap.size+1+1+1,9,none⟩ (.slice d5 c.length e5)).setCell ⟨w.heap.size,0,none⟩ (.slice a5 r.length c5)).setCell ⟨w.heap.size,1,none⟩ (.bool false)).heap[k]?=w5.heap[k]?∧w.heap.size+1+1+1≤k:=fun k hk hQ=>⟨hft.block k hk fun hs=>(by have h9:=Nat.lt_of_lt_of_le hsz1 hQ;clear hft hsz1;rcases hs with hs|hs<;>omega),Nat.le_of_lt (Nat.lt_of_lt_of_le hsz1 hQ)⟩
      have gV:=ah (hta.turn turn)
      have gU:=ah (show dP (fun k=>w.heap.size+1+1+1≤k) _ (.slice d5 c.length e5) c from eH.turn hrc turn)
      clear hft turn hta hrc gI hf5 hsz1
      generalize es.length=n at*
      generalize ks.len=m at*
      generalize c.length=k at*)
    |(go_at_call 24;refine(dU.out _ _ _ _ _ ⟨gV.out,gU.out.at_⟩).mono ?_;rintro e w7 ⟨rfl,jU⟩
      clear p0 p1 p2 p3 p4 p5 p6 z7 q7 z8 q8 z9 q9 y0 y1 y2 y3 y4 y5 y6 y7
      have rP:=ah (GY.out.call jU)
      have Ko:=ah (gV.out.aJ jU)
      have Kq:=ah (gU.out.aJ jU)
      obtain⟨g1,g2,hfw⟩:=lS.out w7 rP.out.aH
      have k0:=au g1 0 rfl
      have i0:=aG g1 0
      have k1:=au g1 1 rfl
      have i1:=aG g1 1
      have k2:=au g1 2 rfl
      have i2:=aG g1 2
      have k3:=au g1 3 rfl
      have i3:=aG g1 3
      have k4:=au g1 4 rfl
      have i4:=aG g1 4
      have k5:=au g1 5 rfl
      have i5:=aG g1 5
      have k6:=au g1 6 rfl
      have i6:=aG g1 6
      have k7:=au g1 7 rfl
      have i7:=aG g1 7
      have k8:=au g1 8 rfl
      have i8:=aG g1 8
      have k9:=au g1 9 rfl
      have i9:=aG g1 9
      have hl1:=lt_of_block g1
      have k10:=au g2 0 rfl
      have GZ:=aG g2 0
      have k11:=au g2 1 rfl
      have i11:=aG g2 1
      have hl2:=lt_of_block g2
      have G1:=ah g1;clear g1
      have G2:=ah g2;clear g2
      have BO:=ah hfw
      clear jU hfw
      obtain⟨y0,y1,y2,y3,y4,y5,y6,y7⟩:=rP.out.jC (b:=false) rfl
      have p0:w7.cell? ⟨w.heap.size+1+1+1,0,none⟩=some (.int .i64 dc):=rP.out.cell 0 rfl
      have p1:w7.cell? ⟨w.heap.size+1+1+1,1,none⟩=some (.int .i64 af):=rP.out.cell 1 rfl
      have p2:w7.cell? ⟨w.heap.size+1+1+1,2,none⟩=some (.int .i64 la):=rP.out.cell 2 rfl
      have p3:w7.cell? ⟨w.heap.size+1+1+1,3,none⟩=some (.int .i64 v0):=rP.out.cell 3 rfl
      have p4:w7.cell? ⟨w.heap.size+1+1+1,4,none⟩=some (.int .i64 v1):=rP.out.cell 4 rfl
      have p5:w7.cell? ⟨w.heap.size+1+1+1,5,none⟩=some (.int .i64 v2):=rP.out.cell 5 rfl
      have p6:w7.cell? ⟨w.heap.size+1+1+1,6,none⟩=some (.int .i64 v3):=rP.out.cell 6 rfl
      have p7:w7.cell? ⟨w.heap.size+1+1+1,7,none⟩=some (.slice d3 n e3):=rP.out.cell 7 rfl
      have p8:w7.cell? ⟨w.heap.size+1+1+1,8,none⟩=some (.slice d4 m e4):=rP.out.cell 8 rfl
      have p9:w7.cell? ⟨w.heap.size+1+1+1,9,none⟩=some (.slice d5 k e5):=rP.out.cell 9 rfl))
   go_region
   all_goals
    clear k0 i0 k1 i1 k2 i2 k3 i3 k4 i4 k5 i5 k6 i6 k7 i7 k8 i8 k9 i9 k10 GZ k11 i11 hl1 hl2
    clear p0 p1 p2 p3 p4 p5 p6 p7 p8 p9 y0 y1 y2 y3 y4 y5 y6 y7
    obtain⟨dW,AA⟩:=Qc (x0:= .int .i64 dc) (x1:= .int .i64 af) (x2:= .int .i64 la) (x3:= .int .i64 v0) (x4:= .int .i64 v1) (x5:= .int .i64 v2) (x6:= .int .i64 v3) (x7:= .slice d3 n e3) (x8:= .slice d4 m e4) (x9:= .slice d5 k e5) (y0:= .slice a5 r.length c5) (y1:= .bool false) G1.out G2.out _ rfl
    have y0:=au dW 0 rfl
    have y1:=au dW 1 rfl
    have y2:=au dW 2 rfl
    have y3:=au dW 3 rfl
    have y4:=au dW 4 rfl
    have y5:=au dW 5 rfl
    have y6:=au dW 6 rfl
    have y7:=au dW 7 rfl
    have y8:=au dW 8 rfl
    have y9:=au dW 9 rfl
    have aY:=au AA 0 rfl
    have G_:=au AA 1 rfl
    go_wp2
    exact bodyPost_ret (v:= .tuple #[.agg #[.int .i64 dc, .int .i64 af, .int .i64 la, .int .i64 v0, .int .i64 v1, .int .i64 v2, .int .i64 v3, .slice d3 n e3, .slice d4 m e4, .slice d5 k e5], .agg #[.slice a5 r.length c5, .bool false]]) (by simp[results,Tryz.results66,go_sem,y0,y1,y2,y3,y4,y5,y6,y7,y8,y9,aY,G_]) rfl (Qa ⟨dc,af,la,v0,v1,v2,v3,es,ks,c⟩ Ko.out Kq.out (s:=some r) rP.out.rin HH0.out BO.out ((Qb w w7 _ _ _ _ _ _ _ _ _ _ _ _).aC (aj.drew ay _)))
  ·rw[bf hr]at dU
   obtain⟨rfl,rfl⟩:=HC.out.b_ (pq.out (.inr hr))
   clear hr pq yB
   go_enter Tryz.func66,Tryz.ntmps66
   go_wp2_with(first
    |(go_at_call 64;first
     |(refine(gW.out _ _ HS2.out.rin).mono ?_;rintro e3 w3 ⟨a3,c3,rfl,hr3,hf3⟩
       clear z1 q1
       clear y0 y1 y2 y3 y4 y5 y6 y7
       obtain⟨y0,y1,y2,y3,y4,y5,y6,y7⟩:=(HS2.out.call hf3).jC HB2.out
       have z2:=(HS2.out.call hf3).free 2
       have q2:=(HS2.out.call hf3).cell 2 rfl
       have zY:dH w0 w wr ((w3).setCell ⟨w.heap.size+1+1+1,2,none⟩ (.int .i64 la)) (w.heap.size+1+1+1) 55 #[.int .i64 dc, .int .i64 af, .int .i64 la, .int .i64 0, .int .i64 0, .int .i64 0, .int .i64 0, .slice none 0 0, .slice none 0 0, .slice none 0 0] _ _:=(HS2.out.call hf3).je 2 (.int .i64 la)
       have zZ:=HST.out.kK hr3 2 (.int .i64 la)
       have fG:=ah (zY.qM zZ HB3.out)
       clear zY zZ
       clear hr3 hf3)
     |(refine(HG2.out _ _ dQ.out.rin).mono ?_;rintro e2 w2 ⟨a2,c2,rfl,hr2,hf2⟩
       clear z0 q0
       clear y0 y1 y2 y3 y4 y5 y6 y7
       obtain⟨y0,y1,y2,y3,y4,y5,y6,y7⟩:=(dQ.out.call hf2).jC HB1.out
       have z1:=(dQ.out.call hf2).free 1
       have q1:=(dQ.out.call hf2).cell 1 rfl
       have z_:dH w0 w wr ((w2).setCell ⟨w.heap.size+1+1+1,1,none⟩ (.int .i64 af)) (w.heap.size+1+1+1) 55 #[.int .i64 dc, .int .i64 af, .int .i64 0, .int .i64 0, .int .i64 0, .int .i64 0, .int .i64 0, .slice none 0 0, .slice none 0 0, .slice none 0 0] _ _:=(dQ.out.call hf2).je 1 (.int .i64 af)
       have Aa:=HST.out.kK hr2 1 (.int .i64 af)
       have HS2:=ah (z_.qM Aa HB2.out)
       clear z_ Aa
       clear hr2 hf2)
     |(rw[←dF.out];refine(fZ.out _ _ HST.out.rin).mono ?_;rintro e1 w1 ⟨a1,c1,rfl,hr1,hf1⟩
       obtain⟨y0,y1,y2,y3,y4,y5,y6,y7⟩:=(HST.out.call hf1).jC HB0.out
       have z0:=(HST.out.call hf1).free 0
       have q0:=(HST.out.call hf1).cell 0 rfl
       have Ac:=(HST.out.call hf1).qM hr1 HB1.out
       have Ad:dH w0 w wr ((((w1).setCell ⟨w.heap.size,0,none⟩ (.slice a1 L1 c1)).setCell ⟨w.heap.size,1,none⟩ (.bool b1)).setCell ⟨w.heap.size+1+1+1,0,none⟩ (.int .i64 dc)) (w.heap.size+1+1+1) 55 #[.int .i64 dc, .int .i64 0, .int .i64 0, .int .i64 0, .int .i64 0, .int .i64 0, .int .i64 0, .slice none 0 0, .slice none 0 0, .slice none 0 0] (.slice a1 L1 c1) t1:=Ac.je 0 (.int .i64 dc)
       have dQ:=ah Ad
       clear Ac Ad
       clear hr1 hf1))
    |(go_at_call 65;refine(HV.out _ _ fG.out.rin (Nat.le_trans fG.out.h0 (Nat.le_of_lt (lt_of_block fG.out.box)))).mono ?_;rintro e4 w4 ⟨a4,c4,rfl,hr4,hf4⟩
      clear z2 q2
      clear y0 y1 y2 y3 y4 y5 y6 y7
      obtain⟨y0,y1,y2,y3,y4,y5,y6,y7⟩:=(fG.out.call hf4).jC HB3.out
      have z3:=(fG.out.call hf4).free 3
      have q3:=(fG.out.call hf4).cell 3 rfl
      have z4:=(fG.out.call hf4).free 4
      have q4:=(fG.out.call hf4).cell 4 rfl
      have z5:=(fG.out.call hf4).free 5
      have q5:=(fG.out.call hf4).cell 5 rfl
      have z6:=(fG.out.call hf4).free 6
      have q6:=(fG.out.call hf4).cell 6 rfl
      have Ae:dH w0 w wr ((w4).setCell ⟨w.heap.size+1+1+1,3,none⟩ (.int .i64 v0)) (w.heap.size+1+1+1) 55 #[.int .i64 dc, .int .i64 af, .int .i64 la, .int .i64 v0, .int .i64 0, .int .i64 0, .int .i64 0, .slice none 0 0, .slice none 0 0, .slice none 0 0] _ _:=(fG.out.call hf4).je 3 (.int .i64 v0)
      have Af:=HST.out.kK hr4 3 (.int .i64 v0)
      have Ag:dH w0 w wr (((w4).setCell ⟨w.heap.size+1+1+1,3,none⟩ (.int .i64 v0)).setCell ⟨w.heap.size+1+1+1,4,none⟩ (.int .i64 v1)) (w.heap.size+1+1+1) 55 #[.int .i64 dc, .int .i64 af, .int .i64 la, .int .i64 v0, .int .i64 v1, .int .i64 0, .int .i64 0, .slice none 0 0, .slice none 0 0, .slice none 0 0] _ _:=Ae.je 4 (.int .i64 v1)
      have Ah:=HST.out.kK Af 4 (.int .i64 v1)
      have Ai:dH w0 w wr ((((w4).setCell ⟨w.heap.size+1+1+1,3,none⟩ (.int .i64 v0)).setCell ⟨w.heap.size+1+1+1,4,none⟩ (.int .i64 v1)).setCell ⟨w.heap.size+1+1+1,5,none⟩ (.int .i64 v2)) (w.heap.size+1+1+1) 55 #[.int .i64 dc, .int .i64 af, .int .i64 la, .int .i64 v0, .int .i64 v1, .int .i64 v2, .int .i64 0, .slice none 0 0, .slice none 0 0, .slice none 0 0] _ _:=Ag.je 5 (.int .i64 v2)
      have Aj:=HST.out.kK Ah 5 (.int .i64 v2)
      have Ak:dH w0 w wr (((((w4).setCell ⟨w.heap.size+1+1+1,3,none⟩ (.int .i64 v0)).setCell ⟨w.heap.size+1+1+1,4,none⟩ (.int .i64 v1)).setCell ⟨w.heap.size+1+1+1,5,none⟩ (.int .i64 v2)).setCell ⟨w.heap.size+1+1+1,6,none⟩ (.int .i64 v3)) (w.heap.size+1+1+1) 55 #[.int .i64 dc, .int .i64 af, .int .i64 la, .int .i64 v0, .int .i64 v1, .int .i64 v2, .int .i64 v3, .slice none 0 0, .slice none 0 0, .slice none 0 0] _ _:=Ai.je 6 (.int .i64 v3)
      have Am:=HST.out.kK Aj 6 (.int .i64 v3)
      have cO:=ah (Ak.qM Am HB4.out)
      clear Ae Af Ag Ah Ai Aj Ak Am
      clear hr4 hf4)
    |(go_at_call 67;refine(HX.out _ _ cO.out.rin (Nat.le_trans cO.out.h0 (Nat.le_of_lt (lt_of_block cO.out.box)))).mono ?_;rintro e5 w5 ⟨ev,kv,cv,a5,c5,rfl,hta,hrc,gI,hf5⟩
      obtain⟨d3,e3,rfl⟩:=hta.ents.rd.sl
      obtain⟨os3,fE,-⟩:=hta.kids
      obtain⟨d4,e4,rfl⟩:=fE.rd.sl
      obtain⟨d5,e5,rfl⟩:=hrc.at_.sl
      clear fE
      clear z3 q3 z4 q4 z5 q5 z6 q6
      clear y0 y1 y2 y3 y4 y5 y6 y7
      obtain⟨y0,y1,y2,y3,y4,y5,y6,y7⟩:=(cO.out.call hf5).jC HB4.out
      have z7:=(cO.out.call hf5).free 7
      have q7:=(cO.out.call hf5).cell 7 rfl
      have z8:=(cO.out.call hf5).free 8
      have q8:=(cO.out.call hf5).cell 8 rfl
      have z9:=(cO.out.call hf5).free 9
      have q9:=(cO.out.call hf5).cell 9 rfl
      have p0:w5.cell? ⟨w.heap.size+1+1+1,0,none⟩=some (.int .i64 dc):=(cO.out.call hf5).cell 0 rfl
      have p1:w5.cell? ⟨w.heap.size+1+1+1,1,none⟩=some (.int .i64 af):=(cO.out.call hf5).cell 1 rfl
      have p2:w5.cell? ⟨w.heap.size+1+1+1,2,none⟩=some (.int .i64 la):=(cO.out.call hf5).cell 2 rfl
      have p3:w5.cell? ⟨w.heap.size+1+1+1,3,none⟩=some (.int .i64 v0):=(cO.out.call hf5).cell 3 rfl
      have p4:w5.cell? ⟨w.heap.size+1+1+1,4,none⟩=some (.int .i64 v1):=(cO.out.call hf5).cell 4 rfl
      have p5:w5.cell? ⟨w.heap.size+1+1+1,5,none⟩=some (.int .i64 v2):=(cO.out.call hf5).cell 5 rfl
      have p6:w5.cell? ⟨w.heap.size+1+1+1,6,none⟩=some (.int .i64 v3):=(cO.out.call hf5).cell 6 rfl
      have Ap:dH w0 w wr ((w5).setCell ⟨w.heap.size+1+1+1,7,none⟩ (.slice d3 es.length e3)) (w.heap.size+1+1+1) 55 #[.int .i64 dc, .int .i64 af, .int .i64 la, .int .i64 v0, .int .i64 v1, .int .i64 v2, .int .i64 v3, .slice d3 es.length e3, .slice none 0 0, .slice none 0 0] _ _:=(cO.out.call hf5).je 7 (.slice d3 es.length e3)
      have Aq:=HST.out.kK gI 7 (.slice d3 es.length e3)
      have Ar:dH w0 w wr (((w5).setCell ⟨w.heap.size+1+1+1,7,none⟩ (.slice d3 es.length e3)).setCell ⟨w.heap.size+1+1+1,8,none⟩ (.slice d4 ks.len e4)) (w.heap.size+1+1+1) 55 #[.int .i64 dc, .int .i64 af, .int .i64 la, .int .i64 v0, .int .i64 v1, .int .i64 v2, .int .i64 v3, .slice d3 es.length e3, .slice d4 ks.len e4, .slice none 0 0] _ _:=Ap.je 8 (.slice d4 ks.len e4)
      have Au:=HST.out.kK Aq 8 (.slice d4 ks.len e4)
      have Aw:dH w0 w wr ((((w5).setCell ⟨w.heap.size+1+1+1,7,none⟩ (.slice d3 es.length e3)).setCell ⟨w.heap.size+1+1+1,8,none⟩ (.slice d4 ks.len e4)).setCell ⟨w.heap.size+1+1+1,9,none⟩ (.slice d5 c.length e5)) (w.heap.size+1+1+1) 55 #[.int .i64 dc, .int .i64 af, .int .i64 la, .int .i64 v0, .int .i64 v1, .int .i64 v2, .int .i64 v3, .slice d3 es.length e3, .slice d4 ks.len e4, .slice d5 c.length e5] _ _:=Ar.je 9 (.slice d5 c.length e5)
      have Az:=HST.out.kK Au 9 (.slice d5 c.length e5)
      have GY:=ah (Aw.qM Az (b:=false) rfl)
      clear Ap Aq Ar Au Aw Az
      have hsz1:=lt_of_block cO.out.blk
      have hft:aj (fun k=>k=w.heap.size+1+1+1∨k=w.heap.size) w5 ((((((w5).setCell ⟨w.heap.size+1+1+1,7,none⟩ (.slice d3 es.length e3)).setCell ⟨w.heap.size+1+1+1,8,none⟩ (.slice d4 ks.len e4)).setCell ⟨w.heap.size+1+1+1,9,none⟩ (.slice d5 c.length e5)).setCell ⟨w.heap.size,0,none⟩ (.slice a5 r.length c5)).setCell ⟨w.heap.size,1,none⟩ (.bool false)):=
       ((((dG w5 (w.heap.size+1+1+1) 7 _).trans (dG _ (w.heap.size+1+1+1) 8 _) fun _ _ h=>h).trans (dG _ (w.heap.size+1+1+1) 9 _) fun _ _ h=>h).mono fun k _ hk=> .inl hk).trans ((fV _ w.heap.size _ _).mono fun k _ hk=> .inr hk) fun _ _ h=>h
      have turn:∀k,k<w5.heap.size→(((((((w4).setCell ⟨w.heap.size+1+1+1,3,none⟩ (.int .i64 v0)).setCell ⟨w.heap.size+1+1+1,4,none⟩ (.int .i64 v1)).setCell ⟨w.heap.size+1+1+1,5,none⟩ (.int .i64 v2)).setCell ⟨w.heap.size+1+1+1,6,none⟩ (.int .i64 v3)).setCell ⟨w.heap.size,0,none⟩ (.slice a4 L4 c4)).setCell ⟨w.heap.size,1,none⟩ (.bool b4)).heap.size≤k→((((((w5).setCell ⟨w.heap.size+1+1+1,7,none⟩ (.slice d3 es.length e3)).setCell ⟨w.heap.size+1+1+1,8,none⟩ (.slice d4 ks.len e4)).setCell ⟨w.heap.size+1+1+1,9,none⟩ (.slice d5 c.length e5)).setCell ⟨w.heap.size,0,none⟩ (.slice a5 r.length c5)).setCell ⟨w.heap.size,1,none⟩ (.bool false)).heap[k]?=w5.heap[k]?∧w.heap.size+1+1+1≤k:=fun k hk hQ=>⟨hft.block k hk fun hs=>(by have h9:=Nat.lt_of_lt_of_le hsz1 hQ;clear hft hsz1;rcases hs with hs|hs<;>omega),Nat.le_of_lt (Nat.lt_of_lt_of_le hsz1 hQ)⟩
      have gV:=ah (hta.turn turn)
      have gU:=ah (show dP (fun k=>w.heap.size+1+1+1≤k) _ (.slice d5 c.length e5) c from eH.turn hrc turn)
      clear hft turn hta hrc gI hf5 hsz1
      generalize es.length=n at*
      generalize ks.len=m at*
      generalize c.length=k at*)
    |(go_at_call 24;refine(dU.out _ _ _ _ _ ⟨gV.out,gU.out.at_⟩).mono ?_;rintro e w7 ⟨rfl,jU⟩
      clear p0 p1 p2 p3 p4 p5 p6 z7 q7 z8 q8 z9 q9 y0 y1 y2 y3 y4 y5 y6 y7
      have rP:=ah (GY.out.call jU)
      have Ko:=ah (gV.out.aJ jU)
      have Kq:=ah (gU.out.aJ jU)
      obtain⟨g1,g2,hfw⟩:=lS.out w7 rP.out.aH
      have k0:=au g1 0 rfl
      have i0:=aG g1 0
      have k1:=au g1 1 rfl
      have i1:=aG g1 1
      have k2:=au g1 2 rfl
      have i2:=aG g1 2
      have k3:=au g1 3 rfl
      have i3:=aG g1 3
      have k4:=au g1 4 rfl
      have i4:=aG g1 4
      have k5:=au g1 5 rfl
      have i5:=aG g1 5
      have k6:=au g1 6 rfl
      have i6:=aG g1 6
      have k7:=au g1 7 rfl
      have i7:=aG g1 7
      have k8:=au g1 8 rfl
      have i8:=aG g1 8
      have k9:=au g1 9 rfl
      have i9:=aG g1 9
      have hl1:=lt_of_block g1
      have k10:=au g2 0 rfl
      have GZ:=aG g2 0
      have k11:=au g2 1 rfl
      have i11:=aG g2 1
      have hl2:=lt_of_block g2
      have G1:=ah g1;clear g1
      have G2:=ah g2;clear g2
      have BO:=ah hfw
      clear jU hfw))
   clear k0 i0 k1 i1 k2 i2 k3 i3 k4 i4 k5 i5 k6 i6 k7 i7 k8 i8 k9 i9 k10 GZ k11 i11 hl1 hl2
   obtain⟨dW,AA⟩:=Qc (x0:= .int .i64 0) (x1:= .int .i64 0) (x2:= .int .i64 0) (x3:= .int .i64 0) (x4:= .int .i64 0) (x5:= .int .i64 0) (x6:= .int .i64 0) (x7:= .slice none 0 0) (x8:= .slice none 0 0) (x9:= .slice none 0 0) (y0:= .slice none 0 0) (y1:= .bool true) G1.out G2.out _ rfl
   have y0:=au dW 0 rfl
   have y1:=au dW 1 rfl
   have y2:=au dW 2 rfl
   have y3:=au dW 3 rfl
   have y4:=au dW 4 rfl
   have y5:=au dW 5 rfl
   have y6:=au dW 6 rfl
   have y7:=au dW 7 rfl
   have y8:=au dW 8 rfl
   have y9:=au dW 9 rfl
   have aY:=au AA 0 rfl
   have G_:=au AA 1 rfl
   exact bodyPost_ret (v:= .tuple #[.agg #[.int .i64 0, .int .i64 0, .int .i64 0, .int .i64 0, .int .i64 0, .int .i64 0, .int .i64 0, .slice none 0 0, .slice none 0 0, .slice none 0 0], .agg #[.slice none 0 0, .bool true]]) (by simp[results,Tryz.results66,go_sem,y0,y1,y2,y3,y4,y5,y6,y7,y8,y9,aY,G_]) rfl (Qa dL.zero (tX _ _) (wK _ _) (a:=none) (l:=0) (s:=none) (bK.bad w0 _) HH0.out BO.out (Qb w w7 _ _ _ _ _ _ _ _ _ _ _ _))
end Go.Proofs.YtabkpccdnkjoiaaGreat
