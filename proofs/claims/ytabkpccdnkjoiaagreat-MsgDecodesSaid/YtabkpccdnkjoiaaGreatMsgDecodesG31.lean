/- Words for the law MsgDecodes: R16h, R16v, R16a, PackPut. -/
import Derived.Test.YtabkpccdnkjoiaaGreatMsgDecodesG0
import Derived.Test.YtabkpccdnkjoiaaGreatMsgDecodesG12
import Derived.Test.YtabkpccdnkjoiaaGreatMsgDecodesG14
import Derived.Test.YtabkpccdnkjoiaaGreatMsgDecodesG15
import Derived.Test.YtabkpccdnkjoiaaGreatMsgDecodesG21
import Derived.Test.YtabkpccdnkjoiaaGreatMsgDecodesG28
import Derived.Test.YtabkpccdnkjoiaaGreatMsgDecodesG30
set_option linter.unusedSimpArgs false
set_option linter.unusedVariables false
set_option maxHeartbeats 32000000
set_option maxRecDepth 1000000
namespace Go.Proofs.YtabkpccdnkjoiaaGreat
open Go.RowKit
section
variable {w0 w wr W W1:World} {B:Nat} {T:TypeId} {cs:Array Value} {v v':Value} {t t':Option (List UInt8)} {b:Bool}
theorem dH.OV (h:dH w0 w wr W B T cs v t) (f:aj ay W W1) (hr:bK w0 W1 v' t') (hb:t'.isNone=b) (i j:Nat) (x y:Value):
 dH w0 w wr ((((W1.setCell ⟨B,i,none⟩ x).setCell ⟨B,j,none⟩ y).setCell ⟨w.heap.size,0,none⟩ v').setCell ⟨w.heap.size,1,none⟩ (.bool b)) B T ((cs.setIfInBounds i x).setIfInBounds j y) v' t':=by
 subst hb
 have g:∀(W:World) (j:Nat) (u:Value),bK w0 W v' t'→bK w0 (W.setCell ⟨B,j,none⟩ u) v' t':=fun W j u hr=>hr.keep (dG W B j u) fun k hk hs=>(by have hs:k=B:=hs;have:=h.h0;have:=h.new;have:=h.old;omega)
 exact(((h.call f).je i x).je j y).put (g _ j y (g _ i x hr))
end
def Gn (w0 w:World) (es:List aQ) (ks:aS) (c:aX) (s:Option (List UInt8)) (e:Ending) (w':World):Prop:=
 ∃ev kv cv a l,e= .returned (.tuple #[.agg #[ev,kv,cv], .agg #[.slice a (leftOf s).length l, .bool s.isNone]])∧dh (fun b=>w.heap.size≤b) w' ev kv es ks∧dP (fun b=>w.heap.size≤b) w' cv c∧bK w0 w' (.slice a (leftOf s).length l) s∧aj ay w w'
theorem OX {w0 w W W':World} {es:List aQ} {ks:aS} {c:aX} {ev kv cv:Value} {a:Option Addr} {l:Nat} {s:Option (List UInt8)} (ht:dh (fun b=>w.heap.size+1+1+1≤b) W ev kv es ks) (hx:dP (fun b=>w.heap.size+1+1+1≤b) W cv c) (hr:bK w0 W (.slice a (leftOf s).length l) s) (h0:w0.heap.size≤w.heap.size) (hf:aj ay w W) (f:aj (XT w) W W'):
 Gn w0 w es ks c s (.returned (.tuple #[.agg #[ev,kv,cv], .agg #[.slice a (leftOf s).length l, .bool s.isNone]])) W':=by
 have turn:∀b,b<W.heap.size→w.heap.size+1+1+1≤b→W'.heap[b]?=W.heap[b]?∧w.heap.size≤b:=fun b hb hQ=>⟨f.block b hb fun hs=>(by rcases hs with hs|hs|hs<;>omega),by omega⟩
 refine⟨ev,kv,cv,a,l,rfl,ht.turn turn,eH.turn hx turn,hr.keep f fun k hk hs=>?_,hf.trans f fun i hi hs=>?_⟩
 ·rcases hs with hs|hs|hs<;>omega
 ·rcases hs with hs|hs|hs<;>omega
theorem OY (w W:World) (x0 x1 x2 y0 y1:Value):aj (XT w) W (((((W.setCell ⟨w.heap.size+1,0,none⟩ x0).setCell ⟨w.heap.size+1,1,none⟩ x1).setCell ⟨w.heap.size+1,2,none⟩ x2).setCell ⟨w.heap.size+1+1,0,none⟩ y0).setCell ⟨w.heap.size+1+1,1,none⟩ y1):=
 (((FB W (w.heap.size+1) x0 x1 x2).mono fun k _ hk=> .inr (.inl hk)).trans ((fV _ (w.heap.size+1+1) y0 y1).mono fun k _ hk=> .inr (.inr hk)) fun _ _ h=>h)
theorem OZ {w W:World} {x0 x1 x2 y0 y1:Value} {a b b2 c d:Value} (h1:W.heap[w.heap.size+1]?=some (.cells #[a,b,b2] 34 (0,0))) (h2:W.heap[w.heap.size+1+1]?=some (.cells #[c,d] 115 (0,0))) (W':World)
 (hW:W'=((((W.setCell ⟨w.heap.size+1,0,none⟩ x0).setCell ⟨w.heap.size+1,1,none⟩ x1).setCell ⟨w.heap.size+1,2,none⟩ x2).setCell ⟨w.heap.size+1+1,0,none⟩ y0).setCell ⟨w.heap.size+1+1,1,none⟩ y1):
 W'.cell? ⟨w.heap.size+1,0,none⟩=some x0∧W'.cell? ⟨w.heap.size+1,1,none⟩=some x1∧W'.cell? ⟨w.heap.size+1,2,none⟩=some x2∧W'.cell? ⟨w.heap.size+1+1,0,none⟩=some y0∧W'.cell? ⟨w.heap.size+1+1,1,none⟩=some y1:=by
 subst hW
 have g1:=bC (bC (bC h1 0 x0) 1 x1) 2 x2
 have f1:=FB W (w.heap.size+1) x0 x1 x2
 have f2:=fV (((W.setCell ⟨w.heap.size+1,0,none⟩ x0).setCell ⟨w.heap.size+1,1,none⟩ x1).setCell ⟨w.heap.size+1,2,none⟩ x2) (w.heap.size+1+1) y0 y1
 have g2:=f1.blk h2 fun e=>by have e:w.heap.size+1+1=w.heap.size+1:=e;omega
 have g3:=f2.blk g1 fun e=>by have e:w.heap.size+1=w.heap.size+1+1:=e;omega
 have g4:=bC (bC g2 0 y0) 1 y1
 exact⟨au g3 0 rfl,au g3 1 rfl,au g3 2 rfl,au g4 0 rfl,au g4 1 rfl⟩
theorem dH.start4 {w0 w W:World} {a:Option Addr} {l:Nat} {st:Option (List UInt8)} (h:bK w0 w (.slice a (leftOf st).length l) st) (h0:w0.heap.size≤w.heap.size) (T1 T3:TypeId) (c1 c3:Array Value)
 (hW:W=(((w.alloc (.cells #[.slice a (leftOf st).length l, .bool st.isNone] 115)).alloc (.cells c1 T1)).alloc (.cells #[.slice none 0 0, .bool false] 115)).alloc (.cells c3 T3)):
 ∃wr,dH w0 w wr W (w.heap.size+1+1+1) T3 c3 (.slice a (leftOf st).length l) st∧wr.heap[w.heap.size+1]?=some (.cells c1 T1 (0,0))∧wr.heap[w.heap.size+1+1]?=some (.cells #[.slice none 0 0, .bool false] 115 (0,0))∧aj ay w wr∧W.heap.size=w.heap.size+1+1+1+1∧wr.heap.size=w.heap.size+1+1+1:=by
 obtain⟨g0,g1,g2,g3,gf⟩:=Ws w _ _ _ _ _ _ _ _ W hW
 have sz:∀(u:World) (o:Obj),(u.alloc o).heap.size=u.heap.size+1:=fun u o=>by simp
 obtain⟨k0,k1,k2,kf⟩:(((w.alloc (.cells #[.slice a (leftOf st).length l, .bool st.isNone] 115)).alloc (.cells c1 T1)).alloc (.cells #[.slice none 0 0, .bool false] 115)).heap[w.heap.size]?=some (.cells #[.slice a (leftOf st).length l, .bool st.isNone] 115 (0,0))∧
  (((w.alloc (.cells #[.slice a (leftOf st).length l, .bool st.isNone] 115)).alloc (.cells c1 T1)).alloc (.cells #[.slice none 0 0, .bool false] 115)).heap[w.heap.size+1]?=some (.cells c1 T1 (0,0))∧
  (((w.alloc (.cells #[.slice a (leftOf st).length l, .bool st.isNone] 115)).alloc (.cells c1 T1)).alloc (.cells #[.slice none 0 0, .bool false] 115)).heap[w.heap.size+1+1]?=some (.cells #[.slice none 0 0, .bool false] 115 (0,0))∧
  aj ay w (((w.alloc (.cells #[.slice a (leftOf st).length l, .bool st.isNone] 115)).alloc (.cells c1 T1)).alloc (.cells #[.slice none 0 0, .bool false] 115)):=by
  have h1:=heap_alloc_new (w.alloc (.cells #[.slice a (leftOf st).length l, .bool st.isNone] 115)) (.cells c1 T1)
  have h2:=heap_alloc_new ((w.alloc (.cells #[.slice a (leftOf st).length l, .bool st.isNone] 115)).alloc (.cells c1 T1)) (.cells #[.slice none 0 0, .bool false] 115)
  simp only[sz]at h1 h2
  exact⟨((aj.alloc ay _ _).alloc1).blk (heap_alloc_new w _) id,(aj.alloc ay _ _).blk h1 id,h2,((aj.alloc ay _ _).alloc1).alloc1⟩
 refine⟨_,⟨h.aJ gf,g0,g3,?_,?_,lt_of_block k0,h0⟩,k1,k2,kf,by rw[hW];simp only[sz],by simp only[sz]⟩
 ·rw[hW];exact(aj.alloc ay _ _).mono fun _ _ s=>s.elim
 ·simp only[sz];exact Nat.le_refl _
theorem O_ {w0:World} {v:Value} {st s:Option (List UInt8)} {es:List aQ} {ks:aS} {c:aX} (w:World) (h:bK w0 w v st) (h0:w0.heap.size≤w.heap.size) (hc:kW st es ks c s) (hl:(leftOf st).length≤60000) (hfit:oP st):
 Calls Tryz.prog 67 #[.agg #[v, .bool st.isNone]] w (Gn w0 w es ks c s):=by
 obtain⟨a0,c0,rfl⟩:=h.shape
 obtain⟨es1,lH,s1,ht1⟩:=kH.total st
 obtain⟨c1,s2,hc1⟩:=kV.total s1
 have hok:=hfit _ _ _ _ _ ht1 hc1
 have hl1:=ht1.sizes
 have HT:=ah (fun W v (hr:bK w0 W v st) (f:w0.heap.size≤W.heap.size)=>ado W hr f ht1 (by omega))
 have HC:=ah (fun W v (hr:bK w0 W v s1) (f:w0.heap.size≤W.heap.size)=>adb W hr f hc1 (by omega))
 have dU:=ah (fun W Q ev kv cv (h:gK Q W ev kv cv es1 lH c1)=>Oq Q es1 lH c1 W ev kv cv h hok)
 unfold JQ at HT
 unfold Wi at HC
 obtain⟨WB,eU⟩:∃W,W=(((w.alloc (.cells #[.slice a0 (leftOf st).length c0, .bool st.isNone] 115)).alloc (.cells #[.slice none 0 0, .slice none 0 0, .slice none 0 0] 34)).alloc (.cells #[.slice none 0 0, .bool false] 115)).alloc (.cells #[.slice none 0 0, .slice none 0 0, .slice none 0 0] 34):=⟨_,rfl⟩
 obtain⟨wr,hst,hk1,hk2,zM,hsz,hsr⟩:=dH.start4 h h0 _ _ _ _ eU
 have HST:=ah hst;clear hst
 have yj:=ah hk1;clear hk1
 have BN:=ah hk2;clear hk2
 have Gp:=ah zM;clear zM
 have kF:=ah hsz;clear hsz
 have HSR:=ah hsr;clear hsr
 have HH0:=ah h0;clear h0
 clear h hok hl1 hl hfit
 have lS:=ah (fun(W:World) (f:aj (Only w.heap.size) wr W)=>(⟨f.blk yj.out fun e=>(by have e:w.heap.size+1=w.heap.size:=e;omega),f.blk BN.out fun e=>(by have e:w.heap.size+1+1=w.heap.size:=e;omega),Gp.out.trans f fun i hi e=>(by have e:i=w.heap.size:=e;omega)⟩:
  W.heap[w.heap.size+1]?=some (.cells #[.slice none 0 0, .slice none 0 0, .slice none 0 0] 34 (0,0))∧W.heap[w.heap.size+1+1]?=some (.cells #[.slice none 0 0, .bool false] 115 (0,0))∧aj ay w W))
 cases s2 with
 |some r=>
  simp only[show(leftOf (some r)).length=r.length from rfl,show(some r).isNone=false from rfl]at HC
  by_cases hr:jM es1 lH c1
  ·rw[dO hr]at dU
   obtain⟨⟨⟨rfl,rfl⟩,rfl⟩,rfl⟩:=hc.b_ (TU ht1 hc1 hr)
   clear hc hr ht1 hc1
   generalize hbd:st.isNone=bd at*
   generalize hll:(leftOf st).length=L0 at*
   have uD:=ah hbd;clear hbd
   have o_:=ah hll;clear hll
   generalize hb1:s1.isNone=b1 at*
   generalize hm1:(leftOf s1).length=L1 at*
   have HB1:=ah hb1;clear hb1
   have DW:=ah hm1;clear hm1
   have dF:=ah eU;clear eU
   go_enter Tryz.func67,Tryz.ntmps67
   go_wp2_with(first
    |(go_at_call 135;rw[←dF.out];refine(HT.out WB _ HST.out.rin (Nat.le_trans HST.out.h0 (Nat.le_of_lt (lt_of_block HST.out.box)))).mono ?_;rintro e w1 ⟨ev,kv,a3,l3,rfl,hta,hr1,hf1⟩;obtain⟨a4,c4,rfl⟩:=hta.ents.rd.sl;obtain⟨JR,sK,-⟩:=hta.kids;obtain⟨a5,c5,rfl⟩:=sK.rd.sl;clear sK
      obtain⟨y0,y1,y2,y3,y4,y5,y6,y7⟩:=(HST.out.call hf1).jC uD.out
      have z8:=(HST.out.call hf1).free 0
      have z9:=(HST.out.call hf1).free 1
      have z10:=(HST.out.call hf1).cell 0 rfl
      have z11:=(HST.out.call hf1).cell 1 rfl
      have dQ:=ah (HST.out.OV hf1 hr1 HB1.out 0 1 (.slice a4 es.length c4) (.slice a5 ks.len c5))
      have hft:aj (fun k=>k=w.heap.size+1+1+1∨k=w.heap.size) w1 ((((w1.setCell ⟨w.heap.size+1+1+1,0,none⟩ (.slice a4 es.length c4)).setCell ⟨w.heap.size+1+1+1,1,none⟩ (.slice a5 ks.len c5)).setCell ⟨w.heap.size,0,none⟩ (.slice a3 L1 l3)).setCell ⟨w.heap.size,1,none⟩ (.bool b1)):=
       ((fV w1 (w.heap.size+1+1+1) _ _).mono fun k _ hk=> .inl hk).trans ((fV _ w.heap.size _ _).mono fun k _ hk=> .inr hk) fun _ _ h=>h
      have gV:=ah (hta.turn (Q':=fun b=>w.heap.size+1+1+1+1≤b) fun b hb hQ=>⟨hft.block b hb (fun hs=>by have hQ:WB.heap.size≤b:=hQ;have:=kF.out;rcases hs with hs|hs<;>omega),by have hQ:WB.heap.size≤b:=hQ;have:=kF.out;omega⟩)
      clear hft hta hr1 hf1)
    |(go_at_call 136;refine(HC.out _ _ dQ.out.rin (Nat.le_trans dQ.out.h0 (Nat.le_of_lt (lt_of_block dQ.out.box)))).mono ?_;rintro e w2 ⟨cv,a6,l6,rfl,hrc,hr2,hf2⟩;obtain⟨a7,c7,rfl⟩:=hrc.rd.sl;clear y0 y1 y2 y3 y4 y5 y6 y7 z8 z9 z10 z11
      obtain⟨y0,y1,y2,y3,y4,y5,y6,y7⟩:=(dQ.out.call hf2).jC HB1.out
      have z8:=(dQ.out.call hf2).free 2
      have z9:=(dQ.out.call hf2).cell 2 rfl
      have q0:w2.cell? ⟨w.heap.size+1+1+1,0,none⟩=some (.slice a4 es.length c4):=(dQ.out.call hf2).cell 0 rfl
      have q1:w2.cell? ⟨w.heap.size+1+1+1,1,none⟩=some (.slice a5 ks.len c5):=(dQ.out.call hf2).cell 1 rfl
      have HS2:=ah (dQ.out.BL hf2 hr2 (b:=false) rfl 2 (.slice a7 c.length c7))
      have hsz1:w.heap.size+1+1+1<((((w1.setCell ⟨w.heap.size+1+1+1,0,none⟩ (.slice a4 es.length c4)).setCell ⟨w.heap.size+1+1+1,1,none⟩ (.slice a5 ks.len c5)).setCell ⟨w.heap.size,0,none⟩ (.slice a3 L1 l3)).setCell ⟨w.heap.size,1,none⟩ (.bool b1)).heap.size:=lt_of_block dQ.out.blk
      have hft:aj (fun k=>k=w.heap.size+1+1+1∨k=w.heap.size) w2 (((w2.setCell ⟨w.heap.size+1+1+1,2,none⟩ (.slice a7 c.length c7)).setCell ⟨w.heap.size,0,none⟩ (.slice a6 r.length l6)).setCell ⟨w.heap.size,1,none⟩ (.bool false)):=
       ((dG w2 (w.heap.size+1+1+1) 2 _).mono fun k _ hk=> .inl hk).trans ((fV _ w.heap.size _ _).mono fun k _ hk=> .inr hk) fun _ _ h=>h
      have pR:=ah ((gV.out.aJ hf2).turn (Q':=fun b=>w.heap.size+1+1+1≤b) fun b hb hQ=>⟨hft.block b hb (fun hs=>by have hQ:w.heap.size+1+1+1+1≤b:=hQ;rcases hs with hs|hs<;>omega),by have hQ:w.heap.size+1+1+1+1≤b:=hQ;omega⟩)
      have gU:=ah (show dP (fun b=>w.heap.size+1+1+1≤b) _ (.slice a7 c.length c7) c from eH.turn hrc fun b hb hQ=>⟨hft.block b hb (fun hs=>by have hQ:=Nat.lt_of_lt_of_le hsz1 hQ;rcases hs with hs|hs<;>omega),Nat.le_of_lt (Nat.lt_of_lt_of_le hsz1 hQ)⟩)
      clear hft hrc hr2 hf2 hsz1
      generalize es.length=n at*
      generalize ks.len=m at*
      generalize c.length=k at*)
    |(go_at_call 86;refine(dU.out _ _ _ _ _ ⟨pR.out,gU.out.at_⟩).mono ?_;rintro e w3 ⟨rfl,hf3⟩
      clear y0 y1 y2 y3 y4 y5 y6 y7 z8 z9 q0 q1
      obtain⟨g1,g2,hfw⟩:=lS.out w3 ((HS2.out.call hf3).aH)
      have x0:=au g1 0 rfl
      have x1:=au g1 1 rfl
      have x2:=au g1 2 rfl
      have f0:=aG g1 0
      have f1:=aG g1 1
      have f2:=aG g1 2
      have hl1:=lt_of_block g1
      have x3:=au g2 0 rfl
      have x4:=au g2 1 rfl
      have f3:=aG g2 0
      have f4:=aG g2 1
      have hl2:=lt_of_block g2
      have G1:=ah g1;clear g1
      have G2:=ah g2;clear g2
      obtain⟨y0,y1,y2,y3,y4,y5,y6,y7⟩:=(HS2.out.call hf3).jC (b:=false) rfl
      have q0:w3.cell? ⟨w.heap.size+1+1+1,0,none⟩=some (.slice a4 n c4):=(HS2.out.call hf3).cell 0 rfl
      have q1:w3.cell? ⟨w.heap.size+1+1+1,1,none⟩=some (.slice a5 m c5):=(HS2.out.call hf3).cell 1 rfl
      have q2:w3.cell? ⟨w.heap.size+1+1+1,2,none⟩=some (.slice a7 k c7):=(HS2.out.call hf3).cell 2 rfl
      have BO:=ah hfw
      have HF3:=ah hf3
      clear hf3 hfw))
   go_region
   all_goals
    clear x0 x1 x2 x3 x4 f0 f1 f2 f3 f4 hl1 hl2
    clear y0 y1 y2 y3 y4 y5 y6 y7 q0 q1 q2
    obtain⟨y0,y1,y2,y3,y4⟩:=OZ (x0:= .slice a4 n c4) (x1:= .slice a5 m c5) (x2:= .slice a7 k c7) (y0:= .slice a6 r.length l6) (y1:= .bool false) G1.out G2.out _ rfl
    go_wp2
    exact bodyPost_ret (v:= .tuple #[.agg #[.slice a4 n c4, .slice a5 m c5, .slice a7 k c7], .agg #[.slice a6 r.length l6, .bool false]]) (by simp[results,Tryz.results67,go_sem,y0,y1,y2,y3,y4]) rfl (OX (s:=some r) (pR.out.aJ HF3.out) (gU.out.aJ HF3.out) (HS2.out.call HF3.out).rin HH0.out BO.out ((OY w w3 _ _ _ _ _).aC (aj.drew ay _)))
  ·rw[bf hr]at dU
   obtain⟨⟨⟨rfl,rfl⟩,rfl⟩,rfl⟩:=hc.b_ (Jp ht1 hc1 (.inr hr))
   clear hc hr ht1 hc1
   generalize hbd:st.isNone=bd at*
   generalize hll:(leftOf st).length=L0 at*
   have uD:=ah hbd;clear hbd
   have o_:=ah hll;clear hll
   generalize hb1:s1.isNone=b1 at*
   generalize hm1:(leftOf s1).length=L1 at*
   have HB1:=ah hb1;clear hb1
   have DW:=ah hm1;clear hm1
   have dF:=ah eU;clear eU
   go_enter Tryz.func67,Tryz.ntmps67
   go_wp2_with(first
    |(go_at_call 135;rw[←dF.out];refine(HT.out WB _ HST.out.rin (Nat.le_trans HST.out.h0 (Nat.le_of_lt (lt_of_block HST.out.box)))).mono ?_;rintro e w1 ⟨ev,kv,a3,l3,rfl,hta,hr1,hf1⟩;obtain⟨a4,c4,rfl⟩:=hta.ents.rd.sl;obtain⟨JR,sK,-⟩:=hta.kids;obtain⟨a5,c5,rfl⟩:=sK.rd.sl;clear sK
      obtain⟨y0,y1,y2,y3,y4,y5,y6,y7⟩:=(HST.out.call hf1).jC uD.out
      have z8:=(HST.out.call hf1).free 0
      have z9:=(HST.out.call hf1).free 1
      have z10:=(HST.out.call hf1).cell 0 rfl
      have z11:=(HST.out.call hf1).cell 1 rfl
      have dQ:=ah (HST.out.OV hf1 hr1 HB1.out 0 1 (.slice a4 es1.length c4) (.slice a5 lH.len c5))
      have hft:aj (fun k=>k=w.heap.size+1+1+1∨k=w.heap.size) w1 ((((w1.setCell ⟨w.heap.size+1+1+1,0,none⟩ (.slice a4 es1.length c4)).setCell ⟨w.heap.size+1+1+1,1,none⟩ (.slice a5 lH.len c5)).setCell ⟨w.heap.size,0,none⟩ (.slice a3 L1 l3)).setCell ⟨w.heap.size,1,none⟩ (.bool b1)):=
       ((fV w1 (w.heap.size+1+1+1) _ _).mono fun k _ hk=> .inl hk).trans ((fV _ w.heap.size _ _).mono fun k _ hk=> .inr hk) fun _ _ h=>h
      have gV:=ah (hta.turn (Q':=fun b=>w.heap.size+1+1+1+1≤b) fun b hb hQ=>⟨hft.block b hb (fun hs=>by have hQ:WB.heap.size≤b:=hQ;have:=kF.out;rcases hs with hs|hs<;>omega),by have hQ:WB.heap.size≤b:=hQ;have:=kF.out;omega⟩)
      clear hft hta hr1 hf1)
    |(go_at_call 136;refine(HC.out _ _ dQ.out.rin (Nat.le_trans dQ.out.h0 (Nat.le_of_lt (lt_of_block dQ.out.box)))).mono ?_;rintro e w2 ⟨cv,a6,l6,rfl,hrc,hr2,hf2⟩;obtain⟨a7,c7,rfl⟩:=hrc.rd.sl;clear y0 y1 y2 y3 y4 y5 y6 y7 z8 z9 z10 z11
      obtain⟨y0,y1,y2,y3,y4,y5,y6,y7⟩:=(dQ.out.call hf2).jC HB1.out
      have z8:=(dQ.out.call hf2).free 2
      have z9:=(dQ.out.call hf2).cell 2 rfl
      have q0:w2.cell? ⟨w.heap.size+1+1+1,0,none⟩=some (.slice a4 es1.length c4):=(dQ.out.call hf2).cell 0 rfl
      have q1:w2.cell? ⟨w.heap.size+1+1+1,1,none⟩=some (.slice a5 lH.len c5):=(dQ.out.call hf2).cell 1 rfl
      have HS2:=ah (dQ.out.BL hf2 hr2 (b:=false) rfl 2 (.slice a7 c1.length c7))
      have hsz1:w.heap.size+1+1+1<((((w1.setCell ⟨w.heap.size+1+1+1,0,none⟩ (.slice a4 es1.length c4)).setCell ⟨w.heap.size+1+1+1,1,none⟩ (.slice a5 lH.len c5)).setCell ⟨w.heap.size,0,none⟩ (.slice a3 L1 l3)).setCell ⟨w.heap.size,1,none⟩ (.bool b1)).heap.size:=lt_of_block dQ.out.blk
      have hft:aj (fun k=>k=w.heap.size+1+1+1∨k=w.heap.size) w2 (((w2.setCell ⟨w.heap.size+1+1+1,2,none⟩ (.slice a7 c1.length c7)).setCell ⟨w.heap.size,0,none⟩ (.slice a6 r.length l6)).setCell ⟨w.heap.size,1,none⟩ (.bool false)):=
       ((dG w2 (w.heap.size+1+1+1) 2 _).mono fun k _ hk=> .inl hk).trans ((fV _ w.heap.size _ _).mono fun k _ hk=> .inr hk) fun _ _ h=>h
      have pR:=ah ((gV.out.aJ hf2).turn (Q':=fun b=>w.heap.size+1+1+1≤b) fun b hb hQ=>⟨hft.block b hb (fun hs=>by have hQ:w.heap.size+1+1+1+1≤b:=hQ;rcases hs with hs|hs<;>omega),by have hQ:w.heap.size+1+1+1+1≤b:=hQ;omega⟩)
      have gU:=ah (show dP (fun b=>w.heap.size+1+1+1≤b) _ (.slice a7 c1.length c7) c1 from eH.turn hrc fun b hb hQ=>⟨hft.block b hb (fun hs=>by have hQ:=Nat.lt_of_lt_of_le hsz1 hQ;rcases hs with hs|hs<;>omega),Nat.le_of_lt (Nat.lt_of_lt_of_le hsz1 hQ)⟩)
      clear hft hrc hr2 hf2 hsz1
      generalize es1.length=n at*
      generalize lH.len=m at*
      generalize c1.length=k at*)
    |(go_at_call 86;refine(dU.out _ _ _ _ _ ⟨pR.out,gU.out.at_⟩).mono ?_;rintro e w3 ⟨rfl,hf3⟩
      clear y0 y1 y2 y3 y4 y5 y6 y7 z8 z9 q0 q1
      have HF3:=ah hf3
      clear hf3)
    |(go_at_call 134;refine(uP _).mono ?_;rintro e w9 ⟨rfl,bZ⟩
      obtain⟨g1,g2,hfw⟩:=lS.out w9 ((HS2.out.call (HF3.out.aC bZ)).aH)
      have x0:=au g1 0 rfl
      have x1:=au g1 1 rfl
      have x2:=au g1 2 rfl
      have f0:=aG g1 0
      have f1:=aG g1 1
      have f2:=aG g1 2
      have hl1:=lt_of_block g1
      have x3:=au g2 0 rfl
      have x4:=au g2 1 rfl
      have f3:=aG g2 0
      have f4:=aG g2 1
      have hl2:=lt_of_block g2
      have G1:=ah g1;clear g1
      have G2:=ah g2;clear g2
      have uj:=ah hfw
      clear bZ hfw))
   clear x0 x1 x2 x3 x4 f0 f1 f2 f3 f4 hl1 hl2
   obtain⟨y0,y1,y2,y3,y4⟩:=OZ (x0:= .slice none 0 0) (x1:= .slice none 0 0) (x2:= .slice none 0 0) (y0:= .slice none 0 0) (y1:= .bool true) G1.out G2.out _ rfl
   exact bodyPost_ret (v:= .tuple #[.agg #[.slice none 0 0, .slice none 0 0, .slice none 0 0], .agg #[.slice none 0 0, .bool true]]) (by simp[results,Tryz.results67,go_sem,y0,y1,y2,y3,y4]) rfl (OX (a:=none) (l:=0) (s:=none) (c:=[]) (tX _ _) (wK _ _) (bK.bad w0 _) HH0.out uj.out (OY w w9 _ _ _ _ _))
 |none=>
  simp only[show(leftOf (none:Option (List UInt8))).length=0 from rfl,show(none:Option (List UInt8)).isNone=true from rfl]at HC
  ·obtain⟨⟨⟨rfl,rfl⟩,rfl⟩,rfl⟩:=hc.b_ (Jp ht1 hc1 (.inl rfl))
   clear hc ht1 hc1 dU
   generalize hbd:st.isNone=bd at*
   generalize hll:(leftOf st).length=L0 at*
   have uD:=ah hbd;clear hbd
   have o_:=ah hll;clear hll
   generalize hb1:s1.isNone=b1 at*
   generalize hm1:(leftOf s1).length=L1 at*
   have HB1:=ah hb1;clear hb1
   have DW:=ah hm1;clear hm1
   have dF:=ah eU;clear eU
   go_enter Tryz.func67,Tryz.ntmps67
   go_wp2_with(first
    |(go_at_call 135;rw[←dF.out];refine(HT.out WB _ HST.out.rin (Nat.le_trans HST.out.h0 (Nat.le_of_lt (lt_of_block HST.out.box)))).mono ?_;rintro e w1 ⟨ev,kv,a3,l3,rfl,hta,hr1,hf1⟩;obtain⟨a4,c4,rfl⟩:=hta.ents.rd.sl;obtain⟨JR,sK,-⟩:=hta.kids;obtain⟨a5,c5,rfl⟩:=sK.rd.sl;clear sK
      obtain⟨y0,y1,y2,y3,y4,y5,y6,y7⟩:=(HST.out.call hf1).jC uD.out
      have z8:=(HST.out.call hf1).free 0
      have z9:=(HST.out.call hf1).free 1
      have z10:=(HST.out.call hf1).cell 0 rfl
      have z11:=(HST.out.call hf1).cell 1 rfl
      have dQ:=ah (HST.out.OV hf1 hr1 HB1.out 0 1 (.slice a4 es1.length c4) (.slice a5 lH.len c5))
      have hft:aj (fun k=>k=w.heap.size+1+1+1∨k=w.heap.size) w1 ((((w1.setCell ⟨w.heap.size+1+1+1,0,none⟩ (.slice a4 es1.length c4)).setCell ⟨w.heap.size+1+1+1,1,none⟩ (.slice a5 lH.len c5)).setCell ⟨w.heap.size,0,none⟩ (.slice a3 L1 l3)).setCell ⟨w.heap.size,1,none⟩ (.bool b1)):=
       ((fV w1 (w.heap.size+1+1+1) _ _).mono fun k _ hk=> .inl hk).trans ((fV _ w.heap.size _ _).mono fun k _ hk=> .inr hk) fun _ _ h=>h
      have gV:=ah (hta.turn (Q':=fun b=>w.heap.size+1+1+1+1≤b) fun b hb hQ=>⟨hft.block b hb (fun hs=>by have hQ:WB.heap.size≤b:=hQ;have:=kF.out;rcases hs with hs|hs<;>omega),by have hQ:WB.heap.size≤b:=hQ;have:=kF.out;omega⟩)
      clear hft hta hr1 hf1)
    |(go_at_call 136;refine(HC.out _ _ dQ.out.rin (Nat.le_trans dQ.out.h0 (Nat.le_of_lt (lt_of_block dQ.out.box)))).mono ?_;rintro e w2 ⟨cv,a6,l6,rfl,hrc,hr2,hf2⟩;obtain⟨a7,c7,rfl⟩:=hrc.rd.sl;clear y0 y1 y2 y3 y4 y5 y6 y7 z8 z9 z10 z11
      obtain⟨y0,y1,y2,y3,y4,y5,y6,y7⟩:=(dQ.out.call hf2).jC HB1.out
      have z8:=(dQ.out.call hf2).free 2
      have z9:=(dQ.out.call hf2).cell 2 rfl
      have q0:w2.cell? ⟨w.heap.size+1+1+1,0,none⟩=some (.slice a4 es1.length c4):=(dQ.out.call hf2).cell 0 rfl
      have q1:w2.cell? ⟨w.heap.size+1+1+1,1,none⟩=some (.slice a5 lH.len c5):=(dQ.out.call hf2).cell 1 rfl
      have HS2:=ah (dQ.out.BL hf2 hr2 (b:=true) rfl 2 (.slice a7 c1.length c7))
      have hsz1:w.heap.size+1+1+1<((((w1.setCell ⟨w.heap.size+1+1+1,0,none⟩ (.slice a4 es1.length c4)).setCell ⟨w.heap.size+1+1+1,1,none⟩ (.slice a5 lH.len c5)).setCell ⟨w.heap.size,0,none⟩ (.slice a3 L1 l3)).setCell ⟨w.heap.size,1,none⟩ (.bool b1)).heap.size:=lt_of_block dQ.out.blk
      have hft:aj (fun k=>k=w.heap.size+1+1+1∨k=w.heap.size) w2 (((w2.setCell ⟨w.heap.size+1+1+1,2,none⟩ (.slice a7 c1.length c7)).setCell ⟨w.heap.size,0,none⟩ (.slice a6 0 l6)).setCell ⟨w.heap.size,1,none⟩ (.bool true)):=
       ((dG w2 (w.heap.size+1+1+1) 2 _).mono fun k _ hk=> .inl hk).trans ((fV _ w.heap.size _ _).mono fun k _ hk=> .inr hk) fun _ _ h=>h
      have pR:=ah ((gV.out.aJ hf2).turn (Q':=fun b=>w.heap.size+1+1+1≤b) fun b hb hQ=>⟨hft.block b hb (fun hs=>by have hQ:w.heap.size+1+1+1+1≤b:=hQ;rcases hs with hs|hs<;>omega),by have hQ:w.heap.size+1+1+1+1≤b:=hQ;omega⟩)
      have gU:=ah (show dP (fun b=>w.heap.size+1+1+1≤b) _ (.slice a7 c1.length c7) c1 from eH.turn hrc fun b hb hQ=>⟨hft.block b hb (fun hs=>by have hQ:=Nat.lt_of_lt_of_le hsz1 hQ;rcases hs with hs|hs<;>omega),Nat.le_of_lt (Nat.lt_of_lt_of_le hsz1 hQ)⟩)
      clear hft hrc hr2 hf2 hsz1
      generalize es1.length=n at*
      generalize lH.len=m at*
      generalize c1.length=k at*)
    |(go_at_call 134;refine(uP _).mono ?_;rintro e w9 ⟨rfl,bZ⟩
      clear y0 y1 y2 y3 y4 y5 y6 y7 z8 z9 q0 q1
      obtain⟨g1,g2,hfw⟩:=lS.out w9 ((HS2.out.call bZ).aH)
      have x0:=au g1 0 rfl
      have x1:=au g1 1 rfl
      have x2:=au g1 2 rfl
      have f0:=aG g1 0
      have f1:=aG g1 1
      have f2:=aG g1 2
      have hl1:=lt_of_block g1
      have x3:=au g2 0 rfl
      have x4:=au g2 1 rfl
      have f3:=aG g2 0
      have f4:=aG g2 1
      have hl2:=lt_of_block g2
      have G1:=ah g1;clear g1
      have G2:=ah g2;clear g2
      have uj:=ah hfw
      clear bZ hfw))
   clear x0 x1 x2 x3 x4 f0 f1 f2 f3 f4 hl1 hl2
   obtain⟨y0,y1,y2,y3,y4⟩:=OZ (x0:= .slice none 0 0) (x1:= .slice none 0 0) (x2:= .slice none 0 0) (y0:= .slice none 0 0) (y1:= .bool true) G1.out G2.out _ rfl
   exact bodyPost_ret (v:= .tuple #[.agg #[.slice none 0 0, .slice none 0 0, .slice none 0 0], .agg #[.slice none 0 0, .bool true]]) (by simp[results,Tryz.results67,go_sem,y0,y1,y2,y3,y4]) rfl (OX (a:=none) (l:=0) (s:=none) (c:=[]) (tX _ _) (wK _ _) (bK.bad w0 _) HH0.out uj.out (OY w w9 _ _ _ _ _))
open Go.RowKit
def JU (w0 w:World) (v0 v1 v2 v3:Int) (s:Option (List UInt8)) (e:Ending) (w':World):Prop:=
 ∃a l,e= .returned (.tuple #[.agg #[.int .i64 v0, .int .i64 v1, .int .i64 v2, .int .i64 v3], .agg #[.slice a (leftOf s).length l, .bool s.isNone]])∧bK w0 w' (.slice a (leftOf s).length l) s∧aj ay w w'
theorem Pg {w0 w W W':World} {v0 v1 v2 v3:Int} {a:Option Addr} {l:Nat} {s:Option (List UInt8)} (hr:bK w0 W (.slice a (leftOf s).length l) s) (h0:w0.heap.size≤w.heap.size) (hf:aj ay w W) (f:aj (XT w) W W'):
 JU w0 w v0 v1 v2 v3 s (.returned (.tuple #[.agg #[.int .i64 v0, .int .i64 v1, .int .i64 v2, .int .i64 v3], .agg #[.slice a (leftOf s).length l, .bool s.isNone]])) W':=by
 refine⟨a,l,rfl,hr.keep f fun k hk hs=>?_,hf.trans f fun i hi hs=>?_⟩
 ·rcases hs with hs|hs|hs<;>omega
 ·rcases hs with hs|hs|hs<;>omega
theorem Ph (w W:World) (x0 x1 x2 x3 y0 y1:Value):aj (XT w) W ((((((W.setCell ⟨w.heap.size+1,0,none⟩ x0).setCell ⟨w.heap.size+1,1,none⟩ x1).setCell ⟨w.heap.size+1,2,none⟩ x2).setCell ⟨w.heap.size+1,3,none⟩ x3).setCell ⟨w.heap.size+1+1,0,none⟩ y0).setCell ⟨w.heap.size+1+1,1,none⟩ y1):=
 (((zI W (w.heap.size+1) x0 x1 x2 x3).mono fun k _ hk=> .inr (.inl hk)).trans ((fV _ (w.heap.size+1+1) y0 y1).mono fun k _ hk=> .inr (.inr hk)) fun _ _ h=>h)
theorem Pj {w W:World} {x0 x1 x2 x3 y0 y1:Value} {a b b2 b3 c d:Value} (h1:W.heap[w.heap.size+1]?=some (.cells #[a,b,b2,b3] 25 (0,0))) (h2:W.heap[w.heap.size+1+1]?=some (.cells #[c,d] 115 (0,0))) (W':World)
 (hW:W'=(((((W.setCell ⟨w.heap.size+1,0,none⟩ x0).setCell ⟨w.heap.size+1,1,none⟩ x1).setCell ⟨w.heap.size+1,2,none⟩ x2).setCell ⟨w.heap.size+1,3,none⟩ x3).setCell ⟨w.heap.size+1+1,0,none⟩ y0).setCell ⟨w.heap.size+1+1,1,none⟩ y1):
 W'.cell? ⟨w.heap.size+1,0,none⟩=some x0∧W'.cell? ⟨w.heap.size+1,1,none⟩=some x1∧W'.cell? ⟨w.heap.size+1,2,none⟩=some x2∧W'.cell? ⟨w.heap.size+1,3,none⟩=some x3∧W'.cell? ⟨w.heap.size+1+1,0,none⟩=some y0∧W'.cell? ⟨w.heap.size+1+1,1,none⟩=some y1:=by
 subst hW
 have g1:=bC (bC (bC (bC h1 0 x0) 1 x1) 2 x2) 3 x3
 have f1:=zI W (w.heap.size+1) x0 x1 x2 x3
 have f2:=fV ((((W.setCell ⟨w.heap.size+1,0,none⟩ x0).setCell ⟨w.heap.size+1,1,none⟩ x1).setCell ⟨w.heap.size+1,2,none⟩ x2).setCell ⟨w.heap.size+1,3,none⟩ x3) (w.heap.size+1+1) y0 y1
 have g2:=f1.blk h2 fun e=>by have e:w.heap.size+1+1=w.heap.size+1:=e;omega
 have g3:=f2.blk g1 fun e=>by have e:w.heap.size+1=w.heap.size+1+1:=e;omega
 have g4:=bC (bC g2 0 y0) 1 y1
 exact⟨au g3 0 rfl,au g3 1 rfl,au g3 2 rfl,au g3 3 rfl,au g4 0 rfl,au g4 1 rfl⟩
theorem WI {w0:World} {v:Value} {st s:Option (List UInt8)} {u0 u1 u2 u3:Int} (w:World) (h:bK w0 w v st) (h0:w0.heap.size≤w.heap.size) (hc:kD st u0 u1 u2 u3 s):
 Calls Tryz.prog 65 #[.agg #[v, .bool st.isNone]] w (JU w0 w u0 u1 u2 u3 s):=by
 obtain⟨a0,c0,rfl⟩:=h.shape
 obtain⟨v0,v1,v2,v3,t1,t2,t3,t4,g0,g1,g2,g3⟩:=V4.total 9223372036854775807 st
 have BK:=ah (show V4 9223372036854775807 st v0 v1 v2 v3 t4 from⟨t1,t2,t3,g0,g1,g2,g3⟩)
 have HC:=ah hc;clear hc
 have rF:=ah (fun W v (hs:bK w0 W v st)=>oV hs g0 (by decide) (by decide))
 have fZ:=ah (fun W v (hs:bK w0 W v t1)=>oV hs g1 (by decide) (by decide))
 have HG2:=ah (fun W v (hs:bK w0 W v t2)=>oV hs g2 (by decide) (by decide))
 have gW:=ah (fun W v (hs:bK w0 W v t3)=>oV hs g3 (by decide) (by decide))
 unfold qL at rF fZ HG2 gW
 have wS:=ah (fun W=>La W v0 v1 v2 v3)
 unfold uF at wS
 clear g0 g1 g2 g3
 obtain⟨WB,eU⟩:∃W,W=(((w.alloc (.cells #[.slice a0 (leftOf st).length c0, .bool st.isNone] 115)).alloc (.cells #[.int .i64 0, .int .i64 0, .int .i64 0, .int .i64 0] 25)).alloc (.cells #[.slice none 0 0, .bool false] 115)).alloc (.cells #[.int .i64 0, .int .i64 0, .int .i64 0, .int .i64 0] 25):=⟨_,rfl⟩
 obtain⟨wR,hst,hk1,hk2,zM,hsz,hsr⟩:=dH.start4 h h0 _ _ _ _ eU
 have HST:=ah hst;clear hst
 have yj:=ah hk1;clear hk1
 have BN:=ah hk2;clear hk2
 have Gp:=ah zM;clear zM hsz hsr
 have HH0:=ah h0;clear h0
 clear h
 have lS:=ah (fun(W:World) (f:aj (Only w.heap.size) wR W)=>(⟨f.blk yj.out fun e=>(by have e:w.heap.size+1=w.heap.size:=e;omega),f.blk BN.out fun e=>(by have e:w.heap.size+1+1=w.heap.size:=e;omega),Gp.out.trans f fun i hi e=>(by have e:i=w.heap.size:=e;omega)⟩:
  W.heap[w.heap.size+1]?=some (.cells #[.int .i64 0, .int .i64 0, .int .i64 0, .int .i64 0] 25 (0,0))∧W.heap[w.heap.size+1+1]?=some (.cells #[.slice none 0 0, .bool false] 115 (0,0))∧aj ay w W))
 have dF:=ah (show ∀bd L0,st.isNone=bd→(leftOf st).length=L0→WB=(((w.alloc (.cells #[.slice a0 L0 c0, .bool bd] 115)).alloc (.cells #[.int .i64 0, .int .i64 0, .int .i64 0, .int .i64 0] 25)).alloc (.cells #[.slice none 0 0, .bool false] 115)).alloc (.cells #[.int .i64 0, .int .i64 0, .int .i64 0, .int .i64 0] 25)from fun _ _ h1 h2=>by subst h1 h2;exact eU)
 clear eU
 obtain⟨bd,hbd⟩:∃b,st.isNone=b:=⟨_,rfl⟩
 obtain⟨L0,hL0⟩:∃l,(leftOf st).length=l:=⟨_,rfl⟩
 have hwb:=dF.out bd L0 hbd hL0
 rw[hbd,hL0]
 have WJ:=ah hwb;clear hwb dF
 clear hbd hL0
 go_enter Tryz.func65,Tryz.ntmps65
 go_wp2_with fail
 rw[←WJ.out]
 clear WJ
 go_loopw [6] (fun j W=>∃(J:Nat) (x0 x1 x2 x3:Int) (t:Option (List UInt8)) (al:Option Addr) (cl:Nat),((J=0∧x0=0∧x1=0∧x2=0∧x3=0∧t=st)∨(J=1∧x0=v0∧x1=0∧x2=0∧x3=0∧t=t1)∨(J=2∧x0=v0∧x1=v1∧x2=0∧x3=0∧t=t2)∨(J=3∧x0=v0∧x1=v1∧x2=v2∧x3=0∧t=t3)∨(J=4∧x0=v0∧x1=v1∧x2=v2∧x3=v3∧t=t4))∧j= .int .i64 J∧dH w0 w wR W (w.heap.size+1+1+1) 25 #[.int .i64 x0, .int .i64 x1, .int .i64 x2, .int .i64 x3] (.slice al (leftOf t).length cl) t) (fun j _=>4-(intOf j).toNat)
 case atStart=>exact⟨0,0,0,0,0,st,a0,c0, .inl ⟨rfl,rfl,rfl,rfl,rfl,rfl⟩,rfl,HST.out⟩
 case round=>
  obtain⟨J,x0,x1,x2,x3,t,al,cl,hcase,rfl,hs⟩:=hrel
  rcases hcase with⟨rfl,rfl,rfl,rfl,rfl,rfl⟩|⟨rfl,rfl,rfl,rfl,rfl,rfl⟩|⟨rfl,rfl,rfl,rfl,rfl,rfl⟩|⟨rfl,rfl,rfl,rfl,rfl,rfl⟩|⟨rfl,rfl,rfl,rfl,rfl,rfl⟩
  ·have bH:=ah (rF.out wr _ hs.rin)
   obtain⟨y0,y1,-⟩:=hs.facts
   have HS:=ah hs;clear hs rF fZ HG2 gW
   generalize (leftOf t).length=Lx at*
   generalize t.isNone=bx at*
   generalize jW:(leftOf t1).length=Ly at*
   generalize hby:t1.isNone=by' at*
   have oh:=ah jW;clear jW
   have jm:=ah hby;clear hby
   go_wp2_with(go_at_call 64;refine bH.out.mono ?_;rintro e W1 ⟨a5,c5,rfl,gI,hf5⟩;clear y0 y1;obtain⟨z0,z1,z2,z3,z4,z5,z6,z7⟩:=(HS.out.call hf5).facts;have z8:=(HS.out.call hf5).free 0;have z9:=(HS.out.call hf5).cell 0 rfl;have iJ:=ah hf5;have oq:=ah gI;clear hf5 gI)
   go_roundw
   case rel=>
    have e1:=oh.out
    have e2:=jm.out
    subst e1 e2
    exact⟨1,_,_,_,_,t1,a5,c5, .inr (.inl ⟨rfl,rfl,rfl,rfl,rfl,rfl⟩),by go_num,HS.out.next iJ.out oq.out 0 _⟩
   case measure=>simp[intOf]
  ·have bH:=ah (fZ.out wr _ hs.rin)
   obtain⟨y0,y1,-⟩:=hs.facts
   have HS:=ah hs;clear hs rF fZ HG2 gW
   generalize (leftOf t).length=Lx at*
   generalize t.isNone=bx at*
   generalize jW:(leftOf t2).length=Ly at*
   generalize hby:t2.isNone=by' at*
   have oh:=ah jW;clear jW
   have jm:=ah hby;clear hby
   go_wp2_with(go_at_call 64;refine bH.out.mono ?_;rintro e W1 ⟨a5,c5,rfl,gI,hf5⟩;clear y0 y1;obtain⟨z0,z1,z2,z3,z4,z5,z6,z7⟩:=(HS.out.call hf5).facts;have z8:=(HS.out.call hf5).free 1;have z9:=(HS.out.call hf5).cell 1 rfl;have iJ:=ah hf5;have oq:=ah gI;clear hf5 gI)
   go_roundw
   case rel=>
    have e1:=oh.out
    have e2:=jm.out
    subst e1 e2
    exact⟨2,_,_,_,_,t2,a5,c5, .inr (.inr (.inl ⟨rfl,rfl,rfl,rfl,rfl,rfl⟩)),by go_num,HS.out.next iJ.out oq.out 1 _⟩
   case measure=>simp[intOf]
  ·have bH:=ah (HG2.out wr _ hs.rin)
   obtain⟨y0,y1,-⟩:=hs.facts
   have HS:=ah hs;clear hs rF fZ HG2 gW
   generalize (leftOf t).length=Lx at*
   generalize t.isNone=bx at*
   generalize jW:(leftOf t3).length=Ly at*
   generalize hby:t3.isNone=by' at*
   have oh:=ah jW;clear jW
   have jm:=ah hby;clear hby
   go_wp2_with(go_at_call 64;refine bH.out.mono ?_;rintro e W1 ⟨a5,c5,rfl,gI,hf5⟩;clear y0 y1;obtain⟨z0,z1,z2,z3,z4,z5,z6,z7⟩:=(HS.out.call hf5).facts;have z8:=(HS.out.call hf5).free 2;have z9:=(HS.out.call hf5).cell 2 rfl;have iJ:=ah hf5;have oq:=ah gI;clear hf5 gI)
   go_roundw
   case rel=>
    have e1:=oh.out
    have e2:=jm.out
    subst e1 e2
    exact⟨3,_,_,_,_,t3,a5,c5, .inr (.inr (.inr (.inl ⟨rfl,rfl,rfl,rfl,rfl,rfl⟩))),by go_num,HS.out.next iJ.out oq.out 2 _⟩
   case measure=>simp[intOf]
  ·have bH:=ah (gW.out wr _ hs.rin)
   obtain⟨y0,y1,-⟩:=hs.facts
   have HS:=ah hs;clear hs rF fZ HG2 gW
   generalize (leftOf t).length=Lx at*
   generalize t.isNone=bx at*
   generalize jW:(leftOf t4).length=Ly at*
   generalize hby:t4.isNone=by' at*
   have oh:=ah jW;clear jW
   have jm:=ah hby;clear hby
   go_wp2_with(go_at_call 64;refine bH.out.mono ?_;rintro e W1 ⟨a5,c5,rfl,gI,hf5⟩;clear y0 y1;obtain⟨z0,z1,z2,z3,z4,z5,z6,z7⟩:=(HS.out.call hf5).facts;have z8:=(HS.out.call hf5).free 3;have z9:=(HS.out.call hf5).cell 3 rfl;have iJ:=ah hf5;have oq:=ah gI;clear hf5 gI)
   go_roundw
   case rel=>
    have e1:=oh.out
    have e2:=jm.out
    subst e1 e2
    exact⟨4,_,_,_,_,t4,a5,c5, .inr (.inr (.inr (.inr (⟨rfl,rfl,rfl,rfl,rfl,rfl⟩)))),by go_num,HS.out.next iJ.out oq.out 3 _⟩
   case measure=>simp[intOf]
  ·clear rF fZ HG2 gW
   cases t with
   |none=>
    obtain⟨⟨rfl,rfl,rfl,rfl⟩,rfl⟩:=HC.out.b_ (Jq (by decide) (by decide) BK.out (.inl rfl))
    obtain⟨y0,y1,y2,y3,y4,y5,y6,y7⟩:=hs.jC (rfl:(none:Option (List UInt8)).isNone=true)
    have HS:=ah hs;clear hs
    have q0:wr.cell? ⟨w.heap.size+1+1+1,0,none⟩=some (.int .i64 x0):=HS.out.cell 0 rfl
    have q1:wr.cell? ⟨w.heap.size+1+1+1,1,none⟩=some (.int .i64 x1):=HS.out.cell 1 rfl
    have q2:wr.cell? ⟨w.heap.size+1+1+1,2,none⟩=some (.int .i64 x2):=HS.out.cell 2 rfl
    have q3:wr.cell? ⟨w.heap.size+1+1+1,3,none⟩=some (.int .i64 x3):=HS.out.cell 3 rfl
    go_wp2_with(go_at_call 134;refine(uP _).mono ?_;rintro e w9 ⟨rfl,bZ⟩
                clear y0 y1 y2 y3 y4 y5 y6 y7 q0 q1 q2 q3
                obtain⟨g1,g2,hfw⟩:=lS.out w9 ((HS.out.call bZ).aH)
                have x10:=au g1 0 rfl
                have x11:=au g1 1 rfl
                have x12:=au g1 2 rfl
                have Gq:=au g1 3 rfl
                have f0:=aG g1 0
                have f1:=aG g1 1
                have f2:=aG g1 2
                have f3:=aG g1 3
                have hl1:=lt_of_block g1
                have x14:=au g2 0 rfl
                have x15:=au g2 1 rfl
                have f4:=aG g2 0
                have f5:=aG g2 1
                have hl2:=lt_of_block g2
                have G1:=ah g1;clear g1
                have G2:=ah g2;clear g2
                have uj:=ah hfw
                clear bZ hfw)
    clear x10 x11 x12 Gq x14 x15 f0 f1 f2 f3 f4 f5 hl1 hl2
    obtain⟨y0,y1,y2,y3,y4,y5⟩:=Pj (x0:= .int .i64 0) (x1:= .int .i64 0) (x2:= .int .i64 0) (x3:= .int .i64 0) (y0:= .slice none 0 0) (y1:= .bool true) G1.out G2.out _ rfl
    exact bodyPost_ret (v:= .tuple #[.agg #[.int .i64 0, .int .i64 0, .int .i64 0, .int .i64 0], .agg #[.slice none 0 0, .bool true]]) (by simp[results,Tryz.results65,go_sem,y0,y1,y2,y3,y4,y5]) rfl (Pg (a:=none) (l:=0) (s:=none) (bK.bad w0 _) HH0.out uj.out (Ph w w9 _ _ _ _ _ _))
   |some r=>
    by_cases hmay:g_ (bP x0 x1 x2 x3)
    ·rw[dO hmay]at wS
     obtain⟨⟨rfl,rfl,rfl,rfl⟩,rfl⟩:=HC.out.b_ (TY BK.out hmay)
     obtain⟨y0,y1,y2,y3,y4,y5,y6,y7⟩:=hs.jC (rfl:(some r).isNone=false)
     have HS:=ah hs;clear hs hmay
     simp only[show(leftOf (some r)).length=r.length from rfl]at y0
     have q0:wr.cell? ⟨w.heap.size+1+1+1,0,none⟩=some (.int .i64 u0):=HS.out.cell 0 rfl
     have q1:wr.cell? ⟨w.heap.size+1+1+1,1,none⟩=some (.int .i64 u1):=HS.out.cell 1 rfl
     have q2:wr.cell? ⟨w.heap.size+1+1+1,2,none⟩=some (.int .i64 u2):=HS.out.cell 2 rfl
     have q3:wr.cell? ⟨w.heap.size+1+1+1,3,none⟩=some (.int .i64 u3):=HS.out.cell 3 rfl
     go_wp2_with(go_at_call 76;refine(wS.out _).mono ?_;rintro e w3 ⟨rfl,hf3⟩
                 clear y0 y1 y2 y3 y4 y5 y6 y7 q0 q1 q2 q3
                 obtain⟨y0,y1,y2,y3,y4,y5,y6,y7⟩:=(HS.out.call hf3).jC (rfl:(some r).isNone=false)
                 simp only[show(leftOf (some r)).length=r.length from rfl]at y0
                 have q0:w3.cell? ⟨w.heap.size+1+1+1,0,none⟩=some (.int .i64 u0):=(HS.out.call hf3).cell 0 rfl
                 have q1:w3.cell? ⟨w.heap.size+1+1+1,1,none⟩=some (.int .i64 u1):=(HS.out.call hf3).cell 1 rfl
                 have q2:w3.cell? ⟨w.heap.size+1+1+1,2,none⟩=some (.int .i64 u2):=(HS.out.call hf3).cell 2 rfl
                 have q3:w3.cell? ⟨w.heap.size+1+1+1,3,none⟩=some (.int .i64 u3):=(HS.out.call hf3).cell 3 rfl
                 obtain⟨g1,g2,hfw⟩:=lS.out w3 ((HS.out.call hf3).aH)
                 have x10:=au g1 0 rfl
                 have x11:=au g1 1 rfl
                 have x12:=au g1 2 rfl
                 have Gq:=au g1 3 rfl
                 have f0:=aG g1 0
                 have f1:=aG g1 1
                 have f2:=aG g1 2
                 have f3:=aG g1 3
                 have hl1:=lt_of_block g1
                 have x14:=au g2 0 rfl
                 have x15:=au g2 1 rfl
                 have f4:=aG g2 0
                 have f5:=aG g2 1
                 have hl2:=lt_of_block g2
                 have G1:=ah g1;clear g1
                 have G2:=ah g2;clear g2
                 have BO:=ah hfw
                 have fG:=ah (HS.out.call hf3)
                 clear hf3 hfw)
     go_region
     all_goals
      clear x10 x11 x12 Gq x14 x15 f0 f1 f2 f3 f4 f5 hl1 hl2
      clear y0 y1 y2 y3 y4 y5 y6 y7 q0 q1 q2 q3
      obtain⟨y0,y1,y2,y3,y4,y5⟩:=Pj (x0:= .int .i64 u0) (x1:= .int .i64 u1) (x2:= .int .i64 u2) (x3:= .int .i64 u3) (y0:= .slice al r.length cl) (y1:= .bool false) G1.out G2.out _ rfl
      go_wp2
      exact bodyPost_ret (v:= .tuple #[.agg #[.int .i64 u0, .int .i64 u1, .int .i64 u2, .int .i64 u3], .agg #[.slice al r.length cl, .bool false]]) (by simp[results,Tryz.results65,go_sem,y0,y1,y2,y3,y4,y5]) rfl (Pg (s:=some r) fG.out.rin HH0.out BO.out ((Ph w w3 _ _ _ _ _ _).aC (aj.drew ay _)))
    ·rw[bf hmay]at wS
     obtain⟨⟨rfl,rfl,rfl,rfl⟩,rfl⟩:=HC.out.b_ (Jq (by decide) (by decide) BK.out (.inr hmay))
     obtain⟨y0,y1,y2,y3,y4,y5,y6,y7⟩:=hs.jC (rfl:(some r).isNone=false)
     have HS:=ah hs;clear hs hmay
     have q0:wr.cell? ⟨w.heap.size+1+1+1,0,none⟩=some (.int .i64 x0):=HS.out.cell 0 rfl
     have q1:wr.cell? ⟨w.heap.size+1+1+1,1,none⟩=some (.int .i64 x1):=HS.out.cell 1 rfl
     have q2:wr.cell? ⟨w.heap.size+1+1+1,2,none⟩=some (.int .i64 x2):=HS.out.cell 2 rfl
     have q3:wr.cell? ⟨w.heap.size+1+1+1,3,none⟩=some (.int .i64 x3):=HS.out.cell 3 rfl
     go_wp2_with(first
      |(go_at_call 76;refine(wS.out _).mono ?_;rintro e w3 ⟨rfl,hf3⟩;have HF3:=ah hf3;clear hf3)
      |(go_at_call 134;refine(uP _).mono ?_;rintro e w9 ⟨rfl,bZ⟩
        clear y0 y1 y2 y3 y4 y5 y6 y7 q0 q1 q2 q3
        obtain⟨g1,g2,hfw⟩:=lS.out w9 (((HS.out.call HF3.out).call bZ).aH)
        have x10:=au g1 0 rfl
        have x11:=au g1 1 rfl
        have x12:=au g1 2 rfl
        have Gq:=au g1 3 rfl
        have f0:=aG g1 0
        have f1:=aG g1 1
        have f2:=aG g1 2
        have f3:=aG g1 3
        have hl1:=lt_of_block g1
        have x14:=au g2 0 rfl
        have x15:=au g2 1 rfl
        have f4:=aG g2 0
        have f5:=aG g2 1
        have hl2:=lt_of_block g2
        have G1:=ah g1;clear g1
        have G2:=ah g2;clear g2
        have uj:=ah hfw
        clear bZ hfw))
     clear x10 x11 x12 Gq x14 x15 f0 f1 f2 f3 f4 f5 hl1 hl2
     obtain⟨y0,y1,y2,y3,y4,y5⟩:=Pj (x0:= .int .i64 0) (x1:= .int .i64 0) (x2:= .int .i64 0) (x3:= .int .i64 0) (y0:= .slice none 0 0) (y1:= .bool true) G1.out G2.out _ rfl
     exact bodyPost_ret (v:= .tuple #[.agg #[.int .i64 0, .int .i64 0, .int .i64 0, .int .i64 0], .agg #[.slice none 0 0, .bool true]]) (by simp[results,Tryz.results65,go_sem,y0,y1,y2,y3,y4,y5]) rfl (Pg (a:=none) (l:=0) (s:=none) (bK.bad w0 _) HH0.out uj.out (Ph w w9 _ _ _ _ _ _))
open Go.RowKit
theorem Gs {ops:Array Oper} {rest:List Oper} {o:Oper} {a:Act} {Q:Exit→Act→World→Prop} (w0 W:World) (hgd:o.guard=none) (s x:Operand)
 (ho:o.op= .call {callee:= .builtin .append,args:= #[s,x],argTypes:= #[22,22]}) (v:Value) (bs:List UInt8) (hp:Copy w0 v bs W) (xv:Value) (cs:List UInt8)
 (hv:a.eval s=v) (hx:a.eval x=xv) (hc:Rd W xv cs.length (bV cs)) (hl:bs.length+cs.length≤140737488355328)
 (h:∀ad c w' t,Hid (t=bs++cs)→Copy w0 (.slice ad t.length c) t w'→aj (eY v) W w'→gZ W v (.slice ad t.length c)→wpList Tryz.prog ops Q rest (a.put o.dst (.slice ad t.length c)) w'):
 wpList Tryz.prog ops Q (o::rest) a W:=
 MO W hgd s x 22 ho v bs hp.own xv cs hv hx (hc.src Tryz.underlying22 (by simp) (Qi _)) hl fun ad c w' own fm fr _=>by
  have hh:=h ad c w' (bs++cs) (ah rfl)
  rw[List.length_append]at hh
  exact hh (hp.app own rfl fm fr) fm fr
def WL (W:World) (bs:List UInt8) (e:Ending) (w':World):Prop:=∃a c t,t=bs∧e= .returned (.slice a t.length c)∧Copy W (.slice a t.length c) t w'
open Go.RowKit
theorem adp {c:aX} (hf:oD c):∀k,(pI (c.take k)).length≤30*k:=fun k=>by
 have h:(pI (c.take k)).length≤30*(c.take k).length:=Jk fun s hs=>by
  have hb:=hf s (List.mem_of_mem_take hs)
  have h1:=jr (v:=s.1) (by omega) (by omega)
  have h2:=jr (v:=s.2.1) (by omega) (by omega)
  have h3:=jr (v:=s.2.2) (by omega) (by omega)
  unfold encS
  simp only[List.length_append]
  omega
 have:=List.length_take_le k c
 exact Nat.le_trans h (Nat.mul_le_mul_left _ this)
theorem adq {c:aX} {k:Nat} (h:k<c.length):pI (c.take (k+1))=pI (c.take k)++encS (c.getD k (0,0,0)):=by
 rw[take_succ (0,0,0) h]
 unfold pI
 rw[List.flatMap_append]
 simp
noncomputable def ctxB (c:aX):List UInt8:=if tf (dN c)then lZ c else lZ []
theorem adr:lZ []=bG 0:=by unfold lZ pI;simp
theorem ads (Q:Nat→Prop) (ob:Nat) (w:World) (v:Value) (bs:List UInt8) (cv:Value) (c:aX) (ho:jv w ob v bs) (hc:eH Q w cv c.length (fJ c)) (hq:∀b,iT ob v b→¬Q b) (hf:oD c) (hl:c.length≤100000) (hb:bs.length≤80000000):
 Calls Tryz.prog 138 #[.pointer (some ⟨ob,0,none⟩),cv] w fun e w'=>e= .returned (.tuple #[])∧dY w ob v bs (ctxB c) w':=by
 have dU:=ah (IK w cv c hc.rd hf hl)
 have HQ:=ah hq;clear hq
 have HC:=ah hc;clear hc
 have HF:=ah hf;clear hf
 have HO:=ah ho;clear ho
 obtain⟨aA,cA,rfl⟩:=HC.out.rd.sl
 unfold ctxB
 by_cases hr:dN c
 ·rw[dO hr]at dU⊢
  clear hr
  have HE:=ah (adp HF.out)
  have vP:=ah (show bG c.length++pI (c.take c.length)=lZ c by unfold lZ;rw[List.take_length])
  generalize hn:c.length=n at*
  have HN:=ah hn;clear hn
  rw[if_pos rfl]
  go_enter Tryz.func138,Tryz.ntmps138
  go_wp2_with(first
   |(go_at_call 157;refine dU.out.mono ?_;rintro e w1 ⟨rfl,hw1⟩;have vg:=ah ((dY.start HO.out).aJ hw1);clear hw1)
   |(go_at_call 70;refine(lg vg.out n ⟨by omega,by omega⟩ (by simp only[List.length_nil];omega)).mono ?_;rintro e w2 ⟨rfl,hp⟩;have HP:=ah hp;clear hp))
  go_loopw [15] (fun i ww=>∃k:Nat,k≤n∧i= .int .i64 k∧dY w ob v bs (bG n++pI (c.take k)) ww) (fun i _=>n-(intOf i).toNat)
  case atStart=>exact⟨0,Nat.zero_le _,rfl,HP.out.cast (by simp[pI])⟩
  case round=>
   obtain⟨k,hk,rfl,hp⟩:=hrel
   have iQ:=ah hp;clear hp
   by_cases hlt:k<n
   ·have hlk:k<c.length:=by rw[HN.out];exact hlt
    have hrd:=HC.out.put HQ.out iQ.out
    rcases Rd.shape hrd with⟨ad,he,h0⟩|⟨b,off,cc,he,hmax⟩
    ·exfalso;omega
    ·injection he with e1 e2 e3
     subst e1 e3
     clear e2
     obtain⟨q0,q1,q2⟩:=AU (c:=cA) (l:=c) (by unfold jf;rw[HN.out];exact hrd) HN.out.symm k hlk
     clear hrd
     have hbf:=HF.out _ (getD_mem (0,0,0) hlk)
     have HST:=ah (adq hlk)
     obtain⟨s,hgd⟩:∃s,s=c.getD k (0,0,0):=⟨_,rfl⟩
     rw[←hgd]at HST q0 q1 q2 hbf
     clear hgd
     have HEk:=ah (HE.out k)
     have WM:(bG n).length≤10:=EW (by omega)
     have adu:=ah WM;clear WM
     have ou:=ah hbf;clear hbf
     obtain⟨v',ho',hfr,hfm⟩:=iQ.out
     have iG:=ah ho';clear ho'
     have mO:=ah hfr;clear hfr
     have pK:=ah hfm;clear hfm
     have hno:¬iT ob v' wr.heap.size:=fun h=>by have:=vM iG.out _ h;omega
     have eP:=ah hno;clear hno
     have HB:=ah (dY.start (iG.out.aJ (aj.alloc ay wr (.cells #[.int .i64 s.1, .int .i64 s.2.1, .int .i64 s.2.2] 144))))
     have hbl:(bs++(bG n++pI (c.take k))).length≤83000010:=by
      have:=HEk.out
      have:=adu.out
      simp only[List.length_append];omega
     have uo:=ah hbl;clear hbl
     have h1:=jr (v:=s.1) (by have:=ou.out;omega) (by have:=ou.out;omega)
     have h2:=jr (v:=s.2.1) (by have:=ou.out;omega) (by have:=ou.out;omega)
     have H1:=ah h1;clear h1
     have H2:=ah h2;clear h2
     go_wp2_with(first
      |(go_at_call 70;refine(lg iR.out s.2.2 ou.out.2.2.2.2 (by have h0:=uo.out;have h1:=H1.out;have h2:=H2.out;simp only[List.nil_append,List.length_append]at h0 h1 h2⊢;omega)).mono ?_;rintro e w5 ⟨rfl,gY⟩;have kJ:=ah gY;clear gY z2)
      |(go_at_call 70;refine(lg nN.out s.2.1 ⟨ou.out.2.2.1,ou.out.2.2.2.1⟩ (by have:=uo.out;have:=H1.out;simp only[List.nil_append];omega)).mono ?_;rintro e w4 ⟨rfl,mF⟩;have z2:w4.cell? ⟨wr.heap.size,2,none⟩=some (.int .i64 s.2.2):=mF.cell (au (heap_alloc_new wr _) 2 rfl) eP.out;have iR:=ah mF;clear mF y1 y2 nN)
      |(go_at_call 70;refine(lg HB.out s.1 ⟨ou.out.1,ou.out.2.1⟩ (by have:=uo.out;simp only[List.length_nil];omega)).mono ?_;rintro e w3 ⟨rfl,hp3⟩;have y1:w3.cell? ⟨wr.heap.size,1,none⟩=some (.int .i64 s.2.1):=hp3.cell (au (heap_alloc_new wr _) 1 rfl) eP.out;have y2:w3.cell? ⟨wr.heap.size,2,none⟩=some (.int .i64 s.2.2):=hp3.cell (au (heap_alloc_new wr _) 2 rfl) eP.out;have nN:=ah hp3;clear hp3 HB))
     go_roundw
     case rel=>exact⟨k+1,by omega,by go_num,(dY.trans mO.out pK.out (kJ.out.base (aj.alloc _ _ _))).cast (by rw[HST.out];unfold encS;simp only[List.append_assoc,List.nil_append])⟩
     case measure=>simp[intOf];omega
   ·obtain rfl:n=k:=by omega
    go_wp2
    go_end0
    exact⟨rfl,iQ.out.cast vP.out⟩
 ·rw[bf hr]at dU⊢
  clear hr
  rw[if_neg (by decide),adr]
  go_enter Tryz.func138,Tryz.ntmps138
  go_wp2_with(first
   |(go_at_call 157;refine dU.out.mono ?_;rintro e w1 ⟨rfl,hw1⟩;have vg:=ah ((dY.start HO.out).aJ hw1);clear hw1)
   |(go_at_call 70;refine(lg vg.out 0 ⟨by omega,by omega⟩ (by simp only[List.length_nil];omega)).mono ?_;rintro e w2 ⟨rfl,hp⟩;have HP:=ah hp;clear hp))
  go_loopw [15] (fun i ww=>i= .int .i64 0∧dY w ob v bs (bG 0) ww) (fun i _=>0)
  case atStart=>exact⟨rfl,HP.out⟩
  case round=>
   obtain⟨rfl,hp⟩:=hrel
   have iQ:=ah hp;clear hp
   go_wp2
   go_end0
   exact⟨rfl,iQ.out⟩
end Go.Proofs.YtabkpccdnkjoiaaGreat
