/- Words for the law MsgSame: PackGet6, CSame, Eq, TSame, Same1. -/
import Derived.Test.YtabkpccdnkjoiaaGreatMsgSameG0
import Derived.Test.YtabkpccdnkjoiaaGreatMsgSameG3
import Derived.Test.YtabkpccdnkjoiaaGreatMsgSameG7
import Derived.Test.YtabkpccdnkjoiaaGreatMsgSameG9
import Derived.Test.YtabkpccdnkjoiaaGreatMsgSameG15
set_option linter.unusedSimpArgs false
set_option linter.unusedVariables false
set_option maxHeartbeats 32000000
set_option maxRecDepth 1000000
namespace Go.Proofs.YtabkpccdnkjoiaaGreat
open Go.RowKit
theorem jT.total (st:Option (List UInt8)):∃es ks s,jT st es ks s:=by
 by_cases h:∃es ks rest,st=some (eX es ks++rest)∧bW 5 es ks=true
 ·obtain⟨es,ks,rest,h1,h2⟩:=h
  exact⟨es,ks,some rest, .inl ⟨rest,h1,h2,rfl⟩⟩
 ·exact⟨[], .nil,none, .inr ⟨rfl,rfl,rfl,fun es ks rest h1=>by
   cases h2:bW 5 es ks with
   |false=>rfl
   |true=>exact absurd ⟨es,ks,rest,h1,h2⟩ h⟩⟩
theorem kG.total (st:Option (List UInt8)):∃c s,kG st c s:=by
 by_cases h:∃c rest,st=some (jS c++rest)∧dw c
 ·obtain⟨c,rest,h1,h2⟩:=h
  exact⟨c,some rest, .inl ⟨rest,h1,h2,rfl⟩⟩
 ·exact⟨[],none, .inr ⟨rfl,rfl,fun c rest h1 h2=>h ⟨c,rest,h1,h2⟩⟩⟩
theorem kY.total (st:Option (List UInt8)):∃es ks c s,kY st es ks c s:=by
 by_cases h:∃es ks c rest,st=some (jf es ks c++rest)∧fG es ks c
 ·obtain⟨es,ks,c,rest,h1,h2⟩:=h
  exact⟨es,ks,c,some rest, .inl ⟨rest,h1,h2,rfl⟩⟩
 ·exact⟨[], .nil,[],none, .inr ⟨rfl,rfl,rfl,rfl,fun es ks c rest h1 h2=>h ⟨es,ks,c,rest,h1,h2⟩⟩⟩
theorem Yv {st s:Option (List UInt8)} {es:List aG} {ks:aH} (hr:jT st es ks s) (ib:Nat) (w:World) (h:cu w ib st) (hl:(leftOf st).length≤60000):
 Calls Tryz.prog 125 #[.pointer (some ⟨ib,0,none⟩)] w fun e w'=>∃ev kv,e= .returned (.agg #[ev,kv])∧bQ (fun b=>w.heap.size≤b) w' ev kv es ks∧cu w' ib s∧aj (Only ib) w w':=
 (Yt ib st w h hl).mono fun e w' ⟨ev,kv,es',ks',s',he,ht,hr',hi,hf⟩=>by
   obtain⟨⟨rfl,rfl⟩,rfl⟩:=hr.bY hr'
   exact⟨ev,kv,he,ht,hi,hf⟩
theorem Yw {st s:Option (List UInt8)} {c:aW} (hr:kG st c s) (ib:Nat) (w:World) (h:cu w ib st) (hl:(leftOf st).length≤60000):
 Calls Tryz.prog 126 #[.pointer (some ⟨ib,0,none⟩)] w fun e w'=>∃cv,e= .returned cv∧fC (fun b=>w.heap.size≤b) w' cv c.length (eu c)∧cu w' ib s∧aj (Only ib) w w':=
 (Yf ib st w h hl).mono fun e w' ⟨cv,c',s',he,ht,hr',_,_,hi,hf⟩=>by
   obtain⟨rfl,rfl⟩:=hr.bY hr'
   exact⟨cv,he,ht,hi,hf⟩
theorem kG.fits {st s:Option (List UInt8)} {c:aW} (h:kG st c s):kE c:=by
 rcases h with⟨r,rfl,hr,rfl⟩|⟨rfl,rfl,_⟩
 ·exact hr.fits
 ·exact fun s hs=>by cases hs
theorem both_ok {st s1 s2:Option (List UInt8)} {es:List aG} {ks:aH} {c:aW} (h1:jT st es ks s1) (h2:kG s1 c s2) (hl:(leftOf st).length≤6000):fP es ks c:=by
 have g1:=h1.sizes
 have g2:=h2.sizes
 exact⟨h1.tr (by omega),by omega,h2.fits,by omega⟩
def pY (st:Option (List UInt8)):Prop:=∀es ks s1 c s2,jT st es ks s1→kG s1 c s2→fP es ks c
theorem pY.small {st:Option (List UInt8)} (hl:(leftOf st).length≤6000):pY st:=fun _ _ _ _ _ h1 h2=>both_ok h1 h2 hl
theorem pY.ok {st s:Option (List UInt8)} {es:List aG} {ks:aH} {c:aW} (hf:pY st) (h:kY st es ks c s):fP es ks c:=by
 rcases h with⟨r,rfl,hr,rfl⟩|⟨rfl,rfl,rfl,rfl,_⟩
 ·exact hf es ks (some (jS c++r)) c (some r) (.inl ⟨jS c++r,by unfold jf;rw[List.append_assoc],hr.tree,rfl⟩) (.inl ⟨r,rfl,hr.ctx,rfl⟩)
 ·exact⟨JM,Nat.zero_le _,(fun s hs=>by cases hs),Nat.zero_le _⟩
theorem pY.known {es:List aG} {ks:aH} {c:aW} {r:List UInt8} (h:fG es ks c) (hk:fP es ks c):pY (some (jf es ks c++r)):=fun es' ks' s1 c' s2 h1 h2=>by
 obtain⟨rfl,rfl,rfl,-⟩:=PV h1 h2 rfl h
 exact hk
theorem CZ (Q:Nat→Prop) (w:World):fC Q w (.slice none 0 0) 0 []:=⟨.inl ⟨none,rfl,rfl,rfl⟩,fun h=>absurd rfl h⟩
def iw (Q:Nat→Prop) (w:World) (v:Value) (c:aW):Prop:=fC Q w v c.length (eu c)
theorem iw.aO {Q:Nat→Prop} {w w':World} {v:Value} {c:aW} (h:iw Q w v c) (f:aj ay w w'):iw Q w' v c:=fC.keep h f fun _ _ h=>h.elim
theorem iw.at_ {Q:Nat→Prop} {w:World} {v:Value} {c:aW} (h:iw Q w v c):fZ w v c:=fC.rd h
def Ql (es:List aG) (ks:aH) (c:aW) (s:Option (List UInt8)) (ib:Nat) (w:World) (e:Ending) (w':World):Prop:=
 ∃ev kv cv,e= .returned (.agg #[ev,kv,cv])∧bQ (fun b=>w.heap.size≤b) w' ev kv es ks∧iw (fun b=>w.heap.size≤b) w' cv c∧cu w' ib s∧aj (Only ib) w w'
theorem JQ {Q:Nat→Prop} {w ww w':World} {ib:Nat} {s:Option (List UInt8)} {e2 k2 c2:Value} {es2:List aG} {qR:aH} {c:aW}
 (hin:cu ww ib s) (hib:ib<w.heap.size) (hf:aj (Only ib) w ww) (ht:bQ Q ww e2 k2 es2 qR) (hc:iw Q ww c2 c) (hq:∀b,Q b→w.heap.size≤b∧b≠w.heap.size) (hts:aj (fun b=>b=w.heap.size) ww w'):
 Ql es2 qR c s ib w (.returned (.agg #[e2,k2,c2])) w':=
 ⟨e2,k2,c2,rfl,ht.turn fun b hb hQ=>⟨hts.block b hb (hq b hQ).2,(hq b hQ).1⟩,(fC.turn hc (Q':=fun b=>w.heap.size≤b) fun b hb hQ=>⟨hts.block b hb (hq b hQ).2,(hq b hQ).1⟩),hin.keep hts fun j hj hs=>by have hs:j=w.heap.size:=hs;omega,hf.trans hts fun i hi hs=>by have hs:i=w.heap.size:=hs;omega⟩
theorem JR (w:World) (b:Nat) (u u' u2:Value):aj (Only b) w (((w.setCell ⟨b,0,none⟩ u).setCell ⟨b,1,none⟩ u').setCell ⟨b,2,none⟩ u2):=((eG w b 0 u).trans (eG _ b 1 u') fun _ _ h=>h).trans (eG _ b 2 u2) fun _ _ h=>h
theorem Aj (ib:Nat) (st s:Option (List UInt8)) (es:List aG) (ks:aH) (c:aW) (w:World) (hc:kY st es ks c s) (h:cu w ib st) (hl:(leftOf st).length≤60000) (hfit:pY st):
 Calls Tryz.prog 60 #[.pointer (some ⟨ib,0,none⟩)] w (Ql es ks c s ib w):=by
 have hib:=h.lt
 have hno:¬Only ib w.heap.size:=fun h=>by have h:w.heap.size=ib:=h;omega
 have dK:=ah hno;clear hno
 have HB0:=ah (heap_alloc_new w (.cells #[.slice none 0 0, .slice none 0 0, .slice none 0 0] 34))
 have HI0:=ah (h.keep (aj.alloc ay w (.cells #[.slice none 0 0, .slice none 0 0, .slice none 0 0] 34)) fun _ _=>id)
 have lS:=ah hib;clear hib
 have nU:=ah ((aj.alloc ay w (.cells #[.slice none 0 0, .slice none 0 0, .slice none 0 0] 34)).mono (T:=Only ib) fun _ _ h=>h.elim)
 have CY:=ah (show(w.alloc (.cells #[.slice none 0 0, .slice none 0 0, .slice none 0 0] 34)).heap.size=w.heap.size+1 by simp)
 clear h
 obtain⟨es1,C_,s1,ht1⟩:=jT.total st
 obtain⟨c1,s2,hc1⟩:=kG.total s1
 have hok:=hfit _ _ _ _ _ ht1 hc1
 have hl1:=ht1.sizes
 have HG:=ah (Yv ht1 ib _ HI0.out (by omega))
 have HC:=ah (fun W (h:cu W ib s1)=>Yw hc1 ib W h (by omega))
 have eF:=ah (fun W Q ev kv cv (h:fH Q W ev kv cv es1 C_ c1)=>yO Q es1 C_ c1 W ev kv cv h hok)
 clear hok hl1 hfit
 cases s2 with
 |some r=>
  by_cases hr:fG es1 C_ c1
  ·rw[bZ hr]at eF
   obtain⟨⟨⟨rfl,rfl⟩,rfl⟩,rfl⟩:=hc.bY (X_ ht1 hc1 hr)
   clear hc hr ht1 hc1
   go_enter Tryz.func60,Tryz.ntmps60
   go_wp2_with(first
    |(go_at_call 125;refine HG.out.mono ?_;rintro e w1 ⟨ev,kv,rfl,hta,hi1,hf1⟩;obtain⟨a3,c3,rfl⟩:=hta.ents.rd.sl;obtain⟨os3,fU,-⟩:=hta.kids;obtain⟨a4,c4,rfl⟩:=fU.rd.sl;clear fU
      have HB1:=ah (hf1.blk HB0.out dK.out)
      have dM:=ah hta;clear hta
      have HI1:=ah hi1;clear hi1
      have bH:=ah hf1;clear hf1)
    |(go_at_call 126;refine(HC.out _ HI1.out).mono ?_;rintro e w2 ⟨cv,rfl,hrc,hi2,hf2⟩;obtain⟨a5,c5,rfl⟩:=hrc.rd.sl
      have HB2:=ah (hf2.blk HB1.out dK.out)
      have Ak:=ah (dM.out.turn (Q':=fun b=>(w.alloc (.cells #[.slice none 0 0, .slice none 0 0, .slice none 0 0] 34)).heap.size≤b) fun b hb hQ=>⟨hf2.block b hb fun hs=>by have hs:b=ib:=hs;have:=lS.out;have:=CY.out;omega,hQ⟩)
      have jh:=ah (show iw (fun b=>(w.alloc (.cells #[.slice none 0 0, .slice none 0 0, .slice none 0 0] 34)).heap.size≤b) w2 (.slice a5 c.length c5) c from hrc.turn fun b hb hQ=>⟨rfl,Nat.le_trans bH.out.size hQ⟩);clear hrc
      have HI2:=ah hi2;clear hi2
      have HF2:=ah ((nU.out.trans bH.out fun _ _ h=>h).trans hf2 fun _ _ h=>h)
      clear hf2
      generalize es.length=n at*
      generalize ks.len=m at*
      generalize c.length=k at*
      have HA2:=ah (aj.alloc ay w2 (.cells #[.slice a3 n c3, .slice a4 m c4, .slice a5 k c5] 34))
      have Yx:=ah (heap_alloc_new w2 (.cells #[.slice a3 n c3, .slice a4 m c4, .slice a5 k c5] 34)))
    |(go_at_call 58;refine(mO ib _ _ (HI2.out.keep HA2.out fun _ _=>id)).mono ?_;rintro e w9 ⟨rfl,rfl⟩)
    |(go_at_call 93;refine(eF.out _ _ _ _ _ ⟨Ak.out.aO HA2.out,(jh.out.aO HA2.out).at_⟩).mono ?_;rintro e w3 ⟨rfl,hf3⟩
      have hx3:=hf3.blk Yx.out id
      have z0:=aC hx3 0 rfl
      have z1:=aC hx3 1 rfl
      have z2:=aC hx3 2 rfl
      have hb3:=hf3.blk (HA2.out.blk HB2.out id) id
      have y0:=aC hb3 0 rfl
      have y1:=aC hb3 1 rfl
      have y2:=aC hb3 2 rfl
      have f0:=bf hb3 0
      have f1:=bf hb3 1
      have f2:=bf hb3 2
      have hl2:=lt_of_block hb3
      have hl3:=lt_of_block hx3
      have HB3:=ah hb3
      have HF3:=ah (HA2.out.au hf3)
      clear hf3 hx3 hb3))
   clear y0 y1 y2 z0 z1 z2
   have y0:=aC (bJ (bJ (bJ HB3.out 0 (.slice a3 n c3)) 1 (.slice a4 m c4)) 2 (.slice a5 k c5)) 0 rfl
   have y1:=aC (bJ (bJ (bJ HB3.out 0 (.slice a3 n c3)) 1 (.slice a4 m c4)) 2 (.slice a5 k c5)) 1 rfl
   have y2:=aC (bJ (bJ (bJ HB3.out 0 (.slice a3 n c3)) 1 (.slice a4 m c4)) 2 (.slice a5 k c5)) 2 rfl
   have hts:=JR w3 w.heap.size (.slice a3 n c3) (.slice a4 m c4) (.slice a5 k c5)
   exact bodyPost_ret (v:= .agg #[.slice a3 n c3, .slice a4 m c4, .slice a5 k c5]) (by simp[results,Tryz.results60,go_sem,y0,y1,y2]) rfl (JQ (HI2.out.keep HF3.out fun _ _=>id) lS.out (HF2.out.trans HF3.out fun _ _ h=>h.elim) (Ak.out.aO HF3.out) (jh.out.aO HF3.out) (fun b h=>by have:=CY.out;have h:(w.alloc (.cells #[.slice none 0 0, .slice none 0 0, .slice none 0 0] 34)).heap.size≤b:=h;omega) hts)
  ·rw[aZ hr]at eF
   obtain⟨⟨⟨rfl,rfl⟩,rfl⟩,rfl⟩:=hc.bY (PW ht1 hc1 (.inr hr))
   clear hc hr ht1 hc1
   go_enter Tryz.func60,Tryz.ntmps60
   go_wp2_with(first
    |(go_at_call 125;refine HG.out.mono ?_;rintro e w1 ⟨ev,kv,rfl,hta,hi1,hf1⟩;obtain⟨a3,c3,rfl⟩:=hta.ents.rd.sl;obtain⟨os3,fU,-⟩:=hta.kids;obtain⟨a4,c4,rfl⟩:=fU.rd.sl;clear fU
      have HB1:=ah (hf1.blk HB0.out dK.out)
      have dM:=ah hta;clear hta
      have HI1:=ah hi1;clear hi1
      have bH:=ah hf1;clear hf1)
    |(go_at_call 126;refine(HC.out _ HI1.out).mono ?_;rintro e w2 ⟨cv,rfl,hrc,hi2,hf2⟩;obtain⟨a5,c5,rfl⟩:=hrc.rd.sl
      have HB2:=ah (hf2.blk HB1.out dK.out)
      have Ak:=ah (dM.out.turn (Q':=fun b=>(w.alloc (.cells #[.slice none 0 0, .slice none 0 0, .slice none 0 0] 34)).heap.size≤b) fun b hb hQ=>⟨hf2.block b hb fun hs=>by have hs:b=ib:=hs;have:=lS.out;have:=CY.out;omega,hQ⟩)
      have jh:=ah (show iw (fun b=>(w.alloc (.cells #[.slice none 0 0, .slice none 0 0, .slice none 0 0] 34)).heap.size≤b) w2 (.slice a5 c1.length c5) c1 from hrc.turn fun b hb hQ=>⟨rfl,Nat.le_trans bH.out.size hQ⟩);clear hrc
      have HI2:=ah hi2;clear hi2
      have HF2:=ah ((nU.out.trans bH.out fun _ _ h=>h).trans hf2 fun _ _ h=>h)
      clear hf2
      generalize es1.length=n at*
      generalize C_.len=m at*
      generalize c1.length=k at*
      have HA2:=ah (aj.alloc ay w2 (.cells #[.slice a3 n c3, .slice a4 m c4, .slice a5 k c5] 34)))
    |(go_at_call 58;refine(mO ib _ _ (HI2.out.keep HA2.out fun _ _=>id)).mono ?_;rintro e w9 ⟨rfl,rfl⟩)
    |(go_at_call 93;refine(eF.out _ _ _ _ _ ⟨Ak.out.aO HA2.out,(jh.out.aO HA2.out).at_⟩).mono ?_;rintro e w3 ⟨rfl,hf3⟩;have HF3:=ah (HA2.out.au hf3);clear hf3)
    |(go_at_call 123;obtain⟨a,c,hh⟩:=(HI2.out.keep HF3.out fun _ _=>id).heap;refine(ni ib _ _ w3 hh).mono ?_;rintro e w4 ⟨rfl,hi4,hf4⟩
      have HI4:=ah (show cu w4 ib none from hi4);clear hi4 hh
      have hb3:=hf4.blk (HF3.out.blk HB2.out id) dK.out
      have y0:=aC hb3 0 rfl
      have y1:=aC hb3 1 rfl
      have y2:=aC hb3 2 rfl
      have f0:=bf hb3 0
      have f1:=bf hb3 1
      have f2:=bf hb3 2
      have hl2:=lt_of_block hb3
      have HB3:=ah hb3
      have iL:=ah ((HF2.out.trans HF3.out fun _ _ h=>h.elim).trans hf4 fun _ _ h=>h)
      clear hf4 hb3))
   clear y0 y1 y2
   have y0:=aC (bJ (bJ (bJ HB3.out 0 (.slice none 0 0)) 1 (.slice none 0 0)) 2 (.slice none 0 0)) 0 rfl
   have y1:=aC (bJ (bJ (bJ HB3.out 0 (.slice none 0 0)) 1 (.slice none 0 0)) 2 (.slice none 0 0)) 1 rfl
   have y2:=aC (bJ (bJ (bJ HB3.out 0 (.slice none 0 0)) 1 (.slice none 0 0)) 2 (.slice none 0 0)) 2 rfl
   have hts:=JR w4 w.heap.size (.slice none 0 0) (.slice none 0 0) (.slice none 0 0)
   exact bodyPost_ret (v:= .agg #[.slice none 0 0, .slice none 0 0, .slice none 0 0]) (by simp[results,Tryz.results60,go_sem,y0,y1,y2]) rfl (JQ (c:=[]) HI4.out lS.out iL.out (yS (fun b=>w.heap.size≤b∧b≠w.heap.size) w4) (CZ _ _) (fun b h=>h) hts)
 |none=>
  obtain⟨⟨⟨rfl,rfl⟩,rfl⟩,rfl⟩:=hc.bY (PW ht1 hc1 (.inl rfl))
  clear hc ht1 hc1 eF
  go_enter Tryz.func60,Tryz.ntmps60
  go_wp2_with(first
   |(go_at_call 125;refine HG.out.mono ?_;rintro e w1 ⟨ev,kv,rfl,hta,hi1,hf1⟩;obtain⟨a3,c3,rfl⟩:=hta.ents.rd.sl;obtain⟨os3,fU,-⟩:=hta.kids;obtain⟨a4,c4,rfl⟩:=fU.rd.sl;clear fU hta
     have HB1:=ah (hf1.blk HB0.out dK.out)
     have HI1:=ah hi1;clear hi1
     have bH:=ah hf1;clear hf1)
   |(go_at_call 126;refine(HC.out _ HI1.out).mono ?_;rintro e w2 ⟨cv,rfl,hrc,hi2,hf2⟩;obtain⟨a5,c5,rfl⟩:=hrc.rd.sl;clear hrc
     have HB2:=ah (hf2.blk HB1.out dK.out)
     have HI2:=ah hi2;clear hi2
     have HF2:=ah ((nU.out.trans bH.out fun _ _ h=>h).trans hf2 fun _ _ h=>h)
     clear hf2
     generalize es1.length=n at*
     generalize C_.len=m at*
     generalize c1.length=k at*
     have HA2:=ah (aj.alloc ay w2 (.cells #[.slice a3 n c3, .slice a4 m c4, .slice a5 k c5] 34)))
   |(go_at_call 58;refine(mO ib _ _ (HI2.out.keep HA2.out fun _ _=>id)).mono ?_;rintro e w9 ⟨rfl,rfl⟩)
   |(go_at_call 123;obtain⟨a,c,hh⟩:=(HI2.out.keep HA2.out fun _ _=>id).heap;refine(ni ib _ _ _ hh).mono ?_;rintro e w4 ⟨rfl,hi4,hf4⟩
     have HI4:=ah (show cu w4 ib none from hi4);clear hi4 hh
     have hb3:=hf4.blk (HA2.out.blk HB2.out id) dK.out
     have y0:=aC hb3 0 rfl
     have y1:=aC hb3 1 rfl
     have y2:=aC hb3 2 rfl
     have f0:=bf hb3 0
     have f1:=bf hb3 1
     have f2:=bf hb3 2
     have hl2:=lt_of_block hb3
     have HB3:=ah hb3
     have iL:=ah ((HF2.out.trans HA2.out fun _ _ h=>h.elim).trans hf4 fun _ _ h=>h)
     clear hf4 hb3))
  clear y0 y1 y2
  have y0:=aC (bJ (bJ (bJ HB3.out 0 (.slice none 0 0)) 1 (.slice none 0 0)) 2 (.slice none 0 0)) 0 rfl
  have y1:=aC (bJ (bJ (bJ HB3.out 0 (.slice none 0 0)) 1 (.slice none 0 0)) 2 (.slice none 0 0)) 1 rfl
  have y2:=aC (bJ (bJ (bJ HB3.out 0 (.slice none 0 0)) 1 (.slice none 0 0)) 2 (.slice none 0 0)) 2 rfl
  have hts:=JR w4 w.heap.size (.slice none 0 0) (.slice none 0 0) (.slice none 0 0)
  exact bodyPost_ret (v:= .agg #[.slice none 0 0, .slice none 0 0, .slice none 0 0]) (by simp[results,Tryz.results60,go_sem,y0,y1,y2]) rfl (JQ (c:=[]) HI4.out lS.out iL.out (yS (fun b=>w.heap.size≤b∧b≠w.heap.size) w4) (CZ _ _) (fun b h=>h) hts)
open Go.RowKit
def tV (a b:aW) (k:Nat):Prop:=∀j,j<k→a.getD j (0,0,0)=b.getD j (0,0,0)
theorem tV.all {a b:aW} (hl:a.length=b.length) (h:tV a b a.length):a=b:=by
 refine List.ext_getElem hl fun j h1 h2=>?_
 have:=h j h1
 rwa [getD_at _ h1,getD_at _ h2]at this
theorem tV.step {a b:aW} {k:Nat} (h:tV a b k) (he:a.getD k (0,0,0)=b.getD k (0,0,0)):tV a b (k+1):=fun j hj=>by
 rcases Nat.lt_succ_iff_lt_or_eq.1 hj with hj|rfl
 ·exact h j hj
 ·exact he
theorem Qm (w:World) (va vb:Value) (a b:aW) (ha:fZ w va a) (hb:fZ w vb b) (la:a.length≤100000) (lb:b.length≤100000):
 Calls Tryz.prog 84 #[va,vb] w fun e w'=>e= .returned (.bool (decide (a=b)))∧aj ay w w':=by
 obtain⟨aA,cA,rfl⟩:=ha.sl
 obtain⟨aB,cB,rfl⟩:=hb.sl
 by_cases hab:a.length=b.length
 rotate_left 1
 ·have hne:decide (a=b)=false:=by rw[decide_eq_false_iff_not];intro h;exact hab (by rw[h])
  rw[hne]
  clear hne ha hb
  generalize a.length=n at*
  generalize b.length=m at*
  have hz:((n:Int)==(m:Int))=false:=by simp;omega
  go_enter Tryz.func84,Tryz.ntmps84
  go_wp2
  go_ret
  exact⟨rfl,aj.refl _ _⟩
 have HAB:=ah hab
 rw[←hab]at lb
 have hb2:fZ w (.slice aB a.length cB) b:=by rw[hab];exact hb
 have HA:=ah ha;clear ha
 have HB:=ah hb2;clear hb hb2
 clear hab lb
 have hbl:b.length=a.length:=HAB.out.symm
 rw[hbl]
 clear hbl
 generalize hn:a.length=n at*
 have HN:=ah hn;clear hn
 go_enter Tryz.func84,Tryz.ntmps84
 go_wp2
 go_loopw [13] (fun i ww=>∃k:Nat,k≤n∧i= .int .i64 k∧tV a b k∧aj ay w ww) (fun i _=>n-(intOf i).toNat)
 case atStart=>exact⟨0,Nat.zero_le _,rfl,(fun j hj=>absurd hj (Nat.not_lt_zero _)),aj.refl _ _⟩
 case round=>
  obtain⟨k,hk,rfl,hlk,hf⟩:=hrel
  have pF:=ah hlk;clear hlk
  have HF:=ah hf;clear hf
  by_cases hlt:k<n
  ·have hka:k<a.length:=by rw[HN.out];exact hlt
   have hkb:k<b.length:=by rw[←HAB.out];exact hlt
   rcases Rd.shape HA.out with⟨ad,he,h0⟩|⟨o1,off1,FD,he,hmax⟩
   ·exfalso;have:=HN.out;omega
   rcases Rd.shape HB.out with⟨ad,he2,h0⟩|⟨o2,off2,mF,he2,yF⟩
   ·exfalso;have:=HN.out;have:=HAB.out;omega
   injection he with e1 e2 e3
   injection he2 with e4 e5 e6
   subst e1 e3 e4 e6
   clear e2 e5
   obtain⟨p0,p1,p2⟩:=vM HA.out (by rw[HN.out]) k hka
   obtain⟨q0,q1,q2⟩:=vM HB.out HAB.out k hkb
   have p0:=HF.out.cell' p0 id
   have p1:=HF.out.cell' p1 id
   have p2:=HF.out.cell' p2 id
   have q0:=HF.out.cell' q0 id
   have q1:=HF.out.cell' q1 id
   have q2:=HF.out.cell' q2 id
   have hst:a.getD k (0,0,0)=b.getD k (0,0,0)→tV a b (k+1):=pF.out.step
   have HST:=ah hst;clear hst
   have hno:a.getD k (0,0,0)≠b.getD k (0,0,0)→a≠b:=fun h e=>h (by rw[e])
   have dK:=ah hno;clear hno
   generalize a.getD k (0,0,0)=s at*
   generalize b.getD k (0,0,0)=t at*
   by_cases hst:s=t
   ·subst hst
    go_wp2_with fail
    go_quiet (fail)
    go_wp2
    go_roundw
    case rel=>exact⟨k+1,by omega,by go_num,HST.out (by trivial),HF.out.iH⟩
    case measure=>simp[intOf];omega
   ·have kQ:=ah (show false=decide (a=b)from by symm;rw[decide_eq_false_iff_not];exact dK.out hst)
    obtain⟨s0,s1,s2⟩:=s
    obtain⟨t0,t1,t2⟩:=t
    clear HST dK
    dsimp only at p0 p1 p2 q0 q1 q2
    by_cases g0:s0=t0
    ·subst g0
     by_cases g1:s1=t1
     ·subst g1
      have g2:s2≠t2:=fun h=>hst (by rw[h])
      clear hst
      have gb:((s2:Int)==t2)=false:=by simpa using g2
      go_wp2_with fail
      go_quiet (fail)
      go_wp2
      go_ret
      exact⟨bP kQ.out,HF.out.iH⟩
     ·clear hst
      have gb:((s1:Int)==t1)=false:=by simpa using g1
      go_wp2_with fail
      go_quiet (fail)
      go_wp2
      go_ret
      exact⟨bP kQ.out,HF.out.iH⟩
    ·clear hst
     have gb:((s0:Int)==t0)=false:=by simpa using g0
     go_wp2_with fail
     go_quiet (fail)
     go_wp2
     go_ret
     exact⟨bP kQ.out,HF.out.iH⟩
  ·obtain rfl:n=k:=by omega
   have heq:decide (a=b)=true:=by rw[decide_eq_true_iff];exact tV.all (HN.out.trans HAB.out) (by rw[HN.out];exact pF.out)
   have tX:=ah heq;clear heq
   go_wp2
   go_ret
   exact⟨bP tX.out.symm,HF.out⟩
open Go.RowKit
def tY (a b:List aG) (k:Nat):Prop:=∀j,j<k→a.getD j aG.zero=b.getD j aG.zero
theorem tY.all {a b:List aG} (hl:a.length=b.length) (h:tY a b a.length):a=b:=by
 refine List.ext_getElem hl fun j h1 h2=>?_
 have:=h j h1
 rwa [getD_at _ h1,getD_at _ h2]at this
theorem tY.step {a b:List aG} {k:Nat} (h:tY a b k) (he:a.getD k aG.zero=b.getD k aG.zero):tY a b (k+1):=fun j hj=>by
 rcases Nat.lt_succ_iff_lt_or_eq.1 hj with hj|rfl
 ·exact h j hj
 ·exact he
theorem Yy (w:World) (va vb:Value) (a b:aW) (ha:fZ w va a) (hb:fZ w vb b) (la:a.length≤100000) (lb:b.length≤100000):
 Calls Tryz.prog 158 #[va,vb] w fun e w'=>e= .returned (.bool (decide (a=b)))∧aj ay w w':=by
 obtain⟨aA,cA,rfl⟩:=ha.sl
 obtain⟨aB,cB,rfl⟩:=hb.sl
 by_cases hab:a.length=b.length
 rotate_left 1
 ·have hne:decide (a=b)=false:=by rw[decide_eq_false_iff_not];intro h;exact hab (by rw[h])
  rw[hne]
  clear hne ha hb
  generalize a.length=n at*
  generalize b.length=m at*
  have hz:((n:Int)==(m:Int))=false:=by simp;omega
  go_enter Tryz.func158,Tryz.ntmps158
  go_wp2
  go_ret
  exact⟨rfl,aj.refl _ _⟩
 have HAB:=ah hab
 rw[←hab]at lb
 have hb2:fZ w (.slice aB a.length cB) b:=by rw[hab];exact hb
 have HA:=ah ha;clear ha
 have HB:=ah hb2;clear hb hb2
 clear hab lb
 have hbl:b.length=a.length:=HAB.out.symm
 rw[hbl]
 clear hbl
 generalize hn:a.length=n at*
 have HN:=ah hn;clear hn
 go_enter Tryz.func158,Tryz.ntmps158
 go_wp2
 go_loopw [13] (fun i ww=>∃k:Nat,k≤n∧i= .int .i64 k∧tV a b k∧aj ay w ww) (fun i _=>n-(intOf i).toNat)
 case atStart=>exact⟨0,Nat.zero_le _,rfl,(fun j hj=>absurd hj (Nat.not_lt_zero _)),aj.refl _ _⟩
 case round=>
  obtain⟨k,hk,rfl,hlk,hf⟩:=hrel
  have pF:=ah hlk;clear hlk
  have HF:=ah hf;clear hf
  by_cases hlt:k<n
  ·have hka:k<a.length:=by rw[HN.out];exact hlt
   have hkb:k<b.length:=by rw[←HAB.out];exact hlt
   rcases Rd.shape HA.out with⟨ad,he,h0⟩|⟨o1,off1,FD,he,hmax⟩
   ·exfalso;have:=HN.out;omega
   rcases Rd.shape HB.out with⟨ad,he2,h0⟩|⟨o2,off2,mF,he2,yF⟩
   ·exfalso;have:=HN.out;have:=HAB.out;omega
   injection he with e1 e2 e3
   injection he2 with e4 e5 e6
   subst e1 e3 e4 e6
   clear e2 e5
   obtain⟨p0,p1,p2⟩:=vM HA.out (by rw[HN.out]) k hka
   obtain⟨q0,q1,q2⟩:=vM HB.out HAB.out k hkb
   have p0:=HF.out.cell' p0 id
   have p1:=HF.out.cell' p1 id
   have p2:=HF.out.cell' p2 id
   have q0:=HF.out.cell' q0 id
   have q1:=HF.out.cell' q1 id
   have q2:=HF.out.cell' q2 id
   have hst:a.getD k (0,0,0)=b.getD k (0,0,0)→tV a b (k+1):=pF.out.step
   have HST:=ah hst;clear hst
   have hno:a.getD k (0,0,0)≠b.getD k (0,0,0)→a≠b:=fun h e=>h (by rw[e])
   have dK:=ah hno;clear hno
   generalize a.getD k (0,0,0)=s at*
   generalize b.getD k (0,0,0)=t at*
   by_cases hst:s=t
   ·subst hst
    go_wp2_with fail
    go_quiet (fail)
    go_wp2
    go_roundw
    case rel=>exact⟨k+1,by omega,by go_num,HST.out (by trivial),HF.out.iH⟩
    case measure=>simp[intOf];omega
   ·have kQ:=ah (show false=decide (a=b)from by symm;rw[decide_eq_false_iff_not];exact dK.out hst)
    obtain⟨s0,s1,s2⟩:=s
    obtain⟨t0,t1,t2⟩:=t
    clear HST dK
    dsimp only at p0 p1 p2 q0 q1 q2
    by_cases g0:s0=t0
    ·subst g0
     by_cases g1:s1=t1
     ·subst g1
      have g2:s2≠t2:=fun h=>hst (by rw[h])
      clear hst
      have gb:((s2:Int)==t2)=false:=by simpa using g2
      go_wp2_with fail
      go_quiet (fail)
      go_wp2
      go_ret
      exact⟨bP kQ.out,HF.out.iH⟩
     ·clear hst
      have gb:((s1:Int)==t1)=false:=by simpa using g1
      go_wp2_with fail
      go_quiet (fail)
      go_wp2
      go_ret
      exact⟨bP kQ.out,HF.out.iH⟩
    ·clear hst
     have gb:((s0:Int)==t0)=false:=by simpa using g0
     go_wp2_with fail
     go_quiet (fail)
     go_wp2
     go_ret
     exact⟨bP kQ.out,HF.out.iH⟩
  ·obtain rfl:n=k:=by omega
   have heq:decide (a=b)=true:=by rw[decide_eq_true_iff];exact tV.all (HN.out.trans HAB.out) (by rw[HN.out];exact pF.out)
   have tX:=ah heq;clear heq
   go_wp2
   go_ret
   exact⟨bP tX.out.symm,HF.out⟩
theorem Yz (w:World) (va vb:Value) (a b:List aG) (ha:Rd w va a.length (iY a)) (hb:Rd w vb b.length (iY b)) (la:a.length≤100000) (lb:b.length≤100000):
 Calls Tryz.prog 202 #[va,vb] w fun e w'=>e= .returned (.bool (tf (a=b)))∧aj ay w w':=by
 obtain⟨aA,cA,rfl⟩:=ha.sl
 obtain⟨aB,cB,rfl⟩:=hb.sl
 by_cases hab:a.length=b.length
 rotate_left 1
 ·have hne:tf (a=b)=false:=by exact aZ fun h=>hab (by rw[h])
  rw[hne]
  clear hne ha hb
  generalize a.length=n at*
  generalize b.length=m at*
  have hz:((n:Int)==(m:Int))=false:=by simp;omega
  go_enter Tryz.func202,Tryz.ntmps202
  go_wp2
  go_ret
  exact⟨rfl,aj.refl _ _⟩
 have HAB:=ah hab
 rw[←hab]at lb
 have hb2:Rd w (.slice aB a.length cB) a.length (iY b):=by rw[hab];exact hb
 have HA:=ah ha;clear ha
 have HB:=ah hb2;clear hb hb2
 clear hab lb
 have hbl:b.length=a.length:=HAB.out.symm
 rw[hbl]
 clear hbl
 generalize hn:a.length=n at*
 have HN:=ah hn;clear hn
 go_enter Tryz.func202,Tryz.ntmps202
 go_wp2
 go_loopw [13] (fun i ww=>∃k:Nat,k≤n∧i= .int .i64 k∧tY a b k∧aj ay w ww) (fun i _=>n-(intOf i).toNat)
 case atStart=>exact⟨0,Nat.zero_le _,rfl,(fun j hj=>absurd hj (Nat.not_lt_zero _)),aj.refl _ _⟩
 case round=>
  obtain⟨k,hk,rfl,hlk,hf⟩:=hrel
  have pF:=ah hlk;clear hlk
  have HF:=ah hf;clear hf
  by_cases hlt:k<n
  ·have hka:k<a.length:=by rw[HN.out];exact hlt
   have hkb:k<b.length:=by rw[←HAB.out];exact hlt
   rcases Rd.shape HA.out with⟨ad,he,h0⟩|⟨o1,off1,FD,he,hmax⟩
   ·exfalso;have:=HN.out;omega
   rcases Rd.shape HB.out with⟨ad,he2,h0⟩|⟨o2,off2,mF,he2,yF⟩
   ·exfalso;have:=HN.out;have:=HAB.out;omega
   injection he with e1 e2 e3
   injection he2 with e4 e5 e6
   subst e1 e3 e4 e6
   clear e2 e5
   obtain⟨p0,p1,p2,p3⟩:=sW HA.out k hka
   obtain⟨q0,q1,q2,q3⟩:=sW HB.out k hkb
   have p0:=HF.out.cell' p0 id
   have p1:=HF.out.cell' p1 id
   have p2:=HF.out.cell' p2 id
   have p3:=HF.out.cell' p3 id
   have q0:=HF.out.cell' q0 id
   have q1:=HF.out.cell' q1 id
   have q2:=HF.out.cell' q2 id
   have q3:=HF.out.cell' q3 id
   have hst:a.getD k aG.zero=b.getD k aG.zero→tY a b (k+1):=pF.out.step
   have HST:=ah hst;clear hst
   have hno:a.getD k aG.zero≠b.getD k aG.zero→a≠b:=fun h e=>h (by rw[e])
   have dK:=ah hno;clear hno
   generalize a.getD k aG.zero=s at*
   generalize b.getD k aG.zero=t at*
   by_cases hst:s=t
   ·subst hst
    go_wp2_with fail
    go_quiet (fail)
    go_wp2
    go_roundw
    case rel=>exact⟨k+1,by omega,by go_num,HST.out (by trivial),HF.out.iH⟩
    case measure=>simp[intOf];omega
   ·have kQ:=ah (show false=tf (a=b)from(aZ (dK.out hst)).symm)
    obtain⟨s0,s1,s2,s3⟩:=s
    obtain⟨t0,t1,t2,t3⟩:=t
    clear HST dK
    dsimp only at p0 p1 p2 p3 q0 q1 q2 q3
    by_cases g0:s0=t0
    ·subst g0
     by_cases g1:s1=t1
     ·subst g1
      by_cases g2:s2=t2
      ·subst g2
       have g3:s3≠t3:=fun h=>hst (by rw[h])
       clear hst
       have gb:((s3:Int)==t3)=false:=by simpa using g3
       go_wp2_with fail
       go_quiet (fail)
       go_wp2
       go_ret
       exact⟨bP kQ.out,HF.out.iH⟩
      ·clear hst
       have gb:¬s2.toList=t2.toList:=fun h=>g2 (by rw[ByteArray.toList_eq,ByteArray.toList_eq]at h;exact ByteArray.ext (Array.toList_inj.1 h))
       go_wp2_with fail
       go_quiet (fail)
       go_wp2
       go_ret
       exact⟨bP kQ.out,HF.out.iH⟩
     ·clear hst
      have gb:((s1:Int)==t1)=false:=by simpa using g1
      go_wp2_with fail
      go_quiet (fail)
      go_wp2
      go_ret
      exact⟨bP kQ.out,HF.out.iH⟩
    ·clear hst
     have gb:((s0:Int)==t0)=false:=by simpa using g0
     go_wp2_with fail
     go_quiet (fail)
     go_wp2
     go_ret
     exact⟨bP kQ.out,HF.out.iH⟩
  ·obtain rfl:n=k:=by omega
   have heq:tf (a=b)=true:=bZ (tY.all (HN.out.trans HAB.out) (by rw[HN.out];exact pF.out))
   have tX:=ah heq;clear heq
   go_wp2
   go_ret
   exact⟨bP tX.out.symm,HF.out⟩
open Go.RowKit
theorem JU {s t:ByteArray} (h:¬s=t):¬s.toList=t.toList:=fun e=>h (by rw[ByteArray.toList_eq,ByteArray.toList_eq]at e;exact ByteArray.ext (Array.toList_inj.1 e))
theorem JV (w:World) (a0 a1 b0 b1:Value) (T:TypeId) (W:World) (f:aj ay ((w.alloc (.cells #[a0,a1] T)).alloc (.cells #[b0,b1] T)) W):
 W.cell? ⟨w.heap.size,0,none⟩=some a0∧W.cell? ⟨w.heap.size,1,none⟩=some a1∧W.cell? ⟨w.heap.size+1,0,none⟩=some b0∧W.cell? ⟨w.heap.size+1,1,none⟩=some b1:=by
 obtain⟨h1,_,_⟩:=sZ w (.cells #[a0,a1] T) #[b0,b1] T
 have h0:((w.alloc (.cells #[a0,a1] T)).alloc (.cells #[b0,b1] T)).heap[w.heap.size]?=some (.cells #[a0,a1] T (0,0)):=(aj.alloc ay _ _).blk (heap_alloc_new w _) id
 exact⟨f.cell' (aC h0 0 rfl) id,f.cell' (aC h0 1 rfl) id,f.cell' (aC h1 0 rfl) id,f.cell' (aC h1 1 rfl) id⟩
theorem Am (w:World) (a0 a1 a2 b0 b1 b2:Value) (T:TypeId) (W:World) (f:aj ay ((w.alloc (.cells #[a0,a1,a2] T)).alloc (.cells #[b0,b1,b2] T)) W):
 W.cell? ⟨w.heap.size,0,none⟩=some a0∧W.cell? ⟨w.heap.size,1,none⟩=some a1∧W.cell? ⟨w.heap.size,2,none⟩=some a2∧W.cell? ⟨w.heap.size+1,0,none⟩=some b0∧W.cell? ⟨w.heap.size+1,1,none⟩=some b1∧W.cell? ⟨w.heap.size+1,2,none⟩=some b2:=by
 obtain⟨h1,_,_⟩:=sZ w (.cells #[a0,a1,a2] T) #[b0,b1,b2] T
 have h0:((w.alloc (.cells #[a0,a1,a2] T)).alloc (.cells #[b0,b1,b2] T)).heap[w.heap.size]?=some (.cells #[a0,a1,a2] T (0,0)):=(aj.alloc ay _ _).blk (heap_alloc_new w _) id
 exact⟨f.cell' (aC h0 0 rfl) id,f.cell' (aC h0 1 rfl) id,f.cell' (aC h0 2 rfl) id,f.cell' (aC h1 0 rfl) id,f.cell' (aC h1 1 rfl) id,f.cell' (aC h1 2 rfl) id⟩
theorem YA (key key':ByteArray) (b:Bool) (W:World) (a0 a1 b0 b1:Option Addr) (n m n' m' c0 c1 d0 d1:Nat)
 (HT:∀W',aj ay W W'→Calls Tryz.prog 156 #[.agg #[.slice a0 n c0, .slice a1 m c1], .agg #[.slice b0 n' d0, .slice b1 m' d1]] W' fun e w'=>e= .returned (.bool b)∧aj ay W' w'):
 Calls Tryz.prog 204 #[.agg #[.string key, .slice a0 n c0, .slice a1 m c1], .agg #[.string key', .slice b0 n' d0, .slice b1 m' d1]] W fun e w'=>e= .returned (.bool (tf (key=key')&&b))∧aj ay W w':=by
 have YB:=ah HT;clear HT
 have HF:=ah ((aj.alloc ay W (.cells #[.string key, .slice a0 n c0, .slice a1 m c1] 83)).alloc1 (o:= .cells #[.string key', .slice b0 n' d0, .slice b1 m' d1] 83))
 by_cases hk:key=key'
 ·subst hk
  rw[bZ rfl,Bool.true_and]
  go_enter Tryz.func204,Tryz.ntmps204
  go_wp2_with(go_at_call 156;refine(YB.out _ HF.out).mono ?_;rintro e w1 ⟨rfl,hw1⟩;have HW1:=ah (HF.out.au hw1);clear hw1)
  go_ret
  exact⟨rfl,HW1.out⟩
 ·rw[aZ hk,Bool.false_and]
  have hne:=JU hk
  clear hk
  go_enter Tryz.func204,Tryz.ntmps204
  go_wp2
  go_ret
  exact⟨rfl,HF.out⟩
theorem Qn {ks ks':aH} {k:Nat} {key key':ByteArray} {es es':List aG} {sub sub' rest rest':aH} (h:ks.drop k= .cons key es sub rest) (h':ks'.drop k= .cons key' es' sub' rest'):
 (ks.drop k=ks'.drop k)↔((key=key'∧es=es'∧sub=sub')∧ks.drop (k+1)=ks'.drop (k+1)):=by
 rw[aH.yI k ks h,aH.yI k ks' h',h,h']
 constructor
 ·intro e
  injection e with e1 e2 e3 e4
  exact⟨⟨e1,e2,e3⟩,e4⟩
 ·rintro⟨⟨rfl,rfl,rfl⟩,rfl⟩
  rfl
theorem YC (Q Q':Nat→Prop) (ks ks':aH) (w:World) (kv kv':Value) (os os':List (Value×Value)) (h:Rd w kv ks.len (qJ ks os)) (hf:jI Q w ks os) (h':Rd w kv' ks'.len (qJ ks' os')) (hf':jI Q' w ks' os') (hl:ks.len≤100000) (hl':ks'.len≤100000)
 (HG:∀n key es sub rest key' es' sub' rest',ks.drop n= .cons key es sub rest→ks'.drop n= .cons key' es' sub' rest'→∀W ev kv ev' kv',bQ Q W ev kv es sub→bQ Q' W ev' kv' es' sub'→
   Calls Tryz.prog 204 #[.agg #[.string key,ev,kv], .agg #[.string key',ev',kv']] W fun e w'=>e= .returned (.bool (tf (key=key'∧es=es'∧sub=sub')))∧aj ay W w'):
 Calls Tryz.prog 203 #[kv,kv', .func (.func 204) #[] #[]] w fun e w'=>e= .returned (.bool (tf (ks=ks')))∧aj ay w w':=by
 have eg:∀args w,(callFunc 204 args).run Tryz.prog w= .ok (.enter 204 args) w:=enters_of Tryz.func204 (by kernel_rfl) rfl
 obtain⟨a0,c0,rfl⟩:=h.sl
 obtain⟨a1,c1,rfl⟩:=h'.sl
 have jl:=ah h;clear h
 have kW:=ah hf;clear hf
 have yU:=ah h';clear h'
 have FH:=ah hf';clear hf'
 have ER:=ah HG;clear HG
 by_cases hlen:ks.len=ks'.len
 rotate_left 1
 ·rw[aZ fun e=>hlen (by rw[e])]
  clear jl kW yU FH ER eg
  generalize ks.len=n at*
  generalize ks'.len=m at*
  have hz:((n:Int)==(m:Int))=false:=by simp;omega
  go_enter Tryz.func203,Tryz.ntmps203
  go_wp2
  go_ret
  exact⟨rfl,aj.refl _ _⟩
 have HLEN:=ah hlen.symm
 rw[←hlen]at yU⊢
 clear hlen hl'
 generalize hkl:ks.len=m at*
 have HM:=ah hkl;clear hkl
 go_enter Tryz.func203,Tryz.ntmps203
 go_wp2
 go_loopw [17] (fun i ww=>∃k:Nat,k≤m∧i= .int .i64 k∧(ks=ks'↔ks.drop k=ks'.drop k)∧aj ay w ww) (fun i _=>m-(intOf i).toNat)
 case atStart=>exact⟨0,Nat.zero_le _,rfl,Iff.rfl,aj.refl _ _⟩
 case round=>
  obtain⟨k,hk,rfl,he,hw⟩:=hrel
  have HE:=ah he;clear he
  have HW:=ah hw;clear hw
  by_cases hlt:k<m
  ·obtain⟨key,es,sub,rest,hdr⟩:=aH.rM (n:=k) (ks:=ks) (by rw[HM.out];exact hlt)
   obtain⟨key',es',sub',rest',hdr'⟩:=aH.rM (n:=k) (ks:=ks') (by rw[HLEN.out];exact hlt)
   rcases Rd.shape jl.out with⟨ad,he,h0⟩|⟨b,off,cc,he,hmax⟩
   ·exfalso;omega
   rcases Rd.shape yU.out with⟨ad,he2,h0⟩|⟨b2,off2,mF,he2,yF⟩
   ·exfalso;omega
   injection he with e1 e2 e3
   injection he2 with e4 e5 e6
   subst e1 e3 e4 e6
   clear e2 e5
   obtain⟨ev,kv,p0,p1,p2,hta⟩:=qK (jl.out.aO HW.out) (kW.out.aO HW.out) hdr
   obtain⟨ev',kv',q0,q1,q2,htb⟩:=qK (yU.out.aO HW.out) (FH.out.aO HW.out) hdr'
   have HC:=ah (fun W (f:aj ay wr W)=>ER.out k key es sub rest key' es' sub' rest' hdr hdr' W ev kv ev' kv' (hta.aO f) (htb.aO f))
   have HST:=ah (Qn hdr hdr')
   obtain⟨ae,ce,rfl⟩:=hta.ents.rd.sl
   obtain⟨o3,hk3,-⟩:=hta.kids
   obtain⟨ak,ck,rfl⟩:=hk3.rd.sl
   obtain⟨dW,dX,rfl⟩:=htb.ents.rd.sl
   obtain⟨o4,hk4,-⟩:=htb.kids
   obtain⟨dY,dZ,rfl⟩:=hk4.rd.sl
   clear hk3 hk4 hta htb hdr hdr'
   generalize es.length=n0 at*
   generalize sub.len=m0 at*
   generalize es'.length=n1 at*
   generalize sub'.len=m1 at*
   have bg:=ah ((aj.alloc ay wr (.cells #[.string key, .slice ae n0 ce, .slice ak m0 ck] 83)).alloc1 (o:= .cells #[.string key', .slice dW n1 dX, .slice dY m1 dZ] 83))
   have acQ:b<wr.heap.size:=World.block_lt_of_cell? _ _ p0
   have acR:b2<wr.heap.size:=World.block_lt_of_cell? _ _ q0
   by_cases hy:key=key'∧es=es'∧sub=sub'
   ·rw[bZ hy]at HC
    have HY:=ah hy;clear hy
    go_wp2_with(go_at_call 204;refine(HC.out _ bg.out).mono ?_;rintro e w1 ⟨rfl,hw1⟩;have HW1:=ah (bg.out.au hw1);clear hw1)
    go_roundw
    case rel=>exact⟨k+1,by omega,by go_num,HE.out.trans (HST.out.trans ⟨fun h=>h.2,fun h=>⟨HY.out,h⟩⟩),HW.out.au HW1.out⟩
    case measure=>simp[intOf];omega
   ·rw[aZ hy]at HC
    have HY:=ah hy;clear hy
    go_wp2_with(go_at_call 204;refine(HC.out _ bg.out).mono ?_;rintro e w1 ⟨rfl,hw1⟩;have HW1:=ah (bg.out.au hw1);clear hw1)
    go_ret
    exact⟨bP (aZ fun h=>HY.out (HST.out.1 (HE.out.1 h)).1).symm,HW.out.au HW1.out⟩
  ·obtain rfl:m=k:=by omega
   have hend:ks=ks':=HE.out.2 (by rw[aH.sV (by rw[HM.out];exact Nat.le_refl _),aH.sV (by rw[HLEN.out];exact Nat.le_refl _)])
   have YD:=ah hend;clear hend
   go_wp2
   go_ret
   exact⟨bP (bZ YD.out).symm,HW.out⟩
theorem YE (Q Q':Nat→Prop):∀(N:Nat) (es:List aG) (ks:aH) (es':List aG) (ks':aH) (w:World) (ev kv ev' kv':Value),gW ks<N→bQ Q w ev kv es ks→bQ Q' w ev' kv' es' ks'→sizeT es ks≤100000→sizeT es' ks'≤100000→
 Calls Tryz.prog 156 #[.agg #[ev,kv], .agg #[ev',kv']] w fun e w'=>e= .returned (.bool (tf (es=es'∧ks=ks')))∧aj ay w w':=by
 intro N
 induction N with
 |zero=>intros;exfalso;omega
 |succ N jy=>
  intro es ks es' ks' w ev kv ev' kv' hN ht ht' hsz hsz'
  obtain⟨ae,ce,rfl⟩:=ht.ents.rd.sl
  obtain⟨os,hkr,fD⟩:=ht.kids
  obtain⟨ak,ck,rfl⟩:=hkr.rd.sl
  obtain⟨dW,dX,rfl⟩:=ht'.ents.rd.sl
  obtain⟨os',iK,kX⟩:=ht'.kids
  obtain⟨dY,dZ,rfl⟩:=iK.rd.sl
  have h1:es.length≤100000:=by unfold sizeT at hsz;omega
  have h2:es'.length≤100000:=by unfold sizeT at hsz';omega
  have h3:ks.len≤100000:=by have:=uQ ks;unfold sizeT at hsz;omega
  have h4:ks'.len≤100000:=by have:=uQ ks';unfold sizeT at hsz';omega
  have rP:=ah (fun W (f:aj ay w W)=>Yz W _ _ es es' (ht.ents.rd.aO f) (ht'.ents.rd.aO f) h1 h2)
  have Qo:=ah (fun W (f:aj ay w W)=>YC Q Q' ks ks' W _ _ os os' (hkr.rd.aO f) (fD.aO f) (iK.rd.aO f) (kX.aO f) h3 h4 (fun n key es0 sub rest key' wE sub' rest' hd hd' W ev kv ev' kv' hta htb=>by
   obtain⟨a0,c0,rfl⟩:=hta.ents.rd.sl
   obtain⟨o3,hk3,_⟩:=hta.kids
   obtain⟨a1,c1,rfl⟩:=hk3.rd.sl
   obtain⟨b0,d0,rfl⟩:=htb.ents.rd.sl
   obtain⟨o4,hk4,_⟩:=htb.kids
   obtain⟨b1,d1,rfl⟩:=hk4.rd.sl
   have hss:=uP n hd
   have hst:=xu n hd
   have hst':=xu n hd'
   have:=YA key key' (tf (es0=wE∧sub=sub')) W _ _ _ _ _ _ _ _ _ _ _ _ fun W' f=>jy es0 sub wE sub' W' _ _ _ _ (by omega) (hta.aO f) (htb.aO f) (by unfold sizeT at*;omega) (by unfold sizeT at*;omega)
   have he:(tf (key=key')&&tf (es0=wE∧sub=sub'))=tf (key=key'∧es0=wE∧sub=sub'):=by
    rw[Bool.eq_iff_iff];simp only[Bool.and_eq_true,sG]
   rw[he]at this
   exact this))
  clear hkr iK fD kX ht ht' jy hN hsz hsz' h1 h2 h3 h4
  have bg:=ah ((aj.alloc ay w (.cells #[.slice ae es.length ce, .slice ak ks.len ck] 30)).alloc1 (o:= .cells #[.slice dW es'.length dX, .slice dY ks'.len dZ] 30))
  have aQ:=ah (JV w (.slice ae es.length ce) (.slice ak ks.len ck) (.slice dW es'.length dX) (.slice dY ks'.len dZ) 30)
  by_cases hy:es=es'
  ·rw[bZ hy]at rP
   have hall:tf (es=es'∧ks=ks')=tf (ks=ks'):=kT ⟨fun h=>h.2,fun h=>⟨hy,h⟩⟩
   rw[hall]
   clear hall hy
   generalize tf (ks=ks')=b at*
   generalize es.length=n at*
   generalize ks.len=m at*
   generalize es'.length=n' at*
   generalize ks'.len=m' at*
   go_enter Tryz.func156,Tryz.ntmps156
   go_wp2_with(first
    |(go_at_call 202;refine(rP.out _ bg.out).mono ?_;rintro e w1 ⟨rfl,hw1⟩;obtain⟨y0,y1,y2,y3⟩:=aQ.out w1 hw1;have HW1:=ah (bg.out.au hw1);clear hw1)
    |(go_at_call 203;refine(Qo.out _ HW1.out).mono ?_;rintro e w2 ⟨rfl,hw2⟩;have HW2:=ah (HW1.out.au hw2);clear hw2))
   go_ret
   exact⟨rfl,HW2.out⟩
  ·rw[aZ hy]at rP
   rw[aZ fun h=>hy h.1]
   clear hy Qo
   generalize es.length=n at*
   generalize ks.len=m at*
   generalize es'.length=n' at*
   generalize ks'.len=m' at*
   go_enter Tryz.func156,Tryz.ntmps156
   go_wp2_with(go_at_call 202;refine(rP.out _ bg.out).mono ?_;rintro e w1 ⟨rfl,hw1⟩;have HW1:=ah (bg.out.au hw1);clear hw1)
   go_ret
   exact⟨rfl,HW1.out⟩
open Go.RowKit
theorem YF (w:World) (va vb:Value) (a b:aW) (ha:fZ w va a) (hb:fZ w vb b) (ra:dw a) (rb:dw b) (la:a.length≤20000) (lb:b.length≤20000):
 Calls Tryz.prog 96 #[va,vb] w fun e w'=>e= .returned (.bool (tf (a=b)))∧aj ay w w':=by
 obtain⟨aA,cA,rfl⟩:=ha.sl
 obtain⟨aB,cB,rfl⟩:=hb.sl
 have jw:=ah (bZ ra▸zQ w _ a ha ra.fits (by omega))
 have jD:=ah (fun W (f:aj ay w W)=>bZ rb▸zQ W _ b (Rd.aO hb f) rb.fits (by omega))
 have tX:=ah (fun W (f:aj ay w W)=>Yy W _ _ a b (Rd.aO ha f) (Rd.aO hb f) (by omega) (by omega))
 have hde:decide (a=b)=tf (a=b):=Bf (by rw[decide_eq_true_iff])
 rw[hde]at tX
 clear ha hb ra rb la lb hde
 generalize tf (a=b)=y at*
 generalize a.length=n at*
 generalize b.length=m at*
 go_enter Tryz.func96,Tryz.ntmps96
 go_wp2_with(first
  |(go_at_call_of 157 aA;refine jw.out.mono ?_;rintro e w1 ⟨rfl,hw1⟩;have HW1:=ah hw1;clear hw1)
  |(go_at_call_of 157 aB;refine(jD.out _ HW1.out).mono ?_;rintro e w2 ⟨rfl,hw2⟩;have HW2:=ah (HW1.out.au hw2);clear hw2)
  |(go_at_call 158;refine(tX.out _ HW2.out).mono ?_;rintro e w3 ⟨rfl,hw3⟩;have HW3:=ah (HW2.out.au hw3);clear hw3))
 go_ret
 exact⟨rfl,HW3.out⟩
theorem YG (Q Q':Nat→Prop) (es:List aG) (ks:aH) (es':List aG) (ks':aH) (w:World) (ev kv ev' kv':Value) (ht:bQ Q w ev kv es ks) (hok:iJ es ks) (hr:bW 5 es ks=true) (hs:sizeT es ks≤4000)
 (ht':bQ Q' w ev' kv' es' ks') (hok':iJ es' ks') (hr':bW 5 es' ks'=true) (hs':sizeT es' ks'≤4000):
 Calls Tryz.prog 95 #[.agg #[ev,kv], .agg #[ev',kv']] w fun e w'=>e= .returned (.bool (tf (es=es'∧ks=ks')))∧aj ay w w':=by
 have HA:=ah (fun W (f:aj ay w W)=>hr▸zV Q es ks W _ _ (ht.aO f) hok)
 have HB:=ah (fun W (f:aj ay w W)=>hr'▸zV Q' es' ks' W _ _ (ht'.aO f) hok')
 have HS:=ah (fun W (f:aj ay w W)=>YE Q Q' _ es ks es' ks' W _ _ _ _ (Nat.lt_succ_self _) (ht.aO f) (ht'.aO f) (by omega) (by omega))
 obtain⟨ae,ce,rfl⟩:=ht.ents.rd.sl
 obtain⟨os,hkr,-⟩:=ht.kids
 obtain⟨ak,ck,rfl⟩:=hkr.rd.sl
 obtain⟨dW,dX,rfl⟩:=ht'.ents.rd.sl
 obtain⟨os',iK,-⟩:=ht'.kids
 obtain⟨dY,dZ,rfl⟩:=iK.rd.sl
 clear hkr iK ht ht' hok hok' hr hr' hs hs'
 generalize tf (es=es'∧ks=ks')=y at*
 generalize es.length=n at*
 generalize ks.len=m at*
 generalize es'.length=n' at*
 generalize ks'.len=m' at*
 have bg:=ah ((aj.alloc ay w (.cells #[.slice ae n ce, .slice ak m ck] 30)).alloc1 (o:= .cells #[.slice dW n' dX, .slice dY m' dZ] 30))
 have aQ:=ah (JV w (.slice ae n ce) (.slice ak m ck) (.slice dW n' dX) (.slice dY m' dZ) 30)
 go_enter Tryz.func95,Tryz.ntmps95
 go_wp2_with(first
  |(go_at_call 156;refine(HS.out _ (bg.out.au HW2.out)).mono ?_;rintro e w3 ⟨rfl,hw3⟩;have HW3:=ah ((bg.out.au HW2.out).au hw3);clear hw3)
  |(go_at_call 155;first
   |(refine(HB.out _ (bg.out.au HW1.out)).mono ?_;rintro e w2 ⟨rfl,hw2⟩;clear y0 y1 y2 y3;obtain⟨y0,y1,y2,y3⟩:=aQ.out w2 (HW1.out.au hw2);have HW2:=ah (HW1.out.au hw2);clear hw2)
   |(refine(HA.out _ bg.out).mono ?_;rintro e w1 ⟨rfl,hw1⟩;obtain⟨y0,y1,y2,y3⟩:=aQ.out w1 hw1;have HW1:=ah hw1;clear hw1)))
 go_ret
 exact⟨rfl,HW3.out⟩
theorem Qp (Q Q':Nat→Prop) (es:List aG) (ks:aH) (c:aW) (es':List aG) (ks':aH) (c':aW) (w:World) (ev kv cv ev' kv' cv':Value) (h:fH Q w ev kv cv es ks c) (hok:fP es ks c) (h':fH Q' w ev' kv' cv' es' ks' c') (hok':fP es' ks' c'):
 Calls Tryz.prog 29 #[.agg #[ev,kv,cv], .agg #[ev',kv',cv']] w fun e w'=>e= .returned (.bool (tf (fG es ks c∧fG es' ks' c'∧(es=es'∧ks=ks')∧c=c')))∧aj ay w w':=by
 obtain⟨a0,c0,a1,c1,a2,c2,rfl,rfl,rfl⟩:=h.shape
 obtain⟨b0,d0,b1,d1,b2,d2,rfl,rfl,rfl⟩:=h'.shape
 have HA:=ah (fun W (f:aj ay w W)=>yO Q es ks c W _ _ _ (h.aO f) hok)
 have HB:=ah (fun W (f:aj ay w W)=>yO Q' es' ks' c' W _ _ _ (h'.aO f) hok')
 have HT:=ah (fun W (f:aj ay w W) r r'=>YG Q Q' es ks es' ks' W _ _ _ _ (h.tree.aO f) hok.tree r (Nat.le_trans hok.small (by decide)) (h'.tree.aO f) hok'.tree r' (Nat.le_trans hok'.small (by decide)))
 have HC:=ah (fun W (f:aj ay w W) r r'=>YF W _ _ c c' (Rd.aO h.ctx f) (Rd.aO h'.ctx f) r r' (Nat.le_trans hok.len (by decide)) (Nat.le_trans hok'.len (by decide)))
 clear h hok h' hok'
 by_cases r1:fG es ks c
 rotate_left 1
 ·rw[aZ r1]at HA
  rw[aZ fun h=>r1 h.1]
  clear r1 HB HT HC
  generalize es.length=n at*
  generalize ks.len=m at*
  generalize c.length=k at*
  generalize es'.length=n' at*
  generalize ks'.len=m' at*
  generalize c'.length=k' at*
  have bg:=ah ((aj.alloc ay w (.cells #[.slice a0 n c0, .slice a1 m c1, .slice a2 k c2] 34)).alloc1 (o:= .cells #[.slice b0 n' d0, .slice b1 m' d1, .slice b2 k' d2] 34))
  have aQ:=ah (Am w (.slice a0 n c0) (.slice a1 m c1) (.slice a2 k c2) (.slice b0 n' d0) (.slice b1 m' d1) (.slice b2 k' d2) 34)
  go_enter Tryz.func29,Tryz.ntmps29
  go_wp2_with(first
   |(go_at_call 93;refine(HA.out _ bg.out).mono ?_;rintro e w1 ⟨rfl,hw1⟩;obtain⟨y0,y1,y2,y3,y4,y5⟩:=aQ.out w1 hw1;have HW1:=ah hw1;clear hw1))
  go_ret
  exact⟨rfl,bg.out.au HW1.out⟩
 by_cases r2:fG es' ks' c'
 rotate_left 1
 ·rw[bZ r1]at HA
  rw[aZ r2]at HB
  rw[aZ fun h=>r2 h.2.1]
  clear r1 r2 HT HC
  generalize es.length=n at*
  generalize ks.len=m at*
  generalize c.length=k at*
  generalize es'.length=n' at*
  generalize ks'.len=m' at*
  generalize c'.length=k' at*
  have bg:=ah ((aj.alloc ay w (.cells #[.slice a0 n c0, .slice a1 m c1, .slice a2 k c2] 34)).alloc1 (o:= .cells #[.slice b0 n' d0, .slice b1 m' d1, .slice b2 k' d2] 34))
  have aQ:=ah (Am w (.slice a0 n c0) (.slice a1 m c1) (.slice a2 k c2) (.slice b0 n' d0) (.slice b1 m' d1) (.slice b2 k' d2) 34)
  go_enter Tryz.func29,Tryz.ntmps29
  go_wp2_with(first
   |(go_at_call 93;first|(refine(HB.out _ (bg.out.au HW1.out)).mono ?_;rintro e w2 ⟨rfl,hw2⟩;clear y0 y1 y2 y3 y4 y5;obtain⟨y0,y1,y2,y3,y4,y5⟩:=aQ.out w2 (HW1.out.au hw2);have HW2:=ah (HW1.out.au hw2);clear hw2)|(refine(HA.out _ bg.out).mono ?_;rintro e w1 ⟨rfl,hw1⟩;obtain⟨y0,y1,y2,y3,y4,y5⟩:=aQ.out w1 hw1;have HW1:=ah hw1;clear hw1)))
  go_ret
  exact⟨rfl,bg.out.au HW2.out⟩
 rw[bZ r1]at HA
 rw[bZ r2]at HB
 have HT:=ah (fun W f=>HT.out W f r1.tree r2.tree)
 have HC:=ah (fun W f=>HC.out W f r1.ctx r2.ctx)
 by_cases r3:es=es'∧ks=ks'
 rotate_left 1
 ·rw[aZ r3]at HT
  rw[aZ fun h=>r3 h.2.2.1]
  clear r1 r2 r3 HC
  generalize es.length=n at*
  generalize ks.len=m at*
  generalize c.length=k at*
  generalize es'.length=n' at*
  generalize ks'.len=m' at*
  generalize c'.length=k' at*
  have bg:=ah ((aj.alloc ay w (.cells #[.slice a0 n c0, .slice a1 m c1, .slice a2 k c2] 34)).alloc1 (o:= .cells #[.slice b0 n' d0, .slice b1 m' d1, .slice b2 k' d2] 34))
  have aQ:=ah (Am w (.slice a0 n c0) (.slice a1 m c1) (.slice a2 k c2) (.slice b0 n' d0) (.slice b1 m' d1) (.slice b2 k' d2) 34)
  go_enter Tryz.func29,Tryz.ntmps29
  go_wp2_with(first
   |(go_at_call 93;first|(refine(HB.out _ (bg.out.au HW1.out)).mono ?_;rintro e w2 ⟨rfl,hw2⟩;clear y0 y1 y2 y3 y4 y5;obtain⟨y0,y1,y2,y3,y4,y5⟩:=aQ.out w2 (HW1.out.au hw2);have HW2:=ah (HW1.out.au hw2);clear hw2)|(refine(HA.out _ bg.out).mono ?_;rintro e w1 ⟨rfl,hw1⟩;obtain⟨y0,y1,y2,y3,y4,y5⟩:=aQ.out w1 hw1;have HW1:=ah hw1;clear hw1))
   |(go_at_call 95;refine(HT.out _ (bg.out.au HW2.out)).mono ?_;rintro e w3 ⟨rfl,hw3⟩;clear y0 y1 y2 y3 y4 y5;obtain⟨y0,y1,y2,y3,y4,y5⟩:=aQ.out w3 (HW2.out.au hw3);have HW3:=ah (HW2.out.au hw3);clear hw3))
  go_ret
  exact⟨rfl,bg.out.au HW3.out⟩
 rw[bZ r3]at HT
 have hall:tf (fG es ks c∧fG es' ks' c'∧(es=es'∧ks=ks')∧c=c')=tf (c=c'):=kT ⟨fun h=>h.2.2.2,fun h=>⟨r1,r2,r3,h⟩⟩
 rw[hall]
 clear hall r1 r2 r3
 generalize tf (c=c')=y at*
 generalize es.length=n at*
 generalize ks.len=m at*
 generalize c.length=k at*
 generalize es'.length=n' at*
 generalize ks'.len=m' at*
 generalize c'.length=k' at*
 have bg:=ah ((aj.alloc ay w (.cells #[.slice a0 n c0, .slice a1 m c1, .slice a2 k c2] 34)).alloc1 (o:= .cells #[.slice b0 n' d0, .slice b1 m' d1, .slice b2 k' d2] 34))
 have aQ:=ah (Am w (.slice a0 n c0) (.slice a1 m c1) (.slice a2 k c2) (.slice b0 n' d0) (.slice b1 m' d1) (.slice b2 k' d2) 34)
 go_enter Tryz.func29,Tryz.ntmps29
 go_wp2_with(first
  |(go_at_call 93;first|(refine(HB.out _ (bg.out.au HW1.out)).mono ?_;rintro e w2 ⟨rfl,hw2⟩;clear y0 y1 y2 y3 y4 y5;obtain⟨y0,y1,y2,y3,y4,y5⟩:=aQ.out w2 (HW1.out.au hw2);have HW2:=ah (HW1.out.au hw2);clear hw2)|(refine(HA.out _ bg.out).mono ?_;rintro e w1 ⟨rfl,hw1⟩;obtain⟨y0,y1,y2,y3,y4,y5⟩:=aQ.out w1 hw1;have HW1:=ah hw1;clear hw1))
  |(go_at_call 95;refine(HT.out _ (bg.out.au HW2.out)).mono ?_;rintro e w3 ⟨rfl,hw3⟩;clear y0 y1 y2 y3 y4 y5;obtain⟨y0,y1,y2,y3,y4,y5⟩:=aQ.out w3 (HW2.out.au hw3);have HW3:=ah (HW2.out.au hw3);clear hw3)
  |(go_at_call 96;refine(HC.out _ (bg.out.au HW3.out)).mono ?_;rintro e w4 ⟨rfl,hw4⟩;have lU:=ah (HW3.out.au hw4);clear hw4))
 go_ret
 exact⟨rfl,bg.out.au lU.out⟩
end Go.Proofs.YtabkpccdnkjoiaaGreat
