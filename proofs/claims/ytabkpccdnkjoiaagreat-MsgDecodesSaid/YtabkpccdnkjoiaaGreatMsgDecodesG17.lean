/- Words for the law MsgDecodes: PackGet6, CSame, Eq, TSame, Same1, VecEq, Same2. -/
import Derived.Test.YtabkpccdnkjoiaaGreatMsgDecodesG0
import Derived.Test.YtabkpccdnkjoiaaGreatMsgDecodesG3
import Derived.Test.YtabkpccdnkjoiaaGreatMsgDecodesG7
import Derived.Test.YtabkpccdnkjoiaaGreatMsgDecodesG9
import Derived.Test.YtabkpccdnkjoiaaGreatMsgDecodesG11
import Derived.Test.YtabkpccdnkjoiaaGreatMsgDecodesG16
import Derived.ChangeKeysEq
set_option linter.unusedSimpArgs false
set_option linter.unusedVariables false
set_option maxHeartbeats 32000000
set_option maxRecDepth 1000000
namespace Go.Proofs.YtabkpccdnkjoiaaGreat
open Go.RowKit
theorem kH.total (st:Option (List UInt8)):∃es ks s,kH st es ks s:=by
 by_cases h:∃es ks rest,st=some (fM es ks++rest)∧dD 5 es ks=true
 ·obtain⟨es,ks,rest,h1,h2⟩:=h
  exact⟨es,ks,some rest, .inl ⟨rest,h1,h2,rfl⟩⟩
 ·exact⟨[], .nil,none, .inr ⟨rfl,rfl,rfl,fun es ks rest h1=>by
   cases h2:dD 5 es ks with
   |false=>rfl
   |true=>exact absurd ⟨es,ks,rest,h1,h2⟩ h⟩⟩
theorem kV.total (st:Option (List UInt8)):∃c s,kV st c s:=by
 by_cases h:∃c rest,st=some (lZ c++rest)∧dN c
 ·obtain⟨c,rest,h1,h2⟩:=h
  exact⟨c,some rest, .inl ⟨rest,h1,h2,rfl⟩⟩
 ·exact⟨[],none, .inr ⟨rfl,rfl,fun c rest h1 h2=>h ⟨c,rest,h1,h2⟩⟩⟩
theorem kW.total (st:Option (List UInt8)):∃es ks c s,kW st es ks c s:=by
 by_cases h:∃es ks c rest,st=some (kC es ks c++rest)∧jM es ks c
 ·obtain⟨es,ks,c,rest,h1,h2⟩:=h
  exact⟨es,ks,c,some rest, .inl ⟨rest,h1,h2,rfl⟩⟩
 ·exact⟨[], .nil,[],none, .inr ⟨rfl,rfl,rfl,rfl,fun es ks c rest h1 h2=>h ⟨es,ks,c,rest,h1,h2⟩⟩⟩
theorem abD {st s:Option (List UInt8)} {es:List aQ} {ks:aS} (hr:kH st es ks s) (ib:Nat) (w:World) (h:dJ w ib st) (hl:(leftOf st).length≤60000):
 Calls Tryz.prog 125 #[.pointer (some ⟨ib,0,none⟩)] w fun e w'=>∃ev kv,e= .returned (.agg #[ev,kv])∧dh (fun b=>w.heap.size≤b) w' ev kv es ks∧dJ w' ib s∧aj (Only ib) w w':=
 (abB ib st w h hl).mono fun e w' ⟨ev,kv,es',ks',s',he,ht,hr',hi,hf⟩=>by
   obtain⟨⟨rfl,rfl⟩,rfl⟩:=hr.b_ hr'
   exact⟨ev,kv,he,ht,hi,hf⟩
theorem abE {st s:Option (List UInt8)} {c:aX} (hr:kV st c s) (ib:Nat) (w:World) (h:dJ w ib st) (hl:(leftOf st).length≤60000):
 Calls Tryz.prog 126 #[.pointer (some ⟨ib,0,none⟩)] w fun e w'=>∃cv,e= .returned cv∧eH (fun b=>w.heap.size≤b) w' cv c.length (fJ c)∧dJ w' ib s∧aj (Only ib) w w':=
 (abu ib st w h hl).mono fun e w' ⟨cv,c',s',he,ht,hr',_,_,hi,hf⟩=>by
   obtain⟨rfl,rfl⟩:=hr.b_ hr'
   exact⟨cv,he,ht,hi,hf⟩
theorem kV.fits {st s:Option (List UInt8)} {c:aX} (h:kV st c s):oD c:=by
 rcases h with⟨r,rfl,hr,rfl⟩|⟨rfl,rfl,_⟩
 ·exact hr.fits
 ·exact fun s hs=>by cases hs
theorem both_ok {st s1 s2:Option (List UInt8)} {es:List aQ} {ks:aS} {c:aX} (h1:kH st es ks s1) (h2:kV s1 c s2) (hl:(leftOf st).length≤6000):jd es ks c:=by
 have g1:=h1.sizes
 have g2:=h2.sizes
 exact⟨h1.tr (by omega),by omega,h2.fits,by omega⟩
def oP (st:Option (List UInt8)):Prop:=∀es ks s1 c s2,kH st es ks s1→kV s1 c s2→jd es ks c
theorem oP.small {st:Option (List UInt8)} (hl:(leftOf st).length≤6000):oP st:=fun _ _ _ _ _ h1 h2=>both_ok h1 h2 hl
theorem oP.ok {st s:Option (List UInt8)} {es:List aQ} {ks:aS} {c:aX} (hf:oP st) (h:kW st es ks c s):jd es ks c:=by
 rcases h with⟨r,rfl,hr,rfl⟩|⟨rfl,rfl,rfl,rfl,_⟩
 ·exact hf es ks (some (lZ c++r)) c (some r) (.inl ⟨lZ c++r,by unfold kC;rw[List.append_assoc],hr.tree,rfl⟩) (.inl ⟨r,rfl,hr.ctx,rfl⟩)
 ·exact⟨NR,Nat.zero_le _,(fun s hs=>by cases hs),Nat.zero_le _⟩
theorem oP.known {es:List aQ} {ks:aS} {c:aX} {r:List UInt8} (h:jM es ks c) (hk:jd es ks c):oP (some (kC es ks c++r)):=fun es' ks' s1 c' s2 h1 h2=>by
 obtain⟨rfl,rfl,rfl,-⟩:=TT h1 h2 rfl h
 exact hk
theorem wK (Q:Nat→Prop) (w:World):eH Q w (.slice none 0 0) 0 []:=⟨.inl ⟨none,rfl,rfl,rfl⟩,fun h=>absurd rfl h⟩
def dP (Q:Nat→Prop) (w:World) (v:Value) (c:aX):Prop:=eH Q w v c.length (fJ c)
theorem dP.aJ {Q:Nat→Prop} {w w':World} {v:Value} {c:aX} (h:dP Q w v c) (f:aj ay w w'):dP Q w' v c:=eH.keep h f fun _ _ h=>h.elim
theorem dP.at_ {Q:Nat→Prop} {w:World} {v:Value} {c:aX} (h:dP Q w v c):jf w v c:=eH.rd h
def Uz (es:List aQ) (ks:aS) (c:aX) (s:Option (List UInt8)) (ib:Nat) (w:World) (e:Ending) (w':World):Prop:=
 ∃ev kv cv,e= .returned (.agg #[ev,kv,cv])∧dh (fun b=>w.heap.size≤b) w' ev kv es ks∧dP (fun b=>w.heap.size≤b) w' cv c∧dJ w' ib s∧aj (Only ib) w w'
theorem NT {Q:Nat→Prop} {w ww w':World} {ib:Nat} {s:Option (List UInt8)} {e2 k2 c2:Value} {es2:List aQ} {tV:aS} {c:aX}
 (hin:dJ ww ib s) (hib:ib<w.heap.size) (hf:aj (Only ib) w ww) (ht:dh Q ww e2 k2 es2 tV) (hc:dP Q ww c2 c) (hq:∀b,Q b→w.heap.size≤b∧b≠w.heap.size) (hts:aj (fun b=>b=w.heap.size) ww w'):
 Uz es2 tV c s ib w (.returned (.agg #[e2,k2,c2])) w':=
 ⟨e2,k2,c2,rfl,ht.turn fun b hb hQ=>⟨hts.block b hb (hq b hQ).2,(hq b hQ).1⟩,(eH.turn hc (Q':=fun b=>w.heap.size≤b) fun b hb hQ=>⟨hts.block b hb (hq b hQ).2,(hq b hQ).1⟩),hin.keep hts fun j hj hs=>by have hs:j=w.heap.size:=hs;omega,hf.trans hts fun i hi hs=>by have hs:i=w.heap.size:=hs;omega⟩
theorem FB (w:World) (b:Nat) (u u' u2:Value):aj (Only b) w (((w.setCell ⟨b,0,none⟩ u).setCell ⟨b,1,none⟩ u').setCell ⟨b,2,none⟩ u2):=((dG w b 0 u).trans (dG _ b 1 u') fun _ _ h=>h).trans (dG _ b 2 u2) fun _ _ h=>h
theorem Dy (ib:Nat) (st s:Option (List UInt8)) (es:List aQ) (ks:aS) (c:aX) (w:World) (hc:kW st es ks c s) (h:dJ w ib st) (hl:(leftOf st).length≤60000) (hfit:oP st):
 Calls Tryz.prog 60 #[.pointer (some ⟨ib,0,none⟩)] w (Uz es ks c s ib w):=by
 have hib:=h.lt
 have hno:¬Only ib w.heap.size:=fun h=>by have h:w.heap.size=ib:=h;omega
 have eP:=ah hno;clear hno
 have HB0:=ah (heap_alloc_new w (.cells #[.slice none 0 0, .slice none 0 0, .slice none 0 0] 34))
 have HI0:=ah (h.keep (aj.alloc ay w (.cells #[.slice none 0 0, .slice none 0 0, .slice none 0 0] 34)) fun _ _=>id)
 have nX:=ah hib;clear hib
 have qG:=ah ((aj.alloc ay w (.cells #[.slice none 0 0, .slice none 0 0, .slice none 0 0] 34)).mono (T:=Only ib) fun _ _ h=>h.elim)
 have zi:=ah (show(w.alloc (.cells #[.slice none 0 0, .slice none 0 0, .slice none 0 0] 34)).heap.size=w.heap.size+1 by simp)
 clear h
 obtain⟨es1,lH,s1,ht1⟩:=kH.total st
 obtain⟨c1,s2,hc1⟩:=kV.total s1
 have hok:=hfit _ _ _ _ _ ht1 hc1
 have hl1:=ht1.sizes
 have HG:=ah (abD ht1 ib _ HI0.out (by omega))
 have HC:=ah (fun W (h:dJ W ib s1)=>abE hc1 ib W h (by omega))
 have dU:=ah (fun W Q ev kv cv (h:gK Q W ev kv cv es1 lH c1)=>EK Q es1 lH c1 W ev kv cv h hok)
 clear hok hl1 hfit
 cases s2 with
 |some r=>
  by_cases hr:jM es1 lH c1
  ·rw[dO hr]at dU
   obtain⟨⟨⟨rfl,rfl⟩,rfl⟩,rfl⟩:=hc.b_ (TU ht1 hc1 hr)
   clear hc hr ht1 hc1
   go_enter Tryz.func60,Tryz.ntmps60
   go_wp2_with(first
    |(go_at_call 125;refine HG.out.mono ?_;rintro e w1 ⟨ev,kv,rfl,hta,hi1,hf1⟩;obtain⟨a3,c3,rfl⟩:=hta.ents.rd.sl;obtain⟨os3,fE,-⟩:=hta.kids;obtain⟨a4,c4,rfl⟩:=fE.rd.sl;clear fE
      have HB1:=ah (hf1.blk HB0.out eP.out)
      have gV:=ah hta;clear hta
      have HI1:=ah hi1;clear hi1
      have bg:=ah hf1;clear hf1)
    |(go_at_call 126;refine(HC.out _ HI1.out).mono ?_;rintro e w2 ⟨cv,rfl,hrc,hi2,hf2⟩;obtain⟨a5,c5,rfl⟩:=hrc.rd.sl
      have HB2:=ah (hf2.blk HB1.out eP.out)
      have pR:=ah (gV.out.turn (Q':=fun b=>(w.alloc (.cells #[.slice none 0 0, .slice none 0 0, .slice none 0 0] 34)).heap.size≤b) fun b hb hQ=>⟨hf2.block b hb fun hs=>by have hs:b=ib:=hs;have:=nX.out;have:=zi.out;omega,hQ⟩)
      have gU:=ah (show dP (fun b=>(w.alloc (.cells #[.slice none 0 0, .slice none 0 0, .slice none 0 0] 34)).heap.size≤b) w2 (.slice a5 c.length c5) c from hrc.turn fun b hb hQ=>⟨rfl,Nat.le_trans bg.out.size hQ⟩);clear hrc
      have HI2:=ah hi2;clear hi2
      have HF2:=ah ((qG.out.trans bg.out fun _ _ h=>h).trans hf2 fun _ _ h=>h)
      clear hf2
      generalize es.length=n at*
      generalize ks.len=m at*
      generalize c.length=k at*
      have HA2:=ah (aj.alloc ay w2 (.cells #[.slice a3 n c3, .slice a4 m c4, .slice a5 k c5] 34))
      have FC:=ah (heap_alloc_new w2 (.cells #[.slice a3 n c3, .slice a4 m c4, .slice a5 k c5] 34)))
    |(go_at_call 58;refine(oN ib _ _ (HI2.out.keep HA2.out fun _ _=>id)).mono ?_;rintro e w9 ⟨rfl,rfl⟩)
    |(go_at_call 93;refine(dU.out _ _ _ _ _ ⟨pR.out.aJ HA2.out,(gU.out.aJ HA2.out).at_⟩).mono ?_;rintro e w3 ⟨rfl,hf3⟩
      have hx3:=hf3.blk FC.out id
      have z0:=au hx3 0 rfl
      have z1:=au hx3 1 rfl
      have z2:=au hx3 2 rfl
      have hb3:=hf3.blk (HA2.out.blk HB2.out id) id
      have y0:=au hb3 0 rfl
      have y1:=au hb3 1 rfl
      have y2:=au hb3 2 rfl
      have f0:=aG hb3 0
      have f1:=aG hb3 1
      have f2:=aG hb3 2
      have hl2:=lt_of_block hb3
      have hl3:=lt_of_block hx3
      have HB3:=ah hb3
      have HF3:=ah (HA2.out.aC hf3)
      clear hf3 hx3 hb3))
   clear y0 y1 y2 z0 z1 z2
   have y0:=au (bC (bC (bC HB3.out 0 (.slice a3 n c3)) 1 (.slice a4 m c4)) 2 (.slice a5 k c5)) 0 rfl
   have y1:=au (bC (bC (bC HB3.out 0 (.slice a3 n c3)) 1 (.slice a4 m c4)) 2 (.slice a5 k c5)) 1 rfl
   have y2:=au (bC (bC (bC HB3.out 0 (.slice a3 n c3)) 1 (.slice a4 m c4)) 2 (.slice a5 k c5)) 2 rfl
   have hts:=FB w3 w.heap.size (.slice a3 n c3) (.slice a4 m c4) (.slice a5 k c5)
   exact bodyPost_ret (v:= .agg #[.slice a3 n c3, .slice a4 m c4, .slice a5 k c5]) (by simp[results,Tryz.results60,go_sem,y0,y1,y2]) rfl (NT (HI2.out.keep HF3.out fun _ _=>id) nX.out (HF2.out.trans HF3.out fun _ _ h=>h.elim) (pR.out.aJ HF3.out) (gU.out.aJ HF3.out) (fun b h=>by have:=zi.out;have h:(w.alloc (.cells #[.slice none 0 0, .slice none 0 0, .slice none 0 0] 34)).heap.size≤b:=h;omega) hts)
  ·rw[bf hr]at dU
   obtain⟨⟨⟨rfl,rfl⟩,rfl⟩,rfl⟩:=hc.b_ (Jp ht1 hc1 (.inr hr))
   clear hc hr ht1 hc1
   go_enter Tryz.func60,Tryz.ntmps60
   go_wp2_with(first
    |(go_at_call 125;refine HG.out.mono ?_;rintro e w1 ⟨ev,kv,rfl,hta,hi1,hf1⟩;obtain⟨a3,c3,rfl⟩:=hta.ents.rd.sl;obtain⟨os3,fE,-⟩:=hta.kids;obtain⟨a4,c4,rfl⟩:=fE.rd.sl;clear fE
      have HB1:=ah (hf1.blk HB0.out eP.out)
      have gV:=ah hta;clear hta
      have HI1:=ah hi1;clear hi1
      have bg:=ah hf1;clear hf1)
    |(go_at_call 126;refine(HC.out _ HI1.out).mono ?_;rintro e w2 ⟨cv,rfl,hrc,hi2,hf2⟩;obtain⟨a5,c5,rfl⟩:=hrc.rd.sl
      have HB2:=ah (hf2.blk HB1.out eP.out)
      have pR:=ah (gV.out.turn (Q':=fun b=>(w.alloc (.cells #[.slice none 0 0, .slice none 0 0, .slice none 0 0] 34)).heap.size≤b) fun b hb hQ=>⟨hf2.block b hb fun hs=>by have hs:b=ib:=hs;have:=nX.out;have:=zi.out;omega,hQ⟩)
      have gU:=ah (show dP (fun b=>(w.alloc (.cells #[.slice none 0 0, .slice none 0 0, .slice none 0 0] 34)).heap.size≤b) w2 (.slice a5 c1.length c5) c1 from hrc.turn fun b hb hQ=>⟨rfl,Nat.le_trans bg.out.size hQ⟩);clear hrc
      have HI2:=ah hi2;clear hi2
      have HF2:=ah ((qG.out.trans bg.out fun _ _ h=>h).trans hf2 fun _ _ h=>h)
      clear hf2
      generalize es1.length=n at*
      generalize lH.len=m at*
      generalize c1.length=k at*
      have HA2:=ah (aj.alloc ay w2 (.cells #[.slice a3 n c3, .slice a4 m c4, .slice a5 k c5] 34)))
    |(go_at_call 58;refine(oN ib _ _ (HI2.out.keep HA2.out fun _ _=>id)).mono ?_;rintro e w9 ⟨rfl,rfl⟩)
    |(go_at_call 93;refine(dU.out _ _ _ _ _ ⟨pR.out.aJ HA2.out,(gU.out.aJ HA2.out).at_⟩).mono ?_;rintro e w3 ⟨rfl,hf3⟩;have HF3:=ah (HA2.out.aC hf3);clear hf3)
    |(go_at_call 123;obtain⟨a,c,hh⟩:=(HI2.out.keep HF3.out fun _ _=>id).heap;refine(pG ib _ _ w3 hh).mono ?_;rintro e w4 ⟨rfl,hi4,hf4⟩
      have HI4:=ah (show dJ w4 ib none from hi4);clear hi4 hh
      have hb3:=hf4.blk (HF3.out.blk HB2.out id) eP.out
      have y0:=au hb3 0 rfl
      have y1:=au hb3 1 rfl
      have y2:=au hb3 2 rfl
      have f0:=aG hb3 0
      have f1:=aG hb3 1
      have f2:=aG hb3 2
      have hl2:=lt_of_block hb3
      have HB3:=ah hb3
      have iI:=ah ((HF2.out.trans HF3.out fun _ _ h=>h.elim).trans hf4 fun _ _ h=>h)
      clear hf4 hb3))
   clear y0 y1 y2
   have y0:=au (bC (bC (bC HB3.out 0 (.slice none 0 0)) 1 (.slice none 0 0)) 2 (.slice none 0 0)) 0 rfl
   have y1:=au (bC (bC (bC HB3.out 0 (.slice none 0 0)) 1 (.slice none 0 0)) 2 (.slice none 0 0)) 1 rfl
   have y2:=au (bC (bC (bC HB3.out 0 (.slice none 0 0)) 1 (.slice none 0 0)) 2 (.slice none 0 0)) 2 rfl
   have hts:=FB w4 w.heap.size (.slice none 0 0) (.slice none 0 0) (.slice none 0 0)
   exact bodyPost_ret (v:= .agg #[.slice none 0 0, .slice none 0 0, .slice none 0 0]) (by simp[results,Tryz.results60,go_sem,y0,y1,y2]) rfl (NT (c:=[]) HI4.out nX.out iI.out (tX (fun b=>w.heap.size≤b∧b≠w.heap.size) w4) (wK _ _) (fun b h=>h) hts)
 |none=>
  obtain⟨⟨⟨rfl,rfl⟩,rfl⟩,rfl⟩:=hc.b_ (Jp ht1 hc1 (.inl rfl))
  clear hc ht1 hc1 dU
  go_enter Tryz.func60,Tryz.ntmps60
  go_wp2_with(first
   |(go_at_call 125;refine HG.out.mono ?_;rintro e w1 ⟨ev,kv,rfl,hta,hi1,hf1⟩;obtain⟨a3,c3,rfl⟩:=hta.ents.rd.sl;obtain⟨os3,fE,-⟩:=hta.kids;obtain⟨a4,c4,rfl⟩:=fE.rd.sl;clear fE hta
     have HB1:=ah (hf1.blk HB0.out eP.out)
     have HI1:=ah hi1;clear hi1
     have bg:=ah hf1;clear hf1)
   |(go_at_call 126;refine(HC.out _ HI1.out).mono ?_;rintro e w2 ⟨cv,rfl,hrc,hi2,hf2⟩;obtain⟨a5,c5,rfl⟩:=hrc.rd.sl;clear hrc
     have HB2:=ah (hf2.blk HB1.out eP.out)
     have HI2:=ah hi2;clear hi2
     have HF2:=ah ((qG.out.trans bg.out fun _ _ h=>h).trans hf2 fun _ _ h=>h)
     clear hf2
     generalize es1.length=n at*
     generalize lH.len=m at*
     generalize c1.length=k at*
     have HA2:=ah (aj.alloc ay w2 (.cells #[.slice a3 n c3, .slice a4 m c4, .slice a5 k c5] 34)))
   |(go_at_call 58;refine(oN ib _ _ (HI2.out.keep HA2.out fun _ _=>id)).mono ?_;rintro e w9 ⟨rfl,rfl⟩)
   |(go_at_call 123;obtain⟨a,c,hh⟩:=(HI2.out.keep HA2.out fun _ _=>id).heap;refine(pG ib _ _ _ hh).mono ?_;rintro e w4 ⟨rfl,hi4,hf4⟩
     have HI4:=ah (show dJ w4 ib none from hi4);clear hi4 hh
     have hb3:=hf4.blk (HA2.out.blk HB2.out id) eP.out
     have y0:=au hb3 0 rfl
     have y1:=au hb3 1 rfl
     have y2:=au hb3 2 rfl
     have f0:=aG hb3 0
     have f1:=aG hb3 1
     have f2:=aG hb3 2
     have hl2:=lt_of_block hb3
     have HB3:=ah hb3
     have iI:=ah ((HF2.out.trans HA2.out fun _ _ h=>h.elim).trans hf4 fun _ _ h=>h)
     clear hf4 hb3))
  clear y0 y1 y2
  have y0:=au (bC (bC (bC HB3.out 0 (.slice none 0 0)) 1 (.slice none 0 0)) 2 (.slice none 0 0)) 0 rfl
  have y1:=au (bC (bC (bC HB3.out 0 (.slice none 0 0)) 1 (.slice none 0 0)) 2 (.slice none 0 0)) 1 rfl
  have y2:=au (bC (bC (bC HB3.out 0 (.slice none 0 0)) 1 (.slice none 0 0)) 2 (.slice none 0 0)) 2 rfl
  have hts:=FB w4 w.heap.size (.slice none 0 0) (.slice none 0 0) (.slice none 0 0)
  exact bodyPost_ret (v:= .agg #[.slice none 0 0, .slice none 0 0, .slice none 0 0]) (by simp[results,Tryz.results60,go_sem,y0,y1,y2]) rfl (NT (c:=[]) HI4.out nX.out iI.out (tX (fun b=>w.heap.size≤b∧b≠w.heap.size) w4) (wK _ _) (fun b h=>h) hts)
open Go.RowKit
def zk (a b:aX) (k:Nat):Prop:=∀j,j<k→a.getD j (0,0,0)=b.getD j (0,0,0)
theorem zk.all {a b:aX} (hl:a.length=b.length) (h:zk a b a.length):a=b:=by
 refine List.ext_getElem hl fun j h1 h2=>?_
 have:=h j h1
 rwa [getD_at _ h1,getD_at _ h2]at this
theorem zk.step {a b:aX} {k:Nat} (h:zk a b k) (he:a.getD k (0,0,0)=b.getD k (0,0,0)):zk a b (k+1):=fun j hj=>by
 rcases Nat.lt_succ_iff_lt_or_eq.1 hj with hj|rfl
 ·exact h j hj
 ·exact he
theorem UA (w:World) (va vb:Value) (a b:aX) (ha:jf w va a) (hb:jf w vb b) (la:a.length≤100000) (lb:b.length≤100000):
 Calls Tryz.prog 84 #[va,vb] w fun e w'=>e= .returned (.bool (decide (a=b)))∧aj ay w w':=by
 obtain⟨aA,cA,rfl⟩:=ha.sl
 obtain⟨aB,cB,rfl⟩:=hb.sl
 by_cases hab:a.length=b.length
 rotate_left 1
 ·have hne:decide (a=b)=false:=by rw[decide_eq_false_iff_not];intro h;exact hab (by rw[h])
  rw[hne]
  clear hne ha hb
  generalize a.length=n at*
  generalize b.length=m at*
  have hz:((n:Int)==(m:Int))=false:=by simp;omega
  go_enter Tryz.func84,Tryz.ntmps84
  go_wp2
  go_ret
  exact⟨rfl,aj.refl _ _⟩
 have HAB:=ah hab
 rw[←hab]at lb
 have hb2:jf w (.slice aB a.length cB) b:=by rw[hab];exact hb
 have HA:=ah ha;clear ha
 have HB:=ah hb2;clear hb hb2
 clear hab lb
 have hbl:b.length=a.length:=HAB.out.symm
 rw[hbl]
 clear hbl
 generalize hn:a.length=n at*
 have HN:=ah hn;clear hn
 go_enter Tryz.func84,Tryz.ntmps84
 go_wp2
 go_loopw [13] (fun i ww=>∃k:Nat,k≤n∧i= .int .i64 k∧zk a b k∧aj ay w ww) (fun i _=>n-(intOf i).toNat)
 case atStart=>exact⟨0,Nat.zero_le _,rfl,(fun j hj=>absurd hj (Nat.not_lt_zero _)),aj.refl _ _⟩
 case round=>
  obtain⟨k,hk,rfl,hlk,hf⟩:=hrel
  have yO:=ah hlk;clear hlk
  have HF:=ah hf;clear hf
  by_cases hlt:k<n
  ·have hka:k<a.length:=by rw[HN.out];exact hlt
   have hkb:k<b.length:=by rw[←HAB.out];exact hlt
   rcases Rd.shape HA.out with⟨ad,he,h0⟩|⟨o1,off1,UC,he,hmax⟩
   ·exfalso;have:=HN.out;omega
   rcases Rd.shape HB.out with⟨ad,he2,h0⟩|⟨o2,off2,qQ,he2,IG⟩
   ·exfalso;have:=HN.out;have:=HAB.out;omega
   injection he with e1 e2 e3
   injection he2 with e4 e5 e6
   subst e1 e3 e4 e6
   clear e2 e5
   obtain⟨p0,p1,p2⟩:=AU HA.out (by rw[HN.out]) k hka
   obtain⟨q0,q1,q2⟩:=AU HB.out HAB.out k hkb
   have p0:=HF.out.cell' p0 id
   have p1:=HF.out.cell' p1 id
   have p2:=HF.out.cell' p2 id
   have q0:=HF.out.cell' q0 id
   have q1:=HF.out.cell' q1 id
   have q2:=HF.out.cell' q2 id
   have hst:a.getD k (0,0,0)=b.getD k (0,0,0)→zk a b (k+1):=yO.out.step
   have HST:=ah hst;clear hst
   have hno:a.getD k (0,0,0)≠b.getD k (0,0,0)→a≠b:=fun h e=>h (by rw[e])
   have eP:=ah hno;clear hno
   generalize a.getD k (0,0,0)=s at*
   generalize b.getD k (0,0,0)=t at*
   by_cases hst:s=t
   ·subst hst
    go_wp2_with fail
    go_quiet (fail)
    go_wp2
    go_roundw
    case rel=>exact⟨k+1,by omega,by go_num,HST.out (by trivial),HF.out.kS⟩
    case measure=>simp[intOf];omega
   ·have zn:=ah (show false=decide (a=b)from by symm;rw[decide_eq_false_iff_not];exact eP.out hst)
    obtain⟨s0,s1,s2⟩:=s
    obtain⟨t0,t1,t2⟩:=t
    clear HST eP
    dsimp only at p0 p1 p2 q0 q1 q2
    by_cases g0:s0=t0
    ·subst g0
     by_cases g1:s1=t1
     ·subst g1
      have g2:s2≠t2:=fun h=>hst (by rw[h])
      clear hst
      have gb:((s2:Int)==t2)=false:=by simpa using g2
      go_wp2_with fail
      go_quiet (fail)
      go_wp2
      go_ret
      exact⟨dK zn.out,HF.out.kS⟩
     ·clear hst
      have gb:((s1:Int)==t1)=false:=by simpa using g1
      go_wp2_with fail
      go_quiet (fail)
      go_wp2
      go_ret
      exact⟨dK zn.out,HF.out.kS⟩
    ·clear hst
     have gb:((s0:Int)==t0)=false:=by simpa using g0
     go_wp2_with fail
     go_quiet (fail)
     go_wp2
     go_ret
     exact⟨dK zn.out,HF.out.kS⟩
  ·obtain rfl:n=k:=by omega
   have heq:decide (a=b)=true:=by rw[decide_eq_true_iff];exact zk.all (HN.out.trans HAB.out) (by rw[HN.out];exact yO.out)
   have Jv:=ah heq;clear heq
   go_wp2
   go_ret
   exact⟨dK Jv.out.symm,HF.out⟩
open Go.RowKit
def zo (a b:List aQ) (k:Nat):Prop:=∀j,j<k→a.getD j aQ.zero=b.getD j aQ.zero
theorem zo.all {a b:List aQ} (hl:a.length=b.length) (h:zo a b a.length):a=b:=by
 refine List.ext_getElem hl fun j h1 h2=>?_
 have:=h j h1
 rwa [getD_at _ h1,getD_at _ h2]at this
theorem zo.step {a b:List aQ} {k:Nat} (h:zo a b k) (he:a.getD k aQ.zero=b.getD k aQ.zero):zo a b (k+1):=fun j hj=>by
 rcases Nat.lt_succ_iff_lt_or_eq.1 hj with hj|rfl
 ·exact h j hj
 ·exact he
open Go.RowKit
theorem UD {s t:ByteArray} (h:¬s=t):¬s.toList=t.toList:=fun e=>h (by rw[ByteArray.toList_eq,ByteArray.toList_eq]at e;exact ByteArray.ext (Array.toList_inj.1 e))
theorem abG (w:World) (a0 a1 b0 b1:Value) (T:TypeId) (W:World) (f:aj ay ((w.alloc (.cells #[a0,a1] T)).alloc (.cells #[b0,b1] T)) W):
 W.cell? ⟨w.heap.size,0,none⟩=some a0∧W.cell? ⟨w.heap.size,1,none⟩=some a1∧W.cell? ⟨w.heap.size+1,0,none⟩=some b0∧W.cell? ⟨w.heap.size+1,1,none⟩=some b1:=by
 obtain⟨h1,_,_⟩:=uJ w (.cells #[a0,a1] T) #[b0,b1] T
 have h0:((w.alloc (.cells #[a0,a1] T)).alloc (.cells #[b0,b1] T)).heap[w.heap.size]?=some (.cells #[a0,a1] T (0,0)):=(aj.alloc ay _ _).blk (heap_alloc_new w _) id
 exact⟨f.cell' (au h0 0 rfl) id,f.cell' (au h0 1 rfl) id,f.cell' (au h1 0 rfl) id,f.cell' (au h1 1 rfl) id⟩
theorem UE (w:World) (a0 a1 a2 b0 b1 b2:Value) (T:TypeId) (W:World) (f:aj ay ((w.alloc (.cells #[a0,a1,a2] T)).alloc (.cells #[b0,b1,b2] T)) W):
 W.cell? ⟨w.heap.size,0,none⟩=some a0∧W.cell? ⟨w.heap.size,1,none⟩=some a1∧W.cell? ⟨w.heap.size,2,none⟩=some a2∧W.cell? ⟨w.heap.size+1,0,none⟩=some b0∧W.cell? ⟨w.heap.size+1,1,none⟩=some b1∧W.cell? ⟨w.heap.size+1,2,none⟩=some b2:=by
 obtain⟨h1,_,_⟩:=uJ w (.cells #[a0,a1,a2] T) #[b0,b1,b2] T
 have h0:((w.alloc (.cells #[a0,a1,a2] T)).alloc (.cells #[b0,b1,b2] T)).heap[w.heap.size]?=some (.cells #[a0,a1,a2] T (0,0)):=(aj.alloc ay _ _).blk (heap_alloc_new w _) id
 exact⟨f.cell' (au h0 0 rfl) id,f.cell' (au h0 1 rfl) id,f.cell' (au h0 2 rfl) id,f.cell' (au h1 0 rfl) id,f.cell' (au h1 1 rfl) id,f.cell' (au h1 2 rfl) id⟩
theorem abH {ks ks':aS} {k:Nat} {key key':ByteArray} {es es':List aQ} {sub sub' rest rest':aS} (h:ks.drop k= .cons key es sub rest) (h':ks'.drop k= .cons key' es' sub' rest'):
 (ks.drop k=ks'.drop k)↔((key=key'∧es=es'∧sub=sub')∧ks.drop (k+1)=ks'.drop (k+1)):=by
 rw[aS.CQ k ks h,aS.CQ k ks' h',h,h']
 constructor
 ·intro e
  injection e with e1 e2 e3 e4
  exact⟨⟨e1,e2,e3⟩,e4⟩
 ·rintro⟨⟨rfl,rfl,rfl⟩,rfl⟩
  rfl
open Go.RowKit
open Go.RowKit
theorem Tryz.vec_cells:Tryz.prog.cellsOf 2=1:=by kernel_rfl
theorem abI (d:Nat) (a b:Int) (W:World):(Op.equalIn (d+1) 2 (.int .i64 a) (.int .i64 b)).run Tryz.prog W= .ok (a==b) W:=by
 simp[Op.equalIn,run_underlying Tryz.underlying2]
theorem UF (xs:Array Value) (k:Nat) (v:Value) (h:xs[k]?=some v) (W:World):(part 2 xs k).run Tryz.prog W= .ok v W:=by
 obtain⟨i0,hi,hz0,hz1,hz2⟩:=info_parts Cj
 simp[part,go_sem,h]
theorem Jw (d:Nat) (xs ys:Array Value) (i:Nat) (is:List Nat) (a b:Int) (hx:xs[i]?=some (.int .i64 a)) (hy:ys[i]?=some (.int .i64 b)) (W:World):
 (Op.eqItems (d+1) 2 1 xs ys (i::is)).run Tryz.prog W=if a=b then(Op.eqItems (d+1) 2 1 xs ys is).run Tryz.prog W else .ok false W:=by
 have h1:=UF xs i _ hx
 have h2:=UF ys i _ hy
 rw[Op.eqItems]
 simp only[Sem.run_bind,Nat.mul_one,h1,h2,Result.andThen_ok,abI]
 by_cases h:a=b
 ·rw[if_pos h];subst h;simp
 ·rw[if_neg h]
  have:(a==b)=false:=by simpa using h
  rw[this];simp
theorem NU (a0 a1 a2 a3 b0 b1 b2 b3:Int) (W:World):(Op.equal 25 (.agg #[.int .i64 a0, .int .i64 a1, .int .i64 a2, .int .i64 a3]) (.agg #[.int .i64 b0, .int .i64 b1, .int .i64 b2, .int .i64 b3])).run Tryz.prog W= .ok ((a0==b0)&&((a1==b1)&&((a2==b2)&&(a3==b3)))) W:=by
 obtain⟨i0,hi,hz0,hz1,hz2⟩:=info_parts Cj
 unfold Op.equal
 obtain⟨d,hd⟩:∃d,Op.maxDepth=d+1+1:=⟨Op.maxDepth-2,rfl⟩
 rw[hd,run_equalIn_array (d:=d+1) (hu:=Tryz.underlying25) (hi:=hi),Tryz.vec_cells,show List.range 4=[0,1,2,3]from rfl]
 rw[Jw d _ _ 0 _ a0 b0 rfl rfl,Jw d _ _ 1 _ a1 b1 rfl rfl,Jw d _ _ 2 _ a2 b2 rfl rfl,Jw d _ _ 3 _ a3 b3 rfl rfl]
 by_cases h0:a0=b0<;>by_cases h1:a1=b1<;>by_cases h2:a2=b2<;>by_cases h3:a3=b3<;>simp[h0,h1,h2,h3,Op.eqItems]
theorem FD (a0 a1 a2 a3 b0 b1 b2 b3:Int) (W:World):(binOp .eql 25 (.agg #[.int .i64 a0, .int .i64 a1, .int .i64 a2, .int .i64 a3]) (.agg #[.int .i64 b0, .int .i64 b1, .int .i64 b2, .int .i64 b3])).run Tryz.prog W= .ok (.bool ((a0==b0)&&((a1==b1)&&((a2==b2)&&(a3==b3))))) W:=by
 simp[binOp,NU]
theorem abJ (a0 a1 a2 a3:Int) (W:World):(binOp .eql 25 (.agg #[.int .i64 a0, .int .i64 a1, .int .i64 a2, .int .i64 a3]) (.agg #[.int .i64 a0, .int .i64 a1, .int .i64 a2, .int .i64 a3])).run Tryz.prog W= .ok (.bool true) W:=by
 rw[FD];simp
open Go.RowKit
theorem FH (w:World) (u0 u1 u2 u3 u4 u5 u6 u7 u8 u9 x0 x1 x2 x3 x4 x5 x6 x7 x8 x9:Value) (T:TypeId) (W:World) (f:aj ay ((w.alloc (.cells #[u0,u1,u2,u3,u4,u5,u6,u7,u8,u9] T)).alloc (.cells #[x0,x1,x2,x3,x4,x5,x6,x7,x8,x9] T)) W):
 (W.cell? ⟨w.heap.size,0,none⟩=some u0∧W.cell? ⟨w.heap.size,1,none⟩=some u1∧W.cell? ⟨w.heap.size,2,none⟩=some u2∧W.cell? ⟨w.heap.size,3,none⟩=some u3∧W.cell? ⟨w.heap.size,4,none⟩=some u4∧W.cell? ⟨w.heap.size,5,none⟩=some u5∧W.cell? ⟨w.heap.size,6,none⟩=some u6∧W.cell? ⟨w.heap.size,7,none⟩=some u7∧W.cell? ⟨w.heap.size,8,none⟩=some u8∧W.cell? ⟨w.heap.size,9,none⟩=some u9)∧W.cell? ⟨w.heap.size+1,0,none⟩=some x0∧W.cell? ⟨w.heap.size+1,1,none⟩=some x1∧W.cell? ⟨w.heap.size+1,2,none⟩=some x2∧W.cell? ⟨w.heap.size+1,3,none⟩=some x3∧W.cell? ⟨w.heap.size+1,4,none⟩=some x4∧W.cell? ⟨w.heap.size+1,5,none⟩=some x5∧W.cell? ⟨w.heap.size+1,6,none⟩=some x6∧W.cell? ⟨w.heap.size+1,7,none⟩=some x7∧W.cell? ⟨w.heap.size+1,8,none⟩=some x8∧W.cell? ⟨w.heap.size+1,9,none⟩=some x9:=by
 obtain⟨h1,_,_⟩:=uJ w (.cells #[u0,u1,u2,u3,u4,u5,u6,u7,u8,u9] T) #[x0,x1,x2,x3,x4,x5,x6,x7,x8,x9] T
 exact⟨EL w u0 u1 u2 u3 u4 u5 u6 u7 u8 u9 T W ((aj.alloc ay _ _).aC f),f.cell' (au h1 0 rfl) id,f.cell' (au h1 1 rfl) id,f.cell' (au h1 2 rfl) id,f.cell' (au h1 3 rfl) id,f.cell' (au h1 4 rfl) id,f.cell' (au h1 5 rfl) id,f.cell' (au h1 6 rfl) id,f.cell' (au h1 7 rfl) id,f.cell' (au h1 8 rfl) id,f.cell' (au h1 9 rfl) id⟩
def Jy (dc af la v0 v1 v2 v3 dc' wL la' v0' v1' v2' kG:Int) (es:List aQ) (ks:aS) (c:aX) (es':List aQ) (ks':aS) (c':aX):Prop:=
 dc=dc'∧af=wL∧la=la'∧(v0=v0'∧v1=v1'∧v2=v2'∧v3=kG)∧(es=es'∧ks=ks')∧c=c'
theorem nM.eX {dc af la:Int} {f:Int→Int} {es:List aQ} {ks:aS} {c:aX} (h:nM dc af la f es ks c):jM es ks c:=⟨h.tree,h.ctx,h.dots⟩
theorem abK {a0 a1 a2 a3 b0 b1 b2 b3:Int} (h:a0=b0∧a1=b1∧a2=b2∧a3=b3) (W:World):(binOp .eql 25 (.agg #[.int .i64 a0, .int .i64 a1, .int .i64 a2, .int .i64 a3]) (.agg #[.int .i64 b0, .int .i64 b1, .int .i64 b2, .int .i64 b3])).run Tryz.prog W= .ok (.bool true) W:=by
 rw[FD];simp[h.1,h.2.1,h.2.2.1,h.2.2.2]
theorem abL {a0 a1 a2 a3 b0 b1 b2 b3:Int} (h:¬(a0=b0∧a1=b1∧a2=b2∧a3=b3)) (W:World):(binOp .eql 25 (.agg #[.int .i64 a0, .int .i64 a1, .int .i64 a2, .int .i64 a3]) (.agg #[.int .i64 b0, .int .i64 b1, .int .i64 b2, .int .i64 b3])).run Tryz.prog W= .ok (.bool false) W:=by
 rw[FD]
 have:((a0==b0)&&((a1==b1)&&((a2==b2)&&(a3==b3))))=false:=by
  rw[Bool.eq_false_iff]
  intro e
  simp only[Bool.and_eq_true,beq_iff_eq]at e
  exact h e
 rw[this]
end Go.Proofs.YtabkpccdnkjoiaaGreat
