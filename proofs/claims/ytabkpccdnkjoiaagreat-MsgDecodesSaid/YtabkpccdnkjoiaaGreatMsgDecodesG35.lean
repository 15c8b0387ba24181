/- Words for the law MsgDecodes: MsgDec. -/
import Derived.Test.YtabkpccdnkjoiaaGreatMsgDecodesG0
import Derived.Test.YtabkpccdnkjoiaaGreatMsgDecodesG34
set_option linter.unusedSimpArgs false
set_option linter.unusedVariables false
set_option maxHeartbeats 32000000
set_option maxRecDepth 1000000
namespace Go.Proofs.YtabkpccdnkjoiaaGreat
open Go.RowKit
theorem aew (l:List UInt8) (v:Value) (w:World) (h:Rd w v l.length (bV l)) (h0:aT.gX l≠0):Calls Tryz.prog 13 #[v] w (vK l w):=by
 have HO:=ah (fun W (f:aj ay w W)=>aeu l v W (h.aJ f) h0)
 obtain⟨a,c,rfl⟩:=h.sl
 have HT:=ah (Og h0)
 have bD:=ah (aj.alloc ay w (.cells #[.int .i64 0, .int .i64 0, .int .i64 0, .int .i64 0, .int .i64 0, .int .i64 0, .int .i64 0, .slice none 0 0, .slice none 0 0, .slice none 0 0, .slice none 0 0] 36))
 have HB0:=ah (heap_alloc_new w (.cells #[.int .i64 0, .int .i64 0, .int .i64 0, .int .i64 0, .int .i64 0, .int .i64 0, .int .i64 0, .slice none 0 0, .slice none 0 0, .slice none 0 0, .slice none 0 0] 36))
 clear h
 generalize aT.gX l=k at*
 have hk:((k:Int)==0)=false:=beq_false_of_ne h0
 have hk':((k:Int) !=0)=true:=by rw[bne,hk];rfl
 clear h0
 go_enter Tryz.func13,Tryz.ntmps13
 go_wp2_with(go_at_call 54;refine(HO.out _ bD.out).mono ?_;rintro e w1 ⟨rfl,hw1⟩;have HW1:=ah hw1;have HB1:=ah (hw1.blk HB0.out id);clear hw1;have y0:=au HB1.out 0 rfl;have g0:=aG HB1.out 0;have y1:=au HB1.out 1 rfl;have g1:=aG HB1.out 1;have y2:=au HB1.out 2 rfl;have g2:=aG HB1.out 2;have y3:=au HB1.out 3 rfl;have g3:=aG HB1.out 3;have y4:=au HB1.out 4 rfl;have g4:=aG HB1.out 4;have y5:=au HB1.out 5 rfl;have g5:=aG HB1.out 5;have y6:=au HB1.out 6 rfl;have g6:=aG HB1.out 6;have y7:=au HB1.out 7 rfl;have g7:=aG HB1.out 7;have y8:=au HB1.out 8 rfl;have g8:=aG HB1.out 8;have y9:=au HB1.out 9 rfl;have g9:=aG HB1.out 9;have aY:=au HB1.out 10 rfl;have g10:=aG HB1.out 10;have yl:=lt_of_block HB1.out)
 clear y0 g0 y1 g1 y2 g2 y3 g3 y4 g4 y5 g5 y6 g6 y7 g7 y8 g8 y9 g9 aY g10 yl
 have hel:=mD HB1.out (.int .i64 0) (.int .i64 0) (.int .i64 0) (.int .i64 0) (.int .i64 0) (.int .i64 0) (.int .i64 0) (.slice none 0 0) (.slice none 0 0) (.slice none 0 0) (.slice none 0 0) _ rfl
 have y0:=au hel 0 rfl
 have y1:=au hel 1 rfl
 have y2:=au hel 2 rfl
 have y3:=au hel 3 rfl
 have y4:=au hel 4 rfl
 have y5:=au hel 5 rfl
 have y6:=au hel 6 rfl
 have y7:=au hel 7 rfl
 have y8:=au hel 8 rfl
 have y9:=au hel 9 rfl
 have aY:=au hel 10 rfl
 exact bodyPost_ret (v:= .tuple #[.agg #[.int .i64 0, .int .i64 0, .int .i64 0, .int .i64 0, .int .i64 0, .int .i64 0, .int .i64 0, .slice none 0 0, .slice none 0 0, .slice none 0 0, .slice none 0 0], .int .i64 k]) (by simp[results,Tryz.results13,go_sem,y0,y1,y2,y3,y4,y5,y6,y7,y8,y9,aY]) rfl (⟨k,bW.zero,[],_,_,_,_,HT.out,rfl,JJ _ _,yg,(bD.out.aC HW1.out).trans (mg w1 w.heap.size (.int .i64 0) (.int .i64 0) (.int .i64 0) (.int .i64 0) (.int .i64 0) (.int .i64 0) (.int .i64 0) (.slice none 0 0) (.slice none 0 0) (.slice none 0 0) (.slice none 0 0)) fun i hi e=>by have e:i=w.heap.size:=e;omega⟩)
theorem XA (l:List UInt8) (v:Value) (w:World) (h:Rd w v l.length (bV l)) (h0:aT.gX l=0) (hfit:zC (aT.jI l)):Calls Tryz.prog 13 #[v] w (vK l w):=by
 obtain⟨PG,hi,hz0,hz1,hz2⟩:=info_parts acU
 have HO:=ah (fun W (f:aj ay w W)=>aev l v W (h.aJ f) h0)
 obtain⟨a,c,rfl⟩:=h.sl
 have bD:=ah (aj.alloc ay w (.cells #[.int .i64 0, .int .i64 0, .int .i64 0, .int .i64 0, .int .i64 0, .int .i64 0, .int .i64 0, .slice none 0 0, .slice none 0 0, .slice none 0 0, .slice none 0 0] 36))
 have HB0:=ah (heap_alloc_new w (.cells #[.int .i64 0, .int .i64 0, .int .i64 0, .int .i64 0, .int .i64 0, .int .i64 0, .int .i64 0, .slice none 0 0, .slice none 0 0, .slice none 0 0, .slice none 0 0] 36))
 clear h
 have GI:=ah (fun m (hd:qH (aT.jI l) (some m))=>JD h0 hd)
 have nT:=ah (fun(hd:qH (aT.jI l) none)=>Oe h0 hd)
 have PI:=ah hfit
 have HLEN:=ah hfit.len
 clear h0 hfit
 generalize aT.jI l=x at*
 obtain⟨kind,fr,tt,v0,v1,v2,v3,s1,s2,s3,s4,n,s5,g1,g2,g3,g4,g5⟩:=Vg 4 4 x
 have uV:=ah (show FN 4 4 x kind fr tt v0 v1 v2 v3 s4 from⟨s1,s2,s3,g1,g2,g3,g4⟩)
 have hn16:=Vh g5
 have G1:=ah g1;have G2:=ah g2;have G3:=ah g3;have G4:=ah g4;have G5:=ah g5
 clear g1 g2 g3 g4 g5
 go_enter Tryz.func13,Tryz.ntmps13
 go_wp2_with(first
  |(go_at_call 54;refine(HO.out _ bD.out).mono ?_;rintro e w1 ⟨a1,c1,t1,ht1,rfl,uU⟩;have HT1:=ah ht1;have bH:=ah uU;have HB1:=ah (uU.aH.blk HB0.out id);clear uU ht1)
  |(go_at_call 55;refine(aaQ _ t1 _ bH.out.rd (by rw[HT1.out];have:=HLEN.out;omega)).mono ?_;rintro e w2 ⟨ib,rfl,hi2,hb2,hf2⟩
    have hib:w.heap.size<ib:=by
     have h1:=bH.out.aH.size
     have h2:(w.alloc (.cells #[.int .i64 0, .int .i64 0, .int .i64 0, .int .i64 0, .int .i64 0, .int .i64 0, .int .i64 0, .slice none 0 0, .slice none 0 0, .slice none 0 0, .slice none 0 0] 36)).heap.size=w.heap.size+1:=by simp
     omega
    have PK:aj ay w1 w2:=hf2.mono fun _ _ h=>h.elim
    have HB2:=ah (PK.blk HB1.out id)
    have HI0:=ah (show dJ w2 ib (some x) by rw[←HT1.out];exact hi2)
    have HW2:=ah ((bD.out.aC bH.out.aH).aC PK)
    have aex:ib<w2.heap.size:=hi2.lt
    clear hi2 hb2 hf2 PK)
  |(go_at_call 56;first
    |(have q9:=HI4;clear q9;refine(lG ib _ 16 n _ _ HI4.out G5.out (by omega) (by omega)).mono ?_;rintro e w7 ⟨rfl,hi,hf⟩;have zh:=ah hi;have iJ:=ah hf;clear hi hf)
    |(have q9:=HI2;clear q9;refine(lG ib _ 4 tt _ _ HI2.out G3.out (by omega) (by omega)).mono ?_;rintro e w5 ⟨rfl,hi,hf⟩;have HI3:=ah hi;have HF3:=ah hf;clear hi hf)
    |(have q9:=HI1;clear q9;refine(lG ib _ 4 fr _ _ HI1.out G2.out (by omega) (by omega)).mono ?_;rintro e w4 ⟨rfl,hi,hf⟩;have HI2:=ah hi;have HF2:=ah hf;clear hi hf)
    |(have q9:=HI0;clear q9;refine(lG ib _ 4 kind _ _ HI0.out G1.out (by omega) (by omega)).mono ?_;rintro e w3 ⟨rfl,hi,hf⟩;have HI1:=ah hi;have bg:=ah hf;clear hi hf))
  |(go_at_call 57;refine(VT ib s3 s4 v0 v1 v2 v3 _ G4.out HI3.out).mono ?_;rintro e w6 ⟨rfl,hi,hf⟩
    have hfa:=aj.alloc ay w6 (.cells #[.int .i64 kind, .int .i64 fr, .int .i64 tt, .int .i64 v0, .int .i64 v1, .int .i64 v2, .int .i64 v3, .slice none 0 0, .slice none 0 0, .slice none 0 0, .slice none 0 0] 36)
    have HI4:=ah (hi.keep hfa fun _ _ h=>h);have iI:=ah hf;clear hi hf hfa))
 clear bH HO HB1 HI1 HI2 HI3
 have GK:aj (Only ib) w2 w6:=((bg.out.trans HF2.out fun _ _ h=>h).trans HF3.out fun _ _ h=>h).trans iI.out fun _ _ h=>h
 have PL:aj (Only ib) w2 w7:=(GK.trans (aj.alloc (Only ib) w6 (.cells #[.int .i64 kind, .int .i64 fr, .int .i64 tt, .int .i64 v0, .int .i64 v1, .int .i64 v2, .int .i64 v3, .slice none 0 0, .slice none 0 0, .slice none 0 0, .slice none 0 0] 36)) fun _ _ h=>h).trans iJ.out fun _ _ h=>h
 have hG0:DG w w2 w7 ib w6.heap.size s5 #[.int .i64 kind, .int .i64 fr, .int .i64 tt, .int .i64 v0, .int .i64 v1, .int .i64 v2, .int .i64 v3, .slice none 0 0, .slice none 0 0, .slice none 0 0, .slice none 0 0] [] (.slice none 0 0):=
  ⟨zh.out,iJ.out.blk (heap_alloc_new w6 _) (fun e=>by have e:w6.heap.size=ib:=e;have:=GK.size;omega),PL.blk HB2.out (fun e=>by have e:w.heap.size=ib:=e;omega),HW2.out,hib,aex,GK.size,jq.start (fun k hk=>by have hk:k=ib:=hk;omega) (fun k hk=>by have hk:k=w6.heap.size:=hk;have:=GK.size;omega) (fun k hk=>by
    have hk:k=w6.heap.size:=hk
    have h1:(w6.alloc (.cells #[.int .i64 kind, .int .i64 fr, .int .i64 tt, .int .i64 v0, .int .i64 v1, .int .i64 v2, .int .i64 v3, .slice none 0 0, .slice none 0 0, .slice none 0 0, .slice none 0 0] 36)).heap.size=w6.heap.size+1:=by simp
    have:=iJ.out.size
    omega) PL,lJ.nil _ _⟩
 have rF:=ah hG0
 clear hG0 GK PL bg HF2 HF3 iI iJ HI4 zh HI0 HB2
 go_loopw [9] (fun i W=>∃(q:Nat) (ps:List aZ) (s:Option (List UInt8)) (lv:Value),q≤n.toNat∧i= .int .i64 q∧Run jT s5 q (ps.map (·.b)) s∧DG w w2 W ib w6.heap.size s #[.int .i64 kind, .int .i64 fr, .int .i64 tt, .int .i64 v0, .int .i64 v1, .int .i64 v2, .int .i64 v3,lv, .slice none 0 0, .slice none 0 0, .slice none 0 0] ps lv∧∀p∈ps,jd p.b.es p.b.ks p.b.c) (fun i _=>n.toNat-(intOf i).toNat)
 case atStart=>exact⟨0,[],s5,_,Nat.zero_le _,rfl, .zero,rF.out,fun p hp=>by cases hp⟩
 case round=>
  clear rF
  obtain⟨q,ps,s,lv,hq,rfl,hrun,hg,hall⟩:=hrel
  have hpl:ps.length=q:=by have:=hrun.len;simpa using this
  obtain⟨aV,cV,rfl⟩:=(Rd.own hg.fQ.own).sl
  rw[hpl]at hg
  have HG:=ah hg;clear hg
  have jA:=ah hrun;clear hrun
  have rH:=ah hall;clear hall
  have jY:=ah hpl;clear hpl
  have hfs:=Vf (by decide) (by decide) (by decide) (by decide) PI.out uV.out G5.out jA.out
  have rM:=ah hfs.1
  have ou:=ah hfs.2.1
  have yC:=ah hfs.2.2
  clear hfs
  by_cases hlt:(q:Int)<n
  rotate_left 1
  ·have vU:=ah (show q=n.toNat∨s=none from .inl (by omega))
   have BU:=ah (yC.out (by omega))
   clear ou yC
   by_cases hkd:kind=2
   rotate_left 1
   ·have c2':((kind:Int)==2)=false:=beq_false_of_ne hkd
    have HST:=ah (show qI 4 4 x ⟨kind,fr,tt,v0,v1,v2,v3,ps.map (·.b),[], .nil,[]⟩ n q s4 s5 s s from⟨uV.out,G5.out,jA.out,vU.out,hq,by rw[if_neg hkd];exact⟨⟨rfl,rfl,rfl⟩,rfl⟩⟩)
    have bT:=ah (show kZ ⟨kind,fr,tt,v0,v1,v2,v3,ps.map (·.b),[], .nil,[]⟩from⟨fun b hb=>by
     obtain⟨p,hp,rfl⟩:=List.mem_map.1 hb
     exact rH.out p hp,by rw[List.length_map,jY.out];omega,yg.st⟩)
    clear hkd
    by_cases hn0:n<0
    ·have HDR:=ah (nT.out (HST.out.bad (by decide) (by decide) (by decide) (by decide) (.inl hn0)))
     clear HST bT
     obtain⟨z0,z1,z2,z3,z4,z5,z6,z7,z8,z9,z10⟩:=cu HG.out.arr;have zl:=HG.out.lB
     obtain⟨y0,y1,y2,y3,y4,y5,y6,y7,y8,y9,aY⟩:=cu HG.out.res;obtain⟨g0,g1,g2,g3,g4,g5,g6,g7,g8,g9,g10⟩:=jV HG.out.res;have yl:=lt_of_block HG.out.res
     go_wp2
     clear z0 z1 z2 z3 z4 z5 z6 z7 z8 z9 z10 zl y0 g0 y1 g1 y2 g2 y3 g3 y4 g4 y5 g5 y6 g6 y7 g7 y8 g8 y9 g9 aY g10 yl
     have hel:=mD HG.out.res (.int .i64 0) (.int .i64 0) (.int .i64 0) (.int .i64 0) (.int .i64 0) (.int .i64 0) (.int .i64 0) (.slice none 0 0) (.slice none 0 0) (.slice none 0 0) (.slice none 0 0) _ rfl
     obtain⟨y0,y1,y2,y3,y4,y5,y6,y7,y8,y9,aY⟩:=cu hel
     exact bodyPost_ret (v:= .tuple #[.agg #[.int .i64 0, .int .i64 0, .int .i64 0, .int .i64 0, .int .i64 0, .int .i64 0, .int .i64 0, .slice none 0 0, .slice none 0 0, .slice none 0 0, .slice none 0 0], .int .i64 2]) (by simp[results,Tryz.results13,go_sem,y0,y1,y2,y3,y4,y5,y6,y7,y8,y9,aY]) rfl (HG.out.pY HDR.out (mg wr w.heap.size (.int .i64 0) (.int .i64 0) (.int .i64 0) (.int .i64 0) (.int .i64 0) (.int .i64 0) (.int .i64 0) (.slice none 0 0) (.slice none 0 0) (.slice none 0 0) (.slice none 0 0)))
    have GL:¬n<0:=by omega
    cases hdn:nO s with
    |false=>
     have eF:=ah (fun W h=>(show Calls Tryz.prog 61 #[.pointer (some ⟨ib,0,none⟩)] W fun e w'=>e= .returned (.bool false)∧W=w' from hdn▸Dl ib s W h))
     have HDR:=ah (nT.out (HST.out.bad (by decide) (by decide) (by decide) (by decide) (.inr (.inl fun h=>by rw[h]at hdn;cases hdn))))
     clear HST bT hdn
     obtain⟨z0,z1,z2,z3,z4,z5,z6,z7,z8,z9,z10⟩:=cu HG.out.arr;have zl:=HG.out.lB
     obtain⟨y0,y1,y2,y3,y4,y5,y6,y7,y8,y9,aY⟩:=cu HG.out.res;obtain⟨g0,g1,g2,g3,g4,g5,g6,g7,g8,g9,g10⟩:=jV HG.out.res;have yl:=lt_of_block HG.out.res
     go_wp2_with(first
      |(go_at_call 61;refine(eF.out _ HG.out.ins).mono ?_;rintro e w9 ⟨rfl,rfl⟩))
     clear z0 z1 z2 z3 z4 z5 z6 z7 z8 z9 z10 zl y0 g0 y1 g1 y2 g2 y3 g3 y4 g4 y5 g5 y6 g6 y7 g7 y8 g8 y9 g9 aY g10 yl
     have hel:=mD HG.out.res (.int .i64 0) (.int .i64 0) (.int .i64 0) (.int .i64 0) (.int .i64 0) (.int .i64 0) (.int .i64 0) (.slice none 0 0) (.slice none 0 0) (.slice none 0 0) (.slice none 0 0) _ rfl
     obtain⟨y0,y1,y2,y3,y4,y5,y6,y7,y8,y9,aY⟩:=cu hel
     exact bodyPost_ret (v:= .tuple #[.agg #[.int .i64 0, .int .i64 0, .int .i64 0, .int .i64 0, .int .i64 0, .int .i64 0, .int .i64 0, .slice none 0 0, .slice none 0 0, .slice none 0 0, .slice none 0 0], .int .i64 2]) (by simp[results,Tryz.results13,go_sem,y0,y1,y2,y3,y4,y5,y6,y7,y8,y9,aY]) rfl (HG.out.pY HDR.out (mg wr w.heap.size (.int .i64 0) (.int .i64 0) (.int .i64 0) (.int .i64 0) (.int .i64 0) (.int .i64 0) (.int .i64 0) (.slice none 0 0) (.slice none 0 0) (.slice none 0 0) (.slice none 0 0)))
    |true=>
     have hs7:s=some []:=JK hdn
     have eF:=ah (fun W h=>(show Calls Tryz.prog 61 #[.pointer (some ⟨ib,0,none⟩)] W fun e w'=>e= .returned (.bool true)∧W=w' from hdn▸Dl ib s W h))
     clear hdn
     by_cases hr:bW.right ⟨kind,fr,tt,v0,v1,v2,v3,ps.map (·.b),[], .nil,[]⟩
     rotate_left 1
     ·have HDR:=ah (nT.out (HST.out.bad (by decide) (by decide) (by decide) (by decide) (.inr (.inr hr))))
      clear HST hs7
      obtain⟨z0,z1,z2,z3,z4,z5,z6,z7,z8,z9,z10⟩:=cu HG.out.arr;have zl:=HG.out.lB
      obtain⟨y0,y1,y2,y3,y4,y5,y6,y7,y8,y9,aY⟩:=cu HG.out.res;obtain⟨g0,g1,g2,g3,g4,g5,g6,g7,g8,g9,g10⟩:=jV HG.out.res;have yl:=lt_of_block HG.out.res
      have dU:=ah (show Calls Tryz.prog 62 #[.agg #[.int .i64 kind, .int .i64 fr, .int .i64 tt, .int .i64 v0, .int .i64 v1, .int .i64 v2, .int .i64 v3, .slice aV q cV, .slice none 0 0, .slice none 0 0, .slice none 0 0]] wr fun e w'=>e= .returned (.bool false)∧aj ay wr w' from(bf hr)▸Gw (iV w2 (Only w6.heap.size) (.slice aV q cV)) ⟨kind,fr,tt,v0,v1,v2,v3,ps.map (·.b),[], .nil,[]⟩ ps _ _ _ _ _ ⟨HG.out.fQ.yu HG.out.each.eX,rfl,zH _ _⟩ bT.out)
      have HR:=ah hr;clear hr
      go_wp2_with(first
       |(go_at_call 61;refine(eF.out _ HG.out.ins).mono ?_;rintro e w9 ⟨rfl,rfl⟩)
       |(go_at_call 62;refine dU.out.mono ?_;rintro e w10 ⟨rfl,jk⟩;clear z0 z1 z2 z3 z4 z5 z6 z7 z8 z9 z10 zl y0 g0 y1 g1 y2 g2 y3 g3 y4 g4 y5 g5 y6 g6 y7 g7 y8 g8 y9 g9 aY g10 yl;have eu:=HG.out.aJ jk;obtain⟨z0,z1,z2,z3,z4,z5,z6,z7,z8,z9,z10⟩:=cu eu.arr;have zl:=eu.lB;obtain⟨y0,y1,y2,y3,y4,y5,y6,y7,y8,y9,aY⟩:=cu eu.res;obtain⟨g0,g1,g2,g3,g4,g5,g6,g7,g8,g9,g10⟩:=jV eu.res;have yl:=lt_of_block eu.res;have mG:=ah eu;have BJ:=ah jk;clear eu jk))
      clear z0 z1 z2 z3 z4 z5 z6 z7 z8 z9 z10 zl y0 g0 y1 g1 y2 g2 y3 g3 y4 g4 y5 g5 y6 g6 y7 g7 y8 g8 y9 g9 aY g10 yl
      have hel:=mD mG.out.res (.int .i64 0) (.int .i64 0) (.int .i64 0) (.int .i64 0) (.int .i64 0) (.int .i64 0) (.int .i64 0) (.slice none 0 0) (.slice none 0 0) (.slice none 0 0) (.slice none 0 0) _ rfl
      obtain⟨y0,y1,y2,y3,y4,y5,y6,y7,y8,y9,aY⟩:=cu hel
      exact bodyPost_ret (v:= .tuple #[.agg #[.int .i64 0, .int .i64 0, .int .i64 0, .int .i64 0, .int .i64 0, .int .i64 0, .int .i64 0, .slice none 0 0, .slice none 0 0, .slice none 0 0, .slice none 0 0], .int .i64 2]) (by simp[results,Tryz.results13,go_sem,y0,y1,y2,y3,y4,y5,y6,y7,y8,y9,aY]) rfl (mG.out.pY HDR.out (mg w10 w.heap.size (.int .i64 0) (.int .i64 0) (.int .i64 0) (.int .i64 0) (.int .i64 0) (.int .i64 0) (.int .i64 0) (.slice none 0 0) (.slice none 0 0) (.slice none 0 0) (.slice none 0 0)))
     have HDR:=ah (GI.out _ (qI.good (hs7▸HST.out) (by omega) hr))
     clear HST hs7
     obtain⟨z0,z1,z2,z3,z4,z5,z6,z7,z8,z9,z10⟩:=cu HG.out.arr;have zl:=HG.out.lB
     obtain⟨y0,y1,y2,y3,y4,y5,y6,y7,y8,y9,aY⟩:=cu HG.out.res;obtain⟨g0,g1,g2,g3,g4,g5,g6,g7,g8,g9,g10⟩:=jV HG.out.res;have yl:=lt_of_block HG.out.res
     have dU:=ah (show Calls Tryz.prog 62 #[.agg #[.int .i64 kind, .int .i64 fr, .int .i64 tt, .int .i64 v0, .int .i64 v1, .int .i64 v2, .int .i64 v3, .slice aV q cV, .slice none 0 0, .slice none 0 0, .slice none 0 0]] wr fun e w'=>e= .returned (.bool true)∧aj ay wr w' from(dO hr)▸Gw (iV w2 (Only w6.heap.size) (.slice aV q cV)) ⟨kind,fr,tt,v0,v1,v2,v3,ps.map (·.b),[], .nil,[]⟩ ps _ _ _ _ _ ⟨HG.out.fQ.yu HG.out.each.eX,rfl,zH _ _⟩ bT.out)
     have HR:=ah hr;clear hr
     go_wp2_with(first
      |(go_at_call 61;refine(eF.out _ HG.out.ins).mono ?_;rintro e w9 ⟨rfl,rfl⟩)
      |(go_at_call 62;refine dU.out.mono ?_;rintro e w10 ⟨rfl,jk⟩;clear z0 z1 z2 z3 z4 z5 z6 z7 z8 z9 z10 zl y0 g0 y1 g1 y2 g2 y3 g3 y4 g4 y5 g5 y6 g6 y7 g7 y8 g8 y9 g9 aY g10 yl;have eu:=HG.out.aJ jk;obtain⟨z0,z1,z2,z3,z4,z5,z6,z7,z8,z9,z10⟩:=cu eu.arr;have zl:=eu.lB;obtain⟨y0,y1,y2,y3,y4,y5,y6,y7,y8,y9,aY⟩:=cu eu.res;obtain⟨g0,g1,g2,g3,g4,g5,g6,g7,g8,g9,g10⟩:=jV eu.res;have yl:=lt_of_block eu.res;have mG:=ah eu;have BJ:=ah jk;clear eu jk))
     clear z0 z1 z2 z3 z4 z5 z6 z7 z8 z9 z10 zl y0 g0 y1 g1 y2 g2 y3 g3 y4 g4 y5 g5 y6 g6 y7 g7 y8 g8 y9 g9 aY g10 yl
     have hel:=mD mG.out.res (.int .i64 kind) (.int .i64 fr) (.int .i64 tt) (.int .i64 v0) (.int .i64 v1) (.int .i64 v2) (.int .i64 v3) (.slice aV q cV) (.slice none 0 0) (.slice none 0 0) (.slice none 0 0) _ rfl
     obtain⟨y0,y1,y2,y3,y4,y5,y6,y7,y8,y9,aY⟩:=cu hel
     exact bodyPost_ret (v:= .tuple #[.agg #[.int .i64 kind, .int .i64 fr, .int .i64 tt, .int .i64 v0, .int .i64 v1, .int .i64 v2, .int .i64 v3, .slice aV q cV, .slice none 0 0, .slice none 0 0, .slice none 0 0], .int .i64 0]) (by simp[results,Tryz.results13,go_sem,y0,y1,y2,y3,y4,y5,y6,y7,y8,y9,aY]) rfl (mG.out.GH (m:=⟨kind,fr,tt,v0,v1,v2,v3,ps.map (·.b),[], .nil,[]⟩) HDR.out rfl bT.out ⟨(zH _ _).tree,wK _ _⟩ (mg w10 w.heap.size (.int .i64 kind) (.int .i64 fr) (.int .i64 tt) (.int .i64 v0) (.int .i64 v1) (.int .i64 v2) (.int .i64 v3) (.slice aV q cV) (.slice none 0 0) (.slice none 0 0) (.slice none 0 0)))
   subst hkd
   obtain⟨es,ks,c,s7,hcr⟩:=kW.total s
   have fU:=ah hcr
   have ni:=ah (BU.out rfl)
   have HST:=ah (show qI 4 4 x ⟨2,fr,tt,v0,v1,v2,v3,ps.map (·.b),es,ks,c⟩ n q s4 s5 s s7 from⟨uV.out,G5.out,jA.out,vU.out,hq,by rw[if_pos (show(2:Int)=2 from rfl)];exact hcr⟩)
   have bT:=ah (show kZ ⟨2,fr,tt,v0,v1,v2,v3,ps.map (·.b),es,ks,c⟩from⟨fun b hb=>by
    obtain⟨p,hp,rfl⟩:=List.mem_map.1 hb
    exact rH.out p hp,by rw[List.length_map,jY.out];omega,oP.ok ni.out hcr⟩)
   clear hcr
   by_cases hn0:n<0
   ·have HDR:=ah (nT.out (HST.out.bad (by decide) (by decide) (by decide) (by decide) (.inl hn0)))
    clear HST bT
    obtain⟨z0,z1,z2,z3,z4,z5,z6,z7,z8,z9,z10⟩:=cu HG.out.arr;have zl:=HG.out.lB
    go_wp2_with(first
     |(go_at_call 60;refine(Dy ib s s7 es ks c wr fU.out HG.out.ins rM.out ni.out).mono ?_;rintro e w8 ⟨ev,kv,cv,rfl,iL,hc8,lq,cZ⟩;obtain⟨e0,d0,e1,d1,e2,d2,rfl,rfl,rfl⟩:=(gK.mk iL (dP.at_ hc8)).shape;generalize es.length=m0 at*;generalize ks.len=m1 at*;generalize c.length=m2 at*;clear z0 z1 z2 z3 z4 z5 z6 z7 z8 z9 z10 zl;have bU:=HG.out.call lq cZ;obtain⟨z0,z1,z2,z3,z4,z5,z6,z7,z8,z9,z10⟩:=cu bU.arr;have f8:=aG bU.arr 8;have f9:=aG bU.arr 9;have f10:=aG bU.arr 10;have zl:=bU.lB;obtain⟨y0,y1,y2,y3,y4,y5,y6,y7,y8,y9,aY⟩:=cu bU.res;obtain⟨g0,g1,g2,g3,g4,g5,g6,g7,g8,g9,g10⟩:=jV bU.res;have yl:=lt_of_block bU.res;have hne:¬w6.heap.size=w.heap.size:=(by have h1:=bU.hB;have h2:=bU.hib;have h3:=bU.rO;omega);obtain⟨jD,iW,jJ⟩:=HG.out.eX lq cZ iL hc8;have jK:=ah jD;have nC:=ah iW;have nD:=ah jJ;clear bU jD iL hc8 lq cZ iW jJ))
    clear z0 z1 z2 z3 z4 z5 z6 z7 z8 z9 z10 zl y0 g0 y1 g1 y2 g2 y3 g3 y4 g4 y5 g5 y6 g6 y7 g7 y8 g8 y9 g9 aY g10 yl f8 f9 f10 hne
    have hel:=mD jK.out.res (.int .i64 0) (.int .i64 0) (.int .i64 0) (.int .i64 0) (.int .i64 0) (.int .i64 0) (.int .i64 0) (.slice none 0 0) (.slice none 0 0) (.slice none 0 0) (.slice none 0 0) _ rfl
    obtain⟨y0,y1,y2,y3,y4,y5,y6,y7,y8,y9,aY⟩:=cu hel
    exact bodyPost_ret (v:= .tuple #[.agg #[.int .i64 0, .int .i64 0, .int .i64 0, .int .i64 0, .int .i64 0, .int .i64 0, .int .i64 0, .slice none 0 0, .slice none 0 0, .slice none 0 0, .slice none 0 0], .int .i64 2]) (by simp[results,Tryz.results13,go_sem,y0,y1,y2,y3,y4,y5,y6,y7,y8,y9,aY]) rfl (jK.out.pY HDR.out (mg (((w8.setCell ⟨w6.heap.size,8,none⟩ (.slice e0 m0 d0)).setCell ⟨w6.heap.size,9,none⟩ (.slice e1 m1 d1)).setCell ⟨w6.heap.size,10,none⟩ (.slice e2 m2 d2)) w.heap.size (.int .i64 0) (.int .i64 0) (.int .i64 0) (.int .i64 0) (.int .i64 0) (.int .i64 0) (.int .i64 0) (.slice none 0 0) (.slice none 0 0) (.slice none 0 0) (.slice none 0 0)))
   have GL:¬n<0:=by omega
   cases hdn:nO s7 with
   |false=>
    have eF:=ah (fun W h=>(show Calls Tryz.prog 61 #[.pointer (some ⟨ib,0,none⟩)] W fun e w'=>e= .returned (.bool false)∧W=w' from hdn▸Dl ib s7 W h))
    have HDR:=ah (nT.out (HST.out.bad (by decide) (by decide) (by decide) (by decide) (.inr (.inl fun h=>by rw[h]at hdn;cases hdn))))
    clear HST bT hdn
    obtain⟨z0,z1,z2,z3,z4,z5,z6,z7,z8,z9,z10⟩:=cu HG.out.arr;have zl:=HG.out.lB
    go_wp2_with(first
     |(go_at_call 60;refine(Dy ib s s7 es ks c wr fU.out HG.out.ins rM.out ni.out).mono ?_;rintro e w8 ⟨ev,kv,cv,rfl,iL,hc8,lq,cZ⟩;obtain⟨e0,d0,e1,d1,e2,d2,rfl,rfl,rfl⟩:=(gK.mk iL (dP.at_ hc8)).shape;generalize es.length=m0 at*;generalize ks.len=m1 at*;generalize c.length=m2 at*;clear z0 z1 z2 z3 z4 z5 z6 z7 z8 z9 z10 zl;have bU:=HG.out.call lq cZ;obtain⟨z0,z1,z2,z3,z4,z5,z6,z7,z8,z9,z10⟩:=cu bU.arr;have f8:=aG bU.arr 8;have f9:=aG bU.arr 9;have f10:=aG bU.arr 10;have zl:=bU.lB;obtain⟨y0,y1,y2,y3,y4,y5,y6,y7,y8,y9,aY⟩:=cu bU.res;obtain⟨g0,g1,g2,g3,g4,g5,g6,g7,g8,g9,g10⟩:=jV bU.res;have yl:=lt_of_block bU.res;have hne:¬w6.heap.size=w.heap.size:=(by have h1:=bU.hB;have h2:=bU.hib;have h3:=bU.rO;omega);obtain⟨jD,iW,jJ⟩:=HG.out.eX lq cZ iL hc8;have jK:=ah jD;have nC:=ah iW;have nD:=ah jJ;clear bU jD iL hc8 lq cZ iW jJ)
     |(go_at_call 61;refine(eF.out _ jK.out.ins).mono ?_;rintro e w9 ⟨rfl,rfl⟩))
    clear z0 z1 z2 z3 z4 z5 z6 z7 z8 z9 z10 zl y0 g0 y1 g1 y2 g2 y3 g3 y4 g4 y5 g5 y6 g6 y7 g7 y8 g8 y9 g9 aY g10 yl f8 f9 f10 hne
    have hel:=mD jK.out.res (.int .i64 0) (.int .i64 0) (.int .i64 0) (.int .i64 0) (.int .i64 0) (.int .i64 0) (.int .i64 0) (.slice none 0 0) (.slice none 0 0) (.slice none 0 0) (.slice none 0 0) _ rfl
    obtain⟨y0,y1,y2,y3,y4,y5,y6,y7,y8,y9,aY⟩:=cu hel
    exact bodyPost_ret (v:= .tuple #[.agg #[.int .i64 0, .int .i64 0, .int .i64 0, .int .i64 0, .int .i64 0, .int .i64 0, .int .i64 0, .slice none 0 0, .slice none 0 0, .slice none 0 0, .slice none 0 0], .int .i64 2]) (by simp[results,Tryz.results13,go_sem,y0,y1,y2,y3,y4,y5,y6,y7,y8,y9,aY]) rfl (jK.out.pY HDR.out (mg (((w8.setCell ⟨w6.heap.size,8,none⟩ (.slice e0 m0 d0)).setCell ⟨w6.heap.size,9,none⟩ (.slice e1 m1 d1)).setCell ⟨w6.heap.size,10,none⟩ (.slice e2 m2 d2)) w.heap.size (.int .i64 0) (.int .i64 0) (.int .i64 0) (.int .i64 0) (.int .i64 0) (.int .i64 0) (.int .i64 0) (.slice none 0 0) (.slice none 0 0) (.slice none 0 0) (.slice none 0 0)))
   |true=>
    have hs7:s7=some []:=JK hdn
    have eF:=ah (fun W h=>(show Calls Tryz.prog 61 #[.pointer (some ⟨ib,0,none⟩)] W fun e w'=>e= .returned (.bool true)∧W=w' from hdn▸Dl ib s7 W h))
    clear hdn
    by_cases hr:bW.right ⟨2,fr,tt,v0,v1,v2,v3,ps.map (·.b),es,ks,c⟩
    rotate_left 1
    ·have HDR:=ah (nT.out (HST.out.bad (by decide) (by decide) (by decide) (by decide) (.inr (.inr hr))))
     clear HST hs7
     obtain⟨z0,z1,z2,z3,z4,z5,z6,z7,z8,z9,z10⟩:=cu HG.out.arr;have zl:=HG.out.lB
     have HR:=ah hr;clear hr
     go_wp2_with(first
      |(go_at_call 60;refine(Dy ib s s7 es ks c wr fU.out HG.out.ins rM.out ni.out).mono ?_;rintro e w8 ⟨ev,kv,cv,rfl,iL,hc8,lq,cZ⟩;obtain⟨e0,d0,e1,d1,e2,d2,rfl,rfl,rfl⟩:=(gK.mk iL (dP.at_ hc8)).shape;generalize es.length=m0 at*;generalize ks.len=m1 at*;generalize c.length=m2 at*;clear z0 z1 z2 z3 z4 z5 z6 z7 z8 z9 z10 zl;have bU:=HG.out.call lq cZ;obtain⟨z0,z1,z2,z3,z4,z5,z6,z7,z8,z9,z10⟩:=cu bU.arr;have f8:=aG bU.arr 8;have f9:=aG bU.arr 9;have f10:=aG bU.arr 10;have zl:=bU.lB;obtain⟨y0,y1,y2,y3,y4,y5,y6,y7,y8,y9,aY⟩:=cu bU.res;obtain⟨g0,g1,g2,g3,g4,g5,g6,g7,g8,g9,g10⟩:=jV bU.res;have yl:=lt_of_block bU.res;have hne:¬w6.heap.size=w.heap.size:=(by have h1:=bU.hB;have h2:=bU.hib;have h3:=bU.rO;omega);obtain⟨jD,iW,jJ⟩:=HG.out.eX lq cZ iL hc8;have dU:=ah (show Calls Tryz.prog 62 #[.agg #[.int .i64 2, .int .i64 fr, .int .i64 tt, .int .i64 v0, .int .i64 v1, .int .i64 v2, .int .i64 v3, .slice aV q cV, .slice e0 m0 d0, .slice e1 m1 d1, .slice e2 m2 d2]] (((w8.setCell ⟨w6.heap.size,8,none⟩ (.slice e0 m0 d0)).setCell ⟨w6.heap.size,9,none⟩ (.slice e1 m1 d1)).setCell ⟨w6.heap.size,10,none⟩ (.slice e2 m2 d2)) fun e w'=>e= .returned (.bool false)∧aj ay (((w8.setCell ⟨w6.heap.size,8,none⟩ (.slice e0 m0 d0)).setCell ⟨w6.heap.size,9,none⟩ (.slice e1 m1 d1)).setCell ⟨w6.heap.size,10,none⟩ (.slice e2 m2 d2)) w' from(bf HR.out)▸Gw (iV w2 (Only w6.heap.size) (.slice aV q cV)) ⟨2,fr,tt,v0,v1,v2,v3,ps.map (·.b),es,ks,c⟩ ps _ _ _ _ _ ⟨jD.fQ.yu jD.each.eX,rfl,⟨iW,dP.at_ jJ⟩⟩ bT.out);have jK:=ah jD;have nC:=ah iW;have nD:=ah jJ;clear bU jD iL hc8 lq cZ iW jJ)
      |(go_at_call 61;refine(eF.out _ jK.out.ins).mono ?_;rintro e w9 ⟨rfl,rfl⟩)
      |(go_at_call 62;refine dU.out.mono ?_;rintro e w10 ⟨rfl,jk⟩;clear z0 z1 z2 z3 z4 z5 z6 z7 z8 z9 z10 zl y0 g0 y1 g1 y2 g2 y3 g3 y4 g4 y5 g5 y6 g6 y7 g7 y8 g8 y9 g9 aY g10 yl f8 f9 f10 hne;have eu:=jK.out.aJ jk;obtain⟨z0,z1,z2,z3,z4,z5,z6,z7,z8,z9,z10⟩:=cu eu.arr;have zl:=eu.lB;obtain⟨y0,y1,y2,y3,y4,y5,y6,y7,y8,y9,aY⟩:=cu eu.res;obtain⟨g0,g1,g2,g3,g4,g5,g6,g7,g8,g9,g10⟩:=jV eu.res;have yl:=lt_of_block eu.res;have mG:=ah eu;have BJ:=ah jk;clear eu jk))
     clear z0 z1 z2 z3 z4 z5 z6 z7 z8 z9 z10 zl y0 g0 y1 g1 y2 g2 y3 g3 y4 g4 y5 g5 y6 g6 y7 g7 y8 g8 y9 g9 aY g10 yl
     have hel:=mD mG.out.res (.int .i64 0) (.int .i64 0) (.int .i64 0) (.int .i64 0) (.int .i64 0) (.int .i64 0) (.int .i64 0) (.slice none 0 0) (.slice none 0 0) (.slice none 0 0) (.slice none 0 0) _ rfl
     obtain⟨y0,y1,y2,y3,y4,y5,y6,y7,y8,y9,aY⟩:=cu hel
     exact bodyPost_ret (v:= .tuple #[.agg #[.int .i64 0, .int .i64 0, .int .i64 0, .int .i64 0, .int .i64 0, .int .i64 0, .int .i64 0, .slice none 0 0, .slice none 0 0, .slice none 0 0, .slice none 0 0], .int .i64 2]) (by simp[results,Tryz.results13,go_sem,y0,y1,y2,y3,y4,y5,y6,y7,y8,y9,aY]) rfl (mG.out.pY HDR.out (mg w10 w.heap.size (.int .i64 0) (.int .i64 0) (.int .i64 0) (.int .i64 0) (.int .i64 0) (.int .i64 0) (.int .i64 0) (.slice none 0 0) (.slice none 0 0) (.slice none 0 0) (.slice none 0 0)))
    have HDR:=ah (GI.out _ (qI.good (hs7▸HST.out) (by omega) hr))
    clear HST hs7
    obtain⟨z0,z1,z2,z3,z4,z5,z6,z7,z8,z9,z10⟩:=cu HG.out.arr;have zl:=HG.out.lB
    have HR:=ah hr;clear hr
    go_wp2_with(first
     |(go_at_call 60;refine(Dy ib s s7 es ks c wr fU.out HG.out.ins rM.out ni.out).mono ?_;rintro e w8 ⟨ev,kv,cv,rfl,iL,hc8,lq,cZ⟩;obtain⟨e0,d0,e1,d1,e2,d2,rfl,rfl,rfl⟩:=(gK.mk iL (dP.at_ hc8)).shape;generalize es.length=m0 at*;generalize ks.len=m1 at*;generalize c.length=m2 at*;clear z0 z1 z2 z3 z4 z5 z6 z7 z8 z9 z10 zl;have bU:=HG.out.call lq cZ;obtain⟨z0,z1,z2,z3,z4,z5,z6,z7,z8,z9,z10⟩:=cu bU.arr;have f8:=aG bU.arr 8;have f9:=aG bU.arr 9;have f10:=aG bU.arr 10;have zl:=bU.lB;obtain⟨y0,y1,y2,y3,y4,y5,y6,y7,y8,y9,aY⟩:=cu bU.res;obtain⟨g0,g1,g2,g3,g4,g5,g6,g7,g8,g9,g10⟩:=jV bU.res;have yl:=lt_of_block bU.res;have hne:¬w6.heap.size=w.heap.size:=(by have h1:=bU.hB;have h2:=bU.hib;have h3:=bU.rO;omega);obtain⟨jD,iW,jJ⟩:=HG.out.eX lq cZ iL hc8;have dU:=ah (show Calls Tryz.prog 62 #[.agg #[.int .i64 2, .int .i64 fr, .int .i64 tt, .int .i64 v0, .int .i64 v1, .int .i64 v2, .int .i64 v3, .slice aV q cV, .slice e0 m0 d0, .slice e1 m1 d1, .slice e2 m2 d2]] (((w8.setCell ⟨w6.heap.size,8,none⟩ (.slice e0 m0 d0)).setCell ⟨w6.heap.size,9,none⟩ (.slice e1 m1 d1)).setCell ⟨w6.heap.size,10,none⟩ (.slice e2 m2 d2)) fun e w'=>e= .returned (.bool true)∧aj ay (((w8.setCell ⟨w6.heap.size,8,none⟩ (.slice e0 m0 d0)).setCell ⟨w6.heap.size,9,none⟩ (.slice e1 m1 d1)).setCell ⟨w6.heap.size,10,none⟩ (.slice e2 m2 d2)) w' from(dO HR.out)▸Gw (iV w2 (Only w6.heap.size) (.slice aV q cV)) ⟨2,fr,tt,v0,v1,v2,v3,ps.map (·.b),es,ks,c⟩ ps _ _ _ _ _ ⟨jD.fQ.yu jD.each.eX,rfl,⟨iW,dP.at_ jJ⟩⟩ bT.out);have jK:=ah jD;have nC:=ah iW;have nD:=ah jJ;clear bU jD iL hc8 lq cZ iW jJ)
     |(go_at_call 61;refine(eF.out _ jK.out.ins).mono ?_;rintro e w9 ⟨rfl,rfl⟩)
     |(go_at_call 62;refine dU.out.mono ?_;rintro e w10 ⟨rfl,jk⟩;clear z0 z1 z2 z3 z4 z5 z6 z7 z8 z9 z10 zl y0 g0 y1 g1 y2 g2 y3 g3 y4 g4 y5 g5 y6 g6 y7 g7 y8 g8 y9 g9 aY g10 yl f8 f9 f10 hne;have eu:=jK.out.aJ jk;obtain⟨z0,z1,z2,z3,z4,z5,z6,z7,z8,z9,z10⟩:=cu eu.arr;have zl:=eu.lB;obtain⟨y0,y1,y2,y3,y4,y5,y6,y7,y8,y9,aY⟩:=cu eu.res;obtain⟨g0,g1,g2,g3,g4,g5,g6,g7,g8,g9,g10⟩:=jV eu.res;have yl:=lt_of_block eu.res;have mG:=ah eu;have BJ:=ah jk;clear eu jk))
    clear z0 z1 z2 z3 z4 z5 z6 z7 z8 z9 z10 zl y0 g0 y1 g1 y2 g2 y3 g3 y4 g4 y5 g5 y6 g6 y7 g7 y8 g8 y9 g9 aY g10 yl
    have hel:=mD mG.out.res (.int .i64 2) (.int .i64 fr) (.int .i64 tt) (.int .i64 v0) (.int .i64 v1) (.int .i64 v2) (.int .i64 v3) (.slice aV q cV) (.slice e0 m0 d0) (.slice e1 m1 d1) (.slice e2 m2 d2) _ rfl
    obtain⟨y0,y1,y2,y3,y4,y5,y6,y7,y8,y9,aY⟩:=cu hel
    exact bodyPost_ret (v:= .tuple #[.agg #[.int .i64 2, .int .i64 fr, .int .i64 tt, .int .i64 v0, .int .i64 v1, .int .i64 v2, .int .i64 v3, .slice aV q cV, .slice e0 m0 d0, .slice e1 m1 d1, .slice e2 m2 d2], .int .i64 0]) (by simp[results,Tryz.results13,go_sem,y0,y1,y2,y3,y4,y5,y6,y7,y8,y9,aY]) rfl (mG.out.GH (m:=⟨2,fr,tt,v0,v1,v2,v3,ps.map (·.b),es,ks,c⟩) HDR.out rfl bT.out ⟨nC.out.aJ BJ.out,dP.aJ nD.out BJ.out⟩ (mg w10 w.heap.size (.int .i64 2) (.int .i64 fr) (.int .i64 tt) (.int .i64 v0) (.int .i64 v1) (.int .i64 v2) (.int .i64 v3) (.slice aV q cV) (.slice e0 m0 d0) (.slice e1 m1 d1) (.slice e2 m2 d2)))
  cases s with
  |none=>
   have vU:=ah (show q=n.toNat∨(none:Option (List UInt8))=none from .inr rfl)
   have BU:=ah (show kind=2→oP none from fun _=> .small (by show 0≤6000;omega))
   clear ou yC
   by_cases hkd:kind=2
   rotate_left 1
   ·have c2':((kind:Int)==2)=false:=beq_false_of_ne hkd
    have HST:=ah (show qI 4 4 x ⟨kind,fr,tt,v0,v1,v2,v3,ps.map (·.b),[], .nil,[]⟩ n q s4 s5 none none from⟨uV.out,G5.out,jA.out,vU.out,hq,by rw[if_neg hkd];exact⟨⟨rfl,rfl,rfl⟩,rfl⟩⟩)
    have bT:=ah (show kZ ⟨kind,fr,tt,v0,v1,v2,v3,ps.map (·.b),[], .nil,[]⟩from⟨fun b hb=>by
     obtain⟨p,hp,rfl⟩:=List.mem_map.1 hb
     exact rH.out p hp,by rw[List.length_map,jY.out];omega,yg.st⟩)
    clear hkd
    have GL:¬n<0:=by omega
    have hdn:nO none=false:=rfl
    have eF:=ah (fun W h=>(show Calls Tryz.prog 61 #[.pointer (some ⟨ib,0,none⟩)] W fun e w'=>e= .returned (.bool false)∧W=w' from hdn▸Dl ib none W h))
    have HDR:=ah (nT.out (HST.out.bad (by decide) (by decide) (by decide) (by decide) (.inr (.inl fun h=>by rw[h]at hdn;cases hdn))))
    clear HST bT hdn
    obtain⟨z0,z1,z2,z3,z4,z5,z6,z7,z8,z9,z10⟩:=cu HG.out.arr;have zl:=HG.out.lB
    obtain⟨y0,y1,y2,y3,y4,y5,y6,y7,y8,y9,aY⟩:=cu HG.out.res;obtain⟨g0,g1,g2,g3,g4,g5,g6,g7,g8,g9,g10⟩:=jV HG.out.res;have yl:=lt_of_block HG.out.res
    go_wp2_with(first
     |(go_at_call 58;refine(oN ib _ _ HG.out.ins).mono ?_;rintro e w4' ⟨rfl,rfl⟩)
     |(go_at_call 61;refine(eF.out _ HG.out.ins).mono ?_;rintro e w9 ⟨rfl,rfl⟩))
    clear z0 z1 z2 z3 z4 z5 z6 z7 z8 z9 z10 zl y0 g0 y1 g1 y2 g2 y3 g3 y4 g4 y5 g5 y6 g6 y7 g7 y8 g8 y9 g9 aY g10 yl
    have hel:=mD HG.out.res (.int .i64 0) (.int .i64 0) (.int .i64 0) (.int .i64 0) (.int .i64 0) (.int .i64 0) (.int .i64 0) (.slice none 0 0) (.slice none 0 0) (.slice none 0 0) (.slice none 0 0) _ rfl
    obtain⟨y0,y1,y2,y3,y4,y5,y6,y7,y8,y9,aY⟩:=cu hel
    exact bodyPost_ret (v:= .tuple #[.agg #[.int .i64 0, .int .i64 0, .int .i64 0, .int .i64 0, .int .i64 0, .int .i64 0, .int .i64 0, .slice none 0 0, .slice none 0 0, .slice none 0 0, .slice none 0 0], .int .i64 2]) (by simp[results,Tryz.results13,go_sem,y0,y1,y2,y3,y4,y5,y6,y7,y8,y9,aY]) rfl (HG.out.pY HDR.out (mg wr w.heap.size (.int .i64 0) (.int .i64 0) (.int .i64 0) (.int .i64 0) (.int .i64 0) (.int .i64 0) (.int .i64 0) (.slice none 0 0) (.slice none 0 0) (.slice none 0 0) (.slice none 0 0)))
   subst hkd
   obtain⟨es,ks,c,s7,hcr⟩:=kW.total none
   have fU:=ah hcr
   have ni:=ah (BU.out rfl)
   have HST:=ah (show qI 4 4 x ⟨2,fr,tt,v0,v1,v2,v3,ps.map (·.b),es,ks,c⟩ n q s4 s5 none s7 from⟨uV.out,G5.out,jA.out,vU.out,hq,by rw[if_pos (show(2:Int)=2 from rfl)];exact hcr⟩)
   have bT:=ah (show kZ ⟨2,fr,tt,v0,v1,v2,v3,ps.map (·.b),es,ks,c⟩from⟨fun b hb=>by
    obtain⟨p,hp,rfl⟩:=List.mem_map.1 hb
    exact rH.out p hp,by rw[List.length_map,jY.out];omega,oP.ok ni.out hcr⟩)
   clear hcr
   have GL:¬n<0:=by omega
   have hdn:nO s7=false:=by rw[show s7=none from VL fU.out];rfl
   have eF:=ah (fun W h=>(show Calls Tryz.prog 61 #[.pointer (some ⟨ib,0,none⟩)] W fun e w'=>e= .returned (.bool false)∧W=w' from hdn▸Dl ib s7 W h))
   have HDR:=ah (nT.out (HST.out.bad (by decide) (by decide) (by decide) (by decide) (.inr (.inl fun h=>by rw[h]at hdn;cases hdn))))
   clear HST bT hdn
   obtain⟨z0,z1,z2,z3,z4,z5,z6,z7,z8,z9,z10⟩:=cu HG.out.arr;have zl:=HG.out.lB
   go_wp2_with(first
    |(go_at_call 58;refine(oN ib _ _ HG.out.ins).mono ?_;rintro e w4' ⟨rfl,rfl⟩)
    |(go_at_call 60;refine(Dy ib none s7 es ks c wr fU.out HG.out.ins rM.out ni.out).mono ?_;rintro e w8 ⟨ev,kv,cv,rfl,iL,hc8,lq,cZ⟩;obtain⟨e0,d0,e1,d1,e2,d2,rfl,rfl,rfl⟩:=(gK.mk iL (dP.at_ hc8)).shape;generalize es.length=m0 at*;generalize ks.len=m1 at*;generalize c.length=m2 at*;clear z0 z1 z2 z3 z4 z5 z6 z7 z8 z9 z10 zl;have bU:=HG.out.call lq cZ;obtain⟨z0,z1,z2,z3,z4,z5,z6,z7,z8,z9,z10⟩:=cu bU.arr;have f8:=aG bU.arr 8;have f9:=aG bU.arr 9;have f10:=aG bU.arr 10;have zl:=bU.lB;obtain⟨y0,y1,y2,y3,y4,y5,y6,y7,y8,y9,aY⟩:=cu bU.res;obtain⟨g0,g1,g2,g3,g4,g5,g6,g7,g8,g9,g10⟩:=jV bU.res;have yl:=lt_of_block bU.res;have hne:¬w6.heap.size=w.heap.size:=(by have h1:=bU.hB;have h2:=bU.hib;have h3:=bU.rO;omega);obtain⟨jD,iW,jJ⟩:=HG.out.eX lq cZ iL hc8;have jK:=ah jD;have nC:=ah iW;have nD:=ah jJ;clear bU jD iL hc8 lq cZ iW jJ)
    |(go_at_call 61;refine(eF.out _ jK.out.ins).mono ?_;rintro e w9 ⟨rfl,rfl⟩))
   clear z0 z1 z2 z3 z4 z5 z6 z7 z8 z9 z10 zl y0 g0 y1 g1 y2 g2 y3 g3 y4 g4 y5 g5 y6 g6 y7 g7 y8 g8 y9 g9 aY g10 yl f8 f9 f10 hne
   have hel:=mD jK.out.res (.int .i64 0) (.int .i64 0) (.int .i64 0) (.int .i64 0) (.int .i64 0) (.int .i64 0) (.int .i64 0) (.slice none 0 0) (.slice none 0 0) (.slice none 0 0) (.slice none 0 0) _ rfl
   obtain⟨y0,y1,y2,y3,y4,y5,y6,y7,y8,y9,aY⟩:=cu hel
   exact bodyPost_ret (v:= .tuple #[.agg #[.int .i64 0, .int .i64 0, .int .i64 0, .int .i64 0, .int .i64 0, .int .i64 0, .int .i64 0, .slice none 0 0, .slice none 0 0, .slice none 0 0, .slice none 0 0], .int .i64 2]) (by simp[results,Tryz.results13,go_sem,y0,y1,y2,y3,y4,y5,y6,y7,y8,y9,aY]) rfl (jK.out.pY HDR.out (mg (((w8.setCell ⟨w6.heap.size,8,none⟩ (.slice e0 m0 d0)).setCell ⟨w6.heap.size,9,none⟩ (.slice e1 m1 d1)).setCell ⟨w6.heap.size,10,none⟩ (.slice e2 m2 d2)) w.heap.size (.int .i64 0) (.int .i64 0) (.int .i64 0) (.int .i64 0) (.int .i64 0) (.int .i64 0) (.int .i64 0) (.slice none 0 0) (.slice none 0 0) (.slice none 0 0) (.slice none 0 0)))
  |some r=>
   have PN:q<n.toNat:=by omega
   have GN:=ah (ou.out PN)
   obtain⟨b,s',hres⟩:=jT.total (some r)
   have oG:=ah hres
   have PO:=ah (jT.okF GN.out hres)
   have PS:=ah (Run.snoc jA.out hres)
   clear hres ou yC
   obtain⟨dc,af,la,u0,u1,u2,u3,es',ks',c'⟩:=b
   have z7:=au HG.out.arr 7 rfl
   have zl:=HG.out.lB
   go_wp2_with(go_at_call 58;refine(oN ib _ _ HG.out.ins).mono ?_;rintro e w4' ⟨rfl,rfl⟩)
   refine ku (S:=fun w'=>w'.cell? ⟨w6.heap.size,7,none⟩=some (.slice aV q cV)) 7 (by kernel_rfl) z7 ?_
   intro hS
   clear z7 zl
   have HY:=ah (HG.out.aJ (aj.drew ay wr))
   clear HG
   generalize wr.drew=Y0 at*
   refine aU 0 42 rfl rfl (v:=?_) (.inl ⟨by rfl,?_⟩) ?_
   rotate_left 1
   ·(intro w hSw;(try dsimp only at hSw);go_simp;(try with_reducible rfl))
   refine aU 1 43 rfl rfl (v:=?_) (.inl ⟨by rfl,?_⟩) ?_
   rotate_left 1
   ·(intro w hSw;(try dsimp only at hSw);go_simp;(try with_reducible rfl))
   try simp only[Act.put,aN,aO,aP]
   refine aU 2 44 rfl rfl (v:=?_) (.inl ⟨by rfl,?_⟩) ?_
   rotate_left 1
   ·(intro w hSw;(try dsimp only at hSw);go_simp;(try with_reducible rfl))
   try simp only[Act.put,aN,aO,aP]
   refine bJ (i:=3) (by kernel_rfl) rfl (fun K hK=>?_)
   go_simp
   refine(aes ib (some r) s' ⟨dc,af,la,u0,u1,u2,u3,es',ks',c'⟩ Y0 oG.out HY.out.ins rM.out GN.out).mono ?_
   rintro e1 Y1 ⟨ev',kv',cv',rfl,ht1,hc1,hi1,hf1⟩
   obtain⟨a3,c3,a4,c4,a5,c5,rfl,rfl,rfl⟩:=(gK.mk ht1 (dP.at_ hc1)).shape
   have hpc:aZ.cells ⟨⟨dc,af,la,u0,u1,u2,u3,es',ks',c'⟩, .slice a3 es'.length c3, .slice a4 ks'.len c4, .slice a5 c'.length c5⟩=[.int .i64 dc, .int .i64 af, .int .i64 la, .int .i64 u0, .int .i64 u1, .int .i64 u2, .int .i64 u3, .slice a3 es'.length c3, .slice a4 ks'.len c4, .slice a5 c'.length c5]:=rfl
   have CS:=ah hpc;clear hpc
   have hone:=aZ.one ⟨⟨dc,af,la,u0,u1,u2,u3,es',ks',c'⟩, .slice a3 es'.length c3, .slice a4 ks'.len c4, .slice a5 c'.length c5⟩ rfl rfl rfl
   rw[CS.out]at hone
   have qp:=ah hone;clear hone
   have HT1:=ah ht1;have bH:=ah hc1;clear ht1 hc1
   have Kr:=HY.out.call hi1 hf1
   have hS1:Y1.cell? ⟨w6.heap.size,7,none⟩=some (.slice aV q cV):=au Kr.arr 7 rfl
   have hown:=Kr.fQ.own
   rw[jY.out]at hown
   have OC:=ah hown;clear hown
   have nY:=ah Kr;clear Kr
   have HI1:=ah hi1;have bg:=ah hf1;clear hi1 hf1
   generalize es'.length=n1 at*
   generalize ks'.len=n2 at*
   generalize c'.length=n3 at*
   refine hK.out _ _ hS1 ?_
   clear hK K hS
   try simp only[Act.put,aN,aO,aP]
   refine bJ (i:=4) (by kernel_rfl) rfl (fun K hK=>?_)
   go_simp
   have hS3:(Y1.alloc (.cells #[.int .i64 dc, .int .i64 af, .int .i64 la, .int .i64 u0, .int .i64 u1, .int .i64 u2, .int .i64 u3, .slice a3 n1 c3, .slice a4 n2 c4, .slice a5 n3 c5] 59)).cell? ⟨w6.heap.size,7,none⟩=some (.slice aV q cV):=(aj.alloc ay Y1 _).cell' hS1 id
   refine hK.out _ _ hS3 ?_
   clear hK K
   try simp only[Act.put,aN,aO,aP]
   refine bJ (i:=5) (by kernel_rfl) rfl (fun K hK=>?_)
   refine Js Y1 [.int .i64 dc, .int .i64 af, .int .i64 la, .int .i64 u0, .int .i64 u1, .int .i64 u2, .int .i64 u3, .slice a3 n1 c3, .slice a4 n2 c4, .slice a5 n3 c5] rfl (.tmp 43) (.tmp 46) 26 rfl 59 PG _ 10 128 Tryz.underlying26 hi hz0 hz1 hz2 (by decide) (by decide) (.slice aV q cV) q _ OC.out 1 1 (by simp[Act.eval]) (by simp[Act.eval]) rfl qp.out (by simp only[maxLen];omega) (by omega) ?_
   intro ad c6 w8 kX dV kY
   have hnb:¬eY (.slice aV q cV) w6.heap.size:=fun hr=>(nY.out.fQ.new _ hr).2 rfl
   have hS6:w8.cell? ⟨w6.heap.size,7,none⟩=some (.slice aV q cV):=dV.cell' hS1 hnb
   have hcf:w8.frozen? ⟨w6.heap.size,7,none⟩=false:=aG (dV.blk nY.out.arr hnb) 7
   have hl6:w6.heap.size<w8.heap.size:=lt_of_block (dV.blk nY.out.arr hnb)
   have u_:=ah (show DG w w2 (w8.setCell ⟨w6.heap.size,7,none⟩ (.slice ad (q+1) c6)) ib w6.heap.size s' #[.int .i64 kind, .int .i64 fr, .int .i64 tt, .int .i64 v0, .int .i64 v1, .int .i64 v2, .int .i64 v3, .slice ad (q+1) c6, .slice none 0 0, .slice none 0 0, .slice none 0 0] (ps++ [⟨⟨dc,af,la,u0,u1,u2,u3,es',ks',c'⟩, .slice a3 n1 c3, .slice a4 n2 c4, .slice a5 n3 c5⟩]) (.slice ad (q+1) c6)from
    HY.out.step (p:=⟨⟨dc,af,la,u0,u1,u2,u3,es',ks',c'⟩, .slice a3 n1 c3, .slice a4 n2 c4, .slice a5 n3 c5⟩) HI1.out bg.out HT1.out bH.out (by rw[jY.out];exact kX) dV kY)
   have hrow:=hS6
   refine hK.out _ _ hS6 ?_
   clear hK K kX dV kY hnb hS3
   try simp only[Act.put,aN,aO,aP]
   refine aU 6 48 rfl rfl (v:=?_) (.inl ⟨by rfl,?_⟩) ?_
   rotate_left 1
   ·(intro w hSw;(try dsimp only at hSw);go_simp;(try with_reducible rfl))
   try simp only[Act.put,aN,aO,aP]
   refine iC (by kernel_rfl) (by kernel_rfl) rfl (fun K hK=>?_)
   go_simp
   refine hK.out _ _ ?_
   clear hK K hrow hcf
   go_wp2
   go_roundw
   case rel=>exact⟨q+1,_,s',_,by omega,by go_num,by rw[List.map_append];exact PS.out,u_.out,fun p hp=>by
    rcases List.mem_append.1 hp with hp|hp
    ·exact rH.out p hp
    ·rw[List.mem_singleton.1 hp];exact PO.out⟩
   case measure=>simp[intOf];omega
end Go.Proofs.YtabkpccdnkjoiaaGreat
