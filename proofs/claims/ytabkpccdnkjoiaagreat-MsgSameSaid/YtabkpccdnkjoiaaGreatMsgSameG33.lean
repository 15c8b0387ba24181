/- Words for the law MsgSame: MsgDec. -/
import Derived.Test.YtabkpccdnkjoiaaGreatMsgSameG0
import Derived.Test.YtabkpccdnkjoiaaGreatMsgSameG32
set_option linter.unusedSimpArgs false
set_option linter.unusedVariables false
set_option maxHeartbeats 32000000
set_option maxRecDepth 1000000
namespace Go.Proofs.YtabkpccdnkjoiaaGreat
open Go.RowKit
theorem abE (l:List UInt8) (v:Value) (w:World) (h:Rd w v l.length (bV l)) (h0:bC.nG l=0) (hfit:FQ (bC.qZ l)):Calls Tryz.prog 13 #[v] w (KU l w):=by
 obtain⟨ib0,hi,hz0,hz1,hz2⟩:=info_parts Rx
 have HO:=ah (fun W (f:aj ay w W)=>abD l v W (h.aO f) h0)
 obtain⟨a,c,rfl⟩:=h.sl
 have aU:=ah (aj.alloc ay w (.cells #[.int .i64 0, .int .i64 0, .int .i64 0, .int .i64 0, .int .i64 0, .int .i64 0, .int .i64 0, .slice none 0 0, .slice none 0 0, .slice none 0 0, .slice none 0 0] 36))
 have HB0:=ah (heap_alloc_new w (.cells #[.int .i64 0, .int .i64 0, .int .i64 0, .int .i64 0, .int .i64 0, .int .i64 0, .int .i64 0, .slice none 0 0, .slice none 0 0, .slice none 0 0, .slice none 0 0] 36))
 clear h
 have Td:=ah (fun m (hd:qj (bC.qZ l) (some m))=>QJ h0 hd)
 have gJ:=ah (fun(hd:qj (bC.qZ l) none)=>Zp h0 hd)
 have abH:=ah hfit
 have HLEN:=ah hfit.len
 clear h0 hfit
 generalize bC.qZ l=x at*
 obtain⟨kind,fr,tt,v0,v1,v2,v3,s1,s2,s3,s4,n,s5,g1,g2,g3,g4,g5⟩:=Zn 4 4 x
 have AX:=ah (show FT 4 4 x kind fr tt v0 v1 v2 v3 s4 from⟨s1,s2,s3,g1,g2,g3,g4⟩)
 have hn16:=Zo g5
 have G1:=ah g1;have G2:=ah g2;have G3:=ah g3;have G4:=ah g4;have G5:=ah g5
 clear g1 g2 g3 g4 g5
 go_enter Tryz.func13,Tryz.ntmps13
 go_wp2_with(first
  |(go_at_call 54;refine(HO.out _ aU.out).mono ?_;rintro e w1 ⟨a1,c1,t1,ht1,rfl,AU⟩;have HT1:=ah ht1;have cO:=ah AU;have HB1:=ah (AU.aP.blk HB0.out id);clear AU ht1)
  |(go_at_call 55;refine(Xv _ t1 _ cO.out.rd (by rw[HT1.out];have:=HLEN.out;omega)).mono ?_;rintro e w2 ⟨ib,rfl,hi2,hb2,hf2⟩
    have hib:w.heap.size<ib:=by
     have h1:=cO.out.aP.size
     have h2:(w.alloc (.cells #[.int .i64 0, .int .i64 0, .int .i64 0, .int .i64 0, .int .i64 0, .int .i64 0, .int .i64 0, .slice none 0 0, .slice none 0 0, .slice none 0 0, .slice none 0 0] 36)).heap.size=w.heap.size+1:=by simp
     omega
    have LK:aj ay w1 w2:=hf2.mono fun _ _ h=>h.elim
    have HB2:=ah (LK.blk HB1.out id)
    have HI0:=ah (show cu w2 ib (some x) by rw[←HT1.out];exact hi2)
    have HW2:=ah ((aU.out.au cO.out.aP).au LK)
    have abI:ib<w2.heap.size:=hi2.lt
    clear hi2 hb2 hf2 LK)
  |(go_at_call 56;first
    |(have q9:=HI4;clear q9;refine(jZ ib _ 16 n _ _ HI4.out G5.out (by omega) (by omega)).mono ?_;rintro e w7 ⟨rfl,hi,hf⟩;have xG:=ah hi;have lQ:=ah hf;clear hi hf)
    |(have q9:=HI2;clear q9;refine(jZ ib _ 4 tt _ _ HI2.out G3.out (by omega) (by omega)).mono ?_;rintro e w5 ⟨rfl,hi,hf⟩;have HI3:=ah hi;have HF3:=ah hf;clear hi hf)
    |(have q9:=HI1;clear q9;refine(jZ ib _ 4 fr _ _ HI1.out G2.out (by omega) (by omega)).mono ?_;rintro e w4 ⟨rfl,hi,hf⟩;have HI2:=ah hi;have HF2:=ah hf;clear hi hf)
    |(have q9:=HI0;clear q9;refine(jZ ib _ 4 kind _ _ HI0.out G1.out (by omega) (by omega)).mono ?_;rintro e w3 ⟨rfl,hi,hf⟩;have HI1:=ah hi;have bH:=ah hf;clear hi hf))
  |(go_at_call 57;refine(RN ib s3 s4 v0 v1 v2 v3 _ G4.out HI3.out).mono ?_;rintro e w6 ⟨rfl,hi,hf⟩
    have hfa:=aj.alloc ay w6 (.cells #[.int .i64 kind, .int .i64 fr, .int .i64 tt, .int .i64 v0, .int .i64 v1, .int .i64 v2, .int .i64 v3, .slice none 0 0, .slice none 0 0, .slice none 0 0, .slice none 0 0] 36)
    have HI4:=ah (hi.keep hfa fun _ _ h=>h);have iL:=ah hf;clear hi hf hfa))
 clear cO HO HB1 HI1 HI2 HI3
 have DT:aj (Only ib) w2 w6:=((bH.out.trans HF2.out fun _ _ h=>h).trans HF3.out fun _ _ h=>h).trans iL.out fun _ _ h=>h
 have LM:aj (Only ib) w2 w7:=(DT.trans (aj.alloc (Only ib) w6 (.cells #[.int .i64 kind, .int .i64 fr, .int .i64 tt, .int .i64 v0, .int .i64 v1, .int .i64 v2, .int .i64 v3, .slice none 0 0, .slice none 0 0, .slice none 0 0, .slice none 0 0] 36)) fun _ _ h=>h).trans lQ.out fun _ _ h=>h
 have hG0:DG w w2 w7 ib w6.heap.size s5 #[.int .i64 kind, .int .i64 fr, .int .i64 tt, .int .i64 v0, .int .i64 v1, .int .i64 v2, .int .i64 v3, .slice none 0 0, .slice none 0 0, .slice none 0 0, .slice none 0 0] [] (.slice none 0 0):=
  ⟨xG.out,lQ.out.blk (heap_alloc_new w6 _) (fun e=>by have e:w6.heap.size=ib:=e;have:=DT.size;omega),LM.blk HB2.out (fun e=>by have e:w.heap.size=ib:=e;omega),HW2.out,hib,abI,DT.size,iT.start (fun k hk=>by have hk:k=ib:=hk;omega) (fun k hk=>by have hk:k=w6.heap.size:=hk;have:=DT.size;omega) (fun k hk=>by
    have hk:k=w6.heap.size:=hk
    have h1:(w6.alloc (.cells #[.int .i64 kind, .int .i64 fr, .int .i64 tt, .int .i64 v0, .int .i64 v1, .int .i64 v2, .int .i64 v3, .slice none 0 0, .slice none 0 0, .slice none 0 0, .slice none 0 0] 36)).heap.size=w6.heap.size+1:=by simp
    have:=lQ.out.size
    omega) LM,kR.nil _ _⟩
 have yT:=ah hG0
 clear hG0 DT LM bH HF2 HF3 iL lQ HI4 xG HI0 HB2
 go_loopw [9] (fun i W=>∃(q:Nat) (ps:List aY) (s:Option (List UInt8)) (lv:Value),q≤n.toNat∧i= .int .i64 q∧Run jU s5 q (ps.map (·.b)) s∧DG w w2 W ib w6.heap.size s #[.int .i64 kind, .int .i64 fr, .int .i64 tt, .int .i64 v0, .int .i64 v1, .int .i64 v2, .int .i64 v3,lv, .slice none 0 0, .slice none 0 0, .slice none 0 0] ps lv∧∀p∈ps,fP p.b.es p.b.ks p.b.c) (fun i _=>n.toNat-(intOf i).toNat)
 case atStart=>exact⟨0,[],s5,_,Nat.zero_le _,rfl, .zero,yT.out,fun p hp=>by cases hp⟩
 case round=>
  clear yT
  obtain⟨q,ps,s,lv,hq,rfl,hrun,hg,hall⟩:=hrel
  have hpl:ps.length=q:=by have:=hrun.len;simpa using this
  obtain⟨aV,cV,rfl⟩:=(Rd.own hg.kK.own).sl
  rw[hpl]at hg
  have HG:=ah hg;clear hg
  have kZ:=ah hrun;clear hrun
  have qV:=ah hall;clear hall
  have kU:=ah hpl;clear hpl
  have hfs:=Zm (by decide) (by decide) (by decide) (by decide) abH.out AX.out G5.out kZ.out
  have uf:=ah hfs.1
  have qw:=ah hfs.2.1
  have Gx:=ah hfs.2.2
  clear hfs
  by_cases hlt:(q:Int)<n
  rotate_left 1
  ·have DU:=ah (show q=n.toNat∨s=none from .inl (by omega))
   have LP:=ah (Gx.out (by omega))
   clear qw Gx
   by_cases hkd:kind=2
   rotate_left 1
   ·have c2':((kind:Int)==2)=false:=beq_false_of_ne hkd
    have HST:=ah (show uZ 4 4 x ⟨kind,fr,tt,v0,v1,v2,v3,ps.map (·.b),[], .nil,[]⟩ n q s4 s5 s s from⟨AX.out,G5.out,kZ.out,DU.out,hq,by rw[if_neg hkd];exact⟨⟨rfl,rfl,rfl⟩,rfl⟩⟩)
    have dL:=ah (show lq ⟨kind,fr,tt,v0,v1,v2,v3,ps.map (·.b),[], .nil,[]⟩from⟨fun b hb=>by
     obtain⟨p,hp,rfl⟩:=List.mem_map.1 hb
     exact qV.out p hp,by rw[List.length_map,kU.out];omega,FU.st⟩)
    clear hkd
    by_cases hn0:n<0
    ·have HDR:=ah (gJ.out (HST.out.bad (by decide) (by decide) (by decide) (by decide) (.inl hn0)))
     clear HST dL
     obtain⟨z0,z1,z2,z3,z4,z5,z6,z7,z8,z9,z10⟩:=fE HG.out.arr;have zl:=HG.out.lB
     obtain⟨y0,y1,y2,y3,y4,y5,y6,y7,y8,y9,aT⟩:=fE HG.out.res;obtain⟨g0,g1,g2,g3,g4,g5,g6,g7,g8,g9,g10⟩:=oN HG.out.res;have yl:=lt_of_block HG.out.res
     go_wp2
     clear z0 z1 z2 z3 z4 z5 z6 z7 z8 z9 z10 zl y0 g0 y1 g1 y2 g2 y3 g3 y4 g4 y5 g5 y6 g6 y7 g7 y8 g8 y9 g9 aT g10 yl
     have hel:=uj HG.out.res (.int .i64 0) (.int .i64 0) (.int .i64 0) (.int .i64 0) (.int .i64 0) (.int .i64 0) (.int .i64 0) (.slice none 0 0) (.slice none 0 0) (.slice none 0 0) (.slice none 0 0) _ rfl
     obtain⟨y0,y1,y2,y3,y4,y5,y6,y7,y8,y9,aT⟩:=fE hel
     exact bodyPost_ret (v:= .tuple #[.agg #[.int .i64 0, .int .i64 0, .int .i64 0, .int .i64 0, .int .i64 0, .int .i64 0, .int .i64 0, .slice none 0 0, .slice none 0 0, .slice none 0 0, .slice none 0 0], .int .i64 2]) (by simp[results,Tryz.results13,go_sem,y0,y1,y2,y3,y4,y5,y6,y7,y8,y9,aT]) rfl (HG.out.yj HDR.out (uh wr w.heap.size (.int .i64 0) (.int .i64 0) (.int .i64 0) (.int .i64 0) (.int .i64 0) (.int .i64 0) (.int .i64 0) (.slice none 0 0) (.slice none 0 0) (.slice none 0 0) (.slice none 0 0)))
    have LQ:¬n<0:=by omega
    cases hdn:tJ s with
    |false=>
     have gU:=ah (fun W h=>(show Calls Tryz.prog 61 #[.pointer (some ⟨ib,0,none⟩)] W fun e w'=>e= .returned (.bool false)∧W=w' from hdn▸z_ ib s W h))
     have HDR:=ah (gJ.out (HST.out.bad (by decide) (by decide) (by decide) (by decide) (.inr (.inl fun h=>by rw[h]at hdn;cases hdn))))
     clear HST dL hdn
     obtain⟨z0,z1,z2,z3,z4,z5,z6,z7,z8,z9,z10⟩:=fE HG.out.arr;have zl:=HG.out.lB
     obtain⟨y0,y1,y2,y3,y4,y5,y6,y7,y8,y9,aT⟩:=fE HG.out.res;obtain⟨g0,g1,g2,g3,g4,g5,g6,g7,g8,g9,g10⟩:=oN HG.out.res;have yl:=lt_of_block HG.out.res
     go_wp2_with(first
      |(go_at_call 61;refine(gU.out _ HG.out.ins).mono ?_;rintro e w9 ⟨rfl,rfl⟩))
     clear z0 z1 z2 z3 z4 z5 z6 z7 z8 z9 z10 zl y0 g0 y1 g1 y2 g2 y3 g3 y4 g4 y5 g5 y6 g6 y7 g7 y8 g8 y9 g9 aT g10 yl
     have hel:=uj HG.out.res (.int .i64 0) (.int .i64 0) (.int .i64 0) (.int .i64 0) (.int .i64 0) (.int .i64 0) (.int .i64 0) (.slice none 0 0) (.slice none 0 0) (.slice none 0 0) (.slice none 0 0) _ rfl
     obtain⟨y0,y1,y2,y3,y4,y5,y6,y7,y8,y9,aT⟩:=fE hel
     exact bodyPost_ret (v:= .tuple #[.agg #[.int .i64 0, .int .i64 0, .int .i64 0, .int .i64 0, .int .i64 0, .int .i64 0, .int .i64 0, .slice none 0 0, .slice none 0 0, .slice none 0 0, .slice none 0 0], .int .i64 2]) (by simp[results,Tryz.results13,go_sem,y0,y1,y2,y3,y4,y5,y6,y7,y8,y9,aT]) rfl (HG.out.yj HDR.out (uh wr w.heap.size (.int .i64 0) (.int .i64 0) (.int .i64 0) (.int .i64 0) (.int .i64 0) (.int .i64 0) (.int .i64 0) (.slice none 0 0) (.slice none 0 0) (.slice none 0 0) (.slice none 0 0)))
    |true=>
     have hs7:s=some []:=Ru hdn
     have gU:=ah (fun W h=>(show Calls Tryz.prog 61 #[.pointer (some ⟨ib,0,none⟩)] W fun e w'=>e= .returned (.bool true)∧W=w' from hdn▸z_ ib s W h))
     clear hdn
     by_cases hr:bF.right ⟨kind,fr,tt,v0,v1,v2,v3,ps.map (·.b),[], .nil,[]⟩
     rotate_left 1
     ·have HDR:=ah (gJ.out (HST.out.bad (by decide) (by decide) (by decide) (by decide) (.inr (.inr hr))))
      clear HST hs7
      obtain⟨z0,z1,z2,z3,z4,z5,z6,z7,z8,z9,z10⟩:=fE HG.out.arr;have zl:=HG.out.lB
      obtain⟨y0,y1,y2,y3,y4,y5,y6,y7,y8,y9,aT⟩:=fE HG.out.res;obtain⟨g0,g1,g2,g3,g4,g5,g6,g7,g8,g9,g10⟩:=oN HG.out.res;have yl:=lt_of_block HG.out.res
      have eF:=ah (show Calls Tryz.prog 62 #[.agg #[.int .i64 kind, .int .i64 fr, .int .i64 tt, .int .i64 v0, .int .i64 v1, .int .i64 v2, .int .i64 v3, .slice aV q cV, .slice none 0 0, .slice none 0 0, .slice none 0 0]] wr fun e w'=>e= .returned (.bool false)∧aj ay wr w' from(aZ hr)▸xU (j_ w2 (Only w6.heap.size) (.slice aV q cV)) ⟨kind,fr,tt,v0,v1,v2,v3,ps.map (·.b),[], .nil,[]⟩ ps _ _ _ _ _ ⟨HG.out.kK.DI HG.out.each.dD,rfl,DC _ _⟩ dL.out)
      have HR:=ah hr;clear hr
      go_wp2_with(first
       |(go_at_call 61;refine(gU.out _ HG.out.ins).mono ?_;rintro e w9 ⟨rfl,rfl⟩)
       |(go_at_call 62;refine eF.out.mono ?_;rintro e w10 ⟨rfl,lZ⟩;clear z0 z1 z2 z3 z4 z5 z6 z7 z8 z9 z10 zl y0 g0 y1 g1 y2 g2 y3 g3 y4 g4 y5 g5 y6 g6 y7 g7 y8 g8 y9 g9 aT g10 yl;have jd:=HG.out.aO lZ;obtain⟨z0,z1,z2,z3,z4,z5,z6,z7,z8,z9,z10⟩:=fE jd.arr;have zl:=jd.lB;obtain⟨y0,y1,y2,y3,y4,y5,y6,y7,y8,y9,aT⟩:=fE jd.res;obtain⟨g0,g1,g2,g3,g4,g5,g6,g7,g8,g9,g10⟩:=oN jd.res;have yl:=lt_of_block jd.res;have uy:=ah jd;have yZ:=ah lZ;clear jd lZ))
      clear z0 z1 z2 z3 z4 z5 z6 z7 z8 z9 z10 zl y0 g0 y1 g1 y2 g2 y3 g3 y4 g4 y5 g5 y6 g6 y7 g7 y8 g8 y9 g9 aT g10 yl
      have hel:=uj uy.out.res (.int .i64 0) (.int .i64 0) (.int .i64 0) (.int .i64 0) (.int .i64 0) (.int .i64 0) (.int .i64 0) (.slice none 0 0) (.slice none 0 0) (.slice none 0 0) (.slice none 0 0) _ rfl
      obtain⟨y0,y1,y2,y3,y4,y5,y6,y7,y8,y9,aT⟩:=fE hel
      exact bodyPost_ret (v:= .tuple #[.agg #[.int .i64 0, .int .i64 0, .int .i64 0, .int .i64 0, .int .i64 0, .int .i64 0, .int .i64 0, .slice none 0 0, .slice none 0 0, .slice none 0 0, .slice none 0 0], .int .i64 2]) (by simp[results,Tryz.results13,go_sem,y0,y1,y2,y3,y4,y5,y6,y7,y8,y9,aT]) rfl (uy.out.yj HDR.out (uh w10 w.heap.size (.int .i64 0) (.int .i64 0) (.int .i64 0) (.int .i64 0) (.int .i64 0) (.int .i64 0) (.int .i64 0) (.slice none 0 0) (.slice none 0 0) (.slice none 0 0) (.slice none 0 0)))
     have HDR:=ah (Td.out _ (uZ.good (hs7▸HST.out) (by omega) hr))
     clear HST hs7
     obtain⟨z0,z1,z2,z3,z4,z5,z6,z7,z8,z9,z10⟩:=fE HG.out.arr;have zl:=HG.out.lB
     obtain⟨y0,y1,y2,y3,y4,y5,y6,y7,y8,y9,aT⟩:=fE HG.out.res;obtain⟨g0,g1,g2,g3,g4,g5,g6,g7,g8,g9,g10⟩:=oN HG.out.res;have yl:=lt_of_block HG.out.res
     have eF:=ah (show Calls Tryz.prog 62 #[.agg #[.int .i64 kind, .int .i64 fr, .int .i64 tt, .int .i64 v0, .int .i64 v1, .int .i64 v2, .int .i64 v3, .slice aV q cV, .slice none 0 0, .slice none 0 0, .slice none 0 0]] wr fun e w'=>e= .returned (.bool true)∧aj ay wr w' from(bZ hr)▸xU (j_ w2 (Only w6.heap.size) (.slice aV q cV)) ⟨kind,fr,tt,v0,v1,v2,v3,ps.map (·.b),[], .nil,[]⟩ ps _ _ _ _ _ ⟨HG.out.kK.DI HG.out.each.dD,rfl,DC _ _⟩ dL.out)
     have HR:=ah hr;clear hr
     go_wp2_with(first
      |(go_at_call 61;refine(gU.out _ HG.out.ins).mono ?_;rintro e w9 ⟨rfl,rfl⟩)
      |(go_at_call 62;refine eF.out.mono ?_;rintro e w10 ⟨rfl,lZ⟩;clear z0 z1 z2 z3 z4 z5 z6 z7 z8 z9 z10 zl y0 g0 y1 g1 y2 g2 y3 g3 y4 g4 y5 g5 y6 g6 y7 g7 y8 g8 y9 g9 aT g10 yl;have jd:=HG.out.aO lZ;obtain⟨z0,z1,z2,z3,z4,z5,z6,z7,z8,z9,z10⟩:=fE jd.arr;have zl:=jd.lB;obtain⟨y0,y1,y2,y3,y4,y5,y6,y7,y8,y9,aT⟩:=fE jd.res;obtain⟨g0,g1,g2,g3,g4,g5,g6,g7,g8,g9,g10⟩:=oN jd.res;have yl:=lt_of_block jd.res;have uy:=ah jd;have yZ:=ah lZ;clear jd lZ))
     clear z0 z1 z2 z3 z4 z5 z6 z7 z8 z9 z10 zl y0 g0 y1 g1 y2 g2 y3 g3 y4 g4 y5 g5 y6 g6 y7 g7 y8 g8 y9 g9 aT g10 yl
     have hel:=uj uy.out.res (.int .i64 kind) (.int .i64 fr) (.int .i64 tt) (.int .i64 v0) (.int .i64 v1) (.int .i64 v2) (.int .i64 v3) (.slice aV q cV) (.slice none 0 0) (.slice none 0 0) (.slice none 0 0) _ rfl
     obtain⟨y0,y1,y2,y3,y4,y5,y6,y7,y8,y9,aT⟩:=fE hel
     exact bodyPost_ret (v:= .tuple #[.agg #[.int .i64 kind, .int .i64 fr, .int .i64 tt, .int .i64 v0, .int .i64 v1, .int .i64 v2, .int .i64 v3, .slice aV q cV, .slice none 0 0, .slice none 0 0, .slice none 0 0], .int .i64 0]) (by simp[results,Tryz.results13,go_sem,y0,y1,y2,y3,y4,y5,y6,y7,y8,y9,aT]) rfl (uy.out.Tc (m:=⟨kind,fr,tt,v0,v1,v2,v3,ps.map (·.b),[], .nil,[]⟩) HDR.out rfl dL.out ⟨(DC _ _).tree,CZ _ _⟩ (uh w10 w.heap.size (.int .i64 kind) (.int .i64 fr) (.int .i64 tt) (.int .i64 v0) (.int .i64 v1) (.int .i64 v2) (.int .i64 v3) (.slice aV q cV) (.slice none 0 0) (.slice none 0 0) (.slice none 0 0)))
   subst hkd
   obtain⟨es,ks,c,s7,hcr⟩:=kY.total s
   have ig:=ah hcr
   have oI:=ah (LP.out rfl)
   have HST:=ah (show uZ 4 4 x ⟨2,fr,tt,v0,v1,v2,v3,ps.map (·.b),es,ks,c⟩ n q s4 s5 s s7 from⟨AX.out,G5.out,kZ.out,DU.out,hq,by rw[if_pos (show(2:Int)=2 from rfl)];exact hcr⟩)
   have dL:=ah (show lq ⟨2,fr,tt,v0,v1,v2,v3,ps.map (·.b),es,ks,c⟩from⟨fun b hb=>by
    obtain⟨p,hp,rfl⟩:=List.mem_map.1 hb
    exact qV.out p hp,by rw[List.length_map,kU.out];omega,pY.ok oI.out hcr⟩)
   clear hcr
   by_cases hn0:n<0
   ·have HDR:=ah (gJ.out (HST.out.bad (by decide) (by decide) (by decide) (by decide) (.inl hn0)))
    clear HST dL
    obtain⟨z0,z1,z2,z3,z4,z5,z6,z7,z8,z9,z10⟩:=fE HG.out.arr;have zl:=HG.out.lB
    go_wp2_with(first
     |(go_at_call 60;refine(Aj ib s s7 es ks c wr ig.out HG.out.ins uf.out oI.out).mono ?_;rintro e w8 ⟨ev,kv,cv,rfl,mg,hc8,jX,dS⟩;obtain⟨e0,d0,e1,d1,e2,d2,rfl,rfl,rfl⟩:=(fH.mk mg (iw.at_ hc8)).shape;generalize es.length=m0 at*;generalize ks.len=m1 at*;generalize c.length=m2 at*;clear z0 z1 z2 z3 z4 z5 z6 z7 z8 z9 z10 zl;have dI:=HG.out.call jX dS;obtain⟨z0,z1,z2,z3,z4,z5,z6,z7,z8,z9,z10⟩:=fE dI.arr;have f8:=bf dI.arr 8;have f9:=bf dI.arr 9;have f10:=bf dI.arr 10;have zl:=dI.lB;obtain⟨y0,y1,y2,y3,y4,y5,y6,y7,y8,y9,aT⟩:=fE dI.res;obtain⟨g0,g1,g2,g3,g4,g5,g6,g7,g8,g9,g10⟩:=oN dI.res;have yl:=lt_of_block dI.res;have hne:¬w6.heap.size=w.heap.size:=(by have h1:=dI.hB;have h2:=dI.hib;have h3:=dI.oP;omega);obtain⟨mX,jP,jB⟩:=HG.out.dD jX dS mg hc8;have n_:=ah mX;have uq:=ah jP;have oO:=ah jB;clear dI mX mg hc8 jX dS jP jB))
    clear z0 z1 z2 z3 z4 z5 z6 z7 z8 z9 z10 zl y0 g0 y1 g1 y2 g2 y3 g3 y4 g4 y5 g5 y6 g6 y7 g7 y8 g8 y9 g9 aT g10 yl f8 f9 f10 hne
    have hel:=uj n_.out.res (.int .i64 0) (.int .i64 0) (.int .i64 0) (.int .i64 0) (.int .i64 0) (.int .i64 0) (.int .i64 0) (.slice none 0 0) (.slice none 0 0) (.slice none 0 0) (.slice none 0 0) _ rfl
    obtain⟨y0,y1,y2,y3,y4,y5,y6,y7,y8,y9,aT⟩:=fE hel
    exact bodyPost_ret (v:= .tuple #[.agg #[.int .i64 0, .int .i64 0, .int .i64 0, .int .i64 0, .int .i64 0, .int .i64 0, .int .i64 0, .slice none 0 0, .slice none 0 0, .slice none 0 0, .slice none 0 0], .int .i64 2]) (by simp[results,Tryz.results13,go_sem,y0,y1,y2,y3,y4,y5,y6,y7,y8,y9,aT]) rfl (n_.out.yj HDR.out (uh (((w8.setCell ⟨w6.heap.size,8,none⟩ (.slice e0 m0 d0)).setCell ⟨w6.heap.size,9,none⟩ (.slice e1 m1 d1)).setCell ⟨w6.heap.size,10,none⟩ (.slice e2 m2 d2)) w.heap.size (.int .i64 0) (.int .i64 0) (.int .i64 0) (.int .i64 0) (.int .i64 0) (.int .i64 0) (.int .i64 0) (.slice none 0 0) (.slice none 0 0) (.slice none 0 0) (.slice none 0 0)))
   have LQ:¬n<0:=by omega
   cases hdn:tJ s7 with
   |false=>
    have gU:=ah (fun W h=>(show Calls Tryz.prog 61 #[.pointer (some ⟨ib,0,none⟩)] W fun e w'=>e= .returned (.bool false)∧W=w' from hdn▸z_ ib s7 W h))
    have HDR:=ah (gJ.out (HST.out.bad (by decide) (by decide) (by decide) (by decide) (.inr (.inl fun h=>by rw[h]at hdn;cases hdn))))
    clear HST dL hdn
    obtain⟨z0,z1,z2,z3,z4,z5,z6,z7,z8,z9,z10⟩:=fE HG.out.arr;have zl:=HG.out.lB
    go_wp2_with(first
     |(go_at_call 60;refine(Aj ib s s7 es ks c wr ig.out HG.out.ins uf.out oI.out).mono ?_;rintro e w8 ⟨ev,kv,cv,rfl,mg,hc8,jX,dS⟩;obtain⟨e0,d0,e1,d1,e2,d2,rfl,rfl,rfl⟩:=(fH.mk mg (iw.at_ hc8)).shape;generalize es.length=m0 at*;generalize ks.len=m1 at*;generalize c.length=m2 at*;clear z0 z1 z2 z3 z4 z5 z6 z7 z8 z9 z10 zl;have dI:=HG.out.call jX dS;obtain⟨z0,z1,z2,z3,z4,z5,z6,z7,z8,z9,z10⟩:=fE dI.arr;have f8:=bf dI.arr 8;have f9:=bf dI.arr 9;have f10:=bf dI.arr 10;have zl:=dI.lB;obtain⟨y0,y1,y2,y3,y4,y5,y6,y7,y8,y9,aT⟩:=fE dI.res;obtain⟨g0,g1,g2,g3,g4,g5,g6,g7,g8,g9,g10⟩:=oN dI.res;have yl:=lt_of_block dI.res;have hne:¬w6.heap.size=w.heap.size:=(by have h1:=dI.hB;have h2:=dI.hib;have h3:=dI.oP;omega);obtain⟨mX,jP,jB⟩:=HG.out.dD jX dS mg hc8;have n_:=ah mX;have uq:=ah jP;have oO:=ah jB;clear dI mX mg hc8 jX dS jP jB)
     |(go_at_call 61;refine(gU.out _ n_.out.ins).mono ?_;rintro e w9 ⟨rfl,rfl⟩))
    clear z0 z1 z2 z3 z4 z5 z6 z7 z8 z9 z10 zl y0 g0 y1 g1 y2 g2 y3 g3 y4 g4 y5 g5 y6 g6 y7 g7 y8 g8 y9 g9 aT g10 yl f8 f9 f10 hne
    have hel:=uj n_.out.res (.int .i64 0) (.int .i64 0) (.int .i64 0) (.int .i64 0) (.int .i64 0) (.int .i64 0) (.int .i64 0) (.slice none 0 0) (.slice none 0 0) (.slice none 0 0) (.slice none 0 0) _ rfl
    obtain⟨y0,y1,y2,y3,y4,y5,y6,y7,y8,y9,aT⟩:=fE hel
    exact bodyPost_ret (v:= .tuple #[.agg #[.int .i64 0, .int .i64 0, .int .i64 0, .int .i64 0, .int .i64 0, .int .i64 0, .int .i64 0, .slice none 0 0, .slice none 0 0, .slice none 0 0, .slice none 0 0], .int .i64 2]) (by simp[results,Tryz.results13,go_sem,y0,y1,y2,y3,y4,y5,y6,y7,y8,y9,aT]) rfl (n_.out.yj HDR.out (uh (((w8.setCell ⟨w6.heap.size,8,none⟩ (.slice e0 m0 d0)).setCell ⟨w6.heap.size,9,none⟩ (.slice e1 m1 d1)).setCell ⟨w6.heap.size,10,none⟩ (.slice e2 m2 d2)) w.heap.size (.int .i64 0) (.int .i64 0) (.int .i64 0) (.int .i64 0) (.int .i64 0) (.int .i64 0) (.int .i64 0) (.slice none 0 0) (.slice none 0 0) (.slice none 0 0) (.slice none 0 0)))
   |true=>
    have hs7:s7=some []:=Ru hdn
    have gU:=ah (fun W h=>(show Calls Tryz.prog 61 #[.pointer (some ⟨ib,0,none⟩)] W fun e w'=>e= .returned (.bool true)∧W=w' from hdn▸z_ ib s7 W h))
    clear hdn
    by_cases hr:bF.right ⟨2,fr,tt,v0,v1,v2,v3,ps.map (·.b),es,ks,c⟩
    rotate_left 1
    ·have HDR:=ah (gJ.out (HST.out.bad (by decide) (by decide) (by decide) (by decide) (.inr (.inr hr))))
     clear HST hs7
     obtain⟨z0,z1,z2,z3,z4,z5,z6,z7,z8,z9,z10⟩:=fE HG.out.arr;have zl:=HG.out.lB
     have HR:=ah hr;clear hr
     go_wp2_with(first
      |(go_at_call 60;refine(Aj ib s s7 es ks c wr ig.out HG.out.ins uf.out oI.out).mono ?_;rintro e w8 ⟨ev,kv,cv,rfl,mg,hc8,jX,dS⟩;obtain⟨e0,d0,e1,d1,e2,d2,rfl,rfl,rfl⟩:=(fH.mk mg (iw.at_ hc8)).shape;generalize es.length=m0 at*;generalize ks.len=m1 at*;generalize c.length=m2 at*;clear z0 z1 z2 z3 z4 z5 z6 z7 z8 z9 z10 zl;have dI:=HG.out.call jX dS;obtain⟨z0,z1,z2,z3,z4,z5,z6,z7,z8,z9,z10⟩:=fE dI.arr;have f8:=bf dI.arr 8;have f9:=bf dI.arr 9;have f10:=bf dI.arr 10;have zl:=dI.lB;obtain⟨y0,y1,y2,y3,y4,y5,y6,y7,y8,y9,aT⟩:=fE dI.res;obtain⟨g0,g1,g2,g3,g4,g5,g6,g7,g8,g9,g10⟩:=oN dI.res;have yl:=lt_of_block dI.res;have hne:¬w6.heap.size=w.heap.size:=(by have h1:=dI.hB;have h2:=dI.hib;have h3:=dI.oP;omega);obtain⟨mX,jP,jB⟩:=HG.out.dD jX dS mg hc8;have eF:=ah (show Calls Tryz.prog 62 #[.agg #[.int .i64 2, .int .i64 fr, .int .i64 tt, .int .i64 v0, .int .i64 v1, .int .i64 v2, .int .i64 v3, .slice aV q cV, .slice e0 m0 d0, .slice e1 m1 d1, .slice e2 m2 d2]] (((w8.setCell ⟨w6.heap.size,8,none⟩ (.slice e0 m0 d0)).setCell ⟨w6.heap.size,9,none⟩ (.slice e1 m1 d1)).setCell ⟨w6.heap.size,10,none⟩ (.slice e2 m2 d2)) fun e w'=>e= .returned (.bool false)∧aj ay (((w8.setCell ⟨w6.heap.size,8,none⟩ (.slice e0 m0 d0)).setCell ⟨w6.heap.size,9,none⟩ (.slice e1 m1 d1)).setCell ⟨w6.heap.size,10,none⟩ (.slice e2 m2 d2)) w' from(aZ HR.out)▸xU (j_ w2 (Only w6.heap.size) (.slice aV q cV)) ⟨2,fr,tt,v0,v1,v2,v3,ps.map (·.b),es,ks,c⟩ ps _ _ _ _ _ ⟨mX.kK.DI mX.each.dD,rfl,⟨jP,iw.at_ jB⟩⟩ dL.out);have n_:=ah mX;have uq:=ah jP;have oO:=ah jB;clear dI mX mg hc8 jX dS jP jB)
      |(go_at_call 61;refine(gU.out _ n_.out.ins).mono ?_;rintro e w9 ⟨rfl,rfl⟩)
      |(go_at_call 62;refine eF.out.mono ?_;rintro e w10 ⟨rfl,lZ⟩;clear z0 z1 z2 z3 z4 z5 z6 z7 z8 z9 z10 zl y0 g0 y1 g1 y2 g2 y3 g3 y4 g4 y5 g5 y6 g6 y7 g7 y8 g8 y9 g9 aT g10 yl f8 f9 f10 hne;have jd:=n_.out.aO lZ;obtain⟨z0,z1,z2,z3,z4,z5,z6,z7,z8,z9,z10⟩:=fE jd.arr;have zl:=jd.lB;obtain⟨y0,y1,y2,y3,y4,y5,y6,y7,y8,y9,aT⟩:=fE jd.res;obtain⟨g0,g1,g2,g3,g4,g5,g6,g7,g8,g9,g10⟩:=oN jd.res;have yl:=lt_of_block jd.res;have uy:=ah jd;have yZ:=ah lZ;clear jd lZ))
     clear z0 z1 z2 z3 z4 z5 z6 z7 z8 z9 z10 zl y0 g0 y1 g1 y2 g2 y3 g3 y4 g4 y5 g5 y6 g6 y7 g7 y8 g8 y9 g9 aT g10 yl
     have hel:=uj uy.out.res (.int .i64 0) (.int .i64 0) (.int .i64 0) (.int .i64 0) (.int .i64 0) (.int .i64 0) (.int .i64 0) (.slice none 0 0) (.slice none 0 0) (.slice none 0 0) (.slice none 0 0) _ rfl
     obtain⟨y0,y1,y2,y3,y4,y5,y6,y7,y8,y9,aT⟩:=fE hel
     exact bodyPost_ret (v:= .tuple #[.agg #[.int .i64 0, .int .i64 0, .int .i64 0, .int .i64 0, .int .i64 0, .int .i64 0, .int .i64 0, .slice none 0 0, .slice none 0 0, .slice none 0 0, .slice none 0 0], .int .i64 2]) (by simp[results,Tryz.results13,go_sem,y0,y1,y2,y3,y4,y5,y6,y7,y8,y9,aT]) rfl (uy.out.yj HDR.out (uh w10 w.heap.size (.int .i64 0) (.int .i64 0) (.int .i64 0) (.int .i64 0) (.int .i64 0) (.int .i64 0) (.int .i64 0) (.slice none 0 0) (.slice none 0 0) (.slice none 0 0) (.slice none 0 0)))
    have HDR:=ah (Td.out _ (uZ.good (hs7▸HST.out) (by omega) hr))
    clear HST hs7
    obtain⟨z0,z1,z2,z3,z4,z5,z6,z7,z8,z9,z10⟩:=fE HG.out.arr;have zl:=HG.out.lB
    have HR:=ah hr;clear hr
    go_wp2_with(first
     |(go_at_call 60;refine(Aj ib s s7 es ks c wr ig.out HG.out.ins uf.out oI.out).mono ?_;rintro e w8 ⟨ev,kv,cv,rfl,mg,hc8,jX,dS⟩;obtain⟨e0,d0,e1,d1,e2,d2,rfl,rfl,rfl⟩:=(fH.mk mg (iw.at_ hc8)).shape;generalize es.length=m0 at*;generalize ks.len=m1 at*;generalize c.length=m2 at*;clear z0 z1 z2 z3 z4 z5 z6 z7 z8 z9 z10 zl;have dI:=HG.out.call jX dS;obtain⟨z0,z1,z2,z3,z4,z5,z6,z7,z8,z9,z10⟩:=fE dI.arr;have f8:=bf dI.arr 8;have f9:=bf dI.arr 9;have f10:=bf dI.arr 10;have zl:=dI.lB;obtain⟨y0,y1,y2,y3,y4,y5,y6,y7,y8,y9,aT⟩:=fE dI.res;obtain⟨g0,g1,g2,g3,g4,g5,g6,g7,g8,g9,g10⟩:=oN dI.res;have yl:=lt_of_block dI.res;have hne:¬w6.heap.size=w.heap.size:=(by have h1:=dI.hB;have h2:=dI.hib;have h3:=dI.oP;omega);obtain⟨mX,jP,jB⟩:=HG.out.dD jX dS mg hc8;have eF:=ah (show Calls Tryz.prog 62 #[.agg #[.int .i64 2, .int .i64 fr, .int .i64 tt, .int .i64 v0, .int .i64 v1, .int .i64 v2, .int .i64 v3, .slice aV q cV, .slice e0 m0 d0, .slice e1 m1 d1, .slice e2 m2 d2]] (((w8.setCell ⟨w6.heap.size,8,none⟩ (.slice e0 m0 d0)).setCell ⟨w6.heap.size,9,none⟩ (.slice e1 m1 d1)).setCell ⟨w6.heap.size,10,none⟩ (.slice e2 m2 d2)) fun e w'=>e= .returned (.bool true)∧aj ay (((w8.setCell ⟨w6.heap.size,8,none⟩ (.slice e0 m0 d0)).setCell ⟨w6.heap.size,9,none⟩ (.slice e1 m1 d1)).setCell ⟨w6.heap.size,10,none⟩ (.slice e2 m2 d2)) w' from(bZ HR.out)▸xU (j_ w2 (Only w6.heap.size) (.slice aV q cV)) ⟨2,fr,tt,v0,v1,v2,v3,ps.map (·.b),es,ks,c⟩ ps _ _ _ _ _ ⟨mX.kK.DI mX.each.dD,rfl,⟨jP,iw.at_ jB⟩⟩ dL.out);have n_:=ah mX;have uq:=ah jP;have oO:=ah jB;clear dI mX mg hc8 jX dS jP jB)
     |(go_at_call 61;refine(gU.out _ n_.out.ins).mono ?_;rintro e w9 ⟨rfl,rfl⟩)
     |(go_at_call 62;refine eF.out.mono ?_;rintro e w10 ⟨rfl,lZ⟩;clear z0 z1 z2 z3 z4 z5 z6 z7 z8 z9 z10 zl y0 g0 y1 g1 y2 g2 y3 g3 y4 g4 y5 g5 y6 g6 y7 g7 y8 g8 y9 g9 aT g10 yl f8 f9 f10 hne;have jd:=n_.out.aO lZ;obtain⟨z0,z1,z2,z3,z4,z5,z6,z7,z8,z9,z10⟩:=fE jd.arr;have zl:=jd.lB;obtain⟨y0,y1,y2,y3,y4,y5,y6,y7,y8,y9,aT⟩:=fE jd.res;obtain⟨g0,g1,g2,g3,g4,g5,g6,g7,g8,g9,g10⟩:=oN jd.res;have yl:=lt_of_block jd.res;have uy:=ah jd;have yZ:=ah lZ;clear jd lZ))
    clear z0 z1 z2 z3 z4 z5 z6 z7 z8 z9 z10 zl y0 g0 y1 g1 y2 g2 y3 g3 y4 g4 y5 g5 y6 g6 y7 g7 y8 g8 y9 g9 aT g10 yl
    have hel:=uj uy.out.res (.int .i64 2) (.int .i64 fr) (.int .i64 tt) (.int .i64 v0) (.int .i64 v1) (.int .i64 v2) (.int .i64 v3) (.slice aV q cV) (.slice e0 m0 d0) (.slice e1 m1 d1) (.slice e2 m2 d2) _ rfl
    obtain⟨y0,y1,y2,y3,y4,y5,y6,y7,y8,y9,aT⟩:=fE hel
    exact bodyPost_ret (v:= .tuple #[.agg #[.int .i64 2, .int .i64 fr, .int .i64 tt, .int .i64 v0, .int .i64 v1, .int .i64 v2, .int .i64 v3, .slice aV q cV, .slice e0 m0 d0, .slice e1 m1 d1, .slice e2 m2 d2], .int .i64 0]) (by simp[results,Tryz.results13,go_sem,y0,y1,y2,y3,y4,y5,y6,y7,y8,y9,aT]) rfl (uy.out.Tc (m:=⟨2,fr,tt,v0,v1,v2,v3,ps.map (·.b),es,ks,c⟩) HDR.out rfl dL.out ⟨uq.out.aO yZ.out,iw.aO oO.out yZ.out⟩ (uh w10 w.heap.size (.int .i64 2) (.int .i64 fr) (.int .i64 tt) (.int .i64 v0) (.int .i64 v1) (.int .i64 v2) (.int .i64 v3) (.slice aV q cV) (.slice e0 m0 d0) (.slice e1 m1 d1) (.slice e2 m2 d2)))
  cases s with
  |none=>
   have DU:=ah (show q=n.toNat∨(none:Option (List UInt8))=none from .inr rfl)
   have LP:=ah (show kind=2→pY none from fun _=> .small (by show 0≤6000;omega))
   clear qw Gx
   by_cases hkd:kind=2
   rotate_left 1
   ·have c2':((kind:Int)==2)=false:=beq_false_of_ne hkd
    have HST:=ah (show uZ 4 4 x ⟨kind,fr,tt,v0,v1,v2,v3,ps.map (·.b),[], .nil,[]⟩ n q s4 s5 none none from⟨AX.out,G5.out,kZ.out,DU.out,hq,by rw[if_neg hkd];exact⟨⟨rfl,rfl,rfl⟩,rfl⟩⟩)
    have dL:=ah (show lq ⟨kind,fr,tt,v0,v1,v2,v3,ps.map (·.b),[], .nil,[]⟩from⟨fun b hb=>by
     obtain⟨p,hp,rfl⟩:=List.mem_map.1 hb
     exact qV.out p hp,by rw[List.length_map,kU.out];omega,FU.st⟩)
    clear hkd
    have LQ:¬n<0:=by omega
    have hdn:tJ none=false:=rfl
    have gU:=ah (fun W h=>(show Calls Tryz.prog 61 #[.pointer (some ⟨ib,0,none⟩)] W fun e w'=>e= .returned (.bool false)∧W=w' from hdn▸z_ ib none W h))
    have HDR:=ah (gJ.out (HST.out.bad (by decide) (by decide) (by decide) (by decide) (.inr (.inl fun h=>by rw[h]at hdn;cases hdn))))
    clear HST dL hdn
    obtain⟨z0,z1,z2,z3,z4,z5,z6,z7,z8,z9,z10⟩:=fE HG.out.arr;have zl:=HG.out.lB
    obtain⟨y0,y1,y2,y3,y4,y5,y6,y7,y8,y9,aT⟩:=fE HG.out.res;obtain⟨g0,g1,g2,g3,g4,g5,g6,g7,g8,g9,g10⟩:=oN HG.out.res;have yl:=lt_of_block HG.out.res
    go_wp2_with(first
     |(go_at_call 58;refine(mO ib _ _ HG.out.ins).mono ?_;rintro e w4' ⟨rfl,rfl⟩)
     |(go_at_call 61;refine(gU.out _ HG.out.ins).mono ?_;rintro e w9 ⟨rfl,rfl⟩))
    clear z0 z1 z2 z3 z4 z5 z6 z7 z8 z9 z10 zl y0 g0 y1 g1 y2 g2 y3 g3 y4 g4 y5 g5 y6 g6 y7 g7 y8 g8 y9 g9 aT g10 yl
    have hel:=uj HG.out.res (.int .i64 0) (.int .i64 0) (.int .i64 0) (.int .i64 0) (.int .i64 0) (.int .i64 0) (.int .i64 0) (.slice none 0 0) (.slice none 0 0) (.slice none 0 0) (.slice none 0 0) _ rfl
    obtain⟨y0,y1,y2,y3,y4,y5,y6,y7,y8,y9,aT⟩:=fE hel
    exact bodyPost_ret (v:= .tuple #[.agg #[.int .i64 0, .int .i64 0, .int .i64 0, .int .i64 0, .int .i64 0, .int .i64 0, .int .i64 0, .slice none 0 0, .slice none 0 0, .slice none 0 0, .slice none 0 0], .int .i64 2]) (by simp[results,Tryz.results13,go_sem,y0,y1,y2,y3,y4,y5,y6,y7,y8,y9,aT]) rfl (HG.out.yj HDR.out (uh wr w.heap.size (.int .i64 0) (.int .i64 0) (.int .i64 0) (.int .i64 0) (.int .i64 0) (.int .i64 0) (.int .i64 0) (.slice none 0 0) (.slice none 0 0) (.slice none 0 0) (.slice none 0 0)))
   subst hkd
   obtain⟨es,ks,c,s7,hcr⟩:=kY.total none
   have ig:=ah hcr
   have oI:=ah (LP.out rfl)
   have HST:=ah (show uZ 4 4 x ⟨2,fr,tt,v0,v1,v2,v3,ps.map (·.b),es,ks,c⟩ n q s4 s5 none s7 from⟨AX.out,G5.out,kZ.out,DU.out,hq,by rw[if_pos (show(2:Int)=2 from rfl)];exact hcr⟩)
   have dL:=ah (show lq ⟨2,fr,tt,v0,v1,v2,v3,ps.map (·.b),es,ks,c⟩from⟨fun b hb=>by
    obtain⟨p,hp,rfl⟩:=List.mem_map.1 hb
    exact qV.out p hp,by rw[List.length_map,kU.out];omega,pY.ok oI.out hcr⟩)
   clear hcr
   have LQ:¬n<0:=by omega
   have hdn:tJ s7=false:=by rw[show s7=none from aac ig.out];rfl
   have gU:=ah (fun W h=>(show Calls Tryz.prog 61 #[.pointer (some ⟨ib,0,none⟩)] W fun e w'=>e= .returned (.bool false)∧W=w' from hdn▸z_ ib s7 W h))
   have HDR:=ah (gJ.out (HST.out.bad (by decide) (by decide) (by decide) (by decide) (.inr (.inl fun h=>by rw[h]at hdn;cases hdn))))
   clear HST dL hdn
   obtain⟨z0,z1,z2,z3,z4,z5,z6,z7,z8,z9,z10⟩:=fE HG.out.arr;have zl:=HG.out.lB
   go_wp2_with(first
    |(go_at_call 58;refine(mO ib _ _ HG.out.ins).mono ?_;rintro e w4' ⟨rfl,rfl⟩)
    |(go_at_call 60;refine(Aj ib none s7 es ks c wr ig.out HG.out.ins uf.out oI.out).mono ?_;rintro e w8 ⟨ev,kv,cv,rfl,mg,hc8,jX,dS⟩;obtain⟨e0,d0,e1,d1,e2,d2,rfl,rfl,rfl⟩:=(fH.mk mg (iw.at_ hc8)).shape;generalize es.length=m0 at*;generalize ks.len=m1 at*;generalize c.length=m2 at*;clear z0 z1 z2 z3 z4 z5 z6 z7 z8 z9 z10 zl;have dI:=HG.out.call jX dS;obtain⟨z0,z1,z2,z3,z4,z5,z6,z7,z8,z9,z10⟩:=fE dI.arr;have f8:=bf dI.arr 8;have f9:=bf dI.arr 9;have f10:=bf dI.arr 10;have zl:=dI.lB;obtain⟨y0,y1,y2,y3,y4,y5,y6,y7,y8,y9,aT⟩:=fE dI.res;obtain⟨g0,g1,g2,g3,g4,g5,g6,g7,g8,g9,g10⟩:=oN dI.res;have yl:=lt_of_block dI.res;have hne:¬w6.heap.size=w.heap.size:=(by have h1:=dI.hB;have h2:=dI.hib;have h3:=dI.oP;omega);obtain⟨mX,jP,jB⟩:=HG.out.dD jX dS mg hc8;have n_:=ah mX;have uq:=ah jP;have oO:=ah jB;clear dI mX mg hc8 jX dS jP jB)
    |(go_at_call 61;refine(gU.out _ n_.out.ins).mono ?_;rintro e w9 ⟨rfl,rfl⟩))
   clear z0 z1 z2 z3 z4 z5 z6 z7 z8 z9 z10 zl y0 g0 y1 g1 y2 g2 y3 g3 y4 g4 y5 g5 y6 g6 y7 g7 y8 g8 y9 g9 aT g10 yl f8 f9 f10 hne
   have hel:=uj n_.out.res (.int .i64 0) (.int .i64 0) (.int .i64 0) (.int .i64 0) (.int .i64 0) (.int .i64 0) (.int .i64 0) (.slice none 0 0) (.slice none 0 0) (.slice none 0 0) (.slice none 0 0) _ rfl
   obtain⟨y0,y1,y2,y3,y4,y5,y6,y7,y8,y9,aT⟩:=fE hel
   exact bodyPost_ret (v:= .tuple #[.agg #[.int .i64 0, .int .i64 0, .int .i64 0, .int .i64 0, .int .i64 0, .int .i64 0, .int .i64 0, .slice none 0 0, .slice none 0 0, .slice none 0 0, .slice none 0 0], .int .i64 2]) (by simp[results,Tryz.results13,go_sem,y0,y1,y2,y3,y4,y5,y6,y7,y8,y9,aT]) rfl (n_.out.yj HDR.out (uh (((w8.setCell ⟨w6.heap.size,8,none⟩ (.slice e0 m0 d0)).setCell ⟨w6.heap.size,9,none⟩ (.slice e1 m1 d1)).setCell ⟨w6.heap.size,10,none⟩ (.slice e2 m2 d2)) w.heap.size (.int .i64 0) (.int .i64 0) (.int .i64 0) (.int .i64 0) (.int .i64 0) (.int .i64 0) (.int .i64 0) (.slice none 0 0) (.slice none 0 0) (.slice none 0 0) (.slice none 0 0)))
  |some r=>
   have hqn:q<n.toNat:=by omega
   have Tf:=ah (qw.out hqn)
   obtain⟨b,s',hres⟩:=jU.total (some r)
   have pq:=ah hres
   have abK:=ah (jU.okF Tf.out hres)
   have abL:=ah (Run.snoc kZ.out hres)
   clear hres qw Gx
   obtain⟨dc,af,la,u0,u1,u2,u3,es',ks',c'⟩:=b
   have z7:=aC HG.out.arr 7 rfl
   have zl:=HG.out.lB
   go_wp2_with(go_at_call 58;refine(mO ib _ _ HG.out.ins).mono ?_;rintro e w4' ⟨rfl,rfl⟩)
   refine iI (S:=fun w'=>w'.cell? ⟨w6.heap.size,7,none⟩=some (.slice aV q cV)) 7 (by kernel_rfl) z7 ?_
   intro hS
   clear z7 zl
   have HY:=ah (HG.out.aO (aj.drew ay wr))
   clear HG
   generalize wr.drew=Y0 at*
   refine aS 0 42 rfl rfl (v:=?_) (.inl ⟨by rfl,?_⟩) ?_
   rotate_left 1
   ·(intro w hSw;(try dsimp only at hSw);go_simp;(try with_reducible rfl))
   refine aS 1 43 rfl rfl (v:=?_) (.inl ⟨by rfl,?_⟩) ?_
   rotate_left 1
   ·(intro w hSw;(try dsimp only at hSw);go_simp;(try with_reducible rfl))
   try simp only[Act.put,aI,aJ,aN]
   refine aS 2 44 rfl rfl (v:=?_) (.inl ⟨by rfl,?_⟩) ?_
   rotate_left 1
   ·(intro w hSw;(try dsimp only at hSw);go_simp;(try with_reducible rfl))
   try simp only[Act.put,aI,aJ,aN]
   refine bM (i:=3) (by kernel_rfl) rfl (fun K hK=>?_)
   go_simp
   refine(abA ib (some r) s' ⟨dc,af,la,u0,u1,u2,u3,es',ks',c'⟩ Y0 pq.out HY.out.ins uf.out Tf.out).mono ?_
   rintro e1 Y1 ⟨ev',kv',cv',rfl,ht1,hc1,hi1,hf1⟩
   obtain⟨a3,c3,a4,c4,a5,c5,rfl,rfl,rfl⟩:=(fH.mk ht1 (iw.at_ hc1)).shape
   have hpc:aY.cells ⟨⟨dc,af,la,u0,u1,u2,u3,es',ks',c'⟩, .slice a3 es'.length c3, .slice a4 ks'.len c4, .slice a5 c'.length c5⟩=[.int .i64 dc, .int .i64 af, .int .i64 la, .int .i64 u0, .int .i64 u1, .int .i64 u2, .int .i64 u3, .slice a3 es'.length c3, .slice a4 ks'.len c4, .slice a5 c'.length c5]:=rfl
   have BN:=ah hpc;clear hpc
   have hone:=aY.one ⟨⟨dc,af,la,u0,u1,u2,u3,es',ks',c'⟩, .slice a3 es'.length c3, .slice a4 ks'.len c4, .slice a5 c'.length c5⟩ rfl rfl rfl
   rw[BN.out]at hone
   have pJ:=ah hone;clear hone
   have HT1:=ah ht1;have cO:=ah hc1;clear ht1 hc1
   have Gy:=HY.out.call hi1 hf1
   have hS1:Y1.cell? ⟨w6.heap.size,7,none⟩=some (.slice aV q cV):=aC Gy.arr 7 rfl
   have hown:=Gy.kK.own
   rw[kU.out]at hown
   have KW:=ah hown;clear hown
   have lT:=ah Gy;clear Gy
   have HI1:=ah hi1;have bH:=ah hf1;clear hi1 hf1
   generalize es'.length=n1 at*
   generalize ks'.len=n2 at*
   generalize c'.length=n3 at*
   refine hK.out _ _ hS1 ?_
   clear hK K hS
   try simp only[Act.put,aI,aJ,aN]
   refine bM (i:=4) (by kernel_rfl) rfl (fun K hK=>?_)
   go_simp
   have hS3:(Y1.alloc (.cells #[.int .i64 dc, .int .i64 af, .int .i64 la, .int .i64 u0, .int .i64 u1, .int .i64 u2, .int .i64 u3, .slice a3 n1 c3, .slice a4 n2 c4, .slice a5 n3 c5] 59)).cell? ⟨w6.heap.size,7,none⟩=some (.slice aV q cV):=(aj.alloc ay Y1 _).cell' hS1 id
   refine hK.out _ _ hS3 ?_
   clear hK K
   try simp only[Act.put,aI,aJ,aN]
   refine bM (i:=5) (by kernel_rfl) rfl (fun K hK=>?_)
   refine Fz Y1 [.int .i64 dc, .int .i64 af, .int .i64 la, .int .i64 u0, .int .i64 u1, .int .i64 u2, .int .i64 u3, .slice a3 n1 c3, .slice a4 n2 c4, .slice a5 n3 c5] rfl (.tmp 43) (.tmp 46) 26 rfl 59 ib0 _ 10 128 Tryz.underlying26 hi hz0 hz1 hz2 (by decide) (by decide) (.slice aV q cV) q _ KW.out 1 1 (by simp[Act.eval]) (by simp[Act.eval]) rfl pJ.out (by simp only[maxLen];omega) (by omega) ?_
   intro ad c6 w8 pV eY pX
   have hnb:¬fJ (.slice aV q cV) w6.heap.size:=fun hr=>(lT.out.kK.new _ hr).2 rfl
   have hS6:w8.cell? ⟨w6.heap.size,7,none⟩=some (.slice aV q cV):=eY.cell' hS1 hnb
   have hcf:w8.frozen? ⟨w6.heap.size,7,none⟩=false:=bf (eY.blk lT.out.arr hnb) 7
   have hl6:w6.heap.size<w8.heap.size:=lt_of_block (eY.blk lT.out.arr hnb)
   have sS:=ah (show DG w w2 (w8.setCell ⟨w6.heap.size,7,none⟩ (.slice ad (q+1) c6)) ib w6.heap.size s' #[.int .i64 kind, .int .i64 fr, .int .i64 tt, .int .i64 v0, .int .i64 v1, .int .i64 v2, .int .i64 v3, .slice ad (q+1) c6, .slice none 0 0, .slice none 0 0, .slice none 0 0] (ps++ [⟨⟨dc,af,la,u0,u1,u2,u3,es',ks',c'⟩, .slice a3 n1 c3, .slice a4 n2 c4, .slice a5 n3 c5⟩]) (.slice ad (q+1) c6)from
    HY.out.step (p:=⟨⟨dc,af,la,u0,u1,u2,u3,es',ks',c'⟩, .slice a3 n1 c3, .slice a4 n2 c4, .slice a5 n3 c5⟩) HI1.out bH.out HT1.out cO.out (by rw[kU.out];exact pV) eY pX)
   have hrow:=hS6
   refine hK.out _ _ hS6 ?_
   clear hK K pV eY pX hnb hS3
   try simp only[Act.put,aI,aJ,aN]
   refine aS 6 48 rfl rfl (v:=?_) (.inl ⟨by rfl,?_⟩) ?_
   rotate_left 1
   ·(intro w hSw;(try dsimp only at hSw);go_simp;(try with_reducible rfl))
   try simp only[Act.put,aI,aJ,aN]
   refine iQ (by kernel_rfl) (by kernel_rfl) rfl (fun K hK=>?_)
   go_simp
   refine hK.out _ _ ?_
   clear hK K hrow hcf
   go_wp2
   go_roundw
   case rel=>exact⟨q+1,_,s',_,by omega,by go_num,by rw[List.map_append];exact abL.out,sS.out,fun p hp=>by
    rcases List.mem_append.1 hp with hp|hp
    ·exact qV.out p hp
    ·rw[List.mem_singleton.1 hp];exact abK.out⟩
   case measure=>simp[intOf];omega
end Go.Proofs.YtabkpccdnkjoiaaGreat
