/- Words for the law MsgDecodes: R25Dec. -/
import Derived.Test.YtabkpccdnkjoiaaGreatMsgDecodesG0
import Derived.Test.YtabkpccdnkjoiaaGreatMsgDecodesG39
set_option linter.unusedSimpArgs false
set_option linter.unusedVariables false
set_option maxHeartbeats 32000000
set_option maxRecDepth 1000000
namespace Go.Proofs.YtabkpccdnkjoiaaGreat
open Go.RowKit
theorem ae3 (l:List UInt8) (v:Value) (w:World) (h:Rd w v l.length (bV l)) (h0:aT.gX l≠0):Calls Tryz.prog 14 #[v] w (vK l w):=by
 have HO:=ah (fun W (f:aj ay w W)=>ae1 l v W (h.aJ f) h0)
 obtain⟨a,c,rfl⟩:=h.sl
 have HT:=ah (Og h0)
 have bD:=ah (aj.alloc ay w (.cells #[.int .i64 0, .int .i64 0, .int .i64 0, .int .i64 0, .int .i64 0, .int .i64 0, .int .i64 0, .slice none 0 0, .slice none 0 0, .slice none 0 0, .slice none 0 0] 42))
 have HB0:=ah (heap_alloc_new w (.cells #[.int .i64 0, .int .i64 0, .int .i64 0, .int .i64 0, .int .i64 0, .int .i64 0, .int .i64 0, .slice none 0 0, .slice none 0 0, .slice none 0 0, .slice none 0 0] 42))
 clear h
 generalize aT.gX l=k at*
 have hk:((k:Int)==0)=false:=beq_false_of_ne h0
 have hk':((k:Int) !=0)=true:=by rw[bne,hk];rfl
 clear h0
 go_enter Tryz.func14,Tryz.ntmps14
 go_wp2_with(go_at_call 63;refine(HO.out _ bD.out).mono ?_;rintro e w1 ⟨rfl,hw1⟩;have HW1:=ah hw1;have HB1:=ah (hw1.blk HB0.out id);clear hw1;have y0:=au HB1.out 0 rfl;have g0:=aG HB1.out 0;have y1:=au HB1.out 1 rfl;have g1:=aG HB1.out 1;have y2:=au HB1.out 2 rfl;have g2:=aG HB1.out 2;have y3:=au HB1.out 3 rfl;have g3:=aG HB1.out 3;have y4:=au HB1.out 4 rfl;have g4:=aG HB1.out 4;have y5:=au HB1.out 5 rfl;have g5:=aG HB1.out 5;have y6:=au HB1.out 6 rfl;have g6:=aG HB1.out 6;have y7:=au HB1.out 7 rfl;have g7:=aG HB1.out 7;have y8:=au HB1.out 8 rfl;have g8:=aG HB1.out 8;have y9:=au HB1.out 9 rfl;have g9:=aG HB1.out 9;have aY:=au HB1.out 10 rfl;have g10:=aG HB1.out 10;have yl:=lt_of_block HB1.out)
 clear y0 g0 y1 g1 y2 g2 y3 g3 y4 g4 y5 g5 y6 g6 y7 g7 y8 g8 y9 g9 aY g10 yl
 have hel:=mD HB1.out (.int .i64 0) (.int .i64 0) (.int .i64 0) (.int .i64 0) (.int .i64 0) (.int .i64 0) (.int .i64 0) (.slice none 0 0) (.slice none 0 0) (.slice none 0 0) (.slice none 0 0) _ rfl
 obtain⟨y0,y1,y2,y3,y4,y5,y6,y7,y8,y9,aY⟩:=cu hel
 exact bodyPost_ret (v:= .tuple #[.agg #[.int .i64 0, .int .i64 0, .int .i64 0, .int .i64 0, .int .i64 0, .int .i64 0, .int .i64 0, .slice none 0 0, .slice none 0 0, .slice none 0 0, .slice none 0 0], .int .i64 k]) (by simp[results,Tryz.results14,go_sem,y0,y1,y2,y3,y4,y5,y6,y7,y8,y9,aY]) rfl (⟨k,bW.zero,[],_,_,_,_,HT.out,rfl,JJ _ _,yg,(bD.out.aC HW1.out).trans (mg w1 w.heap.size (.int .i64 0) (.int .i64 0) (.int .i64 0) (.int .i64 0) (.int .i64 0) (.int .i64 0) (.int .i64 0) (.slice none 0 0) (.slice none 0 0) (.slice none 0 0) (.slice none 0 0)) fun i hi e=>by have e:i=w.heap.size:=e;omega⟩)
theorem ae4 (l:List UInt8) (v:Value) (w:World) (h:Rd w v l.length (bV l)) (h0:aT.gX l=0) (hfit:zC (aT.jI l)):Calls Tryz.prog 14 #[v] w (vK l w):=by
 obtain⟨PG,hi,hz0,hz1,hz2⟩:=info_parts VO
 have HO:=ah (fun W (f:aj ay w W)=>ae2 l v W (h.aJ f) h0)
 obtain⟨a,c,rfl⟩:=h.sl
 have bD:=ah (aj.alloc ay w (.cells #[.int .i64 0, .int .i64 0, .int .i64 0, .int .i64 0, .int .i64 0, .int .i64 0, .int .i64 0, .slice none 0 0, .slice none 0 0, .slice none 0 0, .slice none 0 0] 42))
 have HB0:=ah (heap_alloc_new w (.cells #[.int .i64 0, .int .i64 0, .int .i64 0, .int .i64 0, .int .i64 0, .int .i64 0, .int .i64 0, .slice none 0 0, .slice none 0 0, .slice none 0 0, .slice none 0 0] 42))
 clear h
 have GI:=ah (fun m (hd:qH (aT.jI l) (some m))=>JD h0 hd)
 have nT:=ah (fun(hd:qH (aT.jI l) none)=>Oe h0 hd)
 have PI:=ah hfit
 clear h0 hfit
 generalize aT.jI l=x at*
 obtain⟨kind,fr,tt,v0,v1,v2,v3,s1,s2,s3,s4,n,s5,g1,g2,g3,g4,g5⟩:=Vg 9 9 x
 have uV:=ah (show FN 9 9 x kind fr tt v0 v1 v2 v3 s4 from⟨s1,s2,s3,g1,g2,g3,g4⟩)
 have hn16:=Vh g5
 have G5:=ah g5
 obtain⟨s0,hs0⟩:∃s,s=some x:=⟨_,rfl⟩
 rw[←hs0]at g1
 have XM:=ah hs0;clear hs0
 have fZ:=ah (fun w0 W a l (hs:bK w0 W (.slice a (leftOf s0).length l) s0)=>oV hs g1 (by decide) (by decide))
 have HG2:=ah (fun w0 W a l (hs:bK w0 W (.slice a (leftOf s1).length l) s1)=>oV hs g2 (by decide) (by decide))
 have gW:=ah (fun w0 W a l (hs:bK w0 W (.slice a (leftOf s2).length l) s2)=>oV hs g3 (by decide) (by decide))
 have HV:=ah (fun w0 W a l (hs:bK w0 W (.slice a (leftOf s3).length l) s3) (f:w0.heap.size≤W.heap.size)=>WI W hs f g4)
 have xW:=ah (fun w0 W a l (hs:bK w0 W (.slice a (leftOf s4).length l) s4)=>oV hs g5 (by decide) (by decide))
 unfold qL at fZ HG2 gW xW
 unfold JU at HV
 clear g1 g2 g3 g4 g5
 go_enter Tryz.func14,Tryz.ntmps14
 go_wp2_with(go_at_call 63;refine(HO.out _ bD.out).mono ?_;rintro e w1 ⟨a1,c1,t1,ht1,rfl,uU⟩;have HT1:=ah ht1;have bH:=ah uU;clear uU ht1)
 have ht:=HT1.out.symm
 subst ht
 clear HT1 HO
 have HB1:=ah (bH.out.aH.blk HB0.out id)
 have HW1:=ah (bD.out.aC bH.out.aH)
 have hw1:w.heap.size<w1.heap.size:=lt_of_block HB1.out
 have zi:=ah (dH.two (ae0 bH.out.rd fun k hk=>(bH.out.own.lt k hk).2) 116 #[.int .i64 0, .int .i64 0, .int .i64 0])
 clear bH HB0 bD
 go_loopw [24] (fun j W=>∃(J:Nat) (y z u:Int) (t:Option (List UInt8)) (al:Option Addr) (cl:Nat),((J=0∧y=0∧z=0∧u=0∧t=s0)∨(J=1∧y=kind∧z=0∧u=0∧t=s1)∨(J=2∧y=kind∧z=fr∧u=0∧t=s2)∨(J=3∧y=kind∧z=fr∧u=tt∧t=s3))∧j= .int .i64 J∧dH w1 w1 (w1.alloc (.cells #[.slice a1 x.length c1, .bool false] 115)) W (w1.heap.size+1) 116 #[.int .i64 y, .int .i64 z, .int .i64 u] (.slice al (leftOf t).length cl) t) (fun j _=>3-(intOf j).toNat)
 case atStart=>
  have e:=XM.out
  subst e
  exact⟨0,0,0,0,_,a1,c1, .inl ⟨rfl,rfl,rfl,rfl,rfl⟩,rfl,zi.out⟩
 case round=>
  clear zi XM
  obtain⟨J,y,z,u,t,al,cl,hcase,rfl,hs⟩:=hrel
  rcases hcase with⟨rfl,rfl,rfl,rfl,rfl⟩|⟨rfl,rfl,rfl,rfl,rfl⟩|⟨rfl,rfl,rfl,rfl,rfl⟩|⟨rfl,rfl,rfl,rfl,rfl⟩
  ·have bH:=ah (fZ.out w1 wr al cl hs.rin)
   obtain⟨y0,y1,-⟩:=hs.facts
   have HS:=ah hs;clear hs fZ HG2 gW HV xW
   generalize (leftOf t).length=Lx at*
   generalize t.isNone=bx at*
   generalize jW:(leftOf s1).length=Ly at*
   generalize hby:s1.isNone=by' at*
   have oh:=ah jW;clear jW
   have jm:=ah hby;clear hby
   go_wp2_with(go_at_call 64;refine bH.out.mono ?_;rintro e W1 ⟨a5,c5,rfl,gI,hf5⟩;clear y0 y1;obtain⟨z0,z1,z2,z3,z4,z5,z6,z7⟩:=(HS.out.call hf5).facts;have z8:=(HS.out.call hf5).free 0;have z9:=au (HS.out.call hf5).blk 0 rfl;have iJ:=ah hf5;have oq:=ah gI;clear hf5 gI)
   go_roundw
   case rel=>
    have e1:=oh.out
    have e2:=jm.out
    subst e1 e2
    exact⟨1,kind,0,0,s1,a5,c5, .inr (.inl ⟨rfl,rfl,rfl,rfl,rfl⟩),by go_num,HS.out.next iJ.out oq.out 0 (.int .i64 kind)⟩
   case measure=>simp[intOf]
  ·have bH:=ah (HG2.out w1 wr al cl hs.rin)
   obtain⟨y0,y1,-⟩:=hs.facts
   have HS:=ah hs;clear hs fZ HG2 gW HV xW
   generalize (leftOf t).length=Lx at*
   generalize t.isNone=bx at*
   generalize jW:(leftOf s2).length=Ly at*
   generalize hby:s2.isNone=by' at*
   have oh:=ah jW;clear jW
   have jm:=ah hby;clear hby
   go_wp2_with(go_at_call 64;refine bH.out.mono ?_;rintro e W1 ⟨a5,c5,rfl,gI,hf5⟩;clear y0 y1;obtain⟨z0,z1,z2,z3,z4,z5,z6,z7⟩:=(HS.out.call hf5).facts;have z8:=(HS.out.call hf5).free 1;have z9:=au (HS.out.call hf5).blk 1 rfl;have iJ:=ah hf5;have oq:=ah gI;clear hf5 gI)
   go_roundw
   case rel=>
    have e1:=oh.out
    have e2:=jm.out
    subst e1 e2
    exact⟨2,y,fr,0,s2,a5,c5, .inr (.inr (.inl ⟨rfl,rfl,rfl,rfl,rfl⟩)),by go_num,HS.out.next iJ.out oq.out 1 (.int .i64 fr)⟩
   case measure=>simp[intOf]
  ·have bH:=ah (gW.out w1 wr al cl hs.rin)
   obtain⟨y0,y1,-⟩:=hs.facts
   have HS:=ah hs;clear hs fZ HG2 gW HV xW
   generalize (leftOf t).length=Lx at*
   generalize t.isNone=bx at*
   generalize jW:(leftOf s3).length=Ly at*
   generalize hby:s3.isNone=by' at*
   have oh:=ah jW;clear jW
   have jm:=ah hby;clear hby
   go_wp2_with(go_at_call 64;refine bH.out.mono ?_;rintro e W1 ⟨a5,c5,rfl,gI,hf5⟩;clear y0 y1;obtain⟨z0,z1,z2,z3,z4,z5,z6,z7⟩:=(HS.out.call hf5).facts;have z8:=(HS.out.call hf5).free 2;have z9:=au (HS.out.call hf5).blk 2 rfl;have iJ:=ah hf5;have oq:=ah gI;clear hf5 gI)
   go_roundw
   case rel=>
    have e1:=oh.out
    have e2:=jm.out
    subst e1 e2
    exact⟨3,y,z,tt,s3,a5,c5, .inr (.inr (.inr (⟨rfl,rfl,rfl,rfl,rfl⟩))),by go_num,HS.out.next iJ.out oq.out 2 (.int .i64 tt)⟩
   case measure=>simp[intOf]
  ·obtain⟨WO,Gg⟩:∃W,W=wr:=⟨wr,rfl⟩
   subst Gg
   have z0:=au hs.blk 0 rfl
   have z1:=au hs.blk 1 rfl
   have z2:=au hs.blk 2 rfl
   have zl:=lt_of_block hs.blk
   obtain⟨x0,x1,x2,x3,x4,x5,x6,x7⟩:=hs.facts
   obtain⟨kind,hkk⟩:∃k,k=y:=⟨_,rfl⟩
   subst hkk
   obtain⟨fr,hkk⟩:∃k,k=z:=⟨_,rfl⟩
   subst hkk
   obtain⟨tt,hkk⟩:∃k,k=u:=⟨_,rfl⟩
   subst hkk
   have hgv:=DR.start hs HW1.out hw1 HB1.out #[.int .i64 kind, .int .i64 fr, .int .i64 tt, .int .i64 0, .int .i64 0, .int .i64 0, .int .i64 0, .slice none 0 0, .slice none 0 0, .slice none 0 0, .slice none 0 0]
   have eG:=ah hgv
   have DJ:=ah (HV.out w1 _ al cl hgv.rin (Nat.le_of_lt hgv.lI))
   have XO:=ah (fun W a l hs=>xW.out w1 W a l hs)
   clear hgv hs fZ HG2 gW HV xW
   generalize hlx:(leftOf t).length=Lx at*
   generalize hbx:t.isNone=bx at*
   generalize hl4:(leftOf s4).length=L4 at*
   generalize hb4:s4.isNone=b4 at*
   generalize hl5:(leftOf s5).length=L5 at*
   generalize hb5:s5.isNone=b5 at*
   have bF:=ah hbx
   have HB4:=ah hb4
   have NK:=ah hb5
   have SB:=ah hl5
   clear hlx hbx hl4 hb4 hl5 hb5
   go_wp2_with(first
    |(go_at_call 65;refine DJ.out.mono ?_;rintro e w3 ⟨a3,c3,rfl,hr3,hf3⟩;clear x0 x1 x2 x3 x4 x5 x6 x7 z0 z1 z2 zl;have hg3:=eG.out.call hf3;obtain⟨x0,x1,x2,x3,x4,x5,x6,x7⟩:=hg3.facts bF.out;obtain⟨z0,z1,z2,z3,z4,z5,z6,z7,z8,z9,z10⟩:=cu hg3.arr;have f3:=aG hg3.arr 3;have f4:=aG hg3.arr 4;have f5:=aG hg3.arr 5;have f6:=aG hg3.arr 6;have zl:=hg3.lB;have tY:=ah (eG.out.vec (v0:=v0) (v1:=v1) (v2:=v2) (v3:=v3) hf3 hr3 HB4.out);clear hg3 hr3 hf3)
    |(go_at_call 64;refine(XO.out _ a3 c3 tY.out.rin).mono ?_;rintro e w4 ⟨a4,c4,rfl,hr4,hf4⟩;clear x0 x1 x2 x3 x4 x5 x6 x7 z0 z1 z2 z3 z4 z5 z6 z7 z8 z9 z10 zl f3 f4 f5 f6;have hg4:=tY.out.call hf4;obtain⟨x0,x1,x2,x3,x4,x5,x6,x7⟩:=hg4.facts HB4.out;have XP:=ah (hg4.put hr4 NK.out);clear hg4 hr4 hf4))
   clear x0 x1 x2 x3 x4 x5 x6 x7 eG tY DJ XO
   go_loopw [11] (fun i W=>∃(q:Nat) (ps:List aZ) (s:Option (List UInt8)) (lv v:Value),q≤n.toNat∧i= .int .i64 q∧Run jT s5 q (ps.map (·.b)) s∧DR w w1 W WO.heap.size v s #[.int .i64 kind, .int .i64 fr, .int .i64 tt, .int .i64 v0, .int .i64 v1, .int .i64 v2, .int .i64 v3,lv, .slice none 0 0, .slice none 0 0, .slice none 0 0] ps lv∧∀p∈ps,jd p.b.es p.b.ks p.b.c) (fun i _=>n.toNat-(intOf i).toNat)
   case atStart=>exact⟨0,[],s5,_,_,Nat.zero_le _,rfl, .zero,XP.out,fun p hp=>by cases hp⟩
   case round=>
    clear XP
    obtain⟨q,ps,s,lv,v,hq,rfl,hrun,hg,hall⟩:=hrel
    have hpl:ps.length=q:=by have:=hrun.len;simpa using this
    obtain⟨aV,cV,rfl⟩:=(Rd.own hg.fQ.own).sl
    obtain⟨aI,cI,rfl⟩:=hg.rin.shape
    rw[hpl]at hg
    have HG:=ah hg;clear hg
    have jA:=ah hrun;clear hrun
    have rH:=ah hall;clear hall
    have jY:=ah hpl;clear hpl
    have hfs:=Vf (by decide) (by decide) (by decide) (by decide) PI.out uV.out G5.out jA.out
    have rM:=ah hfs.1
    have ou:=ah hfs.2.1
    have yC:=ah hfs.2.2
    clear hfs
    by_cases hlt:(q:Int)<n
    rotate_left 1
    ·have vU:=ah (show q=n.toNat∨s=none from .inl (by omega))
     have BU:=ah (yC.out (by omega))
     clear ou yC
     obtain⟨bI,AB⟩:∃b,s.isNone=b:=⟨_,rfl⟩
     have nG:=ah AB;clear AB
     by_cases hkd:kind=2
     rotate_left 1
     ·have c2':((kind:Int)==2)=false:=beq_false_of_ne hkd
      have HST:=ah (show qI 9 9 x ⟨kind,fr,tt,v0,v1,v2,v3,ps.map (·.b),[], .nil,[]⟩ n q s4 s5 s s from⟨uV.out,G5.out,jA.out,vU.out,hq,by rw[if_neg hkd];exact⟨⟨rfl,rfl,rfl⟩,rfl⟩⟩)
      have bT:=ah (show kZ ⟨kind,fr,tt,v0,v1,v2,v3,ps.map (·.b),[], .nil,[]⟩from⟨fun b hb=>by
       obtain⟨p,hp,rfl⟩:=List.mem_map.1 hb
       exact rH.out p hp,by rw[List.length_map,jY.out];omega,yg.st⟩)
      clear hkd
      cases hdn:nO s with
      |false=>
       have hdc:∀(W:World) a l,bK w1 W (.slice a (leftOf s).length l) s→Calls Tryz.prog 68 #[.agg #[.slice a (leftOf s).length l, .bool s.isNone]] W (fun e W'=>e= .returned (.bool false)∧aj ay W W'):=fun W a l hr=>by
        have h2:=Du W _ _ s hr.mY
        rw[hdn]at h2
        exact h2.mono fun e W' hp=>⟨hp.1,hp.2.mono fun _ _ h=>h.elim⟩
       rw[nG.out]at hdc
       have HDR:=ah (nT.out (HST.out.bad (by decide) (by decide) (by decide) (by decide) (.inr (.inl fun h=>by rw[h]at hdn;cases hdn))))
       clear HST bT hdn
       have eF:=ah hdc;clear hdc
       generalize nH:(leftOf s).length=LI at*
       clear nH
       obtain⟨x0,x1,x2,x3,x4,x5,x6,x7⟩:=HG.out.facts nG.out
       obtain⟨z0,z1,z2,z3,z4,z5,z6,z7,z8,z9,z10⟩:=cu HG.out.arr;have zl:=HG.out.lB
       go_wp2_with(first
        |(go_at_call 68;refine(eF.out _ _ _ HG.out.rin).mono ?_;rintro e w9 ⟨rfl,bZ⟩;clear z0 z1 z2 z3 z4 z5 z6 z7 z8 z9 z10 zl x0 x1 x2 x3 x4 x5 x6 x7;have hg2:=HG.out.call bZ;obtain⟨z0,z1,z2,z3,z4,z5,z6,z7,z8,z9,z10⟩:=cu hg2.arr;have zl:=hg2.lB;obtain⟨y0,y1,y2,y3,y4,y5,y6,y7,y8,y9,aY⟩:=cu hg2.res;obtain⟨g0,g1,g2,g3,g4,g5,g6,g7,g8,g9,g10⟩:=jV hg2.res;have yl:=lt_of_block hg2.res;have HG2:=ah hg2;clear hg2 bZ))
       clear z0 z1 z2 z3 z4 z5 z6 z7 z8 z9 z10 zl y0 g0 y1 g1 y2 g2 y3 g3 y4 g4 y5 g5 y6 g6 y7 g7 y8 g8 y9 g9 aY g10 yl
       have hel:=mD HG2.out.res (.int .i64 0) (.int .i64 0) (.int .i64 0) (.int .i64 0) (.int .i64 0) (.int .i64 0) (.int .i64 0) (.slice none 0 0) (.slice none 0 0) (.slice none 0 0) (.slice none 0 0) _ rfl
       obtain⟨y0,y1,y2,y3,y4,y5,y6,y7,y8,y9,aY⟩:=cu hel
       exact bodyPost_ret (v:= .tuple #[.agg #[.int .i64 0, .int .i64 0, .int .i64 0, .int .i64 0, .int .i64 0, .int .i64 0, .int .i64 0, .slice none 0 0, .slice none 0 0, .slice none 0 0, .slice none 0 0], .int .i64 2]) (by simp[results,Tryz.results14,go_sem,y0,y1,y2,y3,y4,y5,y6,y7,y8,y9,aY]) rfl (HG2.out.pY HDR.out (mg w9 w.heap.size (.int .i64 0) (.int .i64 0) (.int .i64 0) (.int .i64 0) (.int .i64 0) (.int .i64 0) (.int .i64 0) (.slice none 0 0) (.slice none 0 0) (.slice none 0 0) (.slice none 0 0)))
      |true=>
       have hs7:s=some []:=JK hdn
       have hdc:∀(W:World) a l,bK w1 W (.slice a (leftOf s).length l) s→Calls Tryz.prog 68 #[.agg #[.slice a (leftOf s).length l, .bool s.isNone]] W (fun e W'=>e= .returned (.bool true)∧aj ay W W'):=fun W a l hr=>by
        have h2:=Du W _ _ s hr.mY
        rw[hdn]at h2
        exact h2.mono fun e W' hp=>⟨hp.1,hp.2.mono fun _ _ h=>h.elim⟩
       rw[nG.out]at hdc
       clear hdn
       by_cases hn0:n<0
       ·have HDR:=ah (nT.out (HST.out.bad (by decide) (by decide) (by decide) (by decide) (.inl hn0)))
        clear HST bT hs7
        have eF:=ah hdc;clear hdc
        generalize nH:(leftOf s).length=LI at*
        clear nH
        obtain⟨x0,x1,x2,x3,x4,x5,x6,x7⟩:=HG.out.facts nG.out
        obtain⟨z0,z1,z2,z3,z4,z5,z6,z7,z8,z9,z10⟩:=cu HG.out.arr;have zl:=HG.out.lB
        go_wp2_with(first
         |(go_at_call 68;refine(eF.out _ _ _ HG.out.rin).mono ?_;rintro e w9 ⟨rfl,bZ⟩;clear z0 z1 z2 z3 z4 z5 z6 z7 z8 z9 z10 zl x0 x1 x2 x3 x4 x5 x6 x7;have hg2:=HG.out.call bZ;obtain⟨z0,z1,z2,z3,z4,z5,z6,z7,z8,z9,z10⟩:=cu hg2.arr;have zl:=hg2.lB;obtain⟨y0,y1,y2,y3,y4,y5,y6,y7,y8,y9,aY⟩:=cu hg2.res;obtain⟨g0,g1,g2,g3,g4,g5,g6,g7,g8,g9,g10⟩:=jV hg2.res;have yl:=lt_of_block hg2.res;have HG2:=ah hg2;clear hg2 bZ))
        clear z0 z1 z2 z3 z4 z5 z6 z7 z8 z9 z10 zl y0 g0 y1 g1 y2 g2 y3 g3 y4 g4 y5 g5 y6 g6 y7 g7 y8 g8 y9 g9 aY g10 yl
        have hel:=mD HG2.out.res (.int .i64 0) (.int .i64 0) (.int .i64 0) (.int .i64 0) (.int .i64 0) (.int .i64 0) (.int .i64 0) (.slice none 0 0) (.slice none 0 0) (.slice none 0 0) (.slice none 0 0) _ rfl
        obtain⟨y0,y1,y2,y3,y4,y5,y6,y7,y8,y9,aY⟩:=cu hel
        exact bodyPost_ret (v:= .tuple #[.agg #[.int .i64 0, .int .i64 0, .int .i64 0, .int .i64 0, .int .i64 0, .int .i64 0, .int .i64 0, .slice none 0 0, .slice none 0 0, .slice none 0 0, .slice none 0 0], .int .i64 2]) (by simp[results,Tryz.results14,go_sem,y0,y1,y2,y3,y4,y5,y6,y7,y8,y9,aY]) rfl (HG2.out.pY HDR.out (mg w9 w.heap.size (.int .i64 0) (.int .i64 0) (.int .i64 0) (.int .i64 0) (.int .i64 0) (.int .i64 0) (.int .i64 0) (.slice none 0 0) (.slice none 0 0) (.slice none 0 0) (.slice none 0 0)))
       have GL:¬n<0:=hn0
       clear hn0
       by_cases hr:bW.right ⟨kind,fr,tt,v0,v1,v2,v3,ps.map (·.b),[], .nil,[]⟩
       rotate_left 1
       ·have HDR:=ah (nT.out (HST.out.bad (by decide) (by decide) (by decide) (by decide) (.inr (.inr hr))))
        clear HST hs7
        have eF:=ah hdc;clear hdc
        generalize nH:(leftOf s).length=LI at*
        clear nH
        obtain⟨x0,x1,x2,x3,x4,x5,x6,x7⟩:=HG.out.facts nG.out
        obtain⟨z0,z1,z2,z3,z4,z5,z6,z7,z8,z9,z10⟩:=cu HG.out.arr;have zl:=HG.out.lB
        have HR:=ah hr;clear hr
        go_wp2_with(first
         |(go_at_call 68;refine(eF.out _ _ _ HG.out.rin).mono ?_;rintro e w9 ⟨rfl,bZ⟩;clear z0 z1 z2 z3 z4 z5 z6 z7 z8 z9 z10 zl x0 x1 x2 x3 x4 x5 x6 x7;have hg2:=HG.out.call bZ;obtain⟨z0,z1,z2,z3,z4,z5,z6,z7,z8,z9,z10⟩:=cu hg2.arr;have zl:=hg2.lB;obtain⟨y0,y1,y2,y3,y4,y5,y6,y7,y8,y9,aY⟩:=cu hg2.res;obtain⟨g0,g1,g2,g3,g4,g5,g6,g7,g8,g9,g10⟩:=jV hg2.res;have yl:=lt_of_block hg2.res;have HG2:=ah hg2;clear hg2 bZ)
         |(go_at_call 19;have hrt:Calls Tryz.prog 19 #[.agg #[.int .i64 kind, .int .i64 fr, .int .i64 tt, .int .i64 v0, .int .i64 v1, .int .i64 v2, .int .i64 v3, .slice aV q cV, .slice none 0 0, .slice none 0 0, .slice none 0 0]] w9 (fun e w'=>e= .returned (.bool false)∧aj ay w9 w'):=(by have h2:=Kv (iV w1 (fun k=>k=w1.heap.size∨k=WO.heap.size) (.slice aV q cV)) ⟨kind,fr,tt,v0,v1,v2,v3,ps.map (·.b),[], .nil,[]⟩ ps w9 _ _ _ _ ⟨HG2.out.fQ.yu HG2.out.each.eX,rfl,zH _ _⟩ bT.out;rw[bf HR.out]at h2;exact h2);refine hrt.mono ?_;rintro e w10 ⟨rfl,jk⟩;clear hrt z0 z1 z2 z3 z4 z5 z6 z7 z8 z9 z10 zl y0 g0 y1 g1 y2 g2 y3 g3 y4 g4 y5 g5 y6 g6 y7 g7 y8 g8 y9 g9 aY g10 yl;have eu:=HG2.out.call jk;obtain⟨z0,z1,z2,z3,z4,z5,z6,z7,z8,z9,z10⟩:=cu eu.arr;have zl:=eu.lB;obtain⟨y0,y1,y2,y3,y4,y5,y6,y7,y8,y9,aY⟩:=cu eu.res;obtain⟨g0,g1,g2,g3,g4,g5,g6,g7,g8,g9,g10⟩:=jV eu.res;have yl:=lt_of_block eu.res;have mG:=ah eu;clear eu jk))
        clear z0 z1 z2 z3 z4 z5 z6 z7 z8 z9 z10 zl y0 g0 y1 g1 y2 g2 y3 g3 y4 g4 y5 g5 y6 g6 y7 g7 y8 g8 y9 g9 aY g10 yl
        have hel:=mD mG.out.res (.int .i64 0) (.int .i64 0) (.int .i64 0) (.int .i64 0) (.int .i64 0) (.int .i64 0) (.int .i64 0) (.slice none 0 0) (.slice none 0 0) (.slice none 0 0) (.slice none 0 0) _ rfl
        obtain⟨y0,y1,y2,y3,y4,y5,y6,y7,y8,y9,aY⟩:=cu hel
        exact bodyPost_ret (v:= .tuple #[.agg #[.int .i64 0, .int .i64 0, .int .i64 0, .int .i64 0, .int .i64 0, .int .i64 0, .int .i64 0, .slice none 0 0, .slice none 0 0, .slice none 0 0, .slice none 0 0], .int .i64 2]) (by simp[results,Tryz.results14,go_sem,y0,y1,y2,y3,y4,y5,y6,y7,y8,y9,aY]) rfl (mG.out.pY HDR.out (mg w10 w.heap.size (.int .i64 0) (.int .i64 0) (.int .i64 0) (.int .i64 0) (.int .i64 0) (.int .i64 0) (.int .i64 0) (.slice none 0 0) (.slice none 0 0) (.slice none 0 0) (.slice none 0 0)))
       have HDR:=ah (GI.out _ (qI.good (hs7▸HST.out) (by omega) hr))
       clear HST hs7
       have eF:=ah hdc;clear hdc
       generalize nH:(leftOf s).length=LI at*
       clear nH
       obtain⟨x0,x1,x2,x3,x4,x5,x6,x7⟩:=HG.out.facts nG.out
       obtain⟨z0,z1,z2,z3,z4,z5,z6,z7,z8,z9,z10⟩:=cu HG.out.arr;have zl:=HG.out.lB
       have HR:=ah hr;clear hr
       go_wp2_with(first
        |(go_at_call 68;refine(eF.out _ _ _ HG.out.rin).mono ?_;rintro e w9 ⟨rfl,bZ⟩;clear z0 z1 z2 z3 z4 z5 z6 z7 z8 z9 z10 zl x0 x1 x2 x3 x4 x5 x6 x7;have hg2:=HG.out.call bZ;obtain⟨z0,z1,z2,z3,z4,z5,z6,z7,z8,z9,z10⟩:=cu hg2.arr;have zl:=hg2.lB;obtain⟨y0,y1,y2,y3,y4,y5,y6,y7,y8,y9,aY⟩:=cu hg2.res;obtain⟨g0,g1,g2,g3,g4,g5,g6,g7,g8,g9,g10⟩:=jV hg2.res;have yl:=lt_of_block hg2.res;have HG2:=ah hg2;clear hg2 bZ)
        |(go_at_call 19;have hrt:Calls Tryz.prog 19 #[.agg #[.int .i64 kind, .int .i64 fr, .int .i64 tt, .int .i64 v0, .int .i64 v1, .int .i64 v2, .int .i64 v3, .slice aV q cV, .slice none 0 0, .slice none 0 0, .slice none 0 0]] w9 (fun e w'=>e= .returned (.bool true)∧aj ay w9 w'):=(by have h2:=Kv (iV w1 (fun k=>k=w1.heap.size∨k=WO.heap.size) (.slice aV q cV)) ⟨kind,fr,tt,v0,v1,v2,v3,ps.map (·.b),[], .nil,[]⟩ ps w9 _ _ _ _ ⟨HG2.out.fQ.yu HG2.out.each.eX,rfl,zH _ _⟩ bT.out;rw[dO HR.out]at h2;exact h2);refine hrt.mono ?_;rintro e w10 ⟨rfl,jk⟩;clear hrt z0 z1 z2 z3 z4 z5 z6 z7 z8 z9 z10 zl y0 g0 y1 g1 y2 g2 y3 g3 y4 g4 y5 g5 y6 g6 y7 g7 y8 g8 y9 g9 aY g10 yl;have eu:=HG2.out.call jk;obtain⟨z0,z1,z2,z3,z4,z5,z6,z7,z8,z9,z10⟩:=cu eu.arr;have zl:=eu.lB;obtain⟨y0,y1,y2,y3,y4,y5,y6,y7,y8,y9,aY⟩:=cu eu.res;obtain⟨g0,g1,g2,g3,g4,g5,g6,g7,g8,g9,g10⟩:=jV eu.res;have yl:=lt_of_block eu.res;have mG:=ah eu;clear eu jk))
       clear z0 z1 z2 z3 z4 z5 z6 z7 z8 z9 z10 zl y0 g0 y1 g1 y2 g2 y3 g3 y4 g4 y5 g5 y6 g6 y7 g7 y8 g8 y9 g9 aY g10 yl
       have hel:=mD mG.out.res (.int .i64 kind) (.int .i64 fr) (.int .i64 tt) (.int .i64 v0) (.int .i64 v1) (.int .i64 v2) (.int .i64 v3) (.slice aV q cV) (.slice none 0 0) (.slice none 0 0) (.slice none 0 0) _ rfl
       obtain⟨y0,y1,y2,y3,y4,y5,y6,y7,y8,y9,aY⟩:=cu hel
       exact bodyPost_ret (v:= .tuple #[.agg #[.int .i64 kind, .int .i64 fr, .int .i64 tt, .int .i64 v0, .int .i64 v1, .int .i64 v2, .int .i64 v3, .slice aV q cV, .slice none 0 0, .slice none 0 0, .slice none 0 0], .int .i64 0]) (by simp[results,Tryz.results14,go_sem,y0,y1,y2,y3,y4,y5,y6,y7,y8,y9,aY]) rfl (mG.out.GH (m:=⟨kind,fr,tt,v0,v1,v2,v3,ps.map (·.b),[], .nil,[]⟩) HDR.out rfl bT.out ⟨(zH _ _).tree,wK _ _⟩ (mg w10 w.heap.size (.int .i64 kind) (.int .i64 fr) (.int .i64 tt) (.int .i64 v0) (.int .i64 v1) (.int .i64 v2) (.int .i64 v3) (.slice aV q cV) (.slice none 0 0) (.slice none 0 0) (.slice none 0 0)))
     subst hkd
     obtain⟨es,ks,c,s7,hcr⟩:=kW.total s
     have fU:=ah hcr
     have ni:=ah (BU.out rfl)
     have HST:=ah (show qI 9 9 x ⟨2,fr,tt,v0,v1,v2,v3,ps.map (·.b),es,ks,c⟩ n q s4 s5 s s7 from⟨uV.out,G5.out,jA.out,vU.out,hq,by rw[if_pos (show(2:Int)=2 from rfl)];exact hcr⟩)
     have bT:=ah (show kZ ⟨2,fr,tt,v0,v1,v2,v3,ps.map (·.b),es,ks,c⟩from⟨fun b hb=>by
      obtain⟨p,hp,rfl⟩:=List.mem_map.1 hb
      exact rH.out p hp,by rw[List.length_map,jY.out];omega,oP.ok ni.out hcr⟩)
     clear hcr
     have hxc:=O_ wr HG.out.rin (Nat.le_of_lt HG.out.lI) fU.out rM.out ni.out
     unfold Gn at hxc
     rw[nG.out]at hxc
     have zO:=ah hxc;clear hxc
     cases hdn:nO s7 with
     |false=>
      have hdc:∀(W:World) a l,bK w1 W (.slice a (leftOf s7).length l) s7→Calls Tryz.prog 68 #[.agg #[.slice a (leftOf s7).length l, .bool s7.isNone]] W (fun e W'=>e= .returned (.bool false)∧aj ay W W'):=fun W a l hr=>by
       have h2:=Du W _ _ s7 hr.mY
       rw[hdn]at h2
       exact h2.mono fun e W' hp=>⟨hp.1,hp.2.mono fun _ _ h=>h.elim⟩
      have HDR:=ah (nT.out (HST.out.bad (by decide) (by decide) (by decide) (by decide) (.inr (.inl fun h=>by rw[h]at hdn;cases hdn))))
      clear HST bT hdn
      have eF:=ah hdc;clear hdc
      generalize nH:(leftOf s).length=LI at*
      clear nH
      generalize hL7:(leftOf s7).length=L7 at*
      clear hL7
      generalize hb7:s7.isNone=b7 at*
      have yD:=ah hb7;clear hb7
      obtain⟨x0,x1,x2,x3,x4,x5,x6,x7⟩:=HG.out.facts nG.out
      obtain⟨z0,z1,z2,z3,z4,z5,z6,z7,z8,z9,z10⟩:=cu HG.out.arr;have zl:=HG.out.lB
      go_wp2_with(first
       |(go_at_call 67;refine zO.out.mono ?_;rintro e w8 ⟨ev,kv,cv,a7,c7,rfl,iL,hc8,sO,cZ⟩;obtain⟨e0,d0,e1,d1,e2,d2,rfl,rfl,rfl⟩:=(gK.mk iL (dP.at_ hc8)).shape;generalize es.length=m0 at*;generalize ks.len=m1 at*;generalize c.length=m2 at*;clear z0 z1 z2 z3 z4 z5 z6 z7 z8 z9 z10 zl x0 x1 x2 x3 x4 x5 x6 x7;have bU:=HG.out.call cZ;obtain⟨z0,z1,z2,z3,z4,z5,z6,z7,z8,z9,z10⟩:=cu bU.arr;have f8:=aG bU.arr 8;have f9:=aG bU.arr 9;have f10:=aG bU.arr 10;have zl:=bU.lB;obtain⟨x0,x1,x2,x3,x4,x5,x6,x7⟩:=bU.facts nG.out;obtain⟨jD,iW,jJ⟩:=HG.out.eX sO cZ yD.out iL hc8;have jK:=ah jD;have nC:=ah iW;have nD:=ah jJ;clear bU jD iL hc8 sO cZ iW jJ)
       |(go_at_call 68;refine(eF.out _ _ _ jK.out.rin).mono ?_;rintro e w9 ⟨rfl,bZ⟩;clear z0 z1 z2 z3 z4 z5 z6 z7 z8 z9 z10 zl x0 x1 x2 x3 x4 x5 x6 x7 f8 f9 f10;have hg2:=jK.out.call bZ;obtain⟨z0,z1,z2,z3,z4,z5,z6,z7,z8,z9,z10⟩:=cu hg2.arr;have zl:=hg2.lB;obtain⟨y0,y1,y2,y3,y4,y5,y6,y7,y8,y9,aY⟩:=cu hg2.res;obtain⟨g0,g1,g2,g3,g4,g5,g6,g7,g8,g9,g10⟩:=jV hg2.res;have yl:=lt_of_block hg2.res;have HG2:=ah hg2;have HT2:=ah (nC.out.aJ bZ);have HC2:=ah (dP.aJ nD.out bZ);clear hg2 bZ))
      clear z0 z1 z2 z3 z4 z5 z6 z7 z8 z9 z10 zl y0 g0 y1 g1 y2 g2 y3 g3 y4 g4 y5 g5 y6 g6 y7 g7 y8 g8 y9 g9 aY g10 yl
      have hel:=mD HG2.out.res (.int .i64 0) (.int .i64 0) (.int .i64 0) (.int .i64 0) (.int .i64 0) (.int .i64 0) (.int .i64 0) (.slice none 0 0) (.slice none 0 0) (.slice none 0 0) (.slice none 0 0) _ rfl
      obtain⟨y0,y1,y2,y3,y4,y5,y6,y7,y8,y9,aY⟩:=cu hel
      exact bodyPost_ret (v:= .tuple #[.agg #[.int .i64 0, .int .i64 0, .int .i64 0, .int .i64 0, .int .i64 0, .int .i64 0, .int .i64 0, .slice none 0 0, .slice none 0 0, .slice none 0 0, .slice none 0 0], .int .i64 2]) (by simp[results,Tryz.results14,go_sem,y0,y1,y2,y3,y4,y5,y6,y7,y8,y9,aY]) rfl (HG2.out.pY HDR.out (mg w9 w.heap.size (.int .i64 0) (.int .i64 0) (.int .i64 0) (.int .i64 0) (.int .i64 0) (.int .i64 0) (.int .i64 0) (.slice none 0 0) (.slice none 0 0) (.slice none 0 0) (.slice none 0 0)))
     |true=>
      have hs7:s7=some []:=JK hdn
      have hdc:∀(W:World) a l,bK w1 W (.slice a (leftOf s7).length l) s7→Calls Tryz.prog 68 #[.agg #[.slice a (leftOf s7).length l, .bool s7.isNone]] W (fun e W'=>e= .returned (.bool true)∧aj ay W W'):=fun W a l hr=>by
       have h2:=Du W _ _ s7 hr.mY
       rw[hdn]at h2
       exact h2.mono fun e W' hp=>⟨hp.1,hp.2.mono fun _ _ h=>h.elim⟩
      clear hdn
      by_cases hn0:n<0
      ·have HDR:=ah (nT.out (HST.out.bad (by decide) (by decide) (by decide) (by decide) (.inl hn0)))
       clear HST bT hs7
       have eF:=ah hdc;clear hdc
       generalize nH:(leftOf s).length=LI at*
       clear nH
       generalize hL7:(leftOf s7).length=L7 at*
       clear hL7
       generalize hb7:s7.isNone=b7 at*
       have yD:=ah hb7;clear hb7
       obtain⟨x0,x1,x2,x3,x4,x5,x6,x7⟩:=HG.out.facts nG.out
       obtain⟨z0,z1,z2,z3,z4,z5,z6,z7,z8,z9,z10⟩:=cu HG.out.arr;have zl:=HG.out.lB
       go_wp2_with(first
        |(go_at_call 67;refine zO.out.mono ?_;rintro e w8 ⟨ev,kv,cv,a7,c7,rfl,iL,hc8,sO,cZ⟩;obtain⟨e0,d0,e1,d1,e2,d2,rfl,rfl,rfl⟩:=(gK.mk iL (dP.at_ hc8)).shape;generalize es.length=m0 at*;generalize ks.len=m1 at*;generalize c.length=m2 at*;clear z0 z1 z2 z3 z4 z5 z6 z7 z8 z9 z10 zl x0 x1 x2 x3 x4 x5 x6 x7;have bU:=HG.out.call cZ;obtain⟨z0,z1,z2,z3,z4,z5,z6,z7,z8,z9,z10⟩:=cu bU.arr;have f8:=aG bU.arr 8;have f9:=aG bU.arr 9;have f10:=aG bU.arr 10;have zl:=bU.lB;obtain⟨x0,x1,x2,x3,x4,x5,x6,x7⟩:=bU.facts nG.out;obtain⟨jD,iW,jJ⟩:=HG.out.eX sO cZ yD.out iL hc8;have jK:=ah jD;have nC:=ah iW;have nD:=ah jJ;clear bU jD iL hc8 sO cZ iW jJ)
        |(go_at_call 68;refine(eF.out _ _ _ jK.out.rin).mono ?_;rintro e w9 ⟨rfl,bZ⟩;clear z0 z1 z2 z3 z4 z5 z6 z7 z8 z9 z10 zl x0 x1 x2 x3 x4 x5 x6 x7 f8 f9 f10;have hg2:=jK.out.call bZ;obtain⟨z0,z1,z2,z3,z4,z5,z6,z7,z8,z9,z10⟩:=cu hg2.arr;have zl:=hg2.lB;obtain⟨y0,y1,y2,y3,y4,y5,y6,y7,y8,y9,aY⟩:=cu hg2.res;obtain⟨g0,g1,g2,g3,g4,g5,g6,g7,g8,g9,g10⟩:=jV hg2.res;have yl:=lt_of_block hg2.res;have HG2:=ah hg2;have HT2:=ah (nC.out.aJ bZ);have HC2:=ah (dP.aJ nD.out bZ);clear hg2 bZ))
       clear z0 z1 z2 z3 z4 z5 z6 z7 z8 z9 z10 zl y0 g0 y1 g1 y2 g2 y3 g3 y4 g4 y5 g5 y6 g6 y7 g7 y8 g8 y9 g9 aY g10 yl
       have hel:=mD HG2.out.res (.int .i64 0) (.int .i64 0) (.int .i64 0) (.int .i64 0) (.int .i64 0) (.int .i64 0) (.int .i64 0) (.slice none 0 0) (.slice none 0 0) (.slice none 0 0) (.slice none 0 0) _ rfl
       obtain⟨y0,y1,y2,y3,y4,y5,y6,y7,y8,y9,aY⟩:=cu hel
       exact bodyPost_ret (v:= .tuple #[.agg #[.int .i64 0, .int .i64 0, .int .i64 0, .int .i64 0, .int .i64 0, .int .i64 0, .int .i64 0, .slice none 0 0, .slice none 0 0, .slice none 0 0, .slice none 0 0], .int .i64 2]) (by simp[results,Tryz.results14,go_sem,y0,y1,y2,y3,y4,y5,y6,y7,y8,y9,aY]) rfl (HG2.out.pY HDR.out (mg w9 w.heap.size (.int .i64 0) (.int .i64 0) (.int .i64 0) (.int .i64 0) (.int .i64 0) (.int .i64 0) (.int .i64 0) (.slice none 0 0) (.slice none 0 0) (.slice none 0 0) (.slice none 0 0)))
      have GL:¬n<0:=hn0
      clear hn0
      by_cases hr:bW.right ⟨2,fr,tt,v0,v1,v2,v3,ps.map (·.b),es,ks,c⟩
      rotate_left 1
      ·have HDR:=ah (nT.out (HST.out.bad (by decide) (by decide) (by decide) (by decide) (.inr (.inr hr))))
       clear HST hs7
       have eF:=ah hdc;clear hdc
       generalize nH:(leftOf s).length=LI at*
       clear nH
       generalize hL7:(leftOf s7).length=L7 at*
       clear hL7
       generalize hb7:s7.isNone=b7 at*
       have yD:=ah hb7;clear hb7
       obtain⟨x0,x1,x2,x3,x4,x5,x6,x7⟩:=HG.out.facts nG.out
       obtain⟨z0,z1,z2,z3,z4,z5,z6,z7,z8,z9,z10⟩:=cu HG.out.arr;have zl:=HG.out.lB
       have HR:=ah hr;clear hr
       go_wp2_with(first
        |(go_at_call 67;refine zO.out.mono ?_;rintro e w8 ⟨ev,kv,cv,a7,c7,rfl,iL,hc8,sO,cZ⟩;obtain⟨e0,d0,e1,d1,e2,d2,rfl,rfl,rfl⟩:=(gK.mk iL (dP.at_ hc8)).shape;generalize es.length=m0 at*;generalize ks.len=m1 at*;generalize c.length=m2 at*;clear z0 z1 z2 z3 z4 z5 z6 z7 z8 z9 z10 zl x0 x1 x2 x3 x4 x5 x6 x7;have bU:=HG.out.call cZ;obtain⟨z0,z1,z2,z3,z4,z5,z6,z7,z8,z9,z10⟩:=cu bU.arr;have f8:=aG bU.arr 8;have f9:=aG bU.arr 9;have f10:=aG bU.arr 10;have zl:=bU.lB;obtain⟨x0,x1,x2,x3,x4,x5,x6,x7⟩:=bU.facts nG.out;obtain⟨jD,iW,jJ⟩:=HG.out.eX sO cZ yD.out iL hc8;have jK:=ah jD;have nC:=ah iW;have nD:=ah jJ;clear bU jD iL hc8 sO cZ iW jJ)
        |(go_at_call 68;refine(eF.out _ _ _ jK.out.rin).mono ?_;rintro e w9 ⟨rfl,bZ⟩;clear z0 z1 z2 z3 z4 z5 z6 z7 z8 z9 z10 zl x0 x1 x2 x3 x4 x5 x6 x7 f8 f9 f10;have hg2:=jK.out.call bZ;obtain⟨z0,z1,z2,z3,z4,z5,z6,z7,z8,z9,z10⟩:=cu hg2.arr;have zl:=hg2.lB;obtain⟨y0,y1,y2,y3,y4,y5,y6,y7,y8,y9,aY⟩:=cu hg2.res;obtain⟨g0,g1,g2,g3,g4,g5,g6,g7,g8,g9,g10⟩:=jV hg2.res;have yl:=lt_of_block hg2.res;have HG2:=ah hg2;have HT2:=ah (nC.out.aJ bZ);have HC2:=ah (dP.aJ nD.out bZ);clear hg2 bZ)
        |(go_at_call 19;have hrt:Calls Tryz.prog 19 #[.agg #[.int .i64 2, .int .i64 fr, .int .i64 tt, .int .i64 v0, .int .i64 v1, .int .i64 v2, .int .i64 v3, .slice aV q cV, .slice e0 m0 d0, .slice e1 m1 d1, .slice e2 m2 d2]] w9 (fun e w'=>e= .returned (.bool false)∧aj ay w9 w'):=(by have h2:=Kv (iV w1 (fun k=>k=w1.heap.size∨k=WO.heap.size) (.slice aV q cV)) ⟨2,fr,tt,v0,v1,v2,v3,ps.map (·.b),es,ks,c⟩ ps w9 _ _ _ _ ⟨HG2.out.fQ.yu HG2.out.each.eX,rfl,⟨HT2.out,dP.at_ HC2.out⟩⟩ bT.out;rw[bf HR.out]at h2;exact h2);refine hrt.mono ?_;rintro e w10 ⟨rfl,jk⟩;clear hrt z0 z1 z2 z3 z4 z5 z6 z7 z8 z9 z10 zl y0 g0 y1 g1 y2 g2 y3 g3 y4 g4 y5 g5 y6 g6 y7 g7 y8 g8 y9 g9 aY g10 yl;have eu:=HG2.out.call jk;obtain⟨z0,z1,z2,z3,z4,z5,z6,z7,z8,z9,z10⟩:=cu eu.arr;have zl:=eu.lB;obtain⟨y0,y1,y2,y3,y4,y5,y6,y7,y8,y9,aY⟩:=cu eu.res;obtain⟨g0,g1,g2,g3,g4,g5,g6,g7,g8,g9,g10⟩:=jV eu.res;have yl:=lt_of_block eu.res;have mG:=ah eu;have HT3:=ah (HT2.out.aJ jk);have mP:=ah (dP.aJ HC2.out jk);clear eu jk))
       clear z0 z1 z2 z3 z4 z5 z6 z7 z8 z9 z10 zl y0 g0 y1 g1 y2 g2 y3 g3 y4 g4 y5 g5 y6 g6 y7 g7 y8 g8 y9 g9 aY g10 yl
       have hel:=mD mG.out.res (.int .i64 0) (.int .i64 0) (.int .i64 0) (.int .i64 0) (.int .i64 0) (.int .i64 0) (.int .i64 0) (.slice none 0 0) (.slice none 0 0) (.slice none 0 0) (.slice none 0 0) _ rfl
       obtain⟨y0,y1,y2,y3,y4,y5,y6,y7,y8,y9,aY⟩:=cu hel
       exact bodyPost_ret (v:= .tuple #[.agg #[.int .i64 0, .int .i64 0, .int .i64 0, .int .i64 0, .int .i64 0, .int .i64 0, .int .i64 0, .slice none 0 0, .slice none 0 0, .slice none 0 0, .slice none 0 0], .int .i64 2]) (by simp[results,Tryz.results14,go_sem,y0,y1,y2,y3,y4,y5,y6,y7,y8,y9,aY]) rfl (mG.out.pY HDR.out (mg w10 w.heap.size (.int .i64 0) (.int .i64 0) (.int .i64 0) (.int .i64 0) (.int .i64 0) (.int .i64 0) (.int .i64 0) (.slice none 0 0) (.slice none 0 0) (.slice none 0 0) (.slice none 0 0)))
      have HDR:=ah (GI.out _ (qI.good (hs7▸HST.out) (by omega) hr))
      clear HST hs7
      have eF:=ah hdc;clear hdc
      generalize nH:(leftOf s).length=LI at*
      clear nH
      generalize hL7:(leftOf s7).length=L7 at*
      clear hL7
      generalize hb7:s7.isNone=b7 at*
      have yD:=ah hb7;clear hb7
      obtain⟨x0,x1,x2,x3,x4,x5,x6,x7⟩:=HG.out.facts nG.out
      obtain⟨z0,z1,z2,z3,z4,z5,z6,z7,z8,z9,z10⟩:=cu HG.out.arr;have zl:=HG.out.lB
      have HR:=ah hr;clear hr
      go_wp2_with(first
       |(go_at_call 67;refine zO.out.mono ?_;rintro e w8 ⟨ev,kv,cv,a7,c7,rfl,iL,hc8,sO,cZ⟩;obtain⟨e0,d0,e1,d1,e2,d2,rfl,rfl,rfl⟩:=(gK.mk iL (dP.at_ hc8)).shape;generalize es.length=m0 at*;generalize ks.len=m1 at*;generalize c.length=m2 at*;clear z0 z1 z2 z3 z4 z5 z6 z7 z8 z9 z10 zl x0 x1 x2 x3 x4 x5 x6 x7;have bU:=HG.out.call cZ;obtain⟨z0,z1,z2,z3,z4,z5,z6,z7,z8,z9,z10⟩:=cu bU.arr;have f8:=aG bU.arr 8;have f9:=aG bU.arr 9;have f10:=aG bU.arr 10;have zl:=bU.lB;obtain⟨x0,x1,x2,x3,x4,x5,x6,x7⟩:=bU.facts nG.out;obtain⟨jD,iW,jJ⟩:=HG.out.eX sO cZ yD.out iL hc8;have jK:=ah jD;have nC:=ah iW;have nD:=ah jJ;clear bU jD iL hc8 sO cZ iW jJ)
       |(go_at_call 68;refine(eF.out _ _ _ jK.out.rin).mono ?_;rintro e w9 ⟨rfl,bZ⟩;clear z0 z1 z2 z3 z4 z5 z6 z7 z8 z9 z10 zl x0 x1 x2 x3 x4 x5 x6 x7 f8 f9 f10;have hg2:=jK.out.call bZ;obtain⟨z0,z1,z2,z3,z4,z5,z6,z7,z8,z9,z10⟩:=cu hg2.arr;have zl:=hg2.lB;obtain⟨y0,y1,y2,y3,y4,y5,y6,y7,y8,y9,aY⟩:=cu hg2.res;obtain⟨g0,g1,g2,g3,g4,g5,g6,g7,g8,g9,g10⟩:=jV hg2.res;have yl:=lt_of_block hg2.res;have HG2:=ah hg2;have HT2:=ah (nC.out.aJ bZ);have HC2:=ah (dP.aJ nD.out bZ);clear hg2 bZ)
       |(go_at_call 19;have hrt:Calls Tryz.prog 19 #[.agg #[.int .i64 2, .int .i64 fr, .int .i64 tt, .int .i64 v0, .int .i64 v1, .int .i64 v2, .int .i64 v3, .slice aV q cV, .slice e0 m0 d0, .slice e1 m1 d1, .slice e2 m2 d2]] w9 (fun e w'=>e= .returned (.bool true)∧aj ay w9 w'):=(by have h2:=Kv (iV w1 (fun k=>k=w1.heap.size∨k=WO.heap.size) (.slice aV q cV)) ⟨2,fr,tt,v0,v1,v2,v3,ps.map (·.b),es,ks,c⟩ ps w9 _ _ _ _ ⟨HG2.out.fQ.yu HG2.out.each.eX,rfl,⟨HT2.out,dP.at_ HC2.out⟩⟩ bT.out;rw[dO HR.out]at h2;exact h2);refine hrt.mono ?_;rintro e w10 ⟨rfl,jk⟩;clear hrt z0 z1 z2 z3 z4 z5 z6 z7 z8 z9 z10 zl y0 g0 y1 g1 y2 g2 y3 g3 y4 g4 y5 g5 y6 g6 y7 g7 y8 g8 y9 g9 aY g10 yl;have eu:=HG2.out.call jk;obtain⟨z0,z1,z2,z3,z4,z5,z6,z7,z8,z9,z10⟩:=cu eu.arr;have zl:=eu.lB;obtain⟨y0,y1,y2,y3,y4,y5,y6,y7,y8,y9,aY⟩:=cu eu.res;obtain⟨g0,g1,g2,g3,g4,g5,g6,g7,g8,g9,g10⟩:=jV eu.res;have yl:=lt_of_block eu.res;have mG:=ah eu;have HT3:=ah (HT2.out.aJ jk);have mP:=ah (dP.aJ HC2.out jk);clear eu jk))
      clear z0 z1 z2 z3 z4 z5 z6 z7 z8 z9 z10 zl y0 g0 y1 g1 y2 g2 y3 g3 y4 g4 y5 g5 y6 g6 y7 g7 y8 g8 y9 g9 aY g10 yl
      have hel:=mD mG.out.res (.int .i64 2) (.int .i64 fr) (.int .i64 tt) (.int .i64 v0) (.int .i64 v1) (.int .i64 v2) (.int .i64 v3) (.slice aV q cV) (.slice e0 m0 d0) (.slice e1 m1 d1) (.slice e2 m2 d2) _ rfl
      obtain⟨y0,y1,y2,y3,y4,y5,y6,y7,y8,y9,aY⟩:=cu hel
      exact bodyPost_ret (v:= .tuple #[.agg #[.int .i64 2, .int .i64 fr, .int .i64 tt, .int .i64 v0, .int .i64 v1, .int .i64 v2, .int .i64 v3, .slice aV q cV, .slice e0 m0 d0, .slice e1 m1 d1, .slice e2 m2 d2], .int .i64 0]) (by simp[results,Tryz.results14,go_sem,y0,y1,y2,y3,y4,y5,y6,y7,y8,y9,aY]) rfl (mG.out.GH (m:=⟨2,fr,tt,v0,v1,v2,v3,ps.map (·.b),es,ks,c⟩) HDR.out rfl bT.out ⟨HT3.out,mP.out⟩ (mg w10 w.heap.size (.int .i64 2) (.int .i64 fr) (.int .i64 tt) (.int .i64 v0) (.int .i64 v1) (.int .i64 v2) (.int .i64 v3) (.slice aV q cV) (.slice e0 m0 d0) (.slice e1 m1 d1) (.slice e2 m2 d2)))
    cases AB:s.isNone with
    |true=>
     have nG:=ah AB
     have Kw:=ah (Option.isNone_iff_eq_none.1 AB)
     have vU:=ah (show q=n.toNat∨s=none from .inr Kw.out)
     have BU:=ah (show kind=2→oP s from fun _=>Kw.out▸ .small (by show 0≤6000;omega))
     clear ou yC AB
     by_cases hkd:kind=2
     rotate_left 1
     ·have c2':((kind:Int)==2)=false:=beq_false_of_ne hkd
      have HST:=ah (show qI 9 9 x ⟨kind,fr,tt,v0,v1,v2,v3,ps.map (·.b),[], .nil,[]⟩ n q s4 s5 s s from⟨uV.out,G5.out,jA.out,vU.out,hq,by rw[if_neg hkd];exact⟨⟨rfl,rfl,rfl⟩,rfl⟩⟩)
      have bT:=ah (show kZ ⟨kind,fr,tt,v0,v1,v2,v3,ps.map (·.b),[], .nil,[]⟩from⟨fun b hb=>by
       obtain⟨p,hp,rfl⟩:=List.mem_map.1 hb
       exact rH.out p hp,by rw[List.length_map,jY.out];omega,yg.st⟩)
      clear hkd
      have hdn:nO s=false:=by rw[Kw.out];rfl
      have hdc:∀(W:World) a l,bK w1 W (.slice a (leftOf s).length l) s→Calls Tryz.prog 68 #[.agg #[.slice a (leftOf s).length l, .bool s.isNone]] W (fun e W'=>e= .returned (.bool false)∧aj ay W W'):=fun W a l hr=>by
       have h2:=Du W _ _ s hr.mY
       rw[hdn]at h2
       exact h2.mono fun e W' hp=>⟨hp.1,hp.2.mono fun _ _ h=>h.elim⟩
      rw[nG.out]at hdc
      have HDR:=ah (nT.out (HST.out.bad (by decide) (by decide) (by decide) (by decide) (.inr (.inl fun h=>by rw[h]at hdn;cases hdn))))
      clear HST bT hdn
      have eF:=ah hdc;clear hdc
      generalize nH:(leftOf s).length=LI at*
      clear nH
      obtain⟨x0,x1,x2,x3,x4,x5,x6,x7⟩:=HG.out.facts nG.out
      obtain⟨z0,z1,z2,z3,z4,z5,z6,z7,z8,z9,z10⟩:=cu HG.out.arr;have zl:=HG.out.lB
      go_wp2_with(first
       |(go_at_call 68;refine(eF.out _ _ _ HG.out.rin).mono ?_;rintro e w9 ⟨rfl,bZ⟩;clear z0 z1 z2 z3 z4 z5 z6 z7 z8 z9 z10 zl x0 x1 x2 x3 x4 x5 x6 x7;have hg2:=HG.out.call bZ;obtain⟨z0,z1,z2,z3,z4,z5,z6,z7,z8,z9,z10⟩:=cu hg2.arr;have zl:=hg2.lB;obtain⟨y0,y1,y2,y3,y4,y5,y6,y7,y8,y9,aY⟩:=cu hg2.res;obtain⟨g0,g1,g2,g3,g4,g5,g6,g7,g8,g9,g10⟩:=jV hg2.res;have yl:=lt_of_block hg2.res;have HG2:=ah hg2;clear hg2 bZ))
      clear z0 z1 z2 z3 z4 z5 z6 z7 z8 z9 z10 zl y0 g0 y1 g1 y2 g2 y3 g3 y4 g4 y5 g5 y6 g6 y7 g7 y8 g8 y9 g9 aY g10 yl
      have hel:=mD HG2.out.res (.int .i64 0) (.int .i64 0) (.int .i64 0) (.int .i64 0) (.int .i64 0) (.int .i64 0) (.int .i64 0) (.slice none 0 0) (.slice none 0 0) (.slice none 0 0) (.slice none 0 0) _ rfl
      obtain⟨y0,y1,y2,y3,y4,y5,y6,y7,y8,y9,aY⟩:=cu hel
      exact bodyPost_ret (v:= .tuple #[.agg #[.int .i64 0, .int .i64 0, .int .i64 0, .int .i64 0, .int .i64 0, .int .i64 0, .int .i64 0, .slice none 0 0, .slice none 0 0, .slice none 0 0, .slice none 0 0], .int .i64 2]) (by simp[results,Tryz.results14,go_sem,y0,y1,y2,y3,y4,y5,y6,y7,y8,y9,aY]) rfl (HG2.out.pY HDR.out (mg w9 w.heap.size (.int .i64 0) (.int .i64 0) (.int .i64 0) (.int .i64 0) (.int .i64 0) (.int .i64 0) (.int .i64 0) (.slice none 0 0) (.slice none 0 0) (.slice none 0 0) (.slice none 0 0)))
     subst hkd
     obtain⟨es,ks,c,s7,hcr⟩:=kW.total s
     have fU:=ah hcr
     have ni:=ah (BU.out rfl)
     have HST:=ah (show qI 9 9 x ⟨2,fr,tt,v0,v1,v2,v3,ps.map (·.b),es,ks,c⟩ n q s4 s5 s s7 from⟨uV.out,G5.out,jA.out,vU.out,hq,by rw[if_pos (show(2:Int)=2 from rfl)];exact hcr⟩)
     have bT:=ah (show kZ ⟨2,fr,tt,v0,v1,v2,v3,ps.map (·.b),es,ks,c⟩from⟨fun b hb=>by
      obtain⟨p,hp,rfl⟩:=List.mem_map.1 hb
      exact rH.out p hp,by rw[List.length_map,jY.out];omega,oP.ok ni.out hcr⟩)
     clear hcr
     have hxc:=O_ wr HG.out.rin (Nat.le_of_lt HG.out.lI) fU.out rM.out ni.out
     unfold Gn at hxc
     rw[nG.out]at hxc
     have zO:=ah hxc;clear hxc
     have hdn:nO s7=false:=by rw[show s7=none from VL (Kw.out▸fU.out)];rfl
     have hdc:∀(W:World) a l,bK w1 W (.slice a (leftOf s7).length l) s7→Calls Tryz.prog 68 #[.agg #[.slice a (leftOf s7).length l, .bool s7.isNone]] W (fun e W'=>e= .returned (.bool false)∧aj ay W W'):=fun W a l hr=>by
      have h2:=Du W _ _ s7 hr.mY
      rw[hdn]at h2
      exact h2.mono fun e W' hp=>⟨hp.1,hp.2.mono fun _ _ h=>h.elim⟩
     have HDR:=ah (nT.out (HST.out.bad (by decide) (by decide) (by decide) (by decide) (.inr (.inl fun h=>by rw[h]at hdn;cases hdn))))
     clear HST bT hdn
     have eF:=ah hdc;clear hdc
     generalize nH:(leftOf s).length=LI at*
     clear nH
     generalize hL7:(leftOf s7).length=L7 at*
     clear hL7
     generalize hb7:s7.isNone=b7 at*
     have yD:=ah hb7;clear hb7
     obtain⟨x0,x1,x2,x3,x4,x5,x6,x7⟩:=HG.out.facts nG.out
     obtain⟨z0,z1,z2,z3,z4,z5,z6,z7,z8,z9,z10⟩:=cu HG.out.arr;have zl:=HG.out.lB
     go_wp2_with(first
      |(go_at_call 67;refine zO.out.mono ?_;rintro e w8 ⟨ev,kv,cv,a7,c7,rfl,iL,hc8,sO,cZ⟩;obtain⟨e0,d0,e1,d1,e2,d2,rfl,rfl,rfl⟩:=(gK.mk iL (dP.at_ hc8)).shape;generalize es.length=m0 at*;generalize ks.len=m1 at*;generalize c.length=m2 at*;clear z0 z1 z2 z3 z4 z5 z6 z7 z8 z9 z10 zl x0 x1 x2 x3 x4 x5 x6 x7;have bU:=HG.out.call cZ;obtain⟨z0,z1,z2,z3,z4,z5,z6,z7,z8,z9,z10⟩:=cu bU.arr;have f8:=aG bU.arr 8;have f9:=aG bU.arr 9;have f10:=aG bU.arr 10;have zl:=bU.lB;obtain⟨x0,x1,x2,x3,x4,x5,x6,x7⟩:=bU.facts nG.out;obtain⟨jD,iW,jJ⟩:=HG.out.eX sO cZ yD.out iL hc8;have jK:=ah jD;have nC:=ah iW;have nD:=ah jJ;clear bU jD iL hc8 sO cZ iW jJ)
      |(go_at_call 68;refine(eF.out _ _ _ jK.out.rin).mono ?_;rintro e w9 ⟨rfl,bZ⟩;clear z0 z1 z2 z3 z4 z5 z6 z7 z8 z9 z10 zl x0 x1 x2 x3 x4 x5 x6 x7 f8 f9 f10;have hg2:=jK.out.call bZ;obtain⟨z0,z1,z2,z3,z4,z5,z6,z7,z8,z9,z10⟩:=cu hg2.arr;have zl:=hg2.lB;obtain⟨y0,y1,y2,y3,y4,y5,y6,y7,y8,y9,aY⟩:=cu hg2.res;obtain⟨g0,g1,g2,g3,g4,g5,g6,g7,g8,g9,g10⟩:=jV hg2.res;have yl:=lt_of_block hg2.res;have HG2:=ah hg2;have HT2:=ah (nC.out.aJ bZ);have HC2:=ah (dP.aJ nD.out bZ);clear hg2 bZ))
     clear z0 z1 z2 z3 z4 z5 z6 z7 z8 z9 z10 zl y0 g0 y1 g1 y2 g2 y3 g3 y4 g4 y5 g5 y6 g6 y7 g7 y8 g8 y9 g9 aY g10 yl
     have hel:=mD HG2.out.res (.int .i64 0) (.int .i64 0) (.int .i64 0) (.int .i64 0) (.int .i64 0) (.int .i64 0) (.int .i64 0) (.slice none 0 0) (.slice none 0 0) (.slice none 0 0) (.slice none 0 0) _ rfl
     obtain⟨y0,y1,y2,y3,y4,y5,y6,y7,y8,y9,aY⟩:=cu hel
     exact bodyPost_ret (v:= .tuple #[.agg #[.int .i64 0, .int .i64 0, .int .i64 0, .int .i64 0, .int .i64 0, .int .i64 0, .int .i64 0, .slice none 0 0, .slice none 0 0, .slice none 0 0, .slice none 0 0], .int .i64 2]) (by simp[results,Tryz.results14,go_sem,y0,y1,y2,y3,y4,y5,y6,y7,y8,y9,aY]) rfl (HG2.out.pY HDR.out (mg w9 w.heap.size (.int .i64 0) (.int .i64 0) (.int .i64 0) (.int .i64 0) (.int .i64 0) (.int .i64 0) (.int .i64 0) (.slice none 0 0) (.slice none 0 0) (.slice none 0 0) (.slice none 0 0)))
    |false=>
     obtain⟨r,rfl⟩:∃r,s=some r:=by
      cases s with
      |none=>cases AB
      |some r=>exact⟨r,rfl⟩
     clear AB
     have PN:q<n.toNat:=by omega
     have GN:=ah (ou.out PN)
     obtain⟨b,s',hres⟩:=jT.total (some r)
     have PO:=ah (jT.okF GN.out hres)
     have PS:=ah (Run.snoc jA.out hres)
     obtain⟨dc,af,la,u0,u1,u2,u3,es',ks',c'⟩:=b
     have hga:=HG.out.call (aj.alloc ay wr (.cells #[.int .i64 0, .int .i64 0, .int .i64 0, .int .i64 0, .int .i64 0, .int .i64 0, .int .i64 0, .slice none 0 0, .slice none 0 0, .slice none 0 0] 55))
     have hto:=aeT (wr.alloc (.cells #[.int .i64 0, .int .i64 0, .int .i64 0, .int .i64 0, .int .i64 0, .int .i64 0, .int .i64 0, .slice none 0 0, .slice none 0 0, .slice none 0 0] 55)) hga.rin (Nat.le_of_lt hga.lI) hres rM.out GN.out
     unfold P_ at hto
     have Xv:=ah hto
     have Qg:=ah (heap_alloc_new wr (.cells #[.int .i64 0, .int .i64 0, .int .i64 0, .int .i64 0, .int .i64 0, .int .i64 0, .int .i64 0, .slice none 0 0, .slice none 0 0, .slice none 0 0] 55))
     clear hres ou yC hga hto
     obtain⟨x0,x1,x2,x3,x4,x5,x6,x7⟩:=HG.out.facts (b:=false) rfl
     generalize nH:(leftOf (some r)).length=LI at*
     generalize hL6:(leftOf s').length=L6 at*
     generalize hb6:s'.isNone=b6 at*
     have HB6:=ah hb6
     clear nH hL6 hb6
     go_upto_region 20 with(go_at_call 66;refine Xv.out.mono ?_;rintro e Y1 ⟨ev',kv',cv',a6,c6,rfl,ht1,hc1,hr1,hf1⟩;obtain⟨a3,c3,a4,c4,a5,c5,rfl,rfl,rfl⟩:=(gK.mk ht1 (dP.at_ hc1)).shape;have HT1:=ah ht1;have bH:=ah hc1;have HR1:=ah hr1;have bg:=ah hf1;clear x0 x1 x2 x3 x4 x5 x6 x7;have hg1:=(HG.out.call (aj.alloc ay wr (.cells #[.int .i64 0, .int .i64 0, .int .i64 0, .int .i64 0, .int .i64 0, .int .i64 0, .int .i64 0, .slice none 0 0, .slice none 0 0, .slice none 0 0] 55))).call hf1;obtain⟨x0,x1,x2,x3,x4,x5,x6,x7⟩:=hg1.facts (b:=false) rfl;obtain⟨k0,k1,k2,k3,k4,k5,k6,k7,k8,k9,kl⟩:=aeZ (hf1.blk Qg.out id);obtain⟨i0,i1,i2,i3,i4,i5,i6,i7,i8,i9⟩:=XL (hf1.blk Qg.out id);have IU:¬wr.heap.size=w1.heap.size:=(by have:=HG.out.lI;omega);have Md:¬w1.heap.size=wr.heap.size:=(by have:=HG.out.lI;omega);clear hg1 ht1 hc1 hr1 hf1)
     clear x0 x1 x2 x3 x4 x5 x6 x7 k0 k1 k2 k3 k4 k5 k6 k7 k8 k9 kl i0 i1 i2 i3 i4 i5 i6 i7 i8 i9
     have hpc:aZ.cells ⟨⟨dc,af,la,u0,u1,u2,u3,es',ks',c'⟩, .slice a3 es'.length c3, .slice a4 ks'.len c4, .slice a5 c'.length c5⟩=[.int .i64 dc, .int .i64 af, .int .i64 la, .int .i64 u0, .int .i64 u1, .int .i64 u2, .int .i64 u3, .slice a3 es'.length c3, .slice a4 ks'.len c4, .slice a5 c'.length c5]:=rfl
     have CS:=ah hpc
     have hone:=aZ.one ⟨⟨dc,af,la,u0,u1,u2,u3,es',ks',c'⟩, .slice a3 es'.length c3, .slice a4 ks'.len c4, .slice a5 c'.length c5⟩ rfl rfl rfl
     rw[hpc]at hone
     have qp:=ah hone
     clear hpc hone
     generalize es'.length=n1 at*
     generalize ks'.len=n2 at*
     generalize c'.length=n3 at*
     obtain⟨Y2,hY2⟩:∃W,W=((((((((((((Y1).setCell ⟨wr.heap.size,0,none⟩ (.int .i64 dc)).setCell ⟨wr.heap.size,1,none⟩ (.int .i64 af)).setCell ⟨wr.heap.size,2,none⟩ (.int .i64 la)).setCell ⟨wr.heap.size,3,none⟩ (.int .i64 u0)).setCell ⟨wr.heap.size,4,none⟩ (.int .i64 u1)).setCell ⟨wr.heap.size,5,none⟩ (.int .i64 u2)).setCell ⟨wr.heap.size,6,none⟩ (.int .i64 u3)).setCell ⟨wr.heap.size,7,none⟩ (.slice a3 n1 c3)).setCell ⟨wr.heap.size,8,none⟩ (.slice a4 n2 c4)).setCell ⟨wr.heap.size,9,none⟩ (.slice a5 n3 c5)).setCell ⟨w1.heap.size,0,none⟩ (.slice a6 L6 c6)).setCell ⟨w1.heap.size,1,none⟩ (.bool b6):=⟨_,rfl⟩
     rw[←hY2]
     have htk:=HG.out.took bg.out HR1.out HB6.out (.int .i64 dc) (.int .i64 af) (.int .i64 la) (.int .i64 u0) (.int .i64 u1) (.int .i64 u2) (.int .i64 u3) (.slice a3 n1 c3) (.slice a4 n2 c4) (.slice a5 n3 c5) HT1.out bH.out
     rw[←hY2]at htk
     obtain⟨hg2,ht2,hc2⟩:=htk
     have hbk:=Gz (bg.out.blk Qg.out id) (.int .i64 dc) (.int .i64 af) (.int .i64 la) (.int .i64 u0) (.int .i64 u1) (.int .i64 u2) (.int .i64 u3) (.slice a3 n1 c3) (.slice a4 n2 c4) (.slice a5 n3 c5) _ rfl
     have hbk2:Y2.heap[wr.heap.size]?=some (.cells #[.int .i64 dc, .int .i64 af, .int .i64 la, .int .i64 u0, .int .i64 u1, .int .i64 u2, .int .i64 u3, .slice a3 n1 c3, .slice a4 n2 c4, .slice a5 n3 c5] 55 (0,0)):=by rw[hY2];exact(fV _ w1.heap.size _ _).blk hbk fun e=>IU e
     obtain⟨k0,k1,k2,k3,k4,k5,k6,k7,k8,k9⟩:=XL hbk2
     have kl:=lt_of_block hbk2
     have z7:=au hg2.arr 7 rfl
     have zl:=hg2.lB
     have hown:=hg2.fQ.own
     rw[jY.out]at hown
     have HOWN:=ah hown
     have HG2:=ah hg2
     have HT2:=ah ht2
     have HC2:=ah hc2
     clear hY2 hbk hbk2 hg2 ht2 hc2 hown bg HT1 bH HR1 IU Md
     go_wp2_with(at_builtin;refine vW Y2 [.int .i64 dc, .int .i64 af, .int .i64 la, .int .i64 u0, .int .i64 u1, .int .i64 u2, .int .i64 u3, .slice a3 n1 c3, .slice a4 n2 c4, .slice a5 n3 c5] rfl (.tmp 69) (.tmp 71) 40 rfl 55 PG _ 10 128 Tryz.underlying40 hi hz0 hz1 hz2 (by decide) (by decide) _ _ _ HOWN.out 1 1 rfl rfl rfl qp.out (by simp only[maxLen];omega) (by omega) ?_;intro ad c8 w8 XQ fm8 XR;have hnb:¬eY (.slice aV q cV) WO.heap.size:=(fun hr=>(HG2.out.fQ.new _ hr).2 (.inr rfl));have hcf:w8.frozen? ⟨WO.heap.size,7,none⟩=false:=aG (fm8.blk HG2.out.arr hnb) 7;have hcl:WO.heap.size<w8.heap.size:=lt_of_block (fm8.blk HG2.out.arr hnb);have hcc:=au (fm8.blk HG2.out.arr hnb) 7 rfl;clear k0 k1 k2 k3 k4 k5 k6 k7 k8 k9 kl z7 zl;have ae6:=ah XQ;have ae7:=ah fm8;have ae8:=ah XR;clear XQ fm8 XR hnb)
     go_roundw
     case rel=>
      have hst:=HG2.out.step (Y:=wr) (p:=⟨⟨dc,af,la,u0,u1,u2,u3,es',ks',c'⟩, .slice a3 n1 c3, .slice a4 n2 c4, .slice a5 n3 c5⟩) HG.out.lI HG.out.lB (fun b he=>Nat.lt_of_not_le fun hb=>(HG.out.fQ.fresh b hb).2.2 he) HT2.out HC2.out (by rw[jY.out];exact ae6.out) ae7.out ae8.out
      exact⟨q+1,_,s',_,_,by omega,by go_num,by rw[List.map_append];exact PS.out,hst,fun p hp=>by
       rcases List.mem_append.1 hp with hp|hp
       ·exact rH.out p hp
       ·rw[List.mem_singleton.1 hp];exact PO.out⟩
     case measure=>simp[intOf];omega
end Go.Proofs.YtabkpccdnkjoiaaGreat
