/- Words for the law ShardPlays: R6By, R7a, R7b, R7c. -/
import Derived.Test.YtlhmbkjdfjoilaaGreatShardPlaysG0
import Derived.Test.YtlhmbkjdfjoilaaGreatShardPlaysG3
set_option linter.unusedSimpArgs false
set_option linter.unusedVariables false
set_option maxHeartbeats 32000000
set_option maxRecDepth 1000000
namespace Go.Proofs.YtlhmbkjdfjoilaaGreat
open Go.RowKit
theorem OwnAt.base {w0 w1 w:World} {e:TypeId} {size:Nat} {v:Value} {n:Nat} {xs:List Value} (h:OwnAt w1 w e size v n xs) (f:aj aF w0 w1):OwnAt w0 w e size v n xs:=
 ⟨h.own,(fun k hk=>Nat.le_trans f.size (h.new k hk)),f.aH h.aI⟩
def NC (how:Int):Prop:=∀(w:World) (va vb:Value) (a b:aZ) (_:k_ w va a) (_:k_ w vb b) (_:dO a) (_:dO b) (_:a.length≤10000) (_:b.length≤10000),
    Calls Tryz.prog 123 #[va,vb, .int .i64 how] w fun e w'=>∃v' out,e= .returned v'∧OwnAt w w' 168 2 v' out.length (fD out)∧xw a b how out none∧out.length≤40000
theorem JB {n:Nat} (h:n+1≤1000000):wrap64 (n:Int)=n:=by unfold wrap64;omega
theorem qG {m:Int} (h1:1≤m) (h2:m≤1099511627777):wrap64 (m-1)=m-1:=by unfold wrap64;omega
theorem JC {l:aZ} (h:dO l):∀x∈fC l,1≤x∧x≤1099511627777:=by
 intro x hx
 obtain⟨r,hr,h1⟩:=Dt.1 hx
 have:=mQ h.1 r hr
 have:=h.2 r hr
 omega
theorem aaX:NC 0:=by
 intro w va vb a b ha hb ra rb la lb
 obtain⟨i0,hi,hz0,hz1,hz2⟩:=info_parts Jy
 obtain⟨j0,hj,hy0,hy1,hy2⟩:=info_parts FY
 obtain⟨aA,cA,rfl⟩:=ha.sl
 obtain⟨aB,cB,rfl⟩:=hb.sl
 have hl:(fC a++fC b).length≤40000:=by rw[List.length_append,yJ,yJ];omega
 have hbd:∀x∈(fC a++fC b),1≤x∧x≤1099511627777:=fun x hx=>(List.mem_append.1 hx).elim (JC ra x) (JC rb x)
 have kE:=ah hbd;clear hbd
 have ND:=ah (Uc 0 ra.1 rb.1)
 have t_:=ah (Jz w _ a ha ra (by omega))
 have yK:=ah (fun w' h=>Jz w' _ b (Rd.aS hb h) rb (by omega))
 have HA:=ah (fun w' x h=>FW w' _ a x (Rd.aS ha h))
 have HB:=ah (fun w' x h=>FW w' _ b x (Rd.aS hb h))
 have NG:(fC a).length≤20000:=by rw[yJ];omega
 have elb:(fC b).length≤20000:=by rw[yJ];omega
 clear ha hb la lb
 go_enter Tryz.func123,Tryz.ntmps123
 go_wp2_with(first
  |(go_at_call_of 161 aA;refine t_.out.mono ?_;rintro e w1 ⟨v1,rfl,ho1⟩;obtain⟨a1,c1,rfl⟩:=ho1.shape;have dZ:=ah ho1;clear ho1)
  |(go_at_call_of 161 aB;refine(yK.out w1 dZ.out.aI).mono ?_;rintro e w2 ⟨v2,rfl,ho2⟩;obtain⟨a2,c2,rfl⟩:=ho2.shape;have gW:=ah ho2;clear ho2)
  |(at_builtin;refine rC w _ _ rfl (.tmp 17) (.tmp 19) 171 171 rfl 2 2 j0 _ 1 8 Tryz.underlying171 Tryz.underlying171 hj hy0 hy1 hy2 (by decide) (by decide) _ _ _ (dZ.out.keep gW.out.aI) _ (fC b).length rfl rfl gW.out.rd (by simp) (Ui _) (by simp only[maxLen];omega) (by omega) ?_;intro a3 c3 w3 yL;have dw:=ah yL;clear yL))
 have HW3:=ah dw.out.aI
 have su:=ah (fun w' x (h:aj aF w3 w')=>Ny w' _ (fC a++fC b) x (by have:=(dw.out.keep h).rd;rw[←FV,←List.length_append]at this;exact this))
 clear dZ gW dw t_ yK
 rw[←List.length_append]
 have NH:(fC a++fC b).length=(fC a).length+(fC b).length:=List.length_append
 generalize hP:(fC a++fC b)=P at*
 have HP:=ah hP;clear hP
 clear NG elb NH
 refine(su.out w3 0 (aj.refl _ _)).mono ?_
 rintro e w' ⟨rfl,hw⟩
 rw[hw]
 clear hw w'
 go_wp2
 go_loopw [8,9,10] (fun v x o ww=>∃(q:Option Int) (out:aZ),OwnAt w3 ww 168 2 v out.length (fD out)∧xw a b 0 out q∧out.length+ahead P q≤P.length∧x= .int .i64 (q.getD 0)∧o= .bool q.isSome) (fun _ x o _=>Nz P x o)
 case atStart=>exact⟨nextL P 0,[],OwnAt.nil (aj.refl _ _) _ _,ND.out,by have:=JA P (nextL P 0);simpa using this,rfl,rfl⟩
 case round=>
  obtain⟨q,out,ho,hq,hlen,rfl,rfl⟩:=hrel
  have HQ:=ah hq;clear hq
  have HO:=ah ho;clear ho
  cases q with
  |none=>
   have HLEN:=ah hlen;clear hlen
   have HL:=ah hl;clear hl
   obtain⟨av,cv,rfl⟩:=HO.out.shape
   go_wp2
   go_ret
   exact⟨_,out,rfl,HO.out.base HW3.out,HQ.out,Nat.le_trans (Nat.le_trans (Nat.le_add_right _ _) HLEN.out) HL.out⟩
  |some m=>
   obtain⟨m1,m2,m3,m4⟩:=HQ.out.some_ m rfl
   rw[HP.out]at m2
   obtain⟨b1,b2⟩:=kE.out m m2
   have hah:=Nc m2
   have pK:=ah hah;clear hah
   have hole:out.length+1≤40000:=by
    have:0<ahead P (some m):=List.length_pos_of_mem (List.mem_filter.2 ⟨m2,by simp⟩)
    omega
   have HLEN:=ah hlen
   have Gf:=ah m3;clear m3
   clear m4 m1 hlen m2
   cases hp:tf (bK a m)with
   |false=>
    cases hq:tf (bK b m)with
    |false=>
     have hin:¬fV 0 (bK a m) (bK b m):=by
      have h1:=xE.1 hp
      have h2:=xE.1 hq
      unfold fV
      simp[h1,h2]
     have jF:=ah (fun w' h=>HA.out w' m h)
     have jC:=ah (fun w' h=>HB.out w' m h)
     rw[hp]at jF
     rw[hq]at jC
     clear hp hq
     have HST:=ah (HP.out▸Jp HQ.out hin)
     have jw:=ah (fun w' h=>su.out w' m h)
     have hlm:ahead P (nextL P m)<ahead P (some m):=pK.out
     generalize hnx:nextL P m=nx at*
     have HL2:=ah hlm;clear hlm
     clear hin
     obtain⟨av,cv,rfl⟩:=HO.out.shape
     go_wp2_with(first
      |(go_at_call 162;refine(jw.out _ HO.out.aI).mono ?_;rintro e w' ⟨rfl,hw⟩;rw[hw];clear hw w')
      |(go_at_call_of 160 aA;refine(jF.out _ (HW3.out.aH HO.out.aI)).mono ?_;rintro e w' ⟨rfl,hw⟩;rw[hw];clear hw w')
      |(go_at_call_of 160 aB;refine(jC.out _ (HW3.out.aH HO.out.aI)).mono ?_;rintro e w' ⟨rfl,hw⟩;rw[hw];clear hw w'))
     go_roundw
     case rel=>
      refine⟨nx,out,HO.out,HST.out,?_,rfl,rfl⟩
      have:=HLEN.out
      have:=HL2.out
      omega
     case measure=>
      have:=HL2.out
      cases nx with
      |none=>exact this
      |some t=>exact this
    |true=>
     have hin:fV 0 (bK a m) (bK b m):=by
      have h1:=xE.1 hp
      have h2:=xC.1 hq
      unfold fV
      simp[h1,h2]
     have jF:=ah (fun w' h=>HA.out w' m h)
     have jC:=ah (fun w' h=>HB.out w' m h)
     rw[hp]at jF
     rw[hq]at jC
     clear hp hq
     obtain⟨t,ht⟩:=Jr hin
     have hst:=Jq HQ.out hin ht
     rw[HP.out]at ht
     have HST:=ah hst;clear hst
     have hlm:ahead P (some t)<ahead P (some m):=ht▸pK.out
     have HL2:=ah hlm;clear hlm
     obtain⟨t1,t2⟩:=kE.out t (xq ht).1
     have jw:=ah (fun w' h=>su.out w' m h)
     rw[ht]at jw
     clear hin ht
     have dV:=ah (FZ out m (t-1))
     rcases List.eq_nil_or_concat out with rfl|⟨lo,r,rfl⟩
     ·rw[FP]at HST dV
      obtain⟨av,cv,rfl⟩:=HO.out.shape
      go_wp2_with(first
       |(go_at_call 162;refine(jw.out _ HO.out.aI).mono ?_;rintro e w' ⟨rfl,hw⟩;rw[hw];clear hw w')|(go_at_call_of 160 aA;refine(jF.out _ (HW3.out.aH HO.out.aI)).mono ?_;rintro e w' ⟨rfl,hw⟩;rw[hw];clear hw w')|(go_at_call_of 160 aB;refine(jC.out _ (HW3.out.aH HO.out.aI)).mono ?_;rintro e w' ⟨rfl,hw⟩;rw[hw];clear hw w')
       |(at_builtin;refine kT w3 _ [.int .i64 m, .int .i64 (t-1)] rfl (.tmp 83) (.tmp 88) 135 rfl 168 i0 _ 2 16 Tryz.underlying135 hi hz0 hz1 hz2 (by decide) (by decide) _ _ _ HO.out 1 1 rfl rfl rfl (by simp[Value.oneCell']) (by simp[maxLen]) (by simp) ?_;intro ad cc w2 bP;have OW:=ah bP;clear bP))
      go_roundw
      case rel=>exact⟨some t,[(m,t-1)],OW.out,HST.out,by have:=HLEN.out;have:=HL2.out;simp at*;omega,rfl,rfl⟩
      case measure=>exact HL2.out
     ·rw[List.concat_eq_append]at*
      rw[Bq]at HST dV
      have hln:(lo++ [r]).length=lo.length+1:=by simp
      have ho2:=HO.out
      have hlen:=HLEN.out
      rw[hln]at ho2 hole hlen dV
      clear HO HLEN
      have HLEN:=ah hlen;clear hlen
      obtain⟨g,c2,rfl,hg0,hg,hc2,hcell,hfro,hset⟩:=ho2.row (by simp)
      have cl:=hcell _ _ (DF lo r)
      have fl:=hfro (lo.length*2+1)
      have hs:=hset (lo.length*2+1) (.int .i64 (t-1))
      rw[DC]at hs
      have HO:=ah ho2;clear ho2
      generalize hL:lo.length=L at*
      have jR:=ah hL;clear hL
      have HS:=ah hs;clear hs
      clear hset hcell hfro hln
      have hwm:wrap64 (L:Int)=L:=JB (Nat.le_of_succ_le (Nat.le_trans hole (by decide:40000≤1000000)))
      have HOLE:=ah hole;clear hole hc2
      by_cases he:r.2=m-1
      ·rw[if_pos he]at HST dV
       have he':((r.2:Int)==m-1)=true:=by simp[he]
       have hw1:wrap64 (m-1)=m-1:=qG b1 b2
       have hw2:wrap64 (t-1)=t-1:=qG t1 t2
       clear he b1 b2 t1 t2
       go_wp2_with(first
        |(go_at_call 162;refine(jw.out _ HO.out.aI).mono ?_;rintro e w' ⟨rfl,hw⟩;rw[hw];clear hw w')|(go_at_call_of 160 aA;refine(jF.out _ (HW3.out.aH HO.out.aI)).mono ?_;rintro e w' ⟨rfl,hw⟩;rw[hw];clear hw w')|(go_at_call_of 160 aB;refine(jC.out _ (HW3.out.aH HO.out.aI)).mono ?_;rintro e w' ⟨rfl,hw⟩;rw[hw];clear hw w'))
       go_roundw
       case rel=>
        refine⟨some t,lo++ [(r.1,t-1)],by rw[List.length_append,jR.out];exact HS.out,HST.out,?_,rfl,rfl⟩
        have:=HLEN.out
        have:=HL2.out
        have:=jR.out
        rw[List.length_append]
        simp at*
        omega
       case measure=>exact HL2.out
      ·rw[if_neg he]at HST dV
       have he':((r.2:Int)==m-1)=false:=by simpa using he
       have hw1:wrap64 (m-1)=m-1:=qG b1 b2
       have hw2:wrap64 (t-1)=t-1:=qG t1 t2
       clear he b1 b2 t1 t2
       go_wp2_with(first
        |(go_at_call 162;refine(jw.out _ HO.out.aI).mono ?_;rintro e w' ⟨rfl,hw⟩;rw[hw];clear hw w')|(go_at_call_of 160 aA;refine(jF.out _ (HW3.out.aH HO.out.aI)).mono ?_;rintro e w' ⟨rfl,hw⟩;rw[hw];clear hw w')|(go_at_call_of 160 aB;refine(jC.out _ (HW3.out.aH HO.out.aI)).mono ?_;rintro e w' ⟨rfl,hw⟩;rw[hw];clear hw w')
        |(at_builtin;refine kT w3 _ [.int .i64 m, .int .i64 (t-1)] rfl (.tmp 83) (.tmp 88) 135 rfl 168 i0 _ 2 16 Tryz.underlying135 hi hz0 hz1 hz2 (by decide) (by decide) _ _ _ HO.out 1 1 rfl rfl rfl (by simp[Value.oneCell']) (by have:=HOLE.out;simp only[maxLen];omega) (by have:=HOLE.out;omega) ?_;intro ad cc w2 bP;have OW:=ah bP;clear bP))
       go_roundw
       case rel=>
        refine⟨some t,lo++ [r]++ [(m,t-1)],by rw[List.length_append,List.length_append,jR.out,oO];exact OW.out,HST.out,?_,rfl,rfl⟩
        have:=HLEN.out
        have:=HL2.out
        have:=jR.out
        simp at*
        omega
       case measure=>exact HL2.out
   |true=>
    cases hq:tf (bK b m)with
    |false=>
     have hin:fV 0 (bK a m) (bK b m):=by
      have h1:=xC.1 hp
      have h2:=xE.1 hq
      unfold fV
      simp[h1,h2]
     have jF:=ah (fun w' h=>HA.out w' m h)
     have jC:=ah (fun w' h=>HB.out w' m h)
     rw[hp]at jF
     rw[hq]at jC
     clear hp hq
     obtain⟨t,ht⟩:=Jr hin
     have hst:=Jq HQ.out hin ht
     rw[HP.out]at ht
     have HST:=ah hst;clear hst
     have hlm:ahead P (some t)<ahead P (some m):=ht▸pK.out
     have HL2:=ah hlm;clear hlm
     obtain⟨t1,t2⟩:=kE.out t (xq ht).1
     have jw:=ah (fun w' h=>su.out w' m h)
     rw[ht]at jw
     clear hin ht
     have dV:=ah (FZ out m (t-1))
     rcases List.eq_nil_or_concat out with rfl|⟨lo,r,rfl⟩
     ·rw[FP]at HST dV
      obtain⟨av,cv,rfl⟩:=HO.out.shape
      go_wp2_with(first
       |(go_at_call 162;refine(jw.out _ HO.out.aI).mono ?_;rintro e w' ⟨rfl,hw⟩;rw[hw];clear hw w')|(go_at_call_of 160 aA;refine(jF.out _ (HW3.out.aH HO.out.aI)).mono ?_;rintro e w' ⟨rfl,hw⟩;rw[hw];clear hw w')|(go_at_call_of 160 aB;refine(jC.out _ (HW3.out.aH HO.out.aI)).mono ?_;rintro e w' ⟨rfl,hw⟩;rw[hw];clear hw w')
       |(at_builtin;refine kT w3 _ [.int .i64 m, .int .i64 (t-1)] rfl (.tmp 83) (.tmp 88) 135 rfl 168 i0 _ 2 16 Tryz.underlying135 hi hz0 hz1 hz2 (by decide) (by decide) _ _ _ HO.out 1 1 rfl rfl rfl (by simp[Value.oneCell']) (by simp[maxLen]) (by simp) ?_;intro ad cc w2 bP;have OW:=ah bP;clear bP))
      go_roundw
      case rel=>exact⟨some t,[(m,t-1)],OW.out,HST.out,by have:=HLEN.out;have:=HL2.out;simp at*;omega,rfl,rfl⟩
      case measure=>exact HL2.out
     ·rw[List.concat_eq_append]at*
      rw[Bq]at HST dV
      have hln:(lo++ [r]).length=lo.length+1:=by simp
      have ho2:=HO.out
      have hlen:=HLEN.out
      rw[hln]at ho2 hole hlen dV
      clear HO HLEN
      have HLEN:=ah hlen;clear hlen
      obtain⟨g,c2,rfl,hg0,hg,hc2,hcell,hfro,hset⟩:=ho2.row (by simp)
      have cl:=hcell _ _ (DF lo r)
      have fl:=hfro (lo.length*2+1)
      have hs:=hset (lo.length*2+1) (.int .i64 (t-1))
      rw[DC]at hs
      have HO:=ah ho2;clear ho2
      generalize hL:lo.length=L at*
      have jR:=ah hL;clear hL
      have HS:=ah hs;clear hs
      clear hset hcell hfro hln
      have hwm:wrap64 (L:Int)=L:=JB (Nat.le_of_succ_le (Nat.le_trans hole (by decide:40000≤1000000)))
      have HOLE:=ah hole;clear hole hc2
      by_cases he:r.2=m-1
      ·rw[if_pos he]at HST dV
       have he':((r.2:Int)==m-1)=true:=by simp[he]
       have hw1:wrap64 (m-1)=m-1:=qG b1 b2
       have hw2:wrap64 (t-1)=t-1:=qG t1 t2
       clear he b1 b2 t1 t2
       go_wp2_with(first
        |(go_at_call 162;refine(jw.out _ HO.out.aI).mono ?_;rintro e w' ⟨rfl,hw⟩;rw[hw];clear hw w')|(go_at_call_of 160 aA;refine(jF.out _ (HW3.out.aH HO.out.aI)).mono ?_;rintro e w' ⟨rfl,hw⟩;rw[hw];clear hw w')|(go_at_call_of 160 aB;refine(jC.out _ (HW3.out.aH HO.out.aI)).mono ?_;rintro e w' ⟨rfl,hw⟩;rw[hw];clear hw w'))
       go_roundw
       case rel=>
        refine⟨some t,lo++ [(r.1,t-1)],by rw[List.length_append,jR.out];exact HS.out,HST.out,?_,rfl,rfl⟩
        have:=HLEN.out
        have:=HL2.out
        have:=jR.out
        rw[List.length_append]
        simp at*
        omega
       case measure=>exact HL2.out
      ·rw[if_neg he]at HST dV
       have he':((r.2:Int)==m-1)=false:=by simpa using he
       have hw1:wrap64 (m-1)=m-1:=qG b1 b2
       have hw2:wrap64 (t-1)=t-1:=qG t1 t2
       clear he b1 b2 t1 t2
       go_wp2_with(first
        |(go_at_call 162;refine(jw.out _ HO.out.aI).mono ?_;rintro e w' ⟨rfl,hw⟩;rw[hw];clear hw w')|(go_at_call_of 160 aA;refine(jF.out _ (HW3.out.aH HO.out.aI)).mono ?_;rintro e w' ⟨rfl,hw⟩;rw[hw];clear hw w')|(go_at_call_of 160 aB;refine(jC.out _ (HW3.out.aH HO.out.aI)).mono ?_;rintro e w' ⟨rfl,hw⟩;rw[hw];clear hw w')
        |(at_builtin;refine kT w3 _ [.int .i64 m, .int .i64 (t-1)] rfl (.tmp 83) (.tmp 88) 135 rfl 168 i0 _ 2 16 Tryz.underlying135 hi hz0 hz1 hz2 (by decide) (by decide) _ _ _ HO.out 1 1 rfl rfl rfl (by simp[Value.oneCell']) (by have:=HOLE.out;simp only[maxLen];omega) (by have:=HOLE.out;omega) ?_;intro ad cc w2 bP;have OW:=ah bP;clear bP))
       go_roundw
       case rel=>
        refine⟨some t,lo++ [r]++ [(m,t-1)],by rw[List.length_append,List.length_append,jR.out,oO];exact OW.out,HST.out,?_,rfl,rfl⟩
        have:=HLEN.out
        have:=HL2.out
        have:=jR.out
        simp at*
        omega
       case measure=>exact HL2.out
    |true=>
     have hin:fV 0 (bK a m) (bK b m):=by
      have h1:=xC.1 hp
      have h2:=xC.1 hq
      unfold fV
      simp[h1,h2]
     have jF:=ah (fun w' h=>HA.out w' m h)
     have jC:=ah (fun w' h=>HB.out w' m h)
     rw[hp]at jF
     rw[hq]at jC
     clear hp hq
     obtain⟨t,ht⟩:=Jr hin
     have hst:=Jq HQ.out hin ht
     rw[HP.out]at ht
     have HST:=ah hst;clear hst
     have hlm:ahead P (some t)<ahead P (some m):=ht▸pK.out
     have HL2:=ah hlm;clear hlm
     obtain⟨t1,t2⟩:=kE.out t (xq ht).1
     have jw:=ah (fun w' h=>su.out w' m h)
     rw[ht]at jw
     clear hin ht
     have dV:=ah (FZ out m (t-1))
     rcases List.eq_nil_or_concat out with rfl|⟨lo,r,rfl⟩
     ·rw[FP]at HST dV
      obtain⟨av,cv,rfl⟩:=HO.out.shape
      go_wp2_with(first
       |(go_at_call 162;refine(jw.out _ HO.out.aI).mono ?_;rintro e w' ⟨rfl,hw⟩;rw[hw];clear hw w')|(go_at_call_of 160 aA;refine(jF.out _ (HW3.out.aH HO.out.aI)).mono ?_;rintro e w' ⟨rfl,hw⟩;rw[hw];clear hw w')|(go_at_call_of 160 aB;refine(jC.out _ (HW3.out.aH HO.out.aI)).mono ?_;rintro e w' ⟨rfl,hw⟩;rw[hw];clear hw w')
       |(at_builtin;refine kT w3 _ [.int .i64 m, .int .i64 (t-1)] rfl (.tmp 83) (.tmp 88) 135 rfl 168 i0 _ 2 16 Tryz.underlying135 hi hz0 hz1 hz2 (by decide) (by decide) _ _ _ HO.out 1 1 rfl rfl rfl (by simp[Value.oneCell']) (by simp[maxLen]) (by simp) ?_;intro ad cc w2 bP;have OW:=ah bP;clear bP))
      go_roundw
      case rel=>exact⟨some t,[(m,t-1)],OW.out,HST.out,by have:=HLEN.out;have:=HL2.out;simp at*;omega,rfl,rfl⟩
      case measure=>exact HL2.out
     ·rw[List.concat_eq_append]at*
      rw[Bq]at HST dV
      have hln:(lo++ [r]).length=lo.length+1:=by simp
      have ho2:=HO.out
      have hlen:=HLEN.out
      rw[hln]at ho2 hole hlen dV
      clear HO HLEN
      have HLEN:=ah hlen;clear hlen
      obtain⟨g,c2,rfl,hg0,hg,hc2,hcell,hfro,hset⟩:=ho2.row (by simp)
      have cl:=hcell _ _ (DF lo r)
      have fl:=hfro (lo.length*2+1)
      have hs:=hset (lo.length*2+1) (.int .i64 (t-1))
      rw[DC]at hs
      have HO:=ah ho2;clear ho2
      generalize hL:lo.length=L at*
      have jR:=ah hL;clear hL
      have HS:=ah hs;clear hs
      clear hset hcell hfro hln
      have hwm:wrap64 (L:Int)=L:=JB (Nat.le_of_succ_le (Nat.le_trans hole (by decide:40000≤1000000)))
      have HOLE:=ah hole;clear hole hc2
      by_cases he:r.2=m-1
      ·rw[if_pos he]at HST dV
       have he':((r.2:Int)==m-1)=true:=by simp[he]
       have hw1:wrap64 (m-1)=m-1:=qG b1 b2
       have hw2:wrap64 (t-1)=t-1:=qG t1 t2
       clear he b1 b2 t1 t2
       go_wp2_with(first
        |(go_at_call 162;refine(jw.out _ HO.out.aI).mono ?_;rintro e w' ⟨rfl,hw⟩;rw[hw];clear hw w')|(go_at_call_of 160 aA;refine(jF.out _ (HW3.out.aH HO.out.aI)).mono ?_;rintro e w' ⟨rfl,hw⟩;rw[hw];clear hw w')|(go_at_call_of 160 aB;refine(jC.out _ (HW3.out.aH HO.out.aI)).mono ?_;rintro e w' ⟨rfl,hw⟩;rw[hw];clear hw w'))
       go_roundw
       case rel=>
        refine⟨some t,lo++ [(r.1,t-1)],by rw[List.length_append,jR.out];exact HS.out,HST.out,?_,rfl,rfl⟩
        have:=HLEN.out
        have:=HL2.out
        have:=jR.out
        rw[List.length_append]
        simp at*
        omega
       case measure=>exact HL2.out
      ·rw[if_neg he]at HST dV
       have he':((r.2:Int)==m-1)=false:=by simpa using he
       have hw1:wrap64 (m-1)=m-1:=qG b1 b2
       have hw2:wrap64 (t-1)=t-1:=qG t1 t2
       clear he b1 b2 t1 t2
       go_wp2_with(first
        |(go_at_call 162;refine(jw.out _ HO.out.aI).mono ?_;rintro e w' ⟨rfl,hw⟩;rw[hw];clear hw w')|(go_at_call_of 160 aA;refine(jF.out _ (HW3.out.aH HO.out.aI)).mono ?_;rintro e w' ⟨rfl,hw⟩;rw[hw];clear hw w')|(go_at_call_of 160 aB;refine(jC.out _ (HW3.out.aH HO.out.aI)).mono ?_;rintro e w' ⟨rfl,hw⟩;rw[hw];clear hw w')
        |(at_builtin;refine kT w3 _ [.int .i64 m, .int .i64 (t-1)] rfl (.tmp 83) (.tmp 88) 135 rfl 168 i0 _ 2 16 Tryz.underlying135 hi hz0 hz1 hz2 (by decide) (by decide) _ _ _ HO.out 1 1 rfl rfl rfl (by simp[Value.oneCell']) (by have:=HOLE.out;simp only[maxLen];omega) (by have:=HOLE.out;omega) ?_;intro ad cc w2 bP;have OW:=ah bP;clear bP))
       go_roundw
       case rel=>
        refine⟨some t,lo++ [r]++ [(m,t-1)],by rw[List.length_append,List.length_append,jR.out,oO];exact OW.out,HST.out,?_,rfl,rfl⟩
        have:=HLEN.out
        have:=HL2.out
        have:=jR.out
        simp at*
        omega
       case measure=>exact HL2.out
theorem aaY:NC 2:=by
 intro w va vb a b ha hb ra rb la lb
 obtain⟨i0,hi,hz0,hz1,hz2⟩:=info_parts Jy
 obtain⟨j0,hj,hy0,hy1,hy2⟩:=info_parts FY
 obtain⟨aA,cA,rfl⟩:=ha.sl
 obtain⟨aB,cB,rfl⟩:=hb.sl
 have hl:(fC a++fC b).length≤40000:=by rw[List.length_append,yJ,yJ];omega
 have hbd:∀x∈(fC a++fC b),1≤x∧x≤1099511627777:=fun x hx=>(List.mem_append.1 hx).elim (JC ra x) (JC rb x)
 have kE:=ah hbd;clear hbd
 have ND:=ah (Uc 2 ra.1 rb.1)
 have t_:=ah (Jz w _ a ha ra (by omega))
 have yK:=ah (fun w' h=>Jz w' _ b (Rd.aS hb h) rb (by omega))
 have HA:=ah (fun w' x h=>FW w' _ a x (Rd.aS ha h))
 have HB:=ah (fun w' x h=>FW w' _ b x (Rd.aS hb h))
 have NG:(fC a).length≤20000:=by rw[yJ];omega
 have elb:(fC b).length≤20000:=by rw[yJ];omega
 clear ha hb la lb
 go_enter Tryz.func123,Tryz.ntmps123
 go_wp2_with(first
  |(go_at_call_of 161 aA;refine t_.out.mono ?_;rintro e w1 ⟨v1,rfl,ho1⟩;obtain⟨a1,c1,rfl⟩:=ho1.shape;have dZ:=ah ho1;clear ho1)
  |(go_at_call_of 161 aB;refine(yK.out w1 dZ.out.aI).mono ?_;rintro e w2 ⟨v2,rfl,ho2⟩;obtain⟨a2,c2,rfl⟩:=ho2.shape;have gW:=ah ho2;clear ho2)
  |(at_builtin;refine rC w _ _ rfl (.tmp 17) (.tmp 19) 171 171 rfl 2 2 j0 _ 1 8 Tryz.underlying171 Tryz.underlying171 hj hy0 hy1 hy2 (by decide) (by decide) _ _ _ (dZ.out.keep gW.out.aI) _ (fC b).length rfl rfl gW.out.rd (by simp) (Ui _) (by simp only[maxLen];omega) (by omega) ?_;intro a3 c3 w3 yL;have dw:=ah yL;clear yL))
 have HW3:=ah dw.out.aI
 have su:=ah (fun w' x (h:aj aF w3 w')=>Ny w' _ (fC a++fC b) x (by have:=(dw.out.keep h).rd;rw[←FV,←List.length_append]at this;exact this))
 clear dZ gW dw t_ yK
 rw[←List.length_append]
 have NH:(fC a++fC b).length=(fC a).length+(fC b).length:=List.length_append
 generalize hP:(fC a++fC b)=P at*
 have HP:=ah hP;clear hP
 clear NG elb NH
 refine(su.out w3 0 (aj.refl _ _)).mono ?_
 rintro e w' ⟨rfl,hw⟩
 rw[hw]
 clear hw w'
 go_wp2
 go_loopw [8,9,10] (fun v x o ww=>∃(q:Option Int) (out:aZ),OwnAt w3 ww 168 2 v out.length (fD out)∧xw a b 2 out q∧out.length+ahead P q≤P.length∧x= .int .i64 (q.getD 0)∧o= .bool q.isSome) (fun _ x o _=>Nz P x o)
 case atStart=>exact⟨nextL P 0,[],OwnAt.nil (aj.refl _ _) _ _,ND.out,by have:=JA P (nextL P 0);simpa using this,rfl,rfl⟩
 case round=>
  obtain⟨q,out,ho,hq,hlen,rfl,rfl⟩:=hrel
  have HQ:=ah hq;clear hq
  have HO:=ah ho;clear ho
  cases q with
  |none=>
   have HLEN:=ah hlen;clear hlen
   have HL:=ah hl;clear hl
   obtain⟨av,cv,rfl⟩:=HO.out.shape
   go_wp2
   go_ret
   exact⟨_,out,rfl,HO.out.base HW3.out,HQ.out,Nat.le_trans (Nat.le_trans (Nat.le_add_right _ _) HLEN.out) HL.out⟩
  |some m=>
   obtain⟨m1,m2,m3,m4⟩:=HQ.out.some_ m rfl
   rw[HP.out]at m2
   obtain⟨b1,b2⟩:=kE.out m m2
   have hah:=Nc m2
   have pK:=ah hah;clear hah
   have hole:out.length+1≤40000:=by
    have:0<ahead P (some m):=List.length_pos_of_mem (List.mem_filter.2 ⟨m2,by simp⟩)
    omega
   have HLEN:=ah hlen
   have Gf:=ah m3;clear m3
   clear m4 m1 hlen m2
   cases hp:tf (bK a m)with
   |false=>
    cases hq:tf (bK b m)with
    |false=>
     have hin:¬fV 2 (bK a m) (bK b m):=by
      have h1:=xE.1 hp
      have h2:=xE.1 hq
      unfold fV
      simp[h1,h2]
     have jF:=ah (fun w' h=>HA.out w' m h)
     have jC:=ah (fun w' h=>HB.out w' m h)
     rw[hp]at jF
     rw[hq]at jC
     clear hp hq
     have HST:=ah (HP.out▸Jp HQ.out hin)
     have jw:=ah (fun w' h=>su.out w' m h)
     have hlm:ahead P (nextL P m)<ahead P (some m):=pK.out
     generalize hnx:nextL P m=nx at*
     have HL2:=ah hlm;clear hlm
     clear hin
     obtain⟨av,cv,rfl⟩:=HO.out.shape
     go_wp2_with(first
      |(go_at_call 162;refine(jw.out _ HO.out.aI).mono ?_;rintro e w' ⟨rfl,hw⟩;rw[hw];clear hw w')
      |(go_at_call_of 160 aA;refine(jF.out _ (HW3.out.aH HO.out.aI)).mono ?_;rintro e w' ⟨rfl,hw⟩;rw[hw];clear hw w')
      |(go_at_call_of 160 aB;refine(jC.out _ (HW3.out.aH HO.out.aI)).mono ?_;rintro e w' ⟨rfl,hw⟩;rw[hw];clear hw w'))
     go_roundw
     case rel=>
      refine⟨nx,out,HO.out,HST.out,?_,rfl,rfl⟩
      have:=HLEN.out
      have:=HL2.out
      omega
     case measure=>
      have:=HL2.out
      cases nx with
      |none=>exact this
      |some t=>exact this
    |true=>
     have hin:¬fV 2 (bK a m) (bK b m):=by
      have h1:=xE.1 hp
      have h2:=xC.1 hq
      unfold fV
      simp[h1,h2]
     have jF:=ah (fun w' h=>HA.out w' m h)
     have jC:=ah (fun w' h=>HB.out w' m h)
     rw[hp]at jF
     rw[hq]at jC
     clear hp hq
     have HST:=ah (HP.out▸Jp HQ.out hin)
     have jw:=ah (fun w' h=>su.out w' m h)
     have hlm:ahead P (nextL P m)<ahead P (some m):=pK.out
     generalize hnx:nextL P m=nx at*
     have HL2:=ah hlm;clear hlm
     clear hin
     obtain⟨av,cv,rfl⟩:=HO.out.shape
     go_wp2_with(first
      |(go_at_call 162;refine(jw.out _ HO.out.aI).mono ?_;rintro e w' ⟨rfl,hw⟩;rw[hw];clear hw w')
      |(go_at_call_of 160 aA;refine(jF.out _ (HW3.out.aH HO.out.aI)).mono ?_;rintro e w' ⟨rfl,hw⟩;rw[hw];clear hw w')
      |(go_at_call_of 160 aB;refine(jC.out _ (HW3.out.aH HO.out.aI)).mono ?_;rintro e w' ⟨rfl,hw⟩;rw[hw];clear hw w'))
     go_roundw
     case rel=>
      refine⟨nx,out,HO.out,HST.out,?_,rfl,rfl⟩
      have:=HLEN.out
      have:=HL2.out
      omega
     case measure=>
      have:=HL2.out
      cases nx with
      |none=>exact this
      |some t=>exact this
   |true=>
    cases hq:tf (bK b m)with
    |false=>
     have hin:fV 2 (bK a m) (bK b m):=by
      have h1:=xC.1 hp
      have h2:=xE.1 hq
      unfold fV
      simp[h1,h2]
     have jF:=ah (fun w' h=>HA.out w' m h)
     have jC:=ah (fun w' h=>HB.out w' m h)
     rw[hp]at jF
     rw[hq]at jC
     clear hp hq
     obtain⟨t,ht⟩:=Jr hin
     have hst:=Jq HQ.out hin ht
     rw[HP.out]at ht
     have HST:=ah hst;clear hst
     have hlm:ahead P (some t)<ahead P (some m):=ht▸pK.out
     have HL2:=ah hlm;clear hlm
     obtain⟨t1,t2⟩:=kE.out t (xq ht).1
     have jw:=ah (fun w' h=>su.out w' m h)
     rw[ht]at jw
     clear hin ht
     have dV:=ah (FZ out m (t-1))
     rcases List.eq_nil_or_concat out with rfl|⟨lo,r,rfl⟩
     ·rw[FP]at HST dV
      obtain⟨av,cv,rfl⟩:=HO.out.shape
      go_wp2_with(first
       |(go_at_call 162;refine(jw.out _ HO.out.aI).mono ?_;rintro e w' ⟨rfl,hw⟩;rw[hw];clear hw w')|(go_at_call_of 160 aA;refine(jF.out _ (HW3.out.aH HO.out.aI)).mono ?_;rintro e w' ⟨rfl,hw⟩;rw[hw];clear hw w')|(go_at_call_of 160 aB;refine(jC.out _ (HW3.out.aH HO.out.aI)).mono ?_;rintro e w' ⟨rfl,hw⟩;rw[hw];clear hw w')
       |(at_builtin;refine kT w3 _ [.int .i64 m, .int .i64 (t-1)] rfl (.tmp 83) (.tmp 88) 135 rfl 168 i0 _ 2 16 Tryz.underlying135 hi hz0 hz1 hz2 (by decide) (by decide) _ _ _ HO.out 1 1 rfl rfl rfl (by simp[Value.oneCell']) (by simp[maxLen]) (by simp) ?_;intro ad cc w2 bP;have OW:=ah bP;clear bP))
      go_roundw
      case rel=>exact⟨some t,[(m,t-1)],OW.out,HST.out,by have:=HLEN.out;have:=HL2.out;simp at*;omega,rfl,rfl⟩
      case measure=>exact HL2.out
     ·rw[List.concat_eq_append]at*
      rw[Bq]at HST dV
      have hln:(lo++ [r]).length=lo.length+1:=by simp
      have ho2:=HO.out
      have hlen:=HLEN.out
      rw[hln]at ho2 hole hlen dV
      clear HO HLEN
      have HLEN:=ah hlen;clear hlen
      obtain⟨g,c2,rfl,hg0,hg,hc2,hcell,hfro,hset⟩:=ho2.row (by simp)
      have cl:=hcell _ _ (DF lo r)
      have fl:=hfro (lo.length*2+1)
      have hs:=hset (lo.length*2+1) (.int .i64 (t-1))
      rw[DC]at hs
      have HO:=ah ho2;clear ho2
      generalize hL:lo.length=L at*
      have jR:=ah hL;clear hL
      have HS:=ah hs;clear hs
      clear hset hcell hfro hln
      have hwm:wrap64 (L:Int)=L:=JB (Nat.le_of_succ_le (Nat.le_trans hole (by decide:40000≤1000000)))
      have HOLE:=ah hole;clear hole hc2
      by_cases he:r.2=m-1
      ·rw[if_pos he]at HST dV
       have he':((r.2:Int)==m-1)=true:=by simp[he]
       have hw1:wrap64 (m-1)=m-1:=qG b1 b2
       have hw2:wrap64 (t-1)=t-1:=qG t1 t2
       clear he b1 b2 t1 t2
       go_wp2_with(first
        |(go_at_call 162;refine(jw.out _ HO.out.aI).mono ?_;rintro e w' ⟨rfl,hw⟩;rw[hw];clear hw w')|(go_at_call_of 160 aA;refine(jF.out _ (HW3.out.aH HO.out.aI)).mono ?_;rintro e w' ⟨rfl,hw⟩;rw[hw];clear hw w')|(go_at_call_of 160 aB;refine(jC.out _ (HW3.out.aH HO.out.aI)).mono ?_;rintro e w' ⟨rfl,hw⟩;rw[hw];clear hw w'))
       go_roundw
       case rel=>
        refine⟨some t,lo++ [(r.1,t-1)],by rw[List.length_append,jR.out];exact HS.out,HST.out,?_,rfl,rfl⟩
        have:=HLEN.out
        have:=HL2.out
        have:=jR.out
        rw[List.length_append]
        simp at*
        omega
       case measure=>exact HL2.out
      ·rw[if_neg he]at HST dV
       have he':((r.2:Int)==m-1)=false:=by simpa using he
       have hw1:wrap64 (m-1)=m-1:=qG b1 b2
       have hw2:wrap64 (t-1)=t-1:=qG t1 t2
       clear he b1 b2 t1 t2
       go_wp2_with(first
        |(go_at_call 162;refine(jw.out _ HO.out.aI).mono ?_;rintro e w' ⟨rfl,hw⟩;rw[hw];clear hw w')|(go_at_call_of 160 aA;refine(jF.out _ (HW3.out.aH HO.out.aI)).mono ?_;rintro e w' ⟨rfl,hw⟩;rw[hw];clear hw w')|(go_at_call_of 160 aB;refine(jC.out _ (HW3.out.aH HO.out.aI)).mono ?_;rintro e w' ⟨rfl,hw⟩;rw[hw];clear hw w')
        |(at_builtin;refine kT w3 _ [.int .i64 m, .int .i64 (t-1)] rfl (.tmp 83) (.tmp 88) 135 rfl 168 i0 _ 2 16 Tryz.underlying135 hi hz0 hz1 hz2 (by decide) (by decide) _ _ _ HO.out 1 1 rfl rfl rfl (by simp[Value.oneCell']) (by have:=HOLE.out;simp only[maxLen];omega) (by have:=HOLE.out;omega) ?_;intro ad cc w2 bP;have OW:=ah bP;clear bP))
       go_roundw
       case rel=>
        refine⟨some t,lo++ [r]++ [(m,t-1)],by rw[List.length_append,List.length_append,jR.out,oO];exact OW.out,HST.out,?_,rfl,rfl⟩
        have:=HLEN.out
        have:=HL2.out
        have:=jR.out
        simp at*
        omega
       case measure=>exact HL2.out
    |true=>
     have hin:¬fV 2 (bK a m) (bK b m):=by
      have h1:=xC.1 hp
      have h2:=xC.1 hq
      unfold fV
      simp[h1,h2]
     have jF:=ah (fun w' h=>HA.out w' m h)
     have jC:=ah (fun w' h=>HB.out w' m h)
     rw[hp]at jF
     rw[hq]at jC
     clear hp hq
     have HST:=ah (HP.out▸Jp HQ.out hin)
     have jw:=ah (fun w' h=>su.out w' m h)
     have hlm:ahead P (nextL P m)<ahead P (some m):=pK.out
     generalize hnx:nextL P m=nx at*
     have HL2:=ah hlm;clear hlm
     clear hin
     obtain⟨av,cv,rfl⟩:=HO.out.shape
     go_wp2_with(first
      |(go_at_call 162;refine(jw.out _ HO.out.aI).mono ?_;rintro e w' ⟨rfl,hw⟩;rw[hw];clear hw w')
      |(go_at_call_of 160 aA;refine(jF.out _ (HW3.out.aH HO.out.aI)).mono ?_;rintro e w' ⟨rfl,hw⟩;rw[hw];clear hw w')
      |(go_at_call_of 160 aB;refine(jC.out _ (HW3.out.aH HO.out.aI)).mono ?_;rintro e w' ⟨rfl,hw⟩;rw[hw];clear hw w'))
     go_roundw
     case rel=>
      refine⟨nx,out,HO.out,HST.out,?_,rfl,rfl⟩
      have:=HLEN.out
      have:=HL2.out
      omega
     case measure=>
      have:=HL2.out
      cases nx with
      |none=>exact this
      |some t=>exact this
open Go.RowKit
theorem Gg:(Tryz.prog.info? 92).map (fun i=>(i.zero,i.size,i.bytes))=some (some (.agg #[.int .i64 0, .int .i64 0, .int .i64 0]),3,24):=by kernel_rfl
theorem Un {c:bD} {k:Nat} (d:Int) (hk:k<c.length):dA (c.take (k+1)) d=dA (c.take k) d++(if(c.getD k (0,0,0)).1=d then [(c.getD k (0,0,0)).2]else []):=by
 rw[take_succ (0,0,0) hk,FQ]
 congr 1
 split
 ·rename_i h;subst h;rw[Ue];rfl
 ·rename_i h;rw[Nl _ _ h];rfl
theorem BD (c:bD) (d:Int):(dA c d).length≤c.length:=by
 unfold dA;rw[List.length_map];exact List.length_filter_le _ _
theorem JD (w:World) (v:Value) (c:bD) (d:Int) (hv:je w v c) (hl:c.length≤100000):
 Calls Tryz.prog 86 #[v, .int .i64 d] w fun e w'=>∃v',e= .returned v'∧OwnAt w w' 168 2 v' (dA c d).length (fD (dA c d)):=by
 obtain⟨i0,hi,hz0,hz1,hz2⟩:=info_parts Jy
 rcases Rd.shape hv with⟨ad,rfl,h0⟩|⟨b,off,cc0,rfl,hmax⟩
 ·obtain rfl:c=[]:=List.eq_nil_of_length_eq_zero h0
  clear hv
  go_enter Tryz.func86,Tryz.ntmps86
  go_wp2
  go_loop [5,9] (fun v i=>v= .slice none 0 0∧i= .int .i64 0) (fun _ _=>0)
  case atStart=>exact⟨rfl,rfl⟩
  case round=>
   obtain⟨rfl,rfl⟩:=hrel
   go_wp2
   go_ret
   exact⟨_,rfl,OwnAt.nil (aj.refl _ _) _ _⟩
 ·have HH:=ah hv;clear hv
  generalize hn:c.length=n at*
  have HN:=ah hn;clear hn
  have nO:=ah hl;clear hl
  go_enter Tryz.func86,Tryz.ntmps86
  go_wp2
  go_loopw [5,9] (fun v i ww=>∃(k m:Nat),k≤n∧m≤k∧i= .int .i64 k∧m=(dA (c.take k) d).length∧OwnAt w ww 168 2 v m (fD (dA (c.take k) d))) (fun _ i _=>n-(intOf i).toNat)
  case atStart=>exact⟨0,0,Nat.zero_le _,Nat.le_refl _,rfl,rfl,OwnAt.nil (aj.refl _ _) _ _⟩
  case round=>
   obtain⟨k,m,hk,hmk,rfl,hm,ho⟩:=hrel
   obtain⟨av,cv,rfl⟩:=ho.shape
   have HO:=ah ho;clear ho
   have HM:=ah hm;clear hm
   have DI:=ah hmk;clear hmk
   by_cases hlt:k<n
   ·obtain⟨p0,p1,p2⟩:=zS HH.out HN.out.symm k (by rw[HN.out];exact hlt)
    have q0:=HO.out.aI.cell' p0 id
    have q1:=HO.out.aI.cell' p1 id
    have q2:=HO.out.aI.cell' p2 id
    have hbl:=World.block_lt_of_cell? _ _ q1
    have hbl:b<wr.heap.size:=hbl
    have hE:=Un (c:=c) (k:=k) d (by rw[HN.out];exact hlt)
    generalize c.getD k (0,0,0)=s at*
    have P1:=ah p1;clear p1
    have P2:=ah p2;clear p2
    clear p0
    by_cases he:s.1=d
    ·rw[if_pos he]at hE
     have he':((s.1:Int)==d)=true:=by simp[he]
     have HE:=ah hE;clear hE
     clear he
     go_wp2_with fail
     go_region_held3 (fun w'=>w'.cell? ⟨b,off+k*3+1,none⟩=some (.int .i64 s.2.1)∧w'.cell? ⟨b,off+k*3+2,none⟩=some (.int .i64 s.2.2))
      (first|exact⟨q1,q2⟩|exact⟨(aj.alloc1 (aj.drew aF _)).cell' q1 id,(aj.alloc1 (aj.drew aF _)).cell' q2 id⟩|exact⟨bP.aI.cell' P1.out id,bP.aI.cell' P2.out id⟩)
      (first|(refine FX w wr.drew [.int .i64 s.2.1, .int .i64 s.2.2] rfl (.tmp 19) (.tmp 31) 135 rfl 168 i0 _ 2 16 Tryz.underlying135 hi hz0 hz1 hz2 (by decide) (by decide) (.slice av m cv) m _ (HO.out.keep (aj.drew _ _)) 1 1 (by simp[Act.eval]) (by simp[Act.eval]) rfl (by simp[Value.oneCell']) (by have:=nO.out;have:=DI.out;simp only[maxLen];omega) (by have:=nO.out;have:=DI.out;omega) ?_;intro ad cc w2 bP))
     have OW:=ah bP;clear bP
     go_wp2
     go_roundw
     case rel=>
      refine⟨k+1,m+1,by omega,by have:=DI.out;omega,by go_num,by rw[HE.out,List.length_append,←HM.out];rfl,?_⟩
      rw[HE.out,oO]
      exact OW.out
     case measure=>simp[intOf];omega
    ·rw[if_neg he,List.append_nil]at hE
     have he':((s.1:Int)==d)=false:=by simpa using he
     have HE:=ah hE;clear hE
     clear he
     go_wp2
     go_roundw
     case rel=>exact⟨k+1,m,by omega,by have:=DI.out;omega,by go_num,by rw[HE.out];exact HM.out,by rw[HE.out];exact HO.out⟩
     case measure=>simp[intOf];omega
   ·obtain rfl:k=n:=by omega
    go_wp2
    go_ret
    rw[List.take_of_length_le (by rw[HN.out];exact Nat.le_refl _)]at HO HM
    exact⟨_,rfl,by rw[←HM.out];exact HO.out⟩
theorem Uo {l:aZ} {k:Nat} (d:Int) (hk:k<l.length):iK d (l.take (k+1))=iK d (l.take k)++ [(d,(l.getD k (0,0)).1,(l.getD k (0,0)).2)]:=by
 rw[take_succ (0,0) hk];simp[iK]
theorem Ur (w:World) (v:Value) (l:aZ) (d:Int) (hv:k_ w v l) (hl:l.length≤100000):
 Calls Tryz.prog 122 #[.int .i64 d,v] w fun e w'=>∃v',e= .returned v'∧OwnAt w w' 92 3 v' l.length (dY (iK d l)):=by
 obtain⟨i0,hi,hz0,hz1,hz2⟩:=info_parts Gg
 rcases Rd.shape hv with⟨ad,rfl,h0⟩|⟨b,off,cc0,rfl,hmax⟩
 ·obtain rfl:l=[]:=List.eq_nil_of_length_eq_zero h0
  clear hv
  go_enter Tryz.func122,Tryz.ntmps122
  go_wp2
  go_loop [5,9] (fun v i=>v= .slice none 0 0∧i= .int .i64 0) (fun _ _=>0)
  case atStart=>exact⟨rfl,rfl⟩
  case round=>
   obtain⟨rfl,rfl⟩:=hrel
   go_wp2
   go_ret
   exact⟨_,rfl,OwnAt.nil (aj.refl _ _) _ _⟩
 ·have HH:=ah hv;clear hv
  generalize hn:l.length=n at*
  have HN:=ah hn;clear hn
  have nO:=ah hl;clear hl
  go_enter Tryz.func122,Tryz.ntmps122
  go_wp2
  go_loopw [5,9] (fun v i ww=>∃(k:Nat),k≤n∧i= .int .i64 k∧OwnAt w ww 92 3 v k (dY (iK d (l.take k)))) (fun _ i _=>n-(intOf i).toNat)
  case atStart=>exact⟨0,Nat.zero_le _,rfl,OwnAt.nil (aj.refl _ _) _ _⟩
  case round=>
   obtain⟨k,hk,rfl,ho⟩:=hrel
   obtain⟨av,cv,rfl⟩:=ho.shape
   have HO:=ah ho;clear ho
   by_cases hlt:k<n
   ·obtain⟨p1,p2⟩:=r_ HH.out HN.out.symm k (by rw[HN.out];exact hlt)
    have q1:=HO.out.aI.cell' p1 id
    have q2:=HO.out.aI.cell' p2 id
    have hbl:=World.block_lt_of_cell? _ _ q1
    have hbl:b<wr.heap.size:=hbl
    have HE:=ah (Uo (l:=l) (k:=k) d (by rw[HN.out];exact hlt))
    generalize l.getD k (0,0)=s at*
    have P1:=ah p1;clear p1
    have P2:=ah p2;clear p2
    go_wp2_with fail
    go_region_held3 (fun w'=>w'.cell? ⟨b,off+k*2,none⟩=some (.int .i64 s.1)∧w'.cell? ⟨b,off+k*2+1,none⟩=some (.int .i64 s.2))
     (first|exact⟨q1,q2⟩|exact⟨(aj.alloc1 (aj.drew aF _)).cell' q1 id,(aj.alloc1 (aj.drew aF _)).cell' q2 id⟩|exact⟨bP.aI.cell' P1.out id,bP.aI.cell' P2.out id⟩)
     (first|(refine FX w wr.drew [.int .i64 d, .int .i64 s.1, .int .i64 s.2] rfl (.tmp 12) (.tmp 25) 30 rfl 92 i0 _ 3 24 Tryz.underlying30 hi hz0 hz1 hz2 (by decide) (by decide) (.slice av k cv) k _ (HO.out.keep (aj.drew _ _)) 1 1 (by simp[Act.eval]) (by simp[Act.eval]) rfl (by simp[Value.oneCell']) (by have:=nO.out;simp only[maxLen];omega) (by have:=nO.out;omega) ?_;intro ad cc w2 bP))
    have OW:=ah bP;clear bP
    go_wp2
    go_roundw
    case rel=>
     refine⟨k+1,by omega,by go_num,?_⟩
     rw[HE.out,Js]
     exact OW.out
    case measure=>simp[intOf];omega
   ·obtain rfl:k=n:=by omega
    go_wp2
    go_ret
    rw[List.take_of_length_le (by rw[HN.out];exact Nat.le_refl _)]at HO
    exact⟨_,rfl,HO.out⟩
open Go.RowKit
theorem Us:∀ {a b:bD} {lo k:Int},jq lo a→(∀s∈a,s.1≤k)→jq k b→lo≤k→jq lo (a++b)
 |[],_,_,_,_,_,hb,hl=>hb.mono hl
 |s::a,b,lo,k,ha,hk,hb,_=>⟨ha.1,ha.2.1,Us ha.2.2 (fun x hx=>hk x (List.mem_cons_of_mem _ hx)) hb (hk s List.mem_cons_self)⟩
theorem aa0 {c:bD} {d:Int} (h:∀s∈c,s.1≠d):dA c d=[]:=by
 unfold dA
 rw[List.filter_eq_nil_iff.2 (by intro s hs;simpa using h s hs)]
 rfl
structure pO (R:Int→aZ→Prop) (k:Int) (c:bD):Prop where
 rise:jq 0 c
 below:∀s∈c,s.1<k
 parts:∀d,0≤d→d<k→R d (dA c d)
theorem pO.zero (R:Int→aZ→Prop):pO R 0 []:=⟨trivial,(fun s hs=>by cases hs),fun d h0 h1=>by omega⟩
theorem pO.step {R:Int→aZ→Prop} {k:Int} {c:bD} (h:pO R k c) (h0:0≤k) (h4:k<4) {o:aZ} (ho:R k o):pO R (k+1) (c++iK k o):=by
 have hs:jq k (iK k o):=by
  have:=Dy (lo:=k) (d:=k) (Int.le_refl _) h4 o (c:=[]) trivial
  rwa [List.append_nil]at this
 refine⟨Us h.rise (fun s hs=>Int.le_of_lt (h.below s hs)) hs h0,fun s hs=>?_,fun d hd hdk=>?_⟩
 ·rcases List.mem_append.1 hs with hs|hs
  ·have:=h.below s hs;omega
  ·simp only[iK,List.mem_map]at hs
   obtain⟨r,_,rfl⟩:=hs
   show k<k+1
   omega
 ·rw[FQ]
  by_cases he:d=k
  ·subst he
   rw[aa0 (fun s hs=>by have:=h.below s hs;omega),FT]
   exact ho
  ·rw[tX _ (fun e=>he e.symm),List.append_nil]
   exact h.parts d hd (by omega)
def NI (how:Int) (a b:bD) (d:Int) (o:aZ):Prop:=dO o∧∀n,bK o n↔fV how (kS a d n) (kS b d n)
theorem pO.NJ {how:Int} {a b c:bD} (h:pO (NI how a b) 4 c):kZ how a b c:=
 ⟨⟨h.rise,fun d h0 h4=>(h.parts d h0 h4).1⟩,fun d n h0 h4=>(h.parts d h0 h4).2 n⟩
theorem fV.or {how:Int} {p q:Prop} (h:fV how p q):p∨q:=by
 unfold fV at h
 split at h
 ·exact .inl h.1
 ·split at h
  ·exact .inl h.1
  ·exact h
theorem xw.byR {how:Int} {a b:bD} {d:Int} {o:aZ} (h:xw (dA a d) (dA b d) how o none) (ha:dO (dA a d)) (hb:dO (dA b d)):NI how a b d o:=
 ⟨dO.of h.from_ (fun n hn=>(fV.or ((h.none_ rfl n).1 hn)).elim (fun h=>(ha.Nj h).2) fun h=>(hb.Nj h).2),h.none_ rfl⟩
theorem zT (d:Int) (l:aZ):(iK d l).length=l.length:=by simp[iK]
theorem NK {c:bD} {k j:Nat} {d:Int} {l:aZ} (h:c.length≤40000*k) (hk:k≤4) (hl:l.length≤40000):(c++iK d l).length≤40000*(k+1)∧c.length+l.length≤1000000:=by
 rw[List.length_append,zT];omega
def NM (how:Int):Prop:=∀(w:World) (va vb:Value) (a b:bD) (_:je w va a) (_:je w vb b) (_:eP a) (_:eP b) (_:a.length≤10000) (_:b.length≤10000),
    Calls Tryz.prog 87 #[va,vb, .int .i64 how] w fun e w'=>∃v' c,e= .returned v'∧OwnAt w w' 92 3 v' c.length (dY c)∧kZ how a b c∧c.length≤160000
theorem Ut (how:Int) (gX:NC how):NM how:=by
 intro w va vb a b ha hb ra rb la lb
 obtain⟨i0,hi,hz0,hz1,hz2⟩:=info_parts Gg
 obtain⟨aA,cA,rfl⟩:=ha.sl
 obtain⟨aB,cB,rfl⟩:=hb.sl
 have RA:=ah ra;clear ra
 have RB:=ah rb;clear rb
 have BF:=ah (fun w' d h=>JD w' _ a d (Rd.aS ha h) (by omega))
 have fM:=ah (fun w' d h=>JD w' _ b d (Rd.aS hb h) (by omega))
 have LA:=ah (fun d=>Nat.le_trans (BD a d) la)
 have LB:=ah (fun d=>Nat.le_trans (BD b d) lb)
 have gX:=ah gX
 clear ha hb la lb
 go_enter Tryz.func87,Tryz.ntmps87
 go_wp2
 go_loopw [7,9] (fun v i ww=>∃(k:Nat) (c:bD),k≤4∧i= .int .i64 k∧OwnAt w ww 92 3 v c.length (dY c)∧pO (NI how a b) k c∧c.length≤40000*k) (fun _ i _=>4-(intOf i).toNat)
 case atStart=>exact⟨0,[],by omega,rfl,OwnAt.nil (aj.refl _ _) _ _,pO.zero _,Nat.zero_le _⟩
 case round=>
  obtain⟨k,c,hk,rfl,ho,hu,hlen⟩:=hrel
  obtain⟨av,cv,rfl⟩:=ho.shape
  have HO:=ah ho;clear ho
  have HU:=ah hu;clear hu
  have HLEN:=ah hlen;clear hlen
  by_cases hlt:k<4
  ·have hra:=ah (RA.out.2 (k:Int) (by omega) (by omega))
   have hrb:=ah (RB.out.2 (k:Int) (by omega) (by omega))
   go_wp2_with(first
    |(go_at_call_of 86 aA;refine(BF.out _ k HO.out.aI).mono ?_;rintro e w1 ⟨v1,rfl,ho1⟩;obtain⟨a1,c1,rfl⟩:=ho1.shape;have dZ:=ah ho1;clear ho1)
    |(go_at_call_of 86 aB;refine(fM.out _ k (HO.out.aI.aH dZ.out.aI)).mono ?_;rintro e w2 ⟨v2,rfl,ho2⟩;obtain⟨a2,c2,rfl⟩:=ho2.shape;have gW:=ah ho2;clear ho2)
    |(go_at_call 123;refine(gX.out _ _ _ _ _ (dZ.out.rd.aS gW.out.aI) gW.out.rd hra.out hrb.out (LA.out k) (LB.out k)).mono ?_;rintro e w3 ⟨v3,o,rfl,ho3,hby,hol⟩;obtain⟨a3,c3,rfl⟩:=ho3.shape;have dw:=ah ho3;clear ho3;have HB3:=ah hby;clear hby;have HOL:=ah hol;clear hol)
    |(go_at_call 122;refine(Ur _ _ o k dw.out.rd (Nat.le_trans HOL.out (by decide))).mono ?_;rintro e w4 ⟨v4,rfl,nP⟩;obtain⟨a4,c4,rfl⟩:=nP.shape;have mV:=ah nP;clear nP;have HKK:=ah (HO.out.keep (dZ.out.aI.aH (gW.out.aI.aH (dw.out.aI.aH mV.out.aI)))))
    |(at_builtin;refine rC w _ _ rfl (.tmp 12) (.tmp 22) 30 30 rfl 92 92 i0 _ 3 24 Tryz.underlying30 Tryz.underlying30 hi hz0 hz1 hz2 (by decide) (by decide) _ _ _ HKK.out _ o.length rfl rfl mV.out.rd (by rw[Jt,zT]) (Nu _) (by have:=(NK (j:=0) (d:=k) HLEN.out (Nat.le_of_lt hlt) HOL.out).2;simp only[maxLen];omega) (by have:=(NK (j:=0) (d:=k) HLEN.out (Nat.le_of_lt hlt) HOL.out).2;omega) ?_;intro ad cc w5 dP;have OW:=ah dP;clear dP))
   go_roundw
   case rel=>
    refine⟨k+1,c++iK k o,by omega,by go_num,?_,?_,(NK (j:=0) HLEN.out (Nat.le_of_lt hlt) HOL.out).1⟩
    ·rw[List.length_append,zT,Js];exact OW.out
    ·have:=HU.out.step (by omega) (by omega) (HB3.out.byR hra.out hrb.out)
     exact this
   case measure=>simp[intOf];omega
  ·obtain rfl:k=4:=by omega
   go_wp2
   go_ret
   exact⟨_,c,rfl,HO.out,HU.out.NJ,HLEN.out⟩
theorem aa2:NM 0:=Ut 0 aaX
theorem aa3:NM 2:=Ut 2 aaY
theorem aa4 (w:World) (va vb:Value) (a b:bD) (ha:je w va a) (hb:je w vb b) (ra:eP a) (rb:eP b) (la:a.length≤10000) (lb:b.length≤10000):
 Calls Tryz.prog 65 #[va,vb] w fun e w'=>e= .returned (.bool (tf (zO a b)))∧aj aF w w':=by
 have HC:=ah (aa3 w va vb a b ha hb ra rb la lb)
 clear ha hb ra rb la lb
 go_enter Tryz.func65,Tryz.ntmps65
 go_wp2_with(go_at_call 87;refine HC.out.mono ?_;rintro e w1 ⟨v1,c,rfl,ho1,hby,hol⟩;obtain⟨a1,c1,rfl⟩:=ho1.shape;have dZ:=ah ho1;clear ho1;have HB:=ah hby;clear hby;clear hol)
 go_ret
 refine⟨dF ?_,dZ.out.aI⟩
 refine Dw ?_
 rw[←HB.out.Ug]
 simp
open Go.RowKit
end Go.Proofs.YtlhmbkjdfjoilaaGreat
