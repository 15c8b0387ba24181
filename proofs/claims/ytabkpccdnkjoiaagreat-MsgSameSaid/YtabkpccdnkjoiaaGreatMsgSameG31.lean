/- Words for the law MsgSame: Frame2, Frame3, Frame4, Frame5, MsgEnc. -/
import Derived.Test.YtabkpccdnkjoiaaGreatMsgSameG0
import Derived.Test.YtabkpccdnkjoiaaGreatMsgSameG1
import Derived.Test.YtabkpccdnkjoiaaGreatMsgSameG19
import Derived.Test.YtabkpccdnkjoiaaGreatMsgSameG28
import Derived.Test.YtabkpccdnkjoiaaGreatMsgSameG30
set_option linter.unusedSimpArgs false
set_option linter.unusedVariables false
set_option maxHeartbeats 32000000
set_option maxRecDepth 1000000
namespace Go.Proofs.YtabkpccdnkjoiaaGreat
open Go.RowKit
theorem Lm {w:World} {v:Value} {n:Nat} {xs:List Value} (h:Rd w v n xs):∃a c,v= .slice a n c:=by
 rcases h with⟨ad,rfl,h2,h3⟩|⟨b,off,c,rfl,_⟩
 ·exact⟨ad,0,by rw[h2]⟩
 ·exact⟨_,_,rfl⟩
theorem DL {w w':World} {v:Value} {n:Nat} {xs:List Value} (h:Rd w v n xs) (f:aj ay w w'):Rd w' v n xs:=h.keep f fun _ _ h=>h
theorem abf (bs:List UInt8) (v:Value) (w:World) (h:Rd w v bs.length (bV bs)) (hl:bs.length≤60000):
 Calls Tryz.prog 75 #[v] w fun e w'=>∃a c,e= .returned (.tuple #[.slice a (bC.jM bs).length c, .int .i64 0])∧Copy w (.slice a (bC.jM bs).length c) (bC.jM bs) w':=by
 obtain⟨a0,c0,rfl⟩:=Lm h
 have HH:=ah (fun W (f:aj ay w W)=>DL h f);clear h
 have xQ:=ah (bC.Dj bs.length)
 have bg:=ah (show bC.jM bs=(bC.four bs.length++bs)++bC.four (bC.sum (bC.four bs.length++bs))from rfl)
 have h6:(bs.length:Int)≤60000:=by omega
 have HF:=ah (fun W=>SG bs.length (by omega) W)
 have hcv:IntKind.u32.wrap (bs.length:Int)=(bs.length:Int):=by rw[IntKind.wrap_u32];omega
 generalize bC.four bs.length=hd at*
 generalize hn:bs.length=n at*
 have HN:=ah hn;clear hn
 go_enter Tryz.func75,Tryz.ntmps75
 go_wp2_with(first
  |(go_at_call 139;refine(HF.out _).mono ?_;rintro e w1 ⟨a1,c1,t1,ht1,rfl,AU⟩;have HT1:=ah ht1;clear ht1;have cO:=ah AU;clear AU)
  |(at_builtin;refine RY w w1 rfl (.tmp 11) (.tmp 12) rfl _ t1 cO.out _ bs rfl rfl (by rw[HN.out];exact HH.out _ cO.out.aP) ?c1 ?_))
 case c1=>rw[HT1.out,xQ.out,HN.out];omega
 intro a2 c2 w2 t2 HT2 hc2 _ _
 have HC2:=ah hc2;clear hc2
 have HL2:=ah (show t2.length≤70000 by rw[HT2.out,List.length_append,HT1.out,xQ.out,HN.out];omega)
 have ig:=ah (SE t2 _ w2 HC2.out.rd)
 have hsl:=bC.sum_lt t2
 have HS:=ah (fun W=>SG (bC.sum t2) hsl W)
 generalize hsm:bC.sum t2=sm at*
 have jO:=ah hsm;clear hsm
 go_wp2_with(first
  |(go_at_call 140;refine ig.out.mono ?_;rintro e w3 ⟨rfl,rfl⟩)
  |(go_at_call 139;refine(HS.out _).mono ?_;rintro e w4 ⟨a4,c4,t4,SI,rfl,cp4⟩;have HT4:=ah SI;clear SI;have iy:=ah (HC2.out.step cp4.aP);have HC4:=ah cp4;clear cp4)
  |(at_builtin;refine RY w w4 rfl (.tmp 14) (.tmp 17) rfl _ t2 iy.out _ t4 rfl rfl HC4.out.rd ?c2 ?_))
 case c2=>have:=HL2.out;rw[HT4.out,bC.Dj];omega
 intro a5 c5 w5 t5 Lh hc5 _ _
 have wK:=ah hc5;clear hc5
 have HE:=ah (show t5=bC.jM bs by rw[Lh.out,bg.out,HT4.out,←jO.out,HT2.out,HT1.out])
 go_wp2
 go_ret2
 rw[←HE.out]
 exact⟨a5,c5,rfl,wK.out⟩
theorem SK (l:List UInt8) (v:Value) (w:World) (h:Rd w v l.length (bV l)):
 Calls Tryz.prog 119 #[v] w fun e w'=>e= .returned (.tuple #[.int .i64 (if l.length<8 then 0 else(bC.dV l:Int)), .bool (if l.length<8 then false else(decide ((bC.dV l:Int)≤60000)&&decide ((bC.dV l:Int)≤(l.length:Int)-8)))])∧aj ay w w':=by
 by_cases hl:l.length<8
 ·rw[if_pos hl,if_pos hl]
  obtain⟨a0,c0,rfl⟩:=Lm h
  clear h
  have h4:(l.length:Int)<8:=by omega
  generalize l.length=n at*
  go_enter Tryz.func119,Tryz.ntmps119
  go_wp2
  go_ret2
  exact⟨rfl,aj.refl _ _⟩
 ·rw[if_neg hl,if_neg hl]
  have h':=h
  rcases h with⟨ad,rfl,h2,h3⟩|⟨b,off,c,rfl,hm1,hm2,-⟩
  ·omega
  have AV:=ah (SH l (by omega) b off c l.length w h' rfl)
  have hnl:=bC.Zc l
  have h4:¬(l.length:Int)<8:=by omega
  have hmx:(l.length:Int)≤9223372036854775807:=by simp only[maxLen]at hm2;omega
  have hwr:IntKind.i64.wrap ((l.length:Int)-8)=(l.length:Int)-8:=by rw[IntKind.wrap_i64];omega
  have hcv:IntKind.i64.wrap (bC.dV l:Int)=(bC.dV l:Int):=by rw[IntKind.wrap_i64];omega
  generalize bC.dV l=m at*
  clear h' hl hm1 hm2
  generalize l.length=n at*
  by_cases h6:m≤60000
  ·have h7:(m:Int)≤60000:=by omega
   by_cases h8:(m:Int)≤(n:Int)-8
   ·rw[decide_eq_true h7,decide_eq_true h8]
    go_enter Tryz.func119,Tryz.ntmps119
    go_wp2_with(go_at_call 172;refine AV.out.mono ?_;rintro e w1 ⟨rfl,hf1⟩;have bH:=ah hf1;clear hf1)
    go_ret2
    exact⟨by first|rfl|(simp;done)|(simp;omega),bH.out⟩
   ·rw[decide_eq_true h7,decide_eq_false h8]
    go_enter Tryz.func119,Tryz.ntmps119
    go_wp2_with(go_at_call 172;refine AV.out.mono ?_;rintro e w1 ⟨rfl,hf1⟩;have bH:=ah hf1;clear hf1)
    go_ret2
    exact⟨by first|rfl|(simp;done)|(simp;omega),bH.out⟩
  ·have h7:¬(m:Int)≤60000:=by omega
   rw[decide_eq_false h7]
   go_enter Tryz.func119,Tryz.ntmps119
   go_wp2_with(go_at_call 172;refine AV.out.mono ?_;rintro e w1 ⟨rfl,hf1⟩;have bH:=ah hf1;clear hf1)
   go_ret2
   exact⟨by first|rfl|(simp;done)|(simp;omega),bH.out⟩
open Go.RowKit
theorem Lp {w:World} {b off n c:Nat} {l:List UInt8} (h:Rd w (.slice (some ⟨b,off,none⟩) n c) n (bV l)) (hn:l.length=n) (i k c':Nat) (hik:i+k≤n) (hc:k≤c') (hm:c'≤maxLen):Rd w (.slice (some ⟨b,off+i,none⟩) k c') k (bV ((l.drop i).take k)):=by
 have hlen:((l.drop i).take k).length=k:=by rw[List.length_take,List.length_drop];omega
 refine .inr ⟨b,off+i,c',rfl,hc,hm,fun j u hu=>?_⟩
 rcases h with⟨ad,h1,h2,h3⟩|⟨b',off',c'',h1,h2,h3,h4⟩
 ·have:l=[]:=by simpa[bV]using h3
  subst this
  simp[bV]at hu
 ·injection h1 with e1 e2 e3
  injection e1 with e1
  injection e1 with e1 e4
  subst e1 e4
  have hj:j<k:=by
   have:=(List.getElem?_eq_some_iff.1 hu).1
   rw[bV,List.length_map,hlen]at this
   exact this
  have:=h4 (i+j) u (by
   rw[←hu,bV,bV,List.getElem?_map,List.getElem?_map,List.getElem?_take_of_lt hj,List.getElem?_drop])
  rwa [←Nat.add_assoc]at this
def Gt (w:World) (ok:Bool) (mid:List UInt8) (e:Ending) (w':World):Prop:=
 match ok with
 |true=>∃a c',e= .returned (.tuple #[.slice a mid.length c', .bool true])∧Copy w (.slice a mid.length c') mid w'
 |false=>e= .returned (.tuple #[.slice none 0 0, .bool false])∧aj ay w w'
theorem abh (l:List UInt8) (b off c n m:Nat) (w:World) (h:Rd w (.slice (some ⟨b,off,none⟩) n c) n (bV l)) (hn:l.length=n) (hcn:n≤c) (hcm:c≤maxLen) (hm:bC.dV l=m) (h6:m≤60000) (hmn:m+8=n):
 Calls Tryz.prog 120 #[.slice (some ⟨b,off,none⟩) n c] w (Gt w (decide (bC.sum (l.take (4+m))=bC.dV (l.drop (4+m)))) ((l.drop 4).take m)):=by
 have HL:=ah (SK l (.slice (some ⟨b,off,none⟩) n c) w (by rw[hn];exact h))
 have hmi:(m:Int)≤60000:=by omega
 have hm8:(m:Int)≤(n:Int)-8:=by omega
 rw[hn,hm,if_neg (by omega),if_neg (by omega),decide_eq_true hmi,decide_eq_true hm8]at HL
 have hmx:(c:Int)≤9223372036854775807:=by simp only[maxLen]at hcm;omega
 obtain⟨K,hK⟩:∃K,K=4+m:=⟨_,rfl⟩
 have iC:=ah (fun W (f:aj ay w W)=>DL (Lp h hn 0 K c (by omega) (by omega) hcm) f)
 have HP2:=ah (fun W (f:aj ay w W)=>DL (Lp h hn K (n-K) (c-K) (by omega) (by omega) (by omega)) f)
 have lH:=ah (fun W (f:aj ay w W)=>DL (Lp h hn 4 m (c-4) (by omega) (by omega) (by omega)) f)
 have e1:(l.drop 0).take K=l.take K:=rfl
 have e2:(l.drop K).take (n-K)=l.drop K:=List.take_of_length_le (by rw[List.length_drop];omega)
 rw[e1]at iC
 rw[e2]at HP2
 have hl2:(l.drop K).length=n-K:=by rw[List.length_drop];omega
 have hl1:(l.take K).length=K:=by rw[List.length_take];omega
 have hl3:((l.drop 4).take m).length=m:=by rw[List.length_take,List.length_drop];omega
 have ig:=ah (fun W (f:aj ay w W)=>Calls.mono (SE (l.take K) (.slice (some ⟨b,off+0,none⟩) K c) W (by rw[hl1];exact iC.out W f)) fun e w' h=>(⟨h.1,h.2▸aj.refl _ _⟩:e= .returned (.int .u32 (bC.sum (l.take K)))∧aj ay W w'))
 have AV:=ah (fun W (f:aj ay w W)=>SH (l.drop K) (by omega) b (off+K) (c-K) (n-K) W (HP2.out W f) hl2)
 have nR:=ah (fun W (f:aj ay w W)=>clone_any W (.slice (some ⟨b,off+4,none⟩) (K-4) (c-4)) ((l.drop 4).take m) (by rw[hl3,←show m=K-4 by omega];exact lH.out W f) (by omega))
 rw[Nat.add_zero]at ig
 have hc4:¬c=4:=by omega
 rw[←hK]
 generalize (l.drop 4).take m=mid at*
 have kV:=ah hl3;clear hl3
 generalize bC.sum (l.take K)=sm at*
 generalize bC.dV (l.drop K)=nb at*
 have hwk:IntKind.i64.wrap (4+(m:Int))=(K:Int):=by rw[IntKind.wrap_i64];omega
 have hk1:(K:Int)≤(c:Int):=by omega
 have hk2:(K:Int)≤(n:Int):=by omega
 have hk3:¬c=K:=by omega
 have hk4:(4:Int)≤(K:Int):=by omega
 have BH:=ah hK
 have hnc:(n:Int)≤(c:Int):=by omega
 clear h e1 e2 hl2 hl1 iC HP2 lH hK hm hn hmn hcm hcn h6
 cases hq:decide (sm=nb)with
 |true=>
  obtain rfl:sm=nb:=of_decide_eq_true hq
  clear hq
  unfold Gt
  dsimp only
  go_enter Tryz.func120,Tryz.ntmps120
  go_wp2_with(go_at_call 119;refine HL.out.mono ?_;rintro e w1 ⟨rfl,hf1⟩;have bH:=ah hf1;clear hf1)
  obtain⟨α,hne,KK,hK1,hK0,hK2⟩:=worlds w1
  refine dG KK (by kernel_rfl) (by kernel_rfl) hK0 ?_
  repeat(go_big_quiet_step ((first|(go_at_call 140;exact Calls.bK hK2 (ig.out _ (bH.out.au (hK1 _))))|(go_at_call 172;exact Calls.bK hK2 (AV.out _ (bH.out.au (hK1 _)))))))
  refine wpQuiet_nil ?_
  intro w' hw'
  obtain⟨s1,rfl⟩:=hw'
  have HF2:=ah (bH.out.au (hK1 s1))
  clear hK0 hK2 hK1
  generalize KK s1=w2 at*
  go_wp2_with(go_at_call 121;refine(nR.out _ HF2.out).mono ?_;rintro e w3 ⟨v3,rfl,cp3⟩;obtain⟨a3,c3,rfl⟩:=cp3.shape;have rH:=ah cp3;clear cp3)
  go_ret2
  exact⟨a3,c3,rfl,rH.out.weaken HF2.out⟩
 |false=>
  have he:¬sm=nb:=of_decide_eq_false hq
  have hb:((sm:Int) !=(nb:Int))=true:=by simp[bne];omega
  clear hq he
  unfold Gt
  dsimp only
  go_enter Tryz.func120,Tryz.ntmps120
  go_wp2_with(go_at_call 119;refine HL.out.mono ?_;rintro e w1 ⟨rfl,hf1⟩;have bH:=ah hf1;clear hf1)
  obtain⟨α,hne,KK,hK1,hK0,hK2⟩:=worlds w1
  refine dG KK (by kernel_rfl) (by kernel_rfl) hK0 ?_
  repeat(go_big_quiet_step ((first|(go_at_call 140;exact Calls.bK hK2 (ig.out _ (bH.out.au (hK1 _))))|(go_at_call 172;exact Calls.bK hK2 (AV.out _ (bH.out.au (hK1 _)))))))
  refine wpQuiet_nil ?_
  intro w' hw'
  obtain⟨s1,rfl⟩:=hw'
  have HF2:=ah (bH.out.au (hK1 s1))
  clear hK0 hK2 hK1
  generalize KK s1=w2 at*
  go_wp2
  go_ret2
  exact⟨rfl,HF2.out⟩
open Go.RowKit
def Lr (w:World) (k:Int) (bs:List UInt8) (e:Ending) (w':World):Prop:=
 if k=0 then ∃a c,e= .returned (.tuple #[.slice a bs.length c, .int .i64 0])∧Copy w (.slice a bs.length c) bs w' else e= .returned (.tuple #[.slice none 0 0, .int .i64 k])∧aj ay w w'
theorem abl {l:List UInt8} (h:l.length<8∨60000<bC.dV l∨bC.dV l+8≠l.length):bC.nG l=2:=if_pos h
theorem abm {l:List UInt8} (h:¬(l.length<8∨60000<bC.dV l∨bC.dV l+8≠l.length)):bC.nG l=if bC.sum (l.take (4+bC.dV l))=bC.dV (l.drop (4+bC.dV l))then 0 else 11:=if_neg h
theorem abn (l:List UInt8) (v:Value) (w:World) (h:Rd w v l.length (bV l)):
 Calls Tryz.prog 54 #[v] w (Lr w (bC.nG l) (bC.qZ l)):=by
 have HL:=ah (SK l v w h)
 unfold Lr
 by_cases h2:l.length<8∨60000<bC.dV l∨bC.dV l+8≠l.length
 ·rw[abl h2]
  simp only[if_neg (show ¬(2:Int)=0 by decide)]
  by_cases h8:l.length<8
  ·rw[if_pos h8,if_pos h8]at HL
   obtain⟨a0,c0,rfl⟩:=Lm h
   clear h h2 h8
   generalize l.length=n at*
   go_enter Tryz.func54,Tryz.ntmps54
   go_wp2_with(go_at_call 119;refine HL.out.mono ?_;rintro e w1 ⟨rfl,hf1⟩;have bH:=ah hf1;clear hf1)
   go_ret2
   exact⟨rfl,bH.out⟩
  ·rw[if_neg h8,if_neg h8]at HL
   have h':=h
   rcases h with⟨ad,rfl,hz,h3⟩|⟨b,off,c,rfl,hm1,hm2,-⟩
   ·omega
   have hmx:(l.length:Int)≤9223372036854775807:=by simp only[maxLen]at hm2;omega
   by_cases hok:(bC.dV l:Int)≤60000∧(bC.dV l:Int)≤(l.length:Int)-8
   ·rw[decide_eq_true hok.1,decide_eq_true hok.2]at HL
    have hne:((bC.dV l:Int) !=(l.length:Int)-8)=true:=by
     have:¬(bC.dV l:Int)=(l.length:Int)-8:=by omega
     simp[bne,this]
    have h8':(8:Int)≤l.length:=by omega
    clear h' h2 h8 hok hm1 hm2
    generalize bC.dV l=m at*
    generalize l.length=n at*
    go_enter Tryz.func54,Tryz.ntmps54
    go_wp2_with(go_at_call 119;refine HL.out.mono ?_;rintro e w1 ⟨rfl,hf1⟩;have bH:=ah hf1;clear hf1)
    go_ret2
    exact⟨rfl,bH.out⟩
   ·have hb:(decide ((bC.dV l:Int)≤60000)&&decide ((bC.dV l:Int)≤(l.length:Int)-8))=false:=by
     by_cases q:(bC.dV l:Int)≤60000
     ·rw[decide_eq_false (p:=(bC.dV l:Int)≤(l.length:Int)-8) (fun q2=>hok ⟨q,q2⟩),Bool.and_false]
     ·rw[decide_eq_false q,Bool.false_and]
    rw[hb]at HL
    clear h' h2 h8 hok hm1 hm2 hb
    generalize bC.dV l=m at*
    generalize l.length=n at*
    go_enter Tryz.func54,Tryz.ntmps54
    go_wp2_with(go_at_call 119;refine HL.out.mono ?_;rintro e w1 ⟨rfl,hf1⟩;have bH:=ah hf1;clear hf1)
    go_ret2
    exact⟨rfl,bH.out⟩
 ·rw[if_neg (by omega),if_neg (by omega),decide_eq_true (by omega:(bC.dV l:Int)≤60000),decide_eq_true (by omega:(bC.dV l:Int)≤(l.length:Int)-8)]at HL
  have h':=h
  rcases h with⟨ad,rfl,hz,h3⟩|⟨b,off,c,rfl,hm1,hm2,-⟩
  ·omega
  have hmx:(l.length:Int)≤9223372036854775807:=by simp only[maxLen]at hm2;omega
  have wC:=ah (fun W (f:aj ay w W)=>abh l b off c l.length (bC.dV l) W (DL h' f) rfl hm1 hm2 rfl (by omega) (by omega))
  have hne:((bC.dV l:Int) !=(l.length:Int)-8)=false:=by
   have:(bC.dV l:Int)=(l.length:Int)-8:=by omega
   simp[bne,this]
  have h8':(8:Int)≤l.length:=by omega
  have pz:=ah (show bC.nG l=0→bC.qZ l=(l.drop 4).take (bC.dV l)from fun h=>if_pos h)
  have Gu:=ah (abm h2)
  unfold Gt at wC
  cases hq:decide (bC.sum (l.take (4+bC.dV l))=bC.dV (l.drop (4+bC.dV l)))with
  |true=>
   have h0:bC.nG l=0:=by rw[Gu.out,if_pos (of_decide_eq_true hq)]
   rw[hq]at wC
   rw[h0,pz.out h0]
   simp only[if_pos (show(0:Int)=0 from rfl)]
   dsimp only at wC
   clear h' h2 hm1 hm2 hq h0 pz Gu
   generalize (l.drop 4).take (bC.dV l)=mid at*
   generalize bC.dV l=m at*
   generalize l.length=n at*
   go_enter Tryz.func54,Tryz.ntmps54
   go_wp2_with(first
    |(go_at_call 119;refine HL.out.mono ?_;rintro e w1 ⟨rfl,hf1⟩;have bH:=ah hf1;clear hf1)
    |(go_at_call 120;refine(wC.out _ bH.out).mono ?_;rintro e w2 ⟨a2,c2,rfl,cp2⟩;have HC2:=ah cp2;clear cp2))
   go_ret2
   exact⟨a2,c2,rfl,HC2.out.weaken bH.out⟩
  |false=>
   have h0:bC.nG l=11:=by rw[Gu.out,if_neg (of_decide_eq_false hq)]
   rw[hq]at wC
   rw[h0]
   simp only[if_neg (show ¬(11:Int)=0 by decide)]
   dsimp only at wC
   clear h' h2 hm1 hm2 hq h0 pz Gu
   generalize bC.dV l=m at*
   generalize l.length=n at*
   go_enter Tryz.func54,Tryz.ntmps54
   go_wp2_with(first
    |(go_at_call 119;refine HL.out.mono ?_;rintro e w1 ⟨rfl,hf1⟩;have bH:=ah hf1;clear hf1)
    |(go_at_call 120;refine(wC.out _ bH.out).mono ?_;rintro e w2 ⟨rfl,hf2⟩;have HF2:=ah (bH.out.au hf2);clear hf2))
   go_ret2
   exact⟨rfl,HF2.out⟩
open Go.RowKit
open Go.RowKit
theorem jI.old {Q:Nat→Prop} {w:World}:∀ {ks:aH} {os:List (Value×Value)},jI Q w ks os→jI (fun b=>b<w.heap.size) w ks os
 | .nil,_,h=>h
 | .cons _ _ _ _,_,⟨ev,kv,rJ,os,h1,h2,h3,h4,h5⟩=>⟨ev,kv,rJ,os,h1,fC.old h2.rd,fC.old h3.rd,jI.old h4,jI.old h5⟩
theorem bQ.old {Q:Nat→Prop} {w:World} {ev kv:Value} {es:List aG} {ks:aH} (h:bQ Q w ev kv es ks):bQ (fun b=>b<w.heap.size) w ev kv es ks:=by
 obtain⟨h1,os,h2,h3⟩:=h
 exact⟨fC.old h1.rd,os,fC.old h2.rd,jI.old h3⟩
theorem iP.each {Q:Nat→Prop} {w:World} {m:bF} {ps:List aY} {lv ev kv cv:Value} (h:iP Q w m ps lv ev kv cv) (hok:lq m):∀p∈ps,fP p.b.es p.b.ks p.b.c:=fun p hp=>hok.each p.b (h.eq▸List.mem_map.2 ⟨p,hp,rfl⟩)
theorem xU (Q:Nat→Prop) (m:bF) (ps:List aY) (w:World) (lv ev kv cv:Value) (h:iP Q w m ps lv ev kv cv) (hok:lq m):
 Calls Tryz.prog 62 #[m.ag lv ev kv cv] w fun e w'=>e= .returned (.bool (tf m.right))∧aj ay w w':=by
 have hr:=aat Q ps m.es m.ks m.c w m.kind m.fr m.tt m.v0 m.v1 m.v2 m.v3 lv ev kv cv h.bs (h.each hok) (by rw[h.len];have:=hok.len;omega) h.dD hok.st
 have e:tf (Au m.kind m.fr m.tt m.v0 m.v1 m.v2 m.v3 ps m.es m.ks m.c)=tf m.right:=kT (by rw[Ze,h.eq])
 rwa [e]at hr
theorem Ls (Q:Nat→Prop) (m:bF) (ps:List aY) (w:World) (lv ev kv cv:Value) (h:iP Q w m ps lv ev kv cv) (hok:lq m) (hr:¬m.right):
 Calls Tryz.prog 17 #[m.ag lv ev kv cv] w fun e w'=>e= .returned (.tuple #[.slice none 0 0, .int .i64 1])∧aj ay w w':=by
 have HR:=ah (fun W (f:aj ay w W)=>aZ hr▸xU Q m ps W lv ev kv cv (h.aO f) hok)
 obtain⟨kind,fr,tt,v0,v1,v2,v3,bs,es,ks,c⟩:=m
 obtain⟨a0,c0,a1,c1,a2,c2,rfl,rfl,rfl⟩:=h.dD.shape
 obtain⟨al,cl,rfl⟩:=h.bs.rd.sl
 clear hr h hok
 dsimp only[bF.ag]at HR⊢
 have aU:=ah (aj.alloc ay w (.cells #[.int .i64 kind, .int .i64 fr, .int .i64 tt, .int .i64 v0, .int .i64 v1, .int .i64 v2, .int .i64 v3, .slice al ps.length cl, .slice a0 es.length c0, .slice a1 ks.len c1, .slice a2 c.length c2] 36))
 generalize ps.length=ln at*
 generalize es.length=n at*
 generalize ks.len=m at*
 generalize c.length=k at*
 go_enter Tryz.func17,Tryz.ntmps17
 go_wp2_with(go_at_call 62;refine(HR.out _ aU.out).mono ?_;rintro e w1 ⟨rfl,hw1⟩;have HW1:=ah (aU.out.au hw1);clear hw1)
 go_ret2
 exact⟨rfl,HW1.out⟩
def abo (w:World) (x:List UInt8) (e:Ending) (w':World):Prop:=∃a c t,t=x∧e= .returned (.tuple #[.slice a t.length c, .int .i64 0])∧Copy w (.slice a t.length c) t w'
theorem abp (l:List dh) (k:Nat):((l.take k).flatMap dh.enc).length≤(l.flatMap dh.enc).length:=by
 have:(l.flatMap dh.enc).length=((l.take k).flatMap dh.enc++(l.drop k).flatMap dh.enc).length:=by rw[←List.flatMap_append,List.take_append_drop]
 rw[this,List.length_append]
 omega
theorem SL (bs:List UInt8) (v:Value) (w:World) (h:Rd w v bs.length (bV bs)) (hl:bs.length≤60000):Calls Tryz.prog 75 #[v] w fun e w'=>∃a c t,t=bC.jM bs∧e= .returned (.tuple #[.slice a t.length c, .int .i64 0])∧Copy w (.slice a t.length c) t w':=
 (abf bs v w h hl).mono fun e w' ⟨a,c,h1,h2⟩=>⟨a,c,_,rfl,h1,h2⟩
theorem SN (ob:Nat) (w:World) (v:Value) (bs:List UInt8) (h:iM w ob v bs) (hl:bs.length≤60000):Calls Tryz.prog 74 #[.pointer (some ⟨ob,0,none⟩)] w fun e w'=>∃a c t,t=bs∧e= .returned (.tuple #[.slice a t.length c, .int .i64 0])∧Copy w (.slice a t.length c) t w':=
 (Xe ob w v bs h hl).mono fun e w' ⟨v',he,cp⟩=>by
   obtain⟨a,c,rfl⟩:=cp.shape
   exact⟨a,c,bs,rfl,he,cp⟩
theorem SQ {ob b:Nat} (h:gX ob (.slice none 0 0) b):b=ob:=by
 rcases h with h|h
 ·exact h
 ·cases h
theorem Gv (Q:Nat→Prop) (m:bF) (ps:List aY) (w:World) (lv ev kv cv:Value) (h:iP Q w m ps lv ev kv cv) (hok:lq m) (hr:m.right) (hl:m.enc.length≤60000):
 Calls Tryz.prog 17 #[m.ag lv ev kv cv] w (abo w (bC.jM m.enc)):=by
 have HR:=ah (fun W (f:aj ay w W)=>bZ hr▸xU Q m ps W lv ev kv cv (h.aO f) hok)
 obtain⟨l1,l2,l3,l4,l5⟩:=hr.lens
 obtain⟨n1,n2,n3,-⟩:=hr.nums
 have n0:=hr.kind
 have nl:=hr.len
 have nN:=ah hr.each
 have pz:=ah (h.each hok)
 obtain⟨kind,fr,tt,v0,v1,v2,v3,bs,es,ks,c⟩:=m
 have hps:=h.eq
 have hbs:=h.bs
 have hca:=h.dD
 have wL:=hok.st
 dsimp only at hps hca wL l1 l2 l3 l4 l5 n0 n1 n2 n3 nl nN
 have HTL:=ah (show kind=2→fG es ks c from fun hk=>hr.dD hk)
 clear h hok hr
 have HV:=ah (show AP v0 v1 v2 v3=iZ v0 v1 v2 v3 from if_pos (bZ n1))
 have zk:=ah (show bF.enc ⟨kind,fr,tt,v0,v1,v2,v3,bs,es,ks,c⟩=bD kind++bD fr++bD tt++iZ v0 v1 v2 v3++bD (bs.length:Int)++bs.flatMap dh.enc++(if kind=2 then jf es ks c else []) by unfold bF.enc bF.tail;simp only[List.append_assoc])
 have xQ:=ah (fun k=>abp bs k)
 have hbl:(bs.flatMap dh.enc).length≤60000:=by rw[zk.out]at hl;simp only[List.length_append]at hl;omega
 have rC:=ah hbl;clear hbl
 have HL:=ah hl;clear hl
 have i0:kF kind:=⟨by omega,by omega⟩
 have i1:kF fr:=⟨by omega,by omega⟩
 have i2:kF tt:=⟨by omega,by omega⟩
 have i3:kF (bs.length:Int):=⟨by omega,by omega⟩
 clear n0 n1 n2 n3
 have wM:=ah hca.tree.old
 have HXC:=ah (fun W (f:aj ay w W)=>hca.aO f)
 have oq:=ah (fun p hp=>And.intro (hbs.dD p hp).tree.old (fC.old (hbs.dD p hp).ctx))
 have qc:=ah (fun p hp=>(hbs.dD p hp).shape)
 have HX:=ah (fun hk=>SA (HTL.out hk))
 have Le:=ah wL;clear wL
 have hlen:ps.length=bs.length:=by rw[←hps,List.length_map]
 have hcell:∀k,k<ps.length→(ps.getD k aY.zero).b=bs.getD k dh.zero:=fun k hk=>by
  rw[←hps,List.getD_eq_getElem?_getD,List.getD_eq_getElem?_getD,List.getElem?_map,List.getElem?_eq_getElem hk];rfl
 have Lu:=ah hcell;clear hcell
 have hrd:=hbs.rd
 obtain⟨a0,c0,a1,c1,a2,c2,rfl,rfl,rfl⟩:=hca.shape
 obtain⟨al,cl,rfl⟩:=hbs.rd.sl
 clear hca hbs
 have r_:=ah hrd;clear hrd
 dsimp only[bF.ag]at HR⊢
 have aU:=ah (aj.alloc ay w (.cells #[.int .i64 kind, .int .i64 fr, .int .i64 tt, .int .i64 v0, .int .i64 v1, .int .i64 v2, .int .i64 v3, .slice al ps.length cl, .slice a0 es.length c0, .slice a1 ks.len c1, .slice a2 c.length c2] 36))
 have aQ:=ah (fun W f=>Aq w (.int .i64 kind) (.int .i64 fr) (.int .i64 tt) (.int .i64 v0) (.int .i64 v1) (.int .i64 v2) (.int .i64 v3) (.slice al ps.length cl) (.slice a0 es.length c0) (.slice a1 ks.len c1) (.slice a2 c.length c2) 36 W f)
 have xR:=ah hps;clear hps
 have kM:=ah hlen;clear hlen
 rw[←kM.out]at zk i3 l5 nl
 have HFX:=ah (fun k (hk:k<ps.length)=>(show(bs.take (k+1)).flatMap dh.enc=(bs.take k).flatMap dh.enc++(ps.getD k aY.zero).b.enc by
  rw[Lu.out k hk,take_succ dh.zero (by rw[←kM.out];exact hk),List.flatMap_append]
  simp))
 have HFE:=ah (show(bs.take ps.length).flatMap dh.enc=bs.flatMap dh.enc by rw[kM.out,List.take_length])
 have jD:=ah (fun k (hk:k<ps.length)=>(show(ps.getD k aY.zero).b.right from nN.out _ (by rw[Lu.out k hk];exact getD_mem dh.zero (by rw[←kM.out];exact hk))))
 clear nN Lu
 generalize hln:ps.length=ln at*
 have HLEN:=ah hln;clear hln
 clear kM xR
 go_enter Tryz.func17,Tryz.ntmps17
 go_wp2_with(first
  |(go_at_call 62;refine(HR.out _ aU.out).mono ?_;rintro e w1 ⟨rfl,hf1⟩
    obtain⟨x0,-,-,-,-,-,-,-,-,-,-⟩:=aQ.out w1 hf1
    have hlb:=World.block_lt_of_cell? _ _ x0
    have bH:=ah hf1
    have ji:=ah (fun W cs (hp:dH (w1.alloc (.cells #[.slice none 0 0] 127)) w1.heap.size (.slice none 0 0) [] cs W)=>aQ.out W (by
     obtain⟨_,_,_,f3⟩:=hp
     exact(hf1.au (aj.alloc _ _ _)).trans f3 fun i hi hs=>absurd (SQ hs) (by have h1:=hf1.size;omega)))
    have HOL:=ah (fun W cs (hp:dH (w1.alloc (.cells #[.slice none 0 0] 127)) w1.heap.size (.slice none 0 0) [] cs W)=>(show aj ay w W by
     obtain⟨_,_,_,f3⟩:=hp
     exact((aU.out.au hf1).au (aj.alloc _ _ _)).trans f3 fun i hi hs=>absurd (SQ hs) (by have h1:=hf1.size;have h2:=aU.out.size;omega)))
    have xR:=ah (dH.start (Xi w1))
    have LC:w.heap.size<w1.heap.size:=hlb
    have HWW:=ah LC
    clear hf1 LC)
  |(go_at_call 70;first
   |(have q9:=iy;clear q9 x7;refine(jW iy.out (ln:Int) i3 (by simp only[List.length_append,List.length_nil];omega)).mono ?_;rintro e w6 ⟨rfl,AQ⟩
     obtain⟨x0,-,-,-,-,-,-,x7,x8,x9,x10⟩:=ji.out _ _ AQ
     have hlb:=World.block_lt_of_cell? _ _ x0
     have jF:=ah AQ;clear AQ)
   |(have q9:=HP2;clear q9 x2;refine(jW HP2.out tt i2 (by simp only[List.length_append,List.length_nil];omega)).mono ?_;rintro e w4 ⟨rfl,kJ⟩
     obtain⟨-,-,-,x3,x4,x5,x6,-,-,-,-⟩:=ji.out _ _ kJ
     have lH:=ah kJ;clear kJ)
   |(have q9:=iC;clear q9 x1;refine(jW iC.out fr i1 (by simp only[List.length_append,List.length_nil];omega)).mono ?_;rintro e w3 ⟨rfl,hp3⟩
     obtain⟨-,-,x2,-,-,-,-,-,-,-,-⟩:=ji.out _ _ hp3
     have HP2:=ah hp3;clear hp3)
   |(clear x0 hlb;refine(jW xR.out kind i0 (by simp only[List.length_nil];omega)).mono ?_;rintro e w2 ⟨rfl,hp2⟩
     rw[List.nil_append]at hp2
     obtain⟨-,x1,-,-,-,-,-,-,-,-,-⟩:=ji.out _ _ hp2
     have iC:=ah hp2;clear hp2))
  |(go_at_call 71;clear x3 x4 x5 x6;refine(lH.out.call (ds:=iZ v0 v1 v2 v3) fun v' ho' _ _=>(SB _ w4 v' _ v0 v1 v2 v3 ho' (by simp only[List.length_append,List.length_nil];omega)).mono fun e w' h=>⟨h.1,by rw[HV.out]at h;exact h.2⟩).mono ?_;rintro e w5 ⟨rfl,fQ⟩
    obtain⟨-,-,-,-,-,-,-,x7,-,-,-⟩:=ji.out _ _ fQ
    have iy:=ah fQ;clear fQ))
 obtain⟨hd,hhd⟩:∃hd,hd=bD kind++bD fr++bD tt++iZ v0 v1 v2 v3++bD (ln:Int):=⟨_,rfl⟩
 have hdl:hd.length≤80:=by rw[hhd];simp only[List.length_append];omega
 have mJ:=ah hdl
 rw[←hhd]at jF zk
 have AX:=ah hhd;clear hhd
 clear iC HP2 lH iy hdl l1 l2 l3 l4 l5 i0 i1 i2 i3 xR
 clear x0 hlb x7 x8 x9 x10
 go_loopw [31] (fun i ww=>∃k:Nat,k≤ln∧i= .int .i64 k∧dH (w1.alloc (.cells #[.slice none 0 0] 127)) w1.heap.size (.slice none 0 0) [] (hd++(bs.take k).flatMap dh.enc) ww) (fun i _=>ln-(intOf i).toNat)
 case atStart=>exact⟨0,Nat.zero_le _,rfl,jF.out.cast (by simp)⟩
 case round=>
  clear jF
  obtain⟨k,hk,rfl,hp⟩:=hrel
  have wO:=ah hp;clear hp
  by_cases hlt:k<ln
  ·have hlk:k<ps.length:=by rw[HLEN.out];exact hlt
   have hrd:=r_.out.aO (HOL.out _ _ wO.out)
   rcases Rd.shape hrd with⟨ad,he,h0⟩|⟨b,off,cc,he,hmax⟩
   ·exfalso;omega
   ·injection he with e1 e2 e3
    subst e1 e3
    clear e2
    obtain⟨q0,q1,q2,q3,q4,q5,q6,q7,q8,q9⟩:=wF hrd k hlk
    clear hrd
    have hm:=getD_mem aY.zero hlk
    have hpk:=oq.out _ hm
    have hok:=pz.out _ hm
    have yG:=jD.out k hlt
    have hsh:=qc.out _ hm
    have hfx:=HFX.out k hlt
    clear hm
    obtain⟨p,hgd⟩:∃p,p=ps.getD k aY.zero:=⟨_,rfl⟩
    rw[←hgd]at q0 q1 q2 q3 q4 q5 q6 q7 q8 q9 hpk hok yG hsh hfx
    clear hgd
    obtain⟨⟨dc,af,la,u0,u1,u2,u3,es',ks',c'⟩,ev',kv',cv'⟩:=p
    dsimp only at q0 q1 q2 q3 q4 q5 q6 q7 q8 q9 hpk hok yG hsh hfx
    obtain⟨a3,c3,a4,c4,a5,c5,rfl,rfl,rfl⟩:=hsh
    have abw:=ah hfx;clear hfx
    obtain⟨v',ho',hfr,hfm⟩:=wO.out
    have hold:=HOL.out _ _ wO.out
    have hbp:=aa3 (fun b=>b<w.heap.size) ⟨dc,af,la,u0,u1,u2,u3,es',ks',c'⟩ yG hok (wr.alloc (.cells #[.int .i64 dc, .int .i64 af, .int .i64 la, .int .i64 u0, .int .i64 u1, .int .i64 u2, .int .i64 u3, .slice a3 es'.length c3, .slice a4 ks'.len c4, .slice a5 c'.length c5] 59)) _ _ _ (hpk.1.aO (hold.au (aj.alloc _ _ _))) (fC.keep hpk.2 (hold.au (aj.alloc _ _ _)) fun _ _ hs=>hs.elim) w1.heap.size v' _ (ho'.aO (aj.alloc _ _ _)) (fun b hb hQ=>by
     have LC:=HWW.out
     rcases hb with hb|hb
     ·omega
     ·rcases hfr b hb with hb|hb
      ·cases hb
      ·simp at hb;omega) (by have h1:=xQ.out k;have h2:=rC.out;have h3:=mJ.out;simp only[List.length_append,List.length_nil];omega)
    dsimp only at hbp
    have HBP:=ah hbp;clear hbp hpk hok yG ho' hold
    have lK:=ah hfr;clear hfr
    have zh:=ah hfm;clear hfm
    generalize es'.length=n' at*
    generalize ks'.len=m' at*
    generalize c'.length=k' at*
    go_wp2_with(go_at_call 72;refine HBP.out.mono ?_;rintro e w7 ⟨rfl,SS⟩;have HP7:=ah SS;clear SS)
    go_roundw
    case rel=>exact⟨k+1,by omega,by go_num,(dH.trans lK.out zh.out (HP7.out.base (aj.alloc _ _ _))).cast (by rw[abw.out];simp only[List.append_assoc])⟩
    case measure=>simp[intOf];omega
  ·obtain rfl:ln=k:=by omega
   rw[HFE.out]at wO
   obtain⟨x0,-,-,-,-,-,-,-,x8,x9,x10⟩:=ji.out _ _ wO.out
   have hlb:=World.block_lt_of_cell? _ _ x0
   have hlx:(hd++bs.flatMap dh.enc).length≤70000:=by have h2:=rC.out;have h3:=mJ.out;rw[List.length_append];omega
   have HLX:=ah hlx;clear hlx hlt hk
   by_cases hk2:kind=2
   rotate_left 1
   ·have c2':((kind:Int)==2)=false:=beq_false_of_ne hk2
    have uo:=ah (show bF.enc ⟨kind,fr,tt,v0,v1,v2,v3,bs,es,ks,c⟩=hd++bs.flatMap dh.enc by rw[zk.out,if_neg hk2,List.append_nil])
    clear hk2 x8 x9 x10
    go_wp2_with(first
     |(go_at_call 74;obtain⟨v8,zn,-,-⟩:=wO.out;rw[List.nil_append]at zn;refine(SN _ _ _ _ zn (by have:=HL.out;rw[uo.out]at this;exact this)).mono ?_;rintro e w9 ⟨a9,c9,t9,jP,rfl,DN⟩;have uq:=ah jP;clear jP;have Dz:=ah (HOL.out _ _ wO.out);have oO:=ah DN;clear DN zn)
     |(go_at_call 75;refine(SL _ _ _ oO.out.rd (by have:=HL.out;rw[uo.out]at this;rw[uq.out];exact this)).mono ?_;rintro e w10 ⟨a10,c10,t10,DR,rfl,cp10⟩;have LD:=ah DR;clear DR;have LG:=ah cp10;clear cp10))
    go_ret2
    exact⟨a10,c10,t10,by rw[LD.out,uq.out,uo.out],rfl,LG.out.weaken (Dz.out.au oO.out.aP)⟩
   subst hk2
   have uo:=ah (show bF.enc ⟨2,fr,tt,v0,v1,v2,v3,bs,es,ks,c⟩=hd++bs.flatMap dh.enc++jf es ks c by rw[zk.out,if_pos rfl])
   go_wp2_with(first
    |(go_at_call 73;refine(wO.out.call (ds:=jf es ks c) fun v' ho' _ _=>(Sz Q _ wr v' _ es ks c _ _ _ ho' (HXC.out _ (HOL.out _ _ wO.out)) Le.out (by have:=HLX.out;rw[List.nil_append];omega)).mono fun e w' h=>⟨h.1,by rw[HX.out rfl]at h;exact h.2⟩).mono ?_;rintro e w8 ⟨rfl,SX⟩;have SY:=ah SX;clear SX)
    |(go_at_call 74;obtain⟨v8,zn,-,-⟩:=SY.out;rw[List.nil_append]at zn;refine(SN _ _ _ _ zn (by have:=HL.out;rw[uo.out]at this;exact this)).mono ?_;rintro e w9 ⟨a9,c9,t9,jP,rfl,DN⟩;have uq:=ah jP;clear jP;have Dz:=ah (HOL.out _ _ SY.out);have oO:=ah DN;clear DN zn)
    |(go_at_call 75;refine(SL _ _ _ oO.out.rd (by have:=HL.out;rw[uo.out]at this;rw[uq.out];exact this)).mono ?_;rintro e w10 ⟨a10,c10,t10,DR,rfl,cp10⟩;have LD:=ah DR;clear DR;have LG:=ah cp10;clear cp10))
   go_ret2
   exact⟨a10,c10,t10,by rw[LD.out,uq.out,uo.out],rfl,LG.out.weaken (Dz.out.au oO.out.aP)⟩
end Go.Proofs.YtabkpccdnkjoiaaGreat
