/- Words for the law MsgDecodes: Frame1, Frame2, Frame3, Frame4, Frame5, MsgEnc. -/
import Derived.Test.YtabkpccdnkjoiaaGreatMsgDecodesG0
import Derived.Test.YtabkpccdnkjoiaaGreatMsgDecodesG1
import Derived.Test.YtabkpccdnkjoiaaGreatMsgDecodesG15
import Derived.Test.YtabkpccdnkjoiaaGreatMsgDecodesG19
import Derived.Test.YtabkpccdnkjoiaaGreatMsgDecodesG28
import Derived.Test.YtabkpccdnkjoiaaGreatMsgDecodesG31
import Derived.Test.YtabkpccdnkjoiaaGreatMsgDecodesG32
set_option linter.unusedSimpArgs false
set_option linter.unusedVariables false
set_option maxHeartbeats 32000000
set_option maxRecDepth 1000000
namespace Go.Proofs.YtabkpccdnkjoiaaGreat
open Go.RowKit
theorem Xc (w:World) (bs:List UInt8) (hl:bs.length≤1000):Copy w (.slice (some ⟨w.heap.size,0,none⟩) bs.length bs.length) bs (w.alloc (.cells (bV bs).toArray 5)):=by
 have hn:(bV bs).length=bs.length:=by simp[bV]
 refine⟨⟨by simp[hn], .inr ⟨w.heap.size,bs.length,_,rfl,Nat.zero_le _,heap_alloc_new w _,Nat.le_refl _,by simp only[maxLen];omega,by simp[hn],?_⟩⟩,fun k hk=>?_,aj.alloc _ _ _,_,_,rfl⟩
 ·rw[List.toList_toArray,Nat.mul_one]
  exact List.take_of_length_le (by rw[hn];exact Nat.le_refl _)
 ·simp[Value.ownBlock]at hk
  omega
theorem Xd (n:Nat):(bV (aT.four n)).toArray= #[.int .u8 ((n:Int)%256), .int .u8 ((n:Int)/256%256), .int .u8 ((n:Int)/65536%256), .int .u8 ((n:Int)/16777216%256)]:=by
 unfold bV aT.four
 simp only[List.map_cons,List.map_nil,UInt8.toNat_ofNat']
 rfl
theorem Xe (n:Nat) (hn:n<4294967296) (w:World):Calls Tryz.prog 139 #[.int .u32 n] w (WL w (aT.four n)):=by
 have h:=Xc w (aT.four n) (by rw[aT.zB];decide)
 go_enter Tryz.func139,Tryz.ntmps139
 go_wp2
 go_ret
 rw[Xd,show(n:Int)/16777216%256=n/16777216 by omega]at h
 exact⟨_,_,aT.four n,rfl,rfl,h⟩
theorem Xf (n:Nat) (hn:n<4294967296) (w:World):Calls Tryz.prog 225 #[.int .i64 n] w (WL w (aT.four n)):=by
 have h:=Xc w (aT.four n) (by rw[aT.zB];decide)
 go_enter Tryz.func225,Tryz.ntmps225
 go_wp2
 go_ret
 rw[Xd]at h
 exact⟨_,_,aT.four n,rfl,rfl,h⟩
theorem Px (x y i m:Nat) (hm:2^i=m) (hx:x<m) (hl:y*m+x<4294967296):bits BinOp.or IntKind.u32 (x:Int) ((y:Int)*(m:Int))=((y*m+x:Nat):Int):=by
 subst hm
 have h:=Nat.shiftLeft_add_eq_or_of_lt hx y
 rw[Nat.shiftLeft_eq]at h
 have e:(y:Int)*((2^i:Nat):Int)=((y*2^i:Nat):Int):=by rw[Int.natCast_mul]
 rw[e]
 generalize y*2^i=z at*
 show IntKind.u32.wrap ((BitVec.ofInt 32 (x:Int)|||BitVec.ofInt 32 (z:Int)).toNat:Int)=_
 rw[BitVec.ofInt_natCast,BitVec.ofInt_natCast,BitVec.toNat_or,BitVec.toNat_ofNat,BitVec.toNat_ofNat,Nat.mod_eq_of_lt (by show x<4294967296;omega),Nat.mod_eq_of_lt (by show z<4294967296;omega),Nat.or_comm,←h,IntKind.wrap_u32]
 omega
theorem Xg (l:List UInt8) (hl:4≤l.length) (b off c n:Nat) (w:World) (h:Rd w (.slice (some ⟨b,off,none⟩) n c) n (bV l)) (hnl:l.length=n):Calls Tryz.prog 172 #[.slice (some ⟨b,off,none⟩) n c] w fun e w'=>e= .returned (.int .u32 (aT.bM l))∧aj ay w w':=by
 have q0:=wV h 0 (by omega)
 have q1:=wV h 1 (by omega)
 have q2:=wV h 2 (by omega)
 have q3:=wV h 3 (by omega)
 rw[Nat.add_zero]at q0
 have h4:(4:Int)≤n:=by omega
 have A_:=ah (show aT.bM l=(l.getD 0 0).toNat+256*(l.getD 1 0).toNat+65536*(l.getD 2 0).toNat+16777216*(l.getD 3 0).toNat from rfl)
 have b0:=(l.getD 0 0).toNat_lt
 have b1:=(l.getD 1 0).toNat_lt
 have b2:=(l.getD 2 0).toNat_lt
 have b3:=(l.getD 3 0).toNat_lt
 generalize (l.getD 0 0).toNat=x0 at*
 generalize (l.getD 1 0).toNat=x1 at*
 generalize (l.getD 2 0).toNat=x2 at*
 generalize (l.getD 3 0).toNat=x3 at*
 have w0:IntKind.u32.wrap (x0:Int)=x0:=by rw[IntKind.wrap_u32];omega
 have w1:IntKind.u32.wrap (x1:Int)=x1:=by rw[IntKind.wrap_u32];omega
 have w2:IntKind.u32.wrap (x2:Int)=x2:=by rw[IntKind.wrap_u32];omega
 have w3:IntKind.u32.wrap (x3:Int)=x3:=by rw[IntKind.wrap_u32];omega
 clear h hnl hl
 go_enter Tryz.func172,Tryz.ntmps172
 go_wp2_with(fail)
 go_big_quiet (fail)
 go_wp2
 go_ret
 refine⟨?_,aj.drewN ay w _⟩
 have e1:=Px x0 x1 8 256 (by decide) (by omega) (by omega)
 have e2:=Px (x1*256+x0) x2 16 65536 (by decide) (by omega) (by omega)
 have e3:=Px (x2*65536+(x1*256+x0)) x3 24 16777216 (by decide) (by omega) (by omega)
 rw[A_.out]
 have e4:bits BinOp.or IntKind.u32 (bits BinOp.or IntKind.u32 (bits BinOp.or IntKind.u32 (x0:Int) ((x1:Int)*256)) ((x2:Int)*65536)) ((x3:Int)*16777216)=((x0+256*x1+65536*x2+16777216*x3:Nat):Int):=by
  refine((congrArg (fun z=>bits BinOp.or IntKind.u32 (bits BinOp.or IntKind.u32 z ((x2:Int)*65536)) ((x3:Int)*16777216)) e1).trans ((congrArg (fun z=>bits BinOp.or IntKind.u32 z ((x3:Int)*16777216)) e2).trans (e3.trans ?_)))
  omega
 rw[←e4]
 rfl
theorem Xh (l:List UInt8) (v:Value) (w:World) (h:Rd w v l.length (bV l)):Calls Tryz.prog 131 #[v] w fun e w'=>e= .returned (.int .i64 (if l.length<4 then-1 else(aT.bM l:Int)))∧aj ay w w':=by
 by_cases hl:l.length<4
 ·rw[if_pos hl]
  obtain⟨a0,c0,rfl⟩:∃a c,v= .slice a l.length c:=by
   rcases h with⟨ad,rfl,h2,h3⟩|⟨b,off,c,rfl,_⟩
   ·exact⟨ad,0,by rw[h2]⟩
   ·exact⟨_,_,rfl⟩
  clear h
  have h4:(l.length:Int)<4:=by omega
  generalize l.length=n at*
  go_enter Tryz.func131,Tryz.ntmps131
  go_wp2
  go_ret
  exact⟨rfl,aj.refl _ _⟩
 ·rw[if_neg hl]
  have h':=h
  rcases h with⟨ad,rfl,h2,h3⟩|⟨b,off,c,rfl,hm1,hm2,-⟩
  ·omega
  have q0:=wV h' 0 (by omega)
  have q1:=wV h' 1 (by omega)
  have q2:=wV h' 2 (by omega)
  have q3:=wV h' 3 (by omega)
  rw[Nat.add_zero]at q0
  have h4:¬(l.length:Int)<4:=by omega
  have A_:=ah (show aT.bM l=(l.getD 0 0).toNat+256*(l.getD 1 0).toNat+65536*(l.getD 2 0).toNat+16777216*(l.getD 3 0).toNat from rfl)
  have b0:=(l.getD 0 0).toNat_lt
  have b1:=(l.getD 1 0).toNat_lt
  have b2:=(l.getD 2 0).toNat_lt
  have b3:=(l.getD 3 0).toNat_lt
  generalize aT.bM l=nb at*
  generalize (l.getD 0 0).toNat=x0 at*
  generalize (l.getD 1 0).toNat=x1 at*
  generalize (l.getD 2 0).toNat=x2 at*
  generalize (l.getD 3 0).toNat=x3 at*
  clear h' hl hm1 hm2
  generalize l.length=n at*
  go_enter Tryz.func131,Tryz.ntmps131
  go_wp2_with(fail)
  go_big_quiet (fail)
  go_wp2
  go_ret
  refine⟨?_,aj.drewN ay w _⟩
  have e4:((nb:Nat):Int)=(x0:Int)+256*(x1:Int)+65536*(x2:Int)+16777216*(x3:Int):=by rw[A_.out];omega
  rw[e4]
  rfl
open Go.RowKit
theorem Gu {w:World} {v:Value} {n:Nat} {xs:List Value} (h:Rd w v n xs):∃a c,v= .slice a n c:=by
 rcases h with⟨ad,rfl,h2,h3⟩|⟨b,off,c,rfl,_⟩
 ·exact⟨ad,0,by rw[h2]⟩
 ·exact⟨_,_,rfl⟩
theorem vS {w w':World} {v:Value} {n:Nat} {xs:List Value} (h:Rd w v n xs) (f:aj ay w w'):Rd w' v n xs:=h.keep f fun _ _ h=>h
theorem ad9 (bs:List UInt8) (v:Value) (w:World) (h:Rd w v bs.length (bV bs)) (hl:bs.length≤60000):
 Calls Tryz.prog 75 #[v] w fun e w'=>∃a c,e= .returned (.tuple #[.slice a (aT.iK bs).length c, .int .i64 0])∧Copy w (.slice a (aT.iK bs).length c) (aT.iK bs) w':=by
 obtain⟨a0,c0,rfl⟩:=Gu h
 have HH:=ah (fun W (f:aj ay w W)=>vS h f);clear h
 have vH:=ah (aT.zB bs.length)
 have dI:=ah (show aT.iK bs=(aT.four bs.length++bs)++aT.four (aT.sum (aT.four bs.length++bs))from rfl)
 have h6:(bs.length:Int)≤60000:=by omega
 have HF:=ah (fun W=>Xe bs.length (by omega) W)
 have hcv:IntKind.u32.wrap (bs.length:Int)=(bs.length:Int):=by rw[IntKind.wrap_u32];omega
 generalize aT.four bs.length=hd at*
 generalize hn:bs.length=n at*
 have HN:=ah hn;clear hn
 go_enter Tryz.func75,Tryz.ntmps75
 go_wp2_with(first
  |(go_at_call 139;refine(HF.out _).mono ?_;rintro e w1 ⟨a1,c1,t1,ht1,rfl,uU⟩;have HT1:=ah ht1;clear ht1;have bH:=ah uU;clear uU)
  |(at_builtin;refine Gs w w1 rfl (.tmp 11) (.tmp 12) rfl _ t1 bH.out _ bs rfl rfl (by rw[HN.out];exact HH.out _ bH.out.aH) ?c1 ?_))
 case c1=>rw[HT1.out,vH.out,HN.out];omega
 intro a2 c2 w2 t2 HT2 hc2 _ _
 have HC2:=ah hc2;clear hc2
 have HL2:=ah (show t2.length≤70000 by rw[HT2.out,List.length_append,HT1.out,vH.out,HN.out];omega)
 have fU:=ah (Xb t2 _ w2 HC2.out.rd)
 have hsl:=aT.sum_lt t2
 have HS:=ah (fun W=>Xe (aT.sum t2) hsl W)
 generalize hsm:aT.sum t2=sm at*
 have pX:=ah hsm;clear hsm
 go_wp2_with(first
  |(go_at_call 140;refine fU.out.mono ?_;rintro e w3 ⟨rfl,rfl⟩)
  |(go_at_call 139;refine(HS.out _).mono ?_;rintro e w4 ⟨a4,c4,t4,Gv,rfl,cp4⟩;have HT4:=ah Gv;clear Gv;have iR:=ah (HC2.out.step cp4.aH);have BM:=ah cp4;clear cp4)
  |(at_builtin;refine Gs w w4 rfl (.tmp 14) (.tmp 17) rfl _ t2 iR.out _ t4 rfl rfl BM.out.rd ?c2 ?_))
 case c2=>have:=HL2.out;rw[HT4.out,aT.zB];omega
 intro a5 c5 w5 t5 Gt hc5 _ _
 have vJ:=ah hc5;clear hc5
 have HE:=ah (show t5=aT.iK bs by rw[Gt.out,dI.out,HT4.out,←pX.out,HT2.out,HT1.out])
 go_wp2
 go_ret2
 rw[←HE.out]
 exact⟨a5,c5,rfl,vJ.out⟩
theorem ad_ (bs:List UInt8) (v:Value) (w:World) (h:Rd w v bs.length (bV bs)) (hl:bs.length≤60000):
 Calls Tryz.prog 178 #[v] w fun e w'=>∃a c,e= .returned (.tuple #[.slice a (aT.iK bs).length c, .bool true])∧Copy w (.slice a (aT.iK bs).length c) (aT.iK bs) w':=by
 obtain⟨a0,c0,rfl⟩:=Gu h
 have HH:=ah (fun W (f:aj ay w W)=>vS h f);clear h
 have vH:=ah (aT.zB bs.length)
 have dI:=ah (show aT.iK bs=(aT.four bs.length++bs)++aT.four (aT.sum (aT.four bs.length++bs))from rfl)
 have h6:(bs.length:Int)≤60000:=by omega
 have HF:=ah (fun W=>Xf bs.length (by omega) W)
 generalize aT.four bs.length=hd at*
 generalize hn:bs.length=n at*
 have HN:=ah hn;clear hn
 go_enter Tryz.func178,Tryz.ntmps178
 go_wp2_with(first
  |(go_at_call 225;refine(HF.out _).mono ?_;rintro e w1 ⟨a1,c1,t1,ht1,rfl,uU⟩;have HT1:=ah ht1;clear ht1;have bH:=ah uU;clear uU)
  |(at_builtin;refine Gs w w1 rfl (.tmp 10) (.tmp 11) rfl _ t1 bH.out _ bs rfl rfl (by rw[HN.out];exact HH.out _ bH.out.aH) ?c1 ?_))
 case c1=>rw[HT1.out,vH.out,HN.out];omega
 intro a2 c2 w2 t2 HT2 hc2 _ _
 have HC2:=ah hc2;clear hc2
 have HL2:=ah (show t2.length≤70000 by rw[HT2.out,List.length_append,HT1.out,vH.out,HN.out];omega)
 have fU:=ah (ad7 t2 _ w2 HC2.out.rd)
 have hsl:=aT.sum_lt t2
 have HS:=ah (fun W=>Xf (aT.sum t2) hsl W)
 generalize hsm:aT.sum t2=sm at*
 have pX:=ah hsm;clear hsm
 go_wp2_with(first
  |(go_at_call 98;refine fU.out.mono ?_;rintro e w3 ⟨rfl,rfl⟩)
  |(go_at_call 225;refine(HS.out _).mono ?_;rintro e w4 ⟨a4,c4,t4,Gv,rfl,cp4⟩;have HT4:=ah Gv;clear Gv;have iR:=ah (HC2.out.step cp4.aH);have BM:=ah cp4;clear cp4)
  |(at_builtin;refine Gs w w4 rfl (.tmp 13) (.tmp 17) rfl _ t2 iR.out _ t4 rfl rfl BM.out.rd ?c2 ?_))
 case c2=>have:=HL2.out;rw[HT4.out,aT.zB];omega
 intro a5 c5 w5 t5 Gt hc5 _ _
 have vJ:=ah hc5;clear hc5
 have HE:=ah (show t5=aT.iK bs by rw[Gt.out,dI.out,HT4.out,←pX.out,HT2.out,HT1.out])
 go_wp2
 go_ret2
 rw[←HE.out]
 exact⟨a5,c5,rfl,vJ.out⟩
theorem Xi (l:List UInt8) (v:Value) (w:World) (h:Rd w v l.length (bV l)):
 Calls Tryz.prog 119 #[v] w fun e w'=>e= .returned (.tuple #[.int .i64 (if l.length<8 then 0 else(aT.bM l:Int)), .bool (if l.length<8 then false else(decide ((aT.bM l:Int)≤60000)&&decide ((aT.bM l:Int)≤(l.length:Int)-8)))])∧aj ay w w':=by
 by_cases hl:l.length<8
 ·rw[if_pos hl,if_pos hl]
  obtain⟨a0,c0,rfl⟩:=Gu h
  clear h
  have h4:(l.length:Int)<8:=by omega
  generalize l.length=n at*
  go_enter Tryz.func119,Tryz.ntmps119
  go_wp2
  go_ret2
  exact⟨rfl,aj.refl _ _⟩
 ·rw[if_neg hl,if_neg hl]
  have h':=h
  rcases h with⟨ad,rfl,h2,h3⟩|⟨b,off,c,rfl,hm1,hm2,-⟩
  ·omega
  have D_:=ah (Xg l (by omega) b off c l.length w h' rfl)
  have hnl:=aT.ab9 l
  have h4:¬(l.length:Int)<8:=by omega
  have hmx:(l.length:Int)≤9223372036854775807:=by simp only[maxLen]at hm2;omega
  have hwr:IntKind.i64.wrap ((l.length:Int)-8)=(l.length:Int)-8:=by rw[IntKind.wrap_i64];omega
  have hcv:IntKind.i64.wrap (aT.bM l:Int)=(aT.bM l:Int):=by rw[IntKind.wrap_i64];omega
  generalize aT.bM l=m at*
  clear h' hl hm1 hm2
  generalize l.length=n at*
  by_cases h6:m≤60000
  ·have h7:(m:Int)≤60000:=by omega
   by_cases h8:(m:Int)≤(n:Int)-8
   ·rw[decide_eq_true h7,decide_eq_true h8]
    go_enter Tryz.func119,Tryz.ntmps119
    go_wp2_with(go_at_call 172;refine D_.out.mono ?_;rintro e w1 ⟨rfl,hf1⟩;have bg:=ah hf1;clear hf1)
    go_ret2
    exact⟨by first|rfl|(simp;done)|(simp;omega),bg.out⟩
   ·rw[decide_eq_true h7,decide_eq_false h8]
    go_enter Tryz.func119,Tryz.ntmps119
    go_wp2_with(go_at_call 172;refine D_.out.mono ?_;rintro e w1 ⟨rfl,hf1⟩;have bg:=ah hf1;clear hf1)
    go_ret2
    exact⟨by first|rfl|(simp;done)|(simp;omega),bg.out⟩
  ·have h7:¬(m:Int)≤60000:=by omega
   rw[decide_eq_false h7]
   go_enter Tryz.func119,Tryz.ntmps119
   go_wp2_with(go_at_call 172;refine D_.out.mono ?_;rintro e w1 ⟨rfl,hf1⟩;have bg:=ah hf1;clear hf1)
   go_ret2
   exact⟨by first|rfl|(simp;done)|(simp;omega),bg.out⟩
open Go.RowKit
theorem JY {w:World} {b off n c:Nat} {l:List UInt8} (h:Rd w (.slice (some ⟨b,off,none⟩) n c) n (bV l)) (hn:l.length=n) (i k c':Nat) (hik:i+k≤n) (hc:k≤c') (hm:c'≤maxLen):Rd w (.slice (some ⟨b,off+i,none⟩) k c') k (bV ((l.drop i).take k)):=by
 have hlen:((l.drop i).take k).length=k:=by rw[List.length_take,List.length_drop];omega
 refine .inr ⟨b,off+i,c',rfl,hc,hm,fun j u hu=>?_⟩
 rcases h with⟨ad,h1,h2,h3⟩|⟨b',off',c'',h1,h2,h3,h4⟩
 ·have:l=[]:=by simpa[bV]using h3
  subst this
  simp[bV]at hu
 ·injection h1 with e1 e2 e3
  injection e1 with e1
  injection e1 with e1 e4
  subst e1 e4
  have hj:j<k:=by
   have:=(List.getElem?_eq_some_iff.1 hu).1
   rw[bV,List.length_map,hlen]at this
   exact this
  have:=h4 (i+j) u (by
   rw[←hu,bV,bV,List.getElem?_map,List.getElem?_map,List.getElem?_take_of_lt hj,List.getElem?_drop])
  rwa [←Nat.add_assoc]at this
def JZ (w:World) (ok:Bool) (mid:List UInt8) (e:Ending) (w':World):Prop:=
 match ok with
 |true=>∃a c',e= .returned (.tuple #[.slice a mid.length c', .bool true])∧Copy w (.slice a mid.length c') mid w'
 |false=>e= .returned (.tuple #[.slice none 0 0, .bool false])∧aj ay w w'
theorem aea (l:List UInt8) (b off c n m:Nat) (w:World) (h:Rd w (.slice (some ⟨b,off,none⟩) n c) n (bV l)) (hn:l.length=n) (hcn:n≤c) (hcm:c≤maxLen) (hm:aT.bM l=m) (h6:m≤60000) (hmn:m+8=n):
 Calls Tryz.prog 120 #[.slice (some ⟨b,off,none⟩) n c] w (JZ w (decide (aT.sum (l.take (4+m))=aT.bM (l.drop (4+m)))) ((l.drop 4).take m)):=by
 have HL:=ah (Xi l (.slice (some ⟨b,off,none⟩) n c) w (by rw[hn];exact h))
 have Xj:(m:Int)≤60000:=by omega
 have hm8:(m:Int)≤(n:Int)-8:=by omega
 rw[hn,hm,if_neg (by omega),if_neg (by omega),decide_eq_true Xj,decide_eq_true hm8]at HL
 have hmx:(c:Int)≤9223372036854775807:=by simp only[maxLen]at hcm;omega
 obtain⟨K,hK⟩:∃K,K=4+m:=⟨_,rfl⟩
 have iQ:=ah (fun W (f:aj ay w W)=>vS (JY h hn 0 K c (by omega) (by omega) hcm) f)
 have HP2:=ah (fun W (f:aj ay w W)=>vS (JY h hn K (n-K) (c-K) (by omega) (by omega) (by omega)) f)
 have nN:=ah (fun W (f:aj ay w W)=>vS (JY h hn 4 m (c-4) (by omega) (by omega) (by omega)) f)
 have e1:(l.drop 0).take K=l.take K:=rfl
 have e2:(l.drop K).take (n-K)=l.drop K:=List.take_of_length_le (by rw[List.length_drop];omega)
 rw[e1]at iQ
 rw[e2]at HP2
 have hl2:(l.drop K).length=n-K:=by rw[List.length_drop];omega
 have hl1:(l.take K).length=K:=by rw[List.length_take];omega
 have hl3:((l.drop 4).take m).length=m:=by rw[List.length_take,List.length_drop];omega
 have fU:=ah (fun W (f:aj ay w W)=>Calls.mono (Xb (l.take K) (.slice (some ⟨b,off+0,none⟩) K c) W (by rw[hl1];exact iQ.out W f)) fun e w' h=>(⟨h.1,h.2▸aj.refl _ _⟩:e= .returned (.int .u32 (aT.sum (l.take K)))∧aj ay W w'))
 have D_:=ah (fun W (f:aj ay w W)=>Xg (l.drop K) (by omega) b (off+K) (c-K) (n-K) W (HP2.out W f) hl2)
 have qo:=ah (fun W (f:aj ay w W)=>clone_any W (.slice (some ⟨b,off+4,none⟩) (K-4) (c-4)) ((l.drop 4).take m) (by rw[hl3,←show m=K-4 by omega];exact nN.out W f) (by omega))
 rw[Nat.add_zero]at fU
 have hc4:¬c=4:=by omega
 rw[←hK]
 generalize (l.drop 4).take m=mid at*
 have lU:=ah hl3;clear hl3
 generalize aT.sum (l.take K)=sm at*
 generalize aT.bM (l.drop K)=nb at*
 have hwk:IntKind.i64.wrap (4+(m:Int))=(K:Int):=by rw[IntKind.wrap_i64];omega
 have hk1:(K:Int)≤(c:Int):=by omega
 have hk2:(K:Int)≤(n:Int):=by omega
 have hk3:¬c=K:=by omega
 have hk4:(4:Int)≤(K:Int):=by omega
 have wu:=ah hK
 have hnc:(n:Int)≤(c:Int):=by omega
 clear h e1 e2 hl2 hl1 iQ HP2 nN hK hm hn hmn hcm hcn h6
 cases hq:decide (sm=nb)with
 |true=>
  obtain rfl:sm=nb:=of_decide_eq_true hq
  clear hq
  unfold JZ
  dsimp only
  go_enter Tryz.func120,Tryz.ntmps120
  go_wp2_with(go_at_call 119;refine HL.out.mono ?_;rintro e w1 ⟨rfl,hf1⟩;have bg:=ah hf1;clear hf1)
  obtain⟨α,hne,KK,hK1,hK0,hK2⟩:=worlds w1
  refine dX KK (by kernel_rfl) (by kernel_rfl) hK0 ?_
  repeat(go_big_quiet_step ((first|(go_at_call 140;exact Calls.bY hK2 (fU.out _ (bg.out.aC (hK1 _))))|(go_at_call 172;exact Calls.bY hK2 (D_.out _ (bg.out.aC (hK1 _)))))))
  refine wpQuiet_nil ?_
  intro w' hw'
  obtain⟨s1,rfl⟩:=hw'
  have HF2:=ah (bg.out.aC (hK1 s1))
  clear hK0 hK2 hK1
  generalize KK s1=w2 at*
  go_wp2_with(go_at_call 121;refine(qo.out _ HF2.out).mono ?_;rintro e w3 ⟨v3,rfl,cp3⟩;obtain⟨a3,c3,rfl⟩:=cp3.shape;have mP:=ah cp3;clear cp3)
  go_ret2
  exact⟨a3,c3,rfl,mP.out.weaken HF2.out⟩
 |false=>
  have he:¬sm=nb:=of_decide_eq_false hq
  have hb:((sm:Int) !=(nb:Int))=true:=by simp[bne];omega
  clear hq he
  unfold JZ
  dsimp only
  go_enter Tryz.func120,Tryz.ntmps120
  go_wp2_with(go_at_call 119;refine HL.out.mono ?_;rintro e w1 ⟨rfl,hf1⟩;have bg:=ah hf1;clear hf1)
  obtain⟨α,hne,KK,hK1,hK0,hK2⟩:=worlds w1
  refine dX KK (by kernel_rfl) (by kernel_rfl) hK0 ?_
  repeat(go_big_quiet_step ((first|(go_at_call 140;exact Calls.bY hK2 (fU.out _ (bg.out.aC (hK1 _))))|(go_at_call 172;exact Calls.bY hK2 (D_.out _ (bg.out.aC (hK1 _)))))))
  refine wpQuiet_nil ?_
  intro w' hw'
  obtain⟨s1,rfl⟩:=hw'
  have HF2:=ah (bg.out.aC (hK1 s1))
  clear hK0 hK2 hK1
  generalize KK s1=w2 at*
  go_wp2
  go_ret2
  exact⟨rfl,HF2.out⟩
open Go.RowKit
def zN (w:World) (k:Int) (bs:List UInt8) (e:Ending) (w':World):Prop:=
 if k=0 then ∃a c,e= .returned (.tuple #[.slice a bs.length c, .int .i64 0])∧Copy w (.slice a bs.length c) bs w' else e= .returned (.tuple #[.slice none 0 0, .int .i64 k])∧aj ay w w'
theorem Xk {l:List UInt8} (h:l.length<8∨60000<aT.bM l∨aT.bM l+8≠l.length):aT.gX l=2:=if_pos h
theorem Xl {l:List UInt8} (h:¬(l.length<8∨60000<aT.bM l∨aT.bM l+8≠l.length)):aT.gX l=if aT.sum (l.take (4+aT.bM l))=aT.bM (l.drop (4+aT.bM l))then 0 else 11:=if_neg h
theorem Xm (l:List UInt8) (v:Value) (w:World) (h:Rd w v l.length (bV l)):
 Calls Tryz.prog 54 #[v] w (zN w (aT.gX l) (aT.jI l)):=by
 have HL:=ah (Xi l v w h)
 unfold zN
 by_cases h2:l.length<8∨60000<aT.bM l∨aT.bM l+8≠l.length
 ·rw[Xk h2]
  simp only[if_neg (show ¬(2:Int)=0 by decide)]
  by_cases h8:l.length<8
  ·rw[if_pos h8,if_pos h8]at HL
   obtain⟨a0,c0,rfl⟩:=Gu h
   clear h h2 h8
   generalize l.length=n at*
   go_enter Tryz.func54,Tryz.ntmps54
   go_wp2_with(go_at_call 119;refine HL.out.mono ?_;rintro e w1 ⟨rfl,hf1⟩;have bg:=ah hf1;clear hf1)
   go_ret2
   exact⟨rfl,bg.out⟩
  ·rw[if_neg h8,if_neg h8]at HL
   have h':=h
   rcases h with⟨ad,rfl,hz,h3⟩|⟨b,off,c,rfl,hm1,hm2,-⟩
   ·omega
   have hmx:(l.length:Int)≤9223372036854775807:=by simp only[maxLen]at hm2;omega
   by_cases hok:(aT.bM l:Int)≤60000∧(aT.bM l:Int)≤(l.length:Int)-8
   ·rw[decide_eq_true hok.1,decide_eq_true hok.2]at HL
    have hne:((aT.bM l:Int) !=(l.length:Int)-8)=true:=by
     have:¬(aT.bM l:Int)=(l.length:Int)-8:=by omega
     simp[bne,this]
    have h8':(8:Int)≤l.length:=by omega
    clear h' h2 h8 hok hm1 hm2
    generalize aT.bM l=m at*
    generalize l.length=n at*
    go_enter Tryz.func54,Tryz.ntmps54
    go_wp2_with(go_at_call 119;refine HL.out.mono ?_;rintro e w1 ⟨rfl,hf1⟩;have bg:=ah hf1;clear hf1)
    go_ret2
    exact⟨rfl,bg.out⟩
   ·have hb:(decide ((aT.bM l:Int)≤60000)&&decide ((aT.bM l:Int)≤(l.length:Int)-8))=false:=by
     by_cases q:(aT.bM l:Int)≤60000
     ·rw[decide_eq_false (p:=(aT.bM l:Int)≤(l.length:Int)-8) (fun q2=>hok ⟨q,q2⟩),Bool.and_false]
     ·rw[decide_eq_false q,Bool.false_and]
    rw[hb]at HL
    clear h' h2 h8 hok hm1 hm2 hb
    generalize aT.bM l=m at*
    generalize l.length=n at*
    go_enter Tryz.func54,Tryz.ntmps54
    go_wp2_with(go_at_call 119;refine HL.out.mono ?_;rintro e w1 ⟨rfl,hf1⟩;have bg:=ah hf1;clear hf1)
    go_ret2
    exact⟨rfl,bg.out⟩
 ·rw[if_neg (by omega),if_neg (by omega),decide_eq_true (by omega:(aT.bM l:Int)≤60000),decide_eq_true (by omega:(aT.bM l:Int)≤(l.length:Int)-8)]at HL
  have h':=h
  rcases h with⟨ad,rfl,hz,h3⟩|⟨b,off,c,rfl,hm1,hm2,-⟩
  ·omega
  have hmx:(l.length:Int)≤9223372036854775807:=by simp only[maxLen]at hm2;omega
  have rZ:=ah (fun W (f:aj ay w W)=>aea l b off c l.length (aT.bM l) W (vS h' f) rfl hm1 hm2 rfl (by omega) (by omega))
  have hne:((aT.bM l:Int) !=(l.length:Int)-8)=false:=by
   have:(aT.bM l:Int)=(l.length:Int)-8:=by omega
   simp[bne,this]
  have h8':(8:Int)≤l.length:=by omega
  have oH:=ah (show aT.gX l=0→aT.jI l=(l.drop 4).take (aT.bM l)from fun h=>if_pos h)
  have yw:=ah (Xl h2)
  unfold JZ at rZ
  cases hq:decide (aT.sum (l.take (4+aT.bM l))=aT.bM (l.drop (4+aT.bM l)))with
  |true=>
   have h0:aT.gX l=0:=by rw[yw.out,if_pos (of_decide_eq_true hq)]
   rw[hq]at rZ
   rw[h0,oH.out h0]
   simp only[if_pos (show(0:Int)=0 from rfl)]
   dsimp only at rZ
   clear h' h2 hm1 hm2 hq h0 oH yw
   generalize (l.drop 4).take (aT.bM l)=mid at*
   generalize aT.bM l=m at*
   generalize l.length=n at*
   go_enter Tryz.func54,Tryz.ntmps54
   go_wp2_with(first
    |(go_at_call 119;refine HL.out.mono ?_;rintro e w1 ⟨rfl,hf1⟩;have bg:=ah hf1;clear hf1)
    |(go_at_call 120;refine(rZ.out _ bg.out).mono ?_;rintro e w2 ⟨a2,c2,rfl,cp2⟩;have HC2:=ah cp2;clear cp2))
   go_ret2
   exact⟨a2,c2,rfl,HC2.out.weaken bg.out⟩
  |false=>
   have h0:aT.gX l=11:=by rw[yw.out,if_neg (of_decide_eq_false hq)]
   rw[hq]at rZ
   rw[h0]
   simp only[if_neg (show ¬(11:Int)=0 by decide)]
   dsimp only at rZ
   clear h' h2 hm1 hm2 hq h0 oH yw
   generalize aT.bM l=m at*
   generalize l.length=n at*
   go_enter Tryz.func54,Tryz.ntmps54
   go_wp2_with(first
    |(go_at_call 119;refine HL.out.mono ?_;rintro e w1 ⟨rfl,hf1⟩;have bg:=ah hf1;clear hf1)
    |(go_at_call 120;refine(rZ.out _ bg.out).mono ?_;rintro e w2 ⟨rfl,hf2⟩;have HF2:=ah (bg.out.aC hf2);clear hf2))
   go_ret2
   exact⟨rfl,HF2.out⟩
theorem aec {l:List UInt8} (h:¬(l.length<8∨60000<aT.bM l∨aT.bM l+8≠l.length)):aT.iK ((l.drop 4).take (aT.bM l))=l↔aT.sum (l.take (4+aT.bM l))=aT.bM (l.drop (4+aT.bM l)):=by
 have hlen:((l.drop 4).take (aT.bM l)).length=aT.bM l:=by rw[List.length_take,List.length_drop];omega
 have h4:aT.four ((l.drop 4).take (aT.bM l)).length=l.take 4:=by
  rw[hlen,←aT.Vb (by omega)]
  exact aT.JB (by rw[List.length_take];omega)
 have h5:aT.four ((l.drop 4).take (aT.bM l)).length++(l.drop 4).take (aT.bM l)=l.take (4+aT.bM l):=by rw[h4,List.take_add]
 unfold aT.iK
 rw[h5]
 constructor
 ·intro e
  have e2:l.take (4+aT.bM l)++aT.four (aT.sum (l.take (4+aT.bM l)))=l.take (4+aT.bM l)++l.drop (4+aT.bM l):=by rw[List.take_append_drop];exact e
  have e3:=List.append_cancel_left e2
  have e4:=aT.Oa (aT.sum_lt (l.take (4+aT.bM l))) []
  rw[List.append_nil,e3]at e4
  exact e4.symm
 ·intro e
  rw[e,aT.JB (by rw[List.length_drop];omega),List.take_append_drop]
open Go.RowKit
theorem aed (w0 w:World) (f:aj ay w0 w):Copy w0 (.slice (some ⟨w.heap.size,0,none⟩) ([]:List UInt8).length 0) [] (w.alloc (.cells #[] 5)):=
 ⟨SG w,fun k hk=>(by simp[Value.ownBlock]at hk;have:=f.size;omega),f.trans (aj.alloc ay w _) fun _ _ h=>h,_,_,rfl⟩
theorem aee (l:List UInt8) (b off c n m:Nat) (w:World) (h:Rd w (.slice (some ⟨b,off,none⟩) n c) n (bV l)) (hn:l.length=n) (hcn:n≤c) (hcm:c≤maxLen) (hm:aT.bM l=m) (h6:m≤60000) (hmn:m+8=n) (ok:Bool) (hok:decide (aT.iK ((l.drop 4).take m)=l)=ok):
 Calls Tryz.prog 132 #[.slice (some ⟨b,off,none⟩) n c] w fun e w'=>∃a c',e= .returned (.tuple #[.slice a ((l.drop 4).take m).length c', .bool ok])∧Copy w (.slice a ((l.drop 4).take m).length c') ((l.drop 4).take m) w':=by
 have HT:=ah (Xh l (.slice (some ⟨b,off,none⟩) n c) w (by rw[hn];exact h))
 rw[if_neg (by omega),hm]at HT
 have hmx:(c:Int)≤9223372036854775807:=by simp only[maxLen]at hcm;omega
 obtain⟨K,hK⟩:∃K,K=4+m:=⟨_,rfl⟩
 have iQ:=ah (fun W (f:aj ay w W)=>vS (JY h hn 4 (K-4) (c-4) (by omega) (by omega) (by omega)) f)
 have HP2:=ah (fun W (f:aj ay w W)=>vS h f)
 have hl3:((l.drop 4).take m).length=m:=by rw[List.length_take,List.length_drop];omega
 have e1:(l.drop 4).take (K-4)=(l.drop 4).take m:=by rw[show K-4=m by omega]
 rw[e1]at iQ
 have wu:=ah (show K-4=((l.drop 4).take m).length by rw[hl3];omega)
 have Xn:=ah (show((l.drop 4).take m).length≤60000 by rw[hl3];exact h6)
 have HN:=ah hn
 have hm0:(0:Int)≤m:=by omega
 have Xj:(m:Int)≤60000:=by omega
 have afB:(m:Int)≤(n:Int)-8:=by omega
 have hwn:IntKind.i64.wrap (8+(m:Int))=(n:Int):=by rw[IntKind.wrap_i64];omega
 have hwk:IntKind.i64.wrap (4+(m:Int))=(K:Int):=by rw[IntKind.wrap_i64];omega
 have hk1:(K:Int)≤(c:Int):=by omega
 have hk4:(4:Int)≤(K:Int):=by omega
 have hk3:¬c=4:=by omega
 have hnc:(n:Int)≤(c:Int):=by omega
 generalize (l.drop 4).take m=mid at*
 clear h e1 hl3 hK hm hn hmn hcm hcn h6
 go_enter Tryz.func132,Tryz.ntmps132
 go_wp2_with(first
  |(go_at_call 131;refine HT.out.mono ?_;rintro e w1 ⟨rfl,hf1⟩;have bg:=ah hf1;clear hf1)
  |(at_builtin;refine Gs w _ rfl (.tmp 23) (.tmp 27) rfl _ [] (aed w w1 bg.out) _ mid rfl rfl (by rw[←wu.out];exact iQ.out _ (bg.out.aC (aj.alloc ay _ _))) ?c1 ?_))
 case c1=>have:=Xn.out;simp only[List.length_nil];omega
 intro a2 c2 w2 t2 HT2 hc2 _ _
 obtain rfl:t2=mid:=HT2.out
 have HC2:=ah hc2;clear hc2 HT2
 have mO:=ah (ad_ t2 _ w2 HC2.out.rd Xn.out)
 go_wp2_with(go_at_call 178;refine mO.out.mono ?_;rintro e w3 ⟨a3,c3,rfl,cp3⟩;have cv1:=fun nq=>kQ (vS cp3.rd (aj.drewN ay w3 nq));have Zi:=fun nq=>kQ (show Rd (w3.drewN nq) (.slice (some ⟨b,off,none⟩) n c) l.length (bV l) by rw[HN.out];exact vS (HP2.out _ (HC2.out.step cp3.aH).aH) (aj.drewN ay w3 nq));have mP:=ah (HC2.out.step cp3.aH);clear cp3)
 cases ok with
 |true=>
  have hfr:aT.iK t2=l:=of_decide_eq_true hok
  rw[show(⟨(aT.iK t2).toArray⟩:ByteArray)=⟨l.toArray⟩ by rw[hfr]]at cv1
  clear hok hfr
  generalize (aT.iK t2).length=lf at*
  go_big_quiet (fail)
  go_wp2
  go_ret2
  exact⟨a2,c2,rfl,mP.out.step (aj.drewN ay _ _)⟩
 |false=>
  have hfr:aT.iK t2≠l:=of_decide_eq_false hok
  have HBE:=ah (show(aT.iK t2==l)=false by simpa using hfr)
  clear hok hfr
  go_big_quiet (fail)
  go_wp2
  go_ret2
  exact⟨a2,c2,by rw[HBE.out];rfl,mP.out.step (aj.drewN ay _ _)⟩
theorem Xo (l:List UInt8) (v:Value) (w:World) (h:Rd w v l.length (bV l)):
 Calls Tryz.prog 63 #[v] w (zN w (aT.gX l) (aT.jI l)):=by
 have HT:=ah (Xh l v w h)
 unfold zN
 by_cases h2:l.length<8∨60000<aT.bM l∨aT.bM l+8≠l.length
 ·rw[Xk h2]
  simp only[if_neg (show ¬(2:Int)=0 by decide)]
  have hmx:(l.length:Int)≤9223372036854775807:=by
   rcases h with⟨ad,rfl,hz,h3⟩|⟨b,off,c,rfl,hm1,hm2,-⟩
   ·omega
   ·simp only[maxLen]at hm2;omega
  obtain⟨a0,c0,rfl⟩:=Gu h
  clear h
  by_cases h4:l.length<4
  ·rw[if_pos h4]at HT
   clear h2 h4
   generalize l.length=n at*
   go_enter Tryz.func63,Tryz.ntmps63
   go_wp2_with(go_at_call 131;refine HT.out.mono ?_;rintro e w1 ⟨rfl,hf1⟩;have bg:=ah hf1;clear hf1)
   go_ret2
   exact⟨rfl,bg.out⟩
  ·rw[if_neg h4]at HT
   have hm0:(0:Int)≤(aT.bM l:Int):=by omega
   by_cases h6:aT.bM l≤60000
   ·have Xp:(aT.bM l:Int)≤60000:=by omega
    have hne:((aT.bM l:Int) !=(l.length:Int)-8)=true:=by
     have:¬(aT.bM l:Int)=(l.length:Int)-8:=by omega
     simp[bne,this]
    clear h2 h4 h6
    generalize aT.bM l=m at*
    generalize l.length=n at*
    go_enter Tryz.func63,Tryz.ntmps63
    go_wp2_with(go_at_call 131;refine HT.out.mono ?_;rintro e w1 ⟨rfl,hf1⟩;have bg:=ah hf1;clear hf1)
    go_ret2
    exact⟨rfl,bg.out⟩
   ·have Xp:¬(aT.bM l:Int)≤60000:=by omega
    clear h2 h4 h6
    generalize aT.bM l=m at*
    generalize l.length=n at*
    go_enter Tryz.func63,Tryz.ntmps63
    go_wp2_with(go_at_call 131;refine HT.out.mono ?_;rintro e w1 ⟨rfl,hf1⟩;have bg:=ah hf1;clear hf1)
    go_ret2
    exact⟨rfl,bg.out⟩
 ·rw[if_neg (by omega)]at HT
  have h':=h
  rcases h with⟨ad,rfl,hz,h3⟩|⟨b,off,c,rfl,hm1,hm2,-⟩
  ·omega
  have hmx:(l.length:Int)≤9223372036854775807:=by simp only[maxLen]at hm2;omega
  have rZ:=ah (fun W (f:aj ay w W) ok hok=>aee l b off c l.length (aT.bM l) W (vS h' f) rfl hm1 hm2 rfl (by omega) (by omega) ok hok)
  have hne:((aT.bM l:Int) !=(l.length:Int)-8)=false:=by
   have:(aT.bM l:Int)=(l.length:Int)-8:=by omega
   simp[bne,this]
  have hm0:(0:Int)≤(aT.bM l:Int):=by omega
  have Xp:(aT.bM l:Int)≤60000:=by omega
  have oH:=ah (show aT.gX l=0→aT.jI l=(l.drop 4).take (aT.bM l)from fun h=>if_pos h)
  have yw:=ah (Xl h2)
  have J_:=ah (aec h2)
  by_cases hq:aT.iK ((l.drop 4).take (aT.bM l))=l
  ·have h0:aT.gX l=0:=by rw[yw.out,if_pos (J_.out.1 hq)]
   have HF:=ah (fun W f=>rZ.out W f true (decide_eq_true hq))
   rw[h0,oH.out h0]
   simp only[if_pos (show(0:Int)=0 from rfl)]
   clear h' h2 hm1 hm2 hq h0 oH yw J_ rZ
   generalize (l.drop 4).take (aT.bM l)=mid at*
   generalize aT.bM l=m at*
   generalize l.length=n at*
   go_enter Tryz.func63,Tryz.ntmps63
   go_wp2_with(first
    |(go_at_call 131;refine HT.out.mono ?_;rintro e w1 ⟨rfl,hf1⟩;have bg:=ah hf1;clear hf1)
    |(go_at_call 132;refine(HF.out _ bg.out).mono ?_;rintro e w2 ⟨a2,c2,rfl,cp2⟩;have HC2:=ah cp2;clear cp2))
   go_ret2
   exact⟨a2,c2,rfl,HC2.out.weaken bg.out⟩
  ·have h0:aT.gX l=11:=by rw[yw.out,if_neg fun e=>hq (J_.out.2 e)]
   have HF:=ah (fun W f=>rZ.out W f false (decide_eq_false hq))
   rw[h0]
   simp only[if_neg (show ¬(11:Int)=0 by decide)]
   clear h' h2 hm1 hm2 hq h0 oH yw J_ rZ
   generalize (l.drop 4).take (aT.bM l)=mid at*
   generalize aT.bM l=m at*
   generalize l.length=n at*
   go_enter Tryz.func63,Tryz.ntmps63
   go_wp2_with(first
    |(go_at_call 131;refine HT.out.mono ?_;rintro e w1 ⟨rfl,hf1⟩;have bg:=ah hf1;clear hf1)
    |(go_at_call 132;refine(HF.out _ bg.out).mono ?_;rintro e w2 ⟨a2,c2,rfl,cp2⟩;have HC2:=ah cp2;clear cp2))
   go_ret2
   exact⟨rfl,bg.out.aC HC2.out.aH⟩
open Go.RowKit
theorem lC.old {Q:Nat→Prop} {w:World}:∀ {ks:aS} {os:List (Value×Value)},lC Q w ks os→lC (fun b=>b<w.heap.size) w ks os
 | .nil,_,h=>h
 | .cons _ _ _ _,_,⟨ev,kv,uH,os,h1,h2,h3,h4,h5⟩=>⟨ev,kv,uH,os,h1,eH.old h2.rd,eH.old h3.rd,lC.old h4,lC.old h5⟩
theorem dh.old {Q:Nat→Prop} {w:World} {ev kv:Value} {es:List aQ} {ks:aS} (h:dh Q w ev kv es ks):dh (fun b=>b<w.heap.size) w ev kv es ks:=by
 obtain⟨h1,os,h2,h3⟩:=h
 exact⟨eH.old h1.rd,os,eH.old h2.rd,lC.old h3⟩
theorem mZ.each {Q:Nat→Prop} {w:World} {m:bW} {ps:List aZ} {lv ev kv cv:Value} (h:mZ Q w m ps lv ev kv cv) (hok:kZ m):∀p∈ps,jd p.b.es p.b.ks p.b.c:=fun p hp=>hok.each p.b (h.eq▸List.mem_map.2 ⟨p,hp,rfl⟩)
theorem Gw (Q:Nat→Prop) (m:bW) (ps:List aZ) (w:World) (lv ev kv cv:Value) (h:mZ Q w m ps lv ev kv cv) (hok:kZ m):
 Calls Tryz.prog 62 #[m.ag lv ev kv cv] w fun e w'=>e= .returned (.bool (tf m.right))∧aj ay w w':=by
 have hr:=ac8 Q ps m.es m.ks m.c w m.kind m.fr m.tt m.v0 m.v1 m.v2 m.v3 lv ev kv cv h.bs (h.each hok) (by rw[h.len];have:=hok.len;omega) h.eX hok.st
 have e:tf (DI m.kind m.fr m.tt m.v0 m.v1 m.v2 m.v3 ps m.es m.ks m.c)=tf m.right:=qN (by rw[ace,h.eq])
 rwa [e]at hr
def aeh (w:World) (x:List UInt8) (e:Ending) (w':World):Prop:=∃a c t,t=x∧e= .returned (.tuple #[.slice a t.length c, .int .i64 0])∧Copy w (.slice a t.length c) t w'
theorem aei (l:List dL) (k:Nat):((l.take k).flatMap dL.enc).length≤(l.flatMap dL.enc).length:=by
 have:(l.flatMap dL.enc).length=((l.take k).flatMap dL.enc++(l.drop k).flatMap dL.enc).length:=by rw[←List.flatMap_append,List.take_append_drop]
 rw[this,List.length_append]
 omega
theorem Xq (bs:List UInt8) (v:Value) (w:World) (h:Rd w v bs.length (bV bs)) (hl:bs.length≤60000):Calls Tryz.prog 75 #[v] w fun e w'=>∃a c t,t=aT.iK bs∧e= .returned (.tuple #[.slice a t.length c, .int .i64 0])∧Copy w (.slice a t.length c) t w':=
 (ad9 bs v w h hl).mono fun e w' ⟨a,c,h1,h2⟩=>⟨a,c,_,rfl,h1,h2⟩
theorem Xr (ob:Nat) (w:World) (v:Value) (bs:List UInt8) (h:jv w ob v bs) (hl:bs.length≤60000):Calls Tryz.prog 74 #[.pointer (some ⟨ob,0,none⟩)] w fun e w'=>∃a c t,t=bs∧e= .returned (.tuple #[.slice a t.length c, .int .i64 0])∧Copy w (.slice a t.length c) t w':=
 (aaF ob w v bs h hl).mono fun e w' ⟨v',he,cp⟩=>by
   obtain⟨a,c,rfl⟩:=cp.shape
   exact⟨a,c,bs,rfl,he,cp⟩
theorem Xt {ob b:Nat} (h:iT ob (.slice none 0 0) b):b=ob:=by
 rcases h with h|h
 ·exact h
 ·cases h
theorem Xu (Q:Nat→Prop) (m:bW) (ps:List aZ) (w:World) (lv ev kv cv:Value) (h:mZ Q w m ps lv ev kv cv) (hok:kZ m) (hr:m.right) (hl:m.enc.length≤60000):
 Calls Tryz.prog 17 #[m.ag lv ev kv cv] w (aeh w (aT.iK m.enc)):=by
 have HR:=ah (fun W (f:aj ay w W)=>dO hr▸Gw Q m ps W lv ev kv cv (h.aJ f) hok)
 obtain⟨l1,l2,l3,l4,l5⟩:=hr.lens
 obtain⟨n1,n2,n3,-⟩:=hr.nums
 have n0:=hr.kind
 have nl:=hr.len
 have Cm:=ah hr.each
 have oH:=ah (h.each hok)
 obtain⟨kind,fr,tt,v0,v1,v2,v3,bs,es,ks,c⟩:=m
 have hps:=h.eq
 have hbs:=h.bs
 have hca:=h.eX
 have yx:=hok.st
 dsimp only at hps hca yx l1 l2 l3 l4 l5 n0 n1 n2 n3 nl Cm
 have HTL:=ah (show kind=2→jM es ks c from fun hk=>hr.eX hk)
 clear h hok hr
 have HV:=ah (show DY v0 v1 v2 v3=jH v0 v1 v2 v3 from if_pos (dO n1))
 have BQ:=ah (show bW.enc ⟨kind,fr,tt,v0,v1,v2,v3,bs,es,ks,c⟩=bG kind++bG fr++bG tt++jH v0 v1 v2 v3++bG (bs.length:Int)++bs.flatMap dL.enc++(if kind=2 then kC es ks c else []) by unfold bW.enc bW.tail;simp only[List.append_assoc])
 have vH:=ah (fun k=>aei bs k)
 have hbl:(bs.flatMap dL.enc).length≤60000:=by rw[BQ.out]at hl;simp only[List.length_append]at hl;omega
 have uo:=ah hbl;clear hbl
 have HL:=ah hl;clear hl
 have i0:lY kind:=⟨by omega,by omega⟩
 have i1:lY fr:=⟨by omega,by omega⟩
 have i2:lY tt:=⟨by omega,by omega⟩
 have i3:lY (bs.length:Int):=⟨by omega,by omega⟩
 clear n0 n1 n2 n3
 have Xv:=ah hca.tree.old
 have zO:=ah (fun W (f:aj ay w W)=>hca.aJ f)
 have qR:=ah (fun p hp=>And.intro (hbs.eX p hp).tree.old (eH.old (hbs.eX p hp).ctx))
 have wM:=ah (fun p hp=>(hbs.eX p hp).shape)
 have HX:=ah (fun hk=>WX (HTL.out hk))
 have Pv:=ah yx;clear yx
 have hlen:ps.length=bs.length:=by rw[←hps,List.length_map]
 have hcell:∀k,k<ps.length→(ps.getD k aZ.zero).b=bs.getD k dL.zero:=fun k hk=>by
  rw[←hps,List.getD_eq_getElem?_getD,List.getD_eq_getElem?_getD,List.getElem?_map,List.getElem?_eq_getElem hk];rfl
 have Py:=ah hcell;clear hcell
 have hrd:=hbs.rd
 obtain⟨a0,c0,a1,c1,a2,c2,rfl,rfl,rfl⟩:=hca.shape
 obtain⟨al,cl,rfl⟩:=hbs.rd.sl
 clear hca hbs
 have sJ:=ah hrd;clear hrd
 dsimp only[bW.ag]at HR⊢
 have bD:=ah (aj.alloc ay w (.cells #[.int .i64 kind, .int .i64 fr, .int .i64 tt, .int .i64 v0, .int .i64 v1, .int .i64 v2, .int .i64 v3, .slice al ps.length cl, .slice a0 es.length c0, .slice a1 ks.len c1, .slice a2 c.length c2] 36))
 have bF:=ah (fun W f=>yc w (.int .i64 kind) (.int .i64 fr) (.int .i64 tt) (.int .i64 v0) (.int .i64 v1) (.int .i64 v2) (.int .i64 v3) (.slice al ps.length cl) (.slice a0 es.length c0) (.slice a1 ks.len c1) (.slice a2 c.length c2) 36 W f)
 have zJ:=ah hps;clear hps
 have mM:=ah hlen;clear hlen
 rw[←mM.out]at BQ i3 l5 nl
 have HFX:=ah (fun k (hk:k<ps.length)=>(show(bs.take (k+1)).flatMap dL.enc=(bs.take k).flatMap dL.enc++(ps.getD k aZ.zero).b.enc by
  rw[Py.out k hk,take_succ dL.zero (by rw[←mM.out];exact hk),List.flatMap_append]
  simp))
 have HFE:=ah (show(bs.take ps.length).flatMap dL.enc=bs.flatMap dL.enc by rw[mM.out,List.take_length])
 have tC:=ah (fun k (hk:k<ps.length)=>(show(ps.getD k aZ.zero).b.right from Cm.out _ (by rw[Py.out k hk];exact getD_mem dL.zero (by rw[←mM.out];exact hk))))
 clear Cm Py
 generalize hln:ps.length=ln at*
 have HLEN:=ah hln;clear hln
 clear mM zJ
 go_enter Tryz.func17,Tryz.ntmps17
 go_wp2_with(first
  |(go_at_call 62;refine(HR.out _ bD.out).mono ?_;rintro e w1 ⟨rfl,hf1⟩
    obtain⟨x0,-,-,-,-,-,-,-,-,-,-⟩:=bF.out w1 hf1
    have hlb:=World.block_lt_of_cell? _ _ x0
    have bg:=ah hf1
    have jP:=ah (fun W cs (hp:dY (w1.alloc (.cells #[.slice none 0 0] 127)) w1.heap.size (.slice none 0 0) [] cs W)=>bF.out W (by
     obtain⟨_,_,_,f3⟩:=hp
     exact(hf1.aC (aj.alloc _ _ _)).trans f3 fun i hi hs=>absurd (Xt hs) (by have h1:=hf1.size;omega)))
    have HOL:=ah (fun W cs (hp:dY (w1.alloc (.cells #[.slice none 0 0] 127)) w1.heap.size (.slice none 0 0) [] cs W)=>(show aj ay w W by
     obtain⟨_,_,_,f3⟩:=hp
     exact((bD.out.aC hf1).aC (aj.alloc _ _ _)).trans f3 fun i hi hs=>absurd (Xt hs) (by have h1:=hf1.size;have h2:=bD.out.size;omega)))
    have zJ:=ah (dY.start (aaJ w1))
    have Pz:w.heap.size<w1.heap.size:=hlb
    have HWW:=ah Pz
    clear hf1 Pz)
  |(go_at_call 70;first
   |(have q9:=iR;clear q9 x7;refine(lg iR.out (ln:Int) i3 (by simp only[List.length_append,List.length_nil];omega)).mono ?_;rintro e w6 ⟨rfl,DZ⟩
     obtain⟨x0,-,-,-,-,-,-,x7,x8,x9,x10⟩:=jP.out _ _ DZ
     have hlb:=World.block_lt_of_cell? _ _ x0
     have kJ:=ah DZ;clear DZ)
   |(have q9:=HP2;clear q9 x2;refine(lg HP2.out tt i2 (by simp only[List.length_append,List.length_nil];omega)).mono ?_;rintro e w4 ⟨rfl,mF⟩
     obtain⟨-,-,-,x3,x4,x5,x6,-,-,-,-⟩:=jP.out _ _ mF
     have nN:=ah mF;clear mF)
   |(have q9:=iQ;clear q9 x1;refine(lg iQ.out fr i1 (by simp only[List.length_append,List.length_nil];omega)).mono ?_;rintro e w3 ⟨rfl,hp3⟩
     obtain⟨-,-,x2,-,-,-,-,-,-,-,-⟩:=jP.out _ _ hp3
     have HP2:=ah hp3;clear hp3)
   |(clear x0 hlb;refine(lg zJ.out kind i0 (by simp only[List.length_nil];omega)).mono ?_;rintro e w2 ⟨rfl,hp2⟩
     rw[List.nil_append]at hp2
     obtain⟨-,x1,-,-,-,-,-,-,-,-,-⟩:=jP.out _ _ hp2
     have iQ:=ah hp2;clear hp2))
  |(go_at_call 71;clear x3 x4 x5 x6;refine(nN.out.call (ds:=jH v0 v1 v2 v3) fun v' ho' _ _=>(WY _ w4 v' _ v0 v1 v2 v3 ho' (by simp only[List.length_append,List.length_nil];omega)).mono fun e w' h=>⟨h.1,by rw[HV.out]at h;exact h.2⟩).mono ?_;rintro e w5 ⟨rfl,gY⟩
    obtain⟨-,-,-,-,-,-,-,x7,-,-,-⟩:=jP.out _ _ gY
    have iR:=ah gY;clear gY))
 obtain⟨hd,hhd⟩:∃hd,hd=bG kind++bG fr++bG tt++jH v0 v1 v2 v3++bG (ln:Int):=⟨_,rfl⟩
 have hdl:hd.length≤80:=by rw[hhd];simp only[List.length_append];omega
 have oK:=ah hdl
 rw[←hhd]at kJ BQ
 have uV:=ah hhd;clear hhd
 clear iQ HP2 nN iR hdl l1 l2 l3 l4 l5 i0 i1 i2 i3 zJ
 clear x0 hlb x7 x8 x9 x10
 go_loopw [31] (fun i ww=>∃k:Nat,k≤ln∧i= .int .i64 k∧dY (w1.alloc (.cells #[.slice none 0 0] 127)) w1.heap.size (.slice none 0 0) [] (hd++(bs.take k).flatMap dL.enc) ww) (fun i _=>ln-(intOf i).toNat)
 case atStart=>exact⟨0,Nat.zero_le _,rfl,kJ.out.cast (by simp)⟩
 case round=>
  clear kJ
  obtain⟨k,hk,rfl,hp⟩:=hrel
  have yA:=ah hp;clear hp
  by_cases hlt:k<ln
  ·have hlk:k<ps.length:=by rw[HLEN.out];exact hlt
   have hrd:=sJ.out.aJ (HOL.out _ _ yA.out)
   rcases Rd.shape hrd with⟨ad,he,h0⟩|⟨b,off,cc,he,hmax⟩
   ·exfalso;omega
   ·injection he with e1 e2 e3
    subst e1 e3
    clear e2
    obtain⟨q0,q1,q2,q3,q4,q5,q6,q7,q8,q9⟩:=Dz hrd k hlk
    clear hrd
    have hm:=getD_mem aZ.zero hlk
    have hpk:=qR.out _ hm
    have hok:=oH.out _ hm
    have AX:=tC.out k hlt
    have hsh:=wM.out _ hm
    have hfx:=HFX.out k hlt
    clear hm
    obtain⟨p,hgd⟩:∃p,p=ps.getD k aZ.zero:=⟨_,rfl⟩
    rw[←hgd]at q0 q1 q2 q3 q4 q5 q6 q7 q8 q9 hpk hok AX hsh hfx
    clear hgd
    obtain⟨⟨dc,af,la,u0,u1,u2,u3,es',ks',c'⟩,ev',kv',cv'⟩:=p
    dsimp only at q0 q1 q2 q3 q4 q5 q6 q7 q8 q9 hpk hok AX hsh hfx
    obtain⟨a3,c3,a4,c4,a5,c5,rfl,rfl,rfl⟩:=hsh
    have aen:=ah hfx;clear hfx
    obtain⟨v',ho',hfr,hfm⟩:=yA.out
    have hold:=HOL.out _ _ yA.out
    have hbp:=adO (fun b=>b<w.heap.size) ⟨dc,af,la,u0,u1,u2,u3,es',ks',c'⟩ AX hok (wr.alloc (.cells #[.int .i64 dc, .int .i64 af, .int .i64 la, .int .i64 u0, .int .i64 u1, .int .i64 u2, .int .i64 u3, .slice a3 es'.length c3, .slice a4 ks'.len c4, .slice a5 c'.length c5] 59)) _ _ _ (hpk.1.aJ (hold.aC (aj.alloc _ _ _))) (eH.keep hpk.2 (hold.aC (aj.alloc _ _ _)) fun _ _ hs=>hs.elim) w1.heap.size v' _ (ho'.aJ (aj.alloc _ _ _)) (fun b hb hQ=>by
     have Pz:=HWW.out
     rcases hb with hb|hb
     ·omega
     ·rcases hfr b hb with hb|hb
      ·cases hb
      ·simp at hb;omega) (by have h1:=vH.out k;have h2:=uo.out;have h3:=oK.out;simp only[List.length_append,List.length_nil];omega)
    dsimp only at hbp
    have HBP:=ah hbp;clear hbp hpk hok AX ho' hold
    have mO:=ah hfr;clear hfr
    have pK:=ah hfm;clear hfm
    generalize es'.length=n' at*
    generalize ks'.len=m' at*
    generalize c'.length=k' at*
    go_wp2_with(go_at_call 72;refine HBP.out.mono ?_;rintro e w7 ⟨rfl,Xw⟩;have HP7:=ah Xw;clear Xw)
    go_roundw
    case rel=>exact⟨k+1,by omega,by go_num,(dY.trans mO.out pK.out (HP7.out.base (aj.alloc _ _ _))).cast (by rw[aen.out];simp only[List.append_assoc])⟩
    case measure=>simp[intOf];omega
  ·obtain rfl:ln=k:=by omega
   rw[HFE.out]at yA
   obtain⟨x0,-,-,-,-,-,-,-,x8,x9,x10⟩:=jP.out _ _ yA.out
   have hlb:=World.block_lt_of_cell? _ _ x0
   have hlx:(hd++bs.flatMap dL.enc).length≤70000:=by have h2:=uo.out;have h3:=oK.out;rw[List.length_append];omega
   have HLX:=ah hlx;clear hlx hlt hk
   by_cases hk2:kind=2
   rotate_left 1
   ·have c2':((kind:Int)==2)=false:=beq_false_of_ne hk2
    have vP:=ah (show bW.enc ⟨kind,fr,tt,v0,v1,v2,v3,bs,es,ks,c⟩=hd++bs.flatMap dL.enc by rw[BQ.out,if_neg hk2,List.append_nil])
    clear hk2 x8 x9 x10
    go_wp2_with(first
     |(go_at_call 74;obtain⟨v8,BR,-,-⟩:=yA.out;rw[List.nil_append]at BR;refine(Xr _ _ _ _ BR (by have:=HL.out;rw[vP.out]at this;exact this)).mono ?_;rintro e w9 ⟨a9,c9,t9,iW,rfl,Gx⟩;have nC:=ah iW;clear iW;have FY:=ah (HOL.out _ _ yA.out);have nD:=ah Gx;clear Gx BR)
     |(go_at_call 75;refine(Xq _ _ _ nD.out.rd (by have:=HL.out;rw[vP.out]at this;rw[nC.out];exact this)).mono ?_;rintro e w10 ⟨a10,c10,t10,Gy,rfl,cp10⟩;have PD:=ah Gy;clear Gy;have PE:=ah cp10;clear cp10))
    go_ret2
    exact⟨a10,c10,t10,by rw[PD.out,nC.out,vP.out],rfl,PE.out.weaken (FY.out.aC nD.out.aH)⟩
   subst hk2
   have vP:=ah (show bW.enc ⟨2,fr,tt,v0,v1,v2,v3,bs,es,ks,c⟩=hd++bs.flatMap dL.enc++kC es ks c by rw[BQ.out,if_pos rfl])
   go_wp2_with(first
    |(go_at_call 73;refine(yA.out.call (ds:=kC es ks c) fun v' ho' _ _=>(WW Q _ wr v' _ es ks c _ _ _ ho' (zO.out _ (HOL.out _ _ yA.out)) Pv.out (by have:=HLX.out;rw[List.nil_append];omega)).mono fun e w' h=>⟨h.1,by rw[HX.out rfl]at h;exact h.2⟩).mono ?_;rintro e w8 ⟨rfl,Xx⟩;have Xy:=ah Xx;clear Xx)
    |(go_at_call 74;obtain⟨v8,BR,-,-⟩:=Xy.out;rw[List.nil_append]at BR;refine(Xr _ _ _ _ BR (by have:=HL.out;rw[vP.out]at this;exact this)).mono ?_;rintro e w9 ⟨a9,c9,t9,iW,rfl,Gx⟩;have nC:=ah iW;clear iW;have FY:=ah (HOL.out _ _ Xy.out);have nD:=ah Gx;clear Gx BR)
    |(go_at_call 75;refine(Xq _ _ _ nD.out.rd (by have:=HL.out;rw[vP.out]at this;rw[nC.out];exact this)).mono ?_;rintro e w10 ⟨a10,c10,t10,Gy,rfl,cp10⟩;have PD:=ah Gy;clear Gy;have PE:=ah cp10;clear cp10))
   go_ret2
   exact⟨a10,c10,t10,by rw[PD.out,nC.out,vP.out],rfl,PE.out.weaken (FY.out.aC nD.out.aH)⟩
end Go.Proofs.YtabkpccdnkjoiaaGreat
