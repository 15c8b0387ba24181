/- Words for the law MsgDecodes: MsgC4. -/
import Derived.Test.YtabkpccdnkjoiaaGreatMsgDecodesG0
import Derived.Test.YtabkpccdnkjoiaaGreatMsgDecodesG19
set_option linter.unusedSimpArgs false
set_option linter.unusedVariables false
set_option maxHeartbeats 32000000
set_option maxRecDepth 1000000
namespace Go.Proofs.YtabkpccdnkjoiaaGreat
open Go.RowKit
theorem ac6 {P SP:Prop} {hv:Bool} {ln n m k:Nat} {kind fr tt v0 v1 v2 v3:Int} {al a0 a1 a2:Option Addr} {cl c0 c1 c2:Nat} {w:World} (X:FK P SP hv ln n m k kind fr tt v0 v1 v2 v3 al a0 a1 a2 cl c0 c1 c2 w) (hk:k=0) (hn:n=0) (hm:m=0):
 Calls Tryz.prog 62 #[.agg #[.int .i64 kind, .int .i64 fr, .int .i64 tt, .int .i64 v0, .int .i64 v1, .int .i64 v2, .int .i64 v3, .slice al ln cl, .slice a0 n c0, .slice a1 m c1, .slice a2 k c2]] w fun e w'=>e= .returned (.bool (tf P))∧aj ay w w':=by
 have DK:=ah X.bh
 have HST:=ah X.st
 have fP:=ah X.fu
 have bH:=ah X.Jz
 have HC2:=ah X.JA
 have bF:=ah X.bx
 have HD:=ah X.hd
 have h3':((fr:Int)==tt)=false:=beq_false_of_ne X.ne
 clear X
 have bD:=ah (show aj ay w (w.alloc (.cells #[.int .i64 kind, .int .i64 fr, .int .i64 tt, .int .i64 v0, .int .i64 v1, .int .i64 v2, .int .i64 v3, .slice al ln cl, .slice a0 n c0, .slice a1 m c1, .slice a2 k c2] 36))from aj.alloc _ _ _)
 subst hk
 subst hn
 subst hm
 by_cases k1:kind=1
 ·subst k1
  by_cases l0:ln=0
  ·rw[bf (show ¬P from fun h=>by rcases HD.out.1 h with⟨-,-,q,-⟩|⟨q,-⟩|⟨q,-⟩<;>omega)]
   subst l0
   clear HD
   go_enter Tryz.func62,Tryz.ntmps62
   go_wp2_with(first
    |(go_at_call 124;refine(fP.out _).mono ?_;rintro e w1 ⟨hw1,av,nv,cv,he⟩;subst he;obtain⟨y0,y1,y2,y3,y4,y5,y6,y7,y8,y9,aY⟩:=bF.out w1 hw1;have HW1:=ah (bD.out.aC hw1);clear hw1)
    |(go_at_call 127;(first|refine(bH.out _).mono ?_|refine(HC2.out _).mono ?_);rintro e w9 ⟨rfl,rfl⟩))
   go_ret
   exact⟨rfl,HW1.out⟩
  by_cases l1:16<ln
  ·rw[bf (show ¬P from fun h=>by rcases HD.out.1 h with⟨-,-,-,q,-⟩|⟨q,-⟩|⟨q,-⟩<;>omega)]
   have bl:(1:Int)≤(ln:Int):=by omega
   have bl2:¬(ln:Int)≤16:=by omega
   clear HD
   go_enter Tryz.func62,Tryz.ntmps62
   go_wp2_with(first
    |(go_at_call 124;refine(fP.out _).mono ?_;rintro e w1 ⟨hw1,av,nv,cv,he⟩;subst he;obtain⟨y0,y1,y2,y3,y4,y5,y6,y7,y8,y9,aY⟩:=bF.out w1 hw1;have HW1:=ah (bD.out.aC hw1);clear hw1)
    |(go_at_call 127;(first|refine(bH.out _).mono ?_|refine(HC2.out _).mono ?_);rintro e w9 ⟨rfl,rfl⟩))
   go_ret
   exact⟨rfl,HW1.out⟩
  have hy:tf P= !hv:=by
   cases hv with
   |false=>exact dO (HD.out.2 (.inl ⟨rfl,⟨by omega,by omega,by omega⟩,by omega,by omega,rfl⟩))
   |true=>exact bf fun h=>by rcases HD.out.1 h with⟨-,-,-,-,q⟩|⟨q,-⟩|⟨q,-⟩<;>first|omega|cases q
  rw[hy]
  have bl:(1:Int)≤(ln:Int):=by omega
  have bl2:(ln:Int)≤16:=by omega
  clear HD hy
  go_enter Tryz.func62,Tryz.ntmps62
  go_wp2_with(first
   |(go_at_call 124;refine(fP.out _).mono ?_;rintro e w1 ⟨hw1,av,nv,cv,he⟩;subst he;obtain⟨y0,y1,y2,y3,y4,y5,y6,y7,y8,y9,aY⟩:=bF.out w1 hw1;have HW1:=ah (bD.out.aC hw1);clear hw1)
   |(go_at_call 127;(first|refine(bH.out _).mono ?_|refine(HC2.out _).mono ?_);rintro e w9 ⟨rfl,rfl⟩)
   |(go_at_call 128;refine(DK.out _ HW1.out).mono ?_;rintro e w2 ⟨rfl,hw2⟩;have HW2:=ah (HW1.out.aC hw2);clear hw2))
  go_ret
  exact⟨rfl,HW2.out⟩
 have c1':((kind:Int)==1)=false:=beq_false_of_ne k1
 by_cases k2:kind=2
 ·subst k2
  by_cases l0:ln=0
  rotate_left 1
  ·rw[bf (show ¬P from fun h=>by rcases HD.out.1 h with⟨q,-⟩|⟨-,q,-⟩|⟨q,-⟩<;>omega)]
   have bl:((ln:Int)==0)=false:=beq_false_of_ne (by omega)
   clear HD
   go_enter Tryz.func62,Tryz.ntmps62
   go_wp2_with(first
    |(go_at_call 124;refine(fP.out _).mono ?_;rintro e w1 ⟨hw1,av,nv,cv,he⟩;subst he;obtain⟨y0,y1,y2,y3,y4,y5,y6,y7,y8,y9,aY⟩:=bF.out w1 hw1;have HW1:=ah (bD.out.aC hw1);clear hw1)
    |(go_at_call 127;(first|refine(bH.out _).mono ?_|refine(HC2.out _).mono ?_);rintro e w9 ⟨rfl,rfl⟩))
   go_ret
   exact⟨rfl,HW1.out⟩
  have hy:tf P=tf SP:=qN ⟨fun h=>by
   rcases HD.out.1 h with⟨q,-⟩|⟨-,-,q⟩|⟨q,-⟩
   ·omega
   ·exact q
   ·omega,fun h=>HD.out.2 (.inr (.inl ⟨rfl,l0,h⟩))⟩
  rw[hy]
  subst l0
  clear HD hy
  go_enter Tryz.func62,Tryz.ntmps62
  go_wp2_with(first
   |(go_at_call 124;refine(fP.out _).mono ?_;rintro e w1 ⟨hw1,av,nv,cv,he⟩;subst he;obtain⟨y0,y1,y2,y3,y4,y5,y6,y7,y8,y9,aY⟩:=bF.out w1 hw1;have HW1:=ah (bD.out.aC hw1);clear hw1)
   |(go_at_call 127;(first|refine(bH.out _).mono ?_|refine(HC2.out _).mono ?_);rintro e w9 ⟨rfl,rfl⟩)
   |(go_at_call 130;refine(HST.out _ HW1.out).mono ?_;rintro e w2 ⟨rfl,hw2⟩;have HW2:=ah (HW1.out.aC hw2);clear hw2))
  go_ret
  exact⟨rfl,HW2.out⟩
 have c2':((kind:Int)==2)=false:=beq_false_of_ne k2
 by_cases k3:kind=3
 ·subst k3
  have hy:tf P=((ln:Int)==0):=by
   by_cases l0:ln=0
   ·rw[dO (HD.out.2 (.inr (.inr ⟨by omega,⟨by omega,by omega,by omega⟩,l0⟩))),l0];rfl
   ·rw[bf (show ¬P from fun h=>by rcases HD.out.1 h with⟨q,-⟩|⟨q,-⟩|⟨-,-,q⟩<;>omega)]
    exact(beq_false_of_ne (by omega)).symm
  rw[hy]
  clear HD hy
  go_enter Tryz.func62,Tryz.ntmps62
  go_wp2_with(first
   |(go_at_call 124;refine(fP.out _).mono ?_;rintro e w1 ⟨hw1,av,nv,cv,he⟩;subst he;obtain⟨y0,y1,y2,y3,y4,y5,y6,y7,y8,y9,aY⟩:=bF.out w1 hw1;have HW1:=ah (bD.out.aC hw1);clear hw1)
   |(go_at_call 127;(first|refine(bH.out _).mono ?_|refine(HC2.out _).mono ?_);rintro e w9 ⟨rfl,rfl⟩))
  go_ret
  exact⟨by first|rfl|simp,HW1.out⟩
 have c3':((kind:Int)==3)=false:=beq_false_of_ne k3
 by_cases k4:kind=4
 ·subst k4
  have hy:tf P=((ln:Int)==0):=by
   by_cases l0:ln=0
   ·rw[dO (HD.out.2 (.inr (.inr ⟨by omega,⟨by omega,by omega,by omega⟩,l0⟩))),l0];rfl
   ·rw[bf (show ¬P from fun h=>by rcases HD.out.1 h with⟨q,-⟩|⟨q,-⟩|⟨-,-,q⟩<;>omega)]
    exact(beq_false_of_ne (by omega)).symm
  rw[hy]
  clear HD hy
  go_enter Tryz.func62,Tryz.ntmps62
  go_wp2_with(first
   |(go_at_call 124;refine(fP.out _).mono ?_;rintro e w1 ⟨hw1,av,nv,cv,he⟩;subst he;obtain⟨y0,y1,y2,y3,y4,y5,y6,y7,y8,y9,aY⟩:=bF.out w1 hw1;have HW1:=ah (bD.out.aC hw1);clear hw1)
   |(go_at_call 127;(first|refine(bH.out _).mono ?_|refine(HC2.out _).mono ?_);rintro e w9 ⟨rfl,rfl⟩))
  go_ret
  exact⟨by first|rfl|simp,HW1.out⟩
 have JM:((kind:Int)==4)=false:=beq_false_of_ne k4
 rw[bf (show ¬P from fun h=>by rcases HD.out.1 h with⟨q,-⟩|⟨q,-⟩|⟨q,-⟩<;>omega)]
 clear HD
 go_enter Tryz.func62,Tryz.ntmps62
 go_wp2_with(first
  |(go_at_call 124;refine(fP.out _).mono ?_;rintro e w1 ⟨hw1,av,nv,cv,he⟩;subst he;obtain⟨y0,y1,y2,y3,y4,y5,y6,y7,y8,y9,aY⟩:=bF.out w1 hw1;have HW1:=ah (bD.out.aC hw1);clear hw1)
  |(go_at_call 127;(first|refine(bH.out _).mono ?_|refine(HC2.out _).mono ?_);rintro e w9 ⟨rfl,rfl⟩))
 go_ret
 exact⟨rfl,HW1.out⟩
end Go.Proofs.YtabkpccdnkjoiaaGreat
