/- Words for the law MsgSame: R25b, R25c, R25, HeldThree. -/
import Derived.Test.YtabkpccdnkjoiaaGreatMsgSameG0
import Derived.Test.YtabkpccdnkjoiaaGreatMsgSameG17
import Derived.Test.YtabkpccdnkjoiaaGreatMsgSameG23
import Derived.Test.YtabkpccdnkjoiaaGreatMsgSameG36
set_option linter.unusedSimpArgs false
set_option linter.unusedVariables false
set_option maxHeartbeats 32000000
set_option maxRecDepth 1000000
namespace Go.Proofs.YtabkpccdnkjoiaaGreat
open Go.RowKit
theorem acd {P PB S9 SV:Prop} {ps:List aY} {ln n m k:Nat} {kind fr tt v0 v1 v2 v3 f0 f1 f2 f3:Int} {al a0 a1 a2:Option Addr} {cl c0 c1 c2:Nat} {w:World} (X:KT P PB S9 SV ps ln n m k kind fr tt v0 v1 v2 v3 f0 f1 f2 f3 al a0 a1 a2 cl c0 c1 c2 w) (k2:kind=2):
 Calls Tryz.prog 19 #[.agg #[.int .i64 kind, .int .i64 fr, .int .i64 tt, .int .i64 v0, .int .i64 v1, .int .i64 v2, .int .i64 v3, .slice al ln cl, .slice a0 n c0, .slice a1 m c1, .slice a2 k c2]] w fun e w'=>e= .returned (.bool (tf P))∧aj ay w w':=by
 have mW:=ah X.may
 have AY:=ah X.Ro
 have GK:=ah X.vec
 have Mc:=ah X.sv
 have jO:=ah X.same
 have TG:=ah X.Rq
 have TI:=ah X.Rt
 have r_:=ah X.rd
 have HLEN:=ah X.len
 have aQ:=ah X.bx
 have HD:=ah X.hd
 have f1':=X.f1
 have f2':=X.f2
 have t1':=X.t1
 have t2':=X.t2
 have h3':((fr:Int)==tt)=false:=beq_false_of_ne X.ne
 clear X
 have aU:=ah (show aj ay w (w.alloc (.cells #[.int .i64 kind, .int .i64 fr, .int .i64 tt, .int .i64 v0, .int .i64 v1, .int .i64 v2, .int .i64 v3, .slice al ln cl, .slice a0 n c0, .slice a1 m c1, .slice a2 k c2] 42))from aj.alloc _ _ _)
 subst k2
 by_cases l0:ln=0
 rotate_left 1
 ·rw[aZ (show ¬P from fun h=>by rcases HD.out.1 h with⟨q,-⟩|⟨-,q,-⟩|⟨q,-⟩<;>omega)]
  have bl:((ln:Int)==0)=false:=beq_false_of_ne (by omega)
  clear HD l0
  go_enter Tryz.func19,Tryz.ntmps19
  go_wp2_with(go_at_call 76;refine(mW.out _).mono ?_;rintro e w1 ⟨rfl,hw1⟩;obtain⟨y0,y1,y2,y3,y4,y5,y6,y7,y8,y9,aT⟩:=aQ.out w1 hw1;have hlb:=World.block_lt_of_cell? _ _ y0;have HW1:=ah hw1;clear hw1)
  obtain⟨α,hne,K,hK1,hK0,hK2⟩:=worlds w1
  have fV:=ah (fun s=>aU.out.au (HW1.out.au (hK1 s)))
  have kb:=fun s=>aQ.out (K s) (HW1.out.au (hK1 s))
  have k3:=fun s=>(kb s).2.2.2.1
  have k4:=fun s=>(kb s).2.2.2.2.1
  have k5:=fun s=>(kb s).2.2.2.2.2.1
  have k6:=fun s=>(kb s).2.2.2.2.2.2.1
  have k7:=fun s=>(kb s).2.2.2.2.2.2.2.1
  have k8:=fun s=>(kb s).2.2.2.2.2.2.2.2.1
  have k9:=fun s=>(kb s).2.2.2.2.2.2.2.2.2.1
  have k10:=fun s=>(kb s).2.2.2.2.2.2.2.2.2.2
  clear kb hK1 y0 y1 y2 y3 y4 y5 y6 y7 y8 y9 aT hlb
  refine dG K (by kernel_rfl) (by kernel_rfl) hK0 ?_
  repeat(go_big_quiet_step (fail))
  refine wpQuiet_nil ?_
  intro w' hw'
  obtain⟨s,rfl⟩:=hw'
  go_wp2
  go_ret
  exact⟨rfl,fV.out s⟩
 by_cases h9:S9
 rotate_left 1
 ·rw[aZ (show ¬P from fun h=>by rcases HD.out.1 h with⟨q,-⟩|⟨-,-,q,-⟩|⟨q,-⟩<;>first|omega|exact h9 q)]
  rw[aZ h9]at AY
  subst l0
  clear HD h9
  go_enter Tryz.func19,Tryz.ntmps19
  go_wp2_with(go_at_call 76;refine(mW.out _).mono ?_;rintro e w1 ⟨rfl,hw1⟩;obtain⟨y0,y1,y2,y3,y4,y5,y6,y7,y8,y9,aT⟩:=aQ.out w1 hw1;have hlb:=World.block_lt_of_cell? _ _ y0;have HW1:=ah hw1;clear hw1)
  obtain⟨α,hne,K,hK1,hK0,hK2⟩:=worlds w1
  have fV:=ah (fun s=>aU.out.au (HW1.out.au (hK1 s)))
  have kb:=fun s=>aQ.out (K s) (HW1.out.au (hK1 s))
  have k3:=fun s=>(kb s).2.2.2.1
  have k4:=fun s=>(kb s).2.2.2.2.1
  have k5:=fun s=>(kb s).2.2.2.2.2.1
  have k6:=fun s=>(kb s).2.2.2.2.2.2.1
  have k7:=fun s=>(kb s).2.2.2.2.2.2.2.1
  have k8:=fun s=>(kb s).2.2.2.2.2.2.2.2.1
  have k9:=fun s=>(kb s).2.2.2.2.2.2.2.2.2.1
  have k10:=fun s=>(kb s).2.2.2.2.2.2.2.2.2.2
  clear kb hK1 y0 y1 y2 y3 y4 y5 y6 y7 y8 y9 aT hlb
  refine dG K (by kernel_rfl) (by kernel_rfl) hK0 ?_
  repeat(go_big_quiet_step ((first|(go_at_call 77;exact Calls.bK hK2 (AY.out _ (fV.out _))))))
  refine wpQuiet_nil ?_
  intro w' hw'
  obtain⟨s,rfl⟩:=hw'
  go_wp2
  go_ret
  exact⟨rfl,fV.out s⟩
 rw[bZ h9]at AY
 have AZ:=ah (GK.out h9)
 have uY:=Dc f0 f1 f2 f3 v0 v1 v2 v3
 by_cases hv:f0=v0∧f1=v1∧f2=v2∧f3=v3
 rotate_left 1
 ·rw[aZ (show ¬P from fun h=>by rcases HD.out.1 h with⟨q,-⟩|⟨-,-,-,q⟩|⟨q,-⟩<;>first|omega|exact hv (Mc.out.1 q))]
  rw[show((f0==v0)&&((f1==v1)&&((f2==v2)&&(f3==v3))))=false by
   rw[Bool.eq_false_iff]
   intro hh
   simp only[Bool.and_eq_true,beq_iff_eq]at hh
   exact hv hh]at uY
  subst l0
  clear HD h9 hv GK
  go_enter Tryz.func19,Tryz.ntmps19
  go_wp2_with(go_at_call 76;refine(mW.out _).mono ?_;rintro e w1 ⟨rfl,hw1⟩;obtain⟨y0,y1,y2,y3,y4,y5,y6,y7,y8,y9,aT⟩:=aQ.out w1 hw1;have hlb:=World.block_lt_of_cell? _ _ y0;have HW1:=ah hw1;clear hw1)
  obtain⟨α,hne,K,hK1,hK0,hK2⟩:=worlds w1
  have fV:=ah (fun s=>aU.out.au (HW1.out.au (hK1 s)))
  have kb:=fun s=>aQ.out (K s) (HW1.out.au (hK1 s))
  have k3:=fun s=>(kb s).2.2.2.1
  have k4:=fun s=>(kb s).2.2.2.2.1
  have k5:=fun s=>(kb s).2.2.2.2.2.1
  have k6:=fun s=>(kb s).2.2.2.2.2.2.1
  have k7:=fun s=>(kb s).2.2.2.2.2.2.2.1
  have k8:=fun s=>(kb s).2.2.2.2.2.2.2.2.1
  have k9:=fun s=>(kb s).2.2.2.2.2.2.2.2.2.1
  have k10:=fun s=>(kb s).2.2.2.2.2.2.2.2.2.2
  clear kb hK1 y0 y1 y2 y3 y4 y5 y6 y7 y8 y9 aT hlb
  refine dG K (by kernel_rfl) (by kernel_rfl) hK0 ?_
  repeat(go_big_quiet_step ((first|(go_at_call 77;exact Calls.bK hK2 (AY.out _ (fV.out _)))|(go_at_call 78;exact Calls.bK hK2 (AZ.out _ (fV.out _))))))
  refine wpQuiet_nil ?_
  intro w' hw'
  obtain⟨s,rfl⟩:=hw'
  go_wp2
  go_ret
  exact⟨rfl,fV.out s⟩
 rw[bZ (show P from HD.out.2 (.inr (.inl ⟨rfl,l0,h9,Mc.out.2 hv⟩)))]
 rw[show((f0==v0)&&((f1==v1)&&((f2==v2)&&(f3==v3))))=true by
  simp only[Bool.and_eq_true,beq_iff_eq]
  exact hv]at uY
 subst l0
 clear HD h9 hv GK
 go_enter Tryz.func19,Tryz.ntmps19
 go_wp2_with(go_at_call 76;refine(mW.out _).mono ?_;rintro e w1 ⟨rfl,hw1⟩;obtain⟨y0,y1,y2,y3,y4,y5,y6,y7,y8,y9,aT⟩:=aQ.out w1 hw1;have hlb:=World.block_lt_of_cell? _ _ y0;have HW1:=ah hw1;clear hw1)
 obtain⟨α,hne,K,hK1,hK0,hK2⟩:=worlds w1
 have fV:=ah (fun s=>aU.out.au (HW1.out.au (hK1 s)))
 have kb:=fun s=>aQ.out (K s) (HW1.out.au (hK1 s))
 have k3:=fun s=>(kb s).2.2.2.1
 have k4:=fun s=>(kb s).2.2.2.2.1
 have k5:=fun s=>(kb s).2.2.2.2.2.1
 have k6:=fun s=>(kb s).2.2.2.2.2.2.1
 have k7:=fun s=>(kb s).2.2.2.2.2.2.2.1
 have k8:=fun s=>(kb s).2.2.2.2.2.2.2.2.1
 have k9:=fun s=>(kb s).2.2.2.2.2.2.2.2.2.1
 have k10:=fun s=>(kb s).2.2.2.2.2.2.2.2.2.2
 clear kb hK1 y0 y1 y2 y3 y4 y5 y6 y7 y8 y9 aT hlb
 refine dG K (by kernel_rfl) (by kernel_rfl) hK0 ?_
 repeat(go_big_quiet_step ((first|(go_at_call 77;exact Calls.bK hK2 (AY.out _ (fV.out _)))|(go_at_call 78;exact Calls.bK hK2 (AZ.out _ (fV.out _))))))
 refine wpQuiet_nil ?_
 intro w' hw'
 obtain⟨s,rfl⟩:=hw'
 go_wp2
 go_ret
 exact⟨rfl,fV.out s⟩
open Go.RowKit
theorem ace {P PB S9 SV:Prop} {ps:List aY} {ln n m k:Nat} {kind fr tt v0 v1 v2 v3 f0 f1 f2 f3:Int} {al a0 a1 a2:Option Addr} {cl c0 c1 c2:Nat} {w:World} (X:KT P PB S9 SV ps ln n m k kind fr tt v0 v1 v2 v3 f0 f1 f2 f3 al a0 a1 a2 cl c0 c1 c2 w) (k2:kind≠2):
 Calls Tryz.prog 19 #[.agg #[.int .i64 kind, .int .i64 fr, .int .i64 tt, .int .i64 v0, .int .i64 v1, .int .i64 v2, .int .i64 v3, .slice al ln cl, .slice a0 n c0, .slice a1 m c1, .slice a2 k c2]] w fun e w'=>e= .returned (.bool (tf P))∧aj ay w w':=by
 have mW:=ah X.may
 have AY:=ah X.Ro
 have GK:=ah X.vec
 have Mc:=ah X.sv
 have jO:=ah X.same
 have TG:=ah X.Rq
 have TI:=ah X.Rt
 have r_:=ah X.rd
 have HLEN:=ah X.len
 have aQ:=ah X.bx
 have HD:=ah X.hd
 have f1':=X.f1
 have f2':=X.f2
 have t1':=X.t1
 have t2':=X.t2
 have h3':((fr:Int)==tt)=false:=beq_false_of_ne X.ne
 clear X
 have aU:=ah (show aj ay w (w.alloc (.cells #[.int .i64 kind, .int .i64 fr, .int .i64 tt, .int .i64 v0, .int .i64 v1, .int .i64 v2, .int .i64 v3, .slice al ln cl, .slice a0 n c0, .slice a1 m c1, .slice a2 k c2] 42))from aj.alloc _ _ _)
 have c2':((kind:Int)==2)=false:=beq_false_of_ne k2
 by_cases hpb:PB
 rotate_left 1
 ·rw[aZ (show ¬P from fun h=>by rcases HD.out.1 h with⟨-,q,-⟩|⟨q,-⟩|⟨-,q,-⟩<;>first|exact hpb q|exact k2 q)]
  rw[aZ hpb]at jO
  clear HD hpb k2
  go_enter Tryz.func19,Tryz.ntmps19
  go_wp2_with(first
   |(go_at_call 76;refine(mW.out _).mono ?_;rintro e w1 ⟨rfl,hw1⟩;obtain⟨y0,y1,y2,y3,y4,y5,y6,y7,y8,y9,aT⟩:=aQ.out w1 hw1;have hlb:=World.block_lt_of_cell? _ _ y0;have HW1:=ah hw1;clear hw1)
   |(go_at_call 40;refine(jO.out _ (aU.out.au HW1.out)).mono ?_;rintro e w2 ⟨rfl,hw2⟩;clear y0 y1 y2 y3 y4 y5 y6 y7 y8 y9 aT hlb;obtain⟨y0,y1,y2,y3,y4,y5,y6,y7,y8,y9,aT⟩:=aQ.out w2 (HW1.out.au hw2);have hlb:=World.block_lt_of_cell? _ _ y0;have HW2:=ah (HW1.out.au hw2);clear hw2))
  go_ret
  exact⟨rfl,aU.out.au HW2.out⟩
 rw[bZ hpb]at jO
 have sK:=ah hpb;clear hpb
 by_cases k1:kind=1
 rotate_left 1
 ·have c1':((kind:Int)==1)=false:=beq_false_of_ne k1
  have TJ:((kind:Int) !=1)=true:=by rw[bne,c1'];rfl
  by_cases k3:kind=3
  ·subst k3
   have hy:tf P=((ln:Int)==0):=by
    by_cases l0:ln=0
    ·rw[bZ (HD.out.2 (.inr (.inr ⟨by omega,sK.out,l0⟩))),l0];rfl
    ·rw[aZ (show ¬P from fun h=>by rcases HD.out.1 h with⟨q,-⟩|⟨q,-⟩|⟨-,-,q⟩<;>omega)]
     exact(beq_false_of_ne (by omega)).symm
   rw[hy]
   clear HD hy k1 k2 c1' TJ c2'
   go_enter Tryz.func19,Tryz.ntmps19
   go_wp2_with(first
    |(go_at_call 76;refine(mW.out _).mono ?_;rintro e w1 ⟨rfl,hw1⟩;obtain⟨y0,y1,y2,y3,y4,y5,y6,y7,y8,y9,aT⟩:=aQ.out w1 hw1;have hlb:=World.block_lt_of_cell? _ _ y0;have HW1:=ah hw1;clear hw1)
    |(go_at_call 40;refine(jO.out _ (aU.out.au HW1.out)).mono ?_;rintro e w2 ⟨rfl,hw2⟩;clear y0 y1 y2 y3 y4 y5 y6 y7 y8 y9 aT hlb;obtain⟨y0,y1,y2,y3,y4,y5,y6,y7,y8,y9,aT⟩:=aQ.out w2 (HW1.out.au hw2);have hlb:=World.block_lt_of_cell? _ _ y0;have HW2:=ah (HW1.out.au hw2);clear hw2))
   go_ret
   exact⟨by first|rfl|simp,aU.out.au HW2.out⟩
  have c3':((kind:Int)==3)=false:=beq_false_of_ne k3
  by_cases k4:kind=4
  ·subst k4
   have hy:tf P=((ln:Int)==0):=by
    by_cases l0:ln=0
    ·rw[bZ (HD.out.2 (.inr (.inr ⟨by omega,sK.out,l0⟩))),l0];rfl
    ·rw[aZ (show ¬P from fun h=>by rcases HD.out.1 h with⟨q,-⟩|⟨q,-⟩|⟨-,-,q⟩<;>omega)]
     exact(beq_false_of_ne (by omega)).symm
   rw[hy]
   clear HD hy k1 k2 k3 c1' TJ c2' c3'
   go_enter Tryz.func19,Tryz.ntmps19
   go_wp2_with(first
    |(go_at_call 76;refine(mW.out _).mono ?_;rintro e w1 ⟨rfl,hw1⟩;obtain⟨y0,y1,y2,y3,y4,y5,y6,y7,y8,y9,aT⟩:=aQ.out w1 hw1;have hlb:=World.block_lt_of_cell? _ _ y0;have HW1:=ah hw1;clear hw1)
    |(go_at_call 40;refine(jO.out _ (aU.out.au HW1.out)).mono ?_;rintro e w2 ⟨rfl,hw2⟩;clear y0 y1 y2 y3 y4 y5 y6 y7 y8 y9 aT hlb;obtain⟨y0,y1,y2,y3,y4,y5,y6,y7,y8,y9,aT⟩:=aQ.out w2 (HW1.out.au hw2);have hlb:=World.block_lt_of_cell? _ _ y0;have HW2:=ah (HW1.out.au hw2);clear hw2))
   go_ret
   exact⟨by first|rfl|simp,aU.out.au HW2.out⟩
  have Gi:((kind:Int)==4)=false:=beq_false_of_ne k4
  rw[aZ (show ¬P from fun h=>by rcases HD.out.1 h with⟨q,-⟩|⟨q,-⟩|⟨q,-⟩<;>omega)]
  clear HD k1 k2 k3 k4
  go_enter Tryz.func19,Tryz.ntmps19
  go_wp2_with(first
   |(go_at_call 76;refine(mW.out _).mono ?_;rintro e w1 ⟨rfl,hw1⟩;obtain⟨y0,y1,y2,y3,y4,y5,y6,y7,y8,y9,aT⟩:=aQ.out w1 hw1;have hlb:=World.block_lt_of_cell? _ _ y0;have HW1:=ah hw1;clear hw1)
   |(go_at_call 40;refine(jO.out _ (aU.out.au HW1.out)).mono ?_;rintro e w2 ⟨rfl,hw2⟩;clear y0 y1 y2 y3 y4 y5 y6 y7 y8 y9 aT hlb;obtain⟨y0,y1,y2,y3,y4,y5,y6,y7,y8,y9,aT⟩:=aQ.out w2 (HW1.out.au hw2);have hlb:=World.block_lt_of_cell? _ _ y0;have HW2:=ah (HW1.out.au hw2);clear hw2))
  go_ret
  exact⟨rfl,aU.out.au HW2.out⟩
 subst k1
 clear k2 c2'
 go_enter Tryz.func19,Tryz.ntmps19
 go_wp2_with(first
  |(go_at_call 76;refine(mW.out _).mono ?_;rintro e w1 ⟨rfl,hw1⟩;obtain⟨y0,y1,y2,y3,y4,y5,y6,y7,y8,y9,aT⟩:=aQ.out w1 hw1;have hlb:=World.block_lt_of_cell? _ _ y0;have HW1:=ah hw1;clear hw1)
  |(go_at_call 40;refine(jO.out _ (aU.out.au HW1.out)).mono ?_;rintro e w2 ⟨rfl,hw2⟩;clear y0 y1 y2 y3 y4 y5 y6 y7 y8 y9 aT hlb;obtain⟨y0,y1,y2,y3,y4,y5,y6,y7,y8,y9,aT⟩:=aQ.out w2 (HW1.out.au hw2);have hlb:=World.block_lt_of_cell? _ _ y0;have HW2:=ah (HW1.out.au hw2);clear hw2))
 clear y0 y1 y2 y3 y4 y5 y6 y7 y8 y9 aT hlb
 go_loopw [81] (fun i W=>∃q:Nat,q≤ln∧q≤16∧i= .int .i64 q∧(ps.take q).any pW=false∧aj ay (w.alloc (.cells #[.int .i64 1, .int .i64 fr, .int .i64 tt, .int .i64 v0, .int .i64 v1, .int .i64 v2, .int .i64 v3, .slice al ln cl, .slice a0 n c0, .slice a1 m c1, .slice a2 k c2] 42)) W) (fun i _=>ln-(intOf i).toNat)
 case atStart=>exact⟨0,Nat.zero_le _,Nat.zero_le _,rfl,by simp,HW2.out⟩
 case round=>
  obtain⟨q,hq,h16,rfl,ha,hw⟩:=hrel
  have qg:=ah ha;clear ha
  have HW:=ah hw;clear hw
  clear HW2
  obtain⟨y0,y1,y2,y3,y4,y5,y6,y7,y8,y9,aT⟩:=aQ.out wr HW.out
  have hlb:=World.block_lt_of_cell? _ _ y0
  by_cases hlt:q<ln
  ·by_cases h6:16≤q
   ·have hyn:tf P=false:=aZ fun h=>by rcases HD.out.1 h with⟨-,-,-,z,-⟩|⟨z,-⟩|⟨z,-⟩<;>omega
    have DW:=ah hyn
    have h6':(16:Int)≤(q:Int):=by omega
    clear HD hyn
    go_wp2
    go_ret
    exact⟨by rw[DW.out];rfl,aU.out.au HW.out⟩
   ·have hlk:q<ps.length:=by rw[HLEN.out];exact hlt
    have h6':¬(16:Int)≤(q:Int):=by omega
    have hrd:=r_.out.aO (aU.out.au HW.out)
    rcases Rd.shape hrd with⟨ad,he,h0⟩|⟨b,off,cc,he,hmax⟩
    ·exfalso;omega
    ·injection he with e1 e2 e3
     subst e1 e3
     clear e2
     obtain⟨q0,q1,q2,q3,q4,q5,q6,q7,q8,q9⟩:=wF hrd q hlk
     clear hrd
     have hm:=getD_mem aY.zero hlk
     have hbc:=TG.out _ hm
     have hsh:=TI.out _ hm
     have HT:=ah (J_ (p:=pW) hlk)
     have HE:=ah (Ko (p:=pW) hlk)
     clear hm
     generalize pW (ps.getD q aY.zero)=y at*
     obtain⟨p,hgd⟩:∃p,p=ps.getD q aY.zero:=⟨_,rfl⟩
     rw[←hgd]at q0 q1 q2 q3 q4 q5 q6 q7 q8 q9 hbc hsh
     clear hgd
     obtain⟨⟨dc,af,la,u0,u1,u2,u3,es',ks',c'⟩,ev',kv',cv'⟩:=p
     dsimp only at q0 q1 q2 q3 q4 q5 q6 q7 q8 q9 hbc hsh
     obtain⟨a3,c3,a4,c4,a5,c5,rfl,rfl,rfl⟩:=hsh
     have lY:=ah hbc;clear hbc
     generalize es'.length=n' at*
     generalize ks'.len=m' at*
     generalize c'.length=k' at*
     cases y with
     |true=>
      have hyn:tf P=false:=aZ fun h=>by
       rcases HD.out.1 h with⟨-,-,-,-,z⟩|⟨z,-⟩|⟨z,-⟩
       ·rw[HE.out rfl]at z;cases z
       ·omega
       ·omega
      have DW:=ah hyn
      clear HD hyn HE HT
      go_wp2_with(go_at_call 24;refine(lY.out _ (aU.out.au HW.out)).mono ?_;rintro e w3 ⟨rfl,hw3⟩;have HW3:=ah (HW.out.au hw3);clear hw3)
      go_ret
      exact⟨by rw[DW.out];rfl,aU.out.au HW3.out⟩
     |false=>
      have Df:=ah (show(ps.take (q+1)).any pW=false by rw[HT.out,qg.out];rfl)
      clear HE HT
      go_wp2_with(go_at_call 24;refine(lY.out _ (aU.out.au HW.out)).mono ?_;rintro e w3 ⟨rfl,hw3⟩;have HW3:=ah (HW.out.au hw3);clear hw3)
      go_roundw
      case rel=>exact⟨q+1,by omega,by omega,by go_num,Df.out,HW3.out⟩
      case measure=>simp[intOf];omega
  ·obtain rfl:ln=q:=by omega
   have hall:ps.any pW=false:=by
    have:=qg.out
    rwa [List.take_of_length_le (by rw[HLEN.out];exact Nat.le_refl _)]at this
   have hy:tf P=decide (0<ln):=by
    by_cases h0:0<ln
    ·rw[bZ (HD.out.2 (.inl ⟨by trivial,sK.out,h0,h16,hall⟩)),decide_eq_true h0]
    ·rw[aZ (show ¬P from fun h=>by rcases HD.out.1 h with⟨-,-,z,-⟩|⟨z,-⟩|⟨z,-⟩<;>omega),decide_eq_false h0]
   have HY:=ah hy
   clear HD hall hy hlt hq
   go_wp2
   go_ret
   exact⟨by rw[HY.out];first|rfl|simp,aU.out.au HW.out⟩
open Go.RowKit
theorem acf {v0 v1 v2 v3:Int} {es:List aG} {ks:aH} {c:aW}:qh v0 v1 v2 v3 es ks c↔rZ es ks c∧(bT c 0=v0∧bT c 1=v1∧bT c 2=v2∧bT c 3=v3):=by
 unfold qh rZ
 constructor
 ·rintro⟨h1,h2,h3,h4⟩
  exact⟨⟨h1,h4,(QA h1.ctx).1 h2⟩,h3⟩
 ·rintro⟨⟨h1,h2,h3⟩,h4⟩
  exact⟨h1,(QA h1.ctx).2 h3,h4,h2⟩
theorem acg {es:List aG} {ks:aH} {c:aW}:Ar es ks c↔(es=[]∧ks= .nil)∧c=[]:=by
 constructor
 ·intro h
  obtain⟨h1,h2,h3⟩:=Ky h
  exact⟨⟨h1,h2⟩,h3⟩
 ·rintro⟨⟨rfl,rfl⟩,rfl⟩
  exact⟨rfl,rfl,rfl⟩
theorem TK (Q:Nat→Prop) (m:bF) (ps:List aY) (w:World) (lv ev kv cv:Value) (h:iP Q w m ps lv ev kv cv) (hok:lq m):
 Calls Tryz.prog 19 #[m.ag lv ev kv cv] w fun e w'=>e= .returned (.bool (tf m.right))∧aj ay w w':=by
 obtain⟨kind,fr,tt,v0,v1,v2,v3,bs,es,ks,c⟩:=m
 have hps:=h.eq
 have hca:=h.dD
 have wL:=hok.st
 have hbs:=h.bs
 have hob:∀p∈ps,fP p.b.es p.b.ks p.b.c:=fun p hp=>hok.each p.b (h.eq▸List.mem_map.2 ⟨p,hp,rfl⟩)
 have hpl:ps.length=bs.length:=h.len
 dsimp only at hps hca wL
 have xK:=ah (fun W (f:aj ay w W)=>ZH Q es ks c W ev kv cv (hca.aO f) wL)
 have AZ:=ah (fun(hs:rZ es ks c) W (f:aj ay w W)=>QK W cv c (Rd.aO hca.ctx f) hs.1.ctx (by have:=wL.len;omega))
 have jO:=ah (fun W (f:aj ay w W)=>KL Q Q es ks c [] .nil [] W ev kv cv _ _ _ (hca.aO f) wL (DC Q W) ZY)
 have uN:=ah (fun p hp W (f:aj ay w W)=>ZQ Q p.b.es p.b.ks p.b.c W p.b.dc p.b.af p.b.la p.b.v0 p.b.v1 p.b.v2 p.b.v3 p.ev p.kv p.cv ((hbs.dD p hp).aO f) (hob p hp))
 have qc:=ah (fun p hp=>(hbs.dD p hp).shape)
 have oG:=ah (fun W=>NH W v0 v1 v2 v3)
 unfold sN at oG
 have hrd:=hbs.rd
 obtain⟨a0,c0,a1,c1,a2,c2,rfl,rfl,rfl⟩:=hca.shape
 obtain⟨al,cl,rfl⟩:=hbs.rd.sl
 clear hca hbs hok wL hob
 dsimp only[bF.ag]
 have mV:=ah (show bF.right ⟨kind,fr,tt,v0,v1,v2,v3,bs,es,ks,c⟩↔f_ (bG v0 v1 v2 v3)∧(0≤fr∧fr<4)∧(0≤tt∧tt<4)∧fr≠tt∧((kind=1∧((es=[]∧ks= .nil)∧c=[])∧1≤ps.length∧ps.length≤16∧ps.any pW=false)∨(kind=2∧ps.length=0∧rZ es ks c∧(bT c 0=v0∧bT c 1=v1∧bT c 2=v2∧bT c 3=v3))∨((kind=3∨kind=4)∧((es=[]∧ks= .nil)∧c=[])∧ps.length=0)) by
  unfold bF.right
  dsimp only
  rw[acf,acg,QD,hps,hpl])
 have aQ:=ah (fun W f=>Aq w (.int .i64 kind) (.int .i64 fr) (.int .i64 tt) (.int .i64 v0) (.int .i64 v1) (.int .i64 v2) (.int .i64 v3) (.slice al ps.length cl) (.slice a0 es.length c0) (.slice a1 ks.len c1) (.slice a2 c.length c2) 42 W f)
 have aU:=ah (show aj ay w (w.alloc (.cells #[.int .i64 kind, .int .i64 fr, .int .i64 tt, .int .i64 v0, .int .i64 v1, .int .i64 v2, .int .i64 v3, .slice al ps.length cl, .slice a0 es.length c0, .slice a1 ks.len c1, .slice a2 c.length c2] 42))from aj.alloc _ _ _)
 have r_:=ah hrd
 clear h hrd hpl hps
 by_cases hm:f_ (bG v0 v1 v2 v3)∧(0≤fr∧fr<4)∧(0≤tt∧tt<4)∧fr≠tt
 ·obtain⟨m1,⟨m2,m3⟩,⟨m4,m5⟩,m6⟩:=hm
  rw[bZ m1]at oG
  have qY:nD (fun d=>lW (bI c d))= #[.int .i64 (bT c 0), .int .i64 (bT c 1), .int .i64 (bT c 2), .int .i64 (bT c 3)]:=rfl
  rw[qY]at AZ
  have X:KT (bF.right ⟨kind,fr,tt,v0,v1,v2,v3,bs,es,ks,c⟩) ((es=[]∧ks= .nil)∧c=[]) (rZ es ks c) (bT c 0=v0∧bT c 1=v1∧bT c 2=v2∧bT c 3=v3) ps ps.length es.length ks.len c.length kind fr tt v0 v1 v2 v3 (bT c 0) (bT c 1) (bT c 2) (bT c 3) al a0 a1 a2 cl c0 c1 c2 w:=
   ⟨oG.out,xK.out,AZ.out,Iff.rfl,jO.out,fun p hp W f=>(uN.out p hp W f).mono fun e w' h=>⟨by rw[h.1];unfold pW;rw[Bool.not_not];rfl,h.2⟩,qc.out,r_.out,rfl,aQ.out,m6,m2,m3,m4,m5,
    ⟨fun h=>(mV.out.1 h).2.2.2.2,fun h=>mV.out.2 ⟨m1,⟨m2,m3⟩,⟨m4,m5⟩,m6,h⟩⟩⟩
  by_cases k2:kind=2
  ·exact acd X k2
  ·exact ace X k2
 rw[aZ (show ¬bF.right ⟨kind,fr,tt,v0,v1,v2,v3,bs,es,ks,c⟩from fun h=>hm ⟨(mV.out.1 h).1,(mV.out.1 h).2.1,(mV.out.1 h).2.2.1,(mV.out.1 h).2.2.2.1⟩)]
 clear mV xK AZ jO uN qc aQ r_
 generalize ps.length=ln at*
 generalize es.length=n at*
 generalize ks.len=m at*
 generalize c.length=k at*
 by_cases m2:fr<0
 ·clear hm oG
  go_enter Tryz.func19,Tryz.ntmps19
  go_wp2
  go_ret
  exact⟨rfl,aU.out⟩
 by_cases m3:4≤fr
 ·clear hm oG
  go_enter Tryz.func19,Tryz.ntmps19
  go_wp2
  go_ret
  exact⟨rfl,aU.out⟩
 by_cases m4:tt<0
 ·clear hm oG
  go_enter Tryz.func19,Tryz.ntmps19
  go_wp2
  go_ret
  exact⟨rfl,aU.out⟩
 by_cases m5:4≤tt
 ·clear hm oG
  go_enter Tryz.func19,Tryz.ntmps19
  go_wp2
  go_ret
  exact⟨rfl,aU.out⟩
 by_cases m6:fr=tt
 ·have m6':((fr:Int)==tt)=true:=by rw[m6];exact beq_self_eq_true _
  clear hm oG m6
  go_enter Tryz.func19,Tryz.ntmps19
  go_wp2
  go_ret
  exact⟨rfl,aU.out⟩
 have m6':((fr:Int)==tt)=false:=beq_false_of_ne m6
 have m1:¬f_ (bG v0 v1 v2 v3):=fun h=>hm ⟨h,⟨by omega,by omega⟩,⟨by omega,by omega⟩,m6⟩
 rw[aZ m1]at oG
 clear hm m1 m6
 go_enter Tryz.func19,Tryz.ntmps19
 go_wp2_with(go_at_call 76;refine(oG.out _).mono ?_;rintro e w1 ⟨rfl,hw1⟩;have HW1:=ah (aU.out.au hw1);clear hw1)
 go_ret
 exact⟨rfl,HW1.out⟩
open Go.RowKit
end Go.Proofs.YtabkpccdnkjoiaaGreat
