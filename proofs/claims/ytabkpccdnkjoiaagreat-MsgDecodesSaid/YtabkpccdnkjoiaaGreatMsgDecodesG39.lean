/- Words for the law MsgDecodes: R25b, R25c, R25, R25Dec0. -/
import Derived.Test.YtabkpccdnkjoiaaGreatMsgDecodesG0
import Derived.Test.YtabkpccdnkjoiaaGreatMsgDecodesG17
import Derived.Test.YtabkpccdnkjoiaaGreatMsgDecodesG23
import Derived.Test.YtabkpccdnkjoiaaGreatMsgDecodesG33
import Derived.Test.YtabkpccdnkjoiaaGreatMsgDecodesG38
set_option linter.unusedSimpArgs false
set_option linter.unusedVariables false
set_option maxHeartbeats 32000000
set_option maxRecDepth 1000000
namespace Go.Proofs.YtabkpccdnkjoiaaGreat
open Go.RowKit
theorem aeU {P PB S9 SV:Prop} {ps:List aZ} {ln n m k:Nat} {kind fr tt v0 v1 v2 v3 f0 f1 f2 f3:Int} {al a0 a1 a2:Option Addr} {cl c0 c1 c2:Nat} {w:World} (X:OB P PB S9 SV ps ln n m k kind fr tt v0 v1 v2 v3 f0 f1 f2 f3 al a0 a1 a2 cl c0 c1 c2 w) (k2:kind=2):
 Calls Tryz.prog 19 #[.agg #[.int .i64 kind, .int .i64 fr, .int .i64 tt, .int .i64 v0, .int .i64 v1, .int .i64 v2, .int .i64 v3, .slice al ln cl, .slice a0 n c0, .slice a1 m c1, .slice a2 k c2]] w fun e w'=>e= .returned (.bool (tf P))∧aj ay w w':=by
 have oU:=ah X.may
 have Ec:=ah X.VI
 have Ku:=ah X.vec
 have Qd:=ah X.sv
 have pX:=ah X.same
 have XH:=ah X.VJ
 have XI:=ah X.VK
 have sJ:=ah X.rd
 have HLEN:=ah X.len
 have bF:=ah X.bx
 have HD:=ah X.hd
 have f1':=X.f1
 have f2':=X.f2
 have t1':=X.t1
 have t2':=X.t2
 have h3':((fr:Int)==tt)=false:=beq_false_of_ne X.ne
 clear X
 have bD:=ah (show aj ay w (w.alloc (.cells #[.int .i64 kind, .int .i64 fr, .int .i64 tt, .int .i64 v0, .int .i64 v1, .int .i64 v2, .int .i64 v3, .slice al ln cl, .slice a0 n c0, .slice a1 m c1, .slice a2 k c2] 42))from aj.alloc _ _ _)
 subst k2
 by_cases l0:ln=0
 rotate_left 1
 ·rw[bf (show ¬P from fun h=>by rcases HD.out.1 h with⟨q,-⟩|⟨-,q,-⟩|⟨q,-⟩<;>omega)]
  have bl:((ln:Int)==0)=false:=beq_false_of_ne (by omega)
  clear HD l0
  go_enter Tryz.func19,Tryz.ntmps19
  go_wp2_with(go_at_call 76;refine(oU.out _).mono ?_;rintro e w1 ⟨rfl,hw1⟩;obtain⟨y0,y1,y2,y3,y4,y5,y6,y7,y8,y9,aY⟩:=bF.out w1 hw1;have hlb:=World.block_lt_of_cell? _ _ y0;have HW1:=ah hw1;clear hw1)
  obtain⟨α,hne,K,hK1,hK0,hK2⟩:=worlds w1
  have iy:=ah (fun s=>bD.out.aC (HW1.out.aC (hK1 s)))
  have kb:=fun s=>bF.out (K s) (HW1.out.aC (hK1 s))
  have k3:=fun s=>(kb s).2.2.2.1
  have k4:=fun s=>(kb s).2.2.2.2.1
  have k5:=fun s=>(kb s).2.2.2.2.2.1
  have k6:=fun s=>(kb s).2.2.2.2.2.2.1
  have k7:=fun s=>(kb s).2.2.2.2.2.2.2.1
  have k8:=fun s=>(kb s).2.2.2.2.2.2.2.2.1
  have k9:=fun s=>(kb s).2.2.2.2.2.2.2.2.2.1
  have k10:=fun s=>(kb s).2.2.2.2.2.2.2.2.2.2
  clear kb hK1 y0 y1 y2 y3 y4 y5 y6 y7 y8 y9 aY hlb
  refine dX K (by kernel_rfl) (by kernel_rfl) hK0 ?_
  repeat(go_big_quiet_step (fail))
  refine wpQuiet_nil ?_
  intro w' hw'
  obtain⟨s,rfl⟩:=hw'
  go_wp2
  go_ret
  exact⟨rfl,iy.out s⟩
 by_cases h9:S9
 rotate_left 1
 ·rw[bf (show ¬P from fun h=>by rcases HD.out.1 h with⟨q,-⟩|⟨-,-,q,-⟩|⟨q,-⟩<;>first|omega|exact h9 q)]
  rw[bf h9]at Ec
  subst l0
  clear HD h9
  go_enter Tryz.func19,Tryz.ntmps19
  go_wp2_with(go_at_call 76;refine(oU.out _).mono ?_;rintro e w1 ⟨rfl,hw1⟩;obtain⟨y0,y1,y2,y3,y4,y5,y6,y7,y8,y9,aY⟩:=bF.out w1 hw1;have hlb:=World.block_lt_of_cell? _ _ y0;have HW1:=ah hw1;clear hw1)
  obtain⟨α,hne,K,hK1,hK0,hK2⟩:=worlds w1
  have iy:=ah (fun s=>bD.out.aC (HW1.out.aC (hK1 s)))
  have kb:=fun s=>bF.out (K s) (HW1.out.aC (hK1 s))
  have k3:=fun s=>(kb s).2.2.2.1
  have k4:=fun s=>(kb s).2.2.2.2.1
  have k5:=fun s=>(kb s).2.2.2.2.2.1
  have k6:=fun s=>(kb s).2.2.2.2.2.2.1
  have k7:=fun s=>(kb s).2.2.2.2.2.2.2.1
  have k8:=fun s=>(kb s).2.2.2.2.2.2.2.2.1
  have k9:=fun s=>(kb s).2.2.2.2.2.2.2.2.2.1
  have k10:=fun s=>(kb s).2.2.2.2.2.2.2.2.2.2
  clear kb hK1 y0 y1 y2 y3 y4 y5 y6 y7 y8 y9 aY hlb
  refine dX K (by kernel_rfl) (by kernel_rfl) hK0 ?_
  repeat(go_big_quiet_step ((first|(go_at_call 77;exact Calls.bY hK2 (Ec.out _ (iy.out _))))))
  refine wpQuiet_nil ?_
  intro w' hw'
  obtain⟨s,rfl⟩:=hw'
  go_wp2
  go_ret
  exact⟨rfl,iy.out s⟩
 rw[dO h9]at Ec
 have Ed:=ah (Ku.out h9)
 have zy:=FD f0 f1 f2 f3 v0 v1 v2 v3
 by_cases hv:f0=v0∧f1=v1∧f2=v2∧f3=v3
 rotate_left 1
 ·rw[bf (show ¬P from fun h=>by rcases HD.out.1 h with⟨q,-⟩|⟨-,-,-,q⟩|⟨q,-⟩<;>first|omega|exact hv (Qd.out.1 q))]
  rw[show((f0==v0)&&((f1==v1)&&((f2==v2)&&(f3==v3))))=false by
   rw[Bool.eq_false_iff]
   intro hh
   simp only[Bool.and_eq_true,beq_iff_eq]at hh
   exact hv hh]at zy
  subst l0
  clear HD h9 hv Ku
  go_enter Tryz.func19,Tryz.ntmps19
  go_wp2_with(go_at_call 76;refine(oU.out _).mono ?_;rintro e w1 ⟨rfl,hw1⟩;obtain⟨y0,y1,y2,y3,y4,y5,y6,y7,y8,y9,aY⟩:=bF.out w1 hw1;have hlb:=World.block_lt_of_cell? _ _ y0;have HW1:=ah hw1;clear hw1)
  obtain⟨α,hne,K,hK1,hK0,hK2⟩:=worlds w1
  have iy:=ah (fun s=>bD.out.aC (HW1.out.aC (hK1 s)))
  have kb:=fun s=>bF.out (K s) (HW1.out.aC (hK1 s))
  have k3:=fun s=>(kb s).2.2.2.1
  have k4:=fun s=>(kb s).2.2.2.2.1
  have k5:=fun s=>(kb s).2.2.2.2.2.1
  have k6:=fun s=>(kb s).2.2.2.2.2.2.1
  have k7:=fun s=>(kb s).2.2.2.2.2.2.2.1
  have k8:=fun s=>(kb s).2.2.2.2.2.2.2.2.1
  have k9:=fun s=>(kb s).2.2.2.2.2.2.2.2.2.1
  have k10:=fun s=>(kb s).2.2.2.2.2.2.2.2.2.2
  clear kb hK1 y0 y1 y2 y3 y4 y5 y6 y7 y8 y9 aY hlb
  refine dX K (by kernel_rfl) (by kernel_rfl) hK0 ?_
  repeat(go_big_quiet_step ((first|(go_at_call 77;exact Calls.bY hK2 (Ec.out _ (iy.out _)))|(go_at_call 78;exact Calls.bY hK2 (Ed.out _ (iy.out _))))))
  refine wpQuiet_nil ?_
  intro w' hw'
  obtain⟨s,rfl⟩:=hw'
  go_wp2
  go_ret
  exact⟨rfl,iy.out s⟩
 rw[dO (show P from HD.out.2 (.inr (.inl ⟨rfl,l0,h9,Qd.out.2 hv⟩)))]
 rw[show((f0==v0)&&((f1==v1)&&((f2==v2)&&(f3==v3))))=true by
  simp only[Bool.and_eq_true,beq_iff_eq]
  exact hv]at zy
 subst l0
 clear HD h9 hv Ku
 go_enter Tryz.func19,Tryz.ntmps19
 go_wp2_with(go_at_call 76;refine(oU.out _).mono ?_;rintro e w1 ⟨rfl,hw1⟩;obtain⟨y0,y1,y2,y3,y4,y5,y6,y7,y8,y9,aY⟩:=bF.out w1 hw1;have hlb:=World.block_lt_of_cell? _ _ y0;have HW1:=ah hw1;clear hw1)
 obtain⟨α,hne,K,hK1,hK0,hK2⟩:=worlds w1
 have iy:=ah (fun s=>bD.out.aC (HW1.out.aC (hK1 s)))
 have kb:=fun s=>bF.out (K s) (HW1.out.aC (hK1 s))
 have k3:=fun s=>(kb s).2.2.2.1
 have k4:=fun s=>(kb s).2.2.2.2.1
 have k5:=fun s=>(kb s).2.2.2.2.2.1
 have k6:=fun s=>(kb s).2.2.2.2.2.2.1
 have k7:=fun s=>(kb s).2.2.2.2.2.2.2.1
 have k8:=fun s=>(kb s).2.2.2.2.2.2.2.2.1
 have k9:=fun s=>(kb s).2.2.2.2.2.2.2.2.2.1
 have k10:=fun s=>(kb s).2.2.2.2.2.2.2.2.2.2
 clear kb hK1 y0 y1 y2 y3 y4 y5 y6 y7 y8 y9 aY hlb
 refine dX K (by kernel_rfl) (by kernel_rfl) hK0 ?_
 repeat(go_big_quiet_step ((first|(go_at_call 77;exact Calls.bY hK2 (Ec.out _ (iy.out _)))|(go_at_call 78;exact Calls.bY hK2 (Ed.out _ (iy.out _))))))
 refine wpQuiet_nil ?_
 intro w' hw'
 obtain⟨s,rfl⟩:=hw'
 go_wp2
 go_ret
 exact⟨rfl,iy.out s⟩
open Go.RowKit
theorem aeV {P PB S9 SV:Prop} {ps:List aZ} {ln n m k:Nat} {kind fr tt v0 v1 v2 v3 f0 f1 f2 f3:Int} {al a0 a1 a2:Option Addr} {cl c0 c1 c2:Nat} {w:World} (X:OB P PB S9 SV ps ln n m k kind fr tt v0 v1 v2 v3 f0 f1 f2 f3 al a0 a1 a2 cl c0 c1 c2 w) (k2:kind≠2):
 Calls Tryz.prog 19 #[.agg #[.int .i64 kind, .int .i64 fr, .int .i64 tt, .int .i64 v0, .int .i64 v1, .int .i64 v2, .int .i64 v3, .slice al ln cl, .slice a0 n c0, .slice a1 m c1, .slice a2 k c2]] w fun e w'=>e= .returned (.bool (tf P))∧aj ay w w':=by
 have oU:=ah X.may
 have Ec:=ah X.VI
 have Ku:=ah X.vec
 have Qd:=ah X.sv
 have pX:=ah X.same
 have XH:=ah X.VJ
 have XI:=ah X.VK
 have sJ:=ah X.rd
 have HLEN:=ah X.len
 have bF:=ah X.bx
 have HD:=ah X.hd
 have f1':=X.f1
 have f2':=X.f2
 have t1':=X.t1
 have t2':=X.t2
 have h3':((fr:Int)==tt)=false:=beq_false_of_ne X.ne
 clear X
 have bD:=ah (show aj ay w (w.alloc (.cells #[.int .i64 kind, .int .i64 fr, .int .i64 tt, .int .i64 v0, .int .i64 v1, .int .i64 v2, .int .i64 v3, .slice al ln cl, .slice a0 n c0, .slice a1 m c1, .slice a2 k c2] 42))from aj.alloc _ _ _)
 have c2':((kind:Int)==2)=false:=beq_false_of_ne k2
 by_cases hpb:PB
 rotate_left 1
 ·rw[bf (show ¬P from fun h=>by rcases HD.out.1 h with⟨-,q,-⟩|⟨q,-⟩|⟨-,q,-⟩<;>first|exact hpb q|exact k2 q)]
  rw[bf hpb]at pX
  clear HD hpb k2
  go_enter Tryz.func19,Tryz.ntmps19
  go_wp2_with(first
   |(go_at_call 76;refine(oU.out _).mono ?_;rintro e w1 ⟨rfl,hw1⟩;obtain⟨y0,y1,y2,y3,y4,y5,y6,y7,y8,y9,aY⟩:=bF.out w1 hw1;have hlb:=World.block_lt_of_cell? _ _ y0;have HW1:=ah hw1;clear hw1)
   |(go_at_call 40;refine(pX.out _ (bD.out.aC HW1.out)).mono ?_;rintro e w2 ⟨rfl,hw2⟩;clear y0 y1 y2 y3 y4 y5 y6 y7 y8 y9 aY hlb;obtain⟨y0,y1,y2,y3,y4,y5,y6,y7,y8,y9,aY⟩:=bF.out w2 (HW1.out.aC hw2);have hlb:=World.block_lt_of_cell? _ _ y0;have HW2:=ah (HW1.out.aC hw2);clear hw2))
  go_ret
  exact⟨rfl,bD.out.aC HW2.out⟩
 rw[dO hpb]at pX
 have pq:=ah hpb;clear hpb
 by_cases k1:kind=1
 rotate_left 1
 ·have c1':((kind:Int)==1)=false:=beq_false_of_ne k1
  have XJ:((kind:Int) !=1)=true:=by rw[bne,c1'];rfl
  by_cases k3:kind=3
  ·subst k3
   have hy:tf P=((ln:Int)==0):=by
    by_cases l0:ln=0
    ·rw[dO (HD.out.2 (.inr (.inr ⟨by omega,pq.out,l0⟩))),l0];rfl
    ·rw[bf (show ¬P from fun h=>by rcases HD.out.1 h with⟨q,-⟩|⟨q,-⟩|⟨-,-,q⟩<;>omega)]
     exact(beq_false_of_ne (by omega)).symm
   rw[hy]
   clear HD hy k1 k2 c1' XJ c2'
   go_enter Tryz.func19,Tryz.ntmps19
   go_wp2_with(first
    |(go_at_call 76;refine(oU.out _).mono ?_;rintro e w1 ⟨rfl,hw1⟩;obtain⟨y0,y1,y2,y3,y4,y5,y6,y7,y8,y9,aY⟩:=bF.out w1 hw1;have hlb:=World.block_lt_of_cell? _ _ y0;have HW1:=ah hw1;clear hw1)
    |(go_at_call 40;refine(pX.out _ (bD.out.aC HW1.out)).mono ?_;rintro e w2 ⟨rfl,hw2⟩;clear y0 y1 y2 y3 y4 y5 y6 y7 y8 y9 aY hlb;obtain⟨y0,y1,y2,y3,y4,y5,y6,y7,y8,y9,aY⟩:=bF.out w2 (HW1.out.aC hw2);have hlb:=World.block_lt_of_cell? _ _ y0;have HW2:=ah (HW1.out.aC hw2);clear hw2))
   go_ret
   exact⟨by first|rfl|simp,bD.out.aC HW2.out⟩
  have c3':((kind:Int)==3)=false:=beq_false_of_ne k3
  by_cases k4:kind=4
  ·subst k4
   have hy:tf P=((ln:Int)==0):=by
    by_cases l0:ln=0
    ·rw[dO (HD.out.2 (.inr (.inr ⟨by omega,pq.out,l0⟩))),l0];rfl
    ·rw[bf (show ¬P from fun h=>by rcases HD.out.1 h with⟨q,-⟩|⟨q,-⟩|⟨-,-,q⟩<;>omega)]
     exact(beq_false_of_ne (by omega)).symm
   rw[hy]
   clear HD hy k1 k2 k3 c1' XJ c2' c3'
   go_enter Tryz.func19,Tryz.ntmps19
   go_wp2_with(first
    |(go_at_call 76;refine(oU.out _).mono ?_;rintro e w1 ⟨rfl,hw1⟩;obtain⟨y0,y1,y2,y3,y4,y5,y6,y7,y8,y9,aY⟩:=bF.out w1 hw1;have hlb:=World.block_lt_of_cell? _ _ y0;have HW1:=ah hw1;clear hw1)
    |(go_at_call 40;refine(pX.out _ (bD.out.aC HW1.out)).mono ?_;rintro e w2 ⟨rfl,hw2⟩;clear y0 y1 y2 y3 y4 y5 y6 y7 y8 y9 aY hlb;obtain⟨y0,y1,y2,y3,y4,y5,y6,y7,y8,y9,aY⟩:=bF.out w2 (HW1.out.aC hw2);have hlb:=World.block_lt_of_cell? _ _ y0;have HW2:=ah (HW1.out.aC hw2);clear hw2))
   go_ret
   exact⟨by first|rfl|simp,bD.out.aC HW2.out⟩
  have JM:((kind:Int)==4)=false:=beq_false_of_ne k4
  rw[bf (show ¬P from fun h=>by rcases HD.out.1 h with⟨q,-⟩|⟨q,-⟩|⟨q,-⟩<;>omega)]
  clear HD k1 k2 k3 k4
  go_enter Tryz.func19,Tryz.ntmps19
  go_wp2_with(first
   |(go_at_call 76;refine(oU.out _).mono ?_;rintro e w1 ⟨rfl,hw1⟩;obtain⟨y0,y1,y2,y3,y4,y5,y6,y7,y8,y9,aY⟩:=bF.out w1 hw1;have hlb:=World.block_lt_of_cell? _ _ y0;have HW1:=ah hw1;clear hw1)
   |(go_at_call 40;refine(pX.out _ (bD.out.aC HW1.out)).mono ?_;rintro e w2 ⟨rfl,hw2⟩;clear y0 y1 y2 y3 y4 y5 y6 y7 y8 y9 aY hlb;obtain⟨y0,y1,y2,y3,y4,y5,y6,y7,y8,y9,aY⟩:=bF.out w2 (HW1.out.aC hw2);have hlb:=World.block_lt_of_cell? _ _ y0;have HW2:=ah (HW1.out.aC hw2);clear hw2))
  go_ret
  exact⟨rfl,bD.out.aC HW2.out⟩
 subst k1
 clear k2 c2'
 go_enter Tryz.func19,Tryz.ntmps19
 go_wp2_with(first
  |(go_at_call 76;refine(oU.out _).mono ?_;rintro e w1 ⟨rfl,hw1⟩;obtain⟨y0,y1,y2,y3,y4,y5,y6,y7,y8,y9,aY⟩:=bF.out w1 hw1;have hlb:=World.block_lt_of_cell? _ _ y0;have HW1:=ah hw1;clear hw1)
  |(go_at_call 40;refine(pX.out _ (bD.out.aC HW1.out)).mono ?_;rintro e w2 ⟨rfl,hw2⟩;clear y0 y1 y2 y3 y4 y5 y6 y7 y8 y9 aY hlb;obtain⟨y0,y1,y2,y3,y4,y5,y6,y7,y8,y9,aY⟩:=bF.out w2 (HW1.out.aC hw2);have hlb:=World.block_lt_of_cell? _ _ y0;have HW2:=ah (HW1.out.aC hw2);clear hw2))
 clear y0 y1 y2 y3 y4 y5 y6 y7 y8 y9 aY hlb
 go_loopw [81] (fun i W=>∃q:Nat,q≤ln∧q≤16∧i= .int .i64 q∧(ps.take q).any pW=false∧aj ay (w.alloc (.cells #[.int .i64 1, .int .i64 fr, .int .i64 tt, .int .i64 v0, .int .i64 v1, .int .i64 v2, .int .i64 v3, .slice al ln cl, .slice a0 n c0, .slice a1 m c1, .slice a2 k c2] 42)) W) (fun i _=>ln-(intOf i).toNat)
 case atStart=>exact⟨0,Nat.zero_le _,Nat.zero_le _,rfl,by simp,HW2.out⟩
 case round=>
  obtain⟨q,hq,h16,rfl,ha,hw⟩:=hrel
  have zu:=ah ha;clear ha
  have HW:=ah hw;clear hw
  clear HW2
  obtain⟨y0,y1,y2,y3,y4,y5,y6,y7,y8,y9,aY⟩:=bF.out wr HW.out
  have hlb:=World.block_lt_of_cell? _ _ y0
  by_cases hlt:q<ln
  ·by_cases h6:16≤q
   ·have hyn:tf P=false:=bf fun h=>by rcases HD.out.1 h with⟨-,-,-,z,-⟩|⟨z,-⟩|⟨z,-⟩<;>omega
    have Qe:=ah hyn
    have h6':(16:Int)≤(q:Int):=by omega
    clear HD hyn
    go_wp2
    go_ret
    exact⟨by rw[Qe.out];rfl,bD.out.aC HW.out⟩
   ·have hlk:q<ps.length:=by rw[HLEN.out];exact hlt
    have h6':¬(16:Int)≤(q:Int):=by omega
    have hrd:=sJ.out.aJ (bD.out.aC HW.out)
    rcases Rd.shape hrd with⟨ad,he,h0⟩|⟨b,off,cc,he,hmax⟩
    ·exfalso;omega
    ·injection he with e1 e2 e3
     subst e1 e3
     clear e2
     obtain⟨q0,q1,q2,q3,q4,q5,q6,q7,q8,q9⟩:=Dz hrd q hlk
     clear hrd
     have hm:=getD_mem aZ.zero hlk
     have hbc:=XH.out _ hm
     have hsh:=XI.out _ hm
     have HT:=ah (UL (p:=pW) hlk)
     have HE:=ah (UM (p:=pW) hlk)
     clear hm
     generalize pW (ps.getD q aZ.zero)=y at*
     obtain⟨p,hgd⟩:∃p,p=ps.getD q aZ.zero:=⟨_,rfl⟩
     rw[←hgd]at q0 q1 q2 q3 q4 q5 q6 q7 q8 q9 hbc hsh
     clear hgd
     obtain⟨⟨dc,af,la,u0,u1,u2,u3,es',ks',c'⟩,ev',kv',cv'⟩:=p
     dsimp only at q0 q1 q2 q3 q4 q5 q6 q7 q8 q9 hbc hsh
     obtain⟨a3,c3,a4,c4,a5,c5,rfl,rfl,rfl⟩:=hsh
     have uh:=ah hbc;clear hbc
     generalize es'.length=n' at*
     generalize ks'.len=m' at*
     generalize c'.length=k' at*
     cases y with
     |true=>
      have hyn:tf P=false:=bf fun h=>by
       rcases HD.out.1 h with⟨-,-,-,-,z⟩|⟨z,-⟩|⟨z,-⟩
       ·rw[HE.out rfl]at z;cases z
       ·omega
       ·omega
      have Qe:=ah hyn
      clear HD hyn HE HT
      go_wp2_with(go_at_call 24;refine(uh.out _ (bD.out.aC HW.out)).mono ?_;rintro e w3 ⟨rfl,hw3⟩;have HW3:=ah (HW.out.aC hw3);clear hw3)
      go_ret
      exact⟨by rw[Qe.out];rfl,bD.out.aC HW3.out⟩
     |false=>
      have NW:=ah (show(ps.take (q+1)).any pW=false by rw[HT.out,zu.out];rfl)
      clear HE HT
      go_wp2_with(go_at_call 24;refine(uh.out _ (bD.out.aC HW.out)).mono ?_;rintro e w3 ⟨rfl,hw3⟩;have HW3:=ah (HW.out.aC hw3);clear hw3)
      go_roundw
      case rel=>exact⟨q+1,by omega,by omega,by go_num,NW.out,HW3.out⟩
      case measure=>simp[intOf];omega
  ·obtain rfl:ln=q:=by omega
   have hall:ps.any pW=false:=by
    have:=zu.out
    rwa [List.take_of_length_le (by rw[HLEN.out];exact Nat.le_refl _)]at this
   have hy:tf P=decide (0<ln):=by
    by_cases h0:0<ln
    ·rw[dO (HD.out.2 (.inl ⟨by trivial,pq.out,h0,h16,hall⟩)),decide_eq_true h0]
    ·rw[bf (show ¬P from fun h=>by rcases HD.out.1 h with⟨-,-,z,-⟩|⟨z,-⟩|⟨z,-⟩<;>omega),decide_eq_false h0]
   have HY:=ah hy
   clear HD hall hy hlt hq
   go_wp2
   go_ret
   exact⟨by rw[HY.out];first|rfl|simp,bD.out.aC HW.out⟩
open Go.RowKit
theorem aeW {v0 v1 v2 v3:Int} {es:List aQ} {ks:aS} {c:aX}:su v0 v1 v2 v3 es ks c↔uO es ks c∧(dA c 0=v0∧dA c 1=v1∧dA c 2=v2∧dA c 3=v3):=by
 unfold su uO
 constructor
 ·rintro⟨h1,h2,h3,h4⟩
  exact⟨⟨h1,h4,(UU h1.ctx).1 h2⟩,h3⟩
 ·rintro⟨⟨h1,h2,h3⟩,h4⟩
  exact⟨h1,(UU h1.ctx).2 h3,h4,h2⟩
theorem aeX {es:List aQ} {ks:aS} {c:aX}:DF es ks c↔(es=[]∧ks= .nil)∧c=[]:=by
 constructor
 ·intro h
  obtain⟨h1,h2,h3⟩:=Ob h
  exact⟨⟨h1,h2⟩,h3⟩
 ·rintro⟨⟨rfl,rfl⟩,rfl⟩
  exact⟨rfl,rfl,rfl⟩
theorem Kv (Q:Nat→Prop) (m:bW) (ps:List aZ) (w:World) (lv ev kv cv:Value) (h:mZ Q w m ps lv ev kv cv) (hok:kZ m):
 Calls Tryz.prog 19 #[m.ag lv ev kv cv] w fun e w'=>e= .returned (.bool (tf m.right))∧aj ay w w':=by
 obtain⟨kind,fr,tt,v0,v1,v2,v3,bs,es,ks,c⟩:=m
 have hps:=h.eq
 have hca:=h.eX
 have yx:=hok.st
 have hbs:=h.bs
 have hob:∀p∈ps,jd p.b.es p.b.ks p.b.c:=fun p hp=>hok.each p.b (h.eq▸List.mem_map.2 ⟨p,hp,rfl⟩)
 have hpl:ps.length=bs.length:=h.len
 dsimp only at hps hca yx
 have zx:=ah (fun W (f:aj ay w W)=>acC Q es ks c W ev kv cv (hca.aJ f) yx)
 have Ed:=ah (fun(hs:uO es ks c) W (f:aj ay w W)=>Vj W cv c (Rd.aJ hca.ctx f) hs.1.ctx (by have:=yx.len;omega))
 have pX:=ah (fun W (f:aj ay w W)=>Ot Q Q es ks c [] .nil [] W ev kv cv _ _ _ (hca.aJ f) yx (zH Q W) acQ)
 have yQ:=ah (fun p hp W (f:aj ay w W)=>Vz Q p.b.es p.b.ks p.b.c W p.b.dc p.b.af p.b.la p.b.v0 p.b.v1 p.b.v2 p.b.v3 p.ev p.kv p.cv ((hbs.eX p hp).aJ f) (hob p hp))
 have wM:=ah (fun p hp=>(hbs.eX p hp).shape)
 have qY:=ah (fun W=>La W v0 v1 v2 v3)
 unfold uF at qY
 have hrd:=hbs.rd
 obtain⟨a0,c0,a1,c1,a2,c2,rfl,rfl,rfl⟩:=hca.shape
 obtain⟨al,cl,rfl⟩:=hbs.rd.sl
 clear hca hbs hok yx hob
 dsimp only[bW.ag]
 have oQ:=ah (show bW.right ⟨kind,fr,tt,v0,v1,v2,v3,bs,es,ks,c⟩↔g_ (bP v0 v1 v2 v3)∧(0≤fr∧fr<4)∧(0≤tt∧tt<4)∧fr≠tt∧((kind=1∧((es=[]∧ks= .nil)∧c=[])∧1≤ps.length∧ps.length≤16∧ps.any pW=false)∨(kind=2∧ps.length=0∧uO es ks c∧(dA c 0=v0∧dA c 1=v1∧dA c 2=v2∧dA c 3=v3))∨((kind=3∨kind=4)∧((es=[]∧ks= .nil)∧c=[])∧ps.length=0)) by
  unfold bW.right
  dsimp only
  rw[aeW,aeX,Ve,hps,hpl])
 have bF:=ah (fun W f=>yc w (.int .i64 kind) (.int .i64 fr) (.int .i64 tt) (.int .i64 v0) (.int .i64 v1) (.int .i64 v2) (.int .i64 v3) (.slice al ps.length cl) (.slice a0 es.length c0) (.slice a1 ks.len c1) (.slice a2 c.length c2) 42 W f)
 have bD:=ah (show aj ay w (w.alloc (.cells #[.int .i64 kind, .int .i64 fr, .int .i64 tt, .int .i64 v0, .int .i64 v1, .int .i64 v2, .int .i64 v3, .slice al ps.length cl, .slice a0 es.length c0, .slice a1 ks.len c1, .slice a2 c.length c2] 42))from aj.alloc _ _ _)
 have sJ:=ah hrd
 clear h hrd hpl hps
 by_cases hm:g_ (bP v0 v1 v2 v3)∧(0≤fr∧fr<4)∧(0≤tt∧tt<4)∧fr≠tt
 ·obtain⟨m1,⟨m2,m3⟩,⟨m4,m5⟩,m6⟩:=hm
  rw[dO m1]at qY
  have ug:pU (fun d=>n_ (bQ c d))= #[.int .i64 (dA c 0), .int .i64 (dA c 1), .int .i64 (dA c 2), .int .i64 (dA c 3)]:=rfl
  rw[ug]at Ed
  have X:OB (bW.right ⟨kind,fr,tt,v0,v1,v2,v3,bs,es,ks,c⟩) ((es=[]∧ks= .nil)∧c=[]) (uO es ks c) (dA c 0=v0∧dA c 1=v1∧dA c 2=v2∧dA c 3=v3) ps ps.length es.length ks.len c.length kind fr tt v0 v1 v2 v3 (dA c 0) (dA c 1) (dA c 2) (dA c 3) al a0 a1 a2 cl c0 c1 c2 w:=
   ⟨qY.out,zx.out,Ed.out,Iff.rfl,pX.out,fun p hp W f=>(yQ.out p hp W f).mono fun e w' h=>⟨by rw[h.1];unfold pW;rw[Bool.not_not];rfl,h.2⟩,wM.out,sJ.out,rfl,bF.out,m6,m2,m3,m4,m5,
    ⟨fun h=>(oQ.out.1 h).2.2.2.2,fun h=>oQ.out.2 ⟨m1,⟨m2,m3⟩,⟨m4,m5⟩,m6,h⟩⟩⟩
  by_cases k2:kind=2
  ·exact aeU X k2
  ·exact aeV X k2
 rw[bf (show ¬bW.right ⟨kind,fr,tt,v0,v1,v2,v3,bs,es,ks,c⟩from fun h=>hm ⟨(oQ.out.1 h).1,(oQ.out.1 h).2.1,(oQ.out.1 h).2.2.1,(oQ.out.1 h).2.2.2.1⟩)]
 clear oQ zx Ed pX yQ wM bF sJ
 generalize ps.length=ln at*
 generalize es.length=n at*
 generalize ks.len=m at*
 generalize c.length=k at*
 by_cases m2:fr<0
 ·clear hm qY
  go_enter Tryz.func19,Tryz.ntmps19
  go_wp2
  go_ret
  exact⟨rfl,bD.out⟩
 by_cases m3:4≤fr
 ·clear hm qY
  go_enter Tryz.func19,Tryz.ntmps19
  go_wp2
  go_ret
  exact⟨rfl,bD.out⟩
 by_cases m4:tt<0
 ·clear hm qY
  go_enter Tryz.func19,Tryz.ntmps19
  go_wp2
  go_ret
  exact⟨rfl,bD.out⟩
 by_cases m5:4≤tt
 ·clear hm qY
  go_enter Tryz.func19,Tryz.ntmps19
  go_wp2
  go_ret
  exact⟨rfl,bD.out⟩
 by_cases m6:fr=tt
 ·have m6':((fr:Int)==tt)=true:=by rw[m6];exact beq_self_eq_true _
  clear hm qY m6
  go_enter Tryz.func19,Tryz.ntmps19
  go_wp2
  go_ret
  exact⟨rfl,bD.out⟩
 have m6':((fr:Int)==tt)=false:=beq_false_of_ne m6
 have m1:¬g_ (bP v0 v1 v2 v3):=fun h=>hm ⟨h,⟨by omega,by omega⟩,⟨by omega,by omega⟩,m6⟩
 rw[bf m1]at qY
 clear hm m1 m6
 go_enter Tryz.func19,Tryz.ntmps19
 go_wp2_with(go_at_call 76;refine(qY.out _).mono ?_;rintro e w1 ⟨rfl,hw1⟩;have HW1:=ah (bD.out.aC hw1);clear hw1)
 go_ret
 exact⟨rfl,HW1.out⟩
open Go.RowKit
structure DR (w w1 W:World) (B:Nat) (v:Value) (s:Option (List UInt8)) (cs:Array Value) (ps:List aZ) (lv:Value):Prop where
 rin:bK w1 W v s
 box:W.heap[w1.heap.size]?=some (.cells #[v, .bool s.isNone] 115 (0,0))
 arr:W.heap[B]?=some (.cells cs 42 (0,0))
 res:W.heap[w.heap.size]?=some (.cells #[.int .i64 0, .int .i64 0, .int .i64 0, .int .i64 0, .int .i64 0, .int .i64 0, .int .i64 0, .slice none 0 0, .slice none 0 0, .slice none 0 0, .slice none 0 0] 42 (0,0))
 base:aj ay w w1
 hw:w.heap.size<w1.heap.size
 hB:w1.heap.size<B
 fQ:jq 55 ay (fun k=>k=w1.heap.size∨k=B) w1 W ps lv
 each:lJ (iV w1 (fun k=>k=w1.heap.size∨k=B) lv) W ps
section
variable {w w1 W W1:World} {B:Nat} {v v':Value} {s s':Option (List UInt8)} {cs:Array Value} {ps:List aZ} {lv:Value}
theorem DR.call (h:DR w w1 W B v s cs ps lv) (f:aj ay W W1):DR w w1 W1 B v s cs ps lv:=
 ⟨h.rin.aJ f,f.blk h.box id,f.blk h.arr id,f.blk h.res id,h.base,h.hw,h.hB,h.fQ.aJ f,h.each.pO h.fQ f⟩
theorem DR.put (h:DR w w1 W B v s cs ps lv) (hr:bK w1 W v' s') {b:Bool} (hb:s'.isNone=b):DR w w1 ((W.setCell ⟨w1.heap.size,0,none⟩ v').setCell ⟨w1.heap.size,1,none⟩ (.bool b)) B v' s' cs ps lv:=by
 subst hb
 exact
  have f:=fV W w1.heap.size v' (.bool s'.isNone)
  have fx:aj (fun k=>k=w1.heap.size∨k=B) W ((W.setCell ⟨w1.heap.size,0,none⟩ v').setCell ⟨w1.heap.size,1,none⟩ (.bool s'.isNone)):=f.mono fun _ _ h=> .inl h
  ⟨hr.keep f fun k hk e=>(by have e:k=w1.heap.size:=e;omega),bC (bC h.box 0 v') 1 _,f.blk h.arr fun e=>(by have e:B=w1.heap.size:=e;have:=h.hB;omega),f.blk h.res fun e=>(by have e:w.heap.size=w1.heap.size:=e;have:=h.hw;omega),h.base,h.hw,h.hB,h.fQ.r_ fx,h.each.r_ h.fQ fx⟩
theorem DR.set (h:DR w w1 W B v s cs ps lv) (j:Nat) (u:Value):DR w w1 (W.setCell ⟨B,j,none⟩ u) B v s (cs.setIfInBounds j u) ps lv:=
 have f:=dG W B j u
 have fx:aj (fun k=>k=w1.heap.size∨k=B) W (W.setCell ⟨B,j,none⟩ u):=f.mono fun _ _ h=> .inr h
 ⟨h.rin.keep f fun k hk e=>(by have e:k=B:=e;have:=h.hB;omega),f.blk h.box fun e=>(by have e:w1.heap.size=B:=e;have:=h.hB;omega),bC h.arr j u,f.blk h.res fun e=>(by have e:w.heap.size=B:=e;have:=h.hw;have:=h.hB;omega),h.base,h.hw,h.hB,h.fQ.r_ fx,h.each.r_ h.fQ fx⟩
theorem DR.lB (h:DR w w1 W B v s cs ps lv):B<W.heap.size:=lt_of_block h.arr
theorem DR.lI (h:DR w w1 W B v s cs ps lv):w1.heap.size<W.heap.size:=lt_of_block h.box
theorem DR.old (h:DR w w1 W B v s cs ps lv):aj ay w W:=h.base.aC h.fQ.aH
theorem DR.facts (h:DR w w1 W B v s cs ps lv) {b:Bool} (hb:s.isNone=b):W.cell? ⟨w1.heap.size,0,none⟩=some v∧W.cell? ⟨w1.heap.size,1,none⟩=some (.bool b)∧W.frozen? ⟨w1.heap.size,0,none⟩=false∧W.frozen? ⟨w1.heap.size,1,none⟩=false∧w1.heap.size<W.heap.size∧B<W.heap.size∧¬B=w1.heap.size∧¬w1.heap.size=B:=
 ⟨au h.box 0 rfl,hb▸au h.box 1 rfl,aG h.box 0,aG h.box 1,h.lI,h.lB,by have:=h.hB;omega,by have:=h.hB;omega⟩
theorem DR.step {Y Y1 W2:World} {ad:Option Addr} {n c:Nat} (h:DR w w1 Y1 B v s cs ps lv) {p:aZ} (hY:w1.heap.size<Y.heap.size) (hYB:B<Y.heap.size) (hrow:∀b,lv.ownBlock=some b→b<Y.heap.size)
 (ht:dh (fun b=>Y.heap.size≤b) Y1 p.ev p.kv p.b.es p.b.ks) (hc:dP (fun b=>Y.heap.size≤b) Y1 p.cv p.b.c)
 (own:W2.ownsRow 0 55 10 (.slice ad n c) (ps.length+1) (kR ps++p.cells)) (fm:aj (eY lv) Y1 W2) (fr:gZ Y1 lv (.slice ad n c)):
 DR w w1 (W2.setCell ⟨B,7,none⟩ (.slice ad n c)) B v s (cs.setIfInBounds 7 (.slice ad n c)) (ps++ [p]) (.slice ad n c):=by
 have hno:∀x,x=w1.heap.size∨x=B∨x=w.heap.size→¬eY lv x:=fun x hx hr=>by
  have h2:=h.fQ.new x hr
  have:=h.hw
  rcases hx with hx|hx|hx
  ·exact h2.2 (.inl hx)
  ·exact h2.2 (.inr hx)
  ·omega
 have hfr:∀b,Y.heap.size≤b→iV w1 (fun k=>k=w1.heap.size∨k=B) lv b:=fun b hb=>⟨by omega,fun hx=>by rcases hx with hx|hx<;>omega,fun he=>by have:=hrow b he;omega⟩
 have hp:dh (iV w1 (fun k=>k=w1.heap.size∨k=B) lv) Y1 p.ev p.kv p.b.es p.b.ks∧dP (iV w1 (fun k=>k=w1.heap.size∨k=B) lv) Y1 p.cv p.b.c:=⟨ht.turn fun b _ hq=>⟨rfl,hfr b hq⟩,eH.turn hc fun b _ hq=>⟨rfl,hfr b hq⟩⟩
 have h2:DR w w1 W2 B v s cs (ps++ [p]) (.slice ad n c):=
  ⟨h.rin.keep fm fun k hk hr=>(by have:=(h.fQ.new k hr).1;omega),fm.blk h.box (hno _ (.inl rfl)),fm.blk h.arr (hno _ (.inr (.inl rfl))),fm.blk h.res (hno _ (.inr (.inr rfl))),h.base,h.hw,h.hB,h.fQ.step own fm fr,h.each.step h.fQ hp fm fr⟩
 exact h2.set 7 _
theorem DR.XK (h:DR w w1 W B v s cs ps lv) {W0:World} (f:aj (Only B) W0 W) (hr:bK w1 W0 v' s') {b:Bool} (hb:s'.isNone=b):DR w w1 ((W.setCell ⟨w1.heap.size,0,none⟩ v').setCell ⟨w1.heap.size,1,none⟩ (.bool b)) B v' s' cs ps lv:=
 h.put (hr.keep f fun k hk e=>by have e:k=B:=e;have:=h.hB;omega) hb
theorem DR.vec {kind fr tt a0 a1 a2 a3 v0 v1 v2 v3:Int} (h:DR w w1 W B v s #[.int .i64 kind, .int .i64 fr, .int .i64 tt, .int .i64 a0, .int .i64 a1, .int .i64 a2, .int .i64 a3, .slice none 0 0, .slice none 0 0, .slice none 0 0, .slice none 0 0] ps lv) (f:aj ay W W1) (hr:bK w1 W1 v' s') {b:Bool} (hb:s'.isNone=b):
 DR w w1 ((((((W1.setCell ⟨B,3,none⟩ (.int .i64 v0)).setCell ⟨B,4,none⟩ (.int .i64 v1)).setCell ⟨B,5,none⟩ (.int .i64 v2)).setCell ⟨B,6,none⟩ (.int .i64 v3)).setCell ⟨w1.heap.size,0,none⟩ v').setCell ⟨w1.heap.size,1,none⟩ (.bool b)) B v' s' #[.int .i64 kind, .int .i64 fr, .int .i64 tt, .int .i64 v0, .int .i64 v1, .int .i64 v2, .int .i64 v3, .slice none 0 0, .slice none 0 0, .slice none 0 0, .slice none 0 0] ps lv:=
 have h1:=((((h.call f).set 3 (.int .i64 v0)).set 4 (.int .i64 v1)).set 5 (.int .i64 v2)).set 6 (.int .i64 v3)
 have fr:=(((dG W1 B 3 (.int .i64 v0)).trans (dG _ B 4 (.int .i64 v1)) fun _ _ h=>h).trans (dG _ B 5 (.int .i64 v2)) fun _ _ h=>h).trans (dG _ B 6 (.int .i64 v3)) fun _ _ h=>h
 h1.XK fr hr hb
theorem DR.eX {W8:World} {kind fr tt v0 v1 v2 v3:Int} {ev kv cv:Value} {es:List aQ} {ks:aS} {c:aX} (h:DR w w1 W B v s #[.int .i64 kind, .int .i64 fr, .int .i64 tt, .int .i64 v0, .int .i64 v1, .int .i64 v2, .int .i64 v3,lv, .slice none 0 0, .slice none 0 0, .slice none 0 0] ps lv) (hr:bK w1 W8 v' s') (hf:aj ay W W8) {b:Bool} (hb:s'.isNone=b) (ht:dh (fun b=>W.heap.size≤b) W8 ev kv es ks) (hc:dP (fun b=>W.heap.size≤b) W8 cv c):
 DR w w1 (((((W8.setCell ⟨B,8,none⟩ ev).setCell ⟨B,9,none⟩ kv).setCell ⟨B,10,none⟩ cv).setCell ⟨w1.heap.size,0,none⟩ v').setCell ⟨w1.heap.size,1,none⟩ (.bool b)) B v' s' #[.int .i64 kind, .int .i64 fr, .int .i64 tt, .int .i64 v0, .int .i64 v1, .int .i64 v2, .int .i64 v3,lv,ev,kv,cv] ps lv∧
  dh (iV w1 (fun k=>k=w1.heap.size∨k=B) lv) (((((W8.setCell ⟨B,8,none⟩ ev).setCell ⟨B,9,none⟩ kv).setCell ⟨B,10,none⟩ cv).setCell ⟨w1.heap.size,0,none⟩ v').setCell ⟨w1.heap.size,1,none⟩ (.bool b)) ev kv es ks∧
  dP (iV w1 (fun k=>k=w1.heap.size∨k=B) lv) (((((W8.setCell ⟨B,8,none⟩ ev).setCell ⟨B,9,none⟩ kv).setCell ⟨B,10,none⟩ cv).setCell ⟨w1.heap.size,0,none⟩ v').setCell ⟨w1.heap.size,1,none⟩ (.bool b)) cv c:=by
 have h1:=(((h.call hf).set 8 ev).set 9 kv).set 10 cv
 have f:=((dG W8 B 8 ev).trans (dG _ B 9 kv) fun _ _ h=>h).trans (dG _ B 10 cv) fun _ _ h=>h
 have f2:aj (fun k=>k=w1.heap.size∨k=B) W8 (((((W8.setCell ⟨B,8,none⟩ ev).setCell ⟨B,9,none⟩ kv).setCell ⟨B,10,none⟩ cv).setCell ⟨w1.heap.size,0,none⟩ v').setCell ⟨w1.heap.size,1,none⟩ (.bool b)):=
  (f.mono fun k _ hk=>(.inr hk:k=w1.heap.size∨k=B)).trans ((fV _ w1.heap.size v' (.bool b)).mono fun k _ hk=>(.inl hk:k=w1.heap.size∨k=B)) fun _ _ h=>h
 exact⟨h1.XK f hr hb,ht.turn fun b hb hq=>⟨f2.block b hb fun e=>(h.fQ.fresh b hq).2.1 e,h.fQ.fresh b hq⟩,eH.turn hc fun b hb hq=>⟨f2.block b hb fun e=>(h.fQ.fresh b hq).2.1 e,h.fQ.fresh b hq⟩⟩
theorem DR.took {Z:Obj} {Y1:World} {b:Bool} (h:DR w w1 W B v s cs ps lv) (f1:aj ay (W.alloc Z) Y1) (hr:bK w1 Y1 v' s') (hb:s'.isNone=b) (x0 x1 x2 x3 x4 x5 x6 x7 x8 x9:Value) {es:List aQ} {ks:aS} {c:aX} {ev kv cv:Value} (ht:dh (fun k=>(W.alloc Z).heap.size≤k) Y1 ev kv es ks) (hc:dP (fun k=>(W.alloc Z).heap.size≤k) Y1 cv c):
 DR w w1 (((((((((((((Y1).setCell ⟨W.heap.size,0,none⟩ (x0)).setCell ⟨W.heap.size,1,none⟩ (x1)).setCell ⟨W.heap.size,2,none⟩ (x2)).setCell ⟨W.heap.size,3,none⟩ (x3)).setCell ⟨W.heap.size,4,none⟩ (x4)).setCell ⟨W.heap.size,5,none⟩ (x5)).setCell ⟨W.heap.size,6,none⟩ (x6)).setCell ⟨W.heap.size,7,none⟩ (x7)).setCell ⟨W.heap.size,8,none⟩ (x8)).setCell ⟨W.heap.size,9,none⟩ (x9)).setCell ⟨w1.heap.size,0,none⟩ v').setCell ⟨w1.heap.size,1,none⟩ (.bool b)) B v' s' cs ps lv∧dh (fun k=>W.heap.size≤k) (((((((((((((Y1).setCell ⟨W.heap.size,0,none⟩ (x0)).setCell ⟨W.heap.size,1,none⟩ (x1)).setCell ⟨W.heap.size,2,none⟩ (x2)).setCell ⟨W.heap.size,3,none⟩ (x3)).setCell ⟨W.heap.size,4,none⟩ (x4)).setCell ⟨W.heap.size,5,none⟩ (x5)).setCell ⟨W.heap.size,6,none⟩ (x6)).setCell ⟨W.heap.size,7,none⟩ (x7)).setCell ⟨W.heap.size,8,none⟩ (x8)).setCell ⟨W.heap.size,9,none⟩ (x9)).setCell ⟨w1.heap.size,0,none⟩ v').setCell ⟨w1.heap.size,1,none⟩ (.bool b)) ev kv es ks∧dP (fun k=>W.heap.size≤k) (((((((((((((Y1).setCell ⟨W.heap.size,0,none⟩ (x0)).setCell ⟨W.heap.size,1,none⟩ (x1)).setCell ⟨W.heap.size,2,none⟩ (x2)).setCell ⟨W.heap.size,3,none⟩ (x3)).setCell ⟨W.heap.size,4,none⟩ (x4)).setCell ⟨W.heap.size,5,none⟩ (x5)).setCell ⟨W.heap.size,6,none⟩ (x6)).setCell ⟨W.heap.size,7,none⟩ (x7)).setCell ⟨W.heap.size,8,none⟩ (x8)).setCell ⟨W.heap.size,9,none⟩ (x9)).setCell ⟨w1.heap.size,0,none⟩ v').setCell ⟨w1.heap.size,1,none⟩ (.bool b)) cv c:=by
 have h2:(W.alloc Z).heap.size=W.heap.size+1:=by simp
 have f:=Ea Y1 W.heap.size x0 x1 x2 x3 x4 x5 x6 x7 x8 x9
 have g:=fV (((((((((((Y1).setCell ⟨W.heap.size,0,none⟩ (x0)).setCell ⟨W.heap.size,1,none⟩ (x1)).setCell ⟨W.heap.size,2,none⟩ (x2)).setCell ⟨W.heap.size,3,none⟩ (x3)).setCell ⟨W.heap.size,4,none⟩ (x4)).setCell ⟨W.heap.size,5,none⟩ (x5)).setCell ⟨W.heap.size,6,none⟩ (x6)).setCell ⟨W.heap.size,7,none⟩ (x7)).setCell ⟨W.heap.size,8,none⟩ (x8)).setCell ⟨W.heap.size,9,none⟩ (x9)) w1.heap.size v' (.bool b)
 have fW:aj ay W (((((((((((Y1).setCell ⟨W.heap.size,0,none⟩ (x0)).setCell ⟨W.heap.size,1,none⟩ (x1)).setCell ⟨W.heap.size,2,none⟩ (x2)).setCell ⟨W.heap.size,3,none⟩ (x3)).setCell ⟨W.heap.size,4,none⟩ (x4)).setCell ⟨W.heap.size,5,none⟩ (x5)).setCell ⟨W.heap.size,6,none⟩ (x6)).setCell ⟨W.heap.size,7,none⟩ (x7)).setCell ⟨W.heap.size,8,none⟩ (x8)).setCell ⟨W.heap.size,9,none⟩ (x9)):=((aj.alloc ay W Z).aC f1).trans f fun i hi e=>by have e:i=W.heap.size:=e;omega
 have hl:=h.lI
 have turn:∀k,k<Y1.heap.size→(W.alloc Z).heap.size≤k→(((((((((((((Y1).setCell ⟨W.heap.size,0,none⟩ (x0)).setCell ⟨W.heap.size,1,none⟩ (x1)).setCell ⟨W.heap.size,2,none⟩ (x2)).setCell ⟨W.heap.size,3,none⟩ (x3)).setCell ⟨W.heap.size,4,none⟩ (x4)).setCell ⟨W.heap.size,5,none⟩ (x5)).setCell ⟨W.heap.size,6,none⟩ (x6)).setCell ⟨W.heap.size,7,none⟩ (x7)).setCell ⟨W.heap.size,8,none⟩ (x8)).setCell ⟨W.heap.size,9,none⟩ (x9)).setCell ⟨w1.heap.size,0,none⟩ v').setCell ⟨w1.heap.size,1,none⟩ (.bool b)).heap[k]?=Y1.heap[k]?∧W.heap.size≤k:=fun k hk hq=>by
  rw[h2]at hq
  have e1:=f.block k hk fun e=>by have e:k=W.heap.size:=e;omega
  have e2:=g.block k (by have:=f.size;omega) fun e=>by have e:k=w1.heap.size:=e;omega
  exact⟨e2.trans e1,by omega⟩
 exact⟨(h.call fW).put (hr.keep f fun k hk e=>by have e:k=W.heap.size:=e;omega) hb,ht.turn turn,eH.turn hc turn⟩
end
theorem DR.pY {l:List UInt8} {w w1 W W1:World} {B:Nat} {v:Value} {s:Option (List UInt8)} {cs:Array Value} {ps:List aZ} {lv:Value} (h:DR w w1 W B v s cs ps lv) {k:Int} (hd:sD l k bW.zero) (f:aj (Only w.heap.size) W W1):
 vK l w (.returned (.tuple #[bW.zero.ag (.slice none 0 0) (.slice none 0 0) (.slice none 0 0) (.slice none 0 0), .int .i64 k])) W1:=
 ⟨k,bW.zero,[],_,_,_,_,hd,rfl,JJ _ _,yg,h.old.trans f fun i hi e=>by have e:i=w.heap.size:=e;omega⟩
theorem DR.GH {l:List UInt8} {w w1 W W1:World} {B:Nat} {v:Value} {s:Option (List UInt8)} {cs:Array Value} {ps:List aZ} {lv ev kv cv:Value} (h:DR w w1 W B v s cs ps lv) {m:bW} (hd:sD l 0 m) (he:ps.map (·.b)=m.bs) (hok:kZ m)
 (hc:dh (iV w1 (fun k=>k=w1.heap.size∨k=B) lv) W ev kv m.es m.ks∧dP (iV w1 (fun k=>k=w1.heap.size∨k=B) lv) W cv m.c) (f:aj (Only w.heap.size) W W1):
 vK l w (.returned (.tuple #[m.ag lv ev kv cv, .int .i64 0])) W1:=by
 have hq:∀b,iV w1 (fun k=>k=w1.heap.size∨k=B) lv b→b≠w.heap.size:=fun b hb e=>by
  have:=hb.1
  have:=h.hw
  omega
 have hrow:Rd W1 lv ps.length (kR ps):=(Rd.own h.fQ.own).keep f fun k hk e=>by
  have e:k=w.heap.size:=e
  have:=(h.fQ.new k hk).1
  have:=h.hw
  omega
 refine⟨0,m,ps,lv,ev,kv,cv,hd,rfl,⟨⟨hrow,fun p hp=>?_⟩,he,?_⟩,hok,h.old.trans f fun i hi e=>by have e:i=w.heap.size:=e;omega⟩
 ·obtain⟨h1,h2⟩:=h.each p hp
  exact⟨h1.turn fun b hb hQ=>⟨f.block b hb fun e=>hq b hQ e,trivial⟩,dP.at_ (Q:=fun _=>True) (eH.turn h2 fun b hb hQ=>⟨f.block b hb fun e=>hq b hQ e,trivial⟩)⟩
 ·exact⟨hc.1.turn fun b hb hQ=>⟨f.block b hb fun e=>hq b hQ e,trivial⟩,dP.at_ (Q:=fun _=>True) (eH.turn hc.2 fun b hb hQ=>⟨f.block b hb fun e=>hq b hQ e,trivial⟩)⟩
theorem aeZ {w:World} {b:Nat} {cs:Array Value} {T:TypeId} (h:w.heap[b]?=some (.cells cs T (0,0))):w.frozen? ⟨b,0,none⟩=false∧w.frozen? ⟨b,1,none⟩=false∧w.frozen? ⟨b,2,none⟩=false∧w.frozen? ⟨b,3,none⟩=false∧w.frozen? ⟨b,4,none⟩=false∧w.frozen? ⟨b,5,none⟩=false∧w.frozen? ⟨b,6,none⟩=false∧w.frozen? ⟨b,7,none⟩=false∧w.frozen? ⟨b,8,none⟩=false∧w.frozen? ⟨b,9,none⟩=false∧b<w.heap.size:=
 ⟨aG h 0,aG h 1,aG h 2,aG h 3,aG h 4,aG h 5,aG h 6,aG h 7,aG h 8,aG h 9,lt_of_block h⟩
theorem XL {w:World} {b:Nat} {a0 a1 a2 a3 a4 a5 a6 a7 a8 a9:Value} {T:TypeId} (h:w.heap[b]?=some (.cells #[a0,a1,a2,a3,a4,a5,a6,a7,a8,a9] T (0,0))):w.cell? ⟨b,0,none⟩=some a0∧w.cell? ⟨b,1,none⟩=some a1∧w.cell? ⟨b,2,none⟩=some a2∧w.cell? ⟨b,3,none⟩=some a3∧w.cell? ⟨b,4,none⟩=some a4∧w.cell? ⟨b,5,none⟩=some a5∧w.cell? ⟨b,6,none⟩=some a6∧w.cell? ⟨b,7,none⟩=some a7∧w.cell? ⟨b,8,none⟩=some a8∧w.cell? ⟨b,9,none⟩=some a9:=
 ⟨au h 0 rfl,au h 1 rfl,au h 2 rfl,au h 3 rfl,au h 4 rfl,au h 5 rfl,au h 6 rfl,au h 7 rfl,au h 8 rfl,au h 9 rfl⟩
theorem dH.two {w:World} {v:Value} {bs:List UInt8} (h:bK w w v (some bs)) (T:TypeId) (cs:Array Value):dH w w (w.alloc (.cells #[v, .bool false] 115)) ((w.alloc (.cells #[v, .bool false] 115)).alloc (.cells cs T)) (w.heap.size+1) T cs v (some bs):=by
 have h2:(w.alloc (.cells #[v, .bool false] 115)).heap.size=w.heap.size+1:=by simp
 have hb:=heap_alloc_new (w.alloc (.cells #[v, .bool false] 115)) (.cells cs T)
 rw[h2]at hb
 exact⟨(h.aJ (aj.alloc _ _ _)).aJ (aj.alloc _ _ _),(aj.alloc ay _ _).blk (heap_alloc_new w _) id,hb,aj.alloc _ _ _,by rw[h2];exact Nat.le_refl _,by rw[h2];exact Nat.lt_succ_self _,Nat.le_refl _⟩
theorem DR.start {w w1 WO:World} {v:Value} {s:Option (List UInt8)} {T3:TypeId} {c3:Array Value} {Z:Obj} (hs:dH w1 w1 (w1.alloc Z) WO (w1.heap.size+1) T3 c3 v s) (hf:aj ay w w1) (hw:w.heap.size<w1.heap.size) (hb:w1.heap[w.heap.size]?=some (.cells #[.int .i64 0, .int .i64 0, .int .i64 0, .int .i64 0, .int .i64 0, .int .i64 0, .int .i64 0, .slice none 0 0, .slice none 0 0, .slice none 0 0, .slice none 0 0] 42 (0,0))) (cs:Array Value):
 DR w w1 (WO.alloc (.cells cs 42)) WO.heap.size v s cs [] (.slice none 0 0):=by
 have h2:(WO.alloc (.cells cs 42)).heap.size=WO.heap.size+1:=by simp
 have hl:=lt_of_block hs.box
 have fO:aj ay w1 WO:=(aj.alloc ay w1 Z).trans hs.aH fun i hi e=>by have e:i=w1.heap.size:=e;omega
 have fW:aj ay w1 (WO.alloc (.cells cs 42)):=fO.aC (aj.alloc ay _ _)
 exact⟨hs.rin.aJ (aj.alloc _ _ _),(aj.alloc ay _ _).blk hs.box id,heap_alloc_new WO _,fW.blk hb id,hf,hw,hl,jq.start (fun _ h=>h.elim) (fun k hk=>by rcases hk with hk|hk<;>omega) (fun k hk=>by rcases hk with hk|hk<;>omega) fW,lJ.nil _ _⟩
theorem ae0 {w:World} {v:Value} {bs:List UInt8} (h:Rd w v bs.length (bV bs)) (hk:∀k,v.ownBlock=some k→k<w.heap.size):bK w w v (some bs):=⟨⟨rfl,h⟩,fun _=>hk⟩
theorem ae1 (l:List UInt8) (v:Value) (w:World) (h:Rd w v l.length (bV l)) (h0:aT.gX l≠0):Calls Tryz.prog 63 #[v] w fun e w'=>e= .returned (.tuple #[.slice none 0 0, .int .i64 (aT.gX l)])∧aj ay w w':=
 (Xo l v w h).mono fun e w' hp=>by unfold zN at hp;rwa [if_neg h0]at hp
theorem ae2 (l:List UInt8) (v:Value) (w:World) (h:Rd w v l.length (bV l)) (h0:aT.gX l=0):Calls Tryz.prog 63 #[v] w fun e w'=>∃a c t,t=aT.jI l∧e= .returned (.tuple #[.slice a t.length c, .int .i64 0])∧Copy w (.slice a t.length c) t w':=
 (Xo l v w h).mono fun e w' hp=>by
   unfold zN at hp
   rw[if_pos h0]at hp
   obtain⟨a,c,h1,h2⟩:=hp
   exact⟨a,c,_,rfl,h1,h2⟩
end Go.Proofs.YtabkpccdnkjoiaaGreat
