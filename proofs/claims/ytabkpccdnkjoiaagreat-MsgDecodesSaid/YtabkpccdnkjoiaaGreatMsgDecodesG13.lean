/- Words for the law MsgDecodes: Raw, Fails, INum, Unlike, IText, Steps, Enc. -/
import Derived.Test.YtabkpccdnkjoiaaGreatMsgDecodesG0
import Derived.Test.YtabkpccdnkjoiaaGreatMsgDecodesG8
import Derived.Test.YtabkpccdnkjoiaaGreatMsgDecodesG9
import Derived.Test.YtabkpccdnkjoiaaGreatMsgDecodesG12
import Derived.Deep.QuietTactic
import Derived.BigQuiet
import Derived.OpenShut
set_option linter.unusedSimpArgs false
set_option linter.unusedVariables false
set_option maxHeartbeats 32000000
set_option maxRecDepth 1000000
namespace Go.Proofs.YtabkpccdnkjoiaaGreat
open Go.RowKit
theorem Jh (k:Nat):(2:Nat)^(7*k)=128^k:=by rw[Nat.pow_mul]
theorem aaR {k:Nat} (h:k<9):128^k*128≤9223372036854775808:=by
 have h1:128^(k+1)≤128^9:=Nat.pow_le_pow_right (by omega) (by omega)
 rw[yY]at h1
 have h3:(128:Nat)^9=9223372036854775808:=by decide
 omega
theorem MP {u0 x k:Nat} (hk:k<9) (hu:u0<128^k) (hx:x<128):bits BinOp.or IntKind.u64 (u0:Int) (IntKind.u64.wrap ((x:Int)*2^(7*k)))=((u0+x*128^k:Nat):Int):=by
 have hp:=aaR hk
 have hm:x*128^k≤127*128^k:=Nat.mul_le_mul_right _ (by omega)
 have e:((x:Int)*2^(7*k))=((x*128^k:Nat):Int):=by rw[←Jh];simp
 rw[e,IntWalk.u64_in _ (by omega),u64_or_nat _ _ (by omega) (by omega)]
 congr 1
 rw[Nat.or_comm,nat_join (7*k) (x*128^k) u0 (by rw[Jh];exact Nat.mul_mod_left _ _) (by rw[Jh];exact hu)]
 omega
theorem aaS {u0 x:Nat} (hu:u0<128^9) (hx:x≤1):bits BinOp.or IntKind.u64 (u0:Int) (IntKind.u64.wrap ((x:Int)*9223372036854775808))=((u0+x*128^9:Nat):Int):=by
 have h3:(128:Nat)^9=9223372036854775808:=by decide
 rw[h3]at hu⊢
 have e:((x:Int)*9223372036854775808)=((x*9223372036854775808:Nat):Int):=by simp
 have hm:x*9223372036854775808≤9223372036854775808:=by omega
 rw[e,IntWalk.u64_in _ (by omega),u64_or_nat _ _ (by omega) (by omega)]
 congr 1
 have h63:(2:Nat)^63=9223372036854775808:=by decide
 rw[Nat.or_comm,nat_join 63 (x*9223372036854775808) u0 (by rw[h63];exact Nat.mul_mod_left _ _) (by rw[h63];exact hu)]
 omega
theorem Tc {c:Nat} (h:c<256):bits BinOp.andNot IntKind.u8 (c:Int) 128=((c%128:Nat):Int):=by
 rw[show(128:Int)=((128:Nat):Int)from rfl,u8_andNot_nat _ _ h (by omega)]
 congr 1
 exact nat_mask7 c
theorem Td {c:Nat} (h:c<256):bits BinOp.and IntKind.u8 (c:Int) 128=if c<128 then 0 else 128:=by
 rw[show(128:Int)=((128:Nat):Int)from rfl,u8_and_nat _ _ h (by omega)]
 have hd:∀c,c<256→c&&&128=if c<128 then 0 else 128:=by decide+kernel
 rw[hd c h]
 split<;>rfl
theorem Tf (ib:Nat) (v:Value) (bs rest:List UInt8) (n:Nat) (w:World) (h:uM w ib v bs) (hb:bs=vl n++rest) (hn:n<18446744073709551616):
 Calls Tryz.prog 122 #[.pointer (some ⟨ib,0,none⟩)] w fun e w'=>e= .returned (.tuple #[.int .u64 n, .bool true])∧
  ∃v',uM w' ib v' rest∧(v'.ownBlock=v.ownBlock)∧aj (Only ib) w w':=by
 have hpos:=Jc n
 rcases h.rd with⟨ad,rfl,h0,_⟩|⟨b,off,c,rfl,hc1,hc2,hcell⟩
 ·exfalso
  rw[hb,List.length_append]at h0
  omega
 ·have hi0:=oM h.cells 0 rfl
  have hf0:=free_at h.cells 0
  have hl63:bs.length≤9223372036854775807:=Nat.le_trans hc1 hc2
  have hlen:(vl n).length≤bs.length:=by rw[hb,List.length_append];omega
  have aaT:=Bj hn
  have HH:=ah h;clear h
  have HB:=ah hb;clear hb
  have HN:=ah hn;clear hn
  have HC:=ah hcell;clear hcell
  generalize hL:bs.length=L at*
  have HL:=ah hL;clear hL
  generalize hM:(vl n).length=M at*
  have HM:=ah hM;clear hM
  have HC2:=ah hc2;clear hc2
  go_enter Tryz.func122,Tryz.ntmps122
  go_wp2
  go_loop [4,12] (fun u i=>∃k:Nat,k<M∧i= .int .i64 k∧u= .int .u64 (n%128^k:Nat)) (fun _ i=>M-(intOf i).toNat)
  case atStart=>exact⟨0,by omega,rfl,by simp[Nat.mod_one]⟩
  case round=>
   obtain⟨k,hk,rfl,rfl⟩:=hrel
   obtain⟨hk',h9,h1,hm,hlast,hend,hmore⟩:=SQ HB.out HN.out (by rw[HM.out];exact hk)
   have hcl:w.cell? ⟨b,off+k,none⟩=some (.int .u8 (bs[k].toNat:Int)):=HC.out k _ (by simp[bV,hk'])
   generalize hbk:bs[k]=ck at*
   have hlt:=ck.toNat_lt
   generalize hu:n%128^k=u0 at*
   generalize hcn:ck.toNat=c0 at*
   have MQ:k<L:=by rw[←HL.out];exact hk'
   have A1:=ah hm;clear hm
   have A2:=ah hlast;clear hlast
   have A3:=ah hend;clear hend
   have A4:=ah hmore;clear hmore
   have A5:=ah hu;clear hu
   have A6:=ah hcn;clear hcn
   have A7:=ah hbk;clear hbk
   have hx:c0%128<128:=Nat.mod_lt _ (by omega)
   have hand:=Tc (c:=c0) (by omega)
   have hand2:=Td (c:=c0) (by omega)
   have hu0:u0<128^k:=by rw[←A5.out];exact Nat.mod_lt _ (aaK k)
   have hu1:u0+c0%128*128^k=n%128^(k+1):=by rw[←A5.out,A1.out];exact SS n k
   by_cases hc:c0<128
   ·have hfin:∀(v':Value) (u1:Nat),(∃m c',v'= .slice (some ⟨b,off,none⟩) m c'∧m=0∧c'=0∧k+1=c)∨v'= .slice (some ⟨b,off+(k+1),none⟩) (L-(k+1)) (c-(k+1))→u1=n→
     Ending.returned (.tuple #[.int .u64 u1, .bool true])= .returned (.tuple #[.int .u64 n, .bool true])∧∃v'',uM (w.setCell ⟨ib,0,none⟩ v') ib v'' rest∧(v''.ownBlock=some b)∧aj (Only ib) w (w.setCell ⟨ib,0,none⟩ v'):=by
     intro v' u1 hv hu
     refine⟨by rw[hu],v',⟨?_,?_,?_⟩,?_,dG w ib 0 _⟩
     ·have:=Jg HH.out.cells 0 v'
      simpa using this
     ·have yZ:k+1=M:=by rw[←HM.out];exact A2.out.1 hc
      have hrl:rest.length=L-(k+1):=by
       have h1:=HL.out;have h2:=HM.out;have h3:=congrArg List.length HB.out
       rw[List.length_append]at h3;omega
      have hap:ib≠b:=fun e=>HH.out.apart (by rw[e];rfl)
      rcases hv with⟨m,c',rfl,rfl,rfl,hkc⟩|rfl
      ·have:rest=[]:=List.eq_nil_of_length_eq_zero (by omega)
       subst this
       exact .inl ⟨_,rfl,rfl,rfl⟩
      ·refine .inr ⟨b,off+(k+1),c-(k+1),by rw[hrl],by omega,by have:=HC2.out;omega,fun j u hu=>?_⟩
       refine(dG w ib 0 _).cell' ?_ (fun h=>hap h.symm)
       have h1:=HC.out (k+1+j) u (by
        rw[HB.out,wX,List.getElem?_append_right (by rw[Kz];have:=HM.out;omega)]
        have e:k+1+j-(bV (vl n)).length=j:=by rw[Kz,HM.out];omega
        rw[e];exact hu)
       rw[←Nat.add_assoc]at h1
       exact h1
     ·rcases hv with⟨m,c',rfl,_⟩|rfl
      ·exact HH.out.apart
      ·exact HH.out.apart
     ·rcases hv with⟨m,c',rfl,_⟩|rfl<;>rfl
    have FIN:=ah hfin;clear hfin
    rw[if_pos hc]at hand2
    have hend:=A3.out hc
    have hun:u0+c0%128*128^k=n:=by
     rw[←A5.out,Nat.mod_eq_of_lt hc,←hend.1];exact aaN n k
    rcases(show k=9∨k<9 by omega)with rfl|hk9
    ·have hc1:c0≤1:=h1 rfl
     have hz0:((c0:Int)==0)=false:=beq_false_of_ne (by have:=hend.2;omega)
     have hor:=aaS (x:=c0%128) hu0 (by omega)
     rw[hun]at hor
     generalize c0%128=x at*
     clear hun hend hu1 hu0 h1
     by_cases hcap:9+1=c
     ·go_wp2
      go_ret2
      exact FIN.out _ n (.inl ⟨_,_,rfl,by omega,by omega,hcap⟩) rfl
     ·go_wp2
      go_ret2
      exact FIN.out _ n (.inr rfl) rfl
    ·have MR:((k:Int)==9)=false:=beq_false_of_ne (by omega)
     have hor:=MP hk9 hu0 hx
     rw[hun]at hor
     by_cases MS:c0=0
     ·have hk0:k=0:=by have:=hend.2;omega
      subst hk0
      subst MS
      obtain rfl:u0=0:=by simpa using hu0
      obtain rfl:n=0:=by simpa using hun.symm
      have z1:bits BinOp.andNot IntKind.u8 0 128=0:=by kernel_rfl
      have z2:bits BinOp.and IntKind.u8 0 128=0:=by kernel_rfl
      have z3:bits BinOp.or IntKind.u64 0 0=0:=by kernel_rfl
      have hcl0:w.cell? ⟨b,off,none⟩=some (.int .u8 0):=hcl
      clear hun hend hu1 hu0 h1 hand hand2 hor MR hx hcl
      by_cases hcap:c=1
      ·go_wp2
       go_ret2
       exact FIN.out _ 0 (.inl ⟨_,_,rfl,by omega,by omega,by omega⟩) rfl
      ·go_wp2
       go_ret2
       exact FIN.out _ 0 (.inr rfl) rfl
     ·have hz0:((c0:Int)==0)=false:=beq_false_of_ne (by omega)
      generalize c0%128=x at*
      clear hun hend hu1 hu0 h1
      by_cases hcap:k+1=c
      ·go_wp2
       go_ret2
       exact FIN.out _ n (.inl ⟨_,_,rfl,by omega,by omega,hcap⟩) rfl
      ·go_wp2
       go_ret2
       exact FIN.out _ n (.inr rfl) rfl
   ·rw[if_neg hc]at hand2
    have hk9:k<9:=by
     rcases Nat.lt_or_ge k 9 with h|h
     ·exact h
     ·have:=h1 (by omega);omega
    have MR:((k:Int)==9)=false:=beq_false_of_ne (by omega)
    have hor:=MP hk9 hu0 hx
    rw[hu1]at hor
    have yZ:k+1<M:=by rw[←HM.out];exact A4.out (by omega)
    clear hu1 hu0
    generalize c0%128=x at*
    generalize hz:n%128^(k+1)=u1 at*
    have HZ:=ah hz;clear hz
    clear h1
    go_wp2
    go_round
    case rel=>exact⟨k+1,by omega,by go_num,by rw[HZ.out]⟩
    case measure=>simp[intOf];omega
theorem aaU (ib:Nat) (v:Value) (bs:List UInt8) (w:World) (h:uM w ib v bs) (hno:∀n rest,n<18446744073709551616→bs≠vl n++rest):
 Calls Tryz.prog 122 #[.pointer (some ⟨ib,0,none⟩)] w fun e w'=>e= .returned (.tuple #[.int .u64 0, .bool false])∧w=w':=by
 rcases h.rd with⟨ad,rfl,h0,_⟩|⟨b,off,c,rfl,hc1,hc2,hcell⟩
 ·have hi0:w.cell? ⟨ib,0,none⟩=some (.slice ad 0 0):=oM h.cells 0 rfl
  clear h hno h0
  go_enter Tryz.func122,Tryz.ntmps122
  go_wp2
  go_loop [4,12] (fun u i=>u= .int .u64 0∧i= .int .i64 0) (fun _ i=>0)
  case atStart=>exact⟨rfl,rfl⟩
  case round=>
   obtain⟨rfl,rfl⟩:=hrel
   go_wp2
   go_ret2
   exact⟨rfl,rfl⟩
 ·have hi0:=oM h.cells 0 rfl
  have hl63:bs.length≤9223372036854775807:=Nat.le_trans hc1 hc2
  have eP:=ah hno;clear hno
  have HC:=ah hcell;clear hcell
  clear h
  generalize hL:bs.length=L at*
  have HL:=ah hL;clear hL
  clear hc2
  go_enter Tryz.func122,Tryz.ntmps122
  go_wp2
  go_loop [4,12] (fun u i=>∃(k u0:Nat),k≤L∧k≤10∧i= .int .i64 k∧u= .int .u64 u0∧(k≤9→u0<128^k∧xP bs k u0)) (fun _ i=>L-(intOf i).toNat)
  case atStart=>exact⟨0,0,by omega,by omega,rfl,rfl,fun _=>⟨by simp,xP.zero bs⟩⟩
  case round=>
   obtain⟨k,u0,hk,h10,rfl,rfl,hP⟩:=hrel
   have HP:=ah hP;clear hP
   by_cases hlt:k<L
   ·have hk':k<bs.length:=by rw[HL.out];exact hlt
    have hcl:w.cell? ⟨b,off+k,none⟩=some (.int .u8 (bs[k].toNat:Int)):=HC.out k _ (by simp[bV,hk'])
    generalize hbk:bs[k]=ck at*
    have Ti:=ck.toNat_lt
    generalize hcn:ck.toNat=c0 at*
    have MV:=ah hcn;clear hcn
    have jP:=ah hbk;clear hbk
    by_cases hk9:10≤k
    ·go_wp2
     go_ret2
     exact⟨rfl,rfl⟩
    ·obtain⟨hu0,hpf⟩:=HP.out (by omega)
     have hlast:c0<128→(1≤c0∨k=0)→(k=9→c0≤1)→False:=fun h1 h2 h3=>by
      have hb:bs[k].toNat=c0:=by rw[jP.out,MV.out]
      have e:=hpf.last hk' (by omega) (by rw[hb];exact h2) (fun h0=>by subst h0;simpa using hu0)
      rw[hb]at e
      exact eP.out _ _ (aaM (by omega) hu0 h1 h3) e
     have IB:=ah hlast;clear hlast
     have hx:c0%128<128:=Nat.mod_lt _ (by omega)
     have hand:=Tc (c:=c0) (by omega)
     have hand2:=Td (c:=c0) (by omega)
     rcases(show k=9∨k<9 by omega)with rfl|aaV
     ·by_cases hc1:1<c0
      ·clear hand hand2 hx hpf hu0
       go_wp2
       go_ret2
       exact⟨rfl,rfl⟩
      ·have MS:c0=0:=by
        rcases Nat.eq_zero_or_pos c0 with h|h
        ·exact h
        ·exact(IB.out (by omega) (.inl h) (by omega)).elim
       subst MS
       have hcl0:w.cell? ⟨b,off+9,none⟩=some (.int .u8 0):=hcl
       have z1:bits BinOp.andNot IntKind.u8 0 128=0:=by kernel_rfl
       have z2:bits BinOp.and IntKind.u8 0 128=0:=by kernel_rfl
       clear hand hand2 hx hpf hu0 hcl Ti hc1
       go_wp2
       go_ret2
       exact⟨rfl,rfl⟩
     ·have MR:((k:Int)==9)=false:=beq_false_of_ne (by omega)
      by_cases hc:c0<128
      ·have hkc:c0=0∧0<k:=by
        by_cases h2:1≤c0∨k=0
        ·exact(IB.out hc h2 (by omega)).elim
        ·omega
       obtain⟨rfl,hk0⟩:=hkc
       have hcl0:w.cell? ⟨b,off+k,none⟩=some (.int .u8 0):=hcl
       have z1:bits BinOp.andNot IntKind.u8 0 128=0:=by kernel_rfl
       have z2:bits BinOp.and IntKind.u8 0 128=0:=by kernel_rfl
       clear hand hand2 hx hpf hu0 hcl Ti hc
       go_wp2
       go_ret2
       exact⟨rfl,rfl⟩
      ·rw[if_neg hc]at hand2
       have hor:=MP aaV hu0 hx
       have hs:=hpf.step hk' (by rw[jP.out,MV.out];omega)
       rw[jP.out,MV.out]at hs
       have hu1:u0+c0%128*128^k<128^(k+1):=by
        have hm:c0%128*128^k≤127*128^k:=Nat.mul_le_mul_right _ (by omega)
        rw[yY];omega
       generalize c0%128=x at*
       generalize u0+x*128^k=u1 at*
       have HS:=ah hs;clear hs
       have HU:=ah hu1;clear hu1
       clear hpf hu0
       go_wp2
       go_round
       case rel=>exact⟨k+1,u1,by omega,by omega,by go_num,rfl,fun _=>⟨HU.out,HS.out⟩⟩
       case measure=>simp[intOf];omega
   ·go_wp2
    go_ret2
    exact⟨rfl,rfl⟩
end Go.Proofs.YtabkpccdnkjoiaaGreat
namespace Go.Proofs.YtabkpccdnkjoiaaGreat
open Go.RowKit Go.WideShapes
theorem aaW (ib:Nat) (m:Int) (w:World) (h:Dk w ib):Calls Tryz.prog 56 #[.pointer (some ⟨ib,0,none⟩), .int .i64 m] w fun e w'=>e= .returned (.int .i64 0)∧w=w':=by
 have c1:=oM (show w.heap[ib]?=_ from h) 1 rfl
 clear h
 go_enter Tryz.func56,Tryz.ntmps56
 go_wp2
 go_ret
 exact⟨rfl,rfl⟩
open Go.RowKit
theorem Tj (n:Nat) (h:n<18446744073709551616):bits BinOp.xor IntKind.i64 ((n:Int)/2) (-((n:Int)%2))=qC n:=by
 have e1:((n:Int)/2)=((n/2:Nat):Int):=by omega
 rw[e1]
 show IntKind.i64.wrap ((BitVec.ofInt 64 ((n/2:Nat):Int)^^^BitVec.ofInt 64 (-((n:Int)%2))).toNat:Int)=_
 rw[BitVec.toNat_xor,ofInt_u64 (n/2) (by omega)]
 rcases Nat.mod_two_eq_zero_or_one n with h2|h2
 ·have e2:(-((n:Int)%2))=((0:Nat):Int):=by omega
  rw[e2,ofInt_u64 0 (by omega),Nat.xor_zero,IntKind.wrap_i64]
  unfold qC
  rw[if_pos h2]
  omega
 ·have e2:(-((n:Int)%2))=-1:=by omega
  have e3:(BitVec.ofInt 64 (-1)).toNat=2^64-1:=by decide
  rw[e2,e3,SC _ (by omega),IntKind.wrap_i64]
  unfold qC
  rw[if_neg (by omega)]
  omega
def dw (st:Option (List UInt8)) (m v:Int) (st':Option (List UInt8)):Prop:=
 match st with
 |none=>v=0∧st'=none
 |some bs=>(∃r,Begins bs v r∧0≤m∧v≤m∧-m≤v∧st'=some r)∨((∀u r,Begins bs u r→m<0∨m<u∨u< -m)∧v=0∧st'=none)
theorem dw.b_ {st:Option (List UInt8)} {m v u:Int} {s t:Option (List UInt8)} (h:dw st m v s) (k:dw st m u t):v=u∧s=t:=by
 cases st with
 |none=>exact⟨h.1.trans k.1.symm,h.2.trans k.2.symm⟩
 |some bs=>
  rcases h with⟨r,h1,h2,h3,h4,h5⟩|⟨h1,h2,h3⟩<;>rcases k with⟨r',k1,k2,k3,k4,k5⟩|⟨k1,k2,k3⟩
  ·obtain⟨e1,e2⟩:=h1.unique k1
   exact⟨e1,by rw[h5,k5,e2]⟩
  ·have:=k1 _ _ h1;omega
  ·have:=h1 _ _ k1;omega
  ·exact⟨by rw[h2,k2],by rw[h3,k3]⟩
theorem aaX (ib:Nat) (v:Value) (bs r:List UInt8) (u m:Int) (w:World) (h:uM w ib v bs) (hb:Begins bs u r) (hm:0≤m∧u≤m∧-m≤u) (hm2:m≤9223372036854775807):
 Calls Tryz.prog 56 #[.pointer (some ⟨ib,0,none⟩), .int .i64 m] w fun e w'=>e= .returned (.int .i64 u)∧∃v',uM w' ib v' r∧v'.ownBlock=v.ownBlock∧aj (Only ib) w w':=by
 have hn:=hb.vl
 have hr:=Tf ib v bs r (zz u) w h hn.2 hn.1
 have hx:=Tj (zz u) hn.1
 have ha:=and_one_u64 (zz u) (by omega) (by have:=hn.1;omega)
 rw[Je]at hx
 have c1:=oM h.cells 1 rfl
 have hnb:=hn.1
 have HR:=ah hr;clear hr
 generalize zz u=n at*
 obtain⟨h0,h1,h2⟩:=hm
 clear h hb hn
 have hw1:IntKind.i64.wrap ((n:Int)/2)=(n:Int)/2:=IntWalk.i64_in _ (by omega)
 have hw2:IntKind.i64.wrap ((n:Int)%2)=(n:Int)%2:=IntWalk.i64_in _ (by omega)
 have hw3:IntKind.i64.wrap (-((n:Int)%2))=-((n:Int)%2):=IntWalk.i64_in _ (by omega)
 have A_:=ah hnb;clear hnb
 go_enter Tryz.func56,Tryz.ntmps56
 go_wp2_with(go_at_call 122;refine HR.out.mono ?_)
 rintro e w1 ⟨rfl,v',hv',hown,hfm⟩
 have H1:=ah hv';clear hv'
 have H2:=ah hown;clear hown
 have H3:=ah hfm;clear hfm
 go_wp2
 go_ret
 exact⟨rfl,v',H1.out,H2.out,H3.out⟩
theorem aaY (ib:Nat) (v:Value) (bs:List UInt8) (m:Int) (w:World) (h:uM w ib v bs) (hb:Jf bs):
 Calls Tryz.prog 56 #[.pointer (some ⟨ib,0,none⟩), .int .i64 m] w fun e w'=>e= .returned (.int .i64 0)∧Dk w' ib∧aj (Only ib) w w':=by
 have hr:=aaU ib v bs w h fun n rest hn e=>hb _ _ (Begins.aaP hn e)
 have hf:=pG ib v false w h.cells
 have c1:=oM h.cells 1 rfl
 have HR:=ah hr;clear hr
 have HF:=ah hf;clear hf
 clear h hb
 have z1:bits BinOp.and IntKind.u64 0 1=0:=by kernel_rfl
 have z2:bits BinOp.xor IntKind.i64 0 0=0:=by kernel_rfl
 go_enter Tryz.func56,Tryz.ntmps56
 go_wp2_with(go_at_call 122;refine HR.out.mono ?_)
 rintro e w1 ⟨rfl,rfl⟩
 go_wp2_with(go_at_call 123;refine HF.out.mono ?_)
 rintro e w2 ⟨rfl,hbad,hfm⟩
 have H1:=ah hbad;clear hbad
 have H2:=ah hfm;clear hfm
 go_wp2
 go_ret
 exact⟨rfl,H1.out,H2.out⟩
theorem aaZ (ib:Nat) (v:Value) (bs r:List UInt8) (u m:Int) (w:World) (h:uM w ib v bs) (hb:Begins bs u r) (hm:m<0∨m<u∨u< -m) (hm2:m≤9223372036854775807) (jG:-9223372036854775808≤m):
 Calls Tryz.prog 56 #[.pointer (some ⟨ib,0,none⟩), .int .i64 m] w fun e w'=>e= .returned (.int .i64 0)∧Dk w' ib∧aj (Only ib) w w':=by
 have hn:=hb.vl
 have hr:=Tf ib v bs r (zz u) w h hn.2 hn.1
 have hx:=Tj (zz u) hn.1
 have ha:=and_one_u64 (zz u) (by omega) (by have:=hn.1;omega)
 rw[Je]at hx
 have c1:=oM h.cells 1 rfl
 have hnb:=hn.1
 have HR:=ah hr;clear hr
 generalize zz u=n at*
 clear h hb hn
 have hw1:IntKind.i64.wrap ((n:Int)/2)=(n:Int)/2:=IntWalk.i64_in _ (by omega)
 have hw2:IntKind.i64.wrap ((n:Int)%2)=(n:Int)%2:=IntWalk.i64_in _ (by omega)
 have hw3:IntKind.i64.wrap (-((n:Int)%2))=-((n:Int)%2):=IntWalk.i64_in _ (by omega)
 have A_:=ah hnb;clear hnb
 rcases(show m<0∨(0≤m∧m<u)∨(0≤m∧u≤m∧u< -m) by omega)with h0|⟨h0,h1⟩|⟨h0,h1,h2⟩
 all_goals
  clear hm
  go_enter Tryz.func56,Tryz.ntmps56
  go_wp2_with(go_at_call 122;refine HR.out.mono ?_)
  rintro e w1 ⟨rfl,v',hv',hown,hfm⟩
  have hf:=pG ib v' false w1 hv'.cells
  have HF:=ah hf;clear hf
  have H3:=ah hfm;clear hfm
  clear hv' hown
  go_wp2_with(go_at_call 123;refine HF.out.mono ?_)
  rintro e w2 ⟨rfl,hbad,hfm⟩
  have H1:=ah hbad;clear hbad
  have H2:=ah hfm;clear hfm
  go_wp2
  go_ret
  exact⟨rfl,H1.out,H3.out.trans H2.out fun _ _ h=>h⟩
theorem Tn (ib:Nat) (st:Option (List UInt8)) (m:Int) (w:World) (h:dJ w ib st) (hm2:m≤9223372036854775807) (jG:-9223372036854775808≤m):
 Calls Tryz.prog 56 #[.pointer (some ⟨ib,0,none⟩), .int .i64 m] w fun e w'=>∃v st',e= .returned (.int .i64 v)∧dw st m v st'∧dJ w' ib st'∧aj (Only ib) w w':=by
 cases st with
 |none=>exact(aaW ib m w h).mono fun e w' ⟨he,hw⟩=>⟨0,none,he,⟨rfl,rfl⟩,by subst hw;exact⟨h,aj.refl _ _⟩⟩
 |some bs=>
  obtain⟨v,hv,hlt⟩:=h
  by_cases hb:∃u r,Begins bs u r
  ·obtain⟨u,r,hb⟩:=hb
   by_cases hm:0≤m∧u≤m∧-m≤u
   ·exact(aaX ib v bs r u m w hv hb hm hm2).mono fun e w' ⟨he,v',h1,h2,h3⟩=>⟨u,some r,he, .inl ⟨r,hb,hm.1,hm.2.1,hm.2.2,rfl⟩,⟨v',h1,fun k hk=>hlt k (h2▸hk)⟩,h3⟩
   ·exact(aaZ ib v bs r u m w hv hb (by omega) hm2 jG).mono fun e w' ⟨he,h1,h2⟩=>⟨0,none,he, .inr ⟨fun u' r' hb'=>by
     obtain⟨e1,_⟩:=hb.unique hb'
     omega,rfl,rfl⟩,h1,h2⟩
  ·exact(aaY ib v bs m w hv fun u r h=>hb ⟨u,r,h⟩).mono fun e w' ⟨he,h1,h2⟩=>⟨0,none,he, .inr ⟨fun u r h=>(hb ⟨u,r,h⟩).elim,rfl,rfl⟩,h1,h2⟩
open Go.RowKit
theorem Rd.pre {w:World} {ad:Option Addr} {c:Nat} {bs:List UInt8} (h:Rd w (.slice ad bs.length c) bs.length (bV bs)) (k:Nat) (hk:k≤bs.length):Rd w (.slice ad k c) (bs.take k).length (bV (bs.take k)):=by
 have hl:(bs.take k).length=k:=by rw[List.length_take];omega
 rcases h with⟨ad',h1,h2,h3⟩|⟨b,off,c',h1,h2,h3,h4⟩
 ·injection h1 with e1 e2 e3
  have hb:bs=[]:=by simpa[bV]using h3
  subst hb
  obtain rfl:k=0:=by simpa using hk
  subst e1 e3
  exact .inl ⟨_,rfl,by simp,by simp[bV]⟩
 ·injection h1 with e1 e2 e3
  subst e1 e3
  refine .inr ⟨b,off,_,by rw[hl],by omega,h3,fun j u hu=>h4 j u ?_⟩
  rw[bV,List.map_take,List.getElem?_take]at hu
  split at hu
  ·exact hu
  ·cases hu
theorem MW {w:World} {ad:Option Addr} {n c:Nat} {xs:List Value} (h:Rd w (.slice ad n c) n xs):n≤c:=by
 rcases h with⟨_,h1,h2,_⟩|⟨b,off,c',h1,h2,_⟩
 ·omega
 ·injection h1 with e1 e2 e3;omega
open Go.RowKit
def mX (st:Option (List UInt8)) (m:Int) (s:ByteArray) (st':Option (List UInt8)):Prop:=
 ∃(n:Int) (st1:Option (List UInt8)),dw st m n st1∧match st1 with
  |none=>s=⟨#[]⟩∧st'=none
  |some bs=>(0≤n∧n≤bs.length∧s=⟨(bs.take n.toNat).toArray⟩∧st'=some (bs.drop n.toNat))∨((n<0∨(bs.length:Int)<n)∧s=⟨#[]⟩∧st'=none)
theorem mX.b_ {st:Option (List UInt8)} {m:Int} {v u:ByteArray} {s t:Option (List UInt8)} (h:mX st m v s) (k:mX st m u t):v=u∧s=t:=by
 obtain⟨n,st1,h1,h2⟩:=h
 obtain⟨n',st1',k1,k2⟩:=k
 obtain⟨rfl,rfl⟩:=h1.b_ k1
 cases st1 with
 |none=>exact⟨h2.1.trans k2.1.symm,h2.2.trans k2.2.symm⟩
 |some bs=>
  rcases h2 with⟨a,b,c,d⟩|⟨a,c,d⟩<;>rcases k2 with⟨a',b',c',d'⟩|⟨a',c',d'⟩
  ·exact⟨c.trans c'.symm,d.trans d'.symm⟩
  ·omega
  ·omega
  ·exact⟨c.trans c'.symm,d.trans d'.symm⟩
theorem aa0 (ib:Nat) (st:Option (List UInt8)) (m:Int) (w:World) (h:dJ w ib st) (hm2:m≤9223372036854775807) (jG:-9223372036854775808≤m):
 Calls Tryz.prog 222 #[.pointer (some ⟨ib,0,none⟩), .int .i64 m] w fun e w'=>∃s st',e= .returned (.string s)∧mX st m s st'∧dJ w' ib st'∧aj (Only ib) w w':=by
 have hn:=Tn ib st m w h hm2 jG
 have HN:=ah hn;clear hn
 clear h
 go_enter Tryz.func222,Tryz.ntmps222
 go_wp2_with(go_at_call 56;refine HN.out.mono ?_)
 rintro e w1 ⟨n,st1,rfl,hs1,hi1,hf1⟩
 have HS:=ah hs1;clear hs1
 have HF:=ah hf1;clear hf1
 cases st1 with
 |none=>
  have c1:=oM (show w1.heap[ib]?=_ from hi1) 1 rfl
  have HI:=ah hi1;clear hi1
  go_wp2
  go_ret
  exact⟨_,none,rfl,⟨n,none,HS.out,rfl,rfl⟩,HI.out,HF.out⟩
 |some bs=>
  obtain⟨v,hv,hlt⟩:=hi1
  obtain⟨a,c,rfl⟩:=xQ hv.rd
  have c0:=oM hv.cells 0 rfl
  have c1:=oM hv.cells 1 rfl
  have f0:=free_at hv.cells 0
  have Tq:=pG ib _ false w1 hv.cells
  have bD:=ah Tq;clear Tq
  have nV:=ah hlt;clear hlt
  by_cases hn:0≤n∧n≤bs.length
  ·obtain⟨k,rfl⟩:=Int.eq_ofNat_of_zero_le hn.1
   have hk:k≤bs.length:=by omega
   have cv:=kQ (hv.rd.pre k hk)
   have hcap:=MW hv.rd
   have HV:=ah hv;clear hv
   generalize hL:bs.length=L at*
   have HL:=ah hL;clear hL
   clear hn
   have hfin:∀v',(v'= .slice (a.map fun x=>x.add k) (L-k) (c-k)∨∃m c',v'= .slice a m c'∧m=0∧c'=0∧L=k)→
    dJ (w1.setCell ⟨ib,0,none⟩ v') ib (some (bs.drop k)):=by
    intro v' hv'
    have hlen:(bs.drop k).length=L-k:=by rw[List.length_drop,HL.out]
    have hown:v'.ownBlock=(Value.slice a L c).ownBlock:=by
     rcases hv' with rfl|⟨m,c',rfl,_⟩
     ·cases a with
      |none=>rfl
      |some a=>simp[Value.ownBlock,Addr.add];split<;>rfl
     ·cases a<;>rfl
    refine⟨v',⟨by have:=Jg HV.out.cells 0 v';simpa using this,?_,by rw[hown];exact HV.out.apart⟩,fun k hk=>nV.out k (hown▸hk)⟩
    rw[hlen]
    have hrd:=HV.out.rd
    rcases hv' with rfl|⟨m,c',rfl,rfl,rfl,hLk⟩
    ·rcases hrd with⟨ad,h1,h2,h3⟩|⟨b,off,c'',h1,h2,h3,h4⟩
     ·injection h1 with e1 e2 e3
      have hL0:L=0:=by rw[←HL.out];exact h2
      have hb:bs=[]:=by simpa[bV]using h3
      subst hb
      refine .inl ⟨a.map fun x=>x.add k,by rw[hL0,e3];simp,by omega,by simp[bV]⟩
     ·injection h1 with e1 e2 e3
      subst e1
      have hap:b≠ib:=fun e=>HV.out.apart (by rw[e];rfl)
      refine .inr ⟨b,off+k,c-k,by simp[addr_add],by omega,by omega,fun j u hu=>?_⟩
      refine(dG w1 ib 0 _).cell' ?_ hap
      have:=h4 (k+j) u (by rw[←hu,bV,bV,List.map_drop,List.getElem?_drop])
      rwa [←Nat.add_assoc]at this
    ·have:bs.drop k=[]:=List.eq_nil_of_length_eq_zero (by omega)
     rw[this]
     exact .inl ⟨a,rfl,by omega,rfl⟩
   have FIN:=ah hfin;clear hfin
   have hstep:mX st m ⟨(bs.take k).toArray⟩ (some (bs.drop k)):=⟨k,some bs,HS.out, .inl ⟨by omega,by have:=HL.out;omega,by simp,by simp⟩⟩
   have ST:=ah hstep;clear hstep
   by_cases hcap2:c=k
   ·subst hcap2
    go_wp2
    go_ret
    exact⟨_,_,rfl,ST.out,FIN.out _ (.inr ⟨_,_,rfl,by omega,by omega,by omega⟩),HF.out.trans (dG w1 ib 0 _) fun _ _ h=>h⟩
   ·go_wp2
    go_ret
    exact⟨_,_,rfl,ST.out,FIN.out _ (.inl rfl),HF.out.trans (dG w1 ib 0 _) fun _ _ h=>h⟩
  ·have hn':n<0∨(bs.length:Int)<n:=by omega
   have HV:=ah hv;clear hv
   rcases hn' with h0|h0
   all_goals
    clear hn
    go_wp2_with(go_at_call 123;refine bD.out.mono ?_)
    rintro e w2 ⟨rfl,hbad,hfm⟩
    have H1:=ah hbad;clear hbad
    have H2:=ah hfm;clear hfm
    go_wp2
    go_ret
    exact⟨_,none,rfl,⟨n,some bs,HS.out, .inr ⟨by omega,rfl,rfl⟩⟩,H1.out,HF.out.trans H2.out fun _ _ h=>h⟩
open Go.RowKit
theorem dw.total (st:Option (List UInt8)) (m:Int):∃v st',dw st m v st':=by
 cases st with
 |none=>exact⟨0,none,rfl,rfl⟩
 |some bs=>
  by_cases hb:∃u r,Begins bs u r
  ·obtain⟨u,r,hb⟩:=hb
   by_cases hm:0≤m∧u≤m∧-m≤u
   ·exact⟨u,some r, .inl ⟨r,hb,hm.1,hm.2.1,hm.2.2,rfl⟩⟩
   ·exact⟨0,none, .inr ⟨fun u' r' hb'=>by
     obtain⟨e1,_⟩:=hb.unique hb'
     omega,rfl,rfl⟩⟩
  ·exact⟨0,none, .inr ⟨fun u r h=>(hb ⟨u,r,h⟩).elim,rfl,rfl⟩⟩
theorem mX.total (st:Option (List UInt8)) (m:Int):∃s st',mX st m s st':=by
 obtain⟨n,st1,h⟩:=dw.total st m
 cases st1 with
 |none=>exact⟨_,none,n,none,h,rfl,rfl⟩
 |some bs=>
  by_cases hn:0≤n∧n≤bs.length
  ·exact⟨_,_,n,some bs,h, .inl ⟨hn.1,hn.2,rfl,rfl⟩⟩
  ·exact⟨_,_,n,some bs,h, .inr ⟨by omega,rfl,rfl⟩⟩
theorem lG (ib:Nat) (st:Option (List UInt8)) (m v:Int) (st':Option (List UInt8)) (w:World) (h:dJ w ib st) (hs:dw st m v st') (hm2:m≤9223372036854775807) (jG:-9223372036854775808≤m):
 Calls Tryz.prog 56 #[.pointer (some ⟨ib,0,none⟩), .int .i64 m] w fun e w'=>e= .returned (.int .i64 v)∧dJ w' ib st'∧aj (Only ib) w w':=
 (Tn ib st m w h hm2 jG).mono fun e w' ⟨v',aa1,he,h1,h2,h3⟩=>by
   obtain⟨rfl,rfl⟩:=hs.b_ h1
   exact⟨he,h2,h3⟩
theorem Tt (ib:Nat) (st:Option (List UInt8)) (m:Int) (s:ByteArray) (st':Option (List UInt8)) (w:World) (h:dJ w ib st) (hs:mX st m s st') (hm2:m≤9223372036854775807) (jG:-9223372036854775808≤m):
 Calls Tryz.prog 222 #[.pointer (some ⟨ib,0,none⟩), .int .i64 m] w fun e w'=>e= .returned (.string s)∧dJ w' ib st'∧aj (Only ib) w w':=
 (aa0 ib st m w h hm2 jG).mono fun e w' ⟨v',aa1,he,h1,h2,h3⟩=>by
   obtain⟨rfl,rfl⟩:=hs.b_ h1
   exact⟨he,h2,h3⟩
open Go.RowKit
def oO (e:aQ):List UInt8:=bG e.dc++(bG e.n++(jF e.s++bG e.k))
def jg (es:List aQ):List UInt8:=es.flatMap oO
def jh:aS→List UInt8
 | .nil=> []
 | .cons key es sub rest=>jF key++((bG es.length++(jg es++(bG sub.len++jh sub)))++jh rest)
def fM (es:List aQ) (ks:aS):List UInt8:=bG es.length++(jg es++(bG ks.len++jh ks))
theorem Bl (key:ByteArray) (es:List aQ) (sub rest:aS):jh (.cons key es sub rest)=jF key++(fM es sub++jh rest):=rfl
def encS (s:Int×Int×Int):List UInt8:=bG s.1++(bG s.2.1++bG s.2.2)
def pI (c:aX):List UInt8:=c.flatMap encS
def lZ (c:aX):List UInt8:=bG c.length++pI c
def kC (es:List aQ) (ks:aS) (c:aX):List UInt8:=fM es ks++lZ c
theorem Tv {a b:ByteArray} {x y:List UInt8} (h:jF a++x=jF b++y):a=b∧x=y:=by
 unfold jF at h
 rw[List.append_assoc,List.append_assoc]at h
 obtain⟨h1,h2⟩:=lF h
 have hl:a.data.toList.length=b.data.toList.length:=by
  have ha:a.data.toList.length=a.size:=Array.length_toList
  have hb:b.data.toList.length=b.size:=Array.length_toList
  omega
 obtain⟨h3,h4⟩:=List.append_inj h2 hl
 exact⟨ByteArray.ext (Array.toList_inj.1 h3),h4⟩
theorem aa2 {a b:aQ} {x y:List UInt8} (h:oO a++x=oO b++y):a=b∧x=y:=by
 unfold oO at h
 simp only[List.append_assoc]at h
 replace h:=lF h
 obtain⟨h1,h⟩:=h
 replace h:=lF h
 obtain⟨h2,h⟩:=h
 replace h:=Tv h
 obtain⟨h3,h⟩:=h
 replace h:=lF h
 obtain⟨h4,h⟩:=h
 obtain⟨a1,a2,a3,a4⟩:=a
 obtain⟨b1,b2,b3,b4⟩:=b
 simp only at h1 h2 h3 h4
 subst h1 h2 h3 h4
 exact⟨rfl,h⟩
theorem aa3 {a b:Int×Int×Int} {x y:List UInt8} (h:encS a++x=encS b++y):a=b∧x=y:=by
 unfold encS at h
 simp only[List.append_assoc]at h
 replace h:=lF h
 obtain⟨h1,h⟩:=h
 replace h:=lF h
 obtain⟨h2,h⟩:=h
 replace h:=lF h
 obtain⟨h3,h⟩:=h
 obtain⟨a1,a2,a3⟩:=a
 obtain⟨b1,b2,b3⟩:=b
 simp only at h1 h2 h3
 subst h1 h2 h3
 exact⟨rfl,h⟩
theorem Ji {α:Type} {f:α→List UInt8} (hf:∀ {a b:α} {x y:List UInt8},f a++x=f b++y→a=b∧x=y):∀ {a b:List α} {x y:List UInt8},a.length=b.length→a.flatMap f++x=b.flatMap f++y→a=b∧x=y
 |[],[],_,_,_,h=>⟨rfl,h⟩
 |[],_::_,_,_,hl,_=>by cases hl
 |_::_,[],_,_,hl,_=>by cases hl
 |u::a,v::b,x,y,hl,h=>by
  simp only[List.flatMap_cons,List.append_assoc]at h
  replace h:=hf h
  obtain⟨rfl,h⟩:=h
  replace h:=Ji hf (by simpa using hl) h
  obtain⟨rfl,h⟩:=h
  exact⟨rfl,h⟩
theorem Tz {a b:List aQ} {x y:List UInt8} (hl:a.length=b.length) (h:jg a++x=jg b++y):a=b∧x=y:=Ji aa2 hl h
theorem aa4 {a b:aX} {x y:List UInt8} (hl:a.length=b.length) (h:pI a++x=pI b++y):a=b∧x=y:=Ji aa3 hl h
theorem Jj:∀ {a b:aS} {x y:List UInt8},a.len=b.len→jh a++x=jh b++y→a=b∧x=y
 | .nil, .nil,_,_,_,h=>⟨rfl,h⟩
 | .nil, .cons _ _ _ _,_,_,hl,_=>by cases hl
 | .cons _ _ _ _, .nil,_,_,hl,_=>by cases hl
 | .cons key es sub rest, .cons key' es' sub' rest',x,y,hl,h=>by
   simp only[jh,List.append_assoc]at h
   replace h:=Tv h
   obtain⟨rfl,h⟩:=h
   replace h:=lF h
   obtain⟨h1,h⟩:=h
   replace h:=Tz (by omega) h
   obtain⟨rfl,h⟩:=h
   replace h:=lF h
   obtain⟨h2,h⟩:=h
   replace h:=Jj (by omega) h
   obtain⟨rfl,h⟩:=h
   replace h:=Jj (by simpa[aS.len]using hl) h
   obtain⟨rfl,h⟩:=h
   exact⟨rfl,h⟩
theorem ES {a b:List aQ} {ka kb:aS} {x y:List UInt8} (h:fM a ka++x=fM b kb++y):(a=b∧ka=kb)∧x=y:=by
 unfold fM at h
 simp only[List.append_assoc]at h
 replace h:=lF h
 obtain⟨h1,h⟩:=h
 replace h:=Tz (by omega) h
 obtain⟨rfl,h⟩:=h
 replace h:=lF h
 obtain⟨h2,h⟩:=h
 replace h:=Jj (by omega) h
 obtain⟨rfl,h⟩:=h
 exact⟨⟨rfl,rfl⟩,h⟩
theorem TA {a b:aX} {x y:List UInt8} (h:lZ a++x=lZ b++y):a=b∧x=y:=by
 unfold lZ at h
 simp only[List.append_assoc]at h
 replace h:=lF h
 obtain⟨h1,h⟩:=h
 exact aa4 (by omega) h
theorem MX {a b:List aQ} {ka kb:aS} {c d:aX} {x y:List UInt8} (h:kC a ka c++x=kC b kb d++y):((a=b∧ka=kb)∧c=d)∧x=y:=by
 unfold kC at h
 simp only[List.append_assoc]at h
 replace h:=ES h
 obtain⟨h1,h⟩:=h
 obtain⟨h2,h⟩:=TA h
 exact⟨⟨h1,h2⟩,h⟩
theorem aa5 {a b:List aQ} {ka kb:aS} {c d:aX} (h:kC a ka c=kC b kb d):(a=b∧ka=kb)∧c=d:=(MX (x:=[]) (y:=[]) (by rw[h])).1
theorem aa6 (e:aQ):1≤(oO e).length:=by
 have:=rX e.dc
 unfold oO
 rw[List.length_append];omega
theorem aa7 (s:Int×Int×Int):1≤(encS s).length:=by
 have:=rX s.1
 unfold encS
 rw[List.length_append];omega
theorem MZ {α:Type} {f:α→List UInt8} (hf:∀a,1≤(f a).length):∀l:List α,l.length≤(l.flatMap f).length
 |[]=>Nat.le_refl _
 |a::l=>by
  have:=MZ hf l
  have:=hf a
  rw[List.flatMap_cons,List.length_append,List.length_cons];omega
theorem M_ (s:ByteArray):1≤(jF s).length:=by
 have:=rX s.size
 unfold jF
 rw[List.length_append];omega
theorem TB:∀ks:aS,ks.len≤(jh ks).length
 | .nil=>Nat.le_refl _
 | .cons key es sub rest=>by
   have:=TB rest
   have:=M_ key
   rw[Bl]
   simp only[List.length_append,aS.len];omega
theorem Jk {α:Type} {f:α→List UInt8} {m:Nat}:∀ {l:List α},(∀a∈l,(f a).length≤m)→(l.flatMap f).length≤m*l.length
 |[],_=>by simp
 |a::l,h=>by
  have h1:=h a List.mem_cons_self
  have h2:=Jk fun x hx=>h x (List.mem_cons_of_mem _ hx)
  rw[List.flatMap_cons,List.length_append,List.length_cons,Nat.mul_succ];omega
structure fA where
 dc:Int
 n:Int
 s:Int
 k:Int
structure fA.Ok (B:fA):Prop where
 dc:0≤B.dc∧B.dc≤9223372036854775807
 n:0≤B.n∧B.n≤9223372036854775807
 s:0≤B.s∧B.s≤9223372036854775807
 k:0≤B.k∧B.k≤9223372036854775807
def gG:fA:=⟨4,1099511627776,30,1099511627776⟩
def jw:fA:=⟨9223372036854775807,9223372036854775807,9223372036854775807,9223372036854775807⟩
theorem wG:gG.Ok:=⟨by decide,by decide,by decide,by decide⟩
theorem Dn:jw.Ok:=⟨by decide,by decide,by decide,by decide⟩
structure aQ.bd (B:fA) (e:aQ):Prop where
 dc:-B.dc≤e.dc∧e.dc≤B.dc
 n:-B.n≤e.n∧e.n≤B.n
 s:(e.s.size:Int)≤B.s
 k:-B.k≤e.k∧e.k≤B.k
def aS.bd (B:fA):aS→Prop
 | .nil=>True
 | .cons key es sub rest=>(key.size:Int)≤B.s∧(∀e∈es,e.bd B)∧sub.bd B∧rest.bd B
theorem aS.bd.drop {B:fA}:∀(n:Nat) {ks:aS},ks.bd B→(ks.drop n).bd B
 |0,_,h=>h
 |_+1, .nil,_=>trivial
 |n+1, .cons _ _ _ _,h=>aS.bd.drop n h.2.2.2
theorem TD:∀(n:Nat) (ks:aS),mQ (ks.drop n)≤mQ ks
 |0,_=>Nat.le_refl _
 |_+1, .nil=>Nat.le_refl _
 |n+1, .cons _ _ _ r=>Nat.le_trans (TD n r) (Nat.le_max_right _ _)
theorem nP {st:Option (List UInt8)} {m v:Int} {r:List UInt8} (h:dw st m v (some r)):st=some (bG v++r)∧lY v∧-m≤v∧v≤m:=by
 cases st with
 |none=>cases h.2
 |some bs=>
  rcases h with⟨r',h1,h2,h3,h4,h5⟩|⟨_,_,h3⟩
  ·injection h5 with h5;subst h5
   exact⟨by rw[h1.2],h1.1,h4,h3⟩
  ·cases h3
theorem jy {m v:Int} (r:List UInt8) (hv:-m≤v∧v≤m) (hm:m≤9223372036854775807):dw (some (bG v++r)) m v (some r):=
 .inl ⟨r,⟨⟨by omega,by omega⟩,rfl⟩,by omega,hv.2,hv.1,rfl⟩
theorem ET {st st':Option (List UInt8)} {m v:Int} (h:dw st m v st'):lY v:=by
 cases st with
 |none=>rw[h.1];exact⟨by omega,by omega⟩
 |some bs=>
  rcases h with⟨r',h1,_⟩|⟨_,h2,_⟩
  ·exact h1.1
  ·rw[h2];exact⟨by omega,by omega⟩
theorem Na {st:Option (List UInt8)} {m:Int} {s:ByteArray} {r:List UInt8} (h:mX st m s (some r)):st=some (jF s++r)∧(s.size:Int)≤m:=by
 obtain⟨n,st1,h1,h2⟩:=h
 cases st1 with
 |none=>cases h2.2
 |some b1=>
  obtain⟨rfl,_,h3,h4⟩:=nP h1
  rcases h2 with⟨a,b,c,d⟩|⟨_,_,d⟩
  ·injection d with d
   subst c d
   have hsz:((⟨(b1.take n.toNat).toArray⟩:ByteArray).size:Int)=n:=by
    show(((b1.take n.toNat).toArray).size:Int)=n
    rw[List.size_toArray,List.length_take];omega
   refine⟨?_,by rw[hsz];exact h4⟩
   unfold jF
   rw[hsz,List.append_assoc]
   show _=some (bG n++((b1.take n.toNat).toArray.toList++_))
   rw[List.toList_toArray,List.take_append_drop]
  ·cases d
theorem TF {m:Int} {s:ByteArray} (r:List UInt8) (hs:(s.size:Int)≤m) (hm:m≤9223372036854775807):mX (some (jF s++r)) m s (some r):=by
 have hl:s.data.toList.length=s.size:=Array.length_toList
 refine⟨s.size,some (s.data.toList++r),?_, .inl ⟨by omega,by rw[List.length_append];omega,?_,?_⟩⟩
 ·unfold jF
  rw[List.append_assoc]
  exact jy _ ⟨by omega,hs⟩ hm
 ·rw[Int.toNat_natCast,←hl,List.take_left]
 ·rw[Int.toNat_natCast,←hl,List.drop_left]
def pJ (B:fA) (s0:Option (List UInt8)) (e:aQ) (s4:Option (List UInt8)):Prop:=
 ∃s1 s2 s3,dw s0 B.dc e.dc s1∧dw s1 B.n e.n s2∧mX s2 B.s e.s s3∧dw s3 B.k e.k s4
theorem pJ.b_ {B:fA} {s t t':Option (List UInt8)} {a b:aQ} (h:pJ B s a t) (k:pJ B s b t'):a=b∧t=t':=by
 obtain⟨s1,s2,s3,h1,h2,h3,h4⟩:=h
 obtain⟨q1,q2,q3,k1,k2,k3,k4⟩:=k
 obtain⟨a1,rfl⟩:=h1.b_ k1
 obtain⟨a2,rfl⟩:=h2.b_ k2
 obtain⟨a3,rfl⟩:=h3.b_ k3
 obtain⟨a4,rfl⟩:=h4.b_ k4
 obtain⟨x1,x2,x3,x4⟩:=a
 obtain⟨y1,y2,y3,y4⟩:=b
 simp only at a1 a2 a3 a4
 subst a1 a2 a3 a4
 exact⟨rfl,rfl⟩
theorem pJ.good {B:fA} {s:Option (List UInt8)} {e:aQ} {r:List UInt8} (h:pJ B s e (some r)):s=some (oO e++r)∧e.bd B:=by
 obtain⟨s1,s2,s3,h1,h2,h3,h4⟩:=h
 obtain⟨rfl,_,b4⟩:=nP h4
 obtain⟨rfl,b3⟩:=Na h3
 obtain⟨rfl,_,b2⟩:=nP h2
 obtain⟨rfl,_,b1⟩:=nP h1
 exact⟨by unfold oO;simp only[List.append_assoc],b1,b2,b3,b4⟩
theorem pJ.make {B:fA} (hB:B.Ok) {e:aQ} (r:List UInt8) (h:e.bd B):pJ B (some (oO e++r)) e (some r):=by
 refine⟨_,_,_,?_,jy _ h.n hB.n.2,TF _ h.s hB.s.2,jy _ h.k hB.k.2⟩
 have:=jy (bG e.n++(jF e.s++(bG e.k++r))) h.dc hB.dc.2
 unfold oO
 simp only[List.append_assoc]
 exact this
inductive Run {α:Type} (R:Option (List UInt8)→α→Option (List UInt8)→Prop) (st:Option (List UInt8)):Nat→List α→Option (List UInt8)→Prop
 |zero:Run R st 0 [] st
 |snoc {k:Nat} {es:List α} {s t:Option (List UInt8)} {e:α}:Run R st k es s→R s e t→Run R st (k+1) (es++ [e]) t
section
variable {α:Type} {R:Option (List UInt8)→α→Option (List UInt8)→Prop}
theorem Run.len {st t:Option (List UInt8)} {k:Nat} {es:List α} (h:Run R st k es t):es.length=k:=by
 induction h with
 |zero=>rfl
 |snoc _ _ ih=>rw[List.length_append,ih];rfl
theorem Run.all {P:α→Prop} (hP:∀ {s e t},R s e t→P e) {st t:Option (List UInt8)} {k:Nat} {es:List α} (h:Run R st k es t):∀e∈es,P e:=by
 induction h with
 |zero=>intro e he;cases he
 |snoc _ h2 ih=>
  intro e he
  rcases List.mem_append.1 he with he|he
  ·exact ih e he
  ·rw[List.mem_singleton]at he;subst he;exact hP h2
theorem Run.b_ (hR:∀ {s a b t t'},R s a t→R s b t'→a=b∧t=t') {st t:Option (List UInt8)} {k:Nat} {es:List α} (h:Run R st k es t):∀ {es':List α} {t':Option (List UInt8)},Run R st k es' t'→es=es'∧t=t':=by
 induction h with
 |zero=>intro es' t' h';cases h';exact⟨rfl,rfl⟩
 |snoc h1 h2 ih=>
  intro es' t' h'
  cases h' with
  |snoc k1 k2=>
   obtain⟨rfl,rfl⟩:=ih k1
   obtain⟨rfl,rfl⟩:=hR h2 k2
   exact⟨rfl,rfl⟩
theorem Run.good {f:α→List UInt8} {P:α→Prop} (hR:∀ {s e r},R s e (some r)→s=some (f e++r)∧P e) {st t:Option (List UInt8)} {k:Nat} {es:List α} (h:Run R st k es t):∀ {r:List UInt8},t=some r→st=some (es.flatMap f++r)∧∀e∈es,P e:=by
 induction h with
 |zero=>intro r hr;exact⟨hr,fun e he=>by cases he⟩
 |snoc _ h2 ih=>
  intro r hr
  subst hr
  obtain⟨h3,h4⟩:=hR h2
  obtain⟨h5,h6⟩:=ih h3
  refine⟨by rw[h5];simp,fun e he=>?_⟩
  rcases List.mem_append.1 he with he|he
  ·exact h6 e he
  ·rw[List.mem_singleton]at he;subst he;exact h4
theorem Run.make {f:α→List UInt8} {P:α→Prop} (hR:∀ {e} (r:List UInt8),P e→R (some (f e++r)) e (some r)) {es:List α} (r:List UInt8) (h:∀e∈es,P e):Run R (some (es.flatMap f++r)) es.length es (some r):=by
 have yS:∀k,k≤es.length→Run R (some (es.flatMap f++r)) k (es.take k) (some ((es.drop k).flatMap f++r)):=by
  intro k
  induction k with
  |zero=>intro _;rw[List.take_zero,List.drop_zero];exact .zero
  |succ k ih=>
   intro hk
   have hs:=List.drop_eq_getElem_cons (l:=es) (i:=k) (by omega)
   have h1:=ih (by omega)
   rw[hs,List.flatMap_cons,List.append_assoc]at h1
   rw[List.take_succ_eq_append_getElem (by omega)]
   exact .snoc h1 (hR _ (h _ (List.getElem_mem _)))
 have:=yS es.length (Nat.le_refl _)
 rw[List.take_length,List.drop_length]at this
 exact this
end
abbrev wH (B:fA):=Run (pJ B)
theorem wH.good {B:fA} {st:Option (List UInt8)} {k:Nat} {es:List aQ} {r:List UInt8} (h:wH B st k es (some r)):st=some (jg es++r)∧∀e∈es,e.bd B:=Run.good (fun h=>pJ.good h) h rfl
theorem wH.make {B:fA} (hB:B.Ok) {es:List aQ} (r:List UInt8) (h:∀e∈es,e.bd B):wH B (some (jg es++r)) es.length es (some r):=Run.make (fun r h=>pJ.make hB r h) r h
def nR (B:fA) (s0:Option (List UInt8)) (s:Int×Int×Int) (t:Option (List UInt8)):Prop:=
 ∃s1 s2,dw s0 B.dc s.1 s1∧dw s1 B.n s.2.1 s2∧dw s2 B.n s.2.2 t
def Bo (B:fA) (s:Int×Int×Int):Prop:=(-B.dc≤s.1∧s.1≤B.dc)∧(-B.n≤s.2.1∧s.2.1≤B.n)∧(-B.n≤s.2.2∧s.2.2≤B.n)
theorem nR.b_ {B:fA} {s t t':Option (List UInt8)} {a b:Int×Int×Int} (h:nR B s a t) (k:nR B s b t'):a=b∧t=t':=by
 obtain⟨s1,s2,h1,h2,h3⟩:=h
 obtain⟨q1,q2,k1,k2,k3⟩:=k
 obtain⟨a1,rfl⟩:=h1.b_ k1
 obtain⟨a2,rfl⟩:=h2.b_ k2
 obtain⟨a3,rfl⟩:=h3.b_ k3
 exact⟨Prod.ext a1 (Prod.ext a2 a3),rfl⟩
theorem nR.good {B:fA} {s:Option (List UInt8)} {e:Int×Int×Int} {r:List UInt8} (h:nR B s e (some r)):s=some (encS e++r)∧Bo B e:=by
 obtain⟨s1,s2,h1,h2,h3⟩:=h
 obtain⟨rfl,_,b3⟩:=nP h3
 obtain⟨rfl,_,b2⟩:=nP h2
 obtain⟨rfl,_,b1⟩:=nP h1
 exact⟨by unfold encS;simp only[List.append_assoc],b1,b2,b3⟩
theorem nR.make {B:fA} (hB:B.Ok) {e:Int×Int×Int} (r:List UInt8) (h:Bo B e):nR B (some (encS e++r)) e (some r):=by
 refine⟨_,_,?_,jy _ h.2.1 hB.n.2,jy _ h.2.2 hB.n.2⟩
 have:=jy (bG e.2.1++(bG e.2.2++r)) h.1 hB.dc.2
 unfold encS
 simp only[List.append_assoc]
 exact this
theorem nR.fits {B:fA} {s t:Option (List UInt8)} {e:Int×Int×Int} (h:nR B s e t):lY e.1∧lY e.2.1∧lY e.2.2:=by
 obtain⟨s1,s2,h1,h2,h3⟩:=h
 exact⟨ET h1,ET h2,ET h3⟩
abbrev ru (B:fA):=Run (nR B)
theorem ru.good {B:fA} {st:Option (List UInt8)} {k:Nat} {c:aX} {r:List UInt8} (h:ru B st k c (some r)):st=some (pI c++r)∧∀e∈c,Bo B e:=Run.good (fun h=>nR.good h) h rfl
theorem ru.make {B:fA} (hB:B.Ok) {c:aX} (r:List UInt8) (h:∀e∈c,Bo B e):ru B (some (pI c++r)) c.length c (some r):=Run.make (fun r h=>nR.make hB r h) r h
def ji (st:Option (List UInt8)) (m:Int) (n:Nat) (st':Option (List UInt8)):Prop:=
 ∃(v:Int) (s1:Option (List UInt8)),dw st m v s1∧match s1 with
  |none=>n=0∧st'=none
  |some r=>(0≤v∧v≤r.length∧n=v.toNat∧st'=some r)∨((v<0∨(r.length:Int)<v)∧n=0∧st'=none)
theorem ji.b_ {st s t:Option (List UInt8)} {m:Int} {a b:Nat} (h:ji st m a s) (k:ji st m b t):a=b∧s=t:=by
 obtain⟨n,st1,h1,h2⟩:=h
 obtain⟨n',st1',k1,k2⟩:=k
 obtain⟨rfl,rfl⟩:=h1.b_ k1
 cases st1 with
 |none=>exact⟨h2.1.trans k2.1.symm,h2.2.trans k2.2.symm⟩
 |some bs=>
  rcases h2 with⟨a,b,c,d⟩|⟨a,c,d⟩<;>rcases k2 with⟨a',b',c',d'⟩|⟨a',c',d'⟩
  ·exact⟨c.trans c'.symm,d.trans d'.symm⟩
  ·omega
  ·omega
  ·exact⟨c.trans c'.symm,d.trans d'.symm⟩
theorem ji.good {st:Option (List UInt8)} {m:Int} {n:Nat} {r:List UInt8} (h:ji st m n (some r)):st=some (bG n++r)∧n≤r.length∧(n:Int)≤m:=by
 obtain⟨v,s1,h1,h2⟩:=h
 cases s1 with
 |none=>cases h2.2
 |some q=>
  rcases h2 with⟨a,b,c,d⟩|⟨_,_,d⟩
  ·injection d with d
   subst d
   obtain⟨rfl,_,h3,h4⟩:=nP h1
   have e:(n:Int)=v:=by omega
   exact⟨by rw[e],by omega,by omega⟩
  ·cases d
theorem ji.make {m:Int} {n:Nat} {r:List UInt8} (h1:n≤r.length) (h2:(n:Int)≤m) (hm:m≤9223372036854775807):ji (some (bG n++r)) m n (some r):=
 ⟨n,some r,jy r ⟨by omega,h2⟩ hm, .inl ⟨by omega,by omega,by omega,rfl⟩⟩
theorem ji.none_ {m:Int} {n:Nat} {st':Option (List UInt8)} (h:ji none m n st'):n=0∧st'=none:=by
 obtain⟨v,s1,h1,h2⟩:=h
 obtain⟨_,rfl⟩:=h1
 exact h2
end Go.Proofs.YtabkpccdnkjoiaaGreat
