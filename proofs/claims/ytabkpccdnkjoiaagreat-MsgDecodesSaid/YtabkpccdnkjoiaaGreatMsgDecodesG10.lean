/- Words for the law MsgDecodes: CFull, BunP. -/
import Derived.Test.YtabkpccdnkjoiaaGreatMsgDecodesG0
import Derived.Test.YtabkpccdnkjoiaaGreatMsgDecodesG4
import Derived.Test.YtabkpccdnkjoiaaGreatMsgDecodesG9
set_option linter.unusedSimpArgs false
set_option linter.unusedVariables false
set_option maxHeartbeats 32000000
set_option maxRecDepth 1000000
namespace Go.Proofs.YtabkpccdnkjoiaaGreat
open Go.RowKit
def aaq (w:World) (f:Int→Int) (e:Ending) (w':World):Prop:=
 aj ay w w'∧(g_ f→∃v',e= .returned (.tuple #[v', .int .i64 0])∧OwnAt w w' 144 3 v' (f_ f).length (fJ (f_ f))∧(f_ f).length≤4)∧(¬g_ f→e= .returned (.tuple #[.slice none 0 0, .int .i64 1]))
theorem xO (w:World) (v0 v1 v2 v3:Int):Calls Tryz.prog 124 #[uF v0 v1 v2 v3] w (aaq w (bP v0 v1 v2 v3)):=by
 obtain⟨i0,hi,hz0,hz1,hz2⟩:=info_parts xw
 have hix:∀(k:Nat),k<4→∀W,(Instr.index 25 (.agg #[.int .i64 v0, .int .i64 v1, .int .i64 v2, .int .i64 v3]) (.int .i64 (k:Int))).run Tryz.prog W= .ok (.int .i64 (bP v0 v1 v2 v3 k)) W:=fun k hk=>by
  rcases(by omega:k=0∨k=1∨k=2∨k=3)with rfl|rfl|rfl|rfl<;>exact fun _=>by kernel_rfl
 have EM:=ah hix;clear hix
 unfold uF
 generalize hf:bP v0 v1 v2 v3=f at*
 clear hf
 go_enter Tryz.func124,Tryz.ntmps124
 go_wp2
 go_loopw [4,8] (fun v i ww=>∃(k:Nat) (c:aX),k≤4∧i= .int .i64 k∧OwnAt w ww 144 3 v c.length (fJ c)∧lM (K_ f) k c∧c.length≤k∧∀d:Int,0≤d→d<k→0≤f d∧f d≤1099511627776) (fun _ i _=>4-(intOf i).toNat)
 case atStart=>exact⟨0,[],by omega,rfl,OwnAt.nil (aj.alloc _ _ _) _ _,lM.zero _,Nat.zero_le _,fun d h0 h1=>by have:d<0:=h1;omega⟩
 case round=>
  obtain⟨k,c,hk,rfl,ho,hu,hlen,hr⟩:=hrel
  obtain⟨av,cv,rfl⟩:=ho.shape
  have HO:=ah ho;clear ho
  have HU:=ah hu;clear hu
  have HLEN:=ah hlen;clear hlen
  have HR:=ah hr;clear hr
  by_cases hlt:k<4
  ·have hx:=EM.out k hlt
   have hst:=HU.out.step (o:=kU (f k)) (by omega) (by omega) rfl
   have hL:c.length≤4:=by have:=HLEN.out;omega
   have hrr:0≤f k∧f k≤1099511627776→∀d:Int,0≤d→d<((k+1:Nat):Int)→0≤f d∧f d≤1099511627776:=fun h d h0 h1=>by
    by_cases he:d=k
    ·subst he;exact h
    ·exact HR.out d h0 (by omega)
   have hno:¬(0≤f k∧f k≤1099511627776)→¬g_ f:=fun h hm=>h (hm k (by omega) (by omega))
   have HRR:=ah hrr;clear hrr
   have eP:=ah hno;clear hno
   by_cases c1:f k<0
   ·generalize f k=x at*
    clear hst hL
    go_wp2
    go_ret2
    exact⟨HO.out.aH,fun h=>absurd h (eP.out (by omega)),fun _=>rfl⟩
   ·by_cases c2:1099511627776<f k
    ·generalize f k=x at*
     clear hst hL
     go_wp2
     go_ret2
     exact⟨HO.out.aH,fun h=>absurd h (eP.out (by omega)),fun _=>rfl⟩
    ·by_cases h0:0<f k
     ·have he:fC (k:Int) (kU (f k))=[((k:Int),1,f k)]:=by unfold kU;rw[if_pos h0];rfl
      rw[he]at hst
      clear he
      generalize f k=x at*
      have HST:=ah hst;clear hst
      have HL:=ah hL;clear hL
      go_wp2_with(at_builtin;refine qP w _ [.int .i64 k, .int .i64 1, .int .i64 x] rfl (.tmp 20) (.tmp 24) 32 rfl 144 i0 _ 3 24 Tryz.underlying32 hi hz0 hz1 hz2 (by decide) (by decide) _ _ _ HO.out 1 1 rfl rfl rfl (by simp[Value.oneCell']) (by have:=HL.out;simp only[maxLen];omega) (by have:=HL.out;omega) ?_;intro ad cc w2 dM;have OW:=ah dM;clear dM)
      go_roundw
      case rel=>exact⟨k+1,c++ [((k:Int),1,x)],by omega,by go_num,by rw[List.length_append,AQ];exact OW.out,HST.out,by rw[List.length_append];have:=HLEN.out;simp;omega,HRR.out ⟨by omega,by omega⟩⟩
      case measure=>simp[intOf];omega
     ·have he:fC (k:Int) (kU (f k))=[]:=by unfold kU;rw[if_neg h0];rfl
      rw[he,List.append_nil]at hst
      clear he
      generalize f k=x at*
      have HST:=ah hst;clear hst
      clear hL
      go_wp2
      go_roundw
      case rel=>exact⟨k+1,c,by omega,by go_num,HO.out,HST.out,by have:=HLEN.out;omega,HRR.out ⟨by omega,by omega⟩⟩
      case measure=>simp[intOf];omega
  ·obtain rfl:k=4:=by omega
   go_wp2
   go_ret2
   have:=HU.out.full
   subst this
   exact⟨HO.out.aH,fun _=>⟨_,rfl,HO.out,HLEN.out⟩,fun h=>absurd (fun d h0 h4=>HR.out d h0 h4) h⟩
theorem aar (w:World) (dc a b:Int) (h0:0≤dc) (h4:dc<4) (ha:1≤a) (hab:a≤b) (hb:b≤1099511627776):
 Calls Tryz.prog 185 #[.int .i64 dc, .int .i64 a, .int .i64 b] w fun e w'=>∃v',e= .returned (.tuple #[v', .int .i64 0])∧jf w' v' [(dc,a,b)]∧aj ay w w':=by
 have hd1:qg dc a=true:=by unfold qg;simp;omega
 have hd2:qg dc b=true:=by unfold qg;simp;omega
 go_enter Tryz.func185,Tryz.ntmps185
 go_wp2_with(go_at_call 236;refine(Ci _ _ _).mono ?_;rintro e w1 ⟨rfl,hw1⟩;first|rw[hd1]|rw[hd2])
 go_ret2
 rename_i wa hwa _
 have hc:(w1.alloc (.cells #[.int .i64 dc, .int .i64 a, .int .i64 b] 144)).heap[w1.heap.size]?=_:=heap_alloc_new w1 _
 refine⟨_,rfl, .inr ⟨w1.heap.size,0,1,rfl,Nat.le_refl _,by simp[maxLen],fun j u hu=>?_⟩,(hwa.aC hw1).alloc1⟩
 rw[Nat.zero_add]
 have hu2:([.int .i64 dc, .int .i64 a, .int .i64 b]:List Value)[j]?=some u:=hu
 exact au hc j (by simpa using hu2)
open Go.RowKit
theorem aat (w:World) (dc af la v0 v1 v2 v3:Int) (a0 a1 a2:Option Addr) (n m k c0 c1 c2:Nat):
 Calls Tryz.prog 143 #[.agg #[.int .i64 dc, .int .i64 af, .int .i64 la, .int .i64 v0, .int .i64 v1, .int .i64 v2, .int .i64 v3, .slice a0 n c0, .slice a1 m c1, .slice a2 k c2]] w fun e w'=>e= .returned (.bool (tf (qW dc af la (bP v0 v1 v2 v3))))∧aj ay w w':=by
 obtain⟨α,hne,K,hK1,hK0,hK2⟩:=worlds (w.alloc (.cells #[.int .i64 dc, .int .i64 af, .int .i64 la, .int .i64 v0, .int .i64 v1, .int .i64 v2, .int .i64 v3, .slice a0 n c0, .slice a1 m c1, .slice a2 k c2] 59))
 have kb:=fun s=>EL w _ _ _ _ _ _ _ _ _ _ _ (K s) (hK1 s)
 have k0:=fun s=>(kb s).1
 have k1:=fun s=>(kb s).2.1
 have k2:=fun s=>(kb s).2.2.1
 have k3:=fun s=>(kb s).2.2.2.1
 have k4:=fun s=>(kb s).2.2.2.2.1
 have k5:=fun s=>(kb s).2.2.2.2.2.1
 have k6:=fun s=>(kb s).2.2.2.2.2.2.1
 have k7:=fun s=>(kb s).2.2.2.2.2.2.2.1
 have k8:=fun s=>(kb s).2.2.2.2.2.2.2.2.1
 have k9:=fun s=>(kb s).2.2.2.2.2.2.2.2.2
 clear kb
 cases h0:decide (dc<0)with
 |true=>
  rw[bf (fun h=>by obtain⟨g0,g1,g2,g3,g4,g5,g6⟩:=h;simp at h0;omega)]
  go_enter Tryz.func143,Tryz.ntmps143
  go_wp2_with fail
  refine dX K (by kernel_rfl) (by kernel_rfl) hK0 ?_
  repeat(go_big_quiet_step (fail))
  refine wpQuiet_nil ?_
  intro w' hw'
  obtain⟨s,rfl⟩:=hw'
  have hfs:=(aj.alloc ay w _).aC (hK1 s)
  go_wp2
  go_ret
  exact⟨rfl,hfs⟩
 |false=>
  cases h1:decide (4≤dc)with
  |true=>
   rw[bf (fun h=>by obtain⟨g0,g1,g2,g3,g4,g5,g6⟩:=h;simp at h1;omega)]
   go_enter Tryz.func143,Tryz.ntmps143
   go_wp2_with fail
   refine dX K (by kernel_rfl) (by kernel_rfl) hK0 ?_
   repeat(go_big_quiet_step (fail))
   refine wpQuiet_nil ?_
   intro w' hw'
   obtain⟨s,rfl⟩:=hw'
   have hfs:=(aj.alloc ay w _).aC (hK1 s)
   go_wp2
   go_ret
   exact⟨rfl,hfs⟩
  |false=>
   cases h2:decide (af<0)with
   |true=>
    rw[bf (fun h=>by obtain⟨g0,g1,g2,g3,g4,g5,g6⟩:=h;simp at h2;omega)]
    go_enter Tryz.func143,Tryz.ntmps143
    go_wp2_with fail
    refine dX K (by kernel_rfl) (by kernel_rfl) hK0 ?_
    repeat(go_big_quiet_step (fail))
    refine wpQuiet_nil ?_
    intro w' hw'
    obtain⟨s,rfl⟩:=hw'
    have hfs:=(aj.alloc ay w _).aC (hK1 s)
    go_wp2
    go_ret
    exact⟨rfl,hfs⟩
   |false=>
    cases h3:decide (la≤af)with
    |true=>
     rw[bf (fun h=>by obtain⟨g0,g1,g2,g3,g4,g5,g6⟩:=h;simp at h3;omega)]
     go_enter Tryz.func143,Tryz.ntmps143
     go_wp2_with fail
     refine dX K (by kernel_rfl) (by kernel_rfl) hK0 ?_
     repeat(go_big_quiet_step (fail))
     refine wpQuiet_nil ?_
     intro w' hw'
     obtain⟨s,rfl⟩:=hw'
     have hfs:=(aj.alloc ay w _).aC (hK1 s)
     go_wp2
     go_ret
     exact⟨rfl,hfs⟩
    |false=>
     cases h4:decide (1099511627776<la)with
     |true=>
      rw[bf (fun h=>by obtain⟨g0,g1,g2,g3,g4,g5,g6⟩:=h;simp at h4;omega)]
      go_enter Tryz.func143,Tryz.ntmps143
      go_wp2_with fail
      refine dX K (by kernel_rfl) (by kernel_rfl) hK0 ?_
      repeat(go_big_quiet_step (fail))
      refine wpQuiet_nil ?_
      intro w' hw'
      obtain⟨s,rfl⟩:=hw'
      have hfs:=(aj.alloc ay w _).aC (hK1 s)
      go_wp2
      go_ret
      exact⟨rfl,hfs⟩
     |false=>
      obtain⟨dn,hdn⟩:∃dn:Nat,dc=dn:=⟨dc.toNat,by simp at h0;omega⟩
      subst hdn
      have hd4:dn<4:=by simp at h1;omega
      have kd:∀s,(K s).cell? ⟨w.heap.size,3+dn,none⟩=some (.int .i64 (bP v0 v1 v2 v3 dn)):=fun s=>by
       rcases(by omega:dn=0∨dn=1∨dn=2∨dn=3)with rfl|rfl|rfl|rfl
       ·exact k3 s
       ·exact k4 s
       ·exact k5 s
       ·exact k6 s
      have Ja:(dn:Int)<4:=by omega
      have aau:decide ((dn:Int)<4)=true:=by simpa using Ja
      obtain⟨fd,hfd⟩:∃fd,fd=bP v0 v1 v2 v3 dn:=⟨_,rfl⟩
      rw[←hfd]at kd
      have Jb:=ah hfd;clear hfd
      cases h5:decide (af<fd)with
      |true=>
       rw[bf (fun h=>by obtain⟨g0,g1,g2,g3,g4,g5,g6⟩:=h;simp at h5;have:=Jb.out;omega)]
       go_enter Tryz.func143,Tryz.ntmps143
       go_wp2_with fail
       refine dX K (by kernel_rfl) (by kernel_rfl) hK0 ?_
       repeat(go_big_quiet_step (fail))
       refine wpQuiet_nil ?_
       intro w' hw'
       obtain⟨s,rfl⟩:=hw'
       have hfs:=(aj.alloc ay w _).aC (hK1 s)
       go_wp2
       go_ret
       exact⟨rfl,hfs⟩
      |false=>
       by_cases hm:g_ (bP v0 v1 v2 v3)
       ·rw[dO (show qW dn af la (bP v0 v1 v2 v3)from by simp at h1 h2 h3 h4 h5;have:=Jb.out;exact⟨by omega,by omega,h2,h3,h4,by omega,hm⟩)]
        go_enter Tryz.func143,Tryz.ntmps143
        go_wp2_with fail
        refine dX K (by kernel_rfl) (by kernel_rfl) hK0 ?_
        repeat(go_big_quiet_step (fail))
        refine wpQuiet_nil ?_
        intro w' hw'
        obtain⟨s,rfl⟩:=hw'
        have hfs:=(aj.alloc ay w _).aC (hK1 s)
        go_wp2_with(go_at_call 124;refine(xO _ v0 v1 v2 v3).mono ?_;rintro e w2 ⟨hf2,hp1,hp2⟩;obtain⟨v',rfl,ho,-⟩:=hp1 hm;obtain⟨a',c',rfl⟩:=ho.shape;have HF2:=ah hf2;clear hf2 hp1 hp2)
        go_ret
        exact⟨rfl,hfs.aC HF2.out⟩
       ·rw[bf (fun h=>hm h.2.2.2.2.2.2)]
        go_enter Tryz.func143,Tryz.ntmps143
        go_wp2_with fail
        refine dX K (by kernel_rfl) (by kernel_rfl) hK0 ?_
        repeat(go_big_quiet_step (fail))
        refine wpQuiet_nil ?_
        intro w' hw'
        obtain⟨s,rfl⟩:=hw'
        have hfs:=(aj.alloc ay w _).aC (hK1 s)
        go_wp2_with(go_at_call 124;refine(xO _ v0 v1 v2 v3).mono ?_;rintro e w2 ⟨hf2,hp1,hp2⟩;obtain rfl:=hp2 hm;have HF2:=ah hf2;clear hf2 hp1 hp2)
        go_ret
        exact⟨rfl,hfs.aC HF2.out⟩
theorem aav (w:World) (dc af la v0 v1 v2 v3:Int) (a0 a1 a2:Option Addr) (n m k c0 c1 c2:Nat) (hn:qW dc af la (bP v0 v1 v2 v3)):
 Calls Tryz.prog 145 #[.agg #[.int .i64 dc, .int .i64 af, .int .i64 la, .int .i64 v0, .int .i64 v1, .int .i64 v2, .int .i64 v3, .slice a0 n c0, .slice a1 m c1, .slice a2 k c2]] w fun e w'=>∃v',e= .returned v'∧jf w' v' [(dc,af+1,la)]∧aj ay w w':=by
 have hb:0≤dc∧dc<4∧0≤af∧af<la∧la≤1099511627776:=⟨hn.1,hn.2.1,hn.2.2.1,hn.2.2.2.1,hn.2.2.2.2.1⟩
 have hwr:IntKind.i64.wrap (af+1)=af+1:=by simp[IntKind.wrap,IntKind.bits,IntKind.signed];omega
 clear hn
 go_enter Tryz.func145,Tryz.ntmps145
 go_wp2_with(go_at_call 185;refine(aar _ dc (af+1) la (by omega) (by omega) (by omega) (by omega) (by omega)).mono ?_;rintro e w1 ⟨v1,rfl,hc1,hf1⟩;obtain⟨a',c',rfl⟩:=Rd.sl hc1;have bH:=ah hc1;clear hc1;have bg:=ah hf1;clear hf1)
 go_ret
 exact⟨_,rfl,bH.out,(aj.alloc ay _ _).aC bg.out⟩
theorem aaw (w:World) (dc af la v0 v1 v2 v3:Int) (a0 a1 a2:Option Addr) (n m k c0 c1 c2:Nat) (hn:qW dc af la (bP v0 v1 v2 v3)):
 Calls Tryz.prog 148 #[.agg #[.int .i64 dc, .int .i64 af, .int .i64 la, .int .i64 v0, .int .i64 v1, .int .i64 v2, .int .i64 v3, .slice a0 n c0, .slice a1 m c1, .slice a2 k c2]] w fun e w'=>∃v',e= .returned v'∧OwnAt w w' 144 3 v' (f_ (iE (bP v0 v1 v2 v3) dc la)).length (fJ (f_ (iE (bP v0 v1 v2 v3) dc la)))∧(f_ (iE (bP v0 v1 v2 v3) dc la)).length≤4:=by
 have hm:=hn.ML (x:=la) (by have:=hn.2.2.1;have:=hn.2.2.2.1;omega) hn.2.2.2.2.1
 have h0:=hn.1
 have h4:=hn.2.1
 clear hn
 rcases four h0 h4 with rfl|rfl|rfl|rfl
 ·have he:=Dh (f:=bP la v1 v2 v3) (g:=iE (bP v0 v1 v2 v3) 0 la) (fun x h0 h4=>(yX v0 v1 v2 v3 la x h0 h4).1)
  have hm2:g_ (bP la v1 v2 v3):=(I_ (fun x h0 h4=>(yX v0 v1 v2 v3 la x h0 h4).1)).2 hm
  rw[←he]
  clear he hm h0 h4
  go_enter Tryz.func148,Tryz.ntmps148
  go_wp2_with(go_at_call 124;refine(xO _ la v1 v2 v3).mono ?_;rintro e w2 ⟨hf2,hp1,-⟩;obtain⟨v',rfl,ho,hl⟩:=hp1 hm2;obtain⟨a',c',rfl⟩:=ho.shape;have HO:=ah ho;clear ho hf2 hp1;have HL:=ah hl;clear hl)
  go_ret
  refine⟨_,rfl,HO.out.base ?_,HL.out⟩
  exact(aj.alloc _ _ _).alloc1
 ·have he:=Dh (f:=bP v0 la v2 v3) (g:=iE (bP v0 v1 v2 v3) 1 la) (fun x h0 h4=>(yX v0 v1 v2 v3 la x h0 h4).2.1)
  have hm2:g_ (bP v0 la v2 v3):=(I_ (fun x h0 h4=>(yX v0 v1 v2 v3 la x h0 h4).2.1)).2 hm
  rw[←he]
  clear he hm h0 h4
  go_enter Tryz.func148,Tryz.ntmps148
  go_wp2_with(go_at_call 124;refine(xO _ v0 la v2 v3).mono ?_;rintro e w2 ⟨hf2,hp1,-⟩;obtain⟨v',rfl,ho,hl⟩:=hp1 hm2;obtain⟨a',c',rfl⟩:=ho.shape;have HO:=ah ho;clear ho hf2 hp1;have HL:=ah hl;clear hl)
  go_ret
  refine⟨_,rfl,HO.out.base ?_,HL.out⟩
  exact(aj.alloc _ _ _).alloc1
 ·have he:=Dh (f:=bP v0 v1 la v3) (g:=iE (bP v0 v1 v2 v3) 2 la) (fun x h0 h4=>(yX v0 v1 v2 v3 la x h0 h4).2.2.1)
  have hm2:g_ (bP v0 v1 la v3):=(I_ (fun x h0 h4=>(yX v0 v1 v2 v3 la x h0 h4).2.2.1)).2 hm
  rw[←he]
  clear he hm h0 h4
  go_enter Tryz.func148,Tryz.ntmps148
  go_wp2_with(go_at_call 124;refine(xO _ v0 v1 la v3).mono ?_;rintro e w2 ⟨hf2,hp1,-⟩;obtain⟨v',rfl,ho,hl⟩:=hp1 hm2;obtain⟨a',c',rfl⟩:=ho.shape;have HO:=ah ho;clear ho hf2 hp1;have HL:=ah hl;clear hl)
  go_ret
  refine⟨_,rfl,HO.out.base ?_,HL.out⟩
  exact(aj.alloc _ _ _).alloc1
 ·have he:=Dh (f:=bP v0 v1 v2 la) (g:=iE (bP v0 v1 v2 v3) 3 la) (fun x h0 h4=>(yX v0 v1 v2 v3 la x h0 h4).2.2.2)
  have hm2:g_ (bP v0 v1 v2 la):=(I_ (fun x h0 h4=>(yX v0 v1 v2 v3 la x h0 h4).2.2.2)).2 hm
  rw[←he]
  clear he hm h0 h4
  go_enter Tryz.func148,Tryz.ntmps148
  go_wp2_with(go_at_call 124;refine(xO _ v0 v1 v2 la).mono ?_;rintro e w2 ⟨hf2,hp1,-⟩;obtain⟨v',rfl,ho,hl⟩:=hp1 hm2;obtain⟨a',c',rfl⟩:=ho.shape;have HO:=ah ho;clear ho hf2 hp1;have HL:=ah hl;clear hl)
  go_ret
  refine⟨_,rfl,HO.out.base ?_,HL.out⟩
  exact(aj.alloc _ _ _).alloc1
end Go.Proofs.YtabkpccdnkjoiaaGreat
