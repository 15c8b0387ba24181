/- Words for the law MsgSame: R8Same, R9Same, BunR. -/
import Derived.Test.YtabkpccdnkjoiaaGreatMsgSameG0
import Derived.Test.YtabkpccdnkjoiaaGreatMsgSameG7
import Derived.Test.YtabkpccdnkjoiaaGreatMsgSameG9
import Derived.Test.YtabkpccdnkjoiaaGreatMsgSameG16
import Derived.Test.YtabkpccdnkjoiaaGreatMsgSameG20
set_option linter.unusedSimpArgs false
set_option linter.unusedVariables false
set_option maxHeartbeats 32000000
set_option maxRecDepth 1000000
namespace Go.Proofs.YtabkpccdnkjoiaaGreat
open Go.RowKit
theorem ZI (Q Q':Nat→Prop):∀(N:Nat) (es:List aG) (ks:aH) (es':List aG) (ks':aH) (w:World) (ev kv ev' kv':Value),gW ks<N→bQ Q w ev kv es ks→bQ Q' w ev' kv' es' ks'→sizeT es ks≤100000→sizeT es' ks'≤100000→
 Calls Tryz.prog 45 #[.agg #[ev,kv], .agg #[ev',kv']] w fun e w'=>e= .returned (.bool (tf (es=es'∧ks=ks')))∧aj ay w w':=by
 intro N
 induction N with
 |zero=>intros;exfalso;omega
 |succ N jy=>
  intro es ks es' ks' w ev kv ev' kv' hN ht ht' hsz hsz'
  obtain⟨ae,ce,rfl⟩:=ht.ents.rd.sl
  obtain⟨os,hkr,fD⟩:=ht.kids
  obtain⟨ak,ck,rfl⟩:=hkr.rd.sl
  obtain⟨dW,dX,rfl⟩:=ht'.ents.rd.sl
  obtain⟨os',iK,kX⟩:=ht'.kids
  obtain⟨dY,dZ,rfl⟩:=iK.rd.sl
  have h1:es.length≤100000:=by unfold sizeT at hsz;omega
  have h2:es'.length≤100000:=by unfold sizeT at hsz';omega
  have h3:ks.len≤100000:=by have:=uQ ks;unfold sizeT at hsz;omega
  have h4:ks'.len≤100000:=by have:=uQ ks';unfold sizeT at hsz';omega
  by_cases hle:es.length=es'.length
  rotate_left 1
  ·rw[aZ fun h=>hle (by rw[h.1])]
   clear ht ht' hkr iK fD kX jy hN hsz hsz'
   generalize es.length=n at*
   generalize ks.len=m at*
   generalize es'.length=n' at*
   generalize ks'.len=m' at*
   have hz:((n:Int)==(n':Int))=false:=by simp;omega
   have bg:=ah ((aj.alloc ay w (.cells #[.slice ae n ce, .slice ak m ck] 30)).alloc1 (o:= .cells #[.slice dW n' dX, .slice dY m' dZ] 30))
   go_enter Tryz.func45,Tryz.ntmps45
   go_wp2
   go_ret
   exact⟨rfl,bg.out⟩
  by_cases hlk:ks.len=ks'.len
  rotate_left 1
  ·rw[aZ fun h=>hlk (by rw[h.2])]
   rw[←hle]
   clear ht ht' hkr iK fD kX jy hN hsz hsz' h2 hle
   generalize es.length=n at*
   generalize ks.len=m at*
   generalize ks'.len=m' at*
   have hz:((m:Int)==(m':Int))=false:=by simp;omega
   have bg:=ah ((aj.alloc ay w (.cells #[.slice ae n ce, .slice ak m ck] 30)).alloc1 (o:= .cells #[.slice dW n dX, .slice dY m' dZ] 30))
   go_enter Tryz.func45,Tryz.ntmps45
   go_wp2
   go_ret
   exact⟨rfl,bg.out⟩
  have HE:=ah ht.ents.rd
  have hE':=ht'.ents.rd
  have hK':=iK.rd
  rw[←hle]at hE'⊢
  rw[←hlk]at hK'⊢
  have QZ:=ah hE';clear hE'
  have jl:=ah hkr.rd
  have yU:=ah hK';clear hK'
  have kW:=ah fD;clear fD
  have FH:=ah kX;clear kX
  have uf:=ah hle.symm;clear hle
  have pF:=ah hlk.symm;clear hlk
  have IH:=ah jy;clear jy
  have m_:=ah hsz;clear hsz
  have ZJ:=ah hsz';clear hsz'
  have jJ:=ah hN;clear hN
  clear ht ht' hkr iK h2 h4
  generalize hes:es.length=n at*
  have HN:=ah hes;clear hes
  generalize hkl:ks.len=m at*
  have HM:=ah hkl;clear hkl
  have bg:=ah ((aj.alloc ay w (.cells #[.slice ae n ce, .slice ak m ck] 30)).alloc1 (o:= .cells #[.slice dW n dX, .slice dY m dZ] 30))
  have aQ:=ah (JV w (.slice ae n ce) (.slice ak m ck) (.slice dW n dX) (.slice dY m dZ) 30)
  go_enter Tryz.func45,Tryz.ntmps45
  go_wp2
  go_loopw [26] (fun i ww=>∃k:Nat,k≤n∧i= .int .i64 k∧tY es es' k∧aj ay ((w.alloc (.cells #[.slice ae n ce, .slice ak m ck] 30)).alloc (.cells #[.slice dW n dX, .slice dY m dZ] 30)) ww) (fun i _=>n-(intOf i).toNat)
  case atStart=>exact⟨0,Nat.zero_le _,rfl,(fun j hj=>absurd hj (Nat.not_lt_zero _)),aj.refl _ _⟩
  case round=>
   obtain⟨k,hk,rfl,hlk,hw⟩:=hrel
   have Q_:=ah hlk;clear hlk
   have HW:=ah hw;clear hw
   obtain⟨b0,b1,b2,b3⟩:=aQ.out wr HW.out
   by_cases hlt:k<n
   ·rcases Rd.shape HE.out with⟨ad,he,h0⟩|⟨e1,off1,FD,he,hmax⟩
    ·exfalso;omega
    rcases Rd.shape QZ.out with⟨ad,he2,h0⟩|⟨e2,off2,mF,he2,yF⟩
    ·exfalso;omega
    injection he with g1 g2 g3
    injection he2 with g4 g5 g6
    subst g1 g3 g4 g6
    clear g2 g5
    obtain⟨p0,p1,p2,p3⟩:=sW HE.out k (by rw[HN.out];exact hlt)
    obtain⟨q0,q1,q2,q3⟩:=sW QZ.out k (by rw[uf.out];exact hlt)
    have hfw:=bg.out.au HW.out
    have p0:=hfw.cell' p0 id
    have p1:=hfw.cell' p1 id
    have p2:=hfw.cell' p2 id
    have p3:=hfw.cell' p3 id
    have q0:=hfw.cell' q0 id
    have q1:=hfw.cell' q1 id
    have q2:=hfw.cell' q2 id
    have q3:=hfw.cell' q3 id
    clear hfw
    have HST:=ah (show es.getD k aG.zero=es'.getD k aG.zero→tY es es' (k+1)from Q_.out.step)
    have dK:=ah (show es.getD k aG.zero≠es'.getD k aG.zero→¬(es=es'∧ks=ks')from fun h e=>h (by rw[e.1]))
    generalize es.getD k aG.zero=s at*
    generalize es'.getD k aG.zero=t at*
    by_cases hst:s=t
    ·subst hst
     go_wp2_with fail
     go_quiet (fail)
     go_wp2
     go_roundw
     case rel=>exact⟨k+1,by omega,by go_num,HST.out (by trivial),HW.out.iH⟩
     case measure=>simp[intOf];omega
    ·have kQ:=ah (show false=tf (es=es'∧ks=ks')from(aZ (dK.out hst)).symm)
     obtain⟨s0,s1,s2,s3⟩:=s
     obtain⟨t0,t1,t2,t3⟩:=t
     clear HST dK
     dsimp only at p0 p1 p2 p3 q0 q1 q2 q3
     by_cases g0:s0=t0
     ·subst g0
      by_cases g1:s1=t1
      ·subst g1
       by_cases g2:s2=t2
       ·subst g2
        have g3:s3≠t3:=fun h=>hst (by rw[h])
        clear hst
        have gb:((s3:Int)==t3)=false:=by simpa using g3
        go_wp2_with fail
        go_quiet (fail)
        go_wp2
        go_ret
        exact⟨bP kQ.out,bg.out.au HW.out.iH⟩
       ·clear hst
        have gb:=JU g2
        go_wp2_with fail
        go_quiet (fail)
        go_wp2
        go_ret
        exact⟨bP kQ.out,bg.out.au HW.out.iH⟩
      ·clear hst
       have gb:((s1:Int)==t1)=false:=by simpa using g1
       go_wp2_with fail
       go_quiet (fail)
       go_wp2
       go_ret
       exact⟨bP kQ.out,bg.out.au HW.out.iH⟩
     ·clear hst
      have gb:((s0:Int)==t0)=false:=by simpa using g0
      go_wp2_with fail
      go_quiet (fail)
      go_wp2
      go_ret
      exact⟨bP kQ.out,bg.out.au HW.out.iH⟩
   ·obtain rfl:n=k:=by omega
    have hee:es=es':=tY.all (HN.out.trans uf.out.symm) (by rw[HN.out];exact Q_.out)
    have yK:=ah hee;clear hee
    go_wp2
    clear b0 b1 b2 b3
    go_loopw [44] (fun i ww=>∃k:Nat,k≤m∧i= .int .i64 k∧(ks=ks'↔ks.drop k=ks'.drop k)∧aj ay ((w.alloc (.cells #[.slice ae n ce, .slice ak m ck] 30)).alloc (.cells #[.slice dW n dX, .slice dY m dZ] 30)) ww) (fun i _=>m-(intOf i).toNat)
    case atStart=>exact⟨0,Nat.zero_le _,rfl,Iff.rfl,HW.out⟩
    case round=>
     obtain⟨k,hk,rfl,hiff,hwk⟩:=hrel
     have FZ:=ah hiff;clear hiff
     have dQ:=ah hwk;clear hwk
     by_cases hlt:k<m
     ·obtain⟨key,es0,sub,rest,hdr⟩:=aH.rM (n:=k) (ks:=ks) (by rw[HM.out];exact hlt)
      obtain⟨key',wE,sub',rest',hdr'⟩:=aH.rM (n:=k) (ks:=ks') (by rw[pF.out];exact hlt)
      rcases Rd.shape jl.out with⟨ad,he,h0⟩|⟨e1,off1,FD,he,hmax⟩
      ·exfalso;omega
      rcases Rd.shape yU.out with⟨ad,he2,h0⟩|⟨e2,off2,mF,he2,yF⟩
      ·exfalso;omega
      injection he with g1 g2 g3
      injection he2 with g4 g5 g6
      subst g1 g3 g4 g6
      clear g2 g5
      have hfw:=bg.out.au dQ.out
      obtain⟨ev0,ZK,p0,p1,p2,hta⟩:=qK (jl.out.aO hfw) (kW.out.aO hfw) hdr
      obtain⟨ev1,ZL,q0,q1,q2,htb⟩:=qK (yU.out.aO hfw) (FH.out.aO hfw) hdr'
      clear hfw
      have hss:=uP k hdr
      have hst1:=xu k hdr
      have hst2:=xu k hdr'
      have HC:=ah (fun W (f:aj ay wr W)=>IH.out es0 sub wE sub' W ev0 ZK ev1 ZL (by have:=jJ.out;omega) (hta.aO f) (htb.aO f) (by have:=m_.out;unfold sizeT at*;omega) (by have:=ZJ.out;unfold sizeT at*;omega))
      have HST:=ah (Qn hdr hdr')
      obtain⟨a0,c0,rfl⟩:=hta.ents.rd.sl
      obtain⟨o3,hk3,-⟩:=hta.kids
      obtain⟨a1,c1,rfl⟩:=hk3.rd.sl
      obtain⟨a0',c0',rfl⟩:=htb.ents.rd.sl
      obtain⟨o4,hk4,-⟩:=htb.kids
      obtain⟨a1',c1',rfl⟩:=hk4.rd.sl
      clear hk3 hk4 hta htb hdr hdr' hss hst1 hst2
      generalize es0.length=n0 at*
      generalize sub.len=m0 at*
      generalize wE.length=n1 at*
      generalize sub'.len=m1 at*
      obtain⟨α,hne,K,hK1,hK0,hK2⟩:=worlds wr
      have kb:=fun s=>aQ.out (K s) (dQ.out.au (hK1 s))
      have k0:=fun s=>(kb s).1
      have k1:=fun s=>(kb s).2.1
      have k2:=fun s=>(kb s).2.2.1
      have k3:=fun s=>(kb s).2.2.2
      have r0:=fun s=>(hK1 s).cell' p0 id
      have r1:=fun s=>(hK1 s).cell' p1 id
      have r2:=fun s=>(hK1 s).cell' p2 id
      have t0:=fun s=>(hK1 s).cell' q0 id
      have t1:=fun s=>(hK1 s).cell' q1 id
      have t2:=fun s=>(hK1 s).cell' q2 id
      clear kb p0 p1 p2 q0 q1 q2
      have fV:=ah (fun s=>dQ.out.au (hK1 s))
      have KJ:=ah hK1
      by_cases hkey:key=key'
      ·by_cases hsub:es0=wE∧sub=sub'
       ·rw[bZ hsub]at HC
        have HY:=ah (show key=key'∧es0=wE∧sub=sub' from⟨hkey,hsub⟩)
        subst hkey
        clear hsub
        go_wp2_with fail
        refine dG K (by kernel_rfl) (by kernel_rfl) hK0 ?_
        repeat(go_big_quiet_step ((go_at_call 45;exact Calls.bK hK2 (HC.out _ (KJ.out _)))))
        refine wpQuiet_nil ?_
        intro w' hw'
        obtain⟨s,rfl⟩:=hw'
        go_wp2
        go_roundw
        case rel=>exact⟨k+1,by omega,by go_num,FZ.out.trans (HST.out.trans ⟨fun h=>h.2,fun h=>⟨⟨by trivial,HY.out.2⟩,h⟩⟩),fV.out s⟩
        case measure=>simp[intOf];omega
       ·rw[aZ hsub]at HC
        have HY:=ah (show ¬(es=es'∧ks=ks')from fun h=>hsub (HST.out.1 (FZ.out.1 h.2)).1.2)
        subst hkey
        clear hsub
        go_wp2_with fail
        refine dG K (by kernel_rfl) (by kernel_rfl) hK0 ?_
        repeat(go_big_quiet_step ((go_at_call 45;exact Calls.bK hK2 (HC.out _ (KJ.out _)))))
        refine wpQuiet_nil ?_
        intro w' hw'
        obtain⟨s,rfl⟩:=hw'
        go_wp2
        go_ret
        exact⟨bP (aZ HY.out).symm,bg.out.au (fV.out s)⟩
      ·have HY:=ah (show ¬(es=es'∧ks=ks')from fun h=>hkey (HST.out.1 (FZ.out.1 h.2)).1.1)
       have gb:=JU hkey
       have gc:(key.toList==key'.toList)=false:=by simpa using gb
       go_wp2_with fail
       refine dG K (by kernel_rfl) (by kernel_rfl) hK0 ?_
       repeat(go_big_quiet_step ((go_at_call 45;exact Calls.bK hK2 (HC.out _ (KJ.out _)))))
       refine wpQuiet_nil ?_
       intro w' hw'
       obtain⟨s,rfl⟩:=hw'
       go_wp2
       go_ret
       exact⟨bP (aZ HY.out).symm,bg.out.au (fV.out s)⟩
     ·obtain rfl:m=k:=by omega
      have hkk:ks=ks':=FZ.out.2 (by rw[aH.sV (by rw[HM.out];exact Nat.le_refl _),aH.sV (by rw[pF.out];exact Nat.le_refl _)])
      have HKK:=ah hkk;clear hkk
      go_wp2
      go_ret
      exact⟨bP (bZ ⟨yK.out,HKK.out⟩).symm,bg.out.au dQ.out⟩
open Go.RowKit
theorem KL (Q Q':Nat→Prop) (es:List aG) (ks:aH) (c:aW) (es':List aG) (ks':aH) (c':aW) (w:World) (ev kv cv ev' kv' cv':Value) (h:fH Q w ev kv cv es ks c) (hok:fP es ks c) (h':fH Q' w ev' kv' cv' es' ks' c') (hok':fP es' ks' c'):
 Calls Tryz.prog 40 #[.agg #[ev,kv,cv], .agg #[ev',kv',cv']] w fun e w'=>e= .returned (.bool (tf ((es=es'∧ks=ks')∧c=c')))∧aj ay w w':=by
 obtain⟨a0,c0,a1,c1,a2,c2,rfl,rfl,rfl⟩:=h.shape
 obtain⟨b0,d0,b1,d1,b2,d2,rfl,rfl,rfl⟩:=h'.shape
 have HT:=ah (fun W (f:aj ay w W)=>ZI Q Q' _ es ks es' ks' W _ _ _ _ (Nat.lt_succ_self _) (h.tree.aO f) (h'.tree.aO f) (Nat.le_trans hok.small (by decide)) (Nat.le_trans hok'.small (by decide)))
 have hde:decide (c=c')=tf (c=c'):=Bf (by rw[decide_eq_true_iff])
 have HC:=ah (fun W (f:aj ay w W)=>hde▸Qm W _ _ c c' (Rd.aO h.ctx f) (Rd.aO h'.ctx f) (Nat.le_trans hok.len (by decide)) (Nat.le_trans hok'.len (by decide)))
 clear h hok h' hok' hde
 by_cases r3:es=es'∧ks=ks'
 rotate_left 1
 ·rw[aZ r3]at HT
  rw[aZ fun h=>r3 h.1]
  clear r3 HC
  generalize es.length=n at*
  generalize ks.len=m at*
  generalize c.length=k at*
  generalize es'.length=n' at*
  generalize ks'.len=m' at*
  generalize c'.length=k' at*
  have bg:=ah ((aj.alloc ay w (.cells #[.slice a0 n c0, .slice a1 m c1, .slice a2 k c2] 34)).alloc1 (o:= .cells #[.slice b0 n' d0, .slice b1 m' d1, .slice b2 k' d2] 34))
  have aQ:=ah (Am w (.slice a0 n c0) (.slice a1 m c1) (.slice a2 k c2) (.slice b0 n' d0) (.slice b1 m' d1) (.slice b2 k' d2) 34)
  go_enter Tryz.func40,Tryz.ntmps40
  go_wp2_with(first
   |(go_at_call 45;refine(HT.out _ bg.out).mono ?_;rintro e w1 ⟨rfl,hw1⟩;obtain⟨y0,y1,y2,y3,y4,y5⟩:=aQ.out w1 hw1;have HW1:=ah hw1;clear hw1))
  go_ret
  exact⟨rfl,bg.out.au HW1.out⟩
 rw[bZ r3]at HT
 have hall:tf ((es=es'∧ks=ks')∧c=c')=tf (c=c'):=kT ⟨fun h=>h.2,fun h=>⟨r3,h⟩⟩
 rw[hall]
 clear hall r3
 generalize tf (c=c')=y at*
 generalize es.length=n at*
 generalize ks.len=m at*
 generalize c.length=k at*
 generalize es'.length=n' at*
 generalize ks'.len=m' at*
 generalize c'.length=k' at*
 have bg:=ah ((aj.alloc ay w (.cells #[.slice a0 n c0, .slice a1 m c1, .slice a2 k c2] 34)).alloc1 (o:= .cells #[.slice b0 n' d0, .slice b1 m' d1, .slice b2 k' d2] 34))
 have aQ:=ah (Am w (.slice a0 n c0) (.slice a1 m c1) (.slice a2 k c2) (.slice b0 n' d0) (.slice b1 m' d1) (.slice b2 k' d2) 34)
 go_enter Tryz.func40,Tryz.ntmps40
 go_wp2_with(first
  |(go_at_call 45;refine(HT.out _ bg.out).mono ?_;rintro e w1 ⟨rfl,hw1⟩;obtain⟨y0,y1,y2,y3,y4,y5⟩:=aQ.out w1 hw1;have HW1:=ah hw1;clear hw1)
  |(go_at_call 84;refine(HC.out _ (bg.out.au HW1.out)).mono ?_;rintro e w2 ⟨rfl,hw2⟩;have HW2:=ah (HW1.out.au hw2);clear hw2))
 go_ret
 exact⟨rfl,bg.out.au HW2.out⟩
open Go.RowKit
theorem ZM (w:World) (dc af la v0 v1 v2 v3:Int) (a0 a1 a2:Option Addr) (n m k c0 c1 c2:Nat):
 Calls Tryz.prog 85 #[.agg #[.int .i64 dc, .int .i64 af, .int .i64 la, .int .i64 v0, .int .i64 v1, .int .i64 v2, .int .i64 v3, .slice a0 n c0, .slice a1 m c1, .slice a2 k c2]] w fun e w'=>e= .returned (.bool (tf (oC dc af la (bG v0 v1 v2 v3))))∧aj ay w w':=by
 obtain⟨α,hne,K,hK1,hK0,hK2⟩:=worlds (w.alloc (.cells #[.int .i64 dc, .int .i64 af, .int .i64 la, .int .i64 v0, .int .i64 v1, .int .i64 v2, .int .i64 v3, .slice a0 n c0, .slice a1 m c1, .slice a2 k c2] 55))
 have kb:=fun s=>BX w _ _ _ _ _ _ _ _ _ _ _ (K s) (hK1 s)
 have k0:=fun s=>(kb s).1
 have k1:=fun s=>(kb s).2.1
 have k2:=fun s=>(kb s).2.2.1
 have k3:=fun s=>(kb s).2.2.2.1
 have k4:=fun s=>(kb s).2.2.2.2.1
 have k5:=fun s=>(kb s).2.2.2.2.2.1
 have k6:=fun s=>(kb s).2.2.2.2.2.2.1
 have k7:=fun s=>(kb s).2.2.2.2.2.2.2.1
 have k8:=fun s=>(kb s).2.2.2.2.2.2.2.2.1
 have k9:=fun s=>(kb s).2.2.2.2.2.2.2.2.2
 clear kb
 cases h0:decide (0≤dc)with
 |false=>
  rw[aZ (fun h=>by obtain⟨g0,g1,g2,g3,g4,g5,g6⟩:=h;simp at h0;omega)]
  go_enter Tryz.func85,Tryz.ntmps85
  go_wp2_with fail
  refine dG K (by kernel_rfl) (by kernel_rfl) hK0 ?_
  repeat(go_big_quiet_step (fail))
  refine wpQuiet_nil ?_
  intro w' hw'
  obtain⟨s,rfl⟩:=hw'
  have hfs:=(aj.alloc ay w _).au (hK1 s)
  go_wp2
  go_ret
  exact⟨rfl,hfs⟩
 |true=>
  cases h1:decide (dc<4)with
  |false=>
   rw[aZ (fun h=>by obtain⟨g0,g1,g2,g3,g4,g5,g6⟩:=h;simp at h1;omega)]
   go_enter Tryz.func85,Tryz.ntmps85
   go_wp2_with fail
   refine dG K (by kernel_rfl) (by kernel_rfl) hK0 ?_
   repeat(go_big_quiet_step (fail))
   refine wpQuiet_nil ?_
   intro w' hw'
   obtain⟨s,rfl⟩:=hw'
   have hfs:=(aj.alloc ay w _).au (hK1 s)
   go_wp2
   go_ret
   exact⟨rfl,hfs⟩
  |true=>
   cases h2:decide (0≤af)with
   |false=>
    rw[aZ (fun h=>by obtain⟨g0,g1,g2,g3,g4,g5,g6⟩:=h;simp at h2;omega)]
    go_enter Tryz.func85,Tryz.ntmps85
    go_wp2_with fail
    refine dG K (by kernel_rfl) (by kernel_rfl) hK0 ?_
    repeat(go_big_quiet_step (fail))
    refine wpQuiet_nil ?_
    intro w' hw'
    obtain⟨s,rfl⟩:=hw'
    have hfs:=(aj.alloc ay w _).au (hK1 s)
    go_wp2
    go_ret
    exact⟨rfl,hfs⟩
   |true=>
    cases h3:decide (af<la)with
    |false=>
     rw[aZ (fun h=>by obtain⟨g0,g1,g2,g3,g4,g5,g6⟩:=h;simp at h3;omega)]
     go_enter Tryz.func85,Tryz.ntmps85
     go_wp2_with fail
     refine dG K (by kernel_rfl) (by kernel_rfl) hK0 ?_
     repeat(go_big_quiet_step (fail))
     refine wpQuiet_nil ?_
     intro w' hw'
     obtain⟨s,rfl⟩:=hw'
     have hfs:=(aj.alloc ay w _).au (hK1 s)
     go_wp2
     go_ret
     exact⟨rfl,hfs⟩
    |true=>
     cases h4:decide (la≤1099511627776)with
     |false=>
      rw[aZ (fun h=>by obtain⟨g0,g1,g2,g3,g4,g5,g6⟩:=h;simp at h4;omega)]
      go_enter Tryz.func85,Tryz.ntmps85
      go_wp2_with fail
      refine dG K (by kernel_rfl) (by kernel_rfl) hK0 ?_
      repeat(go_big_quiet_step (fail))
      refine wpQuiet_nil ?_
      intro w' hw'
      obtain⟨s,rfl⟩:=hw'
      have hfs:=(aj.alloc ay w _).au (hK1 s)
      go_wp2
      go_ret
      exact⟨rfl,hfs⟩
     |true=>
      obtain⟨dn,hdn⟩:∃dn:Nat,dc=dn:=⟨dc.toNat,by simp at h0;omega⟩
      subst hdn
      have hd4:dn<4:=by simp at h1;omega
      have kd:∀s,(K s).cell? ⟨w.heap.size,3+dn,none⟩=some (.int .i64 (bG v0 v1 v2 v3 dn)):=fun s=>by
       rcases(by omega:dn=0∨dn=1∨dn=2∨dn=3)with rfl|rfl|rfl|rfl
       ·exact k3 s
       ·exact k4 s
       ·exact k5 s
       ·exact k6 s
      have E_:(dn:Int)<4:=by omega
      have acV:decide ((0:Int)≤(dn:Int))=true:=by simp
      have Gf:=ah (fun W=>NH W v0 v1 v2 v3)
      by_cases hm:f_ (bG v0 v1 v2 v3)
      ·rw[bZ hm]at Gf
       obtain⟨fd,hfd⟩:∃fd,fd=bG v0 v1 v2 v3 dn:=⟨_,rfl⟩
       have hy:tf (oC dn af la (bG v0 v1 v2 v3))=decide (fd≤af):=by
        simp at h0 h1 h2 h3 h4
        refine(Bf ?_).symm
        rw[decide_eq_true_iff,hfd]
        exact⟨fun h=>⟨by omega,h1,h2,h3,h4,h,hm⟩,fun h=>h.2.2.2.2.2.1⟩
       rw[hy]
       rw[←hfd]at kd
       clear hy hfd hm
       go_enter Tryz.func85,Tryz.ntmps85
       go_wp2_with fail
       refine dG K (by kernel_rfl) (by kernel_rfl) hK0 ?_
       repeat(go_big_quiet_step ((go_at_call 76;exact Calls.bK hK2 (Gf.out _))))
       refine wpQuiet_nil ?_
       intro w' hw'
       obtain⟨s,rfl⟩:=hw'
       have hfs:=(aj.alloc ay w _).au (hK1 s)
       go_wp2
       go_ret
       exact⟨rfl,hfs⟩
      ·rw[aZ hm]at Gf
       rw[aZ (fun h=>hm h.2.2.2.2.2.2)]
       clear hm
       go_enter Tryz.func85,Tryz.ntmps85
       go_wp2_with fail
       refine dG K (by kernel_rfl) (by kernel_rfl) hK0 ?_
       repeat(go_big_quiet_step ((go_at_call 76;exact Calls.bK hK2 (Gf.out _))))
       refine wpQuiet_nil ?_
       intro w' hw'
       obtain⟨s,rfl⟩:=hw'
       have hfs:=(aj.alloc ay w _).au (hK1 s)
       go_wp2
       go_ret
       exact⟨rfl,hfs⟩
theorem ZN (w:World) (dc af la v0 v1 v2 v3:Int) (a0 a1 a2:Option Addr) (n m k c0 c1 c2:Nat) (hn:oC dc af la (bG v0 v1 v2 v3)):
 Calls Tryz.prog 88 #[.agg #[.int .i64 dc, .int .i64 af, .int .i64 la, .int .i64 v0, .int .i64 v1, .int .i64 v2, .int .i64 v3, .slice a0 n c0, .slice a1 m c1, .slice a2 k c2]] w fun e w'=>∃v',e= .returned v'∧fZ w' v' [(dc,af+1,la)]∧aj ay w w':=by
 have hb:0≤af∧af<la∧la≤1099511627776:=⟨hn.2.2.1,hn.2.2.2.1,hn.2.2.2.2.1⟩
 have hwr:IntKind.i64.wrap (af+1)=af+1:=by simp[IntKind.wrap,IntKind.bits,IntKind.signed];omega
 clear hn
 go_enter Tryz.func88,Tryz.ntmps88
 go_wp2
 go_ret
 have hc:=heap_alloc_new (w.alloc (.cells #[.int .i64 dc, .int .i64 af, .int .i64 la, .int .i64 v0, .int .i64 v1, .int .i64 v2, .int .i64 v3, .slice a0 n c0, .slice a1 m c1, .slice a2 k c2] 55)) (.cells #[.int .i64 dc, .int .i64 (af+1), .int .i64 la] 144)
 refine⟨_,rfl, .inr ⟨_,0,1,rfl,Nat.le_refl _,by simp[maxLen],fun j u hu=>?_⟩,(aj.alloc ay _ _).alloc1⟩
 rw[Nat.zero_add]
 have hu2:([.int .i64 dc, .int .i64 (af+1), .int .i64 la]:List Value)[j]?=some u:=hu
 have:=aC hc j (by simpa using hu2)
 simpa using this
end Go.Proofs.YtabkpccdnkjoiaaGreat
