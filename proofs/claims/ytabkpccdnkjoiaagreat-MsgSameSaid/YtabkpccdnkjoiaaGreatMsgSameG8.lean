/- Words for the law MsgSame: TAll, TEnt, TRight, KidQ, TClone, TClone2. -/
import Derived.Test.YtabkpccdnkjoiaaGreatMsgSameG0
import Derived.Test.YtabkpccdnkjoiaaGreatMsgSameG4
import Derived.Test.YtabkpccdnkjoiaaGreatMsgSameG6
import Derived.Test.YtabkpccdnkjoiaaGreatMsgSameG7
set_option linter.unusedSimpArgs false
set_option linter.unusedVariables false
set_option maxHeartbeats 32000000
set_option maxRecDepth 1000000
namespace Go.Proofs.YtabkpccdnkjoiaaGreat
open Go.RowKit
theorem Ov:(Tryz.prog.info? 170).map (fun i=>(i.zero,i.size,i.bytes))=some (some (.agg #[.int .i64 0, .int .i64 0]),2,16):=by kernel_rfl
theorem Wn {l:List aG} {k:Nat} (hk:k<l.length):pI (l.take (k+1))=pI (l.take k)++ [((l.getD k aG.zero).dc,(l.getD k aG.zero).n)]:=by
 rw[take_succ aG.zero hk];simp[pI]
theorem Ox {ks:aH} {n:Nat} {key:ByteArray} {es:List aG} {sub rest:aH} (h:ks.drop n= .cons key es sub rest):oz (ks.drop n)=gq es sub++oz (ks.drop (n+1)):=by
 rw[h,aH.yI n ks h];rfl
theorem xu:∀(n:Nat) {ks:aH} {key:ByteArray} {es:List aG} {sub rest:aH},ks.drop n= .cons key es sub rest→sizeT es sub≤gW ks
 |0, .cons _ _ _ _,_,_,_,_,h=>by
  cases h
  simp only[gW,sizeT]
  omega
 |0, .nil,_,_,_,_,h=>by cases h
 |n+1, .nil,_,_,_,_,h=>by cases h
 |n+1, .cons _ _ _ r,_,_,_,_,h=>by
  have h1:r.drop n=_:=h
  have:=xu n h1
  simp only[gW]
  omega
theorem uQ:∀ks:aH,ks.len≤gW ks
 | .nil=>Nat.le_refl _
 | .cons _ _ _ r=>by have:=uQ r;simp only[aH.len,gW];omega
theorem Wp (Q:Nat→Prop):∀(N:Nat) (es:List aG) (ks:aH) (w:World) (ev kv:Value),gW ks<N→bQ Q w ev kv es ks→sizeT es ks≤100000→
 Calls Tryz.prog 187 #[.agg #[ev,kv]] w fun e w'=>∃v',e= .returned v'∧OwnAt w w' 170 2 v' (gq es ks).length (dU (gq es ks)):=by
 intro N
 induction N with
 |zero=>intros;exfalso;omega
 |succ N jy=>
  intro es ks w ev kv hN ht hsz
  obtain⟨i0,hi,hz0,hz1,hz2⟩:=info_parts Ov
  obtain⟨ae,ce,rfl⟩:=ht.ents.rd.sl
  obtain⟨os,hkr,fD⟩:=ht.kids
  obtain⟨ak,ck,rfl⟩:=hkr.rd.sl
  have HE:=ah ht.ents.rd
  have jl:=ah hkr.rd;clear hkr ht
  have kW:=ah fD;clear fD
  have IH:=ah jy;clear jy
  have dB:=ah (aj.alloc ay w (.cells #[.slice ae es.length ce, .slice ak ks.len ck] 30))
  have box0:(w.alloc (.cells #[.slice ae es.length ce, .slice ak ks.len ck] 30)).cell? ⟨w.heap.size,0,none⟩=some (.slice ae es.length ce):=aC (heap_alloc_new w _) 0 rfl
  have box1:(w.alloc (.cells #[.slice ae es.length ce, .slice ak ks.len ck] 30)).cell? ⟨w.heap.size,1,none⟩=some (.slice ak ks.len ck):=aC (heap_alloc_new w _) 1 rfl
  have B0:=ah box0;clear box0
  have B1:=ah box1;clear box1
  have mJ:=ah (Nat.le_trans (BL es ks) hsz)
  have xw:es.length≤100000:=by unfold sizeT at hsz;omega
  have BP:ks.len≤100000:=by have:=uQ ks;unfold sizeT at hsz;omega
  have m_:=ah hsz;clear hsz
  have jJ:=ah hN;clear hN
  generalize hes:es.length=n at*
  have HN:=ah hes;clear hes
  generalize hkl:ks.len=m at*
  have HM:=ah hkl;clear hkl
  go_enter Tryz.func187,Tryz.ntmps187
  go_wp2_with fail
  have b0:=B0.out
  go_wp2
  clear b0
  go_loopw [3,11] (fun v i ww=>∃k:Nat,k≤n∧i= .int .i64 k∧OwnAt (w.alloc (.cells #[.slice ae n ce, .slice ak m ck] 30)) ww 170 2 v k (dU (pI (es.take k)))) (fun _ i _=>n-(intOf i).toNat)
  case atStart=>exact⟨0,Nat.zero_le _,rfl,OwnAt.nil (aj.refl _ _) _ _⟩
  case round=>
   obtain⟨k,hk,rfl,ho⟩:=hrel
   obtain⟨av,cv,rfl⟩:=ho.shape
   have HO:=ah ho;clear ho
   by_cases hlt:k<n
   ·rcases Rd.shape HE.out with⟨ad,he,h0⟩|⟨b,off,cc,he,hmax⟩
    ·exfalso;have:=HN.out;omega
    ·injection he with e1 e2 e3
     subst e1 e3
     clear e2
     have hlk:k<es.length:=by rw[HN.out];exact hlt
     obtain⟨p0,p1,p2,p3⟩:=sW HE.out k hlk
     have f2:=dB.out.au HO.out.aP
     have q0:=f2.cell' p0 id
     have q1:=f2.cell' p1 id
     have q2:=f2.cell' p2 id
     have q3:=f2.cell' p3 id
     clear p0 p1 p2 p3 f2
     have hE:=Wn hlk
     generalize es.getD k aG.zero=e at*
     have yK:=ah hE;clear hE
     go_wp2_with(at_builtin;refine oh _ _ [.int .i64 e.dc, .int .i64 e.n] rfl (.tmp 15) (.tmp 18) 226 rfl 170 i0 _ 2 16 Tryz.underlying226 hi hz0 hz1 hz2 (by decide) (by decide) _ _ _ (HO.out.keep (aj.alloc _ _ _)) 1 1 rfl (by simp[Act.eval]) rfl (by simp[Value.oneCell']) (by simp only[maxLen];omega) (by omega) ?_;intro EN mF w2 cZ;have OW:=ah cZ;clear cZ)
     go_roundw
     case rel=>exact⟨k+1,by omega,by go_num,by rw[yK.out,oZ];exact OW.out⟩
     case measure=>simp[intOf];omega
   ·obtain rfl:n=k:=by omega
    rw[List.take_of_length_le (by rw[HN.out];exact Nat.le_refl _)]at HO
    have b1:=HO.out.aP.cell' B1.out id
    go_wp2
    clear b1
    go_loopw [3,24] (fun v i ww=>∃(k:Nat) (out:aX),k≤m∧i= .int .i64 k∧OwnAt (w.alloc (.cells #[.slice ae n ce, .slice ak m ck] 30)) ww 170 2 v out.length (dU out)∧gq es ks=out++oz (ks.drop k)) (fun _ i _=>m-(intOf i).toNat)
    case atStart=>exact⟨0,pI es,Nat.zero_le _,rfl,by rw[IU,HN.out];exact HO.out,rfl⟩
    case round=>
     obtain⟨k,out,hk,rfl,ho,hd⟩:=hrel
     obtain⟨av,cv,rfl⟩:=ho.shape
     have dL:=ah ho;clear ho
     have HD:=ah hd;clear hd
     by_cases hlt:k<m
     ·obtain⟨key,es',sub,rest,hdr⟩:=aH.rM (n:=k) (ks:=ks) (by rw[HM.out];exact hlt)
      rcases Rd.shape jl.out with⟨ad,he,h0⟩|⟨b,off,cc,he,hmax⟩
      ·exfalso;have:=HM.out;omega
      ·injection he with e1 e2 e3
       subst e1 e3
       clear e2
       have f2:=dB.out.au dL.out.aP
       obtain⟨ev',kv',c0,c1,c2,hta⟩:=qK (jl.out.aO f2) (kW.out.aO f2) hdr
       obtain⟨dW,dX,rfl⟩:=hta.ents.rd.sl
       obtain⟨os',iK,kX⟩:=hta.kids
       obtain⟨dY,dZ,rfl⟩:=iK.rd.sl
       clear iK kX f2
       have yL:=ah (Ox hdr)
       have fF:=ah (uP k hdr)
       have HST:=ah (xu k hdr)
       have dM:=ah hta;clear hta
       have HIH:=ah (fun w' (h:aj ay wr w')=>IH.out es' sub w' _ _ (by have:=fF.out;have:=jJ.out;omega) (dM.out.aO h) (by have:=HST.out;have:=m_.out;unfold sizeT at*;omega))
       have hlen:out.length+(gq es' sub).length≤100000:=by
        have h1:=mJ.out
        rw[HD.out,yL.out,List.length_append,List.length_append]at h1
        omega
       have HLEN:=ah hlen;clear hlen
       clear hdr
       generalize es'.length=n' at*
       generalize sub.len=m' at*
       go_wp2_with(first
        |(go_at_call 187;refine(HIH.out _ (aj.alloc _ _ _)).mono ?_;rintro e w3 ⟨v3,rfl,ho3⟩;obtain⟨a3,c3,rfl⟩:=ho3.shape;have dJ:=ah ho3;clear ho3;have HKK:=ah (dL.out.keep ((aj.alloc ay _ _).au dJ.out.aP)))
        |(at_builtin;refine vN _ _ _ rfl (.tmp 28) (.tmp 31) 226 226 rfl 170 170 i0 _ 2 16 Tryz.underlying226 Tryz.underlying226 hi hz0 hz1 hz2 (by decide) (by decide) _ _ _ HKK.out _ (gq es' sub).length rfl rfl dJ.out.rd (by rw[wV]) (Uo _) (by have:=HLEN.out;simp only[maxLen];omega) (by have:=HLEN.out;omega) ?_;intro ad cc w5 kD;have OW:=ah kD;clear kD))
       go_roundw
       case rel=>exact⟨k+1,out++gq es' sub,by omega,by go_num,by rw[List.length_append,oZ];exact OW.out,by rw[HD.out,yL.out,List.append_assoc]⟩
       case measure=>simp[intOf];omega
     ·obtain rfl:m=k:=by omega
      have hd:=HD.out
      rw[aH.sV (by rw[HM.out];exact Nat.le_refl _)]at hd
      have hd2:gq es ks=out:=by rw[hd];simp[oz]
      have HD2:=ah hd2;clear hd2 hd
      go_wp2
      go_ret
      refine⟨_,rfl,?_⟩
      rw[HD2.out]
      exact dL.out.base dB.out
open Go.RowKit
theorem Wq (d n e m:Int):(!decide (0≤wU d n e m))=vK d n e m:=by
 rw[←Un]
 by_cases h:0≤wU d n e m
 ·have:¬wU d n e m<0:=by omega
  simp[h,this]
 ·have:wU d n e m<0:=by omega
  simp[h,this]
theorem Oy (w:World) (v:Value) (es:List aG) (hv:Rd w v es.length (iY es)) (hok:zS es):
 Calls Tryz.prog 249 #[v] w fun e w'=>e= .returned (.bool (jk none es))∧aj ay w w':=by
 obtain⟨aA,cA,rfl⟩:=hv.sl
 have HH:=ah hv;clear hv
 have dL:=ah hok;clear hok
 generalize hn:es.length=n at*
 have HN:=ah hn;clear hn
 go_enter Tryz.func249,Tryz.ntmps249
 go_wp2
 go_loopw [7] (fun i ww=>∃k:Nat,k≤n∧i= .int .i64 k∧jk none (es.take k)=true∧aj ay w ww) (fun i _=>n-(intOf i).toNat)
 case atStart=>exact⟨0,Nat.zero_le _,rfl,rfl,aj.refl _ _⟩
 case round=>
  obtain⟨k,hk,rfl,hr,hw⟩:=hrel
  have HW:=ah hw;clear hw
  have HR:=ah hr;clear hr
  by_cases hlt:k<n
  ·rcases Rd.shape (HH.out.aO HW.out)with⟨ad,he,h0⟩|⟨b,off,cc,he,hmax⟩
   ·exfalso;have:=HN.out;omega
   ·injection he with e1 e2 e3
    subst e1 e3
    clear e2
    have hlk:k<es.length:=by rw[HN.out];exact hlt
    have her:=HH.out.aO HW.out
    obtain⟨q0,q1,q2,q3⟩:=sW her k hlk
    have hsz:=(dL.out.at hlk).2.2.2
    have hfk:=(dL.out.at hlk).2.2.1
    have hbl:b<wr.heap.size:=World.block_lt_of_cell? _ _ q0
    rcases Nat.eq_zero_or_pos k with rfl|hk0
    ·have hS:=Om (l:=es) hlk
     generalize es.getD 0 aG.zero=e at*
     simp only[Nat.zero_mul,Nat.add_zero]at q0 q1 q2 q3
     clear her
     have hbf:aj ay wr (wr.alloc (.cells #[.int .i64 e.dc, .int .i64 e.n, .string e.s, .int .i64 e.k] 172)):=aj.alloc _ _ _
     have dQ:=ah (HW.out.au hbf)
     obtain⟨α,hne,K,hK3,hK0,hK2⟩:=worlds (wr.alloc (.cells #[.int .i64 e.dc, .int .i64 e.n, .string e.s, .int .i64 e.k] 172))
     have hK1:=hK3
     have n0:=(fun s=>(hK1 s).cell' (aC (heap_alloc_new wr _) 0 rfl:(wr.alloc (.cells #[.int .i64 e.dc, .int .i64 e.n, .string e.s, .int .i64 e.k] 172)).cell? ⟨wr.heap.size,0,none⟩=some (.int .i64 e.dc)) id)
     have n1:=(fun s=>(hK1 s).cell' (aC (heap_alloc_new wr _) 1 rfl:(wr.alloc (.cells #[.int .i64 e.dc, .int .i64 e.n, .string e.s, .int .i64 e.k] 172)).cell? ⟨wr.heap.size,1,none⟩=some (.int .i64 e.n)) id)
     have n2:=(fun s=>(hK1 s).cell' (aC (heap_alloc_new wr _) 2 rfl:(wr.alloc (.cells #[.int .i64 e.dc, .int .i64 e.n, .string e.s, .int .i64 e.k] 172)).cell? ⟨wr.heap.size,2,none⟩=some (.string e.s)) id)
     have n3:=(fun s=>(hK1 s).cell' (aC (heap_alloc_new wr _) 3 rfl:(wr.alloc (.cells #[.int .i64 e.dc, .int .i64 e.n, .string e.s, .int .i64 e.k] 172)).cell? ⟨wr.heap.size,3,none⟩=some (.int .i64 e.k)) id)
     cases hd:nJ e.dc e.n with
     |false=>
      have he:gV e=false:=by simp[gV,hd]
      rw[he]at hS
      (try simp only[Bool.false_and]at hS)
      have HS:=ah hS;clear hS he
      have HDR:=ah (fun W=>zI e.dc e.n W)
      rw[hd]at HDR
      have gU:=ah (fun W=>uK 0 0 0 0 W)
      clear hd
      go_wp2_with fail
      refine dG K (by kernel_rfl) (by kernel_rfl) hK0 ?_
      repeat(go_big_quiet_step ((first|(go_at_call 236;exact Calls.bK hK2 (HDR.out _))|(go_at_call 241;exact Calls.bK hK2 (gU.out _)))))
      refine wpQuiet_nil ?_
      intro w' hw'
      obtain⟨s,rfl⟩:=hw'
      have hfs:=hK1 s
      go_wp2
      go_ret
      exact⟨bP (rO HS.out).symm,dQ.out.au hfs⟩
     |true=>
      have HDR:=ah (fun W=>zI e.dc e.n W)
      rw[hd]at HDR
      cases h1:decide (30<(e.s.size:Int))with
      |true=>
       have gU:=ah (fun W=>uK 0 0 0 0 W)
       have he:gV e=false:=by simp at h1;simp[gV];intros;omega
       rw[he]at hS
       (try simp only[Bool.false_and]at hS)
       have HS:=ah hS;clear hS he
       clear hd
       go_wp2_with fail
       refine dG K (by kernel_rfl) (by kernel_rfl) hK0 ?_
       repeat(go_big_quiet_step ((first|(go_at_call 236;exact Calls.bK hK2 (HDR.out _))|(go_at_call 241;exact Calls.bK hK2 (gU.out _)))))
       refine wpQuiet_nil ?_
       intro w' hw'
       obtain⟨s,rfl⟩:=hw'
       have hfs:=hK1 s
       go_wp2
       go_ret
       exact⟨bP (rO HS.out).symm,dQ.out.au hfs⟩
      |false=>
       cases h2:decide (1099511627776<e.k)with
       |true=>
        have gU:=ah (fun W=>uK 0 0 0 0 W)
        have he:gV e=false:=by simp at h2;simp[gV];intros;omega
        rw[he]at hS
        (try simp only[Bool.false_and]at hS)
        have HS:=ah hS;clear hS he
        clear hd
        go_wp2_with fail
        refine dG K (by kernel_rfl) (by kernel_rfl) hK0 ?_
        repeat(go_big_quiet_step ((first|(go_at_call 236;exact Calls.bK hK2 (HDR.out _))|(go_at_call 241;exact Calls.bK hK2 (gU.out _)))))
        refine wpQuiet_nil ?_
        intro w' hw'
        obtain⟨s,rfl⟩:=hw'
        have hfs:=hK1 s
        go_wp2
        go_ret
        exact⟨bP (rO HS.out).symm,dQ.out.au hfs⟩
       |false=>
        cases h3:decide (e.k< -1099511627776)with
        |true=>
         have gU:=ah (fun W=>uK 0 0 0 0 W)
         have he:gV e=false:=by simp at h3;simp[gV];intros;omega
         rw[he]at hS
         (try simp only[Bool.false_and]at hS)
         have HS:=ah hS;clear hS he
         clear hd
         go_wp2_with fail
         refine dG K (by kernel_rfl) (by kernel_rfl) hK0 ?_
         repeat(go_big_quiet_step ((first|(go_at_call 236;exact Calls.bK hK2 (HDR.out _))|(go_at_call 241;exact Calls.bK hK2 (gU.out _)))))
         refine wpQuiet_nil ?_
         intro w' hw'
         obtain⟨s,rfl⟩:=hw'
         have hfs:=hK1 s
         go_wp2
         go_ret
         exact⟨bP (rO HS.out).symm,dQ.out.au hfs⟩
        |false=>
         have he:gV e=true:=by simp at h1 h2 h3;simp[gV,hd];omega
         rw[he]at hS
         clear he hd
         have gU:=ah (fun W=>uK 0 0 0 0 W)
         have HS:=ah hS;clear hS
         go_wp2_with fail
         refine dG K (by kernel_rfl) (by kernel_rfl) hK0 ?_
         repeat(go_big_quiet_step ((first|(go_at_call 236;exact Calls.bK hK2 (HDR.out _))|(go_at_call 241;exact Calls.bK hK2 (gU.out _)))))
         refine wpQuiet_nil ?_
         intro w' hw'
         obtain⟨s,rfl⟩:=hw'
         have hfs:=hK1 s
         go_wp2
         go_roundw
         case rel=>exact⟨0+1,by omega,by go_num,HS.out,dQ.out.au hfs⟩
         case measure=>simp[intOf];omega
    ·obtain⟨j,rfl⟩:∃j,k=j+1:=⟨k-1,by omega⟩
     obtain⟨p0,p1,-,-⟩:=sW her j (by omega)
     clear her
     have hS:=Oo (l:=es) (j:=j) hlk HR.out
     generalize es.getD (j+1) aG.zero=e at*
     generalize es.getD j aG.zero=pe at*
     have hbf:aj ay wr (wr.alloc (.cells #[.int .i64 e.dc, .int .i64 e.n, .string e.s, .int .i64 e.k] 172)):=aj.alloc _ _ _
     have dQ:=ah (HW.out.au hbf)
     obtain⟨α,hne,K,hK3,hK0,hK2⟩:=worlds (wr.alloc (.cells #[.int .i64 e.dc, .int .i64 e.n, .string e.s, .int .i64 e.k] 172))
     have hK1:=hK3
     have n0:=(fun s=>(hK1 s).cell' (aC (heap_alloc_new wr _) 0 rfl:(wr.alloc (.cells #[.int .i64 e.dc, .int .i64 e.n, .string e.s, .int .i64 e.k] 172)).cell? ⟨wr.heap.size,0,none⟩=some (.int .i64 e.dc)) id)
     have n1:=(fun s=>(hK1 s).cell' (aC (heap_alloc_new wr _) 1 rfl:(wr.alloc (.cells #[.int .i64 e.dc, .int .i64 e.n, .string e.s, .int .i64 e.k] 172)).cell? ⟨wr.heap.size,1,none⟩=some (.int .i64 e.n)) id)
     have n2:=(fun s=>(hK1 s).cell' (aC (heap_alloc_new wr _) 2 rfl:(wr.alloc (.cells #[.int .i64 e.dc, .int .i64 e.n, .string e.s, .int .i64 e.k] 172)).cell? ⟨wr.heap.size,2,none⟩=some (.string e.s)) id)
     have n3:=(fun s=>(hK1 s).cell' (aC (heap_alloc_new wr _) 3 rfl:(wr.alloc (.cells #[.int .i64 e.dc, .int .i64 e.n, .string e.s, .int .i64 e.k] 172)).cell? ⟨wr.heap.size,3,none⟩=some (.int .i64 e.k)) id)
     have m0:=(fun s=>(hK1 s).cell' (hbf.cell' p0 id) id)
     have m1:=(fun s=>(hK1 s).cell' (hbf.cell' p1 id) id)
     clear p0 p1
     cases hd:nJ e.dc e.n with
     |false=>
      have he:gV e=false:=by simp[gV,hd]
      rw[he]at hS
      (try simp only[Bool.false_and]at hS)
      have HS:=ah hS;clear hS he
      have HDR:=ah (fun W=>zI e.dc e.n W)
      rw[hd]at HDR
      have gU:=ah (fun W=>uK 0 0 0 0 W)
      clear hd
      go_wp2_with fail
      refine dG K (by kernel_rfl) (by kernel_rfl) hK0 ?_
      repeat(go_big_quiet_step ((first|(go_at_call 236;exact Calls.bK hK2 (HDR.out _))|(go_at_call 241;exact Calls.bK hK2 (gU.out _)))))
      refine wpQuiet_nil ?_
      intro w' hw'
      obtain⟨s,rfl⟩:=hw'
      have hfs:=hK1 s
      go_wp2
      go_ret
      exact⟨bP (rO HS.out).symm,dQ.out.au hfs⟩
     |true=>
      have HDR:=ah (fun W=>zI e.dc e.n W)
      rw[hd]at HDR
      cases h1:decide (30<(e.s.size:Int))with
      |true=>
       have gU:=ah (fun W=>uK 0 0 0 0 W)
       have he:gV e=false:=by simp at h1;simp[gV];intros;omega
       rw[he]at hS
       (try simp only[Bool.false_and]at hS)
       have HS:=ah hS;clear hS he
       clear hd
       go_wp2_with fail
       refine dG K (by kernel_rfl) (by kernel_rfl) hK0 ?_
       repeat(go_big_quiet_step ((first|(go_at_call 236;exact Calls.bK hK2 (HDR.out _))|(go_at_call 241;exact Calls.bK hK2 (gU.out _)))))
       refine wpQuiet_nil ?_
       intro w' hw'
       obtain⟨s,rfl⟩:=hw'
       have hfs:=hK1 s
       go_wp2
       go_ret
       exact⟨bP (rO HS.out).symm,dQ.out.au hfs⟩
      |false=>
       cases h2:decide (1099511627776<e.k)with
       |true=>
        have gU:=ah (fun W=>uK 0 0 0 0 W)
        have he:gV e=false:=by simp at h2;simp[gV];intros;omega
        rw[he]at hS
        (try simp only[Bool.false_and]at hS)
        have HS:=ah hS;clear hS he
        clear hd
        go_wp2_with fail
        refine dG K (by kernel_rfl) (by kernel_rfl) hK0 ?_
        repeat(go_big_quiet_step ((first|(go_at_call 236;exact Calls.bK hK2 (HDR.out _))|(go_at_call 241;exact Calls.bK hK2 (gU.out _)))))
        refine wpQuiet_nil ?_
        intro w' hw'
        obtain⟨s,rfl⟩:=hw'
        have hfs:=hK1 s
        go_wp2
        go_ret
        exact⟨bP (rO HS.out).symm,dQ.out.au hfs⟩
       |false=>
        cases h3:decide (e.k< -1099511627776)with
        |true=>
         have gU:=ah (fun W=>uK 0 0 0 0 W)
         have he:gV e=false:=by simp at h3;simp[gV];intros;omega
         rw[he]at hS
         (try simp only[Bool.false_and]at hS)
         have HS:=ah hS;clear hS he
         clear hd
         go_wp2_with fail
         refine dG K (by kernel_rfl) (by kernel_rfl) hK0 ?_
         repeat(go_big_quiet_step ((first|(go_at_call 236;exact Calls.bK hK2 (HDR.out _))|(go_at_call 241;exact Calls.bK hK2 (gU.out _)))))
         refine wpQuiet_nil ?_
         intro w' hw'
         obtain⟨s,rfl⟩:=hw'
         have hfs:=hK1 s
         go_wp2
         go_ret
         exact⟨bP (rO HS.out).symm,dQ.out.au hfs⟩
        |false=>
         have he:gV e=true:=by simp at h1 h2 h3;simp[gV,hd];omega
         rw[he]at hS
         clear he hd
         rw[Bool.true_and]at hS
         have gU:=ah (fun W=>uK pe.dc pe.n e.dc e.n W)
         have hge:=Wq pe.dc pe.n e.dc e.n
         rw[←hge]at hS
         generalize wU pe.dc pe.n e.dc e.n=cc at*
         cases hl:decide (0≤cc)with
         |true=>
          rw[hl]at hS
          have hS:=hS
          have HS:=ah hS;clear hS hge
          go_wp2_with fail
          refine dG K (by kernel_rfl) (by kernel_rfl) hK0 ?_
          repeat(go_big_quiet_step ((first|(go_at_call 236;exact Calls.bK hK2 (HDR.out _))|(go_at_call 241;exact Calls.bK hK2 (gU.out _)))))
          refine wpQuiet_nil ?_
          intro w' hw'
          obtain⟨s,rfl⟩:=hw'
          have hfs:=hK1 s
          go_wp2
          go_ret
          exact⟨bP (rO HS.out).symm,dQ.out.au hfs⟩
         |false=>
          rw[hl]at hS
          have HS:=ah hS;clear hS hge
          go_wp2_with fail
          refine dG K (by kernel_rfl) (by kernel_rfl) hK0 ?_
          repeat(go_big_quiet_step ((first|(go_at_call 236;exact Calls.bK hK2 (HDR.out _))|(go_at_call 241;exact Calls.bK hK2 (gU.out _)))))
          refine wpQuiet_nil ?_
          intro w' hw'
          obtain⟨s,rfl⟩:=hw'
          have hfs:=hK1 s
          go_wp2
          go_roundw
          case rel=>exact⟨j+1+1,by omega,by go_num,HS.out,dQ.out.au hfs⟩
          case measure=>simp[intOf];omega
  ·obtain rfl:n=k:=by omega
   rw[List.take_of_length_le (by rw[HN.out];exact Nat.le_refl _)]at HR
   go_wp2
   go_ret
   exact⟨bP HR.out.symm,HW.out⟩
open Go.RowKit
theorem Ws {ks:aH} {d:Nat} {es:List aG} (he:jk none es=true):bW (d+1) es ks=mZ ks d none:=by
 rw[bW,Nat.add_sub_cancel,he];simp
theorem Wu (Q:Nat→Prop):∀(N:Nat) (es:List aG) (ks:aH) (d:Nat) (w:World) (ev kv:Value),gW ks<N→bQ Q w ev kv es ks→iJ es ks→d≤100→
 Calls Tryz.prog 201 #[.agg #[ev,kv], .int .i64 d] w fun e w'=>e= .returned (.bool (bW d es ks))∧aj ay w w':=by
 intro N
 induction N with
 |zero=>intros;exfalso;omega
 |succ N jy=>
  intro es ks d w ev kv hN ht hok hd
  obtain⟨ae,ce,rfl⟩:=ht.ents.rd.sl
  obtain⟨os,hkr,fD⟩:=ht.kids
  obtain⟨ak,ck,rfl⟩:=hkr.rd.sl
  have HT:=ah ht;clear ht
  have jl:=ah hkr.rd;clear hkr
  have kW:=ah fD;clear fD
  have IH:=ah jy;clear jy
  have dB:=ah (aj.alloc ay w (.cells #[.slice ae es.length ce, .slice ak ks.len ck] 30))
  have box0:(w.alloc (.cells #[.slice ae es.length ce, .slice ak ks.len ck] 30)).cell? ⟨w.heap.size,0,none⟩=some (.slice ae es.length ce):=aC (heap_alloc_new w _) 0 rfl
  have box1:(w.alloc (.cells #[.slice ae es.length ce, .slice ak ks.len ck] 30)).cell? ⟨w.heap.size,1,none⟩=some (.slice ak ks.len ck):=aC (heap_alloc_new w _) 1 rfl
  have B0:=ah box0;clear box0
  have B1:=ah box1;clear box1
  have IY:=ah hok.es.len
  have vU:=ah hok.len
  have dL:=ah hok;clear hok
  have m_:=ah hN;clear hN
  cases d with
  |zero=>
   go_enter Tryz.func201,Tryz.ntmps201
   go_wp2
   go_ret
   exact⟨bP (by simp[bW]),dB.out⟩
  |succ d=>
   generalize hes:es.length=n at*
   have HN:=ah hes;clear hes
   generalize hkl:ks.len=m at*
   have HM:=ah hkl;clear hkl
   have hd9:(d:Int)≤100:=by omega
   have hd1:¬(((d+1:Nat):Int)<1):=by omega
   have HD:=ah hd;clear hd
   cases hre:jk none es with
   |false=>
    have BQ:=ah (fun W (h:aj ay (w.alloc (.cells #[.slice ae n ce, .slice ak m ck] 30)) W)=>Oy W (.slice ae n ce) es (by have:=(HT.out.aO dB.out).ents.rd;rw[HN.out]at this⊢;exact this.aO h) dL.out.es)
    rw[hre]at BQ
    have b0:=B0.out
    go_enter Tryz.func201,Tryz.ntmps201
    go_wp2_with(go_at_call 249;refine(BQ.out _ (aj.refl _ _)).mono ?_;rintro e w1 ⟨rfl,hw1⟩;have HW1:=ah hw1;clear hw1)
    go_ret
    exact⟨bP (by rw[bW,hre];simp),dB.out.au HW1.out⟩
   |true=>
    have BQ:=ah (fun W (h:aj ay (w.alloc (.cells #[.slice ae n ce, .slice ak m ck] 30)) W)=>Oy W (.slice ae n ce) es (by have:=(HT.out.aO dB.out).ents.rd;rw[HN.out]at this⊢;exact this.aO h) dL.out.es)
    rw[hre]at BQ
    have Wv:=ah hre;clear hre
    have b0:=B0.out
    go_enter Tryz.func201,Tryz.ntmps201
    go_wp2_with(go_at_call 249;refine(BQ.out _ (aj.refl _ _)).mono ?_;rintro e w1 ⟨rfl,hw1⟩;have HW:=ah hw1;clear hw1;have b1:=HW.out.cell' B1.out id)
    clear b0 b1
    go_loopw [18] (fun i ww=>∃(k:Nat) (p:Option ByteArray),k≤m∧i= .int .i64 k∧Ou ks k p∧mZ ks d none=mZ (ks.drop k) d p∧aj ay (w.alloc (.cells #[.slice ae n ce, .slice ak m ck] 30)) ww) (fun i _=>m-(intOf i).toNat)
    case atStart=>exact⟨0,none,Nat.zero_le _,rfl, .inl ⟨rfl,rfl⟩,rfl,HW.out⟩
    case round=>
     obtain⟨k,p,hk,rfl,hp,hr,hw⟩:=hrel
     have dQ:=ah hw;clear hw
     have HP:=ah hp;clear hp
     have b1:=dQ.out.cell' B1.out id
     by_cases hlt:k<m
     ·obtain⟨key,es',sub,rest,hdr⟩:=aH.rM (n:=k) (ks:=ks) (by rw[HM.out];exact hlt)
      have hmm:(m:Int)≤9223372036854775807:=by have:=vU.out;omega
      rcases Rd.shape (jl.out.aO (dB.out.au dQ.out))with⟨ad,he,h0⟩|⟨b,off,cc,he,hmax⟩
      ·exfalso;have:=HM.out;omega
      ·injection he with e1 e2 e3
       subst e1 e3
       clear e2 hmax
       obtain⟨ev',kv',c0,c1,c2,hta⟩:=qK (jl.out.aO (dB.out.au dQ.out)) (kW.out.aO (dB.out.au dQ.out)) hdr
       obtain⟨dW,dX,rfl⟩:=hta.ents.rd.sl
       obtain⟨os',iK,kX⟩:=hta.kids
       obtain⟨dY,dZ,rfl⟩:=iK.rd.sl
       clear iK kX
       have hok':=dL.out.ks.drop k
       rw[hdr]at hok'
       have hkz:=hok'.1
       have hsub:iJ es' sub:=⟨hok'.2.1,hok'.2.2.1,hok'.2.2.2.1⟩
       have l1:((es'.length:Nat):Int)≤140737488351232:=by have:=hsub.es.len;omega
       have l2:((sub.len:Nat):Int)≤140737488351232:=by have:=hsub.len;omega
       have IZ:=ah hsub;clear hsub hok'
       have fF:=ah (uP k hdr)
       rw[Ot hdr]at hr
       have HDR:=ah hdr;clear hdr
       have hbf:aj ay wr (wr.alloc (.cells #[.string key, .slice dW es'.length dX, .slice dY sub.len dZ] 83)):=aj.alloc _ _ _
       have n0:(wr.alloc (.cells #[.string key, .slice dW es'.length dX, .slice dY sub.len dZ] 83)).cell? ⟨wr.heap.size,0,none⟩=some (.string key):=aC (heap_alloc_new wr _) 0 rfl
       have n1:(wr.alloc (.cells #[.string key, .slice dW es'.length dX, .slice dY sub.len dZ] 83)).cell? ⟨wr.heap.size,1,none⟩=some (.slice dW es'.length dX):=aC (heap_alloc_new wr _) 1 rfl
       have n2:(wr.alloc (.cells #[.string key, .slice dW es'.length dX, .slice dY sub.len dZ] 83)).cell? ⟨wr.heap.size,2,none⟩=some (.slice dY sub.len dZ):=aC (heap_alloc_new wr _) 2 rfl
       have dM:=ah (hta.aO hbf);clear hta
       have yJ:=dQ;clear dQ
       have dQ:=ah (yJ.out.au hbf)
       have kk:∀j ng es0 vV vW,ks.drop j= .cons ng es0 vV vW→wr.cell? ⟨b,off+j*3,none⟩=some (.string ng):=fun j ng es0 vV vW h=>by
        obtain⟨_,_,h0,_⟩:=qK (jl.out.aO (dB.out.au yJ.out)) (kW.out.aO (dB.out.au yJ.out)) h
        exact h0
       have KK:=ah kk;clear kk
       have HIH:=ah (fun w' (h:aj ay (wr.alloc (.cells #[.string key, .slice dW es'.length dX, .slice dY sub.len dZ] 83)) w')=>IH.out es' sub d w' _ _ (by have:=fF.out;have:=m_.out;omega) (dM.out.aO h) IZ.out (by have:=HD.out;omega))
       have hem:∀W,Calls Tryz.prog 200 #[.agg #[.slice dW es'.length dX, .slice dY sub.len dZ]] W fun e w'=>e= .returned (.bool (isNil es' sub))∧aj ay W w':=fun W=>empty_any dW dY es'.length sub.len dX dZ W
       have qL:=ah hem;clear hem
       generalize es'.length=n' at*
       generalize sub.len=m' at*
       obtain⟨α,hne,K,hK3,hK0,hK2⟩:=worlds (wr.alloc (.cells #[.string key, .slice dW n' dX, .slice dY m' dZ] 83))
       have hK1:=hK3
       have VZ:=fun s=>(hK1 s).cell' (hbf.cell' b1 id) id
       have V_:=fun s=>(hK1 s).cell' n0 id
       have Wh:=fun s=>(hK1 s).cell' n1 id
       have Wi:=fun s=>(hK1 s).cell' n2 id
       clear n0 n1 n2
       have hge:=Oq
       rcases HP.out with⟨rfl,rfl⟩|⟨j,ng,es0,vV,vW,rfl,hdj,rfl⟩
       ·simp only[Nat.zero_mul,Nat.add_zero]at c0 c1 c2
        cases g1:rE key with
        |false=>
         rw[g1]at hr
         simp only[Bool.false_and]at hr
         have hst:bW (d+1) es ks=false:=by rw[bW,Nat.add_sub_cancel,hr];simp
         have HST:=ah hst;clear hst hr
         go_wp2_with fail
         refine dG K (by kernel_rfl) (by kernel_rfl) hK0 ?_
         repeat(go_big_quiet_step ((first|(go_at_call 250;exact Calls.bK hK2 (Calls.mG (vI key _ hkz)))|(go_at_call 200;exact Calls.bK hK2 (qL.out _))|(go_at_call 201;exact Calls.bK hK2 (HIH.out _ (hK3 _))))))
         refine wpQuiet_nil ?_
         intro w' hw'
         obtain⟨s,rfl⟩:=hw'
         have hfs:=hK1 s
         go_wp2
         go_ret
         exact⟨bP HST.out.symm,dB.out.au (dQ.out.au hfs)⟩
        |true=>
         cases g3:isNil es' sub with
         |true=>
          rw[g1,g3]at hr
          rw[g3]at qL
          simp only[Bool.not_true,Bool.and_false,Bool.false_and]at hr
          have hst:bW (d+1) es ks=false:=by rw[bW,Nat.add_sub_cancel,hr];simp
          have HST:=ah hst;clear hst hr
          go_wp2_with fail
          refine dG K (by kernel_rfl) (by kernel_rfl) hK0 ?_
          repeat(go_big_quiet_step ((first|(go_at_call 250;exact Calls.bK hK2 (Calls.mG (vI key _ hkz)))|(go_at_call 200;exact Calls.bK hK2 (qL.out _))|(go_at_call 201;exact Calls.bK hK2 (HIH.out _ (hK3 _))))))
          refine wpQuiet_nil ?_
          intro w' hw'
          obtain⟨s,rfl⟩:=hw'
          have hfs:=hK1 s
          go_wp2
          go_ret
          exact⟨bP HST.out.symm,dB.out.au (dQ.out.au hfs)⟩
         |false=>
          rw[g3]at qL
          cases g4:bW d es' sub with
          |false=>
           rw[g1,g3,g4]at hr
           rw[g4]at HIH
           simp only[Bool.and_false,Bool.false_and]at hr
           have hst:bW (d+1) es ks=false:=by rw[bW,Nat.add_sub_cancel,hr];simp
           have HST:=ah hst;clear hst hr
           go_wp2_with fail
           refine dG K (by kernel_rfl) (by kernel_rfl) hK0 ?_
           repeat(go_big_quiet_step ((first|(go_at_call 250;exact Calls.bK hK2 (Calls.mG (vI key _ hkz)))|(go_at_call 200;exact Calls.bK hK2 (qL.out _))|(go_at_call 201;exact Calls.bK hK2 (HIH.out _ (hK3 _))))))
           refine wpQuiet_nil ?_
           intro w' hw'
           obtain⟨s,rfl⟩:=hw'
           have hfs:=hK1 s
           go_wp2
           go_ret
           exact⟨bP HST.out.symm,dB.out.au (dQ.out.au hfs)⟩
          |true=>
           rw[g1,g3,g4]at hr
           rw[g4]at HIH
           simp only[ltK,Bool.not_false,Bool.and_true,Bool.true_and]at hr
           have HST:=ah hr;clear hr
           go_wp2_with fail
           refine dG K (by kernel_rfl) (by kernel_rfl) hK0 ?_
           repeat(go_big_quiet_step ((first|(go_at_call 250;exact Calls.bK hK2 (Calls.mG (vI key _ hkz)))|(go_at_call 200;exact Calls.bK hK2 (qL.out _))|(go_at_call 201;exact Calls.bK hK2 (HIH.out _ (hK3 _))))))
           refine wpQuiet_nil ?_
           intro w' hw'
           obtain⟨s,rfl⟩:=hw'
           have hfs:=hK1 s
           go_wp2
           go_roundw
           case rel=>exact⟨0+1,some key,by omega,by go_num, .inr ⟨0,key,es',sub,rest,rfl,HDR.out,rfl⟩,HST.out,dQ.out.au hfs⟩
           case measure=>simp[intOf];omega
       ·have pk:=KK.out j ng es0 vV vW hdj
        clear hdj
        have Wj:=(fun s=>(hK1 s).cell' (hbf.cell' pk id) id)
        clear pk
        cases g1:rE key with
        |false=>
         rw[g1]at hr
         simp only[Bool.false_and]at hr
         have hst:bW (d+1) es ks=false:=by rw[bW,Nat.add_sub_cancel,hr];simp
         have HST:=ah hst;clear hst hr
         go_wp2_with fail
         refine dG K (by kernel_rfl) (by kernel_rfl) hK0 ?_
         repeat(go_big_quiet_step ((first|(go_at_call 250;exact Calls.bK hK2 (Calls.mG (vI key _ hkz)))|(go_at_call 200;exact Calls.bK hK2 (qL.out _))|(go_at_call 201;exact Calls.bK hK2 (HIH.out _ (hK3 _))))))
         refine wpQuiet_nil ?_
         intro w' hw'
         obtain⟨s,rfl⟩:=hw'
         have hfs:=hK1 s
         go_wp2
         go_ret
         exact⟨bP HST.out.symm,dB.out.au (dQ.out.au hfs)⟩
        |true=>
         cases g2:Op.bytesLess ng.toList key.toList with
         |false=>
          rw[show ltK (some ng) key=false from g2]at hr
          simp only[Bool.and_false,Bool.false_and]at hr
          have hst:bW (d+1) es ks=false:=by rw[bW,Nat.add_sub_cancel,hr];simp
          have HST:=ah hst;clear hst hr
          go_wp2_with fail
          refine dG K (by kernel_rfl) (by kernel_rfl) hK0 ?_
          repeat(go_big_quiet_step ((first|(go_at_call 250;exact Calls.bK hK2 (Calls.mG (vI key _ hkz)))|(go_at_call 200;exact Calls.bK hK2 (qL.out _))|(go_at_call 201;exact Calls.bK hK2 (HIH.out _ (hK3 _))))))
          refine wpQuiet_nil ?_
          intro w' hw'
          obtain⟨s,rfl⟩:=hw'
          have hfs:=hK1 s
          go_wp2
          go_ret
          exact⟨bP HST.out.symm,dB.out.au (dQ.out.au hfs)⟩
         |true=>
          cases g3:isNil es' sub with
          |true=>
           rw[g3]at hr
           rw[g3]at qL
           simp only[Bool.not_true,Bool.and_false,Bool.false_and]at hr
           have hst:bW (d+1) es ks=false:=by rw[bW,Nat.add_sub_cancel,hr];simp
           have HST:=ah hst;clear hst hr
           go_wp2_with fail
           refine dG K (by kernel_rfl) (by kernel_rfl) hK0 ?_
           repeat(go_big_quiet_step ((first|(go_at_call 250;exact Calls.bK hK2 (Calls.mG (vI key _ hkz)))|(go_at_call 200;exact Calls.bK hK2 (qL.out _))|(go_at_call 201;exact Calls.bK hK2 (HIH.out _ (hK3 _))))))
           refine wpQuiet_nil ?_
           intro w' hw'
           obtain⟨s,rfl⟩:=hw'
           have hfs:=hK1 s
           go_wp2
           go_ret
           exact⟨bP HST.out.symm,dB.out.au (dQ.out.au hfs)⟩
          |false=>
           rw[g3]at qL
           cases g4:bW d es' sub with
           |false=>
            rw[g4]at hr
            rw[g4]at HIH
            simp only[Bool.and_false,Bool.false_and]at hr
            have hst:bW (d+1) es ks=false:=by rw[bW,Nat.add_sub_cancel,hr];simp
            have HST:=ah hst;clear hst hr
            go_wp2_with fail
            refine dG K (by kernel_rfl) (by kernel_rfl) hK0 ?_
            repeat(go_big_quiet_step ((first|(go_at_call 250;exact Calls.bK hK2 (Calls.mG (vI key _ hkz)))|(go_at_call 200;exact Calls.bK hK2 (qL.out _))|(go_at_call 201;exact Calls.bK hK2 (HIH.out _ (hK3 _))))))
            refine wpQuiet_nil ?_
            intro w' hw'
            obtain⟨s,rfl⟩:=hw'
            have hfs:=hK1 s
            go_wp2
            go_ret
            exact⟨bP HST.out.symm,dB.out.au (dQ.out.au hfs)⟩
           |true=>
            rw[g1,g3,g4,show ltK (some ng) key=true from g2]at hr
            rw[g4]at HIH
            simp only[Bool.not_false,Bool.and_true,Bool.true_and]at hr
            have HST:=ah hr;clear hr
            go_wp2_with fail
            refine dG K (by kernel_rfl) (by kernel_rfl) hK0 ?_
            repeat(go_big_quiet_step ((first|(go_at_call 250;exact Calls.bK hK2 (Calls.mG (vI key _ hkz)))|(go_at_call 200;exact Calls.bK hK2 (qL.out _))|(go_at_call 201;exact Calls.bK hK2 (HIH.out _ (hK3 _))))))
            refine wpQuiet_nil ?_
            intro w' hw'
            obtain⟨s,rfl⟩:=hw'
            have hfs:=hK1 s
            go_wp2
            go_roundw
            case rel=>exact⟨(j+1)+1,some key,by omega,by go_num, .inr ⟨(j+1),key,es',sub,rest,rfl,HDR.out,rfl⟩,HST.out,dQ.out.au hfs⟩
            case measure=>simp[intOf];omega
     ·obtain rfl:m=k:=by omega
      rw[aH.sV (by rw[HM.out];exact Nat.le_refl _)]at hr
      have HRR:=ah hr;clear hr
      go_wp2
      go_ret
      exact⟨bP (by rw[Ws Wv.out,HRR.out];simp[mZ]),dB.out.au dQ.out⟩
open Go.RowKit
structure fM where
 key:ByteArray
 es:List aG
 sub:aH
 ev:Value
 kv:Value
instance:Inhabited fM:=⟨⟨ByteArray.empty,[], .nil, .slice none 0 0, .slice none 0 0⟩⟩
def fM.cells (q:fM):List Value:=[.string q.key,q.ev,q.kv]
def nS:List fM→aH→aH
 |[],r=>r
 |q::l,r=> .cons q.key q.es q.sub (nS l r)
def mkK (l:List fM):aH:=nS l .nil
def yM (l:List fM):List (Value×Value):=l.map fun q=>(q.ev,q.kv)
theorem BR:∀(l:List fM) (q:fM) (r:aH),nS (l++ [q]) r=nS l (.cons q.key q.es q.sub r)
 |[],_,_=>rfl
 |x::l,q,r=>by show aH.cons _ _ _ (nS (l++ [q]) r)=_;rw[BR l q r];rfl
theorem vX:∀l:List fM,(mkK l).len=l.length
 |[]=>rfl
 |q::l=>by show(mkK l).len+1=_;rw[vX l];rfl
theorem EU:∀l:List fM,qJ (mkK l) (yM l)=l.flatMap fM.cells
 |[]=>rfl
 |q::l=>by show _::_::_::qJ (mkK l) (yM l)=_;rw[EU l];rfl
theorem EW {Q:Nat→Prop} {w:World}:∀ {l:List fM},(∀q∈l,bQ Q w q.ev q.kv q.es q.sub)→jI Q w (mkK l) (yM l)
 |[],_=>rfl
 |q::l,h=>by
  obtain⟨h1,os,h2,h3⟩:=h q List.mem_cons_self
  exact⟨q.ev,q.kv,yM l,os,rfl,h1,h2,h3,EW fun x hx=>h x (List.mem_cons_of_mem _ hx)⟩
theorem Oz:∀ {l:List fM},(∀q∈l,q.key.size≤9223372036854775807∧iJ q.es q.sub)→(mkK l).Ok
 |[],_=>trivial
 |q::l,h=>by
  obtain⟨h1,h2⟩:=h q List.mem_cons_self
  exact⟨h1,h2.es,h2.len,h2.ks,Oz fun x hx=>h x (List.mem_cons_of_mem _ hx)⟩
theorem fC.turn {Q Q':Nat→Prop} {w w':World} {v:Value} {n:Nat} {xs:List Value} (h:fC Q w v n xs) (f:∀b,b<w.heap.size→Q b→w'.heap[b]?=w.heap[b]?∧Q' b):fC Q' w' v n xs:=by
 rcases h.rd with⟨ad,h1,h2,h3⟩|⟨b,off,c,rfl,h1,h2,h3⟩
 ·exact⟨.inl ⟨ad,h1,h2,h3⟩,fun hx=>absurd h3 hx⟩
 ·have xq:∀j u,xs[j]?=some u→w'.cell? ⟨b,off+j,none⟩=some u∧Q' b:=fun j u hu=>by
   have hc:=h3 j u hu
   have hlt:b<w.heap.size:=World.block_lt_of_cell? _ _ hc
   obtain⟨g1,g2⟩:=f b hlt (h.q (fun e=>by rw[e]at hu;simp at hu) b rfl)
   exact⟨(World.cell?_of_block (w:=w) g1).trans hc,g2⟩
  refine⟨.inr ⟨b,off,c,rfl,h1,h2,fun j u hu=>(xq j u hu).1⟩,fun hx k hk=>?_⟩
  simp[Value.ownBlock]at hk
  subst hk
  cases xs with
  |nil=>exact absurd rfl hx
  |cons x xs=>exact(xq 0 x rfl).2
theorem jI.turn {Q Q':Nat→Prop} {w w':World} (f:∀b,b<w.heap.size→Q b→w'.heap[b]?=w.heap[b]?∧Q' b):∀ {ks:aH} {os:List (Value×Value)},jI Q w ks os→jI Q' w' ks os
 | .nil,_,h=>h
 | .cons _ _ _ _,_,⟨ev,kv,rJ,os,h1,h2,h3,h4,h5⟩=>⟨ev,kv,rJ,os,h1,h2.turn f,h3.turn f,h4.turn f,h5.turn f⟩
theorem bQ.turn {Q Q':Nat→Prop} {w w':World} {ev kv:Value} {es:List aG} {ks:aH} (h:bQ Q w ev kv es ks) (f:∀b,b<w.heap.size→Q b→w'.heap[b]?=w.heap[b]?∧Q' b):bQ Q' w' ev kv es ks:=
 ⟨h.ents.turn f,let⟨os,h1,h2⟩:=h.kids;⟨os,h1.turn f,h2.turn f⟩⟩
theorem OwnAt.EX {w0 w:World} {e:TypeId} {size:Nat} {v:Value} {n:Nat} {xs:List Value} (h:OwnAt w0 w e size v n xs):fC (fun k=>w0.heap.size≤k) w v n xs:=⟨h.rd,fun _ k hk=>h.new k hk⟩
open Go.RowKit
theorem OA:(Tryz.prog.info? 172).map (fun i=>(i.zero,i.size,i.bytes))=some (some (.agg #[.int .i64 0, .int .i64 0, .string ByteArray.empty, .int .i64 0]),4,40):=by kernel_rfl
theorem OwnAt.empty {w0 w:World} (f:aj ay w0 w) (e:TypeId) (size:Nat):OwnAt w0 (w.alloc (.cells #[] e)) e size (.slice (some ⟨w.heap.size,0,none⟩) 0 0) 0 []:=
 ⟨⟨by simp, .inr ⟨w.heap.size,0, #[],rfl,Nat.zero_le _,heap_alloc_new w _,Nat.le_refl _,Nat.zero_le _,by simp,by simp⟩⟩,fun k hk=>by
   simp[Value.ownBlock]at hk
   have:=f.size
   omega,f.trans (aj.alloc _ _ _) fun _ _ h=>h⟩
theorem Wx (w:World) (v:Value) (es:List aG) (hv:Rd w v es.length (iY es)) (hl:es.length≤100000):
 Calls Tryz.prog 255 #[v] w fun e w'=>∃v',e= .returned v'∧OwnAt w w' 172 4 v' es.length (iY es):=by
 obtain⟨i0,hi,hz0,hz1,hz2⟩:=info_parts OA
 obtain⟨aA,cA,rfl⟩:=hv.sl
 have HH:=ah hv;clear hv
 generalize hn:es.length=n at*
 have HN:=ah hn;clear hn
 by_cases hnil:aA=none
 ·subst hnil
  rcases HH.out with⟨ad,he,h0,hx⟩|⟨b,off,cc,he,_⟩
  ·injection he with e1 e2 e3
   subst e1 e2 e3
   have hx0:iY es=[]:=hx
   rw[hx0]
   have hq:=Lib.run_eql_slice_nil (P:=Tryz.prog) w 27 172 none 0 0 0 0 Tryz.underlying27
   go_enter Tryz.func255,Tryz.ntmps255
   go_wp2
   go_ret
   exact⟨_,rfl,OwnAt.nil (aj.refl _ _) _ _⟩
  ·injection he with e1 e2 e3
   cases e1
 ·obtain⟨ad,rfl⟩:=Option.ne_none_iff_exists'.1 hnil
  clear hnil
  have hq:=Lib.run_eql_slice_nil (P:=Tryz.prog) w 27 172 (some ad) n cA 0 0 Tryz.underlying27
  go_enter Tryz.func255,Tryz.ntmps255
  go_wp2_with(at_builtin;refine vN w _ _ rfl (.tmp 5) (.tmp 6) 27 27 rfl 172 172 i0 _ 4 40 Tryz.underlying27 Tryz.underlying27 hi hz0 hz1 hz2 (by decide) (by decide) _ _ _ (OwnAt.empty (aj.refl _ _) 172 4) _ n rfl rfl (HH.out.aO (aj.alloc _ _ _)) (by rw[Og,HN.out]) (VL _) (by simp only[maxLen];omega) (by omega) ?_;intro ad cc w5 kD;have OW:=ah kD;clear kD)
  go_ret
  exact⟨_,rfl,by have:=OW.out;simpa using this⟩
theorem Wy (w:World) (v:Value) (c:aW) (hv:fZ w v c) (hl:c.length≤100000):
 Calls Tryz.prog 105 #[v] w fun e w'=>∃v',e= .returned v'∧OwnAt w w' 144 3 v' c.length (eu c):=by
 obtain⟨i0,hi,hz0,hz1,hz2⟩:=info_parts wX
 obtain⟨aA,cA,rfl⟩:=hv.sl
 have HH:=ah hv;clear hv
 generalize hn:c.length=n at*
 have HN:=ah hn;clear hn
 by_cases hnil:aA=none
 ·subst hnil
  rcases HH.out with⟨ad,he,h0,hx⟩|⟨b,off,cc,he,_⟩
  ·injection he with e1 e2 e3
   subst e1 e3
   have hx0:eu c=[]:=hx
   have hn0:n=0:=by rw[←HN.out];exact h0
   subst hn0
   rw[hx0]
   have hq:=Lib.run_eql_slice_nil (P:=Tryz.prog) w 32 144 none 0 0 0 0 Tryz.underlying32
   go_enter Tryz.func105,Tryz.ntmps105
   go_wp2
   go_ret
   exact⟨_,rfl,OwnAt.nil (aj.refl _ _) _ _⟩
  ·injection he with e1 e2 e3
   cases e1
 ·obtain⟨ad,rfl⟩:=Option.ne_none_iff_exists'.1 hnil
  clear hnil
  have hq:=Lib.run_eql_slice_nil (P:=Tryz.prog) w 32 144 (some ad) n cA 0 0 Tryz.underlying32
  go_enter Tryz.func105,Tryz.ntmps105
  go_wp2_with(at_builtin;refine vN w _ _ rfl (.tmp 5) (.tmp 6) 32 32 rfl 144 144 i0 _ 3 24 Tryz.underlying32 Tryz.underlying32 hi hz0 hz1 hz2 (by decide) (by decide) _ _ _ (OwnAt.empty (aj.refl _ _) 144 3) _ n rfl rfl (HN.out▸HH.out.aO (aj.alloc _ _ _)) (by rw[Et,HN.out]) (Hq _) (by simp only[maxLen];omega) (by omega) ?_;intro ad cc w5 kD;have OW:=ah kD;clear kD)
  go_ret
  exact⟨_,rfl,by have:=OW.out;simpa using this⟩
open Go.RowKit
theorem OB:(Tryz.prog.info? 83).map (fun i=>(i.zero,i.size,i.bytes))=some (some (.agg #[.string ByteArray.empty, .slice none 0 0, .slice none 0 0]),3,64):=by kernel_rfl
def yN (w:World) (h2 h3:Nat) (v:Value) (b:Nat):Prop:=w.heap.size≤b∧b≠h2∧b≠h3∧v.ownBlock≠some b
structure uS (w ww:World) (h2 h3:Nat) (n:Nat) (ev kv:Value) (es:List aG) (ks:aH) (k:Nat) (l:List fM):Prop where
 aP:aj ay w ww
 b2:ww.heap[h2]?=some (.cells #[.slice none 0 0, .slice none 0 0] 30 (0,0))
 b3:ww.heap[h3]?=some (.cells #[ev,kv] 30 (0,0))
 new2:w.heap.size≤h2
 qM:w.heap.size≤h3
 ne:h2≠h3
 own:h_ (fun b=>b=h2∨b=h3) w ww 83 3 kv k (l.flatMap fM.cells)
 ents:fC (yN w h2 h3 kv) ww ev n (iY es)
 kids:∀q∈l,bQ (yN w h2 h3 kv) ww q.ev q.kv q.es q.sub
 len:l.length=k
 all:ks=nS l (ks.drop k)
theorem uS.keep {w ww w':World} {h2 h3 n:Nat} {ev kv:Value} {es:List aG} {ks:aH} {k:Nat} {l:List fM} (h:uS w ww h2 h3 n ev kv es ks k l) (f:aj ay ww w'):uS w w' h2 h3 n ev kv es ks k l:=
 ⟨h.aP.au f,f.blk h.b2 id,f.blk h.b3 id,h.new2,h.qM,h.ne,h.own.keep f,h.ents.keep f (fun _ _ s=>s.elim),fun q hq=>(h.kids q hq).aO f,h.len,h.all⟩
theorem uS.step {w w1 w':World} {h2 h3 n:Nat} {ev kv kv':Value} {es:List aG} {ks:aH} {k:Nat} {l:List fM} (h:uS w w1 h2 h3 n ev kv es ks k l) {q:fM} {rest:aH} (hd:ks.drop k= .cons q.key q.es q.sub rest)
 (hq:bQ (yN w h2 h3 kv) w1 q.ev q.kv q.es q.sub)
 (own:w'.ownsRow 0 83 3 kv' (k+1) (l.flatMap fM.cells++q.cells)) (fm:aj (fJ kv) w1 w') (fr:gK w1 kv kv'):
 uS w (w'.setCell ⟨h3,1,none⟩ kv') h2 h3 n ev kv' es ks (k+1) (l++ [q]):=by
 have hb3:¬fJ kv h3:=fun hs=>h.own.but h3 hs (.inr rfl)
 have hb2:¬fJ kv h2:=fun hs=>h.own.but h2 hs (.inl rfl)
 have hset:aj (fun b=>b=h3) w' (w'.setCell ⟨h3,1,none⟩ kv'):=aj.setCell (S:=fun b=>b=h3) w' (p:=⟨h3,1,none⟩) (.inl rfl) _
 have l2:=lt_of_block h.b2
 have l3:=lt_of_block h.b3
 have hne':∀b,kv'.ownBlock=some b→b≠h2∧b≠h3:=fun b hb=>by
  rcases fr b hb with h1|h1
  ·exact⟨fun e=>h.own.but b h1 (.inl e),fun e=>h.own.but b h1 (.inr e)⟩
  ·exact⟨fun e=>by omega,fun e=>by omega⟩
 have turn:∀b,b<w1.heap.size→yN w h2 h3 kv b→(w'.setCell ⟨h3,1,none⟩ kv').heap[b]?=w1.heap[b]?∧yN w h2 h3 kv' b:=fun b hb hQ=>by
  refine⟨?_,hQ.1,hQ.2.1,hQ.2.2.1,fun e=>?_⟩
  ·rw[hset.block b (Nat.lt_of_lt_of_le hb fm.size) hQ.2.2.1,fm.block b hb hQ.2.2.2]
  ·rcases fr b e with h1|h1
   ·exact hQ.2.2.2 h1
   ·omega
 have hown:h_ (fun b=>b=h2∨b=h3) w w' 83 3 kv' (k+1) (l.flatMap fM.cells++q.cells):=
  ⟨h.own.at_.step own fm fr,fun b hb hn=>by
    have:=hne' b hb
    rcases hn with hn|hn
    ·exact this.1 hn
    ·exact this.2 hn⟩
 refine⟨hown.at_.aP.set1 (.inr h.qM),?_,?_,h.new2,h.qM,h.ne,?_,h.ents.turn turn,fun x hx=>?_,by rw[List.length_append,h.len];rfl,?_⟩
 ·exact hset.blk (fm.blk h.b2 hb2) h.ne
 ·exact bJ (fm.blk h.b3 hb3) 1 kv'
 ·rw[List.flatMap_append]
  simp only[List.flatMap_cons,List.flatMap_nil,List.append_nil]
  exact hown.set (.inr rfl) h.qM _
 ·rcases List.mem_append.1 hx with hx|hx
  ·exact(h.kids x hx).turn turn
  ·simp only[List.mem_singleton]at hx;subst hx;exact hq.turn turn
 ·rw[BR,aH.yI k ks hd,←hd]
  exact h.all
theorem uS.done {w ww:World} {h2 h3 n:Nat} {ev kv:Value} {es:List aG} {ks:aH} {k:Nat} {l:List fM} (h:uS w ww h2 h3 n ev kv es ks k l) (hn:n=es.length) (hk:ks.len≤k):
 bQ (fun b=>w.heap.size≤b) ((ww.setCell ⟨h2,0,none⟩ ev).setCell ⟨h2,1,none⟩ kv) ev kv es ks∧aj ay w ((ww.setCell ⟨h2,0,none⟩ ev).setCell ⟨h2,1,none⟩ kv)∧
  ((ww.setCell ⟨h2,0,none⟩ ev).setCell ⟨h2,1,none⟩ kv).heap[h2]?=some (.cells #[ev,kv] 30 (0,0)):=by
 have hks:ks=mkK l:=by
  have:=h.all
  rw[aH.sV hk]at this
  exact this
 have OC:aj (fun b=>b=h2) ww ((ww.setCell ⟨h2,0,none⟩ ev).setCell ⟨h2,1,none⟩ kv):=
  (aj.setCell (S:=fun b=>b=h2) ww (p:=⟨h2,0,none⟩) (.inl rfl) ev).trans (aj.setCell (S:=fun b=>b=h2) _ (p:=⟨h2,1,none⟩) (.inl rfl) kv) fun _ _ h=>h
 have turn:∀b,b<ww.heap.size→yN w h2 h3 kv b→((ww.setCell ⟨h2,0,none⟩ ev).setCell ⟨h2,1,none⟩ kv).heap[b]?=ww.heap[b]?∧w.heap.size≤b:=fun b hb hQ=>⟨OC.block b hb hQ.2.1,hQ.1⟩
 refine⟨⟨hn▸h.ents.turn turn,yM l,?_,?_⟩,(h.aP.set1 (p:=⟨h2,0,none⟩) (.inr h.new2)).set1 (p:=⟨h2,1,none⟩) (.inr h.new2),bJ (bJ h.b2 0 ev) 1 kv⟩
 ·rw[hks,vX,EU,h.len]
  have ho:=OC.owns h.own.at_.own fun b hb he=>h.own.but b hb (.inl he)
  exact⟨Rd.own ho,fun _ b hb=>h.own.at_.new b hb⟩
 ·rw[hks]
  exact EW fun q hq=>(h.kids q hq).turn turn
end Go.Proofs.YtabkpccdnkjoiaaGreat
