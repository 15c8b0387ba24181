/- Words for the law MsgDecodes: TAll, TEnt, TRight, KidQ, TClone, TClone2. -/
import Derived.Test.YtabkpccdnkjoiaaGreatMsgDecodesG0
import Derived.Test.YtabkpccdnkjoiaaGreatMsgDecodesG4
import Derived.Test.YtabkpccdnkjoiaaGreatMsgDecodesG6
import Derived.Test.YtabkpccdnkjoiaaGreatMsgDecodesG7
set_option linter.unusedSimpArgs false
set_option linter.unusedVariables false
set_option maxHeartbeats 32000000
set_option maxRecDepth 1000000
namespace Go.Proofs.YtabkpccdnkjoiaaGreat
open Go.RowKit
theorem RV:(Tryz.prog.info? 170).map (fun i=>(i.zero,i.size,i.bytes))=some (some (.agg #[.int .i64 0, .int .i64 0]),2,16):=by kernel_rfl
theorem ZW {l:List aQ} {k:Nat} (hk:k<l.length):rW (l.take (k+1))=rW (l.take k)++ [((l.getD k aQ.zero).dc,(l.getD k aQ.zero).n)]:=by
 rw[take_succ aQ.zero hk];simp[rW]
theorem RX {ks:aS} {n:Nat} {key:ByteArray} {es:List aQ} {sub rest:aS} (h:ks.drop n= .cons key es sub rest):qV (ks.drop n)=iD es sub++qV (ks.drop (n+1)):=by
 rw[h,aS.CQ n ks h];rfl
theorem CU:∀(n:Nat) {ks:aS} {key:ByteArray} {es:List aQ} {sub rest:aS},ks.drop n= .cons key es sub rest→sizeT es sub≤jE ks
 |0, .cons _ _ _ _,_,_,_,_,h=>by
  cases h
  simp only[jE,sizeT]
  omega
 |0, .nil,_,_,_,_,h=>by cases h
 |n+1, .nil,_,_,_,_,h=>by cases h
 |n+1, .cons _ _ _ r,_,_,_,_,h=>by
  have h1:r.drop n=_:=h
  have:=CU n h1
  simp only[jE]
  omega
theorem yU:∀ks:aS,ks.len≤jE ks
 | .nil=>Nat.le_refl _
 | .cons _ _ _ r=>by have:=yU r;simp only[aS.len,jE];omega
theorem ZX (Q:Nat→Prop):∀(N:Nat) (es:List aQ) (ks:aS) (w:World) (ev kv:Value),jE ks<N→dh Q w ev kv es ks→sizeT es ks≤100000→
 Calls Tryz.prog 187 #[.agg #[ev,kv]] w fun e w'=>∃v',e= .returned v'∧OwnAt w w' 170 2 v' (iD es ks).length (fH (iD es ks)):=by
 intro N
 induction N with
 |zero=>intros;exfalso;omega
 |succ N mV=>
  intro es ks w ev kv hN ht hsz
  obtain⟨i0,hi,hz0,hz1,hz2⟩:=info_parts RV
  obtain⟨ae,ce,rfl⟩:=ht.ents.rd.sl
  obtain⟨os,hkr,iP⟩:=ht.kids
  obtain⟨ak,ck,rfl⟩:=hkr.rd.sl
  have HE:=ah ht.ents.rd
  have mW:=ah hkr.rd;clear hkr ht
  have qw:=ah iP;clear iP
  have IH:=ah mV;clear mV
  have dF:=ah (aj.alloc ay w (.cells #[.slice ae es.length ce, .slice ak ks.len ck] 30))
  have box0:(w.alloc (.cells #[.slice ae es.length ce, .slice ak ks.len ck] 30)).cell? ⟨w.heap.size,0,none⟩=some (.slice ae es.length ce):=au (heap_alloc_new w _) 0 rfl
  have box1:(w.alloc (.cells #[.slice ae es.length ce, .slice ak ks.len ck] 30)).cell? ⟨w.heap.size,1,none⟩=some (.slice ak ks.len ck):=au (heap_alloc_new w _) 1 rfl
  have B0:=ah box0;clear box0
  have B1:=ah box1;clear box1
  have oK:=ah (Nat.le_trans (EC es ks) hsz)
  have yV:es.length≤100000:=by unfold sizeT at hsz;omega
  have EF:ks.len≤100000:=by have:=yU ks;unfold sizeT at hsz;omega
  have kF:=ah hsz;clear hsz
  have kN:=ah hN;clear hN
  generalize hes:es.length=n at*
  have HN:=ah hes;clear hes
  generalize hkl:ks.len=m at*
  have HM:=ah hkl;clear hkl
  go_enter Tryz.func187,Tryz.ntmps187
  go_wp2_with fail
  have b0:=B0.out
  go_wp2
  clear b0
  go_loopw [3,11] (fun v i ww=>∃k:Nat,k≤n∧i= .int .i64 k∧OwnAt (w.alloc (.cells #[.slice ae n ce, .slice ak m ck] 30)) ww 170 2 v k (fH (rW (es.take k)))) (fun _ i _=>n-(intOf i).toNat)
  case atStart=>exact⟨0,Nat.zero_le _,rfl,OwnAt.nil (aj.refl _ _) _ _⟩
  case round=>
   obtain⟨k,hk,rfl,ho⟩:=hrel
   obtain⟨av,cv,rfl⟩:=ho.shape
   have HO:=ah ho;clear ho
   by_cases hlt:k<n
   ·rcases Rd.shape HE.out with⟨ad,he,h0⟩|⟨b,off,cc,he,hmax⟩
    ·exfalso;have:=HN.out;omega
    ·injection he with e1 e2 e3
     subst e1 e3
     clear e2
     have hlk:k<es.length:=by rw[HN.out];exact hlt
     obtain⟨p0,p1,p2,p3⟩:=xC HE.out k hlk
     have f2:=dF.out.aC HO.out.aH
     have q0:=f2.cell' p0 id
     have q1:=f2.cell' p1 id
     have q2:=f2.cell' p2 id
     have q3:=f2.cell' p3 id
     clear p0 p1 p2 p3 f2
     have hE:=ZW hlk
     generalize es.getD k aQ.zero=e at*
     have Bc:=ah hE;clear hE
     go_wp2_with(at_builtin;refine qP _ _ [.int .i64 e.dc, .int .i64 e.n] rfl (.tmp 15) (.tmp 18) 226 rfl 170 i0 _ 2 16 Tryz.underlying226 hi hz0 hz1 hz2 (by decide) (by decide) _ _ _ (HO.out.keep (aj.alloc _ _ _)) 1 1 rfl (by simp[Act.eval]) rfl (by simp[Value.oneCell']) (by simp only[maxLen];omega) (by omega) ?_;intro IE qQ w2 dM;have OW:=ah dM;clear dM)
     go_roundw
     case rel=>exact⟨k+1,by omega,by go_num,by rw[Bc.out,rV];exact OW.out⟩
     case measure=>simp[intOf];omega
   ·obtain rfl:n=k:=by omega
    rw[List.take_of_length_le (by rw[HN.out];exact Nat.le_refl _)]at HO
    have b1:=HO.out.aH.cell' B1.out id
    go_wp2
    clear b1
    go_loopw [3,24] (fun v i ww=>∃(k:Nat) (out:aW),k≤m∧i= .int .i64 k∧OwnAt (w.alloc (.cells #[.slice ae n ce, .slice ak m ck] 30)) ww 170 2 v out.length (fH out)∧iD es ks=out++qV (ks.drop k)) (fun _ i _=>m-(intOf i).toNat)
    case atStart=>exact⟨0,rW es,Nat.zero_le _,rfl,by rw[LW,HN.out];exact HO.out,rfl⟩
    case round=>
     obtain⟨k,out,hk,rfl,ho,hd⟩:=hrel
     obtain⟨av,cv,rfl⟩:=ho.shape
     have bT:=ah ho;clear ho
     have HD:=ah hd;clear hd
     by_cases hlt:k<m
     ·obtain⟨key,es',sub,rest,hdr⟩:=aS.xB (n:=k) (ks:=ks) (by rw[HM.out];exact hlt)
      rcases Rd.shape mW.out with⟨ad,he,h0⟩|⟨b,off,cc,he,hmax⟩
      ·exfalso;have:=HM.out;omega
      ·injection he with e1 e2 e3
       subst e1 e3
       clear e2
       have f2:=dF.out.aC bT.out.aH
       obtain⟨ev',kv',c0,c1,c2,hta⟩:=wz (mW.out.aJ f2) (qw.out.aJ f2) hdr
       obtain⟨h_,ig,rfl⟩:=hta.ents.rd.sl
       obtain⟨os',lV,qx⟩:=hta.kids
       obtain⟨iq,iw,rfl⟩:=lV.rd.sl
       clear lV qx f2
       have Bf:=ah (RX hdr)
       have iH:=ah (yT k hdr)
       have HST:=ah (CU k hdr)
       have gV:=ah hta;clear hta
       have HIH:=ah (fun w' (h:aj ay wr w')=>IH.out es' sub w' _ _ (by have:=iH.out;have:=kN.out;omega) (gV.out.aJ h) (by have:=HST.out;have:=kF.out;unfold sizeT at*;omega))
       have hlen:out.length+(iD es' sub).length≤100000:=by
        have h1:=oK.out
        rw[HD.out,Bf.out,List.length_append,List.length_append]at h1
        omega
       have HLEN:=ah hlen;clear hlen
       clear hdr
       generalize es'.length=n' at*
       generalize sub.len=m' at*
       go_wp2_with(first
        |(go_at_call 187;refine(HIH.out _ (aj.alloc _ _ _)).mono ?_;rintro e w3 ⟨v3,rfl,ho3⟩;obtain⟨a3,c3,rfl⟩:=ho3.shape;have dZ:=ah ho3;clear ho3;have HKK:=ah (bT.out.keep ((aj.alloc ay _ _).aC dZ.out.aH)))
        |(at_builtin;refine xq _ _ _ rfl (.tmp 28) (.tmp 31) 226 226 rfl 170 170 i0 _ 2 16 Tryz.underlying226 Tryz.underlying226 hi hz0 hz1 hz2 (by decide) (by decide) _ _ _ HKK.out _ (iD es' sub).length rfl rfl dZ.out.rd (by rw[yJ]) (Yu _) (by have:=HLEN.out;simp only[maxLen];omega) (by have:=HLEN.out;omega) ?_;intro ad cc w5 lN;have OW:=ah lN;clear lN))
       go_roundw
       case rel=>exact⟨k+1,out++iD es' sub,by omega,by go_num,by rw[List.length_append,rV];exact OW.out,by rw[HD.out,Bf.out,List.append_assoc]⟩
       case measure=>simp[intOf];omega
     ·obtain rfl:m=k:=by omega
      have hd:=HD.out
      rw[aS.yR (by rw[HM.out];exact Nat.le_refl _)]at hd
      have hd2:iD es ks=out:=by rw[hd];simp[qV]
      have HD2:=ah hd2;clear hd2 hd
      go_wp2
      go_ret
      refine⟨_,rfl,?_⟩
      rw[HD2.out]
      exact bT.out.base dF.out
open Go.RowKit
theorem ZY (d n e m:Int):(!decide (0≤yI d n e m))=xk d n e m:=by
 rw[←Yt]
 by_cases h:0≤yI d n e m
 ·have:¬yI d n e m<0:=by omega
  simp[h,this]
 ·have:yI d n e m<0:=by omega
  simp[h,this]
theorem RY (w:World) (v:Value) (es:List aQ) (hv:Rd w v es.length (kM es)) (hok:Ey es):
 Calls Tryz.prog 249 #[v] w fun e w'=>e= .returned (.bool (jQ none es))∧aj ay w w':=by
 obtain⟨aA,cA,rfl⟩:=hv.sl
 have HH:=ah hv;clear hv
 have bT:=ah hok;clear hok
 generalize hn:es.length=n at*
 have HN:=ah hn;clear hn
 go_enter Tryz.func249,Tryz.ntmps249
 go_wp2
 go_loopw [7] (fun i ww=>∃k:Nat,k≤n∧i= .int .i64 k∧jQ none (es.take k)=true∧aj ay w ww) (fun i _=>n-(intOf i).toNat)
 case atStart=>exact⟨0,Nat.zero_le _,rfl,rfl,aj.refl _ _⟩
 case round=>
  obtain⟨k,hk,rfl,hr,hw⟩:=hrel
  have HW:=ah hw;clear hw
  have HR:=ah hr;clear hr
  by_cases hlt:k<n
  ·rcases Rd.shape (HH.out.aJ HW.out)with⟨ad,he,h0⟩|⟨b,off,cc,he,hmax⟩
   ·exfalso;have:=HN.out;omega
   ·injection he with e1 e2 e3
    subst e1 e3
    clear e2
    have hlk:k<es.length:=by rw[HN.out];exact hlt
    have her:=HH.out.aJ HW.out
    obtain⟨q0,q1,q2,q3⟩:=xC her k hlk
    have hsz:=(bT.out.at hlk).2.2.2
    have hfk:=(bT.out.at hlk).2.2.1
    have hbl:b<wr.heap.size:=World.block_lt_of_cell? _ _ q0
    rcases Nat.eq_zero_or_pos k with rfl|hk0
    ·have hS:=RN (l:=es) hlk
     generalize es.getD 0 aQ.zero=e at*
     simp only[Nat.zero_mul,Nat.add_zero]at q0 q1 q2 q3
     clear her
     have hbf:aj ay wr (wr.alloc (.cells #[.int .i64 e.dc, .int .i64 e.n, .string e.s, .int .i64 e.k] 172)):=aj.alloc _ _ _
     have fD:=ah (HW.out.aC hbf)
     obtain⟨α,hne,K,hK3,hK0,hK2⟩:=worlds (wr.alloc (.cells #[.int .i64 e.dc, .int .i64 e.n, .string e.s, .int .i64 e.k] 172))
     have hK1:=hK3
     have n0:=(fun s=>(hK1 s).cell' (au (heap_alloc_new wr _) 0 rfl:(wr.alloc (.cells #[.int .i64 e.dc, .int .i64 e.n, .string e.s, .int .i64 e.k] 172)).cell? ⟨wr.heap.size,0,none⟩=some (.int .i64 e.dc)) id)
     have n1:=(fun s=>(hK1 s).cell' (au (heap_alloc_new wr _) 1 rfl:(wr.alloc (.cells #[.int .i64 e.dc, .int .i64 e.n, .string e.s, .int .i64 e.k] 172)).cell? ⟨wr.heap.size,1,none⟩=some (.int .i64 e.n)) id)
     have n2:=(fun s=>(hK1 s).cell' (au (heap_alloc_new wr _) 2 rfl:(wr.alloc (.cells #[.int .i64 e.dc, .int .i64 e.n, .string e.s, .int .i64 e.k] 172)).cell? ⟨wr.heap.size,2,none⟩=some (.string e.s)) id)
     have n3:=(fun s=>(hK1 s).cell' (au (heap_alloc_new wr _) 3 rfl:(wr.alloc (.cells #[.int .i64 e.dc, .int .i64 e.n, .string e.s, .int .i64 e.k] 172)).cell? ⟨wr.heap.size,3,none⟩=some (.int .i64 e.k)) id)
     cases hd:qg e.dc e.n with
     |false=>
      have he:iO e=false:=by simp[iO,hd]
      rw[he]at hS
      (try simp only[Bool.false_and]at hS)
      have HS:=ah hS;clear hS he
      have HDR:=ah (fun W=>Ci e.dc e.n W)
      rw[hd]at HDR
      have eF:=ah (fun W=>vZ 0 0 0 0 W)
      clear hd
      go_wp2_with fail
      refine dX K (by kernel_rfl) (by kernel_rfl) hK0 ?_
      repeat(go_big_quiet_step ((first|(go_at_call 236;exact Calls.bY hK2 (HDR.out _))|(go_at_call 241;exact Calls.bY hK2 (eF.out _)))))
      refine wpQuiet_nil ?_
      intro w' hw'
      obtain⟨s,rfl⟩:=hw'
      have hfs:=hK1 s
      go_wp2
      go_ret
      exact⟨dK (uI HS.out).symm,fD.out.aC hfs⟩
     |true=>
      have HDR:=ah (fun W=>Ci e.dc e.n W)
      rw[hd]at HDR
      cases h1:decide (30<(e.s.size:Int))with
      |true=>
       have eF:=ah (fun W=>vZ 0 0 0 0 W)
       have he:iO e=false:=by simp at h1;simp[iO];intros;omega
       rw[he]at hS
       (try simp only[Bool.false_and]at hS)
       have HS:=ah hS;clear hS he
       clear hd
       go_wp2_with fail
       refine dX K (by kernel_rfl) (by kernel_rfl) hK0 ?_
       repeat(go_big_quiet_step ((first|(go_at_call 236;exact Calls.bY hK2 (HDR.out _))|(go_at_call 241;exact Calls.bY hK2 (eF.out _)))))
       refine wpQuiet_nil ?_
       intro w' hw'
       obtain⟨s,rfl⟩:=hw'
       have hfs:=hK1 s
       go_wp2
       go_ret
       exact⟨dK (uI HS.out).symm,fD.out.aC hfs⟩
      |false=>
       cases h2:decide (1099511627776<e.k)with
       |true=>
        have eF:=ah (fun W=>vZ 0 0 0 0 W)
        have he:iO e=false:=by simp at h2;simp[iO];intros;omega
        rw[he]at hS
        (try simp only[Bool.false_and]at hS)
        have HS:=ah hS;clear hS he
        clear hd
        go_wp2_with fail
        refine dX K (by kernel_rfl) (by kernel_rfl) hK0 ?_
        repeat(go_big_quiet_step ((first|(go_at_call 236;exact Calls.bY hK2 (HDR.out _))|(go_at_call 241;exact Calls.bY hK2 (eF.out _)))))
        refine wpQuiet_nil ?_
        intro w' hw'
        obtain⟨s,rfl⟩:=hw'
        have hfs:=hK1 s
        go_wp2
        go_ret
        exact⟨dK (uI HS.out).symm,fD.out.aC hfs⟩
       |false=>
        cases h3:decide (e.k< -1099511627776)with
        |true=>
         have eF:=ah (fun W=>vZ 0 0 0 0 W)
         have he:iO e=false:=by simp at h3;simp[iO];intros;omega
         rw[he]at hS
         (try simp only[Bool.false_and]at hS)
         have HS:=ah hS;clear hS he
         clear hd
         go_wp2_with fail
         refine dX K (by kernel_rfl) (by kernel_rfl) hK0 ?_
         repeat(go_big_quiet_step ((first|(go_at_call 236;exact Calls.bY hK2 (HDR.out _))|(go_at_call 241;exact Calls.bY hK2 (eF.out _)))))
         refine wpQuiet_nil ?_
         intro w' hw'
         obtain⟨s,rfl⟩:=hw'
         have hfs:=hK1 s
         go_wp2
         go_ret
         exact⟨dK (uI HS.out).symm,fD.out.aC hfs⟩
        |false=>
         have he:iO e=true:=by simp at h1 h2 h3;simp[iO,hd];omega
         rw[he]at hS
         clear he hd
         have eF:=ah (fun W=>vZ 0 0 0 0 W)
         have HS:=ah hS;clear hS
         go_wp2_with fail
         refine dX K (by kernel_rfl) (by kernel_rfl) hK0 ?_
         repeat(go_big_quiet_step ((first|(go_at_call 236;exact Calls.bY hK2 (HDR.out _))|(go_at_call 241;exact Calls.bY hK2 (eF.out _)))))
         refine wpQuiet_nil ?_
         intro w' hw'
         obtain⟨s,rfl⟩:=hw'
         have hfs:=hK1 s
         go_wp2
         go_roundw
         case rel=>exact⟨0+1,by omega,by go_num,HS.out,fD.out.aC hfs⟩
         case measure=>simp[intOf];omega
    ·obtain⟨j,rfl⟩:∃j,k=j+1:=⟨k-1,by omega⟩
     obtain⟨p0,p1,-,-⟩:=xC her j (by omega)
     clear her
     have hS:=RP (l:=es) (j:=j) hlk HR.out
     generalize es.getD (j+1) aQ.zero=e at*
     generalize es.getD j aQ.zero=pe at*
     have hbf:aj ay wr (wr.alloc (.cells #[.int .i64 e.dc, .int .i64 e.n, .string e.s, .int .i64 e.k] 172)):=aj.alloc _ _ _
     have fD:=ah (HW.out.aC hbf)
     obtain⟨α,hne,K,hK3,hK0,hK2⟩:=worlds (wr.alloc (.cells #[.int .i64 e.dc, .int .i64 e.n, .string e.s, .int .i64 e.k] 172))
     have hK1:=hK3
     have n0:=(fun s=>(hK1 s).cell' (au (heap_alloc_new wr _) 0 rfl:(wr.alloc (.cells #[.int .i64 e.dc, .int .i64 e.n, .string e.s, .int .i64 e.k] 172)).cell? ⟨wr.heap.size,0,none⟩=some (.int .i64 e.dc)) id)
     have n1:=(fun s=>(hK1 s).cell' (au (heap_alloc_new wr _) 1 rfl:(wr.alloc (.cells #[.int .i64 e.dc, .int .i64 e.n, .string e.s, .int .i64 e.k] 172)).cell? ⟨wr.heap.size,1,none⟩=some (.int .i64 e.n)) id)
     have n2:=(fun s=>(hK1 s).cell' (au (heap_alloc_new wr _) 2 rfl:(wr.alloc (.cells #[.int .i64 e.dc, .int .i64 e.n, .string e.s, .int .i64 e.k] 172)).cell? ⟨wr.heap.size,2,none⟩=some (.string e.s)) id)
     have n3:=(fun s=>(hK1 s).cell' (au (heap_alloc_new wr _) 3 rfl:(wr.alloc (.cells #[.int .i64 e.dc, .int .i64 e.n, .string e.s, .int .i64 e.k] 172)).cell? ⟨wr.heap.size,3,none⟩=some (.int .i64 e.k)) id)
     have m0:=(fun s=>(hK1 s).cell' (hbf.cell' p0 id) id)
     have m1:=(fun s=>(hK1 s).cell' (hbf.cell' p1 id) id)
     clear p0 p1
     cases hd:qg e.dc e.n with
     |false=>
      have he:iO e=false:=by simp[iO,hd]
      rw[he]at hS
      (try simp only[Bool.false_and]at hS)
      have HS:=ah hS;clear hS he
      have HDR:=ah (fun W=>Ci e.dc e.n W)
      rw[hd]at HDR
      have eF:=ah (fun W=>vZ 0 0 0 0 W)
      clear hd
      go_wp2_with fail
      refine dX K (by kernel_rfl) (by kernel_rfl) hK0 ?_
      repeat(go_big_quiet_step ((first|(go_at_call 236;exact Calls.bY hK2 (HDR.out _))|(go_at_call 241;exact Calls.bY hK2 (eF.out _)))))
      refine wpQuiet_nil ?_
      intro w' hw'
      obtain⟨s,rfl⟩:=hw'
      have hfs:=hK1 s
      go_wp2
      go_ret
      exact⟨dK (uI HS.out).symm,fD.out.aC hfs⟩
     |true=>
      have HDR:=ah (fun W=>Ci e.dc e.n W)
      rw[hd]at HDR
      cases h1:decide (30<(e.s.size:Int))with
      |true=>
       have eF:=ah (fun W=>vZ 0 0 0 0 W)
       have he:iO e=false:=by simp at h1;simp[iO];intros;omega
       rw[he]at hS
       (try simp only[Bool.false_and]at hS)
       have HS:=ah hS;clear hS he
       clear hd
       go_wp2_with fail
       refine dX K (by kernel_rfl) (by kernel_rfl) hK0 ?_
       repeat(go_big_quiet_step ((first|(go_at_call 236;exact Calls.bY hK2 (HDR.out _))|(go_at_call 241;exact Calls.bY hK2 (eF.out _)))))
       refine wpQuiet_nil ?_
       intro w' hw'
       obtain⟨s,rfl⟩:=hw'
       have hfs:=hK1 s
       go_wp2
       go_ret
       exact⟨dK (uI HS.out).symm,fD.out.aC hfs⟩
      |false=>
       cases h2:decide (1099511627776<e.k)with
       |true=>
        have eF:=ah (fun W=>vZ 0 0 0 0 W)
        have he:iO e=false:=by simp at h2;simp[iO];intros;omega
        rw[he]at hS
        (try simp only[Bool.false_and]at hS)
        have HS:=ah hS;clear hS he
        clear hd
        go_wp2_with fail
        refine dX K (by kernel_rfl) (by kernel_rfl) hK0 ?_
        repeat(go_big_quiet_step ((first|(go_at_call 236;exact Calls.bY hK2 (HDR.out _))|(go_at_call 241;exact Calls.bY hK2 (eF.out _)))))
        refine wpQuiet_nil ?_
        intro w' hw'
        obtain⟨s,rfl⟩:=hw'
        have hfs:=hK1 s
        go_wp2
        go_ret
        exact⟨dK (uI HS.out).symm,fD.out.aC hfs⟩
       |false=>
        cases h3:decide (e.k< -1099511627776)with
        |true=>
         have eF:=ah (fun W=>vZ 0 0 0 0 W)
         have he:iO e=false:=by simp at h3;simp[iO];intros;omega
         rw[he]at hS
         (try simp only[Bool.false_and]at hS)
         have HS:=ah hS;clear hS he
         clear hd
         go_wp2_with fail
         refine dX K (by kernel_rfl) (by kernel_rfl) hK0 ?_
         repeat(go_big_quiet_step ((first|(go_at_call 236;exact Calls.bY hK2 (HDR.out _))|(go_at_call 241;exact Calls.bY hK2 (eF.out _)))))
         refine wpQuiet_nil ?_
         intro w' hw'
         obtain⟨s,rfl⟩:=hw'
         have hfs:=hK1 s
         go_wp2
         go_ret
         exact⟨dK (uI HS.out).symm,fD.out.aC hfs⟩
        |false=>
         have he:iO e=true:=by simp at h1 h2 h3;simp[iO,hd];omega
         rw[he]at hS
         clear he hd
         rw[Bool.true_and]at hS
         have eF:=ah (fun W=>vZ pe.dc pe.n e.dc e.n W)
         have hge:=ZY pe.dc pe.n e.dc e.n
         rw[←hge]at hS
         generalize yI pe.dc pe.n e.dc e.n=cc at*
         cases hl:decide (0≤cc)with
         |true=>
          rw[hl]at hS
          have hS:=hS
          have HS:=ah hS;clear hS hge
          go_wp2_with fail
          refine dX K (by kernel_rfl) (by kernel_rfl) hK0 ?_
          repeat(go_big_quiet_step ((first|(go_at_call 236;exact Calls.bY hK2 (HDR.out _))|(go_at_call 241;exact Calls.bY hK2 (eF.out _)))))
          refine wpQuiet_nil ?_
          intro w' hw'
          obtain⟨s,rfl⟩:=hw'
          have hfs:=hK1 s
          go_wp2
          go_ret
          exact⟨dK (uI HS.out).symm,fD.out.aC hfs⟩
         |false=>
          rw[hl]at hS
          have HS:=ah hS;clear hS hge
          go_wp2_with fail
          refine dX K (by kernel_rfl) (by kernel_rfl) hK0 ?_
          repeat(go_big_quiet_step ((first|(go_at_call 236;exact Calls.bY hK2 (HDR.out _))|(go_at_call 241;exact Calls.bY hK2 (eF.out _)))))
          refine wpQuiet_nil ?_
          intro w' hw'
          obtain⟨s,rfl⟩:=hw'
          have hfs:=hK1 s
          go_wp2
          go_roundw
          case rel=>exact⟨j+1+1,by omega,by go_num,HS.out,fD.out.aC hfs⟩
          case measure=>simp[intOf];omega
  ·obtain rfl:n=k:=by omega
   rw[List.take_of_length_le (by rw[HN.out];exact Nat.le_refl _)]at HR
   go_wp2
   go_ret
   exact⟨dK HR.out.symm,HW.out⟩
open Go.RowKit
theorem Z_ {ks:aS} {d:Nat} {es:List aQ} (he:jQ none es=true):dD (d+1) es ks=pz ks d none:=by
 rw[dD,Nat.add_sub_cancel,he];simp
theorem aac (Q:Nat→Prop):∀(N:Nat) (es:List aQ) (ks:aS) (d:Nat) (w:World) (ev kv:Value),jE ks<N→dh Q w ev kv es ks→oI es ks→d≤100→
 Calls Tryz.prog 201 #[.agg #[ev,kv], .int .i64 d] w fun e w'=>e= .returned (.bool (dD d es ks))∧aj ay w w':=by
 intro N
 induction N with
 |zero=>intros;exfalso;omega
 |succ N mV=>
  intro es ks d w ev kv hN ht hok hd
  obtain⟨ae,ce,rfl⟩:=ht.ents.rd.sl
  obtain⟨os,hkr,iP⟩:=ht.kids
  obtain⟨ak,ck,rfl⟩:=hkr.rd.sl
  have HT:=ah ht;clear ht
  have mW:=ah hkr.rd;clear hkr
  have qw:=ah iP;clear iP
  have IH:=ah mV;clear mV
  have dF:=ah (aj.alloc ay w (.cells #[.slice ae es.length ce, .slice ak ks.len ck] 30))
  have box0:(w.alloc (.cells #[.slice ae es.length ce, .slice ak ks.len ck] 30)).cell? ⟨w.heap.size,0,none⟩=some (.slice ae es.length ce):=au (heap_alloc_new w _) 0 rfl
  have box1:(w.alloc (.cells #[.slice ae es.length ce, .slice ak ks.len ck] 30)).cell? ⟨w.heap.size,1,none⟩=some (.slice ak ks.len ck):=au (heap_alloc_new w _) 1 rfl
  have B0:=ah box0;clear box0
  have B1:=ah box1;clear box1
  have L_:=ah hok.es.len
  have xH:=ah hok.len
  have bT:=ah hok;clear hok
  have kF:=ah hN;clear hN
  cases d with
  |zero=>
   go_enter Tryz.func201,Tryz.ntmps201
   go_wp2
   go_ret
   exact⟨dK (by simp[dD]),dF.out⟩
  |succ d=>
   generalize hes:es.length=n at*
   have HN:=ah hes;clear hes
   generalize hkl:ks.len=m at*
   have HM:=ah hkl;clear hkl
   have hd9:(d:Int)≤100:=by omega
   have hd1:¬(((d+1:Nat):Int)<1):=by omega
   have HD:=ah hd;clear hd
   cases hre:jQ none es with
   |false=>
    have EG:=ah (fun W (h:aj ay (w.alloc (.cells #[.slice ae n ce, .slice ak m ck] 30)) W)=>RY W (.slice ae n ce) es (by have:=(HT.out.aJ dF.out).ents.rd;rw[HN.out]at this⊢;exact this.aJ h) bT.out.es)
    rw[hre]at EG
    have b0:=B0.out
    go_enter Tryz.func201,Tryz.ntmps201
    go_wp2_with(go_at_call 249;refine(EG.out _ (aj.refl _ _)).mono ?_;rintro e w1 ⟨rfl,hw1⟩;have HW1:=ah hw1;clear hw1)
    go_ret
    exact⟨dK (by rw[dD,hre];simp),dF.out.aC HW1.out⟩
   |true=>
    have EG:=ah (fun W (h:aj ay (w.alloc (.cells #[.slice ae n ce, .slice ak m ck] 30)) W)=>RY W (.slice ae n ce) es (by have:=(HT.out.aJ dF.out).ents.rd;rw[HN.out]at this⊢;exact this.aJ h) bT.out.es)
    rw[hre]at EG
    have HRE:=ah hre;clear hre
    have b0:=B0.out
    go_enter Tryz.func201,Tryz.ntmps201
    go_wp2_with(go_at_call 249;refine(EG.out _ (aj.refl _ _)).mono ?_;rintro e w1 ⟨rfl,hw1⟩;have HW:=ah hw1;clear hw1;have b1:=HW.out.cell' B1.out id)
    clear b0 b1
    go_loopw [18] (fun i ww=>∃(k:Nat) (p:Option ByteArray),k≤m∧i= .int .i64 k∧RU ks k p∧pz ks d none=pz (ks.drop k) d p∧aj ay (w.alloc (.cells #[.slice ae n ce, .slice ak m ck] 30)) ww) (fun i _=>m-(intOf i).toNat)
    case atStart=>exact⟨0,none,Nat.zero_le _,rfl, .inl ⟨rfl,rfl⟩,rfl,HW.out⟩
    case round=>
     obtain⟨k,p,hk,rfl,hp,hr,hw⟩:=hrel
     have fD:=ah hw;clear hw
     have HP:=ah hp;clear hp
     have b1:=fD.out.cell' B1.out id
     by_cases hlt:k<m
     ·obtain⟨key,es',sub,rest,hdr⟩:=aS.xB (n:=k) (ks:=ks) (by rw[HM.out];exact hlt)
      have hmm:(m:Int)≤9223372036854775807:=by have:=xH.out;omega
      rcases Rd.shape (mW.out.aJ (dF.out.aC fD.out))with⟨ad,he,h0⟩|⟨b,off,cc,he,hmax⟩
      ·exfalso;have:=HM.out;omega
      ·injection he with e1 e2 e3
       subst e1 e3
       clear e2 hmax
       obtain⟨ev',kv',c0,c1,c2,hta⟩:=wz (mW.out.aJ (dF.out.aC fD.out)) (qw.out.aJ (dF.out.aC fD.out)) hdr
       obtain⟨h_,ig,rfl⟩:=hta.ents.rd.sl
       obtain⟨os',lV,qx⟩:=hta.kids
       obtain⟨iq,iw,rfl⟩:=lV.rd.sl
       clear lV qx
       have hok':=bT.out.ks.drop k
       rw[hdr]at hok'
       have hkz:=hok'.1
       have hsub:oI es' sub:=⟨hok'.2.1,hok'.2.2.1,hok'.2.2.2.1⟩
       have l1:((es'.length:Nat):Int)≤140737488351232:=by have:=hsub.es.len;omega
       have l2:((sub.len:Nat):Int)≤140737488351232:=by have:=hsub.len;omega
       have Mc:=ah hsub;clear hsub hok'
       have iH:=ah (yT k hdr)
       rw[RS hdr]at hr
       have HDR:=ah hdr;clear hdr
       have hbf:aj ay wr (wr.alloc (.cells #[.string key, .slice h_ es'.length ig, .slice iq sub.len iw] 83)):=aj.alloc _ _ _
       have n0:(wr.alloc (.cells #[.string key, .slice h_ es'.length ig, .slice iq sub.len iw] 83)).cell? ⟨wr.heap.size,0,none⟩=some (.string key):=au (heap_alloc_new wr _) 0 rfl
       have n1:(wr.alloc (.cells #[.string key, .slice h_ es'.length ig, .slice iq sub.len iw] 83)).cell? ⟨wr.heap.size,1,none⟩=some (.slice h_ es'.length ig):=au (heap_alloc_new wr _) 1 rfl
       have n2:(wr.alloc (.cells #[.string key, .slice h_ es'.length ig, .slice iq sub.len iw] 83)).cell? ⟨wr.heap.size,2,none⟩=some (.slice iq sub.len iw):=au (heap_alloc_new wr _) 2 rfl
       have gV:=ah (hta.aJ hbf);clear hta
       have Ba:=fD;clear fD
       have fD:=ah (Ba.out.aC hbf)
       have kk:∀j pF es0 xI xJ,ks.drop j= .cons pF es0 xI xJ→wr.cell? ⟨b,off+j*3,none⟩=some (.string pF):=fun j pF es0 xI xJ h=>by
        obtain⟨_,_,h0,_⟩:=wz (mW.out.aJ (dF.out.aC Ba.out)) (qw.out.aJ (dF.out.aC Ba.out)) h
        exact h0
       have KK:=ah kk;clear kk
       have HIH:=ah (fun w' (h:aj ay (wr.alloc (.cells #[.string key, .slice h_ es'.length ig, .slice iq sub.len iw] 83)) w')=>IH.out es' sub d w' _ _ (by have:=iH.out;have:=kF.out;omega) (gV.out.aJ h) Mc.out (by have:=HD.out;omega))
       have hem:∀W,Calls Tryz.prog 200 #[.agg #[.slice h_ es'.length ig, .slice iq sub.len iw]] W fun e w'=>e= .returned (.bool (isNil es' sub))∧aj ay W w':=fun W=>empty_any h_ iq es'.length sub.len ig iw W
       have tH:=ah hem;clear hem
       generalize es'.length=n' at*
       generalize sub.len=m' at*
       obtain⟨α,hne,K,hK3,hK0,hK2⟩:=worlds (wr.alloc (.cells #[.string key, .slice h_ n' ig, .slice iq m' iw] 83))
       have hK1:=hK3
       have ZT:=fun s=>(hK1 s).cell' (hbf.cell' b1 id) id
       have ZU:=fun s=>(hK1 s).cell' n0 id
       have IU:=fun s=>(hK1 s).cell' n1 id
       have Md:=fun s=>(hK1 s).cell' n2 id
       clear n0 n1 n2
       have hge:=RQ
       rcases HP.out with⟨rfl,rfl⟩|⟨j,pF,es0,xI,xJ,rfl,hdj,rfl⟩
       ·simp only[Nat.zero_mul,Nat.add_zero]at c0 c1 c2
        cases g1:uy key with
        |false=>
         rw[g1]at hr
         simp only[Bool.false_and]at hr
         have hst:dD (d+1) es ks=false:=by rw[dD,Nat.add_sub_cancel,hr];simp
         have HST:=ah hst;clear hst hr
         go_wp2_with fail
         refine dX K (by kernel_rfl) (by kernel_rfl) hK0 ?_
         repeat(go_big_quiet_step ((first|(go_at_call 250;exact Calls.bY hK2 (Calls.oJ (w_ key _ hkz)))|(go_at_call 200;exact Calls.bY hK2 (tH.out _))|(go_at_call 201;exact Calls.bY hK2 (HIH.out _ (hK3 _))))))
         refine wpQuiet_nil ?_
         intro w' hw'
         obtain⟨s,rfl⟩:=hw'
         have hfs:=hK1 s
         go_wp2
         go_ret
         exact⟨dK HST.out.symm,dF.out.aC (fD.out.aC hfs)⟩
        |true=>
         cases g3:isNil es' sub with
         |true=>
          rw[g1,g3]at hr
          rw[g3]at tH
          simp only[Bool.not_true,Bool.and_false,Bool.false_and]at hr
          have hst:dD (d+1) es ks=false:=by rw[dD,Nat.add_sub_cancel,hr];simp
          have HST:=ah hst;clear hst hr
          go_wp2_with fail
          refine dX K (by kernel_rfl) (by kernel_rfl) hK0 ?_
          repeat(go_big_quiet_step ((first|(go_at_call 250;exact Calls.bY hK2 (Calls.oJ (w_ key _ hkz)))|(go_at_call 200;exact Calls.bY hK2 (tH.out _))|(go_at_call 201;exact Calls.bY hK2 (HIH.out _ (hK3 _))))))
          refine wpQuiet_nil ?_
          intro w' hw'
          obtain⟨s,rfl⟩:=hw'
          have hfs:=hK1 s
          go_wp2
          go_ret
          exact⟨dK HST.out.symm,dF.out.aC (fD.out.aC hfs)⟩
         |false=>
          rw[g3]at tH
          cases g4:dD d es' sub with
          |false=>
           rw[g1,g3,g4]at hr
           rw[g4]at HIH
           simp only[Bool.and_false,Bool.false_and]at hr
           have hst:dD (d+1) es ks=false:=by rw[dD,Nat.add_sub_cancel,hr];simp
           have HST:=ah hst;clear hst hr
           go_wp2_with fail
           refine dX K (by kernel_rfl) (by kernel_rfl) hK0 ?_
           repeat(go_big_quiet_step ((first|(go_at_call 250;exact Calls.bY hK2 (Calls.oJ (w_ key _ hkz)))|(go_at_call 200;exact Calls.bY hK2 (tH.out _))|(go_at_call 201;exact Calls.bY hK2 (HIH.out _ (hK3 _))))))
           refine wpQuiet_nil ?_
           intro w' hw'
           obtain⟨s,rfl⟩:=hw'
           have hfs:=hK1 s
           go_wp2
           go_ret
           exact⟨dK HST.out.symm,dF.out.aC (fD.out.aC hfs)⟩
          |true=>
           rw[g1,g3,g4]at hr
           rw[g4]at HIH
           simp only[ltK,Bool.not_false,Bool.and_true,Bool.true_and]at hr
           have HST:=ah hr;clear hr
           go_wp2_with fail
           refine dX K (by kernel_rfl) (by kernel_rfl) hK0 ?_
           repeat(go_big_quiet_step ((first|(go_at_call 250;exact Calls.bY hK2 (Calls.oJ (w_ key _ hkz)))|(go_at_call 200;exact Calls.bY hK2 (tH.out _))|(go_at_call 201;exact Calls.bY hK2 (HIH.out _ (hK3 _))))))
           refine wpQuiet_nil ?_
           intro w' hw'
           obtain⟨s,rfl⟩:=hw'
           have hfs:=hK1 s
           go_wp2
           go_roundw
           case rel=>exact⟨0+1,some key,by omega,by go_num, .inr ⟨0,key,es',sub,rest,rfl,HDR.out,rfl⟩,HST.out,fD.out.aC hfs⟩
           case measure=>simp[intOf];omega
       ·have pk:=KK.out j pF es0 xI xJ hdj
        clear hdj
        have ZV:=(fun s=>(hK1 s).cell' (hbf.cell' pk id) id)
        clear pk
        cases g1:uy key with
        |false=>
         rw[g1]at hr
         simp only[Bool.false_and]at hr
         have hst:dD (d+1) es ks=false:=by rw[dD,Nat.add_sub_cancel,hr];simp
         have HST:=ah hst;clear hst hr
         go_wp2_with fail
         refine dX K (by kernel_rfl) (by kernel_rfl) hK0 ?_
         repeat(go_big_quiet_step ((first|(go_at_call 250;exact Calls.bY hK2 (Calls.oJ (w_ key _ hkz)))|(go_at_call 200;exact Calls.bY hK2 (tH.out _))|(go_at_call 201;exact Calls.bY hK2 (HIH.out _ (hK3 _))))))
         refine wpQuiet_nil ?_
         intro w' hw'
         obtain⟨s,rfl⟩:=hw'
         have hfs:=hK1 s
         go_wp2
         go_ret
         exact⟨dK HST.out.symm,dF.out.aC (fD.out.aC hfs)⟩
        |true=>
         cases g2:Op.bytesLess pF.toList key.toList with
         |false=>
          rw[show ltK (some pF) key=false from g2]at hr
          simp only[Bool.and_false,Bool.false_and]at hr
          have hst:dD (d+1) es ks=false:=by rw[dD,Nat.add_sub_cancel,hr];simp
          have HST:=ah hst;clear hst hr
          go_wp2_with fail
          refine dX K (by kernel_rfl) (by kernel_rfl) hK0 ?_
          repeat(go_big_quiet_step ((first|(go_at_call 250;exact Calls.bY hK2 (Calls.oJ (w_ key _ hkz)))|(go_at_call 200;exact Calls.bY hK2 (tH.out _))|(go_at_call 201;exact Calls.bY hK2 (HIH.out _ (hK3 _))))))
          refine wpQuiet_nil ?_
          intro w' hw'
          obtain⟨s,rfl⟩:=hw'
          have hfs:=hK1 s
          go_wp2
          go_ret
          exact⟨dK HST.out.symm,dF.out.aC (fD.out.aC hfs)⟩
         |true=>
          cases g3:isNil es' sub with
          |true=>
           rw[g3]at hr
           rw[g3]at tH
           simp only[Bool.not_true,Bool.and_false,Bool.false_and]at hr
           have hst:dD (d+1) es ks=false:=by rw[dD,Nat.add_sub_cancel,hr];simp
           have HST:=ah hst;clear hst hr
           go_wp2_with fail
           refine dX K (by kernel_rfl) (by kernel_rfl) hK0 ?_
           repeat(go_big_quiet_step ((first|(go_at_call 250;exact Calls.bY hK2 (Calls.oJ (w_ key _ hkz)))|(go_at_call 200;exact Calls.bY hK2 (tH.out _))|(go_at_call 201;exact Calls.bY hK2 (HIH.out _ (hK3 _))))))
           refine wpQuiet_nil ?_
           intro w' hw'
           obtain⟨s,rfl⟩:=hw'
           have hfs:=hK1 s
           go_wp2
           go_ret
           exact⟨dK HST.out.symm,dF.out.aC (fD.out.aC hfs)⟩
          |false=>
           rw[g3]at tH
           cases g4:dD d es' sub with
           |false=>
            rw[g4]at hr
            rw[g4]at HIH
            simp only[Bool.and_false,Bool.false_and]at hr
            have hst:dD (d+1) es ks=false:=by rw[dD,Nat.add_sub_cancel,hr];simp
            have HST:=ah hst;clear hst hr
            go_wp2_with fail
            refine dX K (by kernel_rfl) (by kernel_rfl) hK0 ?_
            repeat(go_big_quiet_step ((first|(go_at_call 250;exact Calls.bY hK2 (Calls.oJ (w_ key _ hkz)))|(go_at_call 200;exact Calls.bY hK2 (tH.out _))|(go_at_call 201;exact Calls.bY hK2 (HIH.out _ (hK3 _))))))
            refine wpQuiet_nil ?_
            intro w' hw'
            obtain⟨s,rfl⟩:=hw'
            have hfs:=hK1 s
            go_wp2
            go_ret
            exact⟨dK HST.out.symm,dF.out.aC (fD.out.aC hfs)⟩
           |true=>
            rw[g1,g3,g4,show ltK (some pF) key=true from g2]at hr
            rw[g4]at HIH
            simp only[Bool.not_false,Bool.and_true,Bool.true_and]at hr
            have HST:=ah hr;clear hr
            go_wp2_with fail
            refine dX K (by kernel_rfl) (by kernel_rfl) hK0 ?_
            repeat(go_big_quiet_step ((first|(go_at_call 250;exact Calls.bY hK2 (Calls.oJ (w_ key _ hkz)))|(go_at_call 200;exact Calls.bY hK2 (tH.out _))|(go_at_call 201;exact Calls.bY hK2 (HIH.out _ (hK3 _))))))
            refine wpQuiet_nil ?_
            intro w' hw'
            obtain⟨s,rfl⟩:=hw'
            have hfs:=hK1 s
            go_wp2
            go_roundw
            case rel=>exact⟨(j+1)+1,some key,by omega,by go_num, .inr ⟨(j+1),key,es',sub,rest,rfl,HDR.out,rfl⟩,HST.out,fD.out.aC hfs⟩
            case measure=>simp[intOf];omega
     ·obtain rfl:m=k:=by omega
      rw[aS.yR (by rw[HM.out];exact Nat.le_refl _)]at hr
      have HRR:=ah hr;clear hr
      go_wp2
      go_ret
      exact⟨dK (by rw[Z_ HRE.out,HRR.out];simp[pz]),dF.out.aC fD.out⟩
open Go.RowKit
structure gB where
 key:ByteArray
 es:List aQ
 sub:aS
 ev:Value
 kv:Value
instance:Inhabited gB:=⟨⟨ByteArray.empty,[], .nil, .slice none 0 0, .slice none 0 0⟩⟩
def gB.cells (q:gB):List Value:=[.string q.key,q.ev,q.kv]
def qy:List gB→aS→aS
 |[],r=>r
 |q::l,r=> .cons q.key q.es q.sub (qy l r)
def mkK (l:List gB):aS:=qy l .nil
def CW (l:List gB):List (Value×Value):=l.map fun q=>(q.ev,q.kv)
theorem EH:∀(l:List gB) (q:gB) (r:aS),qy (l++ [q]) r=qy l (.cons q.key q.es q.sub r)
 |[],_,_=>rfl
 |x::l,q,r=>by show aS.cons _ _ _ (qy (l++ [q]) r)=_;rw[EH l q r];rfl
theorem CX:∀l:List gB,(mkK l).len=l.length
 |[]=>rfl
 |q::l=>by show(mkK l).len+1=_;rw[CX l];rfl
theorem Me:∀l:List gB,vk (mkK l) (CW l)=l.flatMap gB.cells
 |[]=>rfl
 |q::l=>by show _::_::_::vk (mkK l) (CW l)=_;rw[Me l];rfl
theorem MB {Q:Nat→Prop} {w:World}:∀ {l:List gB},(∀q∈l,dh Q w q.ev q.kv q.es q.sub)→lC Q w (mkK l) (CW l)
 |[],_=>rfl
 |q::l,h=>by
  obtain⟨h1,os,h2,h3⟩:=h q List.mem_cons_self
  exact⟨q.ev,q.kv,CW l,os,rfl,h1,h2,h3,MB fun x hx=>h x (List.mem_cons_of_mem _ hx)⟩
theorem eH.turn {Q Q':Nat→Prop} {w w':World} {v:Value} {n:Nat} {xs:List Value} (h:eH Q w v n xs) (f:∀b,b<w.heap.size→Q b→w'.heap[b]?=w.heap[b]?∧Q' b):eH Q' w' v n xs:=by
 rcases h.rd with⟨ad,h1,h2,h3⟩|⟨b,off,c,rfl,h1,h2,h3⟩
 ·exact⟨.inl ⟨ad,h1,h2,h3⟩,fun hx=>absurd h3 hx⟩
 ·have yS:∀j u,xs[j]?=some u→w'.cell? ⟨b,off+j,none⟩=some u∧Q' b:=fun j u hu=>by
   have hc:=h3 j u hu
   have hlt:b<w.heap.size:=World.block_lt_of_cell? _ _ hc
   obtain⟨g1,g2⟩:=f b hlt (h.q (fun e=>by rw[e]at hu;simp at hu) b rfl)
   exact⟨(World.cell?_of_block (w:=w) g1).trans hc,g2⟩
  refine⟨.inr ⟨b,off,c,rfl,h1,h2,fun j u hu=>(yS j u hu).1⟩,fun hx k hk=>?_⟩
  simp[Value.ownBlock]at hk
  subst hk
  cases xs with
  |nil=>exact absurd rfl hx
  |cons x xs=>exact(yS 0 x rfl).2
theorem lC.turn {Q Q':Nat→Prop} {w w':World} (f:∀b,b<w.heap.size→Q b→w'.heap[b]?=w.heap[b]?∧Q' b):∀ {ks:aS} {os:List (Value×Value)},lC Q w ks os→lC Q' w' ks os
 | .nil,_,h=>h
 | .cons _ _ _ _,_,⟨ev,kv,uH,os,h1,h2,h3,h4,h5⟩=>⟨ev,kv,uH,os,h1,h2.turn f,h3.turn f,h4.turn f,h5.turn f⟩
theorem dh.turn {Q Q':Nat→Prop} {w w':World} {ev kv:Value} {es:List aQ} {ks:aS} (h:dh Q w ev kv es ks) (f:∀b,b<w.heap.size→Q b→w'.heap[b]?=w.heap[b]?∧Q' b):dh Q' w' ev kv es ks:=
 ⟨h.ents.turn f,let⟨os,h1,h2⟩:=h.kids;⟨os,h1.turn f,h2.turn f⟩⟩
theorem OwnAt.IV {w0 w:World} {e:TypeId} {size:Nat} {v:Value} {n:Nat} {xs:List Value} (h:OwnAt w0 w e size v n xs):eH (fun k=>w0.heap.size≤k) w v n xs:=⟨h.rd,fun _ k hk=>h.new k hk⟩
open Go.RowKit
theorem MC:(Tryz.prog.info? 172).map (fun i=>(i.zero,i.size,i.bytes))=some (some (.agg #[.int .i64 0, .int .i64 0, .string ByteArray.empty, .int .i64 0]),4,40):=by kernel_rfl
theorem OwnAt.empty {w0 w:World} (f:aj ay w0 w) (e:TypeId) (size:Nat):OwnAt w0 (w.alloc (.cells #[] e)) e size (.slice (some ⟨w.heap.size,0,none⟩) 0 0) 0 []:=
 ⟨⟨by simp, .inr ⟨w.heap.size,0, #[],rfl,Nat.zero_le _,heap_alloc_new w _,Nat.le_refl _,Nat.zero_le _,by simp,by simp⟩⟩,fun k hk=>by
   simp[Value.ownBlock]at hk
   have:=f.size
   omega,f.trans (aj.alloc _ _ _) fun _ _ h=>h⟩
theorem aae (w:World) (v:Value) (es:List aQ) (hv:Rd w v es.length (kM es)) (hl:es.length≤100000):
 Calls Tryz.prog 255 #[v] w fun e w'=>∃v',e= .returned v'∧OwnAt w w' 172 4 v' es.length (kM es):=by
 obtain⟨i0,hi,hz0,hz1,hz2⟩:=info_parts MC
 obtain⟨aA,cA,rfl⟩:=hv.sl
 have HH:=ah hv;clear hv
 generalize hn:es.length=n at*
 have HN:=ah hn;clear hn
 by_cases hnil:aA=none
 ·subst hnil
  rcases HH.out with⟨ad,he,h0,hx⟩|⟨b,off,cc,he,_⟩
  ·injection he with e1 e2 e3
   subst e1 e2 e3
   have hx0:kM es=[]:=hx
   rw[hx0]
   have hq:=Lib.run_eql_slice_nil (P:=Tryz.prog) w 27 172 none 0 0 0 0 Tryz.underlying27
   go_enter Tryz.func255,Tryz.ntmps255
   go_wp2
   go_ret
   exact⟨_,rfl,OwnAt.nil (aj.refl _ _) _ _⟩
  ·injection he with e1 e2 e3
   cases e1
 ·obtain⟨ad,rfl⟩:=Option.ne_none_iff_exists'.1 hnil
  clear hnil
  have hq:=Lib.run_eql_slice_nil (P:=Tryz.prog) w 27 172 (some ad) n cA 0 0 Tryz.underlying27
  go_enter Tryz.func255,Tryz.ntmps255
  go_wp2_with(at_builtin;refine xq w _ _ rfl (.tmp 5) (.tmp 6) 27 27 rfl 172 172 i0 _ 4 40 Tryz.underlying27 Tryz.underlying27 hi hz0 hz1 hz2 (by decide) (by decide) _ _ _ (OwnAt.empty (aj.refl _ _) 172 4) _ n rfl rfl (HH.out.aJ (aj.alloc _ _ _)) (by rw[RF,HN.out]) (ZH _) (by simp only[maxLen];omega) (by omega) ?_;intro ad cc w5 lN;have OW:=ah lN;clear lN)
  go_ret
  exact⟨_,rfl,by have:=OW.out;simpa using this⟩
theorem aaf (w:World) (v:Value) (c:aX) (hv:jf w v c) (hl:c.length≤100000):
 Calls Tryz.prog 105 #[v] w fun e w'=>∃v',e= .returned v'∧OwnAt w w' 144 3 v' c.length (fJ c):=by
 obtain⟨i0,hi,hz0,hz1,hz2⟩:=info_parts xw
 obtain⟨aA,cA,rfl⟩:=hv.sl
 have HH:=ah hv;clear hv
 generalize hn:c.length=n at*
 have HN:=ah hn;clear hn
 by_cases hnil:aA=none
 ·subst hnil
  rcases HH.out with⟨ad,he,h0,hx⟩|⟨b,off,cc,he,_⟩
  ·injection he with e1 e2 e3
   subst e1 e3
   have hx0:fJ c=[]:=hx
   have hn0:n=0:=by rw[←HN.out];exact h0
   subst hn0
   rw[hx0]
   have hq:=Lib.run_eql_slice_nil (P:=Tryz.prog) w 32 144 none 0 0 0 0 Tryz.underlying32
   go_enter Tryz.func105,Tryz.ntmps105
   go_wp2
   go_ret
   exact⟨_,rfl,OwnAt.nil (aj.refl _ _) _ _⟩
  ·injection he with e1 e2 e3
   cases e1
 ·obtain⟨ad,rfl⟩:=Option.ne_none_iff_exists'.1 hnil
  clear hnil
  have hq:=Lib.run_eql_slice_nil (P:=Tryz.prog) w 32 144 (some ad) n cA 0 0 Tryz.underlying32
  go_enter Tryz.func105,Tryz.ntmps105
  go_wp2_with(at_builtin;refine xq w _ _ rfl (.tmp 5) (.tmp 6) 32 32 rfl 144 144 i0 _ 3 24 Tryz.underlying32 Tryz.underlying32 hi hz0 hz1 hz2 (by decide) (by decide) _ _ _ (OwnAt.empty (aj.refl _ _) 144 3) _ n rfl rfl (HN.out▸HH.out.aJ (aj.alloc _ _ _)) (by rw[Ii,HN.out]) (KN _) (by simp only[maxLen];omega) (by omega) ?_;intro ad cc w5 lN;have OW:=ah lN;clear lN)
  go_ret
  exact⟨_,rfl,by have:=OW.out;simpa using this⟩
open Go.RowKit
theorem MF:(Tryz.prog.info? 83).map (fun i=>(i.zero,i.size,i.bytes))=some (some (.agg #[.string ByteArray.empty, .slice none 0 0, .slice none 0 0]),3,64):=by kernel_rfl
def Bg (w:World) (h2 h3:Nat) (v:Value) (b:Nat):Prop:=w.heap.size≤b∧b≠h2∧b≠h3∧v.ownBlock≠some b
structure wC (w ww:World) (h2 h3:Nat) (n:Nat) (ev kv:Value) (es:List aQ) (ks:aS) (k:Nat) (l:List gB):Prop where
 aH:aj ay w ww
 b2:ww.heap[h2]?=some (.cells #[.slice none 0 0, .slice none 0 0] 30 (0,0))
 b3:ww.heap[h3]?=some (.cells #[ev,kv] 30 (0,0))
 new2:w.heap.size≤h2
 tJ:w.heap.size≤h3
 ne:h2≠h3
 own:jc (fun b=>b=h2∨b=h3) w ww 83 3 kv k (l.flatMap gB.cells)
 ents:eH (Bg w h2 h3 kv) ww ev n (kM es)
 kids:∀q∈l,dh (Bg w h2 h3 kv) ww q.ev q.kv q.es q.sub
 len:l.length=k
 all:ks=qy l (ks.drop k)
theorem wC.keep {w ww w':World} {h2 h3 n:Nat} {ev kv:Value} {es:List aQ} {ks:aS} {k:Nat} {l:List gB} (h:wC w ww h2 h3 n ev kv es ks k l) (f:aj ay ww w'):wC w w' h2 h3 n ev kv es ks k l:=
 ⟨h.aH.aC f,f.blk h.b2 id,f.blk h.b3 id,h.new2,h.tJ,h.ne,h.own.keep f,h.ents.keep f (fun _ _ s=>s.elim),fun q hq=>(h.kids q hq).aJ f,h.len,h.all⟩
theorem wC.step {w w1 w':World} {h2 h3 n:Nat} {ev kv kv':Value} {es:List aQ} {ks:aS} {k:Nat} {l:List gB} (h:wC w w1 h2 h3 n ev kv es ks k l) {q:gB} {rest:aS} (hd:ks.drop k= .cons q.key q.es q.sub rest)
 (hq:dh (Bg w h2 h3 kv) w1 q.ev q.kv q.es q.sub)
 (own:w'.ownsRow 0 83 3 kv' (k+1) (l.flatMap gB.cells++q.cells)) (fm:aj (eY kv) w1 w') (fr:gZ w1 kv kv'):
 wC w (w'.setCell ⟨h3,1,none⟩ kv') h2 h3 n ev kv' es ks (k+1) (l++ [q]):=by
 have hb3:¬eY kv h3:=fun hs=>h.own.but h3 hs (.inr rfl)
 have hb2:¬eY kv h2:=fun hs=>h.own.but h2 hs (.inl rfl)
 have hset:aj (fun b=>b=h3) w' (w'.setCell ⟨h3,1,none⟩ kv'):=aj.setCell (S:=fun b=>b=h3) w' (p:=⟨h3,1,none⟩) (.inl rfl) _
 have l2:=lt_of_block h.b2
 have l3:=lt_of_block h.b3
 have hne':∀b,kv'.ownBlock=some b→b≠h2∧b≠h3:=fun b hb=>by
  rcases fr b hb with h1|h1
  ·exact⟨fun e=>h.own.but b h1 (.inl e),fun e=>h.own.but b h1 (.inr e)⟩
  ·exact⟨fun e=>by omega,fun e=>by omega⟩
 have turn:∀b,b<w1.heap.size→Bg w h2 h3 kv b→(w'.setCell ⟨h3,1,none⟩ kv').heap[b]?=w1.heap[b]?∧Bg w h2 h3 kv' b:=fun b hb hQ=>by
  refine⟨?_,hQ.1,hQ.2.1,hQ.2.2.1,fun e=>?_⟩
  ·rw[hset.block b (Nat.lt_of_lt_of_le hb fm.size) hQ.2.2.1,fm.block b hb hQ.2.2.2]
  ·rcases fr b e with h1|h1
   ·exact hQ.2.2.2 h1
   ·omega
 have hown:jc (fun b=>b=h2∨b=h3) w w' 83 3 kv' (k+1) (l.flatMap gB.cells++q.cells):=
  ⟨h.own.at_.step own fm fr,fun b hb hn=>by
    have:=hne' b hb
    rcases hn with hn|hn
    ·exact this.1 hn
    ·exact this.2 hn⟩
 refine⟨hown.at_.aH.set1 (.inr h.tJ),?_,?_,h.new2,h.tJ,h.ne,?_,h.ents.turn turn,fun x hx=>?_,by rw[List.length_append,h.len];rfl,?_⟩
 ·exact hset.blk (fm.blk h.b2 hb2) h.ne
 ·exact bC (fm.blk h.b3 hb3) 1 kv'
 ·rw[List.flatMap_append]
  simp only[List.flatMap_cons,List.flatMap_nil,List.append_nil]
  exact hown.set (.inr rfl) h.tJ _
 ·rcases List.mem_append.1 hx with hx|hx
  ·exact(h.kids x hx).turn turn
  ·simp only[List.mem_singleton]at hx;subst hx;exact hq.turn turn
 ·rw[EH,aS.CQ k ks hd,←hd]
  exact h.all
theorem wC.done {w ww:World} {h2 h3 n:Nat} {ev kv:Value} {es:List aQ} {ks:aS} {k:Nat} {l:List gB} (h:wC w ww h2 h3 n ev kv es ks k l) (hn:n=es.length) (hk:ks.len≤k):
 dh (fun b=>w.heap.size≤b) ((ww.setCell ⟨h2,0,none⟩ ev).setCell ⟨h2,1,none⟩ kv) ev kv es ks∧aj ay w ((ww.setCell ⟨h2,0,none⟩ ev).setCell ⟨h2,1,none⟩ kv)∧
  ((ww.setCell ⟨h2,0,none⟩ ev).setCell ⟨h2,1,none⟩ kv).heap[h2]?=some (.cells #[ev,kv] 30 (0,0)):=by
 have hks:ks=mkK l:=by
  have:=h.all
  rw[aS.yR hk]at this
  exact this
 have RZ:aj (fun b=>b=h2) ww ((ww.setCell ⟨h2,0,none⟩ ev).setCell ⟨h2,1,none⟩ kv):=
  (aj.setCell (S:=fun b=>b=h2) ww (p:=⟨h2,0,none⟩) (.inl rfl) ev).trans (aj.setCell (S:=fun b=>b=h2) _ (p:=⟨h2,1,none⟩) (.inl rfl) kv) fun _ _ h=>h
 have turn:∀b,b<ww.heap.size→Bg w h2 h3 kv b→((ww.setCell ⟨h2,0,none⟩ ev).setCell ⟨h2,1,none⟩ kv).heap[b]?=ww.heap[b]?∧w.heap.size≤b:=fun b hb hQ=>⟨RZ.block b hb hQ.2.1,hQ.1⟩
 refine⟨⟨hn▸h.ents.turn turn,CW l,?_,?_⟩,(h.aH.set1 (p:=⟨h2,0,none⟩) (.inr h.new2)).set1 (p:=⟨h2,1,none⟩) (.inr h.new2),bC (bC h.b2 0 ev) 1 kv⟩
 ·rw[hks,CX,Me,h.len]
  have ho:=RZ.owns h.own.at_.own fun b hb he=>h.own.but b hb (.inl he)
  exact⟨Rd.own ho,fun _ b hb=>h.own.at_.new b hb⟩
 ·rw[hks]
  exact MB fun q hq=>(h.kids q hq).turn turn
end Go.Proofs.YtabkpccdnkjoiaaGreat
