/- Words for the law ShardParts: R8d, R8e, SmallT, R8c. -/
import Derived.Test.YtlhmbkjdfjoilaaGreatShardPartsG0
import Derived.Test.YtlhmbkjdfjoilaaGreatShardPartsG4
import Derived.Test.YtlhmbkjdfjoilaaGreatShardPartsG5
import Derived.Test.YtlhmbkjdfjoilaaGreatShardPartsG8
import Derived.Test.YtlhmbkjdfjoilaaGreatShardPartsG9
import Derived.Test.YtlhmbkjdfjoilaaGreatShardPartsG10
set_option linter.unusedSimpArgs false
set_option linter.unusedVariables false
set_option maxHeartbeats 32000000
set_option maxRecDepth 1000000
namespace Go.Proofs.YtlhmbkjdfjoilaaGreat
open Go.RowKit
def NQ (w:World) (es:List aF) (ks:aH) (e:Ending) (w':World):Prop:=
 ∃(v':Value) (l:lg),e= .returned v'∧OwnAt w w' 103 5 v' l.length (kP l)∧lN l=eu es ks∧qE l
theorem Xx (Q:Nat→Prop):∀(N:Nat) (es:List aF) (ks:aH) (w:World) (ev kv pv:Value) (pl:List ByteArray),cu ks<N→bg Q w ev kv es ks→sizeT es ks≤100000→Rd w pv pl.length (dX pl)→pl.length+N≤200000→
 Calls Tryz.prog 50 #[.agg #[ev,kv],pv] w (NQ w es ks):=by
 intro N
 induction N with
 |zero=>intros;exfalso;omega
 |succ N fO=>
  intro es ks w ev kv pv pl hN ht hsz hp hpl
  obtain⟨i0,hi,hz0,hz1,hz2⟩:=info_parts AB
  obtain⟨j0,hji,hy0,hy1,hy2⟩:=info_parts Jz
  obtain⟨ae,ce,rfl⟩:=ht.ents.rd.sl
  obtain⟨os,hkr,dH⟩:=ht.kids
  obtain⟨ak,ck,rfl⟩:=hkr.rd.sl
  obtain⟨ap,cp,rfl⟩:=hp.sl
  have HP:=ah hp;clear hp
  have HE:=ah ht.ents.rd
  have fH:=ah hkr.rd;clear hkr ht
  have jH:=ah dH;clear dH
  have IH:=ah fO;clear fO
  have bT:=ah (aj.alloc au w (.cells #[.slice ae es.length ce, .slice ak ks.len ck] 28))
  have box0:(w.alloc (.cells #[.slice ae es.length ce, .slice ak ks.len ck] 28)).cell? ⟨w.heap.size,0,none⟩=some (.slice ae es.length ce):=aJ (heap_alloc_new w _) 0 rfl
  have box1:(w.alloc (.cells #[.slice ae es.length ce, .slice ak ks.len ck] 28)).cell? ⟨w.heap.size,1,none⟩=some (.slice ak ks.len ck):=aJ (heap_alloc_new w _) 1 rfl
  have B0:=ah box0;clear box0
  have B1:=ah box1;clear box1
  have lM:=ah (Nat.le_trans (Aw es ks) hsz)
  have oN:es.length≤100000:=by unfold sizeT at hsz;omega
  have wF:ks.len≤100000:=by have:=kG ks;unfold sizeT at hsz;omega
  have jy:=ah hsz;clear hsz
  have kH:=ah hN;clear hN
  have hq5:pl.length≤200000:=by omega
  have kD:=ah hpl;clear hpl
  generalize hes:es.length=n at*
  have HN:=ah hes;clear hes
  generalize hkl:ks.len=m at*
  have HM:=ah hkl;clear hkl
  generalize su:pl.length=q at*
  have HQ:=ah su;clear su
  go_enter Tryz.func50,Tryz.ntmps50
  go_wp2_with fail
  have b0:=B0.out
  go_wp2
  clear b0
  go_loopw [5,12] (fun v i ww=>∃k:Nat,k≤n∧i= .int .i64 k∧OwnAt (w.alloc (.cells #[.slice ae n ce, .slice ak m ck] 28)) ww 103 5 v k (kP (mF (.slice ap q cp) (es.take k)))) (fun _ i _=>n-(intOf i).toNat)
  case atStart=>exact⟨0,Nat.zero_le _,rfl,OwnAt.nil (aj.refl _ _) _ _⟩
  case round=>
   obtain⟨k,hk,rfl,ho⟩:=hrel
   obtain⟨av,cv,rfl⟩:=ho.shape
   have HO:=ah ho;clear ho
   by_cases hlt:k<n
   ·rcases Rd.shape HE.out with⟨ad,he,h0⟩|⟨b,off,cc,he,hmax⟩
    ·exfalso;have:=HN.out;omega
    ·injection he with e1 e2 e3
     subst e1 e3
     clear e2
     have hlk:k<es.length:=by rw[HN.out];exact hlt
     obtain⟨p0,p1,p2,p3⟩:=nD HE.out k hlk
     have f2:=bT.out.aG HO.out.aI
     have q0:=f2.cell' p0 id
     have q1:=f2.cell' p1 id
     have q2:=f2.cell' p2 id
     have q3:=f2.cell' p3 id
     have b0:=HO.out.aI.cell' B0.out id
     clear p0 p1 p2 p3 f2
     have hE:=Qr (p:= .slice ap q cp) hlk
     generalize es.getD k aF.zero=e at*
     have rC:=ah hE;clear hE
     go_wp2_with(at_builtin;refine ku _ _ [.slice ap q cp, .int .i64 e.dc, .int .i64 e.n, .string e.s, .int .i64 e.k] rfl (.tmp 15) (.tmp 23) 50 rfl 103 i0 _ 5 64 Tryz.underlying50 hi hz0 hz1 hz2 (by decide) (by decide) _ _ _ HO.out 1 1 rfl (by simp[Act.eval]) rfl (by simp[Value.oneCell']) (by simp only[maxLen];omega) (by omega) ?_;intro yx jd w2 bn;have OW:=ah bn;clear bn)
     go_roundw
     case rel=>exact⟨k+1,by omega,by go_num,by rw[rC.out];exact OW.out⟩
     case measure=>simp[intOf];omega
   ·obtain rfl:n=k:=by omega
    rw[List.take_of_length_le (by rw[HN.out];exact Nat.le_refl _)]at HO
    have b1:=HO.out.aI.cell' B1.out id
    go_wp2
    clear b1
    go_loopw [5,29] (fun v i ww=>∃(k:Nat) (l:lg),k≤m∧i= .int .i64 k∧OwnAt (w.alloc (.cells #[.slice ae n ce, .slice ak m ck] 28)) ww 103 5 v l.length (kP l)∧eu es ks=lN l++g_ (ks.drop k)∧qE l) (fun _ i _=>m-(intOf i).toNat)
    case atStart=>exact⟨0,mF (.slice ap q cp) es,Nat.zero_le _,rfl,by rw[Qq,HN.out];exact HO.out,by rw[Qp];rfl,qE.mF rfl es⟩
    case round=>
     obtain⟨k,l,hk,rfl,ho,hd,hone⟩:=hrel
     obtain⟨av,cv,rfl⟩:=ho.shape
     have cZ:=ah ho;clear ho
     have HD:=ah hd;clear hd
     have qI:=ah hone;clear hone
     by_cases hlt:k<m
     ·obtain⟨key,es',sub,rest,hdr⟩:=aH.mD (n:=k) (ks:=ks) (by rw[HM.out];exact hlt)
      rcases Rd.shape fH.out with⟨ad,he,h0⟩|⟨b,off,cc,he,hmax⟩
      ·exfalso;have:=HM.out;omega
      ·injection he with e1 e2 e3
       subst e1 e3
       clear e2
       have f2:=bT.out.aG cZ.out.aI
       obtain⟨ev',kv',c0,c1,c2,hta⟩:=k_ (fH.out.aN f2) (jH.out.aN f2) hdr
       obtain⟨dI,dJ,rfl⟩:=hta.ents.rd.sl
       obtain⟨os',fB,jA⟩:=hta.kids
       obtain⟨dK,dL,rfl⟩:=fB.rd.sl
       clear fB jA
       have hpr:=HP.out.aN f2
       have nP:=ah hpr;clear hpr f2
       have b1:=cZ.out.aI.cell' B1.out id
       have oq:=ah (Ju hdr)
       have eF:=ah (qC k hdr)
       have HST:=ah (ru k hdr)
       have je:=ah hta;clear hta
       have HIH:=ah (fun w' (h:aj au wr w') pv (hpv:Rd w' pv (pl++ [key]).length (dX (pl++ [key])))=>IH.out es' sub w' _ _ pv (pl++ [key]) (by have:=eF.out;have:=kH.out;omega) (je.out.aN h) (by have:=HST.out;have:=jy.out;unfold sizeT at*;omega) hpv (by have:=kD.out;have:=HQ.out;simp;omega))
       have hlen:l.length+(eu es' sub).length≤100000:=by
        have h1:=lM.out
        rw[HD.out,oq.out,List.length_append,List.length_append,rD]at h1
        omega
       have HLEN:=ah hlen;clear hlen
       clear hdr
       generalize es'.length=n' at*
       generalize sub.len=m' at*
       go_wp2_with fail
       refine iZ (S:=fun w'=>w'.cell? ⟨w.heap.size,1,none⟩=some (.slice (some ⟨b,off,none⟩) m ck)∧w'.cell? ⟨b,off+k*3,none⟩=some (.string key)) 11 (by kernel_rfl) ⟨b1,c0⟩ ?_
       intro hS
       have eX:aj au wr wr.drew:=aj.drew _ _
       have Xy:=ah eX
       generalize wr.drew=Y at*
       refine aT 1 33 rfl rfl (v:=?_) (.inl ⟨by rfl,?_⟩) ?_
       rotate_left 1
       ·(intro w hSw;(try dsimp only at hSw);go_simp;(try with_reducible rfl))
       refine aT 3 35 rfl rfl (v:=?_) (.inl ⟨by rfl,?_⟩) ?_
       rotate_left 1
       ·(intro w hSw;(try dsimp only at hSw);go_simp;(try with_reducible rfl))
       try simp only[Act.put,aP,aQ,aO]
       refine aT 4 36 rfl rfl (v:=?_) (.inl ⟨by rfl,?_⟩) ?_
       rotate_left 1
       ·(intro w hSw;(try dsimp only at hSw);go_simp;(try with_reducible rfl))
       refine aT 5 37 rfl rfl (v:=?_) (.inl ⟨by rfl,?_⟩) ?_
       rotate_left 1
       ·(intro w hSw;(try dsimp only at hSw);go_simp;(try with_reducible rfl))
       try simp only[Act.put,aP,aQ,aO]
       refine aT 6 38 rfl rfl (v:=?_) (.inl ⟨by rfl,?_⟩) ?_
       rotate_left 1
       ·(intro w hSw;(try dsimp only at hSw);go_simp;(try with_reducible rfl))
       refine aT 7 39 rfl rfl (v:=?_) (.inl ⟨by rfl,?_⟩) ?_
       rotate_left 1
       ·(intro w hSw;(try dsimp only at hSw);go_simp;(try with_reducible rfl))
       try simp only[Act.put,aP,aQ,aO]
       refine aT 8 40 rfl rfl (v:=?_) (.inl ⟨by rfl,?_⟩) ?_
       rotate_left 1
       ·(intro w hSw;(try dsimp only at hSw);go_simp;(try with_reducible rfl))
       try simp only[Act.put,aP,aQ,aO]
       refine sV (i:=0) (j:=9) (by kernel_rfl) rfl rfl (fun K hK=>?_) (fun K hK=>?_)
       ·go_simp
        have hfA:aj au Y (Y.alloc (.cells #[] 9)):=aj.alloc _ _ _
        have hE:OwnAt wr (Y.alloc (.cells #[] 9)) 9 1 (.slice (some ⟨Y.heap.size,0,none⟩) 0 0) 0 []:=OwnAt.empty eX _ _
        have hS:(Y.alloc (.cells #[] 9)).cell? ⟨w.heap.size,1,none⟩=some (.slice (some ⟨b,off,none⟩) m ck)∧(Y.alloc (.cells #[] 9)).cell? ⟨b,off+k*3,none⟩=some (.string key):=⟨hfA.cell' hS.1 id,hfA.cell' hS.2 id⟩
        have eX:=eX.aG hfA
        (try have hne:kb≠Y.heap.size:=by have:=hkb;omega)
        (try have dR:=dR.aN hfA)
        refine hK.out _ _ hS ?_
        clear hK K hfA
        obtain⟨eb,heb⟩:∃eb,Y.heap.size=eb:=⟨_,rfl⟩
        rw[heb]at hE⊢
        have lV:eb<(Y.alloc (.cells #[] 9)).heap.size:=by rw[←heb];simp
        (try rw[heb]at hne)
        clear heb
        generalize Y.alloc (.cells #[] 9)=Y at*
        try simp only[Act.put,aP,aQ,aO]
        refine sV (i:=2) (j:=9) (by kernel_rfl) rfl rfl (fun K hK=>?_) (fun K hK=>?_)
        ·refine oz wr Y (dX pl) rfl (.tmp 32) (.tmp 33) 101 101 rfl 9 9 j0 _ 1 16 Tryz.underlying101 Tryz.underlying101 hji hy0 hy1 hy2 (by decide) (by decide) _ 0 [] hE _ q (by simp[Act.eval]) (by simp[Act.eval]) (nP.out.aN eX) (by rw[wH,HQ.out];omega) (wI _) (by simp only[maxLen];omega) (by omega) ?_
         intro zQ uI Y2 hP kW pY
         rw[Nat.zero_add]at hP
         rw[List.nil_append]at hP
         have hS:Y2.cell? ⟨w.heap.size,1,none⟩=some (.slice (some ⟨b,off,none⟩) m ck)∧Y2.cell? ⟨b,off+k*3,none⟩=some (.string key):=⟨hP.aI.cell' b1 id,hP.aI.cell' c0 id⟩
         have eX:=hP.aI
         (try have dR:=dR.keep kW (fun x hx hr=>by simp[bY,Value.ownBlock]at hx hr;omega))
         rw[Nat.zero_add]
         refine hK.out _ _ hS ?_
         clear hK K kW pY hE lV
         generalize Y2=Y at*
         try simp only[Act.put,aP,aQ,aO]
         refine bK (i:=9) (by kernel_rfl) rfl (fun K hK=>?_)
         go_simp
         have hfA:aj au Y (Y.alloc (.cells #[.string key] 9)):=aj.alloc _ _ _
         have hS:(Y.alloc (.cells #[.string key] 9)).cell? ⟨w.heap.size,1,none⟩=some (.slice (some ⟨b,off,none⟩) m ck)∧(Y.alloc (.cells #[.string key] 9)).cell? ⟨b,off+k*3,none⟩=some (.string key):=⟨hfA.cell' hS.1 id,hfA.cell' hS.2 id⟩
         have eX:=eX.aG hfA
         (try have hne:Y.heap.size≠eb:=by have:=lV;omega)
         (try have hE:=hE.keep hfA)
         (try have hP:=hP.keep hfA)
         have dR:Rd (Y.alloc (.cells #[.string key] 9)) (.slice (some ⟨Y.heap.size,0,none⟩) 1 1) 1 [.string key]:= .inr ⟨Y.heap.size,0,1,rfl,Nat.le_refl _,by decide,fun j u hu=>by rw[Nat.zero_add];exact aJ (heap_alloc_new Y _) j (by simpa using hu)⟩
         refine hK.out _ _ hS ?_
         clear hK K hfA
         obtain⟨kb,gX⟩:∃kb,Y.heap.size=kb:=⟨_,rfl⟩
         rw[gX]at dR⊢
         have hkb:kb<(Y.alloc (.cells #[.string key] 9)).heap.size:=by rw[←gX];simp
         (try rw[gX]at hne)
         clear gX
         generalize Y.alloc (.cells #[.string key] 9)=Y at*
         try simp only[Act.put,aP,aQ,aO]
         refine bK (i:=10) (by kernel_rfl) rfl (fun K hK=>?_)
         refine oz wr Y [.string key] rfl (.tmp 34) (.tmp 41) 101 101 rfl 9 9 j0 _ 1 16 Tryz.underlying101 Tryz.underlying101 hji hy0 hy1 hy2 (by decide) (by decide) _ q (dX pl) hP _ 1 (by simp[Act.eval]) (by simp[Act.eval]) dR rfl (by simp[Value.oneCell']) (by simp only[maxLen];omega) (by omega) ?_
         intro zS zT Y3 gY qg qh
         have hS:Y3.cell? ⟨w.heap.size,1,none⟩=some (.slice (some ⟨b,off,none⟩) m ck)∧Y3.cell? ⟨b,off+k*3,none⟩=some (.string key):=⟨gY.aI.cell' b1 id,gY.aI.cell' c0 id⟩
         refine hK.out _ _ hS ?_
         clear hK K qg qh hP
         have dG:=ah gY;clear gY
         try simp only[Act.put,aP,aQ,aO]
         refine gQ (by kernel_rfl) (by kernel_rfl) rfl (fun K hK=>?_)
         go_simp
         refine hK.out _ _ ?_
         clear hK K dR hS
         have c1:=dG.out.aI.cell' c1 id
         have c2:=dG.out.aI.cell' c2 id
         have b1:=dG.out.aI.cell' b1 id
         go_wp2_with(first
          |(go_at_call 50;refine(HIH.out _ dG.out.aI _ (by have:=dG.out.rd;rw[wG,List.length_append,HQ.out];exact this)).mono ?_;rintro e w3 ⟨v3,l3,rfl,ho3,hd3,qj⟩;obtain⟨a3,c3,rfl⟩:=ho3.shape;have bJ:=ah ho3;clear ho3;have HD3:=ah hd3;clear hd3;have t_:=ah qj;clear qj;have HKK:=ah (cZ.out.keep (dG.out.aI.aG bJ.out.aI)))
          |(at_builtin;refine ni _ _ _ rfl (.tmp 43) (.tmp 51) 50 50 rfl 103 103 i0 _ 5 64 Tryz.underlying50 Tryz.underlying50 hi hz0 hz1 hz2 (by decide) (by decide) _ _ _ HKK.out _ l3.length rfl rfl bJ.out.rd (by rw[AA]) (Ec t_.out) (by have:=HLEN.out;rw[←HD3.out,rD]at this;simp only[maxLen];omega) (by have:=HLEN.out;rw[←HD3.out,rD]at this;omega) ?_;intro xO vF w5 bU;have OW:=ah bU;clear bU))
         go_roundw
         case rel=>exact⟨k+1,l++l3,by omega,by go_num,by rw[List.length_append,Az];exact OW.out,by rw[HD.out,oq.out,Ed,HD3.out,List.append_assoc],qI.out.append t_.out⟩
         case measure=>simp[intOf];omega
        ·go_simp
         have hfA:aj au Y (Y.alloc (.cells #[.string key] 9)):=aj.alloc _ _ _
         have hS:(Y.alloc (.cells #[.string key] 9)).cell? ⟨w.heap.size,1,none⟩=some (.slice (some ⟨b,off,none⟩) m ck)∧(Y.alloc (.cells #[.string key] 9)).cell? ⟨b,off+k*3,none⟩=some (.string key):=⟨hfA.cell' hS.1 id,hfA.cell' hS.2 id⟩
         have eX:=eX.aG hfA
         (try have hne:Y.heap.size≠eb:=by have:=lV;omega)
         (try have hE:=hE.keep hfA)
         (try have hP:=hP.keep hfA)
         have dR:Rd (Y.alloc (.cells #[.string key] 9)) (.slice (some ⟨Y.heap.size,0,none⟩) 1 1) 1 [.string key]:= .inr ⟨Y.heap.size,0,1,rfl,Nat.le_refl _,by decide,fun j u hu=>by rw[Nat.zero_add];exact aJ (heap_alloc_new Y _) j (by simpa using hu)⟩
         refine hK.out _ _ hS ?_
         clear hK K hfA
         obtain⟨kb,gX⟩:∃kb,Y.heap.size=kb:=⟨_,rfl⟩
         rw[gX]at dR⊢
         have hkb:kb<(Y.alloc (.cells #[.string key] 9)).heap.size:=by rw[←gX];simp
         (try rw[gX]at hne)
         clear gX
         generalize Y.alloc (.cells #[.string key] 9)=Y at*
         try simp only[Act.put,aP,aQ,aO]
         refine bK (i:=2) (by kernel_rfl) rfl (fun K hK=>?_)
         refine oz wr Y (dX pl) rfl (.tmp 32) (.tmp 33) 101 101 rfl 9 9 j0 _ 1 16 Tryz.underlying101 Tryz.underlying101 hji hy0 hy1 hy2 (by decide) (by decide) _ 0 [] hE _ q (by simp[Act.eval]) (by simp[Act.eval]) (nP.out.aN eX) (by rw[wH,HQ.out];omega) (wI _) (by simp only[maxLen];omega) (by omega) ?_
         intro zQ uI Y2 hP kW pY
         rw[Nat.zero_add]at hP
         rw[List.nil_append]at hP
         have hS:Y2.cell? ⟨w.heap.size,1,none⟩=some (.slice (some ⟨b,off,none⟩) m ck)∧Y2.cell? ⟨b,off+k*3,none⟩=some (.string key):=⟨hP.aI.cell' b1 id,hP.aI.cell' c0 id⟩
         have eX:=hP.aI
         (try have dR:=dR.keep kW (fun x hx hr=>by simp[bY,Value.ownBlock]at hx hr;omega))
         rw[Nat.zero_add]
         refine hK.out _ _ hS ?_
         clear hK K kW pY hE lV
         generalize Y2=Y at*
         try simp only[Act.put,aP,aQ,aO]
         refine bK (i:=10) (by kernel_rfl) rfl (fun K hK=>?_)
         refine oz wr Y [.string key] rfl (.tmp 34) (.tmp 41) 101 101 rfl 9 9 j0 _ 1 16 Tryz.underlying101 Tryz.underlying101 hji hy0 hy1 hy2 (by decide) (by decide) _ q (dX pl) hP _ 1 (by simp[Act.eval]) (by simp[Act.eval]) dR rfl (by simp[Value.oneCell']) (by simp only[maxLen];omega) (by omega) ?_
         intro zS zT Y3 gY qg qh
         have hS:Y3.cell? ⟨w.heap.size,1,none⟩=some (.slice (some ⟨b,off,none⟩) m ck)∧Y3.cell? ⟨b,off+k*3,none⟩=some (.string key):=⟨gY.aI.cell' b1 id,gY.aI.cell' c0 id⟩
         refine hK.out _ _ hS ?_
         clear hK K qg qh hP
         have dG:=ah gY;clear gY
         try simp only[Act.put,aP,aQ,aO]
         refine gQ (by kernel_rfl) (by kernel_rfl) rfl (fun K hK=>?_)
         go_simp
         refine hK.out _ _ ?_
         clear hK K dR hS
         have c1:=dG.out.aI.cell' c1 id
         have c2:=dG.out.aI.cell' c2 id
         have b1:=dG.out.aI.cell' b1 id
         go_wp2_with(first
          |(go_at_call 50;refine(HIH.out _ dG.out.aI _ (by have:=dG.out.rd;rw[wG,List.length_append,HQ.out];exact this)).mono ?_;rintro e w3 ⟨v3,l3,rfl,ho3,hd3,qj⟩;obtain⟨a3,c3,rfl⟩:=ho3.shape;have bJ:=ah ho3;clear ho3;have HD3:=ah hd3;clear hd3;have t_:=ah qj;clear qj;have HKK:=ah (cZ.out.keep (dG.out.aI.aG bJ.out.aI)))
          |(at_builtin;refine ni _ _ _ rfl (.tmp 43) (.tmp 51) 50 50 rfl 103 103 i0 _ 5 64 Tryz.underlying50 Tryz.underlying50 hi hz0 hz1 hz2 (by decide) (by decide) _ _ _ HKK.out _ l3.length rfl rfl bJ.out.rd (by rw[AA]) (Ec t_.out) (by have:=HLEN.out;rw[←HD3.out,rD]at this;simp only[maxLen];omega) (by have:=HLEN.out;rw[←HD3.out,rD]at this;omega) ?_;intro xO vF w5 bU;have OW:=ah bU;clear bU))
         go_roundw
         case rel=>exact⟨k+1,l++l3,by omega,by go_num,by rw[List.length_append,Az];exact OW.out,by rw[HD.out,oq.out,Ed,HD3.out,List.append_assoc],qI.out.append t_.out⟩
         case measure=>simp[intOf];omega
       ·go_simp
        have hfA:aj au Y (Y.alloc (.cells #[.string key] 9)):=aj.alloc _ _ _
        have hS:(Y.alloc (.cells #[.string key] 9)).cell? ⟨w.heap.size,1,none⟩=some (.slice (some ⟨b,off,none⟩) m ck)∧(Y.alloc (.cells #[.string key] 9)).cell? ⟨b,off+k*3,none⟩=some (.string key):=⟨hfA.cell' hS.1 id,hfA.cell' hS.2 id⟩
        have eX:=eX.aG hfA
        (try have hne:Y.heap.size≠eb:=by have:=lV;omega)
        (try have hE:=hE.keep hfA)
        (try have hP:=hP.keep hfA)
        have dR:Rd (Y.alloc (.cells #[.string key] 9)) (.slice (some ⟨Y.heap.size,0,none⟩) 1 1) 1 [.string key]:= .inr ⟨Y.heap.size,0,1,rfl,Nat.le_refl _,by decide,fun j u hu=>by rw[Nat.zero_add];exact aJ (heap_alloc_new Y _) j (by simpa using hu)⟩
        refine hK.out _ _ hS ?_
        clear hK K hfA
        obtain⟨kb,gX⟩:∃kb,Y.heap.size=kb:=⟨_,rfl⟩
        rw[gX]at dR⊢
        have hkb:kb<(Y.alloc (.cells #[.string key] 9)).heap.size:=by rw[←gX];simp
        (try rw[gX]at hne)
        clear gX
        generalize Y.alloc (.cells #[.string key] 9)=Y at*
        try simp only[Act.put,aP,aQ,aO]
        refine bK (i:=0) (by kernel_rfl) rfl (fun K hK=>?_)
        go_simp
        have hfA:aj au Y (Y.alloc (.cells #[] 9)):=aj.alloc _ _ _
        have hE:OwnAt wr (Y.alloc (.cells #[] 9)) 9 1 (.slice (some ⟨Y.heap.size,0,none⟩) 0 0) 0 []:=OwnAt.empty eX _ _
        have hS:(Y.alloc (.cells #[] 9)).cell? ⟨w.heap.size,1,none⟩=some (.slice (some ⟨b,off,none⟩) m ck)∧(Y.alloc (.cells #[] 9)).cell? ⟨b,off+k*3,none⟩=some (.string key):=⟨hfA.cell' hS.1 id,hfA.cell' hS.2 id⟩
        have eX:=eX.aG hfA
        (try have hne:kb≠Y.heap.size:=by have:=hkb;omega)
        (try have dR:=dR.aN hfA)
        refine hK.out _ _ hS ?_
        clear hK K hfA
        obtain⟨eb,heb⟩:∃eb,Y.heap.size=eb:=⟨_,rfl⟩
        rw[heb]at hE⊢
        have lV:eb<(Y.alloc (.cells #[] 9)).heap.size:=by rw[←heb];simp
        (try rw[heb]at hne)
        clear heb
        generalize Y.alloc (.cells #[] 9)=Y at*
        try simp only[Act.put,aP,aQ,aO]
        refine bK (i:=2) (by kernel_rfl) rfl (fun K hK=>?_)
        refine oz wr Y (dX pl) rfl (.tmp 32) (.tmp 33) 101 101 rfl 9 9 j0 _ 1 16 Tryz.underlying101 Tryz.underlying101 hji hy0 hy1 hy2 (by decide) (by decide) _ 0 [] hE _ q (by simp[Act.eval]) (by simp[Act.eval]) (nP.out.aN eX) (by rw[wH,HQ.out];omega) (wI _) (by simp only[maxLen];omega) (by omega) ?_
        intro zQ uI Y2 hP kW pY
        rw[Nat.zero_add]at hP
        rw[List.nil_append]at hP
        have hS:Y2.cell? ⟨w.heap.size,1,none⟩=some (.slice (some ⟨b,off,none⟩) m ck)∧Y2.cell? ⟨b,off+k*3,none⟩=some (.string key):=⟨hP.aI.cell' b1 id,hP.aI.cell' c0 id⟩
        have eX:=hP.aI
        (try have dR:=dR.keep kW (fun x hx hr=>by simp[bY,Value.ownBlock]at hx hr;omega))
        rw[Nat.zero_add]
        refine hK.out _ _ hS ?_
        clear hK K kW pY hE lV
        generalize Y2=Y at*
        try simp only[Act.put,aP,aQ,aO]
        refine bK (i:=10) (by kernel_rfl) rfl (fun K hK=>?_)
        refine oz wr Y [.string key] rfl (.tmp 34) (.tmp 41) 101 101 rfl 9 9 j0 _ 1 16 Tryz.underlying101 Tryz.underlying101 hji hy0 hy1 hy2 (by decide) (by decide) _ q (dX pl) hP _ 1 (by simp[Act.eval]) (by simp[Act.eval]) dR rfl (by simp[Value.oneCell']) (by simp only[maxLen];omega) (by omega) ?_
        intro zS zT Y3 gY qg qh
        have hS:Y3.cell? ⟨w.heap.size,1,none⟩=some (.slice (some ⟨b,off,none⟩) m ck)∧Y3.cell? ⟨b,off+k*3,none⟩=some (.string key):=⟨gY.aI.cell' b1 id,gY.aI.cell' c0 id⟩
        refine hK.out _ _ hS ?_
        clear hK K qg qh hP
        have dG:=ah gY;clear gY
        try simp only[Act.put,aP,aQ,aO]
        refine gQ (by kernel_rfl) (by kernel_rfl) rfl (fun K hK=>?_)
        go_simp
        refine hK.out _ _ ?_
        clear hK K dR hS
        have c1:=dG.out.aI.cell' c1 id
        have c2:=dG.out.aI.cell' c2 id
        have b1:=dG.out.aI.cell' b1 id
        go_wp2_with(first
         |(go_at_call 50;refine(HIH.out _ dG.out.aI _ (by have:=dG.out.rd;rw[wG,List.length_append,HQ.out];exact this)).mono ?_;rintro e w3 ⟨v3,l3,rfl,ho3,hd3,qj⟩;obtain⟨a3,c3,rfl⟩:=ho3.shape;have bJ:=ah ho3;clear ho3;have HD3:=ah hd3;clear hd3;have t_:=ah qj;clear qj;have HKK:=ah (cZ.out.keep (dG.out.aI.aG bJ.out.aI)))
         |(at_builtin;refine ni _ _ _ rfl (.tmp 43) (.tmp 51) 50 50 rfl 103 103 i0 _ 5 64 Tryz.underlying50 Tryz.underlying50 hi hz0 hz1 hz2 (by decide) (by decide) _ _ _ HKK.out _ l3.length rfl rfl bJ.out.rd (by rw[AA]) (Ec t_.out) (by have:=HLEN.out;rw[←HD3.out,rD]at this;simp only[maxLen];omega) (by have:=HLEN.out;rw[←HD3.out,rD]at this;omega) ?_;intro xO vF w5 bU;have OW:=ah bU;clear bU))
        go_roundw
        case rel=>exact⟨k+1,l++l3,by omega,by go_num,by rw[List.length_append,Az];exact OW.out,by rw[HD.out,oq.out,Ed,HD3.out,List.append_assoc],qI.out.append t_.out⟩
        case measure=>simp[intOf];omega
     ·obtain rfl:m=k:=by omega
      have hd:=HD.out
      rw[aH.nZ (by rw[HM.out];exact Nat.le_refl _)]at hd
      have hd2:lN l=eu es ks:=by rw[hd];simp[g_]
      have HD2:=ah hd2;clear hd2 hd
      go_wp2
      go_ret
      exact⟨_,l,rfl,cZ.out.base bT.out,HD2.out,qI.out⟩
open Go.RowKit
theorem Xz (Q:Nat→Prop) (es:List aF) (ks:aH) (w:World) (ev kv:Value) (ht:bg Q w ev kv es ks) (hsz:sizeT es ks≤100000):
 Calls Tryz.prog 24 #[.agg #[ev,kv]] w (NQ w es ks):=by
 obtain⟨ae,ce,rfl⟩:=ht.ents.rd.sl
 obtain⟨os,hkr,dH⟩:=ht.kids
 obtain⟨ak,ck,rfl⟩:=hkr.rd.sl
 have HC:=ah (fun W (f:aj au w W)=>Xx Q _ es ks W _ _ (.slice none 0 0) [] (Nat.lt_succ_self _) (ht.aN f) hsz (.inl ⟨none,rfl,rfl,rfl⟩) (by unfold sizeT at hsz;simp;omega))
 clear hkr dH ht hsz
 go_enter Tryz.func24,Tryz.ntmps24
 go_wp2_with(go_at_call 50;refine(HC.out _ (aj.alloc _ _ _)).mono ?_;rintro e w3 ⟨v3,l,rfl,ho3,hd3,qj⟩;obtain⟨a3,c3,rfl⟩:=ho3.shape;have bJ:=ah (ho3.base (aj.alloc au w _));clear ho3;have HD3:=ah hd3;clear hd3;have BX:=ah qj;clear qj)
 go_ret
 exact⟨_,l,rfl,bJ.out,HD3.out,BX.out⟩
theorem XA (Q:Nat→Prop) (es:List aF) (ks:aH) (w:World) (ev kv:Value) (ht:bg Q w ev kv es ks) (hsz:sizeT es ks≤2000) (hd:qX (eu es ks)):
 Calls Tryz.prog 66 #[.agg #[ev,kv]] w fun e w'=>∃v' c,e= .returned v'∧OwnAt w w' 92 3 v' c.length (cO c)∧ng (eu es ks) c∧c.length≤8000:=by
 obtain⟨i0,hi,hz0,hz1,hz2⟩:=info_parts Jt
 obtain⟨ae,ce,rfl⟩:=ht.ents.rd.sl
 obtain⟨os,hkr,dH⟩:=ht.kids
 obtain⟨ak,ck,rfl⟩:=hkr.rd.sl
 have HC:=ah (fun W (f:aj au w W)=>Xz Q es ks W _ _ (ht.aN f) (by omega))
 have hdl:=Aw es ks
 have lM:=ah (show(eu es ks).length≤2000 by omega)
 have HDK:=ah hd;clear hd
 have jU:=ah (aj.alloc au w (.cells #[.slice ae es.length ce, .slice ak ks.len ck] 28))
 clear hkr dH ht hsz hdl
 go_enter Tryz.func66,Tryz.ntmps66
 go_wp2_with(go_at_call 24;refine(HC.out _ jU.out).mono ?_;rintro e w3 ⟨v3,l,rfl,ho3,hd3,-⟩;obtain⟨a3,c3,rfl⟩:=ho3.shape;have bJ:=ah (ho3.base jU.out);clear ho3;have HD3:=ah hd3;clear hd3)
 have hl:=lM.out
 rw[←HD3.out,rD]at hl
 generalize hn:l.length=n at*
 have HN:=ah hn;clear hn
 go_loopw [3,10] (fun v i ww=>∃k:Nat,k≤n∧i= .int .i64 k∧OwnAt w3 ww 98 2 v k (b_ (lN (l.take k)))) (fun _ i _=>n-(intOf i).toNat)
 case atStart=>exact⟨0,Nat.zero_le _,rfl,OwnAt.nil (aj.refl _ _) _ _⟩
 case round=>
  obtain⟨k,hk,rfl,ho⟩:=hrel
  obtain⟨av,cv,rfl⟩:=ho.shape
  have HO:=ah ho;clear ho
  by_cases hlt:k<n
  ·rcases Rd.shape bJ.out.rd with⟨ad,he,h0⟩|⟨b,off,cc,he,hmax⟩
   ·exfalso;omega
   ·injection he with e1 e2 e3
    subst e1 e3
    clear e2
    have hlk:k<l.length:=by rw[HN.out];exact hlt
    obtain⟨p0,p1⟩:=Qn bJ.out.rd k hlk
    have q0:=HO.out.aI.cell' p0 id
    have q1:=HO.out.aI.cell' p1 id
    clear p0 p1
    have hE:=Qo hlk
    generalize l.getD k (.bool true,aF.zero)=x at*
    have rC:=ah hE;clear hE
    go_wp2_with(at_builtin;refine ku _ _ [.int .i64 x.2.dc, .int .i64 x.2.n] rfl (.tmp 13) (.tmp 20) 138 rfl 98 i0 _ 2 16 Tryz.underlying138 hi hz0 hz1 hz2 (by decide) (by decide) _ _ _ HO.out 1 1 rfl (by simp[Act.eval]) rfl (by simp[Value.oneCell']) (by simp only[maxLen];omega) (by omega) ?_;intro yx jd w2 bn;have OW:=ah bn;clear bn)
    go_roundw
    case rel=>exact⟨k+1,by omega,by go_num,by rw[rC.out,lK];exact OW.out⟩
    case measure=>simp[intOf];omega
  ·obtain rfl:n=k:=by omega
   rw[List.take_of_length_le (by rw[HN.out];exact Nat.le_refl _),HD3.out]at HO
   have hnn:n=(eu es ks).length:=by rw[←HD3.out,rD];exact HN.out.symm
   have hrun:iF wr (.slice av n cv) (eu es ks):=by show Rd wr _ (eu es ks).length _;rw[←hnn];exact HO.out.rd
   have XB:=ah hrun;clear hrun hnn
   go_wp2_with(go_at_call 88;refine(PZ _ _ (eu es ks) XB.out HDK.out (by have:=lM.out;omega)).mono ?_;rintro e w5 ⟨v5,c5,rfl,iG,hof,-⟩;obtain⟨a5,vF,rfl⟩:=iG.shape;have iT:=ah iG;clear iG;have nC:=ah hof;clear hof)
   go_ret
   exact⟨_,c5,rfl,(iT.out.base HO.out.aI).base bJ.out.aI,nC.out,by have:=nC.out.length;have:=lM.out;omega⟩
end Go.Proofs.YtlhmbkjdfjoilaaGreat
namespace Go.Proofs.YtlhmbkjdfjoilaaGreat
def lH:aH→Int→Nat→Int
 | .nil,left,_=>left
 | .cons _ es sub rest,left,d=>if left<0∨d=0 then-1 else lH rest (lH sub (left-es.length-sub.len) (d-1)) d
def lW (es:List aF) (ks:aH) (left:Int) (d:Nat):Int:=lH ks (left-es.length-ks.len) d
theorem CO (key:ByteArray) (es:List aF) (sub rest:aH) (left:Int) (d:Nat):lH (.cons key es sub rest) left d=if left<0∨d=0 then-1 else lH rest (lW es sub left (d-1)) d:=rfl
theorem XC:∀ {ks:aH} {left:Int} {d:Nat},0≤lH ks left d→0≤left
 | .nil,_,_,h=>h
 | .cons _ es sub rest,left,d,h=>by
   rw[CO]at h
   split at h
   ·omega
   ·omega
theorem He:∀ {ks:aH} {left:Int} {d:Nat},0≤lH ks left d→lH ks left d+cu ks=left+ks.len
 | .nil,_,_,_=>by simp[lH,cu,aH.len]
 | .cons _ es sub rest,left,d,h=>by
   rw[CO]at h⊢
   split at h
   ·omega
   ·rename_i hc
    rw[if_neg hc]
    have h1:=XC h
    have h2:=He h
    have h3:=He (ks:=sub) h1
    unfold lW at h2 h3⊢
    simp only[cu,aH.len]
    omega
theorem XD {es:List aF} {ks:aH} {left:Int} {d:Nat} (h:0≤lW es ks left d):(sizeT es ks:Int)≤left:=by
 have:=He h
 unfold lW at h
 unfold sizeT
 omega
theorem Hf:∀ {ks:aH} {left:Int} {d:Nat},ks.Ok→left≤1000→-300000000000000≤left→lH ks left d≤1000∧-300000000000000≤lH ks left d
 | .nil,_,_,_,h1,h2=>⟨h1,h2⟩
 | .cons _ es sub rest,left,d,hk,h1,h2=>by
   rw[CO]
   split
   ·omega
   ·obtain⟨_,he,hs,hok,hr⟩:=hk
    have:=he.len
    have h3:=Hf (ks:=sub) (left:=left-es.length-sub.len) (d:=d-1) hok (by omega) (by omega)
    exact Hf hr h3.1 h3.2
theorem XE {ks:aH} {n:Nat} {key:ByteArray} {es:List aF} {sub rest:aH} (h:ks.drop n= .cons key es sub rest) (left:Int) (d:Nat):
 lH (ks.drop n) left d=if left<0∨d=0 then-1 else lH (ks.drop (n+1)) (lW es sub left (d-1)) d:=by
 rw[h,aH.qY n ks h,CO]
open Go.RowKit
theorem XF (Q:Nat→Prop):∀(N:Nat) (es:List aF) (ks:aH) (left:Int) (d:Nat) (w:World) (ev kv:Value),cu ks<N→bg Q w ev kv es ks→iQ es ks→left≤1000→0≤left→d≤100→
 Calls Tryz.prog 79 #[.agg #[ev,kv], .int .i64 left, .int .i64 d] w fun e w'=>e= .returned (.int .i64 (lW es ks left d))∧aj au w w':=by
 intro N
 induction N with
 |zero=>intros;exfalso;omega
 |succ N fO=>
  intro es ks left d w ev kv hN ht hok hl1 hl2 hd
  obtain⟨ae,ce,rfl⟩:=ht.ents.rd.sl
  obtain⟨os,hkr,dH⟩:=ht.kids
  obtain⟨ak,ck,rfl⟩:=hkr.rd.sl
  have fH:=ah hkr.rd;clear hkr ht
  have jH:=ah dH;clear dH
  have IH:=ah fO;clear fO
  have bT:=ah (aj.alloc au w (.cells #[.slice ae es.length ce, .slice ak ks.len ck] 28))
  have box1:(w.alloc (.cells #[.slice ae es.length ce, .slice ak ks.len ck] 28)).cell? ⟨w.heap.size,1,none⟩=some (.slice ak ks.len ck):=aJ (heap_alloc_new w _) 1 rfl
  have B1:=ah box1;clear box1
  have hel:=hok.es.len
  have Zx:=hok.len
  have cZ:=ah hok.ks;clear hok
  have jy:=ah hN;clear hN
  have hrt:lW es ks left d=lH ks (left-es.length-ks.len) d:=rfl
  rw[hrt]
  clear hrt
  generalize es.length=n at*
  generalize hkl:ks.len=m at*
  have HM:=ah hkl;clear hkl
  obtain⟨l0,hl0⟩:∃l0:Int,l0=left-n-m:=⟨_,rfl⟩
  have hb0:l0≤1000∧-300000000000000≤l0:=by omega
  rw[←hl0]
  go_enter Tryz.func79,Tryz.ntmps79
  go_wp2
  go_loopw [1,20] (fun lv i ww=>∃(k:Nat) (x:Int),k≤m∧i= .int .i64 k∧lv= .int .i64 x∧x≤1000∧-300000000000000≤x∧lH ks l0 d=lH (ks.drop k) x d∧aj au (w.alloc (.cells #[.slice ae n ce, .slice ak m ck] 28)) ww) (fun _ i _=>m-(intOf i).toNat)
  case atStart=>exact⟨0,l0,Nat.zero_le _,rfl,by rw[hl0],hb0.1,hb0.2,rfl,aj.refl _ _⟩
  case round=>
   clear hl0
   obtain⟨k,x,hk,rfl,rfl,hx1,hx2,hr,hw⟩:=hrel
   have HW:=ah hw;clear hw
   have b1:=HW.out.cell' B1.out id
   by_cases hlt:k<m
   ·obtain⟨key,es',sub,rest,hdr⟩:=aH.mD (n:=k) (ks:=ks) (by rw[HM.out];exact hlt)
    rw[XE hdr]at hr
    by_cases hx0:x<0
    ·rw[if_pos (.inl hx0)]at hr
     have HR:=ah hr;clear hr
     clear hdr
     go_wp2
     go_ret
     exact⟨vJ HR.out.symm,bT.out.aG HW.out⟩
    ·by_cases hd0:d=0
     ·subst hd0
      rw[if_pos (.inr rfl)]at hr
      have HR:=ah hr;clear hr
      clear hdr
      go_wp2
      go_ret
      exact⟨vJ HR.out.symm,bT.out.aG HW.out⟩
     ·rw[if_neg (by omega)]at hr
      rcases Rd.shape (fH.out.aN (bT.out.aG HW.out))with⟨ad,he,h0⟩|⟨b,off,cc,he,hmax⟩
      ·exfalso;have:=HM.out;omega
      ·injection he with e1 e2 e3
       subst e1 e3
       clear e2
       obtain⟨ev',kv',c0,c1,c2,hta⟩:=k_ (fH.out.aN (bT.out.aG HW.out)) (jH.out.aN (bT.out.aG HW.out)) hdr
       obtain⟨dI,dJ,rfl⟩:=hta.ents.rd.sl
       obtain⟨os',fB,jA⟩:=hta.kids
       obtain⟨dK,dL,rfl⟩:=fB.rd.sl
       clear fB jA
       have hok':=cZ.out.drop k
       rw[hdr]at hok'
       have hsub:iQ es' sub:=⟨hok'.2.1,hok'.2.2.1,hok'.2.2.2.1⟩
       have hbd:=Hf (ks:=sub) (left:=x-es'.length-sub.len) (d:=d-1) hsub.ks (by omega) (by have:=hsub.es.len;have:=hsub.len;omega)
       obtain⟨y,hy⟩:∃y,y=lW es' sub x (d-1):=⟨_,rfl⟩
       have jo:=ah (show y≤1000∧-300000000000000≤y by rw[hy];exact hbd);clear hbd
       have hih:=IH.out es' sub x (d-1) wr _ _ (by have:=qC k hdr;have:=jy.out;omega) hta hsub hx1 (by omega) (by omega)
       rw[show((d-1:Nat):Int)=(d:Int)-1 by omega]at hih
       rw[←hy]at hih hr
       have HIH:=ah hih;clear hih hta hok' hsub hdr hy
       have HR:=ah hr;clear hr
       generalize es'.length=n' at*
       generalize sub.len=m' at*
       have hd1:(d:Int)≤100:=by omega
       have hd2:(1:Int)≤d:=by omega
       have hdz:((d:Int)==0)=false:=by simp;omega
       go_wp2_with(go_at_call 79;refine HIH.out.mono ?_;rintro e w3 ⟨rfl,hw3⟩;have HW3:=ah hw3;clear hw3)
       go_roundw
       case rel=>exact⟨k+1,y,by omega,by go_num,rfl,jo.out.1,jo.out.2,HR.out,HW.out.aG HW3.out⟩
       case measure=>simp[intOf];omega
   ·obtain rfl:m=k:=by omega
    rw[aH.nZ (by rw[HM.out];exact Nat.le_refl _)]at hr
    have HR:=ah hr;clear hr
    go_wp2
    go_ret
    exact⟨vJ HR.out.symm,bT.out.aG HW.out⟩
theorem XG (Q:Nat→Prop) (es:List aF) (ks:aH) (left:Int) (w:World) (ev kv:Value) (ht:bg Q w ev kv es ks) (hok:iQ es ks) (h1:left≤1000) (h2:0≤left):
 Calls Tryz.prog 55 #[.agg #[ev,kv], .int .i64 left] w fun e w'=>e= .returned (.bool (decide (0≤lW es ks left 8)))∧aj au w w':=by
 obtain⟨ae,ce,rfl⟩:=ht.ents.rd.sl
 obtain⟨os,hkr,dH⟩:=ht.kids
 obtain⟨ak,ck,rfl⟩:=hkr.rd.sl
 have hc:∀W,aj au w W→Calls Tryz.prog 79 #[.agg #[.slice ae es.length ce, .slice ak ks.len ck], .int .i64 left, .int .i64 8] W fun e w'=>e= .returned (.int .i64 (lW es ks left 8))∧aj au W w':=fun W f=>XF Q _ es ks left 8 W _ _ (Nat.lt_succ_self _) (ht.aN f) hok h1 h2 (by omega)
 have HC:=ah hc
 clear hkr dH ht hok hc
 generalize lW es ks left 8=y at*
 generalize es.length=n at*
 generalize ks.len=m at*
 go_enter Tryz.func55,Tryz.ntmps55
 go_wp2_with(go_at_call 79;refine(HC.out _ (aj.alloc _ _ _)).mono ?_;rintro e w3 ⟨rfl,hw3⟩;have HW3:=ah ((aj.alloc au _ _).aG hw3);clear hw3)
 go_ret
 exact⟨rfl,HW3.out⟩
theorem XH (Q:Nat→Prop) (es:List aF) (ks:aH) (w:World) (ev kv:Value) (ht:bg Q w ev kv es ks) (hok:iQ es ks):
 Calls Tryz.prog 63 #[.agg #[ev,kv]] w fun e w'=>e= .returned (.bool (aX 5 es ks))∧aj au w w':=by
 obtain⟨ae,ce,rfl⟩:=ht.ents.rd.sl
 obtain⟨os,hkr,dH⟩:=ht.kids
 obtain⟨ak,ck,rfl⟩:=hkr.rd.sl
 have hc:∀W,aj au w W→Calls Tryz.prog 84 #[.agg #[.slice ae es.length ce, .slice ak ks.len ck], .int .i64 5] W fun e w'=>e= .returned (.bool (aX 5 es ks))∧aj au W w':=fun W f=>Qd Q _ es ks 5 W _ _ (Nat.lt_succ_self _) (ht.aN f) hok (by omega)
 have HC:=ah hc
 clear hkr dH ht hok hc
 generalize aX 5 es ks=y at*
 generalize es.length=n at*
 generalize ks.len=m at*
 go_enter Tryz.func63,Tryz.ntmps63
 go_wp2_with(go_at_call 84;refine(HC.out _ (aj.alloc _ _ _)).mono ?_;rintro e w3 ⟨rfl,hw3⟩;have HW3:=ah ((aj.alloc au _ _).aG hw3);clear hw3)
 go_ret
 exact⟨rfl,HW3.out⟩
end Go.Proofs.YtlhmbkjdfjoilaaGreat
