/- Words for the law ShardPlays: Ps14, Ps3, Pj6. -/
import Derived.Test.YtlhmbkjdfjoilaaGreatShardPlaysG0
import Derived.Test.YtlhmbkjdfjoilaaGreatShardPlaysG21
import Derived.Test.YtlhmbkjdfjoilaaGreatShardPlaysG24
import Derived.Test.YtlhmbkjdfjoilaaGreatShardPlaysG25
import Derived.Test.YtlhmbkjdfjoilaaGreatShardPlaysG26
import Derived.Test.YtlhmbkjdfjoilaaGreatShardPlaysG27
set_option linter.unusedSimpArgs false
set_option linter.unusedVariables false
set_option maxHeartbeats 32000000
set_option maxRecDepth 1000000
namespace Go.Proofs.YtlhmbkjdfjoilaaGreat
open Go.RowKit
section
variable {L Q:Nat→Prop} {w:World} {b n vb:Nat} {jo vv sv:Value} {vs vs':List aU} {rs:List bC} {rs':List bn}
theorem LZ (Q Q':Nat→Prop) (t:bY) (w:World) (ev kv cv ev' kv' jI:Value) (hg:Good t) (h:dU Q w ev kv cv [] t.1 t.2) (h':dU Q' w ev' kv' jI [] t.1 t.2):
 Calls Tryz.prog 19 #[.agg #[ev,kv,cv], .agg #[ev',kv',jI]] w fun e w'=>e= .returned (.bool true)∧aj aF w w':=by
 have:=Iq Q Q' [] t.1 t.2 [] t.1 t.2 w ev kv cv ev' kv' jI h hg.ok h' hg.ok
 rwa [gu ⟨⟨rfl,rfl⟩,rfl⟩]at this
theorem ag1 (hs:dW L w b n vb jo vs rs) (hr:jf Q w n vv sv vs' rs') (hv:vs.map aU.g=vs'.map aU.g) (IC:mG n (vs.map aU.g)) (hsz:((vs.map aU.g).map dQ).sum≤2000):
 Calls Tryz.prog 29 #[.pointer (some ⟨b,0,none⟩), .agg #[vv,sv]] w fun e w'=>e= .returned (.bool true)∧aj aF w w':=by
 obtain⟨a0,c0,a1,c1,rfl,rfl⟩:=hr.shape
 have hn1:=hs.n1
 have hn4:=hs.n4
 have HS:=ah (fun W (f:aj aF w W)=>hs.aS f)
 have HR:=ah (fun W (f:aj aF w W)=>hr.aS f)
 have RQ:=ah hv
 have wU:=ah hs.vis.len
 have RS:=ah hr.vis.len
 obtain⟨ks,hkr,hks,hkp,YP⟩:=afo IC
 have iT:=ah hkr
 have dJ:=ah (show dM ks≤2000 by rw[hks];exact hsz)
 have NV:=ah hkp
 have CW:=ah YP
 clear hs hr hv IC hsz hkr hks hkp YP
 generalize rs'.length=m at*
 obtain⟨W1,hW1⟩:∃W1,W1=w.alloc (.cells #[.slice a0 n c0, .slice a1 m c1] 62):=⟨_,rfl⟩
 have dN:=ah (show aj aF w W1 by rw[hW1];exact aj.alloc _ _ _)
 have HB1:=ah (show W1.heap[w.heap.size]?=some (.cells #[.slice a0 n c0, .slice a1 m c1] 62 (0,0)) by rw[hW1];exact heap_alloc_new _ _)
 have HW1:=ah hW1
 clear hW1
 go_enter Tryz.func29,Tryz.ntmps29
 go_upto_region 1 with fail
 rw[←HW1.out]
 go_wp2
 go_loopw [7] (fun iv W=>∃k:Nat,k≤6∧iv= .int .i64 k∧aj aF W1 W) (fun iv _=>6-(intOf iv).toNat)
 case atStart=>exact⟨0,by omega,rfl,aj.refl _ _⟩
 case round=>
  obtain⟨k,hk,rfl,hf⟩:=hrel
  have HF:=ah hf
  have eX:=ah (dN.out.aH hf)
  clear hf
  by_cases hlt:k<6
  ·have hki:(k:Int)<6:=by omega
   have hbs:=HF.out.blk HB1.out id
   have s0:=aG hbs 0 rfl
   have hls:=lt_of_block hbs
   by_cases hin:1≤k∧k≤n
   ·obtain⟨k',rfl⟩:∃k',k=k'+1:=⟨k-1,by omega⟩
    have hkn:k'<n:=by omega
    have hkv:k'<vs'.length:=by rw[RS.out];exact hkn
    obtain⟨g0,g1,g2⟩:=wG vs' k' hkv
    have iF:=HR.out _ eX.out
    have hrd:=iF.vis.rd.rd
    obtain⟨hqe,sU,hqg⟩:=iF.vis.each _ (getD_mem default hkv)
    have hge:(vs.getD k' default).g=(vs'.getD k' default).g:=by
     rw[←vI (by rw[wU.out];exact hkn),RQ.out,vI hkv]
    rcases Rd.shape hrd with⟨ad,he,h0⟩|⟨g,off,cc,he,hmx⟩
    ·omega
    injection he with e1 e2 e3
    subst e1 e3
    clear e2
    have HGE:=ah hge
    have hqm:=getD_mem (d:=default) hkv
    generalize vs'.getD k' default=q at*
    obtain⟨qe,qk,qc,Fb,Fe,Fg⟩:=q
    have hqe:qe=[]:=hqe
    subst hqe
    have hqa:dU Q wr Fb Fe Fg [] qk qc:=sU.at_
    obtain⟨b0,d0,b1,d1,b2,d2,rfl,rfl,rfl⟩:=hqa.shape
    have y0:wr.cell? ⟨g,off+k'*3,none⟩=some (.slice b0 0 d0):=hrd.cell _ _ g0
    have y1:wr.cell? ⟨g,off+k'*3+1,none⟩=some (.slice b1 qk.len d1):=hrd.cell (k'*3+1) _ g1
    have y2:wr.cell? ⟨g,off+k'*3+2,none⟩=some (.slice b2 qc.length d2):=hrd.cell (k'*3+2) _ g2
    have lD:=World.block_lt_of_cell? _ _ y0
    have Ym:IntKind.i64.wrap (k':Int)=(k':Int):=by rw[IntKind.wrap_i64];omega
    have h1k:(1:Int)≤(k':Int)+1:=by omega
    have hkn2:(k':Int)+1≤(n:Int):=by omega
    have ajD:(k':Int)<(n:Int):=by omega
    have HQG:=ah (show Good (qk,qc)from hqg)
    have HQA:=ah hqa
    have Oz:=ah (fun W (f:aj aF w W)=>(show dU (fun _=>True) W (.slice b0 0 d0) (.slice b1 qk.len d1) (.slice b2 qc.length d2) [] qk qc from by
     have h:=(HR.out W f).vis.each _ hqm
     exact⟨h.2.1.tree.turn fun _ _ _=>⟨rfl,trivial⟩,h.2.1.ctx.rd⟩))
    clear hrd g0 g1 g2 hkv iF sU hqg hqa hge
    have oq:=ah (fun W (f:aj aF w W)=>(show Calls Tryz.prog 53 #[.pointer (some ⟨b,0,none⟩), .int .i64 (k':Int)] W fun e w'=>∃ev kv cv,e= .returned (.agg #[ev,kv,cv])∧dU (fun _=>True) w' ev kv cv [] qk qc∧aj aF W w' from by
     have hst:=HS.out W f
     have hkv:k'<vs.length:=by rw[wU.out];exact hkn
     obtain⟨m1,m2,m3⟩:=hst.vis.each _ (getD_mem default hkv)
     have h:=aer _ vs W b (.slice (some ⟨vb,0,none⟩) n n) (hst.vis.rd hn4) (by rw[wU.out];omega) hst.mX k' hkv m2 (hst.vis.good (getD_mem default hkv))
     have hgx:=HGE.out
     refine h.mono fun e w' hp=>?_
     obtain⟨ev,kv,cv,rfl,ht,ho⟩:=hp
     have hk1:(vs.getD k' default).ks=qk:=congrArg Prod.fst hgx
     have hk2:(vs.getD k' default).c=qc:=congrArg Prod.snd hgx
     rw[m1,hk1]at ht
     rw[hk2]at ho
     exact⟨ev,kv,cv,rfl,⟨ht.turn fun _ _ _=>⟨rfl,trivial⟩,ho.rd⟩,ho.aI⟩))
    have lS:=ah (fun W (f:aj aF w W) ev kv cv (h:dU (fun _=>True) W ev kv cv [] qk qc)=>LZ (fun _=>True) (fun _=>True) (qk,qc) W ev kv cv (.slice b0 0 d0) (.slice b1 qk.len d1) (.slice b2 qc.length d2) HQG.out h (Oz.out W f))
    go_upto_region 7 with fail
    clear y0 y1 y2 lD s0 hls
    have ba:=heap_alloc_new wr (.cells #[.slice b0 0 d0, .slice b1 qk.len d1, .slice b2 qc.length d2] 32)
    have AX:=ah (eX.out.aH (aj.alloc aF wr (.cells #[.slice b0 0 d0, .slice b1 qk.len d1, .slice b2 qc.length d2] 32)))
    obtain⟨p9,kM⟩:∃p9,p9=wr.heap.size:=⟨_,rfl⟩
    rw[←kM]at ba⊢
    clear kM
    have qY:=ah (fun Y Y' (f:aj aF Y Y') (hS:aj aF (wr.alloc (.cells #[.slice b0 0 d0, .slice b1 qk.len d1, .slice b2 qc.length d2] 32)) Y∧Y.cell? ⟨p9,0,none⟩=some (.slice b0 0 d0)∧Y.cell? ⟨p9,1,none⟩=some (.slice b1 qk.len d1)∧Y.cell? ⟨p9,2,none⟩=some (.slice b2 qc.length d2))=>
     (⟨hS.1.aH f,f.cell' hS.2.1 id,f.cell' hS.2.2.1 id,f.cell' hS.2.2.2 id⟩:aj aF (wr.alloc (.cells #[.slice b0 0 d0, .slice b1 qk.len d1, .slice b2 qc.length d2] 32)) Y'∧Y'.cell? ⟨p9,0,none⟩=some (.slice b0 0 d0)∧Y'.cell? ⟨p9,1,none⟩=some (.slice b1 qk.len d1)∧Y'.cell? ⟨p9,2,none⟩=some (.slice b2 qc.length d2)))
    have dH:=qY.out _ _ (aj.drew aF _) ⟨aj.refl aF _,aG ba 0 rfl,aG ba 1 rfl,aG ba 2 rfl⟩
    clear ba
    refine iq (S:=fun Y=>aj aF (wr.alloc (.cells #[.slice b0 0 d0, .slice b1 qk.len d1, .slice b2 qc.length d2] 32)) Y∧Y.cell? ⟨p9,0,none⟩=some (.slice b0 0 d0)∧Y.cell? ⟨p9,1,none⟩=some (.slice b1 qk.len d1)∧Y.cell? ⟨p9,2,none⟩=some (.slice b2 qc.length d2)) 7 (by kernel_rfl) dH ?_
    clear dH
    intro hS
    generalize World.drew _=Y0 at*
    refine aY 0 26 rfl rfl ?_
    refine aY 1 27 rfl rfl ?_
    try simp only[Act.put,aO,aN,aJ]
    refine aY 2 28 rfl rfl ?_
    refine aY 4 30 rfl rfl ?_
    try simp only[Act.put,aO,aN,aJ]
    refine bg (i:=3) (by kernel_rfl) rfl (fun K hK=>?_)
    go_simp
    refine(oq.out _ (AX.out.aH hS.1)).mono ?_
    rintro e Y1 ⟨ev1,wP,Fv,rfl,hc1,hf1⟩
    obtain⟨j0,l0,j1,l1,j2,l2,rfl,rfl,rfl⟩:=hc1.shape
    have CX:=ah hc1
    have hS1:=qY.out _ _ hf1 hS
    refine hK.out _ _ hS1 ?_
    clear hK K hS hf1 hc1
    have hS:=hS1
    clear hS1
    try simp only[Act.put,aO,aN,aJ]
    refine bg (i:=5) (by kernel_rfl) rfl (fun K hK=>?_)
    go_simp
    refine(lS.out _ (AX.out.aH hS.1) _ _ _ CX.out).mono ?_
    rintro e Y2 ⟨rfl,hf2⟩
    have hS1:=qY.out _ _ hf2 hS
    refine hK.out _ _ hS1 ?_
    clear hK K hS hf2
    have hS:=hS1
    clear hS1
    try simp only[Act.put,aO,aN,aJ]
    refine bg (i:=6) (by kernel_rfl) rfl (fun K hK=>?_)
    go_simp
    refine hK.out _ _ hS ?_
    clear hK K
    refine mF (by kernel_rfl) ?_
    go_wp2
    go_roundw
    case rel=>exact⟨(k'+1)+1,by omega,by go_num,(HF.out.aH (aj.alloc aF wr _)).aH hS.1⟩
    case measure=>simp[intOf]<;>omega
   ·by_cases hk0:k=0
    ·subst hk0
     have oq:=ah (fun W (f:aj aF w W)=>(show Calls Tryz.prog 53 #[.pointer (some ⟨b,0,none⟩), .int .i64 (-1)] W fun e w'=>∃ev kv cv,e= .returned (.agg #[ev,kv,cv])∧dU (fun _=>True) w' ev kv cv [] dD.1 dD.2∧aj aF W w' from(YO (HS.out W f) (-1) (by omega)).mono fun e w' hp=>⟨_,_,_,hp.1,(Ir (fun _=>True) w').at_,hp.2⟩))
     have lS:=ah (fun W (f:aj aF w W) ev kv cv (h:dU (fun _=>True) W ev kv cv [] dD.1 dD.2)=>LZ (fun _=>True) (fun _=>True) dD W ev kv cv (.slice none 0 0) (.slice none 0 0) (.slice none 0 0) Ap h (Ir (fun _=>True) W).at_)
     go_upto_region 7 with fail
     clear s0 hls
     have ba:=heap_alloc_new wr (.cells #[.slice none 0 0, .slice none 0 0, .slice none 0 0] 32)
     have AX:=ah (eX.out.aH (aj.alloc aF wr (.cells #[.slice none 0 0, .slice none 0 0, .slice none 0 0] 32)))
     obtain⟨p9,kM⟩:∃p9,p9=wr.heap.size:=⟨_,rfl⟩
     rw[←kM]at ba⊢
     clear kM
     have qY:=ah (fun Y Y' (f:aj aF Y Y') (hS:aj aF (wr.alloc (.cells #[.slice none 0 0, .slice none 0 0, .slice none 0 0] 32)) Y∧Y.cell? ⟨p9,0,none⟩=some (.slice none 0 0)∧Y.cell? ⟨p9,1,none⟩=some (.slice none 0 0)∧Y.cell? ⟨p9,2,none⟩=some (.slice none 0 0))=>
      (⟨hS.1.aH f,f.cell' hS.2.1 id,f.cell' hS.2.2.1 id,f.cell' hS.2.2.2 id⟩:aj aF (wr.alloc (.cells #[.slice none 0 0, .slice none 0 0, .slice none 0 0] 32)) Y'∧Y'.cell? ⟨p9,0,none⟩=some (.slice none 0 0)∧Y'.cell? ⟨p9,1,none⟩=some (.slice none 0 0)∧Y'.cell? ⟨p9,2,none⟩=some (.slice none 0 0)))
     have dH:=qY.out _ _ (aj.drew aF _) ⟨aj.refl aF _,aG ba 0 rfl,aG ba 1 rfl,aG ba 2 rfl⟩
     clear ba
     refine iq (S:=fun Y=>aj aF (wr.alloc (.cells #[.slice none 0 0, .slice none 0 0, .slice none 0 0] 32)) Y∧Y.cell? ⟨p9,0,none⟩=some (.slice none 0 0)∧Y.cell? ⟨p9,1,none⟩=some (.slice none 0 0)∧Y.cell? ⟨p9,2,none⟩=some (.slice none 0 0)) 7 (by kernel_rfl) dH ?_
     clear dH
     intro hS
     generalize World.drew _=Y0 at*
     refine aY 0 26 rfl rfl ?_
     refine aY 1 27 rfl rfl ?_
     try simp only[Act.put,aO,aN,aJ]
     refine aY 2 28 rfl rfl ?_
     refine aY 4 30 rfl rfl ?_
     try simp only[Act.put,aO,aN,aJ]
     refine bg (i:=3) (by kernel_rfl) rfl (fun K hK=>?_)
     go_simp
     refine(oq.out _ (AX.out.aH hS.1)).mono ?_
     rintro e Y1 ⟨ev1,wP,Fv,rfl,hc1,hf1⟩
     obtain⟨j0,l0,j1,l1,j2,l2,rfl,rfl,rfl⟩:=hc1.shape
     have CX:=ah hc1
     have hS1:=qY.out _ _ hf1 hS
     refine hK.out _ _ hS1 ?_
     clear hK K hS hf1 hc1
     have hS:=hS1
     clear hS1
     try simp only[Act.put,aO,aN,aJ]
     refine bg (i:=5) (by kernel_rfl) rfl (fun K hK=>?_)
     go_simp
     refine(lS.out _ (AX.out.aH hS.1) _ _ _ CX.out).mono ?_
     rintro e Y2 ⟨rfl,hf2⟩
     have hS1:=qY.out _ _ hf2 hS
     refine hK.out _ _ hS1 ?_
     clear hK K hS hf2
     have hS:=hS1
     clear hS1
     try simp only[Act.put,aO,aN,aJ]
     refine bg (i:=6) (by kernel_rfl) rfl (fun K hK=>?_)
     go_simp
     refine hK.out _ _ hS ?_
     clear hK K
     refine mF (by kernel_rfl) ?_
     go_wp2
     go_roundw
     case rel=>exact⟨1,by omega,by go_num,(HF.out.aH (aj.alloc aF wr _)).aH hS.1⟩
     case measure=>simp[intOf]<;>omega
    ·obtain⟨k',rfl⟩:∃k',k=k'+1:=⟨k-1,by omega⟩
     have hnk:n≤k':=by omega
     have Ym:IntKind.i64.wrap (k':Int)=(k':Int):=by rw[IntKind.wrap_i64];omega
     have h1k:(1:Int)≤(k':Int)+1:=by omega
     have hkn2:decide ((k':Int)+1≤(n:Int))=false:=decide_eq_false (by omega)
     have oq:=ah (fun W (f:aj aF w W)=>(show Calls Tryz.prog 53 #[.pointer (some ⟨b,0,none⟩), .int .i64 (k':Int)] W fun e w'=>∃ev kv cv,e= .returned (.agg #[ev,kv,cv])∧dU (fun _=>True) w' ev kv cv [] dD.1 dD.2∧aj aF W w' from(YO (HS.out W f) (k':Int) (by omega)).mono fun e w' hp=>⟨_,_,_,hp.1,(Ir (fun _=>True) w').at_,hp.2⟩))
     have lS:=ah (fun W (f:aj aF w W) ev kv cv (h:dU (fun _=>True) W ev kv cv [] dD.1 dD.2)=>LZ (fun _=>True) (fun _=>True) dD W ev kv cv (.slice none 0 0) (.slice none 0 0) (.slice none 0 0) Ap h (Ir (fun _=>True) W).at_)
     go_upto_region 7 with fail
     clear s0 hls
     have ba:=heap_alloc_new wr (.cells #[.slice none 0 0, .slice none 0 0, .slice none 0 0] 32)
     have AX:=ah (eX.out.aH (aj.alloc aF wr (.cells #[.slice none 0 0, .slice none 0 0, .slice none 0 0] 32)))
     obtain⟨p9,kM⟩:∃p9,p9=wr.heap.size:=⟨_,rfl⟩
     rw[←kM]at ba⊢
     clear kM
     have qY:=ah (fun Y Y' (f:aj aF Y Y') (hS:aj aF (wr.alloc (.cells #[.slice none 0 0, .slice none 0 0, .slice none 0 0] 32)) Y∧Y.cell? ⟨p9,0,none⟩=some (.slice none 0 0)∧Y.cell? ⟨p9,1,none⟩=some (.slice none 0 0)∧Y.cell? ⟨p9,2,none⟩=some (.slice none 0 0))=>
      (⟨hS.1.aH f,f.cell' hS.2.1 id,f.cell' hS.2.2.1 id,f.cell' hS.2.2.2 id⟩:aj aF (wr.alloc (.cells #[.slice none 0 0, .slice none 0 0, .slice none 0 0] 32)) Y'∧Y'.cell? ⟨p9,0,none⟩=some (.slice none 0 0)∧Y'.cell? ⟨p9,1,none⟩=some (.slice none 0 0)∧Y'.cell? ⟨p9,2,none⟩=some (.slice none 0 0)))
     have dH:=qY.out _ _ (aj.drew aF _) ⟨aj.refl aF _,aG ba 0 rfl,aG ba 1 rfl,aG ba 2 rfl⟩
     clear ba
     refine iq (S:=fun Y=>aj aF (wr.alloc (.cells #[.slice none 0 0, .slice none 0 0, .slice none 0 0] 32)) Y∧Y.cell? ⟨p9,0,none⟩=some (.slice none 0 0)∧Y.cell? ⟨p9,1,none⟩=some (.slice none 0 0)∧Y.cell? ⟨p9,2,none⟩=some (.slice none 0 0)) 7 (by kernel_rfl) dH ?_
     clear dH
     intro hS
     generalize World.drew _=Y0 at*
     refine aY 0 26 rfl rfl ?_
     refine aY 1 27 rfl rfl ?_
     try simp only[Act.put,aO,aN,aJ]
     refine aY 2 28 rfl rfl ?_
     refine aY 4 30 rfl rfl ?_
     try simp only[Act.put,aO,aN,aJ]
     refine bg (i:=3) (by kernel_rfl) rfl (fun K hK=>?_)
     go_simp
     refine(oq.out _ (AX.out.aH hS.1)).mono ?_
     rintro e Y1 ⟨ev1,wP,Fv,rfl,hc1,hf1⟩
     obtain⟨j0,l0,j1,l1,j2,l2,rfl,rfl,rfl⟩:=hc1.shape
     have CX:=ah hc1
     have hS1:=qY.out _ _ hf1 hS
     refine hK.out _ _ hS1 ?_
     clear hK K hS hf1 hc1
     have hS:=hS1
     clear hS1
     try simp only[Act.put,aO,aN,aJ]
     refine bg (i:=5) (by kernel_rfl) rfl (fun K hK=>?_)
     go_simp
     refine(lS.out _ (AX.out.aH hS.1) _ _ _ CX.out).mono ?_
     rintro e Y2 ⟨rfl,hf2⟩
     have hS1:=qY.out _ _ hf2 hS
     refine hK.out _ _ hS1 ?_
     clear hK K hS hf2
     have hS:=hS1
     clear hS1
     try simp only[Act.put,aO,aN,aJ]
     refine bg (i:=6) (by kernel_rfl) rfl (fun K hK=>?_)
     go_simp
     refine hK.out _ _ hS ?_
     clear hK K
     refine mF (by kernel_rfl) ?_
     go_wp2
     go_roundw
     case rel=>exact⟨(k'+1)+1,by omega,by go_num,(HF.out.aH (aj.alloc aF wr _)).aH hS.1⟩
     case measure=>simp[intOf]<;>omega
  ·obtain rfl:k=6:=by omega
   have hc0:(vs.getD 0 default).c=(vs'.getD 0 default).c:=by
    have h:(vs.getD 0 default).g=(vs'.getD 0 default).g:=by rw[←vI (by rw[wU.out];omega),RQ.out,vI (by rw[RS.out];omega)]
    exact congrArg Prod.snd h
   obtain⟨cc,hcc⟩:∃cc,cc=(vs'.getD 0 default).c:=⟨_,rfl⟩
   have hgc:kU cc∧cc.length≤2000:=by
    rw[hcc]
    have h:=((HR.out w (aj.refl _ _)).vis.each _ (getD_mem (d:=default) (show 0<vs'.length by rw[RS.out];omega))).2.2
    exact⟨h.ok.fits,h.ok.len⟩
   have ag4:=ah (fun W (f:aj aF w W)=>(show Calls Tryz.prog 20 #[.pointer (some ⟨b,0,none⟩)] W fun e w'=>∃kv cv,e= .returned (.agg #[.slice none 0 0,kv,cv])∧dU (fun _=>True) w' (.slice none 0 0) kv cv [] ks cc∧aj aF W w' from by
    refine(Xu (HS.out W f)).mono fun e w' hp=>?_
    obtain⟨kv,cv,ks',rfl,ht,ho,hpm,hso⟩:=hp
    have:=CW.out ks' hpm hso
    subst this
    rw[hc0,←hcc]at ho
    exact⟨kv,cv,rfl,⟨ht.turn fun _ _ _=>⟨rfl,trivial⟩,ho.rd⟩,ho.aI⟩))
   have yY:=ah (fun W (f:aj aF w W)=>(show Calls Tryz.prog 54 #[.agg #[.slice a0 n c0, .slice a1 m c1]] W fun e w'=>∃ev kv cv,e= .returned (.agg #[ev,kv,cv])∧dU (fun _=>True) w' ev kv cv [] ks cc∧aj aF W w' from by
    have h:=agv (HR.out W f) ks (by rw[←RQ.out];exact NV.out) iT.out dJ.out
    unfold Ri at h
    rw[←hcc]at h
    exact h))
   have fH:=ah (⟨KN iT.out (by have:=dJ.out;unfold sizeT;simp only[List.length_nil];omega),by have:=dJ.out;unfold sizeT;simp only[List.length_nil];omega,hgc.1,hgc.2⟩:iD [] ks cc)
   have RU:=ah (fun W ev kv cv ev' kv' jI (h:dU (fun _=>True) W ev kv cv [] ks cc) (h':dU (fun _=>True) W ev' kv' jI [] ks cc)=>(show Calls Tryz.prog 19 #[.agg #[ev,kv,cv], .agg #[ev',kv',jI]] W (fun e w'=>e= .returned (.bool true)∧aj aF W w')from by
    have:=Iq (fun _=>True) (fun _=>True) [] ks cc [] ks cc W ev kv cv ev' kv' jI h fH.out h' fH.out
    rwa [gu ⟨⟨rfl,rfl⟩,rfl⟩]at this))
   have hbs:=HF.out.blk HB1.out id
   have qY:=ah (fun Y Y' (f:aj aF Y Y') (hS:aj aF wr Y∧Y.cell? ⟨w.heap.size,0,none⟩=some (.slice a0 n c0)∧Y.cell? ⟨w.heap.size,1,none⟩=some (.slice a1 m c1))=>
    (⟨hS.1.aH f,f.cell' hS.2.1 id,f.cell' hS.2.2 id⟩:aj aF wr Y'∧Y'.cell? ⟨w.heap.size,0,none⟩=some (.slice a0 n c0)∧Y'.cell? ⟨w.heap.size,1,none⟩=some (.slice a1 m c1)))
   have dH:=qY.out _ _ (aj.drew aF _) ⟨aj.refl aF wr,aG hbs 0 rfl,aG hbs 1 rfl⟩
   clear hbs hc0 hcc hgc
   go_upto_region 10 with fail
   refine iq (S:=fun Y=>aj aF wr Y∧Y.cell? ⟨w.heap.size,0,none⟩=some (.slice a0 n c0)∧Y.cell? ⟨w.heap.size,1,none⟩=some (.slice a1 m c1)) 6 (by kernel_rfl) dH ?_
   clear dH
   intro hS
   generalize World.drew _=Y0 at*
   refine aY 0 34 rfl rfl ?_
   refine aY 2 36 rfl rfl ?_
   try simp only[Act.put,aO,aN,aJ]
   refine bg (i:=1) (by kernel_rfl) rfl (fun K hK=>?_)
   go_simp
   refine(ag4.out _ (eX.out.aH hS.1)).mono ?_
   rintro e Y1 ⟨wP,Fv,rfl,hc1,hf1⟩
   obtain⟨j0,l0,j1,l1,j2,l2,g0,rfl,rfl⟩:=hc1.shape
   (try have hA:=hA.aS hf1)
   have hV:=hc1
   have hS1:=qY.out _ _ hf1 hS
   refine hK.out _ _ hS1 ?_
   clear hK K hS hf1 hc1 g0
   have hS:=hS1
   clear hS1
   try simp only[Act.put,aO,aN,aJ]
   refine bg (i:=3) (by kernel_rfl) rfl (fun K hK=>?_)
   go_simp
   refine(yY.out _ (eX.out.aH hS.1)).mono ?_
   rintro e Y2 ⟨Fa,AP,Gp,rfl,hc2,hf2⟩
   obtain⟨q0,r0,q1,r1,q2,r2,rfl,rfl,rfl⟩:=hc2.shape
   (try have hV:=hV.aS hf2)
   have hA:=hc2
   have hS1:=qY.out _ _ hf2 hS
   refine hK.out _ _ hS1 ?_
   clear hK K hS hf2 hc2
   have hS:=hS1
   clear hS1
   try simp only[Act.put,aO,aN,aJ]
   refine bg (i:=4) (by kernel_rfl) rfl (fun K hK=>?_)
   go_simp
   refine(RU.out _ _ _ _ _ _ _ hV hA).mono ?_
   rintro e Y3 ⟨rfl,hf3⟩
   have hS1:=qY.out _ _ hf3 hS
   refine hK.out _ _ hS1 ?_
   clear hK K hS hf3
   have hS:=hS1
   clear hS1
   try simp only[Act.put,aO,aN,aJ]
   refine bg (i:=5) (by kernel_rfl) rfl (fun K hK=>?_)
   go_simp
   refine hK.out _ _ hS ?_
   clear hK K
   refine mF (by kernel_rfl) ?_
   go_wp2
   go_ret
   exact⟨rfl,eX.out.aH hS.1⟩
end
open Go.RowKit
theorem YQ:(Tryz.prog.info? 116).map (fun i=>(i.zero,i.size,i.bytes))=some (some (.agg #[.int .i64 0, .slice none 0 0, .slice none 0 0]),3,56):=by kernel_rfl
def lT (x:Int) (st:List bI):List bI:=if dG x (st.map bI.id)=-1 then st else st.eraseIdx (dG x (st.map bI.id)).toNat
theorem ag5 {x y:Int} {l:List Int} (h:y≠x):dG x (y::l)=if dG x l=-1 then-1 else dG x l+1:=by
 rcases nY x l with⟨g,hn⟩|⟨k,hk,g,hx⟩
 ·rw[g,if_pos rfl]
  exact EN fun hm=>(List.mem_cons.1 hm).elim (fun e=>h e.symm) hn
 ·rw[g,if_neg (by omega)]
  have hf:l.findIdx (fun y=>y==x)=k:=by
   unfold dG at g
   split at g
   ·omega
   ·omega
  unfold dG
  rw[List.findIdx_cons]
  have hb:(y==x)=false:=by simpa using h
  rw[hb]
  simp only[cond_false,List.length_cons]
  rw[hf,if_pos (by omega)]
  omega
theorem YR (x:Int):∀ {st:List bI},(st.map bI.id).Nodup→st.filter (fun r=> !(r.id==x))=lT x st
 |[],_=>rfl
 |r::st,h=>by
  have h1:=List.pairwise_cons.1 (show(r.id::st.map bI.id).Pairwise _ from h)
  have ih:=YR x (st:=st) h1.2
  unfold lT at ih⊢
  rw[List.map_cons]
  by_cases e:r.id=x
  ·have hn:x∉st.map bI.id:=fun hm=>h1.1 x hm e
   have hp:dG x (r.id::st.map bI.id)=((0:Nat):Int):=EC (k:=0) (by simp) (fun j hj=>by omega) e
   rw[hp,if_neg (by omega),List.filter_cons_of_neg (by simp[e]),ih,EN hn,if_pos rfl]
   rfl
  ·rw[List.filter_cons_of_pos (by simp[e]),ih,ag5 e]
   by_cases g:dG x (st.map bI.id)=-1
   ·rw[if_pos g,if_pos g,if_pos rfl]
   ·have hg0:0≤dG x (st.map bI.id):=by
     rcases nY x (st.map bI.id)with⟨g2,_⟩|⟨k,_,g2,_⟩
     ·exact absurd g2 g
     ·omega
    rw[if_neg g,if_neg g,if_neg (by omega),show(dG x (st.map bI.id)+1).toNat=(dG x (st.map bI.id)).toNat+1 by omega]
    rfl
theorem DK (x:Int) (st:List bI):decide ((lT x st).length<st.length)=decide (dG x (st.map bI.id)≠-1):=by
 unfold lT
 refine decide_eq_decide.2 ?_
 rcases nY x (st.map bI.id)with⟨g,_⟩|⟨k,hk,g,_⟩
 ·rw[if_pos g];simp[g]
 ·rw[List.length_map]at hk
  rw[if_neg (by omega),g,List.length_eraseIdx_of_lt (by omega)]
  omega
def qZ (x:Int) (r:bn):Bool:= !(r.id==x)
theorem ag6 (x:Int) (rs:List bn):(rs.filter (qZ x)).map bn.con=(rs.map bn.con).filter (fun r=> !(r.id==x)):=by
 rw[List.filter_map]
 rfl
def qy (l:List bn):List Value:=(l.map bn.q).flatMap cO.cells
theorem YS (a b:List bn):qy (a++b)=qy a++qy b:=by unfold qy;rw[List.map_append,List.flatMap_append]
theorem ag7 (a:List bn):(qy a).length=a.length*3:=by unfold qy;rw[WL,List.length_map]
theorem ag8 {x:Int} {l:List bn} {k:Nat} (h:k<l.length):(l.take (k+1)).filter (qZ x)=(l.take k).filter (qZ x)++(if qZ x (l.getD k default)=true then [l.getD k default]else []):=by
 rw[take_succ default h,List.filter_append]
 congr 1
 rw[List.filter_cons]
 split<;>rfl
section
variable {Q:Nat→Prop} {w:World} {n:Nat} {vv sv:Value} {vs:List aU} {rs:List bn}
def RV (Q:Nat→Prop) (w:World) (n:Nat) (vv:Value) (vs:List aU) (rs:List bn) (x:Int) (e:Ending) (w':World):Prop:=
 ∃sv' rs',e= .returned (.tuple #[.agg #[vv,sv'], .bool (decide (dG x (rs.map bn.id)≠-1))])∧jf Q w' n vv sv' vs rs'∧rs'.map bn.con=lT x (rs.map bn.con)∧aj aF w w'
theorem YT (h:jf Q w n vv sv vs rs) (hQ:∀k,w.heap.size≤k→Q k) (x:Int):Calls Tryz.prog 59 #[.agg #[vv,sv], .int .i64 x] w (RV Q w n vv vs rs x):=by
 obtain⟨i0,hi0,hz0,hz1,hz2⟩:=info_parts YQ
 obtain⟨a0,c0,a1,c1,rfl,rfl⟩:=h.shape
 have HR:=ah (fun W (f:aj aF w W)=>h.aS f)
 have hfew:=h.few
 have HQ:=ah hQ
 have hcf:=ag6 x rs
 rw[YR x (by rw[oH];exact h.ids)]at hcf
 have hdl:=DK x (rs.map bn.con)
 rw[←hcf,List.length_map,List.length_map,oH]at hdl
 unfold RV
 rw[←hcf]
 have oU:=ah hdl
 have L_:=ah h.ids
 have z_:=ah h.vis.len
 clear h hQ hcf hdl
 obtain⟨m,hm⟩:∃m,m=rs.length:=⟨_,rfl⟩
 have HM:=ah hm
 rw[←hm]at hfew oU⊢
 clear hm
 obtain⟨g1,g2,g3⟩:=lY w (.cells #[.slice a0 n c0, .slice a1 m c1] 62) #[.slice none 0 0, .slice none 0 0] 62
 have g0:=(aj.alloc aF (w.alloc (.cells #[.slice a0 n c0, .slice a1 m c1] 62)) (.cells #[.slice none 0 0, .slice none 0 0] 62)).blk (heap_alloc_new w _) id
 obtain⟨W2,hW2⟩:∃W2,W2=(w.alloc (.cells #[.slice a0 n c0, .slice a1 m c1] 62)).alloc (.cells #[.slice none 0 0, .slice none 0 0] 62):=⟨_,rfl⟩
 rw[←hW2]at g0 g1 g2 g3
 have HF2:=ah g2
 have HB0:=ah g0
 have HB1:=ah g1
 have HZ2:=ah g3
 have HW2:=ah hW2
 have s1:=aG g0 1 rfl
 have hl0:=lt_of_block g0
 clear g0 g1 g2 g3 hW2
 go_enter Tryz.func59,Tryz.ntmps59
 go_upto_region 1 with fail
 rw[←HW2.out]
 go_wp2
 clear s1 hl0
 go_loopw [6,11] (fun v i W=>∃k:Nat,k≤m∧i= .int .i64 k∧OwnAt W2 W 116 3 v ((rs.take k).filter (qZ x)).length (qy ((rs.take k).filter (qZ x)))) (fun _ i _=>m-(intOf i).toNat)
 case atStart=>exact⟨0,Nat.zero_le _,rfl,OwnAt.nil (aj.refl _ _) _ _⟩
 case round=>
  obtain⟨k,hk,rfl,ho⟩:=hrel
  obtain⟨av,cv,rfl⟩:=ho.shape
  have HO:=ah ho
  have HF:=ah (HF2.out.aH ho.aI)
  have hbs:=ho.aI.blk HB0.out id
  have s1:=aG hbs 1 rfl
  have hls:=lt_of_block hbs
  have uV:=ah hbs
  clear ho hbs
  by_cases hlt:k<m
  ·have hkl:k<(rs.map bn.q).length:=by rw[List.length_map,←HM.out];exact hlt
   have hkr:k<rs.length:=by rw[←HM.out];exact hlt
   obtain⟨g0,g1,g2⟩:=uz (rs.map bn.q) k hkl
   have iF:=HR.out _ HF.out
   have hrd:=iF.rd.rd
   rw[←HM.out]at hrd
   have hsi:=iF.jJ _ (getD_mem default hkr)
   have hst:=ag8 (x:=x) hkr
   rw[Io hkr]at g0 g1 g2
   have hfl:((rs.take k).filter (qZ x)).length≤4:=Nat.le_trans (List.length_filter_le _ _) (by rw[List.length_take];omega)
   rcases Rd.shape hrd with⟨ad,he,h0⟩|⟨g,off,cc,he,hmx⟩
   ·omega
   injection he with e1 e2 e3
   subst e1 e3
   clear e2
   generalize rs.getD k default=r at*
   obtain⟨rid,Lm,ES,qp,nJ⟩:=r
   obtain⟨ap,cp,rfl⟩:=hsi.part.rd.rd.sl
   obtain⟨ai,ci,rfl⟩:=hsi.is.rd.sl
   have y0:wr.cell? ⟨g,off+k*3,none⟩=some (.int .i64 rid):=hrd.cell _ _ g0
   have y1:wr.cell? ⟨g,off+k*3+1,none⟩=some (.slice ap n cp):=hrd.cell (k*3+1) _ g1
   have y2:wr.cell? ⟨g,off+k*3+2,none⟩=some (.slice ai n ci):=hrd.cell (k*3+2) _ g2
   have lD:=World.block_lt_of_cell? _ _ y0
   have HST:=ah hst
   have hki:(k:Int)<(m:Int):=by omega
   clear hrd g0 g1 g2 hkl hkr iF hsi hst
   generalize (rs.take k).filter (qZ x)=la at*
   by_cases hy:rid=x
   ·have hni:qZ x (⟨rid, .slice ap n cp, .slice ai n ci,qp,nJ⟩:bn)=false:=by simp[qZ,hy]
    have hs2:=HST.out
    rw[if_neg (by rw[hni];decide),List.append_nil]at hs2
    have HS2:=ah hs2
    clear hni hs2 HST
    subst hy
    go_wp2
    go_roundw
    case rel=>exact⟨k+1,by omega,by go_num,by rw[HS2.out];exact HO.out⟩
    case measure=>simp[intOf];omega
   ·have hni:qZ x (⟨rid, .slice ap n cp, .slice ai n ci,qp,nJ⟩:bn)=true:=by simp[qZ,hy]
    have hs2:=HST.out
    rw[if_pos hni]at hs2
    have HS2:=ah hs2
    have hyb:(rid==x)=false:=by simpa using hy
    clear hni hs2 HST hy
    go_wp2_with(at_builtin;refine kT W2 _ [.int .i64 rid, .slice ap n cp, .slice ai n ci] rfl (.tmp 22) (.tmp 28) 60 rfl 116 i0 _ 3 56 Tryz.underlying60 hi0 hz0 hz1 hz2 (by decide) (by decide) _ _ _ HO.out 1 1 rfl (by simp[Act.eval]) rfl (by simp[Value.oneCell']) (by simp only[maxLen];omega) (by omega) ?_;intro ad cc w5 dP;have OW:=ah dP;clear dP)
    go_roundw
    case rel=>exact⟨k+1,by omega,by go_num,by rw[HS2.out,List.length_append,YS];exact OW.out⟩
    case measure=>simp[intOf];omega
  ·obtain rfl:m=k:=by omega
   have hta:rs.take m=rs:=List.take_of_length_le (by rw[HM.out];exact Nat.le_refl _)
   rw[hta]at HO⊢
   clear hta s1 hls
   have HX:=ah (HO.out.aI.blk HB1.out id)
   have dH:=(⟨(aj.drew aF _).cell' (aG uV.out 0 rfl) id,(aj.drew aF _).cell' (aG uV.out 1 rfl) id⟩:wr.drew.cell? ⟨w.heap.size,0,none⟩=some (.slice a0 n c0)∧wr.drew.cell? ⟨w.heap.size,1,none⟩=some (.slice a1 m c1))
   obtain⟨p9,kM⟩:∃p9,p9=w.heap.size+1:=⟨_,rfl⟩
   rw[←kM]at HX⊢
   have hne:p9≠w.heap.size:=by omega
   have hne2:w.heap.size≠p9:=by omega
   have tH:=ah (show w.heap.size<p9 by omega)
   have HPZ:=ah (show p9<W2.heap.size by have:=HZ2.out;omega)
   clear kM
   have hla:(rs.filter (qZ x)).length≤4:=Nat.le_trans (List.length_filter_le _ _) (by rw[←HM.out];exact hfew)
   have RN:=ah (fun W (f:aj aF wr W)=>(show jf (fun k=>Q k∧k≠p9) W n (.slice a0 n c0) (.slice av (rs.filter (qZ x)).length cv) vs (rs.filter (qZ x))from by
    have h:=(HR.out w (aj.refl _ _)).turn (w':=W) (Q':=fun k=>Q k∧k≠p9) fun k hk hq=>⟨(HF.out.aH f).block k hk id,hq,by have:=tH.out;omega⟩
    have ho:=HO.out.keep f
    exact⟨h.n1,h.n4,h.vis,⟨ho.rd,fun _ k hk=>⟨HQ.out k (by have:=ho.new k hk;have:=HF2.out.size;omega),by have:=ho.new k hk;have:=HPZ.out;omega⟩⟩,fun r hr=>h.jJ r (List.mem_filter.1 hr).1,List.Pairwise.sublist (List.Sublist.map _ List.filter_sublist) h.ids,hla⟩))
   generalize YU:rs.filter (qZ x)=la at*
   have zV:=ah YU
   clear YU
   generalize hln:la.length=ln at*
   have jR:=ah hln
   clear hln
   go_upto_region 8 with fail
   refine iq (S:=fun Y=>Y.cell? ⟨w.heap.size,0,none⟩=some (.slice a0 n c0)∧Y.cell? ⟨w.heap.size,1,none⟩=some (.slice a1 m c1)) 12 (by kernel_rfl) dH ?_
   clear dH
   intro hS
   have ng:=ah (aj.drew aF wr)
   generalize World.drew _=Y0 at*
   refine aY 0 31 rfl rfl ?_
   refine aY 1 32 rfl rfl ?_
   try simp only[Act.put,aO,aN,aJ]
   refine aY 2 33 rfl rfl ?_
   refine aY 3 34 rfl rfl ?_
   try simp only[Act.put,aO,aN,aJ]
   refine aY 4 35 rfl rfl ?_
   refine aY 5 36 rfl rfl ?_
   try simp only[Act.put,aO,aN,aJ]
   refine aY 6 37 rfl rfl ?_
   refine aY 7 38 rfl rfl ?_
   try simp only[Act.put,aO,aN,aJ]
   refine aY 8 39 rfl rfl ?_
   refine aY 9 40 rfl rfl ?_
   try simp only[Act.put,aO,aN,aJ]
   refine bg (i:=10) (by kernel_rfl) rfl (fun K hK=>?_)
   have hx:=ng.out.blk HX.out id
   have x0:=aG hx 0 rfl
   have x1:=aG hx 1 rfl
   have f0:=aW hx 0
   have f1:=aW hx 1
   have hlx:=lt_of_block hx
   have hse:=eY (eY hx 0 (.slice a0 n c0)) 1 (.slice av ln cv)
   have hsf:=(aj.setCell (S:=fun x=>x=p9) Y0 (p:=⟨p9,0,none⟩) (.inl rfl) (.slice a0 n c0)).trans (aj.setCell (S:=fun x=>x=p9) _ (p:=⟨p9,1,none⟩) (.inl rfl) (.slice av ln cv)) fun _ _ h=>h
   have hS1:=(⟨hsf.cell' hS.1 (by omega),hsf.cell' hS.2 (by omega)⟩:_∧_)
   go_simp
   refine hK.out _ _ hS1 ?_
   clear hK K hS x0 x1 f0 f1 hlx hx
   have hS:=hS1
   have bH:=ah hse
   have bU:=ah hsf
   clear hS1 hse hsf
   generalize World.setCell (World.setCell _ _ _) _ _=Y1 at*
   try simp only[Act.put,aO,aN,aJ]
   refine bg (i:=11) (by kernel_rfl) rfl (fun K hK=>?_)
   go_simp
   refine hK.out _ _ hS ?_
   clear hK K
   refine mF (by kernel_rfl) ?_
   go_wp2
   have z0:=aG bH.out 0 rfl
   have z1:=aG bH.out 1 rfl
   have hpw:=tH.out
   refine bodyPost_ret (v:= .tuple #[.agg #[.slice a0 n c0, .slice av ln cv], .bool (decide (ln<m))]) (by simp[results,Tryz.results59,go_sem,z0,z1]) rfl ⟨.slice av ln cv,la,by rw[oU.out],?_,by rw[zV.out],(HF.out.aH ng.out).trans bU.out fun y hy e=>by omega⟩
   exact(RN.out _ ng.out).turn fun y hy hq=>⟨bU.out.block y hy hq.2,hq.1⟩
end
open Go.RowKit
theorem YV (w:World) (b:Nat) (x0 x1 x2 x3 x4:Value):aj (fun x=>x=b) w (((((w.setCell ⟨b,0,none⟩ x0).setCell ⟨b,1,none⟩ x1).setCell ⟨b,2,none⟩ x2).setCell ⟨b,3,none⟩ x3).setCell ⟨b,4,none⟩ x4):=
 (Yh w b x0 x1 x2 x3).trans (aj.setCell (S:=fun x=>x=b) _ (p:=⟨b,4,none⟩) (.inl rfl) x4) fun _ _ h=>h
theorem YW {w:World} {b:Nat} {y0 y1 y2 y3 y4:Value} {t:TypeId} (h:w.heap[b]?=some (.cells #[y0,y1,y2,y3,y4] t (0,0))) (x0 x1 x2 x3 x4:Value):(((((w.setCell ⟨b,0,none⟩ x0).setCell ⟨b,1,none⟩ x1).setCell ⟨b,2,none⟩ x2).setCell ⟨b,3,none⟩ x3).setCell ⟨b,4,none⟩ x4).heap[b]?=some (.cells #[x0,x1,x2,x3,x4] t (0,0)):=
 eY (eY (eY (eY (eY h 0 x0) 1 x1) 2 x2) 3 x3) 4 x4
theorem YX {x:Lf}:∀ {l:List dB} {k:Nat},(∀j,j<k→nZ (l.getD j default).con x=false)→k<l.length→nZ (l.getD k default).con x=true→lK (l.map dB.con) x=some (l.getD k default).con
 |[],_,_,h,_=>by cases h
 |y::l,0,_,_,h=>by
  unfold lK
  rw[List.map_cons,List.find?_cons_of_pos (by exact h)]
  rfl
 |y::l,k+1,h0,hk,h=>by
  have h1:nZ y.con x=false:=h0 0 (by omega)
  unfold lK
  rw[List.map_cons,List.find?_cons_of_neg (by rw[h1];decide)]
  exact YX (l:=l) (k:=k) (fun j hj=>h0 (j+1) (by omega)) (by simpa using hk) h
theorem ag_ {x:Lf} {l:List dB} (h:∀j,j<l.length→nZ (l.getD j default).con x=false):lK (l.map dB.con) x=none:=by
 rw[CV]
 intro y hy g
 obtain⟨q,hq,rfl⟩:=List.mem_map.1 hy
 obtain⟨j,hj,rfl⟩:=List.getElem_of_mem hq
 have:=h j hj
 rw[getD_at _ hj,Fh.2 g]at this
 cases this
def RX (w:World) (l:List dB) (p:List ByteArray) (a:aQ) (e:Ending) (w':World):Prop:=
 ∃(y:dB) (b:Bool),e= .returned (.tuple #[.agg #[y.pv, .int .i64 y.e.dc, .int .i64 y.e.n, .string y.e.s, .int .i64 y.e.k], .bool b])∧aj aF w w'∧lK (l.map dB.con) (p,a)=(if b=true then some y.con else none)∧(b=true→y∈l)∧∃A n c,y.pv= .slice A n c
theorem YZ (Q:Nat→Prop) (l:List dB) (w:World) (v:Value) (h:wE Q w v l) (hl:l.length≤100000) (hpl:∀x∈l,x.path.length≤100000) (p:List ByteArray) (u:Value) (a:aQ) (hu:Rd w u p.length (fA p)) (hp:p.length≤100000):
 Calls Tryz.prog 117 #[v, .agg #[u, .int .i64 a.dc, .int .i64 a.n, .string a.s, .int .i64 a.k]] w (RX w l p a):=by
 obtain⟨aP,cP,rfl⟩:=hu.sl
 obtain⟨aL,cL,rfl⟩:=h.rd.sl
 have HH:=ah h
 have HU:=ah hu
 have dV:=ah hpl
 have vP:=ah (fun k=>@YX (p,a) l k)
 have gK:=ah (@ag_ (p,a) l)
 clear h hu hpl
 obtain⟨m,hm⟩:∃m,m=l.length:=⟨_,rfl⟩
 have HM:=ah hm
 rw[←hm]at hl⊢
 clear hm
 obtain⟨pn,hpn⟩:∃pn,pn=p.length:=⟨_,rfl⟩
 have CQ:=ah hpn
 rw[←hpn]at hp⊢
 clear hpn
 obtain⟨WA,Mc⟩:∃WA,WA=(w.alloc (.cells #[.slice aP pn cP, .int .i64 a.dc, .int .i64 a.n, .string a.s, .int .i64 a.k] 103)).alloc (.cells #[.slice none 0 0, .int .i64 0, .int .i64 0, .string ByteArray.empty, .int .i64 0] 103):=⟨_,rfl⟩
 obtain⟨hb1,hfa,hsz⟩:=lY w (.cells #[.slice aP pn cP, .int .i64 a.dc, .int .i64 a.n, .string a.s, .int .i64 a.k] 103) #[.slice none 0 0, .int .i64 0, .int .i64 0, .string ByteArray.empty, .int .i64 0] 103
 have hb0:WA.heap[w.heap.size]?=some (.cells #[.slice aP pn cP, .int .i64 a.dc, .int .i64 a.n, .string a.s, .int .i64 a.k] 103 (0,0)):=by rw[Mc];exact(aj.alloc aF _ _).blk (heap_alloc_new w _) id
 rw[←Mc]at hb1 hfa
 have HB0:=ah hb0
 have HB1:=ah hb1
 have eX:=ah hfa
 have Y_:=ah Mc
 clear hb0 hb1 hfa hsz Mc
 go_enter Tryz.func117,Tryz.ntmps117
 go_upto_region 1 with fail
 first
  |rw[←Y_.out]
  |(have hw:=Y_.out;rw[show(ByteArray.empty:ByteArray)= {data:= #[]}from rfl]at hw;rw[←hw];clear hw)
 go_wp2
 go_loopw [9] (fun i W=>∃k:Nat,k≤m∧i= .int .i64 k∧(∀j,j<k→nZ (l.getD j default).con (p,a)=false)∧aj aF WA W) (fun i _=>m-(intOf i).toNat)
 case atStart=>exact⟨0,Nat.zero_le _,rfl,fun j hj=>absurd hj (Nat.not_lt_zero _),aj.refl _ _⟩
 case round=>
  obtain⟨k,hk,rfl,hno,hf⟩:=hrel
  have lQ:=ah hno
  have HF:=ah hf
  have Md:=ah (eX.out.aH hf)
  clear hno hf
  have hbx:=HF.out.blk HB1.out id
  by_cases hlt:k<m
  ·have hkl:k<l.length:=by rw[←HM.out];exact hlt
   have hlv:=HH.out.aS Md.out
   obtain⟨g0,g1,g2,g3,g4⟩:=Ag l k hkl
   have hpk:=hlv.each _ (getD_mem default hkl)
   have hpl:=dV.out _ (getD_mem default hkl)
   have hrd:=hlv.rd
   have PG:=ah (getD_mem (d:=default) hkl)
   have rG:=ah (fun(h:nZ (l.getD k default).con (p,a)=false) j (hj:j<k+1)=>(show nZ (l.getD j default).con (p,a)=false from by
    rcases Nat.lt_or_ge j k with g|g
    ·exact lQ.out j g
    ·rw[show j=k by omega];exact h))
   have AL:=ah (vP.out k lQ.out hkl)
   rw[←HM.out]at hrd
   rcases Rd.shape hrd with⟨ad,he,h0⟩|⟨g,off,cc,he,hmx⟩
   ·omega
   injection he with e1 e2 e3
   subst e1 e3
   clear e2
   generalize l.getD k default=qb at*
   obtain⟨path,pv,ent⟩:=qb
   have hpk:gy Q wr pv path.length (fA path):=hpk
   have hpl:path.length≤100000:=hpl
   obtain⟨ap,cpp,rfl⟩:=hpk.rd.sl
   obtain⟨α,hne,K,hK1,hK0,hK2⟩:=worlds wr
   have y0:∀t,(K t).cell? ⟨g,off+k*5,none⟩=some (.slice ap path.length cpp):=fun t=>(hK1 t).cell' (hrd.cell _ _ g0) id
   have y1:∀t,(K t).cell? ⟨g,off+k*5+1,none⟩=some (.int .i64 ent.dc):=fun t=>(hK1 t).cell' (hrd.cell (k*5+1) _ g1) id
   have y2:∀t,(K t).cell? ⟨g,off+k*5+2,none⟩=some (.int .i64 ent.n):=fun t=>(hK1 t).cell' (hrd.cell (k*5+2) _ g2) id
   have y3:∀t,(K t).cell? ⟨g,off+k*5+3,none⟩=some (.string ent.s):=fun t=>(hK1 t).cell' (hrd.cell (k*5+3) _ g3) id
   have y4:∀t,(K t).cell? ⟨g,off+k*5+4,none⟩=some (.int .i64 ent.k):=fun t=>(hK1 t).cell' (hrd.cell (k*5+4) _ g4) id
   have hb0:=HF.out.blk HB0.out id
   have b0:∀t,(K t).cell? ⟨w.heap.size,0,none⟩=some (.slice aP pn cP):=fun t=>(hK1 t).cell' (aG hb0 0 rfl) id
   have b1:∀t,(K t).cell? ⟨w.heap.size,1,none⟩=some (.int .i64 a.dc):=fun t=>(hK1 t).cell' (aG hb0 1 rfl) id
   have b2:∀t,(K t).cell? ⟨w.heap.size,2,none⟩=some (.int .i64 a.n):=fun t=>(hK1 t).cell' (aG hb0 2 rfl) id
   have b3:∀t,(K t).cell? ⟨w.heap.size,3,none⟩=some (.string a.s):=fun t=>(hK1 t).cell' (aG hb0 3 rfl) id
   have b4:∀t,(K t).cell? ⟨w.heap.size,4,none⟩=some (.int .i64 a.k):=fun t=>(hK1 t).cell' (aG hb0 4 rfl) id
   have dS:=ah hK1
   have BM:=ah (fun t=>agL path p (.slice ap path.length cpp) (.slice aP pn cP) ent a (K t) (hpk.rd.aS (hK1 t)) (by rw[CQ.out];have h:=(HU.out.aS Md.out).aS (hK1 t);rw[←CQ.out]at h⊢;exact h) hpl (by rw[←CQ.out];exact hp))
   have wS:=ah (⟨hrd.cell _ _ g0,hrd.cell (k*5+1) _ g1,hrd.cell (k*5+2) _ g2,hrd.cell (k*5+3) _ g3,hrd.cell (k*5+4) _ g4⟩:wr.cell? ⟨g,off+(k*5),none⟩=some (.slice ap path.length cpp)∧wr.cell? ⟨g,off+(k*5+1),none⟩=some (.int .i64 ent.dc)∧wr.cell? ⟨g,off+(k*5+2),none⟩=some (.int .i64 ent.n)∧wr.cell? ⟨g,off+(k*5+3),none⟩=some (.string ent.s)∧wr.cell? ⟨g,off+(k*5+4),none⟩=some (.int .i64 ent.k))
   have ag':=ah (show nZ (path,ent) (p,a)=true→lK (l.map dB.con) (p,a)=some (path,ent)from AL.out)
   have aha:=ah (show nZ (path,ent) (p,a)=false→∀j,j<k+1→nZ (l.getD j default).con (p,a)=false from rG.out)
   clear hrd hlv g0 g1 g2 g3 g4 hpk hb0 hK1 hkl AL rG hpl
   have hki:(k:Int)<(m:Int):=by omega
   have bW:=ah hbx
   clear hbx
   generalize path.length=pl at*
   go_upto_region 4 with fail
   generalize nZ (path,ent) (p,a)=pb at*
   refine dX K (by kernel_rfl) (by kernel_rfl) hK0 ?_
   repeat(go_big_quiet_step (((go_at_call 158;exact Calls.bT hK2 (BM.out _)))))
   refine wpQuiet_nil ?_
   intro w' hw'
   obtain⟨t,rfl⟩:=hw'
   cases pb with
   |false=>
    go_wp2
    go_roundw
    case rel=>exact⟨k+1,by omega,by go_num,aha.out rfl,HF.out.aH (dS.out t)⟩
    case measure=>simp[intOf];omega
   |true=>
    have fB:=(dS.out t).blk bW.out id
    have x0:=aG fB 0 rfl
    have x1:=aG fB 1 rfl
    have x2:=aG fB 2 rfl
    have x3:=aG fB 3 rfl
    have x4:=aG fB 4 rfl
    have f0:=aW fB 0
    have f1:=aW fB 1
    have f2:=aW fB 2
    have f3:=aW fB 3
    have f4:=aW fB 4
    have zC:=lt_of_block fB
    have c0:=y0 t
    have c1:=y1 t
    have c2:=y2 t
    have c3:=y3 t
    have c4:=y4 t
    have bH:=ah (YW fB (.slice ap pl cpp) (.int .i64 ent.dc) (.int .i64 ent.n) (.string ent.s) (.int .i64 ent.k))
    have bU:=ah ((Md.out.aH (dS.out t)).trans (YV _ (w.heap.size+1) (.slice ap pl cpp) (.int .i64 ent.dc) (.int .i64 ent.n) (.string ent.s) (.int .i64 ent.k)) fun i hi e=>by omega)
    clear fB y0 y1 y2 y3 y4 b0 b1 b2 b3 b4
    generalize K t=wt at*
    go_wp2
    have z0:=aG bH.out 0 rfl
    have z1:=aG bH.out 1 rfl
    have z2:=aG bH.out 2 rfl
    have z3:=aG bH.out 3 rfl
    have z4:=aG bH.out 4 rfl
    refine bodyPost_ret (v:= .tuple #[.agg #[.slice ap pl cpp, .int .i64 ent.dc, .int .i64 ent.n, .string ent.s, .int .i64 ent.k], .bool true]) (by simp[results,Tryz.results117,go_sem,z0,z1,z2,z3,z4]) rfl ⟨⟨path, .slice ap pl cpp,ent⟩,true,rfl,bU.out,ag'.out (by trivial),fun _=>PG.out,_,_,_,rfl⟩
  ·obtain rfl:m=k:=by omega
   have x0:=aG hbx 0 rfl
   have x1:=aG hbx 1 rfl
   have x2:=aG hbx 2 rfl
   have x3:=aG hbx 3 rfl
   have x4:=aG hbx 4 rfl
   have f0:=aW hbx 0
   have f1:=aW hbx 1
   have f2:=aW hbx 2
   have f3:=aW hbx 3
   have f4:=aW hbx 4
   have zC:=lt_of_block hbx
   have bH:=ah (YW hbx (.slice none 0 0) (.int .i64 0) (.int .i64 0) (.string {data:= #[]}) (.int .i64 0))
   have bU:=ah (Md.out.trans (YV _ (w.heap.size+1) (.slice none 0 0) (.int .i64 0) (.int .i64 0) (.string {data:= #[]}) (.int .i64 0)) fun i hi e=>by omega)
   have uh:=ah (gK.out fun j hj=>lQ.out j (by rw[HM.out];exact hj))
   clear hbx
   go_wp2
   have z0:=aG bH.out 0 rfl
   have z1:=aG bH.out 1 rfl
   have z2:=aG bH.out 2 rfl
   have z3:=aG bH.out 3 rfl
   have z4:=aG bH.out 4 rfl
   refine bodyPost_ret (v:= .tuple #[.agg #[.slice none 0 0, .int .i64 0, .int .i64 0, .string {data:= #[]}, .int .i64 0], .bool false]) (by simp[results,Tryz.results117,go_sem,z0,z1,z2,z3,z4]) rfl ⟨⟨[], .slice none 0 0,⟨0,0, {data:= #[]},0⟩⟩,false,rfl,bU.out,uh.out,fun h=>(by cases h),_,_,_,rfl⟩
end Go.Proofs.YtlhmbkjdfjoilaaGreat
