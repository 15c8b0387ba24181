/- Words for the law MsgDecodes: PackGet3, PackGet4, PackGet5. -/
import Derived.Test.YtabkpccdnkjoiaaGreatMsgDecodesG0
import Derived.Test.YtabkpccdnkjoiaaGreatMsgDecodesG9
import Derived.Test.YtabkpccdnkjoiaaGreatMsgDecodesG14
import Derived.Test.YtabkpccdnkjoiaaGreatMsgDecodesG15
set_option linter.unusedSimpArgs false
set_option linter.unusedVariables false
set_option maxHeartbeats 32000000
set_option maxRecDepth 1000000
namespace Go.Proofs.YtabkpccdnkjoiaaGreat
open Go.RowKit
theorem Ur {Q:Nat→Prop} {w ww w':World} {ib h2:Nat} {s:Option (List UInt8)} {e2 k2:Value} {es2:List aQ} {tV:aS} {B:fA} {D:Nat} {st:Option (List UInt8)}
 (hin:dJ ww ib s) (hib:ib<w.heap.size) (hf:aj (Only ib) w ww) (h2n:w.heap.size≤h2) (ht:dh Q ww e2 k2 es2 tV) (hq:∀b,Q b→w.heap.size≤b∧b≠h2) (hts:aj (fun b=>b=h2) ww w') (hres:rD B D st es2 tV s):
 GetPost B D st ib w (.returned (.agg #[e2,k2])) w':=by
 refine⟨e2,k2,es2,tV,s,rfl,ht.turn fun b hb hQ=>⟨hts.block b hb (hq b hQ).2,(hq b hQ).1⟩,hres,hin.keep hts fun j hj hs=>by have hs:j=h2:=hs;omega,hf.trans hts fun i hi hs=>by have hs:i=h2:=hs;omega⟩
theorem tX (Q:Nat→Prop) (w:World):dh Q w (.slice none 0 0) (.slice none 0 0) [] .nil:=
 ⟨⟨.inl ⟨none,rfl,rfl,rfl⟩,fun h=>absurd rfl h⟩,[],⟨.inl ⟨none,rfl,rfl,rfl⟩,fun h=>absurd rfl h⟩,rfl⟩
theorem Us:∀(D:Nat) (ib:Nat) (st:Option (List UInt8)) (w:World),D≤5→dJ w ib st→(leftOf st).length≤60000→Calls Tryz.prog 173 #[.pointer (some ⟨ib,0,none⟩), .int .i64 D] w (GetPost gG D st ib w):=by
 intro D
 induction D with
 |zero=>intro ib st w _ h _;exact abv ib st w h
 |succ D Fg=>
  intro ib st w hD h hl
  obtain⟨i0,hi,hz0,hz1,hz2⟩:=info_parts MC
  obtain⟨i1,hi1,hy0,hy1,hy2⟩:=info_parts MF
  have IH:=ah Fg;clear Fg
  have hib:=h.lt
  have low:∀k,Only ib k→k<w.heap.size:=fun k hk=>by rw[show k=ib from hk];exact hib
  have Dv:=ah low;clear low
  have hdl:¬((D:Int)+1<1):=by omega
  have hd5:(D:Int)≤4:=by omega
  have hcast:((D+1:Nat):Int)=(D:Int)+1:=by omega
  rw[hcast]
  clear hcast
  obtain⟨WB,eU⟩:∃WB,WB=(w.alloc (.cells #[.slice none 0 0, .slice none 0 0] 30)).alloc (.cells #[.slice none 0 0, .slice none 0 0] 30):=⟨_,rfl⟩
  obtain⟨hb3,hfb,hbs⟩:=uJ w (.cells #[.slice none 0 0, .slice none 0 0] 30) #[.slice none 0 0, .slice none 0 0] 30
  have hb2:WB.heap[w.heap.size]?=some (.cells #[.slice none 0 0, .slice none 0 0] 30 (0,0)):=by rw[eU,Below.heap_alloc _ _ _ (by simp)];exact heap_alloc_new w _
  rw[←eU]at hb3 hfb hbs
  have rF:=ah (show jB (Only ib) (fun k=>k=w.heap.size) w WB (w.heap.size+1) [] [] (.slice none 0 0) (.slice none 0 0)from
   jB.start Dv.out (fun k hk=>by rw[hk];exact Nat.le_refl _) (fun k hk=>by rw[hk];exact lt_of_block hb2) (hfb.mono fun _ _ h=>h.elim) hb3 (Nat.le_succ _) (by omega))
  have HB2:=ah hb2;clear hb2
  have HI0:=ah (h.keep hfb fun _ _=>id);clear h
  have HL:=ah hl;clear hl
  clear hb3 hfb hbs
  have dF:=ah eU;clear eU
  have hno:¬Only ib w.heap.size:=fun h=>by have h:w.heap.size=ib:=h;omega
  have eP:=ah hno;clear hno
  have nX:=ah hib;clear hib
  go_enter Tryz.func173,Tryz.ntmps173
  go_wp2_with(go_at_call 174;rw[←dF.out];refine(Fa ib st WB HI0.out).mono ?_;rintro e w1 ⟨n,s1,rfl,hc1,hi1,hf1⟩;have Ut:n≤60000:=by {have:=hc1.left;have:=HL.out;omega};have oL:=ah (Nat.le_trans hc1.less HL.out);have bH:=ah hc1;clear hc1;have HI1:=ah hi1;clear hi1;have fZ:=ah (rF.out.pO hf1);have Uu:=ah (hf1.blk HB2.out eP.out);clear hf1)
  go_loopw [13] (fun i ww=>∃(k:Nat) (es:List aQ) (s:Option (List UInt8)) (ev:Value),k≤n∧i= .int .i64 k∧wH gG s1 k es s∧dJ ww ib s∧(leftOf s).length≤60000∧jB (Only ib) (fun k=>k=w.heap.size) w ww (w.heap.size+1) es [] ev (.slice none 0 0)∧ww.heap[w.heap.size]?=some (.cells #[.slice none 0 0, .slice none 0 0] 30 (0,0))) (fun i _=>n-(intOf i).toNat)
  case atStart=>exact⟨0,[],s1,_,Nat.zero_le _,rfl, .zero,HI1.out,oL.out,fZ.out,Uu.out⟩
  case round=>
   clear fZ Uu HI1 oL rF HI0 HB2 dF
   obtain⟨k,es,s,ev,hk,rfl,hrun,hin,hls,hg,hb2⟩:=hrel
   have jA:=ah hrun;clear hrun
   have qF:=ah hin;clear hin
   have Bz:=ah hls;clear hls
   have HB2:=ah hb2;clear hb2
   have hlen:es.length=k:=jA.out.len
   obtain⟨aV,cV,rfl⟩:=(Rd.own hg.wJ).sl
   by_cases hlt:k<n
   ·obtain⟨e,t1,t2,t3,t4,g1,g2,g3,g4⟩:=pJ.total gG s
    have fZ:=ah g1
    have HG2:=ah g2
    have gW:=ah g3
    have tY:=ah g4
    have NG:=ah (show pJ gG s e t4 from⟨t1,t2,t3,g1,g2,g3,g4⟩)
    clear g1 g2 g3 g4
    rw[hlen]at hg
    have rG:=ah hg;clear hg
    go_wp2_with(first
     |(go_at_call 56;refine(lG ib t1 1099511627776 e.n t2 _ HI3.out HG2.out (by omega) (by omega)).mono ?_;rintro e1 w4 ⟨rfl,hi4,hf4⟩;have HI4:=ah hi4;clear hi4;have iI:=ah hf4;clear hf4)
     |(go_at_call 56;refine(lG ib s 4 e.dc t1 _ qF.out fZ.out (by omega) (by omega)).mono ?_;rintro e1 w3 ⟨rfl,hi3,hf3⟩;have HI3:=ah hi3;clear hi3;have HF3:=ah hf3;clear hf3))
    have hll:=fZ.out.left
    have hl2:=HG2.out.left
    have hl3:=gW.out.left
    have hl4:=tY.out.left
    have nV:=ah (show(leftOf t4).length≤60000 by have:=Bz.out;omega)
    clear hll hl2 hl3 hl4
    have hsp:(w4.alloc (.cells #[.int .i64 e.dc, .int .i64 e.n] 170)).heap[w4.heap.size]?=some (.cells #[.int .i64 e.dc, .int .i64 e.n] 170 (0,0)):=heap_alloc_new w4 _
    have hgw:=(((rG.out.pO HF3.out).pO iI.out).aJ (aj.alloc ay w4 (.cells #[.int .i64 e.dc, .int .i64 e.n] 170))).aJ (aj.drew ay _)
    have hiw:dJ (w4.alloc (.cells #[.int .i64 e.dc, .int .i64 e.n] 170)).drew ib t2:=(HI4.out.keep (aj.alloc ay w4 _) (fun _ _=>id)).keep (aj.drew ay _) fun _ _=>id
    have hbw:(w4.alloc (.cells #[.int .i64 e.dc, .int .i64 e.n] 170)).drew.heap[w.heap.size]?=some (.cells #[.slice none 0 0, .slice none 0 0] 30 (0,0)):=(aj.drew ay _).blk ((aj.alloc ay w4 _).blk (iI.out.blk (HF3.out.blk HB2.out eP.out) eP.out) id) id
    have hsz0:(w4.alloc (.cells #[.int .i64 e.dc, .int .i64 e.n] 170)).drew.heap.size=w4.heap.size+1:=by show(w4.alloc _).heap.size=_;simp
    have hwl:w.heap.size<w4.heap.size:=lt_of_block (iI.out.blk (HF3.out.blk HB2.out eP.out) eP.out)
    have hw4:w.heap.size+1<w4.heap.size:=lt_of_block ((rG.out.pO HF3.out).pO iI.out).b3
    have Fh:=ah hgw;clear hgw
    have NH:=ah hiw;clear hiw
    have Fj:=ah hbw;clear hbw
    have IW:=ah hsz0;clear hsz0
    have tu:=ah hsp;clear hsp
    have hown:∀b,(Value.slice aV k cV).ownBlock=some b→b<w4.heap.size:=fun b hb=>E_ ((rG.out.pO HF3.out).pO iI.out).wJ b hb
    go_wp2_with fail
    refine ku (S:=fun w'=>w'.cell? ⟨w4.heap.size,0,none⟩=some (.int .i64 e.dc)∧w'.cell? ⟨w4.heap.size,1,none⟩=some (.int .i64 e.n)∧w'.cell? ⟨w.heap.size+1,0,none⟩=some (.slice aV k cV)) 11 (by kernel_rfl) ⟨au tu.out 0 rfl,au tu.out 1 rfl,au Fh.out.b3 0 rfl⟩ ?_
    intro hS
    clear tu rG HB2 HI3 HI4 qF HF3 iI
    generalize (w4.alloc (.cells #[.int .i64 e.dc, .int .i64 e.n] 170)).drew=Y0 at*
    have hni:¬Only ib w4.heap.size:=fun h=>by have h:w4.heap.size=ib:=h;have:=nX.out;omega
    have Fp:¬Only ib (w.heap.size+1):=fun h=>by have h:w.heap.size+1=ib:=h;have:=nX.out;omega
    have Jt:=ah hni;clear hni
    have Fq:=ah Fp;clear Fp
    refine aU 0 20 rfl rfl (v:=?_) (.inl ⟨by rfl,?_⟩) ?_
    rotate_left 1
    ·(intro w hSw;(try dsimp only at hSw);go_simp;(try with_reducible rfl))
    refine aU 1 21 rfl rfl (v:=?_) (.inl ⟨by rfl,?_⟩) ?_
    rotate_left 1
    ·(intro w hSw;(try dsimp only at hSw);go_simp;(try with_reducible rfl))
    try simp only[Act.put,aN,aO,aP]
    refine aU 2 22 rfl rfl (v:=?_) (.inl ⟨by rfl,?_⟩) ?_
    rotate_left 1
    ·(intro w hSw;(try dsimp only at hSw);go_simp;(try with_reducible rfl))
    refine aU 3 23 rfl rfl (v:=?_) (.inl ⟨by rfl,?_⟩) ?_
    rotate_left 1
    ·(intro w hSw;(try dsimp only at hSw);go_simp;(try with_reducible rfl))
    try simp only[Act.put,aN,aO,aP]
    refine aU 5 25 rfl rfl (v:=?_) (.inl ⟨by rfl,?_⟩) ?_
    rotate_left 1
    ·(intro w hSw;(try dsimp only at hSw);go_simp;(try with_reducible rfl))
    try simp only[Act.put,aN,aO,aP]
    refine bJ (i:=4) (by kernel_rfl) rfl (fun K hK=>?_)
    go_simp
    refine(Tt ib t2 30 e.s t3 _ NH.out gW.out (by omega) (by omega)).mono ?_
    rintro e1 Y1 ⟨rfl,hi5,hf5⟩
    have hS1:Y1.cell? ⟨w4.heap.size,0,none⟩=some (.int .i64 e.dc)∧Y1.cell? ⟨w4.heap.size,1,none⟩=some (.int .i64 e.n)∧Y1.cell? ⟨w.heap.size+1,0,none⟩=some (.slice aV k cV):=⟨hf5.cell' hS.1 Jt.out,hf5.cell' hS.2.1 Jt.out,hf5.cell' hS.2.2 Fq.out⟩
    refine hK.out _ _ hS1 ?_
    clear hK K hS
    have zh:=ah hi5;clear hi5
    have iJ:=ah hf5;clear hf5
    try simp only[Act.put,aN,aO,aP]
    refine bJ (i:=6) (by kernel_rfl) rfl (fun K hK=>?_)
    go_simp
    refine(lG ib t3 1099511627776 e.k t4 _ zh.out tY.out (by omega) (by omega)).mono ?_
    rintro e1 Y2 ⟨rfl,vF,fF⟩
    have hS2:Y2.cell? ⟨w4.heap.size,0,none⟩=some (.int .i64 e.dc)∧Y2.cell? ⟨w4.heap.size,1,none⟩=some (.int .i64 e.n)∧Y2.cell? ⟨w.heap.size+1,0,none⟩=some (.slice aV k cV):=⟨fF.cell' hS1.1 Jt.out,fF.cell' hS1.2.1 Jt.out,fF.cell' hS1.2.2 Fq.out⟩
    refine hK.out _ _ hS2 ?_
    clear hK K hS1
    have NI:=ah vF;clear vF
    have nY:=ah ((Fh.out.pO iJ.out).pO fF)
    have jm:=ah (fF.blk (iJ.out.blk Fj.out eP.out) eP.out)
    have hy4:w4.heap.size<Y2.heap.size:=by have:=iJ.out.size;have:=fF.size;have:=IW.out;omega
    clear fF
    try simp only[Act.put,aN,aO,aP]
    refine aU 7 27 rfl rfl (v:=?_) (.inl ⟨by rfl,?_⟩) ?_
    rotate_left 1
    ·(intro w hSw;(try dsimp only at hSw);go_simp;(try with_reducible rfl))
    try simp only[Act.put,aN,aO,aP]
    refine bJ (i:=8) (by kernel_rfl) rfl (fun K hK=>?_)
    go_simp
    have hS3:(Y2.alloc (.cells #[.int .i64 e.dc, .int .i64 e.n, .string e.s, .int .i64 e.k] 172)).cell? ⟨w4.heap.size,0,none⟩=some (.int .i64 e.dc)∧(Y2.alloc (.cells #[.int .i64 e.dc, .int .i64 e.n, .string e.s, .int .i64 e.k] 172)).cell? ⟨w4.heap.size,1,none⟩=some (.int .i64 e.n)∧(Y2.alloc (.cells #[.int .i64 e.dc, .int .i64 e.n, .string e.s, .int .i64 e.k] 172)).cell? ⟨w.heap.size+1,0,none⟩=some (.slice aV k cV):=⟨(aj.alloc ay Y2 _).cell' hS2.1 id,(aj.alloc ay Y2 _).cell' hS2.2.1 id,(aj.alloc ay Y2 _).cell' hS2.2.2 id⟩
    refine hK.out _ _ hS3 ?_
    clear hK K
    try simp only[Act.put,aN,aO,aP]
    refine bJ (i:=9) (by kernel_rfl) rfl (fun K hK=>?_)
    have heo:=nY.out.wJ
    rw[hlen]at heo
    refine Js Y2 [.int .i64 e.dc, .int .i64 e.n, .string e.s, .int .i64 e.k] rfl (.tmp 21) (.tmp 28) 27 rfl 172 i0 _ 4 40 Tryz.underlying27 hi hz0 hz1 hz2 (by decide) (by decide) (.slice aV k cV) k _ heo 1 1 (by simp[Act.eval]) (by simp[Act.eval]) rfl (by simp[Value.oneCell']) (by simp only[maxLen];omega) (by omega) ?_
    clear heo
    intro ad cc w6 kX dV kY
    have hn3:¬eY (.slice aV k cV) (w.heap.size+1):=fun h=>(nY.out.rE _ h).2.2 rfl
    have hn2:¬eY (.slice aV k cV) w.heap.size:=fun h=>(nY.out.rE _ h).2.1 rfl
    have hrow:w6.cell? ⟨w.heap.size+1,0,none⟩=some (.slice aV k cV):=dV.cell' hS2.2.2 hn3
    have hcf:w6.frozen? ⟨w.heap.size+1,0,none⟩=false:=aG (dV.blk nY.out.b3 hn3) 0
    have hb6:=dV.blk jm.out hn2
    have vF:dJ w6 ib t4:=NI.out.keep dV fun j hj hs=>by
     have:=(nY.out.rE j hs).1
     have:=nX.out
     omega
    have hset:aj (Only (w.heap.size+1)) w6 (w6.setCell ⟨w.heap.size+1,0,none⟩ (.slice ad (k+1) cc)):=dG _ _ _ _
    have Fb:=ah (vF.keep hset fun j hj hs=>by have hs:j=w.heap.size+1:=hs;have:=nX.out;omega)
    have jP:=ah (hset.blk hb6 fun hs=>by have hs:w.heap.size=w.heap.size+1:=hs;omega)
    have u_:=ah (nY.out.Um (e:=e) (ev':= .slice ad (k+1) cc) (w':=w6) (by rw[hlen];exact kX) dV kY)
    have NJ:w.heap.size+1<w6.heap.size:=lt_of_block (dV.blk nY.out.b3 hn3)
    have hS6:w6.cell? ⟨w4.heap.size,0,none⟩=some (.int .i64 e.dc)∧w6.cell? ⟨w4.heap.size,1,none⟩=some (.int .i64 e.n)∧w6.cell? ⟨w.heap.size+1,0,none⟩=some (.slice aV k cV):=⟨dV.cell' hS2.1 fun h=>Nat.lt_irrefl _ (hown _ h),dV.cell' hS2.2.1 fun h=>Nat.lt_irrefl _ (hown _ h),hrow⟩
    refine hK.out _ _ hS6 ?_
    clear hK K kX dV kY hn3 hn2 hb6 vF hset hS3 hS2
    try simp only[Act.put,aN,aO,aP]
    refine aU 10 30 rfl rfl (v:=?_) (.inl ⟨by rfl,?_⟩) ?_
    rotate_left 1
    ·(intro w hSw;(try dsimp only at hSw);go_simp;(try with_reducible rfl))
    try simp only[Act.put,aN,aO,aP]
    refine iC (by kernel_rfl) (by kernel_rfl) rfl (fun K hK=>?_)
    go_simp
    refine hK.out _ _ ?_
    clear hK K hrow hcf
    go_wp2
    go_roundw
    case rel=>exact⟨k+1,es++ [e],t4,_,by omega,by go_num, .snoc jA.out NG.out,Fb.out,nV.out,u_.out,jP.out⟩
    case measure=>simp[intOf];omega
   ·obtain rfl:n=k:=by omega
    clear hlt hk
    rw[hlen]at hg
    have rG:=ah hg;clear hg
    go_wp2_with(go_at_call 174;refine(Fa ib s wr qF.out).mono ?_;rintro e w3 ⟨m,s3,rfl,hc3,hi3,hf3⟩;have hm6:m≤60000:=by {have:=hc3.left;have:=Bz.out;omega};have lU:=ah (Nat.le_trans hc3.less Bz.out);have mP:=ah hc3;clear hc3;have HI3:=ah hi3;clear hi3;have gW:=ah (rG.out.pO hf3);have HB3:=ah (hf3.blk HB2.out eP.out);clear hf3)
    go_loopw [34] (fun i ww=>∃(k:Nat) (l:List gB) (t:Option (List UInt8)) (kv:Value),k≤m∧i= .int .i64 k∧l.length=k∧vw gG D s3 m l t∧dJ ww ib t∧(leftOf t).length≤60000∧jB (Only ib) (fun k=>k=w.heap.size) w ww (w.heap.size+1) es l (.slice aV n cV) kv∧ww.heap[w.heap.size]?=some (.cells #[.slice none 0 0, .slice none 0 0] 30 (0,0))) (fun i _=>m-(intOf i).toNat)
    case atStart=>exact⟨0,[],s3,_,Nat.zero_le _,rfl,rfl, .start _ _ _ _,HI3.out,lU.out,gW.out,HB3.out⟩
    case round=>
     clear gW HB3 HI3 lU rG HB2 qF
     obtain⟨k,l,t,kv,hk,rfl,hll,hkv,hin,hlt4,hg,hb2⟩:=hrel
     have BA:=ah hkv;clear hkv
     have qF:=ah hin;clear hin
     have nV:=ah hlt4;clear hlt4
     have HB2:=ah hb2;clear hb2
     obtain⟨aK,cK,rfl⟩:=(Rd.own hg.Bv).sl
     rw[hll]at hg
     have rG:=ah hg;clear hg
     have HBAD:=ah (oN ib t wr qF.out)
     by_cases hlt:k<m
     ·cases t with
      |none=>
       have jR:=ah (TN wG (M:=60000) (by omega) (by have:=HL.out;omega) bH.out jA.out mP.out BA.out [] .nil)
       have HF:=ah rG.out.aH
       have z0:=au HB2.out 0 rfl
       have z1:=au HB2.out 1 rfl
       have f0:=aG HB2.out 0
       have f1:=aG HB2.out 1
       have hl2:=lt_of_block HB2.out
       go_wp2_with(go_at_call 58;refine HBAD.out.mono ?_;rintro e w4 ⟨rfl,rfl⟩)
       clear z0 z1
       have y0:=au (bC (bC HB2.out 0 (.slice none 0 0)) 1 (.slice none 0 0)) 0 rfl
       have y1:=au (bC (bC HB2.out 0 (.slice none 0 0)) 1 (.slice none 0 0)) 1 rfl
       have hts:aj (Only w.heap.size) wr ((wr.setCell ⟨w.heap.size,0,none⟩ (.slice none 0 0)).setCell ⟨w.heap.size,1,none⟩ (.slice none 0 0)):=fV _ _ _ _
       exact bodyPost_ret (v:= .agg #[.slice none 0 0, .slice none 0 0]) (by simp[results,Tryz.results173,go_sem,y0,y1]) rfl (Ur qF.out nX.out HF.out (Nat.le_refl _) (tX (fun b=>w.heap.size≤b∧b≠w.heap.size) wr) (fun b h=>h) hts jR.out)
      |some r=>
       obtain⟨key,t1,g1⟩:=mX.total (some r) 30
       have HT1:=ah g1;clear g1
       have hgw:=rG.out.aJ (aj.drew ay wr)
       have hiw:dJ wr.drew ib (some r):=qF.out.keep (aj.drew ay _) fun _ _=>id
       have hbw:=(aj.drew ay wr).blk HB2.out id
       have Fh:=ah hgw;clear hgw
       have NH:=ah hiw;clear hiw
       have Fj:=ah hbw;clear hbw
       have Fv:=ah (Nat.le_trans HT1.out.left nV.out)
       have Fp:¬Only ib (w.heap.size+1):=fun h=>by have h:w.heap.size+1=ib:=h;have:=nX.out;omega
       have Fq:=ah Fp;clear Fp
       have hd1:IntKind.i64.wrap ((D:Int)+1-1)=D:=by rw[IntKind.wrap_i64];omega
       have hd2:IntKind.i64.wrap (D:Int)=D:=by rw[IntKind.wrap_i64];omega
       go_wp2_with(go_at_call 58;refine HBAD.out.mono ?_;rintro e w4 ⟨rfl,rfl⟩)
       refine ku (S:=fun w'=>w'.cell? ⟨w.heap.size+1,1,none⟩=some (.slice aK k cK)) 12 (by kernel_rfl) (au Fh.out.b3 1 rfl) ?_
       intro hS
       clear rG HB2 qF
       generalize World.drew _=Y0 at*
       refine aU 0 39 rfl rfl (v:=?_) (.inl ⟨by rfl,?_⟩) ?_
       rotate_left 1
       ·(intro w hSw;(try dsimp only at hSw);go_simp;(try with_reducible rfl))
       refine aU 1 40 rfl rfl (v:=?_) (.inl ⟨by rfl,?_⟩) ?_
       rotate_left 1
       ·(intro w hSw;(try dsimp only at hSw);go_simp;(try with_reducible rfl))
       try simp only[Act.put,aN,aO,aP]
       refine aU 2 41 rfl rfl (v:=?_) (.inl ⟨by rfl,?_⟩) ?_
       rotate_left 1
       ·(intro w hSw;(try dsimp only at hSw);go_simp;(try with_reducible rfl))
       refine aU 4 43 rfl rfl (v:=?_) (.inl ⟨by rfl,?_⟩) ?_
       rotate_left 1
       ·(intro w hSw;(try dsimp only at hSw);go_simp;(try with_reducible rfl))
       try simp only[Act.put,aN,aO,aP]
       refine aU 5 44 rfl rfl (v:=?_) (.inl ⟨by rfl,?_⟩) ?_
       rotate_left 1
       ·(intro w hSw;(try dsimp only at hSw);go_simp;(try with_reducible rfl))
       refine aU 6 45 rfl rfl (v:=?_) (.inl ⟨by rfl,?_⟩) ?_
       rotate_left 1
       ·(intro w hSw;(try dsimp only at hSw);go_simp;(try with_reducible rfl))
       try simp only[Act.put,aN,aO,aP]
       refine bJ (i:=3) (by kernel_rfl) rfl (fun K hK=>?_)
       go_simp
       refine(Tt ib (some r) 30 key t1 _ NH.out HT1.out (by omega) (by omega)).mono ?_
       rintro e1 Y1 ⟨rfl,hi5,hf5⟩
       have hS1:Y1.cell? ⟨w.heap.size+1,1,none⟩=some (.slice aK k cK):=hf5.cell' hS Fq.out
       refine hK.out _ _ hS1 ?_
       clear hK K hS
       have zh:=ah hi5;clear hi5
       have xW:=ah (Fh.out.pO hf5)
       have NK:=ah (hf5.blk Fj.out eP.out)
       clear hf5
       try simp only[Act.put,aN,aO,aP]
       refine bJ (i:=7) (by kernel_rfl) rfl (fun K hK=>?_)
       go_simp
       refine(IH.out ib t1 Y1 (by omega) zh.out Fv.out).mono ?_
       rintro e1 Y2 ⟨IX,IY,es3,ks3,t2,rfl,lD,hgr,vF,fF⟩
       obtain⟨a3,c3,rfl⟩:=lD.ents.rd.sl
       obtain⟨os3,fE,-⟩:=lD.kids
       obtain⟨a4,c4,rfl⟩:=fE.rd.sl
       clear fE
       have hS2:Y2.cell? ⟨w.heap.size+1,1,none⟩=some (.slice aK k cK):=fF.cell' hS1 Fq.out
       have NI:=ah vF;clear vF
       have Fz:=ah hgr;clear hgr
       have NM:=ah (xW.out.kid lD fF.size);clear lD
       have nY:=ah (xW.out.pO fF)
       have jm:=ah (fF.blk NK.out eP.out)
       clear fF
       generalize es3.length=n3 at*
       generalize ks3.len=m3 at*
       refine hK.out _ _ hS2 ?_
       clear hK K hS1
       try simp only[Act.put,aN,aO,aP]
       refine aU 8 47 rfl rfl (v:=?_) (.inl ⟨by rfl,?_⟩) ?_
       rotate_left 1
       ·(intro w hSw;(try dsimp only at hSw);go_simp;(try with_reducible rfl))
       try simp only[Act.put,aN,aO,aP]
       refine bJ (i:=9) (by kernel_rfl) rfl (fun K hK=>?_)
       go_simp
       have hS3:(Y2.alloc (.cells #[.string key, .slice a3 n3 c3, .slice a4 m3 c4] 83)).cell? ⟨w.heap.size+1,1,none⟩=some (.slice aK k cK):=(aj.alloc ay Y2 _).cell' hS2 id
       refine hK.out _ _ hS3 ?_
       clear hK K
       try simp only[Act.put,aN,aO,aP]
       refine bJ (i:=10) (by kernel_rfl) rfl (fun K hK=>?_)
       have heo:=nY.out.Bv
       rw[hll]at heo
       refine Js Y2 [.string key, .slice a3 n3 c3, .slice a4 m3 c4] rfl (.tmp 40) (.tmp 48) 28 rfl 83 i1 _ 3 64 Tryz.underlying28 hi1 hy0 hy1 hy2 (by decide) (by decide) (.slice aK k cK) k _ heo 1 1 (by simp[Act.eval]) (by simp[Act.eval]) rfl (by simp[Value.oneCell']) (by simp only[maxLen];omega) (by omega) ?_
       clear heo
       intro ad cc w6 kX dV kY
       have hn3:¬eY (.slice aK k cK) (w.heap.size+1):=fun h=>(nY.out.knew _ h).2.2.1 rfl
       have hn2:¬eY (.slice aK k cK) w.heap.size:=fun h=>(nY.out.knew _ h).2.1 rfl
       have hrow:w6.cell? ⟨w.heap.size+1,1,none⟩=some (.slice aK k cK):=dV.cell' hS2 hn3
       have hcf:w6.frozen? ⟨w.heap.size+1,1,none⟩=false:=aG (dV.blk nY.out.b3 hn3) 1
       have hb6:=dV.blk jm.out hn2
       have vF:dJ w6 ib t2:=NI.out.keep dV fun j hj hs=>by
        have:=(nY.out.knew j hs).1
        have:=nX.out
        omega
       have hset:aj (Only (w.heap.size+1)) w6 (w6.setCell ⟨w.heap.size+1,1,none⟩ (.slice ad (k+1) cc)):=dG _ _ _ _
       have Fb:=ah (vF.keep hset fun j hj hs=>by have hs:j=w.heap.size+1:=hs;have:=nX.out;omega)
       have jP:=ah (hset.blk hb6 fun hs=>by have hs:w.heap.size=w.heap.size+1:=hs;omega)
       have u_:=ah (nY.out.Un (q:=⟨key,es3,ks3, .slice a3 n3 c3, .slice a4 m3 c4⟩) (kv':= .slice ad (k+1) cc) (w':=w6) NM.out (by rw[hll];exact kX) dV kY)
       have NP:=ah (BA.out.step (q:=⟨key,es3,ks3, .slice a3 n3 c3, .slice a4 m3 c4⟩) wG (by omega) HT1.out Fz.out)
       have NJ:w.heap.size+1<w6.heap.size:=lt_of_block (dV.blk nY.out.b3 hn3)
       refine hK.out _ _ hrow ?_
       clear hK K kX dV kY hn3 hn2 hb6 vF hset hS3 hS2
       try simp only[Act.put,aN,aO,aP]
       refine aU 11 50 rfl rfl (v:=?_) (.inl ⟨by rfl,?_⟩) ?_
       rotate_left 1
       ·(intro w hSw;(try dsimp only at hSw);go_simp;(try with_reducible rfl))
       try simp only[Act.put,aN,aO,aP]
       refine iC (by kernel_rfl) (by kernel_rfl) rfl (fun K hK=>?_)
       go_simp
       refine hK.out _ _ ?_
       clear hK K hrow hcf
       go_wp2
       go_roundw
       case rel=>exact⟨k+1,l++ [⟨key,es3,ks3, .slice a3 n3 c3, .slice a4 m3 c4⟩],t2,_,by omega,by go_num,by simp[hll],NP.out,Fb.out,Nat.le_trans Fz.out.left Fv.out,u_.out,jP.out⟩
       case measure=>simp[intOf];omega
     ·obtain rfl:m=k:=by omega
      have jR:=ah (TM wG (M:=60000) (by omega) (by have:=HL.out;omega) bH.out jA.out mP.out BA.out hll)
      have nK:=ah rG.out.done
      have HF:=ah rG.out.aH
      have y0:=au rG.out.b3 0 rfl
      have y1:=au rG.out.b3 1 rfl
      have z0:=au HB2.out 0 rfl
      have z1:=au HB2.out 1 rfl
      have f0:=aG HB2.out 0
      have f1:=aG HB2.out 1
      have hl2:=lt_of_block HB2.out
      go_wp2
      clear y0 y1 z0 z1
      have y0:=au (bC (bC HB2.out 0 (.slice aV n cV)) 1 (.slice aK m cK)) 0 rfl
      have y1:=au (bC (bC HB2.out 0 (.slice aV n cV)) 1 (.slice aK m cK)) 1 rfl
      have hts:aj (Only w.heap.size) wr ((wr.setCell ⟨w.heap.size,0,none⟩ (.slice aV n cV)).setCell ⟨w.heap.size,1,none⟩ (.slice aK m cK)):=fV _ _ _ _
      exact bodyPost_ret (v:= .agg #[.slice aV n cV, .slice aK m cK]) (by simp[results,Tryz.results173,go_sem,y0,y1]) rfl (Ur qF.out nX.out HF.out (Nat.le_refl _) nK.out (fun b h=>⟨h.1,h.2.1⟩) hts jR.out)
open Go.RowKit
theorem Uw (e:aQ):4≤(oO e).length:=by
 have h1:=rX e.dc
 have h2:=rX e.n
 have h3:=M_ e.s
 have h4:=rX e.k
 unfold oO
 simp only[List.length_append];omega
theorem abx (s:Int×Int×Int):3≤(encS s).length:=by
 have h1:=rX s.1
 have h2:=rX s.2.1
 have h3:=rX s.2.2
 unfold encS
 simp only[List.length_append];omega
theorem Ju {α:Type} {f:α→List UInt8} {m:Nat} (hf:∀a,m≤(f a).length):∀l:List α,m*l.length≤(l.flatMap f).length
 |[]=>by simp
 |a::l=>by
  have:=Ju hf l
  have:=hf a
  rw[List.flatMap_cons,List.length_append,List.length_cons,Nat.mul_succ];omega
theorem NQ:∀ks:aS,3*jE ks≤(jh ks).length
 | .nil=>Nat.le_refl _
 | .cons key es sub rest=>by
   have h1:=NQ sub
   have h2:=NQ rest
   have h3:4*es.length≤(jg es).length:=Ju Uw es
   have h4:=M_ key
   have h5:=rX es.length
   have h6:=rX sub.len
   unfold jh jE
   simp only[List.length_append]
   omega
theorem Ux (es:List aQ) (ks:aS):3*sizeT es ks≤(fM es ks).length:=by
 have h2:=NQ ks
 have h3:4*es.length≤(jg es).length:=Ju Uw es
 unfold fM sizeT
 simp only[List.length_append]
 omega
theorem aby (c:aX):3*c.length≤(lZ c).length:=by
 have h3:3*c.length≤(pI c).length:=Ju abx c
 unfold lZ
 simp only[List.length_append]
 omega
theorem aQ.bd.fits {B:fA} (hB:B.Ok) {e:aQ} (h:e.bd B):e.fits:=by
 obtain⟨h1,h2,h3,h4⟩:=h
 obtain⟨b1,b2,b3,b4⟩:=hB
 exact⟨⟨by omega,by omega⟩,⟨by omega,by omega⟩,⟨by omega,by omega⟩,by omega⟩
theorem aS.bd.ok {B:fA} (hB:B.Ok):∀ {ks:aS},ks.bd B→(jh ks).length≤140737488351232→ks.Ok
 | .nil,_,_=>trivial
 | .cons key es sub rest,h,hl=>by
   have hlim:((jF key++((bG es.length++(jg es++(bG sub.len++jh sub)))++jh rest)).length)≤140737488351232:=hl
   simp only[List.length_append]at hlim
   have h3:=Nc es sub
   have hb:=hB.s.2
   exact⟨by have:=h.1;omega,⟨by omega,fun e he=>(h.2.1 e he).fits hB⟩,by omega,aS.bd.ok hB h.2.2.1 (by omega),aS.bd.ok hB h.2.2.2 (by omega)⟩
theorem rC.tr {B:fA} (hB:B.Ok) {d:Nat} {bs rest:List UInt8} {es:List aQ} {ks:aS} (h:rC B d bs es ks rest) (hl:bs.length≤140737488351232):oI es ks∧3*sizeT es ks+rest.length≤bs.length:=by
 have h1:=Ux es ks
 have h2:=Nc es ks
 have he:=congrArg List.length h.eq
 rw[List.length_append]at he
 have h4:(fM es ks).length=(bG es.length).length+((jg es).length+((bG ks.len).length+(jh ks).length)):=by unfold fM;simp only[List.length_append]
 exact⟨⟨⟨by omega,fun e he=>(h.Jl e he).fits hB⟩,by omega,h.Dp.ok hB (by omega)⟩,by omega⟩
theorem NR:oI [] .nil:=⟨⟨by simp,fun e he=>by cases he⟩,by simp[aS.len],trivial⟩
theorem kH.sizes {st s:Option (List UInt8)} {es:List aQ} {ks:aS} (h:kH st es ks s):3*sizeT es ks+(leftOf s).length≤(leftOf st).length:=by
 rcases h with⟨r,rfl,_,rfl⟩|⟨rfl,rfl,rfl,_⟩
 ·have:=Ux es ks
  show _+r.length≤(fM es ks++r).length
  rw[List.length_append];omega
 ·have:sizeT [] .nil=0:=rfl
  rw[this]
  exact Nat.zero_le _
theorem kV.sizes {st s:Option (List UInt8)} {c:aX} (h:kV st c s):3*c.length+(leftOf s).length≤(leftOf st).length:=by
 rcases h with⟨r,rfl,_,rfl⟩|⟨rfl,rfl,_⟩
 ·have:=aby c
  show _+r.length≤(lZ c++r).length
  rw[List.length_append];omega
 ·exact Nat.zero_le _
open Go.RowKit
theorem abz {es:List aQ} {ks:aS} {bs r:List UInt8} (hg:rC gG 5 bs es ks r) (ib:Nat) (w:World) (h:dJ w ib (some bs)) (hl:bs.length≤60000):
 Calls Tryz.prog 173 #[.pointer (some ⟨ib,0,none⟩), .int .i64 5] w fun e w'=>∃ev kv,e= .returned (.agg #[ev,kv])∧dh (fun b=>w.heap.size≤b) w' ev kv es ks∧dJ w' ib (some r)∧aj (Only ib) w w':=by
 refine Calls.mono (Us 5 ib (some bs) w (Nat.le_refl _) h hl) fun e w' ⟨ev,kv,es',ks',s,he,ht,hr,hi,hf⟩=>?_
 rcases hr with⟨b2,r2,h1,h2,h3⟩|⟨_,h2⟩
 ·injection h1 with h1
  subst h1 h2
  have e2:fM es' ks'++r2=fM es ks++r:=by rw[←h3.eq,←hg.eq]
  obtain⟨⟨rfl,rfl⟩,rfl⟩:=ES e2
  exact⟨ev,kv,he,ht,hi,hf⟩
 ·exact absurd hg (h2 _ _ _ _ rfl)
theorem abA {st:Option (List UInt8)} (hg:∀bs es ks r,st=some bs→¬rC gG 5 bs es ks r) (ib:Nat) (w:World) (h:dJ w ib st) (hl:(leftOf st).length≤60000):
 Calls Tryz.prog 173 #[.pointer (some ⟨ib,0,none⟩), .int .i64 5] w fun e w'=>∃a n c a2 n2 c2,e= .returned (.agg #[.slice a n c, .slice a2 n2 c2])∧dJ w' ib none∧aj (Only ib) w w':=by
 refine Calls.mono (Us 5 ib st w (Nat.le_refl _) h hl) fun e w' ⟨ev,kv,es',ks',s,he,ht,hr,hi,hf⟩=>?_
 obtain⟨a0,c0,rfl⟩:=ht.ents.rd.sl
 obtain⟨os,hk,_⟩:=ht.kids
 obtain⟨a1,c1,rfl⟩:=hk.rd.sl
 rcases hr with⟨b2,r2,h1,h2,h3⟩|⟨rfl,_⟩
 ·exact absurd h3 (hg _ _ _ _ h1)
 ·exact⟨_,_,_,_,_,_,he,hi,hf⟩
theorem kH.tr {st s:Option (List UInt8)} {es:List aQ} {ks:aS} (h:kH st es ks s) (hl:(leftOf st).length≤60000):oI es ks:=by
 rcases h with⟨r,rfl,hr,rfl⟩|⟨rfl,rfl,rfl,_⟩
 ·exact((Nl EU hr).tr wG (Nat.le_trans hl (by decide))).1
 ·exact NR
def Uy (st:Option (List UInt8)) (ib:Nat) (w:World) (e:Ending) (w':World):Prop:=
 ∃ev kv es ks s,e= .returned (.agg #[ev,kv])∧dh (fun b=>w.heap.size≤b) w' ev kv es ks∧kH st es ks s∧dJ w' ib s∧aj (Only ib) w w'
theorem NS {Q:Nat→Prop} {w ww w':World} {ib:Nat} {s:Option (List UInt8)} {e2 k2:Value} {es2:List aQ} {tV:aS} {st:Option (List UInt8)}
 (hin:dJ ww ib s) (hib:ib<w.heap.size) (hf:aj (Only ib) w ww) (ht:dh Q ww e2 k2 es2 tV) (hq:∀b,Q b→w.heap.size≤b∧b≠w.heap.size) (hts:aj (fun b=>b=w.heap.size) ww w') (hres:kH st es2 tV s):
 Uy st ib w (.returned (.agg #[e2,k2])) w':=
 ⟨e2,k2,es2,tV,s,rfl,ht.turn fun b hb hQ=>⟨hts.block b hb (hq b hQ).2,(hq b hQ).1⟩,hres,hin.keep hts fun j hj hs=>by have hs:j=w.heap.size:=hs;omega,hf.trans hts fun i hi hs=>by have hs:i=w.heap.size:=hs;omega⟩
theorem abB (ib:Nat) (st:Option (List UInt8)) (w:World) (h:dJ w ib st) (hl:(leftOf st).length≤60000):
 Calls Tryz.prog 125 #[.pointer (some ⟨ib,0,none⟩)] w (Uy st ib w):=by
 have hib:=h.lt
 have hno:¬Only ib w.heap.size:=fun h=>by have h:w.heap.size=ib:=h;omega
 have eP:=ah hno;clear hno
 have HB0:=ah (heap_alloc_new w (.cells #[.slice none 0 0, .slice none 0 0] 30))
 have HI0:=ah (h.keep (aj.alloc ay w (.cells #[.slice none 0 0, .slice none 0 0] 30)) fun _ _=>id)
 have nX:=ah hib;clear hib
 have qG:=ah ((aj.alloc ay w (.cells #[.slice none 0 0, .slice none 0 0] 30)).mono (T:=Only ib) fun _ _ h=>h.elim)
 have zi:=ah (show(w.alloc (.cells #[.slice none 0 0, .slice none 0 0] 30)).heap.size=w.heap.size+1 by simp)
 clear h
 by_cases hg:∃bs es ks r,st=some bs∧rC gG 5 bs es ks r
 ·obtain⟨bs,es,ks,r,rfl,hg⟩:=hg
  have HG:=ah (abz hg ib _ HI0.out hl)
  have hok:=(hg.tr wG (Nat.le_trans hl (by decide))).1
  have dU:=ah (fun W Q ev kv (h:dh Q W ev kv es ks)=>IZ Q es ks W ev kv h hok)
  clear hok
  cases hr:dD 5 es ks with
  |true=>
   rw[hr]at dU
   have jR:=ah (tree_good (B:=gG) (st:=some bs) (rest:=r) (.inl ⟨bs,r,rfl,rfl,hg⟩) hr)
   clear hr hg
   go_enter Tryz.func125,Tryz.ntmps125
   go_wp2_with(first
    |(go_at_call 173;refine HG.out.mono ?_;rintro e w1 ⟨ev,kv,rfl,hta,hi1,hf1⟩;obtain⟨a3,c3,rfl⟩:=hta.ents.rd.sl;obtain⟨os3,fE,-⟩:=hta.kids;obtain⟨a4,c4,rfl⟩:=fE.rd.sl;clear fE
      have HB1:=ah (hf1.blk HB0.out eP.out)
      have gV:=ah hta;clear hta
      generalize es.length=n at*
      generalize ks.len=m at*
      have HI1:=ah hi1;clear hi1
      have bg:=ah (qG.out.trans hf1 fun _ _ h=>h)
      have hsz1:=hf1.size
      have afs:=ah hsz1;clear hsz1 hf1
      have HA1:=ah (aj.alloc ay w1 (.cells #[.slice a3 n c3, .slice a4 m c4] 30))
      have HX1:=ah (heap_alloc_new w1 (.cells #[.slice a3 n c3, .slice a4 m c4] 30)))
    |(go_at_call 58;refine(oN ib _ _ (HI1.out.keep HA1.out fun _ _=>id)).mono ?_;rintro e w2 ⟨rfl,rfl⟩)
    |(go_at_call 155;refine(dU.out _ _ _ _ (gV.out.aJ HA1.out)).mono ?_;rintro e w3 ⟨rfl,hf3⟩
      have hx3:=hf3.blk HX1.out id
      have z0:=au hx3 0 rfl
      have z1:=au hx3 1 rfl
      have hb3:=hf3.blk (HA1.out.blk HB1.out id) id
      have y0:=au hb3 0 rfl
      have y1:=au hb3 1 rfl
      have f0:=aG hb3 0
      have f1:=aG hb3 1
      have hl2:=lt_of_block hb3
      have hl3:=lt_of_block hx3
      have HB3:=ah hb3
      have HF3:=ah (HA1.out.aC hf3)
      clear hf3 hx3 hb3))
   clear y0 y1 z0 z1
   have y0:=au (bC (bC HB3.out 0 (.slice a3 n c3)) 1 (.slice a4 m c4)) 0 rfl
   have y1:=au (bC (bC HB3.out 0 (.slice a3 n c3)) 1 (.slice a4 m c4)) 1 rfl
   have hts:aj (Only w.heap.size) w3 ((w3.setCell ⟨w.heap.size,0,none⟩ (.slice a3 n c3)).setCell ⟨w.heap.size,1,none⟩ (.slice a4 m c4)):=fV _ _ _ _
   exact bodyPost_ret (v:= .agg #[.slice a3 n c3, .slice a4 m c4]) (by simp[results,Tryz.results125,go_sem,y0,y1]) rfl (NS (HI1.out.keep HF3.out fun _ _=>id) nX.out (bg.out.trans HF3.out fun _ _ h=>h.elim) (gV.out.aJ HF3.out) (fun b h=>by have:=zi.out;have h:(w.alloc (.cells #[.slice none 0 0, .slice none 0 0] 30)).heap.size≤b:=h;omega) hts jR.out)
  |false=>
   rw[hr]at dU
   have jR:=ah (TQ (B:=gG) (st:=some bs) (rest:=r) (.inl ⟨bs,r,rfl,rfl,hg⟩) hr)
   clear hr hg
   go_enter Tryz.func125,Tryz.ntmps125
   go_wp2_with(first
    |(go_at_call 173;refine HG.out.mono ?_;rintro e w1 ⟨ev,kv,rfl,hta,hi1,hf1⟩;obtain⟨a3,c3,rfl⟩:=hta.ents.rd.sl;obtain⟨os3,fE,-⟩:=hta.kids;obtain⟨a4,c4,rfl⟩:=fE.rd.sl;clear fE
      have HB1:=ah (hf1.blk HB0.out eP.out)
      have gV:=ah hta;clear hta
      generalize es.length=n at*
      generalize ks.len=m at*
      have HI1:=ah hi1;clear hi1
      have bg:=ah (qG.out.trans hf1 fun _ _ h=>h)
      clear hf1
      have HA1:=ah (aj.alloc ay w1 (.cells #[.slice a3 n c3, .slice a4 m c4] 30)))
    |(go_at_call 58;refine(oN ib _ _ (HI1.out.keep HA1.out fun _ _=>id)).mono ?_;rintro e w2 ⟨rfl,rfl⟩)
    |(go_at_call 155;refine(dU.out _ _ _ _ (gV.out.aJ HA1.out)).mono ?_;rintro e w3 ⟨rfl,hf3⟩;have HF3:=ah (HA1.out.aC hf3);clear hf3)
    |(go_at_call 123;obtain⟨a,c,hh⟩:=(HI1.out.keep HF3.out fun _ _=>id).heap;refine(pG ib _ _ w3 hh).mono ?_;rintro e w4 ⟨rfl,hi4,hf4⟩
      have HI4:=ah (show dJ w4 ib none from hi4);clear hi4 hh
      have hb3:=hf4.blk (HF3.out.blk HB1.out id) eP.out
      have y0:=au hb3 0 rfl
      have y1:=au hb3 1 rfl
      have f0:=aG hb3 0
      have f1:=aG hb3 1
      have hl2:=lt_of_block hb3
      have HB3:=ah hb3
      have iI:=ah ((bg.out.trans HF3.out fun _ _ h=>h.elim).trans hf4 fun _ _ h=>h)
      clear hf4 hb3))
   clear y0 y1
   have y0:=au (bC (bC HB3.out 0 (.slice none 0 0)) 1 (.slice none 0 0)) 0 rfl
   have y1:=au (bC (bC HB3.out 0 (.slice none 0 0)) 1 (.slice none 0 0)) 1 rfl
   have hts:aj (Only w.heap.size) w4 ((w4.setCell ⟨w.heap.size,0,none⟩ (.slice none 0 0)).setCell ⟨w.heap.size,1,none⟩ (.slice none 0 0)):=fV _ _ _ _
   exact bodyPost_ret (v:= .agg #[.slice none 0 0, .slice none 0 0]) (by simp[results,Tryz.results125,go_sem,y0,y1]) rfl (NS HI4.out nX.out iI.out (tX (fun b=>w.heap.size≤b∧b≠w.heap.size) w4) (fun b h=>h) hts jR.out)
 ·have hg':∀bs es ks r,st=some bs→¬rC gG 5 bs es ks r:=fun bs es ks r h1 h2=>hg ⟨bs,es,ks,r,h1,h2⟩
  have HG:=ah (abA hg' ib _ HI0.out hl)
  have jR:=ah (TR (B:=gG) (es:=[]) (ks:= .nil) EU (.inr ⟨rfl,hg'⟩:rD gG 5 st [] .nil none))
  clear hg hg'
  go_enter Tryz.func125,Tryz.ntmps125
  go_wp2_with(first
   |(go_at_call 173;refine HG.out.mono ?_;rintro e w1 ⟨a3,n,c3,a4,m,c4,rfl,hi1,hf1⟩
     have HB1:=ah (hf1.blk HB0.out eP.out)
     have HI1:=ah hi1;clear hi1
     have bg:=ah (qG.out.trans hf1 fun _ _ h=>h)
     clear hf1
     have HA1:=ah (aj.alloc ay w1 (.cells #[.slice a3 n c3, .slice a4 m c4] 30)))
   |(go_at_call 58;refine(oN ib _ _ (HI1.out.keep HA1.out fun _ _=>id)).mono ?_;rintro e w2 ⟨rfl,rfl⟩)
   |(go_at_call 123;obtain⟨a,c,hh⟩:=(HI1.out.keep HA1.out fun _ _=>id).heap;refine(pG ib _ _ _ hh).mono ?_;rintro e w4 ⟨rfl,hi4,hf4⟩
     have HI4:=ah (show dJ w4 ib none from hi4);clear hi4 hh
     have hb3:=hf4.blk (HA1.out.blk HB1.out id) eP.out
     have y0:=au hb3 0 rfl
     have y1:=au hb3 1 rfl
     have f0:=aG hb3 0
     have f1:=aG hb3 1
     have hl2:=lt_of_block hb3
     have HB3:=ah hb3
     have iI:=ah ((bg.out.trans HA1.out fun _ _ h=>h.elim).trans hf4 fun _ _ h=>h)
     clear hf4 hb3))
  clear y0 y1
  have y0:=au (bC (bC HB3.out 0 (.slice none 0 0)) 1 (.slice none 0 0)) 0 rfl
  have y1:=au (bC (bC HB3.out 0 (.slice none 0 0)) 1 (.slice none 0 0)) 1 rfl
  have hts:aj (Only w.heap.size) w4 ((w4.setCell ⟨w.heap.size,0,none⟩ (.slice none 0 0)).setCell ⟨w.heap.size,1,none⟩ (.slice none 0 0)):=fV _ _ _ _
  exact bodyPost_ret (v:= .agg #[.slice none 0 0, .slice none 0 0]) (by simp[results,Tryz.results125,go_sem,y0,y1]) rfl (NS HI4.out nX.out iI.out (tX (fun b=>w.heap.size≤b∧b≠w.heap.size) w4) (fun b h=>h) hts jR.out)
end Go.Proofs.YtabkpccdnkjoiaaGreat
