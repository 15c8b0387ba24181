/- Words for the law MsgSame: PackGet2, PackGet3, PackGet4, PackGet5. -/
import Derived.Test.YtabkpccdnkjoiaaGreatMsgSameG0
import Derived.Test.YtabkpccdnkjoiaaGreatMsgSameG9
import Derived.Test.YtabkpccdnkjoiaaGreatMsgSameG14
set_option linter.unusedSimpArgs false
set_option linter.unusedVariables false
set_option maxHeartbeats 32000000
set_option maxRecDepth 1000000
namespace Go.Proofs.YtabkpccdnkjoiaaGreat
open Go.RowKit
theorem b_.left {st s:Option (List UInt8)} {m v:Int} (h:b_ st m v s):(leftOf s).length≤(leftOf st).length:=by
 cases s with
 |none=>exact Nat.zero_le _
 |some r=>
  obtain⟨rfl,_⟩:=lI h
  show r.length≤(bD v++r).length
  rw[List.length_append];omega
theorem ny.left {st s:Option (List UInt8)} {m:Int} {v:ByteArray} (h:ny st m v s):(leftOf s).length≤(leftOf st).length:=by
 cases s with
 |none=>exact Nat.zero_le _
 |some r=>
  obtain⟨rfl,_⟩:=Ju h
  show r.length≤(iR v++r).length
  rw[List.length_append];omega
theorem jq.less {st s:Option (List UInt8)} {m:Int} {n:Nat} (h:jq st m n s):(leftOf s).length≤(leftOf st).length:=by
 cases s with
 |none=>exact Nat.zero_le _
 |some r=>
  obtain⟨rfl,_⟩:=h.good
  show r.length≤(bD n++r).length
  rw[List.length_append];omega
theorem rV.left {B:dR} {d:Nat} {st s:Option (List UInt8)} {es:List aG} {ks:aH} (h:rV B d st es ks s):(leftOf s).length≤(leftOf st).length:=by
 rcases h with⟨bs,r,rfl,rfl,h⟩|⟨rfl,_⟩
 ·show r.length≤bs.length
  rw[h.eq,List.length_append];omega
 ·exact Nat.zero_le _
theorem oK.total (B:dR) (st:Option (List UInt8)):∃(e:aG) (s1 s2 s3 s4:Option (List UInt8)),b_ st B.dc e.dc s1∧b_ s1 B.n e.n s2∧ny s2 B.s e.s s3∧b_ s3 B.k e.k s4:=by
 obtain⟨a,s1,h1⟩:=b_.total st B.dc
 obtain⟨b,s2,h2⟩:=b_.total s1 B.n
 obtain⟨c,s3,h3⟩:=ny.total s2 B.s
 obtain⟨d,s4,h4⟩:=b_.total s3 B.k
 exact⟨⟨a,b,c,d⟩,s1,s2,s3,s4,h1,h2,h3,h4⟩
def GetPost (B:dR) (D:Nat) (st:Option (List UInt8)) (ib:Nat) (w:World) (e:Ending) (w':World):Prop:=
 ∃ev kv es ks s,e= .returned (.agg #[ev,kv])∧bQ (fun b=>w.heap.size≤b) w' ev kv es ks∧rV B D st es ks s∧cu w' ib s∧aj (Only ib) w w'
theorem Yi (ib:Nat) (st:Option (List UInt8)) (w:World) (h:cu w ib st):Calls Tryz.prog 173 #[.pointer (some ⟨ib,0,none⟩), .int .i64 0] w (GetPost gB 0 st ib w):=by
 have hlt:=h.lt
 have HF:=ah (fun w1 (f:aj ay w w1)=>(h.keep f fun _ _=>id).heap)
 clear h
 obtain⟨WB,jA⟩:∃WB,WB=(w.alloc (.cells #[.slice none 0 0, .slice none 0 0] 30)).alloc (.cells #[.slice none 0 0, .slice none 0 0] 30):=⟨_,rfl⟩
 obtain⟨hb3,hfb,hbs⟩:=sZ w (.cells #[.slice none 0 0, .slice none 0 0] 30) #[.slice none 0 0, .slice none 0 0] 30
 have hb2:WB.heap[w.heap.size]?=some (.cells #[.slice none 0 0, .slice none 0 0] 30 (0,0)):=by rw[jA,Below.heap_alloc _ _ _ (by simp)];exact heap_alloc_new w _
 rw[←jA]at hb3 hfb hbs
 have HB2:=ah hb2;clear hb2
 have HB3:=ah hb3;clear hb3
 have bg:=ah hfb;clear hfb
 have uT:=ah hbs;clear hbs
 have dB:=ah jA;clear jA
 have hno:¬Only ib w.heap.size:=fun h=>by have h:w.heap.size=ib:=h;omega
 have PZ:¬Only ib (w.heap.size+1):=fun h=>by have h:w.heap.size+1=ib:=h;omega
 have dK:=ah hno;clear hno
 have JG:=ah PZ;clear PZ
 go_enter Tryz.func173,Tryz.ntmps173
 go_wp2_with(first
  |(go_at_call 123;rw[←dB.out];obtain⟨a,c,hh⟩:=HF.out WB bg.out;refine(ni ib _ _ WB hh).mono ?_;rintro e w1 ⟨rfl,hi2,hf2⟩;have HI1:=ah (show cu w1 ib none from hi2);clear hi2 hh;have bH:=ah hf2;clear hf2)
  |(go_at_call 174;refine(CO ib none w1 HI1.out).mono ?_;rintro e w2 ⟨n,s1,rfl,hc1,hi2,hf2⟩;obtain⟨rfl,rfl⟩:=hc1.none_;clear hc1;have HI2:=ah hi2;clear hi2;have HF2:=ah hf2;clear hf2))
 go_loopw [13] (fun i ww=>i= .int .i64 0∧ww=w2) (fun _ _=>0)
 case atStart=>exact⟨rfl,rfl⟩
 case round=>
  obtain⟨rfl,rfl⟩:=hrel
  go_wp2_with(go_at_call 174;refine(CO ib none wr HI2.out).mono ?_;rintro e w3 ⟨n,s1,rfl,hc1,hi2,hf2⟩;obtain⟨rfl,rfl⟩:=hc1.none_;clear hc1;have HI3:=ah hi2;clear hi2;have HF3:=ah hf2;clear hf2)
  go_loopw [34] (fun i ww=>i= .int .i64 0∧ww=w3) (fun _ _=>0)
  case atStart=>exact⟨rfl,rfl⟩
  case round=>
   obtain⟨rfl,rfl⟩:=hrel
   have k2:=HF3.out.blk (HF2.out.blk (bH.out.blk HB2.out dK.out) dK.out) dK.out
   have k3:=HF3.out.blk (HF2.out.blk (bH.out.blk HB3.out JG.out) JG.out) JG.out
   have y0:=aC k2 0 rfl
   have y1:=aC k2 1 rfl
   have f0:=bf k2 0
   have f1:=bf k2 1
   have z0:=aC k3 0 rfl
   have z1:=aC k3 1 rfl
   have hl2:=lt_of_block k2
   have K2:=ah k2;clear k2 k3
   go_wp2
   clear y0 y1
   have y0:=aC (bJ (bJ K2.out 0 (.slice none 0 0)) 1 (.slice none 0 0)) 0 rfl
   have y1:=aC (bJ (bJ K2.out 0 (.slice none 0 0)) 1 (.slice none 0 0)) 1 rfl
   refine bodyPost_ret (v:= .agg #[.slice none 0 0, .slice none 0 0]) (by simp[results,Tryz.results173,go_sem,y0,y1]) rfl ⟨_,_,[], .nil,none,rfl,?_,XR _ _ _ _,HI3.out.keep (xE _ _ _ _) ?_,?_⟩
   ·exact⟨⟨.inl ⟨none,rfl,rfl,rfl⟩,fun h=>absurd rfl h⟩,[],⟨.inl ⟨none,rfl,rfl,rfl⟩,fun h=>absurd rfl h⟩,rfl⟩
   ·intro j hj hs
    have hs:j=w.heap.size:=hs
    omega
   ·have f1:=(((bg.out.mono (T:=Only ib) fun _ _ h=>h.elim).trans bH.out fun _ _ h=>h).trans HF2.out fun _ _ h=>h).trans HF3.out fun _ _ h=>h
    exact f1.trans (xE _ _ _ _) fun i hi hs=>by have hs:i=w.heap.size:=hs;omega
open Go.RowKit
theorem P_ {Q:Nat→Prop} {w ww w':World} {ib h2:Nat} {s:Option (List UInt8)} {e2 k2:Value} {es2:List aG} {qR:aH} {B:dR} {D:Nat} {st:Option (List UInt8)}
 (hin:cu ww ib s) (hib:ib<w.heap.size) (hf:aj (Only ib) w ww) (h2n:w.heap.size≤h2) (ht:bQ Q ww e2 k2 es2 qR) (hq:∀b,Q b→w.heap.size≤b∧b≠h2) (hts:aj (fun b=>b=h2) ww w') (hres:rV B D st es2 qR s):
 GetPost B D st ib w (.returned (.agg #[e2,k2])) w':=by
 refine⟨e2,k2,es2,qR,s,rfl,ht.turn fun b hb hQ=>⟨hts.block b hb (hq b hQ).2,(hq b hQ).1⟩,hres,hin.keep hts fun j hj hs=>by have hs:j=h2:=hs;omega,hf.trans hts fun i hi hs=>by have hs:i=h2:=hs;omega⟩
theorem yS (Q:Nat→Prop) (w:World):bQ Q w (.slice none 0 0) (.slice none 0 0) [] .nil:=
 ⟨⟨.inl ⟨none,rfl,rfl,rfl⟩,fun h=>absurd rfl h⟩,[],⟨.inl ⟨none,rfl,rfl,rfl⟩,fun h=>absurd rfl h⟩,rfl⟩
theorem Qa:∀(D:Nat) (ib:Nat) (st:Option (List UInt8)) (w:World),D≤5→cu w ib st→(leftOf st).length≤60000→Calls Tryz.prog 173 #[.pointer (some ⟨ib,0,none⟩), .int .i64 D] w (GetPost gB D st ib w):=by
 intro D
 induction D with
 |zero=>intro ib st w _ h _;exact Yi ib st w h
 |succ D Qb=>
  intro ib st w hD h hl
  obtain⟨i0,hi,hz0,hz1,hz2⟩:=info_parts OA
  obtain⟨i1,hi1,hy0,hy1,hy2⟩:=info_parts OB
  have IH:=ah Qb;clear Qb
  have hib:=h.lt
  have low:∀k,Only ib k→k<w.heap.size:=fun k hk=>by rw[show k=ib from hk];exact hib
  have Ag:=ah low;clear low
  have hdl:¬((D:Int)+1<1):=by omega
  have hd5:(D:Int)≤4:=by omega
  have hcast:((D+1:Nat):Int)=(D:Int)+1:=by omega
  rw[hcast]
  clear hcast
  obtain⟨WB,jA⟩:∃WB,WB=(w.alloc (.cells #[.slice none 0 0, .slice none 0 0] 30)).alloc (.cells #[.slice none 0 0, .slice none 0 0] 30):=⟨_,rfl⟩
  obtain⟨hb3,hfb,hbs⟩:=sZ w (.cells #[.slice none 0 0, .slice none 0 0] 30) #[.slice none 0 0, .slice none 0 0] 30
  have hb2:WB.heap[w.heap.size]?=some (.cells #[.slice none 0 0, .slice none 0 0] 30 (0,0)):=by rw[jA,Below.heap_alloc _ _ _ (by simp)];exact heap_alloc_new w _
  rw[←jA]at hb3 hfb hbs
  have yT:=ah (show jE (Only ib) (fun k=>k=w.heap.size) w WB (w.heap.size+1) [] [] (.slice none 0 0) (.slice none 0 0)from
   jE.start Ag.out (fun k hk=>by rw[hk];exact Nat.le_refl _) (fun k hk=>by rw[hk];exact lt_of_block hb2) (hfb.mono fun _ _ h=>h.elim) hb3 (Nat.le_succ _) (by omega))
  have HB2:=ah hb2;clear hb2
  have HI0:=ah (h.keep hfb fun _ _=>id);clear h
  have HL:=ah hl;clear hl
  clear hb3 hfb hbs
  have dB:=ah jA;clear jA
  have hno:¬Only ib w.heap.size:=fun h=>by have h:w.heap.size=ib:=h;omega
  have dK:=ah hno;clear hno
  have lS:=ah hib;clear hib
  go_enter Tryz.func173,Tryz.ntmps173
  go_wp2_with(go_at_call 174;rw[←dB.out];refine(CO ib st WB HI0.out).mono ?_;rintro e w1 ⟨n,s1,rfl,hc1,hi1,hf1⟩;have hn6:n≤60000:=by {have:=hc1.left;have:=HL.out;omega};have pK:=ah (Nat.le_trans hc1.less HL.out);have cO:=ah hc1;clear hc1;have HI1:=ah hi1;clear hi1;have pR:=ah (yT.out.nT hf1);have Qc:=ah (hf1.blk HB2.out dK.out);clear hf1)
  go_loopw [13] (fun i ww=>∃(k:Nat) (es:List aG) (s:Option (List UInt8)) (ev:Value),k≤n∧i= .int .i64 k∧wz gB s1 k es s∧cu ww ib s∧(leftOf s).length≤60000∧jE (Only ib) (fun k=>k=w.heap.size) w ww (w.heap.size+1) es [] ev (.slice none 0 0)∧ww.heap[w.heap.size]?=some (.cells #[.slice none 0 0, .slice none 0 0] 30 (0,0))) (fun i _=>n-(intOf i).toNat)
  case atStart=>exact⟨0,[],s1,_,Nat.zero_le _,rfl, .zero,HI1.out,pK.out,pR.out,Qc.out⟩
  case round=>
   clear pR Qc HI1 pK yT HI0 HB2 dB
   obtain⟨k,es,s,ev,hk,rfl,hrun,hin,hls,hg,hb2⟩:=hrel
   have kZ:=ah hrun;clear hrun
   have lg:=ah hin;clear hin
   have JH:=ah hls;clear hls
   have HB2:=ah hb2;clear hb2
   have hlen:es.length=k:=kZ.out.len
   obtain⟨aV,cV,rfl⟩:=(Rd.own hg.xH).sl
   by_cases hlt:k<n
   ·obtain⟨e,t1,t2,t3,t4,g1,g2,g3,g4⟩:=oK.total gB s
    have pR:=ah g1
    have HG2:=ah g2
    have pU:=ah g3
    have Qd:=ah g4
    have Yj:=ah (show oK gB s e t4 from⟨t1,t2,t3,g1,g2,g3,g4⟩)
    clear g1 g2 g3 g4
    rw[hlen]at hg
    have oL:=ah hg;clear hg
    go_wp2_with(first
     |(go_at_call 56;refine(jZ ib t1 1099511627776 e.n t2 _ HI3.out HG2.out (by omega) (by omega)).mono ?_;rintro e1 w4 ⟨rfl,hi4,hf4⟩;have HI4:=ah hi4;clear hi4;have iL:=ah hf4;clear hf4)
     |(go_at_call 56;refine(jZ ib s 4 e.dc t1 _ lg.out pR.out (by omega) (by omega)).mono ?_;rintro e1 w3 ⟨rfl,hi3,hf3⟩;have HI3:=ah hi3;clear hi3;have HF3:=ah hf3;clear hf3))
    have hll:=pR.out.left
    have hl2:=HG2.out.left
    have hl3:=pU.out.left
    have hl4:=Qd.out.left
    have oJ:=ah (show(leftOf t4).length≤60000 by have:=JH.out;omega)
    clear hll hl2 hl3 hl4
    have hsp:(w4.alloc (.cells #[.int .i64 e.dc, .int .i64 e.n] 170)).heap[w4.heap.size]?=some (.cells #[.int .i64 e.dc, .int .i64 e.n] 170 (0,0)):=heap_alloc_new w4 _
    have hgw:=(((oL.out.nT HF3.out).nT iL.out).aO (aj.alloc ay w4 (.cells #[.int .i64 e.dc, .int .i64 e.n] 170))).aO (aj.drew ay _)
    have hiw:cu (w4.alloc (.cells #[.int .i64 e.dc, .int .i64 e.n] 170)).drew ib t2:=(HI4.out.keep (aj.alloc ay w4 _) (fun _ _=>id)).keep (aj.drew ay _) fun _ _=>id
    have hbw:(w4.alloc (.cells #[.int .i64 e.dc, .int .i64 e.n] 170)).drew.heap[w.heap.size]?=some (.cells #[.slice none 0 0, .slice none 0 0] 30 (0,0)):=(aj.drew ay _).blk ((aj.alloc ay w4 _).blk (iL.out.blk (HF3.out.blk HB2.out dK.out) dK.out) id) id
    have hsz0:(w4.alloc (.cells #[.int .i64 e.dc, .int .i64 e.n] 170)).drew.heap.size=w4.heap.size+1:=by show(w4.alloc _).heap.size=_;simp
    have hwl:w.heap.size<w4.heap.size:=lt_of_block (iL.out.blk (HF3.out.blk HB2.out dK.out) dK.out)
    have hw4:w.heap.size+1<w4.heap.size:=lt_of_block ((oL.out.nT HF3.out).nT iL.out).b3
    have CU:=ah hgw;clear hgw
    have JI:=ah hiw;clear hiw
    have CV:=ah hbw;clear hbw
    have EY:=ah hsz0;clear hsz0
    have sQ:=ah hsp;clear hsp
    have hown:∀b,(Value.slice aV k cV).ownBlock=some b→b<w4.heap.size:=fun b hb=>CJ ((oL.out.nT HF3.out).nT iL.out).xH b hb
    go_wp2_with fail
    refine iI (S:=fun w'=>w'.cell? ⟨w4.heap.size,0,none⟩=some (.int .i64 e.dc)∧w'.cell? ⟨w4.heap.size,1,none⟩=some (.int .i64 e.n)∧w'.cell? ⟨w.heap.size+1,0,none⟩=some (.slice aV k cV)) 11 (by kernel_rfl) ⟨aC sQ.out 0 rfl,aC sQ.out 1 rfl,aC CU.out.b3 0 rfl⟩ ?_
    intro hS
    clear sQ oL HB2 HI3 HI4 lg HF3 iL
    generalize (w4.alloc (.cells #[.int .i64 e.dc, .int .i64 e.n] 170)).drew=Y0 at*
    have hni:¬Only ib w4.heap.size:=fun h=>by have h:w4.heap.size=ib:=h;have:=lS.out;omega
    have CW:¬Only ib (w.heap.size+1):=fun h=>by have h:w.heap.size+1=ib:=h;have:=lS.out;omega
    have FB:=ah hni;clear hni
    have CX:=ah CW;clear CW
    refine aS 0 20 rfl rfl (v:=?_) (.inl ⟨by rfl,?_⟩) ?_
    rotate_left 1
    ·(intro w hSw;(try dsimp only at hSw);go_simp;(try with_reducible rfl))
    refine aS 1 21 rfl rfl (v:=?_) (.inl ⟨by rfl,?_⟩) ?_
    rotate_left 1
    ·(intro w hSw;(try dsimp only at hSw);go_simp;(try with_reducible rfl))
    try simp only[Act.put,aI,aJ,aN]
    refine aS 2 22 rfl rfl (v:=?_) (.inl ⟨by rfl,?_⟩) ?_
    rotate_left 1
    ·(intro w hSw;(try dsimp only at hSw);go_simp;(try with_reducible rfl))
    refine aS 3 23 rfl rfl (v:=?_) (.inl ⟨by rfl,?_⟩) ?_
    rotate_left 1
    ·(intro w hSw;(try dsimp only at hSw);go_simp;(try with_reducible rfl))
    try simp only[Act.put,aI,aJ,aN]
    refine aS 5 25 rfl rfl (v:=?_) (.inl ⟨by rfl,?_⟩) ?_
    rotate_left 1
    ·(intro w hSw;(try dsimp only at hSw);go_simp;(try with_reducible rfl))
    try simp only[Act.put,aI,aJ,aN]
    refine bM (i:=4) (by kernel_rfl) rfl (fun K hK=>?_)
    go_simp
    refine(Pv ib t2 30 e.s t3 _ JI.out pU.out (by omega) (by omega)).mono ?_
    rintro e1 Y1 ⟨rfl,hi5,hf5⟩
    have hS1:Y1.cell? ⟨w4.heap.size,0,none⟩=some (.int .i64 e.dc)∧Y1.cell? ⟨w4.heap.size,1,none⟩=some (.int .i64 e.n)∧Y1.cell? ⟨w.heap.size+1,0,none⟩=some (.slice aV k cV):=⟨hf5.cell' hS.1 FB.out,hf5.cell' hS.2.1 FB.out,hf5.cell' hS.2.2 CX.out⟩
    refine hK.out _ _ hS1 ?_
    clear hK K hS
    have xG:=ah hi5;clear hi5
    have lQ:=ah hf5;clear hf5
    try simp only[Act.put,aI,aJ,aN]
    refine bM (i:=6) (by kernel_rfl) rfl (fun K hK=>?_)
    go_simp
    refine(jZ ib t3 1099511627776 e.k t4 _ xG.out Qd.out (by omega) (by omega)).mono ?_
    rintro e1 Y2 ⟨rfl,tN,eP⟩
    have hS2:Y2.cell? ⟨w4.heap.size,0,none⟩=some (.int .i64 e.dc)∧Y2.cell? ⟨w4.heap.size,1,none⟩=some (.int .i64 e.n)∧Y2.cell? ⟨w.heap.size+1,0,none⟩=some (.slice aV k cV):=⟨eP.cell' hS1.1 FB.out,eP.cell' hS1.2.1 FB.out,eP.cell' hS1.2.2 CX.out⟩
    refine hK.out _ _ hS2 ?_
    clear hK K hS1
    have JJ:=ah tN;clear tN
    have lT:=ah ((CU.out.nT lQ.out).nT eP)
    have o_:=ah (eP.blk (lQ.out.blk CV.out dK.out) dK.out)
    have hy4:w4.heap.size<Y2.heap.size:=by have:=lQ.out.size;have:=eP.size;have:=EY.out;omega
    clear eP
    try simp only[Act.put,aI,aJ,aN]
    refine aS 7 27 rfl rfl (v:=?_) (.inl ⟨by rfl,?_⟩) ?_
    rotate_left 1
    ·(intro w hSw;(try dsimp only at hSw);go_simp;(try with_reducible rfl))
    try simp only[Act.put,aI,aJ,aN]
    refine bM (i:=8) (by kernel_rfl) rfl (fun K hK=>?_)
    go_simp
    have hS3:(Y2.alloc (.cells #[.int .i64 e.dc, .int .i64 e.n, .string e.s, .int .i64 e.k] 172)).cell? ⟨w4.heap.size,0,none⟩=some (.int .i64 e.dc)∧(Y2.alloc (.cells #[.int .i64 e.dc, .int .i64 e.n, .string e.s, .int .i64 e.k] 172)).cell? ⟨w4.heap.size,1,none⟩=some (.int .i64 e.n)∧(Y2.alloc (.cells #[.int .i64 e.dc, .int .i64 e.n, .string e.s, .int .i64 e.k] 172)).cell? ⟨w.heap.size+1,0,none⟩=some (.slice aV k cV):=⟨(aj.alloc ay Y2 _).cell' hS2.1 id,(aj.alloc ay Y2 _).cell' hS2.2.1 id,(aj.alloc ay Y2 _).cell' hS2.2.2 id⟩
    refine hK.out _ _ hS3 ?_
    clear hK K
    try simp only[Act.put,aI,aJ,aN]
    refine bM (i:=9) (by kernel_rfl) rfl (fun K hK=>?_)
    have heo:=lT.out.xH
    rw[hlen]at heo
    refine Fz Y2 [.int .i64 e.dc, .int .i64 e.n, .string e.s, .int .i64 e.k] rfl (.tmp 21) (.tmp 28) 27 rfl 172 i0 _ 4 40 Tryz.underlying27 hi hz0 hz1 hz2 (by decide) (by decide) (.slice aV k cV) k _ heo 1 1 (by simp[Act.eval]) (by simp[Act.eval]) rfl (by simp[Value.oneCell']) (by simp only[maxLen];omega) (by omega) ?_
    clear heo
    intro ad cc w6 pV eY pX
    have hn3:¬fJ (.slice aV k cV) (w.heap.size+1):=fun h=>(lT.out.rX _ h).2.2 rfl
    have hn2:¬fJ (.slice aV k cV) w.heap.size:=fun h=>(lT.out.rX _ h).2.1 rfl
    have hrow:w6.cell? ⟨w.heap.size+1,0,none⟩=some (.slice aV k cV):=eY.cell' hS2.2.2 hn3
    have hcf:w6.frozen? ⟨w.heap.size+1,0,none⟩=false:=bf (eY.blk lT.out.b3 hn3) 0
    have hb6:=eY.blk o_.out hn2
    have tN:cu w6 ib t4:=JJ.out.keep eY fun j hj hs=>by
     have:=(lT.out.rX j hs).1
     have:=lS.out
     omega
    have hset:aj (Only (w.heap.size+1)) w6 (w6.setCell ⟨w.heap.size+1,0,none⟩ (.slice ad (k+1) cc)):=eG _ _ _ _
    have CP:=ah (tN.keep hset fun j hj hs=>by have hs:j=w.heap.size+1:=hs;have:=lS.out;omega)
    have ji:=ah (hset.blk hb6 fun hs=>by have hs:w.heap.size=w.heap.size+1:=hs;omega)
    have sS:=ah (lT.out.Yg (e:=e) (ev':= .slice ad (k+1) cc) (w':=w6) (by rw[hlen];exact pV) eY pX)
    have Yk:w.heap.size+1<w6.heap.size:=lt_of_block (eY.blk lT.out.b3 hn3)
    have hS6:w6.cell? ⟨w4.heap.size,0,none⟩=some (.int .i64 e.dc)∧w6.cell? ⟨w4.heap.size,1,none⟩=some (.int .i64 e.n)∧w6.cell? ⟨w.heap.size+1,0,none⟩=some (.slice aV k cV):=⟨eY.cell' hS2.1 fun h=>Nat.lt_irrefl _ (hown _ h),eY.cell' hS2.2.1 fun h=>Nat.lt_irrefl _ (hown _ h),hrow⟩
    refine hK.out _ _ hS6 ?_
    clear hK K pV eY pX hn3 hn2 hb6 tN hset hS3 hS2
    try simp only[Act.put,aI,aJ,aN]
    refine aS 10 30 rfl rfl (v:=?_) (.inl ⟨by rfl,?_⟩) ?_
    rotate_left 1
    ·(intro w hSw;(try dsimp only at hSw);go_simp;(try with_reducible rfl))
    try simp only[Act.put,aI,aJ,aN]
    refine iQ (by kernel_rfl) (by kernel_rfl) rfl (fun K hK=>?_)
    go_simp
    refine hK.out _ _ ?_
    clear hK K hrow hcf
    go_wp2
    go_roundw
    case rel=>exact⟨k+1,es++ [e],t4,_,by omega,by go_num, .snoc kZ.out Yj.out,CP.out,oJ.out,sS.out,ji.out⟩
    case measure=>simp[intOf];omega
   ·obtain rfl:n=k:=by omega
    clear hlt hk
    rw[hlen]at hg
    have oL:=ah hg;clear hg
    go_wp2_with(go_at_call 174;refine(CO ib s wr lg.out).mono ?_;rintro e w3 ⟨m,s3,rfl,hc3,hi3,hf3⟩;have hm6:m≤60000:=by {have:=hc3.left;have:=JH.out;omega};have kV:=ah (Nat.le_trans hc3.less JH.out);have rH:=ah hc3;clear hc3;have HI3:=ah hi3;clear hi3;have pU:=ah (oL.out.nT hf3);have HB3:=ah (hf3.blk HB2.out dK.out);clear hf3)
    go_loopw [34] (fun i ww=>∃(k:Nat) (l:List fM) (t:Option (List UInt8)) (kv:Value),k≤m∧i= .int .i64 k∧l.length=k∧uX gB D s3 m l t∧cu ww ib t∧(leftOf t).length≤60000∧jE (Only ib) (fun k=>k=w.heap.size) w ww (w.heap.size+1) es l (.slice aV n cV) kv∧ww.heap[w.heap.size]?=some (.cells #[.slice none 0 0, .slice none 0 0] 30 (0,0))) (fun i _=>m-(intOf i).toNat)
    case atStart=>exact⟨0,[],s3,_,Nat.zero_le _,rfl,rfl, .start _ _ _ _,HI3.out,kV.out,pU.out,HB3.out⟩
    case round=>
     clear pU HB3 HI3 kV oL HB2 lg
     obtain⟨k,l,t,kv,hk,rfl,hll,hkv,hin,hlt4,hg,hb2⟩:=hrel
     have JK:=ah hkv;clear hkv
     have lg:=ah hin;clear hin
     have oJ:=ah hlt4;clear hlt4
     have HB2:=ah hb2;clear hb2
     obtain⟨aK,cK,rfl⟩:=(Rd.own hg.CS).sl
     rw[hll]at hg
     have oL:=ah hg;clear hg
     have HBAD:=ah (mO ib t wr lg.out)
     by_cases hlt:k<m
     ·cases t with
      |none=>
       have jm:=ah (XQ qP (M:=60000) (by omega) (by have:=HL.out;omega) cO.out kZ.out rH.out JK.out [] .nil)
       have HF:=ah oL.out.aP
       have z0:=aC HB2.out 0 rfl
       have z1:=aC HB2.out 1 rfl
       have f0:=bf HB2.out 0
       have f1:=bf HB2.out 1
       have hl2:=lt_of_block HB2.out
       go_wp2_with(go_at_call 58;refine HBAD.out.mono ?_;rintro e w4 ⟨rfl,rfl⟩)
       clear z0 z1
       have y0:=aC (bJ (bJ HB2.out 0 (.slice none 0 0)) 1 (.slice none 0 0)) 0 rfl
       have y1:=aC (bJ (bJ HB2.out 0 (.slice none 0 0)) 1 (.slice none 0 0)) 1 rfl
       have hts:aj (Only w.heap.size) wr ((wr.setCell ⟨w.heap.size,0,none⟩ (.slice none 0 0)).setCell ⟨w.heap.size,1,none⟩ (.slice none 0 0)):=xE _ _ _ _
       exact bodyPost_ret (v:= .agg #[.slice none 0 0, .slice none 0 0]) (by simp[results,Tryz.results173,go_sem,y0,y1]) rfl (P_ lg.out lS.out HF.out (Nat.le_refl _) (yS (fun b=>w.heap.size≤b∧b≠w.heap.size) wr) (fun b h=>h) hts jm.out)
      |some r=>
       obtain⟨key,t1,g1⟩:=ny.total (some r) 30
       have HT1:=ah g1;clear g1
       have hgw:=oL.out.aO (aj.drew ay wr)
       have hiw:cu wr.drew ib (some r):=lg.out.keep (aj.drew ay _) fun _ _=>id
       have hbw:=(aj.drew ay wr).blk HB2.out id
       have CU:=ah hgw;clear hgw
       have JI:=ah hiw;clear hiw
       have CV:=ah hbw;clear hbw
       have Qe:=ah (Nat.le_trans HT1.out.left oJ.out)
       have CW:¬Only ib (w.heap.size+1):=fun h=>by have h:w.heap.size+1=ib:=h;have:=lS.out;omega
       have CX:=ah CW;clear CW
       have hd1:IntKind.i64.wrap ((D:Int)+1-1)=D:=by rw[IntKind.wrap_i64];omega
       have hd2:IntKind.i64.wrap (D:Int)=D:=by rw[IntKind.wrap_i64];omega
       go_wp2_with(go_at_call 58;refine HBAD.out.mono ?_;rintro e w4 ⟨rfl,rfl⟩)
       refine iI (S:=fun w'=>w'.cell? ⟨w.heap.size+1,1,none⟩=some (.slice aK k cK)) 12 (by kernel_rfl) (aC CU.out.b3 1 rfl) ?_
       intro hS
       clear oL HB2 lg
       generalize World.drew _=Y0 at*
       refine aS 0 39 rfl rfl (v:=?_) (.inl ⟨by rfl,?_⟩) ?_
       rotate_left 1
       ·(intro w hSw;(try dsimp only at hSw);go_simp;(try with_reducible rfl))
       refine aS 1 40 rfl rfl (v:=?_) (.inl ⟨by rfl,?_⟩) ?_
       rotate_left 1
       ·(intro w hSw;(try dsimp only at hSw);go_simp;(try with_reducible rfl))
       try simp only[Act.put,aI,aJ,aN]
       refine aS 2 41 rfl rfl (v:=?_) (.inl ⟨by rfl,?_⟩) ?_
       rotate_left 1
       ·(intro w hSw;(try dsimp only at hSw);go_simp;(try with_reducible rfl))
       refine aS 4 43 rfl rfl (v:=?_) (.inl ⟨by rfl,?_⟩) ?_
       rotate_left 1
       ·(intro w hSw;(try dsimp only at hSw);go_simp;(try with_reducible rfl))
       try simp only[Act.put,aI,aJ,aN]
       refine aS 5 44 rfl rfl (v:=?_) (.inl ⟨by rfl,?_⟩) ?_
       rotate_left 1
       ·(intro w hSw;(try dsimp only at hSw);go_simp;(try with_reducible rfl))
       refine aS 6 45 rfl rfl (v:=?_) (.inl ⟨by rfl,?_⟩) ?_
       rotate_left 1
       ·(intro w hSw;(try dsimp only at hSw);go_simp;(try with_reducible rfl))
       try simp only[Act.put,aI,aJ,aN]
       refine bM (i:=3) (by kernel_rfl) rfl (fun K hK=>?_)
       go_simp
       refine(Pv ib (some r) 30 key t1 _ JI.out HT1.out (by omega) (by omega)).mono ?_
       rintro e1 Y1 ⟨rfl,hi5,hf5⟩
       have hS1:Y1.cell? ⟨w.heap.size+1,1,none⟩=some (.slice aK k cK):=hf5.cell' hS CX.out
       refine hK.out _ _ hS1 ?_
       clear hK K hS
       have xG:=ah hi5;clear hi5
       have Qg:=ah (CU.out.nT hf5)
       have Yl:=ah (hf5.blk CV.out dK.out)
       clear hf5
       try simp only[Act.put,aI,aJ,aN]
       refine bM (i:=7) (by kernel_rfl) rfl (fun K hK=>?_)
       go_simp
       refine(IH.out ib t1 Y1 (by omega) xG.out Qe.out).mono ?_
       rintro e1 Y2 ⟨I_,Ja,es3,ks3,t2,rfl,lM,hgr,tN,eP⟩
       obtain⟨a3,c3,rfl⟩:=lM.ents.rd.sl
       obtain⟨os3,fU,-⟩:=lM.kids
       obtain⟨a4,c4,rfl⟩:=fU.rd.sl
       clear fU
       have hS2:Y2.cell? ⟨w.heap.size+1,1,none⟩=some (.slice aK k cK):=eP.cell' hS1 CX.out
       have JJ:=ah tN;clear tN
       have Qh:=ah hgr;clear hgr
       have Ym:=ah (Qg.out.kid lM eP.size);clear lM
       have lT:=ah (Qg.out.nT eP)
       have o_:=ah (eP.blk Yl.out dK.out)
       clear eP
       generalize es3.length=n3 at*
       generalize ks3.len=m3 at*
       refine hK.out _ _ hS2 ?_
       clear hK K hS1
       try simp only[Act.put,aI,aJ,aN]
       refine aS 8 47 rfl rfl (v:=?_) (.inl ⟨by rfl,?_⟩) ?_
       rotate_left 1
       ·(intro w hSw;(try dsimp only at hSw);go_simp;(try with_reducible rfl))
       try simp only[Act.put,aI,aJ,aN]
       refine bM (i:=9) (by kernel_rfl) rfl (fun K hK=>?_)
       go_simp
       have hS3:(Y2.alloc (.cells #[.string key, .slice a3 n3 c3, .slice a4 m3 c4] 83)).cell? ⟨w.heap.size+1,1,none⟩=some (.slice aK k cK):=(aj.alloc ay Y2 _).cell' hS2 id
       refine hK.out _ _ hS3 ?_
       clear hK K
       try simp only[Act.put,aI,aJ,aN]
       refine bM (i:=10) (by kernel_rfl) rfl (fun K hK=>?_)
       have heo:=lT.out.CS
       rw[hll]at heo
       refine Fz Y2 [.string key, .slice a3 n3 c3, .slice a4 m3 c4] rfl (.tmp 40) (.tmp 48) 28 rfl 83 i1 _ 3 64 Tryz.underlying28 hi1 hy0 hy1 hy2 (by decide) (by decide) (.slice aK k cK) k _ heo 1 1 (by simp[Act.eval]) (by simp[Act.eval]) rfl (by simp[Value.oneCell']) (by simp only[maxLen];omega) (by omega) ?_
       clear heo
       intro ad cc w6 pV eY pX
       have hn3:¬fJ (.slice aK k cK) (w.heap.size+1):=fun h=>(lT.out.knew _ h).2.2.1 rfl
       have hn2:¬fJ (.slice aK k cK) w.heap.size:=fun h=>(lT.out.knew _ h).2.1 rfl
       have hrow:w6.cell? ⟨w.heap.size+1,1,none⟩=some (.slice aK k cK):=eY.cell' hS2 hn3
       have hcf:w6.frozen? ⟨w.heap.size+1,1,none⟩=false:=bf (eY.blk lT.out.b3 hn3) 1
       have hb6:=eY.blk o_.out hn2
       have tN:cu w6 ib t2:=JJ.out.keep eY fun j hj hs=>by
        have:=(lT.out.knew j hs).1
        have:=lS.out
        omega
       have hset:aj (Only (w.heap.size+1)) w6 (w6.setCell ⟨w.heap.size+1,1,none⟩ (.slice ad (k+1) cc)):=eG _ _ _ _
       have CP:=ah (tN.keep hset fun j hj hs=>by have hs:j=w.heap.size+1:=hs;have:=lS.out;omega)
       have ji:=ah (hset.blk hb6 fun hs=>by have hs:w.heap.size=w.heap.size+1:=hs;omega)
       have sS:=ah (lT.out.Yh (q:=⟨key,es3,ks3, .slice a3 n3 c3, .slice a4 m3 c4⟩) (kv':= .slice ad (k+1) cc) (w':=w6) Ym.out (by rw[hll];exact pV) eY pX)
       have Yn:=ah (JK.out.step (q:=⟨key,es3,ks3, .slice a3 n3 c3, .slice a4 m3 c4⟩) qP (by omega) HT1.out Qh.out)
       have Yk:w.heap.size+1<w6.heap.size:=lt_of_block (eY.blk lT.out.b3 hn3)
       refine hK.out _ _ hrow ?_
       clear hK K pV eY pX hn3 hn2 hb6 tN hset hS3 hS2
       try simp only[Act.put,aI,aJ,aN]
       refine aS 11 50 rfl rfl (v:=?_) (.inl ⟨by rfl,?_⟩) ?_
       rotate_left 1
       ·(intro w hSw;(try dsimp only at hSw);go_simp;(try with_reducible rfl))
       try simp only[Act.put,aI,aJ,aN]
       refine iQ (by kernel_rfl) (by kernel_rfl) rfl (fun K hK=>?_)
       go_simp
       refine hK.out _ _ ?_
       clear hK K hrow hcf
       go_wp2
       go_roundw
       case rel=>exact⟨k+1,l++ [⟨key,es3,ks3, .slice a3 n3 c3, .slice a4 m3 c4⟩],t2,_,by omega,by go_num,by simp[hll],Yn.out,CP.out,Nat.le_trans Qh.out.left Qe.out,sS.out,ji.out⟩
       case measure=>simp[intOf];omega
     ·obtain rfl:m=k:=by omega
      have jm:=ah (XP qP (M:=60000) (by omega) (by have:=HL.out;omega) cO.out kZ.out rH.out JK.out hll)
      have lG:=ah oL.out.done
      have HF:=ah oL.out.aP
      have y0:=aC oL.out.b3 0 rfl
      have y1:=aC oL.out.b3 1 rfl
      have z0:=aC HB2.out 0 rfl
      have z1:=aC HB2.out 1 rfl
      have f0:=bf HB2.out 0
      have f1:=bf HB2.out 1
      have hl2:=lt_of_block HB2.out
      go_wp2
      clear y0 y1 z0 z1
      have y0:=aC (bJ (bJ HB2.out 0 (.slice aV n cV)) 1 (.slice aK m cK)) 0 rfl
      have y1:=aC (bJ (bJ HB2.out 0 (.slice aV n cV)) 1 (.slice aK m cK)) 1 rfl
      have hts:aj (Only w.heap.size) wr ((wr.setCell ⟨w.heap.size,0,none⟩ (.slice aV n cV)).setCell ⟨w.heap.size,1,none⟩ (.slice aK m cK)):=xE _ _ _ _
      exact bodyPost_ret (v:= .agg #[.slice aV n cV, .slice aK m cK]) (by simp[results,Tryz.results173,go_sem,y0,y1]) rfl (P_ lg.out lS.out HF.out (Nat.le_refl _) lG.out (fun b h=>⟨h.1,h.2.1⟩) hts jm.out)
open Go.RowKit
theorem Qi (e:aG):4≤(mP e).length:=by
 have h1:=tq e.dc
 have h2:=tq e.n
 have h3:=Jt e.s
 have h4:=tq e.k
 unfold mP
 simp only[List.length_append];omega
theorem Yo (s:Int×Int×Int):3≤(encS s).length:=by
 have h1:=tq s.1
 have h2:=tq s.2.1
 have h3:=tq s.2.2
 unfold encS
 simp only[List.length_append];omega
theorem FC {α:Type} {f:α→List UInt8} {m:Nat} (hf:∀a,m≤(f a).length):∀l:List α,m*l.length≤(l.flatMap f).length
 |[]=>by simp
 |a::l=>by
  have:=FC hf l
  have:=hf a
  rw[List.flatMap_cons,List.length_append,List.length_cons,Nat.mul_succ];omega
theorem JL:∀ks:aH,3*gW ks≤(iE ks).length
 | .nil=>Nat.le_refl _
 | .cons key es sub rest=>by
   have h1:=JL sub
   have h2:=JL rest
   have h3:4*es.length≤(iD es).length:=FC Qi es
   have h4:=Jt key
   have h5:=tq es.length
   have h6:=tq sub.len
   unfold iE gW
   simp only[List.length_append]
   omega
theorem Qj (es:List aG) (ks:aH):3*sizeT es ks≤(eX es ks).length:=by
 have h2:=JL ks
 have h3:4*es.length≤(iD es).length:=FC Qi es
 unfold eX sizeT
 simp only[List.length_append]
 omega
theorem Yp (c:aW):3*c.length≤(jS c).length:=by
 have h3:3*c.length≤(mQ c).length:=FC Yo c
 unfold jS
 simp only[List.length_append]
 omega
theorem aG.bd.fits {B:dR} (hB:B.Ok) {e:aG} (h:e.bd B):e.fits:=by
 obtain⟨h1,h2,h3,h4⟩:=h
 obtain⟨b1,b2,b3,b4⟩:=hB
 exact⟨⟨by omega,by omega⟩,⟨by omega,by omega⟩,⟨by omega,by omega⟩,by omega⟩
theorem aH.bd.ok {B:dR} (hB:B.Ok):∀ {ks:aH},ks.bd B→(iE ks).length≤140737488351232→ks.Ok
 | .nil,_,_=>trivial
 | .cons key es sub rest,h,hl=>by
   have hlim:((iR key++((bD es.length++(iD es++(bD sub.len++iE sub)))++iE rest)).length)≤140737488351232:=hl
   simp only[List.length_append]at hlim
   have h3:=Jw es sub
   have hb:=hB.s.2
   exact⟨by have:=h.1;omega,⟨by omega,fun e he=>(h.2.1 e he).fits hB⟩,by omega,aH.bd.ok hB h.2.2.1 (by omega),aH.bd.ok hB h.2.2.2 (by omega)⟩
theorem tK.tr {B:dR} (hB:B.Ok) {d:Nat} {bs rest:List UInt8} {es:List aG} {ks:aH} (h:tK B d bs es ks rest) (hl:bs.length≤140737488351232):iJ es ks∧3*sizeT es ks+rest.length≤bs.length:=by
 have h1:=Qj es ks
 have h2:=Jw es ks
 have he:=congrArg List.length h.eq
 rw[List.length_append]at he
 have h4:(eX es ks).length=(bD es.length).length+((iD es).length+((bD ks.len).length+(iE ks).length)):=by unfold eX;simp only[List.length_append]
 exact⟨⟨⟨by omega,fun e he=>(h.Fp e he).fits hB⟩,by omega,h.Ac.ok hB (by omega)⟩,by omega⟩
theorem JM:iJ [] .nil:=⟨⟨by simp,fun e he=>by cases he⟩,by simp[aH.len],trivial⟩
theorem jT.sizes {st s:Option (List UInt8)} {es:List aG} {ks:aH} (h:jT st es ks s):3*sizeT es ks+(leftOf s).length≤(leftOf st).length:=by
 rcases h with⟨r,rfl,_,rfl⟩|⟨rfl,rfl,rfl,_⟩
 ·have:=Qj es ks
  show _+r.length≤(eX es ks++r).length
  rw[List.length_append];omega
 ·have:sizeT [] .nil=0:=rfl
  rw[this]
  exact Nat.zero_le _
theorem kG.sizes {st s:Option (List UInt8)} {c:aW} (h:kG st c s):3*c.length+(leftOf s).length≤(leftOf st).length:=by
 rcases h with⟨r,rfl,_,rfl⟩|⟨rfl,rfl,_⟩
 ·have:=Yp c
  show _+r.length≤(jS c++r).length
  rw[List.length_append];omega
 ·exact Nat.zero_le _
open Go.RowKit
theorem Yq {es:List aG} {ks:aH} {bs r:List UInt8} (hg:tK gB 5 bs es ks r) (ib:Nat) (w:World) (h:cu w ib (some bs)) (hl:bs.length≤60000):
 Calls Tryz.prog 173 #[.pointer (some ⟨ib,0,none⟩), .int .i64 5] w fun e w'=>∃ev kv,e= .returned (.agg #[ev,kv])∧bQ (fun b=>w.heap.size≤b) w' ev kv es ks∧cu w' ib (some r)∧aj (Only ib) w w':=by
 refine Calls.mono (Qa 5 ib (some bs) w (Nat.le_refl _) h hl) fun e w' ⟨ev,kv,es',ks',s,he,ht,hr,hi,hf⟩=>?_
 rcases hr with⟨b2,r2,h1,h2,h3⟩|⟨_,h2⟩
 ·injection h1 with h1
  subst h1 h2
  have e2:eX es' ks'++r2=eX es ks++r:=by rw[←h3.eq,←hg.eq]
  obtain⟨⟨rfl,rfl⟩,rfl⟩:=Fh e2
  exact⟨ev,kv,he,ht,hi,hf⟩
 ·exact absurd hg (h2 _ _ _ _ rfl)
theorem Yr {st:Option (List UInt8)} (hg:∀bs es ks r,st=some bs→¬tK gB 5 bs es ks r) (ib:Nat) (w:World) (h:cu w ib st) (hl:(leftOf st).length≤60000):
 Calls Tryz.prog 173 #[.pointer (some ⟨ib,0,none⟩), .int .i64 5] w fun e w'=>∃a n c a2 n2 c2,e= .returned (.agg #[.slice a n c, .slice a2 n2 c2])∧cu w' ib none∧aj (Only ib) w w':=by
 refine Calls.mono (Qa 5 ib st w (Nat.le_refl _) h hl) fun e w' ⟨ev,kv,es',ks',s,he,ht,hr,hi,hf⟩=>?_
 obtain⟨a0,c0,rfl⟩:=ht.ents.rd.sl
 obtain⟨os,hk,_⟩:=ht.kids
 obtain⟨a1,c1,rfl⟩:=hk.rd.sl
 rcases hr with⟨b2,r2,h1,h2,h3⟩|⟨rfl,_⟩
 ·exact absurd h3 (hg _ _ _ _ h1)
 ·exact⟨_,_,_,_,_,_,he,hi,hf⟩
theorem jT.tr {st s:Option (List UInt8)} {es:List aG} {ks:aH} (h:jT st es ks s) (hl:(leftOf st).length≤60000):iJ es ks:=by
 rcases h with⟨r,rfl,hr,rfl⟩|⟨rfl,rfl,rfl,_⟩
 ·exact((JA CG hr).tr qP (Nat.le_trans hl (by decide))).1
 ·exact JM
def Qk (st:Option (List UInt8)) (ib:Nat) (w:World) (e:Ending) (w':World):Prop:=
 ∃ev kv es ks s,e= .returned (.agg #[ev,kv])∧bQ (fun b=>w.heap.size≤b) w' ev kv es ks∧jT st es ks s∧cu w' ib s∧aj (Only ib) w w'
theorem JO {Q:Nat→Prop} {w ww w':World} {ib:Nat} {s:Option (List UInt8)} {e2 k2:Value} {es2:List aG} {qR:aH} {st:Option (List UInt8)}
 (hin:cu ww ib s) (hib:ib<w.heap.size) (hf:aj (Only ib) w ww) (ht:bQ Q ww e2 k2 es2 qR) (hq:∀b,Q b→w.heap.size≤b∧b≠w.heap.size) (hts:aj (fun b=>b=w.heap.size) ww w') (hres:jT st es2 qR s):
 Qk st ib w (.returned (.agg #[e2,k2])) w':=
 ⟨e2,k2,es2,qR,s,rfl,ht.turn fun b hb hQ=>⟨hts.block b hb (hq b hQ).2,(hq b hQ).1⟩,hres,hin.keep hts fun j hj hs=>by have hs:j=w.heap.size:=hs;omega,hf.trans hts fun i hi hs=>by have hs:i=w.heap.size:=hs;omega⟩
theorem Yt (ib:Nat) (st:Option (List UInt8)) (w:World) (h:cu w ib st) (hl:(leftOf st).length≤60000):
 Calls Tryz.prog 125 #[.pointer (some ⟨ib,0,none⟩)] w (Qk st ib w):=by
 have hib:=h.lt
 have hno:¬Only ib w.heap.size:=fun h=>by have h:w.heap.size=ib:=h;omega
 have dK:=ah hno;clear hno
 have HB0:=ah (heap_alloc_new w (.cells #[.slice none 0 0, .slice none 0 0] 30))
 have HI0:=ah (h.keep (aj.alloc ay w (.cells #[.slice none 0 0, .slice none 0 0] 30)) fun _ _=>id)
 have lS:=ah hib;clear hib
 have nU:=ah ((aj.alloc ay w (.cells #[.slice none 0 0, .slice none 0 0] 30)).mono (T:=Only ib) fun _ _ h=>h.elim)
 have CY:=ah (show(w.alloc (.cells #[.slice none 0 0, .slice none 0 0] 30)).heap.size=w.heap.size+1 by simp)
 clear h
 by_cases hg:∃bs es ks r,st=some bs∧tK gB 5 bs es ks r
 ·obtain⟨bs,es,ks,r,rfl,hg⟩:=hg
  have HG:=ah (Yq hg ib _ HI0.out hl)
  have hok:=(hg.tr qP (Nat.le_trans hl (by decide))).1
  have eF:=ah (fun W Q ev kv (h:bQ Q W ev kv es ks)=>zV Q es ks W ev kv h hok)
  clear hok
  cases hr:bW 5 es ks with
  |true=>
   rw[hr]at eF
   have jm:=ah (tree_good (B:=gB) (st:=some bs) (rest:=r) (.inl ⟨bs,r,rfl,rfl,hg⟩) hr)
   clear hr hg
   go_enter Tryz.func125,Tryz.ntmps125
   go_wp2_with(first
    |(go_at_call 173;refine HG.out.mono ?_;rintro e w1 ⟨ev,kv,rfl,hta,hi1,hf1⟩;obtain⟨a3,c3,rfl⟩:=hta.ents.rd.sl;obtain⟨os3,fU,-⟩:=hta.kids;obtain⟨a4,c4,rfl⟩:=fU.rd.sl;clear fU
      have HB1:=ah (hf1.blk HB0.out dK.out)
      have dM:=ah hta;clear hta
      generalize es.length=n at*
      generalize ks.len=m at*
      have HI1:=ah hi1;clear hi1
      have bH:=ah (nU.out.trans hf1 fun _ _ h=>h)
      have hsz1:=hf1.size
      have acP:=ah hsz1;clear hsz1 hf1
      have HA1:=ah (aj.alloc ay w1 (.cells #[.slice a3 n c3, .slice a4 m c4] 30))
      have Yu:=ah (heap_alloc_new w1 (.cells #[.slice a3 n c3, .slice a4 m c4] 30)))
    |(go_at_call 58;refine(mO ib _ _ (HI1.out.keep HA1.out fun _ _=>id)).mono ?_;rintro e w2 ⟨rfl,rfl⟩)
    |(go_at_call 155;refine(eF.out _ _ _ _ (dM.out.aO HA1.out)).mono ?_;rintro e w3 ⟨rfl,hf3⟩
      have hx3:=hf3.blk Yu.out id
      have z0:=aC hx3 0 rfl
      have z1:=aC hx3 1 rfl
      have hb3:=hf3.blk (HA1.out.blk HB1.out id) id
      have y0:=aC hb3 0 rfl
      have y1:=aC hb3 1 rfl
      have f0:=bf hb3 0
      have f1:=bf hb3 1
      have hl2:=lt_of_block hb3
      have hl3:=lt_of_block hx3
      have HB3:=ah hb3
      have HF3:=ah (HA1.out.au hf3)
      clear hf3 hx3 hb3))
   clear y0 y1 z0 z1
   have y0:=aC (bJ (bJ HB3.out 0 (.slice a3 n c3)) 1 (.slice a4 m c4)) 0 rfl
   have y1:=aC (bJ (bJ HB3.out 0 (.slice a3 n c3)) 1 (.slice a4 m c4)) 1 rfl
   have hts:aj (Only w.heap.size) w3 ((w3.setCell ⟨w.heap.size,0,none⟩ (.slice a3 n c3)).setCell ⟨w.heap.size,1,none⟩ (.slice a4 m c4)):=xE _ _ _ _
   exact bodyPost_ret (v:= .agg #[.slice a3 n c3, .slice a4 m c4]) (by simp[results,Tryz.results125,go_sem,y0,y1]) rfl (JO (HI1.out.keep HF3.out fun _ _=>id) lS.out (bH.out.trans HF3.out fun _ _ h=>h.elim) (dM.out.aO HF3.out) (fun b h=>by have:=CY.out;have h:(w.alloc (.cells #[.slice none 0 0, .slice none 0 0] 30)).heap.size≤b:=h;omega) hts jm.out)
  |false=>
   rw[hr]at eF
   have jm:=ah (XU (B:=gB) (st:=some bs) (rest:=r) (.inl ⟨bs,r,rfl,rfl,hg⟩) hr)
   clear hr hg
   go_enter Tryz.func125,Tryz.ntmps125
   go_wp2_with(first
    |(go_at_call 173;refine HG.out.mono ?_;rintro e w1 ⟨ev,kv,rfl,hta,hi1,hf1⟩;obtain⟨a3,c3,rfl⟩:=hta.ents.rd.sl;obtain⟨os3,fU,-⟩:=hta.kids;obtain⟨a4,c4,rfl⟩:=fU.rd.sl;clear fU
      have HB1:=ah (hf1.blk HB0.out dK.out)
      have dM:=ah hta;clear hta
      generalize es.length=n at*
      generalize ks.len=m at*
      have HI1:=ah hi1;clear hi1
      have bH:=ah (nU.out.trans hf1 fun _ _ h=>h)
      clear hf1
      have HA1:=ah (aj.alloc ay w1 (.cells #[.slice a3 n c3, .slice a4 m c4] 30)))
    |(go_at_call 58;refine(mO ib _ _ (HI1.out.keep HA1.out fun _ _=>id)).mono ?_;rintro e w2 ⟨rfl,rfl⟩)
    |(go_at_call 155;refine(eF.out _ _ _ _ (dM.out.aO HA1.out)).mono ?_;rintro e w3 ⟨rfl,hf3⟩;have HF3:=ah (HA1.out.au hf3);clear hf3)
    |(go_at_call 123;obtain⟨a,c,hh⟩:=(HI1.out.keep HF3.out fun _ _=>id).heap;refine(ni ib _ _ w3 hh).mono ?_;rintro e w4 ⟨rfl,hi4,hf4⟩
      have HI4:=ah (show cu w4 ib none from hi4);clear hi4 hh
      have hb3:=hf4.blk (HF3.out.blk HB1.out id) dK.out
      have y0:=aC hb3 0 rfl
      have y1:=aC hb3 1 rfl
      have f0:=bf hb3 0
      have f1:=bf hb3 1
      have hl2:=lt_of_block hb3
      have HB3:=ah hb3
      have iL:=ah ((bH.out.trans HF3.out fun _ _ h=>h.elim).trans hf4 fun _ _ h=>h)
      clear hf4 hb3))
   clear y0 y1
   have y0:=aC (bJ (bJ HB3.out 0 (.slice none 0 0)) 1 (.slice none 0 0)) 0 rfl
   have y1:=aC (bJ (bJ HB3.out 0 (.slice none 0 0)) 1 (.slice none 0 0)) 1 rfl
   have hts:aj (Only w.heap.size) w4 ((w4.setCell ⟨w.heap.size,0,none⟩ (.slice none 0 0)).setCell ⟨w.heap.size,1,none⟩ (.slice none 0 0)):=xE _ _ _ _
   exact bodyPost_ret (v:= .agg #[.slice none 0 0, .slice none 0 0]) (by simp[results,Tryz.results125,go_sem,y0,y1]) rfl (JO HI4.out lS.out iL.out (yS (fun b=>w.heap.size≤b∧b≠w.heap.size) w4) (fun b h=>h) hts jm.out)
 ·have hg':∀bs es ks r,st=some bs→¬tK gB 5 bs es ks r:=fun bs es ks r h1 h2=>hg ⟨bs,es,ks,r,h1,h2⟩
  have HG:=ah (Yr hg' ib _ HI0.out hl)
  have jm:=ah (XV (B:=gB) (es:=[]) (ks:= .nil) CG (.inr ⟨rfl,hg'⟩:rV gB 5 st [] .nil none))
  clear hg hg'
  go_enter Tryz.func125,Tryz.ntmps125
  go_wp2_with(first
   |(go_at_call 173;refine HG.out.mono ?_;rintro e w1 ⟨a3,n,c3,a4,m,c4,rfl,hi1,hf1⟩
     have HB1:=ah (hf1.blk HB0.out dK.out)
     have HI1:=ah hi1;clear hi1
     have bH:=ah (nU.out.trans hf1 fun _ _ h=>h)
     clear hf1
     have HA1:=ah (aj.alloc ay w1 (.cells #[.slice a3 n c3, .slice a4 m c4] 30)))
   |(go_at_call 58;refine(mO ib _ _ (HI1.out.keep HA1.out fun _ _=>id)).mono ?_;rintro e w2 ⟨rfl,rfl⟩)
   |(go_at_call 123;obtain⟨a,c,hh⟩:=(HI1.out.keep HA1.out fun _ _=>id).heap;refine(ni ib _ _ _ hh).mono ?_;rintro e w4 ⟨rfl,hi4,hf4⟩
     have HI4:=ah (show cu w4 ib none from hi4);clear hi4 hh
     have hb3:=hf4.blk (HA1.out.blk HB1.out id) dK.out
     have y0:=aC hb3 0 rfl
     have y1:=aC hb3 1 rfl
     have f0:=bf hb3 0
     have f1:=bf hb3 1
     have hl2:=lt_of_block hb3
     have HB3:=ah hb3
     have iL:=ah ((bH.out.trans HA1.out fun _ _ h=>h.elim).trans hf4 fun _ _ h=>h)
     clear hf4 hb3))
  clear y0 y1
  have y0:=aC (bJ (bJ HB3.out 0 (.slice none 0 0)) 1 (.slice none 0 0)) 0 rfl
  have y1:=aC (bJ (bJ HB3.out 0 (.slice none 0 0)) 1 (.slice none 0 0)) 1 rfl
  have hts:aj (Only w.heap.size) w4 ((w4.setCell ⟨w.heap.size,0,none⟩ (.slice none 0 0)).setCell ⟨w.heap.size,1,none⟩ (.slice none 0 0)):=xE _ _ _ _
  exact bodyPost_ret (v:= .agg #[.slice none 0 0, .slice none 0 0]) (by simp[results,Tryz.results125,go_sem,y0,y1]) rfl (JO HI4.out lS.out iL.out (yS (fun b=>w.heap.size≤b∧b≠w.heap.size) w4) (fun b h=>h) hts jm.out)
end Go.Proofs.YtabkpccdnkjoiaaGreat
