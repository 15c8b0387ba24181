/- Words for the law MsgSame: TClone3, Res, TDots, HeldTwo, Caus, Bun0. -/
import Derived.Test.YtabkpccdnkjoiaaGreatMsgSameG0
import Derived.Test.YtabkpccdnkjoiaaGreatMsgSameG4
import Derived.Test.YtabkpccdnkjoiaaGreatMsgSameG7
import Derived.Test.YtabkpccdnkjoiaaGreatMsgSameG8
set_option linter.unusedSimpArgs false
set_option linter.unusedVariables false
set_option maxHeartbeats 32000000
set_option maxRecDepth 1000000
namespace Go.Proofs.YtabkpccdnkjoiaaGreat
open Go.RowKit
def OD (w:World) (es:List aG) (ks:aH) (e:Ending) (w':World):Prop:=
 ∃ev' kv',e= .returned (.agg #[ev',kv'])∧bQ (fun b=>w.heap.size≤b) w' ev' kv' es ks∧aj ay w w'
theorem WA (Q:Nat→Prop):∀(N:Nat) (es:List aG) (ks:aH) (w:World) (ev kv:Value),gW ks<N→bQ Q w ev kv es ks→sizeT es ks≤100000→
 Calls Tryz.prog 207 #[.agg #[ev,kv]] w (OD w es ks):=by
 intro N
 induction N with
 |zero=>intros;exfalso;omega
 |succ N jy=>
  intro es ks w ev kv hN ht hsz
  obtain⟨i0,hi,hz0,hz1,hz2⟩:=info_parts OB
  obtain⟨ae,ce,rfl⟩:=ht.ents.rd.sl
  obtain⟨os,hkr,fD⟩:=ht.kids
  obtain⟨ak,ck,rfl⟩:=hkr.rd.sl
  have HE:=ah ht.ents.rd
  have jl:=ah hkr.rd;clear hkr ht
  have kW:=ah fD;clear fD
  have IH:=ah jy;clear jy
  have xw:es.length≤100000:=by unfold sizeT at hsz;omega
  have BP:ks.len≤100000:=by have:=uQ ks;unfold sizeT at hsz;omega
  have rP:=ah (fun W (h:aj ay w W)=>Wx W (.slice ae es.length ce) es (HE.out.aO h) xw)
  have m_:=ah hsz;clear hsz
  have jJ:=ah hN;clear hN
  generalize hes:es.length=n at*
  have HN:=ah hes;clear hes
  generalize hkl:ks.len=m at*
  have HM:=ah hkl;clear hkl
  obtain⟨WB,jA⟩:∃WB,WB=(w.alloc (.cells #[.slice ae n ce, .slice ak m ck] 30)).alloc (.cells #[.slice none 0 0, .slice none 0 0] 30):=⟨_,rfl⟩
  have hfb:aj ay w WB:=by rw[jA];exact(aj.alloc _ _ _).alloc1
  have hb0:WB.heap[w.heap.size]?=some (.cells #[.slice ae n ce, .slice ak m ck] 30 (0,0)):=by rw[jA,Below.heap_alloc _ _ _ (by simp)];exact heap_alloc_new w _
  have hb2:WB.heap[w.heap.size+1]?=some (.cells #[.slice none 0 0, .slice none 0 0] 30 (0,0)):=by
   rw[jA]
   have:=heap_alloc_new (w.alloc (.cells #[.slice ae n ce, .slice ak m ck] 30)) (.cells #[.slice none 0 0, .slice none 0 0] 30)
   simpa using this
  have hbs:WB.heap.size=w.heap.size+1+1:=by rw[jA];simp
  have bg:=ah hfb;clear hfb
  have HB0:=ah hb0;clear hb0
  have HB2:=ah hb2;clear hb2
  have uT:=ah hbs;clear hbs
  have hcall:∀W,W=WB→Calls Tryz.prog 255 #[.slice ae n ce] W fun e w'=>∃v',e= .returned v'∧OwnAt WB w' 172 4 v' n (iY es):=fun W hW=>by rw[hW];exact rP.out WB bg.out
  have WC:=ah hcall;clear hcall
  have dB:=ah jA.symm;clear jA
  go_enter Tryz.func207,Tryz.ntmps207
  go_wp2_with(go_at_call 255;refine(WC.out _ dB.out).mono ?_;rintro e w1 ⟨v1,rfl,ho1⟩;obtain⟨a1,c1,rfl⟩:=ho1.shape;have gI:=ah ho1;clear ho1;have b1:w1.cell? ⟨w.heap.size,1,none⟩=some (.slice ak m ck):=gI.out.aP.cell' (aC HB0.out 1 rfl) id;have hlt1:w.heap.size<w1.heap.size:=World.block_lt_of_cell? _ _ b1)
  have hln:aj ay w (w1.alloc (.cells #[.slice a1 n c1, .slice none 0 0] 30)):=(bg.out.au gI.out.aP).alloc1
  have hc0:uS w (w1.alloc (.cells #[.slice a1 n c1, .slice none 0 0] 30)) (w.heap.size+1) w1.heap.size n (.slice a1 n c1) (.slice none 0 0) es ks 0 []:=by
   have hs1:=gI.out.aP.size
   have hbs:=uT.out
   refine⟨hln,(aj.alloc ay _ _).blk (gI.out.aP.blk HB2.out id) id,heap_alloc_new w1 _,by omega,by have:=bg.out.size;omega,by omega,h_.nil hln _ _,?_,fun q hq=>(by cases hq),rfl,rfl⟩
   refine gI.out.EX.turn fun b hb hQ=>⟨Below.heap_alloc _ _ _ hb,by omega,by omega,by omega,by simp[Value.ownBlock]⟩
  have WE:=ah hc0;clear hc0
  have kM:=ah hln;clear hln
  clear b1 hlt1
  go_loopw [13] (fun i ww=>∃(k:Nat) (l:List fM) (OE:Value),k≤m∧i= .int .i64 k∧uS w ww (w.heap.size+1) w1.heap.size n (.slice a1 n c1) OE es ks k l) (fun i _=>m-(intOf i).toNat)
  case atStart=>exact⟨0,[],_,Nat.zero_le _,rfl,WE.out⟩
  case round=>
   obtain⟨k,l,OE,hk,rfl,hc⟩:=hrel
   obtain⟨av,cv,rfl⟩:=hc.own.at_.shape
   have HC:=ah hc;clear hc
   by_cases hlt:k<m
   ·obtain⟨key,es',sub,rest,hdr⟩:=aH.rM (n:=k) (ks:=ks) (by rw[HM.out];exact hlt)
    rcases Rd.shape jl.out with⟨ad,he,h0⟩|⟨b,off,cc,he,hmax⟩
    ·exfalso;have:=HM.out;omega
    ·injection he with e1 e2 e3
     subst e1 e3
     clear e2
     obtain⟨ev',kv',q0,q1,q2,hta⟩:=qK (jl.out.aO HC.out.aP) (kW.out.aO HC.out.aP) hdr
     obtain⟨dW,dX,rfl⟩:=hta.ents.rd.sl
     obtain⟨os',iK,kX⟩:=hta.kids
     obtain⟨dY,dZ,rfl⟩:=iK.rd.sl
     clear iK kX
     have fF:=ah (uP k hdr)
     have HST:=ah (xu k hdr)
     have dM:=ah hta;clear hta
     have HIH:=ah (fun w' (h:aj ay wr w')=>IH.out es' sub w' _ _ (by have:=fF.out;have:=jJ.out;omega) (dM.out.aO h) (by have:=HST.out;have:=m_.out;unfold sizeT at*;omega))
     have HDR:=ah hdr;clear hdr
     have hkp:k≤100000:=by omega
     generalize es'.length=n' at*
     generalize sub.len=m' at*
     have hsp:(wr.alloc (.cells #[.string key, .slice dW n' dX, .slice dY m' dZ] 83)).heap[wr.heap.size]?=some (.cells #[.string key, .slice dW n' dX, .slice dY m' dZ] 83 (0,0)):=heap_alloc_new wr _
     have sQ:=ah hsp;clear hsp
     have WG:=lt_of_block HC.out.b3
     have acF:=lt_of_block HC.out.b2
     have OG:∀b,(Value.slice av k cv).ownBlock=some b→b<wr.heap.size:=fun b hb=>HC.out.own.at_.lt b hb
     have OH:=ah OG;clear OG
     have hfa:aj ay wr (wr.alloc (.cells #[.string key, .slice dW n' dX, .slice dY m' dZ] 83)).drew:=(aj.alloc _ _ _).vG
     have aU:=ah hfa;clear hfa
     have hsz0:(wr.alloc (.cells #[.string key, .slice dW n' dX, .slice dY m' dZ] 83)).drew.heap.size=wr.heap.size+1:=by show(wr.alloc _).heap.size=_;simp
     have EY:=ah hsz0;clear hsz0
     go_wp2_with fail
     refine iI (S:=fun w'=>w'.cell? ⟨wr.heap.size,0,none⟩=some (.string key)∧w'.cell? ⟨wr.heap.size,1,none⟩=some (.slice dW n' dX)∧w'.cell? ⟨wr.heap.size,2,none⟩=some (.slice dY m' dZ)∧w'.cell? ⟨w1.heap.size,1,none⟩=some (.slice av k cv)) 11 (by kernel_rfl) ⟨aC sQ.out 0 rfl,aC sQ.out 1 rfl,aC sQ.out 2 rfl,aU.out.cell' (aC HC.out.b3 1 rfl) id⟩ ?_
     intro hS
     generalize (wr.alloc (.cells #[.string key, .slice dW n' dX, .slice dY m' dZ] 83)).drew=Y0 at*
     refine aS 0 17 rfl rfl (v:=?_) (.inl ⟨by rfl,?_⟩) ?_
     rotate_left 1
     ·(intro w hSw;(try dsimp only at hSw);go_simp;(try with_reducible rfl))
     refine aS 1 18 rfl rfl (v:=?_) (.inl ⟨by rfl,?_⟩) ?_
     rotate_left 1
     ·(intro w hSw;(try dsimp only at hSw);go_simp;(try with_reducible rfl))
     try simp only[Act.put,aI,aJ,aN]
     refine aS 2 19 rfl rfl (v:=?_) (.inl ⟨by rfl,?_⟩) ?_
     rotate_left 1
     ·(intro w hSw;(try dsimp only at hSw);go_simp;(try with_reducible rfl))
     refine aS 3 20 rfl rfl (v:=?_) (.inl ⟨by rfl,?_⟩) ?_
     rotate_left 1
     ·(intro w hSw;(try dsimp only at hSw);go_simp;(try with_reducible rfl))
     try simp only[Act.put,aI,aJ,aN]
     refine aS 4 21 rfl rfl (v:=?_) (.inl ⟨by rfl,?_⟩) ?_
     rotate_left 1
     ·(intro w hSw;(try dsimp only at hSw);go_simp;(try with_reducible rfl))
     refine aS 5 22 rfl rfl (v:=?_) (.inl ⟨by rfl,?_⟩) ?_
     rotate_left 1
     ·(intro w hSw;(try dsimp only at hSw);go_simp;(try with_reducible rfl))
     try simp only[Act.put,aI,aJ,aN]
     refine bM (i:=6) (by kernel_rfl) rfl (fun K hK=>?_)
     go_simp
     refine(HIH.out _ aU.out).mono ?_
     rintro e Y ⟨I_,Ja,rfl,lM,hf3⟩
     obtain⟨a3,c3,rfl⟩:=lM.ents.rd.sl
     obtain⟨os3,fU,-⟩:=lM.kids
     obtain⟨a4,c4,rfl⟩:=fU.rd.sl
     clear fU
     have Jb:=ah lM;clear lM
     have HF3:=ah hf3;clear hf3
     generalize es'.length=n3 at*
     generalize sub.len=m3 at*
     have hS3:Y.cell? ⟨wr.heap.size,0,none⟩=some (.string key)∧Y.cell? ⟨wr.heap.size,1,none⟩=some (.slice dW n' dX)∧Y.cell? ⟨wr.heap.size,2,none⟩=some (.slice dY m' dZ)∧Y.cell? ⟨w1.heap.size,1,none⟩=some (.slice av k cv):=⟨HF3.out.cell' hS.1 id,HF3.out.cell' hS.2.1 id,HF3.out.cell' hS.2.2.1 id,HF3.out.cell' hS.2.2.2 id⟩
     refine hK.out _ _ hS3 ?_
     clear hK K hS
     try simp only[Act.put,aI,aJ,aN]
     refine aS 7 24 rfl rfl (v:=?_) (.inl ⟨by rfl,?_⟩) ?_
     rotate_left 1
     ·(intro w hSw;(try dsimp only at hSw);go_simp;(try with_reducible rfl))
     try simp only[Act.put,aI,aJ,aN]
     refine bM (i:=8) (by kernel_rfl) rfl (fun K hK=>?_)
     go_simp
     have hS4:(Y.alloc (.cells #[.string key, .slice a3 n3 c3, .slice a4 m3 c4] 83)).cell? ⟨wr.heap.size,0,none⟩=some (.string key)∧(Y.alloc (.cells #[.string key, .slice a3 n3 c3, .slice a4 m3 c4] 83)).cell? ⟨wr.heap.size,1,none⟩=some (.slice dW n' dX)∧(Y.alloc (.cells #[.string key, .slice a3 n3 c3, .slice a4 m3 c4] 83)).cell? ⟨wr.heap.size,2,none⟩=some (.slice dY m' dZ)∧(Y.alloc (.cells #[.string key, .slice a3 n3 c3, .slice a4 m3 c4] 83)).cell? ⟨w1.heap.size,1,none⟩=some (.slice av k cv):=⟨(aj.alloc ay Y _).cell' hS3.1 id,(aj.alloc ay Y _).cell' hS3.2.1 id,(aj.alloc ay Y _).cell' hS3.2.2.1 id,(aj.alloc ay Y _).cell' hS3.2.2.2 id⟩
     refine hK.out _ _ hS4 ?_
     clear hK K
     try simp only[Act.put,aI,aJ,aN]
     refine bM (i:=9) (by kernel_rfl) rfl (fun K hK=>?_)
     have zT:=ah ((HC.out.keep aU.out).keep HF3.out)
     have WH:wr.heap.size<Y.heap.size:=by have:=HF3.out.size;have:=EY.out;omega
     refine Ij (fun b=>b<Y.heap.size∧(Value.slice av k cv).ownBlock≠some b) w Y [.string key, .slice a3 n3 c3, .slice a4 m3 c4] rfl (.tmp 18) (.tmp 25) 28 rfl 83 i0 _ 3 64 Tryz.underlying28 hi hz0 hz1 hz2 (by decide) (by decide) (.slice av k cv) k _ ⟨zT.out.own.at_,fun b hb hn=>hn.2 hb⟩ (fun b hb=>hb.1) 1 1 (by simp[Act.eval]) (by simp[Act.eval]) rfl (by simp[Value.oneCell']) (by simp only[maxLen];omega) (by omega) ?_
     intro ad mF w2 cZ jC
     have hnk:∀b,b≤wr.heap.size→(Value.slice av k cv).ownBlock≠some b→b<Y.heap.size∧(Value.slice av k cv).ownBlock≠some b:=fun b hb hn=>⟨by omega,hn⟩
     have hle3:w1.heap.size≤wr.heap.size:=Nat.le_of_lt WG
     have xw:(Value.slice av k cv).ownBlock≠some wr.heap.size:=fun h=>by have:=OH.out _ h;omega
     have hn3:(Value.slice av k cv).ownBlock≠some w1.heap.size:=fun h=>HC.out.own.but _ h (.inr rfl)
     have hS5:w2.cell? ⟨wr.heap.size,0,none⟩=some (.string key)∧w2.cell? ⟨wr.heap.size,1,none⟩=some (.slice dW n' dX)∧w2.cell? ⟨wr.heap.size,2,none⟩=some (.slice dY m' dZ)∧w2.cell? ⟨w1.heap.size,1,none⟩=some (.slice av k cv):=⟨jC.cell (hnk _ (Nat.le_refl _) xw) hS3.1,jC.cell (hnk _ (Nat.le_refl _) xw) hS3.2.1,jC.cell (hnk _ (Nat.le_refl _) xw) hS3.2.2.1,jC.cell (hnk _ hle3 hn3) hS3.2.2.2⟩
     refine hK.out _ _ hS5 ?_
     clear hK K hS4
     have hcf:w2.frozen? ⟨w1.heap.size,1,none⟩=false:=jC.frozen (p:=⟨w1.heap.size,1,none⟩) (hnk _ hle3 hn3) (bf zT.out.b3 1)
     have hfm:aj (fJ (.slice av k cv)) Y w2:=⟨cZ.at_.aP.os.trans zT.out.aP.os.symm,cZ.at_.aP.tape.trans zT.out.aP.tape.symm,cZ.at_.aP.output.trans zT.out.aP.output.symm,jC.1,fun b hb hn=>jC.2 b ⟨hb,hn⟩⟩
     have hfr:gK Y (.slice av k cv) (.slice ad (k+1) mF):=fun b hb=>by
      by_cases h1:(Value.slice av k cv).ownBlock=some b
      ·exact .inl h1
      ·refine .inr ?_
       have:=cZ.but b hb
       rcases Nat.lt_or_ge b Y.heap.size with h2|h2
       ·exact absurd ⟨h2,h1⟩ this
       ·exact h2
     have hq3:bQ (yN w (w.heap.size+1) w1.heap.size (.slice av k cv)) Y (.slice a3 n3 c3) (.slice a4 m3 c4) es' sub:=Jb.out.turn fun b hb hQ=>by
      have h0:=EY.out
      have h1:=HC.out.aP.size
      refine⟨rfl,by omega,by omega,by omega,fun h=>?_⟩
      have:=OH.out _ h
      omega
     have sS:=ah (zT.out.step (q:=⟨key,es',sub, .slice a3 n3 c3, .slice a4 m3 c4⟩) HDR.out hq3 cZ.at_.own hfm hfr)
     clear cZ jC hfm hfr hq3 hnk xw hn3 WH
     try simp only[Act.put,aI,aJ,aN]
     refine aS 10 27 rfl rfl (v:=?_) (.inl ⟨by rfl,?_⟩) ?_
     rotate_left 1
     ·(intro w hSw;(try dsimp only at hSw);go_simp;(try with_reducible rfl))
     try simp only[Act.put,aI,aJ,aN]
     refine iQ (by kernel_rfl) (by kernel_rfl) rfl (fun K hK=>?_)
     have hcz:=hS5.2.2.2
     clear hS5 hS3
     go_simp
     refine hK.out _ _ ?_
     clear hK K hcz hcf
     go_wp2
     go_roundw
     case rel=>exact⟨k+1,_,_,by omega,by go_num,sS.out⟩
     case measure=>simp[intOf];omega
   ·obtain rfl:m=k:=by omega
    have hdn:=HC.out.done HN.out.symm (by rw[HM.out];exact Nat.le_refl _)
    have lG:=ah hdn;clear hdn
    have y0:=aC HC.out.b3 0 rfl
    have y1:=aC HC.out.b3 1 rfl
    have z0:=aC HC.out.b2 0 rfl
    have z1:=aC HC.out.b2 1 rfl
    have f0:=bf HC.out.b2 0
    have f1:=bf HC.out.b2 1
    go_wp2
    clear y0 y1 z0 z1
    have y0:=aC lG.out.2.2 0 rfl
    have y1:=aC lG.out.2.2 1 rfl
    exact bodyPost_ret (v:= .agg #[.slice a1 n c1, .slice av m cv]) (by simp[results,Tryz.results207,go_sem,y0,y1]) rfl ⟨_,_,rfl,lG.out.1,lG.out.2.1⟩
open Go.RowKit
theorem zU {w:World} {b j k:Nat} {v:Value} (h:k≠b):(w.setCell ⟨b,j,none⟩ v).heap[k]?=w.heap[k]?:=Below.heap_setCell _ _ _ _ h
theorem res2 {w0 w:World} {b:Nat} {T:TypeId} {a0 a1:Value} (h:w.heap[b]?=some (.cells #[a0,a1] T (0,0))) (f:aj ay w0 w) (hb:w0.heap.size≤b) (v0 v1:Value):
 ((w.setCell ⟨b,0,none⟩ v0).setCell ⟨b,1,none⟩ v1).heap[b]?=some (.cells #[v0,v1] T (0,0))∧aj ay w0 ((w.setCell ⟨b,0,none⟩ v0).setCell ⟨b,1,none⟩ v1)∧
   ∀k,k≠b→((w.setCell ⟨b,0,none⟩ v0).setCell ⟨b,1,none⟩ v1).heap[k]?=w.heap[k]?:=
 ⟨bJ (bJ h 0 v0) 1 v1,(f.set1 (p:=⟨b,0,none⟩) (.inr hb)).set1 (p:=⟨b,1,none⟩) (.inr hb),fun k hk=>(zU hk).trans (zU hk)⟩
theorem Jc {w0 w:World} {b:Nat} {T:TypeId} {a0 a1 a2:Value} (h:w.heap[b]?=some (.cells #[a0,a1,a2] T (0,0))) (f:aj ay w0 w) (hb:w0.heap.size≤b) (v0 v1 v2:Value):
 (((w.setCell ⟨b,0,none⟩ v0).setCell ⟨b,1,none⟩ v1).setCell ⟨b,2,none⟩ v2).heap[b]?=some (.cells #[v0,v1,v2] T (0,0))∧aj ay w0 (((w.setCell ⟨b,0,none⟩ v0).setCell ⟨b,1,none⟩ v1).setCell ⟨b,2,none⟩ v2)∧
   ∀k,k≠b→(((w.setCell ⟨b,0,none⟩ v0).setCell ⟨b,1,none⟩ v1).setCell ⟨b,2,none⟩ v2).heap[k]?=w.heap[k]?:=
 ⟨bJ (bJ (bJ h 0 v0) 1 v1) 2 v2,((f.set1 (p:=⟨b,0,none⟩) (.inr hb)).set1 (p:=⟨b,1,none⟩) (.inr hb)).set1 (p:=⟨b,2,none⟩) (.inr hb),fun k hk=>((zU hk).trans (zU hk)).trans (zU hk)⟩
theorem sZ (w:World) (o:Obj) (cs:Array Value) (T:TypeId):((w.alloc o).alloc (.cells cs T)).heap[w.heap.size+1]?=some (.cells cs T (0,0))∧aj ay w ((w.alloc o).alloc (.cells cs T))∧((w.alloc o).alloc (.cells cs T)).heap.size=w.heap.size+1+1:=by
 refine⟨?_,(aj.alloc _ _ _).alloc1,by simp⟩
 have:=heap_alloc_new (w.alloc o) (.cells cs T)
 simpa using this
theorem Jd (w:World) (v0 v1:Value) (T:TypeId) (W:World) (f:aj ay (w.alloc (.cells #[v0,v1] T)) W):W.cell? ⟨w.heap.size,0,none⟩=some v0∧W.cell? ⟨w.heap.size,1,none⟩=some v1:=
 ⟨f.cell' (aC (heap_alloc_new w _) 0 rfl) id,f.cell' (aC (heap_alloc_new w _) 1 rfl) id⟩
theorem xA (w:World) (v0 v1 v2:Value) (T:TypeId) (W:World) (f:aj ay (w.alloc (.cells #[v0,v1,v2] T)) W):W.cell? ⟨w.heap.size,0,none⟩=some v0∧W.cell? ⟨w.heap.size,1,none⟩=some v1∧W.cell? ⟨w.heap.size,2,none⟩=some v2:=
 ⟨f.cell' (aC (heap_alloc_new w _) 0 rfl) id,f.cell' (aC (heap_alloc_new w _) 1 rfl) id,f.cell' (aC (heap_alloc_new w _) 2 rfl) id⟩
open Go.RowKit
theorem zV (Q:Nat→Prop) (es:List aG) (ks:aH) (w:World) (ev kv:Value) (ht:bQ Q w ev kv es ks) (hok:iJ es ks):
 Calls Tryz.prog 155 #[.agg #[ev,kv]] w fun e w'=>e= .returned (.bool (bW 5 es ks))∧aj ay w w':=by
 obtain⟨ae,ce,rfl⟩:=ht.ents.rd.sl
 obtain⟨os,hkr,fD⟩:=ht.kids
 obtain⟨ak,ck,rfl⟩:=hkr.rd.sl
 have hc:∀W,aj ay w W→Calls Tryz.prog 201 #[.agg #[.slice ae es.length ce, .slice ak ks.len ck], .int .i64 5] W fun e w'=>e= .returned (.bool (bW 5 es ks))∧aj ay W w':=fun W f=>Wu Q _ es ks 5 W _ _ (Nat.lt_succ_self _) (ht.aO f) hok (by omega)
 have HC:=ah hc
 clear hkr fD ht hok hc
 generalize bW 5 es ks=y at*
 generalize es.length=n at*
 generalize ks.len=m at*
 go_enter Tryz.func155,Tryz.ntmps155
 go_wp2_with(go_at_call 201;refine(HC.out _ (aj.alloc _ _ _)).mono ?_;rintro e w3 ⟨rfl,hw3⟩;have HW3:=ah ((aj.alloc ay _ _).au hw3);clear hw3)
 go_ret
 exact⟨rfl,HW3.out⟩
def Je (w:World) (es:List aG) (ks:aH) (e:Ending) (w':World):Prop:=
 aj ay w w'∧(bW 5 es ks=true→∃v' c,e= .returned (.tuple #[v', .int .i64 0])∧OwnAt w w' 144 3 v' c.length (eu c)∧og (gq es ks) c∧c.length≤16000)∧(bW 5 es ks=false→e= .returned (.tuple #[.slice none 0 0, .int .i64 1]))
theorem OI (Q:Nat→Prop) (es:List aG) (ks:aH) (w:World) (ev kv:Value) (ht:bQ Q w ev kv es ks) (hok:iJ es ks) (hsz:sizeT es ks≤4000):
 Calls Tryz.prog 146 #[.agg #[ev,kv]] w (Je w es ks):=by
 obtain⟨ae,ce,rfl⟩:=ht.ents.rd.sl
 obtain⟨os,hkr,fD⟩:=ht.kids
 obtain⟨ak,ck,rfl⟩:=hkr.rd.sl
 have HR:=ah (fun W (f:aj ay w W)=>zV Q es ks W _ _ (ht.aO f) hok)
 have HA:=ah (fun w' (h:aj ay w w')=>Wp Q _ es ks w' _ _ (Nat.lt_succ_self _) (ht.aO h) (by omega))
 have hdl:=BL es ks
 have mJ:=ah (show(gq es ks).length≤4000 by omega)
 clear hkr fD ht hok hsz hdl
 by_cases hr:bW 5 es ks=true
 ·have HDK:=ah (BK hr)
  rw[hr]at HR
  have eF:=ah hr;clear hr
  have hpost:∀e w',aj ay w w'→(∃v' c,e= .returned (.tuple #[v', .int .i64 0])∧OwnAt w w' 144 3 v' c.length (eu c)∧og (gq es ks) c∧c.length≤16000)→Je w es ks e w':=fun e w' h1 h2=>⟨h1,fun _=>h2,fun h=>by rw[eF.out]at h;cases h⟩
  have jm:=ah hpost;clear hpost
  generalize gq es ks=l at*
  generalize es.length=n at*
  generalize ks.len=m at*
  go_enter Tryz.func146,Tryz.ntmps146
  go_wp2_with(first
   |(go_at_call 155;refine(HR.out _ (aj.alloc _ _ _)).mono ?_;rintro e w1 ⟨rfl,hw1⟩;obtain⟨y0,y1⟩:=Jd w _ _ _ w1 hw1;have HW1:=ah ((aj.alloc ay _ _).au hw1);clear hw1)
   |(go_at_call 187;refine(HA.out _ HW1.out).mono ?_;rintro e w2 ⟨v2,rfl,ho2⟩;obtain⟨a2,c2,rfl⟩:=ho2.shape;have jG:=ah ho2;clear ho2)
   |(go_at_call 186;refine(VU _ _ l jG.out.rd HDK.out (by have:=mJ.out;omega)).mono ?_;rintro e w3 ⟨v3,c,rfl,ho3,hof,-⟩;obtain⟨a3,c3,rfl⟩:=ho3.shape;have dJ:=ah ho3;clear ho3;have iW:=ah hof;clear hof))
  go_ret2
  have hf:=(HW1.out.au jG.out.aP).au dJ.out.aP
  exact jm.out _ _ hf ⟨_,c,rfl,dJ.out.base (HW1.out.au jG.out.aP),iW.out,by have:=iW.out.length;have:=mJ.out;omega⟩
 ·have hr':bW 5 es ks=false:=by simpa using hr
  rw[hr']at HR
  have eF:=ah hr';clear hr hr' mJ HA
  have hpost:∀w',aj ay w w'→Je w es ks (.returned (.tuple #[.slice none 0 0, .int .i64 1])) w':=fun w' h1=>⟨h1,(fun h=>by rw[eF.out]at h;cases h),fun _=>rfl⟩
  have jm:=ah hpost;clear hpost eF
  generalize es.length=n at*
  generalize ks.len=m at*
  go_enter Tryz.func146,Tryz.ntmps146
  go_wp2_with(go_at_call 155;refine(HR.out _ (aj.alloc _ _ _)).mono ?_;rintro e w1 ⟨rfl,hw1⟩;have HW1:=ah ((aj.alloc ay _ _).au hw1);clear hw1)
  go_ret2
  exact jm.out _ HW1.out
theorem OJ (Q:Nat→Prop) (es:List aG) (ks:aH) (w:World) (ev kv:Value) (ht:bQ Q w ev kv es ks) (hok:iJ es ks) (hsz:sizeT es ks≤4000) (hr:bW 5 es ks=true):
 Calls Tryz.prog 164 #[.agg #[ev,kv]] w (OD w es ks):=by
 obtain⟨ae,ce,rfl⟩:=ht.ents.rd.sl
 obtain⟨os,hkr,fD⟩:=ht.kids
 obtain⟨ak,ck,rfl⟩:=hkr.rd.sl
 have HR:=ah (fun W (f:aj ay w W)=>zV Q es ks W _ _ (ht.aO f) hok)
 have HA:=ah (fun w' (h:aj ay w w')=>WA Q _ es ks w' _ _ (Nat.lt_succ_self _) (ht.aO h) (by omega))
 rw[hr]at HR
 have N_:=ah (show ∀w1 w',aj ay w w1→∀ev' kv',bQ (fun b=>w1.heap.size≤b) w' ev' kv' es ks→bQ (fun b=>w.heap.size≤b) w' ev' kv' es ks from fun w1 w' h ev' kv' h2=>h2.turn fun b hb hQ=>⟨rfl,Nat.le_trans h.size hQ⟩)
 clear hkr fD ht hok hsz hr
 generalize hes:es.length=n at*
 generalize hkl:ks.len=m at*
 obtain⟨hb2,hfb,hbs⟩:=sZ w (.cells #[.slice ae n ce, .slice ak m ck] 30) #[.slice none 0 0, .slice none 0 0] 30
 have HB2:=ah hb2;clear hb2
 have bg:=ah hfb;clear hfb
 have uT:=ah hbs;clear hbs
 have BU:=ah hes;clear hes
 have vU:=ah hkl;clear hkl
 go_enter Tryz.func164,Tryz.ntmps164
 go_wp2_with(first
  |(go_at_call 155;refine(HR.out _ bg.out).mono ?_;rintro e w1 ⟨rfl,hw1⟩;obtain⟨y0,y1⟩:=Jd w _ _ _ w1 ((aj.alloc ay _ _).au hw1);have HW1:=ah hw1;clear hw1)
  |(go_at_call 207;refine(HA.out _ (bg.out.au HW1.out)).mono ?_;rintro e w2 ⟨I_,Ja,rfl,lM,hf3⟩;obtain⟨a3,c3,rfl⟩:=lM.ents.rd.sl;obtain⟨os3,fU,-⟩:=lM.kids;obtain⟨a4,c4,rfl⟩:=fU.rd.sl;clear fU;have hblk:=hf3.blk (HW1.out.blk HB2.out id) id;have y0:=aC hblk 0 rfl;have y1:=aC hblk 1 rfl;have g0:=bf hblk 0;have g1:=bf hblk 1;have hsb:=ah (lt_of_block hblk);have HR2:=ah (res2 hblk ((bg.out.au HW1.out).au hf3) (by omega) (.slice a3 es.length c3) (.slice a4 ks.len c4));have hs1:=HW1.out.size;have HP:=ah (lM.turn (Q':=fun b=>w.heap.size≤b) fun b hb hQ=>⟨HR2.out.2.2 b (by have:=uT.out;omega),by have:=uT.out;omega⟩);clear lM hf3 hblk hs1;rw[BU.out,vU.out]at HR2 HP;rw[BU.out,vU.out]))
 clear y0 y1
 have y0:=aC HR2.out.1 0 rfl
 have y1:=aC HR2.out.1 1 rfl
 exact bodyPost_ret (v:= .agg #[.slice a3 n c3, .slice a4 m c4]) (by simp[results,Tryz.results164,go_sem,y0,y1]) rfl ⟨_,_,rfl,HP.out,HR2.out.2.1⟩
open Go.RowKit
section
variable {P:Program} {md:Region.Mode} {ops:Array Oper} {Q:Exit→Act→World→Prop} {S:World→Prop} {z:Nat}
theorem OL {i j:Nat} {o p:Oper} {fuel:Nat} {listed:Array Bool} {a:Act} {w:World} (hr:Region.ready md ops listed=[i,j]) (ho:ops[i]?=some o) (hp:ops[j]?=some p)
 (h:∀K':Act→World→Prop,Shut (∀a w,S w→kN P md ops Q S z fuel (listed.setIfInBounds i true) a w→K' a w)→if Region.wanted o (yielded ops a.tmps)=true then Oper.wp P o a w K' Q else K' (a.put o.dst undef) w)
 (k:∀K':Act→World→Prop,Shut (∀a w,S w→kN P md ops Q S z fuel (listed.setIfInBounds j true) a w→K' a w)→if Region.wanted p (yielded ops a.tmps)=true then Oper.wp P p a w K' Q else K' (a.put p.dst undef) w):
 kN P md ops Q S z (fuel+1) listed a w:=
 ⟨fun h0=>(by rw[hr]at h0;cases h0),fun x hx=>by
   rw[hr]at hx
   rcases List.mem_cons.1 hx with rfl|hx
   ·exact wpOp_step ho fun K' hK=>h K' fun a w hS hW=>hK a w ⟨.inr hS,hW⟩
   ·obtain rfl:x=j:=by simpa using hx
    exact wpOp_step hp fun K' hK=>k K' fun a w hS hW=>hK a w ⟨.inr hS,hW⟩⟩
theorem zW {o:Oper} {a:Act} (w0 w:World) {K:Act→World→Prop} {E:Prop} (news:List Value) (hgd:o.guard=none) (s x:Operand) (t tx:TypeId)
 (ho:o.op= .call {callee:= .builtin .append,args:= #[s,x],argTypes:= #[t,tx]})
 (e ex:TypeId) (i:TypeInfo) (zv:Value) (size bytes:Nat) (ht:P.underlying t=some (.slice e)) (htx:P.underlying tx=some (.slice ex)) (hi:P.info? e=some i) (hz:i.zero=some zv)
 (hsize:i.size=size) (hby:i.bytes=bytes) (hzs:zv.cells.size=size) (hsz:0<size)
 (v:Value) (n:Nat) (xs:List Value) (hown:OwnAt w0 w e size v n xs) (xv:Value) (m:Nat) (hv:a.eval s=v) (hx:a.eval x=xv) (hr:Rd w xv m news)
 (hnl:news.length=m*size) (h1:∀u∈news,u.oneCell'=true) (h63:n+m≤maxLen) (hbytes:(n+m)*bytes≤140737488355328)
 (h:∀ad c w',OwnAt w0 w' e size (.slice ad (n+m) c) (n+m) (xs++news)→aj (fJ v) w w'→gK w v (.slice ad (n+m) c)→K (a.put o.dst (.slice ad (n+m) c)) w'):
 if Region.wanted o (yielded ops a.tmps)=true then Oper.wp P o a w K Q else E:=by
 have hw:Region.wanted o (yielded ops a.tmps)=true:=by simp[Region.wanted,hgd]
 rw[if_pos hw]
 obtain⟨v',w',hrun,h2,h3,h4,⟨ad,c',rfl⟩,h6⟩:=Ba (P:=P) w t tx o.type e i zv size bytes ht hi hz hsize hby hzs hsz v n xs hown.own _ m news (hr.src htx hnl h1) h63 hbytes
 unfold Oper.wp execOp
 simp only[ho,resolve,invoke,builtin,Sem.run_bind,Sem.run_pure,Result.andThen_ok,List.map_toArray,List.map_cons,List.map_nil,hv,hx,hrun]
 exact h ad c' w' (hown.step h2 h3 h4) h3 h4
end
open Go.RowKit
structure fG (es:List aG) (ks:aH) (c:aW):Prop where
 tree:bW 5 es ks=true
 ctx:dw c
 dots:uO (gq es ks) c
structure fH (Q:Nat→Prop) (w:World) (ev kv cv:Value) (es:List aG) (ks:aH) (c:aW):Prop where
 tree:bQ Q w ev kv es ks
 ctx:fZ w cv c
structure fP (es:List aG) (ks:aH) (c:aW):Prop where
 tree:iJ es ks
 small:sizeT es ks≤2000
 fits:kE c
 len:c.length≤2000
theorem fH.aO {Q:Nat→Prop} {w w':World} {ev kv cv:Value} {es:List aG} {ks:aH} {c:aW} (h:fH Q w ev kv cv es ks c) (f:aj ay w w'):fH Q w' ev kv cv es ks c:=⟨h.tree.aO f,Rd.aO h.ctx f⟩
theorem fH.shape {Q:Nat→Prop} {w:World} {ev kv cv:Value} {es:List aG} {ks:aH} {c:aW} (h:fH Q w ev kv cv es ks c):∃a0 c0 a1 c1 a2 c2,ev= .slice a0 es.length c0∧kv= .slice a1 ks.len c1∧cv= .slice a2 c.length c2:=by
 obtain⟨a0,c0,h0⟩:=h.tree.ents.rd.sl
 obtain⟨os,hk,_⟩:=h.tree.kids
 obtain⟨a1,c1,h1⟩:=hk.rd.sl
 obtain⟨a2,c2,h2⟩:=Rd.sl h.ctx
 exact⟨a0,c0,a1,c1,a2,c2,h0,h1,h2⟩
theorem yO (Q:Nat→Prop) (es:List aG) (ks:aH) (c:aW) (w:World) (ev kv cv:Value) (h:fH Q w ev kv cv es ks c) (hok:fP es ks c):
 Calls Tryz.prog 93 #[.agg #[ev,kv,cv]] w fun e w'=>e= .returned (.bool (tf (fG es ks c)))∧aj ay w w':=by
 obtain⟨a0,c0,a1,c1,a2,c2,rfl,rfl,rfl⟩:=h.shape
 have HD:=ah (fun w' (f:aj ay w w')=>OI Q es ks w' _ _ (h.tree.aO f) hok.tree (Nat.le_trans hok.small (by decide)))
 have HL:=ah (fun w' (f:aj ay w w') vd d (hd:fZ w' vd d) (rd:dw d) (ld:d.length≤16000)=>Oa w' vd _ d c hd (Rd.aO h.ctx f) rd.fits hok.fits (by omega) (by have:=hok.len;omega))
 clear h hok
 by_cases hr:bW 5 es ks=true
 ·have dL:=ah (BK hr)
  have eF:=ah hr;clear hr
  have hpost:∀d,og (gq es ks) d→tf (dw d∧dw c∧jr d c)=tf (fG es ks c):=fun d hd=>kT ⟨fun h=>⟨eF.out,h.2.1,(hd.leq dL.out).1 h.2.2⟩,fun h=>⟨hd.right,h.ctx,(hd.leq dL.out).2 h.dots⟩⟩
  have jm:=ah hpost;clear hpost
  generalize tf (fG es ks c)=y at*
  generalize es.length=n at*
  generalize ks.len=m at*
  generalize c.length=k at*
  go_enter Tryz.func93,Tryz.ntmps93
  go_wp2_with(first
   |(go_at_call 146;refine(HD.out _ (aj.alloc _ _ _)).mono ?_;rintro e w1 ⟨hf1,hp1,-⟩;obtain⟨v1,d,rfl,ho1,hof,hl1⟩:=hp1 eF.out;clear hp1;obtain⟨y0,y1,y2⟩:=xA w _ _ _ _ w1 hf1;obtain⟨b1,e1,rfl⟩:=ho1.shape;have gI:=ah ho1;clear ho1;have iW:=ah hof;clear hof;have pK:=ah hl1;clear hl1 hf1)
   |(go_at_call 147;refine(HL.out _ ((aj.alloc ay _ _).au gI.out.aP) _ d gI.out.rd iW.out.right pK.out).mono ?_;rintro e w2 ⟨rfl,hw2⟩;rw[jm.out d iW.out];have HW2:=ah hw2;clear hw2))
  go_ret
  exact⟨rfl,((aj.alloc ay _ _).au gI.out.aP).au HW2.out⟩
 ·have hr':bW 5 es ks=false:=by simpa using hr
  rw[aZ fun h=>hr h.tree]
  have eF:=ah hr';clear hr hr' HL
  generalize es.length=n at*
  generalize ks.len=m at*
  generalize c.length=k at*
  go_enter Tryz.func93,Tryz.ntmps93
  go_wp2_with(go_at_call 146;refine(HD.out _ (aj.alloc _ _ _)).mono ?_;rintro e w1 ⟨hf1,-,hp1⟩;obtain rfl:=hp1 eF.out;clear hp1;obtain⟨y0,y1,y2⟩:=xA w _ _ _ _ w1 hf1;have bH:=ah hf1;clear hf1)
  go_ret
  exact⟨rfl,(aj.alloc ay _ _).au bH.out⟩
def WI (w:World) (es:List aG) (ks:aH) (c:aW) (e:Ending) (w':World):Prop:=
 ∃ev kv cv,e= .returned (.agg #[ev,kv,cv])∧bQ (fun b=>w.heap.size≤b) w' ev kv es ks∧OwnAt w w' 144 3 cv c.length (eu c)
theorem WJ (Q:Nat→Prop) (es:List aG) (ks:aH) (c:aW) (w:World) (ev kv cv:Value) (h:fH Q w ev kv cv es ks c) (hok:fP es ks c) (hr:fG es ks c):
 Calls Tryz.prog 104 #[.agg #[ev,kv,cv]] w (WI w es ks c):=by
 obtain⟨a0,c0,a1,c1,a2,c2,rfl,rfl,rfl⟩:=h.shape
 have HR:=ah (fun w' (f:aj ay w w')=>bZ hr▸yO Q es ks c w' _ _ _ (h.aO f) hok)
 have HT:=ah (fun w' (f:aj ay w w')=>OJ Q es ks w' _ _ (h.tree.aO f) hok.tree (Nat.le_trans hok.small (by decide)) hr.tree)
 have HS:=ah (fun w' (f:aj ay w w')=>Wy w' _ c (Rd.aO h.ctx f) (by have:=hok.len;omega))
 clear h hok hr
 generalize hes:es.length=n at*
 generalize hkl:ks.len=m at*
 generalize hcl:c.length=k at*
 have BU:=ah hes;clear hes
 have vU:=ah hkl;clear hkl
 have nR:=ah hcl;clear hcl
 have htb:((w.alloc (.cells #[.slice a0 n c0, .slice a1 m c1, .slice a2 k c2] 34)).alloc (.cells #[.slice none 0 0, .slice none 0 0, .slice none 0 0] 34)).heap[w.heap.size+1]?=some (.cells #[.slice none 0 0, .slice none 0 0, .slice none 0 0] 34 (0,0)):=(sZ w _ _ _).1
 have gJ:=ah htb;clear htb
 have hfb:aj ay (w.alloc (.cells #[.slice a0 n c0, .slice a1 m c1, .slice a2 k c2] 34)) ((w.alloc (.cells #[.slice a0 n c0, .slice a1 m c1, .slice a2 k c2] 34)).alloc (.cells #[.slice none 0 0, .slice none 0 0, .slice none 0 0] 34)):=aj.alloc _ _ _
 have bg:=ah hfb;clear hfb
 have aQ:=ah (xA w (.slice a0 n c0) (.slice a1 m c1) (.slice a2 k c2) 34)
 go_enter Tryz.func104,Tryz.ntmps104
 go_wp2_with(go_at_call 93;refine(HR.out _ ((aj.alloc ay _ _).au bg.out)).mono ?_;rintro e w1 ⟨rfl,hw1⟩;obtain⟨y0,y1,y2⟩:=aQ.out w1 (bg.out.au hw1);have hblk:=hw1.blk gJ.out id;have Jf:=ah hblk;clear hblk;have HW1:=ah (((aj.alloc ay _ _).au bg.out).au hw1);clear hw1)
 refine iI (S:=fun w'=>w'.cell? ⟨w.heap.size,0,none⟩=some (.slice a0 n c0)∧w'.cell? ⟨w.heap.size,1,none⟩=some (.slice a1 m c1)∧w'.cell? ⟨w.heap.size,2,none⟩=some (.slice a2 k c2)) 7 (by kernel_rfl) ⟨y0,y1,y2⟩ ?_
 intro hS
 have gy:=ah (HW1.out.au (aj.drew ay w1))
 have o_:=ah ((aj.drew ay w1).blk Jf.out id)
 have hsb:w.heap.size+1<w1.drew.heap.size:=lt_of_block o_.out
 clear y0 y1 y2 HW1 Jf
 generalize w1.drew=Y at*
 refine aS 0 7 rfl rfl (v:=?_) (.inl ⟨by rfl,?_⟩) ?_
 rotate_left 1
 ·(intro w hSw;(try dsimp only at hSw);go_simp;(try with_reducible rfl))
 refine aS 1 8 rfl rfl (v:=?_) (.inl ⟨by rfl,?_⟩) ?_
 rotate_left 1
 ·(intro w hSw;(try dsimp only at hSw);go_simp;(try with_reducible rfl))
 try simp only[Act.put,aI,aJ,aN]
 refine aS 3 10 rfl rfl (v:=?_) (.inl ⟨by rfl,?_⟩) ?_
 rotate_left 1
 ·(intro w hSw;(try dsimp only at hSw);go_simp;(try with_reducible rfl))
 refine aS 4 11 rfl rfl (v:=?_) (.inl ⟨by rfl,?_⟩) ?_
 rotate_left 1
 ·(intro w hSw;(try dsimp only at hSw);go_simp;(try with_reducible rfl))
 try simp only[Act.put,aI,aJ,aN]
 refine bM (i:=2) (by kernel_rfl) rfl (fun K hK=>?_)
 go_simp
 refine(HT.out _ gy.out).mono ?_
 rintro e Y1 ⟨I_,Ja,rfl,lM,hf3⟩
 obtain⟨a3,c3,rfl⟩:=lM.ents.rd.sl
 obtain⟨os3,fU,-⟩:=lM.kids
 obtain⟨a4,c4,rfl⟩:=fU.rd.sl
 clear fU
 have hS:=(⟨hf3.cell' hS.1 id,hf3.cell' hS.2.1 id,hf3.cell' hS.2.2 id⟩:Y1.cell? ⟨w.heap.size,0,none⟩=some (.slice a0 n c0)∧Y1.cell? ⟨w.heap.size,1,none⟩=some (.slice a1 m c1)∧Y1.cell? ⟨w.heap.size,2,none⟩=some (.slice a2 k c2))
 rw[BU.out,vU.out]
 refine hK.out _ _ hS ?_
 clear hK K
 have Jb:=ah lM;clear lM
 have HF3:=ah hf3;clear hf3
 try simp only[Act.put,aI,aJ,aN]
 refine bM (i:=5) (by kernel_rfl) rfl (fun K hK=>?_)
 go_simp
 refine(HS.out _ (gy.out.au HF3.out)).mono ?_
 rintro e Y2 ⟨v5,rfl,oD⟩
 obtain⟨a5,c5,rfl⟩:=oD.shape
 have hS:=(⟨oD.aP.cell' hS.1 id,oD.aP.cell' hS.2.1 id,oD.aP.cell' hS.2.2 id⟩:Y2.cell? ⟨w.heap.size,0,none⟩=some (.slice a0 n c0)∧Y2.cell? ⟨w.heap.size,1,none⟩=some (.slice a1 m c1)∧Y2.cell? ⟨w.heap.size,2,none⟩=some (.slice a2 k c2))
 refine hK.out _ _ hS ?_
 clear hK K
 have vY:=ah oD;clear oD
 try simp only[Act.put,aI,aJ,aN]
 refine aS 6 13 rfl rfl (v:=?_) (.inl ⟨by rfl,?_⟩) ?_
 rotate_left 1
 ·(intro w hSw;(try dsimp only at hSw);go_simp;(try with_reducible rfl))
 try simp only[Act.put,aI,aJ,aN]
 refine iQ (by kernel_rfl) (by kernel_rfl) rfl (fun K hK=>?_)
 have hblk:=vY.out.aP.blk (HF3.out.blk o_.out id) id
 have HR3:=ah (Jc hblk ((gy.out.au HF3.out).au vY.out.aP) (by omega) (.slice a3 n c3) (.slice a4 m c4) (.slice a5 k c5))
 have hs3:=HF3.out.size
 have acG:=lt_of_block hblk
 have HP:=ah ((Jb.out.aO vY.out.aP).turn (Q':=fun b=>w.heap.size≤b) fun b hb hQ=>⟨HR3.out.2.2 b (by omega),by omega⟩)
 have hown:OwnAt w (((Y2.setCell ⟨w.heap.size+1,0,none⟩ (.slice a3 n c3)).setCell ⟨w.heap.size+1,1,none⟩ (.slice a4 m c4)).setCell ⟨w.heap.size+1,2,none⟩ (.slice a5 k c5)) 144 3 (.slice a5 k c5) k (eu c):=by
  have hnew:=vY.out.new
  have WL:h_ (fun b=>b=w.heap.size+1) w Y2 144 3 (.slice a5 k c5) k (eu c):=⟨vY.out.base (gy.out.au HF3.out),fun b hb hn=>by have:=hnew b hb;omega⟩
  exact(((WL.set (p:=⟨w.heap.size+1,0,none⟩) rfl (Nat.le_succ _) _).set (p:=⟨w.heap.size+1,1,none⟩) rfl (Nat.le_succ _) _).set (p:=⟨w.heap.size+1,2,none⟩) rfl (Nat.le_succ _) _).at_
 have HOW:=ah hown;clear hown
 have y0:=aC hblk 0 rfl
 have y1:=aC hblk 1 rfl
 have y2:=aC hblk 2 rfl
 have g0:=bf hblk 0
 have g1:=bf hblk 1
 have g2:=bf hblk 2
 clear hS hblk
 go_simp
 refine hK.out _ _ ?_
 clear hK K y0 y1 y2 g0 g1 g2
 go_wp2
 have y0:=aC HR3.out.1 0 rfl
 have y1:=aC HR3.out.1 1 rfl
 have y2:=aC HR3.out.1 2 rfl
 exact bodyPost_ret (v:= .agg #[.slice a3 n c3, .slice a4 m c4, .slice a5 k c5]) (by simp[results,Tryz.results104,go_sem,y0,y1,y2]) rfl ⟨_,_,_,rfl,by have:=HP.out;rw[BU.out,vU.out]at this;exact this,nR.out.symm▸HOW.out⟩
open Go.RowKit
theorem BX (w:World) (u0 u1 u2 u3 u4 u5 u6 u7 u8 u9:Value) (T:TypeId) (W:World) (f:aj ay (w.alloc (.cells #[u0,u1,u2,u3,u4,u5,u6,u7,u8,u9] T)) W):W.cell? ⟨w.heap.size,0,none⟩=some u0∧W.cell? ⟨w.heap.size,1,none⟩=some u1∧W.cell? ⟨w.heap.size,2,none⟩=some u2∧W.cell? ⟨w.heap.size,3,none⟩=some u3∧W.cell? ⟨w.heap.size,4,none⟩=some u4∧W.cell? ⟨w.heap.size,5,none⟩=some u5∧W.cell? ⟨w.heap.size,6,none⟩=some u6∧W.cell? ⟨w.heap.size,7,none⟩=some u7∧W.cell? ⟨w.heap.size,8,none⟩=some u8∧W.cell? ⟨w.heap.size,9,none⟩=some u9:=
 ⟨f.cell' (aC (heap_alloc_new w _) 0 rfl) id,f.cell' (aC (heap_alloc_new w _) 1 rfl) id,f.cell' (aC (heap_alloc_new w _) 2 rfl) id,f.cell' (aC (heap_alloc_new w _) 3 rfl) id,f.cell' (aC (heap_alloc_new w _) 4 rfl) id,f.cell' (aC (heap_alloc_new w _) 5 rfl) id,f.cell' (aC (heap_alloc_new w _) 6 rfl) id,f.cell' (aC (heap_alloc_new w _) 7 rfl) id,f.cell' (aC (heap_alloc_new w _) 8 rfl) id,f.cell' (aC (heap_alloc_new w _) 9 rfl) id⟩
theorem zX {f g:Int→Int} (h:∀d,0≤d→d<4→f d=g d):eU f=eU g:=by
 unfold eU lF
 simp only[h 0 (by decide) (by decide),h 1 (by decide) (by decide),h 2 (by decide) (by decide),h 3 (by decide) (by decide)]
theorem EZ {f g:Int→Int} (h:∀d,0≤d→d<4→f d=g d):f_ f↔f_ g:=by
 unfold f_
 exact⟨fun x d h0 h4=>by rw[←h d h0 h4];exact x d h0 h4,fun x d h0 h4=>by rw[h d h0 h4];exact x d h0 h4⟩
theorem xB (v0 v1 v2 v3 x d:Int) (h0:0≤d) (h4:d<4):
 bG x v1 v2 v3 d=gu (bG v0 v1 v2 v3) 0 x d∧bG v0 x v2 v3 d=gu (bG v0 v1 v2 v3) 1 x d∧bG v0 v1 x v3 d=gu (bG v0 v1 v2 v3) 2 x d∧bG v0 v1 v2 x d=gu (bG v0 v1 v2 v3) 3 x d:=by
 rcases four h0 h4 with rfl|rfl|rfl|rfl<;>simp[bG,gu]
theorem oC.Jg {dc af la x:Int} {f:Int→Int} (h:oC dc af la f) (h0:0≤x) (h1:x≤1099511627776):f_ (gu f dc x):=fun d h2 h4=>by
 unfold gu
 by_cases he:d=dc
 ·rw[if_pos he];exact⟨h0,h1⟩
 ·rw[if_neg he];exact h.2.2.2.2.2.2 d h2 h4
theorem oC.OM {dc af la:Int} {f:Int→Int} (h:oC dc af la f):dw [(dc,af+1,la)]:=by
 obtain⟨h0,h1,h2,h3,h4,h5,h6⟩:=h
 exact Ui h0 h1 (by omega) (by omega) h4
end Go.Proofs.YtabkpccdnkjoiaaGreat
