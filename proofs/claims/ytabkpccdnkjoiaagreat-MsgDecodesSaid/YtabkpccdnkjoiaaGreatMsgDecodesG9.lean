/- Words for the law MsgDecodes: TClone3, Res, TDots, HeldTwo, Caus, Bun0. -/
import Derived.Test.YtabkpccdnkjoiaaGreatMsgDecodesG0
import Derived.Test.YtabkpccdnkjoiaaGreatMsgDecodesG4
import Derived.Test.YtabkpccdnkjoiaaGreatMsgDecodesG7
import Derived.Test.YtabkpccdnkjoiaaGreatMsgDecodesG8
set_option linter.unusedSimpArgs false
set_option linter.unusedVariables false
set_option maxHeartbeats 32000000
set_option maxRecDepth 1000000
namespace Go.Proofs.YtabkpccdnkjoiaaGreat
open Go.RowKit
def R_ (w:World) (es:List aQ) (ks:aS) (e:Ending) (w':World):Prop:=
 ∃ev' kv',e= .returned (.agg #[ev',kv'])∧dh (fun b=>w.heap.size≤b) w' ev' kv' es ks∧aj ay w w'
theorem aag (Q:Nat→Prop):∀(N:Nat) (es:List aQ) (ks:aS) (w:World) (ev kv:Value),jE ks<N→dh Q w ev kv es ks→sizeT es ks≤100000→
 Calls Tryz.prog 207 #[.agg #[ev,kv]] w (R_ w es ks):=by
 intro N
 induction N with
 |zero=>intros;exfalso;omega
 |succ N mV=>
  intro es ks w ev kv hN ht hsz
  obtain⟨i0,hi,hz0,hz1,hz2⟩:=info_parts MF
  obtain⟨ae,ce,rfl⟩:=ht.ents.rd.sl
  obtain⟨os,hkr,iP⟩:=ht.kids
  obtain⟨ak,ck,rfl⟩:=hkr.rd.sl
  have HE:=ah ht.ents.rd
  have mW:=ah hkr.rd;clear hkr ht
  have qw:=ah iP;clear iP
  have IH:=ah mV;clear mV
  have yV:es.length≤100000:=by unfold sizeT at hsz;omega
  have EF:ks.len≤100000:=by have:=yU ks;unfold sizeT at hsz;omega
  have CY:=ah (fun W (h:aj ay w W)=>aae W (.slice ae es.length ce) es (HE.out.aJ h) yV)
  have kF:=ah hsz;clear hsz
  have kN:=ah hN;clear hN
  generalize hes:es.length=n at*
  have HN:=ah hes;clear hes
  generalize hkl:ks.len=m at*
  have HM:=ah hkl;clear hkl
  obtain⟨WB,eU⟩:∃WB,WB=(w.alloc (.cells #[.slice ae n ce, .slice ak m ck] 30)).alloc (.cells #[.slice none 0 0, .slice none 0 0] 30):=⟨_,rfl⟩
  have hfb:aj ay w WB:=by rw[eU];exact(aj.alloc _ _ _).alloc1
  have hb0:WB.heap[w.heap.size]?=some (.cells #[.slice ae n ce, .slice ak m ck] 30 (0,0)):=by rw[eU,Below.heap_alloc _ _ _ (by simp)];exact heap_alloc_new w _
  have hb2:WB.heap[w.heap.size+1]?=some (.cells #[.slice none 0 0, .slice none 0 0] 30 (0,0)):=by
   rw[eU]
   have:=heap_alloc_new (w.alloc (.cells #[.slice ae n ce, .slice ak m ck] 30)) (.cells #[.slice none 0 0, .slice none 0 0] 30)
   simpa using this
  have hbs:WB.heap.size=w.heap.size+1+1:=by rw[eU];simp
  have dI:=ah hfb;clear hfb
  have HB0:=ah hb0;clear hb0
  have HB2:=ah hb2;clear hb2
  have wE:=ah hbs;clear hbs
  have hcall:∀W,W=WB→Calls Tryz.prog 255 #[.slice ae n ce] W fun e w'=>∃v',e= .returned v'∧OwnAt WB w' 172 4 v' n (kM es):=fun W hW=>by rw[hW];exact CY.out WB dI.out
  have xK:=ah hcall;clear hcall
  have dF:=ah eU.symm;clear eU
  go_enter Tryz.func207,Tryz.ntmps207
  go_wp2_with(go_at_call 255;refine(xK.out _ dF.out).mono ?_;rintro e w1 ⟨v1,rfl,ho1⟩;obtain⟨a1,c1,rfl⟩:=ho1.shape;have iG:=ah ho1;clear ho1;have b1:w1.cell? ⟨w.heap.size,1,none⟩=some (.slice ak m ck):=iG.out.aH.cell' (au HB0.out 1 rfl) id;have hlt1:w.heap.size<w1.heap.size:=World.block_lt_of_cell? _ _ b1)
  have hln:aj ay w (w1.alloc (.cells #[.slice a1 n c1, .slice none 0 0] 30)):=(dI.out.aC iG.out.aH).alloc1
  have hc0:wC w (w1.alloc (.cells #[.slice a1 n c1, .slice none 0 0] 30)) (w.heap.size+1) w1.heap.size n (.slice a1 n c1) (.slice none 0 0) es ks 0 []:=by
   have hs1:=iG.out.aH.size
   have hbs:=wE.out
   refine⟨hln,(aj.alloc ay _ _).blk (iG.out.aH.blk HB2.out id) id,heap_alloc_new w1 _,by omega,by have:=dI.out.size;omega,by omega,jc.nil hln _ _,?_,fun q hq=>(by cases hq),rfl,rfl⟩
   refine iG.out.IV.turn fun b hb hQ=>⟨Below.heap_alloc _ _ _ hb,by omega,by omega,by omega,by simp[Value.ownBlock]⟩
  have HC0:=ah hc0;clear hc0
  have mM:=ah hln;clear hln
  clear b1 hlt1
  go_loopw [13] (fun i ww=>∃(k:Nat) (l:List gB) (Si:Value),k≤m∧i= .int .i64 k∧wC w ww (w.heap.size+1) w1.heap.size n (.slice a1 n c1) Si es ks k l) (fun i _=>m-(intOf i).toNat)
  case atStart=>exact⟨0,[],_,Nat.zero_le _,rfl,HC0.out⟩
  case round=>
   obtain⟨k,l,Si,hk,rfl,hc⟩:=hrel
   obtain⟨av,cv,rfl⟩:=hc.own.at_.shape
   have HC:=ah hc;clear hc
   by_cases hlt:k<m
   ·obtain⟨key,es',sub,rest,hdr⟩:=aS.xB (n:=k) (ks:=ks) (by rw[HM.out];exact hlt)
    rcases Rd.shape mW.out with⟨ad,he,h0⟩|⟨b,off,cc,he,hmax⟩
    ·exfalso;have:=HM.out;omega
    ·injection he with e1 e2 e3
     subst e1 e3
     clear e2
     obtain⟨ev',kv',q0,q1,q2,hta⟩:=wz (mW.out.aJ HC.out.aH) (qw.out.aJ HC.out.aH) hdr
     obtain⟨h_,ig,rfl⟩:=hta.ents.rd.sl
     obtain⟨os',lV,qx⟩:=hta.kids
     obtain⟨iq,iw,rfl⟩:=lV.rd.sl
     clear lV qx
     have iH:=ah (yT k hdr)
     have HST:=ah (CU k hdr)
     have gV:=ah hta;clear hta
     have HIH:=ah (fun w' (h:aj ay wr w')=>IH.out es' sub w' _ _ (by have:=iH.out;have:=kN.out;omega) (gV.out.aJ h) (by have:=HST.out;have:=kF.out;unfold sizeT at*;omega))
     have HDR:=ah hdr;clear hdr
     have hkp:k≤100000:=by omega
     generalize es'.length=n' at*
     generalize sub.len=m' at*
     have hsp:(wr.alloc (.cells #[.string key, .slice h_ n' ig, .slice iq m' iw] 83)).heap[wr.heap.size]?=some (.cells #[.string key, .slice h_ n' ig, .slice iq m' iw] 83 (0,0)):=heap_alloc_new wr _
     have tu:=ah hsp;clear hsp
     have aai:=lt_of_block HC.out.b3
     have afj:=lt_of_block HC.out.b2
     have Sj:∀b,(Value.slice av k cv).ownBlock=some b→b<wr.heap.size:=fun b hb=>HC.out.own.at_.lt b hb
     have Sm:=ah Sj;clear Sj
     have hfa:aj ay wr (wr.alloc (.cells #[.string key, .slice h_ n' ig, .slice iq m' iw] 83)).drew:=(aj.alloc _ _ _).wY
     have bD:=ah hfa;clear hfa
     have hsz0:(wr.alloc (.cells #[.string key, .slice h_ n' ig, .slice iq m' iw] 83)).drew.heap.size=wr.heap.size+1:=by show(wr.alloc _).heap.size=_;simp
     have IW:=ah hsz0;clear hsz0
     go_wp2_with fail
     refine ku (S:=fun w'=>w'.cell? ⟨wr.heap.size,0,none⟩=some (.string key)∧w'.cell? ⟨wr.heap.size,1,none⟩=some (.slice h_ n' ig)∧w'.cell? ⟨wr.heap.size,2,none⟩=some (.slice iq m' iw)∧w'.cell? ⟨w1.heap.size,1,none⟩=some (.slice av k cv)) 11 (by kernel_rfl) ⟨au tu.out 0 rfl,au tu.out 1 rfl,au tu.out 2 rfl,bD.out.cell' (au HC.out.b3 1 rfl) id⟩ ?_
     intro hS
     generalize (wr.alloc (.cells #[.string key, .slice h_ n' ig, .slice iq m' iw] 83)).drew=Y0 at*
     refine aU 0 17 rfl rfl (v:=?_) (.inl ⟨by rfl,?_⟩) ?_
     rotate_left 1
     ·(intro w hSw;(try dsimp only at hSw);go_simp;(try with_reducible rfl))
     refine aU 1 18 rfl rfl (v:=?_) (.inl ⟨by rfl,?_⟩) ?_
     rotate_left 1
     ·(intro w hSw;(try dsimp only at hSw);go_simp;(try with_reducible rfl))
     try simp only[Act.put,aN,aO,aP]
     refine aU 2 19 rfl rfl (v:=?_) (.inl ⟨by rfl,?_⟩) ?_
     rotate_left 1
     ·(intro w hSw;(try dsimp only at hSw);go_simp;(try with_reducible rfl))
     refine aU 3 20 rfl rfl (v:=?_) (.inl ⟨by rfl,?_⟩) ?_
     rotate_left 1
     ·(intro w hSw;(try dsimp only at hSw);go_simp;(try with_reducible rfl))
     try simp only[Act.put,aN,aO,aP]
     refine aU 4 21 rfl rfl (v:=?_) (.inl ⟨by rfl,?_⟩) ?_
     rotate_left 1
     ·(intro w hSw;(try dsimp only at hSw);go_simp;(try with_reducible rfl))
     refine aU 5 22 rfl rfl (v:=?_) (.inl ⟨by rfl,?_⟩) ?_
     rotate_left 1
     ·(intro w hSw;(try dsimp only at hSw);go_simp;(try with_reducible rfl))
     try simp only[Act.put,aN,aO,aP]
     refine bJ (i:=6) (by kernel_rfl) rfl (fun K hK=>?_)
     go_simp
     refine(HIH.out _ bD.out).mono ?_
     rintro e Y ⟨IX,IY,rfl,lD,hf3⟩
     obtain⟨a3,c3,rfl⟩:=lD.ents.rd.sl
     obtain⟨os3,fE,-⟩:=lD.kids
     obtain⟨a4,c4,rfl⟩:=fE.rd.sl
     clear fE
     have MG:=ah lD;clear lD
     have HF3:=ah hf3;clear hf3
     generalize es'.length=n3 at*
     generalize sub.len=m3 at*
     have hS3:Y.cell? ⟨wr.heap.size,0,none⟩=some (.string key)∧Y.cell? ⟨wr.heap.size,1,none⟩=some (.slice h_ n' ig)∧Y.cell? ⟨wr.heap.size,2,none⟩=some (.slice iq m' iw)∧Y.cell? ⟨w1.heap.size,1,none⟩=some (.slice av k cv):=⟨HF3.out.cell' hS.1 id,HF3.out.cell' hS.2.1 id,HF3.out.cell' hS.2.2.1 id,HF3.out.cell' hS.2.2.2 id⟩
     refine hK.out _ _ hS3 ?_
     clear hK K hS
     try simp only[Act.put,aN,aO,aP]
     refine aU 7 24 rfl rfl (v:=?_) (.inl ⟨by rfl,?_⟩) ?_
     rotate_left 1
     ·(intro w hSw;(try dsimp only at hSw);go_simp;(try with_reducible rfl))
     try simp only[Act.put,aN,aO,aP]
     refine bJ (i:=8) (by kernel_rfl) rfl (fun K hK=>?_)
     go_simp
     have hS4:(Y.alloc (.cells #[.string key, .slice a3 n3 c3, .slice a4 m3 c4] 83)).cell? ⟨wr.heap.size,0,none⟩=some (.string key)∧(Y.alloc (.cells #[.string key, .slice a3 n3 c3, .slice a4 m3 c4] 83)).cell? ⟨wr.heap.size,1,none⟩=some (.slice h_ n' ig)∧(Y.alloc (.cells #[.string key, .slice a3 n3 c3, .slice a4 m3 c4] 83)).cell? ⟨wr.heap.size,2,none⟩=some (.slice iq m' iw)∧(Y.alloc (.cells #[.string key, .slice a3 n3 c3, .slice a4 m3 c4] 83)).cell? ⟨w1.heap.size,1,none⟩=some (.slice av k cv):=⟨(aj.alloc ay Y _).cell' hS3.1 id,(aj.alloc ay Y _).cell' hS3.2.1 id,(aj.alloc ay Y _).cell' hS3.2.2.1 id,(aj.alloc ay Y _).cell' hS3.2.2.2 id⟩
     refine hK.out _ _ hS4 ?_
     clear hK K
     try simp only[Act.put,aN,aO,aP]
     refine bJ (i:=9) (by kernel_rfl) rfl (fun K hK=>?_)
     have CZ:=ah ((HC.out.keep bD.out).keep HF3.out)
     have hsY:wr.heap.size<Y.heap.size:=by have:=HF3.out.size;have:=IW.out;omega
     refine Lh (fun b=>b<Y.heap.size∧(Value.slice av k cv).ownBlock≠some b) w Y [.string key, .slice a3 n3 c3, .slice a4 m3 c4] rfl (.tmp 18) (.tmp 25) 28 rfl 83 i0 _ 3 64 Tryz.underlying28 hi hz0 hz1 hz2 (by decide) (by decide) (.slice av k cv) k _ ⟨CZ.out.own.at_,fun b hb hn=>hn.2 hb⟩ (fun b hb=>hb.1) 1 1 (by simp[Act.eval]) (by simp[Act.eval]) rfl (by simp[Value.oneCell']) (by simp only[maxLen];omega) (by omega) ?_
     intro ad qQ w2 dM kE
     have hnk:∀b,b≤wr.heap.size→(Value.slice av k cv).ownBlock≠some b→b<Y.heap.size∧(Value.slice av k cv).ownBlock≠some b:=fun b hb hn=>⟨by omega,hn⟩
     have hle3:w1.heap.size≤wr.heap.size:=Nat.le_of_lt aai
     have yV:(Value.slice av k cv).ownBlock≠some wr.heap.size:=fun h=>by have:=Sm.out _ h;omega
     have hn3:(Value.slice av k cv).ownBlock≠some w1.heap.size:=fun h=>HC.out.own.but _ h (.inr rfl)
     have hS5:w2.cell? ⟨wr.heap.size,0,none⟩=some (.string key)∧w2.cell? ⟨wr.heap.size,1,none⟩=some (.slice h_ n' ig)∧w2.cell? ⟨wr.heap.size,2,none⟩=some (.slice iq m' iw)∧w2.cell? ⟨w1.heap.size,1,none⟩=some (.slice av k cv):=⟨kE.cell (hnk _ (Nat.le_refl _) yV) hS3.1,kE.cell (hnk _ (Nat.le_refl _) yV) hS3.2.1,kE.cell (hnk _ (Nat.le_refl _) yV) hS3.2.2.1,kE.cell (hnk _ hle3 hn3) hS3.2.2.2⟩
     refine hK.out _ _ hS5 ?_
     clear hK K hS4
     have hcf:w2.frozen? ⟨w1.heap.size,1,none⟩=false:=kE.frozen (p:=⟨w1.heap.size,1,none⟩) (hnk _ hle3 hn3) (aG CZ.out.b3 1)
     have hfm:aj (eY (.slice av k cv)) Y w2:=⟨dM.at_.aH.os.trans CZ.out.aH.os.symm,dM.at_.aH.tape.trans CZ.out.aH.tape.symm,dM.at_.aH.output.trans CZ.out.aH.output.symm,kE.1,fun b hb hn=>kE.2 b ⟨hb,hn⟩⟩
     have hfr:gZ Y (.slice av k cv) (.slice ad (k+1) qQ):=fun b hb=>by
      by_cases h1:(Value.slice av k cv).ownBlock=some b
      ·exact .inl h1
      ·refine .inr ?_
       have:=dM.but b hb
       rcases Nat.lt_or_ge b Y.heap.size with h2|h2
       ·exact absurd ⟨h2,h1⟩ this
       ·exact h2
     have hq3:dh (Bg w (w.heap.size+1) w1.heap.size (.slice av k cv)) Y (.slice a3 n3 c3) (.slice a4 m3 c4) es' sub:=MG.out.turn fun b hb hQ=>by
      have h0:=IW.out
      have h1:=HC.out.aH.size
      refine⟨rfl,by omega,by omega,by omega,fun h=>?_⟩
      have:=Sm.out _ h
      omega
     have u_:=ah (CZ.out.step (q:=⟨key,es',sub, .slice a3 n3 c3, .slice a4 m3 c4⟩) HDR.out hq3 dM.at_.own hfm hfr)
     clear dM kE hfm hfr hq3 hnk yV hn3 hsY
     try simp only[Act.put,aN,aO,aP]
     refine aU 10 27 rfl rfl (v:=?_) (.inl ⟨by rfl,?_⟩) ?_
     rotate_left 1
     ·(intro w hSw;(try dsimp only at hSw);go_simp;(try with_reducible rfl))
     try simp only[Act.put,aN,aO,aP]
     refine iC (by kernel_rfl) (by kernel_rfl) rfl (fun K hK=>?_)
     have hcz:=hS5.2.2.2
     clear hS5 hS3
     go_simp
     refine hK.out _ _ ?_
     clear hK K hcz hcf
     go_wp2
     go_roundw
     case rel=>exact⟨k+1,_,_,by omega,by go_num,u_.out⟩
     case measure=>simp[intOf];omega
   ·obtain rfl:m=k:=by omega
    have hdn:=HC.out.done HN.out.symm (by rw[HM.out];exact Nat.le_refl _)
    have nK:=ah hdn;clear hdn
    have y0:=au HC.out.b3 0 rfl
    have y1:=au HC.out.b3 1 rfl
    have z0:=au HC.out.b2 0 rfl
    have z1:=au HC.out.b2 1 rfl
    have f0:=aG HC.out.b2 0
    have f1:=aG HC.out.b2 1
    go_wp2
    clear y0 y1 z0 z1
    have y0:=au nK.out.2.2 0 rfl
    have y1:=au nK.out.2.2 1 rfl
    exact bodyPost_ret (v:= .agg #[.slice a1 n c1, .slice av m cv]) (by simp[results,Tryz.results207,go_sem,y0,y1]) rfl ⟨_,_,rfl,nK.out.1,nK.out.2.1⟩
open Go.RowKit
theorem C_ {w:World} {b j k:Nat} {v:Value} (h:k≠b):(w.setCell ⟨b,j,none⟩ v).heap[k]?=w.heap[k]?:=Below.heap_setCell _ _ _ _ h
theorem res2 {w0 w:World} {b:Nat} {T:TypeId} {a0 a1:Value} (h:w.heap[b]?=some (.cells #[a0,a1] T (0,0))) (f:aj ay w0 w) (hb:w0.heap.size≤b) (v0 v1:Value):
 ((w.setCell ⟨b,0,none⟩ v0).setCell ⟨b,1,none⟩ v1).heap[b]?=some (.cells #[v0,v1] T (0,0))∧aj ay w0 ((w.setCell ⟨b,0,none⟩ v0).setCell ⟨b,1,none⟩ v1)∧
   ∀k,k≠b→((w.setCell ⟨b,0,none⟩ v0).setCell ⟨b,1,none⟩ v1).heap[k]?=w.heap[k]?:=
 ⟨bC (bC h 0 v0) 1 v1,(f.set1 (p:=⟨b,0,none⟩) (.inr hb)).set1 (p:=⟨b,1,none⟩) (.inr hb),fun k hk=>(C_ hk).trans (C_ hk)⟩
theorem MH {w0 w:World} {b:Nat} {T:TypeId} {a0 a1 a2:Value} (h:w.heap[b]?=some (.cells #[a0,a1,a2] T (0,0))) (f:aj ay w0 w) (hb:w0.heap.size≤b) (v0 v1 v2:Value):
 (((w.setCell ⟨b,0,none⟩ v0).setCell ⟨b,1,none⟩ v1).setCell ⟨b,2,none⟩ v2).heap[b]?=some (.cells #[v0,v1,v2] T (0,0))∧aj ay w0 (((w.setCell ⟨b,0,none⟩ v0).setCell ⟨b,1,none⟩ v1).setCell ⟨b,2,none⟩ v2)∧
   ∀k,k≠b→(((w.setCell ⟨b,0,none⟩ v0).setCell ⟨b,1,none⟩ v1).setCell ⟨b,2,none⟩ v2).heap[k]?=w.heap[k]?:=
 ⟨bC (bC (bC h 0 v0) 1 v1) 2 v2,((f.set1 (p:=⟨b,0,none⟩) (.inr hb)).set1 (p:=⟨b,1,none⟩) (.inr hb)).set1 (p:=⟨b,2,none⟩) (.inr hb),fun k hk=>((C_ hk).trans (C_ hk)).trans (C_ hk)⟩
theorem uJ (w:World) (o:Obj) (cs:Array Value) (T:TypeId):((w.alloc o).alloc (.cells cs T)).heap[w.heap.size+1]?=some (.cells cs T (0,0))∧aj ay w ((w.alloc o).alloc (.cells cs T))∧((w.alloc o).alloc (.cells cs T)).heap.size=w.heap.size+1+1:=by
 refine⟨?_,(aj.alloc _ _ _).alloc1,by simp⟩
 have:=heap_alloc_new (w.alloc o) (.cells cs T)
 simpa using this
theorem MI (w:World) (v0 v1:Value) (T:TypeId) (W:World) (f:aj ay (w.alloc (.cells #[v0,v1] T)) W):W.cell? ⟨w.heap.size,0,none⟩=some v0∧W.cell? ⟨w.heap.size,1,none⟩=some v1:=
 ⟨f.cell' (au (heap_alloc_new w _) 0 rfl) id,f.cell' (au (heap_alloc_new w _) 1 rfl) id⟩
theorem Dc (w:World) (v0 v1 v2:Value) (T:TypeId) (W:World) (f:aj ay (w.alloc (.cells #[v0,v1,v2] T)) W):W.cell? ⟨w.heap.size,0,none⟩=some v0∧W.cell? ⟨w.heap.size,1,none⟩=some v1∧W.cell? ⟨w.heap.size,2,none⟩=some v2:=
 ⟨f.cell' (au (heap_alloc_new w _) 0 rfl) id,f.cell' (au (heap_alloc_new w _) 1 rfl) id,f.cell' (au (heap_alloc_new w _) 2 rfl) id⟩
open Go.RowKit
theorem IZ (Q:Nat→Prop) (es:List aQ) (ks:aS) (w:World) (ev kv:Value) (ht:dh Q w ev kv es ks) (hok:oI es ks):
 Calls Tryz.prog 155 #[.agg #[ev,kv]] w fun e w'=>e= .returned (.bool (dD 5 es ks))∧aj ay w w':=by
 obtain⟨ae,ce,rfl⟩:=ht.ents.rd.sl
 obtain⟨os,hkr,iP⟩:=ht.kids
 obtain⟨ak,ck,rfl⟩:=hkr.rd.sl
 have hc:∀W,aj ay w W→Calls Tryz.prog 201 #[.agg #[.slice ae es.length ce, .slice ak ks.len ck], .int .i64 5] W fun e w'=>e= .returned (.bool (dD 5 es ks))∧aj ay W w':=fun W f=>aac Q _ es ks 5 W _ _ (Nat.lt_succ_self _) (ht.aJ f) hok (by omega)
 have HC:=ah hc
 clear hkr iP ht hok hc
 generalize dD 5 es ks=y at*
 generalize es.length=n at*
 generalize ks.len=m at*
 go_enter Tryz.func155,Tryz.ntmps155
 go_wp2_with(go_at_call 201;refine(HC.out _ (aj.alloc _ _ _)).mono ?_;rintro e w3 ⟨rfl,hw3⟩;have HW3:=ah ((aj.alloc ay _ _).aC hw3);clear hw3)
 go_ret
 exact⟨rfl,HW3.out⟩
def MJ (w:World) (es:List aQ) (ks:aS) (e:Ending) (w':World):Prop:=
 aj ay w w'∧(dD 5 es ks=true→∃v' c,e= .returned (.tuple #[v', .int .i64 0])∧OwnAt w w' 144 3 v' c.length (fJ c)∧qO (iD es ks) c∧c.length≤16000)∧(dD 5 es ks=false→e= .returned (.tuple #[.slice none 0 0, .int .i64 1]))
theorem Sr (Q:Nat→Prop) (es:List aQ) (ks:aS) (w:World) (ev kv:Value) (ht:dh Q w ev kv es ks) (hok:oI es ks) (hsz:sizeT es ks≤4000):
 Calls Tryz.prog 146 #[.agg #[ev,kv]] w (MJ w es ks):=by
 obtain⟨ae,ce,rfl⟩:=ht.ents.rd.sl
 obtain⟨os,hkr,iP⟩:=ht.kids
 obtain⟨ak,ck,rfl⟩:=hkr.rd.sl
 have HR:=ah (fun W (f:aj ay w W)=>IZ Q es ks W _ _ (ht.aJ f) hok)
 have HA:=ah (fun w' (h:aj ay w w')=>ZX Q _ es ks w' _ _ (Nat.lt_succ_self _) (ht.aJ h) (by omega))
 have hdl:=EC es ks
 have oK:=ah (show(iD es ks).length≤4000 by omega)
 clear hkr iP ht hok hsz hdl
 by_cases hr:dD 5 es ks=true
 ·have HDK:=ah (Ez hr)
  rw[hr]at HR
  have dU:=ah hr;clear hr
  have hpost:∀e w',aj ay w w'→(∃v' c,e= .returned (.tuple #[v', .int .i64 0])∧OwnAt w w' 144 3 v' c.length (fJ c)∧qO (iD es ks) c∧c.length≤16000)→MJ w es ks e w':=fun e w' h1 h2=>⟨h1,fun _=>h2,fun h=>by rw[dU.out]at h;cases h⟩
  have jR:=ah hpost;clear hpost
  generalize iD es ks=l at*
  generalize es.length=n at*
  generalize ks.len=m at*
  go_enter Tryz.func146,Tryz.ntmps146
  go_wp2_with(first
   |(go_at_call 155;refine(HR.out _ (aj.alloc _ _ _)).mono ?_;rintro e w1 ⟨rfl,hw1⟩;obtain⟨y0,y1⟩:=MI w _ _ _ w1 hw1;have HW1:=ah ((aj.alloc ay _ _).aC hw1);clear hw1)
   |(go_at_call 187;refine(HA.out _ HW1.out).mono ?_;rintro e w2 ⟨v2,rfl,ho2⟩;obtain⟨a2,c2,rfl⟩:=ho2.shape;have jZ:=ah ho2;clear ho2)
   |(go_at_call 186;refine(ZO _ _ l jZ.out.rd HDK.out (by have:=oK.out;omega)).mono ?_;rintro e w3 ⟨v3,c,rfl,ho3,hof,-⟩;obtain⟨a3,c3,rfl⟩:=ho3.shape;have dZ:=ah ho3;clear ho3;have gy:=ah hof;clear hof))
  go_ret2
  have hf:=(HW1.out.aC jZ.out.aH).aC dZ.out.aH
  exact jR.out _ _ hf ⟨_,c,rfl,dZ.out.base (HW1.out.aC jZ.out.aH),gy.out,by have:=gy.out.length;have:=oK.out;omega⟩
 ·have hr':dD 5 es ks=false:=by simpa using hr
  rw[hr']at HR
  have dU:=ah hr';clear hr hr' oK HA
  have hpost:∀w',aj ay w w'→MJ w es ks (.returned (.tuple #[.slice none 0 0, .int .i64 1])) w':=fun w' h1=>⟨h1,(fun h=>by rw[dU.out]at h;cases h),fun _=>rfl⟩
  have jR:=ah hpost;clear hpost dU
  generalize es.length=n at*
  generalize ks.len=m at*
  go_enter Tryz.func146,Tryz.ntmps146
  go_wp2_with(go_at_call 155;refine(HR.out _ (aj.alloc _ _ _)).mono ?_;rintro e w1 ⟨rfl,hw1⟩;have HW1:=ah ((aj.alloc ay _ _).aC hw1);clear hw1)
  go_ret2
  exact jR.out _ HW1.out
theorem Sv (Q:Nat→Prop) (es:List aQ) (ks:aS) (w:World) (ev kv:Value) (ht:dh Q w ev kv es ks) (hok:oI es ks) (hsz:sizeT es ks≤4000) (hr:dD 5 es ks=true):
 Calls Tryz.prog 164 #[.agg #[ev,kv]] w (R_ w es ks):=by
 obtain⟨ae,ce,rfl⟩:=ht.ents.rd.sl
 obtain⟨os,hkr,iP⟩:=ht.kids
 obtain⟨ak,ck,rfl⟩:=hkr.rd.sl
 have HR:=ah (fun W (f:aj ay w W)=>IZ Q es ks W _ _ (ht.aJ f) hok)
 have HA:=ah (fun w' (h:aj ay w w')=>aag Q _ es ks w' _ _ (Nat.lt_succ_self _) (ht.aJ h) (by omega))
 rw[hr]at HR
 have Rw:=ah (show ∀w1 w',aj ay w w1→∀ev' kv',dh (fun b=>w1.heap.size≤b) w' ev' kv' es ks→dh (fun b=>w.heap.size≤b) w' ev' kv' es ks from fun w1 w' h ev' kv' h2=>h2.turn fun b hb hQ=>⟨rfl,Nat.le_trans h.size hQ⟩)
 clear hkr iP ht hok hsz hr
 generalize hes:es.length=n at*
 generalize hkl:ks.len=m at*
 obtain⟨hb2,hfb,hbs⟩:=uJ w (.cells #[.slice ae n ce, .slice ak m ck] 30) #[.slice none 0 0, .slice none 0 0] 30
 have HB2:=ah hb2;clear hb2
 have dI:=ah hfb;clear hfb
 have wE:=ah hbs;clear hbs
 have EI:=ah hes;clear hes
 have xH:=ah hkl;clear hkl
 go_enter Tryz.func164,Tryz.ntmps164
 go_wp2_with(first
  |(go_at_call 155;refine(HR.out _ dI.out).mono ?_;rintro e w1 ⟨rfl,hw1⟩;obtain⟨y0,y1⟩:=MI w _ _ _ w1 ((aj.alloc ay _ _).aC hw1);have HW1:=ah hw1;clear hw1)
  |(go_at_call 207;refine(HA.out _ (dI.out.aC HW1.out)).mono ?_;rintro e w2 ⟨IX,IY,rfl,lD,hf3⟩;obtain⟨a3,c3,rfl⟩:=lD.ents.rd.sl;obtain⟨os3,fE,-⟩:=lD.kids;obtain⟨a4,c4,rfl⟩:=fE.rd.sl;clear fE;have hblk:=hf3.blk (HW1.out.blk HB2.out id) id;have y0:=au hblk 0 rfl;have y1:=au hblk 1 rfl;have g0:=aG hblk 0;have g1:=aG hblk 1;have hsb:=ah (lt_of_block hblk);have HR2:=ah (res2 hblk ((dI.out.aC HW1.out).aC hf3) (by omega) (.slice a3 es.length c3) (.slice a4 ks.len c4));have hs1:=HW1.out.size;have HP:=ah (lD.turn (Q':=fun b=>w.heap.size≤b) fun b hb hQ=>⟨HR2.out.2.2 b (by have:=wE.out;omega),by have:=wE.out;omega⟩);clear lD hf3 hblk hs1;rw[EI.out,xH.out]at HR2 HP;rw[EI.out,xH.out]))
 clear y0 y1
 have y0:=au HR2.out.1 0 rfl
 have y1:=au HR2.out.1 1 rfl
 exact bodyPost_ret (v:= .agg #[.slice a3 n c3, .slice a4 m c4]) (by simp[results,Tryz.results164,go_sem,y0,y1]) rfl ⟨_,_,rfl,HP.out,HR2.out.2.1⟩
open Go.RowKit
section
variable {P:Program} {md:Region.Mode} {ops:Array Oper} {Q:Exit→Act→World→Prop} {S:World→Prop} {z:Nat}
def EJ (md:Region.Mode) (ops:Array Oper) (z i:Nat):Bool:=match ops[z]? with|some o=>o.after.any fun e=>Region.binds md e&&e.on==i|none=>false
theorem aak {i:Nat} {o:Oper} (h:EJ md ops z i=true) (hz:ops[z]?=some o):∃e∈o.after,Region.binds md e=true∧e.on=i:=by
 unfold EJ at h
 rw[hz]at h
 simp only[beq_iff_eq,Array.any_eq_true,Bool.and_eq_true]at h
 obtain⟨k,hk,h2,h3⟩:=h
 exact⟨o.after[k],Array.getElem_mem hk,h2,h3⟩
theorem aal {i:Nat} {oi:Oper} {v:Value} (hi:ops[i]?=some oi) (hsel:∀(j:Nat) (o:Oper) cs b,ops[j]?=some o→o.op≠ .select cs b) (hl:EJ md ops z i=true)
 (hQ:∀c a w,Q (.panic c) (a.put oi.dst v) w→Q (.panic c) a w):
 ∀(fuel:Nat) (listed:Array Bool) (a:Act) (w:World),
  (∀j oj,ops[j]?=some oj→j≠i→listed.getD j true=false→(∀e∈oj.after,Region.binds md e=true→e.on≠i)→oi.apart ops oj=true)→
  i∈Region.ready md ops listed→YieldsIf P ops S oi v a→S w→
  lQ P md ops Q S z fuel (listed.setIfInBounds i true) (a.put oi.dst v) w→lQ P md ops Q S z (fuel+1) listed a w:=by
 intro fuel
 induction fuel with
 |zero=>
  intro listed a w _ hr hy hS H
  refine⟨fun h=>(by rw[h]at hr;cases hr),fun j hj=>?_⟩
  by_cases hji:j=i
  ·subst hji;exact hy.wpOp hi hS ⟨.inr hS,H⟩
  ·have:=ready_mono hj hji
   rw[H.1]at this
   cases this
 |succ fuel ih=>
  intro listed a w hfree hr hy hS H
  refine⟨fun h=>(by rw[h]at hr;cases hr),fun j hj=>?_⟩
  by_cases hji:j=i
  ·subst hji;exact hy.wpOp hi hS ⟨.inr hS,H⟩
  ·have h1:=H.2 j (ready_mono hj hji)
   obtain⟨hjun,oj,hoj,hall⟩:=mem_ready.1 hj
   have hnot:∀e∈oj.after,Region.binds md e=true→e.on≠i:=fun e he hb heq=>by
    have h1:=hall e he hb
    have h0:=(mem_ready.1 hr).1
    rw[heq]at h1
    rcases Nat.lt_or_ge i listed.size with h'|h'
    ·simp[h']at h0 h1;rw[h0]at h1;cases h1
    ·simp[Array.getElem?_eq_none h']at h1
   have hjz:j≠z:=fun hz=>by
    subst hz
    obtain⟨e,he,hb,heq⟩:=aak hl hoj
    exact hnot e he hb heq
   have h2:=wpOp_putIf hoj (hfree j oj hoj hji hjun hnot) (fun cs b=>hsel i oi cs b hi) (fun cs b=>hsel j oj cs b hoj) hQ hy h1
   have hfree':∀k ok,ops[k]?=some ok→k≠i→(listed.setIfInBounds j true).getD k true=false→
    (∀e∈ok.after,Region.binds md e=true→e.on≠i)→oi.apart ops ok=true:=fun k ok hk hki hun hno=>by
    refine hfree k ok hk hki ?_ hno
    by_cases hjk:j=k
    ·subst hjk;exact hjun
    ·rw[getD_set_ne true hjk]at hun;exact hun
   refine wpOp_mono (fun a' w' h3=>?_) h2
   have hS':S w':=h3.2.1.resolve_left hjz
   refine⟨.inr hS',ih (listed.setIfInBounds j true) a' w' hfree' (ready_mono hr (Ne.symm hji)) h3.1 hS' ?_⟩
   rw[Array.setIfInBounds_comm _ _ hji]
   exact h3.2.2
theorem aam (i d:Nat) {oi:Oper} {v:Value} {fuel:Nat} {listed:Array Bool} {a:Act} {w:World} (hi:ops[i]?=some oi) (hd:oi.dst=some d)
 (hs:Region.noSelect ops=true) (hl:EJ md ops z i=true) (hf:Region.free md ops listed i=true) (hr:(Region.ready md ops listed).contains i=true)
 (hQ:∀c a w,Q (.panic c) (a.put (some d) v) w→Q (.panic c) a w) (hy:YieldsIf P ops S oi v a) (hS:S w)
 (h:lQ P md ops Q S z fuel (listed.setIfInBounds i true) (a.put (some d) v) w):lQ P md ops Q S z (fuel+1) listed a w:=
 aal hi (Region.noSelect_spec hs) hl (by rw[hd];exact hQ) fuel listed a w (Region.free_spec hi hf) (by simpa using hr) hy hS (by rw[hd];exact h)
theorem qA (i d:Nat) {oi:Oper} {v:Value} {fuel:Nat} {listed:Array Bool} {a:Act} {w:World} (hi:ops[i]?=some oi) (hd:oi.dst=some d) (hy:YieldsIf P ops S oi v a)
 (h:lQ P md ops Q S z fuel (listed.setIfInBounds i true) (a.put (some d) v) w)
 (hs:Region.noSelect ops=true:=by kernel_rfl) (hl:EJ md ops z i=true:=by kernel_rfl) (hf:Region.free md ops listed i=true:=by kernel_rfl) (hr:(Region.ready md ops listed).contains i=true:=by kernel_rfl)
 (hQ:∀c a w,Q (.panic c) (a.put (some d) v) w→Q (.panic c) a w:=by exact fun _ _ _ h=>h) (hS:S w:=by assumption):lQ P md ops Q S z (fuel+1) listed a w:=
 aam i d hi hd hs hl hf hr hQ hy hS h
theorem uK {i j:Nat} {o p:Oper} {fuel:Nat} {listed:Array Bool} {a:Act} {w:World} (hr:Region.ready md ops listed=[i,j]) (ho:ops[i]?=some o) (hp:ops[j]?=some p)
 (h:∀K':Act→World→Prop,Shut (∀a w,S w→lQ P md ops Q S z fuel (listed.setIfInBounds i true) a w→K' a w)→if Region.wanted o (yielded ops a.tmps)=true then Oper.wp P o a w K' Q else K' (a.put o.dst undef) w)
 (k:∀K':Act→World→Prop,Shut (∀a w,S w→lQ P md ops Q S z fuel (listed.setIfInBounds j true) a w→K' a w)→if Region.wanted p (yielded ops a.tmps)=true then Oper.wp P p a w K' Q else K' (a.put p.dst undef) w):
 lQ P md ops Q S z (fuel+1) listed a w:=
 ⟨fun h0=>(by rw[hr]at h0;cases h0),fun x hx=>by
   rw[hr]at hx
   rcases List.mem_cons.1 hx with rfl|hx
   ·exact wpOp_step ho fun K' hK=>h K' fun a w hS hW=>hK a w ⟨.inr hS,hW⟩
   ·obtain rfl:x=j:=by simpa using hx
    exact wpOp_step hp fun K' hK=>k K' fun a w hS hW=>hK a w ⟨.inr hS,hW⟩⟩
theorem Df {o:Oper} {a:Act} (w0 w:World) {K:Act→World→Prop} {E:Prop} (news:List Value) (hgd:o.guard=none) (s x:Operand) (t tx:TypeId)
 (ho:o.op= .call {callee:= .builtin .append,args:= #[s,x],argTypes:= #[t,tx]})
 (e ex:TypeId) (i:TypeInfo) (zv:Value) (size bytes:Nat) (ht:P.underlying t=some (.slice e)) (htx:P.underlying tx=some (.slice ex)) (hi:P.info? e=some i) (hz:i.zero=some zv)
 (hsize:i.size=size) (hby:i.bytes=bytes) (hzs:zv.cells.size=size) (hsz:0<size)
 (v:Value) (n:Nat) (xs:List Value) (hown:OwnAt w0 w e size v n xs) (xv:Value) (m:Nat) (hv:a.eval s=v) (hx:a.eval x=xv) (hr:Rd w xv m news)
 (hnl:news.length=m*size) (h1:∀u∈news,u.oneCell'=true) (h63:n+m≤maxLen) (hbytes:(n+m)*bytes≤140737488355328)
 (h:∀ad c w',OwnAt w0 w' e size (.slice ad (n+m) c) (n+m) (xs++news)→aj (eY v) w w'→gZ w v (.slice ad (n+m) c)→K (a.put o.dst (.slice ad (n+m) c)) w'):
 if Region.wanted o (yielded ops a.tmps)=true then Oper.wp P o a w K Q else E:=by
 have hw:Region.wanted o (yielded ops a.tmps)=true:=by simp[Region.wanted,hgd]
 rw[if_pos hw]
 obtain⟨v',w',hrun,h2,h3,h4,⟨ad,c',rfl⟩,h6⟩:=Ee (P:=P) w t tx o.type e i zv size bytes ht hi hz hsize hby hzs hsz v n xs hown.own _ m news (hr.src htx hnl h1) h63 hbytes
 unfold Oper.wp execOp
 simp only[ho,resolve,invoke,builtin,Sem.run_bind,Sem.run_pure,Result.andThen_ok,List.map_toArray,List.map_cons,List.map_nil,hv,hx,hrun]
 exact h ad c' w' (hown.step h2 h3 h4) h3 h4
end
open Go.RowKit
structure jM (es:List aQ) (ks:aS) (c:aX):Prop where
 tree:dD 5 es ks=true
 ctx:dN c
 dots:wB (iD es ks) c
structure gK (Q:Nat→Prop) (w:World) (ev kv cv:Value) (es:List aQ) (ks:aS) (c:aX):Prop where
 tree:dh Q w ev kv es ks
 ctx:jf w cv c
structure jd (es:List aQ) (ks:aS) (c:aX):Prop where
 tree:oI es ks
 small:sizeT es ks≤2000
 fits:oD c
 len:c.length≤2000
theorem gK.aJ {Q:Nat→Prop} {w w':World} {ev kv cv:Value} {es:List aQ} {ks:aS} {c:aX} (h:gK Q w ev kv cv es ks c) (f:aj ay w w'):gK Q w' ev kv cv es ks c:=⟨h.tree.aJ f,Rd.aJ h.ctx f⟩
theorem gK.shape {Q:Nat→Prop} {w:World} {ev kv cv:Value} {es:List aQ} {ks:aS} {c:aX} (h:gK Q w ev kv cv es ks c):∃a0 c0 a1 c1 a2 c2,ev= .slice a0 es.length c0∧kv= .slice a1 ks.len c1∧cv= .slice a2 c.length c2:=by
 obtain⟨a0,c0,h0⟩:=h.tree.ents.rd.sl
 obtain⟨os,hk,_⟩:=h.tree.kids
 obtain⟨a1,c1,h1⟩:=hk.rd.sl
 obtain⟨a2,c2,h2⟩:=Rd.sl h.ctx
 exact⟨a0,c0,a1,c1,a2,c2,h0,h1,h2⟩
theorem EK (Q:Nat→Prop) (es:List aQ) (ks:aS) (c:aX) (w:World) (ev kv cv:Value) (h:gK Q w ev kv cv es ks c) (hok:jd es ks c):
 Calls Tryz.prog 93 #[.agg #[ev,kv,cv]] w fun e w'=>e= .returned (.bool (tf (jM es ks c)))∧aj ay w w':=by
 obtain⟨a0,c0,a1,c1,a2,c2,rfl,rfl,rfl⟩:=h.shape
 have HD:=ah (fun w' (f:aj ay w w')=>Sr Q es ks w' _ _ (h.tree.aJ f) hok.tree (Nat.le_trans hok.small (by decide)))
 have HL:=ah (fun w' (f:aj ay w w') vd d (hd:jf w' vd d) (rd:dN d) (ld:d.length≤16000)=>Rx w' vd _ d c hd (Rd.aJ h.ctx f) rd.fits hok.fits (by omega) (by have:=hok.len;omega))
 clear h hok
 by_cases hr:dD 5 es ks=true
 ·have bT:=ah (Ez hr)
  have dU:=ah hr;clear hr
  have hpost:∀d,qO (iD es ks) d→tf (dN d∧dN c∧jX d c)=tf (jM es ks c):=fun d hd=>qN ⟨fun h=>⟨dU.out,h.2.1,(hd.leq bT.out).1 h.2.2⟩,fun h=>⟨hd.right,h.ctx,(hd.leq bT.out).2 h.dots⟩⟩
  have jR:=ah hpost;clear hpost
  generalize tf (jM es ks c)=y at*
  generalize es.length=n at*
  generalize ks.len=m at*
  generalize c.length=k at*
  go_enter Tryz.func93,Tryz.ntmps93
  go_wp2_with(first
   |(go_at_call 146;refine(HD.out _ (aj.alloc _ _ _)).mono ?_;rintro e w1 ⟨hf1,hp1,-⟩;obtain⟨v1,d,rfl,ho1,hof,hl1⟩:=hp1 dU.out;clear hp1;obtain⟨y0,y1,y2⟩:=Dc w _ _ _ _ w1 hf1;obtain⟨b1,e1,rfl⟩:=ho1.shape;have iG:=ah ho1;clear ho1;have gy:=ah hof;clear hof;have oL:=ah hl1;clear hl1 hf1)
   |(go_at_call 147;refine(HL.out _ ((aj.alloc ay _ _).aC iG.out.aH) _ d iG.out.rd gy.out.right oL.out).mono ?_;rintro e w2 ⟨rfl,hw2⟩;rw[jR.out d gy.out];have HW2:=ah hw2;clear hw2))
  go_ret
  exact⟨rfl,((aj.alloc ay _ _).aC iG.out.aH).aC HW2.out⟩
 ·have hr':dD 5 es ks=false:=by simpa using hr
  rw[bf fun h=>hr h.tree]
  have dU:=ah hr';clear hr hr' HL
  generalize es.length=n at*
  generalize ks.len=m at*
  generalize c.length=k at*
  go_enter Tryz.func93,Tryz.ntmps93
  go_wp2_with(go_at_call 146;refine(HD.out _ (aj.alloc _ _ _)).mono ?_;rintro e w1 ⟨hf1,-,hp1⟩;obtain rfl:=hp1 dU.out;clear hp1;obtain⟨y0,y1,y2⟩:=Dc w _ _ _ _ w1 hf1;have bg:=ah hf1;clear hf1)
  go_ret
  exact⟨rfl,(aj.alloc ay _ _).aC bg.out⟩
def aan (w:World) (es:List aQ) (ks:aS) (c:aX) (e:Ending) (w':World):Prop:=
 ∃ev kv cv,e= .returned (.agg #[ev,kv,cv])∧dh (fun b=>w.heap.size≤b) w' ev kv es ks∧OwnAt w w' 144 3 cv c.length (fJ c)
theorem aao (Q:Nat→Prop) (es:List aQ) (ks:aS) (c:aX) (w:World) (ev kv cv:Value) (h:gK Q w ev kv cv es ks c) (hok:jd es ks c) (hr:jM es ks c):
 Calls Tryz.prog 104 #[.agg #[ev,kv,cv]] w (aan w es ks c):=by
 obtain⟨a0,c0,a1,c1,a2,c2,rfl,rfl,rfl⟩:=h.shape
 have HR:=ah (fun w' (f:aj ay w w')=>dO hr▸EK Q es ks c w' _ _ _ (h.aJ f) hok)
 have HT:=ah (fun w' (f:aj ay w w')=>Sv Q es ks w' _ _ (h.tree.aJ f) hok.tree (Nat.le_trans hok.small (by decide)) hr.tree)
 have HS:=ah (fun w' (f:aj ay w w')=>aaf w' _ c (Rd.aJ h.ctx f) (by have:=hok.len;omega))
 clear h hok hr
 generalize hes:es.length=n at*
 generalize hkl:ks.len=m at*
 generalize hcl:c.length=k at*
 have EI:=ah hes;clear hes
 have xH:=ah hkl;clear hkl
 have qo:=ah hcl;clear hcl
 have htb:((w.alloc (.cells #[.slice a0 n c0, .slice a1 m c1, .slice a2 k c2] 34)).alloc (.cells #[.slice none 0 0, .slice none 0 0, .slice none 0 0] 34)).heap[w.heap.size+1]?=some (.cells #[.slice none 0 0, .slice none 0 0, .slice none 0 0] 34 (0,0)):=(uJ w _ _ _).1
 have nT:=ah htb;clear htb
 have hfb:aj ay (w.alloc (.cells #[.slice a0 n c0, .slice a1 m c1, .slice a2 k c2] 34)) ((w.alloc (.cells #[.slice a0 n c0, .slice a1 m c1, .slice a2 k c2] 34)).alloc (.cells #[.slice none 0 0, .slice none 0 0, .slice none 0 0] 34)):=aj.alloc _ _ _
 have dI:=ah hfb;clear hfb
 have bF:=ah (Dc w (.slice a0 n c0) (.slice a1 m c1) (.slice a2 k c2) 34)
 go_enter Tryz.func104,Tryz.ntmps104
 go_wp2_with(go_at_call 93;refine(HR.out _ ((aj.alloc ay _ _).aC dI.out)).mono ?_;rintro e w1 ⟨rfl,hw1⟩;obtain⟨y0,y1,y2⟩:=bF.out w1 (dI.out.aC hw1);have hblk:=hw1.blk nT.out id;have MK:=ah hblk;clear hblk;have HW1:=ah (((aj.alloc ay _ _).aC dI.out).aC hw1);clear hw1)
 refine ku (S:=fun w'=>w'.cell? ⟨w.heap.size,0,none⟩=some (.slice a0 n c0)∧w'.cell? ⟨w.heap.size,1,none⟩=some (.slice a1 m c1)∧w'.cell? ⟨w.heap.size,2,none⟩=some (.slice a2 k c2)) 7 (by kernel_rfl) ⟨y0,y1,y2⟩ ?_
 intro hS
 have jo:=ah (HW1.out.aC (aj.drew ay w1))
 have jm:=ah ((aj.drew ay w1).blk MK.out id)
 have hsb:w.heap.size+1<w1.drew.heap.size:=lt_of_block jm.out
 clear y0 y1 y2 HW1 MK
 generalize w1.drew=Y at*
 refine aU 0 7 rfl rfl (v:=?_) (.inl ⟨by rfl,?_⟩) ?_
 rotate_left 1
 ·(intro w hSw;(try dsimp only at hSw);go_simp;(try with_reducible rfl))
 refine aU 1 8 rfl rfl (v:=?_) (.inl ⟨by rfl,?_⟩) ?_
 rotate_left 1
 ·(intro w hSw;(try dsimp only at hSw);go_simp;(try with_reducible rfl))
 try simp only[Act.put,aN,aO,aP]
 refine aU 3 10 rfl rfl (v:=?_) (.inl ⟨by rfl,?_⟩) ?_
 rotate_left 1
 ·(intro w hSw;(try dsimp only at hSw);go_simp;(try with_reducible rfl))
 refine aU 4 11 rfl rfl (v:=?_) (.inl ⟨by rfl,?_⟩) ?_
 rotate_left 1
 ·(intro w hSw;(try dsimp only at hSw);go_simp;(try with_reducible rfl))
 try simp only[Act.put,aN,aO,aP]
 refine bJ (i:=2) (by kernel_rfl) rfl (fun K hK=>?_)
 go_simp
 refine(HT.out _ jo.out).mono ?_
 rintro e Y1 ⟨IX,IY,rfl,lD,hf3⟩
 obtain⟨a3,c3,rfl⟩:=lD.ents.rd.sl
 obtain⟨os3,fE,-⟩:=lD.kids
 obtain⟨a4,c4,rfl⟩:=fE.rd.sl
 clear fE
 have hS:=(⟨hf3.cell' hS.1 id,hf3.cell' hS.2.1 id,hf3.cell' hS.2.2 id⟩:Y1.cell? ⟨w.heap.size,0,none⟩=some (.slice a0 n c0)∧Y1.cell? ⟨w.heap.size,1,none⟩=some (.slice a1 m c1)∧Y1.cell? ⟨w.heap.size,2,none⟩=some (.slice a2 k c2))
 rw[EI.out,xH.out]
 refine hK.out _ _ hS ?_
 clear hK K
 have MG:=ah lD;clear lD
 have HF3:=ah hf3;clear hf3
 try simp only[Act.put,aN,aO,aP]
 refine bJ (i:=5) (by kernel_rfl) rfl (fun K hK=>?_)
 go_simp
 refine(HS.out _ (jo.out.aC HF3.out)).mono ?_
 rintro e Y2 ⟨v5,rfl,qX⟩
 obtain⟨a5,c5,rfl⟩:=qX.shape
 have hS:=(⟨qX.aH.cell' hS.1 id,qX.aH.cell' hS.2.1 id,qX.aH.cell' hS.2.2 id⟩:Y2.cell? ⟨w.heap.size,0,none⟩=some (.slice a0 n c0)∧Y2.cell? ⟨w.heap.size,1,none⟩=some (.slice a1 m c1)∧Y2.cell? ⟨w.heap.size,2,none⟩=some (.slice a2 k c2))
 refine hK.out _ _ hS ?_
 clear hK K
 have xM:=ah qX;clear qX
 try simp only[Act.put,aN,aO,aP]
 refine aU 6 13 rfl rfl (v:=?_) (.inl ⟨by rfl,?_⟩) ?_
 rotate_left 1
 ·(intro w hSw;(try dsimp only at hSw);go_simp;(try with_reducible rfl))
 try simp only[Act.put,aN,aO,aP]
 refine iC (by kernel_rfl) (by kernel_rfl) rfl (fun K hK=>?_)
 have hblk:=xM.out.aH.blk (HF3.out.blk jm.out id) id
 have HR3:=ah (MH hblk ((jo.out.aC HF3.out).aC xM.out.aH) (by omega) (.slice a3 n c3) (.slice a4 m c4) (.slice a5 k c5))
 have hs3:=HF3.out.size
 have afk:=lt_of_block hblk
 have HP:=ah ((MG.out.aJ xM.out.aH).turn (Q':=fun b=>w.heap.size≤b) fun b hb hQ=>⟨HR3.out.2.2 b (by omega),by omega⟩)
 have hown:OwnAt w (((Y2.setCell ⟨w.heap.size+1,0,none⟩ (.slice a3 n c3)).setCell ⟨w.heap.size+1,1,none⟩ (.slice a4 m c4)).setCell ⟨w.heap.size+1,2,none⟩ (.slice a5 k c5)) 144 3 (.slice a5 k c5) k (fJ c):=by
  have hnew:=xM.out.new
  have aap:jc (fun b=>b=w.heap.size+1) w Y2 144 3 (.slice a5 k c5) k (fJ c):=⟨xM.out.base (jo.out.aC HF3.out),fun b hb hn=>by have:=hnew b hb;omega⟩
  exact(((aap.set (p:=⟨w.heap.size+1,0,none⟩) rfl (Nat.le_succ _) _).set (p:=⟨w.heap.size+1,1,none⟩) rfl (Nat.le_succ _) _).set (p:=⟨w.heap.size+1,2,none⟩) rfl (Nat.le_succ _) _).at_
 have HOW:=ah hown;clear hown
 have y0:=au hblk 0 rfl
 have y1:=au hblk 1 rfl
 have y2:=au hblk 2 rfl
 have g0:=aG hblk 0
 have g1:=aG hblk 1
 have g2:=aG hblk 2
 clear hS hblk
 go_simp
 refine hK.out _ _ ?_
 clear hK K y0 y1 y2 g0 g1 g2
 go_wp2
 have y0:=au HR3.out.1 0 rfl
 have y1:=au HR3.out.1 1 rfl
 have y2:=au HR3.out.1 2 rfl
 exact bodyPost_ret (v:= .agg #[.slice a3 n c3, .slice a4 m c4, .slice a5 k c5]) (by simp[results,Tryz.results104,go_sem,y0,y1,y2]) rfl ⟨_,_,_,rfl,by have:=HP.out;rw[EI.out,xH.out]at this;exact this,qo.out.symm▸HOW.out⟩
open Go.RowKit
theorem EL (w:World) (u0 u1 u2 u3 u4 u5 u6 u7 u8 u9:Value) (T:TypeId) (W:World) (f:aj ay (w.alloc (.cells #[u0,u1,u2,u3,u4,u5,u6,u7,u8,u9] T)) W):W.cell? ⟨w.heap.size,0,none⟩=some u0∧W.cell? ⟨w.heap.size,1,none⟩=some u1∧W.cell? ⟨w.heap.size,2,none⟩=some u2∧W.cell? ⟨w.heap.size,3,none⟩=some u3∧W.cell? ⟨w.heap.size,4,none⟩=some u4∧W.cell? ⟨w.heap.size,5,none⟩=some u5∧W.cell? ⟨w.heap.size,6,none⟩=some u6∧W.cell? ⟨w.heap.size,7,none⟩=some u7∧W.cell? ⟨w.heap.size,8,none⟩=some u8∧W.cell? ⟨w.heap.size,9,none⟩=some u9:=
 ⟨f.cell' (au (heap_alloc_new w _) 0 rfl) id,f.cell' (au (heap_alloc_new w _) 1 rfl) id,f.cell' (au (heap_alloc_new w _) 2 rfl) id,f.cell' (au (heap_alloc_new w _) 3 rfl) id,f.cell' (au (heap_alloc_new w _) 4 rfl) id,f.cell' (au (heap_alloc_new w _) 5 rfl) id,f.cell' (au (heap_alloc_new w _) 6 rfl) id,f.cell' (au (heap_alloc_new w _) 7 rfl) id,f.cell' (au (heap_alloc_new w _) 8 rfl) id,f.cell' (au (heap_alloc_new w _) 9 rfl) id⟩
theorem Dh {f g:Int→Int} (h:∀d,0≤d→d<4→f d=g d):f_ f=f_ g:=by
 unfold f_ nJ
 simp only[h 0 (by decide) (by decide),h 1 (by decide) (by decide),h 2 (by decide) (by decide),h 3 (by decide) (by decide)]
theorem I_ {f g:Int→Int} (h:∀d,0≤d→d<4→f d=g d):g_ f↔g_ g:=by
 unfold g_
 exact⟨fun x d h0 h4=>by rw[←h d h0 h4];exact x d h0 h4,fun x d h0 h4=>by rw[h d h0 h4];exact x d h0 h4⟩
theorem yX (v0 v1 v2 v3 x d:Int) (h0:0≤d) (h4:d<4):
 bP x v1 v2 v3 d=iE (bP v0 v1 v2 v3) 0 x d∧bP v0 x v2 v3 d=iE (bP v0 v1 v2 v3) 1 x d∧bP v0 v1 x v3 d=iE (bP v0 v1 v2 v3) 2 x d∧bP v0 v1 v2 x d=iE (bP v0 v1 v2 v3) 3 x d:=by
 rcases four h0 h4 with rfl|rfl|rfl|rfl<;>simp[bP,iE]
theorem qW.ML {dc af la x:Int} {f:Int→Int} (h:qW dc af la f) (h0:0≤x) (h1:x≤1099511627776):g_ (iE f dc x):=fun d h2 h4=>by
 unfold iE
 by_cases he:d=dc
 ·rw[if_pos he];exact⟨h0,h1⟩
 ·rw[if_neg he];exact h.2.2.2.2.2.2 d h2 h4
theorem qW.Sz {dc af la:Int} {f:Int→Int} (h:qW dc af la f):dN [(dc,af+1,la)]:=by
 obtain⟨h0,h1,h2,h3,h4,h5,h6⟩:=h
 exact Yn h0 h1 (by omega) (by omega) h4
end Go.Proofs.YtabkpccdnkjoiaaGreat
