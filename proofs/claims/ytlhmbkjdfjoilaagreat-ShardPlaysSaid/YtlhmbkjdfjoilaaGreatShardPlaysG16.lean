/- Words for the law ShardPlays: Only4, Only5, Varint, CrcP, Out, Crc, Route, Sh1. -/
import Derived.Test.YtlhmbkjdfjoilaaGreatShardPlaysG0
import Derived.Test.YtlhmbkjdfjoilaaGreatShardPlaysG1
import Derived.Test.YtlhmbkjdfjoilaaGreatShardPlaysG3
import Derived.Test.YtlhmbkjdfjoilaaGreatShardPlaysG10
import Derived.Test.YtlhmbkjdfjoilaaGreatShardPlaysG11
import Derived.Test.YtlhmbkjdfjoilaaGreatShardPlaysG14
import Derived.Test.YtlhmbkjdfjoilaaGreatShardPlaysG15
import Derived.WalkKit
import Derived.Test.YtlhmbkjdfjoilaaGreatProg
import Derived.Deep.AppendSrc
import Derived.Outline
set_option linter.unusedSimpArgs false
set_option linter.unusedVariables false
set_option maxHeartbeats 32000000
set_option maxRecDepth 1000000
namespace Go.Proofs.YtlhmbkjdfjoilaaGreat
open Go.RowKit
theorem aj.both {S:Nat→Prop} {w w':World} (h:aj S w w') (p:Addr) (v:Value):aj S (w.setCell p v) (w'.setCell p v):=
 ⟨h.os,h.tape,h.output,by simpa[World.setCell]using h.size,fun k hk hn=>by
   have:=h.block k (by simpa[World.setCell]using hk) hn
   simp only[World.setCell,Array.getElem?_modify,this]⟩
theorem OwnAt.both {w w':World} {e:TypeId} {size:Nat} {v:Value} {n:Nat} {xs:List Value} (h:OwnAt w w' e size v n xs) (p:Addr) (hp:p.block<w.heap.size) (u:Value):OwnAt (w.setCell p u) (w'.setCell p u) e size v n xs:=
 ⟨(aj.setCell (S:=fun k=>k=p.block) w' (.inl rfl) u).owns h.own fun k hk e=>by have:=h.new k hk;omega,fun k hk=>by simpa[World.setCell]using h.new k hk,h.aI.both p u⟩
def Wp (w:World) (keys:List ByteArray) (ks:aT) (e:Ending) (w':World):Prop:=
 ∃kv',e= .returned (.agg #[.slice none 0 0,kv'])∧bZ (fun b=>w.heap.size≤b) w' (.slice none 0 0) kv' [] (bF (fun k=>tf (k∈keys)) ks)∧aj aF w w'
theorem adM {w w':World} {keys:List ByteArray} {l:List dh} {v v':Value} (h:∀q∈l,bZ (fun b=>w.heap.size≤b∧v.ownBlock≠some b) w' q.ev q.kv q.es q.sub)
 (hr:Rd w' v' (l.filter fun q=> !jE keys q).length ((l.filter fun q=> !jE keys q).flatMap dh.cells)) (hn:∀k,v'.ownBlock=some k→w.heap.size≤k):
 bZ (fun b=>w.heap.size≤b) w' (.slice none 0 0) v' [] (bF (fun k=>tf (k∈keys)) (mkK l)):=by
 have he:(l.filter fun q=>tf (q.key∈keys))=l.filter fun q=> !jE keys q:=by simp[jE]
 rw[Wj,he]
 refine⟨⟨.inl ⟨none,rfl,rfl,rfl⟩,fun h=>absurd rfl h⟩,vX (l.filter fun q=> !jE keys q),⟨?_,fun _ k hk=>hn k hk⟩,Ed fun q hq=>(h q (List.mem_filter.1 hq).1).turn fun b hb hQ=>⟨rfl,hQ.1⟩⟩
 rw[BN,vY]
 exact hr
theorem adN (Q:Nat→Prop) (keys:List ByteArray) (es:List aQ) (ks:aT) (w:World) (ev kv vk:Value) (ht:bZ Q w ev kv es ks) (hok:lF es ks) (hsz:sizeT es ks≤4000) (hr:bM 5 es ks=true)
 (hk:Rd w vk keys.length (keys.map .string)) (hkl:keys.length≤1000000):
 Calls Tryz.prog 94 #[.agg #[ev,kv],vk] w (Wp w keys ks):=by
 obtain⟨ae,ce,rfl⟩:=ht.ents.rd.sl
 obtain⟨os,hkr,gY⟩:=ht.kids
 obtain⟨ak,ck,rfl⟩:=hkr.rd.sl
 obtain⟨ay,cy,rfl⟩:=hk.sl
 have HR:=ah (fun W (f:aj aF w W)=>hr▸GI Q es ks W _ _ (ht.aS f) hok)
 have HC:=ah (fun W (f:aj aF w W)=>Vr Q _ es ks W _ _ (Nat.lt_succ_self _) (ht.aS f) (by omega))
 have HK:=ah (fun W (f:aj aF w W)=>hk.aS f)
 have HL:=ah (show ks.len≤4000 by have:=oQ ks;unfold sizeT at hsz;omega)
 have iZ:=ah hkl
 clear hkr gY ht hok hsz hr hk hkl
 generalize es.length=n at*
 generalize hkn:ks.len=m at*
 have u_:=ah hkn;clear hkn
 generalize hyn:keys.length=y at*
 have Qb:=ah hyn;clear hyn
 obtain⟨WB,lG⟩:∃WB,WB=((w.alloc (.cells #[.slice ae n ce, .slice ak m ck] 28)).alloc (.cells #[.slice ay y cy] 101)).alloc (.cells #[.slice none 0 0, .slice none 0 0] 28):=⟨_,rfl⟩
 have hfb:aj aF w WB:=by rw[lG];exact((aj.alloc _ _ _).alloc1).alloc1
 have hb0:WB.heap[w.heap.size]?=some (.cells #[.slice ae n ce, .slice ak m ck] 28 (0,0)):=by
  rw[lG]
  exact(((aj.refl aF _).alloc1 (o:= .cells #[.slice ay y cy] 101)).alloc1 (o:= .cells #[.slice none 0 0, .slice none 0 0] 28)).blk (heap_alloc_new w _) id
 have hb1:WB.heap[w.heap.size+1]?=some (.cells #[.slice ay y cy] 101 (0,0)):=by
  rw[lG]
  have:=((aj.refl aF _).alloc1 (o:= .cells #[.slice none 0 0, .slice none 0 0] 28)).blk (lY w (.cells #[.slice ae n ce, .slice ak m ck] 28) #[.slice ay y cy] 101).1 id
  exact this
 have hb2:WB.heap[w.heap.size+1+1]?=some (.cells #[.slice none 0 0, .slice none 0 0] 28 (0,0)):=by
  rw[lG]
  have:=(lY (w.alloc (.cells #[.slice ae n ce, .slice ak m ck] 28)) (.cells #[.slice ay y cy] 101) #[.slice none 0 0, .slice none 0 0] 28).1
  simpa using this
 have b_:=ah hfb;clear hfb
 have HB0:=ah hb0;clear hb0
 have HB1:=ah hb1;clear hb1
 have HB2:=ah hb2;clear hb2
 have eu:=ah lG;clear lG
 go_enter Tryz.func94,Tryz.ntmps94
 go_wp2_with(first
  |(go_at_call 89;rw[←eu.out];refine(HR.out _ b_.out).mono ?_;rintro e w1 ⟨rfl,hw1⟩;have H0:=ah (hw1.blk HB0.out id);have H1:=ah (hw1.blk HB1.out id);have H2:=ah (hw1.blk HB2.out id);have HW1:=ah (b_.out.aH hw1);clear hw1;have y0:=aG H0.out 0 rfl;have y1:=aG H0.out 1 rfl)
  |(go_at_call 97;refine(HC.out _ HW1.out).mono ?_;clear y0 y1;rintro e w2 ⟨ev',kv',l,rfl,hta,hf,hks,hown,hkids⟩;obtain⟨a1,c1,rfl⟩:=hta.ents.rd.sl;obtain⟨a2,c2,rfl⟩:=hown.shape
    have y0:=aG (hf.blk H0.out id) 0 rfl;have y1:=aG (hf.blk H0.out id) 1 rfl;have g0:=aW (hf.blk H0.out id) 0;have g1:=aW (hf.blk H0.out id) 1
    have hl0:w.heap.size<w1.heap.size:=lt_of_block H0.out
    have HOW:=ah ((hown.both ⟨w.heap.size,0,none⟩ hl0 (.slice a1 es.length c1)).both ⟨w.heap.size,1,none⟩ (by simpa[World.setCell]using hl0) (.slice a2 l.length c2))
    have HF:=ah hf;clear hf;have dJ:=ah hks;clear hks;have KQ:=ah hkids;clear hkids hta hown hl0)
  |(go_at_call 131
    have Qc:=HK.out _ ((HW1.out.set1 (p:=⟨w.heap.size,0,none⟩) (u:= .slice a1 es.length c1) (.inr (Nat.le_refl _))).set1 (p:=⟨w.heap.size,1,none⟩) (u:= .slice a2 l.length c2) (.inr (Nat.le_refl _)))
    rw[←Qb.out]at Qc
    have hb1:((w1.setCell ⟨w.heap.size,0,none⟩ (.slice a1 es.length c1)).setCell ⟨w.heap.size,1,none⟩ (.slice a2 l.length c2)).cell? ⟨w.heap.size+1,0,none⟩=some (.slice ay keys.length cy):=aG ((vZ (by simp)).trans ((vZ (by simp)).trans (Qb.out.symm▸H1.out))) 0 rfl
    refine(adI keys l (w.heap.size+1) _ _ _ (.slice ay keys.length cy) HOW.out (fun q hq=>?_) ?_ Qc (Qb.out.symm▸iZ.out) hb1).mono ?_
    ·obtain⟨os,h2,-⟩:=(KQ.out q hq).kids;obtain⟨p1,p2,h1⟩:=(KQ.out q hq).ents.rd.sl;obtain⟨p3,p4,h2⟩:=h2.rd.sl;exact⟨⟨_,_,_,h1⟩,_,_,_,h2⟩
    ·have h1:=u_.out;have h2:=HL.out;rw[dJ.out,vY]at h1;omega
    clear Qc hb1 y0 y1 g0 g1
    rintro e w3 ⟨a3,c3,rfl,hf3,hrd,hbl⟩
    have hsw:w.heap.size+1+1<w1.heap.size:=lt_of_block H2.out
    have hnew:∀k,(Value.slice a2 l.length c2).ownBlock=some k→w1.heap.size≤k:=fun k hk=>by have:=HOW.out.new k hk;simpa[World.setCell]using this
    have hfs:=(((HW1.out.aH HF.out).set1 (p:=⟨w.heap.size,0,none⟩) (u:= .slice a1 es.length c1) (.inr (Nat.le_refl _))).set1 (p:=⟨w.heap.size,1,none⟩) (u:= .slice a2 l.length c2) (.inr (Nat.le_refl _)))
    have hfw:aj aF w w3:=hfs.trans hf3 fun i hi hs=>by have:=hnew i hs;exact absurd hi (by omega)
    have hb2:w3.heap[w.heap.size+1+1]?=some (.cells #[.slice none 0 0, .slice none 0 0] 28 (0,0)):=hf3.blk ((vZ (by simp;omega)).trans ((vZ (by simp;omega)).trans (HF.out.blk H2.out id))) fun h=>by have:=hnew _ h;omega
    have y0:=aG hb2 0 rfl
    have y1:=aG hb2 1 rfl
    have g0:=aW hb2 0
    have g1:=aW hb2 1
    have hr2:=res2 hb2 hfw (by omega) (.slice none 0 0) (.slice a3 (l.filter fun q=> !jE keys q).length c3)
    have hpo:bZ (fun b=>w.heap.size≤b) ((w3.setCell ⟨w.heap.size+1+1,0,none⟩ (.slice none 0 0)).setCell ⟨w.heap.size+1+1,1,none⟩ (.slice a3 (l.filter fun q=> !jE keys q).length c3)) (.slice none 0 0) (.slice a3 (l.filter fun q=> !jE keys q).length c3) [] (bF (fun k=>tf (k∈keys)) ks):=by
     rw[dJ.out]
     have hx:∀u v,aj (fun k=>k=w.heap.size+1+1) w3 ((w3.setCell ⟨w.heap.size+1+1,0,none⟩ u).setCell ⟨w.heap.size+1+1,1,none⟩ v):=fun u v=>((aj.refl (fun k=>k=w.heap.size+1+1) w3).set1 (p:=⟨w.heap.size+1+1,0,none⟩) (.inl rfl)).set1 (p:=⟨w.heap.size+1+1,1,none⟩) (.inl rfl)
     refine adM (v:= .slice a2 l.length c2) (fun q hq=>(KQ.out q hq).turn fun b hb hQ=>⟨?_,by omega,hQ.2⟩) (Rd.keep hrd (hx _ _) fun k hk (hs:k=w.heap.size+1+1)=>?_) fun k hk=>?_
     ·rw[hr2.2.2 b (by omega),hf3.block b (by simpa[World.setCell]using hb) hQ.2,vZ (by simp;omega),vZ (by simp;omega)]
     ·have:=hnew k (hbl k hk);omega
     ·have:=hnew k (hbl k hk);omega
    have HP:=ah (show Wp w keys ks (.returned (.agg #[.slice none 0 0, .slice a3 (l.filter fun q=> !jE keys q).length c3])) _ from⟨_,rfl,hpo,hr2.2.1⟩)
    have HR2:=ah hr2.1
    clear hsw hnew hfs hfw hb2 hr2 hpo hf3 hrd hbl KQ HOW
    generalize (l.filter fun q=> !jE keys q).length=L at*))
 clear y0 y1 g0 g1
 have y0:=aG HR2.out 0 rfl
 have y1:=aG HR2.out 1 rfl
 exact bodyPost_ret (v:= .agg #[.slice none 0 0, .slice a3 L c3]) (by simp[results,Tryz.results94,go_sem,y0,y1]) rfl HP.out
open Go.RowKit
def Wq (w:World) (keys:List ByteArray) (ks:aT) (c:bD) (e:Ending) (w':World):Prop:=
 ∃kv cv,e= .returned (.tuple #[.agg #[.slice none 0 0,kv,cv], .int .i64 0])∧bZ (fun b=>w.heap.size≤b) w' (.slice none 0 0) kv [] (bF (fun k=>tf (k∈keys)) ks)∧OwnAt w w' 92 3 cv c.length (dY c)
theorem adO (Q:Nat→Prop) (keys:List ByteArray) (vk:Value) (es:List aQ) (ks:aT) (c:bD) (w:World) (ev kv cv:Value) (h:dU Q w ev kv cv es ks c) (hok:iD es ks c) (hr:jA es ks c) (hk:Rd w vk keys.length (keys.map .string)) (hkl:keys.length≤1000000):
 Calls Tryz.prog 71 #[.agg #[ev,kv,cv],vk] w (Wq w keys ks c):=by
 obtain⟨a0,c0,a1,c1,a2,c2,rfl,rfl,rfl⟩:=h.shape
 obtain⟨ay,cy,rfl⟩:=hk.sl
 have HR:=ah (fun w' (f:aj aF w w')=>gu hr▸xQ Q es ks c w' _ _ _ (h.aS f) hok)
 have HT:=ah (fun w' (f:aj aF w w')=>adN Q keys es ks w' _ _ (.slice ay keys.length cy) (h.tree.aS f) hok.tree (Nat.le_trans hok.small (by decide)) hr.tree (hk.aS f) hkl)
 have HS:=ah (fun w' (f:aj aF w w')=>Oe w' _ c (Rd.aS h.ctx f) (by have:=hok.len;omega))
 clear h hok hr hk hkl
 generalize hyn:keys.length=y at*
 clear hyn
 generalize hes:es.length=n at*
 generalize hkl:ks.len=m at*
 generalize hcl:c.length=k at*
 have Eh:=ah hes;clear hes
 have iZ:=ah hkl;clear hkl
 have rJ:=ah hcl;clear hcl
 have htb:((w.alloc (.cells #[.slice a0 n c0, .slice a1 m c1, .slice a2 k c2] 32)).alloc (.cells #[.slice none 0 0, .slice none 0 0, .slice none 0 0] 32)).heap[w.heap.size+1]?=some (.cells #[.slice none 0 0, .slice none 0 0, .slice none 0 0] 32 (0,0)):=(lY w _ _ _).1
 have GK:=ah htb;clear htb
 have hfb:aj aF (w.alloc (.cells #[.slice a0 n c0, .slice a1 m c1, .slice a2 k c2] 32)) ((w.alloc (.cells #[.slice a0 n c0, .slice a1 m c1, .slice a2 k c2] 32)).alloc (.cells #[.slice none 0 0, .slice none 0 0, .slice none 0 0] 32)):=aj.alloc _ _ _
 have b_:=ah hfb;clear hfb
 have bW:=ah (jc w (.slice a0 n c0) (.slice a1 m c1) (.slice a2 k c2) 32)
 go_enter Tryz.func71,Tryz.ntmps71
 go_wp2_with(go_at_call 40;refine(HR.out _ ((aj.alloc aF _ _).aH b_.out)).mono ?_;rintro e w1 ⟨rfl,hw1⟩;obtain⟨y0,y1,y2⟩:=bW.out w1 (b_.out.aH hw1);have hblk:=hw1.blk GK.out id;have GL:=ah hblk;clear hblk;have HW1:=ah (((aj.alloc aF _ _).aH b_.out).aH hw1);clear hw1)
 refine iq (S:=fun w'=>w'.cell? ⟨w.heap.size,0,none⟩=some (.slice a0 n c0)∧w'.cell? ⟨w.heap.size,1,none⟩=some (.slice a1 m c1)∧w'.cell? ⟨w.heap.size,2,none⟩=some (.slice a2 k c2)) 9 (by kernel_rfl) ⟨y0,y1,y2⟩ ?_
 intro hS
 have bJ:=ah (HW1.out.aH (aj.drew aF w1))
 have gX:=ah ((aj.drew aF w1).blk GL.out id)
 have hsb:w.heap.size+1<w1.drew.heap.size:=lt_of_block gX.out
 clear y0 y1 y2 HW1 GL
 generalize w1.drew=Y at*
 refine aX 0 10 rfl rfl ?_
 refine aX 1 11 rfl rfl ?_
 try simp only[Act.put,aO,aN,aJ]
 refine aX 2 12 rfl rfl ?_
 refine aX 4 14 rfl rfl ?_
 try simp only[Act.put,aO,aN,aJ]
 refine aX 5 15 rfl rfl ?_
 try simp only[Act.put,aO,aN,aJ]
 refine bg (i:=3) (by kernel_rfl) rfl (fun K hK=>?_)
 go_simp
 refine(HT.out _ bJ.out).mono ?_
 rintro e Y1 ⟨jV,rfl,lX,hf3⟩
 obtain⟨os3,pW,-⟩:=lX.kids
 obtain⟨a4,c4,rfl⟩:=pW.rd.sl
 clear pW
 generalize hfl:(bF (fun k=>tf (k∈keys)) ks).len=fl at*
 have vC:=ah hfl;clear hfl
 have hS:=(⟨hf3.cell' hS.1 id,hf3.cell' hS.2.1 id,hf3.cell' hS.2.2 id⟩:Y1.cell? ⟨w.heap.size,0,none⟩=some (.slice a0 n c0)∧Y1.cell? ⟨w.heap.size,1,none⟩=some (.slice a1 m c1)∧Y1.cell? ⟨w.heap.size,2,none⟩=some (.slice a2 k c2))
 refine hK.out _ _ hS ?_
 clear hK K
 have GH:=ah lX;clear lX
 have HF3:=ah hf3;clear hf3
 try simp only[Act.put,aO,aN,aJ]
 refine bg (i:=6) (by kernel_rfl) rfl (fun K hK=>?_)
 go_simp
 refine(HS.out _ (bJ.out.aH HF3.out)).mono ?_
 rintro e Y2 ⟨v5,rfl,lu⟩
 obtain⟨a5,c5,rfl⟩:=lu.shape
 have hS:=(⟨lu.aI.cell' hS.1 id,lu.aI.cell' hS.2.1 id,lu.aI.cell' hS.2.2 id⟩:Y2.cell? ⟨w.heap.size,0,none⟩=some (.slice a0 n c0)∧Y2.cell? ⟨w.heap.size,1,none⟩=some (.slice a1 m c1)∧Y2.cell? ⟨w.heap.size,2,none⟩=some (.slice a2 k c2))
 refine hK.out _ _ hS ?_
 clear hK K
 have lH:=ah lu;clear lu
 try simp only[Act.put,aO,aN,aJ]
 refine aX 7 17 rfl rfl ?_
 try simp only[Act.put,aO,aN,aJ]
 refine bg (i:=8) (by kernel_rfl) rfl (fun K hK=>?_)
 have hblk:=lH.out.aI.blk (HF3.out.blk gX.out id) id
 have HR3:=ah (BP hblk ((bJ.out.aH HF3.out).aH lH.out.aI) (by omega) (.slice none 0 0) (.slice a4 fl c4) (.slice a5 k c5))
 have hs3:=HF3.out.size
 have Vx:=lt_of_block hblk
 have HP:=ah ((GH.out.aS lH.out.aI).turn (Q':=fun b=>w.heap.size≤b) fun b hb hQ=>⟨HR3.out.2.2 b (by omega),by omega⟩)
 have hown:OwnAt w (((Y2.setCell ⟨w.heap.size+1,0,none⟩ (.slice none 0 0)).setCell ⟨w.heap.size+1,1,none⟩ (.slice a4 fl c4)).setCell ⟨w.heap.size+1,2,none⟩ (.slice a5 k c5)) 92 3 (.slice a5 k c5) k (dY c):=by
  have hnew:=lH.out.new
  have um:iH (fun b=>b=w.heap.size+1) w Y2 92 3 (.slice a5 k c5) k (dY c):=⟨lH.out.base (bJ.out.aH HF3.out),fun b hb hn=>by have:=hnew b hb;omega⟩
  exact(((um.set (p:=⟨w.heap.size+1,0,none⟩) rfl (Nat.le_succ _) _).set (p:=⟨w.heap.size+1,1,none⟩) rfl (Nat.le_succ _) _).set (p:=⟨w.heap.size+1,2,none⟩) rfl (Nat.le_succ _) _).at_
 have HOW:=ah hown;clear hown
 have y0:=aG hblk 0 rfl
 have y1:=aG hblk 1 rfl
 have y2:=aG hblk 2 rfl
 have g0:=aW hblk 0
 have g1:=aW hblk 1
 have g2:=aW hblk 2
 clear hblk
 go_simp
 refine hK.out _ _ ⟨(World.cell?_of_block (w:=Y2) (HR3.out.2.2 _ (by show w.heap.size≠w.heap.size+1;omega))).trans hS.1,(World.cell?_of_block (w:=Y2) (HR3.out.2.2 _ (by show w.heap.size≠w.heap.size+1;omega))).trans hS.2.1,(World.cell?_of_block (w:=Y2) (HR3.out.2.2 _ (by show w.heap.size≠w.heap.size+1;omega))).trans hS.2.2⟩ ?_
 clear hK K y0 y1 y2 g0 g1 g2
 try simp only[Act.put,aO,aN,aJ]
 refine gJ (by kernel_rfl) (by kernel_rfl) rfl (fun K hK=>?_)
 go_simp
 refine hK.out _ _ ?_
 clear hK K
 go_wp2
 have y0:=aG HR3.out.1 0 rfl
 have y1:=aG HR3.out.1 1 rfl
 have y2:=aG HR3.out.1 2 rfl
 exact bodyPost_ret (v:= .tuple #[.agg #[.slice none 0 0, .slice a4 fl c4, .slice a5 k c5], .int .i64 0]) (by simp[results,Tryz.results71,go_sem,y0,y1,y2]) rfl ⟨_,_,rfl,HP.out,rJ.out.symm▸HOW.out⟩
end Go.Proofs.YtlhmbkjdfjoilaaGreat
namespace Go.Proofs.YtlhmbkjdfjoilaaGreat
end Go.Proofs.YtlhmbkjdfjoilaaGreat
namespace Go.Proofs.YtlhmbkjdfjoilaaGreat
namespace fG
def P:BitVec 32:=0x82f63b78#32
def Q:BitVec 32:=0x1edc6f41#32
def st (c:BitVec 32):BitVec 32:=if c.getLsbD 0=true then(c>>>1)^^^P else c>>>1
def Aj:Nat→BitVec 32→BitVec 32
 |0,c=>c
 |n+1,c=>st (Aj n c)
def add (c:BitVec 32) (b:UInt8):BitVec 32:=Aj 8 (c^^^BitVec.ofNat 32 b.toNat)
def all (c:BitVec 32) (l:List UInt8):BitVec 32:=l.foldl add c
def crc (l:List UInt8):BitVec 32:=all (BitVec.allOnes 32) l^^^BitVec.allOnes 32
def Ak (r:BitVec 32) (x:Bool):BitVec 32:=if r.msb=x then r<<<1 else(r<<<1)^^^Q
def xZ:Nat→BitVec 32→Nat→BitVec 32
 |0,r,_=>r
 |n+1,r,x=>Ak (xZ n r x) (x.testBit n)
def Cj (r:BitVec 32) (b:UInt8):BitVec 32:=xZ 8 r b.toNat
def yc (r:BitVec 32) (l:List UInt8):BitVec 32:=l.foldl Cj r
def Ws (l:List UInt8):BitVec 32:=(yc (BitVec.allOnes 32) l^^^BitVec.allOnes 32).reverse
theorem Wu (a b:BitVec 32):(a^^^b).reverse=a.reverse^^^b.reverse:=by
 ext i h
 simp only[BitVec.getElem_reverse,BitVec.getElem_xor,BitVec.getMsbD_xor]
theorem rev_rev (a:BitVec 32):a.reverse.reverse=a:=by
 ext i h
 rw[BitVec.getElem_reverse,BitVec.getMsbD_reverse,BitVec.getLsbD_eq_getElem]
theorem adP (a:BitVec 32):(a>>>1).reverse=a.reverse<<<1:=by
 ext i h
 rw[BitVec.getElem_reverse,BitVec.getElem_shiftLeft,BitVec.getMsbD_eq_getLsbD,BitVec.getLsbD_ushiftRight]
 by_cases h0:i=0
 ·subst h0
  simp
 ·have h1:¬i<1:=by omega
  simp only[h,decide_true,Bool.true_and,h1,decide_false,Bool.not_false]
  rw[BitVec.getElem_reverse,BitVec.getMsbD_eq_getLsbD]
  have:32-1-(i-1)=1+(32-1-i):=by omega
  rw[this]
  simp;omega
theorem adQ:P.reverse=Q:=by decide
theorem Wv (c:BitVec 32) (b:Nat):∀n,n≤32→Aj n (c^^^BitVec.ofNat 32 b)=(xZ n c.reverse b).reverse^^^(BitVec.ofNat 32 b>>>n)
 |0,_=>by
  show c^^^BitVec.ofNat 32 b=c.reverse.reverse^^^_
  rw[rev_rev,BitVec.ushiftRight_zero]
 |n+1,hn=>by
  show st (Aj n _)=(Ak (xZ n c.reverse b) (b.testBit n)).reverse^^^_
  rw[Wv c b n (by omega)]
  generalize xZ n c.reverse b=r
  have hb:(r.reverse^^^(BitVec.ofNat 32 b>>>n)).getLsbD 0=(r.msb^^b.testBit n):=by
   rw[BitVec.getLsbD_xor,BitVec.getLsbD_ushiftRight,BitVec.getLsbD_reverse,BitVec.getLsbD_ofNat,decide_eq_true (by omega:n+0<32)]
   rfl
  have hs:(r.reverse^^^(BitVec.ofNat 32 b>>>n))>>>1=r.reverse>>>1^^^BitVec.ofNat 32 b>>>(n+1):=by
   rw[BitVec.ushiftRight_xor_distrib,←BitVec.shiftRight_add]
  have hr:r.reverse>>>1=(r<<<1).reverse:=by
   have:=adP r.reverse
   rw[rev_rev]at this
   rw[←this,rev_rev]
  unfold st Ak
  rw[hb,hs,hr]
  generalize BitVec.ofNat 32 b>>>(n+1)=B
  cases hm:r.msb<;>cases ht:b.testBit n<;>simp only[Bool.false_xor,Bool.true_xor,Bool.not_true,Bool.not_false,if_true,if_false,reduceCtorEq]
  all_goals
   rw[Wu,←adQ,rev_rev,BitVec.xor_assoc,BitVec.xor_comm B,←BitVec.xor_assoc]
theorem adR (c:BitVec 32) (b:UInt8):add c b=(Cj c.reverse b).reverse:=by
 unfold add Cj
 rw[Wv c b.toNat 8 (by omega)]
 have h:BitVec.ofNat 32 b.toNat>>>8=0#32:=by
  apply BitVec.eq_of_toNat_eq
  rw[BitVec.toNat_ushiftRight,BitVec.toNat_ofNat,Nat.shiftRight_eq_div_pow]
  have:=b.toNat_lt
  show b.toNat%2^32/2^8=0
  omega
 rw[h,BitVec.xor_zero]
theorem adS (c:BitVec 32) (l:List UInt8):all c l=(yc c.reverse l).reverse:=by
 induction l generalizing c with
 |nil=>exact(rev_rev c).symm
 |cons b l ih=>
  show all (add c b) l=(yc (Cj c.reverse b) l).reverse
  rw[ih,adR,rev_rev]
theorem Wx:(BitVec.allOnes 32).reverse=BitVec.allOnes 32:=by
 ext i h
 rw[BitVec.getElem_reverse,BitVec.getMsbD_eq_getLsbD,BitVec.getLsbD_allOnes,BitVec.getElem_allOnes,decide_eq_true h,Bool.true_and]
 exact decide_eq_true (by omega)
theorem adT (l:List UInt8):crc l=Ws l:=by
 unfold crc Ws
 rw[Wu,Wx,adS,Wx]
def sum (l:List UInt8):Nat:=(crc l).toNat
theorem sum_lt (l:List UInt8):sum l<4294967296:=(crc l).isLt
end fG
open Go.RowKit
open Go.RowKit
theorem KR (a:BitVec 32):BitVec.ofInt 32 (a.toNat:Int)=a:=by
 rw[BitVec.ofInt_natCast,BitVec.ofNat_toNat]
 rfl
theorem Wy (a:BitVec 32):IntKind.u32.wrap (a.toNat:Int)=(a.toNat:Int):=by
 have:=a.isLt
 rw[IntKind.wrap_u32]
 omega
theorem KT (a b:BitVec 32):bits BinOp.xor IntKind.u32 (a.toNat:Int) (b.toNat:Int)=((a^^^b).toNat:Int):=by
 show IntKind.u32.wrap ((BitVec.ofInt 32 (a.toNat:Int)^^^BitVec.ofInt 32 (b.toNat:Int)).toNat:Int)=_
 rw[KR,KR,Wy]
theorem adU (a b:BitVec 32):bits BinOp.and IntKind.u32 (a.toNat:Int) (b.toNat:Int)=((a&&&b).toNat:Int):=by
 show IntKind.u32.wrap ((BitVec.ofInt 32 (a.toNat:Int)&&&BitVec.ofInt 32 (b.toNat:Int)).toNat:Int)=_
 rw[KR,KR,Wy]
theorem and_one (c:BitVec 32):bits BinOp.and IntKind.u32 (c.toNat:Int) 1=if c.getLsbD 0=true then 1 else 0:=by
 have h:=adU c 1#32
 rw[show((1#32).toNat:Int)=1 from rfl]at h
 rw[h,BitVec.toNat_and]
 have e:c.toNat&&&(1#32).toNat=c.toNat%2:=Nat.and_one_is_mod _
 have g:c.getLsbD 0=decide (c.toNat%2=1):=by
  rw[BitVec.getLsbD,Nat.testBit_zero]
 rw[e,g]
 have:=Nat.mod_two_eq_zero_or_one c.toNat
 rcases this with h|h<;>rw[h]<;>simp
theorem adV (c:BitVec 32):bits BinOp.xor IntKind.u32 (c.toNat:Int) 2197175160=((c^^^fG.P).toNat:Int):=KT c fG.P
theorem adW (c:BitVec 32):bits BinOp.xor IntKind.u32 (c.toNat:Int) 517762881=((c^^^fG.Q).toNat:Int):=KT c fG.Q
theorem WC (c:BitVec 32):bits BinOp.xor IntKind.u32 (c.toNat:Int) 4294967295=((c^^^BitVec.allOnes 32).toNat:Int):=KT c (BitVec.allOnes 32)
theorem adX (c:BitVec 32) (b:UInt8):bits BinOp.xor IntKind.u32 (c.toNat:Int) (b.toNat:Int)=((c^^^BitVec.ofNat 32 b.toNat).toNat:Int):=by
 have h:=KT c (BitVec.ofNat 32 b.toNat)
 have e:(BitVec.ofNat 32 b.toNat).toNat=b.toNat:=by
  rw[BitVec.toNat_ofNat]
  have:=b.toNat_lt
  omega
 rw[e]at h
 exact h
theorem adY (c:BitVec 32):((c>>>1).toNat:Int)=(c.toNat:Int)/2:=by
 rw[BitVec.toNat_ushiftRight,Nat.shiftRight_eq_div_pow]
 omega
theorem adZ (c0:BitVec 32) (b:UInt8) (w:World):Calls Tryz.prog 61 #[.int .u32 c0.toNat, .int .u8 b.toNat] w fun e w'=>e= .returned (.int .u32 (fG.add c0 b).toNat)∧w=w':=by
 have hb:=b.toNat_lt
 have hw:IntKind.u32.wrap (b.toNat:Int)=(b.toNat:Int):=by rw[IntKind.wrap_u32];omega
 go_enter Tryz.func61,Tryz.ntmps61
 go_wp2
 clear hw
 go_loopw [0,10] (fun c i W=>∃k:Nat,k≤8∧i= .int .i64 k∧c= .int .u32 (fG.Aj k (c0^^^BitVec.ofNat 32 b.toNat)).toNat∧W=w) (fun _ i _=>8-(intOf i).toNat)
 case atStart=>exact⟨0,by omega,rfl,by rw[adX];rfl,rfl⟩
 case round=>
  obtain⟨k,hk,rfl,rfl,rfl⟩:=hrel
  by_cases hlt:k<8
  ·have hst:fG.Aj (k+1) (c0^^^BitVec.ofNat 32 b.toNat)=fG.st (fG.Aj k (c0^^^BitVec.ofNat 32 b.toNat)):=rfl
   have HST:=ah hst;clear hst
   generalize hc:fG.Aj k (c0^^^BitVec.ofNat 32 b.toNat)=c at*
   have HC:=ah hc;clear hc
   have h1:=and_one c
   have h2:=adY c
   have h3:=adV (c>>>1)
   have hcl:=c.isLt
   cases hbit:c.getLsbD 0 with
   |true=>
    rw[hbit,if_pos rfl]at h1
    have HE:=ah (show fG.st c=(c>>>1)^^^fG.P from if_pos hbit)
    go_wp2
    go_roundw
    case rel=>exact⟨k+1,by omega,by go_num,by rw[HST.out,HE.out,←h3,h2],trivial⟩
    case measure=>simp[intOf];omega
   |false=>
    rw[hbit,if_neg (by decide)]at h1
    have HE:=ah (show fG.st c=c>>>1 from if_neg (by rw[hbit];decide))
    go_wp2
    go_roundw
    case rel=>exact⟨k+1,by omega,by go_num,by rw[HST.out,HE.out,h2],trivial⟩
    case measure=>simp[intOf];omega
  ·obtain rfl:k=8:=by omega
   go_wp2
   go_ret
   exact⟨rfl,rfl⟩
theorem ad1 {w:World} {b off c n:Nat} {l:List UInt8} (h:Rd w (.slice (some ⟨b,off,none⟩) n c) n (bV l)) (k:Nat) (hk:k<l.length):w.cell? ⟨b,off+k,none⟩=some (.int .u8 (l.getD k 0).toNat):=by
 rcases h with⟨ad,h1,h2,h3⟩|⟨b',off',c',h1,h2,h3,h4⟩
 ·have h0:l=[]:=by simpa[bV]using h3
  subst h0
  cases hk
 ·injection h1 with e1 e2 e3
  injection e1 with e1
  injection e1 with e1 e4
  subst e1 e4
  refine h4 k _ ?_
  unfold bV
  rw[List.getElem?_map,List.getElem?_eq_getElem hk,List.getD_eq_getElem?_getD,List.getElem?_eq_getElem hk]
  rfl
theorem WE {α:Type} (f:α→UInt8→α) (c:α) {l:List UInt8} {k:Nat} (h:k<l.length):(l.take (k+1)).foldl f c=f ((l.take k).foldl f c) (l.getD k 0):=by
 rw[List.take_add_one,List.getElem?_eq_getElem h,List.foldl_append,List.getD_eq_getElem?_getD,List.getElem?_eq_getElem h]
 rfl
theorem ad6 (r:BitVec 32):(r.toNat:Int)/2147483648=if r.msb=true then 1 else 0:=by
 have hl:=r.isLt
 have h:=BitVec.msb_eq_decide r
 rw[h]
 by_cases hb:2147483648≤r.toNat
 ·rw[if_pos (decide_eq_true hb)];omega
 ·rw[if_neg (by simpa using hb)];omega
theorem ad7 (r:BitVec 32):IntKind.u32.wrap (2*(r.toNat:Int))=((r<<<1).toNat:Int):=by
 rw[IntKind.wrap_u32,BitVec.toNat_shiftLeft,Nat.shiftLeft_eq]
 omega
theorem ad8 (x j:Nat):((x/2^j:Nat):Int)%2=if x.testBit j=true then 1 else 0:=by
 have h:x.testBit j=decide (x/2^j%2=1):=by rw[Nat.testBit_eq_decide_div_mod_eq]
 rw[h]
 rcases Nat.mod_two_eq_zero_or_one (x/2^j)with e|e
 ·rw[if_neg (by rw[e];decide)];omega
 ·rw[if_pos (by rw[e];rfl)];omega
theorem ad_ (r:BitVec 32) (k:Nat) (hk:k<32):r.reverse.toNat/2^(31-k)=2*(r.reverse.toNat/2^(32-k))+r.toNat/2^k%2:=by
 have e1:r.reverse.toNat/2^(32-k)=r.reverse.toNat/2^(31-k)/2:=by
  rw[Nat.div_div_eq_div_mul,show 32-k=31-k+1 by omega,Nat.pow_succ]
 have e2:r.reverse.toNat/2^(31-k)%2=r.toNat/2^k%2:=by
  have h1:r.reverse.getLsbD (31-k)=r.getLsbD k:=by
   rw[BitVec.getLsbD_reverse,BitVec.getMsbD_eq_getLsbD,show 32-1-(31-k)=k by omega]
   simp;omega
  rw[BitVec.getLsbD,BitVec.getLsbD,Nat.testBit_eq_decide_div_mod_eq,Nat.testBit_eq_decide_div_mod_eq]at h1
  have h2:=decide_eq_decide.1 h1
  have:=Nat.mod_two_eq_zero_or_one (r.reverse.toNat/2^(31-k))
  have:=Nat.mod_two_eq_zero_or_one (r.toNat/2^k)
  omega
 rw[e1,←e2]
 omega
theorem aea (r:BitVec 32) (w:World):Calls Tryz.prog 62 #[.int .u32 r.toNat] w fun e w'=>e= .returned (.int .u32 r.reverse.toNat)∧w=w':=by
 have hrl:=r.isLt
 have hR:=r.reverse.isLt
 have H0:=ah (show r.reverse.toNat/2^32=0 from Nat.div_eq_of_lt hR)
 have HB:=ah (fun k hk=>ad_ r k hk)
 have HS:=ah (fun k=>(show r.toNat/2^k/2=r.toNat/2^(k+1) by rw[Nat.div_div_eq_div_mul,Nat.pow_succ]))
 have HQ:=ah (fun k=>Nat.div_le_self r.reverse.toNat (2^k))
 have HP:=ah (fun k=>Nat.div_le_self r.toNat (2^k))
 generalize r.reverse.toNat=R at*
 generalize r.toNat=n at*
 go_enter Tryz.func62,Tryz.ntmps62
 go_wp2
 go_loopw [0,3,4] (fun c o i W=>∃k:Nat,k≤32∧i= .int .i64 k∧c= .int .u32 (n/2^k:Nat)∧o= .int .u32 (R/2^(32-k):Nat)∧W=w) (fun _ _ i _=>32-(intOf i).toNat)
 case atStart=>exact⟨0,by omega,rfl,by simp,by rw[Nat.sub_zero,H0.out];rfl,rfl⟩
 case round=>
  obtain⟨k,hk,rfl,rfl,rfl,rfl⟩:=hrel
  by_cases hlt:k<32
  ·have h1:=HB.out k hlt
   have h2:=HS.out k
   have h3:=HQ.out (31-k)
   have h4:=HP.out k
   rw[show 31-k=32-(k+1) by omega]at h1 h3
   generalize hc2:n/2^(k+1)=c2 at*
   have HC2:=ah hc2;clear hc2
   generalize n/2^k=c at*
   generalize ho2:R/2^(32-(k+1))=o2 at*
   have gW:=ah ho2;clear ho2
   generalize R/2^(32-k)=o at*
   have hw1:IntKind.u32.wrap (2*(o:Int))=2*(o:Int):=by rw[IntKind.wrap_u32];omega
   have hw2:IntKind.u32.wrap (2*(o:Int)+(c:Int)%2)=(o2:Int):=by rw[IntKind.wrap_u32];omega
   go_wp2
   go_roundw
   case rel=>
    refine⟨k+1,by omega,by go_num,?g1,?g2,trivial⟩
    ·rw[HC2.out,←h2];rfl
    ·rw[gW.out,h1];rfl
   case measure=>simp[intOf];omega
  ·obtain rfl:k=32:=by omega
   go_wp2
   go_ret
   exact⟨by simp,rfl⟩
theorem aeb (bs:List UInt8) (v:Value) (w:World) (h:Rd w v bs.length (bV bs)):Calls Tryz.prog 35 #[v] w fun e w'=>e= .returned (.int .u32 (fG.sum bs))∧w=w':=by
 obtain⟨a0,c0,rfl⟩:∃a c,v= .slice a bs.length c:=by
  rcases h with⟨ad,rfl,h2,h3⟩|⟨b,off,c,rfl,_⟩
  ·exact⟨ad,0,by rw[h2]⟩
  ·exact⟨_,_,rfl⟩
 have HH:=ah h;clear h
 generalize hn:bs.length=n at*
 have HN:=ah hn;clear hn
 have H0:=ah (show(4294967295:Int)=((fG.yc (BitVec.allOnes 32) (bs.take 0)).toNat:Int)from rfl)
 go_enter Tryz.func35,Tryz.ntmps35
 go_wp2
 go_loopw [3,9] (fun c i W=>∃k:Nat,k≤n∧i= .int .i64 k∧c= .int .u32 (fG.yc (BitVec.allOnes 32) (bs.take k)).toNat∧W=w) (fun _ i _=>n-(intOf i).toNat)
 case atStart=>exact⟨0,Nat.zero_le _,rfl,by rw[←H0.out],rfl⟩
 case round=>
  obtain⟨k,hk,rfl,rfl,rfl⟩:=hrel
  by_cases hlt:k<n
  ·have hkl:k<bs.length:=by rw[HN.out];exact hlt
   have hrd:=HH.out
   rcases hrd with⟨ad,he,hz,-⟩|⟨b,off,cc,he,hm1,hm2,-⟩
   ·exfalso;omega
   injection he with e1 e2 e3
   subst e1 e3
   clear e2
   have hmx:(n:Int)≤9223372036854775807:=by simp only[maxLen]at hm2;omega
   clear hm1 hm2
   have q0:=ad1 HH.out k hkl
   have HST:=ah (show fG.yc (BitVec.allOnes 32) (bs.take (k+1))=fG.Cj (fG.yc (BitVec.allOnes 32) (bs.take k)) (bs.getD k 0)from WE fG.Cj _ hkl)
   generalize bs.getD k 0=x at*
   generalize fG.yc (BitVec.allOnes 32) (bs.take k)=c at*
   have hxl:=x.toNat_lt
   have hcv:IntKind.u32.wrap (x.toNat:Int)=(x.toNat:Int):=by rw[IntKind.wrap_u32];omega
   have yX:=ah (show fG.Cj c x=fG.xZ 8 c x.toNat from rfl)
   generalize x.toNat=y at*
   have HY0:=ah (show(y:Int)=((y/2^0:Nat):Int) by simp)
   obtain⟨WO,hWO⟩:∃W,W=wr:=⟨wr,rfl⟩
   subst hWO
   go_wp2
   go_loopw [3,5,17] (fun r z i W=>∃j:Nat,j≤8∧i= .int .i64 j∧r= .int .u32 (fG.xZ j c y).toNat∧z= .int .u32 (y/2^j:Nat)∧W=WO) (fun _ _ i _=>8-(intOf i).toNat)
   case atStart=>exact⟨0,by omega,rfl,rfl,by rw[←HY0.out],rfl⟩
   case round=>
    obtain⟨j,hj,rfl,rfl,rfl,rfl⟩:=hrel
    by_cases hlj:j<8
    ·have HR:=ah (show fG.xZ (j+1) c y=fG.Ak (fG.xZ j c y) (y.testBit j)from rfl)
     generalize fG.xZ j c y=r at*
     have h1:=ad6 r
     have h2:=ad7 r
     have h3:=ad8 y j
     have h4:=adW (r<<<1)
     have h5:y/2^j/2=y/2^(j+1):=by rw[Nat.div_div_eq_div_mul,Nat.pow_succ]
     generalize hz2:y/2^(j+1)=z2 at*
     have HZ2:=ah hz2;clear hz2
     have hzl:=Nat.div_le_self y (2^j)
     generalize y/2^j=z at*
     generalize hr2:r<<<1=r2 at*
     have HR2:=ah hr2;clear hr2
     have hrl:=r.isLt
     have hwz:IntKind.u32.wrap ((z:Int)/2)=(z2:Int):=by rw[IntKind.wrap_u32];omega
     cases hm:r.msb<;>cases ht:y.testBit j
     ·rw[hm,if_neg (by decide)]at h1
      rw[ht,if_neg (by decide)]at h3
      have HE:=ah (show fG.Ak r false=r2 by rw[←HR2.out];exact if_pos hm)
      rw[ht]at HR
      go_wp2
      go_roundw
      case rel=>exact⟨j+1,by omega,by go_num,by rw[HR.out,HE.out],by rw[HZ2.out],trivial⟩
      case measure=>simp[intOf];omega
     ·rw[hm,if_neg (by decide)]at h1
      rw[ht,if_pos rfl]at h3
      have HE:=ah (show fG.Ak r true=r2^^^fG.Q by rw[←HR2.out];exact if_neg (by rw[hm];decide))
      rw[ht]at HR
      go_wp2
      go_roundw
      case rel=>exact⟨j+1,by omega,by go_num,by rw[HR.out,HE.out,BitVec.toNat_xor],by rw[HZ2.out],trivial⟩
      case measure=>simp[intOf];omega
     ·rw[hm,if_pos rfl]at h1
      rw[ht,if_neg (by decide)]at h3
      have HE:=ah (show fG.Ak r false=r2^^^fG.Q by rw[←HR2.out];exact if_neg (by rw[hm];decide))
      rw[ht]at HR
      go_wp2
      go_roundw
      case rel=>exact⟨j+1,by omega,by go_num,by rw[HR.out,HE.out,BitVec.toNat_xor],by rw[HZ2.out],trivial⟩
      case measure=>simp[intOf];omega
     ·rw[hm,if_pos rfl]at h1
      rw[ht,if_pos rfl]at h3
      have HE:=ah (show fG.Ak r true=r2 by rw[←HR2.out];exact if_pos hm)
      rw[ht]at HR
      go_wp2
      go_roundw
      case rel=>exact⟨j+1,by omega,by go_num,by rw[HR.out,HE.out],by rw[HZ2.out],trivial⟩
      case measure=>simp[intOf];omega
    ·obtain rfl:j=8:=by omega
     go_wp2
     go_roundw
     case rel=>exact⟨k+1,by omega,by go_num,by rw[HST.out,yX.out],trivial⟩
     case measure=>simp[intOf];omega
  ·obtain rfl:n=k:=by omega
   have HT:=ah (show fG.sum bs=(fG.yc (BitVec.allOnes 32) (bs.take bs.length)^^^BitVec.allOnes 32).reverse.toNat by rw[List.take_length];unfold fG.sum;rw[fG.adT];rfl)
   rw[HN.out]at HT
   generalize fG.yc (BitVec.allOnes 32) (bs.take n)=c at*
   have hx:=WC c
   have HM:=ah (aea (c^^^BitVec.allOnes 32) wr)
   go_wp2_with(go_at_call 62;refine HM.out.mono ?_;rintro e w1 ⟨rfl,rfl⟩)
   go_ret
   exact⟨by rw[HT.out];rfl,rfl⟩
open Go.RowKit
def rb (s:ByteArray):List UInt8:=s.toList.reverse
theorem Qd (s:ByteArray):(rb s).length=s.size:=by unfold rb;rw[List.length_reverse,ByteArray.toList_eq];simp
theorem WG (s:ByteArray) {j:Nat} (h:j<s.size):(rb s).getD j 0=s[s.size-1-j]:=by
 have hl:=Qd s
 rw[getD_at 0 (by rw[hl];exact h)]
 unfold rb
 rw[List.getElem_reverse]
 simp only[ByteArray.toList_eq,Array.length_toList,Array.getElem_toList]
 rfl
theorem aee (s:ByteArray) (w:World) (hs:s.size≤9223372036854775807):Calls Tryz.prog 34 #[.string s] w fun e w'=>e= .returned (.int .u32 (fG.sum (rb s)))∧w'=w:=by
 have H0:=ah (show(4294967295:Int)=((fG.all (BitVec.allOnes 32) ((rb s).take 0)).toNat:Int)from rfl)
 have HL:=ah (Qd s)
 have HB:=ah (fun j=>WG s (j:=j))
 go_enter Tryz.func34,Tryz.ntmps34
 go_wp2
 go_loopw [3,4] (fun c i W=>∃j:Nat,j≤s.size∧i= .int .i64 ((s.size:Int)-1-j)∧c= .int .u32 (fG.all (BitVec.allOnes 32) ((rb s).take j)).toNat∧W=w) (fun _ i _=>(intOf i+1).toNat)
 case atStart=>exact⟨0,Nat.zero_le _,by simp,by rw[←H0.out],rfl⟩
 case round=>
  obtain⟨j,hj,rfl,rfl,rfl⟩:=hrel
  by_cases hlt:j<s.size
  ·have HX:=ah (HB.out j hlt)
   have HST:=ah (show fG.all (BitVec.allOnes 32) ((rb s).take (j+1))=fG.add (fG.all (BitVec.allOnes 32) ((rb s).take j)) ((rb s).getD j 0)from WE fG.add _ (by rw[HL.out];exact hlt))
   generalize fG.all (BitVec.allOnes 32) ((rb s).take j)=c at*
   go_wp2_with(go_at_call 61;refine(adZ c _ _).mono ?_;rintro e w1 ⟨rfl,rfl⟩)
   go_roundw
   case rel=>exact⟨j+1,by omega,by go_num,by rw[HST.out,HX.out],trivial⟩
   case measure=>simp[intOf];omega
  ·obtain rfl:j=s.size:=by omega
   have HT:=ah (show fG.sum (rb s)=(fG.all (BitVec.allOnes 32) ((rb s).take s.size)^^^BitVec.allOnes 32).toNat by rw[List.take_of_length_le (by rw[HL.out];exact Nat.le_refl _)];rfl)
   generalize fG.all (BitVec.allOnes 32) ((rb s).take s.size)=c at*
   have hx:=WC c
   go_wp2
   go_ret
   exact⟨by rw[HT.out,BitVec.toNat_xor];rfl,rfl⟩
def vF (s:ByteArray) (k:Int):Int:=if k<1∨4<k then-1 else(fG.sum (rb s):Int)%k
theorem aef (s:ByteArray) (k:Int) (w:World) (hs:s.size≤9223372036854775807):Calls Tryz.prog 10 #[.string s, .int .i64 k] w fun e w'=>e= .returned (.int .i64 (vF s k))∧w'=w:=by
 have HH:=ah (aee s w hs)
 unfold vF
 by_cases h1:k<1
 ·rw[if_pos (.inl h1)]
  go_enter Tryz.func10,Tryz.ntmps10
  go_wp2
  go_ret
  exact⟨rfl,rfl⟩
 by_cases h4:4<k
 ·rw[if_pos (.inr h4)]
  go_enter Tryz.func10,Tryz.ntmps10
  go_wp2
  go_ret
  exact⟨rfl,rfl⟩
 rw[if_neg (by omega)]
 have hlt:=fG.sum_lt (rb s)
 generalize fG.sum (rb s)=c at*
 have hw:IntKind.u32.wrap k=k:=by rcases(by omega:k=1∨k=2∨k=3∨k=4)with rfl|rfl|rfl|rfl<;>rfl
 have hm0:0≤(c:Int)%k:=Int.emod_nonneg _ (by omega)
 have hm1:(c:Int)%k<k:=Int.emod_lt_of_pos _ (by omega)
 go_enter Tryz.func10,Tryz.ntmps10
 go_wp2_with(go_at_call 34;refine HH.out.mono ?_;rintro e w1 ⟨rfl,rfl⟩)
 go_ret
 exact⟨rfl,rfl⟩
theorem aeg:(Tryz.prog.info? 5).map (fun i=>(i.zero,i.size,i.bytes))=some (some (.int .u8 0),1,1):=by kernel_rfl
theorem aeh (s:ByteArray) (w:World) (hs:s.size≤100000):Calls Tryz.prog 36 #[.string s] w fun e w'=>∃v,e= .returned v∧OwnAt w w' 5 1 v (rb s).length (bV (rb s)):=by
 obtain⟨i0,hi,hz0,hz1,hz2⟩:=info_parts aeg
 have HL:=ah (Qd s)
 have HB:=ah (fun j=>WG s (j:=j))
 go_enter Tryz.func36,Tryz.ntmps36
 go_wp2
 go_loopw [3,7] (fun v i W=>∃j:Nat,j≤s.size∧i= .int .i64 j∧OwnAt w W 5 1 v j (bV ((rb s).take j))) (fun _ i _=>s.size-(intOf i).toNat)
 case atStart=>exact⟨0,Nat.zero_le _,rfl,OwnAt.nil (aj.refl _ _) _ _⟩
 case round=>
  obtain⟨j,hj,rfl,ho⟩:=hrel
  obtain⟨av,cv,rfl⟩:=ho.shape
  have HO:=ah ho;clear ho
  by_cases hlt:j<s.size
  ·have HX:=ah (HB.out j hlt)
   have HT:=ah (show bV ((rb s).take (j+1))=bV ((rb s).take j)++ [.int .u8 (s[s.size-1-j].toNat:Int)] by rw[take_succ 0 (by rw[HL.out];exact hlt),aaz,HX.out];rfl)
   go_wp2_with(at_builtin;refine kT w _ [.int .u8 (s[s.size-1-j].toNat:Int)] rfl (.tmp 10) (.tmp 18) 76 rfl 5 i0 _ 1 1 Tryz.underlying76 hi hz0 hz1 hz2 (by decide) (by decide) _ _ _ HO.out 1 1 rfl rfl rfl (by simp[Value.oneCell']) (by simp only[maxLen];omega) (by omega) ?_;intro ad cc w5 dP;have OW:=ah dP;clear dP)
   go_roundw
   case rel=>exact⟨j+1,by omega,by go_num,by rw[HT.out];exact OW.out⟩
   case measure=>simp[intOf];omega
  ·obtain rfl:j=s.size:=by omega
   have HT:=ah (show(rb s).take s.size=rb s from List.take_of_length_le (by rw[HL.out];exact Nat.le_refl _))
   rw[HT.out]at HO
   go_wp2
   go_ret
   exact⟨_,rfl,by rw[HL.out];exact HO.out⟩
theorem aei (s:ByteArray) (k:Int) (w:World) (hs:s.size≤100000):Calls Tryz.prog 11 #[.string s, .int .i64 k] w fun e w'=>e= .returned (.int .i64 (vF s k))∧aj aF w w':=by
 have HH:=ah (aeh s w hs)
 unfold vF
 by_cases h1:k<1
 ·rw[if_pos (.inl h1)]
  go_enter Tryz.func11,Tryz.ntmps11
  go_wp2
  go_ret
  exact⟨rfl,aj.refl _ _⟩
 by_cases h4:4<k
 ·rw[if_pos (.inr h4)]
  go_enter Tryz.func11,Tryz.ntmps11
  go_wp2
  go_ret
  exact⟨rfl,aj.refl _ _⟩
 rw[if_neg (by omega)]
 have hlt:=fG.sum_lt (rb s)
 have HC:=ah (fun v W h=>aeb (rb s) v W h)
 generalize fG.sum (rb s)=c at*
 have hw:IntKind.u32.wrap k=k:=by rcases(by omega:k=1∨k=2∨k=3∨k=4)with rfl|rfl|rfl|rfl<;>rfl
 have hm0:0≤(c:Int)%k:=Int.emod_nonneg _ (by omega)
 have hm1:(c:Int)%k<k:=Int.emod_lt_of_pos _ (by omega)
 go_enter Tryz.func11,Tryz.ntmps11
 go_wp2_with(first
  |(go_at_call 36;refine HH.out.mono ?_;rintro e w1 ⟨v1,rfl,ho⟩;obtain⟨a1,c1,rfl⟩:=ho.shape;have HO:=ah ho;clear ho)
  |(go_at_call 35;refine(HC.out _ _ HO.out.rd).mono ?_;rintro e w2 ⟨rfl,rfl⟩))
 go_ret
 exact⟨rfl,HO.out.aI⟩
open Go.RowKit
theorem Ey (b n c:Nat) (a:Option Addr) (k:Int) (w:World) (h:w.cell? ⟨b,0,none⟩=some (.slice a n c)):
 Calls Tryz.prog 39 #[.pointer (some ⟨b,0,none⟩), .int .i64 k] w fun e w'=>e= .returned (.bool (decide (0≤k∧k<n)))∧w'=w:=by
 by_cases h1:0≤k
 ·by_cases h2:k<n
  ·go_enter Tryz.func39,Tryz.ntmps39
   go_wp2
   go_ret
   exact⟨by simp[h1,h2],rfl⟩
  ·have h3:¬(k<(n:Int)):=h2
   go_enter Tryz.func39,Tryz.ntmps39
   go_wp2
   go_ret
   exact⟨by simp[h1,h2],rfl⟩
 ·go_enter Tryz.func39,Tryz.ntmps39
  go_wp2
  go_ret
  exact⟨by simp[h1];omega,rfl⟩
theorem Qe {p q:ByteArray→Bool}:∀ {ks:aT},(∀k∈ks.keys,p k=q k)→bF p ks=bF q ks
 | .nil,_=>rfl
 | .cons key es sub rest,h=>by
   have h1:=h key (List.mem_cons_self ..)
   have ih:=Qe (p:=p) (q:=q) (ks:=rest) fun k hk=>h k (List.mem_cons_of_mem _ hk)
   simp only[bF,h1,ih]
theorem WH:∀ {ks:aT},ks.Ok→∀s∈ks.keys,s.size≤9223372036854775807
 | .nil,_,_,hs=>by cases hs
 | .cons key es sub rest,h,s,hs=>by
   rcases List.mem_cons.1 hs with rfl|hs
   ·exact h.1
   ·exact WH h.2.2.2.2 s hs
def Hr (w:World) (p:ByteArray→Bool) (ks:aT) (c:bD) (e:Ending) (w':World):Prop:=
 ∃kv cv,e= .returned (.agg #[.slice none 0 0,kv,cv])∧bZ (fun b=>w.heap.size≤b) w' (.slice none 0 0) kv [] (bF p ks)∧OwnAt w w' 92 3 cv c.length (dY c)
def bQ (n:Nat) (k:Int) (s:ByteArray):Bool:=decide (vF s n=k)
theorem WI {p:ByteArray→Bool} {l:List ByteArray} {k:Nat} (hk:k<l.length):((l.take (k+1)).filter p).map Value.string=((l.take k).filter p).map .string++(if p (l.getD k ByteArray.empty)=true then [.string (l.getD k ByteArray.empty)]else []):=by
 rw[List.take_succ_eq_append_getElem hk,List.filter_append,List.map_append,getD_at _ hk]
 congr 1
 rw[List.filter_cons]
 split<;>simp
theorem Qg (Q:Nat→Prop) (es:List aQ) (ks:aT) (c:bD) (w:World) (ev kv cv:Value) (h:dU Q w ev kv cv es ks c) (hok:iD es ks c) (hr:jA es ks c)
 (b n cp:Nat) (a:Option Addr) (k:Int) (hb:w.cell? ⟨b,0,none⟩=some (.slice a n cp)):
 Calls Tryz.prog 41 #[.pointer (some ⟨b,0,none⟩), .agg #[ev,kv,cv], .int .i64 k] w (Hr w (bQ n k) ks c):=by
 obtain⟨i0,hi,hz0,hz1,hz2⟩:=info_parts Pv
 obtain⟨j0,hj,hy0,hy1,hy2⟩:=info_parts BO
 have Ez:=ah (fun W (f:aj aF w W) keys vk h1 h2=>adO Q keys vk es ks c W ev kv cv (h.aS f) hok hr h1 h2)
 have HL:=ah (show ks.len≤2000 by have:=oQ ks;have:=hok.small;unfold sizeT at this;omega)
 have iZ:=ah ks.sH
 obtain⟨os,hk,hf⟩:=h.tree.kids
 have Ci:=ah (En hf)
 have iT:=ah (fun W (f:aj aF w W)=>hk.rd.aS f)
 have dJ:=ah (fun s (hs:s∈ks.keys)=>WH hok.tree.ks s hs)
 have HB:=ah (fun W (f:aj aF w W)=>f.cell' hb id)
 obtain⟨a0,c0,a1,c1,a2,c2,rfl,rfl,rfl⟩:=h.shape
 clear h hok hr hk hf hb
 generalize jG ks os=xs at*
 generalize es.length=n0 at*
 generalize hkn:ks.len=m at*
 have u_:=ah hkn;clear hkn
 generalize c.length=n2 at*
 obtain⟨WB,lG⟩:∃WB,WB=(w.alloc (.cells #[.slice a0 n0 c0, .slice a1 m c1, .slice a2 n2 c2] 32)).alloc (.cells #[.slice none 0 0, .slice none 0 0, .slice none 0 0] 32):=⟨_,rfl⟩
 have b_:=ah (show aj aF w WB by rw[lG];exact(aj.alloc _ _ _).alloc1)
 have HB0:=ah (show WB.heap[w.heap.size]?=some (.cells #[.slice a0 n0 c0, .slice a1 m c1, .slice a2 n2 c2] 32 (0,0)) by rw[lG];exact((aj.refl aF _).alloc1 (o:= .cells #[.slice none 0 0, .slice none 0 0, .slice none 0 0] 32)).blk (heap_alloc_new w _) id)
 have HB1:=ah (show WB.heap[w.heap.size+1]?=some (.cells #[.slice none 0 0, .slice none 0 0, .slice none 0 0] 32 (0,0)) by rw[lG];exact(lY w _ _ _).1)
 have eu:=ah lG
 clear lG
 have hm2:=HL.out
 go_enter Tryz.func41,Tryz.ntmps41
 go_wp2
 go_loopw [7,16] (fun kv iv W=>∃i:Nat,i≤m∧iv= .int .i64 i∧OwnAt WB W 9 1 kv ((ks.keys.take i).filter (bQ n k)).length (((ks.keys.take i).filter (bQ n k)).map .string)) (fun _ iv _=>m-(intOf iv).toNat)
 case atStart=>exact⟨0,by omega,rfl,by rw[←eu.out];exact OwnAt.nil (aj.refl _ _) _ _⟩
 case round=>
  obtain⟨i,hi1,rfl,ho⟩:=hrel
  obtain⟨av,cv,rfl⟩:=ho.shape
  have HO:=ah ho;clear ho
  have eX:=ah (b_.out.aH HO.out.aI)
  by_cases hlt:i<m
  ·have hil:i<ks.keys.length:=by rw[iZ.out];exact hlt
   obtain⟨b0,m0,d0,b1,m1,d1,q0,q1,q2⟩:=Ci.out i hil
   have hsz:=dJ.out _ (getD_mem ByteArray.empty hil)
   have pX:=ah (fun W=>aef (ks.keys.getD i ByteArray.empty) n W hsz)
   have HST:=ah (WI (p:=bQ n k) hil)
   have hfl:((ks.keys.take i).filter (bQ n k)).length≤2000:=by have:=List.length_filter_le (bQ n k) (ks.keys.take i);rw[List.length_take]at this;omega
   rcases Rd.shape (iT.out _ eX.out)with⟨ad,he,h0⟩|⟨g,off,cc,he,hmax⟩
   ·omega
   injection he with e1 e2 e3
   subst e1 e3
   clear e2 hil hsz
   have r:=iT.out _ eX.out
   replace q0:=r.cell _ _ q0
   replace q1:wr.cell? ⟨g,off+i*3+1,none⟩=some (.slice b0 m0 d0):=r.cell (i*3+1) _ q1
   replace q2:wr.cell? ⟨g,off+i*3+2,none⟩=some (.slice b1 m1 d1):=r.cell (i*3+2) _ q2
   clear r
   generalize ks.keys.getD i ByteArray.empty=key at*
   generalize ((ks.keys.take i).filter (bQ n k))=l at*
   have Pz:(i:Int)<(m:Int):=by omega
   have gK:=ah (eX.out.alloc1 (o:= .cells #[.string key, .slice b0 m0 d0, .slice b1 m1 d1] 52))
   have dw:=ah (HO.out.keep (aj.alloc aF wr (.cells #[.string key, .slice b0 m0 d0, .slice b1 m1 d1] 52)))
   have HX:=ah (heap_alloc_new wr (.cells #[.string key, .slice b0 m0 d0, .slice b1 m1 d1] 52))
   obtain⟨α,hne,K,hK1,hK0,hK2⟩:=worlds (wr.alloc (.cells #[.string key, .slice b0 m0 d0, .slice b1 m1 d1] 52))
   have dS:=ah hK1
   have k0:∀s,(K s).cell? ⟨wr.heap.size,0,none⟩=some (.string key):=fun s=>(hK1 s).cell' (aG HX.out 0 rfl) id
   have k1:∀s,(K s).cell? ⟨b,0,none⟩=some (.slice a n cp):=fun s=>HB.out _ (gK.out.aH (hK1 s))
   clear hK1
   go_wp2_with fail
   refine dX K (by kernel_rfl) (by kernel_rfl) hK0 ?_
   repeat(go_big_quiet_step ((go_at_call 10;exact Calls.bT hK2 ((pX.out _).mono fun _ _ h=>⟨h.1,h.2▸aj.refl _ _⟩))))
   refine wpQuiet_nil ?_
   intro w' hw'
   obtain⟨s,rfl⟩:=hw'
   have y0:=k0 s
   have mV:=ah (dw.out.keep (dS.out s))
   clear k0 k1 hK0 hK2
   by_cases hd:vF key n=k
   ·have hst:=HST.out
    rw[if_pos (by simp[bQ,hd])]at hst
    have HS2:=ah hst;clear hst HST
    go_wp2_with(at_builtin;refine kT WB _ [.string key] rfl (.tmp 30) (.tmp 33) 101 rfl 9 i0 _ 1 16 Tryz.underlying101 hi hz0 hz1 hz2 (by decide) (by decide) _ _ _ mV.out 1 1 rfl (by simp[Act.eval]) rfl (by simp[Value.oneCell']) (by simp only[maxLen];omega) (by omega) ?_;intro ad cc w5 dP;have OW:=ah dP;clear dP)
    go_roundw
    case rel=>exact⟨i+1,by omega,by go_num,by have hl:=congrArg List.length HS2.out;simp only[List.length_map,List.length_append,List.length_cons,List.length_nil]at hl;rw[HS2.out,hl];exact OW.out⟩
    case measure=>simp[intOf];omega
   ·have hst:=HST.out
    rw[if_neg (by simp[bQ,hd]),List.append_nil]at hst
    have HS2:=ah hst;clear hst HST
    go_wp2
    go_roundw
    case rel=>exact⟨i+1,by omega,by go_num,by have hl:=congrArg List.length HS2.out;simp only[List.length_map]at hl;rw[HS2.out,hl];exact mV.out⟩
    case measure=>simp[intOf];omega
  ·obtain rfl:i=m:=by omega
   have hkl:ks.keys.take i=ks.keys:=List.take_of_length_le (by rw[iZ.out];exact Nat.le_refl _)
   rw[hkl]at HO⊢
   have Qh:=ah (Ez.out wr eX.out (ks.keys.filter (bQ n k)) _ HO.out.rd (by have:=List.length_filter_le (bQ n k) ks.keys;have:=iZ.out;omega))
   have hfk:bF (fun s=>tf (s∈ks.keys.filter (bQ n k))) ks=bF (bQ n k) ks:=Qe fun s hs=>by
    cases hq:bQ n k s
    ·exact eH fun h=>by simp[hq]at h
    ·exact gu (List.mem_filter.2 ⟨hs,hq⟩)
   unfold Wq at Qh
   rw[hfk]at Qh
   have q0:=aG (HO.out.aI.blk HB0.out id) 0 rfl
   have q1:=aG (HO.out.aI.blk HB0.out id) 1 rfl
   have q2:=aG (HO.out.aI.blk HB0.out id) 2 rfl
   have hl0:=World.block_lt_of_cell? _ _ q0
   have jr:=ah (HO.out.aI.blk HB1.out id)
   clear hkl hfk HO Ci iT dJ Ez iZ
   go_wp2_with(go_at_call 71;refine Qh.out.mono ?_;rintro e w5 ⟨kv5,cv5,rfl,hta,lu⟩;obtain⟨uy,kH,-⟩:=hta.kids;obtain⟨a5,c5,rfl⟩:=kH.rd.sl;obtain⟨a6,c6,rfl⟩:=lu.shape;clear kH q0 q1 q2 hl0;have hblk:=(lu.aI.alloc1 (o:= .cells #[.slice none 0 0, .slice a5 (bF (bQ n k) ks).len c5, .slice a6 c.length c6] 32)).blk jr.out id;have z0:=aG hblk 0 rfl;have z1:=aG hblk 1 rfl;have z2:=aG hblk 2 rfl;have g0:=aW hblk 0;have g1:=aW hblk 1;have g2:=aW hblk 2;have hbl:=lt_of_block hblk;have kF:=ah hta;clear hta;have lH:=ah lu;clear lu;have HB5:=ah hblk;clear hblk)
   have WJ:=lt_of_block jr.out
   have hsw:=eX.out.size
   have hs5:=lH.out.aI.size
   have hf5:=(eX.out.aH lH.out.aI).alloc1 (o:= .cells #[.slice none 0 0, .slice a5 (bF (bQ n k) ks).len c5, .slice a6 c.length c6] 32)
   have HR3:=ah (BP HB5.out hf5 (by omega) (.slice none 0 0) (.slice a5 (bF (bQ n k) ks).len c5) (.slice a6 c.length c6))
   have HP:=ah ((kF.out.aS (aj.alloc aF w5 (.cells #[.slice none 0 0, .slice a5 (bF (bQ n k) ks).len c5, .slice a6 c.length c6] 32))).turn (Q':=fun b=>w.heap.size≤b) fun b hb hQ=>⟨HR3.out.2.2 b (by omega),by omega⟩)
   have hnew:=lH.out.new
   have um:iH (fun b=>b=w.heap.size+1) w (w5.alloc (.cells #[.slice none 0 0, .slice a5 (bF (bQ n k) ks).len c5, .slice a6 c.length c6] 32)) 92 3 (.slice a6 c.length c6) c.length (dY c):=⟨(lH.out.keep (aj.alloc _ _ _)).base eX.out,fun b hb hn=>by have:=hnew b hb;omega⟩
   have hown:=(((um.set (p:=⟨w.heap.size+1,0,none⟩) rfl (Nat.le_succ _) (.slice none 0 0)).set (p:=⟨w.heap.size+1,1,none⟩) rfl (Nat.le_succ _) (.slice a5 (bF (bQ n k) ks).len c5)).set (p:=⟨w.heap.size+1,2,none⟩) rfl (Nat.le_succ _) (.slice a6 c.length c6)).at_
   clear z0 z1 z2
   have z0:=aG HR3.out.1 0 rfl
   have z1:=aG HR3.out.1 1 rfl
   have z2:=aG HR3.out.1 2 rfl
   exact bodyPost_ret (v:= .agg #[.slice none 0 0, .slice a5 (bF (bQ n k) ks).len c5, .slice a6 c.length c6]) (by simp[results,Tryz.results41,go_sem,z0,z1,z2]) rfl ⟨_,_,rfl,HP.out,hown⟩
end Go.Proofs.YtlhmbkjdfjoilaaGreat
