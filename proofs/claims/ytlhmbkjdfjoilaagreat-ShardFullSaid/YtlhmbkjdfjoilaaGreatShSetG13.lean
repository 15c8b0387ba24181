/- Words for the law ShSet: Only3, Only4, Only5, Varint, CrcP, Out, Crc, Route. -/
import Derived.Test.YtlhmbkjdfjoilaaGreatShSetG0
import Derived.Test.YtlhmbkjdfjoilaaGreatShSetG1
import Derived.Test.YtlhmbkjdfjoilaaGreatShSetG3
import Derived.Test.YtlhmbkjdfjoilaaGreatShSetG10
import Derived.Test.YtlhmbkjdfjoilaaGreatShSetG12
import Derived.WalkKit
import Derived.Test.YtlhmbkjdfjoilaaGreatProg
import Derived.Deep.AppendSrc
import Derived.Outline
set_option linter.unusedSimpArgs false
set_option linter.unusedVariables false
set_option maxHeartbeats 32000000
set_option maxRecDepth 1000000
namespace Go.Proofs.YtlhmbkjdfjoilaaGreat
open Go.RowKit
theorem RU {w:World} {g o j:Nat} {vs:List Value} {cur:Array Value} {e:TypeId} {f:Nat×Nat} (h:w.heap[g]?=some (.cells cur e f)) (hl:o+vs.length≤cur.size) (hj:j<o) {u:Value} (hu:w.cell? ⟨g,j,none⟩=some u):(w.setCells g o vs).cell? ⟨g,j,none⟩=some u:=by
 have h2:=vZ g e f vs o w cur h hl
 refine aI h2 j ?_
 have hc:cur[j]?=some u:=by
  have:=hu
  simp only[World.cell?,h]at this
  simpa using this
 rw[←Array.getElem?_toList]at hc⊢
 simp only[List.append_assoc]
 rw[List.getElem?_append_left (by rw[List.length_take,Array.length_toList];omega),List.getElem?_take_of_lt hj]
 exact hc
theorem RV (keys:List ByteArray) (l:List bg) (b:Nat) (w0 w:World) (v vk:Value) (ho:OwnAt w0 w 52 3 v l.length (l.flatMap bg.cells)) (hs:∀q∈l,q.shaped) (hl:l.length≤100000) (hk:Rd w0 vk keys.length (keys.map .string)) (hkl:keys.length≤1000000) (hb:w0.cell? ⟨b,0,none⟩=some vk):
 Calls Tryz.prog 131 #[v, .func (.func 132) #[] #[.pointer (some ⟨b,0,none⟩)]] w fun e w'=>∃a c,e= .returned (.slice a (l.filter fun q=> !fD keys q).length c)∧aj (dh v) w w'∧
  Rd w' (.slice a (l.filter fun q=> !fD keys q).length c) (l.filter fun q=> !fD keys q).length ((l.filter fun q=> !fD keys q).flatMap bg.cells)∧∀k,(Value.slice a (l.filter fun q=> !fD keys q).length c).ownBlock=some k→v.ownBlock=some k:=by
 have eg:∀args w,(callFunc 132 args).run Tryz.prog w= .ok (.enter 132 args) w:=enters_of Tryz.func132 (by kernel_rfl) rfl
 have HI:=ah (RS keys l b w v vk ho.rd hs hl (hk.aN ho.aJ) hkl (ho.aJ.cell' hb id))
 have HP:=ah (fun key a n c a' n' c' W (f:aj au w0 W)=>Jr keys key a a' n c n' c' b vk W (hk.aN f) hkl (f.cell' hb id));clear hb hk
 cases hA:l.any (fD keys)with
 |false=>
  rw[hA]at HI
  have hall:(l.filter fun q=> !fD keys q)=l:=by
   rw[List.filter_eq_self]
   intro q hq
   have:=List.any_eq_false.1 hA q hq
   simpa using this
  rw[hall]
  clear hall hA
  obtain⟨a,c,rfl⟩:=ho.shape
  have HO:=ah ho;clear ho
  generalize l.length=n at*
  go_enter Tryz.func131,Tryz.ntmps131
  go_wp2_with(go_at_call 168;refine HI.out.mono ?_;rintro e w1 ⟨hw1,-,hy⟩;have he:=hy rfl;subst he;have HW1:=ah hw1;clear hw1 hy)
  go_ret
  exact⟨a,c,rfl,HW1.out.mono fun _ _ h=>h.elim,HO.out.rd.aN HW1.out,fun k hk=>hk⟩
 |true=>
  rw[hA]at HI
  have hn:0<l.length:=by
   cases l with
   |nil=>simp at hA
   |cons q l=>simp
  obtain⟨g,c,rfl,-⟩:=ho.row hn
  have HO:=ah ho;clear ho
  have rH:=ah hs;clear hs
  clear hA
  generalize hnl:l.length=n at*
  have HN:=ah hnl;clear hnl
  have hmx:(n:Int)≤9223372036854775807:=by omega
  go_enter Tryz.func131,Tryz.ntmps131
  go_wp2_with(go_at_call 168;refine HI.out.mono ?_;rintro e w1 ⟨hw1,hy,-⟩;obtain⟨k0,he,hk0,hko,hkt⟩:=hy rfl;subst he;have HW1:=ah hw1;clear hw1 hy;have hkm:((k0:Int)==-1)=false:=(by rw[beq_eq_false_iff_ne];omega))
  have hd0:rJ keys l w0 w w1 g n c k0 (k0+1) l:=by
   refine⟨HO.out.keep HW1.out,HW1.out.mono fun _ _ h=>h.elim,HN.out,by omega,?_,rfl⟩
   rw[DW (by rw[HN.out];exact hk0),hko]
   simp only[Bool.not_true,Bool.false_eq_true,if_false,List.append_nil]
   rw[List.filter_eq_self.2]
   intro q hq
   have:=List.any_eq_false.1 hkt q hq
   simpa using this
  have HD0:=ah hd0;clear hd0 hko hkt
  go_loopw [5,6] (fun iv jv W=>∃(i j:Nat) (m:List bg),iv= .int .i64 i∧jv= .int .i64 j∧j≤n∧rJ keys l w0 w W g n c i j m) (fun _ jv _=>n-(intOf jv).toNat)
  case atStart=>exact⟨k0,k0+1,l,rfl,by go_num,by omega,HD0.out⟩
  case round=>
   obtain⟨i,j,m,rfl,rfl,hj,hd⟩:=hrel
   have HD:=ah hd;clear hd
   have hij:=HD.out.lt
   by_cases hlt:j<n
   ·have hjl:j<l.length:=by rw[HN.out];exact hlt
    have hjm:j<m.length:=by rw[HD.out.len];exact hlt
    have him:i<m.length:=by rw[HD.out.len];omega
    have hsame:m.getD j default=l.getD j default:=by
     have:=HD.out.rest
     rw[getD_at default hjl,getD_at default hjm]
     have h1:(m.drop j)[0]?=(l.drop j)[0]?:=by rw[this]
     rw[List.getElem?_drop,List.getElem?_drop,Nat.add_zero,List.getElem?_eq_getElem hjm,List.getElem?_eq_getElem hjl]at h1
     exact Option.some.inj h1
    obtain⟨g0,g1,g2⟩:=xO m j hjm
    rw[hsame]at g0 g1 g2
    obtain⟨⟨a0,n0,c0,e0⟩,a1,n1,c1,e1⟩:=rH.out _ (getD_mem default hjl)
    rw[e0]at g1
    rw[e1]at g2
    obtain⟨p0,p1,p2⟩:=xO m i him
    obtain⟨hg0,xP,hnc,hcell,hfree⟩:=HD.out.own.at0 hn
    have q0:=hcell _ _ g0
    have q1:=hcell _ _ g1
    have q2:=hcell _ _ g2
    have Dj:=ah (fun W (f:aj au wr W)=>(show(W.cell? ⟨g,i*3,none⟩=_∧W.cell? ⟨g,i*3+1,none⟩=_∧W.cell? ⟨g,i*3+2,none⟩=_)∧(W.frozen? ⟨g,i*3,none⟩=false∧W.frozen? ⟨g,i*3+1,none⟩=false∧W.frozen? ⟨g,i*3+2,none⟩=false)∧g<W.heap.size from
     ⟨⟨f.cell' (hcell _ _ p0) id,f.cell' (hcell _ _ p1) id,f.cell' (hcell _ _ p2) id⟩,⟨(f.frozen xP id).trans (hfree _),(f.frozen xP id).trans (hfree _),(f.frozen xP id).trans (hfree _)⟩,Nat.lt_of_lt_of_le xP f.size⟩))
    clear g0 g1 g2 p0 p1 p2 hcell hfree hjl hjm him hsame
    have HC:=ah (HP.out (l.getD j default).key a0 n0 c0 a1 n1 c1)
    have hpe:(!tf ((l.getD j default).key∈keys))=fD keys (l.getD j default):=rfl
    rw[hpe]at HC
    clear hpe
    have rM:=ah (fun W f ho=>HD.out.take (W':=W) hlt HN.out f ho)
    rw[e0,e1]at rM
    have DX:=ah (fun W f ho=>HD.out.skip (W':=W) hlt HN.out f ho)
    clear e0 e1
    generalize (l.getD j default).key=x0 at*
    generalize (m.getD i default).key=z0 at*
    generalize (m.getD i default).ev=z1 at*
    generalize (m.getD i default).kv=z2 at*
    have hji:(j:Int)<(n:Int):=by omega
    have hii:(i:Int)<(n:Int):=by omega
    have hfb:=aj.alloc au wr (.cells #[.string x0, .slice a0 n0 c0, .slice a1 n1 c1] 52)
    have hbx:=heap_alloc_new wr (.cells #[.string x0, .slice a0 n0 c0, .slice a1 n1 c1] 52)
    have bG:=ah hfb;clear hfb
    have bD:=ah hbx;clear hbx
    cases hy:fD keys (l.getD j default)with
    |true=>
     rw[hy]at HC
     have RX:=ah (fun W f=>DX.out W f hy)
     clear hy rM DX
     go_wp2_with(go_at_call 132;refine(HC.out _ (HD.out.own.aJ.aF bG.out)).mono ?_;rintro e w2 ⟨rfl,hw2⟩;have HW2:=ah (bG.out.aF hw2);clear hw2)
     go_roundw
     case rel=>exact⟨i,j+1,m,rfl,by go_num,by omega,RX.out _ HW2.out⟩
     case measure=>simp[intOf];omega
    |false=>
     rw[hy]at HC
     have RY:=ah (fun W f=>rM.out W f hy)
     clear hy rM DX
     go_wp2_with(go_at_call 132;refine(HC.out _ (HD.out.own.aJ.aF bG.out)).mono ?_;rintro e w2 ⟨rfl,hw2⟩;have b0:=aI (hw2.blk bD.out id) 0 rfl;have b1:=aI (hw2.blk bD.out id) 1 rfl;have b2:=aI (hw2.blk bD.out id) 2 rfl;have HW2:=ah (bG.out.aF hw2);clear hw2 q0 q1 q2;obtain⟨⟨s0,s1,s2⟩,⟨f0,f1,f2⟩,hgl⟩:=Dj.out _ HW2.out)
     go_roundw
     case rel=>exact⟨i+1,j+1,_,by go_num,by go_num,by omega,RY.out _ HW2.out⟩
     case measure=>simp[intOf];omega
   ·obtain rfl:n=j:=by omega
    have hf:=HD.out.done
    rw[show l.take n=l from List.take_of_length_le (by rw[HN.out];exact Nat.le_refl _)]at hf
    have hfl:(l.filter fun q=> !fD keys q).length=i:=by rw[←hf,List.length_take,HD.out.len];omega
    have xQ:=ah hfl
    obtain⟨hg0,xP,hnc,hcell,hfree⟩:=HD.out.own.at0 hn
    have hml:(m.flatMap bg.cells).length=n*3:=by rw[Dk,HD.out.len]
    obtain⟨Z,hZ,hcl⟩:=RQ wr g (i*3) (n-i) (c-i) (by omega) (fun t ht=>by
     have hi:i*3+t<(m.flatMap bg.cells).length:=by omega
     rw[hcell _ _ (List.getElem?_eq_getElem hi)];rfl) (fun t ht=>hfree _)
    have hrd:Rd (wr.setCells g (i*3) Z) (.slice (some ⟨g,0,none⟩) i c) i ((l.filter fun q=> !fD keys q).flatMap bg.cells):=by
     rcases HD.out.own.own.2 with⟨hnil,_⟩|⟨g',cap,cur,hv,_,hbk,h1,h2,h3,_⟩
     ·cases hnil
     ·cases hv
      refine .inr ⟨g,0,c,rfl,by omega,h2,fun j u hu=>?_⟩
      rw[←hf,RN,List.getElem?_take]at hu
      split at hu
      ·next hjl=>
       rw[Nat.zero_add]
       exact RU hbk (by rw[hZ,h3];omega) hjl (hcell _ _ hu)
      ·cases hu
    have DY:=ah hrd;clear hrd hml hcell hfree
    have RZ:=ah (HD.out.aJ.trans (aj.setCells (S:=dh (.slice (some ⟨g,0,none⟩) n c)) g wr (.inl rfl) Z (i*3)) fun _ _ h=>h)
    have hic:i<c:=by omega
    have hcx:(c:Int)≤9223372036854775807:=by
     have hrd:=HD.out.own.rd
     rcases hrd with⟨ad,he,h0,_⟩|⟨b',off,c',he,_,hm,_⟩
     ·omega
     ·cases he;simp only[maxLen]at hm;omega
    clear hf hfl
    go_wp2
    go_ret
    exact⟨some ⟨g,0,none⟩,c,by rw[xQ.out];rfl,RZ.out,by rw[xQ.out];exact DY.out,fun k hk=>hk⟩
open Go.RowKit
theorem aj.both {S:Nat→Prop} {w w':World} (h:aj S w w') (p:Addr) (v:Value):aj S (w.setCell p v) (w'.setCell p v):=
 ⟨h.os,h.tape,h.output,by simpa[World.setCell]using h.size,fun k hk hn=>by
   have:=h.block k (by simpa[World.setCell]using hk) hn
   simp only[World.setCell,Array.getElem?_modify,this]⟩
theorem OwnAt.both {w w':World} {e:TypeId} {size:Nat} {v:Value} {n:Nat} {xs:List Value} (h:OwnAt w w' e size v n xs) (p:Addr) (hp:p.block<w.heap.size) (u:Value):OwnAt (w.setCell p u) (w'.setCell p u) e size v n xs:=
 ⟨(aj.setCell (S:=fun k=>k=p.block) w' (.inl rfl) u).owns h.own fun k hk e=>by have:=h.new k hk;omega,fun k hk=>by simpa[World.setCell]using h.new k hk,h.aJ.both p u⟩
def Ju (w:World) (keys:List ByteArray) (ks:aH) (e:Ending) (w':World):Prop:=
 ∃kv',e= .returned (.agg #[.slice none 0 0,kv'])∧bC (fun b=>w.heap.size≤b) w' (.slice none 0 0) kv' [] (bF (fun k=>tf (k∈keys)) ks)∧aj au w w'
theorem R_ {w w':World} {keys:List ByteArray} {l:List bg} {v v':Value} (h:∀q∈l,bC (fun b=>w.heap.size≤b∧v.ownBlock≠some b) w' q.ev q.kv q.es q.sub)
 (hr:Rd w' v' (l.filter fun q=> !fD keys q).length ((l.filter fun q=> !fD keys q).flatMap bg.cells)) (hn:∀k,v'.ownBlock=some k→w.heap.size≤k):
 bC (fun b=>w.heap.size≤b) w' (.slice none 0 0) v' [] (bF (fun k=>tf (k∈keys)) (mkK l)):=by
 have he:(l.filter fun q=>tf (q.key∈keys))=l.filter fun q=> !fD keys q:=by simp[fD]
 rw[Js,he]
 refine⟨⟨.inl ⟨none,rfl,rfl,rfl⟩,fun h=>absurd rfl h⟩,oV (l.filter fun q=> !fD keys q),⟨?_,fun _ k hk=>hn k hk⟩,w_ fun q hq=>(h q (List.mem_filter.1 hq).1).turn fun b hb hQ=>⟨rfl,hQ.1⟩⟩
 rw[uY,oW]
 exact hr
theorem Si (Q:Nat→Prop) (keys:List ByteArray) (es:List aG) (ks:aH) (w:World) (ev kv vk:Value) (ht:bC Q w ev kv es ks) (hok:iE es ks) (hsz:sizeT es ks≤4000) (hr:aY 5 es ks=true)
 (hk:Rd w vk keys.length (keys.map .string)) (hkl:keys.length≤1000000):
 Calls Tryz.prog 94 #[.agg #[ev,kv],vk] w (Ju w keys ks):=by
 obtain⟨ae,ce,rfl⟩:=ht.ents.rd.sl
 obtain⟨os,hkr,dU⟩:=ht.kids
 obtain⟨ak,ck,rfl⟩:=hkr.rd.sl
 obtain⟨ay,cy,rfl⟩:=hk.sl
 have HR:=ah (fun W (f:aj au w W)=>hr▸xq Q es ks W _ _ (ht.aN f) hok)
 have HC:=ah (fun W (f:aj au w W)=>IU Q _ es ks W _ _ (Nat.lt_succ_self _) (ht.aN f) (by omega))
 have HK:=ah (fun W (f:aj au w W)=>hk.aN f)
 have HL:=ah (show ks.len≤4000 by have:=kV ks;unfold sizeT at hsz;omega)
 have f_:=ah hkl
 clear hkr dU ht hok hsz hr hk hkl
 generalize es.length=n at*
 generalize hkn:ks.len=m at*
 have xR:=ah hkn;clear hkn
 generalize hyn:keys.length=y at*
 have DZ:=ah hyn;clear hyn
 obtain⟨WB,iG⟩:∃WB,WB=((w.alloc (.cells #[.slice ae n ce, .slice ak m ck] 28)).alloc (.cells #[.slice ay y cy] 101)).alloc (.cells #[.slice none 0 0, .slice none 0 0] 28):=⟨_,rfl⟩
 have hfb:aj au w WB:=by rw[iG];exact((aj.alloc _ _ _).alloc1).alloc1
 have hb0:WB.heap[w.heap.size]?=some (.cells #[.slice ae n ce, .slice ak m ck] 28 (0,0)):=by
  rw[iG]
  exact(((aj.refl au _).alloc1 (o:= .cells #[.slice ay y cy] 101)).alloc1 (o:= .cells #[.slice none 0 0, .slice none 0 0] 28)).blk (heap_alloc_new w _) id
 have hb1:WB.heap[w.heap.size+1]?=some (.cells #[.slice ay y cy] 101 (0,0)):=by
  rw[iG]
  have:=((aj.refl au _).alloc1 (o:= .cells #[.slice none 0 0, .slice none 0 0] 28)).blk (mV w (.cells #[.slice ae n ce, .slice ak m ck] 28) #[.slice ay y cy] 101).1 id
  exact this
 have hb2:WB.heap[w.heap.size+1+1]?=some (.cells #[.slice none 0 0, .slice none 0 0] 28 (0,0)):=by
  rw[iG]
  have:=(mV (w.alloc (.cells #[.slice ae n ce, .slice ak m ck] 28)) (.cells #[.slice ay y cy] 101) #[.slice none 0 0, .slice none 0 0] 28).1
  simpa using this
 have bG:=ah hfb;clear hfb
 have HB0:=ah hb0;clear hb0
 have HB1:=ah hb1;clear hb1
 have HB2:=ah hb2;clear hb2
 have bT:=ah iG;clear iG
 go_enter Tryz.func94,Tryz.ntmps94
 go_wp2_with(first
  |(go_at_call 89;rw[←bT.out];refine(HR.out _ bG.out).mono ?_;rintro e w1 ⟨rfl,hw1⟩;have H0:=ah (hw1.blk HB0.out id);have H1:=ah (hw1.blk HB1.out id);have H2:=ah (hw1.blk HB2.out id);have HW1:=ah (bG.out.aF hw1);clear hw1;have y0:=aI H0.out 0 rfl;have y1:=aI H0.out 1 rfl)
  |(go_at_call 97;refine(HC.out _ HW1.out).mono ?_;clear y0 y1;rintro e w2 ⟨ev',kv',l,rfl,hta,hf,hks,hown,hkids⟩;obtain⟨a1,c1,rfl⟩:=hta.ents.rd.sl;obtain⟨a2,c2,rfl⟩:=hown.shape
    have y0:=aI (hf.blk H0.out id) 0 rfl;have y1:=aI (hf.blk H0.out id) 1 rfl;have g0:=bn (hf.blk H0.out id) 0;have g1:=bn (hf.blk H0.out id) 1
    have hl0:w.heap.size<w1.heap.size:=lt_of_block H0.out
    have HOW:=ah ((hown.both ⟨w.heap.size,0,none⟩ hl0 (.slice a1 es.length c1)).both ⟨w.heap.size,1,none⟩ (by simpa[World.setCell]using hl0) (.slice a2 l.length c2))
    have HF:=ah hf;clear hf;have iJ:=ah hks;clear hks;have zW:=ah hkids;clear hkids hta hown hl0)
  |(go_at_call 131
    have D_:=HK.out _ ((HW1.out.set1 (p:=⟨w.heap.size,0,none⟩) (u:= .slice a1 es.length c1) (.inr (Nat.le_refl _))).set1 (p:=⟨w.heap.size,1,none⟩) (u:= .slice a2 l.length c2) (.inr (Nat.le_refl _)))
    rw[←DZ.out]at D_
    have hb1:((w1.setCell ⟨w.heap.size,0,none⟩ (.slice a1 es.length c1)).setCell ⟨w.heap.size,1,none⟩ (.slice a2 l.length c2)).cell? ⟨w.heap.size+1,0,none⟩=some (.slice ay keys.length cy):=aI ((nY (by simp)).trans ((nY (by simp)).trans (DZ.out.symm▸H1.out))) 0 rfl
    refine(RV keys l (w.heap.size+1) _ _ _ (.slice ay keys.length cy) HOW.out (fun q hq=>?_) ?_ D_ (DZ.out.symm▸f_.out) hb1).mono ?_
    ·obtain⟨os,h2,-⟩:=(zW.out q hq).kids;obtain⟨p1,p2,h1⟩:=(zW.out q hq).ents.rd.sl;obtain⟨p3,p4,h2⟩:=h2.rd.sl;exact⟨⟨_,_,_,h1⟩,_,_,_,h2⟩
    ·have h1:=xR.out;have h2:=HL.out;rw[iJ.out,oW]at h1;omega
    clear D_ hb1 y0 y1 g0 g1
    rintro e w3 ⟨a3,c3,rfl,hf3,hrd,hbl⟩
    have hsw:w.heap.size+1+1<w1.heap.size:=lt_of_block H2.out
    have hnew:∀k,(Value.slice a2 l.length c2).ownBlock=some k→w1.heap.size≤k:=fun k hk=>by have:=HOW.out.new k hk;simpa[World.setCell]using this
    have hfs:=(((HW1.out.aF HF.out).set1 (p:=⟨w.heap.size,0,none⟩) (u:= .slice a1 es.length c1) (.inr (Nat.le_refl _))).set1 (p:=⟨w.heap.size,1,none⟩) (u:= .slice a2 l.length c2) (.inr (Nat.le_refl _)))
    have hfw:aj au w w3:=hfs.trans hf3 fun i hi hs=>by have:=hnew i hs;exact absurd hi (by omega)
    have hb2:w3.heap[w.heap.size+1+1]?=some (.cells #[.slice none 0 0, .slice none 0 0] 28 (0,0)):=hf3.blk ((nY (by simp;omega)).trans ((nY (by simp;omega)).trans (HF.out.blk H2.out id))) fun h=>by have:=hnew _ h;omega
    have y0:=aI hb2 0 rfl
    have y1:=aI hb2 1 rfl
    have g0:=bn hb2 0
    have g1:=bn hb2 1
    have hr2:=res2 hb2 hfw (by omega) (.slice none 0 0) (.slice a3 (l.filter fun q=> !fD keys q).length c3)
    have hpo:bC (fun b=>w.heap.size≤b) ((w3.setCell ⟨w.heap.size+1+1,0,none⟩ (.slice none 0 0)).setCell ⟨w.heap.size+1+1,1,none⟩ (.slice a3 (l.filter fun q=> !fD keys q).length c3)) (.slice none 0 0) (.slice a3 (l.filter fun q=> !fD keys q).length c3) [] (bF (fun k=>tf (k∈keys)) ks):=by
     rw[iJ.out]
     have hx:∀u v,aj (fun k=>k=w.heap.size+1+1) w3 ((w3.setCell ⟨w.heap.size+1+1,0,none⟩ u).setCell ⟨w.heap.size+1+1,1,none⟩ v):=fun u v=>((aj.refl (fun k=>k=w.heap.size+1+1) w3).set1 (p:=⟨w.heap.size+1+1,0,none⟩) (.inl rfl)).set1 (p:=⟨w.heap.size+1+1,1,none⟩) (.inl rfl)
     refine R_ (v:= .slice a2 l.length c2) (fun q hq=>(zW.out q hq).turn fun b hb hQ=>⟨?_,by omega,hQ.2⟩) (Rd.keep hrd (hx _ _) fun k hk (hs:k=w.heap.size+1+1)=>?_) fun k hk=>?_
     ·rw[hr2.2.2 b (by omega),hf3.block b (by simpa[World.setCell]using hb) hQ.2,nY (by simp;omega),nY (by simp;omega)]
     ·have:=hnew k (hbl k hk);omega
     ·have:=hnew k (hbl k hk);omega
    have HP:=ah (show Ju w keys ks (.returned (.agg #[.slice none 0 0, .slice a3 (l.filter fun q=> !fD keys q).length c3])) _ from⟨_,rfl,hpo,hr2.2.1⟩)
    have HR2:=ah hr2.1
    clear hsw hnew hfs hfw hb2 hr2 hpo hf3 hrd hbl zW HOW
    generalize (l.filter fun q=> !fD keys q).length=L at*))
 clear y0 y1 g0 g1
 have y0:=aI HR2.out 0 rfl
 have y1:=aI HR2.out 1 rfl
 exact bodyPost_ret (v:= .agg #[.slice none 0 0, .slice a3 L c3]) (by simp[results,Tryz.results94,go_sem,y0,y1]) rfl HP.out
open Go.RowKit
def Jv (w:World) (keys:List ByteArray) (ks:aH) (c:aV) (e:Ending) (w':World):Prop:=
 ∃kv cv,e= .returned (.tuple #[.agg #[.slice none 0 0,kv,cv], .int .i64 0])∧bC (fun b=>w.heap.size≤b) w' (.slice none 0 0) kv [] (bF (fun k=>tf (k∈keys)) ks)∧OwnAt w w' 92 3 cv c.length (bU c)
theorem Sj (Q:Nat→Prop) (keys:List ByteArray) (vk:Value) (es:List aG) (ks:aH) (c:aV) (w:World) (ev kv cv:Value) (h:eu Q w ev kv cv es ks c) (hok:jB es ks c) (hr:fG es ks c) (hk:Rd w vk keys.length (keys.map .string)) (hkl:keys.length≤1000000):
 Calls Tryz.prog 71 #[.agg #[ev,kv,cv],vk] w (Jv w keys ks c):=by
 obtain⟨a0,c0,a1,c1,a2,c2,rfl,rfl,rfl⟩:=h.shape
 obtain⟨ay,cy,rfl⟩:=hk.sl
 have HR:=ah (fun w' (f:aj au w w')=>dH hr▸rD Q es ks c w' _ _ _ (h.aN f) hok)
 have HT:=ah (fun w' (f:aj au w w')=>Si Q keys es ks w' _ _ (.slice ay keys.length cy) (h.tree.aN f) hok.tree (Nat.le_trans hok.small (by decide)) hr.tree (hk.aN f) hkl)
 have HS:=ah (fun w' (f:aj au w w')=>Dl w' _ c (Rd.aN h.ctx f) (by have:=hok.len;omega))
 clear h hok hr hk hkl
 generalize hyn:keys.length=y at*
 clear hyn
 generalize hes:es.length=n at*
 generalize hkl:ks.len=m at*
 generalize hcl:c.length=k at*
 have vC:=ah hes;clear hes
 have f_:=ah hkl;clear hkl
 have oO:=ah hcl;clear hcl
 have htb:((w.alloc (.cells #[.slice a0 n c0, .slice a1 m c1, .slice a2 k c2] 32)).alloc (.cells #[.slice none 0 0, .slice none 0 0, .slice none 0 0] 32)).heap[w.heap.size+1]?=some (.cells #[.slice none 0 0, .slice none 0 0, .slice none 0 0] 32 (0,0)):=(mV w _ _ _).1
 have Dv:=ah htb;clear htb
 have hfb:aj au (w.alloc (.cells #[.slice a0 n c0, .slice a1 m c1, .slice a2 k c2] 32)) ((w.alloc (.cells #[.slice a0 n c0, .slice a1 m c1, .slice a2 k c2] 32)).alloc (.cells #[.slice none 0 0, .slice none 0 0, .slice none 0 0] 32)):=aj.alloc _ _ _
 have bG:=ah hfb;clear hfb
 have bD:=ah (jJ w (.slice a0 n c0) (.slice a1 m c1) (.slice a2 k c2) 32)
 go_enter Tryz.func71,Tryz.ntmps71
 go_wp2_with(go_at_call 40;refine(HR.out _ ((aj.alloc au _ _).aF bG.out)).mono ?_;rintro e w1 ⟨rfl,hw1⟩;obtain⟨y0,y1,y2⟩:=bD.out w1 (bG.out.aF hw1);have hblk:=hw1.blk Dv.out id;have xw:=ah hblk;clear hblk;have HW1:=ah (((aj.alloc au _ _).aF bG.out).aF hw1);clear hw1)
 refine iY (S:=fun w'=>w'.cell? ⟨w.heap.size,0,none⟩=some (.slice a0 n c0)∧w'.cell? ⟨w.heap.size,1,none⟩=some (.slice a1 m c1)∧w'.cell? ⟨w.heap.size,2,none⟩=some (.slice a2 k c2)) 9 (by kernel_rfl) ⟨y0,y1,y2⟩ ?_
 intro hS
 have dM:=ah (HW1.out.aF (aj.drew au w1))
 have mG:=ah ((aj.drew au w1).blk xw.out id)
 have hsb:w.heap.size+1<w1.drew.heap.size:=lt_of_block mG.out
 clear y0 y1 y2 HW1 xw
 generalize w1.drew=Y at*
 refine aT 0 10 rfl rfl (v:=?_) (.inl ⟨by rfl,?_⟩) ?_
 rotate_left 1
 ·(intro w hSw;(try dsimp only at hSw);go_simp;(try with_reducible rfl))
 refine aT 1 11 rfl rfl (v:=?_) (.inl ⟨by rfl,?_⟩) ?_
 rotate_left 1
 ·(intro w hSw;(try dsimp only at hSw);go_simp;(try with_reducible rfl))
 try simp only[Act.put,aP,aQ,aO]
 refine aT 2 12 rfl rfl (v:=?_) (.inl ⟨by rfl,?_⟩) ?_
 rotate_left 1
 ·(intro w hSw;(try dsimp only at hSw);go_simp;(try with_reducible rfl))
 refine aT 4 14 rfl rfl (v:=?_) (.inl ⟨by rfl,?_⟩) ?_
 rotate_left 1
 ·(intro w hSw;(try dsimp only at hSw);go_simp;(try with_reducible rfl))
 try simp only[Act.put,aP,aQ,aO]
 refine aT 5 15 rfl rfl (v:=?_) (.inl ⟨by rfl,?_⟩) ?_
 rotate_left 1
 ·(intro w hSw;(try dsimp only at hSw);go_simp;(try with_reducible rfl))
 try simp only[Act.put,aP,aQ,aO]
 refine bP (i:=3) (by kernel_rfl) rfl (fun K hK=>?_)
 go_simp
 refine(HT.out _ dM.out).mono ?_
 rintro e Y1 ⟨gU,rfl,iP,hf3⟩
 obtain⟨os3,jU,-⟩:=iP.kids
 obtain⟨a4,c4,rfl⟩:=jU.rd.sl
 clear jU
 generalize hfl:(bF (fun k=>tf (k∈keys)) ks).len=fl at*
 have xQ:=ah hfl;clear hfl
 have hS:=(⟨hf3.cell' hS.1 id,hf3.cell' hS.2.1 id,hf3.cell' hS.2.2 id⟩:Y1.cell? ⟨w.heap.size,0,none⟩=some (.slice a0 n c0)∧Y1.cell? ⟨w.heap.size,1,none⟩=some (.slice a1 m c1)∧Y1.cell? ⟨w.heap.size,2,none⟩=some (.slice a2 k c2))
 refine hK.out _ _ hS ?_
 clear hK K
 have xg:=ah iP;clear iP
 have HF3:=ah hf3;clear hf3
 try simp only[Act.put,aP,aQ,aO]
 refine bP (i:=6) (by kernel_rfl) rfl (fun K hK=>?_)
 go_simp
 refine(HS.out _ (dM.out.aF HF3.out)).mono ?_
 rintro e Y2 ⟨v5,rfl,h_⟩
 obtain⟨a5,c5,rfl⟩:=h_.shape
 have hS:=(⟨h_.aJ.cell' hS.1 id,h_.aJ.cell' hS.2.1 id,h_.aJ.cell' hS.2.2 id⟩:Y2.cell? ⟨w.heap.size,0,none⟩=some (.slice a0 n c0)∧Y2.cell? ⟨w.heap.size,1,none⟩=some (.slice a1 m c1)∧Y2.cell? ⟨w.heap.size,2,none⟩=some (.slice a2 k c2))
 refine hK.out _ _ hS ?_
 clear hK K
 have iH:=ah h_;clear h_
 try simp only[Act.put,aP,aQ,aO]
 refine aT 7 17 rfl rfl (v:=?_) (.inl ⟨by rfl,?_⟩) ?_
 rotate_left 1
 ·(intro w hSw;(try dsimp only at hSw);go_simp;(try with_reducible rfl))
 try simp only[Act.put,aP,aQ,aO]
 refine bP (i:=8) (by kernel_rfl) rfl (fun K hK=>?_)
 have hblk:=iH.out.aJ.blk (HF3.out.blk mG.out id) id
 have HR3:=ah (sV hblk ((dM.out.aF HF3.out).aF iH.out.aJ) (by omega) (.slice none 0 0) (.slice a4 fl c4) (.slice a5 k c5))
 have hs3:=HF3.out.size
 have IY:=lt_of_block hblk
 have HP:=ah ((xg.out.aN iH.out.aJ).turn (Q':=fun b=>w.heap.size≤b) fun b hb hQ=>⟨HR3.out.2.2 b (by omega),by omega⟩)
 have hown:OwnAt w (((Y2.setCell ⟨w.heap.size+1,0,none⟩ (.slice none 0 0)).setCell ⟨w.heap.size+1,1,none⟩ (.slice a4 fl c4)).setCell ⟨w.heap.size+1,2,none⟩ (.slice a5 k c5)) 92 3 (.slice a5 k c5) k (bU c):=by
  have hnew:=iH.out.new
  have mW:dP (fun b=>b=w.heap.size+1) w Y2 92 3 (.slice a5 k c5) k (bU c):=⟨iH.out.base (dM.out.aF HF3.out),fun b hb hn=>by have:=hnew b hb;omega⟩
  exact(((mW.set (p:=⟨w.heap.size+1,0,none⟩) rfl (Nat.le_succ _) _).set (p:=⟨w.heap.size+1,1,none⟩) rfl (Nat.le_succ _) _).set (p:=⟨w.heap.size+1,2,none⟩) rfl (Nat.le_succ _) _).at_
 have HOW:=ah hown;clear hown
 have y0:=aI hblk 0 rfl
 have y1:=aI hblk 1 rfl
 have y2:=aI hblk 2 rfl
 have g0:=bn hblk 0
 have g1:=bn hblk 1
 have g2:=bn hblk 2
 clear hblk
 go_simp
 refine hK.out _ _ ⟨(World.cell?_of_block (w:=Y2) (HR3.out.2.2 _ (by show w.heap.size≠w.heap.size+1;omega))).trans hS.1,(World.cell?_of_block (w:=Y2) (HR3.out.2.2 _ (by show w.heap.size≠w.heap.size+1;omega))).trans hS.2.1,(World.cell?_of_block (w:=Y2) (HR3.out.2.2 _ (by show w.heap.size≠w.heap.size+1;omega))).trans hS.2.2⟩ ?_
 clear hK K y0 y1 y2 g0 g1 g2
 try simp only[Act.put,aP,aQ,aO]
 refine iK (by kernel_rfl) (by kernel_rfl) rfl (fun K hK=>?_)
 go_simp
 refine hK.out _ _ ?_
 clear hK K
 go_wp2
 have y0:=aI HR3.out.1 0 rfl
 have y1:=aI HR3.out.1 1 rfl
 have y2:=aI HR3.out.1 2 rfl
 exact bodyPost_ret (v:= .tuple #[.agg #[.slice none 0 0, .slice a4 fl c4, .slice a5 k c5], .int .i64 0]) (by simp[results,Tryz.results71,go_sem,y0,y1,y2]) rfl ⟨_,_,rfl,HP.out,oO.out.symm▸HOW.out⟩
end Go.Proofs.YtlhmbkjdfjoilaaGreat
namespace Go.Proofs.YtlhmbkjdfjoilaaGreat
end Go.Proofs.YtlhmbkjdfjoilaaGreat
namespace Go.Proofs.YtlhmbkjdfjoilaaGreat
namespace b_
def P:BitVec 32:=0x82f63b78#32
def Q:BitVec 32:=0x1edc6f41#32
def st (c:BitVec 32):BitVec 32:=if c.getLsbD 0=true then(c>>>1)^^^P else c>>>1
def rO:Nat→BitVec 32→BitVec 32
 |0,c=>c
 |n+1,c=>st (rO n c)
def add (c:BitVec 32) (b:UInt8):BitVec 32:=rO 8 (c^^^BitVec.ofNat 32 b.toNat)
def all (c:BitVec 32) (l:List UInt8):BitVec 32:=l.foldl add c
def crc (l:List UInt8):BitVec 32:=all (BitVec.allOnes 32) l^^^BitVec.allOnes 32
def rP (r:BitVec 32) (x:Bool):BitVec 32:=if r.msb=x then r<<<1 else(r<<<1)^^^Q
def pq:Nat→BitVec 32→Nat→BitVec 32
 |0,r,_=>r
 |n+1,r,x=>rP (pq n r x) (x.testBit n)
def tK (r:BitVec 32) (b:UInt8):BitVec 32:=pq 8 r b.toNat
def pz (r:BitVec 32) (l:List UInt8):BitVec 32:=l.foldl tK r
def Jw (l:List UInt8):BitVec 32:=(pz (BitVec.allOnes 32) l^^^BitVec.allOnes 32).reverse
theorem Jy (a b:BitVec 32):(a^^^b).reverse=a.reverse^^^b.reverse:=by
 ext i h
 simp only[BitVec.getElem_reverse,BitVec.getElem_xor,BitVec.getMsbD_xor]
theorem rev_rev (a:BitVec 32):a.reverse.reverse=a:=by
 ext i h
 rw[BitVec.getElem_reverse,BitVec.getMsbD_reverse,BitVec.getLsbD_eq_getElem]
theorem Sm (a:BitVec 32):(a>>>1).reverse=a.reverse<<<1:=by
 ext i h
 rw[BitVec.getElem_reverse,BitVec.getElem_shiftLeft,BitVec.getMsbD_eq_getLsbD,BitVec.getLsbD_ushiftRight]
 by_cases h0:i=0
 ·subst h0
  simp
 ·have h1:¬i<1:=by omega
  simp only[h,decide_true,Bool.true_and,h1,decide_false,Bool.not_false]
  rw[BitVec.getElem_reverse,BitVec.getMsbD_eq_getLsbD]
  have:32-1-(i-1)=1+(32-1-i):=by omega
  rw[this]
  simp;omega
theorem Sr:P.reverse=Q:=by decide
theorem Jz (c:BitVec 32) (b:Nat):∀n,n≤32→rO n (c^^^BitVec.ofNat 32 b)=(pq n c.reverse b).reverse^^^(BitVec.ofNat 32 b>>>n)
 |0,_=>by
  show c^^^BitVec.ofNat 32 b=c.reverse.reverse^^^_
  rw[rev_rev,BitVec.ushiftRight_zero]
 |n+1,hn=>by
  show st (rO n _)=(rP (pq n c.reverse b) (b.testBit n)).reverse^^^_
  rw[Jz c b n (by omega)]
  generalize pq n c.reverse b=r
  have hb:(r.reverse^^^(BitVec.ofNat 32 b>>>n)).getLsbD 0=(r.msb^^b.testBit n):=by
   rw[BitVec.getLsbD_xor,BitVec.getLsbD_ushiftRight,BitVec.getLsbD_reverse,BitVec.getLsbD_ofNat,decide_eq_true (by omega:n+0<32)]
   rfl
  have hs:(r.reverse^^^(BitVec.ofNat 32 b>>>n))>>>1=r.reverse>>>1^^^BitVec.ofNat 32 b>>>(n+1):=by
   rw[BitVec.ushiftRight_xor_distrib,←BitVec.shiftRight_add]
  have hr:r.reverse>>>1=(r<<<1).reverse:=by
   have:=Sm r.reverse
   rw[rev_rev]at this
   rw[←this,rev_rev]
  unfold st rP
  rw[hb,hs,hr]
  generalize BitVec.ofNat 32 b>>>(n+1)=B
  cases hm:r.msb<;>cases ht:b.testBit n<;>simp only[Bool.false_xor,Bool.true_xor,Bool.not_true,Bool.not_false,if_true,if_false,reduceCtorEq]
  all_goals
   rw[Jy,←Sr,rev_rev,BitVec.xor_assoc,BitVec.xor_comm B,←BitVec.xor_assoc]
theorem Sv (c:BitVec 32) (b:UInt8):add c b=(tK c.reverse b).reverse:=by
 unfold add tK
 rw[Jz c b.toNat 8 (by omega)]
 have h:BitVec.ofNat 32 b.toNat>>>8=0#32:=by
  apply BitVec.eq_of_toNat_eq
  rw[BitVec.toNat_ushiftRight,BitVec.toNat_ofNat,Nat.shiftRight_eq_div_pow]
  have:=b.toNat_lt
  show b.toNat%2^32/2^8=0
  omega
 rw[h,BitVec.xor_zero]
theorem Sz (c:BitVec 32) (l:List UInt8):all c l=(pz c.reverse l).reverse:=by
 induction l generalizing c with
 |nil=>exact(rev_rev c).symm
 |cons b l ih=>
  show all (add c b) l=(pz (tK c.reverse b) l).reverse
  rw[ih,Sv,rev_rev]
theorem JA:(BitVec.allOnes 32).reverse=BitVec.allOnes 32:=by
 ext i h
 rw[BitVec.getElem_reverse,BitVec.getMsbD_eq_getLsbD,BitVec.getLsbD_allOnes,BitVec.getElem_allOnes,decide_eq_true h,Bool.true_and]
 exact decide_eq_true (by omega)
theorem SA (l:List UInt8):crc l=Jw l:=by
 unfold crc Jw
 rw[Jy,JA,Sz,JA]
def sum (l:List UInt8):Nat:=(crc l).toNat
theorem sum_lt (l:List UInt8):sum l<4294967296:=(crc l).isLt
end b_
open Go.RowKit
open Go.RowKit
theorem zX (a:BitVec 32):BitVec.ofInt 32 (a.toNat:Int)=a:=by
 rw[BitVec.ofInt_natCast,BitVec.ofNat_toNat]
 rfl
theorem JB (a:BitVec 32):IntKind.u32.wrap (a.toNat:Int)=(a.toNat:Int):=by
 have:=a.isLt
 rw[IntKind.wrap_u32]
 omega
theorem zY (a b:BitVec 32):bits BinOp.xor IntKind.u32 (a.toNat:Int) (b.toNat:Int)=((a^^^b).toNat:Int):=by
 show IntKind.u32.wrap ((BitVec.ofInt 32 (a.toNat:Int)^^^BitVec.ofInt 32 (b.toNat:Int)).toNat:Int)=_
 rw[zX,zX,JB]
theorem SB (a b:BitVec 32):bits BinOp.and IntKind.u32 (a.toNat:Int) (b.toNat:Int)=((a&&&b).toNat:Int):=by
 show IntKind.u32.wrap ((BitVec.ofInt 32 (a.toNat:Int)&&&BitVec.ofInt 32 (b.toNat:Int)).toNat:Int)=_
 rw[zX,zX,JB]
theorem and_one (c:BitVec 32):bits BinOp.and IntKind.u32 (c.toNat:Int) 1=if c.getLsbD 0=true then 1 else 0:=by
 have h:=SB c 1#32
 rw[show((1#32).toNat:Int)=1 from rfl]at h
 rw[h,BitVec.toNat_and]
 have e:c.toNat&&&(1#32).toNat=c.toNat%2:=Nat.and_one_is_mod _
 have g:c.getLsbD 0=decide (c.toNat%2=1):=by
  rw[BitVec.getLsbD,Nat.testBit_zero]
 rw[e,g]
 have:=Nat.mod_two_eq_zero_or_one c.toNat
 rcases this with h|h<;>rw[h]<;>simp
theorem SC (c:BitVec 32):bits BinOp.xor IntKind.u32 (c.toNat:Int) 2197175160=((c^^^b_.P).toNat:Int):=zY c b_.P
theorem SE (c:BitVec 32):bits BinOp.xor IntKind.u32 (c.toNat:Int) 517762881=((c^^^b_.Q).toNat:Int):=zY c b_.Q
theorem JC (c:BitVec 32):bits BinOp.xor IntKind.u32 (c.toNat:Int) 4294967295=((c^^^BitVec.allOnes 32).toNat:Int):=zY c (BitVec.allOnes 32)
theorem SG (c:BitVec 32) (b:UInt8):bits BinOp.xor IntKind.u32 (c.toNat:Int) (b.toNat:Int)=((c^^^BitVec.ofNat 32 b.toNat).toNat:Int):=by
 have h:=zY c (BitVec.ofNat 32 b.toNat)
 have e:(BitVec.ofNat 32 b.toNat).toNat=b.toNat:=by
  rw[BitVec.toNat_ofNat]
  have:=b.toNat_lt
  omega
 rw[e]at h
 exact h
theorem SH (c:BitVec 32):((c>>>1).toNat:Int)=(c.toNat:Int)/2:=by
 rw[BitVec.toNat_ushiftRight,Nat.shiftRight_eq_div_pow]
 omega
theorem SI (c0:BitVec 32) (b:UInt8) (w:World):Calls Tryz.prog 61 #[.int .u32 c0.toNat, .int .u8 b.toNat] w fun e w'=>e= .returned (.int .u32 (b_.add c0 b).toNat)∧w=w':=by
 have hb:=b.toNat_lt
 have hw:IntKind.u32.wrap (b.toNat:Int)=(b.toNat:Int):=by rw[IntKind.wrap_u32];omega
 go_enter Tryz.func61,Tryz.ntmps61
 go_wp2
 clear hw
 go_loopw [0,10] (fun c i W=>∃k:Nat,k≤8∧i= .int .i64 k∧c= .int .u32 (b_.rO k (c0^^^BitVec.ofNat 32 b.toNat)).toNat∧W=w) (fun _ i _=>8-(intOf i).toNat)
 case atStart=>exact⟨0,by omega,rfl,by rw[SG];rfl,rfl⟩
 case round=>
  obtain⟨k,hk,rfl,rfl,rfl⟩:=hrel
  by_cases hlt:k<8
  ·have hst:b_.rO (k+1) (c0^^^BitVec.ofNat 32 b.toNat)=b_.st (b_.rO k (c0^^^BitVec.ofNat 32 b.toNat)):=rfl
   have HST:=ah hst;clear hst
   generalize hc:b_.rO k (c0^^^BitVec.ofNat 32 b.toNat)=c at*
   have HC:=ah hc;clear hc
   have h1:=and_one c
   have h2:=SH c
   have h3:=SC (c>>>1)
   have hcl:=c.isLt
   cases hbit:c.getLsbD 0 with
   |true=>
    rw[hbit,if_pos rfl]at h1
    have HE:=ah (show b_.st c=(c>>>1)^^^b_.P from if_pos hbit)
    go_wp2
    go_roundw
    case rel=>exact⟨k+1,by omega,by go_num,by rw[HST.out,HE.out,←h3,h2],trivial⟩
    case measure=>simp[intOf];omega
   |false=>
    rw[hbit,if_neg (by decide)]at h1
    have HE:=ah (show b_.st c=c>>>1 from if_neg (by rw[hbit];decide))
    go_wp2
    go_roundw
    case rel=>exact⟨k+1,by omega,by go_num,by rw[HST.out,HE.out,h2],trivial⟩
    case measure=>simp[intOf];omega
  ·obtain rfl:k=8:=by omega
   go_wp2
   go_ret
   exact⟨rfl,rfl⟩
theorem SK {w:World} {b off c n:Nat} {l:List UInt8} (h:Rd w (.slice (some ⟨b,off,none⟩) n c) n (bV l)) (k:Nat) (hk:k<l.length):w.cell? ⟨b,off+k,none⟩=some (.int .u8 (l.getD k 0).toNat):=by
 rcases h with⟨ad,h1,h2,h3⟩|⟨b',off',c',h1,h2,h3,h4⟩
 ·have h0:l=[]:=by simpa[bV]using h3
  subst h0
  cases hk
 ·injection h1 with e1 e2 e3
  injection e1 with e1
  injection e1 with e1 e4
  subst e1 e4
  refine h4 k _ ?_
  unfold bV
  rw[List.getElem?_map,List.getElem?_eq_getElem hk,List.getD_eq_getElem?_getD,List.getElem?_eq_getElem hk]
  rfl
theorem JD {α:Type} (f:α→UInt8→α) (c:α) {l:List UInt8} {k:Nat} (h:k<l.length):(l.take (k+1)).foldl f c=f ((l.take k).foldl f c) (l.getD k 0):=by
 rw[List.take_add_one,List.getElem?_eq_getElem h,List.foldl_append,List.getD_eq_getElem?_getD,List.getElem?_eq_getElem h]
 rfl
theorem SL (r:BitVec 32):(r.toNat:Int)/2147483648=if r.msb=true then 1 else 0:=by
 have hl:=r.isLt
 have h:=BitVec.msb_eq_decide r
 rw[h]
 by_cases hb:2147483648≤r.toNat
 ·rw[if_pos (decide_eq_true hb)];omega
 ·rw[if_neg (by simpa using hb)];omega
theorem SN (r:BitVec 32):IntKind.u32.wrap (2*(r.toNat:Int))=((r<<<1).toNat:Int):=by
 rw[IntKind.wrap_u32,BitVec.toNat_shiftLeft,Nat.shiftLeft_eq]
 omega
theorem SQ (x j:Nat):((x/2^j:Nat):Int)%2=if x.testBit j=true then 1 else 0:=by
 have h:x.testBit j=decide (x/2^j%2=1):=by rw[Nat.testBit_eq_decide_div_mod_eq]
 rw[h]
 rcases Nat.mod_two_eq_zero_or_one (x/2^j)with e|e
 ·rw[if_neg (by rw[e];decide)];omega
 ·rw[if_pos (by rw[e];rfl)];omega
theorem SS (r:BitVec 32) (k:Nat) (hk:k<32):r.reverse.toNat/2^(31-k)=2*(r.reverse.toNat/2^(32-k))+r.toNat/2^k%2:=by
 have e1:r.reverse.toNat/2^(32-k)=r.reverse.toNat/2^(31-k)/2:=by
  rw[Nat.div_div_eq_div_mul,show 32-k=31-k+1 by omega,Nat.pow_succ]
 have e2:r.reverse.toNat/2^(31-k)%2=r.toNat/2^k%2:=by
  have h1:r.reverse.getLsbD (31-k)=r.getLsbD k:=by
   rw[BitVec.getLsbD_reverse,BitVec.getMsbD_eq_getLsbD,show 32-1-(31-k)=k by omega]
   simp;omega
  rw[BitVec.getLsbD,BitVec.getLsbD,Nat.testBit_eq_decide_div_mod_eq,Nat.testBit_eq_decide_div_mod_eq]at h1
  have h2:=decide_eq_decide.1 h1
  have:=Nat.mod_two_eq_zero_or_one (r.reverse.toNat/2^(31-k))
  have:=Nat.mod_two_eq_zero_or_one (r.toNat/2^k)
  omega
 rw[e1,←e2]
 omega
theorem SV (r:BitVec 32) (w:World):Calls Tryz.prog 62 #[.int .u32 r.toNat] w fun e w'=>e= .returned (.int .u32 r.reverse.toNat)∧w=w':=by
 have hrl:=r.isLt
 have hR:=r.reverse.isLt
 have H0:=ah (show r.reverse.toNat/2^32=0 from Nat.div_eq_of_lt hR)
 have HB:=ah (fun k hk=>SS r k hk)
 have HS:=ah (fun k=>(show r.toNat/2^k/2=r.toNat/2^(k+1) by rw[Nat.div_div_eq_div_mul,Nat.pow_succ]))
 have HQ:=ah (fun k=>Nat.div_le_self r.reverse.toNat (2^k))
 have HP:=ah (fun k=>Nat.div_le_self r.toNat (2^k))
 generalize r.reverse.toNat=R at*
 generalize r.toNat=n at*
 go_enter Tryz.func62,Tryz.ntmps62
 go_wp2
 go_loopw [0,3,4] (fun c o i W=>∃k:Nat,k≤32∧i= .int .i64 k∧c= .int .u32 (n/2^k:Nat)∧o= .int .u32 (R/2^(32-k):Nat)∧W=w) (fun _ _ i _=>32-(intOf i).toNat)
 case atStart=>exact⟨0,by omega,rfl,by simp,by rw[Nat.sub_zero,H0.out];rfl,rfl⟩
 case round=>
  obtain⟨k,hk,rfl,rfl,rfl,rfl⟩:=hrel
  by_cases hlt:k<32
  ·have h1:=HB.out k hlt
   have h2:=HS.out k
   have h3:=HQ.out (31-k)
   have h4:=HP.out k
   rw[show 31-k=32-(k+1) by omega]at h1 h3
   generalize hc2:n/2^(k+1)=c2 at*
   have HC2:=ah hc2;clear hc2
   generalize n/2^k=c at*
   generalize ho2:R/2^(32-(k+1))=o2 at*
   have dV:=ah ho2;clear ho2
   generalize R/2^(32-k)=o at*
   have hw1:IntKind.u32.wrap (2*(o:Int))=2*(o:Int):=by rw[IntKind.wrap_u32];omega
   have hw2:IntKind.u32.wrap (2*(o:Int)+(c:Int)%2)=(o2:Int):=by rw[IntKind.wrap_u32];omega
   go_wp2
   go_roundw
   case rel=>
    refine⟨k+1,by omega,by go_num,?g1,?g2,trivial⟩
    ·rw[HC2.out,←h2];rfl
    ·rw[dV.out,h1];rfl
   case measure=>simp[intOf];omega
  ·obtain rfl:k=32:=by omega
   go_wp2
   go_ret
   exact⟨by simp,rfl⟩
theorem SX (bs:List UInt8) (v:Value) (w:World) (h:Rd w v bs.length (bV bs)):Calls Tryz.prog 35 #[v] w fun e w'=>e= .returned (.int .u32 (b_.sum bs))∧w=w':=by
 obtain⟨a0,c0,rfl⟩:∃a c,v= .slice a bs.length c:=by
  rcases h with⟨ad,rfl,h2,h3⟩|⟨b,off,c,rfl,_⟩
  ·exact⟨ad,0,by rw[h2]⟩
  ·exact⟨_,_,rfl⟩
 have HH:=ah h;clear h
 generalize hn:bs.length=n at*
 have HN:=ah hn;clear hn
 have H0:=ah (show(4294967295:Int)=((b_.pz (BitVec.allOnes 32) (bs.take 0)).toNat:Int)from rfl)
 go_enter Tryz.func35,Tryz.ntmps35
 go_wp2
 go_loopw [3,9] (fun c i W=>∃k:Nat,k≤n∧i= .int .i64 k∧c= .int .u32 (b_.pz (BitVec.allOnes 32) (bs.take k)).toNat∧W=w) (fun _ i _=>n-(intOf i).toNat)
 case atStart=>exact⟨0,Nat.zero_le _,rfl,by rw[←H0.out],rfl⟩
 case round=>
  obtain⟨k,hk,rfl,rfl,rfl⟩:=hrel
  by_cases hlt:k<n
  ·have hkl:k<bs.length:=by rw[HN.out];exact hlt
   have hrd:=HH.out
   rcases hrd with⟨ad,he,hz,-⟩|⟨b,off,cc,he,hm1,hm2,-⟩
   ·exfalso;omega
   injection he with e1 e2 e3
   subst e1 e3
   clear e2
   have hmx:(n:Int)≤9223372036854775807:=by simp only[maxLen]at hm2;omega
   clear hm1 hm2
   have q0:=SK HH.out k hkl
   have HST:=ah (show b_.pz (BitVec.allOnes 32) (bs.take (k+1))=b_.tK (b_.pz (BitVec.allOnes 32) (bs.take k)) (bs.getD k 0)from JD b_.tK _ hkl)
   generalize bs.getD k 0=x at*
   generalize b_.pz (BitVec.allOnes 32) (bs.take k)=c at*
   have hxl:=x.toNat_lt
   have hcv:IntKind.u32.wrap (x.toNat:Int)=(x.toNat:Int):=by rw[IntKind.wrap_u32];omega
   have qo:=ah (show b_.tK c x=b_.pq 8 c x.toNat from rfl)
   generalize x.toNat=y at*
   have SY:=ah (show(y:Int)=((y/2^0:Nat):Int) by simp)
   obtain⟨WO,S_⟩:∃W,W=wr:=⟨wr,rfl⟩
   subst S_
   go_wp2
   go_loopw [3,5,17] (fun r z i W=>∃j:Nat,j≤8∧i= .int .i64 j∧r= .int .u32 (b_.pq j c y).toNat∧z= .int .u32 (y/2^j:Nat)∧W=WO) (fun _ _ i _=>8-(intOf i).toNat)
   case atStart=>exact⟨0,by omega,rfl,rfl,by rw[←SY.out],rfl⟩
   case round=>
    obtain⟨j,hj,rfl,rfl,rfl,rfl⟩:=hrel
    by_cases hlj:j<8
    ·have HR:=ah (show b_.pq (j+1) c y=b_.rP (b_.pq j c y) (y.testBit j)from rfl)
     generalize b_.pq j c y=r at*
     have h1:=SL r
     have h2:=SN r
     have h3:=SQ y j
     have h4:=SE (r<<<1)
     have h5:y/2^j/2=y/2^(j+1):=by rw[Nat.div_div_eq_div_mul,Nat.pow_succ]
     generalize hz2:y/2^(j+1)=z2 at*
     have HZ2:=ah hz2;clear hz2
     have hzl:=Nat.div_le_self y (2^j)
     generalize y/2^j=z at*
     generalize hr2:r<<<1=r2 at*
     have HR2:=ah hr2;clear hr2
     have hrl:=r.isLt
     have hwz:IntKind.u32.wrap ((z:Int)/2)=(z2:Int):=by rw[IntKind.wrap_u32];omega
     cases hm:r.msb<;>cases ht:y.testBit j
     ·rw[hm,if_neg (by decide)]at h1
      rw[ht,if_neg (by decide)]at h3
      have HE:=ah (show b_.rP r false=r2 by rw[←HR2.out];exact if_pos hm)
      rw[ht]at HR
      go_wp2
      go_roundw
      case rel=>exact⟨j+1,by omega,by go_num,by rw[HR.out,HE.out],by rw[HZ2.out],trivial⟩
      case measure=>simp[intOf];omega
     ·rw[hm,if_neg (by decide)]at h1
      rw[ht,if_pos rfl]at h3
      have HE:=ah (show b_.rP r true=r2^^^b_.Q by rw[←HR2.out];exact if_neg (by rw[hm];decide))
      rw[ht]at HR
      go_wp2
      go_roundw
      case rel=>exact⟨j+1,by omega,by go_num,by rw[HR.out,HE.out,BitVec.toNat_xor],by rw[HZ2.out],trivial⟩
      case measure=>simp[intOf];omega
     ·rw[hm,if_pos rfl]at h1
      rw[ht,if_neg (by decide)]at h3
      have HE:=ah (show b_.rP r false=r2^^^b_.Q by rw[←HR2.out];exact if_neg (by rw[hm];decide))
      rw[ht]at HR
      go_wp2
      go_roundw
      case rel=>exact⟨j+1,by omega,by go_num,by rw[HR.out,HE.out,BitVec.toNat_xor],by rw[HZ2.out],trivial⟩
      case measure=>simp[intOf];omega
     ·rw[hm,if_pos rfl]at h1
      rw[ht,if_pos rfl]at h3
      have HE:=ah (show b_.rP r true=r2 by rw[←HR2.out];exact if_pos hm)
      rw[ht]at HR
      go_wp2
      go_roundw
      case rel=>exact⟨j+1,by omega,by go_num,by rw[HR.out,HE.out],by rw[HZ2.out],trivial⟩
      case measure=>simp[intOf];omega
    ·obtain rfl:j=8:=by omega
     go_wp2
     go_roundw
     case rel=>exact⟨k+1,by omega,by go_num,by rw[HST.out,qo.out],trivial⟩
     case measure=>simp[intOf];omega
  ·obtain rfl:n=k:=by omega
   have HT:=ah (show b_.sum bs=(b_.pz (BitVec.allOnes 32) (bs.take bs.length)^^^BitVec.allOnes 32).reverse.toNat by rw[List.take_length];unfold b_.sum;rw[b_.SA];rfl)
   rw[HN.out]at HT
   generalize b_.pz (BitVec.allOnes 32) (bs.take n)=c at*
   have hx:=JC c
   have HM:=ah (SV (c^^^BitVec.allOnes 32) wr)
   go_wp2_with(go_at_call 62;refine HM.out.mono ?_;rintro e w1 ⟨rfl,rfl⟩)
   go_ret
   exact⟨by rw[HT.out];rfl,rfl⟩
open Go.RowKit
def rb (s:ByteArray):List UInt8:=s.toList.reverse
theorem Ea (s:ByteArray):(rb s).length=s.size:=by unfold rb;rw[List.length_reverse,ByteArray.toList_eq];simp
theorem JE (s:ByteArray) {j:Nat} (h:j<s.size):(rb s).getD j 0=s[s.size-1-j]:=by
 have hl:=Ea s
 rw[getD_at 0 (by rw[hl];exact h)]
 unfold rb
 rw[List.getElem_reverse]
 simp only[ByteArray.toList_eq,Array.length_toList,Array.getElem_toList]
 rfl
theorem Tc (s:ByteArray) (w:World) (hs:s.size≤9223372036854775807):Calls Tryz.prog 34 #[.string s] w fun e w'=>e= .returned (.int .u32 (b_.sum (rb s)))∧w'=w:=by
 have H0:=ah (show(4294967295:Int)=((b_.all (BitVec.allOnes 32) ((rb s).take 0)).toNat:Int)from rfl)
 have HL:=ah (Ea s)
 have HB:=ah (fun j=>JE s (j:=j))
 go_enter Tryz.func34,Tryz.ntmps34
 go_wp2
 go_loopw [3,4] (fun c i W=>∃j:Nat,j≤s.size∧i= .int .i64 ((s.size:Int)-1-j)∧c= .int .u32 (b_.all (BitVec.allOnes 32) ((rb s).take j)).toNat∧W=w) (fun _ i _=>(intOf i+1).toNat)
 case atStart=>exact⟨0,Nat.zero_le _,by simp,by rw[←H0.out],rfl⟩
 case round=>
  obtain⟨j,hj,rfl,rfl,rfl⟩:=hrel
  by_cases hlt:j<s.size
  ·have HX:=ah (HB.out j hlt)
   have HST:=ah (show b_.all (BitVec.allOnes 32) ((rb s).take (j+1))=b_.add (b_.all (BitVec.allOnes 32) ((rb s).take j)) ((rb s).getD j 0)from JD b_.add _ (by rw[HL.out];exact hlt))
   generalize b_.all (BitVec.allOnes 32) ((rb s).take j)=c at*
   go_wp2_with(go_at_call 61;refine(SI c _ _).mono ?_;rintro e w1 ⟨rfl,rfl⟩)
   go_roundw
   case rel=>exact⟨j+1,by omega,by go_num,by rw[HST.out,HX.out],trivial⟩
   case measure=>simp[intOf];omega
  ·obtain rfl:j=s.size:=by omega
   have HT:=ah (show b_.sum (rb s)=(b_.all (BitVec.allOnes 32) ((rb s).take s.size)^^^BitVec.allOnes 32).toNat by rw[List.take_of_length_le (by rw[HL.out];exact Nat.le_refl _)];rfl)
   generalize b_.all (BitVec.allOnes 32) ((rb s).take s.size)=c at*
   have hx:=JC c
   go_wp2
   go_ret
   exact⟨by rw[HT.out,BitVec.toNat_xor];rfl,rfl⟩
def pF (s:ByteArray) (k:Int):Int:=if k<1∨4<k then-1 else(b_.sum (rb s):Int)%k
theorem JF (s:ByteArray) (k:Int) (w:World) (hs:s.size≤9223372036854775807):Calls Tryz.prog 10 #[.string s, .int .i64 k] w fun e w'=>e= .returned (.int .i64 (pF s k))∧w'=w:=by
 have HH:=ah (Tc s w hs)
 unfold pF
 by_cases h1:k<1
 ·rw[if_pos (.inl h1)]
  go_enter Tryz.func10,Tryz.ntmps10
  go_wp2
  go_ret
  exact⟨rfl,rfl⟩
 by_cases h4:4<k
 ·rw[if_pos (.inr h4)]
  go_enter Tryz.func10,Tryz.ntmps10
  go_wp2
  go_ret
  exact⟨rfl,rfl⟩
 rw[if_neg (by omega)]
 have hlt:=b_.sum_lt (rb s)
 generalize b_.sum (rb s)=c at*
 have hw:IntKind.u32.wrap k=k:=by rcases(by omega:k=1∨k=2∨k=3∨k=4)with rfl|rfl|rfl|rfl<;>rfl
 have hm0:0≤(c:Int)%k:=Int.emod_nonneg _ (by omega)
 have hm1:(c:Int)%k<k:=Int.emod_lt_of_pos _ (by omega)
 go_enter Tryz.func10,Tryz.ntmps10
 go_wp2_with(go_at_call 34;refine HH.out.mono ?_;rintro e w1 ⟨rfl,rfl⟩)
 go_ret
 exact⟨rfl,rfl⟩
theorem Td:(Tryz.prog.info? 5).map (fun i=>(i.zero,i.size,i.bytes))=some (some (.int .u8 0),1,1):=by kernel_rfl
theorem Tf (s:ByteArray) (w:World) (hs:s.size≤100000):Calls Tryz.prog 36 #[.string s] w fun e w'=>∃v,e= .returned v∧OwnAt w w' 5 1 v (rb s).length (bV (rb s)):=by
 obtain⟨i0,hi,hz0,hz1,hz2⟩:=info_parts Td
 have HL:=ah (Ea s)
 have HB:=ah (fun j=>JE s (j:=j))
 go_enter Tryz.func36,Tryz.ntmps36
 go_wp2
 go_loopw [3,7] (fun v i W=>∃j:Nat,j≤s.size∧i= .int .i64 j∧OwnAt w W 5 1 v j (bV ((rb s).take j))) (fun _ i _=>s.size-(intOf i).toNat)
 case atStart=>exact⟨0,Nat.zero_le _,rfl,OwnAt.nil (aj.refl _ _) _ _⟩
 case round=>
  obtain⟨j,hj,rfl,ho⟩:=hrel
  obtain⟨av,cv,rfl⟩:=ho.shape
  have HO:=ah ho;clear ho
  by_cases hlt:j<s.size
  ·have HX:=ah (HB.out j hlt)
   have HT:=ah (show bV ((rb s).take (j+1))=bV ((rb s).take j)++ [.int .u8 (s[s.size-1-j].toNat:Int)] by rw[take_succ 0 (by rw[HL.out];exact hlt),Np,HX.out];rfl)
   go_wp2_with(at_builtin;refine jF w _ [.int .u8 (s[s.size-1-j].toNat:Int)] rfl (.tmp 10) (.tmp 18) 76 rfl 5 i0 _ 1 1 Tryz.underlying76 hi hz0 hz1 hz2 (by decide) (by decide) _ _ _ HO.out 1 1 rfl rfl rfl (by simp[Value.oneCell']) (by simp only[maxLen];omega) (by omega) ?_;intro ad cc w5 dw;have OW:=ah dw;clear dw)
   go_roundw
   case rel=>exact⟨j+1,by omega,by go_num,by rw[HT.out];exact OW.out⟩
   case measure=>simp[intOf];omega
  ·obtain rfl:j=s.size:=by omega
   have HT:=ah (show(rb s).take s.size=rb s from List.take_of_length_le (by rw[HL.out];exact Nat.le_refl _))
   rw[HT.out]at HO
   go_wp2
   go_ret
   exact⟨_,rfl,by rw[HL.out];exact HO.out⟩
theorem Ti (s:ByteArray) (k:Int) (w:World) (hs:s.size≤100000):Calls Tryz.prog 11 #[.string s, .int .i64 k] w fun e w'=>e= .returned (.int .i64 (pF s k))∧aj au w w':=by
 have HH:=ah (Tf s w hs)
 unfold pF
 by_cases h1:k<1
 ·rw[if_pos (.inl h1)]
  go_enter Tryz.func11,Tryz.ntmps11
  go_wp2
  go_ret
  exact⟨rfl,aj.refl _ _⟩
 by_cases h4:4<k
 ·rw[if_pos (.inr h4)]
  go_enter Tryz.func11,Tryz.ntmps11
  go_wp2
  go_ret
  exact⟨rfl,aj.refl _ _⟩
 rw[if_neg (by omega)]
 have hlt:=b_.sum_lt (rb s)
 have HC:=ah (fun v W h=>SX (rb s) v W h)
 generalize b_.sum (rb s)=c at*
 have hw:IntKind.u32.wrap k=k:=by rcases(by omega:k=1∨k=2∨k=3∨k=4)with rfl|rfl|rfl|rfl<;>rfl
 have hm0:0≤(c:Int)%k:=Int.emod_nonneg _ (by omega)
 have hm1:(c:Int)%k<k:=Int.emod_lt_of_pos _ (by omega)
 go_enter Tryz.func11,Tryz.ntmps11
 go_wp2_with(first
  |(go_at_call 36;refine HH.out.mono ?_;rintro e w1 ⟨v1,rfl,ho⟩;obtain⟨a1,c1,rfl⟩:=ho.shape;have HO:=ah ho;clear ho)
  |(go_at_call 35;refine(HC.out _ _ HO.out.rd).mono ?_;rintro e w2 ⟨rfl,rfl⟩))
 go_ret
 exact⟨rfl,HO.out.aJ⟩
end Go.Proofs.YtlhmbkjdfjoilaaGreat
