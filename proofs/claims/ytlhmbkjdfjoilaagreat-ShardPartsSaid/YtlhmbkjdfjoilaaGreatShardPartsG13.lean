/- Words for the law ShardParts: CaTrees, CaJoin. -/
import Derived.Test.YtlhmbkjdfjoilaaGreatShardPartsG0
import Derived.Test.YtlhmbkjdfjoilaaGreatShardPartsG7
import Derived.Test.YtlhmbkjdfjoilaaGreatShardPartsG10
import Derived.Test.YtlhmbkjdfjoilaaGreatShardPartsG12
set_option linter.unusedSimpArgs false
set_option linter.unusedVariables false
set_option maxHeartbeats 32000000
set_option maxRecDepth 1000000
namespace Go.Proofs.YtlhmbkjdfjoilaaGreat
open Go.RowKit
theorem Fg (w:World) (c0 c1 c2:Array Value) (T0 T1 T2:TypeId):aj au w (((w.alloc (.cells c0 T0)).alloc (.cells c1 T1)).alloc (.cells c2 T2))∧(((w.alloc (.cells c0 T0)).alloc (.cells c1 T1)).alloc (.cells c2 T2)).heap.size=w.heap.size+1+1+1∧
 (((w.alloc (.cells c0 T0)).alloc (.cells c1 T1)).alloc (.cells c2 T2)).heap[w.heap.size]?=some (.cells c0 T0 (0,0))∧(((w.alloc (.cells c0 T0)).alloc (.cells c1 T1)).alloc (.cells c2 T2)).heap[w.heap.size+1]?=some (.cells c1 T1 (0,0))∧
 (((w.alloc (.cells c0 T0)).alloc (.cells c1 T1)).alloc (.cells c2 T2)).heap[w.heap.size+1+1]?=some (.cells c2 T2 (0,0)):=by
 refine⟨((aj.alloc _ _ _).alloc1).alloc1,by simp,?_,?_,?_⟩
 ·rw[Below.heap_alloc _ _ _ (by simp;omega),Below.heap_alloc _ _ _ (by simp)];exact heap_alloc_new w _
 ·rw[Below.heap_alloc _ _ _ (by simp)]
  have:=heap_alloc_new (w.alloc (.cells c0 T0)) (.cells c1 T1)
  simpa using this
 ·have:=heap_alloc_new ((w.alloc (.cells c0 T0)).alloc (.cells c1 T1)) (.cells c2 T2)
  simpa using this
def TN (wr W:World) (v:Value) (es:List aF) (ks:aH):Prop:=∃mb a n c a' n' c',v= .pointer (some ⟨mb,0,none⟩)∧aj au wr W∧wr.heap.size≤mb∧W.heap[mb]?=some (.cells #[.slice a n c, .slice a' n' c'] 28 (0,0))∧n=es.length∧n'=ks.len∧bg (fun b=>wr.heap.size≤b∧b≠mb) W (.slice a n c) (.slice a' n' c') es ks
theorem TP (Q Q':Nat→Prop) (ca cb:aU) (fa:gZ ca) (fb:gZ cb) (ra:bZ ca) (rb:bZ cb) (lca:ca.length≤100000) (Bv:cb.length≤100000):∀(N:Nat) (es:List aF) (ks:aH) (es':List aF) (ks':aH) (w:World) (ev kv ev' kv' rM rO:Value),
 bg Q w ev kv es ks→bg Q' w ev' kv' es' ks'→eY w rM ca→eY w rO cb→aX N es ks=true→aX N es' ks'=true→sizeT es ks≤4000→sizeT es' ks'≤4000→
 Calls Tryz.prog 77 #[.agg #[ev,kv], .agg #[ev',kv'],rM,rO] w (Bg w (iC (gq ca) (gq cb) N (es,ks) (es',ks')).1 (iC (gq ca) (gq cb) N (es,ks) (es',ks')).2):=by
 intro N
 induction N with
 |zero=>intro es ks es' ks' w ev kv ev' kv' rM rO _ _ _ _ h;simp[aX]at h
 |succ N fO=>
  intro es ks es' ks' w ev kv ev' kv' rM rO ha hb hca hcb hra hrb hsa hsb
  obtain⟨i0,hi,hz0,hz1,hz2⟩:=info_parts KN
  obtain⟨j0,hj,hy0,hy1,hy2⟩:=info_parts uN
  obtain⟨TQ,BH⟩:=uU hra
  obtain⟨TR,BI⟩:=uU hrb
  have oa:=(oC _ _ _ BH).1
  have ob:=(oC _ _ _ BI).1
  have hla:es.length≤4000:=by unfold sizeT at hsa;omega
  have hlb:es'.length≤4000:=by unfold sizeT at hsb;omega
  have hna:ks.len≤4000:=by have:=kG ks;unfold sizeT at hsa;omega
  have hnb:ks'.len≤4000:=by have:=kG ks';unfold sizeT at hsb;omega
  have wE:=ah (fun k (hm:k∈iU ks.keys ks'.keys)=>(show aX N (ks.find k).1 (ks.find k).2=true∧aX N (ks'.find k).1 (ks'.find k).2=true from by
   have hd:1≤N:=by
    rcases(qJ _ _ _).1 hm with g|g
    ·exact wZ BH g
    ·exact wZ BI g
   exact⟨wY BH hd,wY BI hd⟩))
  have TS:=ah (fun k=>KG Q es ks k w ev kv ha oa (by omega))
  have HKB:=ah (fun k=>KG Q' es' ks' k w ev' kv' hb ob (by omega))
  have rH:=ah (fun W (f:aj au w W)=>SK es es' ca cb W ev ev' rM rO (ha.ents.rd.aN f) (hb.ents.rd.aN f) (Rd.aN hca f) (Rd.aN hcb f) fa fb ra rb lca Bv (by omega) (by omega))
  have HIH:=ah (fun k (hm:k∈iU ks.keys ks'.keys) W (f:aj au w W) u v u' v' (h1:bg Q w u v (ks.find k).1 (ks.find k).2) (h2:bg Q' w u' v' (ks'.find k).1 (ks'.find k).2)=>
   fO _ _ _ _ W u v u' v' rM rO (h1.aN f) (h2.aN f) (Rd.aN hca f) (Rd.aN hcb f) (wE.out k hm).1 (wE.out k hm).2 (by have:=Fb ks k;unfold sizeT at hsa⊢;unfold sizeT at this;omega) (by have:=Fb ks' k;unfold sizeT at hsb⊢;unfold sizeT at this;omega))
  clear fO
  have HKK:=ah (Tj oa ob)
  have fK:=ah (KL ks.keys ks'.keys)
  have nI:=ah ks.nJ
  have xg:=ah ks'.nJ
  obtain⟨os,hk,hf⟩:=ha.kids
  obtain⟨os',hk',hf'⟩:=hb.kids
  have hcl:(gK ks os).length=ks.len*3:=hf.length
  have hcl':(gK ks' os').length=ks'.len*3:=hf'.length
  have hkc:wX (gK ks os++gK ks' os') (ks.keys++ks'.keys):=(zl hf).append (zl hf') (by rw[hcl,ks.nJ])
  have zo:=ah hkc;clear hkc
  have TT:=ah (fun W b c (f:aj au w W) h0 h1=>S_ W b c kv kv' (gK ks os) (gK ks' os') ks.len ks'.len h0 h1 (hk.rd.aN f) (hk'.rd.aN f) hcl hcl' (KI hf) (KI hf') (by omega) (by omega))
  generalize gK ks os++gK ks' os'=xs at*
  obtain⟨aE,cE,rfl⟩:=ha.ents.rd.sl
  obtain⟨BJ,BK,rfl⟩:=hb.ents.rd.sl
  obtain⟨aK,cK,rfl⟩:=hk.rd.sl
  obtain⟨xq,xu,rfl⟩:=hk'.rd.sl
  obtain⟨aC,cC,rfl⟩:=hca.sl
  obtain⟨aD,cD,rfl⟩:=hcb.sl
  clear ha hb hk hk' hf hf' hcl hcl' hca hcb hra hrb hsa hsb TQ TR BH BI oa ob
  unfold iC
  obtain⟨hA,zh⟩:∃h,h=gq ca:=⟨_,rfl⟩
  obtain⟨hB,zi⟩:∃h,h=gq cb:=⟨_,rfl⟩
  rw[←zh,←zi]at rH HIH⊢
  clear zh zi
  obtain⟨F,hF⟩:∃F:ByteArray→List aF×aH,F=fun k=>iC hA hB N (ks.find k) (ks'.find k):=⟨_,rfl⟩
  have HF:=ah hF
  show Calls _ _ _ _ (Bg w (fC hA hB es es') (eH (fun k=>iC hA hB N (ks.find k) (ks'.find k)) (iU ks.keys ks'.keys)))
  rw[←hF]
  clear hF
  have hel:=KJ hA hB es es'
  generalize fC hA hB es es'=EJ at*
  have Zn:EJ.length≤8000:=by omega
  clear hel
  generalize hkk:iU ks.keys ks'.keys=kk at*
  clear hkk
  generalize hall:ks.keys++ks'.keys=al at*
  have hal:al.length=ks.len+ks'.len:=by rw[←hall,List.length_append,nI.out,xg.out]
  clear hall
  generalize es.length=n0 at*
  generalize es'.length=tu at*
  generalize ks.len=n at*
  generalize ks'.len=m at*
  generalize ca.length=na at*
  generalize cb.length=nb at*
  have pz:=ah hal;clear hal
  have TU:=ah fK.out
  have hKn:kk.length≤8000:=by have:=fK.out;rw[nI.out,xg.out]at this;omega
  clear TU fK
  generalize hen:EJ.length=ne at*
  have ji:=ah hen;clear hen
  obtain⟨hf0,hs0,hb0,hb1,hb2⟩:=Fg w #[.slice aE n0 cE, .slice aK n cK] #[.slice BJ tu BK, .slice xq m xu] #[.slice none 0 0, .slice none 0 0] 28 28 28
  have gu:=ah hf0;clear hf0
  have Fh:=ah hs0;clear hs0
  have HB0:=ah hb0;clear hb0
  have HB1:=ah hb1;clear hb1
  have HB2:=ah hb2;clear hb2
  go_enter Tryz.func77,Tryz.ntmps77
  go_wp2_with(first
   |(go_at_call 108;refine(rH.out _ gu.out).mono ?_;rintro e w1 ⟨v1,rfl,ho1⟩;obtain⟨a1,c1,rfl⟩:=ho1.shape;have dF:=ah ho1;clear ho1;have y0:=dF.out.aI.cell' (aJ HB0.out 1 rfl) id;have y1:=dF.out.aI.cell' (aJ HB1.out 1 rfl) id;have hl0:=World.block_lt_of_cell? _ _ y0;have hl1:=World.block_lt_of_cell? _ _ y1;have HX0:=ah (fun X=>aJ (heap_alloc_new (w1.alloc (.cells #[.slice a1 ne c1, .slice none 0 0] 28)) (.cells #[.slice aK n cK, .slice xq m xu] X)) 0 rfl);have yG:=ah (fun X=>aJ (heap_alloc_new (w1.alloc (.cells #[.slice a1 ne c1, .slice none 0 0] 28)) (.cells #[.slice aK n cK, .slice xq m xu] X)) 1 rfl);simp only[World.size_alloc]at HX0 yG)
   |(go_at_call 109;refine(TT.out _ _ _ (((gu.out.aG dF.out.aI).alloc1).alloc1) (HX0.out _) (yG.out _)).mono ?_;rintro e w2 ⟨v2,rfl,ho2⟩;obtain⟨a2,c2,rfl⟩:=ho2.shape;have fA:=ah ho2;clear ho2))
  have HE2:=ah ((aj.alloc au (w1.alloc (.cells #[.slice a1 ne c1, .slice none 0 0] 28)) _).aG fA.out.aI)
  have hnm:n+m≤8000:=by omega
  go_loopw [10,31] (fun kv iv W=>∃k:Nat,k≤n+m∧iv= .int .i64 k∧OwnAt w2 W 9 1 kv k ((al.take k).map .string)) (fun _ iv _=>n+m-(intOf iv).toNat)
  case atStart=>exact⟨0,by omega,rfl,OwnAt.nil (aj.refl _ _) _ _⟩
  case round=>
   obtain⟨k,hk,rfl,ho⟩:=hrel
   obtain⟨av,cv,rfl⟩:=ho.shape
   have HO:=ah ho;clear ho
   clear y0 y1 hl0 hl1
   by_cases hlt:k<n+m
   ·obtain⟨b0,m0,d0,b1,m1,d1,q0,q1,q2⟩:=zo.out k (by rw[pz.out];exact hlt)
    rcases Rd.shape fA.out.rd with⟨ad,he,h0⟩|⟨b,off,cc,he,hmax⟩
    ·omega
    injection he with e1 e2 e3
    subst e1 e3
    clear e2
    have r:=fA.out.rd.aN HO.out.aI
    replace q0:=r.cell _ _ q0
    replace q1:wr.cell? ⟨b,off+k*3+1,none⟩=some (.slice b0 m0 d0):=r.cell (k*3+1) _ q1
    replace q2:wr.cell? ⟨b,off+k*3+2,none⟩=some (.slice b1 m1 d1):=r.cell (k*3+2) _ q2
    clear r
    have HST:=ah (Tq (l:=al) (k:=k) (by rw[pz.out];exact hlt))
    generalize al.getD k ByteArray.empty=key at*
    have KQ:(k:Int)<(n:Int)+(m:Int):=by omega
    have bJ:=ah (HO.out.keep (aj.alloc au wr (.cells #[.string key, .slice b0 m0 d0, .slice b1 m1 d1] 52)))
    go_wp2_with(at_builtin;refine ku w2 _ [.string key] rfl (.tmp 35) (.tmp 38) 101 rfl 9 i0 _ 1 16 Tryz.underlying101 hi hz0 hz1 hz2 (by decide) (by decide) _ _ _ bJ.out 1 1 rfl (by simp[Act.eval]) rfl (by simp[Value.oneCell']) (by simp only[maxLen];omega) (by omega) ?_;intro ad cc w5 bU;have OW:=ah bU;clear bU)
    go_roundw
    case rel=>exact⟨k+1,by omega,by go_num,by rw[HST.out];exact OW.out⟩
    case measure=>simp[intOf];omega
   ·obtain rfl:k=n+m:=by omega
    have hos:OwnAt w2 wr 9 1 (.slice av (n+m) cv) (n+m) ((al.map ByteArray.toList).map encStr):=by
     have:=HO.out
     rw[List.take_of_length_le (by rw[pz.out];exact Nat.le_refl _)]at this
     rw[map_encStr];exact this
    have KR:=ah hos;clear hos
    clear HO zo
    go_wp2_with(first
     |(go_at_call 110;refine(Tc w2 _ _ _ (n+m) _ KR.out (by rw[List.length_map,pz.out]) (by omega)).mono ?_;rintro e w3 ⟨rfl,ho3⟩;have bJ:=ah ho3;clear ho3)
     |(go_at_call 111;refine(Tf w2 _ _ _ (n+m) _ bJ.out (by rw[List.length_mergeSort,List.length_map,pz.out]) (by omega)).mono ?_;rintro e w4 ⟨v4,rfl,jG⟩;rw[HKK.out,map_encStr,List.length_map]at jG;obtain⟨a4,c4,rfl⟩:=jG.shape;have jS:=ah jG;clear jG))
    generalize hK:kk.length=K at*
    have pF:=ah hK;clear hK
    have BL:=ah (HE2.out.aG jS.out.aI)
    have hs1:=dF.out.aI.size
    have hs2:=HE2.out.size
    rw[Fh.out]at hs1
    simp only[World.size_alloc]at hs2
    have hc0:mG w (w1.alloc (.cells #[.slice a1 ne c1, .slice none 0 0] 28)) (w.heap.size+1+1) w1.heap.size ne (.slice a1 ne c1) (.slice none 0 0) EJ (eH F kk) 0 []:=by
     refine⟨(gu.out.aG dF.out.aI).alloc1,(aj.alloc au _ _).blk (dF.out.aI.blk HB2.out id) id,heap_alloc_new w1 _,by omega,by omega,by omega,dU.nil ((gu.out.aG dF.out.aI).alloc1) _ _,?_,fun q hq=>(by cases hq),rfl,rfl⟩
     exact dF.out.yQ.turn fun b hb hQ=>⟨Below.heap_alloc _ _ _ hb,by have:=Fh.out;omega,by have:=Fh.out;omega,by omega,by simp[Value.ownBlock]⟩
    have EG:=ah (hc0.keep BL.out);clear hc0
    have bF:=ah (fun W (f:aj (fun b=>b=w1.heap.size) w4 W)=>(show W.cell? ⟨w.heap.size,0,none⟩=some (.slice aE n0 cE)∧W.cell? ⟨w.heap.size,1,none⟩=some (.slice aK n cK)∧W.cell? ⟨w.heap.size+1,0,none⟩=some (.slice BJ tu BK)∧W.cell? ⟨w.heap.size+1,1,none⟩=some (.slice xq m xu)from by
     have g0:=BL.out.blk ((aj.alloc au w1 _).blk (dF.out.aI.blk HB0.out id) id) id
     have g1:=BL.out.blk ((aj.alloc au w1 _).blk (dF.out.aI.blk HB1.out id) id) id
     exact⟨f.cell' (aJ g0 0 rfl) (by show ¬w.heap.size=w1.heap.size;omega),f.cell' (aJ g0 1 rfl) (by show ¬w.heap.size=w1.heap.size;omega),f.cell' (aJ g1 0 rfl) (by show ¬w.heap.size+1=w1.heap.size;omega),f.cell' (aJ g1 1 rfl) (by show ¬w.heap.size+1=w1.heap.size;omega)⟩))
    have fH:=ah (fun W (f:aj (fun b=>b=w1.heap.size) w4 W)=>Rd.keep jS.out.rd f (fun b hb h=>by have:=jS.out.new b hb;have h:b=w1.heap.size:=h;omega))
    have EH:w1.heap.size<w4.heap.size:=by have:=jS.out.aI.size;omega
    have Zo:=ah EH;clear EH
    have Zp:=ah hs1;clear hs1
    clear hs2 hlt hk BL HE2 KR fA HX0 yG
    go_loopw [46] (fun iv ww=>∃(i:Nat) (l:List aY) (wS:Value),i≤K∧iv= .int .i64 i∧mG w ww (w.heap.size+1+1) w1.heap.size ne (.slice a1 ne c1) wS EJ (eH F kk) l.length l∧(eH F kk).drop l.length=eH F (kk.drop i)∧aj (fun b=>b=w1.heap.size) w4 ww∧uj w4 wS∧l.length≤i) (fun iv _=>K-(intOf iv).toNat)
    case atStart=>exact⟨0,[],_,Nat.zero_le _,rfl,EG.out,rfl,aj.refl _ _,fun b hb=>by simp[Value.ownBlock]at hb,Nat.le_refl _⟩
    case round=>
     obtain⟨i,l,wS,hik,rfl,hc,hdr,hfr,KT,KQ⟩:=hrel
     obtain⟨av,cv,rfl⟩:=hc.own.at_.shape
     have HC:=ah hc;clear hc
     have HDR:=ah hdr;clear hdr
     have gV:=ah hfr;clear hfr
     have Fj:=ah KT;clear KT
     generalize hp:l.length=p at*
     have HP:=ah hp;clear hp
     by_cases hlt:i<K
     ·have hr:=fH.out wr gV.out
      rcases Rd.shape hr with⟨ad,he,h0⟩|⟨b,off,cc,he,hmax⟩
      ·omega
      injection he with e1 e2 e3
      subst e1 e3
      clear e2
      have hki:i<kk.length:=by rw[pF.out];exact hlt
      have q0:wr.cell? ⟨b,off+i,none⟩=some (.string (kk.getD i ByteArray.empty)):=hr.cell i _ (by rw[List.getElem?_map,List.getElem?_eq_getElem hki,getD_at _ hki];rfl)
      clear hr
      have TV:=ah (getD_mem ByteArray.empty hki)
      have hkd:eH F (kk.drop i)=jL (kk.getD i ByteArray.empty) (F (kk.getD i ByteArray.empty)) (eH F (kk.drop (i+1))):=by rw[Tt hki];rfl
      have Fp:=ah (HDR.out.trans hkd);clear hkd hki
      generalize kk.getD i ByteArray.empty=key at*
      have dV:=ah (show F key=iC hA hB N (ks.find key) (ks'.find key) by rw[HF.out])
      obtain⟨p1,m1,d1,p2,m2,d2,hta,hka⟩:=TS.out key
      obtain⟨p3,m3,d3,p4,m4,d4,htb,hkb⟩:=HKB.out key
      have KU:=ah hka;clear hka
      have Fq:=ah hkb;clear hkb
      have pG:=ah (fun W (f:aj au w W)=>HIH.out key TV.out W f _ _ _ _ hta htb)
      clear hta htb
      rw[←dV.out]at pG
      obtain⟨Es,Ks,KW⟩:∃Es Ks,F key=(Es,Ks):=⟨_,_,rfl⟩
      rw[KW]at pG Fp
      clear dV KW
      obtain⟨s0,s1,s2,s3⟩:=bF.out wr gV.out
      have hb0:=World.block_lt_of_cell? _ _ s0
      have hb1:=World.block_lt_of_cell? _ _ s2
      go_wp2_with fail
      go_cut [15] (fun v15 W1=>TN wr W1 v15 Es Ks)
      case first=>
       have eF:=ah (fun Y (f:aj au wr Y)=>(⟨f,f.cell' s0 id,f.cell' s1 id,f.cell' s2 id,f.cell' s3 id⟩:aj au wr Y∧Y.cell? ⟨w.heap.size,0,none⟩=some (.slice aE n0 cE)∧Y.cell? ⟨w.heap.size,1,none⟩=some (.slice aK n cK)∧Y.cell? ⟨w.heap.size+1,0,none⟩=some (.slice BJ tu BK)∧Y.cell? ⟨w.heap.size+1,1,none⟩=some (.slice xq m xu)))
       refine iZ (S:=fun w'=>aj au wr w'∧w'.cell? ⟨w.heap.size,0,none⟩=some (.slice aE n0 cE)∧w'.cell? ⟨w.heap.size,1,none⟩=some (.slice aK n cK)∧w'.cell? ⟨w.heap.size+1,0,none⟩=some (.slice BJ tu BK)∧w'.cell? ⟨w.heap.size+1,1,none⟩=some (.slice xq m xu)) 10 (by kernel_rfl) (eF.out _ (aj.drew _ _)) ?_
       intro hS
       clear s0 s1 s2 s3 q0 hb0 hb1
       generalize wr.drew=Y at*
       refine aT 0 50 rfl rfl (v:=?_) (.inl ⟨by rfl,?_⟩) ?_
       rotate_left 1
       ·(intro w hSw;(try dsimp only at hSw);go_simp;(try with_reducible rfl))
       refine aT 1 51 rfl rfl (v:=?_) (.inl ⟨by rfl,?_⟩) ?_
       rotate_left 1
       ·(intro w hSw;(try dsimp only at hSw);go_simp;(try with_reducible rfl))
       try simp only[Act.put,aP,aQ,aO]
       refine aT 3 53 rfl rfl (v:=?_) (.inl ⟨by rfl,?_⟩) ?_
       rotate_left 1
       ·(intro w hSw;(try dsimp only at hSw);go_simp;(try with_reducible rfl))
       refine aT 4 54 rfl rfl (v:=?_) (.inl ⟨by rfl,?_⟩) ?_
       rotate_left 1
       ·(intro w hSw;(try dsimp only at hSw);go_simp;(try with_reducible rfl))
       try simp only[Act.put,aP,aQ,aO]
       refine aT 6 56 rfl rfl (v:=?_) (.inl ⟨by rfl,?_⟩) ?_
       rotate_left 1
       ·(intro w hSw;(try dsimp only at hSw);go_simp;(try with_reducible rfl))
       refine aT 7 57 rfl rfl (v:=?_) (.inl ⟨by rfl,?_⟩) ?_
       rotate_left 1
       ·(intro w hSw;(try dsimp only at hSw);go_simp;(try with_reducible rfl))
       try simp only[Act.put,aP,aQ,aO]
       refine sV (i:=2) (j:=9) (by kernel_rfl) rfl rfl (fun K hK=>?_) (fun K hK=>?_)
       ·go_simp
        refine(KU.out _ (HC.out.aI.aG hS.1)).mono ?_
        rintro e2 Y2 ⟨rfl,hf2⟩
        have hS1:=eF.out Y2 (hS.1.aG hf2)
        try replace hM:=hf2.blk hM id
        refine hK.out _ _ hS1 ?_
        clear hK K hS
        have hS:=hS1
        clear hS1 hf2
        generalize Y2=Y at*
        try simp only[Act.put,aP,aQ,aO]
        refine sV (i:=5) (j:=9) (by kernel_rfl) rfl rfl (fun K hK=>?_) (fun K hK=>?_)
        ·go_simp
         refine(Fq.out _ (HC.out.aI.aG hS.1)).mono ?_
         rintro e5 Y5 ⟨rfl,hf2⟩
         have hS1:=eF.out Y5 (hS.1.aG hf2)
         try replace hM:=hf2.blk hM id
         refine hK.out _ _ hS1 ?_
         clear hK K hS
         have hS:=hS1
         clear hS1 hf2
         generalize Y5=Y at*
         try simp only[Act.put,aP,aQ,aO]
         refine sV (i:=8) (j:=9) (by kernel_rfl) rfl rfl (fun K hK=>?_) (fun K hK=>?_)
         ·go_simp
          refine(pG.out _ (HC.out.aI.aG hS.1)).mono ?_
          rintro e8 Y8 ⟨oU,jB,rfl,hta,hf3⟩
          obtain⟨a5,c5,rfl⟩:=hta.ents.rd.sl
          obtain⟨rQ,hk5,-⟩:=hta.kids
          obtain⟨a6,c6,rfl⟩:=hk5.rd.sl
          clear hk5
          have hS1:=eF.out Y8 (hS.1.aG hf3)
          have hsz:=hS.1.size
          first
           |(have hT:bg (fun b=>wr.heap.size≤b∧b≠mb) Y8 (.slice a5 Es.length c5) (.slice a6 Ks.len c6) Es Ks:=hta.turn fun b hb hQ=>⟨rfl,by omega,by have:=lt_of_block hM;omega⟩;replace hM:=hf3.blk hM id)
           |(have hT:bg (fun b=>wr.heap.size≤b) Y8 (.slice a5 Es.length c5) (.slice a6 Ks.len c6) Es Ks:=hta.turn fun b hb hQ=>⟨rfl,by omega⟩)
          refine hK.out _ _ hS1 ?_
          clear hK K hS hta hf3 hsz
          have hS:=hS1
          clear hS1
          generalize Y8=Y at*
          try simp only[Act.put,aP,aQ,aO]
          refine bK (i:=9) (by kernel_rfl) rfl (fun K hK=>?_)
          go_simp
          have hf:aj au Y (Y.alloc (.cells #[.slice none 0 0, .slice none 0 0] 28)):=aj.alloc _ _ _
          have hM:=heap_alloc_new Y (.cells #[.slice none 0 0, .slice none 0 0] 28)
          have hS1:=eF.out _ (hS.1.aG hf)
          obtain⟨mb,hmb⟩:∃mb,Y.heap.size=mb:=⟨_,rfl⟩
          have hmw:wr.heap.size≤mb:=by have:=hS.1.size;omega
          try replace hT:bg (fun b=>wr.heap.size≤b∧b≠mb) (Y.alloc (.cells #[.slice none 0 0, .slice none 0 0] 28)) (.slice a5 Es.length c5) (.slice a6 Ks.len c6) Es Ks:=hT.turn fun b hb hQ=>⟨Below.heap_alloc _ _ _ hb,hQ,by omega⟩
          rw[hmb]at hM⊢
          refine hK.out _ _ hS1 ?_
          clear hK K hS hf hmb
          have hS:=hS1
          clear hS1
          generalize Y.alloc (.cells #[.slice none 0 0, .slice none 0 0] 28)=Y at*
          try simp only[Act.put,aP,aQ,aO]
          refine gQ (by kernel_rfl) (by kernel_rfl) rfl (fun K hK=>?_)
          have z0:=aJ hM 0 rfl
          have z1:=aJ hM 1 rfl
          have f0:=bG hM 0
          have f1:=bG hM 1
          go_simp
          refine hK.out _ _ ?_
          clear hK K z0 z1 f0 f1
          obtain⟨r0,r1,r2⟩:=res2 hM hS.1 hmw (.slice a5 Es.length c5) (.slice a6 Ks.len c6)
          go_wp2_with fail
          go_meet
          case rel=>exact⟨mb,_,_,_,_,_,_,rfl,r1,hmw,r0,rfl,rfl,hT.turn fun b hb hQ=>⟨r2 b hQ.2,hQ⟩⟩
         ·go_simp
          have hf:aj au Y (Y.alloc (.cells #[.slice none 0 0, .slice none 0 0] 28)):=aj.alloc _ _ _
          have hM:=heap_alloc_new Y (.cells #[.slice none 0 0, .slice none 0 0] 28)
          have hS1:=eF.out _ (hS.1.aG hf)
          obtain⟨mb,hmb⟩:∃mb,Y.heap.size=mb:=⟨_,rfl⟩
          have hmw:wr.heap.size≤mb:=by have:=hS.1.size;omega
          try replace hT:bg (fun b=>wr.heap.size≤b∧b≠mb) (Y.alloc (.cells #[.slice none 0 0, .slice none 0 0] 28)) (.slice a5 Es.length c5) (.slice a6 Ks.len c6) Es Ks:=hT.turn fun b hb hQ=>⟨Below.heap_alloc _ _ _ hb,hQ,by omega⟩
          rw[hmb]at hM⊢
          refine hK.out _ _ hS1 ?_
          clear hK K hS hf hmb
          have hS:=hS1
          clear hS1
          generalize Y.alloc (.cells #[.slice none 0 0, .slice none 0 0] 28)=Y at*
          try simp only[Act.put,aP,aQ,aO]
          refine bK (i:=8) (by kernel_rfl) rfl (fun K hK=>?_)
          go_simp
          refine(pG.out _ (HC.out.aI.aG hS.1)).mono ?_
          rintro e8 Y8 ⟨oU,jB,rfl,hta,hf3⟩
          obtain⟨a5,c5,rfl⟩:=hta.ents.rd.sl
          obtain⟨rQ,hk5,-⟩:=hta.kids
          obtain⟨a6,c6,rfl⟩:=hk5.rd.sl
          clear hk5
          have hS1:=eF.out Y8 (hS.1.aG hf3)
          have hsz:=hS.1.size
          first
           |(have hT:bg (fun b=>wr.heap.size≤b∧b≠mb) Y8 (.slice a5 Es.length c5) (.slice a6 Ks.len c6) Es Ks:=hta.turn fun b hb hQ=>⟨rfl,by omega,by have:=lt_of_block hM;omega⟩;replace hM:=hf3.blk hM id)
           |(have hT:bg (fun b=>wr.heap.size≤b) Y8 (.slice a5 Es.length c5) (.slice a6 Ks.len c6) Es Ks:=hta.turn fun b hb hQ=>⟨rfl,by omega⟩)
          refine hK.out _ _ hS1 ?_
          clear hK K hS hta hf3 hsz
          have hS:=hS1
          clear hS1
          generalize Y8=Y at*
          try simp only[Act.put,aP,aQ,aO]
          refine gQ (by kernel_rfl) (by kernel_rfl) rfl (fun K hK=>?_)
          have z0:=aJ hM 0 rfl
          have z1:=aJ hM 1 rfl
          have f0:=bG hM 0
          have f1:=bG hM 1
          go_simp
          refine hK.out _ _ ?_
          clear hK K z0 z1 f0 f1
          obtain⟨r0,r1,r2⟩:=res2 hM hS.1 hmw (.slice a5 Es.length c5) (.slice a6 Ks.len c6)
          go_wp2_with fail
          go_meet
          case rel=>exact⟨mb,_,_,_,_,_,_,rfl,r1,hmw,r0,rfl,rfl,hT.turn fun b hb hQ=>⟨r2 b hQ.2,hQ⟩⟩
        ·go_simp
         have hf:aj au Y (Y.alloc (.cells #[.slice none 0 0, .slice none 0 0] 28)):=aj.alloc _ _ _
         have hM:=heap_alloc_new Y (.cells #[.slice none 0 0, .slice none 0 0] 28)
         have hS1:=eF.out _ (hS.1.aG hf)
         obtain⟨mb,hmb⟩:∃mb,Y.heap.size=mb:=⟨_,rfl⟩
         have hmw:wr.heap.size≤mb:=by have:=hS.1.size;omega
         try replace hT:bg (fun b=>wr.heap.size≤b∧b≠mb) (Y.alloc (.cells #[.slice none 0 0, .slice none 0 0] 28)) (.slice a5 Es.length c5) (.slice a6 Ks.len c6) Es Ks:=hT.turn fun b hb hQ=>⟨Below.heap_alloc _ _ _ hb,hQ,by omega⟩
         rw[hmb]at hM⊢
         refine hK.out _ _ hS1 ?_
         clear hK K hS hf hmb
         have hS:=hS1
         clear hS1
         generalize Y.alloc (.cells #[.slice none 0 0, .slice none 0 0] 28)=Y at*
         try simp only[Act.put,aP,aQ,aO]
         refine bK (i:=5) (by kernel_rfl) rfl (fun K hK=>?_)
         go_simp
         refine(Fq.out _ (HC.out.aI.aG hS.1)).mono ?_
         rintro e5 Y5 ⟨rfl,hf2⟩
         have hS1:=eF.out Y5 (hS.1.aG hf2)
         try replace hM:=hf2.blk hM id
         refine hK.out _ _ hS1 ?_
         clear hK K hS
         have hS:=hS1
         clear hS1 hf2
         generalize Y5=Y at*
         try simp only[Act.put,aP,aQ,aO]
         refine bK (i:=8) (by kernel_rfl) rfl (fun K hK=>?_)
         go_simp
         refine(pG.out _ (HC.out.aI.aG hS.1)).mono ?_
         rintro e8 Y8 ⟨oU,jB,rfl,hta,hf3⟩
         obtain⟨a5,c5,rfl⟩:=hta.ents.rd.sl
         obtain⟨rQ,hk5,-⟩:=hta.kids
         obtain⟨a6,c6,rfl⟩:=hk5.rd.sl
         clear hk5
         have hS1:=eF.out Y8 (hS.1.aG hf3)
         have hsz:=hS.1.size
         first
          |(have hT:bg (fun b=>wr.heap.size≤b∧b≠mb) Y8 (.slice a5 Es.length c5) (.slice a6 Ks.len c6) Es Ks:=hta.turn fun b hb hQ=>⟨rfl,by omega,by have:=lt_of_block hM;omega⟩;replace hM:=hf3.blk hM id)
          |(have hT:bg (fun b=>wr.heap.size≤b) Y8 (.slice a5 Es.length c5) (.slice a6 Ks.len c6) Es Ks:=hta.turn fun b hb hQ=>⟨rfl,by omega⟩)
         refine hK.out _ _ hS1 ?_
         clear hK K hS hta hf3 hsz
         have hS:=hS1
         clear hS1
         generalize Y8=Y at*
         try simp only[Act.put,aP,aQ,aO]
         refine gQ (by kernel_rfl) (by kernel_rfl) rfl (fun K hK=>?_)
         have z0:=aJ hM 0 rfl
         have z1:=aJ hM 1 rfl
         have f0:=bG hM 0
         have f1:=bG hM 1
         go_simp
         refine hK.out _ _ ?_
         clear hK K z0 z1 f0 f1
         obtain⟨r0,r1,r2⟩:=res2 hM hS.1 hmw (.slice a5 Es.length c5) (.slice a6 Ks.len c6)
         go_wp2_with fail
         go_meet
         case rel=>exact⟨mb,_,_,_,_,_,_,rfl,r1,hmw,r0,rfl,rfl,hT.turn fun b hb hQ=>⟨r2 b hQ.2,hQ⟩⟩
       ·go_simp
        have hf:aj au Y (Y.alloc (.cells #[.slice none 0 0, .slice none 0 0] 28)):=aj.alloc _ _ _
        have hM:=heap_alloc_new Y (.cells #[.slice none 0 0, .slice none 0 0] 28)
        have hS1:=eF.out _ (hS.1.aG hf)
        obtain⟨mb,hmb⟩:∃mb,Y.heap.size=mb:=⟨_,rfl⟩
        have hmw:wr.heap.size≤mb:=by have:=hS.1.size;omega
        try replace hT:bg (fun b=>wr.heap.size≤b∧b≠mb) (Y.alloc (.cells #[.slice none 0 0, .slice none 0 0] 28)) (.slice a5 Es.length c5) (.slice a6 Ks.len c6) Es Ks:=hT.turn fun b hb hQ=>⟨Below.heap_alloc _ _ _ hb,hQ,by omega⟩
        rw[hmb]at hM⊢
        refine hK.out _ _ hS1 ?_
        clear hK K hS hf hmb
        have hS:=hS1
        clear hS1
        generalize Y.alloc (.cells #[.slice none 0 0, .slice none 0 0] 28)=Y at*
        try simp only[Act.put,aP,aQ,aO]
        refine bK (i:=2) (by kernel_rfl) rfl (fun K hK=>?_)
        go_simp
        refine(KU.out _ (HC.out.aI.aG hS.1)).mono ?_
        rintro e2 Y2 ⟨rfl,hf2⟩
        have hS1:=eF.out Y2 (hS.1.aG hf2)
        try replace hM:=hf2.blk hM id
        refine hK.out _ _ hS1 ?_
        clear hK K hS
        have hS:=hS1
        clear hS1 hf2
        generalize Y2=Y at*
        try simp only[Act.put,aP,aQ,aO]
        refine bK (i:=5) (by kernel_rfl) rfl (fun K hK=>?_)
        go_simp
        refine(Fq.out _ (HC.out.aI.aG hS.1)).mono ?_
        rintro e5 Y5 ⟨rfl,hf2⟩
        have hS1:=eF.out Y5 (hS.1.aG hf2)
        try replace hM:=hf2.blk hM id
        refine hK.out _ _ hS1 ?_
        clear hK K hS
        have hS:=hS1
        clear hS1 hf2
        generalize Y5=Y at*
        try simp only[Act.put,aP,aQ,aO]
        refine bK (i:=8) (by kernel_rfl) rfl (fun K hK=>?_)
        go_simp
        refine(pG.out _ (HC.out.aI.aG hS.1)).mono ?_
        rintro e8 Y8 ⟨oU,jB,rfl,hta,hf3⟩
        obtain⟨a5,c5,rfl⟩:=hta.ents.rd.sl
        obtain⟨rQ,hk5,-⟩:=hta.kids
        obtain⟨a6,c6,rfl⟩:=hk5.rd.sl
        clear hk5
        have hS1:=eF.out Y8 (hS.1.aG hf3)
        have hsz:=hS.1.size
        first
         |(have hT:bg (fun b=>wr.heap.size≤b∧b≠mb) Y8 (.slice a5 Es.length c5) (.slice a6 Ks.len c6) Es Ks:=hta.turn fun b hb hQ=>⟨rfl,by omega,by have:=lt_of_block hM;omega⟩;replace hM:=hf3.blk hM id)
         |(have hT:bg (fun b=>wr.heap.size≤b) Y8 (.slice a5 Es.length c5) (.slice a6 Ks.len c6) Es Ks:=hta.turn fun b hb hQ=>⟨rfl,by omega⟩)
        refine hK.out _ _ hS1 ?_
        clear hK K hS hta hf3 hsz
        have hS:=hS1
        clear hS1
        generalize Y8=Y at*
        try simp only[Act.put,aP,aQ,aO]
        refine gQ (by kernel_rfl) (by kernel_rfl) rfl (fun K hK=>?_)
        have z0:=aJ hM 0 rfl
        have z1:=aJ hM 1 rfl
        have f0:=bG hM 0
        have f1:=bG hM 1
        go_simp
        refine hK.out _ _ ?_
        clear hK K z0 z1 f0 f1
        obtain⟨r0,r1,r2⟩:=res2 hM hS.1 hmw (.slice a5 Es.length c5) (.slice a6 Ks.len c6)
        go_wp2_with fail
        go_meet
        case rel=>exact⟨mb,_,_,_,_,_,_,rfl,r1,hmw,r0,rfl,rfl,hT.turn fun b hb hQ=>⟨r2 b hQ.2,hQ⟩⟩
      case rest=>
       obtain⟨mb,a5,n5,c5,a6,n6,c6,rfl,hf1,hmb,hM,rfl,rfl,hT⟩:=hcut
       have KX:=ah (HC.out.keep hf1)
       have Fv:=ah (gV.out.aG hf1)
       clear s0 s1 s2 s3 q0 hb0 hb1
       have HM:=ah hM;clear hM
       have HT:=ah hT;clear hT
       have Zq:=ah hmb;clear hmb
       have dB:=ah hf1;clear hf1
       have kJ:=ah (fun W=>(show Calls Tryz.prog 113 #[.agg #[.slice a5 Es.length c5, .slice a6 Ks.len c6]] W fun e w'=>e= .returned (.bool (isNil Es Ks))∧aj au W w' from empty_any a5 a6 Es.length Ks.len c5 c6 W))
       have x0:=aJ HM.out 0 rfl
       have x1:=aJ HM.out 1 rfl
       have hml:=lt_of_block HM.out
       obtain⟨wv,rfl⟩:∃w5,w5=wc:=⟨_,rfl⟩
       have Zr:=ah (rfl:isNil Es Ks=isNil Es Ks)
       cases hn:isNil Es Ks with
       |true=>
        have uX:=ah (Fp.out.trans (show jL key (Es,Ks) (eH F (kk.drop (i+1)))=eH F (kk.drop (i+1)) by unfold jL;rw[if_pos hn]))
        rw[hn]at kJ
        clear hn
        go_wp2_with(go_at_call 113;refine(kJ.out _).mono ?_;rintro e w7 ⟨rfl,hw7⟩;have qK:=ah hw7;clear hw7)
        go_roundw
        case rel=>exact⟨i+1,l,_,by omega,by go_num,by rw[HP.out];exact KX.out.keep qK.out,by rw[HP.out];exact uX.out,Fv.out.aG qK.out,Fj.out,by rw[HP.out];omega⟩
        case measure=>simp[intOf];omega
       |false=>
        have uX:=ah (Fp.out.trans (show jL key (Es,Ks) (eH F (kk.drop (i+1)))= .cons key Es Ks (eH F (kk.drop (i+1))) by unfold jL;rw[if_neg (by rw[hn];simp)]))
        rw[hn]at kJ
        clear hn
        generalize hel:Es.length=n5 at*
        generalize hkl:Ks.len=n6 at*
        have Zt:p≤8000:=by omega
        go_wp2_with(first
         |(go_at_call 113;refine(kJ.out _).mono ?_;rintro e w7 ⟨rfl,hw7⟩;have qK:=ah hw7;clear hw7 x0 x1;have pI:=ah (KX.out.keep qK.out);have x0:=aJ (qK.out.blk HM.out id) 0 rfl;have x1:=aJ (qK.out.blk HM.out id) 1 rfl;have y1:=aJ pI.out.b3 1 rfl;have hl3:=lt_of_block pI.out.b3;have KY:=lt_of_block (qK.out.blk HM.out id))
         |(at_builtin;refine Js (fun b=>b<w7.heap.size∧(Value.slice av p cv).ownBlock≠some b) w w7 [.string key, .slice a5 n5 c5, .slice a6 n6 c6] rfl (.tmp 63) (.tmp 67) 26 rfl 52 j0 _ 3 64 Tryz.underlying26 hj hy0 hy1 hy2 (by decide) (by decide) (.slice av p cv) p _ ⟨pI.out.own.at_,fun b hb hn=>hn.2 hb⟩ (fun b hb=>hb.1) 1 1 rfl (by simp[Act.eval]) rfl (by simp[Value.oneCell']) (by simp only[maxLen];omega) (by omega) ?_;intro ad jd w8 bn gG;have zq:=ah bn;clear bn;have BM:=ah gG;clear gG;clear y1;have hcz:=BM.out.cell (p:=⟨w1.heap.size,1,none⟩) ⟨hl3,fun h=>pI.out.own.but _ h (.inr rfl)⟩ (aJ pI.out.b3 1 rfl);have hcf:=BM.out.frozen (p:=⟨w1.heap.size,1,none⟩) ⟨hl3,fun h=>pI.out.own.but _ h (.inr rfl)⟩ (bG pI.out.b3 1)))
        have hfm:aj (bY (.slice av p cv)) w7 w8:=⟨zq.out.at_.aI.os.trans pI.out.aI.os.symm,zq.out.at_.aI.tape.trans pI.out.aI.tape.symm,zq.out.at_.aI.output.trans pI.out.aI.output.symm,BM.out.1,fun b hb hn=>BM.out.2 b ⟨hb,hn⟩⟩
        have Fz:jk w7 (.slice av p cv) (.slice ad (p+1) jd):=fun b hb=>by
         by_cases h1:(Value.slice av p cv).ownBlock=some b
         ·exact .inl h1
         ·refine .inr ?_
          have:=zq.out.but b hb
          rcases Nat.lt_or_ge b w7.heap.size with h2|h2
          ·exact absurd ⟨h2,h1⟩ this
          ·exact h2
        have hq3:bg (sU w (w.heap.size+1+1) w1.heap.size (.slice av p cv)) w7 (.slice a5 n5 c5) (.slice a6 n6 c6) Es Ks:=(HT.out.aN qK.out).turn fun b hb hQ=>by
         have g1:=HC.out.aI.size
         have g2:=lt_of_block HC.out.b3
         have g3:=lt_of_block HC.out.b2
         refine⟨rfl,by omega,by omega,by omega,fun h=>?_⟩
         have:=HC.out.own.at_.lt b h
         omega
        have uF:=ah (pI.out.step (q:=⟨key,Es,Ks, .slice a5 n5 c5, .slice a6 n6 c6⟩) uX.out hq3 zq.out.at_.own hfm Fz)
        have lT:=ah (((Fv.out.aG qK.out).trans hfm (fun b hb h=>absurd hb (by have:=Fj.out b h;omega))).trans (aj.setCell (S:=fun b=>b=w1.heap.size) w8 (p:=⟨w1.heap.size,1,none⟩) (.inl rfl) (.slice ad (p+1) jd)) fun _ _ h=>h)
        have TW:=ah (show uj w4 (.slice ad (p+1) jd)from fun b hb=>by
         rcases Fz b hb with h|h
         ·exact Fj.out b h
         ·have:=(Fv.out.aG qK.out).size;omega)
        clear hfm Fz hq3
        go_roundw
        case rel=>exact⟨i+1,l++ [⟨key,Es,Ks, .slice a5 n5 c5, .slice a6 n6 c6⟩],_,by omega,by go_num,by rw[List.length_append,HP.out];exact uF.out,by rw[List.length_append,HP.out];exact aH.qY p _ uX.out,lT.out,TW.out,by rw[List.length_append,HP.out];simp;omega⟩
        case measure=>simp[intOf];omega
     ·obtain rfl:K=i:=by omega
      have hdn:(eH F kk).drop p= .nil:=by rw[HDR.out,List.drop_of_length_le (by rw[pF.out];exact Nat.le_refl _)];rfl
      have hpl:(eH F kk).len≤p:=by
       have:=aH.Au p (eH F kk)
       rw[hdn]at this
       simp only[aH.len]at this
       omega
      have hdn:=HC.out.done ji.out.symm hpl
      have jf:=ah hdn;clear hdn hpl
      have y0:=aJ HC.out.b3 0 rfl
      have y1:=aJ HC.out.b3 1 rfl
      have z0:=aJ HC.out.b2 0 rfl
      have z1:=aJ HC.out.b2 1 rfl
      have f0:=bG HC.out.b2 0
      have f1:=bG HC.out.b2 1
      have hl2:=lt_of_block HC.out.b2
      have hl3:=lt_of_block HC.out.b3
      go_wp2
      clear y0 y1 z0 z1
      have y0:=aJ jf.out.2.2 0 rfl
      have y1:=aJ jf.out.2.2 1 rfl
      exact bodyPost_ret (v:= .agg #[.slice a1 ne c1, .slice av p cv]) (by simp[results,Tryz.results77,go_sem,y0,y1]) rfl ⟨_,_,rfl,jf.out.1,jf.out.2.1⟩
open Go.RowKit
noncomputable def nK (es:List aF) (ks:aH) (c:aU) (es':List aF) (ks':aH) (c':aU):List aF×aH:=iC (gq c) (gq c') 5 (es,ks) (es',ks')
def BN (w:World) (es:List aF) (ks:aH) (c:aU) (es':List aF) (ks':aH) (c':aU) (e:Ending) (w':World) (f:Value→Value):Prop:=
 ∃ev kv cv u,e= .returned (f (.agg #[ev,kv,cv]))∧bg (fun b=>w.heap.size≤b) w' ev kv (nK es ks c es' ks' c').1 (nK es ks c es' ks' c').2∧OwnAt w w' 92 3 cv u.length (cO u)∧iO 0 c c' u
theorem TY (Q Q':Nat→Prop) (es:List aF) (ks:aH) (c:aU) (es':List aF) (ks':aH) (c':aU) (w:World) (ev kv cv ev' kv' i_:Value) (h:fP Q w ev kv cv es ks c) (h':fP Q' w ev' kv' i_ es' ks' c')
 (hok:jW es ks c) (hok':jW es' ks' c') (hr:f_ es ks c) (hr':f_ es' ks' c'):
 Calls Tryz.prog 49 #[.agg #[ev,kv,cv], .agg #[ev',kv',i_]] w fun e w'=>BN w es ks c es' ks' c' e w' id:=by
 obtain⟨a0,c0,a1,c1,a2,c2,rfl,rfl,rfl⟩:=h.shape
 obtain⟨d0,k0,d1,k1,d2,k2,rfl,rfl,rfl⟩:=h'.shape
 have HT:=ah (fun W (f:aj au w W)=>TP Q Q' c c' hok.fits hok'.fits hr.ctx hr'.ctx (by have:=hok.len;omega) (by have:=hok'.len;omega) 5 es ks es' ks' W _ _ _ _ _ _ (h.tree.aN f) (h'.tree.aN f) (Rd.aN h.ctx f) (Rd.aN h'.ctx f) hr.tree hr'.tree (by have:=hok.small;omega) (by have:=hok'.small;omega))
 have HU:=ah (fun W (f:aj au w W)=>Rh W _ _ c c' (Rd.aN h.ctx f) (Rd.aN h'.ctx f) hok.fits hok'.fits hr.ctx hr'.ctx (by have:=hok.len;omega) (by have:=hok'.len;omega))
 clear h h' hok hok' hr hr'
 obtain⟨J,hJ⟩:∃J,J=nK es ks c es' ks' c':=⟨_,rfl⟩
 unfold BN
 rw[←hJ]
 have hJ2:iC (gq c) (gq c') 5 (es,ks) (es',ks')=J:=hJ.symm
 rw[hJ2]at HT
 clear hJ hJ2
 generalize es.length=n0 at*
 generalize ks.len=n1 at*
 generalize c.length=n2 at*
 generalize es'.length=m0 at*
 generalize ks'.len=m1 at*
 generalize c'.length=m2 at*
 obtain⟨hf0,hs0,hb0,hb1,hb2⟩:=Fg w #[.slice a0 n0 c0, .slice a1 n1 c1, .slice a2 n2 c2] #[.slice d0 m0 k0, .slice d1 m1 k1, .slice d2 m2 k2] #[.slice none 0 0, .slice none 0 0, .slice none 0 0] 32 32 32
 have eF:=ah (fun W (f:aj au (((w.alloc (.cells #[.slice a0 n0 c0, .slice a1 n1 c1, .slice a2 n2 c2] 32)).alloc (.cells #[.slice d0 m0 k0, .slice d1 m1 k1, .slice d2 m2 k2] 32)).alloc (.cells #[.slice none 0 0, .slice none 0 0, .slice none 0 0] 32)) W)=>
  (⟨f.cell' (aJ hb0 0 rfl) id,f.cell' (aJ hb0 1 rfl) id,f.cell' (aJ hb0 2 rfl) id,f.cell' (aJ hb1 0 rfl) id,f.cell' (aJ hb1 1 rfl) id,f.cell' (aJ hb1 2 rfl) id⟩:
    W.cell? ⟨w.heap.size,0,none⟩=some (.slice a0 n0 c0)∧W.cell? ⟨w.heap.size,1,none⟩=some (.slice a1 n1 c1)∧W.cell? ⟨w.heap.size,2,none⟩=some (.slice a2 n2 c2)∧W.cell? ⟨w.heap.size+1,0,none⟩=some (.slice d0 m0 k0)∧W.cell? ⟨w.heap.size+1,1,none⟩=some (.slice d1 m1 k1)∧W.cell? ⟨w.heap.size+1,2,none⟩=some (.slice d2 m2 k2)))
 have gu:=ah hf0;clear hf0
 have HB2:=ah hb2
 clear hb0 hb1 hb2 hs0
 go_enter Tryz.func49,Tryz.ntmps49
 go_wp2_with fail
 refine iZ (S:=fun W=>W.cell? ⟨w.heap.size,0,none⟩=some (.slice a0 n0 c0)∧W.cell? ⟨w.heap.size,1,none⟩=some (.slice a1 n1 c1)∧W.cell? ⟨w.heap.size,2,none⟩=some (.slice a2 n2 c2)∧W.cell? ⟨w.heap.size+1,0,none⟩=some (.slice d0 m0 k0)∧W.cell? ⟨w.heap.size+1,1,none⟩=some (.slice d1 m1 k1)∧W.cell? ⟨w.heap.size+1,2,none⟩=some (.slice d2 m2 k2)) 15 (by kernel_rfl) (eF.out _ (aj.drew _ _)) ?_
 intro hS
 obtain⟨Z,hZ⟩:∃Z,Z=((w.alloc (.cells #[.slice a0 n0 c0, .slice a1 n1 c1, .slice a2 n2 c2] 32)).alloc (.cells #[.slice d0 m0 k0, .slice d1 m1 k1, .slice d2 m2 k2] 32)).alloc (.cells #[.slice none 0 0, .slice none 0 0, .slice none 0 0] 32):=⟨_,rfl⟩
 rw[←hZ]at eF gu HB2 hS⊢
 clear hZ
 have FB:=ah (aj.drew au Z)
 generalize Z.drew=Y at*
 refine aT 0 5 rfl rfl (v:=?_) (.inl ⟨by rfl,?_⟩) ?_
 rotate_left 1
 ·(intro w hSw;(try dsimp only at hSw);go_simp;(try with_reducible rfl))
 refine aT 1 6 rfl rfl (v:=?_) (.inl ⟨by rfl,?_⟩) ?_
 rotate_left 1
 ·(intro w hSw;(try dsimp only at hSw);go_simp;(try with_reducible rfl))
 try simp only[Act.put,aP,aQ,aO]
 refine aT 2 7 rfl rfl (v:=?_) (.inl ⟨by rfl,?_⟩) ?_
 rotate_left 1
 ·(intro w hSw;(try dsimp only at hSw);go_simp;(try with_reducible rfl))
 refine aT 3 8 rfl rfl (v:=?_) (.inl ⟨by rfl,?_⟩) ?_
 rotate_left 1
 ·(intro w hSw;(try dsimp only at hSw);go_simp;(try with_reducible rfl))
 try simp only[Act.put,aP,aQ,aO]
 refine aT 4 9 rfl rfl (v:=?_) (.inl ⟨by rfl,?_⟩) ?_
 rotate_left 1
 ·(intro w hSw;(try dsimp only at hSw);go_simp;(try with_reducible rfl))
 refine aT 5 10 rfl rfl (v:=?_) (.inl ⟨by rfl,?_⟩) ?_
 rotate_left 1
 ·(intro w hSw;(try dsimp only at hSw);go_simp;(try with_reducible rfl))
 try simp only[Act.put,aP,aQ,aO]
 refine aT 6 11 rfl rfl (v:=?_) (.inl ⟨by rfl,?_⟩) ?_
 rotate_left 1
 ·(intro w hSw;(try dsimp only at hSw);go_simp;(try with_reducible rfl))
 refine aT 7 12 rfl rfl (v:=?_) (.inl ⟨by rfl,?_⟩) ?_
 rotate_left 1
 ·(intro w hSw;(try dsimp only at hSw);go_simp;(try with_reducible rfl))
 try simp only[Act.put,aP,aQ,aO]
 refine aT 9 14 rfl rfl (v:=?_) (.inl ⟨by rfl,?_⟩) ?_
 rotate_left 1
 ·(intro w hSw;(try dsimp only at hSw);go_simp;(try with_reducible rfl))
 refine aT 10 15 rfl rfl (v:=?_) (.inl ⟨by rfl,?_⟩) ?_
 rotate_left 1
 ·(intro w hSw;(try dsimp only at hSw);go_simp;(try with_reducible rfl))
 try simp only[Act.put,aP,aQ,aO]
 refine aT 11 16 rfl rfl (v:=?_) (.inl ⟨by rfl,?_⟩) ?_
 rotate_left 1
 ·(intro w hSw;(try dsimp only at hSw);go_simp;(try with_reducible rfl))
 refine aT 12 17 rfl rfl (v:=?_) (.inl ⟨by rfl,?_⟩) ?_
 rotate_left 1
 ·(intro w hSw;(try dsimp only at hSw);go_simp;(try with_reducible rfl))
 try simp only[Act.put,aP,aQ,aO]
 refine bK (i:=8) (by kernel_rfl) rfl (fun K hK=>?_)
 go_simp
 refine(HT.out _ (gu.out.aG FB.out)).mono ?_
 rintro e Y1 ⟨oU,jB,rfl,jh,hf3⟩
 obtain⟨a3,c3,rfl⟩:=jh.ents.rd.sl
 obtain⟨os3,kQ,-⟩:=jh.kids
 obtain⟨a4,c4,rfl⟩:=kQ.rd.sl
 clear kQ
 have HF3:=ah (FB.out.aG hf3)
 have hS1:=eF.out Y1 HF3.out
 refine hK.out _ _ hS1 ?_
 clear hK K hS hf3
 have hS:=hS1
 clear hS1
 have je:=ah jh;clear jh
 try simp only[Act.put,aP,aQ,aO]
 refine bK (i:=13) (by kernel_rfl) rfl (fun K hK=>?_)
 go_simp
 refine(HU.out _ (gu.out.aG HF3.out)).mono ?_
 rintro e Y2 ⟨v5,u,rfl,iG,hby,-⟩
 obtain⟨a5,c5,rfl⟩:=iG.shape
 have iT:=ah iG;clear iG
 have jR:=ah hby;clear hby
 have hS1:=eF.out Y2 (HF3.out.aG iT.out.aI)
 refine hK.out _ _ hS1 ?_
 clear hK K hS
 have hS:=hS1
 clear hS1
 try simp only[Act.put,aP,aQ,aO]
 refine aT 14 19 rfl rfl (v:=?_) (.inl ⟨by rfl,?_⟩) ?_
 rotate_left 1
 ·(intro w hSw;(try dsimp only at hSw);go_simp;(try with_reducible rfl))
 try simp only[Act.put,aP,aQ,aO]
 refine gQ (by kernel_rfl) (by kernel_rfl) rfl (fun K hK=>?_)
 have hblk:=(HF3.out.aG iT.out.aI).blk HB2.out id
 have iH:=ah ((gu.out.aG HF3.out).aG iT.out.aI)
 have HR3:=ah (wV hblk iH.out (by omega) (.slice a3 J.1.length c3) (.slice a4 J.2.len c4) (.slice a5 u.length c5))
 have hs0:=gu.out.size
 have hs3:=FB.out.size
 have hl2:=lt_of_block HB2.out
 have Kv:=lt_of_block hblk
 have HP:=ah ((je.out.aN iT.out.aI).turn (Q':=fun b=>w.heap.size≤b) fun b hb hQ=>⟨HR3.out.2.2 b (by omega),by omega⟩)
 have hown:OwnAt w (((Y2.setCell ⟨w.heap.size+1+1,0,none⟩ (.slice a3 J.1.length c3)).setCell ⟨w.heap.size+1+1,1,none⟩ (.slice a4 J.2.len c4)).setCell ⟨w.heap.size+1+1,2,none⟩ (.slice a5 u.length c5)) 92 3 (.slice a5 u.length c5) u.length (cO u):=by
  have hnew:=iT.out.new
  have hz:=HF3.out.size
  have oW:dU (fun b=>b=w.heap.size+1+1) w Y2 92 3 (.slice a5 u.length c5) u.length (cO u):=⟨iT.out.base (gu.out.aG HF3.out),fun b hb hn=>by have:=hnew b hb;omega⟩
  exact(((oW.set (p:=⟨w.heap.size+1+1,0,none⟩) rfl (by show w.heap.size≤w.heap.size+1+1;omega) _).set (p:=⟨w.heap.size+1+1,1,none⟩) rfl (by show w.heap.size≤w.heap.size+1+1;omega) _).set (p:=⟨w.heap.size+1+1,2,none⟩) rfl (by show w.heap.size≤w.heap.size+1+1;omega) _).at_
 have HOW:=ah hown;clear hown
 have y0:=aJ hblk 0 rfl
 have y1:=aJ hblk 1 rfl
 have y2:=aJ hblk 2 rfl
 have g0:=bG hblk 0
 have g1:=bG hblk 1
 have g2:=bG hblk 2
 clear hS hblk
 go_simp
 refine hK.out _ _ ?_
 clear hK K y0 y1 y2 g0 g1 g2
 go_wp2
 have y0:=aJ HR3.out.1 0 rfl
 have y1:=aJ HR3.out.1 1 rfl
 have y2:=aJ HR3.out.1 2 rfl
 exact bodyPost_ret (v:= .agg #[.slice a3 J.1.length c3, .slice a4 J.2.len c4, .slice a5 u.length c5]) (by simp[results,Tryz.results49,go_sem,y0,y1,y2]) rfl ⟨_,_,_,u,rfl,HP.out,HOW.out,jR.out⟩
theorem T_ (Q Q':Nat→Prop) (es:List aF) (ks:aH) (c:aU) (es':List aF) (ks':aH) (c':aU) (w:World) (ev kv cv ev' kv' i_:Value) (h:fP Q w ev kv cv es ks c) (h':fP Q' w ev' kv' i_ es' ks' c')
 (hok:jW es ks c) (hok':jW es' ks' c') (hr:f_ es ks c) (hr':f_ es' ks' c'):
 Calls Tryz.prog 22 #[.agg #[ev,kv,cv], .agg #[ev',kv',i_]] w fun e w'=>BN w es ks c es' ks' c' e w' fun v=> .tuple #[v, .int .i64 0]:=by
 have HJ:=ah (fun W (f:aj au w W)=>TY Q Q' es ks c es' ks' c' W ev kv cv ev' kv' i_ (h.aN f) (h'.aN f) hok hok' hr hr')
 have HR:=ah (fun W (f:aj au w W)=>dD hr▸sW Q es ks c W ev kv cv (h.aN f) hok)
 have HR2:=ah (fun W (f:aj au w W)=>dD hr'▸sW Q' es' ks' c' W ev' kv' i_ (h'.aN f) hok')
 obtain⟨a0,c0,a1,c1,a2,c2,rfl,rfl,rfl⟩:=h.shape
 obtain⟨d0,k0,d1,k1,d2,k2,rfl,rfl,rfl⟩:=h'.shape
 clear h h' hok hok' hr hr'
 unfold BN at*
 generalize nK es ks c es' ks' c'=J at*
 generalize es.length=n0 at*
 generalize ks.len=n1 at*
 generalize c.length=n2 at*
 generalize es'.length=m0 at*
 generalize ks'.len=m1 at*
 generalize c'.length=m2 at*
 obtain⟨hf0,hs0,hb0,hb1,hb2⟩:=Fg w #[.slice a0 n0 c0, .slice a1 n1 c1, .slice a2 n2 c2] #[.slice d0 m0 k0, .slice d1 m1 k1, .slice d2 m2 k2] #[.slice none 0 0, .slice none 0 0, .slice none 0 0] 32 32 32
 have eF:=ah (fun W (f:aj au (((w.alloc (.cells #[.slice a0 n0 c0, .slice a1 n1 c1, .slice a2 n2 c2] 32)).alloc (.cells #[.slice d0 m0 k0, .slice d1 m1 k1, .slice d2 m2 k2] 32)).alloc (.cells #[.slice none 0 0, .slice none 0 0, .slice none 0 0] 32)) W)=>
  (⟨f.cell' (aJ hb0 0 rfl) id,f.cell' (aJ hb0 1 rfl) id,f.cell' (aJ hb0 2 rfl) id,f.cell' (aJ hb1 0 rfl) id,f.cell' (aJ hb1 1 rfl) id,f.cell' (aJ hb1 2 rfl) id⟩:W.cell? ⟨w.heap.size,0,none⟩=some (.slice a0 n0 c0)∧W.cell? ⟨w.heap.size,1,none⟩=some (.slice a1 n1 c1)∧W.cell? ⟨w.heap.size,2,none⟩=some (.slice a2 n2 c2)∧W.cell? ⟨w.heap.size+1,0,none⟩=some (.slice d0 m0 k0)∧W.cell? ⟨w.heap.size+1,1,none⟩=some (.slice d1 m1 k1)∧W.cell? ⟨w.heap.size+1,2,none⟩=some (.slice d2 m2 k2)))
 have gu:=ah hf0;clear hf0
 have HB2:=ah hb2
 have HZ0:=ah hs0
 clear hb0 hb1 hb2 hs0
 go_enter Tryz.func22,Tryz.ntmps22
 go_wp2_with(first
  |(go_at_call_of 40 a0;refine(HR.out _ gu.out).mono ?_;rintro e w1 ⟨rfl,hw1⟩;obtain⟨y0,y1,y2,y3,y4,y5⟩:=eF.out w1 hw1;have hl0:=World.block_lt_of_cell? _ _ y0;have hl1:=World.block_lt_of_cell? _ _ y3;have HW1:=ah hw1;clear hw1)
  |(go_at_call_of 40 d0;refine(HR2.out _ (gu.out.aG HW1.out)).mono ?_;rintro e w2 ⟨rfl,hw2⟩;clear y0 y1 y2 y3 y4 y5 hl0 hl1;obtain⟨y0,y1,y2,y3,y4,y5⟩:=eF.out w2 (HW1.out.aG hw2);have hl0:=World.block_lt_of_cell? _ _ y0;have hl1:=World.block_lt_of_cell? _ _ y3;have HW2:=ah (HW1.out.aG hw2);clear hw2)
  |(go_at_call 49;refine(HJ.out _ (gu.out.aG HW2.out)).mono ?_;rintro e w3 ⟨oU,jB,oD,u,rfl,hta,ho,hby⟩;obtain⟨a3,c3,rfl⟩:=hta.ents.rd.sl;obtain⟨os3,kQ,-⟩:=hta.kids;obtain⟨a4,c4,rfl⟩:=kQ.rd.sl;obtain⟨a5,c5,rfl⟩:=ho.shape;clear kQ y0 y1 y2 y3 y4 y5 hl0 hl1;have je:=ah hta;clear hta;have HO:=ah ho;clear ho;have jR:=ah hby;clear hby;have HW3:=ah (HW2.out.aG HO.out.aI);have hblk:=HW3.out.blk HB2.out id;have z0:=aJ hblk 0 rfl;have z1:=aJ hblk 1 rfl;have z2:=aJ hblk 2 rfl;have g0:=bG hblk 0;have g1:=bG hblk 1;have g2:=bG hblk 2;have hl2:=lt_of_block hblk;have fF:=ah hblk;clear hblk))
 clear z0 z1 z2 g0 g1 g2
 have iH:=ah (gu.out.aG HW3.out)
 have HR3:=ah (wV fF.out iH.out (by omega) (.slice a3 J.1.length c3) (.slice a4 J.2.len c4) (.slice a5 u.length c5))
 have hs0:=gu.out.size
 have hs2:=HW2.out.size
 have hz:=HZ0.out
 have HP:=ah (je.out.turn (Q':=fun b=>w.heap.size≤b) fun b hb hQ=>⟨HR3.out.2.2 b (by omega),by omega⟩)
 have hown:OwnAt w (((w3.setCell ⟨w.heap.size+1+1,0,none⟩ (.slice a3 J.1.length c3)).setCell ⟨w.heap.size+1+1,1,none⟩ (.slice a4 J.2.len c4)).setCell ⟨w.heap.size+1+1,2,none⟩ (.slice a5 u.length c5)) 92 3 (.slice a5 u.length c5) u.length (cO u):=by
  have hnew:=HO.out.new
  have oW:dU (fun b=>b=w.heap.size+1+1) w w3 92 3 (.slice a5 u.length c5) u.length (cO u):=⟨HO.out.base (gu.out.aG HW2.out),fun b hb hn=>by have:=hnew b hb;omega⟩
  exact(((oW.set (p:=⟨w.heap.size+1+1,0,none⟩) rfl (by show w.heap.size≤w.heap.size+1+1;omega) _).set (p:=⟨w.heap.size+1+1,1,none⟩) rfl (by show w.heap.size≤w.heap.size+1+1;omega) _).set (p:=⟨w.heap.size+1+1,2,none⟩) rfl (by show w.heap.size≤w.heap.size+1+1;omega) _).at_
 have y0:=aJ HR3.out.1 0 rfl
 have y1:=aJ HR3.out.1 1 rfl
 have y2:=aJ HR3.out.1 2 rfl
 exact bodyPost_ret (v:= .tuple #[.agg #[.slice a3 J.1.length c3, .slice a4 J.2.len c4, .slice a5 u.length c5], .int .i64 0]) (by simp[results,Tryz.results22,go_sem,y0,y1,y2]) rfl ⟨_,_,_,u,rfl,HP.out,hown,jR.out⟩
end Go.Proofs.YtlhmbkjdfjoilaaGreat
