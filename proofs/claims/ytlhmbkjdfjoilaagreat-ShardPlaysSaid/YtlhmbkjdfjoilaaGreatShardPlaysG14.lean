/- Words for the law ShardPlays: CaTrees, CaJoin. -/
import Derived.Test.YtlhmbkjdfjoilaaGreatShardPlaysG0
import Derived.Test.YtlhmbkjdfjoilaaGreatShardPlaysG8
import Derived.Test.YtlhmbkjdfjoilaaGreatShardPlaysG11
import Derived.Test.YtlhmbkjdfjoilaaGreatShardPlaysG13
set_option linter.unusedSimpArgs false
set_option linter.unusedVariables false
set_option maxHeartbeats 32000000
set_option maxRecDepth 1000000
namespace Go.Proofs.YtlhmbkjdfjoilaaGreat
open Go.RowKit
theorem oD (w:World) (c0 c1 c2:Array Value) (T0 T1 T2:TypeId):aj aF w (((w.alloc (.cells c0 T0)).alloc (.cells c1 T1)).alloc (.cells c2 T2))∧(((w.alloc (.cells c0 T0)).alloc (.cells c1 T1)).alloc (.cells c2 T2)).heap.size=w.heap.size+1+1+1∧
 (((w.alloc (.cells c0 T0)).alloc (.cells c1 T1)).alloc (.cells c2 T2)).heap[w.heap.size]?=some (.cells c0 T0 (0,0))∧(((w.alloc (.cells c0 T0)).alloc (.cells c1 T1)).alloc (.cells c2 T2)).heap[w.heap.size+1]?=some (.cells c1 T1 (0,0))∧
 (((w.alloc (.cells c0 T0)).alloc (.cells c1 T1)).alloc (.cells c2 T2)).heap[w.heap.size+1+1]?=some (.cells c2 T2 (0,0)):=by
 refine⟨((aj.alloc _ _ _).alloc1).alloc1,by simp,?_,?_,?_⟩
 ·rw[Below.heap_alloc _ _ _ (by simp;omega),Below.heap_alloc _ _ _ (by simp)];exact heap_alloc_new w _
 ·rw[Below.heap_alloc _ _ _ (by simp)]
  have:=heap_alloc_new (w.alloc (.cells c0 T0)) (.cells c1 T1)
  simpa using this
 ·have:=heap_alloc_new ((w.alloc (.cells c0 T0)).alloc (.cells c1 T1)) (.cells c2 T2)
  simpa using this
def ac' (wr W:World) (v:Value) (es:List aQ) (ks:aT):Prop:=∃mb a n c a' n' c',v= .pointer (some ⟨mb,0,none⟩)∧aj aF wr W∧wr.heap.size≤mb∧W.heap[mb]?=some (.cells #[.slice a n c, .slice a' n' c'] 28 (0,0))∧n=es.length∧n'=ks.len∧bZ (fun b=>wr.heap.size≤b∧b≠mb) W (.slice a n c) (.slice a' n' c') es ks
theorem ada (Q Q':Nat→Prop) (ca cb:bD) (fa:kU ca) (fb:kU cb) (ra:eP ca) (rb:eP cb) (lca:ca.length≤100000) (Kz:cb.length≤100000):∀(N:Nat) (es:List aQ) (ks:aT) (es':List aQ) (ks':aT) (w:World) (ev kv ev' kv' zi zk:Value),
 bZ Q w ev kv es ks→bZ Q' w ev' kv' es' ks'→je w zi ca→je w zk cb→bM N es ks=true→bM N es' ks'=true→sizeT es ks≤4000→sizeT es' ks'≤4000→
 Calls Tryz.prog 77 #[.agg #[ev,kv], .agg #[ev',kv'],zi,zk] w (Kq w (jM (eU ca) (eU cb) N (es,ks) (es',ks')).1 (jM (eU ca) (eU cb) N (es,ks) (es',ks')).2):=by
 intro N
 induction N with
 |zero=>intro es ks es' ks' w ev kv ev' kv' zi zk _ _ _ _ h;simp[bM]at h
 |succ N jH=>
  intro es ks es' ks' w ev kv ev' kv' zi zk ha hb hca hcb hra hrb hsa hsb
  obtain⟨i0,hi,hz0,hz1,hz2⟩:=info_parts Pv
  obtain⟨j0,hj,hy0,hy1,hy2⟩:=info_parts BO
  obtain⟨rea,KE⟩:=oZ hra
  obtain⟨reb,KF⟩:=oZ hrb
  have oa:=(qO _ _ _ KE).1
  have ob:=(qO _ _ _ KF).1
  have hla:es.length≤4000:=by unfold sizeT at hsa;omega
  have hlb:es'.length≤4000:=by unfold sizeT at hsb;omega
  have hna:ks.len≤4000:=by have:=oQ ks;unfold sizeT at hsa;omega
  have hnb:ks'.len≤4000:=by have:=oQ ks';unfold sizeT at hsb;omega
  have DR:=ah (fun k (hm:k∈kW ks.keys ks'.keys)=>(show bM N (ks.find k).1 (ks.find k).2=true∧bM N (ks'.find k).1 (ks'.find k).2=true from by
   have hd:1≤N:=by
    rcases(uq _ _ _).1 hm with g|g
    ·exact xX KE g
    ·exact xX KF g
   exact⟨xW KE hd,xW KF hd⟩))
  have HKA:=ah (fun k=>VF Q es ks k w ev kv ha oa (by omega))
  have HKB:=ah (fun k=>VF Q' es' ks' k w ev' kv' hb ob (by omega))
  have zh:=ah (fun W (f:aj aF w W)=>acI es es' ca cb W ev ev' zi zk (ha.ents.rd.aS f) (hb.ents.rd.aS f) (Rd.aS hca f) (Rd.aS hcb f) fa fb ra rb lca Kz (by omega) (by omega))
  have HIH:=ah (fun k (hm:k∈kW ks.keys ks'.keys) W (f:aj aF w W) u v u' v' (h1:bZ Q w u v (ks.find k).1 (ks.find k).2) (h2:bZ Q' w u' v' (ks'.find k).1 (ks'.find k).2)=>
   jH _ _ _ _ W u v u' v' zi zk (h1.aS f) (h2.aS f) (Rd.aS hca f) (Rd.aS hcb f) (DR.out k hm).1 (DR.out k hm).2 (by have:=Pq ks k;unfold sizeT at hsa⊢;unfold sizeT at this;omega) (by have:=Pq ks' k;unfold sizeT at hsb⊢;unfold sizeT at this;omega))
  clear jH
  have HKK:=ah (acV oa ob)
  have iZ:=ah (VJ ks.keys ks'.keys)
  have uw:=ah ks.sH
  have Ep:=ah ks'.sH
  obtain⟨os,hk,hf⟩:=ha.kids
  obtain⟨os',hk',hf'⟩:=hb.kids
  have hcl:(jG ks os).length=ks.len*3:=hf.length
  have hcl':(jG ks' os').length=ks'.len*3:=hf'.length
  have hkc:Em (jG ks os++jG ks' os') (ks.keys++ks'.keys):=(En hf).append (En hf') (by rw[hcl,ks.sH])
  have Ci:=ah hkc;clear hkc
  have HCC:=ah (fun W b c (f:aj aF w W) h0 h1=>acQ W b c kv kv' (jG ks os) (jG ks' os') ks.len ks'.len h0 h1 (hk.rd.aS f) (hk'.rd.aS f) hcl hcl' (VH hf) (VH hf') (by omega) (by omega))
  generalize jG ks os++jG ks' os'=xs at*
  obtain⟨aE,cE,rfl⟩:=ha.ents.rd.sl
  obtain⟨KG,KH,rfl⟩:=hb.ents.rd.sl
  obtain⟨aK,cK,rfl⟩:=hk.rd.sl
  obtain⟨Et,Eu,rfl⟩:=hk'.rd.sl
  obtain⟨aC,cC,rfl⟩:=hca.sl
  obtain⟨aD,cD,rfl⟩:=hcb.sl
  clear ha hb hk hk' hf hf' hcl hcl' hca hcb hra hrb hsa hsb rea reb KE KF oa ob
  unfold jM
  obtain⟨hA,GV⟩:∃h,h=eU ca:=⟨_,rfl⟩
  obtain⟨hB,GX⟩:∃h,h=eU cb:=⟨_,rfl⟩
  rw[←GV,←GX]at zh HIH⊢
  clear GV GX
  obtain⟨F,hF⟩:∃F:ByteArray→List aQ×aT,F=fun k=>jM hA hB N (ks.find k) (ks'.find k):=⟨_,rfl⟩
  have HF:=ah hF
  show Calls _ _ _ _ (Kq w (iG hA hB es es') (gQ (fun k=>jM hA hB N (ks.find k) (ks'.find k)) (kW ks.keys ks'.keys)))
  rw[←hF]
  clear hF
  have hel:=VI hA hB es es'
  generalize iG hA hB es es'=EJ at*
  have hJn:EJ.length≤8000:=by omega
  clear hel
  generalize hkk:kW ks.keys ks'.keys=kk at*
  clear hkk
  generalize hall:ks.keys++ks'.keys=al at*
  have hal:al.length=ks.len+ks'.len:=by rw[←hall,List.length_append,uw.out,Ep.out]
  clear hall
  generalize es.length=n0 at*
  generalize es'.length=Ad at*
  generalize ks.len=n at*
  generalize ks'.len=m at*
  generalize ca.length=na at*
  generalize cb.length=nb at*
  have G_:=ah hal;clear hal
  have adh:=ah iZ.out
  have hKn:kk.length≤8000:=by have:=iZ.out;rw[uw.out,Ep.out]at this;omega
  clear adh iZ
  generalize hen:EJ.length=ne at*
  have iE:=ah hen;clear hen
  obtain⟨hf0,hs0,hb0,hb1,hb2⟩:=oD w #[.slice aE n0 cE, .slice aK n cK] #[.slice KG Ad KH, .slice Et m Eu] #[.slice none 0 0, .slice none 0 0] 28 28 28
  have jD:=ah hf0;clear hf0
  have Py:=ah hs0;clear hs0
  have HB0:=ah hb0;clear hb0
  have HB1:=ah hb1;clear hb1
  have HB2:=ah hb2;clear hb2
  go_enter Tryz.func77,Tryz.ntmps77
  go_wp2_with(first
   |(go_at_call 108;refine(zh.out _ jD.out).mono ?_;rintro e w1 ⟨v1,rfl,ho1⟩;obtain⟨a1,c1,rfl⟩:=ho1.shape;have dZ:=ah ho1;clear ho1;have y0:=dZ.out.aI.cell' (aG HB0.out 1 rfl) id;have y1:=dZ.out.aI.cell' (aG HB1.out 1 rfl) id;have hl0:=World.block_lt_of_cell? _ _ y0;have hl1:=World.block_lt_of_cell? _ _ y1;have HX0:=ah (fun X=>aG (heap_alloc_new (w1.alloc (.cells #[.slice a1 ne c1, .slice none 0 0] 28)) (.cells #[.slice aK n cK, .slice Et m Eu] X)) 0 rfl);have Gt:=ah (fun X=>aG (heap_alloc_new (w1.alloc (.cells #[.slice a1 ne c1, .slice none 0 0] 28)) (.cells #[.slice aK n cK, .slice Et m Eu] X)) 1 rfl);simp only[World.size_alloc]at HX0 Gt)
   |(go_at_call 109;refine(HCC.out _ _ _ (((jD.out.aH dZ.out.aI).alloc1).alloc1) (HX0.out _) (Gt.out _)).mono ?_;rintro e w2 ⟨v2,rfl,ho2⟩;obtain⟨a2,c2,rfl⟩:=ho2.shape;have gW:=ah ho2;clear ho2))
  have HE2:=ah ((aj.alloc aF (w1.alloc (.cells #[.slice a1 ne c1, .slice none 0 0] 28)) _).aH gW.out.aI)
  have hnm:n+m≤8000:=by omega
  go_loopw [10,31] (fun kv iv W=>∃k:Nat,k≤n+m∧iv= .int .i64 k∧OwnAt w2 W 9 1 kv k ((al.take k).map .string)) (fun _ iv _=>n+m-(intOf iv).toNat)
  case atStart=>exact⟨0,by omega,rfl,OwnAt.nil (aj.refl _ _) _ _⟩
  case round=>
   obtain⟨k,hk,rfl,ho⟩:=hrel
   obtain⟨av,cv,rfl⟩:=ho.shape
   have HO:=ah ho;clear ho
   clear y0 y1 hl0 hl1
   by_cases hlt:k<n+m
   ·obtain⟨b0,m0,d0,b1,m1,d1,q0,q1,q2⟩:=Ci.out k (by rw[G_.out];exact hlt)
    rcases Rd.shape gW.out.rd with⟨ad,he,h0⟩|⟨b,off,cc,he,hmax⟩
    ·omega
    injection he with e1 e2 e3
    subst e1 e3
    clear e2
    have r:=gW.out.rd.aS HO.out.aI
    replace q0:=r.cell _ _ q0
    replace q1:wr.cell? ⟨b,off+k*3+1,none⟩=some (.slice b0 m0 d0):=r.cell (k*3+1) _ q1
    replace q2:wr.cell? ⟨b,off+k*3+2,none⟩=some (.slice b1 m1 d1):=r.cell (k*3+2) _ q2
    clear r
    have HST:=ah (acX (l:=al) (k:=k) (by rw[G_.out];exact hlt))
    generalize al.getD k ByteArray.empty=key at*
    have Pz:(k:Int)<(n:Int)+(m:Int):=by omega
    have dw:=ah (HO.out.keep (aj.alloc aF wr (.cells #[.string key, .slice b0 m0 d0, .slice b1 m1 d1] 52)))
    go_wp2_with(at_builtin;refine kT w2 _ [.string key] rfl (.tmp 35) (.tmp 38) 101 rfl 9 i0 _ 1 16 Tryz.underlying101 hi hz0 hz1 hz2 (by decide) (by decide) _ _ _ dw.out 1 1 rfl (by simp[Act.eval]) rfl (by simp[Value.oneCell']) (by simp only[maxLen];omega) (by omega) ?_;intro ad cc w5 dP;have OW:=ah dP;clear dP)
    go_roundw
    case rel=>exact⟨k+1,by omega,by go_num,by rw[HST.out];exact OW.out⟩
    case measure=>simp[intOf];omega
   ·obtain rfl:k=n+m:=by omega
    have hos:OwnAt w2 wr 9 1 (.slice av (n+m) cv) (n+m) ((al.map ByteArray.toList).map encStr):=by
     have:=HO.out
     rw[List.take_of_length_le (by rw[G_.out];exact Nat.le_refl _)]at this
     rw[map_encStr];exact this
    have VN:=ah hos;clear hos
    clear HO Ci
    go_wp2_with(first
     |(go_at_call 110;refine(acR w2 _ _ _ (n+m) _ VN.out (by rw[List.length_map,G_.out]) (by omega)).mono ?_;rintro e w3 ⟨rfl,ho3⟩;have dw:=ah ho3;clear ho3)
     |(go_at_call 111;refine(acT w2 _ _ _ (n+m) _ dw.out (by rw[List.length_mergeSort,List.length_map,G_.out]) (by omega)).mono ?_;rintro e w4 ⟨v4,rfl,nP⟩;rw[HKK.out,map_encStr,List.length_map]at nP;obtain⟨a4,c4,rfl⟩:=nP.shape;have mV:=ah nP;clear nP))
    generalize hK:kk.length=K at*
    have u_:=ah hK;clear hK
    have KI:=ah (HE2.out.aH mV.out.aI)
    have hs1:=dZ.out.aI.size
    have hs2:=HE2.out.size
    rw[Py.out]at hs1
    simp only[World.size_alloc]at hs2
    have hc0:sG w (w1.alloc (.cells #[.slice a1 ne c1, .slice none 0 0] 28)) (w.heap.size+1+1) w1.heap.size ne (.slice a1 ne c1) (.slice none 0 0) EJ (gQ F kk) 0 []:=by
     refine⟨(jD.out.aH dZ.out.aI).alloc1,(aj.alloc aF _ _).blk (dZ.out.aI.blk HB2.out id) id,heap_alloc_new w1 _,by omega,by omega,by omega,iH.nil ((jD.out.aH dZ.out.aI).alloc1) _ _,?_,fun q hq=>(by cases hq),rfl,rfl⟩
     exact dZ.out.Aa.turn fun b hb hQ=>⟨Below.heap_alloc _ _ _ hb,by have:=Py.out;omega,by have:=Py.out;omega,by omega,by simp[Value.ownBlock]⟩
    have OE:=ah (hc0.keep KI.out);clear hc0
    have bW:=ah (fun W (f:aj (fun b=>b=w1.heap.size) w4 W)=>(show W.cell? ⟨w.heap.size,0,none⟩=some (.slice aE n0 cE)∧W.cell? ⟨w.heap.size,1,none⟩=some (.slice aK n cK)∧W.cell? ⟨w.heap.size+1,0,none⟩=some (.slice KG Ad KH)∧W.cell? ⟨w.heap.size+1,1,none⟩=some (.slice Et m Eu)from by
     have g0:=KI.out.blk ((aj.alloc aF w1 _).blk (dZ.out.aI.blk HB0.out id) id) id
     have g1:=KI.out.blk ((aj.alloc aF w1 _).blk (dZ.out.aI.blk HB1.out id) id) id
     exact⟨f.cell' (aG g0 0 rfl) (by show ¬w.heap.size=w1.heap.size;omega),f.cell' (aG g0 1 rfl) (by show ¬w.heap.size=w1.heap.size;omega),f.cell' (aG g1 0 rfl) (by show ¬w.heap.size+1=w1.heap.size;omega),f.cell' (aG g1 1 rfl) (by show ¬w.heap.size+1=w1.heap.size;omega)⟩))
    have iT:=ah (fun W (f:aj (fun b=>b=w1.heap.size) w4 W)=>Rd.keep mV.out.rd f (fun b hb h=>by have:=mV.out.new b hb;have h:b=w1.heap.size:=h;omega))
    have OG:w1.heap.size<w4.heap.size:=by have:=mV.out.aI.size;omega
    have ajl:=ah OG;clear OG
    have VO:=ah hs1;clear hs1
    clear hs2 hlt hk KI HE2 VN gW HX0 Gt
    go_loopw [46] (fun iv ww=>∃(i:Nat) (l:List dh) (Ee:Value),i≤K∧iv= .int .i64 i∧sG w ww (w.heap.size+1+1) w1.heap.size ne (.slice a1 ne c1) Ee EJ (gQ F kk) l.length l∧(gQ F kk).drop l.length=gQ F (kk.drop i)∧aj (fun b=>b=w1.heap.size) w4 ww∧Bo w4 Ee∧l.length≤i) (fun iv _=>K-(intOf iv).toNat)
    case atStart=>exact⟨0,[],_,Nat.zero_le _,rfl,OE.out,rfl,aj.refl _ _,fun b hb=>by simp[Value.ownBlock]at hb,Nat.le_refl _⟩
    case round=>
     obtain⟨i,l,Ee,hik,rfl,hc,hdr,hfr,PD,Pz⟩:=hrel
     obtain⟨av,cv,rfl⟩:=hc.own.at_.shape
     have HC:=ah hc;clear hc
     have HDR:=ah hdr;clear hdr
     have nD:=ah hfr;clear hfr
     have PE:=ah PD;clear PD
     generalize hp:l.length=p at*
     have HP:=ah hp;clear hp
     by_cases hlt:i<K
     ·have hr:=iT.out wr nD.out
      rcases Rd.shape hr with⟨ad,he,h0⟩|⟨b,off,cc,he,hmax⟩
      ·omega
      injection he with e1 e2 e3
      subst e1 e3
      clear e2
      have hki:i<kk.length:=by rw[u_.out];exact hlt
      have q0:wr.cell? ⟨b,off+i,none⟩=some (.string (kk.getD i ByteArray.empty)):=hr.cell i _ (by rw[List.getElem?_map,List.getElem?_eq_getElem hki,getD_at _ hki];rfl)
      clear hr
      have PG:=ah (getD_mem ByteArray.empty hki)
      have hkd:gQ F (kk.drop i)=lZ (kk.getD i ByteArray.empty) (F (kk.getD i ByteArray.empty)) (gQ F (kk.drop (i+1))):=by rw[acY hki];rfl
      have PI:=ah (HDR.out.trans hkd);clear hkd hki
      generalize kk.getD i ByteArray.empty=key at*
      have dS:=ah (show F key=jM hA hB N (ks.find key) (ks'.find key) by rw[HF.out])
      obtain⟨p1,m1,d1,p2,m2,d2,hta,hka⟩:=HKA.out key
      obtain⟨p3,m3,d3,p4,m4,d4,htb,hkb⟩:=HKB.out key
      have He:=ah hka;clear hka
      have Af:=ah hkb;clear hkb
      have wB:=ah (fun W (f:aj aF w W)=>HIH.out key PG.out W f _ _ _ _ hta htb)
      clear hta htb
      rw[←dS.out]at wB
      obtain⟨Es,Ks,VP⟩:∃Es Ks,F key=(Es,Ks):=⟨_,_,rfl⟩
      rw[VP]at wB PI
      clear dS VP
      obtain⟨s0,s1,s2,s3⟩:=bW.out wr nD.out
      have hb0:=World.block_lt_of_cell? _ _ s0
      have hb1:=World.block_lt_of_cell? _ _ s2
      go_wp2_with fail
      go_cut [15] (fun v15 W1=>ac' wr W1 v15 Es Ks)
      case first=>
       have i_:=ah (fun Y (f:aj aF wr Y)=>(⟨f,f.cell' s0 id,f.cell' s1 id,f.cell' s2 id,f.cell' s3 id⟩:aj aF wr Y∧Y.cell? ⟨w.heap.size,0,none⟩=some (.slice aE n0 cE)∧Y.cell? ⟨w.heap.size,1,none⟩=some (.slice aK n cK)∧Y.cell? ⟨w.heap.size+1,0,none⟩=some (.slice KG Ad KH)∧Y.cell? ⟨w.heap.size+1,1,none⟩=some (.slice Et m Eu)))
       refine iq (S:=fun w'=>aj aF wr w'∧w'.cell? ⟨w.heap.size,0,none⟩=some (.slice aE n0 cE)∧w'.cell? ⟨w.heap.size,1,none⟩=some (.slice aK n cK)∧w'.cell? ⟨w.heap.size+1,0,none⟩=some (.slice KG Ad KH)∧w'.cell? ⟨w.heap.size+1,1,none⟩=some (.slice Et m Eu)) 10 (by kernel_rfl) (i_.out _ (aj.drew _ _)) ?_
       intro hS
       clear s0 s1 s2 s3 q0 hb0 hb1
       generalize wr.drew=Y at*
       refine aX 0 50 rfl rfl ?_
       refine aX 1 51 rfl rfl ?_
       try simp only[Act.put,aO,aN,aJ]
       refine aX 3 53 rfl rfl ?_
       refine aX 4 54 rfl rfl ?_
       try simp only[Act.put,aO,aN,aJ]
       refine aX 6 56 rfl rfl ?_
       refine aX 7 57 rfl rfl ?_
       try simp only[Act.put,aO,aN,aJ]
       refine nU (i:=2) (j:=9) (by kernel_rfl) rfl rfl (fun K hK=>?_) (fun K hK=>?_)
       ·go_simp
        refine(He.out _ (HC.out.aI.aH hS.1)).mono ?_
        rintro e2 Y2 ⟨rfl,hf2⟩
        have hS1:=i_.out Y2 (hS.1.aH hf2)
        try replace hM:=hf2.blk hM id
        refine hK.out _ _ hS1 ?_
        clear hK K hS
        have hS:=hS1
        clear hS1 hf2
        generalize Y2=Y at*
        try simp only[Act.put,aO,aN,aJ]
        refine nU (i:=5) (j:=9) (by kernel_rfl) rfl rfl (fun K hK=>?_) (fun K hK=>?_)
        ·go_simp
         refine(Af.out _ (HC.out.aI.aH hS.1)).mono ?_
         rintro e5 Y5 ⟨rfl,hf2⟩
         have hS1:=i_.out Y5 (hS.1.aH hf2)
         try replace hM:=hf2.blk hM id
         refine hK.out _ _ hS1 ?_
         clear hK K hS
         have hS:=hS1
         clear hS1 hf2
         generalize Y5=Y at*
         try simp only[Act.put,aO,aN,aJ]
         refine nU (i:=8) (j:=9) (by kernel_rfl) rfl rfl (fun K hK=>?_) (fun K hK=>?_)
         ·go_simp
          refine(wB.out _ (HC.out.aI.aH hS.1)).mono ?_
          rintro e8 Y8 ⟨uX,jV,rfl,hta,hf3⟩
          obtain⟨a5,c5,rfl⟩:=hta.ents.rd.sl
          obtain⟨uy,hk5,-⟩:=hta.kids
          obtain⟨a6,c6,rfl⟩:=hk5.rd.sl
          clear hk5
          have hS1:=i_.out Y8 (hS.1.aH hf3)
          have hsz:=hS.1.size
          first
           |(have hT:bZ (fun b=>wr.heap.size≤b∧b≠mb) Y8 (.slice a5 Es.length c5) (.slice a6 Ks.len c6) Es Ks:=hta.turn fun b hb hQ=>⟨rfl,by omega,by have:=lt_of_block hM;omega⟩;replace hM:=hf3.blk hM id)
           |(have hT:bZ (fun b=>wr.heap.size≤b) Y8 (.slice a5 Es.length c5) (.slice a6 Ks.len c6) Es Ks:=hta.turn fun b hb hQ=>⟨rfl,by omega⟩)
          refine hK.out _ _ hS1 ?_
          clear hK K hS hta hf3 hsz
          have hS:=hS1
          clear hS1
          generalize Y8=Y at*
          try simp only[Act.put,aO,aN,aJ]
          refine bg (i:=9) (by kernel_rfl) rfl (fun K hK=>?_)
          go_simp
          have hf:aj aF Y (Y.alloc (.cells #[.slice none 0 0, .slice none 0 0] 28)):=aj.alloc _ _ _
          have hM:=heap_alloc_new Y (.cells #[.slice none 0 0, .slice none 0 0] 28)
          have hS1:=i_.out _ (hS.1.aH hf)
          obtain⟨mb,hmb⟩:∃mb,Y.heap.size=mb:=⟨_,rfl⟩
          have hmw:wr.heap.size≤mb:=by have:=hS.1.size;omega
          try replace hT:bZ (fun b=>wr.heap.size≤b∧b≠mb) (Y.alloc (.cells #[.slice none 0 0, .slice none 0 0] 28)) (.slice a5 Es.length c5) (.slice a6 Ks.len c6) Es Ks:=hT.turn fun b hb hQ=>⟨Below.heap_alloc _ _ _ hb,hQ,by omega⟩
          rw[hmb]at hM⊢
          refine hK.out _ _ hS1 ?_
          clear hK K hS hf hmb
          have hS:=hS1
          clear hS1
          generalize Y.alloc (.cells #[.slice none 0 0, .slice none 0 0] 28)=Y at*
          try simp only[Act.put,aO,aN,aJ]
          refine gJ (by kernel_rfl) (by kernel_rfl) rfl (fun K hK=>?_)
          have z0:=aG hM 0 rfl
          have z1:=aG hM 1 rfl
          have f0:=aW hM 0
          have f1:=aW hM 1
          go_simp
          refine hK.out _ _ ?_
          clear hK K z0 z1 f0 f1
          obtain⟨r0,r1,r2⟩:=res2 hM hS.1 hmw (.slice a5 Es.length c5) (.slice a6 Ks.len c6)
          go_wp2_with fail
          go_meet
          case rel=>exact⟨mb,_,_,_,_,_,_,rfl,r1,hmw,r0,rfl,rfl,hT.turn fun b hb hQ=>⟨r2 b hQ.2,hQ⟩⟩
         ·go_simp
          have hf:aj aF Y (Y.alloc (.cells #[.slice none 0 0, .slice none 0 0] 28)):=aj.alloc _ _ _
          have hM:=heap_alloc_new Y (.cells #[.slice none 0 0, .slice none 0 0] 28)
          have hS1:=i_.out _ (hS.1.aH hf)
          obtain⟨mb,hmb⟩:∃mb,Y.heap.size=mb:=⟨_,rfl⟩
          have hmw:wr.heap.size≤mb:=by have:=hS.1.size;omega
          try replace hT:bZ (fun b=>wr.heap.size≤b∧b≠mb) (Y.alloc (.cells #[.slice none 0 0, .slice none 0 0] 28)) (.slice a5 Es.length c5) (.slice a6 Ks.len c6) Es Ks:=hT.turn fun b hb hQ=>⟨Below.heap_alloc _ _ _ hb,hQ,by omega⟩
          rw[hmb]at hM⊢
          refine hK.out _ _ hS1 ?_
          clear hK K hS hf hmb
          have hS:=hS1
          clear hS1
          generalize Y.alloc (.cells #[.slice none 0 0, .slice none 0 0] 28)=Y at*
          try simp only[Act.put,aO,aN,aJ]
          refine bg (i:=8) (by kernel_rfl) rfl (fun K hK=>?_)
          go_simp
          refine(wB.out _ (HC.out.aI.aH hS.1)).mono ?_
          rintro e8 Y8 ⟨uX,jV,rfl,hta,hf3⟩
          obtain⟨a5,c5,rfl⟩:=hta.ents.rd.sl
          obtain⟨uy,hk5,-⟩:=hta.kids
          obtain⟨a6,c6,rfl⟩:=hk5.rd.sl
          clear hk5
          have hS1:=i_.out Y8 (hS.1.aH hf3)
          have hsz:=hS.1.size
          first
           |(have hT:bZ (fun b=>wr.heap.size≤b∧b≠mb) Y8 (.slice a5 Es.length c5) (.slice a6 Ks.len c6) Es Ks:=hta.turn fun b hb hQ=>⟨rfl,by omega,by have:=lt_of_block hM;omega⟩;replace hM:=hf3.blk hM id)
           |(have hT:bZ (fun b=>wr.heap.size≤b) Y8 (.slice a5 Es.length c5) (.slice a6 Ks.len c6) Es Ks:=hta.turn fun b hb hQ=>⟨rfl,by omega⟩)
          refine hK.out _ _ hS1 ?_
          clear hK K hS hta hf3 hsz
          have hS:=hS1
          clear hS1
          generalize Y8=Y at*
          try simp only[Act.put,aO,aN,aJ]
          refine gJ (by kernel_rfl) (by kernel_rfl) rfl (fun K hK=>?_)
          have z0:=aG hM 0 rfl
          have z1:=aG hM 1 rfl
          have f0:=aW hM 0
          have f1:=aW hM 1
          go_simp
          refine hK.out _ _ ?_
          clear hK K z0 z1 f0 f1
          obtain⟨r0,r1,r2⟩:=res2 hM hS.1 hmw (.slice a5 Es.length c5) (.slice a6 Ks.len c6)
          go_wp2_with fail
          go_meet
          case rel=>exact⟨mb,_,_,_,_,_,_,rfl,r1,hmw,r0,rfl,rfl,hT.turn fun b hb hQ=>⟨r2 b hQ.2,hQ⟩⟩
        ·go_simp
         have hf:aj aF Y (Y.alloc (.cells #[.slice none 0 0, .slice none 0 0] 28)):=aj.alloc _ _ _
         have hM:=heap_alloc_new Y (.cells #[.slice none 0 0, .slice none 0 0] 28)
         have hS1:=i_.out _ (hS.1.aH hf)
         obtain⟨mb,hmb⟩:∃mb,Y.heap.size=mb:=⟨_,rfl⟩
         have hmw:wr.heap.size≤mb:=by have:=hS.1.size;omega
         try replace hT:bZ (fun b=>wr.heap.size≤b∧b≠mb) (Y.alloc (.cells #[.slice none 0 0, .slice none 0 0] 28)) (.slice a5 Es.length c5) (.slice a6 Ks.len c6) Es Ks:=hT.turn fun b hb hQ=>⟨Below.heap_alloc _ _ _ hb,hQ,by omega⟩
         rw[hmb]at hM⊢
         refine hK.out _ _ hS1 ?_
         clear hK K hS hf hmb
         have hS:=hS1
         clear hS1
         generalize Y.alloc (.cells #[.slice none 0 0, .slice none 0 0] 28)=Y at*
         try simp only[Act.put,aO,aN,aJ]
         refine bg (i:=5) (by kernel_rfl) rfl (fun K hK=>?_)
         go_simp
         refine(Af.out _ (HC.out.aI.aH hS.1)).mono ?_
         rintro e5 Y5 ⟨rfl,hf2⟩
         have hS1:=i_.out Y5 (hS.1.aH hf2)
         try replace hM:=hf2.blk hM id
         refine hK.out _ _ hS1 ?_
         clear hK K hS
         have hS:=hS1
         clear hS1 hf2
         generalize Y5=Y at*
         try simp only[Act.put,aO,aN,aJ]
         refine bg (i:=8) (by kernel_rfl) rfl (fun K hK=>?_)
         go_simp
         refine(wB.out _ (HC.out.aI.aH hS.1)).mono ?_
         rintro e8 Y8 ⟨uX,jV,rfl,hta,hf3⟩
         obtain⟨a5,c5,rfl⟩:=hta.ents.rd.sl
         obtain⟨uy,hk5,-⟩:=hta.kids
         obtain⟨a6,c6,rfl⟩:=hk5.rd.sl
         clear hk5
         have hS1:=i_.out Y8 (hS.1.aH hf3)
         have hsz:=hS.1.size
         first
          |(have hT:bZ (fun b=>wr.heap.size≤b∧b≠mb) Y8 (.slice a5 Es.length c5) (.slice a6 Ks.len c6) Es Ks:=hta.turn fun b hb hQ=>⟨rfl,by omega,by have:=lt_of_block hM;omega⟩;replace hM:=hf3.blk hM id)
          |(have hT:bZ (fun b=>wr.heap.size≤b) Y8 (.slice a5 Es.length c5) (.slice a6 Ks.len c6) Es Ks:=hta.turn fun b hb hQ=>⟨rfl,by omega⟩)
         refine hK.out _ _ hS1 ?_
         clear hK K hS hta hf3 hsz
         have hS:=hS1
         clear hS1
         generalize Y8=Y at*
         try simp only[Act.put,aO,aN,aJ]
         refine gJ (by kernel_rfl) (by kernel_rfl) rfl (fun K hK=>?_)
         have z0:=aG hM 0 rfl
         have z1:=aG hM 1 rfl
         have f0:=aW hM 0
         have f1:=aW hM 1
         go_simp
         refine hK.out _ _ ?_
         clear hK K z0 z1 f0 f1
         obtain⟨r0,r1,r2⟩:=res2 hM hS.1 hmw (.slice a5 Es.length c5) (.slice a6 Ks.len c6)
         go_wp2_with fail
         go_meet
         case rel=>exact⟨mb,_,_,_,_,_,_,rfl,r1,hmw,r0,rfl,rfl,hT.turn fun b hb hQ=>⟨r2 b hQ.2,hQ⟩⟩
       ·go_simp
        have hf:aj aF Y (Y.alloc (.cells #[.slice none 0 0, .slice none 0 0] 28)):=aj.alloc _ _ _
        have hM:=heap_alloc_new Y (.cells #[.slice none 0 0, .slice none 0 0] 28)
        have hS1:=i_.out _ (hS.1.aH hf)
        obtain⟨mb,hmb⟩:∃mb,Y.heap.size=mb:=⟨_,rfl⟩
        have hmw:wr.heap.size≤mb:=by have:=hS.1.size;omega
        try replace hT:bZ (fun b=>wr.heap.size≤b∧b≠mb) (Y.alloc (.cells #[.slice none 0 0, .slice none 0 0] 28)) (.slice a5 Es.length c5) (.slice a6 Ks.len c6) Es Ks:=hT.turn fun b hb hQ=>⟨Below.heap_alloc _ _ _ hb,hQ,by omega⟩
        rw[hmb]at hM⊢
        refine hK.out _ _ hS1 ?_
        clear hK K hS hf hmb
        have hS:=hS1
        clear hS1
        generalize Y.alloc (.cells #[.slice none 0 0, .slice none 0 0] 28)=Y at*
        try simp only[Act.put,aO,aN,aJ]
        refine bg (i:=2) (by kernel_rfl) rfl (fun K hK=>?_)
        go_simp
        refine(He.out _ (HC.out.aI.aH hS.1)).mono ?_
        rintro e2 Y2 ⟨rfl,hf2⟩
        have hS1:=i_.out Y2 (hS.1.aH hf2)
        try replace hM:=hf2.blk hM id
        refine hK.out _ _ hS1 ?_
        clear hK K hS
        have hS:=hS1
        clear hS1 hf2
        generalize Y2=Y at*
        try simp only[Act.put,aO,aN,aJ]
        refine bg (i:=5) (by kernel_rfl) rfl (fun K hK=>?_)
        go_simp
        refine(Af.out _ (HC.out.aI.aH hS.1)).mono ?_
        rintro e5 Y5 ⟨rfl,hf2⟩
        have hS1:=i_.out Y5 (hS.1.aH hf2)
        try replace hM:=hf2.blk hM id
        refine hK.out _ _ hS1 ?_
        clear hK K hS
        have hS:=hS1
        clear hS1 hf2
        generalize Y5=Y at*
        try simp only[Act.put,aO,aN,aJ]
        refine bg (i:=8) (by kernel_rfl) rfl (fun K hK=>?_)
        go_simp
        refine(wB.out _ (HC.out.aI.aH hS.1)).mono ?_
        rintro e8 Y8 ⟨uX,jV,rfl,hta,hf3⟩
        obtain⟨a5,c5,rfl⟩:=hta.ents.rd.sl
        obtain⟨uy,hk5,-⟩:=hta.kids
        obtain⟨a6,c6,rfl⟩:=hk5.rd.sl
        clear hk5
        have hS1:=i_.out Y8 (hS.1.aH hf3)
        have hsz:=hS.1.size
        first
         |(have hT:bZ (fun b=>wr.heap.size≤b∧b≠mb) Y8 (.slice a5 Es.length c5) (.slice a6 Ks.len c6) Es Ks:=hta.turn fun b hb hQ=>⟨rfl,by omega,by have:=lt_of_block hM;omega⟩;replace hM:=hf3.blk hM id)
         |(have hT:bZ (fun b=>wr.heap.size≤b) Y8 (.slice a5 Es.length c5) (.slice a6 Ks.len c6) Es Ks:=hta.turn fun b hb hQ=>⟨rfl,by omega⟩)
        refine hK.out _ _ hS1 ?_
        clear hK K hS hta hf3 hsz
        have hS:=hS1
        clear hS1
        generalize Y8=Y at*
        try simp only[Act.put,aO,aN,aJ]
        refine gJ (by kernel_rfl) (by kernel_rfl) rfl (fun K hK=>?_)
        have z0:=aG hM 0 rfl
        have z1:=aG hM 1 rfl
        have f0:=aW hM 0
        have f1:=aW hM 1
        go_simp
        refine hK.out _ _ ?_
        clear hK K z0 z1 f0 f1
        obtain⟨r0,r1,r2⟩:=res2 hM hS.1 hmw (.slice a5 Es.length c5) (.slice a6 Ks.len c6)
        go_wp2_with fail
        go_meet
        case rel=>exact⟨mb,_,_,_,_,_,_,rfl,r1,hmw,r0,rfl,rfl,hT.turn fun b hb hQ=>⟨r2 b hQ.2,hQ⟩⟩
      case rest=>
       obtain⟨mb,a5,n5,c5,a6,n6,c6,rfl,hf1,hmb,hM,rfl,rfl,hT⟩:=hcut
       have xY:=ah (HC.out.keep hf1)
       have PK:=ah (nD.out.aH hf1)
       clear s0 s1 s2 s3 q0 hb0 hb1
       have HM:=ah hM;clear hM
       have HT:=ah hT;clear hT
       have HMB:=ah hmb;clear hmb
       have dN:=ah hf1;clear hf1
       have oW:=ah (fun W=>(show Calls Tryz.prog 113 #[.agg #[.slice a5 Es.length c5, .slice a6 Ks.len c6]] W fun e w'=>e= .returned (.bool (isNil Es Ks))∧aj aF W w' from empty_any a5 a6 Es.length Ks.len c5 c6 W))
       have x0:=aG HM.out 0 rfl
       have x1:=aG HM.out 1 rfl
       have hml:=lt_of_block HM.out
       obtain⟨wv,rfl⟩:∃w5,w5=wc:=⟨_,rfl⟩
       have iM:=ah (rfl:isNil Es Ks=isNil Es Ks)
       cases hn:isNil Es Ks with
       |true=>
        have Ce:=ah (PI.out.trans (show lZ key (Es,Ks) (gQ F (kk.drop (i+1)))=gQ F (kk.drop (i+1)) by unfold lZ;rw[if_pos hn]))
        rw[hn]at oW
        clear hn
        go_wp2_with(go_at_call 113;refine(oW.out _).mono ?_;rintro e w7 ⟨rfl,hw7⟩;have vw:=ah hw7;clear hw7)
        go_roundw
        case rel=>exact⟨i+1,l,_,by omega,by go_num,by rw[HP.out];exact xY.out.keep vw.out,by rw[HP.out];exact Ce.out,PK.out.aH vw.out,PE.out,by rw[HP.out];omega⟩
        case measure=>simp[intOf];omega
       |false=>
        have Ce:=ah (PI.out.trans (show lZ key (Es,Ks) (gQ F (kk.drop (i+1)))= .cons key Es Ks (gQ F (kk.drop (i+1))) by unfold lZ;rw[if_neg (by rw[hn];simp)]))
        rw[hn]at oW
        clear hn
        generalize hel:Es.length=n5 at*
        generalize hkl:Ks.len=n6 at*
        have zn:p≤8000:=by omega
        go_wp2_with(first
         |(go_at_call 113;refine(oW.out _).mono ?_;rintro e w7 ⟨rfl,hw7⟩;have vw:=ah hw7;clear hw7 x0 x1;have wC:=ah (xY.out.keep vw.out);have x0:=aG (vw.out.blk HM.out id) 0 rfl;have x1:=aG (vw.out.blk HM.out id) 1 rfl;have y1:=aG wC.out.b3 1 rfl;have hl3:=lt_of_block wC.out.b3;have rM:=lt_of_block (vw.out.blk HM.out id))
         |(at_builtin;refine UK (fun b=>b<w7.heap.size∧(Value.slice av p cv).ownBlock≠some b) w w7 [.string key, .slice a5 n5 c5, .slice a6 n6 c6] rfl (.tmp 63) (.tmp 67) 26 rfl 52 j0 _ 3 64 Tryz.underlying26 hj hy0 hy1 hy2 (by decide) (by decide) (.slice av p cv) p _ ⟨wC.out.own.at_,fun b hb hn=>hn.2 hb⟩ (fun b hb=>hb.1) 1 1 rfl (by simp[Act.eval]) rfl (by simp[Value.oneCell']) (by simp only[maxLen];omega) (by omega) ?_;intro ad lg w8 bP j_;have Hf:=ah bP;clear bP;have KJ:=ah j_;clear j_;clear y1;have hcz:=KJ.out.cell (p:=⟨w1.heap.size,1,none⟩) ⟨hl3,fun h=>wC.out.own.but _ h (.inr rfl)⟩ (aG wC.out.b3 1 rfl);have hcf:=KJ.out.frozen (p:=⟨w1.heap.size,1,none⟩) ⟨hl3,fun h=>wC.out.own.but _ h (.inr rfl)⟩ (aW wC.out.b3 1)))
        have hfm:aj (eG (.slice av p cv)) w7 w8:=⟨Hf.out.at_.aI.os.trans wC.out.aI.os.symm,Hf.out.at_.aI.tape.trans wC.out.aI.tape.symm,Hf.out.at_.aI.output.trans wC.out.aI.output.symm,KJ.out.1,fun b hb hn=>KJ.out.2 b ⟨hb,hn⟩⟩
        have PL:lN w7 (.slice av p cv) (.slice ad (p+1) lg):=fun b hb=>by
         by_cases h1:(Value.slice av p cv).ownBlock=some b
         ·exact .inl h1
         ·refine .inr ?_
          have:=Hf.out.but b hb
          rcases Nat.lt_or_ge b w7.heap.size with h2|h2
          ·exact absurd ⟨h2,h1⟩ this
          ·exact h2
        have hq3:bZ (Ac w (w.heap.size+1+1) w1.heap.size (.slice av p cv)) w7 (.slice a5 n5 c5) (.slice a6 n6 c6) Es Ks:=(HT.out.aS vw.out).turn fun b hb hQ=>by
         have g1:=HC.out.aI.size
         have g2:=lt_of_block HC.out.b3
         have g3:=lt_of_block HC.out.b2
         refine⟨rfl,by omega,by omega,by omega,fun h=>?_⟩
         have:=HC.out.own.at_.lt b h
         omega
        have rG:=ah (wC.out.step (q:=⟨key,Es,Ks, .slice a5 n5 c5, .slice a6 n6 c6⟩) Ce.out hq3 Hf.out.at_.own hfm PL)
        have iU:=ah (((PK.out.aH vw.out).trans hfm (fun b hb h=>absurd hb (by have:=PE.out b h;omega))).trans (aj.setCell (S:=fun b=>b=w1.heap.size) w8 (p:=⟨w1.heap.size,1,none⟩) (.inl rfl) (.slice ad (p+1) lg)) fun _ _ h=>h)
        have adi:=ah (show Bo w4 (.slice ad (p+1) lg)from fun b hb=>by
         rcases PL b hb with h|h
         ·exact PE.out b h
         ·have:=(PK.out.aH vw.out).size;omega)
        clear hfm PL hq3
        go_roundw
        case rel=>exact⟨i+1,l++ [⟨key,Es,Ks, .slice a5 n5 c5, .slice a6 n6 c6⟩],_,by omega,by go_num,by rw[List.length_append,HP.out];exact rG.out,by rw[List.length_append,HP.out];exact aT.yN p _ Ce.out,iU.out,adi.out,by rw[List.length_append,HP.out];simp;omega⟩
        case measure=>simp[intOf];omega
     ·obtain rfl:K=i:=by omega
      have hdn:(gQ F kk).drop p= .nil:=by rw[HDR.out,List.drop_of_length_le (by rw[u_.out];exact Nat.le_refl _)];rfl
      have hpl:(gQ F kk).len≤p:=by
       have:=aT.DK p (gQ F kk)
       rw[hdn]at this
       simp only[aT.len]at this
       omega
      have hdn:=HC.out.done iE.out.symm hpl
      have lW:=ah hdn;clear hdn hpl
      have y0:=aG HC.out.b3 0 rfl
      have y1:=aG HC.out.b3 1 rfl
      have z0:=aG HC.out.b2 0 rfl
      have z1:=aG HC.out.b2 1 rfl
      have f0:=aW HC.out.b2 0
      have f1:=aW HC.out.b2 1
      have hl2:=lt_of_block HC.out.b2
      have hl3:=lt_of_block HC.out.b3
      go_wp2
      clear y0 y1 z0 z1
      have y0:=aG lW.out.2.2 0 rfl
      have y1:=aG lW.out.2.2 1 rfl
      exact bodyPost_ret (v:= .agg #[.slice a1 ne c1, .slice av p cv]) (by simp[results,Tryz.results77,go_sem,y0,y1]) rfl ⟨_,_,rfl,lW.out.1,lW.out.2.1⟩
open Go.RowKit
noncomputable def sJ (es:List aQ) (ks:aT) (c:bD) (es':List aQ) (ks':aT) (c':bD):List aQ×aT:=jM (eU c) (eU c') 5 (es,ks) (es',ks')
def KL (w:World) (es:List aQ) (ks:aT) (c:bD) (es':List aQ) (ks':aT) (c':bD) (e:Ending) (w':World) (f:Value→Value):Prop:=
 ∃ev kv cv u,e= .returned (f (.agg #[ev,kv,cv]))∧bZ (fun b=>w.heap.size≤b) w' ev kv (sJ es ks c es' ks' c').1 (sJ es ks c es' ks' c').2∧OwnAt w w' 92 3 cv u.length (dY u)∧kZ 0 c c' u
theorem adk (Q Q':Nat→Prop) (es:List aQ) (ks:aT) (c:bD) (es':List aQ) (ks':aT) (c':bD) (w:World) (ev kv cv ev' kv' jI:Value) (h:dU Q w ev kv cv es ks c) (h':dU Q' w ev' kv' jI es' ks' c')
 (hok:iD es ks c) (hok':iD es' ks' c') (hr:jA es ks c) (hr':jA es' ks' c'):
 Calls Tryz.prog 49 #[.agg #[ev,kv,cv], .agg #[ev',kv',jI]] w fun e w'=>KL w es ks c es' ks' c' e w' id:=by
 obtain⟨a0,c0,a1,c1,a2,c2,rfl,rfl,rfl⟩:=h.shape
 obtain⟨d0,k0,d1,k1,d2,k2,rfl,rfl,rfl⟩:=h'.shape
 have HT:=ah (fun W (f:aj aF w W)=>ada Q Q' c c' hok.fits hok'.fits hr.ctx hr'.ctx (by have:=hok.len;omega) (by have:=hok'.len;omega) 5 es ks es' ks' W _ _ _ _ _ _ (h.tree.aS f) (h'.tree.aS f) (Rd.aS h.ctx f) (Rd.aS h'.ctx f) hr.tree hr'.tree (by have:=hok.small;omega) (by have:=hok'.small;omega))
 have HU:=ah (fun W (f:aj aF w W)=>abY W _ _ c c' (Rd.aS h.ctx f) (Rd.aS h'.ctx f) hok.fits hok'.fits hr.ctx hr'.ctx (by have:=hok.len;omega) (by have:=hok'.len;omega))
 clear h h' hok hok' hr hr'
 obtain⟨J,hJ⟩:∃J,J=sJ es ks c es' ks' c':=⟨_,rfl⟩
 unfold KL
 rw[←hJ]
 have hJ2:jM (eU c) (eU c') 5 (es,ks) (es',ks')=J:=hJ.symm
 rw[hJ2]at HT
 clear hJ hJ2
 generalize es.length=n0 at*
 generalize ks.len=n1 at*
 generalize c.length=n2 at*
 generalize es'.length=m0 at*
 generalize ks'.len=m1 at*
 generalize c'.length=m2 at*
 obtain⟨hf0,hs0,hb0,hb1,hb2⟩:=oD w #[.slice a0 n0 c0, .slice a1 n1 c1, .slice a2 n2 c2] #[.slice d0 m0 k0, .slice d1 m1 k1, .slice d2 m2 k2] #[.slice none 0 0, .slice none 0 0, .slice none 0 0] 32 32 32
 have i_:=ah (fun W (f:aj aF (((w.alloc (.cells #[.slice a0 n0 c0, .slice a1 n1 c1, .slice a2 n2 c2] 32)).alloc (.cells #[.slice d0 m0 k0, .slice d1 m1 k1, .slice d2 m2 k2] 32)).alloc (.cells #[.slice none 0 0, .slice none 0 0, .slice none 0 0] 32)) W)=>
  (⟨f.cell' (aG hb0 0 rfl) id,f.cell' (aG hb0 1 rfl) id,f.cell' (aG hb0 2 rfl) id,f.cell' (aG hb1 0 rfl) id,f.cell' (aG hb1 1 rfl) id,f.cell' (aG hb1 2 rfl) id⟩:
    W.cell? ⟨w.heap.size,0,none⟩=some (.slice a0 n0 c0)∧W.cell? ⟨w.heap.size,1,none⟩=some (.slice a1 n1 c1)∧W.cell? ⟨w.heap.size,2,none⟩=some (.slice a2 n2 c2)∧W.cell? ⟨w.heap.size+1,0,none⟩=some (.slice d0 m0 k0)∧W.cell? ⟨w.heap.size+1,1,none⟩=some (.slice d1 m1 k1)∧W.cell? ⟨w.heap.size+1,2,none⟩=some (.slice d2 m2 k2)))
 have jD:=ah hf0;clear hf0
 have HB2:=ah hb2
 clear hb0 hb1 hb2 hs0
 go_enter Tryz.func49,Tryz.ntmps49
 go_wp2_with fail
 refine iq (S:=fun W=>W.cell? ⟨w.heap.size,0,none⟩=some (.slice a0 n0 c0)∧W.cell? ⟨w.heap.size,1,none⟩=some (.slice a1 n1 c1)∧W.cell? ⟨w.heap.size,2,none⟩=some (.slice a2 n2 c2)∧W.cell? ⟨w.heap.size+1,0,none⟩=some (.slice d0 m0 k0)∧W.cell? ⟨w.heap.size+1,1,none⟩=some (.slice d1 m1 k1)∧W.cell? ⟨w.heap.size+1,2,none⟩=some (.slice d2 m2 k2)) 15 (by kernel_rfl) (i_.out _ (aj.drew _ _)) ?_
 intro hS
 obtain⟨Z,hZ⟩:∃Z,Z=((w.alloc (.cells #[.slice a0 n0 c0, .slice a1 n1 c1, .slice a2 n2 c2] 32)).alloc (.cells #[.slice d0 m0 k0, .slice d1 m1 k1, .slice d2 m2 k2] 32)).alloc (.cells #[.slice none 0 0, .slice none 0 0, .slice none 0 0] 32):=⟨_,rfl⟩
 rw[←hZ]at i_ jD HB2 hS⊢
 clear hZ
 have zo:=ah (aj.drew aF Z)
 generalize Z.drew=Y at*
 refine aX 0 5 rfl rfl ?_
 refine aX 1 6 rfl rfl ?_
 try simp only[Act.put,aO,aN,aJ]
 refine aX 2 7 rfl rfl ?_
 refine aX 3 8 rfl rfl ?_
 try simp only[Act.put,aO,aN,aJ]
 refine aX 4 9 rfl rfl ?_
 refine aX 5 10 rfl rfl ?_
 try simp only[Act.put,aO,aN,aJ]
 refine aX 6 11 rfl rfl ?_
 refine aX 7 12 rfl rfl ?_
 try simp only[Act.put,aO,aN,aJ]
 refine aX 9 14 rfl rfl ?_
 refine aX 10 15 rfl rfl ?_
 try simp only[Act.put,aO,aN,aJ]
 refine aX 11 16 rfl rfl ?_
 refine aX 12 17 rfl rfl ?_
 try simp only[Act.put,aO,aN,aJ]
 refine bg (i:=8) (by kernel_rfl) rfl (fun K hK=>?_)
 go_simp
 refine(HT.out _ (jD.out.aH zo.out)).mono ?_
 rintro e Y1 ⟨uX,jV,rfl,lX,hf3⟩
 obtain⟨a3,c3,rfl⟩:=lX.ents.rd.sl
 obtain⟨os3,pW,-⟩:=lX.kids
 obtain⟨a4,c4,rfl⟩:=pW.rd.sl
 clear pW
 have HF3:=ah (zo.out.aH hf3)
 have hS1:=i_.out Y1 HF3.out
 refine hK.out _ _ hS1 ?_
 clear hK K hS hf3
 have hS:=hS1
 clear hS1
 have kF:=ah lX;clear lX
 try simp only[Act.put,aO,aN,aJ]
 refine bg (i:=13) (by kernel_rfl) rfl (fun K hK=>?_)
 go_simp
 refine(HU.out _ (jD.out.aH HF3.out)).mono ?_
 rintro e Y2 ⟨v5,u,rfl,lu,hby,-⟩
 obtain⟨a5,c5,rfl⟩:=lu.shape
 have lH:=ah lu;clear lu
 have gX:=ah hby;clear hby
 have hS1:=i_.out Y2 (HF3.out.aH lH.out.aI)
 refine hK.out _ _ hS1 ?_
 clear hK K hS
 have hS:=hS1
 clear hS1
 try simp only[Act.put,aO,aN,aJ]
 refine aX 14 19 rfl rfl ?_
 try simp only[Act.put,aO,aN,aJ]
 refine gJ (by kernel_rfl) (by kernel_rfl) rfl (fun K hK=>?_)
 have hblk:=(HF3.out.aH lH.out.aI).blk HB2.out id
 have eX:=ah ((jD.out.aH HF3.out).aH lH.out.aI)
 have HR3:=ah (BP hblk eX.out (by omega) (.slice a3 J.1.length c3) (.slice a4 J.2.len c4) (.slice a5 u.length c5))
 have hs0:=jD.out.size
 have hs3:=zo.out.size
 have hl2:=lt_of_block HB2.out
 have Vx:=lt_of_block hblk
 have HP:=ah ((kF.out.aS lH.out.aI).turn (Q':=fun b=>w.heap.size≤b) fun b hb hQ=>⟨HR3.out.2.2 b (by omega),by omega⟩)
 have hown:OwnAt w (((Y2.setCell ⟨w.heap.size+1+1,0,none⟩ (.slice a3 J.1.length c3)).setCell ⟨w.heap.size+1+1,1,none⟩ (.slice a4 J.2.len c4)).setCell ⟨w.heap.size+1+1,2,none⟩ (.slice a5 u.length c5)) 92 3 (.slice a5 u.length c5) u.length (dY u):=by
  have hnew:=lH.out.new
  have hz:=HF3.out.size
  have um:iH (fun b=>b=w.heap.size+1+1) w Y2 92 3 (.slice a5 u.length c5) u.length (dY u):=⟨lH.out.base (jD.out.aH HF3.out),fun b hb hn=>by have:=hnew b hb;omega⟩
  exact(((um.set (p:=⟨w.heap.size+1+1,0,none⟩) rfl (by show w.heap.size≤w.heap.size+1+1;omega) _).set (p:=⟨w.heap.size+1+1,1,none⟩) rfl (by show w.heap.size≤w.heap.size+1+1;omega) _).set (p:=⟨w.heap.size+1+1,2,none⟩) rfl (by show w.heap.size≤w.heap.size+1+1;omega) _).at_
 have HOW:=ah hown;clear hown
 have y0:=aG hblk 0 rfl
 have y1:=aG hblk 1 rfl
 have y2:=aG hblk 2 rfl
 have g0:=aW hblk 0
 have g1:=aW hblk 1
 have g2:=aW hblk 2
 clear hS hblk
 go_simp
 refine hK.out _ _ ?_
 clear hK K y0 y1 y2 g0 g1 g2
 go_wp2
 have y0:=aG HR3.out.1 0 rfl
 have y1:=aG HR3.out.1 1 rfl
 have y2:=aG HR3.out.1 2 rfl
 exact bodyPost_ret (v:= .agg #[.slice a3 J.1.length c3, .slice a4 J.2.len c4, .slice a5 u.length c5]) (by simp[results,Tryz.results49,go_sem,y0,y1,y2]) rfl ⟨_,_,_,u,rfl,HP.out,HOW.out,gX.out⟩
theorem adl (Q Q':Nat→Prop) (es:List aQ) (ks:aT) (c:bD) (es':List aQ) (ks':aT) (c':bD) (w:World) (ev kv cv ev' kv' jI:Value) (h:dU Q w ev kv cv es ks c) (h':dU Q' w ev' kv' jI es' ks' c')
 (hok:iD es ks c) (hok':iD es' ks' c') (hr:jA es ks c) (hr':jA es' ks' c'):
 Calls Tryz.prog 22 #[.agg #[ev,kv,cv], .agg #[ev',kv',jI]] w fun e w'=>KL w es ks c es' ks' c' e w' fun v=> .tuple #[v, .int .i64 0]:=by
 have HJ:=ah (fun W (f:aj aF w W)=>adk Q Q' es ks c es' ks' c' W ev kv cv ev' kv' jI (h.aS f) (h'.aS f) hok hok' hr hr')
 have HR:=ah (fun W (f:aj aF w W)=>gu hr▸xQ Q es ks c W ev kv cv (h.aS f) hok)
 have HR2:=ah (fun W (f:aj aF w W)=>gu hr'▸xQ Q' es' ks' c' W ev' kv' jI (h'.aS f) hok')
 obtain⟨a0,c0,a1,c1,a2,c2,rfl,rfl,rfl⟩:=h.shape
 obtain⟨d0,k0,d1,k1,d2,k2,rfl,rfl,rfl⟩:=h'.shape
 clear h h' hok hok' hr hr'
 unfold KL at*
 generalize sJ es ks c es' ks' c'=J at*
 generalize es.length=n0 at*
 generalize ks.len=n1 at*
 generalize c.length=n2 at*
 generalize es'.length=m0 at*
 generalize ks'.len=m1 at*
 generalize c'.length=m2 at*
 obtain⟨hf0,hs0,hb0,hb1,hb2⟩:=oD w #[.slice a0 n0 c0, .slice a1 n1 c1, .slice a2 n2 c2] #[.slice d0 m0 k0, .slice d1 m1 k1, .slice d2 m2 k2] #[.slice none 0 0, .slice none 0 0, .slice none 0 0] 32 32 32
 have i_:=ah (fun W (f:aj aF (((w.alloc (.cells #[.slice a0 n0 c0, .slice a1 n1 c1, .slice a2 n2 c2] 32)).alloc (.cells #[.slice d0 m0 k0, .slice d1 m1 k1, .slice d2 m2 k2] 32)).alloc (.cells #[.slice none 0 0, .slice none 0 0, .slice none 0 0] 32)) W)=>
  (⟨f.cell' (aG hb0 0 rfl) id,f.cell' (aG hb0 1 rfl) id,f.cell' (aG hb0 2 rfl) id,f.cell' (aG hb1 0 rfl) id,f.cell' (aG hb1 1 rfl) id,f.cell' (aG hb1 2 rfl) id⟩:W.cell? ⟨w.heap.size,0,none⟩=some (.slice a0 n0 c0)∧W.cell? ⟨w.heap.size,1,none⟩=some (.slice a1 n1 c1)∧W.cell? ⟨w.heap.size,2,none⟩=some (.slice a2 n2 c2)∧W.cell? ⟨w.heap.size+1,0,none⟩=some (.slice d0 m0 k0)∧W.cell? ⟨w.heap.size+1,1,none⟩=some (.slice d1 m1 k1)∧W.cell? ⟨w.heap.size+1,2,none⟩=some (.slice d2 m2 k2)))
 have jD:=ah hf0;clear hf0
 have HB2:=ah hb2
 have HZ0:=ah hs0
 clear hb0 hb1 hb2 hs0
 go_enter Tryz.func22,Tryz.ntmps22
 go_wp2_with(first
  |(go_at_call_of 40 a0;refine(HR.out _ jD.out).mono ?_;rintro e w1 ⟨rfl,hw1⟩;obtain⟨y0,y1,y2,y3,y4,y5⟩:=i_.out w1 hw1;have hl0:=World.block_lt_of_cell? _ _ y0;have hl1:=World.block_lt_of_cell? _ _ y3;have HW1:=ah hw1;clear hw1)
  |(go_at_call_of 40 d0;refine(HR2.out _ (jD.out.aH HW1.out)).mono ?_;rintro e w2 ⟨rfl,hw2⟩;clear y0 y1 y2 y3 y4 y5 hl0 hl1;obtain⟨y0,y1,y2,y3,y4,y5⟩:=i_.out w2 (HW1.out.aH hw2);have hl0:=World.block_lt_of_cell? _ _ y0;have hl1:=World.block_lt_of_cell? _ _ y3;have HW2:=ah (HW1.out.aH hw2);clear hw2)
  |(go_at_call 49;refine(HJ.out _ (jD.out.aH HW2.out)).mono ?_;rintro e w3 ⟨uX,jV,mW,u,rfl,hta,ho,hby⟩;obtain⟨a3,c3,rfl⟩:=hta.ents.rd.sl;obtain⟨os3,pW,-⟩:=hta.kids;obtain⟨a4,c4,rfl⟩:=pW.rd.sl;obtain⟨a5,c5,rfl⟩:=ho.shape;clear pW y0 y1 y2 y3 y4 y5 hl0 hl1;have kF:=ah hta;clear hta;have HO:=ah ho;clear ho;have gX:=ah hby;clear hby;have HW3:=ah (HW2.out.aH HO.out.aI);have hblk:=HW3.out.blk HB2.out id;have z0:=aG hblk 0 rfl;have z1:=aG hblk 1 rfl;have z2:=aG hblk 2 rfl;have g0:=aW hblk 0;have g1:=aW hblk 1;have g2:=aW hblk 2;have hl2:=lt_of_block hblk;have jr:=ah hblk;clear hblk))
 clear z0 z1 z2 g0 g1 g2
 have eX:=ah (jD.out.aH HW3.out)
 have HR3:=ah (BP jr.out eX.out (by omega) (.slice a3 J.1.length c3) (.slice a4 J.2.len c4) (.slice a5 u.length c5))
 have hs0:=jD.out.size
 have hs2:=HW2.out.size
 have hz:=HZ0.out
 have HP:=ah (kF.out.turn (Q':=fun b=>w.heap.size≤b) fun b hb hQ=>⟨HR3.out.2.2 b (by omega),by omega⟩)
 have hown:OwnAt w (((w3.setCell ⟨w.heap.size+1+1,0,none⟩ (.slice a3 J.1.length c3)).setCell ⟨w.heap.size+1+1,1,none⟩ (.slice a4 J.2.len c4)).setCell ⟨w.heap.size+1+1,2,none⟩ (.slice a5 u.length c5)) 92 3 (.slice a5 u.length c5) u.length (dY u):=by
  have hnew:=HO.out.new
  have um:iH (fun b=>b=w.heap.size+1+1) w w3 92 3 (.slice a5 u.length c5) u.length (dY u):=⟨HO.out.base (jD.out.aH HW2.out),fun b hb hn=>by have:=hnew b hb;omega⟩
  exact(((um.set (p:=⟨w.heap.size+1+1,0,none⟩) rfl (by show w.heap.size≤w.heap.size+1+1;omega) _).set (p:=⟨w.heap.size+1+1,1,none⟩) rfl (by show w.heap.size≤w.heap.size+1+1;omega) _).set (p:=⟨w.heap.size+1+1,2,none⟩) rfl (by show w.heap.size≤w.heap.size+1+1;omega) _).at_
 have y0:=aG HR3.out.1 0 rfl
 have y1:=aG HR3.out.1 1 rfl
 have y2:=aG HR3.out.1 2 rfl
 exact bodyPost_ret (v:= .tuple #[.agg #[.slice a3 J.1.length c3, .slice a4 J.2.len c4, .slice a5 u.length c5], .int .i64 0]) (by simp[results,Tryz.results22,go_sem,y0,y1,y2]) rfl ⟨_,_,_,u,rfl,HP.out,hown,gX.out⟩
end Go.Proofs.YtlhmbkjdfjoilaaGreat
