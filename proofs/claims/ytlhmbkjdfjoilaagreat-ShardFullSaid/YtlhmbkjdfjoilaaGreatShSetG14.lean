/- Words for the law ShSet: CaTrees, Sh1, Sh2. -/
import Derived.Test.YtlhmbkjdfjoilaaGreatShSetG0
import Derived.Test.YtlhmbkjdfjoilaaGreatShSetG12
import Derived.Test.YtlhmbkjdfjoilaaGreatShSetG13
set_option linter.unusedSimpArgs false
set_option linter.unusedVariables false
set_option maxHeartbeats 32000000
set_option maxRecDepth 1000000
namespace Go.Proofs.YtlhmbkjdfjoilaaGreat
open Go.RowKit
theorem zZ (w:World) (c0 c1 c2:Array Value) (T0 T1 T2:TypeId):aj au w (((w.alloc (.cells c0 T0)).alloc (.cells c1 T1)).alloc (.cells c2 T2))∧(((w.alloc (.cells c0 T0)).alloc (.cells c1 T1)).alloc (.cells c2 T2)).heap.size=w.heap.size+1+1+1∧
 (((w.alloc (.cells c0 T0)).alloc (.cells c1 T1)).alloc (.cells c2 T2)).heap[w.heap.size]?=some (.cells c0 T0 (0,0))∧(((w.alloc (.cells c0 T0)).alloc (.cells c1 T1)).alloc (.cells c2 T2)).heap[w.heap.size+1]?=some (.cells c1 T1 (0,0))∧
 (((w.alloc (.cells c0 T0)).alloc (.cells c1 T1)).alloc (.cells c2 T2)).heap[w.heap.size+1+1]?=some (.cells c2 T2 (0,0)):=by
 refine⟨((aj.alloc _ _ _).alloc1).alloc1,by simp,?_,?_,?_⟩
 ·rw[Below.heap_alloc _ _ _ (by simp;omega),Below.heap_alloc _ _ _ (by simp)];exact heap_alloc_new w _
 ·rw[Below.heap_alloc _ _ _ (by simp)]
  have:=heap_alloc_new (w.alloc (.cells c0 T0)) (.cells c1 T1)
  simpa using this
 ·have:=heap_alloc_new ((w.alloc (.cells c0 T0)).alloc (.cells c1 T1)) (.cells c2 T2)
  simpa using this
def Tj (wr W:World) (v:Value) (es:List aG) (ks:aH):Prop:=∃mb a n c a' n' c',v= .pointer (some ⟨mb,0,none⟩)∧aj au wr W∧wr.heap.size≤mb∧W.heap[mb]?=some (.cells #[.slice a n c, .slice a' n' c'] 28 (0,0))∧n=es.length∧n'=ks.len∧bC (fun b=>wr.heap.size≤b∧b≠mb) W (.slice a n c) (.slice a' n' c') es ks
theorem Tn (Q Q':Nat→Prop) (ca cb:aV) (fa:g_ ca) (fb:g_ cb) (ra:bY ca) (rb:bY cb) (lca:ca.length≤100000) (zO:cb.length≤100000):∀(N:Nat) (es:List aG) (ks:aH) (es':List aG) (ks':aH) (w:World) (ev kv ev' kv' qF qG:Value),
 bC Q w ev kv es ks→bC Q' w ev' kv' es' ks'→fB w qF ca→fB w qG cb→aY N es ks=true→aY N es' ks'=true→sizeT es ks≤4000→sizeT es' ks'≤4000→
 Calls Tryz.prog 77 #[.agg #[ev,kv], .agg #[ev',kv'],qF,qG] w (zH w (gW (fJ ca) (fJ cb) N (es,ks) (es',ks')).1 (gW (fJ ca) (fJ cb) N (es,ks) (es',ks')).2):=by
 intro N
 induction N with
 |zero=>intro es ks es' ks' w ev kv ev' kv' qF qG _ _ _ _ h;simp[aY]at h
 |succ N gG=>
  intro es ks es' ks' w ev kv ev' kv' qF qG ha hb hca hcb hra hrb hsa hsb
  obtain⟨i0,hi,hz0,hz1,hz2⟩:=info_parts Jp
  obtain⟨j0,hj,hy0,hy1,hy2⟩:=info_parts uZ
  obtain⟨Tq,z_⟩:=vI hra
  obtain⟨Tt,Aa⟩:=vI hrb
  have oa:=(o_ _ _ _ z_).1
  have ob:=(o_ _ _ _ Aa).1
  have hla:es.length≤4000:=by unfold sizeT at hsa;omega
  have hlb:es'.length≤4000:=by unfold sizeT at hsb;omega
  have hna:ks.len≤4000:=by have:=kV ks;unfold sizeT at hsa;omega
  have hnb:ks'.len≤4000:=by have:=kV ks';unfold sizeT at hsb;omega
  have uV:=ah (fun k (hm:k∈iI ks.keys ks'.keys)=>(show aY N (ks.find k).1 (ks.find k).2=true∧aY N (ks'.find k).1 (ks'.find k).2=true from by
   have hd:1≤N:=by
    rcases(oZ _ _ _).1 hm with g|g
    ·exact xM z_ g
    ·exact xM Aa g
   exact⟨xK z_ hd,xK Aa hd⟩))
  have Tv:=ah (fun k=>Ji Q es ks k w ev kv ha oa (by omega))
  have HKB:=ah (fun k=>Ji Q' es' ks' k w ev' kv' hb ob (by omega))
  have qB:=ah (fun W (f:aj au w W)=>QS es es' ca cb W ev ev' qF qG (ha.ents.rd.aN f) (hb.ents.rd.aN f) (Rd.aN hca f) (Rd.aN hcb f) fa fb ra rb lca zO (by omega) (by omega))
  have HIH:=ah (fun k (hm:k∈iI ks.keys ks'.keys) W (f:aj au w W) u v u' v' (h1:bC Q w u v (ks.find k).1 (ks.find k).2) (h2:bC Q' w u' v' (ks'.find k).1 (ks'.find k).2)=>
   gG _ _ _ _ W u v u' v' qF qG (h1.aN f) (h2.aN f) (Rd.aN hca f) (Rd.aN hcb f) (uV.out k hm).1 (uV.out k hm).2 (by have:=DU ks k;unfold sizeT at hsa⊢;unfold sizeT at this;omega) (by have:=DU ks' k;unfold sizeT at hsb⊢;unfold sizeT at this;omega))
  clear gG
  have HKK:=ah (Rl oa ob)
  have f_:=ah (Jo ks.keys ks'.keys)
  have mX:=ah ks.nM
  have kK:=ah ks'.nM
  obtain⟨os,hk,hf⟩:=ha.kids
  obtain⟨os',hk',hf'⟩:=hb.kids
  have hcl:(fZ ks os).length=ks.len*3:=hf.length
  have hcl':(fZ ks' os').length=ks'.len*3:=hf'.length
  have hkc:vH (fZ ks os++fZ ks' os') (ks.keys++ks'.keys):=(xJ hf).append (xJ hf') (by rw[hcl,ks.nM])
  have xU:=ah hkc;clear hkc
  have Tz:=ah (fun W b c (f:aj au w W) h0 h1=>Rf W b c kv kv' (fZ ks os) (fZ ks' os') ks.len ks'.len h0 h1 (hk.rd.aN f) (hk'.rd.aN f) hcl hcl' (Jl hf) (Jl hf') (by omega) (by omega))
  generalize fZ ks os++fZ ks' os'=xs at*
  obtain⟨aE,cE,rfl⟩:=ha.ents.rd.sl
  obtain⟨Ac,Ad,rfl⟩:=hb.ents.rd.sl
  obtain⟨aK,cK,rfl⟩:=hk.rd.sl
  obtain⟨vK,vM,rfl⟩:=hk'.rd.sl
  obtain⟨aC,cC,rfl⟩:=hca.sl
  obtain⟨aD,cD,rfl⟩:=hcb.sl
  clear ha hb hk hk' hf hf' hcl hcl' hca hcb hra hrb hsa hsb Tq Tt z_ Aa oa ob
  unfold gW
  obtain⟨hA,xG⟩:∃h,h=fJ ca:=⟨_,rfl⟩
  obtain⟨hB,xH⟩:∃h,h=fJ cb:=⟨_,rfl⟩
  rw[←xG,←xH]at qB HIH⊢
  clear xG xH
  obtain⟨F,hF⟩:∃F:ByteArray→List aG×aH,F=fun k=>gW hA hB N (ks.find k) (ks'.find k):=⟨_,rfl⟩
  have HF:=ah hF
  show Calls _ _ _ _ (zH w (eG hA hB es es') (dY (fun k=>gW hA hB N (ks.find k) (ks'.find k)) (iI ks.keys ks'.keys)))
  rw[←hF]
  clear hF
  have hel:=Jm hA hB es es'
  generalize eG hA hB es es'=EJ at*
  have XF:EJ.length≤8000:=by omega
  clear hel
  generalize hkk:iI ks.keys ks'.keys=kk at*
  clear hkk
  generalize hall:ks.keys++ks'.keys=al at*
  have hal:al.length=ks.len+ks'.len:=by rw[←hall,List.length_append,mX.out,kK.out]
  clear hall
  generalize es.length=n0 at*
  generalize es'.length=rF at*
  generalize ks.len=n at*
  generalize ks'.len=m at*
  generalize ca.length=na at*
  generalize cb.length=nb at*
  have og:=ah hal;clear hal
  have TA:=ah f_.out
  have hKn:kk.length≤8000:=by have:=f_.out;rw[mX.out,kK.out]at this;omega
  clear TA f_
  generalize hen:EJ.length=ne at*
  have jd:=ah hen;clear hen
  obtain⟨hf0,hs0,hb0,hb1,hb2⟩:=zZ w #[.slice aE n0 cE, .slice aK n cK] #[.slice Ac rF Ad, .slice vK m vM] #[.slice none 0 0, .slice none 0 0] 28 28 28
  have fM:=ah hf0;clear hf0
  have Eb:=ah hs0;clear hs0
  have HB0:=ah hb0;clear hb0
  have HB1:=ah hb1;clear hb1
  have HB2:=ah hb2;clear hb2
  go_enter Tryz.func77,Tryz.ntmps77
  go_wp2_with(first
   |(go_at_call 108;refine(qB.out _ fM.out).mono ?_;rintro e w1 ⟨v1,rfl,ho1⟩;obtain⟨a1,c1,rfl⟩:=ho1.shape;have dB:=ah ho1;clear ho1;have y0:=dB.out.aJ.cell' (aI HB0.out 1 rfl) id;have y1:=dB.out.aJ.cell' (aI HB1.out 1 rfl) id;have hl0:=World.block_lt_of_cell? _ _ y0;have hl1:=World.block_lt_of_cell? _ _ y1;have HX0:=ah (fun X=>aI (heap_alloc_new (w1.alloc (.cells #[.slice a1 ne c1, .slice none 0 0] 28)) (.cells #[.slice aK n cK, .slice vK m vM] X)) 0 rfl);have wP:=ah (fun X=>aI (heap_alloc_new (w1.alloc (.cells #[.slice a1 ne c1, .slice none 0 0] 28)) (.cells #[.slice aK n cK, .slice vK m vM] X)) 1 rfl);simp only[World.size_alloc]at HX0 wP)
   |(go_at_call 109;refine(Tz.out _ _ _ (((fM.out.aF dB.out.aJ).alloc1).alloc1) (HX0.out _) (wP.out _)).mono ?_;rintro e w2 ⟨v2,rfl,ho2⟩;obtain⟨a2,c2,rfl⟩:=ho2.shape;have dV:=ah ho2;clear ho2))
  have HE2:=ah ((aj.alloc au (w1.alloc (.cells #[.slice a1 ne c1, .slice none 0 0] 28)) _).aF dV.out.aJ)
  have hnm:n+m≤8000:=by omega
  go_loopw [10,31] (fun kv iv W=>∃k:Nat,k≤n+m∧iv= .int .i64 k∧OwnAt w2 W 9 1 kv k ((al.take k).map .string)) (fun _ iv _=>n+m-(intOf iv).toNat)
  case atStart=>exact⟨0,by omega,rfl,OwnAt.nil (aj.refl _ _) _ _⟩
  case round=>
   obtain⟨k,hk,rfl,ho⟩:=hrel
   obtain⟨av,cv,rfl⟩:=ho.shape
   have HO:=ah ho;clear ho
   clear y0 y1 hl0 hl1
   by_cases hlt:k<n+m
   ·obtain⟨b0,m0,d0,b1,m1,d1,q0,q1,q2⟩:=xU.out k (by rw[og.out];exact hlt)
    rcases Rd.shape dV.out.rd with⟨ad,he,h0⟩|⟨b,off,cc,he,hmax⟩
    ·omega
    injection he with e1 e2 e3
    subst e1 e3
    clear e2
    have r:=dV.out.rd.aN HO.out.aJ
    replace q0:=r.cell _ _ q0
    replace q1:wr.cell? ⟨b,off+k*3+1,none⟩=some (.slice b0 m0 d0):=r.cell (k*3+1) _ q1
    replace q2:wr.cell? ⟨b,off+k*3+2,none⟩=some (.slice b1 m1 d1):=r.cell (k*3+2) _ q2
    clear r
    have HST:=ah (Ro (l:=al) (k:=k) (by rw[og.out];exact hlt))
    generalize al.getD k ByteArray.empty=key at*
    have JG:(k:Int)<(n:Int)+(m:Int):=by omega
    have bJ:=ah (HO.out.keep (aj.alloc au wr (.cells #[.string key, .slice b0 m0 d0, .slice b1 m1 d1] 52)))
    go_wp2_with(at_builtin;refine jF w2 _ [.string key] rfl (.tmp 35) (.tmp 38) 101 rfl 9 i0 _ 1 16 Tryz.underlying101 hi hz0 hz1 hz2 (by decide) (by decide) _ _ _ bJ.out 1 1 rfl (by simp[Act.eval]) rfl (by simp[Value.oneCell']) (by simp only[maxLen];omega) (by omega) ?_;intro ad cc w5 dw;have OW:=ah dw;clear dw)
    go_roundw
    case rel=>exact⟨k+1,by omega,by go_num,by rw[HST.out];exact OW.out⟩
    case measure=>simp[intOf];omega
   ·obtain rfl:k=n+m:=by omega
    have hos:OwnAt w2 wr 9 1 (.slice av (n+m) cv) (n+m) ((al.map ByteArray.toList).map encStr):=by
     have:=HO.out
     rw[List.take_of_length_le (by rw[og.out];exact Nat.le_refl _)]at this
     rw[map_encStr];exact this
    have JH:=ah hos;clear hos
    clear HO xU
    go_wp2_with(first
     |(go_at_call 110;refine(Rh w2 _ _ _ (n+m) _ JH.out (by rw[List.length_map,og.out]) (by omega)).mono ?_;rintro e w3 ⟨rfl,ho3⟩;have bJ:=ah ho3;clear ho3)
     |(go_at_call 111;refine(Rj w2 _ _ _ (n+m) _ bJ.out (by rw[List.length_mergeSort,List.length_map,og.out]) (by omega)).mono ?_;rintro e w4 ⟨v4,rfl,ji⟩;rw[HKK.out,map_encStr,List.length_map]at ji;obtain⟨a4,c4,rfl⟩:=ji.shape;have jy:=ah ji;clear ji))
    generalize hK:kk.length=K at*
    have xR:=ah hK;clear hK
    have Ae:=ah (HE2.out.aF jy.out.aJ)
    have hs1:=dB.out.aJ.size
    have hs2:=HE2.out.size
    rw[Eb.out]at hs1
    simp only[World.size_alloc]at hs2
    have hc0:lI w (w1.alloc (.cells #[.slice a1 ne c1, .slice none 0 0] 28)) (w.heap.size+1+1) w1.heap.size ne (.slice a1 ne c1) (.slice none 0 0) EJ (dY F kk) 0 []:=by
     refine⟨(fM.out.aF dB.out.aJ).alloc1,(aj.alloc au _ _).blk (dB.out.aJ.blk HB2.out id) id,heap_alloc_new w1 _,by omega,by omega,by omega,dP.nil ((fM.out.aF dB.out.aJ).alloc1) _ _,?_,fun q hq=>(by cases hq),rfl,rfl⟩
     exact dB.out.IL.turn fun b hb hQ=>⟨Below.heap_alloc _ _ _ hb,by have:=Eb.out;omega,by have:=Eb.out;omega,by omega,by simp[Value.ownBlock]⟩
    have Dn:=ah (hc0.keep Ae.out);clear hc0
    have bD:=ah (fun W (f:aj (fun b=>b=w1.heap.size) w4 W)=>(show W.cell? ⟨w.heap.size,0,none⟩=some (.slice aE n0 cE)∧W.cell? ⟨w.heap.size,1,none⟩=some (.slice aK n cK)∧W.cell? ⟨w.heap.size+1,0,none⟩=some (.slice Ac rF Ad)∧W.cell? ⟨w.heap.size+1,1,none⟩=some (.slice vK m vM)from by
     have g0:=Ae.out.blk ((aj.alloc au w1 _).blk (dB.out.aJ.blk HB0.out id) id) id
     have g1:=Ae.out.blk ((aj.alloc au w1 _).blk (dB.out.aJ.blk HB1.out id) id) id
     exact⟨f.cell' (aI g0 0 rfl) (by show ¬w.heap.size=w1.heap.size;omega),f.cell' (aI g0 1 rfl) (by show ¬w.heap.size=w1.heap.size;omega),f.cell' (aI g1 0 rfl) (by show ¬w.heap.size+1=w1.heap.size;omega),f.cell' (aI g1 1 rfl) (by show ¬w.heap.size+1=w1.heap.size;omega)⟩))
    have fH:=ah (fun W (f:aj (fun b=>b=w1.heap.size) w4 W)=>Rd.keep jy.out.rd f (fun b hb h=>by have:=jy.out.new b hb;have h:b=w1.heap.size:=h;omega))
    have Dp:w1.heap.size<w4.heap.size:=by have:=jy.out.aJ.size;omega
    have XG:=ah Dp;clear Dp
    have JI:=ah hs1;clear hs1
    clear hs2 hlt hk Ae HE2 JH dV HX0 wP
    go_loopw [46] (fun iv ww=>∃(i:Nat) (l:List bg) (vg:Value),i≤K∧iv= .int .i64 i∧lI w ww (w.heap.size+1+1) w1.heap.size ne (.slice a1 ne c1) vg EJ (dY F kk) l.length l∧(dY F kk).drop l.length=dY F (kk.drop i)∧aj (fun b=>b=w1.heap.size) w4 ww∧wu w4 vg∧l.length≤i) (fun iv _=>K-(intOf iv).toNat)
    case atStart=>exact⟨0,[],_,Nat.zero_le _,rfl,Dn.out,rfl,aj.refl _ _,fun b hb=>by simp[Value.ownBlock]at hb,Nat.le_refl _⟩
    case round=>
     obtain⟨i,l,vg,hik,rfl,hc,hdr,hfr,JJ,JG⟩:=hrel
     obtain⟨av,cv,rfl⟩:=hc.own.at_.shape
     have HC:=ah hc;clear hc
     have HDR:=ah hdr;clear hdr
     have iZ:=ah hfr;clear hfr
     have Ec:=ah JJ;clear JJ
     generalize hp:l.length=p at*
     have HP:=ah hp;clear hp
     by_cases hlt:i<K
     ·have hr:=fH.out wr iZ.out
      rcases Rd.shape hr with⟨ad,he,h0⟩|⟨b,off,cc,he,hmax⟩
      ·omega
      injection he with e1 e2 e3
      subst e1 e3
      clear e2
      have hki:i<kk.length:=by rw[xR.out];exact hlt
      have q0:wr.cell? ⟨b,off+i,none⟩=some (.string (kk.getD i ByteArray.empty)):=hr.cell i _ (by rw[List.getElem?_map,List.getElem?_eq_getElem hki,getD_at _ hki];rfl)
      clear hr
      have TB:=ah (getD_mem ByteArray.empty hki)
      have hkd:dY F (kk.drop i)=jl (kk.getD i ByteArray.empty) (F (kk.getD i ByteArray.empty)) (dY F (kk.drop (i+1))):=by rw[Rq hki];rfl
      have Ed:=ah (HDR.out.trans hkd);clear hkd hki
      generalize kk.getD i ByteArray.empty=key at*
      have eY:=ah (show F key=gW hA hB N (ks.find key) (ks'.find key) by rw[HF.out])
      obtain⟨p1,m1,d1,p2,m2,d2,hta,hka⟩:=Tv.out key
      obtain⟨p3,m3,d3,p4,m4,d4,htb,hkb⟩:=HKB.out key
      have JK:=ah hka;clear hka
      have Ee:=ah hkb;clear hkb
      have pG:=ah (fun W (f:aj au w W)=>HIH.out key TB.out W f _ _ _ _ hta htb)
      clear hta htb
      rw[←eY.out]at pG
      obtain⟨Es,Ks,JL⟩:∃Es Ks,F key=(Es,Ks):=⟨_,_,rfl⟩
      rw[JL]at pG Ed
      clear eY JL
      obtain⟨s0,s1,s2,s3⟩:=bD.out wr iZ.out
      have hb0:=World.block_lt_of_cell? _ _ s0
      have hb1:=World.block_lt_of_cell? _ _ s2
      go_wp2_with fail
      go_cut [15] (fun v15 W1=>Tj wr W1 v15 Es Ks)
      case first=>
       have eF:=ah (fun Y (f:aj au wr Y)=>(⟨f,f.cell' s0 id,f.cell' s1 id,f.cell' s2 id,f.cell' s3 id⟩:aj au wr Y∧Y.cell? ⟨w.heap.size,0,none⟩=some (.slice aE n0 cE)∧Y.cell? ⟨w.heap.size,1,none⟩=some (.slice aK n cK)∧Y.cell? ⟨w.heap.size+1,0,none⟩=some (.slice Ac rF Ad)∧Y.cell? ⟨w.heap.size+1,1,none⟩=some (.slice vK m vM)))
       refine iY (S:=fun w'=>aj au wr w'∧w'.cell? ⟨w.heap.size,0,none⟩=some (.slice aE n0 cE)∧w'.cell? ⟨w.heap.size,1,none⟩=some (.slice aK n cK)∧w'.cell? ⟨w.heap.size+1,0,none⟩=some (.slice Ac rF Ad)∧w'.cell? ⟨w.heap.size+1,1,none⟩=some (.slice vK m vM)) 10 (by kernel_rfl) (eF.out _ (aj.drew _ _)) ?_
       intro hS
       clear s0 s1 s2 s3 q0 hb0 hb1
       generalize wr.drew=Y at*
       refine aT 0 50 rfl rfl (v:=?_) (.inl ⟨by rfl,?_⟩) ?_
       rotate_left 1
       ·(intro w hSw;(try dsimp only at hSw);go_simp;(try with_reducible rfl))
       refine aT 1 51 rfl rfl (v:=?_) (.inl ⟨by rfl,?_⟩) ?_
       rotate_left 1
       ·(intro w hSw;(try dsimp only at hSw);go_simp;(try with_reducible rfl))
       try simp only[Act.put,aP,aQ,aO]
       refine aT 3 53 rfl rfl (v:=?_) (.inl ⟨by rfl,?_⟩) ?_
       rotate_left 1
       ·(intro w hSw;(try dsimp only at hSw);go_simp;(try with_reducible rfl))
       refine aT 4 54 rfl rfl (v:=?_) (.inl ⟨by rfl,?_⟩) ?_
       rotate_left 1
       ·(intro w hSw;(try dsimp only at hSw);go_simp;(try with_reducible rfl))
       try simp only[Act.put,aP,aQ,aO]
       refine aT 6 56 rfl rfl (v:=?_) (.inl ⟨by rfl,?_⟩) ?_
       rotate_left 1
       ·(intro w hSw;(try dsimp only at hSw);go_simp;(try with_reducible rfl))
       refine aT 7 57 rfl rfl (v:=?_) (.inl ⟨by rfl,?_⟩) ?_
       rotate_left 1
       ·(intro w hSw;(try dsimp only at hSw);go_simp;(try with_reducible rfl))
       try simp only[Act.put,aP,aQ,aO]
       refine vF (i:=2) (j:=9) (by kernel_rfl) rfl rfl (fun K hK=>?_) (fun K hK=>?_)
       ·go_simp
        refine(JK.out _ (HC.out.aJ.aF hS.1)).mono ?_
        rintro e2 Y2 ⟨rfl,hf2⟩
        have hS1:=eF.out Y2 (hS.1.aF hf2)
        try replace hM:=hf2.blk hM id
        refine hK.out _ _ hS1 ?_
        clear hK K hS
        have hS:=hS1
        clear hS1 hf2
        generalize Y2=Y at*
        try simp only[Act.put,aP,aQ,aO]
        refine vF (i:=5) (j:=9) (by kernel_rfl) rfl rfl (fun K hK=>?_) (fun K hK=>?_)
        ·go_simp
         refine(Ee.out _ (HC.out.aJ.aF hS.1)).mono ?_
         rintro e5 Y5 ⟨rfl,hf2⟩
         have hS1:=eF.out Y5 (hS.1.aF hf2)
         try replace hM:=hf2.blk hM id
         refine hK.out _ _ hS1 ?_
         clear hK K hS
         have hS:=hS1
         clear hS1 hf2
         generalize Y5=Y at*
         try simp only[Act.put,aP,aQ,aO]
         refine vF (i:=8) (j:=9) (by kernel_rfl) rfl rfl (fun K hK=>?_) (fun K hK=>?_)
         ·go_simp
          refine(pG.out _ (HC.out.aJ.aF hS.1)).mono ?_
          rintro e8 Y8 ⟨mQ,gU,rfl,hta,hf3⟩
          obtain⟨a5,c5,rfl⟩:=hta.ents.rd.sl
          obtain⟨nN,hk5,-⟩:=hta.kids
          obtain⟨a6,c6,rfl⟩:=hk5.rd.sl
          clear hk5
          have hS1:=eF.out Y8 (hS.1.aF hf3)
          have hsz:=hS.1.size
          first
           |(have hT:bC (fun b=>wr.heap.size≤b∧b≠mb) Y8 (.slice a5 Es.length c5) (.slice a6 Ks.len c6) Es Ks:=hta.turn fun b hb hQ=>⟨rfl,by omega,by have:=lt_of_block hM;omega⟩;replace hM:=hf3.blk hM id)
           |(have hT:bC (fun b=>wr.heap.size≤b) Y8 (.slice a5 Es.length c5) (.slice a6 Ks.len c6) Es Ks:=hta.turn fun b hb hQ=>⟨rfl,by omega⟩)
          refine hK.out _ _ hS1 ?_
          clear hK K hS hta hf3 hsz
          have hS:=hS1
          clear hS1
          generalize Y8=Y at*
          try simp only[Act.put,aP,aQ,aO]
          refine bP (i:=9) (by kernel_rfl) rfl (fun K hK=>?_)
          go_simp
          have hf:aj au Y (Y.alloc (.cells #[.slice none 0 0, .slice none 0 0] 28)):=aj.alloc _ _ _
          have hM:=heap_alloc_new Y (.cells #[.slice none 0 0, .slice none 0 0] 28)
          have hS1:=eF.out _ (hS.1.aF hf)
          obtain⟨mb,hmb⟩:∃mb,Y.heap.size=mb:=⟨_,rfl⟩
          have hmw:wr.heap.size≤mb:=by have:=hS.1.size;omega
          try replace hT:bC (fun b=>wr.heap.size≤b∧b≠mb) (Y.alloc (.cells #[.slice none 0 0, .slice none 0 0] 28)) (.slice a5 Es.length c5) (.slice a6 Ks.len c6) Es Ks:=hT.turn fun b hb hQ=>⟨Below.heap_alloc _ _ _ hb,hQ,by omega⟩
          rw[hmb]at hM⊢
          refine hK.out _ _ hS1 ?_
          clear hK K hS hf hmb
          have hS:=hS1
          clear hS1
          generalize Y.alloc (.cells #[.slice none 0 0, .slice none 0 0] 28)=Y at*
          try simp only[Act.put,aP,aQ,aO]
          refine iK (by kernel_rfl) (by kernel_rfl) rfl (fun K hK=>?_)
          have z0:=aI hM 0 rfl
          have z1:=aI hM 1 rfl
          have f0:=bn hM 0
          have f1:=bn hM 1
          go_simp
          refine hK.out _ _ ?_
          clear hK K z0 z1 f0 f1
          obtain⟨r0,r1,r2⟩:=res2 hM hS.1 hmw (.slice a5 Es.length c5) (.slice a6 Ks.len c6)
          go_wp2_with fail
          go_meet
          case rel=>exact⟨mb,_,_,_,_,_,_,rfl,r1,hmw,r0,rfl,rfl,hT.turn fun b hb hQ=>⟨r2 b hQ.2,hQ⟩⟩
         ·go_simp
          have hf:aj au Y (Y.alloc (.cells #[.slice none 0 0, .slice none 0 0] 28)):=aj.alloc _ _ _
          have hM:=heap_alloc_new Y (.cells #[.slice none 0 0, .slice none 0 0] 28)
          have hS1:=eF.out _ (hS.1.aF hf)
          obtain⟨mb,hmb⟩:∃mb,Y.heap.size=mb:=⟨_,rfl⟩
          have hmw:wr.heap.size≤mb:=by have:=hS.1.size;omega
          try replace hT:bC (fun b=>wr.heap.size≤b∧b≠mb) (Y.alloc (.cells #[.slice none 0 0, .slice none 0 0] 28)) (.slice a5 Es.length c5) (.slice a6 Ks.len c6) Es Ks:=hT.turn fun b hb hQ=>⟨Below.heap_alloc _ _ _ hb,hQ,by omega⟩
          rw[hmb]at hM⊢
          refine hK.out _ _ hS1 ?_
          clear hK K hS hf hmb
          have hS:=hS1
          clear hS1
          generalize Y.alloc (.cells #[.slice none 0 0, .slice none 0 0] 28)=Y at*
          try simp only[Act.put,aP,aQ,aO]
          refine bP (i:=8) (by kernel_rfl) rfl (fun K hK=>?_)
          go_simp
          refine(pG.out _ (HC.out.aJ.aF hS.1)).mono ?_
          rintro e8 Y8 ⟨mQ,gU,rfl,hta,hf3⟩
          obtain⟨a5,c5,rfl⟩:=hta.ents.rd.sl
          obtain⟨nN,hk5,-⟩:=hta.kids
          obtain⟨a6,c6,rfl⟩:=hk5.rd.sl
          clear hk5
          have hS1:=eF.out Y8 (hS.1.aF hf3)
          have hsz:=hS.1.size
          first
           |(have hT:bC (fun b=>wr.heap.size≤b∧b≠mb) Y8 (.slice a5 Es.length c5) (.slice a6 Ks.len c6) Es Ks:=hta.turn fun b hb hQ=>⟨rfl,by omega,by have:=lt_of_block hM;omega⟩;replace hM:=hf3.blk hM id)
           |(have hT:bC (fun b=>wr.heap.size≤b) Y8 (.slice a5 Es.length c5) (.slice a6 Ks.len c6) Es Ks:=hta.turn fun b hb hQ=>⟨rfl,by omega⟩)
          refine hK.out _ _ hS1 ?_
          clear hK K hS hta hf3 hsz
          have hS:=hS1
          clear hS1
          generalize Y8=Y at*
          try simp only[Act.put,aP,aQ,aO]
          refine iK (by kernel_rfl) (by kernel_rfl) rfl (fun K hK=>?_)
          have z0:=aI hM 0 rfl
          have z1:=aI hM 1 rfl
          have f0:=bn hM 0
          have f1:=bn hM 1
          go_simp
          refine hK.out _ _ ?_
          clear hK K z0 z1 f0 f1
          obtain⟨r0,r1,r2⟩:=res2 hM hS.1 hmw (.slice a5 Es.length c5) (.slice a6 Ks.len c6)
          go_wp2_with fail
          go_meet
          case rel=>exact⟨mb,_,_,_,_,_,_,rfl,r1,hmw,r0,rfl,rfl,hT.turn fun b hb hQ=>⟨r2 b hQ.2,hQ⟩⟩
        ·go_simp
         have hf:aj au Y (Y.alloc (.cells #[.slice none 0 0, .slice none 0 0] 28)):=aj.alloc _ _ _
         have hM:=heap_alloc_new Y (.cells #[.slice none 0 0, .slice none 0 0] 28)
         have hS1:=eF.out _ (hS.1.aF hf)
         obtain⟨mb,hmb⟩:∃mb,Y.heap.size=mb:=⟨_,rfl⟩
         have hmw:wr.heap.size≤mb:=by have:=hS.1.size;omega
         try replace hT:bC (fun b=>wr.heap.size≤b∧b≠mb) (Y.alloc (.cells #[.slice none 0 0, .slice none 0 0] 28)) (.slice a5 Es.length c5) (.slice a6 Ks.len c6) Es Ks:=hT.turn fun b hb hQ=>⟨Below.heap_alloc _ _ _ hb,hQ,by omega⟩
         rw[hmb]at hM⊢
         refine hK.out _ _ hS1 ?_
         clear hK K hS hf hmb
         have hS:=hS1
         clear hS1
         generalize Y.alloc (.cells #[.slice none 0 0, .slice none 0 0] 28)=Y at*
         try simp only[Act.put,aP,aQ,aO]
         refine bP (i:=5) (by kernel_rfl) rfl (fun K hK=>?_)
         go_simp
         refine(Ee.out _ (HC.out.aJ.aF hS.1)).mono ?_
         rintro e5 Y5 ⟨rfl,hf2⟩
         have hS1:=eF.out Y5 (hS.1.aF hf2)
         try replace hM:=hf2.blk hM id
         refine hK.out _ _ hS1 ?_
         clear hK K hS
         have hS:=hS1
         clear hS1 hf2
         generalize Y5=Y at*
         try simp only[Act.put,aP,aQ,aO]
         refine bP (i:=8) (by kernel_rfl) rfl (fun K hK=>?_)
         go_simp
         refine(pG.out _ (HC.out.aJ.aF hS.1)).mono ?_
         rintro e8 Y8 ⟨mQ,gU,rfl,hta,hf3⟩
         obtain⟨a5,c5,rfl⟩:=hta.ents.rd.sl
         obtain⟨nN,hk5,-⟩:=hta.kids
         obtain⟨a6,c6,rfl⟩:=hk5.rd.sl
         clear hk5
         have hS1:=eF.out Y8 (hS.1.aF hf3)
         have hsz:=hS.1.size
         first
          |(have hT:bC (fun b=>wr.heap.size≤b∧b≠mb) Y8 (.slice a5 Es.length c5) (.slice a6 Ks.len c6) Es Ks:=hta.turn fun b hb hQ=>⟨rfl,by omega,by have:=lt_of_block hM;omega⟩;replace hM:=hf3.blk hM id)
          |(have hT:bC (fun b=>wr.heap.size≤b) Y8 (.slice a5 Es.length c5) (.slice a6 Ks.len c6) Es Ks:=hta.turn fun b hb hQ=>⟨rfl,by omega⟩)
         refine hK.out _ _ hS1 ?_
         clear hK K hS hta hf3 hsz
         have hS:=hS1
         clear hS1
         generalize Y8=Y at*
         try simp only[Act.put,aP,aQ,aO]
         refine iK (by kernel_rfl) (by kernel_rfl) rfl (fun K hK=>?_)
         have z0:=aI hM 0 rfl
         have z1:=aI hM 1 rfl
         have f0:=bn hM 0
         have f1:=bn hM 1
         go_simp
         refine hK.out _ _ ?_
         clear hK K z0 z1 f0 f1
         obtain⟨r0,r1,r2⟩:=res2 hM hS.1 hmw (.slice a5 Es.length c5) (.slice a6 Ks.len c6)
         go_wp2_with fail
         go_meet
         case rel=>exact⟨mb,_,_,_,_,_,_,rfl,r1,hmw,r0,rfl,rfl,hT.turn fun b hb hQ=>⟨r2 b hQ.2,hQ⟩⟩
       ·go_simp
        have hf:aj au Y (Y.alloc (.cells #[.slice none 0 0, .slice none 0 0] 28)):=aj.alloc _ _ _
        have hM:=heap_alloc_new Y (.cells #[.slice none 0 0, .slice none 0 0] 28)
        have hS1:=eF.out _ (hS.1.aF hf)
        obtain⟨mb,hmb⟩:∃mb,Y.heap.size=mb:=⟨_,rfl⟩
        have hmw:wr.heap.size≤mb:=by have:=hS.1.size;omega
        try replace hT:bC (fun b=>wr.heap.size≤b∧b≠mb) (Y.alloc (.cells #[.slice none 0 0, .slice none 0 0] 28)) (.slice a5 Es.length c5) (.slice a6 Ks.len c6) Es Ks:=hT.turn fun b hb hQ=>⟨Below.heap_alloc _ _ _ hb,hQ,by omega⟩
        rw[hmb]at hM⊢
        refine hK.out _ _ hS1 ?_
        clear hK K hS hf hmb
        have hS:=hS1
        clear hS1
        generalize Y.alloc (.cells #[.slice none 0 0, .slice none 0 0] 28)=Y at*
        try simp only[Act.put,aP,aQ,aO]
        refine bP (i:=2) (by kernel_rfl) rfl (fun K hK=>?_)
        go_simp
        refine(JK.out _ (HC.out.aJ.aF hS.1)).mono ?_
        rintro e2 Y2 ⟨rfl,hf2⟩
        have hS1:=eF.out Y2 (hS.1.aF hf2)
        try replace hM:=hf2.blk hM id
        refine hK.out _ _ hS1 ?_
        clear hK K hS
        have hS:=hS1
        clear hS1 hf2
        generalize Y2=Y at*
        try simp only[Act.put,aP,aQ,aO]
        refine bP (i:=5) (by kernel_rfl) rfl (fun K hK=>?_)
        go_simp
        refine(Ee.out _ (HC.out.aJ.aF hS.1)).mono ?_
        rintro e5 Y5 ⟨rfl,hf2⟩
        have hS1:=eF.out Y5 (hS.1.aF hf2)
        try replace hM:=hf2.blk hM id
        refine hK.out _ _ hS1 ?_
        clear hK K hS
        have hS:=hS1
        clear hS1 hf2
        generalize Y5=Y at*
        try simp only[Act.put,aP,aQ,aO]
        refine bP (i:=8) (by kernel_rfl) rfl (fun K hK=>?_)
        go_simp
        refine(pG.out _ (HC.out.aJ.aF hS.1)).mono ?_
        rintro e8 Y8 ⟨mQ,gU,rfl,hta,hf3⟩
        obtain⟨a5,c5,rfl⟩:=hta.ents.rd.sl
        obtain⟨nN,hk5,-⟩:=hta.kids
        obtain⟨a6,c6,rfl⟩:=hk5.rd.sl
        clear hk5
        have hS1:=eF.out Y8 (hS.1.aF hf3)
        have hsz:=hS.1.size
        first
         |(have hT:bC (fun b=>wr.heap.size≤b∧b≠mb) Y8 (.slice a5 Es.length c5) (.slice a6 Ks.len c6) Es Ks:=hta.turn fun b hb hQ=>⟨rfl,by omega,by have:=lt_of_block hM;omega⟩;replace hM:=hf3.blk hM id)
         |(have hT:bC (fun b=>wr.heap.size≤b) Y8 (.slice a5 Es.length c5) (.slice a6 Ks.len c6) Es Ks:=hta.turn fun b hb hQ=>⟨rfl,by omega⟩)
        refine hK.out _ _ hS1 ?_
        clear hK K hS hta hf3 hsz
        have hS:=hS1
        clear hS1
        generalize Y8=Y at*
        try simp only[Act.put,aP,aQ,aO]
        refine iK (by kernel_rfl) (by kernel_rfl) rfl (fun K hK=>?_)
        have z0:=aI hM 0 rfl
        have z1:=aI hM 1 rfl
        have f0:=bn hM 0
        have f1:=bn hM 1
        go_simp
        refine hK.out _ _ ?_
        clear hK K z0 z1 f0 f1
        obtain⟨r0,r1,r2⟩:=res2 hM hS.1 hmw (.slice a5 Es.length c5) (.slice a6 Ks.len c6)
        go_wp2_with fail
        go_meet
        case rel=>exact⟨mb,_,_,_,_,_,_,rfl,r1,hmw,r0,rfl,rfl,hT.turn fun b hb hQ=>⟨r2 b hQ.2,hQ⟩⟩
      case rest=>
       obtain⟨mb,a5,n5,c5,a6,n6,c6,rfl,hf1,hmb,hM,rfl,rfl,hT⟩:=hcut
       have JM:=ah (HC.out.keep hf1)
       have Ef:=ah (iZ.out.aF hf1)
       clear s0 s1 s2 s3 q0 hb0 hb1
       have HM:=ah hM;clear hM
       have HT:=ah hT;clear hT
       have XH:=ah hmb;clear hmb
       have bQ:=ah hf1;clear hf1
       have jI:=ah (fun W=>(show Calls Tryz.prog 113 #[.agg #[.slice a5 Es.length c5, .slice a6 Ks.len c6]] W fun e w'=>e= .returned (.bool (isNil Es Ks))∧aj au W w' from empty_any a5 a6 Es.length Ks.len c5 c6 W))
       have x0:=aI HM.out 0 rfl
       have x1:=aI HM.out 1 rfl
       have hml:=lt_of_block HM.out
       obtain⟨wv,rfl⟩:∃w5,w5=wc:=⟨_,rfl⟩
       have XI:=ah (rfl:isNil Es Ks=isNil Es Ks)
       cases hn:isNil Es Ks with
       |true=>
        have tJ:=ah (Ed.out.trans (show jl key (Es,Ks) (dY F (kk.drop (i+1)))=dY F (kk.drop (i+1)) by unfold jl;rw[if_pos hn]))
        rw[hn]at jI
        clear hn
        go_wp2_with(go_at_call 113;refine(jI.out _).mono ?_;rintro e w7 ⟨rfl,hw7⟩;have pI:=ah hw7;clear hw7)
        go_roundw
        case rel=>exact⟨i+1,l,_,by omega,by go_num,by rw[HP.out];exact JM.out.keep pI.out,by rw[HP.out];exact tJ.out,Ef.out.aF pI.out,Ec.out,by rw[HP.out];omega⟩
        case measure=>simp[intOf];omega
       |false=>
        have tJ:=ah (Ed.out.trans (show jl key (Es,Ks) (dY F (kk.drop (i+1)))= .cons key Es Ks (dY F (kk.drop (i+1))) by unfold jl;rw[if_neg (by rw[hn];simp)]))
        rw[hn]at jI
        clear hn
        generalize hel:Es.length=n5 at*
        generalize hkl:Ks.len=n6 at*
        have XJ:p≤8000:=by omega
        go_wp2_with(first
         |(go_at_call 113;refine(jI.out _).mono ?_;rintro e w7 ⟨rfl,hw7⟩;have pI:=ah hw7;clear hw7 x0 x1;have mY:=ah (JM.out.keep pI.out);have x0:=aI (pI.out.blk HM.out id) 0 rfl;have x1:=aI (pI.out.blk HM.out id) 1 rfl;have y1:=aI mY.out.b3 1 rfl;have hl3:=lt_of_block mY.out.b3;have XL:=lt_of_block (pI.out.blk HM.out id))
         |(at_builtin;refine GX (fun b=>b<w7.heap.size∧(Value.slice av p cv).ownBlock≠some b) w w7 [.string key, .slice a5 n5 c5, .slice a6 n6 c6] rfl (.tmp 63) (.tmp 67) 26 rfl 52 j0 _ 3 64 Tryz.underlying26 hj hy0 hy1 hy2 (by decide) (by decide) (.slice av p cv) p _ ⟨mY.out.own.at_,fun b hb hn=>hn.2 hb⟩ (fun b hb=>hb.1) 1 1 rfl (by simp[Act.eval]) rfl (by simp[Value.oneCell']) (by simp only[maxLen];omega) (by omega) ?_;intro ad iU w8 bI fP;have xW:=ah bI;clear bI;have Af:=ah fP;clear fP;clear y1;have hcz:=Af.out.cell (p:=⟨w1.heap.size,1,none⟩) ⟨hl3,fun h=>mY.out.own.but _ h (.inr rfl)⟩ (aI mY.out.b3 1 rfl);have hcf:=Af.out.frozen (p:=⟨w1.heap.size,1,none⟩) ⟨hl3,fun h=>mY.out.own.but _ h (.inr rfl)⟩ (bn mY.out.b3 1)))
        have hfm:aj (dh (.slice av p cv)) w7 w8:=⟨xW.out.at_.aJ.os.trans mY.out.aJ.os.symm,xW.out.at_.aJ.tape.trans mY.out.aJ.tape.symm,xW.out.at_.aJ.output.trans mY.out.aJ.output.symm,Af.out.1,fun b hb hn=>Af.out.2 b ⟨hb,hn⟩⟩
        have Eh:jr w7 (.slice av p cv) (.slice ad (p+1) iU):=fun b hb=>by
         by_cases h1:(Value.slice av p cv).ownBlock=some b
         ·exact .inl h1
         ·refine .inr ?_
          have:=xW.out.but b hb
          rcases Nat.lt_or_ge b w7.heap.size with h2|h2
          ·exact absurd ⟨h2,h1⟩ this
          ·exact h2
        have hq3:bC (rC w (w.heap.size+1+1) w1.heap.size (.slice av p cv)) w7 (.slice a5 n5 c5) (.slice a6 n6 c6) Es Ks:=(HT.out.aN pI.out).turn fun b hb hQ=>by
         have g1:=HC.out.aJ.size
         have g2:=lt_of_block HC.out.b3
         have g3:=lt_of_block HC.out.b2
         refine⟨rfl,by omega,by omega,by omega,fun h=>?_⟩
         have:=HC.out.own.at_.lt b h
         omega
        have sJ:=ah (mY.out.step (q:=⟨key,Es,Ks, .slice a5 n5 c5, .slice a6 n6 c6⟩) tJ.out hq3 xW.out.at_.own hfm Eh)
        have TD:=ah (((Ef.out.aF pI.out).trans hfm (fun b hb h=>absurd hb (by have:=Ec.out b h;omega))).trans (aj.setCell (S:=fun b=>b=w1.heap.size) w8 (p:=⟨w1.heap.size,1,none⟩) (.inl rfl) (.slice ad (p+1) iU)) fun _ _ h=>h)
        have TF:=ah (show wu w4 (.slice ad (p+1) iU)from fun b hb=>by
         rcases Eh b hb with h|h
         ·exact Ec.out b h
         ·have:=(Ef.out.aF pI.out).size;omega)
        clear hfm Eh hq3
        go_roundw
        case rel=>exact⟨i+1,l++ [⟨key,Es,Ks, .slice a5 n5 c5, .slice a6 n6 c6⟩],_,by omega,by go_num,by rw[List.length_append,HP.out];exact sJ.out,by rw[List.length_append,HP.out];exact aH.qY p _ tJ.out,TD.out,TF.out,by rw[List.length_append,HP.out];simp;omega⟩
        case measure=>simp[intOf];omega
     ·obtain rfl:K=i:=by omega
      have hdn:(dY F kk).drop p= .nil:=by rw[HDR.out,List.drop_of_length_le (by rw[xR.out];exact Nat.le_refl _)];rfl
      have hpl:(dY F kk).len≤p:=by
       have:=aH.zB p (dY F kk)
       rw[hdn]at this
       simp only[aH.len]at this
       omega
      have hdn:=HC.out.done jd.out.symm hpl
      have iM:=ah hdn;clear hdn hpl
      have y0:=aI HC.out.b3 0 rfl
      have y1:=aI HC.out.b3 1 rfl
      have z0:=aI HC.out.b2 0 rfl
      have z1:=aI HC.out.b2 1 rfl
      have f0:=bn HC.out.b2 0
      have f1:=bn HC.out.b2 1
      have hl2:=lt_of_block HC.out.b2
      have hl3:=lt_of_block HC.out.b3
      go_wp2
      clear y0 y1 z0 z1
      have y0:=aI iM.out.2.2 0 rfl
      have y1:=aI iM.out.2.2 1 rfl
      exact bodyPost_ret (v:= .agg #[.slice a1 ne c1, .slice av p cv]) (by simp[results,Tryz.results77,go_sem,y0,y1]) rfl ⟨_,_,rfl,iM.out.1,iM.out.2.1⟩
open Go.RowKit
theorem Ei (b n c:Nat) (a:Option Addr) (k:Int) (w:World) (h:w.cell? ⟨b,0,none⟩=some (.slice a n c)):
 Calls Tryz.prog 39 #[.pointer (some ⟨b,0,none⟩), .int .i64 k] w fun e w'=>e= .returned (.bool (decide (0≤k∧k<n)))∧w'=w:=by
 by_cases h1:0≤k
 ·by_cases h2:k<n
  ·go_enter Tryz.func39,Tryz.ntmps39
   go_wp2
   go_ret
   exact⟨by simp[h1,h2],rfl⟩
  ·have h3:¬(k<(n:Int)):=h2
   go_enter Tryz.func39,Tryz.ntmps39
   go_wp2
   go_ret
   exact⟨by simp[h1,h2],rfl⟩
 ·go_enter Tryz.func39,Tryz.ntmps39
  go_wp2
  go_ret
  exact⟨by simp[h1];omega,rfl⟩
theorem JO {p q:ByteArray→Bool}:∀ {ks:aH},(∀k∈ks.keys,p k=q k)→bF p ks=bF q ks
 | .nil,_=>rfl
 | .cons key es sub rest,h=>by
   have h1:=h key (List.mem_cons_self ..)
   have ih:=JO (p:=p) (q:=q) (ks:=rest) fun k hk=>h k (List.mem_cons_of_mem _ hk)
   simp only[bF,h1,ih]
theorem JQ:∀ {ks:aH},ks.Ok→∀s∈ks.keys,s.size≤9223372036854775807
 | .nil,_,_,hs=>by cases hs
 | .cons key es sub rest,h,s,hs=>by
   rcases List.mem_cons.1 hs with rfl|hs
   ·exact h.1
   ·exact JQ h.2.2.2.2 s hs
def Ej (w:World) (p:ByteArray→Bool) (ks:aH) (c:aV) (e:Ending) (w':World):Prop:=
 ∃kv cv,e= .returned (.agg #[.slice none 0 0,kv,cv])∧bC (fun b=>w.heap.size≤b) w' (.slice none 0 0) kv [] (bF p ks)∧OwnAt w w' 92 3 cv c.length (bU c)
def cO (n:Nat) (k:Int) (s:ByteArray):Bool:=decide (pF s n=k)
theorem TG {p:ByteArray→Bool} {l:List ByteArray} {k:Nat} (hk:k<l.length):((l.take (k+1)).filter p).map Value.string=((l.take k).filter p).map .string++(if p (l.getD k ByteArray.empty)=true then [.string (l.getD k ByteArray.empty)]else []):=by
 rw[List.take_succ_eq_append_getElem hk,List.filter_append,List.map_append,getD_at _ hk]
 congr 1
 rw[List.filter_cons]
 split<;>simp
theorem JR (Q:Nat→Prop) (es:List aG) (ks:aH) (c:aV) (w:World) (ev kv cv:Value) (h:eu Q w ev kv cv es ks c) (hok:jB es ks c) (hr:fG es ks c)
 (b n cp:Nat) (a:Option Addr) (k:Int) (hb:w.cell? ⟨b,0,none⟩=some (.slice a n cp)):
 Calls Tryz.prog 41 #[.pointer (some ⟨b,0,none⟩), .agg #[ev,kv,cv], .int .i64 k] w (Ej w (cO n k) ks c):=by
 obtain⟨i0,hi,hz0,hz1,hz2⟩:=info_parts Jp
 obtain⟨j0,hj,hy0,hy1,hy2⟩:=info_parts uZ
 have Ag:=ah (fun W (f:aj au w W) keys vk h1 h2=>Sj Q keys vk es ks c W ev kv cv (h.aN f) hok hr h1 h2)
 have HL:=ah (show ks.len≤2000 by have:=kV ks;have:=hok.small;unfold sizeT at this;omega)
 have f_:=ah ks.nM
 obtain⟨os,hk,hf⟩:=h.tree.kids
 have xU:=ah (xJ hf)
 have fH:=ah (fun W (f:aj au w W)=>hk.rd.aN f)
 have iJ:=ah (fun s (hs:s∈ks.keys)=>JQ hok.tree.ks s hs)
 have HB:=ah (fun W (f:aj au w W)=>f.cell' hb id)
 obtain⟨a0,c0,a1,c1,a2,c2,rfl,rfl,rfl⟩:=h.shape
 clear h hok hr hk hf hb
 generalize fZ ks os=xs at*
 generalize es.length=n0 at*
 generalize hkn:ks.len=m at*
 have xR:=ah hkn;clear hkn
 generalize c.length=n2 at*
 obtain⟨WB,iG⟩:∃WB,WB=(w.alloc (.cells #[.slice a0 n0 c0, .slice a1 m c1, .slice a2 n2 c2] 32)).alloc (.cells #[.slice none 0 0, .slice none 0 0, .slice none 0 0] 32):=⟨_,rfl⟩
 have bG:=ah (show aj au w WB by rw[iG];exact(aj.alloc _ _ _).alloc1)
 have HB0:=ah (show WB.heap[w.heap.size]?=some (.cells #[.slice a0 n0 c0, .slice a1 m c1, .slice a2 n2 c2] 32 (0,0)) by rw[iG];exact((aj.refl au _).alloc1 (o:= .cells #[.slice none 0 0, .slice none 0 0, .slice none 0 0] 32)).blk (heap_alloc_new w _) id)
 have HB1:=ah (show WB.heap[w.heap.size+1]?=some (.cells #[.slice none 0 0, .slice none 0 0, .slice none 0 0] 32 (0,0)) by rw[iG];exact(mV w _ _ _).1)
 have bT:=ah iG
 clear iG
 have hm2:=HL.out
 go_enter Tryz.func41,Tryz.ntmps41
 go_wp2
 go_loopw [7,16] (fun kv iv W=>∃i:Nat,i≤m∧iv= .int .i64 i∧OwnAt WB W 9 1 kv ((ks.keys.take i).filter (cO n k)).length (((ks.keys.take i).filter (cO n k)).map .string)) (fun _ iv _=>m-(intOf iv).toNat)
 case atStart=>exact⟨0,by omega,rfl,by rw[←bT.out];exact OwnAt.nil (aj.refl _ _) _ _⟩
 case round=>
  obtain⟨i,hi1,rfl,ho⟩:=hrel
  obtain⟨av,cv,rfl⟩:=ho.shape
  have HO:=ah ho;clear ho
  have gq:=ah (bG.out.aF HO.out.aJ)
  by_cases hlt:i<m
  ·have hil:i<ks.keys.length:=by rw[f_.out];exact hlt
   obtain⟨b0,m0,d0,b1,m1,d1,q0,q1,q2⟩:=xU.out i hil
   have hsz:=iJ.out _ (getD_mem ByteArray.empty hil)
   have jc:=ah (fun W=>JF (ks.keys.getD i ByteArray.empty) n W hsz)
   have HST:=ah (TG (p:=cO n k) hil)
   have hfl:((ks.keys.take i).filter (cO n k)).length≤2000:=by have:=List.length_filter_le (cO n k) (ks.keys.take i);rw[List.length_take]at this;omega
   rcases Rd.shape (fH.out _ gq.out)with⟨ad,he,h0⟩|⟨g,off,cc,he,hmax⟩
   ·omega
   injection he with e1 e2 e3
   subst e1 e3
   clear e2 hil hsz
   have r:=fH.out _ gq.out
   replace q0:=r.cell _ _ q0
   replace q1:wr.cell? ⟨g,off+i*3+1,none⟩=some (.slice b0 m0 d0):=r.cell (i*3+1) _ q1
   replace q2:wr.cell? ⟨g,off+i*3+2,none⟩=some (.slice b1 m1 d1):=r.cell (i*3+2) _ q2
   clear r
   generalize ks.keys.getD i ByteArray.empty=key at*
   generalize ((ks.keys.take i).filter (cO n k))=l at*
   have JG:(i:Int)<(m:Int):=by omega
   have jk:=ah (gq.out.alloc1 (o:= .cells #[.string key, .slice b0 m0 d0, .slice b1 m1 d1] 52))
   have bJ:=ah (HO.out.keep (aj.alloc au wr (.cells #[.string key, .slice b0 m0 d0, .slice b1 m1 d1] 52)))
   have HX:=ah (heap_alloc_new wr (.cells #[.string key, .slice b0 m0 d0, .slice b1 m1 d1] 52))
   obtain⟨α,hne,K,hK1,hK0,hK2⟩:=worlds (wr.alloc (.cells #[.string key, .slice b0 m0 d0, .slice b1 m1 d1] 52))
   have eY:=ah hK1
   have k0:∀s,(K s).cell? ⟨wr.heap.size,0,none⟩=some (.string key):=fun s=>(hK1 s).cell' (aI HX.out 0 rfl) id
   have k1:∀s,(K s).cell? ⟨b,0,none⟩=some (.slice a n cp):=fun s=>HB.out _ (jk.out.aF (hK1 s))
   clear hK1
   go_wp2_with fail
   refine dA K (by kernel_rfl) (by kernel_rfl) hK0 ?_
   repeat(go_big_quiet_step ((go_at_call 10;exact Calls.bf hK2 ((jc.out _).mono fun _ _ h=>⟨h.1,h.2▸aj.refl _ _⟩))))
   refine wpQuiet_nil ?_
   intro w' hw'
   obtain⟨s,rfl⟩:=hw'
   have y0:=k0 s
   have jy:=ah (bJ.out.keep (eY.out s))
   clear k0 k1 hK0 hK2
   by_cases hd:pF key n=k
   ·have hst:=HST.out
    rw[if_pos (by simp[cO,hd])]at hst
    have HS2:=ah hst;clear hst HST
    go_wp2_with(at_builtin;refine jF WB _ [.string key] rfl (.tmp 30) (.tmp 33) 101 rfl 9 i0 _ 1 16 Tryz.underlying101 hi hz0 hz1 hz2 (by decide) (by decide) _ _ _ jy.out 1 1 rfl (by simp[Act.eval]) rfl (by simp[Value.oneCell']) (by simp only[maxLen];omega) (by omega) ?_;intro ad cc w5 dw;have OW:=ah dw;clear dw)
    go_roundw
    case rel=>exact⟨i+1,by omega,by go_num,by have hl:=congrArg List.length HS2.out;simp only[List.length_map,List.length_append,List.length_cons,List.length_nil]at hl;rw[HS2.out,hl];exact OW.out⟩
    case measure=>simp[intOf];omega
   ·have hst:=HST.out
    rw[if_neg (by simp[cO,hd]),List.append_nil]at hst
    have HS2:=ah hst;clear hst HST
    go_wp2
    go_roundw
    case rel=>exact⟨i+1,by omega,by go_num,by have hl:=congrArg List.length HS2.out;simp only[List.length_map]at hl;rw[HS2.out,hl];exact jy.out⟩
    case measure=>simp[intOf];omega
  ·obtain rfl:i=m:=by omega
   have hkl:ks.keys.take i=ks.keys:=List.take_of_length_le (by rw[f_.out];exact Nat.le_refl _)
   rw[hkl]at HO⊢
   have Em:=ah (Ag.out wr gq.out (ks.keys.filter (cO n k)) _ HO.out.rd (by have:=List.length_filter_le (cO n k) ks.keys;have:=f_.out;omega))
   have hfk:bF (fun s=>tf (s∈ks.keys.filter (cO n k))) ks=bF (cO n k) ks:=JO fun s hs=>by
    cases hq:cO n k s
    ·exact bW fun h=>by simp[hq]at h
    ·exact dH (List.mem_filter.2 ⟨hs,hq⟩)
   unfold Jv at Em
   rw[hfk]at Em
   have q0:=aI (HO.out.aJ.blk HB0.out id) 0 rfl
   have q1:=aI (HO.out.aJ.blk HB0.out id) 1 rfl
   have q2:=aI (HO.out.aJ.blk HB0.out id) 2 rfl
   have hl0:=World.block_lt_of_cell? _ _ q0
   have gK:=ah (HO.out.aJ.blk HB1.out id)
   clear hkl hfk HO xU fH iJ Ag f_
   go_wp2_with(go_at_call 71;refine Em.out.mono ?_;rintro e w5 ⟨TI,TJ,rfl,hta,h_⟩;obtain⟨nN,iq,-⟩:=hta.kids;obtain⟨a5,c5,rfl⟩:=iq.rd.sl;obtain⟨a6,c6,rfl⟩:=h_.shape;clear iq q0 q1 q2 hl0;have hblk:=(h_.aJ.alloc1 (o:= .cells #[.slice none 0 0, .slice a5 (bF (cO n k) ks).len c5, .slice a6 c.length c6] 32)).blk gK.out id;have z0:=aI hblk 0 rfl;have z1:=aI hblk 1 rfl;have z2:=aI hblk 2 rfl;have g0:=bn hblk 0;have g1:=bn hblk 1;have g2:=bn hblk 2;have hbl:=lt_of_block hblk;have iF:=ah hta;clear hta;have iH:=ah h_;clear h_;have TK:=ah hblk;clear hblk)
   have JU:=lt_of_block gK.out
   have hsw:=gq.out.size
   have hs5:=iH.out.aJ.size
   have hf5:=(gq.out.aF iH.out.aJ).alloc1 (o:= .cells #[.slice none 0 0, .slice a5 (bF (cO n k) ks).len c5, .slice a6 c.length c6] 32)
   have HR3:=ah (sV TK.out hf5 (by omega) (.slice none 0 0) (.slice a5 (bF (cO n k) ks).len c5) (.slice a6 c.length c6))
   have HP:=ah ((iF.out.aN (aj.alloc au w5 (.cells #[.slice none 0 0, .slice a5 (bF (cO n k) ks).len c5, .slice a6 c.length c6] 32))).turn (Q':=fun b=>w.heap.size≤b) fun b hb hQ=>⟨HR3.out.2.2 b (by omega),by omega⟩)
   have hnew:=iH.out.new
   have mW:dP (fun b=>b=w.heap.size+1) w (w5.alloc (.cells #[.slice none 0 0, .slice a5 (bF (cO n k) ks).len c5, .slice a6 c.length c6] 32)) 92 3 (.slice a6 c.length c6) c.length (bU c):=⟨(iH.out.keep (aj.alloc _ _ _)).base gq.out,fun b hb hn=>by have:=hnew b hb;omega⟩
   have hown:=(((mW.set (p:=⟨w.heap.size+1,0,none⟩) rfl (Nat.le_succ _) (.slice none 0 0)).set (p:=⟨w.heap.size+1,1,none⟩) rfl (Nat.le_succ _) (.slice a5 (bF (cO n k) ks).len c5)).set (p:=⟨w.heap.size+1,2,none⟩) rfl (Nat.le_succ _) (.slice a6 c.length c6)).at_
   clear z0 z1 z2
   have z0:=aI HR3.out.1 0 rfl
   have z1:=aI HR3.out.1 1 rfl
   have z2:=aI HR3.out.1 2 rfl
   exact bodyPost_ret (v:= .agg #[.slice none 0 0, .slice a5 (bF (cO n k) ks).len c5, .slice a6 c.length c6]) (by simp[results,Tryz.results41,go_sem,z0,z1,z2]) rfl ⟨_,_,rfl,HP.out,hown⟩
open Go.RowKit
def TL (w:World) (p:ByteArray→Bool) (ks:aH) (c:aV) (e:Ending) (w':World):Prop:=
 ∃kv cv,e= .returned (.tuple #[.agg #[.slice none 0 0,kv,cv], .int .i64 0])∧bC (fun b=>w.heap.size≤b) w' (.slice none 0 0) kv [] (bF p ks)∧OwnAt w w' 92 3 cv c.length (bU c)
theorem En (Q:Nat→Prop) (ks:aH) (c:aV) (w:World) (ev kv cv:Value) (h:eu Q w ev kv cv [] ks c) (hok:jB [] ks c) (hr:fG [] ks c)
 (b n cp:Nat) (a:Option Addr) (k:Nat) (hk:k<n) (hb:w.cell? ⟨b,0,none⟩=some (.slice a n cp)):
 Calls Tryz.prog 16 #[.pointer (some ⟨b,0,none⟩), .agg #[ev,kv,cv], .int .i64 k] w (TL w (cO n k) ks c):=by
 have HH:=ah (fun W (f:aj au w W)=>Ei b n cp a k W (f.cell' hb id))
 have HR:=ah (fun W (f:aj au w W)=>dH hr▸rD Q [] ks c W ev kv cv (h.aN f) hok)
 have HC:=ah (fun W (f:aj au w W)=>JR Q [] ks c W ev kv cv (h.aN f) hok hr b n cp a k (f.cell' hb id))
 have hhk:decide (0≤(k:Int)∧(k:Int)<(n:Int))=true:=by rw[decide_eq_true_eq];omega
 rw[hhk]at HH
 obtain⟨a0,c0,a1,c1,a2,c2,rfl,rfl,rfl⟩:=h.shape
 clear h hok hr hhk hb
 unfold Ej at HC
 generalize ks.len=m at*
 obtain⟨WB,iG⟩:∃WB,WB=(w.alloc (.cells #[.slice a0 0 c0, .slice a1 m c1, .slice a2 c.length c2] 32)).alloc (.cells #[.slice none 0 0, .slice none 0 0, .slice none 0 0] 32):=⟨_,rfl⟩
 have bG:=ah (show aj au w WB by rw[iG];exact(aj.alloc _ _ _).alloc1)
 have HB0:=ah (show WB.heap[w.heap.size]?=some (.cells #[.slice a0 0 c0, .slice a1 m c1, .slice a2 c.length c2] 32 (0,0)) by rw[iG];exact((aj.refl au _).alloc1 (o:= .cells #[.slice none 0 0, .slice none 0 0, .slice none 0 0] 32)).blk (heap_alloc_new w _) id)
 have HB1:=ah (show WB.heap[w.heap.size+1]?=some (.cells #[.slice none 0 0, .slice none 0 0, .slice none 0 0] 32 (0,0)) by rw[iG];exact(mV w _ _ _).1)
 have bT:=ah iG
 clear iG
 go_enter Tryz.func16,Tryz.ntmps16
 go_wp2_with(first
  |(go_at_call 39;rw[←bT.out];refine(HH.out _ bG.out).mono ?_;rintro e w1 ⟨rfl,rfl⟩;have y0:=aI HB0.out 0 rfl;have y1:=aI HB0.out 1 rfl;have y2:=aI HB0.out 2 rfl;have hl0:=lt_of_block HB0.out)
  |(go_at_call 40;refine(HR.out _ bG.out).mono ?_;clear y0 y1 y2 hl0;rintro e w2 ⟨rfl,hw2⟩;have y0:=aI (hw2.blk HB0.out id) 0 rfl;have y1:=aI (hw2.blk HB0.out id) 1 rfl;have y2:=aI (hw2.blk HB0.out id) 2 rfl;have hl0:=lt_of_block (hw2.blk HB0.out id);have HW2:=ah hw2;clear hw2)
  |(go_at_call 41;refine(HC.out _ (bG.out.aF HW2.out)).mono ?_;clear y0 y1 y2 hl0;rintro e w3 ⟨gU,jL,rfl,hta,ho3⟩;obtain⟨nN,iq,-⟩:=hta.kids;obtain⟨a5,c5,rfl⟩:=iq.rd.sl;obtain⟨a6,c6,rfl⟩:=ho3.shape;clear iq;have hblk:=ho3.aJ.blk (HW2.out.blk HB1.out id) id;have z0:=aI hblk 0 rfl;have z1:=aI hblk 1 rfl;have z2:=aI hblk 2 rfl;have g0:=bn hblk 0;have g1:=bn hblk 1;have g2:=bn hblk 2;have hbl:=lt_of_block hblk;have iF:=ah hta;clear hta;have bJ:=ah ho3;clear ho3;have HB3:=ah hblk;clear hblk))
 have JU:=lt_of_block HB1.out
 have hsw:=HW2.out.size
 have hs5:=bJ.out.aJ.size
 have HR3:=ah (sV HB3.out ((bG.out.aF HW2.out).aF bJ.out.aJ) (by omega) (.slice none 0 0) (.slice a5 (bF (cO n k) ks).len c5) (.slice a6 c.length c6))
 have HP:=ah (iF.out.turn (Q':=fun b=>w.heap.size≤b) fun b hb hQ=>⟨HR3.out.2.2 b (by omega),by omega⟩)
 have hnew:=bJ.out.new
 have mW:dP (fun b=>b=w.heap.size+1) w w3 92 3 (.slice a6 c.length c6) c.length (bU c):=⟨bJ.out.base (bG.out.aF HW2.out),fun b hb hn=>by have:=hnew b hb;omega⟩
 have hown:=(((mW.set (p:=⟨w.heap.size+1,0,none⟩) rfl (Nat.le_succ _) (.slice none 0 0)).set (p:=⟨w.heap.size+1,1,none⟩) rfl (Nat.le_succ _) (.slice a5 (bF (cO n k) ks).len c5)).set (p:=⟨w.heap.size+1,2,none⟩) rfl (Nat.le_succ _) (.slice a6 c.length c6)).at_
 clear z0 z1 z2
 have z0:=aI HR3.out.1 0 rfl
 have z1:=aI HR3.out.1 1 rfl
 have z2:=aI HR3.out.1 2 rfl
 exact bodyPost_ret (v:= .tuple #[.agg #[.slice none 0 0, .slice a5 (bF (cO n k) ks).len c5, .slice a6 c.length c6], .int .i64 0]) (by simp[results,Tryz.results16,go_sem,z0,z1,z2]) rfl ⟨_,_,rfl,HP.out,hown⟩
end Go.Proofs.YtlhmbkjdfjoilaaGreat
