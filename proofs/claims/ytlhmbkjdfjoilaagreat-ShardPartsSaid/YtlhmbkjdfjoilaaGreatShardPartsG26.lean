/- Words for the law ShardParts: Lv7, Trod, TreeOpen, CauOpen, ShOpen, ShPartsW. -/
import Derived.Test.YtlhmbkjdfjoilaaGreatShardPartsG0
import Derived.Test.YtlhmbkjdfjoilaaGreatShardPartsG1
import Derived.Test.YtlhmbkjdfjoilaaGreatShardPartsG9
import Derived.Test.YtlhmbkjdfjoilaaGreatShardPartsG10
import Derived.Test.YtlhmbkjdfjoilaaGreatShardPartsG22
import Derived.Test.YtlhmbkjdfjoilaaGreatShardPartsG24
import Derived.Test.YtlhmbkjdfjoilaaGreatShardPartsG25
import Derived.Deep.Strs
import Derived.ChangeArms
import Derived.ProofKit
import Derived.OpenShut
import Derived.ChangeSame
import Derived.SizedLaws
set_option linter.unusedSimpArgs false
set_option linter.unusedVariables false
set_option maxHeartbeats 32000000
set_option maxRecDepth 1000000
namespace Go.Proofs.YtlhmbkjdfjoilaaGreat
open Go.RowKit
theorem Om {Q:Nat→Prop} {w:World} {cv:Value} {c:aU} (h:eY w cv c):fP Q w (.slice none 0 0) (.slice none 0 0) cv [] .nil c:=
 ⟨⟨⟨.inl ⟨none,rfl,rfl,rfl⟩,fun h=>absurd rfl h⟩,[],⟨.inl ⟨none,rfl,rfl,rfl⟩,fun h=>absurd rfl h⟩,rfl⟩,h⟩
theorem Oo {c:aU} (hf:gZ c) (hl:c.length≤2000):jW [] .nil c:=⟨Gq.ok.tree,by decide,hf,hl⟩
theorem YB {w:World} {cv i_:Value} {c:aU} (h:eY w cv c) (h':eY w i_ c) (hf:gZ c) (hl:c.length≤2000):
 Calls Tryz.prog 19 #[.agg #[.slice none 0 0, .slice none 0 0,cv], .agg #[.slice none 0 0, .slice none 0 0,i_]] w fun e w'=>e= .returned (.bool true)∧aj au w w':=by
 have:=NJ (fun _=>True) (fun _=>True) [] .nil c [] .nil c w _ _ _ _ _ _ (Om h) (Oo hf hl) (Om h') (Oo hf hl)
 rwa [dD ⟨⟨rfl,rfl⟩,rfl⟩]at this
theorem YC (Q Q':Nat→Prop) (es:List aF) (ks:aH) (w:World) (ev kv ev' kv':Value) (h:bg Q w ev kv es ks) (h':bg Q' w ev' kv' es ks) (hs:sizeT es ks≤100000):
 Calls Tryz.prog 25 #[.agg #[ev,kv], .agg #[ev',kv']] w fun e w'=>e= .returned (.bool true)∧aj au w w':=by
 have:=ND Q Q' _ es ks es ks w ev kv ev' kv' (Nat.lt_succ_self _) h h' hs hs
 rwa [dD ⟨rfl,rfl⟩]at this
theorem YD (w:World) (es:List aF) (ks:aH) (c:aU) (ev kv cv:Value) (hA:fP (fun _=>True) w ev kv cv es ks c∧iQ es ks∧gZ c∧c.length≤140737488351232) (s:Int) (hs:0≤s∧s≤255):
 Calls Tryz.prog 5 #[.agg #[ev,kv,cv], .int .u8 s] w fun e w'=>e= .returned (.bool true)∧aj (fun _=>False) w w':=by
 have HA:=ah Xv
 obtain⟨i0,hi,hz0,hz1,hz2⟩:=info_parts AB
 obtain⟨a0,c0,a1,c1,a2,c2,rfl,rfl,rfl⟩:=hA.1.shape
 obtain⟨qs,CU⟩:∃qs:List bD,qs=[⟨es,ks,c, .slice a0 es.length c0, .slice a1 ks.len c1, .slice a2 c.length c2⟩]:=⟨_,rfl⟩
 obtain⟨W0,hW0⟩:∃W0,W0=(w.alloc (.cells #[.slice a0 es.length c0, .slice a1 ks.len c1, .slice a2 c.length c2] 32)).alloc (.cells #[.slice a0 es.length c0, .slice a1 ks.len c1, .slice a2 c.length c2] 32):=⟨_,rfl⟩
 obtain⟨hb1,hf0,tZ⟩:=mJ w (.cells #[.slice a0 es.length c0, .slice a1 ks.len c1, .slice a2 c.length c2] 32) #[.slice a0 es.length c0, .slice a1 ks.len c1, .slice a2 c.length c2] 32
 have hb0:W0.heap[w.heap.size]?=some (.cells #[.slice a0 es.length c0, .slice a1 ks.len c1, .slice a2 c.length c2] 32 (0,0)):=by
  rw[hW0];exact(aj.alloc au _ _).blk (heap_alloc_new w _) id
 rw[←hW0]at hb1 hf0 tZ
 have hrow:uf W0 (.slice (some ⟨w.heap.size+1,0,none⟩) 1 1) qs:=by
  subst CU
  refine⟨Rd.zF (xs:=[.slice a0 es.length c0, .slice a1 ks.len c1, .slice a2 c.length c2]) hb1 (by decide),fun q hq=>?_⟩
  rcases List.mem_cons.1 hq with rfl|hq
  ·exact⟨hA.1.aN hf0,hA.2⟩
  ·cases hq
 have su:qs.length=1:=by rw[CU];rfl
 have hqa:(⟨es,ks,c, .slice a0 es.length c0, .slice a1 ks.len c1, .slice a2 c.length c2⟩:bD)∈qs:=by rw[CU];simp
 have gu:=ah hf0
 have HB0:=ah hb0
 have HW0:=ah hW0
 have nT:=ah (fun W (f:aj au W0 W)=>XL qs W _ (hrow.aN f) (by omega))
 clear hf0 hb0 hb1 hW0 CU hA tZ
 cases hsm:qs.all nU with
 |false=>
  rw[hsm]at nT
  clear hrow hsm hqa su
  generalize es.length=n0 at*
  go_enter Tryz.func5,Tryz.ntmps5
  go_upto_region 2 with fail
  rw[←HW0.out]
  go_wp2_with(first
   |(go_at_call 9;have q9:=HF3.out;clear q9;refine(HA.out _).mono ?_;rintro e w2 ⟨rfl,hf2⟩;have HF2:=ah (HF3.out.aG hf2);clear hf2)
   |(go_at_call 9;refine(HA.out _).mono ?_;rintro e w1 ⟨rfl,hf1⟩;have dB:=ah hf1;clear hf1)
   |(go_at_call 12;refine(nT.out _ dB.out).mono ?_;rintro e w3 ⟨rfl,hf3⟩;have HF3:=ah (dB.out.aG hf3);clear hf3))
  go_ret
  exact⟨rfl,gu.out.aG HF2.out⟩
 |true=>
  rw[hsm]at nT
  have jJ:=ah (fun W (f:aj au W0 W)=>XM qs W _ (hrow.aN f) (by omega) (YA hrow hsm))
  cases hrt:qs.all ql with
  |false=>
   rw[hrt]at jJ
   clear hrow hsm hrt hqa su
   generalize es.length=n0 at*
   go_enter Tryz.func5,Tryz.ntmps5
   go_upto_region 2 with fail
   rw[←HW0.out]
   go_wp2_with(first
    |(go_at_call 9;have q9:=lG.out;clear q9;refine(HA.out _).mono ?_;rintro e w2 ⟨rfl,hf2⟩;have HF2:=ah (lG.out.aG hf2);clear hf2)
    |(go_at_call 9;refine(HA.out _).mono ?_;rintro e w1 ⟨rfl,hf1⟩;have dB:=ah hf1;clear hf1)
    |(go_at_call 12;refine(nT.out _ dB.out).mono ?_;rintro e w3 ⟨rfl,hf3⟩;have HF3:=ah (dB.out.aG hf3);clear hf3)
    |(go_at_call 13;refine(jJ.out _ HF3.out).mono ?_;rintro e w4 ⟨rfl,hf4⟩;have lG:=ah (HF3.out.aG hf4);clear hf4))
   go_ret
   exact⟨rfl,gu.out.aG HF2.out⟩
  |true=>
   rw[hrt]at jJ
   have hlt:=Yz hrow hsm hrt
   obtain⟨hat,hae,hag⟩:=hlt.each _ hqa
   have hae:es=[]:=hae
   subst hae
   have hag:NU (ks,c):=hag
   have HAT:=ah hat
   have xU:=ah hag
   have hsa:cu ks≤30:=hag.size
   have hla:c.length≤30:=hag.len
   have fH:=ah (uU hag.good.right.tree).2
   have vI:=ah hsa
   clear hrow hsm hrt hqa su hlt hat hag hsa
   obtain⟨hn1,hn4⟩:=Yy s
   have hnn:=Yx s
   generalize xR s=n at*
   have HN:=ah (fun W=>NC n hn1 hn4 W)
   have BD:=ah (Ol (ks,c) hn1 hn4)
   have kD:=ah (fun k=>Yv (ks,c) k hn1 hn4)
   have nG:=ah (fun k hk=>Yu (n:=n) (k:=k) (ks,c) hk)
   go_enter Tryz.func5,Tryz.ntmps5
   go_upto_region 2 with fail
   have hw0:=HW0.out
   simp only[List.length_nil]at hw0
   rw[←hw0]
   clear hw0
   go_upto_region 4 with(first
    |(go_at_call 9;refine(HA.out _).mono ?_;rintro e w1 ⟨rfl,hf1⟩;have dB:=ah hf1;clear hf1)
    |(go_at_call 12;refine(nT.out _ dB.out).mono ?_;rintro e w3 ⟨rfl,hf3⟩;have HF3:=ah (dB.out.aG hf3);clear hf3)
    |(go_at_call 13;refine(jJ.out _ HF3.out).mono ?_;rintro e w4 ⟨rfl,hf4⟩;have lG:=ah (HF3.out.aG hf4);clear hf4))
   go_cut [6] (fun v wx=>v= .int .i64 (n:Int)∧wx=w4)
   case first=>
    go_wp2
    go_meet
    case rel=>exact⟨by rw[hnn],rfl⟩
   case rest=>
    obtain⟨rfl,rfl⟩:=hcut
    obtain⟨w4,rfl⟩:∃w4,w4=wc:=⟨_,rfl⟩
    clear hnn
    go_upto_region 6 with(first
     |(go_at_call 14;refine(HN.out _).mono ?_;rintro e w5 ⟨rfl,hst,hv,hf5⟩;have HST:=ah hst;have G_:=ah (lG.out.aG hf5);clear hst hv hf5))
    obtain⟨b,hb⟩:∃b,b=w4.heap.size+1:=⟨_,rfl⟩
    rw[←hb]at HST⊢
    clear hb
    go_wp2
    go_loopw [9,41] (fun v iv W=>∃(k:Nat) (l:List bV),k≤n∧iv= .int .i64 k∧jD au w5 W v l∧l.map bV.con=oL ((fQ n (ks,c)).take k)) (fun _ iv _=>n-(intOf iv).toNat)
    case atStart=>exact⟨0,[],Nat.zero_le _,rfl,jD.nil (aj.refl _ _),rfl⟩
    case round=>
     obtain⟨k,l,hk,rfl,ho,hc⟩:=hrel
     obtain⟨av,YE,rfl⟩:=ho.own.shape
     have qQ:=ah ho
     have HC:=ah hc
     have kE:=ah (show l.length≤30 by have h1:=congrArg List.length hc;rw[List.length_map]at h1;have h2:=kD.out k;have h3:=vI.out;have h2:_≤cu ks:=h2;omega)
     have gV:=ah (G_.out.aG ho.own.aI)
     clear ho hc
     by_cases hlt:k<n
     ·have hki:(k:Int)<(n:Int):=by omega
      have YF:=ah (nG.out k hlt)
      have hbx:=gV.out.blk HB0.out id
      have y0:=aJ hbx 0 rfl
      have y1:=aJ hbx 1 rfl
      have y2:=aJ hbx 2 rfl
      have hlb:=lt_of_block hbx
      have bF:=ah hbx
      clear hbx
      have hpa:=Mc _ ks c wr _ _ _ (HAT.out.aN gV.out) xU.out.good.ok xU.out.good.right b n n _ k hlt (HST.out.aN qQ.out.own.aI).nN
      unfold L_ at hpa
      have YG:=ah hpa
      clear hpa
      have YH:=ah (fun i key es sub rest h=>Yw (n:=n) (k:=k) (i:=i) (ks:=ks) (key:=key) (es:=es) (sub:=sub) (rest:=rest) h)
      have YI:=ah (MJ (dA n k) xU.out.good)
      have uh:=ah (zC (dA n k) ks)
      generalize bH (dA n k) ks=fk at*
      go_upto_region 13 with(go_at_call 16;refine YG.out.mono ?_;rintro e w6 ⟨ZF,ZG,rfl,Ia,Ib⟩;obtain⟨ZH,Ic,Oq⟩:=Ia.kids;obtain⟨a6,c6,rfl⟩:=Ic.rd.sl;obtain⟨a7,c7,rfl⟩:=Ib.shape;have YJ:=ah Ia;have Ot:=ah Ib;have YK:=ah Ic.rd;have YL:=ah Oq;clear Ia Ib Ic Oq y0 y1 y2 hlb)
      have hb7:=heap_alloc_new w6 (.cells #[.slice none 0 0, .slice a6 fk.len c6, .slice a7 c.length c7] 32)
      have jq:=aj.alloc au w6 (.cells #[.slice none 0 0, .slice a6 fk.len c6, .slice a7 c.length c7] 32)
      obtain⟨p7,Ou⟩:∃p7,p7=w6.heap.size:=⟨_,rfl⟩
      rw[←Ou]at hb7⊢
      clear Ou
      generalize World.alloc w6 _=W7 at*
      have CV:=ah (Ot.out.aI.aG jq)
      have YM:=ah jq
      have YN:=ah hb7
      have x2:=aJ hb7 2 rfl
      have y2:=aJ (CV.out.blk bF.out id) 2 rfl
      have KY:=lt_of_block hb7
      have hlb:=lt_of_block (CV.out.blk bF.out id)
      have YO:=ah (YB (Rd.aN Ot.out.rd jq) (Rd.aN (HAT.out.aN (gV.out.aG CV.out)).ctx (aj.refl _ _)) xU.out.good.ok.fits xU.out.good.ok.len)
      clear jq hb7
      go_upto_region 15 with(go_at_call 19;refine YO.out.mono ?_;rintro e w8 ⟨rfl,jr⟩;have lT:=ah (CV.out.aG jr);have Ie:=ah (YM.out.aG jr);have hb8:=jr.blk YN.out id;have ZI:=ah hb8;have x0:=aJ hb8 0 rfl;have x1:=aJ hb8 1 rfl;have Oa:=lt_of_block hb8;clear x2 y2 KY hlb jr hb8)
      generalize Ov:fk.len=m6 at*
      have YP:=ah Ov
      have wF:m6≤100000:=by have:=kG fk;have:=uh.out;have:=vI.out;omega
      clear Ov
      go_wp2
      go_loopw [67] (fun iv W=>∃i:Nat,i≤m6∧iv= .int .i64 i∧W=w8) (fun iv _=>m6-(intOf iv).toNat)
      case atStart=>exact⟨0,Nat.zero_le _,rfl,rfl⟩
      case round=>
       obtain⟨i,him,rfl,hw⟩:=hrel
       subst hw
       by_cases hit:i<m6
       ·obtain⟨key,es',sub,rest,hdr⟩:=aH.mD (n:=i) (ks:=fk) (by rw[YP.out];exact hit)
        have hkr:=YK.out.aN Ie.out
        rcases Rd.shape hkr with⟨ad,he,h0⟩|⟨g6,ZJ,ZK,he,hmax⟩
        ·exfalso;omega
        injection he with e1 e2 e3
        subst e1 e3
        clear e2
        obtain⟨ev',kv',q0,-,-,-⟩:=k_ hkr (YL.out.aN Ie.out) hdr
        have hro:=YH.out i key es' sub rest hdr
        have hkm:key∈fk.keys:=by
         have sN:∀(i:Nat) {ks:aH},ks.drop i= .cons key es' sub rest→key∈ks.keys:=by
          intro i
          induction i with
          |zero=>intro ks h;cases ks with
           |nil=>cases h
           |cons k' e' s' r'=>cases h;simp[aH.keys]
          |succ i ih=>intro ks h;cases ks with
           |nil=>cases h
           |cons k' e' s' r'=>exact List.mem_cons_of_mem _ (ih (ks:=r') h)
         exact sN i hdr
        have yB:=ah (show Calls Tryz.prog 10 #[.string key, .int .i64 n] wr (fun e w'=>e= .returned (.int .i64 k)∧w'=wr)from hro▸LW key n _ (FY YI.out.ok.tree.ks key hkm))
        have q0:=q0
        have hlq:=World.block_lt_of_cell? _ _ q0
        clear hro hkm hkr hdr
        go_wp2_with(go_at_call 10;refine yB.out.mono ?_;rintro e w9 ⟨rfl,YQ⟩;subst YQ)
        go_roundw
        case rel=>exact⟨i+1,by omega,by go_num,by trivial⟩
        case measure=>simp[intOf];omega
       ·obtain rfl:m6=i:=by omega
        have YR:=gV.out.aG lT.out
        have zV:=ah (fun W (f:aj au wr W)=>Oi _ [] fk W _ _ (YJ.out.aN (Ie.out.aG f)) (by have:=uh.out;have:=vI.out;unfold sizeT;simp only[List.length_nil];omega))
        have Ox:=ah (show(gW [] fk).length≤30 by have h1:=Hy [] fk;have h2:=uh.out;have h3:=vI.out;unfold sizeT at h1;simp only[List.length_nil]at h1;omega)
        clear YR
        go_wp2_with(first
         |(go_at_call 24;refine(zV.out _ (aj.refl _ _)).mono ?_;rintro e w3 ⟨v3,l3,rfl,ho3,hd3⟩;obtain⟨a3,c3,rfl⟩:=ho3.own.shape;have ig:=ah ho3;have bJ:=ah ho3.own;clear ho3;have hd4:=congrArg List.length hd3;rw[List.length_map]at hd4;have HD4:=ah hd4;have HD3:=ah hd3;clear hd3 hd4 x0 x1 Oa;have HKK:=ah (qQ.out.aN (lT.out.aG bJ.out.aI)))
         |(at_builtin;refine vM _ rfl (.tmp 82) (.tmp 85) 50 50 rfl 103 i0 _ 5 64 Tryz.underlying50 hi hz0 hz1 hz2 (by decide) (by decide) _ _ _ rfl HKK.out.own.own _ l3.length _ rfl (bJ.out.rd.src Tryz.underlying50 (by rw[BO]) (CS ig.out.one)) (by have:=kE.out;have:=HD4.out;have:=Ox.out;simp only[maxLen];omega) (by have:=kE.out;have:=HD4.out;have:=Ox.out;omega) ?_;intro xO vF ZL bU mV mW _;have OW:=ah (HKK.out.add mV mW bU (fun x hx=>(ig.out.each x hx).turn fun k _ hQ=>⟨rfl, .inr (by have h1:=qQ.out.own.aI.size;have h2:=lT.out.size;have h3:=hQ.1.resolve_left id;omega),fun e=>by have h2:=lT.out.size;have h3:=hQ.1.resolve_left id;obtain⟨cur,h4⟩:=iY qQ.out.own.own e;have h5:=lt_of_block h4;omega⟩) ig.out.one);clear bU mV mW))
        go_roundw
        case rel=>exact⟨k+1,l++l3,by omega,by go_num,OW.out,by rw[List.map_append,HC.out,HD3.out,YF.out]⟩
        case measure=>simp[intOf];omega
     ·obtain rfl:k=n:=by omega
      have hall:(fQ k (ks,c)).take k=fQ k (ks,c):=List.take_of_length_le (by rw[Gs];exact Nat.le_refl _)
      have hcp:=HC.out
      rw[hall]at hcp
      have vw:=ah (fun W (f:aj au wr W)=>XV _ _ [] ks 5 l W (.slice av l.length YE) (Nat.lt_succ_self _) ((qQ.out.aN f).Yq) (by rw[hcp];exact BD.out) xU.out.good.right.tree (by have:=kE.out;omega) (by have:=vI.out;unfold sizeT;simp only[List.length_nil];omega))
      have kC:=ah (show(gW [] ks).length=l.length by have h1:=congrArg List.length hcp;rw[List.length_map]at h1;rw[h1];exact BD.out.length_eq.symm)
      have Oy:=ah (fun W (f:aj au wr W)=>HAT.out.aN (gV.out.aG f))
      have zV:=ah (fun W (f:aj au wr W)=>Oi _ [] ks W _ _ (Oy.out W f).tree (by have:=vI.out;unfold sizeT;simp only[List.length_nil];omega))
      have hbx:=gV.out.blk HB0.out id
      have iI:=ah (fun Y Y' (f:aj au Y Y') (hS:aj au wr Y∧Y.cell? ⟨w.heap.size,0,none⟩=some (.slice a0 0 c0)∧Y.cell? ⟨w.heap.size,1,none⟩=some (.slice a1 ks.len c1))=>(⟨hS.1.aG f,f.cell' hS.2.1 id,f.cell' hS.2.2 id⟩:aj au wr Y'∧Y'.cell? ⟨w.heap.size,0,none⟩=some (.slice a0 0 c0)∧Y'.cell? ⟨w.heap.size,1,none⟩=some (.slice a1 ks.len c1)))
      have jO:=iI.out _ _ (aj.drew au _) ⟨aj.refl au wr,aJ hbx 0 rfl,aJ hbx 1 rfl⟩
      clear hbx hall hcp
      go_upto_region 23 with fail
      refine iZ (S:=fun Y=>aj au wr Y∧Y.cell? ⟨w.heap.size,0,none⟩=some (.slice a0 0 c0)∧Y.cell? ⟨w.heap.size,1,none⟩=some (.slice a1 ks.len c1)) 15 (by kernel_rfl) jO ?_
      clear jO
      intro hS
      generalize World.drew _=Y0 at*
      refine dN 0 88 (v:=?_) rfl rfl (by kernel_rfl) (by rfl) (by kernel_rfl) (by kernel_rfl) (fun _ _ _ h=>h) (Or.inl ⟨by rfl,?_⟩) (by assumption) ?_
      rotate_left 1
      ·(intro w hSw;(try dsimp only at hSw);go_simp;(try with_reducible rfl))
      try simp only[Act.put,aP,aQ,aO]
      refine dN 2 90 (v:=?_) rfl rfl (by kernel_rfl) (by rfl) (by kernel_rfl) (by kernel_rfl) (fun _ _ _ h=>h) (Or.inl ⟨by rfl,?_⟩) (by assumption) ?_
      rotate_left 1
      ·(intro w hSw;(try dsimp only at hSw);go_simp;(try with_reducible rfl))
      try simp only[Act.put,aP,aQ,aO]
      refine dN 3 91 (v:=?_) rfl rfl (by kernel_rfl) (by rfl) (by kernel_rfl) (by kernel_rfl) (fun _ _ _ h=>h) (Or.inl ⟨by rfl,?_⟩) (by assumption) ?_
      rotate_left 1
      ·(intro w hSw;(try dsimp only at hSw);go_simp;(try with_reducible rfl))
      try simp only[Act.put,aP,aQ,aO]
      refine bK (i:=1) (by kernel_rfl) rfl (fun K hK=>?_)
      go_simp
      refine(vw.out _ hS.1).mono ?_
      rintro e Y1 ⟨ev1,NI,rfl,ht1,hf1⟩
      obtain⟨b1,d1,rfl⟩:=ht1.ents.rd.sl
      obtain⟨os1,Oz,-⟩:=ht1.kids
      obtain⟨b2,d2,rfl⟩:=Oz.rd.sl
      have HT1:=ah ht1
      have hS1:=iI.out _ _ hf1 hS
      refine hK.out _ _ hS1 ?_
      clear hK K hS hf1 ht1 Oz
      have hS:=hS1
      clear hS1
      try simp only[Act.put,aP,aQ,aO]
      refine bK (i:=4) (by kernel_rfl) rfl (fun K hK=>?_)
      go_simp
      refine(YC _ _ [] ks _ _ _ _ _ HT1.out (Oy.out _ hS.1).tree (by have:=vI.out;unfold sizeT;simp only[List.length_nil];omega)).mono ?_
      rintro e Y2 ⟨rfl,hf2⟩
      have hS1:=iI.out _ _ hf2 hS
      refine hK.out _ _ hS1 ?_
      clear hK K hS hf2
      have hS:=hS1
      clear hS1
      try simp only[Act.put,aP,aQ,aO]
      refine dN 5 93 (v:=?_) rfl rfl (by kernel_rfl) (by rfl) (by kernel_rfl) (by kernel_rfl) (fun _ _ _ h=>h) (Or.inl ⟨by rfl,?_⟩) (by assumption) ?_
      rotate_left 1
      ·(intro w hSw;(try dsimp only at hSw);go_simp;(try with_reducible rfl))
      try simp only[Act.put,aP,aQ,aO]
      refine dN 6 94 (v:=?_) rfl rfl (by kernel_rfl) (by rfl) (by kernel_rfl) (by kernel_rfl) (fun _ _ _ h=>h) (Or.inl ⟨by rfl,?_⟩) (by assumption) ?_
      rotate_left 1
      ·(intro w hSw;(try dsimp only at hSw);go_simp;(try with_reducible rfl))
      try simp only[Act.put,aP,aQ,aO]
      refine dN 7 95 (v:=?_) rfl rfl (by kernel_rfl) (by rfl) (by kernel_rfl) (by kernel_rfl) (fun _ _ _ h=>h) (Or.inl ⟨by rfl,?_⟩) (by assumption) ?_
      rotate_left 1
      ·(intro w hSw;(try dsimp only at hSw);go_simp;(try with_reducible rfl))
      try simp only[Act.put,aP,aQ,aO]
      refine dN 8 96 (v:=?_) rfl rfl (by kernel_rfl) (by rfl) (by kernel_rfl) (by kernel_rfl) (fun _ _ _ h=>h) (Or.inl ⟨by rfl,?_⟩) (by assumption) ?_
      rotate_left 1
      ·(intro w hSw;(try dsimp only at hSw);go_simp;(try with_reducible rfl))
      try simp only[Act.put,aP,aQ,aO]
      refine dN 9 97 (v:=?_) rfl rfl (by kernel_rfl) (by rfl) (by kernel_rfl) (by kernel_rfl) (fun _ _ _ h=>h) (Or.inl ⟨by rfl,?_⟩) (by assumption) ?_
      rotate_left 1
      ·(intro w hSw;(try dsimp only at hSw);go_simp;(try with_reducible rfl))
      try simp only[Act.put,aP,aQ,aO]
      refine bK (i:=10) (by kernel_rfl) rfl (fun K hK=>?_)
      go_simp
      refine(zV.out _ hS.1).mono ?_
      rintro e Y3 ⟨v3,l3,rfl,ho3,hd3⟩
      obtain⟨a3,c3,rfl⟩:=ho3.own.shape
      have hl3:l3.length=l.length:=by rw[←kC.out,←hd3,List.length_map]
      rw[hl3]
      have hS1:=iI.out _ _ ho3.own.aI hS
      refine hK.out _ _ hS1 ?_
      clear hK K hS ho3 hd3 hl3
      have hS:=hS1
      clear hS1
      try simp only[Act.put,aP,aQ,aO]
      refine dN 11 99 (v:=?_) rfl rfl (by kernel_rfl) (by rfl) (by kernel_rfl) (by kernel_rfl) (fun _ _ _ h=>h) (Or.inl ⟨by rfl,?_⟩) (by assumption) ?_
      rotate_left 1
      ·(intro w hSw;(try dsimp only at hSw);go_simp;(try with_reducible rfl))
      try simp only[Act.put,aP,aQ,aO]
      refine dN 12 100 (v:=?_) rfl rfl (by kernel_rfl) (by rfl) (by kernel_rfl) (by kernel_rfl) (fun _ _ _ h=>h) (Or.inl ⟨by rfl,?_⟩) (by assumption) ?_
      rotate_left 1
      ·(intro w hSw;(try dsimp only at hSw);go_simp;(try with_reducible rfl))
      try simp only[Act.put,aP,aQ,aO]
      refine dN 13 101 (v:=?_) rfl rfl (by kernel_rfl) (by rfl) (by kernel_rfl) (by kernel_rfl) (fun _ _ _ h=>h) (Or.inl ⟨by rfl,?_⟩) (by assumption) ?_
      rotate_left 1
      ·(intro w hSw;(try dsimp only at hSw);go_simp;(try with_reducible rfl))
      try simp only[Act.put,aP,aQ,aO]
      refine bK (i:=14) (by kernel_rfl) rfl (fun K hK=>?_)
      go_simp
      refine hK.out _ _ hS ?_
      clear hK K
      refine GN (by kernel_rfl) ?_
      go_wp2
      go_ret
      exact⟨rfl,gu.out.aG (gV.out.aG hS.1)⟩
open Go.RowKit
theorem Ig {α:Type} [Inhabited α] {n:Nat} {p:Nat→α→Prop} (h:∀i,i<n→∃x,p i x):∃l:List α,l.length=n∧∀i,i<n→∀d,p i (l.getD i d):=by
 obtain⟨f,hf⟩:=Go.Deep.choose_lt h
 refine⟨(List.range n).map f,by simp,fun i hi d=>?_⟩
 have:((List.range n).map f).getD i d=f i:=by simp[List.getD,hi]
 rw[this]
 exact hf i hi
section
variable {H:Type} {enc:TypeId×Value→H} {P:Program} {w:World} {base:Nat} {sp:Nat→Bool} {held:Bool}
theorem open_arr {t e sz:Nat} {a0:Option Addr} {len cap:Nat} {d:DataW H×List MemPlace} {fuel:Nat} (ht:P.underlying t=some (.slice e)) (hsz:P.cellsOf e=sz) (hpos:0<sz) (hsp:∀b,sp b=true)
 (h:DataW.trod enc P w base sp held fuel t [.slice a0 len cap]=some d):
 (len=0∧cap=0)∨∃b off,a0=some ⟨b,off,none⟩∧len≤cap∧cap≤maxLen∧
   ∃n,∀k,k<len→∃cs:List Value,cs.length=sz∧(∀j u,cs[j]?=some u→w.cell? ⟨b,off+k*sz+j,none⟩=some u)∧∃y,DataW.trod enc P w base sp held n e cs=some y:=by
 rcases Go.Deep.open_slice ht h with⟨hcs,_⟩|⟨a,len',cap',m,n,D,Pl,hcs,_,hl,hm,hmm,_,hel⟩
 ·left
  simp only[List.cons.injEq,Value.slice.injEq,and_true]at hcs
  exact⟨hcs.2.1,hcs.2.2⟩
 ·simp only[List.cons.injEq,Value.slice.injEq,and_true]at hcs
  obtain⟨rfl,rfl,rfl⟩:=hcs
  rw[hsp]at hmm
  simp only[if_true]at hmm
  subst hmm
  subst hsz
  rcases Nat.eq_zero_or_pos m with h0|h0
  ·left;omega
  ·right
   obtain⟨b,off,spot⟩:=a
   have hspot:spot=none:=by
    obtain⟨cs',hc,_⟩:=hel 0 h0
    obtain⟨_,hlen,hcells⟩:=World.cells?_some hc
    have h00:cs'[0]?=some (cs'[0]'(by omega)):=List.getElem?_eq_getElem _
    have:=hcells 0 (by omega)
    rw[h00]at this
    have hs:=World.cell?_spot this
    simpa[Addr.add]using hs
   subst hspot
   refine⟨b,off,rfl,hl,hm,n,fun k hk=>?_⟩
   obtain⟨cs',hc,ht'⟩:=hel k (by omega)
   obtain⟨_,hlen,hcells⟩:=World.cells?_some hc
   refine⟨cs',hlen,fun j u hu=>?_,_,ht'⟩
   have hj:j<P.cellsOf e:=by rw[←hlen];exact(List.getElem?_eq_some_iff.1 hu).1
   have:=hcells j hj
   rw[addr_add,addr_add]at this
   rw[this,hu]
end
end Go.Proofs.YtlhmbkjdfjoilaaGreat
namespace Go.Proofs.YtlhmbkjdfjoilaaGreat
open Go.RowKit Go.WideShapes
theorem CW {α:Type} (f:α→List Value) (k:Nat) (hk:0<k) (hf:∀x,(f x).length=k) (d:α):∀(l:List α) (j:Nat) (u:Value),(l.flatMap f)[j]?=some u→j/k<l.length∧(f (l.getD (j/k) d))[j%k]?=some u
 |[],j,u,h=>by simp at h
 |x::l,j,u,h=>by
  rw[List.flatMap_cons]at h
  by_cases hj:j<k
  ·rw[List.getElem?_append_left (by rw[hf];exact hj)]at h
   rw[Nat.div_eq_of_lt hj,Nat.mod_eq_of_lt hj]
   exact⟨Nat.zero_lt_succ _,h⟩
  ·rw[List.getElem?_append_right (by rw[hf];omega),hf]at h
   obtain⟨h1,h2⟩:=CW f k hk hf d l (j-k) u h
   have e1:j/k=(j-k)/k+1:=by rw[Nat.div_eq_sub_div hk (by omega)]
   have e2:j%k=(j-k)%k:=Nat.mod_eq_sub_mod (by omega)
   rw[e1,e2]
   exact⟨by simpa using h1,by simpa using h2⟩
theorem Ih (j k:Nat) (off:Nat):off+j/k*k+j%k=off+j:=by
 have:=Nat.div_add_mod j k
 rw[Nat.mul_comm]at this
 omega
theorem weightsAll_mem {H:Type} {P:Program} {e:TypeId}:∀ {l:List (DataW H)} {y:DataW H},y∈l→∀n∈y.weights P e,n∈DataW.weightsAll P e l
 |d::l,y,h,n,hn=>by
  rw[DataW.weightsAll,List.mem_append]
  rcases List.mem_cons.1 h with rfl|h
  ·exact .inl hn
  ·exact .inr (weightsAll_mem h n hn)
theorem sD {x:Int} (h:(Lit.int .i64 x).wf=true):-9223372036854775808≤x∧x≤9223372036854775807:=by
 simp only[Lit.wf,IntKind.min,IntKind.max,IntKind.signed,IntKind.bits]at h
 simpa using h
section
variable {H:Type} {enc:TypeId×Value→H} {P:Program} {w:World}
theorem Ii {t e sz OA:Nat} {a0:Option Addr} {len cap:Nat} {x:DataW H×List MemPlace} {fuel:Nat} (ht:P.underlying t=some (.slice e)) (hsz:P.cellsOf e=sz) (hpos:0<sz) (hby:P.bytesOf e=OA)
 (h:DataW.trod enc P w 0 (fun _=>true) true fuel t [.slice a0 len cap]=some x) (hw:∀n∈x.1.weights P t,n≤reachBytes):
 (len=0∧cap=0)∨∃b off n,a0=some ⟨b,off,none⟩∧len≤cap∧cap≤maxLen∧fuel=n+1∧len*OA≤reachBytes∧
   ∀k,k<len→∃cs:List Value,cs.length=sz∧(∀j u,cs[j]?=some u→w.cell? ⟨b,off+k*sz+j,none⟩=some u)∧∃y,DataW.trod enc P w 0 (fun _=>true) true n e cs=some y∧∀n∈y.1.weights P e,n≤reachBytes:=by
 rcases open_arr ht hsz hpos (fun _=>rfl) h with h0|⟨b,off,rfl,hl,hm,_⟩
 ·exact .inl h0
 right
 rcases DataW.trod_slice ht h with⟨hcs,_⟩|⟨a,len',cap',elems,rest,n,hfuel,hcs,rfl,_,_,_,hlen,hel,hsp,_⟩
 ·simp at hcs
 simp only[List.cons.injEq,Value.slice.injEq,Option.some.injEq,and_true]at hcs
 obtain⟨rfl,rfl,rfl⟩:=hcs
 subst hsz
 subst hby
 simp only[DataW.weights,ht]at hw
 refine⟨b,off,n,rfl,hl,hm,hfuel,?_,fun k hk=>?_⟩
 ·have h1:=hw _ List.mem_cons_self
  simp only[List.length_map]at h1
  rw[hlen]at h1
  exact Nat.le_trans (Nat.mul_le_mul_right _ (Nat.le_add_right _ _)) h1
 ·have hke:k<elems.length:=by omega
  have h1:=hel k hk
  rw[List.getElem?_eq_getElem hke,Option.bind_eq_some_iff]at h1
  obtain⟨cs',hc,ht'⟩:=h1
  obtain⟨_,hcl,hcells⟩:=World.cells?_some hc
  refine⟨cs',hcl,fun j u hu=>?_,_,ht',fun m hm=>?_⟩
  ·have hj:j<P.cellsOf e:=by rw[←hcl];exact(List.getElem?_eq_some_iff.1 hu).1
   have:=hcells j hj
   rw[addr_add,addr_add]at this
   rw[this,hu]
  ·refine hw m (List.mem_cons_of_mem _ (List.mem_append_left _ (weightsAll_mem (y:=elems[k].1) ?_ m hm)))
   exact List.mem_map.2 ⟨_,List.getElem_mem hke,rfl⟩
theorem Ij {t e:Nat} {c:Value} {x:DataW H×List MemPlace} {fuel:Nat} (ht:P.underlying t=some (.slice e)) (h:DataW.trod enc P w 0 (fun _=>true) true fuel t [c]=some x):∃a l k,c= .slice a l k:=by
 rcases DataW.trod_slice ht h with⟨hcs,_⟩|⟨a,len',cap',elems,rest,n,hfuel,hcs,_⟩
 ·simp at hcs;exact⟨_,_,_,hcs⟩
 ·simp at hcs;exact⟨_,_,_,hcs⟩
end
section
variable {H:Type} {enc:TypeId×Value→H} {w:World}
theorem Tryz.cells_entry:Tryz.prog.cellsOf 100=4:=by kernel_rfl
theorem Tryz.bytes_entry:Tryz.prog.bytesOf 100=40:=by kernel_rfl
theorem Tryz.cells_kid:Tryz.prog.cellsOf 52=3:=by kernel_rfl
theorem Tryz.bytes_kid:Tryz.prog.bytesOf 52=64:=by kernel_rfl
theorem Tryz.cells_dot:Tryz.prog.cellsOf 98=2:=by kernel_rfl
theorem Tryz.cells_span:Tryz.prog.cellsOf 92=3:=by kernel_rfl
theorem Tryz.bytes_span:Tryz.prog.bytesOf 92=24:=by kernel_rfl
theorem Tryz.cells_I:Tryz.prog.cellsOf 3=1:=by kernel_rfl
theorem Tryz.cells_I64:Tryz.prog.cellsOf 2=1:=by kernel_rfl
theorem Tryz.cells_S:Tryz.prog.cellsOf 9=1:=by kernel_rfl
instance:Inhabited aF:=⟨aF.zero⟩
instance:Inhabited aH:=⟨.nil⟩
theorem YS (l:List aF) (j:Nat) (u:Value) (h:(fJ l)[j]?=some u):j/4<l.length∧(l.getD (j/4) aF.zero).cells[j%4]?=some u:=CW aF.cells 4 (by decide) (fun _=>rfl) aF.zero l j u h
theorem YT {n:Nat} {cs:List Value} {y:DataW H×List MemPlace} (hl:cs.length=4) (h:DataW.trod enc Tryz.prog w 0 (fun _=>true) true n 100 cs=some y):∃e:aF,cs=e.cells∧e.fits:=by
 obtain⟨c0,c1,c2,c3,rfl⟩:∃c0 c1 c2 c3,cs=[c0,c1,c2,c3]:=by
  match cs,hl with
  |[c0,c1,c2,c3],_=>exact⟨c0,c1,c2,c3,rfl⟩
 obtain⟨y0,y1,y2,m,_,_,g0,g1,g2⟩:=Go.Deep.trod_struct3 Tryz.underlying100 h
 rw[Tryz.cells_dot]at g0
 rw[Tryz.cells_S]at g1
 rw[Tryz.cells_I64]at g2
 obtain⟨z0,z1,m2,_,_,k0,k1⟩:=Go.ChangeShapes.trod_struct2 Tryz.underlying98 g0
 rw[Tryz.cells_I]at k0
 rw[Tryz.cells_I64]at k1
 obtain⟨d,e0,_,w0⟩:=DataW.trod_int Tryz.underlying3 k0
 obtain⟨x,e1,_,w1⟩:=DataW.trod_int Tryz.underlying2 k1
 obtain⟨s,e2,_,hs⟩:=DataW.trod_string Tryz.underlying9 g1
 obtain⟨z,e3,_,w3⟩:=DataW.trod_int Tryz.underlying2 g2
 simp at e0 e1 e2 e3
 subst e0 e1 e2 e3
 exact⟨⟨d,x,s,z⟩,rfl,sD w0,sD w1,sD w3,by simp only[maxLen]at hs;omega⟩
theorem YU {fuel:Nat} {c:Value} {x:DataW H×List MemPlace} (h:DataW.trod enc Tryz.prog w 0 (fun _=>true) true fuel 25 [c]=some x) (hw:∀n∈x.1.weights Tryz.prog 25,n≤reachBytes):
 ∃es:List aF,gy (fun _=>True) w c es.length (fJ es)∧wC es:=by
 obtain⟨a0,len,cap,rfl⟩:=Ij Tryz.underlying25 h
 rcases Ii Tryz.underlying25 Tryz.cells_entry (by decide) Tryz.bytes_entry h hw with⟨rfl,rfl⟩|⟨b,off,n,rfl,h1,h2,_,h3,hel⟩
 ·exact⟨[],⟨.inl ⟨a0,rfl,rfl,rfl⟩,fun _ _ _=>trivial⟩,by simp,by simp⟩
 ·have hx:∀k,k<len→∃e:aF,(∀j u,e.cells[j]?=some u→w.cell? ⟨b,off+k*4+j,none⟩=some u)∧e.fits:=fun k hk=>by
   obtain⟨cs,hl,hc,y,hy,_⟩:=hel k hk
   obtain⟨e,rfl,hf⟩:=YT hl hy
   exact⟨e,hc,hf⟩
  obtain⟨l,hl,hlp⟩:=Ig hx
  have hlen:l.length≤140737488351232:=by unfold reachBytes at h3;omega
  refine⟨l,⟨.inr ⟨b,off,cap,by rw[hl],by omega,h2,fun j u hu=>?_⟩,fun _ _ _=>trivial⟩,hlen,fun e he=>?_⟩
  ·obtain⟨g1,g2⟩:=YS l j u hu
   have:=(hlp (j/4) (by omega) aF.zero).1 (j%4) u g2
   rwa [Ih]at this
  ·obtain⟨k,hk,rfl⟩:=List.getElem_of_mem he
   have:=(hlp k (by omega) aF.zero).2
   rwa [getD_at aF.zero hk]at this
theorem open_tree:∀(fuel:Nat) (ev kv:Value) (x:DataW H×List MemPlace),DataW.trod enc Tryz.prog w 0 (fun _=>true) true fuel 28 [ev,kv]=some x→(∀n∈x.1.weights Tryz.prog 28,n≤reachBytes)→
 ∃es ks,bg (fun _=>True) w ev kv es ks∧iQ es ks:=by
 intro fuel
 induction fuel using Nat.strongRecOn with
 |_ fuel ih=>
  intro ev kv x h hw
  obtain⟨xs,n,hn,rfl,_,hxl,hf⟩:=DataW.trod_struct Tryz.underlying28 h
  obtain⟨y0,y1,rfl⟩:∃y0 y1,xs=[y0,y1]:=by
   match xs,hxl with
   |[y0,y1],_=>exact⟨y0,y1,rfl⟩
  have g0:=hf 0 _ rfl
  have g1:=hf 1 _ rfl
  have g0:DataW.trod enc Tryz.prog w 0 (fun _=>true) true n 25 [ev]=some y0:=g0
  have g1:DataW.trod enc Tryz.prog w 0 (fun _=>true) true n 26 [kv]=some y1:=g1
  have hw2:∀m∈y0.1.weights Tryz.prog 25++(y1.1.weights Tryz.prog 26++ []),m≤reachBytes:=fun m hm=>hw m (by
   simp only[List.map_cons,List.map_nil,DataW.weights,Tryz.underlying28]
   exact hm)
  obtain⟨es,he,hok⟩:=YU g0 fun m hm=>hw2 m (List.mem_append_left _ hm)
  have hw3:∀m∈y1.1.weights Tryz.prog 26,m≤reachBytes:=fun m hm=>hw2 m (List.mem_append_right _ (List.mem_append_left _ hm))
  obtain⟨a0,len,cap,rfl⟩:=Ij Tryz.underlying26 g1
  rcases Ii Tryz.underlying26 Tryz.cells_kid (by decide) Tryz.bytes_kid g1 hw3 with⟨rfl,rfl⟩|⟨b,off,n2,rfl,h1,h2,hn2,h3,hel⟩
  ·exact⟨es, .nil,⟨he,[],⟨.inl ⟨a0,rfl,rfl,rfl⟩,fun _ _ _=>trivial⟩,rfl⟩,hok,by decide,trivial⟩
  ·have hx:∀k,k<len→∃q:aY,(∀j u,q.cells[j]?=some u→w.cell? ⟨b,off+k*3+j,none⟩=some u)∧bg (fun _=>True) w q.ev q.kv q.es q.sub∧q.key.size≤9223372036854775807∧iQ q.es q.sub:=fun k hk=>by
    obtain⟨cs,hl,hc,y,hy,YV⟩:=hel k hk
    obtain⟨c0,c1,c2,rfl⟩:∃c0 c1 c2,cs=[c0,c1,c2]:=by
     match cs,hl with
     |[c0,c1,c2],_=>exact⟨c0,c1,c2,rfl⟩
    obtain⟨zs,n3,hn3,rfl,_,hzl,hg⟩:=DataW.trod_struct Tryz.underlying52 hy
    obtain⟨z0,z1,rfl⟩:∃z0 z1,zs=[z0,z1]:=by
     match zs,hzl with
     |[z0,z1],_=>exact⟨z0,z1,rfl⟩
    have k0:=hg 0 _ rfl
    have k1:=hg 1 _ rfl
    have k0:DataW.trod enc Tryz.prog w 0 (fun _=>true) true n3 9 [c0]=some z0:=k0
    have k1:DataW.trod enc Tryz.prog w 0 (fun _=>true) true n3 28 [c1,c2]=some z1:=k1
    have YW:∀m∈z0.1.weights Tryz.prog 9++(z1.1.weights Tryz.prog 28++ []),m≤reachBytes:=fun m hm=>YV m (by
     simp only[List.map_cons,List.map_nil,DataW.weights,Tryz.underlying52]
     exact hm)
    obtain⟨s,e2,_,hs⟩:=DataW.trod_string Tryz.underlying9 k0
    simp at e2
    subst e2
    obtain⟨es',ks',ht,hok'⟩:=ih n3 (by omega) c1 c2 z1 k1 fun m hm=>YW m (List.mem_append_right _ (List.mem_append_left _ hm))
    exact⟨⟨s,es',ks',c1,c2⟩,hc,ht,by simp only[maxLen]at hs;show s.size≤_;omega,hok'⟩
   obtain⟨l,hl,hlp⟩:=Ig hx
   have hq:∀q∈l,bg (fun _=>True) w q.ev q.kv q.es q.sub∧q.key.size≤9223372036854775807∧iQ q.es q.sub:=fun q hq=>by
    obtain⟨k,hk,rfl⟩:=List.getElem_of_mem hq
    have:=(hlp k (by omega) default).2
    rwa [getD_at default hk]at this
   refine⟨es,mkK l,⟨he,oP l,⟨.inr ⟨b,off,cap,by rw[oQ,hl],by rw[oQ];omega,h2,fun j u hu=>?_⟩,fun _ _ _=>trivial⟩,wQ fun q h=>(hq q h).1⟩,hok,by rw[oQ,hl];unfold reachBytes at h3;omega,J_ fun q h=>(hq q h).2⟩
   rw[uM]at hu
   obtain⟨g1,g2⟩:=CW aY.cells 3 (by decide) (fun _=>rfl) default l j u hu
   have:=(hlp (j/3) (by omega) default).1 (j%3) u g2
   rwa [Ih]at this
theorem YX (l:aU) (j:Nat) (u:Value) (h:(cO l)[j]?=some u):j/3<l.length∧([.int .i64 (l.getD (j/3) (0,0,0)).1, .int .i64 (l.getD (j/3) (0,0,0)).2.1, .int .i64 (l.getD (j/3) (0,0,0)).2.2]:List Value)[j%3]?=some u:=
 CW (fun s:Int×Int×Int=> [.int .i64 s.1, .int .i64 s.2.1, .int .i64 s.2.2]) 3 (by decide) (fun _=>rfl) (0,0,0) l j u h
theorem YZ {fuel:Nat} {c:Value} {x:DataW H×List MemPlace} (h:DataW.trod enc Tryz.prog w 0 (fun _=>true) true fuel 30 [c]=some x) (hw:∀n∈x.1.weights Tryz.prog 30,n≤reachBytes):
 ∃l:aU,eY w c l∧gZ l∧l.length≤140737488351232:=by
 obtain⟨a0,len,cap,rfl⟩:=Ij Tryz.underlying30 h
 rcases Ii Tryz.underlying30 Tryz.cells_span (by decide) Tryz.bytes_span h hw with⟨rfl,rfl⟩|⟨b,off,n,rfl,h1,h2,_,h3,hel⟩
 ·exact⟨[], .inl ⟨a0,rfl,rfl,rfl⟩,(fun s hs=>by cases hs),Nat.zero_le _⟩
 ·have hx:∀k,k<len→∃s:Int×Int×Int,(∀j u,([.int .i64 s.1, .int .i64 s.2.1, .int .i64 s.2.2]:List Value)[j]?=some u→w.cell? ⟨b,off+k*3+j,none⟩=some u)∧(-9223372036854775808≤s.1∧s.1≤9223372036854775807∧-9223372036854775808≤s.2.1∧s.2.1≤9223372036854775807∧-9223372036854775808≤s.2.2∧s.2.2≤9223372036854775807):=fun k hk=>by
   obtain⟨cs,hl,hc,y,hy,_⟩:=hel k hk
   obtain⟨c0,c1,c2,rfl⟩:∃c0 c1 c2,cs=[c0,c1,c2]:=by
    match cs,hl with
    |[c0,c1,c2],_=>exact⟨c0,c1,c2,rfl⟩
   obtain⟨y0,y1,y2,m,_,_,g0,g1,g2⟩:=Go.Deep.trod_struct3 Tryz.underlying92 hy
   rw[Tryz.cells_I]at g0
   rw[Tryz.cells_I64]at g1 g2
   obtain⟨p,e0,_,w0⟩:=DataW.trod_int Tryz.underlying3 g0
   obtain⟨q,e1,_,w1⟩:=DataW.trod_int Tryz.underlying2 g1
   obtain⟨r,e2,_,w2⟩:=DataW.trod_int Tryz.underlying2 g2
   simp at e0 e1 e2
   subst e0 e1 e2
   exact⟨(p,q,r),hc,(sD w0).1,(sD w0).2,(sD w1).1,(sD w1).2,(sD w2).1,(sD w2).2⟩
  obtain⟨l,hl,hlp⟩:=Ig hx
  refine⟨l, .inr ⟨b,off,cap,by rw[hl],by omega,h2,fun j u hu=>?_⟩,fun s hs=>?_,by unfold reachBytes at h3;omega⟩
  ·obtain⟨g1,g2⟩:=YX l j u hu
   have:=(hlp (j/3) (by omega) (0,0,0)).1 (j%3) u g2
   rwa [Ih]at this
  ·obtain⟨k,hk,rfl⟩:=List.getElem_of_mem hs
   have:=(hlp k (by omega) (0,0,0)).2
   rwa [getD_at (0,0,0) hk]at this
end
end Go.Proofs.YtlhmbkjdfjoilaaGreat
namespace Go.Proofs.YtlhmbkjdfjoilaaGreat
open Go.RowKit Go.WideShapes Go.ChangeShapes
theorem Tryz.cells_causal:Tryz.prog.cellsOf 32=3:=by kernel_rfl
theorem Y_ {H:Type} {P:Program} {ts us:List TypeId} {ds gs:List (DataW H)} (h:(DataW.weightsEach P (ts++us) (ds++gs)).all (·≤reachBytes)=true) {j:Nat} {t:TypeId} {d:DataW H} (ht:ts[j]?=some t) (hd:ds[j]?=some d):
 ∀n∈d.weights P t,n≤reachBytes:=fun n hn=>by
 have h1:(ts++us)[j]?=some t:=by rw[List.getElem?_append_left (List.getElem?_eq_some_iff.1 ht).1];exact ht
 have h2:(ds++gs)[j]?=some d:=by rw[List.getElem?_append_left (List.getElem?_eq_some_iff.1 hd).1];exact hd
 simpa using List.all_eq_true.1 h n (DataW.weights_mem_each h1 h2 n hn)
section
variable {H:Type} {enc:TypeId×Value→H} {w:World}
theorem Za {fuel:Nat} {ev kv cv:Value} {x:DataW H×List MemPlace} (h:DataW.trod enc Tryz.prog w 0 (fun _=>true) true fuel 32 [ev,kv,cv]=some x) (hw:∀n∈x.1.weights Tryz.prog 32,n≤reachBytes):
 ∃es ks c,fP (fun _=>True) w ev kv cv es ks c∧iQ es ks∧gZ c∧c.length≤140737488351232:=by
 obtain⟨xs,n,hn,rfl,_,hxl,hf⟩:=DataW.trod_struct Tryz.underlying32 h
 obtain⟨y0,y1,rfl⟩:∃y0 y1,xs=[y0,y1]:=by
  match xs,hxl with
  |[y0,y1],_=>exact⟨y0,y1,rfl⟩
 have g0:=hf 0 _ rfl
 have g1:=hf 1 _ rfl
 have g0:DataW.trod enc Tryz.prog w 0 (fun _=>true) true n 28 [ev,kv]=some y0:=g0
 have g1:DataW.trod enc Tryz.prog w 0 (fun _=>true) true n 30 [cv]=some y1:=g1
 have hw2:∀m∈y0.1.weights Tryz.prog 28++(y1.1.weights Tryz.prog 30++ []),m≤reachBytes:=fun m hm=>hw m (by
  simp only[List.map_cons,List.map_nil,DataW.weights,Tryz.underlying32]
  exact hm)
 obtain⟨es,ks,h1,h2⟩:=open_tree _ ev kv _ g0 fun m hm=>hw2 m (List.mem_append_left _ hm)
 obtain⟨c,h3,h4,h5⟩:=YZ g1 fun m hm=>hw2 m (List.mem_append_right _ (List.mem_append_left _ hm))
 exact⟨es,ks,c,⟨h1,h3⟩,h2,h4,h5⟩
structure OB (w:World) (v:Value):Prop where
 out:∃(ev kv cv:Value) (es:List aF) (ks:aH) (c:aU),v= .agg #[ev,kv,cv]∧fP (fun _=>True) w ev kv cv es ks c∧iQ es ks∧gZ c∧c.length≤140737488351232
theorem Zb {base:Nat} {v:Value} {d:DataW H} {ps:List MemPlace} (hv:Value.okWide Tryz.prog w .any base 32 v) (h:DataW.Trod enc Tryz.prog w 0 (fun _=>true) true 32 v d ps)
 (hw:∀n∈d.weights Tryz.prog 32,n≤reachBytes):OB w v:=by
 obtain⟨cs,rfl,hsz⟩:=okWide_struct Tryz.underlying32 hv
 rw[Tryz.cells_causal]at hsz
 obtain⟨l⟩:=cs
 match l,hsz with
 |[c0,c1,c2],_=>
 obtain⟨fuel,hf⟩:=h
 have hf:DataW.trod enc Tryz.prog w 0 (fun _=>true) true fuel 32 [c0,c1,c2]=some (d,ps):=hf
 obtain⟨es,ks,c,h1,h2,h3,h4⟩:=Za hf hw
 exact⟨_,_,_,es,ks,c,rfl,h1,h2,h3,h4⟩
end
end Go.Proofs.YtlhmbkjdfjoilaaGreat
namespace Go.Proofs.YtlhmbkjdfjoilaaGreat
open Go.RowKit Go.WideShapes Go.ChangeShapes
theorem Zc {s:Int} (h:(Lit.int .u8 s).wf=true):0≤s∧s≤255:=by
 simp only[Lit.wf,IntKind.min,IntKind.max,IntKind.signed,IntKind.bits]at h
 simpa using h
open Go.RowKit
theorem Zd (w:World) (v:Value) (h:OB w v) (s:Int) (hs:(Lit.int .u8 s).wf=true):
 Calls Tryz.prog 5 #[v, .int .u8 s] w fun e w'=>e= .returned (.bool true)∧aj (fun _=>False) w w':=by
 obtain⟨ev,kv,cv,es,ks,c,rfl,h1⟩:=h.out
 exact YD w es ks c ev kv cv h1 s (Zc hs)
end Go.Proofs.YtlhmbkjdfjoilaaGreat
