/- Words for the law MsgSame: R8e, R8c, R9, Sol9. -/
import Derived.Test.YtabkpccdnkjoiaaGreatMsgSameG0
import Derived.Test.YtabkpccdnkjoiaaGreatMsgSameG7
import Derived.Test.YtabkpccdnkjoiaaGreatMsgSameG9
import Derived.Test.YtabkpccdnkjoiaaGreatMsgSameG16
import Derived.Test.YtabkpccdnkjoiaaGreatMsgSameG18
import Derived.Test.YtabkpccdnkjoiaaGreatMsgSameG19
set_option linter.unusedSimpArgs false
set_option linter.unusedVariables false
set_option maxHeartbeats 32000000
set_option maxRecDepth 1000000
namespace Go.Proofs.YtabkpccdnkjoiaaGreat
open Go.RowKit
theorem ZB (Q:Nat→Prop) (es:List aG) (ks:aH) (w:World) (ev kv:Value) (ht:bQ Q w ev kv es ks) (hsz:sizeT es ks≤100000):
 Calls Tryz.prog 44 #[.agg #[ev,kv]] w (QN w es ks):=by
 obtain⟨ae,ce,rfl⟩:=ht.ents.rd.sl
 obtain⟨os,hkr,fD⟩:=ht.kids
 obtain⟨ak,ck,rfl⟩:=hkr.rd.sl
 have HC:=ah (fun W (f:aj ay w W)=>ZA Q _ es ks W _ _ (.slice none 0 0) [] (Nat.lt_succ_self _) (ht.aO f) hsz (.inl ⟨none,rfl,rfl,rfl⟩) (by unfold sizeT at hsz;simp;omega))
 clear hkr fD ht hsz
 go_enter Tryz.func44,Tryz.ntmps44
 go_wp2_with(go_at_call 108;refine(HC.out _ (aj.alloc _ _ _)).mono ?_;rintro e w3 ⟨v3,l,rfl,ho3,hd3,t_⟩;obtain⟨a3,c3,rfl⟩:=ho3.shape;have dJ:=ah (ho3.base (aj.alloc ay w _));clear ho3;have HD3:=ah hd3;clear hd3;have ZC:=ah t_;clear t_)
 go_ret
 exact⟨_,l,rfl,dJ.out,HD3.out,ZC.out⟩
theorem QW (Q:Nat→Prop) (es:List aG) (ks:aH) (w:World) (ev kv:Value) (ht:bQ Q w ev kv es ks) (hsz:sizeT es ks≤2000) (hd:vP (gq es ks)):
 Calls Tryz.prog 90 #[.agg #[ev,kv]] w fun e w'=>∃v' c,e= .returned v'∧OwnAt w w' 144 3 v' c.length (eu c)∧og (gq es ks) c∧c.length≤8000:=by
 obtain⟨i0,hi,hz0,hz1,hz2⟩:=info_parts Ov
 obtain⟨ae,ce,rfl⟩:=ht.ents.rd.sl
 obtain⟨os,hkr,fD⟩:=ht.kids
 obtain⟨ak,ck,rfl⟩:=hkr.rd.sl
 have HC:=ah (fun W (f:aj ay w W)=>ZB Q es ks W _ _ (ht.aO f) (by omega))
 have hdl:=BL es ks
 have mJ:=ah (show(gq es ks).length≤2000 by omega)
 have HDK:=ah hd;clear hd
 have aU:=ah (aj.alloc ay w (.cells #[.slice ae es.length ce, .slice ak ks.len ck] 30))
 clear hkr fD ht hsz hdl
 go_enter Tryz.func90,Tryz.ntmps90
 go_wp2_with(go_at_call 44;refine(HC.out _ aU.out).mono ?_;rintro e w3 ⟨v3,l,rfl,ho3,hd3,-⟩;obtain⟨a3,c3,rfl⟩:=ho3.shape;have dJ:=ah (ho3.base aU.out);clear ho3;have HD3:=ah hd3;clear hd3)
 have hl:=mJ.out
 rw[←HD3.out,wI]at hl
 generalize hn:l.length=n at*
 have HN:=ah hn;clear hn
 go_loopw [3,10] (fun v i ww=>∃k:Nat,k≤n∧i= .int .i64 k∧OwnAt w3 ww 170 2 v k (dU (oM (l.take k)))) (fun _ i _=>n-(intOf i).toNat)
 case atStart=>exact⟨0,Nat.zero_le _,rfl,OwnAt.nil (aj.refl _ _) _ _⟩
 case round=>
  obtain⟨k,hk,rfl,ho⟩:=hrel
  obtain⟨av,cv,rfl⟩:=ho.shape
  have HO:=ah ho;clear ho
  by_cases hlt:k<n
  ·rcases Rd.shape dJ.out.rd with⟨ad,he,h0⟩|⟨b,off,cc,he,hmax⟩
   ·exfalso;omega
   ·injection he with e1 e2 e3
    subst e1 e3
    clear e2
    have hlk:k<l.length:=by rw[HN.out];exact hlt
    obtain⟨p0,p1⟩:=Zt dJ.out.rd k hlk
    have q0:=HO.out.aP.cell' p0 id
    have q1:=HO.out.aP.cell' p1 id
    clear p0 p1
    have hE:=Zu hlk
    generalize l.getD k (.bool true,aG.zero)=x at*
    have yK:=ah hE;clear hE
    go_wp2_with(at_builtin;refine oh _ _ [.int .i64 x.2.dc, .int .i64 x.2.n] rfl (.tmp 13) (.tmp 20) 226 rfl 170 i0 _ 2 16 Tryz.underlying226 hi hz0 hz1 hz2 (by decide) (by decide) _ _ _ HO.out 1 1 rfl (by simp[Act.eval]) rfl (by simp[Value.oneCell']) (by simp only[maxLen];omega) (by omega) ?_;intro EN mF w2 cZ;have OW:=ah cZ;clear cZ)
    go_roundw
    case rel=>exact⟨k+1,by omega,by go_num,by rw[yK.out,oZ];exact OW.out⟩
    case measure=>simp[intOf];omega
  ·obtain rfl:n=k:=by omega
   rw[List.take_of_length_le (by rw[HN.out];exact Nat.le_refl _),HD3.out]at HO
   have hnn:n=(gq es ks).length:=by rw[←HD3.out,wI];exact HN.out.symm
   have hrun:ku wr (.slice av n cv) (gq es ks):=by show Rd wr _ (gq es ks).length _;rw[←hnn];exact HO.out.rd
   have kZ:=ah hrun;clear hrun hnn
   go_wp2_with(go_at_call 153;refine(VI _ _ (gq es ks) kZ.out HDK.out (by have:=mJ.out;omega)).mono ?_;rintro e w5 ⟨v5,c5,rfl,oD,hof,-⟩;obtain⟨a5,KI,rfl⟩:=oD.shape;have vY:=ah oD;clear oD;have iW:=ah hof;clear hof)
   go_ret
   exact⟨_,c5,rfl,(vY.out.base HO.out.aP).base dJ.out.aP,iW.out,by have:=iW.out.length;have:=mJ.out;omega⟩
open Go.RowKit
theorem ZE (Q:Nat→Prop):∀(N:Nat) (es:List aG) (ks:aH) (left:Int) (d:Nat) (w:World) (ev kv:Value),gW ks<N→bQ Q w ev kv es ks→iJ es ks→left≤1000→0≤left→d≤100→
 Calls Tryz.prog 167 #[.agg #[ev,kv], .int .i64 left, .int .i64 d] w fun e w'=>e= .returned (.int .i64 (nX es ks left d))∧aj ay w w':=by
 intro N
 induction N with
 |zero=>intros;exfalso;omega
 |succ N jy=>
  intro es ks left d w ev kv hN ht hok hl1 hl2 hd
  obtain⟨ae,ce,rfl⟩:=ht.ents.rd.sl
  obtain⟨os,hkr,fD⟩:=ht.kids
  obtain⟨ak,ck,rfl⟩:=hkr.rd.sl
  have jl:=ah hkr.rd;clear hkr ht
  have kW:=ah fD;clear fD
  have IH:=ah jy;clear jy
  have dB:=ah (aj.alloc ay w (.cells #[.slice ae es.length ce, .slice ak ks.len ck] 30))
  have box1:(w.alloc (.cells #[.slice ae es.length ce, .slice ak ks.len ck] 30)).cell? ⟨w.heap.size,1,none⟩=some (.slice ak ks.len ck):=aC (heap_alloc_new w _) 1 rfl
  have B1:=ah box1;clear box1
  have hel:=hok.es.len
  have acU:=hok.len
  have dL:=ah hok.ks;clear hok
  have m_:=ah hN;clear hN
  have hrt:nX es ks left d=nV ks (left-es.length-ks.len) d:=rfl
  rw[hrt]
  clear hrt
  generalize es.length=n at*
  generalize hkl:ks.len=m at*
  have HM:=ah hkl;clear hkl
  obtain⟨l0,hl0⟩:∃l0:Int,l0=left-n-m:=⟨_,rfl⟩
  have hb0:l0≤1000∧-300000000000000≤l0:=by omega
  rw[←hl0]
  go_enter Tryz.func167,Tryz.ntmps167
  go_wp2
  go_loopw [1,20] (fun lv i ww=>∃(k:Nat) (x:Int),k≤m∧i= .int .i64 k∧lv= .int .i64 x∧x≤1000∧-300000000000000≤x∧nV ks l0 d=nV (ks.drop k) x d∧aj ay (w.alloc (.cells #[.slice ae n ce, .slice ak m ck] 30)) ww) (fun _ i _=>m-(intOf i).toNat)
  case atStart=>exact⟨0,l0,Nat.zero_le _,rfl,by rw[hl0],hb0.1,hb0.2,rfl,aj.refl _ _⟩
  case round=>
   clear hl0
   obtain⟨k,x,hk,rfl,rfl,hx1,hx2,hr,hw⟩:=hrel
   have HW:=ah hw;clear hw
   have b1:=HW.out.cell' B1.out id
   by_cases hlt:k<m
   ·obtain⟨key,es',sub,rest,hdr⟩:=aH.rM (n:=k) (ks:=ks) (by rw[HM.out];exact hlt)
    rw[Zj hdr]at hr
    by_cases hx0:x<0
    ·rw[if_pos (.inl hx0)]at hr
     have HR:=ah hr;clear hr
     clear hdr
     go_wp2
     go_ret
     exact⟨zB HR.out.symm,dB.out.au HW.out⟩
    ·by_cases hd0:d=0
     ·subst hd0
      rw[if_pos (.inr rfl)]at hr
      have HR:=ah hr;clear hr
      clear hdr
      go_wp2
      go_ret
      exact⟨zB HR.out.symm,dB.out.au HW.out⟩
     ·rw[if_neg (by omega)]at hr
      rcases Rd.shape (jl.out.aO (dB.out.au HW.out))with⟨ad,he,h0⟩|⟨b,off,cc,he,hmax⟩
      ·exfalso;have:=HM.out;omega
      ·injection he with e1 e2 e3
       subst e1 e3
       clear e2
       obtain⟨ev',kv',c0,c1,c2,hta⟩:=qK (jl.out.aO (dB.out.au HW.out)) (kW.out.aO (dB.out.au HW.out)) hdr
       obtain⟨dW,dX,rfl⟩:=hta.ents.rd.sl
       obtain⟨os',iK,kX⟩:=hta.kids
       obtain⟨dY,dZ,rfl⟩:=iK.rd.sl
       clear iK kX
       have hok':=dL.out.drop k
       rw[hdr]at hok'
       have hsub:iJ es' sub:=⟨hok'.2.1,hok'.2.2.1,hok'.2.2.2.1⟩
       have hbd:=KC (ks:=sub) (left:=x-es'.length-sub.len) (d:=d-1) hsub.ks (by omega) (by have:=hsub.es.len;have:=hsub.len;omega)
       obtain⟨y,hy⟩:∃y,y=nX es' sub x (d-1):=⟨_,rfl⟩
       have wW:=ah (show y≤1000∧-300000000000000≤y by rw[hy];exact hbd);clear hbd
       have hih:=IH.out es' sub x (d-1) wr _ _ (by have:=uP k hdr;have:=m_.out;omega) hta hsub hx1 (by omega) (by omega)
       rw[show((d-1:Nat):Int)=(d:Int)-1 by omega]at hih
       rw[←hy]at hih hr
       have HIH:=ah hih;clear hih hta hok' hsub hdr hy
       have HR:=ah hr;clear hr
       generalize es'.length=n' at*
       generalize sub.len=m' at*
       have hd1:(d:Int)≤100:=by omega
       have hd2:(1:Int)≤d:=by omega
       have hdz:((d:Int)==0)=false:=by simp;omega
       go_wp2_with(go_at_call 167;refine HIH.out.mono ?_;rintro e w3 ⟨rfl,hw3⟩;have HW3:=ah hw3;clear hw3)
       go_roundw
       case rel=>exact⟨k+1,y,by omega,by go_num,rfl,wW.out.1,wW.out.2,HR.out,HW.out.au HW3.out⟩
       case measure=>simp[intOf];omega
   ·obtain rfl:m=k:=by omega
    rw[aH.sV (by rw[HM.out];exact Nat.le_refl _)]at hr
    have HR:=ah hr;clear hr
    go_wp2
    go_ret
    exact⟨zB HR.out.symm,dB.out.au HW.out⟩
theorem ZF (Q:Nat→Prop) (es:List aG) (ks:aH) (left:Int) (w:World) (ev kv:Value) (ht:bQ Q w ev kv es ks) (hok:iJ es ks) (h1:left≤1000) (h2:0≤left):
 Calls Tryz.prog 113 #[.agg #[ev,kv], .int .i64 left] w fun e w'=>e= .returned (.bool (decide (0≤nX es ks left 8)))∧aj ay w w':=by
 obtain⟨ae,ce,rfl⟩:=ht.ents.rd.sl
 obtain⟨os,hkr,fD⟩:=ht.kids
 obtain⟨ak,ck,rfl⟩:=hkr.rd.sl
 have hc:∀W,aj ay w W→Calls Tryz.prog 167 #[.agg #[.slice ae es.length ce, .slice ak ks.len ck], .int .i64 left, .int .i64 8] W fun e w'=>e= .returned (.int .i64 (nX es ks left 8))∧aj ay W w':=fun W f=>ZE Q _ es ks left 8 W _ _ (Nat.lt_succ_self _) (ht.aO f) hok h1 h2 (by omega)
 have HC:=ah hc
 clear hkr fD ht hok hc
 generalize nX es ks left 8=y at*
 generalize es.length=n at*
 generalize ks.len=m at*
 go_enter Tryz.func113,Tryz.ntmps113
 go_wp2_with(go_at_call 167;refine(HC.out _ (aj.alloc _ _ _)).mono ?_;rintro e w3 ⟨rfl,hw3⟩;have HW3:=ah ((aj.alloc ay _ _).au hw3);clear hw3)
 go_ret
 exact⟨rfl,HW3.out⟩
theorem ZG (Q:Nat→Prop) (es:List aG) (ks:aH) (w:World) (ev kv:Value) (ht:bQ Q w ev kv es ks) (hok:iJ es ks):
 Calls Tryz.prog 149 #[.agg #[ev,kv]] w fun e w'=>e= .returned (.bool (bW 5 es ks))∧aj ay w w':=by
 obtain⟨ae,ce,rfl⟩:=ht.ents.rd.sl
 obtain⟨os,hkr,fD⟩:=ht.kids
 obtain⟨ak,ck,rfl⟩:=hkr.rd.sl
 have hc:∀W,aj ay w W→Calls Tryz.prog 189 #[.agg #[.slice ae es.length ce, .slice ak ks.len ck], .int .i64 5] W fun e w'=>e= .returned (.bool (bW 5 es ks))∧aj ay W w':=fun W f=>VY Q _ es ks 5 W _ _ (Nat.lt_succ_self _) (ht.aO f) hok (by omega)
 have HC:=ah hc
 clear hkr fD ht hok hc
 generalize bW 5 es ks=y at*
 generalize es.length=n at*
 generalize ks.len=m at*
 go_enter Tryz.func149,Tryz.ntmps149
 go_wp2_with(go_at_call 189;refine(HC.out _ (aj.alloc _ _ _)).mono ?_;rintro e w3 ⟨rfl,hw3⟩;have HW3:=ah ((aj.alloc ay _ _).au hw3);clear hw3)
 go_ret
 exact⟨rfl,HW3.out⟩
open Go.RowKit
theorem QX (Q:Nat→Prop) (es:List aG) (ks:aH) (c:aW) (left:Int) (w:World) (ev kv cv:Value) (h:fH Q w ev kv cv es ks c) (hok:iJ es ks) (hcl:c.length≤140737488351232) (h1:left≤1000) (h2:0≤left):
 Calls Tryz.prog 50 #[.agg #[ev,kv,cv], .int .i64 left] w fun e w'=>e= .returned (.bool (decide (0≤nX es ks left 8)&&decide ((c.length:Int)≤left)))∧aj ay w w':=by
 obtain⟨a0,c0,a1,c1,a2,c2,rfl,rfl,rfl⟩:=h.shape
 have HC:=ah (fun W (f:aj ay w W)=>ZF Q es ks left W _ _ (h.tree.aO f) hok h1 h2)
 clear h hok
 generalize c.length=k at*
 cases hb:decide (0≤nX es ks left 8)with
 |false=>
  rw[hb]at HC
  clear hb
  have aQ:=ah (xA w (.slice a0 es.length c0) (.slice a1 ks.len c1) (.slice a2 k c2) 34)
  go_enter Tryz.func50,Tryz.ntmps50
  go_wp2_with(go_at_call 113;refine(HC.out _ (aj.alloc _ _ _)).mono ?_;rintro e w1 ⟨rfl,hw1⟩;obtain⟨y0,y1,y2⟩:=aQ.out w1 hw1;have HW1:=ah ((aj.alloc ay _ _).au hw1);clear hw1)
  go_ret
  exact⟨rfl,HW1.out⟩
 |true=>
  rw[hb]at HC
  clear hb
  have aQ:=ah (xA w (.slice a0 es.length c0) (.slice a1 ks.len c1) (.slice a2 k c2) 34)
  go_enter Tryz.func50,Tryz.ntmps50
  go_wp2_with(go_at_call 113;refine(HC.out _ (aj.alloc _ _ _)).mono ?_;rintro e w1 ⟨rfl,hw1⟩;obtain⟨y0,y1,y2⟩:=aQ.out w1 hw1;have HW1:=ah ((aj.alloc ay _ _).au hw1);clear hw1)
  go_ret
  exact⟨rfl,HW1.out⟩
theorem QY (Q:Nat→Prop) (es:List aG) (ks:aH) (c:aW) (w:World) (ev kv cv:Value) (h:fH Q w ev kv cv es ks c) (hok:fP es ks c):
 Calls Tryz.prog 86 #[.agg #[ev,kv,cv]] w fun e w'=>e= .returned (.bool (tf (fG es ks c)))∧aj ay w w':=by
 obtain⟨a0,c0,a1,c1,a2,c2,rfl,rfl,rfl⟩:=h.shape
 have HT:=ah (fun W (f:aj ay w W)=>ZG Q es ks W _ _ (h.tree.aO f) hok.tree)
 have HX:=ah (fun W (f:aj ay w W)=>UQ W _ c (Rd.aO h.ctx f) hok.fits (by have:=hok.len;omega))
 have HD:=ah (fun W (f:aj ay w W) hd=>QW Q es ks W _ _ (h.tree.aO f) hok.small hd)
 have HL:=ah (fun W (f:aj ay w W) vd d (hv:fZ W vd d) (rd:dw d) (ld:d.length≤8000) (rc:dw c)=>NC W vd _ d c hv (Rd.aO h.ctx f) rd rc (by omega) (by have:=hok.len;omega))
 have aQ:=ah (xA w (.slice a0 es.length c0) (.slice a1 ks.len c1) (.slice a2 c.length c2) 34)
 clear h hok
 cases hr:bW 5 es ks with
 |false=>
  rw[hr]at HT
  rw[aZ fun h=>by rw[h.tree]at hr;cases hr]
  clear hr HX HD HL
  generalize es.length=n at*
  generalize ks.len=m at*
  generalize c.length=k at*
  have hfa:aj ay w (w.alloc (.cells #[.slice a0 n c0, .slice a1 m c1, .slice a2 k c2] 34)):=aj.alloc _ _ _
  go_enter Tryz.func86,Tryz.ntmps86
  go_wp2_with fail
  refine iI (S:=fun w'=>w'.cell? ⟨w.heap.size,0,none⟩=some (.slice a0 n c0)∧w'.cell? ⟨w.heap.size,1,none⟩=some (.slice a1 m c1)∧w'.cell? ⟨w.heap.size,2,none⟩=some (.slice a2 k c2)) 16 (by kernel_rfl) (aQ.out _ (aj.drew _ _)) ?_
  intro hS
  have gy:=ah (hfa.vG)
  generalize (w.alloc (.cells #[.slice a0 n c0, .slice a1 m c1, .slice a2 k c2] 34)).drew=Y at*
  clear hfa
  refine aS 0 3 rfl rfl (v:=?_) (.inl ⟨by rfl,?_⟩) ?_
  rotate_left 1
  ·(intro w hSw;(try dsimp only at hSw);go_simp;(try with_reducible rfl))
  refine aS 1 4 rfl rfl (v:=?_) (.inl ⟨by rfl,?_⟩) ?_
  rotate_left 1
  ·(intro w hSw;(try dsimp only at hSw);go_simp;(try with_reducible rfl))
  try simp only[Act.put,aI,aJ,aN]
  refine bM (i:=2) (by kernel_rfl) rfl (fun K hK=>?_)
  go_simp
  refine(HT.out _ gy.out).mono ?_
  rintro e Y1 ⟨rfl,hf1⟩
  have hS:=(⟨hf1.cell' hS.1 id,hf1.cell' hS.2.1 id,hf1.cell' hS.2.2 id⟩:Y1.cell? ⟨w.heap.size,0,none⟩=some (.slice a0 n c0)∧Y1.cell? ⟨w.heap.size,1,none⟩=some (.slice a1 m c1)∧Y1.cell? ⟨w.heap.size,2,none⟩=some (.slice a2 k c2))
  refine hK.out _ _ hS ?_
  clear hK K
  have bH:=ah hf1;clear hf1
  try simp only[Act.put,aI,aJ,aN]
  refine aS 3 6 rfl rfl (v:=?_) (.inl ⟨by rfl,?_⟩) ?_
  rotate_left 1
  ·(intro w hSw;(try dsimp only at hSw);go_simp;(try with_reducible rfl))
  refine dF 4 7 rfl rfl ?_
  try simp only[Act.put,aI,aJ,aN]
  refine dF 5 8 rfl rfl ?_
  refine dF 6 9 rfl rfl ?_
  try simp only[Act.put,aI,aJ,aN]
  refine aS 7 10 rfl rfl (v:=?_) (.inl ⟨by rfl,?_⟩) ?_
  rotate_left 1
  ·(intro w hSw;(try dsimp only at hSw);go_simp;(try with_reducible rfl))
  refine aS 8 11 rfl rfl (v:=?_) (.inl ⟨by rfl,?_⟩) ?_
  rotate_left 1
  ·(intro w hSw;(try dsimp only at hSw);go_simp;(try with_reducible rfl))
  try simp only[Act.put,aI,aJ,aN]
  refine dF 9 12 rfl rfl ?_
  refine dF 10 13 rfl rfl ?_
  try simp only[Act.put,aI,aJ,aN]
  refine dF 11 14 rfl rfl ?_
  refine dF 12 15 rfl rfl ?_
  try simp only[Act.put,aI,aJ,aN]
  refine dF 13 16 rfl rfl ?_
  refine dF 14 17 rfl rfl ?_
  try simp only[Act.put,aI,aJ,aN]
  refine aS 15 18 rfl rfl (v:=?_) (.inl ⟨by rfl,?_⟩) ?_
  rotate_left 1
  ·(intro w hSw;(try dsimp only at hSw);go_simp;(try with_reducible rfl))
  try simp only[Act.put,aI,aJ,aN]
  refine iQ (by kernel_rfl) (by kernel_rfl) rfl (fun K hK=>?_)
  go_simp
  refine hK.out _ _ ?_
  clear hK K hS
  go_wp2
  go_ret
  exact⟨rfl,gy.out.au bH.out⟩
 |true=>
  rw[hr]at HT
  by_cases hc:dw c
  ·rw[bZ hc]at HX
   have dL:=ah (BK hr)
   have hpost:∀d,og (gq es ks) d→tf (jr d c)=tf (fG es ks c):=fun d hd=>kT ⟨fun h=>⟨hr,hc,(hd.leq dL.out).1 h⟩,fun h=>(hd.leq dL.out).2 h.dots⟩
   have jm:=ah hpost;clear hpost
   have jh:=ah hc;clear hc hr
   generalize tf (fG es ks c)=y at*
   generalize es.length=n at*
   generalize ks.len=m at*
   generalize c.length=k at*
   have hfa:aj ay w (w.alloc (.cells #[.slice a0 n c0, .slice a1 m c1, .slice a2 k c2] 34)):=aj.alloc _ _ _
   go_enter Tryz.func86,Tryz.ntmps86
   go_wp2_with fail
   refine iI (S:=fun w'=>w'.cell? ⟨w.heap.size,0,none⟩=some (.slice a0 n c0)∧w'.cell? ⟨w.heap.size,1,none⟩=some (.slice a1 m c1)∧w'.cell? ⟨w.heap.size,2,none⟩=some (.slice a2 k c2)) 16 (by kernel_rfl) (aQ.out _ (aj.drew _ _)) ?_
   intro hS
   have gy:=ah (hfa.vG)
   generalize (w.alloc (.cells #[.slice a0 n c0, .slice a1 m c1, .slice a2 k c2] 34)).drew=Y at*
   clear hfa
   refine aS 0 3 rfl rfl (v:=?_) (.inl ⟨by rfl,?_⟩) ?_
   rotate_left 1
   ·(intro w hSw;(try dsimp only at hSw);go_simp;(try with_reducible rfl))
   refine aS 1 4 rfl rfl (v:=?_) (.inl ⟨by rfl,?_⟩) ?_
   rotate_left 1
   ·(intro w hSw;(try dsimp only at hSw);go_simp;(try with_reducible rfl))
   try simp only[Act.put,aI,aJ,aN]
   refine bM (i:=2) (by kernel_rfl) rfl (fun K hK=>?_)
   go_simp
   refine(HT.out _ gy.out).mono ?_
   rintro e Y1 ⟨rfl,hf1⟩
   have hS:=(⟨hf1.cell' hS.1 id,hf1.cell' hS.2.1 id,hf1.cell' hS.2.2 id⟩:Y1.cell? ⟨w.heap.size,0,none⟩=some (.slice a0 n c0)∧Y1.cell? ⟨w.heap.size,1,none⟩=some (.slice a1 m c1)∧Y1.cell? ⟨w.heap.size,2,none⟩=some (.slice a2 k c2))
   refine hK.out _ _ hS ?_
   clear hK K
   have bH:=ah (gy.out.au hf1);clear hf1
   try simp only[Act.put,aI,aJ,aN]
   refine aS 3 6 rfl rfl (v:=?_) (.inl ⟨by rfl,?_⟩) ?_
   rotate_left 1
   ·(intro w hSw;(try dsimp only at hSw);go_simp;(try with_reducible rfl))
   refine aS 4 7 rfl rfl (v:=?_) (.inl ⟨by rfl,?_⟩) ?_
   rotate_left 1
   ·(intro w hSw;(try dsimp only at hSw);go_simp;(try with_reducible rfl))
   try simp only[Act.put,aI,aJ,aN]
   refine aS 5 8 rfl rfl (v:=?_) (.inl ⟨by rfl,?_⟩) ?_
   rotate_left 1
   ·(intro w hSw;(try dsimp only at hSw);go_simp;(try with_reducible rfl))
   try simp only[Act.put,aI,aJ,aN]
   refine bM (i:=6) (by kernel_rfl) rfl (fun K hK=>?_)
   go_simp
   refine(HX.out _ bH.out).mono ?_
   rintro e Y2 ⟨rfl,hf2⟩
   have hS:=(⟨hf2.cell' hS.1 id,hf2.cell' hS.2.1 id,hf2.cell' hS.2.2 id⟩:Y2.cell? ⟨w.heap.size,0,none⟩=some (.slice a0 n c0)∧Y2.cell? ⟨w.heap.size,1,none⟩=some (.slice a1 m c1)∧Y2.cell? ⟨w.heap.size,2,none⟩=some (.slice a2 k c2))
   refine hK.out _ _ hS ?_
   clear hK K
   have HF2:=ah (bH.out.au hf2);clear hf2
   try simp only[Act.put,aI,aJ,aN]
   refine aS 7 10 rfl rfl (v:=?_) (.inl ⟨by rfl,?_⟩) ?_
   rotate_left 1
   ·(intro w hSw;(try dsimp only at hSw);go_simp;(try with_reducible rfl))
   refine aS 8 11 rfl rfl (v:=?_) (.inl ⟨by rfl,?_⟩) ?_
   rotate_left 1
   ·(intro w hSw;(try dsimp only at hSw);go_simp;(try with_reducible rfl))
   try simp only[Act.put,aI,aJ,aN]
   refine aS 9 12 rfl rfl (v:=?_) (.inl ⟨by rfl,?_⟩) ?_
   rotate_left 1
   ·(intro w hSw;(try dsimp only at hSw);go_simp;(try with_reducible rfl))
   refine aS 10 13 rfl rfl (v:=?_) (.inl ⟨by rfl,?_⟩) ?_
   rotate_left 1
   ·(intro w hSw;(try dsimp only at hSw);go_simp;(try with_reducible rfl))
   try simp only[Act.put,aI,aJ,aN]
   refine aS 12 15 rfl rfl (v:=?_) (.inl ⟨by rfl,?_⟩) ?_
   rotate_left 1
   ·(intro w hSw;(try dsimp only at hSw);go_simp;(try with_reducible rfl))
   refine aS 13 16 rfl rfl (v:=?_) (.inl ⟨by rfl,?_⟩) ?_
   rotate_left 1
   ·(intro w hSw;(try dsimp only at hSw);go_simp;(try with_reducible rfl))
   try simp only[Act.put,aI,aJ,aN]
   refine bM (i:=11) (by kernel_rfl) rfl (fun K hK=>?_)
   go_simp
   refine(HD.out _ HF2.out dL.out).mono ?_
   rintro e Y3 ⟨v3,d,rfl,ho3,hof,hl3⟩
   obtain⟨a3,c3,rfl⟩:=ho3.shape
   have hf3:=ho3.aP
   have hS:=(⟨hf3.cell' hS.1 id,hf3.cell' hS.2.1 id,hf3.cell' hS.2.2 id⟩:Y3.cell? ⟨w.heap.size,0,none⟩=some (.slice a0 n c0)∧Y3.cell? ⟨w.heap.size,1,none⟩=some (.slice a1 m c1)∧Y3.cell? ⟨w.heap.size,2,none⟩=some (.slice a2 k c2))
   refine hK.out _ _ hS ?_
   clear hK K
   have HF3:=ah (HF2.out.au hf3);clear hf3
   have dJ:=ah ho3;clear ho3
   have iW:=ah hof;clear hof
   have kV:=ah hl3;clear hl3
   try simp only[Act.put,aI,aJ,aN]
   refine bM (i:=14) (by kernel_rfl) rfl (fun K hK=>?_)
   go_simp
   refine(HL.out _ HF3.out _ d dJ.out.rd iW.out.right kV.out jh.out).mono ?_
   rintro e Y4 ⟨rfl,hf4⟩
   rw[jm.out d iW.out]
   have hS:=(⟨hf4.cell' hS.1 id,hf4.cell' hS.2.1 id,hf4.cell' hS.2.2 id⟩:Y4.cell? ⟨w.heap.size,0,none⟩=some (.slice a0 n c0)∧Y4.cell? ⟨w.heap.size,1,none⟩=some (.slice a1 m c1)∧Y4.cell? ⟨w.heap.size,2,none⟩=some (.slice a2 k c2))
   refine hK.out _ _ hS ?_
   clear hK K
   have iL:=ah (HF3.out.au hf4);clear hf4
   try simp only[Act.put,aI,aJ,aN]
   refine aS 15 18 rfl rfl (v:=?_) (.inl ⟨by rfl,?_⟩) ?_
   rotate_left 1
   ·(intro w hSw;(try dsimp only at hSw);go_simp;(try with_reducible rfl))
   try simp only[Act.put,aI,aJ,aN]
   refine iQ (by kernel_rfl) (by kernel_rfl) rfl (fun K hK=>?_)
   go_simp
   refine hK.out _ _ ?_
   clear hK K hS
   go_wp2
   go_ret
   exact⟨rfl,iL.out⟩
  ·rw[aZ hc]at HX
   rw[aZ fun h=>hc h.ctx]
   clear hc hr HD HL
   generalize es.length=n at*
   generalize ks.len=m at*
   generalize c.length=k at*
   have hfa:aj ay w (w.alloc (.cells #[.slice a0 n c0, .slice a1 m c1, .slice a2 k c2] 34)):=aj.alloc _ _ _
   go_enter Tryz.func86,Tryz.ntmps86
   go_wp2_with fail
   refine iI (S:=fun w'=>w'.cell? ⟨w.heap.size,0,none⟩=some (.slice a0 n c0)∧w'.cell? ⟨w.heap.size,1,none⟩=some (.slice a1 m c1)∧w'.cell? ⟨w.heap.size,2,none⟩=some (.slice a2 k c2)) 16 (by kernel_rfl) (aQ.out _ (aj.drew _ _)) ?_
   intro hS
   have gy:=ah (hfa.vG)
   generalize (w.alloc (.cells #[.slice a0 n c0, .slice a1 m c1, .slice a2 k c2] 34)).drew=Y at*
   clear hfa
   refine aS 0 3 rfl rfl (v:=?_) (.inl ⟨by rfl,?_⟩) ?_
   rotate_left 1
   ·(intro w hSw;(try dsimp only at hSw);go_simp;(try with_reducible rfl))
   refine aS 1 4 rfl rfl (v:=?_) (.inl ⟨by rfl,?_⟩) ?_
   rotate_left 1
   ·(intro w hSw;(try dsimp only at hSw);go_simp;(try with_reducible rfl))
   try simp only[Act.put,aI,aJ,aN]
   refine bM (i:=2) (by kernel_rfl) rfl (fun K hK=>?_)
   go_simp
   refine(HT.out _ gy.out).mono ?_
   rintro e Y1 ⟨rfl,hf1⟩
   have hS:=(⟨hf1.cell' hS.1 id,hf1.cell' hS.2.1 id,hf1.cell' hS.2.2 id⟩:Y1.cell? ⟨w.heap.size,0,none⟩=some (.slice a0 n c0)∧Y1.cell? ⟨w.heap.size,1,none⟩=some (.slice a1 m c1)∧Y1.cell? ⟨w.heap.size,2,none⟩=some (.slice a2 k c2))
   refine hK.out _ _ hS ?_
   clear hK K
   have bH:=ah (gy.out.au hf1);clear hf1
   try simp only[Act.put,aI,aJ,aN]
   refine aS 3 6 rfl rfl (v:=?_) (.inl ⟨by rfl,?_⟩) ?_
   rotate_left 1
   ·(intro w hSw;(try dsimp only at hSw);go_simp;(try with_reducible rfl))
   refine aS 4 7 rfl rfl (v:=?_) (.inl ⟨by rfl,?_⟩) ?_
   rotate_left 1
   ·(intro w hSw;(try dsimp only at hSw);go_simp;(try with_reducible rfl))
   try simp only[Act.put,aI,aJ,aN]
   refine aS 5 8 rfl rfl (v:=?_) (.inl ⟨by rfl,?_⟩) ?_
   rotate_left 1
   ·(intro w hSw;(try dsimp only at hSw);go_simp;(try with_reducible rfl))
   try simp only[Act.put,aI,aJ,aN]
   refine bM (i:=6) (by kernel_rfl) rfl (fun K hK=>?_)
   go_simp
   refine(HX.out _ bH.out).mono ?_
   rintro e Y2 ⟨rfl,hf2⟩
   have hS:=(⟨hf2.cell' hS.1 id,hf2.cell' hS.2.1 id,hf2.cell' hS.2.2 id⟩:Y2.cell? ⟨w.heap.size,0,none⟩=some (.slice a0 n c0)∧Y2.cell? ⟨w.heap.size,1,none⟩=some (.slice a1 m c1)∧Y2.cell? ⟨w.heap.size,2,none⟩=some (.slice a2 k c2))
   refine hK.out _ _ hS ?_
   clear hK K
   have HF2:=ah (bH.out.au hf2);clear hf2
   try simp only[Act.put,aI,aJ,aN]
   refine aS 7 10 rfl rfl (v:=?_) (.inl ⟨by rfl,?_⟩) ?_
   rotate_left 1
   ·(intro w hSw;(try dsimp only at hSw);go_simp;(try with_reducible rfl))
   refine aS 8 11 rfl rfl (v:=?_) (.inl ⟨by rfl,?_⟩) ?_
   rotate_left 1
   ·(intro w hSw;(try dsimp only at hSw);go_simp;(try with_reducible rfl))
   try simp only[Act.put,aI,aJ,aN]
   refine dF 9 12 rfl rfl ?_
   refine dF 10 13 rfl rfl ?_
   try simp only[Act.put,aI,aJ,aN]
   refine dF 11 14 rfl rfl ?_
   refine dF 12 15 rfl rfl ?_
   try simp only[Act.put,aI,aJ,aN]
   refine dF 13 16 rfl rfl ?_
   refine dF 14 17 rfl rfl ?_
   try simp only[Act.put,aI,aJ,aN]
   refine aS 15 18 rfl rfl (v:=?_) (.inl ⟨by rfl,?_⟩) ?_
   rotate_left 1
   ·(intro w hSw;(try dsimp only at hSw);go_simp;(try with_reducible rfl))
   try simp only[Act.put,aI,aJ,aN]
   refine iQ (by kernel_rfl) (by kernel_rfl) rfl (fun K hK=>?_)
   go_simp
   refine hK.out _ _ ?_
   clear hK K hS
   go_wp2
   go_ret
   exact⟨rfl,HF2.out⟩
open Go.RowKit
def rZ (es:List aG) (ks:aH) (c:aW):Prop:=fG es ks c∧es=[]∧c=eU (bT c)
theorem ZH (Q:Nat→Prop) (es:List aG) (ks:aH) (c:aW) (w:World) (ev kv cv:Value) (h:fH Q w ev kv cv es ks c) (hok:fP es ks c):
 Calls Tryz.prog 77 #[.agg #[ev,kv,cv]] w fun e w'=>e= .returned (.bool (tf (rZ es ks c)))∧aj ay w w':=by
 obtain⟨a0,c0,a1,c1,a2,c2,rfl,rfl,rfl⟩:=h.shape
 have HT:=ah (fun W (f:aj ay w W)=>QY Q es ks c W _ _ _ (h.aO f) hok)
 have aQ:=ah (xA w (.slice a0 es.length c0) (.slice a1 ks.len c1) (.slice a2 c.length c2) 34)
 by_cases hr:fG es ks c
 rotate_left 1
 ·rw[aZ hr]at HT
  rw[aZ (show ¬rZ es ks c from fun h=>hr h.1)]
  clear hr h hok
  generalize es.length=n at*
  generalize ks.len=m at*
  generalize c.length=k at*
  have hfa:aj ay w (w.alloc (.cells #[.slice a0 n c0, .slice a1 m c1, .slice a2 k c2] 34)):=aj.alloc _ _ _
  go_enter Tryz.func77,Tryz.ntmps77
  go_wp2_with fail
  refine iI (S:=fun w'=>w'.cell? ⟨w.heap.size,0,none⟩=some (.slice a0 n c0)∧w'.cell? ⟨w.heap.size,1,none⟩=some (.slice a1 m c1)∧w'.cell? ⟨w.heap.size,2,none⟩=some (.slice a2 k c2)) 18 (by kernel_rfl) (aQ.out _ (aj.drew _ _)) ?_
  intro hS
  have gy:=ah (hfa.vG)
  generalize (w.alloc (.cells #[.slice a0 n c0, .slice a1 m c1, .slice a2 k c2] 34)).drew=Y at*
  clear hfa
  refine aS 0 3 rfl rfl (v:=?_) (.inl ⟨by rfl,?_⟩) ?_
  rotate_left 1
  ·(intro w hSw;(try dsimp only at hSw);go_simp;(try with_reducible rfl))
  try simp only[Act.put,aI,aJ,aN]
  refine bM (i:=1) (by kernel_rfl) rfl (fun K hK=>?_)
  go_simp
  refine(HT.out _ gy.out).mono ?_
  rintro e Y1 ⟨rfl,hf1⟩
  have hS:=(⟨hf1.cell' hS.1 id,hf1.cell' hS.2.1 id,hf1.cell' hS.2.2 id⟩:Y1.cell? ⟨w.heap.size,0,none⟩=some (.slice a0 n c0)∧Y1.cell? ⟨w.heap.size,1,none⟩=some (.slice a1 m c1)∧Y1.cell? ⟨w.heap.size,2,none⟩=some (.slice a2 k c2))
  refine hK.out _ _ hS ?_
  clear hK K
  have bH:=ah (gy.out.au hf1);clear hf1
  try simp only[Act.put,aI,aJ,aN]
  refine aS 2 5 rfl rfl (v:=?_) (.inl ⟨by rfl,?_⟩) ?_
  rotate_left 1
  ·(intro w hSw;(try dsimp only at hSw);go_simp;(try with_reducible rfl))
  refine dF 3 6 rfl rfl ?_
  try simp only[Act.put,aI,aJ,aN]
  refine dF 4 7 rfl rfl ?_
  refine dF 5 8 rfl rfl ?_
  try simp only[Act.put,aI,aJ,aN]
  refine dF 6 9 rfl rfl ?_
  refine dF 7 10 rfl rfl ?_
  try simp only[Act.put,aI,aJ,aN]
  refine aS 8 11 rfl rfl (v:=?_) (.inl ⟨by rfl,?_⟩) ?_
  rotate_left 1
  ·(intro w hSw;(try dsimp only at hSw);go_simp;(try with_reducible rfl))
  refine aS 9 12 rfl rfl (v:=?_) (.inl ⟨by rfl,?_⟩) ?_
  rotate_left 1
  ·(intro w hSw;(try dsimp only at hSw);go_simp;(try with_reducible rfl))
  try simp only[Act.put,aI,aJ,aN]
  refine dF 10 13 rfl rfl ?_
  refine dF 11 14 rfl rfl ?_
  try simp only[Act.put,aI,aJ,aN]
  refine dF 12 15 rfl rfl ?_
  refine dF 13 16 rfl rfl ?_
  try simp only[Act.put,aI,aJ,aN]
  refine dF 14 17 rfl rfl ?_
  refine dF 15 18 rfl rfl ?_
  try simp only[Act.put,aI,aJ,aN]
  refine dF 16 19 rfl rfl ?_
  refine aS 17 20 rfl rfl (v:=?_) (.inl ⟨by rfl,?_⟩) ?_
  rotate_left 1
  ·(intro w hSw;(try dsimp only at hSw);go_simp;(try with_reducible rfl))
  try simp only[Act.put,aI,aJ,aN]
  refine iQ (by kernel_rfl) (by kernel_rfl) rfl (fun K hK=>?_)
  go_simp
  refine hK.out _ _ ?_
  clear hK K hS
  go_wp2
  go_ret
  exact⟨rfl,bH.out⟩
 rw[bZ hr]at HT
 by_cases he:es=[]
 rotate_left 1
 ·rw[aZ (show ¬rZ es ks c from fun h=>he h.2.1)]
  have hn0:((es.length:Int)==0)=false:=beq_false_of_ne (by
   have:0<es.length:=List.length_pos_iff.2 he
   omega)
  clear hr h hok he
  generalize es.length=n at*
  generalize ks.len=m at*
  generalize c.length=k at*
  have hfa:aj ay w (w.alloc (.cells #[.slice a0 n c0, .slice a1 m c1, .slice a2 k c2] 34)):=aj.alloc _ _ _
  go_enter Tryz.func77,Tryz.ntmps77
  go_wp2_with fail
  refine iI (S:=fun w'=>w'.cell? ⟨w.heap.size,0,none⟩=some (.slice a0 n c0)∧w'.cell? ⟨w.heap.size,1,none⟩=some (.slice a1 m c1)∧w'.cell? ⟨w.heap.size,2,none⟩=some (.slice a2 k c2)) 18 (by kernel_rfl) (aQ.out _ (aj.drew _ _)) ?_
  intro hS
  have gy:=ah (hfa.vG)
  generalize (w.alloc (.cells #[.slice a0 n c0, .slice a1 m c1, .slice a2 k c2] 34)).drew=Y at*
  clear hfa
  refine aS 0 3 rfl rfl (v:=?_) (.inl ⟨by rfl,?_⟩) ?_
  rotate_left 1
  ·(intro w hSw;(try dsimp only at hSw);go_simp;(try with_reducible rfl))
  try simp only[Act.put,aI,aJ,aN]
  refine bM (i:=1) (by kernel_rfl) rfl (fun K hK=>?_)
  go_simp
  refine(HT.out _ gy.out).mono ?_
  rintro e Y1 ⟨rfl,hf1⟩
  have hS:=(⟨hf1.cell' hS.1 id,hf1.cell' hS.2.1 id,hf1.cell' hS.2.2 id⟩:Y1.cell? ⟨w.heap.size,0,none⟩=some (.slice a0 n c0)∧Y1.cell? ⟨w.heap.size,1,none⟩=some (.slice a1 m c1)∧Y1.cell? ⟨w.heap.size,2,none⟩=some (.slice a2 k c2))
  refine hK.out _ _ hS ?_
  clear hK K
  have bH:=ah (gy.out.au hf1);clear hf1
  try simp only[Act.put,aI,aJ,aN]
  refine aS 2 5 rfl rfl (v:=?_) (.inl ⟨by rfl,?_⟩) ?_
  rotate_left 1
  ·(intro w hSw;(try dsimp only at hSw);go_simp;(try with_reducible rfl))
  refine aS 3 6 rfl rfl (v:=?_) (.inl ⟨by rfl,?_⟩) ?_
  rotate_left 1
  ·(intro w hSw;(try dsimp only at hSw);go_simp;(try with_reducible rfl))
  try simp only[Act.put,aI,aJ,aN]
  refine aS 4 7 rfl rfl (v:=?_) (.inl ⟨by rfl,?_⟩) ?_
  rotate_left 1
  ·(intro w hSw;(try dsimp only at hSw);go_simp;(try with_reducible rfl))
  refine aS 5 8 rfl rfl (v:=?_) (.inl ⟨by rfl,?_⟩) ?_
  rotate_left 1
  ·(intro w hSw;(try dsimp only at hSw);go_simp;(try with_reducible rfl))
  try simp only[Act.put,aI,aJ,aN]
  refine aS 6 9 rfl rfl (v:=?_) (.inl ⟨by rfl,?_⟩) ?_
  rotate_left 1
  ·(intro w hSw;(try dsimp only at hSw);go_simp;(try with_reducible rfl))
  refine aS 7 10 rfl rfl (v:=?_) (.inl ⟨by rfl,?_⟩) ?_
  rotate_left 1
  ·(intro w hSw;(try dsimp only at hSw);go_simp;(try with_reducible rfl))
  try simp only[Act.put,aI,aJ,aN]
  refine aS 8 11 rfl rfl (v:=?_) (.inl ⟨by rfl,?_⟩) ?_
  rotate_left 1
  ·(intro w hSw;(try dsimp only at hSw);go_simp;(try with_reducible rfl))
  refine aS 9 12 rfl rfl (v:=?_) (.inl ⟨by rfl,?_⟩) ?_
  rotate_left 1
  ·(intro w hSw;(try dsimp only at hSw);go_simp;(try with_reducible rfl))
  try simp only[Act.put,aI,aJ,aN]
  refine dF 10 13 rfl rfl ?_
  refine dF 11 14 rfl rfl ?_
  try simp only[Act.put,aI,aJ,aN]
  refine dF 12 15 rfl rfl ?_
  refine dF 13 16 rfl rfl ?_
  try simp only[Act.put,aI,aJ,aN]
  refine dF 14 17 rfl rfl ?_
  refine dF 15 18 rfl rfl ?_
  try simp only[Act.put,aI,aJ,aN]
  refine dF 16 19 rfl rfl ?_
  refine aS 17 20 rfl rfl (v:=?_) (.inl ⟨by rfl,?_⟩) ?_
  rotate_left 1
  ·(intro w hSw;(try dsimp only at hSw);go_simp;(try with_reducible rfl))
  try simp only[Act.put,aI,aJ,aN]
  refine iQ (by kernel_rfl) (by kernel_rfl) rfl (fun K hK=>?_)
  go_simp
  refine hK.out _ _ ?_
  clear hK K hS
  go_wp2
  go_ret
  exact⟨rfl,bH.out⟩
 have HV:=ah (fun W (f:aj ay w W)=>QK W _ c (Rd.aO h.ctx f) hr.ctx (by have:=hok.len;omega))
 have xQ:=ah (fun W=>NG W (bT c 0) (bT c 1) (bT c 2) (bT c 3))
 have hfe:eU (bG (bT c 0) (bT c 1) (bT c 2) (bT c 3))=eU (bT c):=zX fun d h0 h4=>by
  rcases(by omega:d=0∨d=1∨d=2∨d=3)with rfl|rfl|rfl|rfl<;>rfl
 rw[hfe]at xQ
 clear hfe
 have jO:=ah (fun W vb (f:aj ay w W) (hb:fZ W vb (eU (bT c))) (lb:(eU (bT c)).length≤4)=>Qm W _ vb c (eU (bT c)) (Rd.aO h.ctx f) hb (by have:=hok.len;omega) (by omega))
 have HY:=ah (show tf (rZ es ks c)=decide (c=eU (bT c)) by
  by_cases hq:c=eU (bT c)
  ·rw[bZ (show rZ es ks c from⟨hr,he,hq⟩),decide_eq_true hq]
  ·rw[aZ (show ¬rZ es ks c from fun h=>hq h.2.2),decide_eq_false hq])
 generalize tf (rZ es ks c)=y at*
 generalize decide (c=eU (bT c))=z at*
 have qY:nD (fun d=>lW (bI c d))= #[.int .i64 (bT c 0), .int .i64 (bT c 1), .int .i64 (bT c 2), .int .i64 (bT c 3)]:=rfl
 rw[qY]at HV
 clear qY
 unfold sN at xQ
 generalize bT c 0=f0 at*
 generalize bT c 1=f1 at*
 generalize bT c 2=f2 at*
 generalize bT c 3=f3 at*
 generalize eU (bT c)=fl at*
 have hn0:(es.length:Int)=0:=by rw[he];rfl
 clear hr h hok he
 generalize es.length=n at*
 generalize ks.len=m at*
 generalize c.length=k at*
 have hfa:aj ay w (w.alloc (.cells #[.slice a0 n c0, .slice a1 m c1, .slice a2 k c2] 34)):=aj.alloc _ _ _
 go_enter Tryz.func77,Tryz.ntmps77
 go_wp2_with fail
 refine iI (S:=fun w'=>w'.cell? ⟨w.heap.size,0,none⟩=some (.slice a0 n c0)∧w'.cell? ⟨w.heap.size,1,none⟩=some (.slice a1 m c1)∧w'.cell? ⟨w.heap.size,2,none⟩=some (.slice a2 k c2)) 18 (by kernel_rfl) (aQ.out _ (aj.drew _ _)) ?_
 intro hS
 have gy:=ah (hfa.vG)
 generalize (w.alloc (.cells #[.slice a0 n c0, .slice a1 m c1, .slice a2 k c2] 34)).drew=Y at*
 clear hfa
 refine aS 0 3 rfl rfl (v:=?_) (.inl ⟨by rfl,?_⟩) ?_
 rotate_left 1
 ·(intro w hSw;(try dsimp only at hSw);go_simp;(try with_reducible rfl))
 try simp only[Act.put,aI,aJ,aN]
 refine bM (i:=1) (by kernel_rfl) rfl (fun K hK=>?_)
 go_simp
 refine(HT.out _ gy.out).mono ?_
 rintro e Y1 ⟨rfl,hf1⟩
 have hS:=(⟨hf1.cell' hS.1 id,hf1.cell' hS.2.1 id,hf1.cell' hS.2.2 id⟩:Y1.cell? ⟨w.heap.size,0,none⟩=some (.slice a0 n c0)∧Y1.cell? ⟨w.heap.size,1,none⟩=some (.slice a1 m c1)∧Y1.cell? ⟨w.heap.size,2,none⟩=some (.slice a2 k c2))
 refine hK.out _ _ hS ?_
 clear hK K
 have bH:=ah (gy.out.au hf1);clear hf1
 try simp only[Act.put,aI,aJ,aN]
 refine aS 2 5 rfl rfl (v:=?_) (.inl ⟨by rfl,?_⟩) ?_
 rotate_left 1
 ·(intro w hSw;(try dsimp only at hSw);go_simp;(try with_reducible rfl))
 refine aS 3 6 rfl rfl (v:=?_) (.inl ⟨by rfl,?_⟩) ?_
 rotate_left 1
 ·(intro w hSw;(try dsimp only at hSw);go_simp;(try with_reducible rfl))
 try simp only[Act.put,aI,aJ,aN]
 refine aS 4 7 rfl rfl (v:=?_) (.inl ⟨by rfl,?_⟩) ?_
 rotate_left 1
 ·(intro w hSw;(try dsimp only at hSw);go_simp;(try with_reducible rfl))
 refine aS 5 8 rfl rfl (v:=?_) (.inl ⟨by rfl,?_⟩) ?_
 rotate_left 1
 ·(intro w hSw;(try dsimp only at hSw);go_simp;(try with_reducible rfl))
 try simp only[Act.put,aI,aJ,aN]
 refine aS 6 9 rfl rfl (v:=?_) (.inl ⟨by rfl,?_⟩) ?_
 rotate_left 1
 ·(intro w hSw;(try dsimp only at hSw);go_simp;(try with_reducible rfl))
 refine aS 7 10 rfl rfl (v:=?_) (.inl ⟨by rfl,?_⟩) ?_
 rotate_left 1
 ·(intro w hSw;(try dsimp only at hSw);go_simp;(try with_reducible rfl))
 try simp only[Act.put,aI,aJ,aN]
 refine aS 8 11 rfl rfl (v:=?_) (.inl ⟨by rfl,?_⟩) ?_
 rotate_left 1
 ·(intro w hSw;(try dsimp only at hSw);go_simp;(try with_reducible rfl))
 refine aS 9 12 rfl rfl (v:=?_) (.inl ⟨by rfl,?_⟩) ?_
 rotate_left 1
 ·(intro w hSw;(try dsimp only at hSw);go_simp;(try with_reducible rfl))
 try simp only[Act.put,aI,aJ,aN]
 refine aS 10 13 rfl rfl (v:=?_) (.inl ⟨by rfl,?_⟩) ?_
 rotate_left 1
 ·(intro w hSw;(try dsimp only at hSw);go_simp;(try with_reducible rfl))
 refine aS 11 14 rfl rfl (v:=?_) (.inl ⟨by rfl,?_⟩) ?_
 rotate_left 1
 ·(intro w hSw;(try dsimp only at hSw);go_simp;(try with_reducible rfl))
 try simp only[Act.put,aI,aJ,aN]
 refine aS 12 15 rfl rfl (v:=?_) (.inl ⟨by rfl,?_⟩) ?_
 rotate_left 1
 ·(intro w hSw;(try dsimp only at hSw);go_simp;(try with_reducible rfl))
 refine aS 13 16 rfl rfl (v:=?_) (.inl ⟨by rfl,?_⟩) ?_
 rotate_left 1
 ·(intro w hSw;(try dsimp only at hSw);go_simp;(try with_reducible rfl))
 try simp only[Act.put,aI,aJ,aN]
 refine bM (i:=14) (by kernel_rfl) rfl (fun K hK=>?_)
 go_simp
 refine(HV.out _ bH.out).mono ?_
 rintro e Y2 ⟨rfl,hf2⟩
 have hS:=(⟨hf2.cell' hS.1 id,hf2.cell' hS.2.1 id,hf2.cell' hS.2.2 id⟩:Y2.cell? ⟨w.heap.size,0,none⟩=some (.slice a0 n c0)∧Y2.cell? ⟨w.heap.size,1,none⟩=some (.slice a1 m c1)∧Y2.cell? ⟨w.heap.size,2,none⟩=some (.slice a2 k c2))
 refine hK.out _ _ hS ?_
 clear hK K
 have HF2:=ah (bH.out.au hf2);clear hf2
 try simp only[Act.put,aI,aJ,aN]
 refine bM (i:=15) (by kernel_rfl) rfl (fun K hK=>?_)
 go_simp
 refine(xQ.out _).mono ?_
 rintro e Y3 ⟨v3,rfl,ho3,hl3⟩
 obtain⟨a3,c3,rfl⟩:=ho3.shape
 have hf3:=ho3.aP
 have hS:=(⟨hf3.cell' hS.1 id,hf3.cell' hS.2.1 id,hf3.cell' hS.2.2 id⟩:Y3.cell? ⟨w.heap.size,0,none⟩=some (.slice a0 n c0)∧Y3.cell? ⟨w.heap.size,1,none⟩=some (.slice a1 m c1)∧Y3.cell? ⟨w.heap.size,2,none⟩=some (.slice a2 k c2))
 refine hK.out _ _ hS ?_
 clear hK K
 have HF3:=ah (HF2.out.au hf3);clear hf3
 have dJ:=ah ho3;clear ho3
 have kV:=ah hl3;clear hl3
 try simp only[Act.put,aI,aJ,aN]
 refine bM (i:=16) (by kernel_rfl) rfl (fun K hK=>?_)
 go_simp
 refine(jO.out _ _ HF3.out dJ.out.rd kV.out).mono ?_
 rintro e Y4 ⟨rfl,hf4⟩
 have hS:=(⟨hf4.cell' hS.1 id,hf4.cell' hS.2.1 id,hf4.cell' hS.2.2 id⟩:Y4.cell? ⟨w.heap.size,0,none⟩=some (.slice a0 n c0)∧Y4.cell? ⟨w.heap.size,1,none⟩=some (.slice a1 m c1)∧Y4.cell? ⟨w.heap.size,2,none⟩=some (.slice a2 k c2))
 refine hK.out _ _ hS ?_
 clear hK K
 have iL:=ah (HF3.out.au hf4);clear hf4
 try simp only[Act.put,aI,aJ,aN]
 refine aS 17 20 rfl rfl (v:=?_) (.inl ⟨by rfl,?_⟩) ?_
 rotate_left 1
 ·(intro w hSw;(try dsimp only at hSw);go_simp;(try with_reducible rfl))
 try simp only[Act.put,aI,aJ,aN]
 refine iQ (by kernel_rfl) (by kernel_rfl) rfl (fun K hK=>?_)
 go_simp
 refine hK.out _ _ ?_
 clear hK K hS
 go_wp2
 go_ret
 exact⟨by rw[HY.out];first|rfl|simp,iL.out⟩
end Go.Proofs.YtabkpccdnkjoiaaGreat
