/- Words for the law ShardPlays: R8e, SmallT, R8c, R9, Sh20, Sh21, Lv3. -/
import Derived.Test.YtlhmbkjdfjoilaaGreatShardPlaysG0
import Derived.Test.YtlhmbkjdfjoilaaGreatShardPlaysG5
import Derived.Test.YtlhmbkjdfjoilaaGreatShardPlaysG6
import Derived.Test.YtlhmbkjdfjoilaaGreatShardPlaysG9
import Derived.Test.YtlhmbkjdfjoilaaGreatShardPlaysG10
import Derived.Test.YtlhmbkjdfjoilaaGreatShardPlaysG11
import Derived.Test.YtlhmbkjdfjoilaaGreatShardPlaysG20
import Derived.Test.YtlhmbkjdfjoilaaGreatShardPlaysG21
import Derived.Test.YtlhmbkjdfjoilaaGreatShardPlaysG22
import Derived.Test.YtlhmbkjdfjoilaaGreatShardPlaysG23
set_option linter.unusedSimpArgs false
set_option linter.unusedVariables false
set_option maxHeartbeats 32000000
set_option maxRecDepth 1000000
namespace Go.Proofs.YtlhmbkjdfjoilaaGreat
open Go.RowKit
theorem afW (Q:Nat→Prop) (es:List aQ) (ks:aT) (w:World) (ev kv:Value) (ht:bZ Q w ev kv es ks) (hsz:sizeT es ks≤100000):
 Calls Tryz.prog 24 #[.agg #[ev,kv]] w (Yg w es ks):=by
 obtain⟨ae,ce,rfl⟩:=ht.ents.rd.sl
 obtain⟨os,hkr,gY⟩:=ht.kids
 obtain⟨ak,ck,rfl⟩:=hkr.rd.sl
 have HC:=ah (fun W (f:aj aF w W)=>afV Q _ es ks W _ _ (.slice none 0 0) [] (Nat.lt_succ_self _) (ht.aS f) hsz (.inl ⟨none,rfl,rfl,rfl⟩) (by unfold sizeT at hsz;simp;omega))
 clear hkr gY ht hsz
 go_enter Tryz.func24,Tryz.ntmps24
 go_wp2_with(go_at_call 50;refine(HC.out _ (aj.alloc _ _ _)).mono ?_;rintro e w3 ⟨v3,l,rfl,ho3,hd3,wQ⟩;obtain⟨a3,c3,rfl⟩:=ho3.shape;have dw:=ah (ho3.base (aj.alloc aF w _));clear ho3;have HD3:=ah hd3;clear hd3;have Ez:=ah wQ;clear wQ)
 go_ret
 exact⟨_,l,rfl,dw.out,HD3.out,Ez.out⟩
theorem afX (Q:Nat→Prop) (es:List aQ) (ks:aT) (w:World) (ev kv:Value) (ht:bZ Q w ev kv es ks) (hsz:sizeT es ks≤2000) (hd:yM (iY es ks)):
 Calls Tryz.prog 66 #[.agg #[ev,kv]] w fun e w'=>∃v' c,e= .returned v'∧OwnAt w w' 92 3 v' c.length (dY c)∧tZ (iY es ks) c∧c.length≤8000:=by
 obtain⟨i0,hi,hz0,hz1,hz2⟩:=info_parts UL
 obtain⟨ae,ce,rfl⟩:=ht.ents.rd.sl
 obtain⟨os,hkr,gY⟩:=ht.kids
 obtain⟨ak,ck,rfl⟩:=hkr.rd.sl
 have HC:=ah (fun W (f:aj aF w W)=>afW Q es ks W _ _ (ht.aS f) (by omega))
 have hdl:=JH es ks
 have oU:=ah (show(iY es ks).length≤2000 by omega)
 have HDK:=ah hd;clear hd
 have gK:=ah (aj.alloc aF w (.cells #[.slice ae es.length ce, .slice ak ks.len ck] 28))
 clear hkr gY ht hsz hdl
 go_enter Tryz.func66,Tryz.ntmps66
 go_wp2_with(go_at_call 24;refine(HC.out _ gK.out).mono ?_;rintro e w3 ⟨v3,l,rfl,ho3,hd3,-⟩;obtain⟨a3,c3,rfl⟩:=ho3.shape;have dw:=ah (ho3.base gK.out);clear ho3;have HD3:=ah hd3;clear hd3)
 have hl:=oU.out
 rw[←HD3.out,yS]at hl
 generalize hn:l.length=n at*
 have HN:=ah hn;clear hn
 go_loopw [3,10] (fun v i ww=>∃k:Nat,k≤n∧i= .int .i64 k∧OwnAt w3 ww 98 2 v k (fD (rE (l.take k)))) (fun _ i _=>n-(intOf i).toNat)
 case atStart=>exact⟨0,Nat.zero_le _,rfl,OwnAt.nil (aj.refl _ _) _ _⟩
 case round=>
  obtain⟨k,hk,rfl,ho⟩:=hrel
  obtain⟨av,cv,rfl⟩:=ho.shape
  have HO:=ah ho;clear ho
  by_cases hlt:k<n
  ·rcases Rd.shape dw.out.rd with⟨ad,he,h0⟩|⟨b,off,cc,he,hmax⟩
   ·exfalso;omega
   ·injection he with e1 e2 e3
    subst e1 e3
    clear e2
    have hlk:k<l.length:=by rw[HN.out];exact hlt
    obtain⟨p0,p1⟩:=abn dw.out.rd k hlk
    have q0:=HO.out.aI.cell' p0 id
    have q1:=HO.out.aI.cell' p1 id
    clear p0 p1
    have hE:=abo hlk
    generalize l.getD k (.bool true,aQ.zero)=x at*
    have yR:=ah hE;clear hE
    go_wp2_with(at_builtin;refine kT _ _ [.int .i64 x.2.dc, .int .i64 x.2.n] rfl (.tmp 13) (.tmp 20) 138 rfl 98 i0 _ 2 16 Tryz.underlying138 hi hz0 hz1 hz2 (by decide) (by decide) _ _ _ HO.out 1 1 rfl (by simp[Act.eval]) rfl (by simp[Value.oneCell']) (by simp only[maxLen];omega) (by omega) ?_;intro BI lg w2 bP;have OW:=ah bP;clear bP)
    go_roundw
    case rel=>exact⟨k+1,by omega,by go_num,by rw[yR.out,oO];exact OW.out⟩
    case measure=>simp[intOf];omega
  ·obtain rfl:n=k:=by omega
   rw[List.take_of_length_le (by rw[HN.out];exact Nat.le_refl _),HD3.out]at HO
   have hnn:n=(iY es ks).length:=by rw[←HD3.out,yS];exact HN.out.symm
   have hrun:k_ wr (.slice av n cv) (iY es ks):=by show Rd wr _ (iY es ks).length _;rw[←hnn];exact HO.out.rd
   have afY:=ah hrun;clear hrun hnn
   go_wp2_with(go_at_call 88;refine(aa9 _ _ (iY es ks) afY.out HDK.out (by have:=oU.out;omega)).mono ?_;rintro e w5 ⟨v5,c5,rfl,lu,hof,-⟩;obtain⟨a5,CP,rfl⟩:=lu.shape;have lH:=ah lu;clear lu;have oq:=ah hof;clear hof)
   go_ret
   exact⟨_,c5,rfl,(lH.out.base HO.out.aI).base dw.out.aI,oq.out,by have:=oq.out.length;have:=oU.out;omega⟩
end Go.Proofs.YtlhmbkjdfjoilaaGreat
namespace Go.Proofs.YtlhmbkjdfjoilaaGreat
def qV:aT→Int→Nat→Int
 | .nil,left,_=>left
 | .cons _ es sub rest,left,d=>if left<0∨d=0 then-1 else qV rest (qV sub (left-es.length-sub.len) (d-1)) d
def sZ (es:List aQ) (ks:aT) (left:Int) (d:Nat):Int:=qV ks (left-es.length-ks.len) d
theorem LC (key:ByteArray) (es:List aQ) (sub rest:aT) (left:Int) (d:Nat):qV (.cons key es sub rest) left d=if left<0∨d=0 then-1 else qV rest (sZ es sub left (d-1)) d:=rfl
theorem afZ:∀ {ks:aT} {left:Int} {d:Nat},0≤qV ks left d→0≤left
 | .nil,_,_,h=>h
 | .cons _ es sub rest,left,d,h=>by
   rw[LC]at h
   split at h
   ·omega
   ·omega
theorem QW:∀ {ks:aT} {left:Int} {d:Nat},0≤qV ks left d→qV ks left d+dM ks=left+ks.len
 | .nil,_,_,_=>by simp[qV,dM,aT.len]
 | .cons _ es sub rest,left,d,h=>by
   rw[LC]at h⊢
   split at h
   ·omega
   ·rename_i hc
    rw[if_neg hc]
    have h1:=afZ h
    have h2:=QW h
    have h3:=QW (ks:=sub) h1
    unfold sZ at h2 h3⊢
    simp only[dM,aT.len]
    omega
theorem af0 {es:List aQ} {ks:aT} {left:Int} {d:Nat} (h:0≤sZ es ks left d):(sizeT es ks:Int)≤left:=by
 have:=QW h
 unfold sZ at h
 unfold sizeT
 omega
theorem QX:∀ {ks:aT} {left:Int} {d:Nat},ks.Ok→left≤1000→-300000000000000≤left→qV ks left d≤1000∧-300000000000000≤qV ks left d
 | .nil,_,_,_,h1,h2=>⟨h1,h2⟩
 | .cons _ es sub rest,left,d,hk,h1,h2=>by
   rw[LC]
   split
   ·omega
   ·obtain⟨_,he,hs,hok,hr⟩:=hk
    have:=he.len
    have h3:=QX (ks:=sub) (left:=left-es.length-sub.len) (d:=d-1) hok (by omega) (by omega)
    exact QX hr h3.1 h3.2
theorem af2 {ks:aT} {n:Nat} {key:ByteArray} {es:List aQ} {sub rest:aT} (h:ks.drop n= .cons key es sub rest) (left:Int) (d:Nat):
 qV (ks.drop n) left d=if left<0∨d=0 then-1 else qV (ks.drop (n+1)) (sZ es sub left (d-1)) d:=by
 rw[h,aT.yN n ks h,LC]
open Go.RowKit
theorem af4 (Q:Nat→Prop):∀(N:Nat) (es:List aQ) (ks:aT) (left:Int) (d:Nat) (w:World) (ev kv:Value),dM ks<N→bZ Q w ev kv es ks→lF es ks→left≤1000→0≤left→d≤100→
 Calls Tryz.prog 79 #[.agg #[ev,kv], .int .i64 left, .int .i64 d] w fun e w'=>e= .returned (.int .i64 (sZ es ks left d))∧aj aF w w':=by
 intro N
 induction N with
 |zero=>intros;exfalso;omega
 |succ N jH=>
  intro es ks left d w ev kv hN ht hok hl1 hl2 hd
  obtain⟨ae,ce,rfl⟩:=ht.ents.rd.sl
  obtain⟨os,hkr,gY⟩:=ht.kids
  obtain⟨ak,ck,rfl⟩:=hkr.rd.sl
  have iT:=ah hkr.rd;clear hkr ht
  have nR:=ah gY;clear gY
  have IH:=ah jH;clear jH
  have eu:=ah (aj.alloc aF w (.cells #[.slice ae es.length ce, .slice ak ks.len ck] 28))
  have box1:(w.alloc (.cells #[.slice ae es.length ce, .slice ak ks.len ck] 28)).cell? ⟨w.heap.size,1,none⟩=some (.slice ak ks.len ck):=aG (heap_alloc_new w _) 1 rfl
  have B1:=ah box1;clear box1
  have hel:=hok.es.len
  have ajv:=hok.len
  have fH:=ah hok.ks;clear hok
  have iC:=ah hN;clear hN
  have hrt:sZ es ks left d=qV ks (left-es.length-ks.len) d:=rfl
  rw[hrt]
  clear hrt
  generalize es.length=n at*
  generalize hkl:ks.len=m at*
  have HM:=ah hkl;clear hkl
  obtain⟨l0,hl0⟩:∃l0:Int,l0=left-n-m:=⟨_,rfl⟩
  have hb0:l0≤1000∧-300000000000000≤l0:=by omega
  rw[←hl0]
  go_enter Tryz.func79,Tryz.ntmps79
  go_wp2
  go_loopw [1,20] (fun lv i ww=>∃(k:Nat) (x:Int),k≤m∧i= .int .i64 k∧lv= .int .i64 x∧x≤1000∧-300000000000000≤x∧qV ks l0 d=qV (ks.drop k) x d∧aj aF (w.alloc (.cells #[.slice ae n ce, .slice ak m ck] 28)) ww) (fun _ i _=>m-(intOf i).toNat)
  case atStart=>exact⟨0,l0,Nat.zero_le _,rfl,by rw[hl0],hb0.1,hb0.2,rfl,aj.refl _ _⟩
  case round=>
   clear hl0
   obtain⟨k,x,hk,rfl,rfl,hx1,hx2,hr,hw⟩:=hrel
   have HW:=ah hw;clear hw
   have b1:=HW.out.cell' B1.out id
   by_cases hlt:k<m
   ·obtain⟨key,es',sub,rest,hdr⟩:=aT.uf (n:=k) (ks:=ks) (by rw[HM.out];exact hlt)
    rw[af2 hdr]at hr
    by_cases hx0:x<0
    ·rw[if_pos (.inl hx0)]at hr
     have HR:=ah hr;clear hr
     clear hdr
     go_wp2
     go_ret
     exact⟨Dl HR.out.symm,eu.out.aH HW.out⟩
    ·by_cases hd0:d=0
     ·subst hd0
      rw[if_pos (.inr rfl)]at hr
      have HR:=ah hr;clear hr
      clear hdr
      go_wp2
      go_ret
      exact⟨Dl HR.out.symm,eu.out.aH HW.out⟩
     ·rw[if_neg (by omega)]at hr
      rcases Rd.shape (iT.out.aS (eu.out.aH HW.out))with⟨ad,he,h0⟩|⟨b,off,cc,he,hmax⟩
      ·exfalso;have:=HM.out;omega
      ·injection he with e1 e2 e3
       subst e1 e3
       clear e2
       obtain⟨ev',kv',c0,c1,c2,hta⟩:=rD (iT.out.aS (eu.out.aH HW.out)) (nR.out.aS (eu.out.aH HW.out)) hdr
       obtain⟨gZ,g_,rfl⟩:=hta.ents.rd.sl
       obtain⟨os',ji,nC⟩:=hta.kids
       obtain⟨h_,ig,rfl⟩:=ji.rd.sl
       clear ji nC
       have hok':=fH.out.drop k
       rw[hdr]at hok'
       have hsub:lF es' sub:=⟨hok'.2.1,hok'.2.2.1,hok'.2.2.2.1⟩
       have hbd:=QX (ks:=sub) (left:=x-es'.length-sub.len) (d:=d-1) hsub.ks (by omega) (by have:=hsub.es.len;have:=hsub.len;omega)
       obtain⟨y,hy⟩:∃y,y=sZ es' sub x (d-1):=⟨_,rfl⟩
       have kE:=ah (show y≤1000∧-300000000000000≤y by rw[hy];exact hbd);clear hbd
       have hih:=IH.out es' sub x (d-1) wr _ _ (by have:=xJ k hdr;have:=iC.out;omega) hta hsub hx1 (by omega) (by omega)
       rw[show((d-1:Nat):Int)=(d:Int)-1 by omega]at hih
       rw[←hy]at hih hr
       have HIH:=ah hih;clear hih hta hok' hsub hdr hy
       have HR:=ah hr;clear hr
       generalize es'.length=n' at*
       generalize sub.len=m' at*
       have hd1:(d:Int)≤100:=by omega
       have hd2:(1:Int)≤d:=by omega
       have hdz:((d:Int)==0)=false:=by simp;omega
       go_wp2_with(go_at_call 79;refine HIH.out.mono ?_;rintro e w3 ⟨rfl,hw3⟩;have HW3:=ah hw3;clear hw3)
       go_roundw
       case rel=>exact⟨k+1,y,by omega,by go_num,rfl,kE.out.1,kE.out.2,HR.out,HW.out.aH HW3.out⟩
       case measure=>simp[intOf];omega
   ·obtain rfl:m=k:=by omega
    rw[aT.uP (by rw[HM.out];exact Nat.le_refl _)]at hr
    have HR:=ah hr;clear hr
    go_wp2
    go_ret
    exact⟨Dl HR.out.symm,eu.out.aH HW.out⟩
theorem af5 (Q:Nat→Prop) (es:List aQ) (ks:aT) (left:Int) (w:World) (ev kv:Value) (ht:bZ Q w ev kv es ks) (hok:lF es ks) (h1:left≤1000) (h2:0≤left):
 Calls Tryz.prog 55 #[.agg #[ev,kv], .int .i64 left] w fun e w'=>e= .returned (.bool (decide (0≤sZ es ks left 8)))∧aj aF w w':=by
 obtain⟨ae,ce,rfl⟩:=ht.ents.rd.sl
 obtain⟨os,hkr,gY⟩:=ht.kids
 obtain⟨ak,ck,rfl⟩:=hkr.rd.sl
 have hc:∀W,aj aF w W→Calls Tryz.prog 79 #[.agg #[.slice ae es.length ce, .slice ak ks.len ck], .int .i64 left, .int .i64 8] W fun e w'=>e= .returned (.int .i64 (sZ es ks left 8))∧aj aF W w':=fun W f=>af4 Q _ es ks left 8 W _ _ (Nat.lt_succ_self _) (ht.aS f) hok h1 h2 (by omega)
 have HC:=ah hc
 clear hkr gY ht hok hc
 generalize sZ es ks left 8=y at*
 generalize es.length=n at*
 generalize ks.len=m at*
 go_enter Tryz.func55,Tryz.ntmps55
 go_wp2_with(go_at_call 79;refine(HC.out _ (aj.alloc _ _ _)).mono ?_;rintro e w3 ⟨rfl,hw3⟩;have HW3:=ah ((aj.alloc aF _ _).aH hw3);clear hw3)
 go_ret
 exact⟨rfl,HW3.out⟩
theorem af6 (Q:Nat→Prop) (es:List aQ) (ks:aT) (w:World) (ev kv:Value) (ht:bZ Q w ev kv es ks) (hok:lF es ks):
 Calls Tryz.prog 63 #[.agg #[ev,kv]] w fun e w'=>e= .returned (.bool (bM 5 es ks))∧aj aF w w':=by
 obtain⟨ae,ce,rfl⟩:=ht.ents.rd.sl
 obtain⟨os,hkr,gY⟩:=ht.kids
 obtain⟨ak,ck,rfl⟩:=hkr.rd.sl
 have hc:∀W,aj aF w W→Calls Tryz.prog 84 #[.agg #[.slice ae es.length ce, .slice ak ks.len ck], .int .i64 5] W fun e w'=>e= .returned (.bool (bM 5 es ks))∧aj aF W w':=fun W f=>abd Q _ es ks 5 W _ _ (Nat.lt_succ_self _) (ht.aS f) hok (by omega)
 have HC:=ah hc
 clear hkr gY ht hok hc
 generalize bM 5 es ks=y at*
 generalize es.length=n at*
 generalize ks.len=m at*
 go_enter Tryz.func63,Tryz.ntmps63
 go_wp2_with(go_at_call 84;refine(HC.out _ (aj.alloc _ _ _)).mono ?_;rintro e w3 ⟨rfl,hw3⟩;have HW3:=ah ((aj.alloc aF _ _).aH hw3);clear hw3)
 go_ret
 exact⟨rfl,HW3.out⟩
open Go.RowKit
theorem af7 (Q:Nat→Prop) (es:List aQ) (ks:aT) (c:bD) (left:Int) (w:World) (ev kv cv:Value) (h:dU Q w ev kv cv es ks c) (hok:lF es ks) (hcl:c.length≤140737488351232) (h1:left≤1000) (h2:0≤left):
 Calls Tryz.prog 30 #[.agg #[ev,kv,cv], .int .i64 left] w fun e w'=>e= .returned (.bool (decide (0≤sZ es ks left 8)&&decide ((c.length:Int)≤left)))∧aj aF w w':=by
 obtain⟨a0,c0,a1,c1,a2,c2,rfl,rfl,rfl⟩:=h.shape
 have HC:=ah (fun W (f:aj aF w W)=>af5 Q es ks left W _ _ (h.tree.aS f) hok h1 h2)
 clear h hok
 generalize c.length=k at*
 cases hb:decide (0≤sZ es ks left 8)with
 |false=>
  rw[hb]at HC
  clear hb
  have bW:=ah (jc w (.slice a0 es.length c0) (.slice a1 ks.len c1) (.slice a2 k c2) 32)
  go_enter Tryz.func30,Tryz.ntmps30
  go_wp2_with(go_at_call 55;refine(HC.out _ (aj.alloc _ _ _)).mono ?_;rintro e w1 ⟨rfl,hw1⟩;obtain⟨y0,y1,y2⟩:=bW.out w1 hw1;have HW1:=ah ((aj.alloc aF _ _).aH hw1);clear hw1)
  go_ret
  exact⟨rfl,HW1.out⟩
 |true=>
  rw[hb]at HC
  clear hb
  have bW:=ah (jc w (.slice a0 es.length c0) (.slice a1 ks.len c1) (.slice a2 k c2) 32)
  go_enter Tryz.func30,Tryz.ntmps30
  go_wp2_with(go_at_call 55;refine(HC.out _ (aj.alloc _ _ _)).mono ?_;rintro e w1 ⟨rfl,hw1⟩;obtain⟨y0,y1,y2⟩:=bW.out w1 hw1;have HW1:=ah ((aj.alloc aF _ _).aH hw1);clear hw1)
  go_ret
  exact⟨rfl,HW1.out⟩
theorem af8 (Q:Nat→Prop) (es:List aQ) (ks:aT) (c:bD) (w:World) (ev kv cv:Value) (h:dU Q w ev kv cv es ks c) (hok:iD es ks c):
 Calls Tryz.prog 37 #[.agg #[ev,kv,cv]] w fun e w'=>e= .returned (.bool (tf (jA es ks c)))∧aj aF w w':=by
 obtain⟨a0,c0,a1,c1,a2,c2,rfl,rfl,rfl⟩:=h.shape
 have HT:=ah (fun W (f:aj aF w W)=>af6 Q es ks W _ _ (h.tree.aS f) hok.tree)
 have HX:=ah (fun W (f:aj aF w W)=>aa6 W _ c (Rd.aS h.ctx f) hok.fits (by have:=hok.len;omega))
 have HD:=ah (fun W (f:aj aF w W) hd=>afX Q es ks W _ _ (h.tree.aS f) hok.small hd)
 have HL:=ah (fun W (f:aj aF w W) vd d (hv:je W vd d) (rd:eP d) (ld:d.length≤8000) (rc:eP c)=>aa4 W vd _ d c hv (Rd.aS h.ctx f) rd rc (by omega) (by have:=hok.len;omega))
 have bW:=ah (jc w (.slice a0 es.length c0) (.slice a1 ks.len c1) (.slice a2 c.length c2) 32)
 clear h hok
 cases hr:bM 5 es ks with
 |false=>
  rw[hr]at HT
  rw[eH fun h=>by rw[h.tree]at hr;cases hr]
  clear hr HX HD HL
  generalize es.length=n at*
  generalize ks.len=m at*
  generalize c.length=k at*
  have hfa:aj aF w (w.alloc (.cells #[.slice a0 n c0, .slice a1 m c1, .slice a2 k c2] 32)):=aj.alloc _ _ _
  go_enter Tryz.func37,Tryz.ntmps37
  go_wp2_with fail
  refine iq (S:=fun w'=>w'.cell? ⟨w.heap.size,0,none⟩=some (.slice a0 n c0)∧w'.cell? ⟨w.heap.size,1,none⟩=some (.slice a1 m c1)∧w'.cell? ⟨w.heap.size,2,none⟩=some (.slice a2 k c2)) 16 (by kernel_rfl) (bW.out _ (aj.drew _ _)) ?_
  intro hS
  have bJ:=ah (hfa.zN)
  generalize (w.alloc (.cells #[.slice a0 n c0, .slice a1 m c1, .slice a2 k c2] 32)).drew=Y at*
  clear hfa
  refine aX 0 3 rfl rfl ?_
  refine aX 1 4 rfl rfl ?_
  try simp only[Act.put,aO,aN,aJ]
  refine bg (i:=2) (by kernel_rfl) rfl (fun K hK=>?_)
  go_simp
  refine(HT.out _ bJ.out).mono ?_
  rintro e Y1 ⟨rfl,hf1⟩
  have hS:=(⟨hf1.cell' hS.1 id,hf1.cell' hS.2.1 id,hf1.cell' hS.2.2 id⟩:Y1.cell? ⟨w.heap.size,0,none⟩=some (.slice a0 n c0)∧Y1.cell? ⟨w.heap.size,1,none⟩=some (.slice a1 m c1)∧Y1.cell? ⟨w.heap.size,2,none⟩=some (.slice a2 k c2))
  refine hK.out _ _ hS ?_
  clear hK K
  have dN:=ah hf1;clear hf1
  try simp only[Act.put,aO,aN,aJ]
  refine aX 3 6 rfl rfl ?_
  refine rF 4 7 rfl rfl ?_
  try simp only[Act.put,aO,aN,aJ]
  refine rF 5 8 rfl rfl ?_
  refine rF 6 9 rfl rfl ?_
  try simp only[Act.put,aO,aN,aJ]
  refine aX 7 10 rfl rfl ?_
  refine aX 8 11 rfl rfl ?_
  try simp only[Act.put,aO,aN,aJ]
  refine rF 9 12 rfl rfl ?_
  refine rF 10 13 rfl rfl ?_
  try simp only[Act.put,aO,aN,aJ]
  refine rF 11 14 rfl rfl ?_
  refine rF 12 15 rfl rfl ?_
  try simp only[Act.put,aO,aN,aJ]
  refine rF 13 16 rfl rfl ?_
  refine rF 14 17 rfl rfl ?_
  try simp only[Act.put,aO,aN,aJ]
  refine aX 15 18 rfl rfl ?_
  try simp only[Act.put,aO,aN,aJ]
  refine gJ (by kernel_rfl) (by kernel_rfl) rfl (fun K hK=>?_)
  go_simp
  refine hK.out _ _ ?_
  clear hK K hS
  go_wp2
  go_ret
  exact⟨rfl,bJ.out.aH dN.out⟩
 |true=>
  rw[hr]at HT
  by_cases hc:eP c
  ·rw[gu hc]at HX
   have fH:=ah (Oa hr)
   have hpost:∀d,tZ (iY es ks) d→tf (zO d c)=tf (jA es ks c):=fun d hd=>Dv ⟨fun h=>⟨hr,hc,(hd.leq fH.out).1 h⟩,fun h=>(hd.leq fH.out).2 h.dots⟩
   have BQ:=ah hpost;clear hpost
   have qM:=ah hc;clear hc hr
   generalize tf (jA es ks c)=y at*
   generalize es.length=n at*
   generalize ks.len=m at*
   generalize c.length=k at*
   have hfa:aj aF w (w.alloc (.cells #[.slice a0 n c0, .slice a1 m c1, .slice a2 k c2] 32)):=aj.alloc _ _ _
   go_enter Tryz.func37,Tryz.ntmps37
   go_wp2_with fail
   refine iq (S:=fun w'=>w'.cell? ⟨w.heap.size,0,none⟩=some (.slice a0 n c0)∧w'.cell? ⟨w.heap.size,1,none⟩=some (.slice a1 m c1)∧w'.cell? ⟨w.heap.size,2,none⟩=some (.slice a2 k c2)) 16 (by kernel_rfl) (bW.out _ (aj.drew _ _)) ?_
   intro hS
   have bJ:=ah (hfa.zN)
   generalize (w.alloc (.cells #[.slice a0 n c0, .slice a1 m c1, .slice a2 k c2] 32)).drew=Y at*
   clear hfa
   refine aX 0 3 rfl rfl ?_
   refine aX 1 4 rfl rfl ?_
   try simp only[Act.put,aO,aN,aJ]
   refine bg (i:=2) (by kernel_rfl) rfl (fun K hK=>?_)
   go_simp
   refine(HT.out _ bJ.out).mono ?_
   rintro e Y1 ⟨rfl,hf1⟩
   have hS:=(⟨hf1.cell' hS.1 id,hf1.cell' hS.2.1 id,hf1.cell' hS.2.2 id⟩:Y1.cell? ⟨w.heap.size,0,none⟩=some (.slice a0 n c0)∧Y1.cell? ⟨w.heap.size,1,none⟩=some (.slice a1 m c1)∧Y1.cell? ⟨w.heap.size,2,none⟩=some (.slice a2 k c2))
   refine hK.out _ _ hS ?_
   clear hK K
   have dN:=ah (bJ.out.aH hf1);clear hf1
   try simp only[Act.put,aO,aN,aJ]
   refine aX 3 6 rfl rfl ?_
   refine aX 4 7 rfl rfl ?_
   try simp only[Act.put,aO,aN,aJ]
   refine aX 5 8 rfl rfl ?_
   try simp only[Act.put,aO,aN,aJ]
   refine bg (i:=6) (by kernel_rfl) rfl (fun K hK=>?_)
   go_simp
   refine(HX.out _ dN.out).mono ?_
   rintro e Y2 ⟨rfl,hf2⟩
   have hS:=(⟨hf2.cell' hS.1 id,hf2.cell' hS.2.1 id,hf2.cell' hS.2.2 id⟩:Y2.cell? ⟨w.heap.size,0,none⟩=some (.slice a0 n c0)∧Y2.cell? ⟨w.heap.size,1,none⟩=some (.slice a1 m c1)∧Y2.cell? ⟨w.heap.size,2,none⟩=some (.slice a2 k c2))
   refine hK.out _ _ hS ?_
   clear hK K
   have HF2:=ah (dN.out.aH hf2);clear hf2
   try simp only[Act.put,aO,aN,aJ]
   refine aX 7 10 rfl rfl ?_
   refine aX 8 11 rfl rfl ?_
   try simp only[Act.put,aO,aN,aJ]
   refine aX 9 12 rfl rfl ?_
   refine aX 10 13 rfl rfl ?_
   try simp only[Act.put,aO,aN,aJ]
   refine aX 12 15 rfl rfl ?_
   refine aX 13 16 rfl rfl ?_
   try simp only[Act.put,aO,aN,aJ]
   refine bg (i:=11) (by kernel_rfl) rfl (fun K hK=>?_)
   go_simp
   refine(HD.out _ HF2.out fH.out).mono ?_
   rintro e Y3 ⟨v3,d,rfl,ho3,hof,hl3⟩
   obtain⟨a3,c3,rfl⟩:=ho3.shape
   have hf3:=ho3.aI
   have hS:=(⟨hf3.cell' hS.1 id,hf3.cell' hS.2.1 id,hf3.cell' hS.2.2 id⟩:Y3.cell? ⟨w.heap.size,0,none⟩=some (.slice a0 n c0)∧Y3.cell? ⟨w.heap.size,1,none⟩=some (.slice a1 m c1)∧Y3.cell? ⟨w.heap.size,2,none⟩=some (.slice a2 k c2))
   refine hK.out _ _ hS ?_
   clear hK K
   have HF3:=ah (HF2.out.aH hf3);clear hf3
   have dw:=ah ho3;clear ho3
   have oq:=ah hof;clear hof
   have ku:=ah hl3;clear hl3
   try simp only[Act.put,aO,aN,aJ]
   refine bg (i:=14) (by kernel_rfl) rfl (fun K hK=>?_)
   go_simp
   refine(HL.out _ HF3.out _ d dw.out.rd oq.out.right ku.out qM.out).mono ?_
   rintro e Y4 ⟨rfl,hf4⟩
   rw[BQ.out d oq.out]
   have hS:=(⟨hf4.cell' hS.1 id,hf4.cell' hS.2.1 id,hf4.cell' hS.2.2 id⟩:Y4.cell? ⟨w.heap.size,0,none⟩=some (.slice a0 n c0)∧Y4.cell? ⟨w.heap.size,1,none⟩=some (.slice a1 m c1)∧Y4.cell? ⟨w.heap.size,2,none⟩=some (.slice a2 k c2))
   refine hK.out _ _ hS ?_
   clear hK K
   have dR:=ah (HF3.out.aH hf4);clear hf4
   try simp only[Act.put,aO,aN,aJ]
   refine aX 15 18 rfl rfl ?_
   try simp only[Act.put,aO,aN,aJ]
   refine gJ (by kernel_rfl) (by kernel_rfl) rfl (fun K hK=>?_)
   go_simp
   refine hK.out _ _ ?_
   clear hK K hS
   go_wp2
   go_ret
   exact⟨rfl,dR.out⟩
  ·rw[eH hc]at HX
   rw[eH fun h=>hc h.ctx]
   clear hc hr HD HL
   generalize es.length=n at*
   generalize ks.len=m at*
   generalize c.length=k at*
   have hfa:aj aF w (w.alloc (.cells #[.slice a0 n c0, .slice a1 m c1, .slice a2 k c2] 32)):=aj.alloc _ _ _
   go_enter Tryz.func37,Tryz.ntmps37
   go_wp2_with fail
   refine iq (S:=fun w'=>w'.cell? ⟨w.heap.size,0,none⟩=some (.slice a0 n c0)∧w'.cell? ⟨w.heap.size,1,none⟩=some (.slice a1 m c1)∧w'.cell? ⟨w.heap.size,2,none⟩=some (.slice a2 k c2)) 16 (by kernel_rfl) (bW.out _ (aj.drew _ _)) ?_
   intro hS
   have bJ:=ah (hfa.zN)
   generalize (w.alloc (.cells #[.slice a0 n c0, .slice a1 m c1, .slice a2 k c2] 32)).drew=Y at*
   clear hfa
   refine aX 0 3 rfl rfl ?_
   refine aX 1 4 rfl rfl ?_
   try simp only[Act.put,aO,aN,aJ]
   refine bg (i:=2) (by kernel_rfl) rfl (fun K hK=>?_)
   go_simp
   refine(HT.out _ bJ.out).mono ?_
   rintro e Y1 ⟨rfl,hf1⟩
   have hS:=(⟨hf1.cell' hS.1 id,hf1.cell' hS.2.1 id,hf1.cell' hS.2.2 id⟩:Y1.cell? ⟨w.heap.size,0,none⟩=some (.slice a0 n c0)∧Y1.cell? ⟨w.heap.size,1,none⟩=some (.slice a1 m c1)∧Y1.cell? ⟨w.heap.size,2,none⟩=some (.slice a2 k c2))
   refine hK.out _ _ hS ?_
   clear hK K
   have dN:=ah (bJ.out.aH hf1);clear hf1
   try simp only[Act.put,aO,aN,aJ]
   refine aX 3 6 rfl rfl ?_
   refine aX 4 7 rfl rfl ?_
   try simp only[Act.put,aO,aN,aJ]
   refine aX 5 8 rfl rfl ?_
   try simp only[Act.put,aO,aN,aJ]
   refine bg (i:=6) (by kernel_rfl) rfl (fun K hK=>?_)
   go_simp
   refine(HX.out _ dN.out).mono ?_
   rintro e Y2 ⟨rfl,hf2⟩
   have hS:=(⟨hf2.cell' hS.1 id,hf2.cell' hS.2.1 id,hf2.cell' hS.2.2 id⟩:Y2.cell? ⟨w.heap.size,0,none⟩=some (.slice a0 n c0)∧Y2.cell? ⟨w.heap.size,1,none⟩=some (.slice a1 m c1)∧Y2.cell? ⟨w.heap.size,2,none⟩=some (.slice a2 k c2))
   refine hK.out _ _ hS ?_
   clear hK K
   have HF2:=ah (dN.out.aH hf2);clear hf2
   try simp only[Act.put,aO,aN,aJ]
   refine aX 7 10 rfl rfl ?_
   refine aX 8 11 rfl rfl ?_
   try simp only[Act.put,aO,aN,aJ]
   refine rF 9 12 rfl rfl ?_
   refine rF 10 13 rfl rfl ?_
   try simp only[Act.put,aO,aN,aJ]
   refine rF 11 14 rfl rfl ?_
   refine rF 12 15 rfl rfl ?_
   try simp only[Act.put,aO,aN,aJ]
   refine rF 13 16 rfl rfl ?_
   refine rF 14 17 rfl rfl ?_
   try simp only[Act.put,aO,aN,aJ]
   refine aX 15 18 rfl rfl ?_
   try simp only[Act.put,aO,aN,aJ]
   refine gJ (by kernel_rfl) (by kernel_rfl) rfl (fun K hK=>?_)
   go_simp
   refine hK.out _ _ ?_
   clear hK K hS
   go_wp2
   go_ret
   exact⟨rfl,HF2.out⟩
open Go.RowKit
def EW (q:aU):Bool:=decide (0≤sZ q.es q.ks 30 8)&&decide ((q.c.length:Int)≤30)
theorem af9 {q:aU} (h:EW q=true):sizeT q.es q.ks≤30∧q.c.length≤30:=by
 unfold EW at h
 rw[Bool.and_eq_true,decide_eq_true_eq,decide_eq_true_eq]at h
 have:=af0 h.1
 omega
open Go.RowKit
theorem mJ (w:World) (b:Nat) (a b' c:Value):aj (fun x=>x=b) w (((w.setCell ⟨b,0,none⟩ a).setCell ⟨b,1,none⟩ b').setCell ⟨b,2,none⟩ c):=
 ((aj.setCell (S:=fun x=>x=b) w (p:=⟨b,0,none⟩) (.inl rfl) a).trans (aj.setCell (S:=fun x=>x=b) _ (p:=⟨b,1,none⟩) (.inl rfl) b') fun _ _ h=>h).trans (aj.setCell (S:=fun x=>x=b) _ (p:=⟨b,2,none⟩) (.inl rfl) c) fun _ _ h=>h
theorem m_ {w:World} {b:Nat} {x y z:Value} {t:TypeId} (h:w.heap[b]?=some (.cells #[x,y,z] t (0,0))) (a b' c:Value):(((w.setCell ⟨b,0,none⟩ a).setCell ⟨b,1,none⟩ b').setCell ⟨b,2,none⟩ c).heap[b]?=some (.cells #[a,b',c] t (0,0)):=
 eY (eY (eY h 0 a) 1 b') 2 c
theorem Ir (Q:Nat→Prop) (w:World):eF Q w ⟨[],dD.1,dD.2, .slice none 0 0, .slice none 0 0, .slice none 0 0⟩:=
 ⟨⟨⟨.inl ⟨none,rfl,rfl,rfl⟩,fun h=>absurd rfl h⟩,[],⟨.inl ⟨none,rfl,rfl,rfl⟩,fun h=>absurd rfl h⟩,rfl⟩, .inl ⟨none,rfl,rfl,rfl⟩,fun h=>absurd rfl h⟩
open Go.RowKit
def LD (w:World) (p:Addr):Nat:=match w.cell? p with
 |some (.slice _ n _)=>n
 |_=>0
theorem LG {w:World} {p:Addr} {a:Option Addr} {n c:Nat} (h:w.cell? p=some (.slice a n c)):LD w p=n:=by unfold LD;rw[h]
theorem Yh (w:World) (b:Nat) (x0 x1 x2 x3:Value):aj (fun x=>x=b) w ((((w.setCell ⟨b,0,none⟩ x0).setCell ⟨b,1,none⟩ x1).setCell ⟨b,2,none⟩ x2).setCell ⟨b,3,none⟩ x3):=
 (mJ w b x0 x1 x2).trans (aj.setCell (S:=fun x=>x=b) _ (p:=⟨b,3,none⟩) (.inl rfl) x3) fun _ _ h=>h
theorem af_ {w:World} {b:Nat} {y0 y1 y2 y3:Value} {t:TypeId} (h:w.heap[b]?=some (.cells #[y0,y1,y2,y3] t (0,0))) (x0 x1 x2 x3:Value):((((w.setCell ⟨b,0,none⟩ x0).setCell ⟨b,1,none⟩ x1).setCell ⟨b,2,none⟩ x2).setCell ⟨b,3,none⟩ x3).heap[b]?=some (.cells #[x0,x1,x2,x3] t (0,0)):=
 eY (eY (eY (eY h 0 x0) 1 x1) 2 x2) 3 x3
theorem af':(Tryz.prog.info? 100).map (fun i=>(i.zero,i.size,i.bytes))=some (some (.agg #[.int .i64 0, .int .i64 0, .string ByteArray.empty, .int .i64 0]),4,40):=by kernel_rfl
structure wR (w W:World) (ev kv:Value) (es:List aQ):Prop where
 aI:aj aF w W
 oz:W.heap[w.heap.size]?=some (.cells #[.slice none 0 0, .slice none 0 0] 28 (0,0))
 jc:W.heap[w.heap.size+1]?=some (.cells #[ev,kv] 28 (0,0))
 row:W.ownsRow 0 100 4 ev es.length (jy es)
 new:Bo w ev
theorem wR.aS {w W W':World} {ev kv:Value} {es:List aQ} (h:wR w W ev kv es) (f:aj aF W W'):wR w W' ev kv es:=
 ⟨h.aI.aH f,f.blk h.oz id,f.blk h.jc id,f.owns h.row (fun _ _ h=>h),h.new⟩
theorem wR.add {w W W2:World} {ev ev' kv:Value} {es:List aQ} {e:aQ} (h:wR w W ev kv es) (f:aj (eG ev) W W2) (fr:lN W ev ev') (own:W2.ownsRow 0 100 4 ev' (es.length+1) (jy es++e.cells)):
 W2.heap[w.heap.size+1]?=some (.cells #[ev,kv] 28 (0,0))∧wR w (W2.setCell ⟨w.heap.size+1,0,none⟩ ev') ev' kv (es++ [e]):=by
 have nv:∀ {k o t},W.heap[k]?=some (.cells o t (0,0))→t≠100→¬eG ev k:=fun hk ht s=>by
  obtain⟨cur,h2⟩:=jB h.row s
  exact iO hk h2 ht rfl
 have g2:=f.blk h.oz (nv h.oz (by decide))
 have g3:=f.blk h.jc (nv h.jc (by decide))
 have f3:aj (fun k=>k=w.heap.size+1) W2 (W2.setCell ⟨w.heap.size+1,0,none⟩ ev'):=aj.setCell (S:=fun k=>k=w.heap.size+1) W2 (p:=⟨w.heap.size+1,0,none⟩) (.inl rfl) _
 refine⟨g3,⟨(h.aI.trans f fun k hk s=>by have:=h.new k s;omega).trans f3 fun k hk e=>by omega,f3.blk g2 (by omega),eY g3 0 ev',?_,fun k hk=>?_⟩⟩
 ·rw[List.length_append,JG]
  refine f3.owns (by simpa[jy]using own) fun k hk e=>?_
  obtain⟨cur,h2⟩:=jB own hk
  exact iO h2 g3 (by decide) e
 ·rcases fr k hk with s|s
  ·exact h.new k s
  ·have:=h.aI.size;omega
theorem wR.Yi {w W W':World} {ev kv:Value} {es:List aQ} {b:Nat} (h:wR w W ev kv es) (f:aj (fun k=>k=b) W W') (hb:w.heap.size+1<b) (he:∀i,ev.ownBlock=some i→i≠b):wR w W' ev kv es:=
 ⟨h.aI.trans f fun i hi e=>by omega,f.blk h.oz (by omega),f.blk h.jc (by omega),f.owns h.row he,h.new⟩
def vN (e:aQ):Option aQ→Bool
 |none=>true
 |some y=>ltD e y
def EX (es:List aQ) (j:Nat) (b:Option aQ) (x:Lf):Bool:=sN es j x&&vN x.2 b
theorem aga (es:List aQ) (j:Nat) (b:Option aQ) (x:Lf):Ew (sN es j) b x=if EX es j b x=true then some x.2 else b:=by
 unfold Ew EX
 cases hc:sN es j x with
 |false=>simp
 |true=>
  cases b with
  |none=>simp[vN]
  |some y=>simp[vN]
structure yu (w W:World) (ev kv:Value) (es:List aQ) (lk:List dh):Prop where
 base:wR w W ev kv es
 CU:W.ownsRow 0 52 3 kv lk.length (lk.flatMap dh.cells)
 knew:Bo w kv
 each:∀q∈lk,q.shaped∧bZ (fun k=>w.heap.size+1<k∧kv.ownBlock≠some k) W q.ev q.kv q.es q.sub
theorem yu.aS {w W W':World} {ev kv:Value} {es:List aQ} {lk:List dh} (h:yu w W ev kv es lk) (f:aj aF W W'):yu w W' ev kv es lk:=
 ⟨h.base.aS f,f.owns h.CU (fun _ _ h=>h),h.knew,fun q hq=>⟨(h.each q hq).1,(h.each q hq).2.aS f⟩⟩
theorem yu.add {w W W2:World} {ev kv kv':Value} {es:List aQ} {lk:List dh} {q:dh} (h:yu w W ev kv es lk) (f:aj (eG kv) W W2) (fr:lN W kv kv') (own:W2.ownsRow 0 52 3 kv' (lk.length+1) (lk.flatMap dh.cells++q.cells))
 (hk:q.shaped∧bZ (fun k=>w.heap.size+1<k∧kv.ownBlock≠some k) W q.ev q.kv q.es q.sub):
 W2.heap[w.heap.size+1]?=some (.cells #[ev,kv] 28 (0,0))∧yu w (W2.setCell ⟨w.heap.size+1,1,none⟩ kv') ev kv' es (lk++ [q]):=by
 have nv:∀ {k o t},W.heap[k]?=some (.cells o t (0,0))→t≠52→¬eG kv k:=fun hk ht s=>by
  obtain⟨cur,h2⟩:=jB h.CU s
  exact iO hk h2 ht rfl
 have g2:=f.blk h.base.oz (nv h.base.oz (by decide))
 have g3:=f.blk h.base.jc (nv h.base.jc (by decide))
 have f3:aj (fun k=>k=w.heap.size+1) W2 (W2.setCell ⟨w.heap.size+1,1,none⟩ kv'):=aj.setCell (S:=fun k=>k=w.heap.size+1) W2 (p:=⟨w.heap.size+1,1,none⟩) (.inl rfl) _
 have e3:=eY g3 1 kv'
 have hz:=f.size
 generalize W2.setCell ⟨w.heap.size+1,1,none⟩ kv'=W3 at*
 have ft:∀k,k<W.heap.size→(w.heap.size+1<k∧kv.ownBlock≠some k)→W3.heap[k]?=W.heap[k]?∧(w.heap.size+1<k∧kv'.ownBlock≠some k):=fun k hk hq=>
  ⟨(f3.block k (by omega) (by omega)).trans (f.block k hk hq.2),hq.1,fun e=>by
    rcases fr k e with s|s
    ·exact hq.2 s
    ·omega⟩
 refine⟨g3,⟨⟨(h.base.aI.trans f fun k hk s=>by have:=h.knew k s;omega).trans f3 fun k hk e=>by omega,f3.blk g2 (by omega),e3,?_,h.base.new⟩,?_,fun k hk=>?_,fun x hx=>?_⟩⟩
 ·refine f3.owns (f.owns h.base.row fun k hk=>?_) fun k hk e=>?_
  ·obtain⟨cur,h2⟩:=jB h.base.row hk
   exact nv h2 (by decide)
  ·obtain⟨cur,h2⟩:=jB h.base.row hk
   exact iO h2 h.base.jc (by decide) e
 ·rw[List.length_append,List.flatMap_append]
  refine f3.owns (by simpa using own) fun k hk e=>?_
  obtain⟨cur,h2⟩:=jB own hk
  exact iO h2 g3 (by decide) e
 ·rcases fr k hk with s|s
  ·exact h.knew k s
  ·have:=h.base.aI.size;omega
 ·rcases List.mem_append.1 hx with hx|hx
  ·exact⟨(h.each x hx).1,(h.each x hx).2.turn ft⟩
  ·have:x=q:=by simpa using hx
   subst this
   exact⟨hk.1,hk.2.turn ft⟩
theorem Yj:∀ {ks:aT} {key:ByteArray},key∈ks.keys→sizeT (ks.find key).1 (ks.find key).2+1≤dM ks
 | .nil,_,h=>by cases h
 | .cons k es sub rest,key,h=>by
   show sizeT (if k=key then(es,sub)else rest.find key).1 (if k=key then(es,sub)else rest.find key).2+1≤1+es.length+dM sub+dM rest
   by_cases e:k=key
   ·rw[if_pos e];unfold sizeT;simp only;omega
   ·rw[if_neg e]
    have:=Yj (ks:=rest) ((List.mem_cons.1 h).elim (fun h=>absurd h.symm e) id)
    omega
theorem Yk:∀ {ks:aT} {j:Nat} {key:ByteArray},jL ks.keys→ks.keys[j]?=some key→(fE ks)[j]?=some (key,(ks.find key).1,(ks.find key).2)
 | .nil,_,_,_,h=>by simp[aT.keys]at h
 | .cons k es sub rest,0,key,_,h=>by
   have h:k=key:=by simpa[aT.keys]using h
   subst h
   show some (k,es,sub)=some (k,(if k=k then(es,sub)else rest.find k).1,(if k=k then(es,sub)else rest.find k).2)
   rw[if_pos rfl]
 | .cons k es sub rest,j+1,key,o,h=>by
   obtain⟨o1,o2⟩:=List.pairwise_cons.1 (show(k::rest.keys).Pairwise _ from o)
   have h:rest.keys[j]?=some key:=h
   have hm:key∈rest.keys:=List.mem_of_getElem? h
   have e:k≠key:=fun e=>by subst e;have:=o1 k hm;rw[nH]at this;cases this
   have ih:=Yk o2 h
   show(fE rest)[j]?=some (key,(if k=key then(es,sub)else rest.find key).1,(if k=key then(es,sub)else rest.find key).2)
   rw[if_neg e]
   exact ih
theorem Yl {a y:ByteArray} (h:dL a y=true):(y.toList==[])=false:=by
 unfold dL at h
 cases hy:y.toList with
 |nil=>rw[hy]at h;cases a.toList<;>simp[Op.bytesLess]at h
 |cons x l=>rfl
end Go.Proofs.YtlhmbkjdfjoilaaGreat
