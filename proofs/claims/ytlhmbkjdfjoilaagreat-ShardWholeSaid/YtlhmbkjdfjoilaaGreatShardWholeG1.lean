/- Words for the law ShardWhole: Sh23, Sh24, ShWholeW. -/
import Derived.Test.YtlhmbkjdfjoilaaGreatShSetG0
import Derived.Test.YtlhmbkjdfjoilaaGreatShSetG22
import Derived.Test.YtlhmbkjdfjoilaaGreatShSetG23
set_option linter.unusedSimpArgs false
set_option linter.unusedVariables false
set_option maxHeartbeats 32000000
set_option maxRecDepth 1000000
namespace Go.Proofs.YtlhmbkjdfjoilaaGreat
open Go.RowKit
def Yk (n t i:Nat):Nat:=(i+n-t)%n
theorem YF:∀n,n<5→∀t,t<n→∀k,k<n→∀i,i<n→((Yk n t i<k+1)↔(Yk n t i<k∨i=(t+k)%n)):=by decide
theorem Zl:∀n,n<5→∀t,t<n→∀k,k<n→¬Yk n t ((t+k)%n)<k:=by decide
def Yf (n t k:Nat):List Bool:=(List.range n).map fun i=>decide (Yk n t i<k)
theorem Yq:∀n,n<5→∀t,t<n→∀k,k<n+1→nP (Yf n t k)=k:=by decide
theorem YG:∀n,n<5→∀t,t<n→∀k,k<n→(Yf n t k).getD ((t+k)%n) false=false:=by decide
theorem YH:∀n,n<5→∀t,t<n→∀k,k<n→(Yf n t k).set ((t+k)%n) true=Yf n t (k+1):=by decide
theorem YI (n t:Nat):Yf n t 0=List.replicate n false:=by
 refine List.ext_getElem (by simp[Yf]) fun i h1 h2=>?_
 simp[Yf]
def Yg (n t k:Nat) (g:dG):List dG:=(List.range n).map fun i:Nat=>if Yk n t i<k then(bF (cO n i) g.1,g.2)else eU
theorem YJ (n t:Nat) (g:dG):Yg n t 0 g=List.replicate n eU:=by
 refine List.ext_getElem (by simp[Yg]) fun i h1 h2=>?_
 simp[Yg]
theorem YK {n t k:Nat} (hn:n<5) (ht:t<n) (hk:k<n) (g:dG):(Yg n t k g).set ((t+k)%n) (bF (cO n (((t+k)%n:Nat):Int)) g.1,g.2)=Yg n t (k+1) g:=by
 refine List.ext_getElem (by simp[Yg]) fun i h1 h2=>?_
 have hi:i<n:=by simpa[Yg]using h2
 have hx:=YF n hn t ht k hk i hi
 simp only[Yg,List.getElem_set,List.getElem_map,List.getElem_range]
 by_cases e:(t+k)%n=i
 ·rw[if_pos e,if_pos (hx.2 (.inr e.symm)),e]
 ·rw[if_neg e]
  by_cases e2:Yk n t i<k
  ·rw[if_pos e2,if_pos (hx.2 (.inl e2))]
  ·rw[if_neg e2,if_neg fun h=>(hx.1 h).elim e2 fun h=>e h.symm]
theorem YL {n t:Nat} (hn:0<n) (g:dG):Yg n t n g=gX n g:=by
 refine List.ext_getElem (by simp[Yg,gX]) fun i h1 h2=>?_
 simp only[Yg,gX,List.getElem_map,List.getElem_range]
 exact if_pos (show Yk n t i<n from Nat.mod_lt _ hn)
def Yh (n t k:Nat) (g:dG):List gu:=if k=0 then []else [⟨2,Yg n t k g,Yf n t k⟩]
theorem Yo:fA 2 [2]=0:=by decide
theorem YM {n t k:Nat} (hn:n<5) (ht:t<n) (hk:k<n) (g:dG):pK n 2 ((t+k)%n) (bF (cO n (((t+k)%n:Nat):Int)) g.1,g.2) (Yh n t k g)=(0,Yh n t (k+1) g):=by
 have e1:Yh n t (k+1) g=[⟨2,Yg n t (k+1) g,Yf n t (k+1)⟩]:=by unfold Yh;rw[if_neg (by omega)]
 have hput:∀s:gu,s=⟨2,Yg n t k g,Yf n t k⟩→qJ s ((t+k)%n) (bF (cO n (((t+k)%n:Nat):Int)) g.1,g.2)=⟨2,Yg n t (k+1) g,Yf n t (k+1)⟩:=fun s hs=>by
  subst hs
  unfold qJ
  rw[←YK hn ht hk g,←YH n hn t ht k hk]
 rw[e1]
 by_cases h0:k=0
 ·have e0:Yh n t k g=[]:=by unfold Yh;rw[if_pos h0]
  rw[e0]
  unfold pK
  rw[if_pos (LH (by simp)),if_neg (by simp)]
  show(0,[qJ (newS n 2) _ _])=_
  rw[hput (newS n 2) (by unfold newS;rw[h0,YJ,YI])]
 ·have e0:Yh n t k g=[⟨2,Yg n t k g,Yf n t k⟩]:=by unfold Yh;rw[if_neg h0]
  rw[e0]
  unfold pK
  have hp:fA 2 ([(⟨2,Yg n t k g,Yf n t k⟩:gu)].map gu.id)=0:=Yo
  rw[hp,if_neg (by decide)]
  show(if(Yf n t k).getD ((t+k)%n) false=true then _ else _)=_
  rw[if_neg (by rw[YG n hn t ht k hk];decide)]
  exact congrArg (fun s=>((0:Int),[s])) (hput _ rfl)
theorem Yr {n t k:Nat} (hn:n<5) (ht:t<n) (hk:k≤n) (g:dG):AB 2 (Yh n t k g)=k:=by
 by_cases h0:k=0
 ·have e0:Yh n t k g=[]:=by unfold Yh;rw[if_pos h0]
  rw[e0,h0];decide
 ·have e0:Yh n t k g=[⟨2,Yg n t k g,Yf n t k⟩]:=by unfold Yh;rw[if_neg h0]
  rw[e0]
  unfold AB
  have hp:fA 2 ([(⟨2,Yg n t k g,Yf n t k⟩:gu)].map gu.id)=0:=Yo
  rw[hp,if_neg (by decide)]
  exact Yq n hn t ht k (by omega)
def firstT (x:Int) (n:Nat):Nat:=((x.tmod n+n)%n).toNat
theorem YN (x:Int) {n:Nat} (h:0<n):firstT x n<n:=by
 unfold firstT
 have h1:=Int.emod_nonneg (x.tmod n+n) (show(n:Int)≠0 by omega)
 have h2:=Int.emod_lt_of_pos (x.tmod n+n) (show(0:Int)<n by omega)
 omega
theorem Yt (x:Int) {n:Nat} (h:0<n):-(n:Int)<x.tmod n∧x.tmod n<n:=by
 have h1:=Int.tmod_lt_of_pos x (show(0:Int)<n by omega)
 have h2:-(n:Int)<x.tmod n:=by
  have:=Int.lt_tmod_of_pos x (show(0:Int)<n by omega)
  omega
 exact⟨h2,h1⟩
theorem YO (x:Int) {n:Nat} (h:0<n) (k:Nat):(x.tmod n+n+k)%n=(((firstT x n+k)%n:Nat):Int):=by
 have hb:=Yt x h
 generalize hf:x.tmod n=f at*
 unfold firstT
 rw[hf]
 have h1:=Int.emod_nonneg (f+n) (show(n:Int)≠0 by omega)
 rw[Int.natCast_emod,Int.natCast_add,Int.toNat_of_nonneg h1,Int.emod_add_emod]
open Go.RowKit
theorem Yl {w W:World} {L:Nat→Prop} {es:List aG} {ks:aH} {c:aV} {ev kv cv:Value} (h:eu (fun _=>True) w ev kv cv es ks c) (f:aj au w W) (hL:∀k,L k→w.heap.size≤k):fE (fun k=>¬L k) W ⟨es,ks,c,ev,kv,cv⟩:=WU (q:=⟨es,ks,c,ev,kv,cv⟩) h f hL
theorem Zm {t u:dG} (h:t=u) {Q Q':Nat→Prop} {w:World} {kv cv ev' kv' iQ:Value} (hg:Good t) (h1:fE Q w ⟨[],t.1,t.2, .slice none 0 0,kv,cv⟩) (h2:fE Q' w ⟨[],u.1,u.2,ev',kv',iQ⟩):
 Calls Tryz.prog 19 #[.agg #[.slice none 0 0,kv,cv], .agg #[ev',kv',iQ]] w fun e w'=>e= .returned (.bool true)∧aj au w w':=by
 subst h
 exact Fa Q Q' t.1 t.2 w kv cv kv' iQ hg h1 ev' h2
theorem YP (w:World) (es:List aG) (ks:aH) (c:aV) (ev kv cv:Value) (es':List aG) (ks':aH) (c':aV) (ev' kv' iQ:Value) (hA:eu (fun _=>True) w ev kv cv es ks c∧iE es ks∧g_ c∧c.length≤140737488351232) (hB:eu (fun _=>True) w ev' kv' iQ es' ks' c'∧iE es' ks'∧g_ c'∧c'.length≤140737488351232)
 (s:Int) (hs:0≤s∧s≤255) (x:Int) (hx:-9223372036854775808≤x∧x≤9223372036854775807):
 Calls Tryz.prog 4 #[.agg #[ev,kv,cv], .agg #[ev',kv',iQ], .int .u8 s, .int .i64 x] w fun e w'=>e= .returned (.bool true)∧aj (fun _=>False) w w':=by
 have HA:=ah MB
 obtain⟨a0,c0,a1,c1,a2,c2,rfl,rfl,rfl⟩:=hA.1.shape
 obtain⟨d0,k0,d1,k1,d2,k2,rfl,rfl,rfl⟩:=hB.1.shape
 obtain⟨qs,Ym⟩:∃qs:List aU,qs=[⟨es,ks,c, .slice a0 es.length c0, .slice a1 ks.len c1, .slice a2 c.length c2⟩,⟨es',ks',c', .slice d0 es'.length k0, .slice d1 ks'.len k1, .slice d2 c'.length k2⟩]:=⟨_,rfl⟩
 obtain⟨W0,hW0⟩:∃W0,W0=((w.alloc (.cells #[.slice a0 es.length c0, .slice a1 ks.len c1, .slice a2 c.length c2] 32)).alloc (.cells #[.slice d0 es'.length k0, .slice d1 ks'.len k1, .slice d2 c'.length k2] 32)).alloc (.cells #[.slice a0 es.length c0, .slice a1 ks.len c1, .slice a2 c.length c2, .slice d0 es'.length k0, .slice d1 ks'.len k1, .slice d2 c'.length k2] 32):=⟨_,rfl⟩
 obtain⟨hf0,hz0,hb0,hb1,hb2⟩:=zZ w #[.slice a0 es.length c0, .slice a1 ks.len c1, .slice a2 c.length c2] #[.slice d0 es'.length k0, .slice d1 ks'.len k1, .slice d2 c'.length k2] #[.slice a0 es.length c0, .slice a1 ks.len c1, .slice a2 c.length c2, .slice d0 es'.length k0, .slice d1 ks'.len k1, .slice d2 c'.length k2] 32 32 32
 rw[←hW0]at hf0 hz0 hb0 hb1 hb2
 have hrow:pW W0 (.slice (some ⟨w.heap.size+1+1,0,none⟩) 2 2) qs:=by
  subst Ym
  refine⟨Rd.xZ (xs:=[.slice a0 es.length c0, .slice a1 ks.len c1, .slice a2 c.length c2, .slice d0 es'.length k0, .slice d1 ks'.len k1, .slice d2 c'.length k2]) hb2 (by decide),fun q hq=>?_⟩
  rcases List.mem_cons.1 hq with rfl|hq
  ·exact⟨hA.1.aN hf0,hA.2⟩
  ·rcases List.mem_cons.1 hq with rfl|hq
   ·exact⟨hB.1.aN hf0,hB.2⟩
   ·cases hq
 have MI:qs.length=2:=by rw[Ym];rfl
 have hqa:(⟨es,ks,c, .slice a0 es.length c0, .slice a1 ks.len c1, .slice a2 c.length c2⟩:aU)∈qs:=by rw[Ym];simp
 have yj:(⟨es',ks',c', .slice d0 es'.length k0, .slice d1 ks'.len k1, .slice d2 c'.length k2⟩:aU)∈qs:=by rw[Ym];simp
 have fM:=ah hf0
 have HB0:=ah hb0
 have HB1:=ah hb1
 have HW0:=ah hW0
 have lS:=ah (fun W (f:aj au W0 W)=>WI qs W _ (hrow.aN f) (by omega))
 clear hf0 hb0 hb1 hb2 hW0 Ym hA hB
 cases hsm:qs.all ng with
 |false=>
  rw[hsm]at lS
  clear hrow hsm hqa yj MI
  generalize es.length=n0 at*
  generalize es'.length=m0 at*
  go_enter Tryz.func4,Tryz.ntmps4
  go_upto_region 2 with fail
  rw[←HW0.out]
  go_wp2_with(first
   |(go_at_call 9;have q9:=HF3.out;clear q9;refine(HA.out _).mono ?_;rintro e w2 ⟨rfl,hf2⟩;have HF2:=ah (HF3.out.aF hf2);clear hf2)
   |(go_at_call 9;refine(HA.out _).mono ?_;rintro e w1 ⟨rfl,hf1⟩;have bQ:=ah hf1;clear hf1)
   |(go_at_call 12;refine(lS.out _ bQ.out).mono ?_;rintro e w3 ⟨rfl,hf3⟩;have HF3:=ah (bQ.out.aF hf3);clear hf3))
  go_ret
  exact⟨rfl,fM.out.aF HF2.out⟩
 |true=>
  rw[hsm]at lS
  have jc:=ah (fun W (f:aj au W0 W)=>WJ qs W _ (hrow.aN f) (by omega) (MV hrow hsm))
  cases hrt:qs.all oD with
  |false=>
   rw[hrt]at jc
   clear hrow hsm hrt hqa yj MI
   generalize es.length=n0 at*
   generalize es'.length=m0 at*
   go_enter Tryz.func4,Tryz.ntmps4
   go_upto_region 2 with fail
   rw[←HW0.out]
   go_wp2_with(first
    |(go_at_call 9;have q9:=jM.out;clear q9;refine(HA.out _).mono ?_;rintro e w2 ⟨rfl,hf2⟩;have HF2:=ah (jM.out.aF hf2);clear hf2)
    |(go_at_call 9;refine(HA.out _).mono ?_;rintro e w1 ⟨rfl,hf1⟩;have bQ:=ah hf1;clear hf1)
    |(go_at_call 12;refine(lS.out _ bQ.out).mono ?_;rintro e w3 ⟨rfl,hf3⟩;have HF3:=ah (bQ.out.aF hf3);clear hf3)
    |(go_at_call 13;refine(jc.out _ HF3.out).mono ?_;rintro e w4 ⟨rfl,hf4⟩;have jM:=ah (HF3.out.aF hf4);clear hf4))
   go_ret
   exact⟨rfl,fM.out.aF HF2.out⟩
  |true=>
   rw[hrt]at jc
   have hlt:=WT hrow hsm hrt
   obtain⟨hat,hae,hag⟩:=hlt.each _ hqa
   obtain⟨hbt,hbe,hbg⟩:=hlt.each _ yj
   have hae:es=[]:=hae
   have hbe:es'=[]:=hbe
   subst hae hbe
   have hag:FD (ks,c):=hag
   have hbg:FD (ks',c'):=hbg
   have HAT:=ah hat
   have Yu:=ah hbt
   have Yi:=ah hag
   have Yj:=ah hbg
   clear hrow hsm hrt hqa yj MI hlt hat hbt hag hbg
   obtain⟨hn1,hn4⟩:=WS s
   have hnn:=WR s
   generalize oG s=n at*
   have HN:=ah (fun W=>LX n hn1 hn4 W)
   go_enter Tryz.func4,Tryz.ntmps4
   go_upto_region 2 with fail
   have hw0:=HW0.out
   simp only[List.length_nil]at hw0
   rw[←hw0]
   clear hw0
   go_upto_region 4 with(first
    |(go_at_call 9;refine(HA.out _).mono ?_;rintro e w1 ⟨rfl,hf1⟩;have bQ:=ah hf1;clear hf1)
    |(go_at_call 12;refine(lS.out _ bQ.out).mono ?_;rintro e w3 ⟨rfl,hf3⟩;have HF3:=ah (bQ.out.aF hf3);clear hf3)
    |(go_at_call 13;refine(jc.out _ HF3.out).mono ?_;rintro e w4 ⟨rfl,hf4⟩;have jM:=ah (HF3.out.aF hf4);clear hf4))
   go_cut [10] (fun v wx=>v= .int .i64 (n:Int)∧wx=w4)
   case first=>
    go_wp2
    go_meet
    case rel=>exact⟨by rw[hnn],rfl⟩
   case rest=>
    obtain⟨rfl,rfl⟩:=hcut
    obtain⟨w4,rfl⟩:∃w4,w4=wc:=⟨_,rfl⟩
    clear hnn
    have hnz:¬((n:Int)=0):=by omega
    have hns:((n:Int)==0)=false:=by simpa using hnz
    have hab:iV eU (ks,c)=(ks,c):=Uo Yi.out.good
    have HAB:=ah hab;clear hab
    have hsa:=Yi.out.size
    have hsb:=Yj.out.size
    have hla:=Yi.out.len
    have hlb:=Yj.out.len
    have hsa:dF ks≤30:=hsa
    have hsb:dF ks'≤30:=hsb
    have hla:c.length≤30:=hla
    have hlb:c'.length≤30:=hlb
    have Zn:kW eU=0:=rfl
    have h0l:eU.2.length=0:=rfl
    go_upto_region 8 with(first
     |(go_at_call 14;refine(HN.out _).mono ?_;rintro e w5 ⟨rfl,hst,hv,hf5⟩;have HST:=ah hst;have HV:=ah hv;have Fb:=ah (jM.out.aF hf5);have hb5:=(jM.out.aF hf5).blk HB0.out id;have y0:=aI hb5 0 rfl;have y1:=aI hb5 1 rfl;have y2:=aI hb5 2 rfl;have hl5:=lt_of_block hb5;clear hst hv hf5 hb5)
     |(go_at_call 15;refine(LW HST.out 1 eU EG HV.out ks c _ _ _ (Yl HAT.out Fb.out (fun k hk=>by have hk:k=w4.heap.size+1:=hk;have:=jM.out.size;omega)) Yi.out.good Md (by decide) (by omega) (by omega)).mono ?_;rintro e w6 ⟨rfl,L6,Zo,sv6,Zp,YQ,Yn,Yv,Yw,hv6⟩;rw[HAB.out]at hv6;have YR:=ah Yn;have Yx:=ah Yv;have YS:=ah (show YQ.map aW.con=[]from Yw);have YT:=ah hv6;have HF6:=ah (Fb.out.trans Yn.aJ fun i hi e=>by have e:i=w4.heap.size+1:=e;have:=jM.out.size;omega);have YU:=ah (fun i (hi:L6 i)=>(show W0.heap.size≤i from(Yn.own i hi).elim (fun g=>by have g:i=w4.heap.size+1:=g;have:=jM.out.size;omega) (fun g=>by have:=Fb.out.size;omega)));clear y0 y1 y2 hl5 Yn Yv Yw hv6))
    obtain⟨b,hb⟩:∃b,b=w4.heap.size+1:=⟨_,rfl⟩
    rw[←hb]at Yx⊢
    clear hb YR HST HV
    have hfb:=Yt x (show 0<n by omega)
    have hta:=YO x (show 0<n by omega)
    have htl:=YN x (show 0<n by omega)
    generalize firstT x n=t0 at*
    obtain⟨f,hf⟩:∃f,f=x.tmod (n:Int):=⟨_,rfl⟩
    rw[←hf]at hfb hta
    have YV:=ah hta;clear hta
    go_cut [13] (fun v wx=>v= .int .i64 f∧wx=w6)
    case first=>
     go_wp2
     go_meet
     case rel=>exact⟨by rw[hf],rfl⟩
    case rest=>
     obtain⟨rfl,rfl⟩:=hcut
     obtain⟨w6,rfl⟩:∃w6,w6=wc:=⟨_,rfl⟩
     clear hf
     go_wp2
     go_loopw [57] (fun iv W=>∃(k:Nat) (L1:Nat→Prop) (vb:Nat) (sv:Value) (vs:List aU) (rs:List aW),k≤n∧iv= .int .i64 k∧aj au W0 W∧(∀i,L1 i→W0.heap.size≤i)∧cZ L1 W b n vb sv vs rs∧vs.map aU.g=gX n (ks,c)∧rs.map aW.con=Yh n t0 k (ks',c')) (fun iv _=>n-(intOf iv).toNat)
     case atStart=>exact⟨0,_,_,_,_,_,Nat.zero_le _,rfl,HF6.out,YU.out,Yx.out,YT.out,YS.out⟩
     case round=>
      obtain⟨k,L1,vb,sv,vs,rs,hk,rfl,hf,hL1,hst,hv,hcon⟩:=hrel
      have HF:=ah hf
      have jK:=ah hL1
      have JI:=ah hst
      have WX:=ah hv
      have Xi:=ah hcon
      clear hf hL1 hst hv hcon
      by_cases hlt:k<n
      ·have hkn:(k:Int)<(n:Int):=by omega
       have hat:=YV.out k
       obtain⟨j,hj⟩:∃j,j=(t0+k)%n:=⟨_,rfl⟩
       have hjn:j<n:=by rw[hj];exact Nat.mod_lt _ (by omega)
       rw[←hj]at hat
       go_upto_region 12 with fail
       go_cut [15] (fun v wx=>v= .int .i64 (j:Int)∧wx=wr)
       case first=>
        have hpos:0≤f+(n:Int)+(k:Int):=by omega
        go_wp2
        go_meet
        case rel=>exact⟨by first|(rw[←hat];rfl)|(rw[←hat,Int.tmod_eq_emod_of_nonneg hpos])|(simp[←hat,Int.tmod_eq_emod_of_nonneg hpos]),rfl⟩
       case rest=>
        obtain⟨rfl,rfl⟩:=hcut
        obtain⟨w7,rfl⟩:∃w7,w7=wc:=⟨_,rfl⟩
        have YW:=ah hj;clear hj hat
        have MX:=Yl Yu.out HF.out jK.out
        have nV:=ah (show Calls Tryz.prog 16 #[.pointer (some ⟨b,0,none⟩), .agg #[.slice d0 0 k0, .slice d1 ks'.len k1, .slice d2 c'.length k2], .int .i64 j] w7 fun e w'=>∃kv cv,e= .returned (.tuple #[.agg #[.slice none 0 0,kv,cv], .int .i64 0])∧bC (fun b=>w7.heap.size≤b) w' (.slice none 0 0) kv [] (bF (cO n j) ks')∧OwnAt w7 w' 92 3 cv c'.length (bU c')from En _ ks' c' w7 _ _ _ MX.at_ Yj.out.good.ok Yj.out.good.right b n n (some ⟨vb,0,none⟩) j hjn JI.out.kX)
        have YX:=ah (Ap (cO n j) Yj.out.good)
        have YZ:=ah (EK (cO n j) ks')
        have hws:=YM (n:=n) (t:=t0) (k:=k) (by omega) htl hlt (ks',c')
        rw[←YW.out,←Xi.out]at hws
        have Y_:=ah hws
        have Za:=ah (show AB 2 (rs.map aW.con)<n by rw[Xi.out,Yr (by omega) htl (by omega)];exact hlt)
        have Zb:=ah (Yr (n:=n) (t:=t0) (k:=k+1) (by omega) htl (by omega) (ks',c'))
        clear MX hws
        generalize bF (cO n j) ks'=kf at*
        have hb7:=HF.out.blk HB1.out id
        have y0:=aI hb7 0 rfl
        have y1:=aI hb7 1 rfl
        have y2:=aI hb7 2 rfl
        have XL:=lt_of_block hb7
        clear hb7
        go_upto_region 14 with(go_at_call 16;refine nV.out.mono ?_;rintro e w8 ⟨gU,jL,rfl,hta,ho3⟩;clear y0 y1 y2 XL;have iF:=ah hta;have bJ:=ah ho3;obtain⟨nN,iq,-⟩:=hta.kids;obtain⟨a5,c5,rfl⟩:=iq.rd.sl;obtain⟨a6,c6,rfl⟩:=ho3.shape;clear iq hta ho3)
        have fa:=aj.alloc au w8 (.cells #[.slice none 0 0, .slice a5 kf.len c5, .slice a6 c'.length c6] 32)
        have ba:=heap_alloc_new w8 (.cells #[.slice none 0 0, .slice a5 kf.len c5, .slice a6 c'.length c6] 32)
        have hba:=fa.blk ((HF.out.aF bJ.out.aJ).blk HB0.out id) id
        have Zc:=ah (show fE (fun k=>¬L1 k) (World.drew (w8.alloc (.cells #[.slice none 0 0, .slice a5 kf.len c5, .slice a6 c'.length c6] 32))) ⟨[],kf,c', .slice none 0 0, .slice a5 kf.len c5, .slice a6 c'.length c6⟩from
         fE.aN ⟨iF.out.turn (Q':=fun k=>¬L1 k) fun k hk hQ=>⟨rfl,fun hl=>by have:=JI.out.Ls k hl;omega⟩,bJ.out.rd,fun _ k hk hl=>by have:=bJ.out.new k hk;have:=JI.out.Ls k hl;omega⟩ (fa.aF (aj.drew au _)))
        have dM:=ah ((bJ.out.aJ.aF fa).aF (aj.drew au _))
        have XI:=ah (⟨fun hl=>by have:=jK.out _ hl;omega,fun hl=>by have:=JI.out.Ls _ hl;have:=bJ.out.aJ.size;omega⟩:¬L1 w.heap.size∧¬L1 w8.heap.size)
        have iJ:=ah (fun N Y Y' (f:aj N Y Y') (hn:¬N w.heap.size∧¬N w8.heap.size) (hS:Y.cell? ⟨w.heap.size,0,none⟩=some (.slice a0 0 c0)∧Y.cell? ⟨w.heap.size,1,none⟩=some (.slice a1 ks.len c1)∧Y.cell? ⟨w.heap.size,2,none⟩=some (.slice a2 c.length c2)∧Y.cell? ⟨w8.heap.size,0,none⟩=some (.slice none 0 0)∧Y.cell? ⟨w8.heap.size,1,none⟩=some (.slice a5 kf.len c5)∧Y.cell? ⟨w8.heap.size,2,none⟩=some (.slice a6 c'.length c6))=>
         (⟨f.cell' hS.1 hn.1,f.cell' hS.2.1 hn.1,f.cell' hS.2.2.1 hn.1,f.cell' hS.2.2.2.1 hn.2,f.cell' hS.2.2.2.2.1 hn.2,f.cell' hS.2.2.2.2.2 hn.2⟩:Y'.cell? ⟨w.heap.size,0,none⟩=some (.slice a0 0 c0)∧Y'.cell? ⟨w.heap.size,1,none⟩=some (.slice a1 ks.len c1)∧Y'.cell? ⟨w.heap.size,2,none⟩=some (.slice a2 c.length c2)∧Y'.cell? ⟨w8.heap.size,0,none⟩=some (.slice none 0 0)∧Y'.cell? ⟨w8.heap.size,1,none⟩=some (.slice a5 kf.len c5)∧Y'.cell? ⟨w8.heap.size,2,none⟩=some (.slice a6 c'.length c6)))
        have lN:=iJ.out au _ _ (aj.drew au _) ⟨id,id⟩ ⟨aI hba 0 rfl,aI hba 1 rfl,aI hba 2 rfl,aI ba 0 rfl,aI ba 1 rfl,aI ba 2 rfl⟩
        clear fa ba hba
        have hwk:IntKind.i64.wrap ((k:Int)+1)=(k:Int)+1:=by rw[IntKind.wrap_i64];omega
        refine iY (S:=fun Y=>Y.cell? ⟨w.heap.size,0,none⟩=some (.slice a0 0 c0)∧Y.cell? ⟨w.heap.size,1,none⟩=some (.slice a1 ks.len c1)∧Y.cell? ⟨w.heap.size,2,none⟩=some (.slice a2 c.length c2)∧Y.cell? ⟨w8.heap.size,0,none⟩=some (.slice none 0 0)∧Y.cell? ⟨w8.heap.size,1,none⟩=some (.slice a5 kf.len c5)∧Y.cell? ⟨w8.heap.size,2,none⟩=some (.slice a6 c'.length c6)) 28 (by kernel_rfl) lN ?_
        clear lN
        intro hS
        generalize World.drew _=Y0 at*
        refine dZ 0 74 (v:=?_) rfl rfl (by kernel_rfl) (by rfl) (by kernel_rfl) (by kernel_rfl) (fun _ _ _ h=>h) (Or.inl ⟨by rfl,?_⟩) (by assumption) ?_
        rotate_left 1
        ·(intro w hSw;(try dsimp only at hSw);go_simp;(try with_reducible rfl))
        try simp only[Act.put,aP,aQ,aO]
        refine dZ 1 75 (v:=?_) rfl rfl (by kernel_rfl) (by rfl) (by kernel_rfl) (by kernel_rfl) (fun _ _ _ h=>h) (Or.inl ⟨by rfl,?_⟩) (by assumption) ?_
        rotate_left 1
        ·(intro w hSw;(try dsimp only at hSw);go_simp;(try with_reducible rfl))
        try simp only[Act.put,aP,aQ,aO]
        refine dZ 2 76 (v:=?_) rfl rfl (by kernel_rfl) (by rfl) (by kernel_rfl) (by kernel_rfl) (fun _ _ _ h=>h) (Or.inl ⟨by rfl,?_⟩) (by assumption) ?_
        rotate_left 1
        ·(intro w hSw;(try dsimp only at hSw);go_simp;(try with_reducible rfl))
        try simp only[Act.put,aP,aQ,aO]
        refine dZ 3 77 (v:=?_) rfl rfl (by kernel_rfl) (by rfl) (by kernel_rfl) (by kernel_rfl) (fun _ _ _ h=>h) (Or.inl ⟨by rfl,?_⟩) (by assumption) ?_
        rotate_left 1
        ·(intro w hSw;(try dsimp only at hSw);go_simp;(try with_reducible rfl))
        try simp only[Act.put,aP,aQ,aO]
        refine bP (i:=4) (by kernel_rfl) rfl (fun K hK=>?_)
        go_simp
        refine(VE (JI.out.aN dM.out) 2 Za.out).mono ?_
        rintro e Y1 ⟨rfl,hf1⟩
        have Ey:=ah (dM.out.aF hf1)
        have Zd:=ah (Zc.out.aN hf1)
        have hS1:=iJ.out au _ _ hf1 ⟨id,id⟩ hS
        refine hK.out _ _ hS1 ?_
        clear hK K hS hf1 dM
        have hS:=hS1
        clear hS1
        try simp only[Act.put,aP,aQ,aO]
        refine dZ 5 79 (v:=?_) rfl rfl (by kernel_rfl) (by rfl) (by kernel_rfl) (by kernel_rfl) (fun _ _ _ h=>h) (Or.inl ⟨by rfl,?_⟩) (by assumption) ?_
        rotate_left 1
        ·(intro w hSw;(try dsimp only at hSw);go_simp;(try with_reducible rfl))
        try simp only[Act.put,aP,aQ,aO]
        refine dZ 6 80 (v:=?_) rfl rfl (by kernel_rfl) (by rfl) (by kernel_rfl) (by kernel_rfl) (fun _ _ _ h=>h) (Or.inl ⟨by rfl,?_⟩) (by assumption) ?_
        rotate_left 1
        ·(intro w hSw;(try dsimp only at hSw);go_simp;(try with_reducible rfl))
        try simp only[Act.put,aP,aQ,aO]
        refine dZ 7 81 (v:=?_) rfl rfl (by kernel_rfl) (by rfl) (by kernel_rfl) (by kernel_rfl) (fun _ _ _ h=>h) (Or.inl ⟨by rfl,?_⟩) (by assumption) ?_
        rotate_left 1
        ·(intro w hSw;(try dsimp only at hSw);go_simp;(try with_reducible rfl))
        try simp only[Act.put,aP,aQ,aO]
        refine dZ 8 82 (v:=?_) rfl rfl (by kernel_rfl) (by rfl) (by kernel_rfl) (by kernel_rfl) (fun _ _ _ h=>h) (Or.inl ⟨by rfl,?_⟩) (by assumption) ?_
        rotate_left 1
        ·(intro w hSw;(try dsimp only at hSw);go_simp;(try with_reducible rfl))
        try simp only[Act.put,aP,aQ,aO]
        refine dZ 9 83 (v:=?_) rfl rfl (by kernel_rfl) (by rfl) (by kernel_rfl) (by kernel_rfl) (fun _ _ _ h=>h) (Or.inl ⟨by rfl,?_⟩) (by assumption) ?_
        rotate_left 1
        ·(intro w hSw;(try dsimp only at hSw);go_simp;(try with_reducible rfl))
        try simp only[Act.put,aP,aQ,aO]
        refine dZ 10 84 (v:=?_) rfl rfl (by kernel_rfl) (by rfl) (by kernel_rfl) (by kernel_rfl) (fun _ _ _ h=>h) (Or.inl ⟨by rfl,?_⟩) (by assumption) ?_
        rotate_left 1
        ·(intro w hSw;(try dsimp only at hSw);go_simp;(try with_reducible rfl))
        try simp only[Act.put,aP,aQ,aO]
        refine bP (i:=11) (by kernel_rfl) rfl (fun K hK=>?_)
        go_simp
        have hsg:=Lm (JI.out.aN Ey.out) 2 j hjn _ _ _ _ _ Zd.out YX.out YZ.out
        rw[Y_.out]at hsg
        refine hsg.mono ?_
        clear hsg
        rintro e Y2 ⟨rfl,L2,Xb,Xd,ht2,hst2,Na⟩
        have Ze:=ah Ey.out.size
        have HT2:=ah ht2
        have HS2:=ah hst2
        have HC2:=ah Na
        have HF2:=ah ((HF.out.aF Ey.out).trans ht2.aJ fun i hi e=>by have:=jK.out i e;omega)
        have hS1:=iJ.out L1 _ _ ht2.aJ XI.out hS
        refine hK.out _ _ hS1 ?_
        clear hK K hS ht2 hst2 Na Ey
        have hS:=hS1
        clear hS1
        try simp only[Act.put,aP,aQ,aO]
        refine dZ 12 86 (v:=?_) rfl rfl (by kernel_rfl) (by rfl) (by kernel_rfl) (by kernel_rfl) (fun _ _ _ h=>h) (Or.inl ⟨by rfl,?_⟩) (by assumption) ?_
        rotate_left 1
        ·(intro w hSw;(try dsimp only at hSw);go_simp;(try with_reducible rfl))
        try simp only[Act.put,aP,aQ,aO]
        refine dZ 13 87 (v:=?_) rfl rfl (by kernel_rfl) (by rfl) (by kernel_rfl) (by kernel_rfl) (fun _ _ _ h=>h) (Or.inl ⟨by rfl,?_⟩) (by assumption) ?_
        rotate_left 1
        ·(intro w hSw;(try dsimp only at hSw);go_simp;(try with_reducible rfl))
        try simp only[Act.put,aP,aQ,aO]
        refine dZ 14 88 (v:=?_) rfl rfl (by kernel_rfl) (by rfl) (by kernel_rfl) (by kernel_rfl) (fun _ _ _ h=>h) (Or.inl ⟨by rfl,?_⟩) (by assumption) ?_
        rotate_left 1
        ·(intro w hSw;(try dsimp only at hSw);go_simp;(try with_reducible rfl))
        try simp only[Act.put,aP,aQ,aO]
        refine dZ 15 89 (v:=?_) rfl rfl (by kernel_rfl) (by rfl) (by kernel_rfl) (by kernel_rfl) (fun _ _ _ h=>h) (Or.inl ⟨by rfl,?_⟩) (by assumption) ?_
        rotate_left 1
        ·(intro w hSw;(try dsimp only at hSw);go_simp;(try with_reducible rfl))
        try simp only[Act.put,aP,aQ,aO]
        refine dZ 17 91 (v:=?_) rfl rfl (by kernel_rfl) (by rfl) (by kernel_rfl) (by kernel_rfl) (fun _ _ _ h=>h) (Or.inl ⟨by rfl,?_⟩) (by assumption) ?_
        rotate_left 1
        ·(intro w hSw;(try dsimp only at hSw);go_simp;(try with_reducible rfl))
        try simp only[Act.put,aP,aQ,aO]
        refine bP (i:=16) (by kernel_rfl) rfl (fun K hK=>?_)
        go_simp
        refine(LV HS2.out (ks,c) (Ak Yi.out.good) WX.out).mono ?_
        rintro e Y3 ⟨Mc,XU,rfl,hc1,hf3⟩
        obtain⟨a7,e7,a8,e8,rfl,rfl⟩:=(show ∃a1 c1 a2 c2,Mc= .slice a1 ks.len c1∧XU= .slice a2 c.length c2 from AP hc1)
        have sN:=ah hc1
        have HF3:=ah hf3
        have hS1:=iJ.out au _ _ hf3 ⟨id,id⟩ hS
        refine hK.out _ _ hS1 ?_
        clear hK K hS hc1 hf3
        have hS:=hS1
        clear hS1
        try simp only[Act.put,aP,aQ,aO]
        refine bP (i:=18) (by kernel_rfl) rfl (fun K hK=>?_)
        go_simp
        refine(Fa _ _ ks c _ _ _ _ _ Yi.out.good sN.out _ (Yl (L:=fun _=>False) HAT.out (HF2.out.aF HF3.out) (fun _ h=>h.elim))).mono ?_
        rintro e Y4 ⟨rfl,hf4⟩
        have jM:=ah (HF3.out.aF hf4)
        have hS1:=iJ.out au _ _ hf4 ⟨id,id⟩ hS
        refine hK.out _ _ hS1 ?_
        clear hK K hS hf4 sN
        have hS:=hS1
        clear hS1
        try simp only[Act.put,aP,aQ,aO]
        refine dZ 19 93 (v:=?_) rfl rfl (by kernel_rfl) (by rfl) (by kernel_rfl) (by kernel_rfl) (fun _ _ _ h=>h) (Or.inl ⟨by rfl,?_⟩) (by assumption) ?_
        rotate_left 1
        ·(intro w hSw;(try dsimp only at hSw);go_simp;(try with_reducible rfl))
        try simp only[Act.put,aP,aQ,aO]
        refine dZ 20 94 (v:=?_) rfl rfl (by kernel_rfl) (by rfl) (by kernel_rfl) (by kernel_rfl) (fun _ _ _ h=>h) (Or.inl ⟨by rfl,?_⟩) (by assumption) ?_
        rotate_left 1
        ·(intro w hSw;(try dsimp only at hSw);go_simp;(try with_reducible rfl))
        try simp only[Act.put,aP,aQ,aO]
        refine dZ 21 95 (v:=?_) rfl rfl (by kernel_rfl) (by rfl) (by kernel_rfl) (by kernel_rfl) (fun _ _ _ h=>h) (Or.inl ⟨by rfl,?_⟩) (by assumption) ?_
        rotate_left 1
        ·(intro w hSw;(try dsimp only at hSw);go_simp;(try with_reducible rfl))
        try simp only[Act.put,aP,aQ,aO]
        refine dZ 22 96 (v:=?_) rfl rfl (by kernel_rfl) (by rfl) (by kernel_rfl) (by kernel_rfl) (fun _ _ _ h=>h) (Or.inl ⟨by rfl,?_⟩) (by assumption) ?_
        rotate_left 1
        ·(intro w hSw;(try dsimp only at hSw);go_simp;(try with_reducible rfl))
        try simp only[Act.put,aP,aQ,aO]
        refine dZ 24 98 (v:=?_) rfl rfl (by kernel_rfl) (by rfl) (by kernel_rfl) (by kernel_rfl) (fun _ _ _ h=>h) (Or.inl ⟨by rfl,?_⟩) (by assumption) ?_
        rotate_left 1
        ·(intro w hSw;(try dsimp only at hSw);go_simp;(try with_reducible rfl))
        try simp only[Act.put,aP,aQ,aO]
        refine dZ 25 99 (v:=?_) rfl rfl (by kernel_rfl) (by rfl) (by kernel_rfl) (by kernel_rfl) (fun _ _ _ h=>h) (Or.inl ⟨by rfl,?_⟩) (by assumption) ?_
        rotate_left 1
        ·(intro w hSw;(try dsimp only at hSw);go_simp;(try with_reducible rfl))
        try simp only[Act.put,aP,aQ,aO]
        refine bP (i:=23) (by kernel_rfl) rfl (fun K hK=>?_)
        go_simp
        have hmn:=LJ (HS2.out.aN jM.out) 2
        rw[HC2.out,Zb.out,show((k+1:Nat):Int)=(k:Int)+1 from rfl]at hmn
        refine hmn.mono ?_
        clear hmn
        rintro e Y5 ⟨rfl,hf5⟩
        have Fb:=ah (jM.out.aF hf5)
        have hS1:=iJ.out au _ _ hf5 ⟨id,id⟩ hS
        refine hK.out _ _ hS1 ?_
        clear hK K hS hf5
        have hS:=hS1
        clear hS1
        try simp only[Act.put,aP,aQ,aO]
        refine dZ 26 100 (v:=?_) rfl rfl (by kernel_rfl) (by rfl) (by kernel_rfl) (by kernel_rfl) (fun _ _ _ h=>h) (Or.inl ⟨by rfl,?_⟩) (by assumption) ?_
        rotate_left 1
        ·(intro w hSw;(try dsimp only at hSw);go_simp;(try with_reducible rfl))
        try simp only[Act.put,aP,aQ,aO]
        refine bP (i:=27) (by kernel_rfl) rfl (fun K hK=>?_)
        go_simp
        refine hK.out _ _ hS ?_
        clear hK K
        refine EP (by kernel_rfl) ?_
        go_wp2
        go_roundw
        case rel=>
         refine⟨k+1,L2,vb,Xb,vs,Xd,by omega,by go_num,HF2.out.aF Fb.out,fun i hi=>?_,HS2.out.aN Fb.out,WX.out,HC2.out⟩
         rcases HT2.out.own i hi with g|g
         ·exact jK.out i g
         ·have:=HF.out.size;have:=Ze.out;omega
        case measure=>simp[intOf];omega
      ·obtain rfl:k=n:=by omega
       have Yy:=Yl HAT.out HF.out jK.out
       have Yz:=Yl Yu.out HF.out jK.out
       have hb6:=HF.out.blk HB0.out id
       have hb7:=HF.out.blk HB1.out id
       have x0:=aI hb6 0 rfl
       have x1:=aI hb6 1 rfl
       have x2:=aI hb6 2 rfl
       have y0:=aI hb7 0 rfl
       have y1:=aI hb7 1 rfl
       have y2:=aI hb7 2 rfl
       have Zf:=lt_of_block hb6
       have XL:=lt_of_block hb7
       have Va:=ah (KC Yi.out.good Yj.out.good (show dF ks+dF ks'≤2000 by omega) (show c.length+c'.length≤2000 by omega))
       have pG:=ah (show Calls Tryz.prog 22 #[.agg #[.slice a0 0 c0, .slice a1 ks.len c1, .slice a2 c.length c2], .agg #[.slice d0 0 k0, .slice d1 ks'.len k1, .slice d2 c'.length k2]] wr fun e w'=>∃ev kv cv,e= .returned (.tuple #[.agg #[ev,kv,cv], .int .i64 0])∧bC (fun b=>wr.heap.size≤b) w' ev kv [] (iV (ks,c) (ks',c')).1∧OwnAt wr w' 92 3 cv (iV (ks,c) (ks',c')).2.length (bU (iV (ks,c) (ks',c')).2)from by
        refine(JZ _ _ [] ks c [] ks' c' wr _ _ _ _ _ _ Yy.at_ Yz.at_ Yi.out.good.ok Yj.out.good.ok Yi.out.good.right Yj.out.good.right).mono fun e w' hp=>?_
        obtain⟨ev,kv,cv,u,he,h1,h2,h3⟩:=hp
        rw[ER]at h1
        rw[←xX h3]at h2
        exact⟨ev,kv,cv,he,h1,h2⟩)
       clear hb6 hb7 Yy Yz
       generalize hJ:iV (ks,c) (ks',c')=J at*
       have HJ:=ah hJ;clear hJ
       go_upto_region 18 with(go_at_call 22;refine pG.out.mono ?_;rintro e w8 ⟨mQ,gU,jL,rfl,hta,ho3⟩;clear x0 x1 x2 y0 y1 y2 Zf XL;obtain⟨a3,c3,rfl⟩:=hta.ents.rd.sl;have iF:=ah hta;have bJ:=ah ho3;obtain⟨nN,iq,-⟩:=hta.kids;obtain⟨a5,c5,rfl⟩:=iq.rd.sl;obtain⟨a6,c6,rfl⟩:=ho3.shape;clear iq hta ho3)
       have hwn:Yh k t0 k (ks',c')=[⟨2,gX k (ks',c'),Yf k t0 k⟩]:=by unfold Yh;rw[if_neg (by omega),YL (by omega)]
       have hcon:=Xi.out
       rw[hwn]at hcon
       have hlr:rs.length=1:=by have:=congrArg List.length hcon;simpa using this
       have hr0:(rs.getD 0 default).con=⟨2,gX k (ks',c'),Yf k t0 k⟩:=by rw[←Aw (by omega),hcon];rfl
       have YA:fA 2 (rs.map aW.id)=((0:Nat):Int):=by rw[←qK,hcon];exact Yo
       have hpart:(rs.getD 0 default).part.map aU.g=gX k (ks',c'):=congrArg gu.part hr0
       have his:(rs.getD 0 default).is=Yf k t0 k:=congrArg gu.is hr0
       have hpl:(rs.getD 0 default).part.length=k:=(JI.out.jY _ (getD_mem default (by omega))).part.len
       have VL:=ah (fun W (f:aj au wr W)=>(show Calls Tryz.prog 17 #[.pointer (some ⟨b,0,none⟩), .int .i64 2] W fun e w'=>e= .returned (.int .i64 0)∧∃nR sv' ns,aj L1 W w'∧cZ L1 w' b k nR sv' ns []∧ns.map aU.g=gX k J from by
        have hp:=UY (JI.out.aN f) 2 0 (by omega) YA (by rw[his];exact Yq k (by omega) t0 htl k (by omega)) fun i hi=>by
         have h1:((rs.getD 0 default).part.getD i default).g=(bF (cO k i) ks',c'):=by
          rw[←vT (by rw[hpl];exact hi),hpart]
          exact EH (ks',c') hi
         have h2:(vs.getD i default).g=(bF (cO k i) ks,c):=LU JI.out.vis.len WX.out hi
         rw[h1,h2]
         have h3:=Am (cO k i) ks
         have h4:=Am (cO k i) ks'
         exact⟨by show dF (bF (cO k i) ks)+dF (bF (cO k i) ks')≤2000;omega,by show c.length+c'.length≤2000;omega⟩
        rw[hpart,WX.out,Us Yi.out.good Yj.out.good,HJ.out]at hp
        refine hp.mono fun e w' ⟨g1,nR,sv',ns,g2,g3,g4⟩=>⟨g1,nR,sv',ns,g2,?_,g4⟩
        have he:rs.eraseIdx 0=[]:=List.eq_nil_of_length_eq_zero (by rw[List.length_eraseIdx_of_lt (by omega)];omega)
        rw[he]at g3
        exact g3))
       have fa:=aj.alloc au w8 (.cells #[.slice a3 0 c3, .slice a5 J.1.len c5, .slice a6 J.2.length c6] 32)
       have ba:=heap_alloc_new w8 (.cells #[.slice a3 0 c3, .slice a5 J.1.len c5, .slice a6 J.2.length c6] 32)
       have YB:=ah (show fE (fun i=>wr.heap.size≤i) (World.drew (w8.alloc (.cells #[.slice a3 0 c3, .slice a5 J.1.len c5, .slice a6 J.2.length c6] 32))) ⟨[],J.1,J.2, .slice a3 0 c3, .slice a5 J.1.len c5, .slice a6 J.2.length c6⟩from
        fE.aN ⟨iF.out,bJ.out.rd,fun _ i hi=>bJ.out.new i hi⟩ (fa.aF (aj.drew au _)))
       have dM:=ah ((bJ.out.aJ.aF fa).aF (aj.drew au _))
       have XI:=ah (show ¬L1 w8.heap.size from fun hl=>by have:=JI.out.Ls _ hl;have:=bJ.out.aJ.size;omega)
       have iJ:=ah (fun N Y Y' (f:aj N Y Y') (hn:¬N w8.heap.size) (hS:Y.cell? ⟨w8.heap.size,0,none⟩=some (.slice a3 0 c3)∧Y.cell? ⟨w8.heap.size,1,none⟩=some (.slice a5 J.1.len c5)∧Y.cell? ⟨w8.heap.size,2,none⟩=some (.slice a6 J.2.length c6))=>
        (⟨f.cell' hS.1 hn,f.cell' hS.2.1 hn,f.cell' hS.2.2 hn⟩:Y'.cell? ⟨w8.heap.size,0,none⟩=some (.slice a3 0 c3)∧Y'.cell? ⟨w8.heap.size,1,none⟩=some (.slice a5 J.1.len c5)∧Y'.cell? ⟨w8.heap.size,2,none⟩=some (.slice a6 J.2.length c6)))
       have lN:=iJ.out au _ _ (aj.drew au _) id ⟨aI ba 0 rfl,aI ba 1 rfl,aI ba 2 rfl⟩
       clear fa ba hwn hcon hlr hr0 YA hpart his hpl
       refine iY (S:=fun Y=>Y.cell? ⟨w8.heap.size,0,none⟩=some (.slice a3 0 c3)∧Y.cell? ⟨w8.heap.size,1,none⟩=some (.slice a5 J.1.len c5)∧Y.cell? ⟨w8.heap.size,2,none⟩=some (.slice a6 J.2.length c6)) 24 (by kernel_rfl) lN ?_
       clear lN
       intro hS
       generalize World.drew _=Y0 at*
       refine dZ 0 109 (v:=?_) rfl rfl (by kernel_rfl) (by rfl) (by kernel_rfl) (by kernel_rfl) (fun _ _ _ h=>h) (Or.inl ⟨by rfl,?_⟩) (by assumption) ?_
       rotate_left 1
       ·(intro w hSw;(try dsimp only at hSw);go_simp;(try with_reducible rfl))
       try simp only[Act.put,aP,aQ,aO]
       refine bP (i:=1) (by kernel_rfl) rfl (fun K hK=>?_)
       go_simp
       refine(VL.out _ dM.out).mono ?_
       rintro e Y1 ⟨rfl,vb1,yt,Zq,hf1,hst1,YC⟩
       have HS2:=ah hst1
       have Nc:=ah YC
       have HF2:=ah ((HF.out.aF dM.out).trans hf1 fun i hi e=>by have:=jK.out i e;omega)
       have wP:=ah (show fE (fun _=>True) Y1 ⟨[],J.1,J.2, .slice a3 0 c3, .slice a5 J.1.len c5, .slice a6 J.2.length c6⟩from YB.out.turn fun i hi hQ=>⟨hf1.block i hi fun hl=>by have:=JI.out.Ls i hl;omega,trivial⟩)
       have hS1:=iJ.out L1 _ _ hf1 XI.out hS
       refine hK.out _ _ hS1 ?_
       clear hK K hS hst1 YC hf1 YB
       have hS:=hS1
       clear hS1
       try simp only[Act.put,aP,aQ,aO]
       refine dZ 2 111 (v:=?_) rfl rfl (by kernel_rfl) (by rfl) (by kernel_rfl) (by kernel_rfl) (fun _ _ _ h=>h) (Or.inl ⟨by rfl,?_⟩) (by assumption) ?_
       rotate_left 1
       ·(intro w hSw;(try dsimp only at hSw);go_simp;(try with_reducible rfl))
       try simp only[Act.put,aP,aQ,aO]
       refine dZ 3 112 (v:=?_) rfl rfl (by kernel_rfl) (by rfl) (by kernel_rfl) (by kernel_rfl) (fun _ _ _ h=>h) (Or.inl ⟨by rfl,?_⟩) (by assumption) ?_
       rotate_left 1
       ·(intro w hSw;(try dsimp only at hSw);go_simp;(try with_reducible rfl))
       try simp only[Act.put,aP,aQ,aO]
       refine dZ 4 113 (v:=?_) rfl rfl (by kernel_rfl) (by rfl) (by kernel_rfl) (by kernel_rfl) (fun _ _ _ h=>h) (Or.inl ⟨by rfl,?_⟩) (by assumption) ?_
       rotate_left 1
       ·(intro w hSw;(try dsimp only at hSw);go_simp;(try with_reducible rfl))
       try simp only[Act.put,aP,aQ,aO]
       refine dZ 5 114 (v:=?_) rfl rfl (by kernel_rfl) (by rfl) (by kernel_rfl) (by kernel_rfl) (fun _ _ _ h=>h) (Or.inl ⟨by rfl,?_⟩) (by assumption) ?_
       rotate_left 1
       ·(intro w hSw;(try dsimp only at hSw);go_simp;(try with_reducible rfl))
       try simp only[Act.put,aP,aQ,aO]
       refine dZ 6 115 (v:=?_) rfl rfl (by kernel_rfl) (by rfl) (by kernel_rfl) (by kernel_rfl) (fun _ _ _ h=>h) (Or.inl ⟨by rfl,?_⟩) (by assumption) ?_
       rotate_left 1
       ·(intro w hSw;(try dsimp only at hSw);go_simp;(try with_reducible rfl))
       try simp only[Act.put,aP,aQ,aO]
       refine dZ 7 116 (v:=?_) rfl rfl (by kernel_rfl) (by rfl) (by kernel_rfl) (by kernel_rfl) (fun _ _ _ h=>h) (Or.inl ⟨by rfl,?_⟩) (by assumption) ?_
       rotate_left 1
       ·(intro w hSw;(try dsimp only at hSw);go_simp;(try with_reducible rfl))
       try simp only[Act.put,aP,aQ,aO]
       refine dZ 8 117 (v:=?_) rfl rfl (by kernel_rfl) (by rfl) (by kernel_rfl) (by kernel_rfl) (fun _ _ _ h=>h) (Or.inl ⟨by rfl,?_⟩) (by assumption) ?_
       rotate_left 1
       ·(intro w hSw;(try dsimp only at hSw);go_simp;(try with_reducible rfl))
       try simp only[Act.put,aP,aQ,aO]
       refine dZ 10 119 (v:=?_) rfl rfl (by kernel_rfl) (by rfl) (by kernel_rfl) (by kernel_rfl) (fun _ _ _ h=>h) (Or.inl ⟨by rfl,?_⟩) (by assumption) ?_
       rotate_left 1
       ·(intro w hSw;(try dsimp only at hSw);go_simp;(try with_reducible rfl))
       try simp only[Act.put,aP,aQ,aO]
       refine bP (i:=9) (by kernel_rfl) rfl (fun K hK=>?_)
       go_simp
       refine(LV HS2.out J (Ak Va.out) Nc.out).mono ?_
       rintro e Y3 ⟨Mc,XU,rfl,hc1,hf3⟩
       obtain⟨a7,e7,a8,e8,rfl,rfl⟩:=AP hc1
       have sN:=ah hc1
       have HF3:=ah hf3
       have hS1:=iJ.out au _ _ hf3 id hS
       refine hK.out _ _ hS1 ?_
       clear hK K hS hc1 hf3
       have hS:=hS1
       clear hS1
       try simp only[Act.put,aP,aQ,aO]
       refine bP (i:=11) (by kernel_rfl) rfl (fun K hK=>?_)
       go_simp
       refine(Fa _ _ J.1 J.2 _ _ _ _ _ Va.out sN.out _ (wP.out.aN HF3.out)).mono ?_
       rintro e Y4 ⟨rfl,hf4⟩
       have YD:=ah (HF3.out.aF hf4)
       have hS1:=iJ.out au _ _ hf4 id hS
       refine hK.out _ _ hS1 ?_
       clear hK K hS hf4 sN
       have hS:=hS1
       clear hS1
       try simp only[Act.put,aP,aQ,aO]
       refine dZ 12 121 (v:=?_) rfl rfl (by kernel_rfl) (by rfl) (by kernel_rfl) (by kernel_rfl) (fun _ _ _ h=>h) (Or.inl ⟨by rfl,?_⟩) (by assumption) ?_
       rotate_left 1
       ·(intro w hSw;(try dsimp only at hSw);go_simp;(try with_reducible rfl))
       try simp only[Act.put,aP,aQ,aO]
       refine dZ 13 122 (v:=?_) rfl rfl (by kernel_rfl) (by rfl) (by kernel_rfl) (by kernel_rfl) (fun _ _ _ h=>h) (Or.inl ⟨by rfl,?_⟩) (by assumption) ?_
       rotate_left 1
       ·(intro w hSw;(try dsimp only at hSw);go_simp;(try with_reducible rfl))
       try simp only[Act.put,aP,aQ,aO]
       refine dZ 14 123 (v:=?_) rfl rfl (by kernel_rfl) (by rfl) (by kernel_rfl) (by kernel_rfl) (fun _ _ _ h=>h) (Or.inl ⟨by rfl,?_⟩) (by assumption) ?_
       rotate_left 1
       ·(intro w hSw;(try dsimp only at hSw);go_simp;(try with_reducible rfl))
       try simp only[Act.put,aP,aQ,aO]
       refine bP (i:=15) (by kernel_rfl) rfl (fun K hK=>?_)
       go_simp
       have hmn:Calls Tryz.prog 21 #[.pointer (some ⟨b,0,none⟩), .int .i64 2] Y4 fun e w'=>e= .returned (.int .i64 0)∧aj au Y4 w':=LJ (HS2.out.aN YD.out) 2
       refine hmn.mono ?_
       clear hmn
       rintro e Y5 ⟨rfl,hf5⟩
       have Yp:=ah (YD.out.aF hf5)
       have hS1:=iJ.out au _ _ hf5 id hS
       refine hK.out _ _ hS1 ?_
       clear hK K hS hf5
       have hS:=hS1
       clear hS1
       try simp only[Act.put,aP,aQ,aO]
       refine dZ 16 125 (v:=?_) rfl rfl (by kernel_rfl) (by rfl) (by kernel_rfl) (by kernel_rfl) (fun _ _ _ h=>h) (Or.inl ⟨by rfl,?_⟩) (by assumption) ?_
       rotate_left 1
       ·(intro w hSw;(try dsimp only at hSw);go_simp;(try with_reducible rfl))
       try simp only[Act.put,aP,aQ,aO]
       refine dZ 17 126 (v:=?_) rfl rfl (by kernel_rfl) (by rfl) (by kernel_rfl) (by kernel_rfl) (fun _ _ _ h=>h) (Or.inl ⟨by rfl,?_⟩) (by assumption) ?_
       rotate_left 1
       ·(intro w hSw;(try dsimp only at hSw);go_simp;(try with_reducible rfl))
       try simp only[Act.put,aP,aQ,aO]
       refine dZ 18 127 (v:=?_) rfl rfl (by kernel_rfl) (by rfl) (by kernel_rfl) (by kernel_rfl) (fun _ _ _ h=>h) (Or.inl ⟨by rfl,?_⟩) (by assumption) ?_
       rotate_left 1
       ·(intro w hSw;(try dsimp only at hSw);go_simp;(try with_reducible rfl))
       try simp only[Act.put,aP,aQ,aO]
       refine dZ 19 128 (v:=?_) rfl rfl (by kernel_rfl) (by rfl) (by kernel_rfl) (by kernel_rfl) (fun _ _ _ h=>h) (Or.inl ⟨by rfl,?_⟩) (by assumption) ?_
       rotate_left 1
       ·(intro w hSw;(try dsimp only at hSw);go_simp;(try with_reducible rfl))
       try simp only[Act.put,aP,aQ,aO]
       refine bP (i:=20) (by kernel_rfl) rfl (fun K hK=>?_)
       go_simp
       refine(KT 2 [] b _ yt (HS2.out.aN Yp.out).rd (fun _ h=>by cases h) (by decide) (HS2.out.aN Yp.out).kL (LH (by simp))).mono ?_
       rintro e Y6 ⟨rfl,MC⟩
       have Zg:=ah (Yp.out.aF MC)
       have hS1:=iJ.out au _ _ MC id hS
       refine hK.out _ _ hS1 ?_
       clear hK K hS MC
       have hS:=hS1
       clear hS1
       try simp only[Act.put,aP,aQ,aO]
       refine dZ 21 130 (v:=?_) rfl rfl (by kernel_rfl) (by rfl) (by kernel_rfl) (by kernel_rfl) (fun _ _ _ h=>h) (Or.inl ⟨by rfl,?_⟩) (by assumption) ?_
       rotate_left 1
       ·(intro w hSw;(try dsimp only at hSw);go_simp;(try with_reducible rfl))
       try simp only[Act.put,aP,aQ,aO]
       refine dZ 22 131 (v:=?_) rfl rfl (by kernel_rfl) (by rfl) (by kernel_rfl) (by kernel_rfl) (fun _ _ _ h=>h) (Or.inl ⟨by rfl,?_⟩) (by assumption) ?_
       rotate_left 1
       ·(intro w hSw;(try dsimp only at hSw);go_simp;(try with_reducible rfl))
       try simp only[Act.put,aP,aQ,aO]
       refine bP (i:=23) (by kernel_rfl) rfl (fun K hK=>?_)
       go_simp
       refine hK.out _ _ hS ?_
       clear hK K
       refine EP (by kernel_rfl) ?_
       go_wp2
       go_ret
       exact⟨rfl,fM.out.aF (HF2.out.aF Zg.out)⟩
open Go.RowKit
theorem Zh {x:Int} (h:(Lit.int .i64 x).wf=true):-9223372036854775808≤x∧x≤9223372036854775807:=by
 simp only[Lit.wf,IntKind.min,IntKind.max,IntKind.signed,IntKind.bits]at h
 simpa using h
theorem Zi (w:World) (v:Value) (h:Xq w v) (u:Value) (hu:Xq w u) (s:Int) (hs:(Lit.int .u8 s).wf=true) (x:Int) (hx:(Lit.int .i64 x).wf=true):
 Calls Tryz.prog 4 #[v,u, .int .u8 s, .int .i64 x] w fun e w'=>e= .returned (.bool true)∧aj (fun _=>False) w w':=by
 obtain⟨ev,kv,cv,es,ks,c,rfl,h1⟩:=h.out
 obtain⟨ev',kv',iQ,es',ks',c',rfl,h2⟩:=hu.out
 exact YP w es ks c ev kv cv es' ks' c' ev' kv' iQ h1 h2 s (Nl hs) x (Zh hx)
end Go.Proofs.YtlhmbkjdfjoilaaGreat
