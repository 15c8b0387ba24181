/- Words for the law BundleOrder: R7b, R7c, R7d, Own2, HeldLast, Four. -/
import Derived.Test.YtabkpccdnkjoiaaGreatBundleOrderG0
import Derived.Test.YtabkpccdnkjoiaaGreatBundleOrderG3
import Derived.Deep.RegionHeld
set_option linter.unusedSimpArgs false
set_option linter.unusedVariables false
set_option maxHeartbeats 32000000
set_option maxRecDepth 1000000
namespace Go.Proofs.YtabkpccdnkjoiaaGreat
open Go.RowKit
theorem EW:∀ {a b:aU} {lo k:Int},dU lo a→(∀s∈a,s.1≤k)→dU k b→lo≤k→dU lo (a++b)
 |[],_,_,_,_,_,hb,hl=>hb.mono hl
 |s::a,b,lo,k,ha,hk,hb,_=>⟨ha.1,ha.2.1,EW ha.2.2 (fun x hx=>hk x (List.mem_cons_of_mem _ hx)) hb (hk s List.mem_cons_self)⟩
theorem KN {c:aU} {d:Int} (h:∀s∈c,s.1≠d):aZ c d=[]:=by
 unfold aZ
 rw[List.filter_eq_nil_iff.2 (by intro s hs;simpa using h s hs)]
 rfl
structure g_ (R:Int→aQ→Prop) (k:Int) (c:aU):Prop where
 rise:dU 0 c
 below:∀s∈c,s.1<k
 parts:∀d,0≤d→d<k→R d (aZ c d)
theorem g_.zero (R:Int→aQ→Prop):g_ R 0 []:=⟨trivial,(fun s hs=>by cases hs),fun d h0 h1=>by omega⟩
theorem g_.step {R:Int→aQ→Prop} {k:Int} {c:aU} (h:g_ R k c) (h0:0≤k) (h4:k<4) {o:aQ} (ho:R k o):g_ R (k+1) (c++cO k o):=by
 have hs:dU k (cO k o):=by
  have:=rQ (lo:=k) (d:=k) (Int.le_refl _) h4 o (c:=[]) trivial
  rwa [List.append_nil]at this
 refine⟨EW h.rise (fun s hs=>Int.le_of_lt (h.below s hs)) hs h0,fun s hs=>?_,fun d hd hdk=>?_⟩
 ·rcases List.mem_append.1 hs with hs|hs
  ·have:=h.below s hs;omega
  ·simp only[cO,List.mem_map]at hs
   obtain⟨r,_,rfl⟩:=hs
   show k<k+1
   omega
 ·rw[uw]
  by_cases he:d=k
  ·subst he
   rw[KN (fun s hs=>by have:=h.below s hs;omega),uz]
   exact ho
  ·rw[kZ _ (fun e=>he e.symm),List.append_nil]
   exact h.parts d hd (by omega)
def Ah (how:Int) (a b:aU) (d:Int) (o:aQ):Prop:=bG o∧∀n,aV o n↔cZ how (fC a d n) (fC b d n)
theorem g_.Ai {how:Int} {a b c:aU} (h:g_ (Ah how a b) 4 c):fU how a b c:=
 ⟨⟨h.rise,fun d h0 h4=>(h.parts d h0 h4).1⟩,fun d n h0 h4=>(h.parts d h0 h4).2 n⟩
theorem cZ.or {how:Int} {p q:Prop} (h:cZ how p q):p∨q:=by
 unfold cZ at h
 split at h
 ·exact .inl h.1
 ·split at h
  ·exact .inl h.1
  ·exact h
theorem og.KO {how:Int} {a b:aU} {d:Int} {o:aQ} (h:og (aZ a d) (aZ b d) how o none) (ha:bG (aZ a d)) (hb:bG (aZ b d)):Ah how a b d o:=
 ⟨bG.of h.from_ (fun n hn=>(cZ.or ((h.none_ rfl n).1 hn)).elim (fun h=>(ha.xu h).2) fun h=>(hb.xu h).2),h.none_ rfl⟩
theorem pI (d:Int) (l:aQ):(cO d l).length=l.length:=by simp[cO]
theorem Aj {c:aU} {k j:Nat} {d:Int} {l:aQ} (h:c.length≤40000*k) (hk:k≤4) (hl:l.length≤40000):(c++cO d l).length≤40000*(k+1)∧c.length+l.length≤1000000:=by
 rw[List.length_append,pI];omega
def EX (how:Int):Prop:=∀(w:World) (va vb:Value) (a b:aU) (_:dL w va a) (_:dL w vb b) (_:bH a) (_:bH b) (_:a.length≤10000) (_:b.length≤10000),
    Calls Tryz.prog 87 #[va,vb, .int .i64 how] w fun e w'=>∃v' c,e= .returned v'∧OwnAt w w' 144 3 v' c.length (bT c)∧fU how a b c∧c.length≤160000
theorem KP (how:Int) (jM:EO how):EX how:=by
 intro w va vb a b ha hb ra rb la lb
 obtain⟨i0,hi,hz0,hz1,hz2⟩:=info_parts qE
 obtain⟨aA,cA,rfl⟩:=ha.sl
 obtain⟨aB,cB,rfl⟩:=hb.sl
 have RA:=ah ra;clear ra
 have RB:=ah rb;clear rb
 have Ak:=ah (fun w' d h=>Ag w' _ a d (Rd.aP ha h) (by omega))
 have Am:=ah (fun w' d h=>Ag w' _ b d (Rd.aP hb h) (by omega))
 have LA:=ah (fun d=>Nat.le_trans (pG a d) la)
 have LB:=ah (fun d=>Nat.le_trans (pG b d) lb)
 have jM:=ah jM
 clear ha hb la lb
 go_enter Tryz.func87,Tryz.ntmps87
 go_wp2
 go_loopw [7,9] (fun v i ww=>∃(k:Nat) (c:aU),k≤4∧i= .int .i64 k∧OwnAt w ww 144 3 v c.length (bT c)∧g_ (Ah how a b) k c∧c.length≤40000*k) (fun _ i _=>4-(intOf i).toNat)
 case atStart=>exact⟨0,[],by omega,rfl,OwnAt.nil (aj.refl _ _) _ _,g_.zero _,Nat.zero_le _⟩
 case round=>
  obtain⟨k,c,hk,rfl,ho,hu,hlen⟩:=hrel
  obtain⟨av,cv,rfl⟩:=ho.shape
  have HO:=ah ho;clear ho
  have HU:=ah hu;clear hu
  have HLEN:=ah hlen;clear hlen
  by_cases hlt:k<4
  ·have hra:=ah (RA.out.2 (k:Int) (by omega) (by omega))
   have hrb:=ah (RB.out.2 (k:Int) (by omega) (by omega))
   go_wp2_with(first
    |(go_at_call_of 142 aA;refine(Ak.out _ k HO.out.aH).mono ?_;rintro e w1 ⟨v1,rfl,ho1⟩;obtain⟨a1,c1,rfl⟩:=ho1.shape;have bZ:=ah ho1;clear ho1)
    |(go_at_call_of 142 aB;refine(Am.out _ k (HO.out.aH.ay bZ.out.aH)).mono ?_;rintro e w2 ⟨v2,rfl,ho2⟩;obtain⟨a2,c2,rfl⟩:=ho2.shape;have dD:=ah ho2;clear ho2)
    |(go_at_call 152;refine(jM.out _ _ _ _ _ (bZ.out.rd.aP dD.out.aH) dD.out.rd hra.out hrb.out (LA.out k) (LB.out k)).mono ?_;rintro e w3 ⟨v3,o,rfl,ho3,hby,hol⟩;obtain⟨a3,c3,rfl⟩:=ho3.shape;have bI:=ah ho3;clear ho3;have HB3:=ah hby;clear hby;have HOL:=ah hol;clear hol)
    |(go_at_call 151;refine(EU _ _ o k bI.out.rd (Nat.le_trans HOL.out (by decide))).mono ?_;rintro e w4 ⟨v4,rfl,dh⟩;obtain⟨a4,c4,rfl⟩:=dh.shape;have iD:=ah dh;clear dh;have HKK:=ah (HO.out.keep (bZ.out.aH.ay (dD.out.aH.ay (bI.out.aH.ay iD.out.aH)))))
    |(at_builtin;refine lq w _ _ rfl (.tmp 12) (.tmp 22) 32 32 rfl 144 144 i0 _ 3 24 Tryz.underlying32 Tryz.underlying32 hi hz0 hz1 hz2 (by decide) (by decide) _ _ _ HKK.out _ o.length rfl rfl iD.out.rd (by rw[xI,pI]) (zZ _) (by have:=(Aj (j:=0) (d:=k) HLEN.out (Nat.le_of_lt hlt) HOL.out).2;simp only[maxLen];omega) (by have:=(Aj (j:=0) (d:=k) HLEN.out (Nat.le_of_lt hlt) HOL.out).2;omega) ?_;intro ad cc w5 dF;have OW:=ah dF;clear dF))
   go_roundw
   case rel=>
    refine⟨k+1,c++cO k o,by omega,by go_num,?_,?_,(Aj (j:=0) HLEN.out (Nat.le_of_lt hlt) HOL.out).1⟩
    ·rw[List.length_append,pI,rV];exact OW.out
    ·have:=HU.out.step (by omega) (by omega) (HB3.out.KO hra.out hrb.out)
     exact this
   case measure=>simp[intOf];omega
  ·obtain rfl:k=4:=by omega
   go_wp2
   go_ret
   exact⟨_,c,rfl,HO.out,HU.out.Ai,HLEN.out⟩
theorem EY:EX 2:=KP 2 KG
theorem EZ (w:World) (va vb:Value) (a b:aU) (ha:dL w va a) (hb:dL w vb b) (ra:bH a) (rb:bH b) (la:a.length≤10000) (lb:b.length≤10000):
 Calls Tryz.prog 89 #[va,vb] w fun e w'=>e= .returned (.bool (tf (fK a b)))∧aj au w w':=by
 have HC:=ah (EY w va vb a b ha hb ra rb la lb)
 clear ha hb ra rb la lb
 go_enter Tryz.func89,Tryz.ntmps89
 go_wp2_with(go_at_call 87;refine HC.out.mono ?_;rintro e w1 ⟨v1,c,rfl,ho1,hby,hol⟩;obtain⟨a1,c1,rfl⟩:=ho1.shape;have bZ:=ah ho1;clear ho1;have HB:=ah hby;clear hby;clear hol)
 go_ret
 refine⟨bg ?_,bZ.out.aH⟩
 refine uq ?_
 rw[←HB.out.Ew]
 simp
open Go.RowKit
def jh (v0 v1 v2 v3:Int):Value:= .agg #[.int .i64 v0, .int .i64 v1, .int .i64 v2, .int .i64 v3]
def aS (v0 v1 v2 v3:Int) (d:Int):Int:=if d=0 then v0 else if d=1 then v1 else if d=2 then v2 else v3
def jO (f:Int→Int):Prop:=∀d,0≤d→d<4→0≤f d∧f d≤1099511627776
def xR (w:World) (g:Nat) (f:Int→Int):Prop:=∀k:Nat,k<4→w.cell? ⟨g,k,none⟩=some (.int .i64 (f k))
theorem E_ {w:World} {v0 v1 v2 v3:Int} {t:TypeId}:xR (w.alloc (.cells #[.int .i64 v0, .int .i64 v1, .int .i64 v2, .int .i64 v3] t)) w.heap.size (aS v0 v1 v2 v3):=by
 intro k hk
 rw[aF (heap_alloc_new w _) k (u:= .int .i64 (aS v0 v1 v2 v3 k))]
 rcases(by omega:k=0∨k=1∨k=2∨k=3)with rfl|rfl|rfl|rfl<;>rfl
theorem xR.keep {w w':World} {g:Nat} {f:Int→Int} (h:xR w g f) (fr:aj au w w'):xR w' g f:=fun k hk=>fr.cell' (h k hk) id
def Ap (f:Int→Int) (d:Int) (o:aQ):Prop:=o=jI (f d)
theorem g_.full {f:Int→Int} {c:aU} (h:g_ (Ap f) 4 c):c=eH f:=by
 rw[←pz (Int.le_refl 0) h.rise]
 unfold gZ eH gZ
 rw[h.parts 0 (by decide) (by decide),h.parts 1 (by decide) (by decide),h.parts 2 (by decide) (by decide),h.parts 3 (by decide) (by decide)]
theorem KQ (w:World) (v0 v1 v2 v3:Int):
 Calls Tryz.prog 91 #[jh v0 v1 v2 v3] w fun e w'=>∃v',e= .returned v'∧OwnAt w w' 144 3 v' (eH (aS v0 v1 v2 v3)).length (bT (eH (aS v0 v1 v2 v3)))∧(eH (aS v0 v1 v2 v3)).length≤4:=by
 obtain⟨i0,hi,hz0,hz1,hz2⟩:=info_parts qE
 have HV:=ah (E_ (w:=w) (v0:=v0) (v1:=v1) (v2:=v2) (v3:=v3) (t:=25))
 unfold jh
 generalize hf:aS v0 v1 v2 v3=f at*
 clear hf
 go_enter Tryz.func91,Tryz.ntmps91
 go_wp2
 go_loopw [3,5] (fun v i ww=>∃(k:Nat) (c:aU),k≤4∧i= .int .i64 k∧aj au (w.alloc (.cells #[.int .i64 v0, .int .i64 v1, .int .i64 v2, .int .i64 v3] 25)) ww∧OwnAt (w.alloc (.cells #[.int .i64 v0, .int .i64 v1, .int .i64 v2, .int .i64 v3] 25)) ww 144 3 v c.length (bT c)∧g_ (Ap f) k c∧c.length≤k) (fun _ i _=>4-(intOf i).toNat)
 case atStart=>exact⟨0,[],by omega,rfl,aj.refl _ _,OwnAt.nil (aj.refl _ _) _ _,g_.zero _,Nat.zero_le _⟩
 case round=>
  obtain⟨k,c,hk,rfl,hfr,ho,hu,hlen⟩:=hrel
  obtain⟨av,cv,rfl⟩:=ho.shape
  have HO:=ah ho;clear ho
  have HU:=ah hu;clear hu
  have HLEN:=ah hlen;clear hlen
  have jy:=ah hfr;clear hfr
  by_cases hlt:k<4
  ·have q:=(HV.out.keep jy.out) k hlt
   have hst:=HU.out.step (o:=jI (f k)) (by omega) (by omega) rfl
   have hgl:w.heap.size<wr.heap.size:=World.block_lt_of_cell? _ _ q
   have hL:c.length≤4:=by have:=HLEN.out;omega
   by_cases h0:0<f k
   ·have he:cO (k:Int) (jI (f k))=[((k:Int),1,f k)]:=by unfold jI;rw[if_pos h0];rfl
    rw[he]at hst
    clear he
    generalize f k=x at*
    have HST:=ah hst;clear hst
    have HL:=ah hL;clear hL
    go_wp2_with(at_builtin;refine jg _ _ [.int .i64 k, .int .i64 1, .int .i64 x] rfl (.tmp 12) (.tmp 18) 32 rfl 144 i0 _ 3 24 Tryz.underlying32 hi hz0 hz1 hz2 (by decide) (by decide) _ _ _ HO.out 1 1 rfl rfl rfl (by simp[Value.oneCell']) (by have:=HL.out;simp only[maxLen];omega) (by have:=HL.out;omega) ?_;intro ad cc w2 bC;have OW:=ah bC;clear bC)
    go_roundw
    case rel=>exact⟨k+1,c++ [((k:Int),1,x)],by omega,by go_num,OW.out.aH,by rw[List.length_append,rV];exact OW.out,HST.out,by rw[List.length_append];have:=HLEN.out;simp;omega⟩
    case measure=>simp[intOf];omega
   ·have he:cO (k:Int) (jI (f k))=[]:=by unfold jI;rw[if_neg h0];rfl
    rw[he,List.append_nil]at hst
    clear he
    generalize f k=x at*
    have HST:=ah hst;clear hst
    clear hL
    go_wp2
    go_roundw
    case rel=>exact⟨k+1,c,by omega,by go_num,jy.out,HO.out,HST.out,by have:=HLEN.out;omega⟩
    case measure=>simp[intOf];omega
  ·obtain rfl:k=4:=by omega
   go_wp2
   go_ret
   have:=HU.out.full
   subst this
   exact⟨_,rfl,HO.out.base (aj.alloc _ _ _),HLEN.out⟩
theorem KR (w:World) (v0 v1 v2 v3:Int):
 Calls Tryz.prog 76 #[jh v0 v1 v2 v3] w fun e w'=>e= .returned (.bool (tf (jO (aS v0 v1 v2 v3))))∧aj au w w':=by
 have HV:=ah (E_ (w:=w) (v0:=v0) (v1:=v1) (v2:=v2) (v3:=v3) (t:=25))
 unfold jh
 generalize hf:aS v0 v1 v2 v3=f at*
 clear hf
 go_enter Tryz.func76,Tryz.ntmps76
 go_wp2
 go_loopw [4] (fun i ww=>∃(k:Nat),k≤4∧i= .int .i64 k∧(∀d:Int,0≤d→d<k→0≤f d∧f d≤1099511627776)∧ww=(w.alloc (.cells #[.int .i64 v0, .int .i64 v1, .int .i64 v2, .int .i64 v3] 25))) (fun i _=>4-(intOf i).toNat)
 case atStart=>exact⟨0,by omega,rfl,(fun d h0 h1=>by have:d<0:=h1;omega),rfl⟩
 case round=>
  obtain⟨k,hk,rfl,hr,rfl⟩:=hrel
  have HR:=ah hr;clear hr
  by_cases hlt:k<4
  ·have q:=HV.out k hlt
   have hst:0≤f k∧f k≤1099511627776→∀d:Int,0≤d→d<((k+1:Nat):Int)→0≤f d∧f d≤1099511627776:=fun h d h0 h1=>by
    by_cases he:d=k
    ·subst he;exact h
    ·exact HR.out d h0 (by omega)
   have hno:¬(0≤f k∧f k≤1099511627776)→¬jO f:=fun h hm=>h (hm k (by omega) (by omega))
   have HST:=ah hst;clear hst
   have ji:=ah hno;clear hno
   generalize f k=x at*
   by_cases c1:x<0
   ·go_wp2
    go_ret
    exact⟨bg (bn (ji.out (by omega))).symm,aj.alloc _ _ _⟩
   ·by_cases c2:1099511627776<x
    ·go_wp2
     go_ret
     exact⟨bg (bn (ji.out (by omega))).symm,aj.alloc _ _ _⟩
    ·go_wp2
     go_roundw
     case rel=>exact⟨k+1,by omega,by go_num,HST.out ⟨by omega,by omega⟩,by first|trivial|rfl⟩
     case measure=>simp[intOf];omega
  ·obtain rfl:k=4:=by omega
   go_wp2
   go_ret
   exact⟨bg (bM (fun d h0 h4=>HR.out d h0 h4)).symm,aj.alloc _ _ _⟩
open Go.RowKit
theorem Aq:∀ {c:aU} {lo:Int} {s:Int×Int×Int},dU lo (c++ [s])↔dU lo c∧lo≤s.1∧s.1<4∧∀x∈c,x.1≤s.1
 |[],lo,s=>by simp[dU]
 |x::c,lo,s=>by
  rw[List.cons_append]
  show(lo≤x.1∧x.1<4∧dU x.1 (c++ [s]))↔_
  rw[Aq]
  constructor
  ·rintro⟨h1,h2,h3,h4,h5,h6⟩
   refine⟨⟨h1,h2,h3⟩,by omega,h5,fun y hy=>?_⟩
   rcases List.mem_cons.1 hy with rfl|hy
   ·exact h4
   ·exact h6 y hy
  ·rintro⟨⟨h1,h2,h3⟩,h4,h5,h6⟩
   exact⟨h1,h2,h3,h6 x List.mem_cons_self,h5,fun y hy=>h6 y (List.mem_cons_of_mem _ hy)⟩
theorem Fa {c:aU} {lo:Int} (h:dU lo c) (k:Nat):dU lo (c.take k):=by
 have:∀ {a b:aU} {lo:Int},dU lo (a++b)→dU lo a:=by
  intro a
  induction a with
  |nil=>intro b lo _;trivial
  |cons s a ih=>intro b lo h;exact⟨h.1,h.2.1,ih h.2.2⟩
 exact this (b:=c.drop k) (by rw[List.take_append_drop];exact h)
theorem Ar {c:aU} {k:Nat} (h:dU 0 (c.take k)) (hk:k<c.length):
 dU 0 (c.take (k+1))↔0≤(c.getD k (0,0,0)).1∧(c.getD k (0,0,0)).1<4∧(0<k→(c.getD (k-1) (0,0,0)).1≤(c.getD k (0,0,0)).1):=by
 rw[take_succ (0,0,0) hk,Aq]
 generalize c.getD k (0,0,0)=s
 constructor
 ·rintro⟨_,h2,h3,h4⟩
  refine⟨h2,h3,fun h0=>h4 _ ?_⟩
  obtain⟨j,rfl⟩:∃j,k=j+1:=⟨k-1,by omega⟩
  rw[take_succ (0,0,0) (by omega)]
  simp
 ·rintro⟨h1,h2,h3⟩
  refine⟨h,h1,h2,fun x hx=>?_⟩
  rcases Nat.eq_zero_or_pos k with rfl|h0
  ·simp at hx
  ·have h5:=h3 h0
   obtain⟨j,rfl⟩:∃j,k=j+1:=⟨k-1,by omega⟩
   rw[take_succ (0,0,0) (by omega)]at hx h
   obtain⟨_,_,_,h9⟩:=Aq.1 h
   rw[show j+1-1=j by omega]at h5
   rcases List.mem_append.1 hx with hx|hx
   ·have:=h9 x hx;omega
   ·simp only[List.mem_singleton]at hx;subst hx;exact h5
theorem KT {c:aU} {k:Nat} (h:dU 0 (c.take k)) (hk:k<c.length)
 (hn:¬(0≤(c.getD k (0,0,0)).1∧(c.getD k (0,0,0)).1<4∧(0<k→(c.getD (k-1) (0,0,0)).1≤(c.getD k (0,0,0)).1))):¬dU 0 c:=
 fun hl=>hn ((Ar h hk).1 (Fa hl (k+1)))
def gB (c:aU):Prop:=∀s∈c,-9223372036854775808≤s.1∧s.1≤9223372036854775807∧-9223372036854775808≤s.2.1∧s.2.1≤9223372036854775807∧-9223372036854775808≤s.2.2∧s.2.2≤9223372036854775807
theorem gB.part {c:aU} (h:gB c) (d:Int):Fits (aZ c d):=fun r hr=>by
 unfold aZ at hr
 obtain⟨s,hs,rfl⟩:=List.mem_map.1 hr
 have:=h s ((List.mem_filter.1 hs).1)
 omega
theorem KU (w:World) (v:Value) (c:aU) (hv:dL w v c) (hf:gB c) (hl:c.length≤100000):
 Calls Tryz.prog 150 #[v] w fun e w'=>e= .returned (.bool (tf (bH c)))∧aj au w w':=by
 have hcP:=fun w' d (h:aj au w w')=>Ag w' v c d (Rd.aP hv h) hl
 have hfp:=hf.part
 rcases Rd.shape hv with⟨ad,rfl,h0⟩|⟨b,off,cc,rfl,hmax⟩
 ·obtain rfl:c=[]:=List.eq_nil_of_length_eq_zero h0
  have HP:=ah hcP;clear hcP
  have xU:=ah hfp;clear hfp
  clear hv hf hl
  go_enter Tryz.func150,Tryz.ntmps150
  go_wp2
  go_loopw [7] (fun i ww=>i= .int .i64 0∧ww=w) (fun _ _=>0)
  case atStart=>exact⟨rfl,rfl⟩
  case round=>
   obtain⟨rfl,rfl⟩:=hrel
   go_wp2
   go_loopw [43] (fun i ww=>∃k:Nat,k≤4∧i= .int .i64 k∧aj au wr ww) (fun i _=>4-(intOf i).toNat)
   case atStart=>exact⟨0,by omega,rfl,aj.refl _ _⟩
   case round=>
    obtain⟨k,hk,rfl,hw⟩:=hrel
    have HW:=ah hw;clear hw
    by_cases hlt:k<4
    ·go_wp2_with(first
      |(go_at_call 142;refine(HP.out _ k HW.out).mono ?_;rintro e w1 ⟨v1,rfl,ho1⟩;obtain⟨a1,c1,rfl⟩:=ho1.shape;have bZ:=ah ho1;clear ho1)
      |(go_at_call 190;refine(Aa _ _ (aZ [] k) bZ.out.rd (xU.out k)).mono ?_;rintro e w2 ⟨rfl,hw2⟩;rw[show aZ [] (k:Int)=[]from rfl,bM pq];have HW2:=ah hw2;clear hw2))
     go_roundw
     case rel=>exact⟨k+1,by omega,by go_num,HW.out.ay (bZ.out.aH.ay HW2.out)⟩
     case measure=>simp[intOf];omega
    ·go_wp2
     go_ret
     exact⟨bg (bM J_).symm,HW.out⟩
 ·have HH:=ah hv;clear hv
  have HP:=ah hcP;clear hcP
  have xU:=ah hfp;clear hfp
  clear hf hl
  generalize hn:c.length=n at*
  have HN:=ah hn;clear hn
  go_enter Tryz.func150,Tryz.ntmps150
  go_wp2
  go_loopw [7] (fun i ww=>∃k:Nat,k≤n∧i= .int .i64 k∧dU 0 (c.take k)∧∃q,ww=w.drewN q) (fun i _=>n-(intOf i).toNat)
  case atStart=>exact⟨0,Nat.zero_le _,rfl,trivial,0,rfl⟩
  case round=>
   obtain⟨k,hk,rfl,hr,q,rfl⟩:=hrel
   have HR:=ah hr;clear hr
   by_cases hlt:k<n
   ·obtain⟨q0,-,-⟩:=pF HH.out HN.out.symm k (by rw[HN.out];exact hlt)
    have HS:=ah (Ar HR.out (show k<c.length by rw[HN.out];exact hlt))
    have HX:=ah (KT HR.out (show k<c.length by rw[HN.out];exact hlt))
    generalize c.getD k (0,0,0)=s at*
    by_cases c1:s.1<0
    ·go_wp2_with fail
     go_big_quiet (fail)
     go_wp2
     go_ret
     exact⟨bg (bn (fun h=>HX.out (by omega) h.1)).symm,(aj.drewN _ _ _).eF⟩
    ·have d1:decide (s.1<0)=false:=by simpa using c1
     by_cases c2:4≤s.1
     ·go_wp2_with fail
      go_big_quiet (fail)
      go_wp2
      go_ret
      exact⟨bg (bn (fun h=>HX.out (by omega) h.1)).symm,(aj.drewN _ _ _).eF⟩
     ·have d2:decide (4≤s.1)=false:=by simpa using c2
      rcases Nat.eq_zero_or_pos k with rfl|hk0
      ·simp only[Nat.zero_mul,Nat.add_zero]at q0
       go_wp2_with fail
       go_big_quiet (fail)
       go_wp2
       go_roundw
       case rel=>exact⟨0+1,by omega,by go_num,HS.out.2 ⟨by omega,by omega,by omega⟩,q+nq,by first|rfl|rw[World.drewN_drewN]⟩
       case measure=>simp[intOf];omega
      ·obtain⟨j,rfl⟩:∃j,k=j+1:=⟨k-1,by omega⟩
       obtain⟨p0,-,-⟩:=pF HH.out HN.out.symm j (by rw[HN.out];omega)
       rw[show j+1-1=j by omega]at HS HX
       generalize c.getD j (0,0,0)=p at*
       have hd:wrap64 (j:Int)=j:=by unfold wrap64;omega
       by_cases c3:s.1<p.1
       ·go_wp2_with fail
        go_big_quiet (fail)
        go_wp2
        go_ret
        exact⟨bg (bn (fun h=>HX.out (by omega) h.1)).symm,(aj.drewN _ _ _).eF⟩
       ·go_wp2_with fail
        go_big_quiet (fail)
        go_wp2
        go_roundw
        case rel=>exact⟨j+1+1,by omega,by go_num,HS.out.2 ⟨by omega,by omega,by omega⟩,q+nq,by first|rfl|rw[World.drewN_drewN]⟩
        case measure=>simp[intOf];omega
   ·obtain rfl:k=n:=by omega
    have hall:dU 0 c:=by
     have:=HR.out
     rwa [List.take_of_length_le (by rw[HN.out];exact Nat.le_refl _)]at this
    have HA:=ah hall;clear hall
    go_wp2
    go_loopw [43] (fun i ww=>∃k:Nat,k≤4∧i= .int .i64 k∧(∀d:Int,0≤d→d<k→bG (aZ c d))∧aj au w ww) (fun i _=>4-(intOf i).toNat)
    case atStart=>exact⟨0,by omega,rfl,(fun d h0 h1=>by have:d<0:=h1;omega),aj.drewN _ _ _⟩
    case round=>
     obtain⟨j,hj,rfl,hd,hw⟩:=hrel
     have HW:=ah hw;clear hw
     have HD:=ah hd;clear hd
     by_cases hlt:j<4
     ·cases ht:tf (bG (aZ c j))with
      |false=>
       have HT:=ah ht;clear ht
       go_wp2_with(first
        |(go_at_call 142;refine(HP.out _ j HW.out).mono ?_;rintro e w1 ⟨v1,rfl,ho1⟩;obtain⟨a1,c1,rfl⟩:=ho1.shape;have bZ:=ah ho1;clear ho1)
        |(go_at_call 190;refine(Aa _ _ (aZ c j) bZ.out.rd (xU.out j)).mono ?_;rintro e w2 ⟨rfl,hw2⟩;rw[HT.out];have HW2:=ah hw2;clear hw2))
       go_ret
       exact⟨bg (bn (fun h=>rP.1 HT.out (h.2 j (by omega) (by omega)))).symm,HW.out.ay (bZ.out.aH.ay HW2.out)⟩
      |true=>
       have HT:=ah ht;clear ht
       go_wp2_with(first
        |(go_at_call 142;refine(HP.out _ j HW.out).mono ?_;rintro e w1 ⟨v1,rfl,ho1⟩;obtain⟨a1,c1,rfl⟩:=ho1.shape;have bZ:=ah ho1;clear ho1)
        |(go_at_call 190;refine(Aa _ _ (aZ c j) bZ.out.rd (xU.out j)).mono ?_;rintro e w2 ⟨rfl,hw2⟩;rw[HT.out];have HW2:=ah hw2;clear hw2))
       go_roundw
       case rel=>
        refine⟨j+1,by omega,by go_num,fun d h0 h1=>?_,HW.out.ay (bZ.out.aH.ay HW2.out)⟩
        by_cases he:d=j
        ·subst he;exact o_.1 HT.out
        ·exact HD.out d h0 (by omega)
       case measure=>simp[intOf];omega
     ·obtain rfl:j=4:=by omega
      go_wp2
      go_ret
      exact⟨bg (bM ⟨HA.out,fun d h0 h4=>HD.out d h0 h4⟩).symm,HW.out⟩
open Go.RowKit
structure dM (N:Nat→Prop) (w0 w:World) (e:TypeId) (size:Nat) (v:Value) (n:Nat) (xs:List Value):Prop where
 at_:OwnAt w0 w e size v n xs
 but:∀k,v.ownBlock=some k→¬N k
theorem OwnAt.lt {w0 w:World} {e:TypeId} {size:Nat} {v:Value} {n:Nat} {xs:List Value} (h:OwnAt w0 w e size v n xs):∀k,v.ownBlock=some k→k<w.heap.size:=fun k hk=>by
 rcases h.own.2 with⟨rfl,_⟩|⟨g,cap,cur,rfl,_,hg,_⟩
 ·simp[Value.ownBlock]at hk
 ·simp[Value.ownBlock]at hk
  subst hk
  exact lt_of_block hg
theorem OwnAt.away {N:Nat→Prop} {w0 w w':World} {e:TypeId} {size:Nat} {v:Value} {n:Nat} {xs:List Value} (h:OwnAt w0 w e size v n xs) (f:aj au w w') (hN:∀k,N k→w.heap.size≤k):dM N w0 w' e size v n xs:=
 ⟨h.keep f,fun k hk hn=>by have:=h.lt k hk;have:=hN k hn;omega⟩
theorem dM.nil {N:Nat→Prop} {w0 w:World} (f:aj au w0 w) (e:TypeId) (size:Nat):dM N w0 w e size (.slice none 0 0) 0 []:=⟨OwnAt.nil f e size,fun k hk=>by simp[Value.ownBlock]at hk⟩
theorem dM.keep {N:Nat→Prop} {w0 w w':World} {e:TypeId} {size:Nat} {v:Value} {n:Nat} {xs:List Value} (h:dM N w0 w e size v n xs) (f:aj au w w'):dM N w0 w' e size v n xs:=⟨h.at_.keep f,h.but⟩
theorem dM.box {N:Nat→Prop} {w0 w:World} {e:TypeId} {size:Nat} {v:Value} {n:Nat} {xs:List Value} (h:dM N w0 w e size v n xs) (o:Obj):dM (fun k=>N k∨k=w.heap.size) w0 (w.alloc o) e size v n xs:=
 ⟨h.at_.keep (aj.alloc _ _ _),fun k hk hn=>by
   rcases hn with hn|hn
   ·exact h.but k hk hn
   ·have:=h.at_.lt k hk;omega⟩
theorem dM.mono {N M:Nat→Prop} {w0 w:World} {e:TypeId} {size:Nat} {v:Value} {n:Nat} {xs:List Value} (h:dM N w0 w e size v n xs) (hs:∀k,M k→N k):dM M w0 w e size v n xs:=⟨h.at_,fun k hk hm=>h.but k hk (hs k hm)⟩
theorem dM.set {N:Nat→Prop} {w0 w:World} {e:TypeId} {size:Nat} {v:Value} {n:Nat} {xs:List Value} (h:dM N w0 w e size v n xs) {p:Addr} (hp:N p.block) (hn:w0.heap.size≤p.block) (u:Value):dM N w0 (w.setCell p u) e size v n xs:=
 ⟨⟨(aj.setCell (S:=fun k=>k=p.block) w (.inl rfl) u).owns h.at_.own (fun k hk he=>h.but k hk (by have he:k=p.block:=he;rw[he];exact hp)),h.at_.new,h.at_.aH.set1 (.inr hn)⟩,h.but⟩
def lN (N:Nat→Prop) (w w':World):Prop:=w.heap.size≤w'.heap.size∧∀b,N b→w'.heap[b]?=w.heap[b]?
theorem lN.cell {N:Nat→Prop} {w w':World} (h:lN N w w') {p:Addr} {u:Value} (hp:N p.block) (hu:w.cell? p=some u):w'.cell? p=some u:=
 (World.cell?_of_block (w:=w) (h.2 p.block hp)).trans hu
theorem lN.frozen {N:Nat→Prop} {w w':World} (h:lN N w w') {p:Addr} (hp:N p.block) {b:Bool} (hu:w.frozen? p=b):w'.frozen? p=b:=
 (World.frozen?_of_block (w:=w) (h.2 p.block hp)).trans hu
theorem lN.blk {N:Nat→Prop} {w w':World} (h:lN N w w') {b:Nat} {o:Obj} (hp:N b) (hu:w.heap[b]?=some o):w'.heap[b]?=some o:=(h.2 b hp).trans hu
theorem dM.step {N:Nat→Prop} {w0 w w':World} {e e':TypeId} {size size':Nat} {v v':Value} {n n':Nat} {xs xs':List Value} (h:dM N w0 w e size v n xs) (hN:∀k,N k→k<w.heap.size)
 (own:w'.ownsRow 0 e' size' v' n' xs') (fm:aj (iL v) w w') (fr:kK w v v'):dM N w0 w' e' size' v' n' xs'∧lN N w w':=
 ⟨⟨h.at_.step own fm fr,fun k hk hn=>by
   rcases fr k hk with h1|h1
   ·exact h.but k h1 hn
   ·have:=hN k hn;omega⟩,fm.size,fun b hb=>fm.block b (hN b hb) fun hs=>h.but b hs hb⟩
section
variable {P:Program}
theorem Fb {ops:Array Oper} {rest:List Oper} {o:Oper} {a:Act} {Q:Exit→Act→World→Prop} (N:Nat→Prop) (w0 w:World) (news:List Value) (hgd:o.guard=none) (s x:Operand) (t:TypeId)
 (ho:o.op= .call {callee:= .builtin .append,args:= #[s,x],argTypes:= #[t,t]})
 (e:TypeId) (i:TypeInfo) (z:Value) (size bytes:Nat) (ht:P.underlying t=some (.slice e)) (hi:P.info? e=some i) (hz:i.zero=some z)
 (hsize:i.size=size) (hby:i.bytes=bytes) (hzs:z.cells.size=size) (hsz:0<size)
 (v:Value) (n:Nat) (xs:List Value) (hown:dM N w0 w e size v n xs) (hN:∀k,N k→k<w.heap.size) (m c:Nat) (hv:a.eval s=v) (hx:a.eval x= .slice (some ⟨w.heap.size,0,none⟩) m c)
 (hnl:news.length=m*size) (h1:∀u∈news,u.oneCell'=true) (h63:n+m≤maxLen) (hbytes:(n+m)*bytes≤140737488355328)
 (h:∀ad c w',dM N w0 w' e size (.slice ad (n+m) c) (n+m) (xs++news)→lN N w w'→wpList P ops Q rest (a.put o.dst (.slice ad (n+m) c)) w'):
 wpList P ops Q (o::rest) a (w.alloc (.cells news.toArray e)):=
 Ei w news hgd s x t ho e i z size bytes ht hi hz hsize hby hzs hsz v n xs hown.at_.own m c hv hx hnl h1 h63 hbytes fun ad c' w' g1 g2 g3=>h ad c' w' (hown.step hN g1 g2 g3).1 (hown.step hN g1 g2 g3).2
end
end Go.Proofs.YtabkpccdnkjoiaaGreat
namespace Go.Proofs.YtabkpccdnkjoiaaGreat
section
variable {P:Program} {ops:Array Oper} {Q:Exit→Act→World→Prop} {md:Region.Mode} {S:World→Prop} {z:Nat}
def h_ (P:Program) (md:Region.Mode) (ops:Array Oper) (Q:Exit→Act→World→Prop) (S:World→Prop) (z:Nat):Nat→Array Bool→Act→World→Prop
 |0,listed,a,w=>Region.ready md ops listed=[]∧Q .normal a w
 |fuel+1,listed,a,w=>
  (Region.ready md ops listed=[]→Q .normal a w)∧
  ∀i∈Region.ready md ops listed,wpOp P ops Q i (fun a' w'=>(i=z∨S w')∧h_ P md ops Q S z fuel (listed.setIfInBounds i true) a' w') a w
theorem Fe:∀(fuel:Nat) (listed:Array Bool) (a:Act) (w:World),h_ P md ops Q S z fuel listed a w→wpAny P md ops Q fuel listed a w
 |0,_,_,_,h=>h
 |fuel+1,_,_,_,h=>⟨h.1,fun i hi=>wpOp_mono (fun a' w' h'=>Fe fuel _ a' w' h'.2) (h.2 i hi)⟩
def lastB (md:Region.Mode) (ops:Array Oper) (z:Nat):Bool:=(List.range ops.size).all fun i=>i==z||(match ops[z]? with|some o=>o.after.any fun e=>Region.binds md e&&e.on==i|none=>false)
theorem KW {i:Nat} {o oi:Oper} (h:lastB md ops z=true) (hz:ops[z]?=some o) (hi:ops[i]?=some oi) (hne:i≠z):∃e∈o.after,Region.binds md e=true∧e.on=i:=by
 unfold lastB at h
 rw[List.all_eq_true]at h
 have hlt:i<ops.size:=(Array.getElem?_eq_some_iff.1 hi).1
 have h1:=h i (List.mem_range.2 hlt)
 rw[hz]at h1
 simp only[Bool.or_eq_true,beq_iff_eq,hne,false_or,Array.any_eq_true,Bool.and_eq_true]at h1
 obtain⟨k,hk,h2,h3⟩:=h1
 exact⟨o.after[k],Array.getElem_mem hk,h2,h3⟩
theorem KX {i:Nat} {oi:Oper} {v:Value} (hi:ops[i]?=some oi) (hsel:∀(j:Nat) (o:Oper) cs b,ops[j]?=some o→o.op≠ .select cs b) (hl:lastB md ops z=true) (hiz:i≠z)
 (hQ:∀c a w,Q (.panic c) (a.put oi.dst v) w→Q (.panic c) a w):
 ∀(fuel:Nat) (listed:Array Bool) (a:Act) (w:World),
  (∀j oj,ops[j]?=some oj→j≠i→listed.getD j true=false→(∀e∈oj.after,Region.binds md e=true→e.on≠i)→oi.apart ops oj=true)→
  i∈Region.ready md ops listed→YieldsIf P ops S oi v a→S w→
  h_ P md ops Q S z fuel (listed.setIfInBounds i true) (a.put oi.dst v) w→h_ P md ops Q S z (fuel+1) listed a w:=by
 intro fuel
 induction fuel with
 |zero=>
  intro listed a w _ hr hy hS H
  refine⟨fun h=>(by rw[h]at hr;cases hr),fun j hj=>?_⟩
  by_cases hji:j=i
  ·subst hji;exact hy.wpOp hi hS ⟨.inr hS,H⟩
  ·have:=ready_mono hj hji
   rw[H.1]at this
   cases this
 |succ fuel ih=>
  intro listed a w hfree hr hy hS H
  refine⟨fun h=>(by rw[h]at hr;cases hr),fun j hj=>?_⟩
  by_cases hji:j=i
  ·subst hji;exact hy.wpOp hi hS ⟨.inr hS,H⟩
  ·have h1:=H.2 j (ready_mono hj hji)
   obtain⟨hjun,oj,hoj,hall⟩:=mem_ready.1 hj
   have hnot:∀e∈oj.after,Region.binds md e=true→e.on≠i:=fun e he hb heq=>by
    have h1:=hall e he hb
    have h0:=(mem_ready.1 hr).1
    rw[heq]at h1
    rcases Nat.lt_or_ge i listed.size with h'|h'
    ·simp[h']at h0 h1;rw[h0]at h1;cases h1
    ·simp[Array.getElem?_eq_none h']at h1
   have hjz:j≠z:=fun hz=>by
    subst hz
    obtain⟨e,he,hb,heq⟩:=KW hl hoj hi hiz
    exact hnot e he hb heq
   have h2:=wpOp_putIf hoj (hfree j oj hoj hji hjun hnot) (fun cs b=>hsel i oi cs b hi) (fun cs b=>hsel j oj cs b hoj) hQ hy h1
   have hfree':∀k ok,ops[k]?=some ok→k≠i→(listed.setIfInBounds j true).getD k true=false→
    (∀e∈ok.after,Region.binds md e=true→e.on≠i)→oi.apart ops ok=true:=fun k ok hk hki hun hno=>by
    refine hfree k ok hk hki ?_ hno
    by_cases hjk:j=k
    ·subst hjk;exact hjun
    ·rw[getD_set_ne true hjk]at hun;exact hun
   refine wpOp_mono (fun a' w' h3=>?_) h2
   have hS':S w':=h3.2.1.resolve_left hjz
   refine⟨.inr hS',ih (listed.setIfInBounds j true) a' w' hfree' (ready_mono hr (Ne.symm hji)) h3.1 hS' ?_⟩
   rw[Array.setIfInBounds_comm _ _ hji]
   exact h3.2.2
theorem Fg (i d:Nat) {oi:Oper} {v:Value} {fuel:Nat} {listed:Array Bool} {a:Act} {w:World} (hi:ops[i]?=some oi) (hd:oi.dst=some d)
 (hs:Region.noSelect ops=true) (hl:lastB md ops z=true) (hiz:i≠z) (hf:Region.free md ops listed i=true) (hr:(Region.ready md ops listed).contains i=true)
 (hQ:∀c a w,Q (.panic c) (a.put (some d) v) w→Q (.panic c) a w) (hy:YieldsIf P ops S oi v a) (hS:S w)
 (h:h_ P md ops Q S z fuel (listed.setIfInBounds i true) (a.put (some d) v) w):h_ P md ops Q S z (fuel+1) listed a w:=
 KX hi (Region.noSelect_spec hs) hl hiz (by rw[hd];exact hQ) fuel listed a w (Region.free_spec hi hf) (by simpa using hr) hy hS (by rw[hd];exact h)
theorem aT (i d:Nat) {oi:Oper} {v:Value} {fuel:Nat} {listed:Array Bool} {a:Act} {w:World} (hi:ops[i]?=some oi) (hd:oi.dst=some d) (hy:YieldsIf P ops S oi v a)
 (h:h_ P md ops Q S z fuel (listed.setIfInBounds i true) (a.put (some d) v) w)
 (hs:Region.noSelect ops=true:=by kernel_rfl) (hl:lastB md ops z=true:=by kernel_rfl) (hiz:i≠z:=by decide) (hf:Region.free md ops listed i=true:=by kernel_rfl) (hr:(Region.ready md ops listed).contains i=true:=by kernel_rfl)
 (hQ:∀c a w,Q (.panic c) (a.put (some d) v) w→Q (.panic c) a w:=by exact fun _ _ _ h=>h) (hS:S w:=by assumption):h_ P md ops Q S z (fuel+1) listed a w:=
 Fg i d hi hd hs hl hiz hf hr hQ hy hS h
theorem b_ (i d:Nat) {oi:Oper} {fuel:Nat} {listed:Array Bool} {a:Act} {w:World} (hi:ops[i]?=some oi) (hd:oi.dst=some d)
 (h:h_ P md ops Q S z fuel (listed.setIfInBounds i true) (a.put (some d) undef) w) (hn:Region.wanted oi (yielded ops a.tmps)=false:=by rfl)
 (hs:Region.noSelect ops=true:=by kernel_rfl) (hl:lastB md ops z=true:=by kernel_rfl) (hiz:i≠z:=by decide) (hf:Region.free md ops listed i=true:=by kernel_rfl) (hr:(Region.ready md ops listed).contains i=true:=by kernel_rfl)
 (hQ:∀c a w,Q (.panic c) (a.put (some d) undef) w→Q (.panic c) a w:=by exact fun _ _ _ h=>h) (hS:S w:=by assumption):h_ P md ops Q S z (fuel+1) listed a w:=
 Fg i d hi hd hs hl hiz hf hr hQ (Or.inr ⟨hn,rfl⟩) hS h
theorem bD {i:Nat} {o:Oper} {fuel:Nat} {listed:Array Bool} {a:Act} {w:World} (hr:Region.ready md ops listed=[i]) (ho:ops[i]?=some o)
 (h:∀K':Act→World→Prop,Shut (∀a w,S w→h_ P md ops Q S z fuel (listed.setIfInBounds i true) a w→K' a w)→if Region.wanted o (yielded ops a.tmps)=true then Oper.wp P o a w K' Q else K' (a.put o.dst undef) w):
 h_ P md ops Q S z (fuel+1) listed a w:=
 ⟨fun h0=>(by rw[hr]at h0;cases h0),fun j hj=>by
   rw[hr]at hj
   obtain rfl:j=i:=by simpa using hj
   exact wpOp_step ho fun K' hK=>h K' fun a w hS hW=>hK a w ⟨.inr hS,hW⟩⟩
theorem fD {o:Oper} {fuel:Nat} {listed:Array Bool} {a:Act} {w:World} (hr:Region.ready md ops listed=[z]) (hr2:Region.ready md ops (listed.setIfInBounds z true)=[]) (ho:ops[z]?=some o)
 (h:∀K':Act→World→Prop,Shut (∀a w,Q .normal a w→K' a w)→if Region.wanted o (yielded ops a.tmps)=true then Oper.wp P o a w K' Q else K' (a.put o.dst undef) w):
 h_ P md ops Q S z (fuel+1) listed a w:=
 ⟨fun h0=>(by rw[hr]at h0;cases h0),fun j hj=>by
   rw[hr]at hj
   obtain rfl:j=z:=by simpa using hj
   refine wpOp_step ho fun K' hK=>h K' fun a w hQ=>hK a w ⟨.inl rfl,?_⟩
   cases fuel with
   |zero=>exact⟨hr2,hQ⟩
   |succ n=>exact⟨fun _=>hQ,by rw[hr2];simp⟩⟩
theorem gX {id:Nat} {a:Act} {w:World} (z:Nat) (hm:P.follows .mixedOrders=true) (hS:S w.drew)
 (h:S w.drew→h_ P .any ops Q S z ops.size (Array.replicate ops.size false) a w.drew):(Code.region id ops true).wp P Q a w:=
 wp_region_any hm (Fe _ _ _ _ (h hS))
end
open Go.RowKit
def upd {α:Type} (f:Nat→α) (d:Nat) (x:α):Nat→α:=fun c=>if c=d then x else f c
theorem upd_same {α:Type} (f:Nat→α) (d:Nat) (x:α):upd f d x d=x:=by simp[upd]
theorem jP {α:Type} (f:Nat→α) {d c:Nat} (x:α) (h:c≠d):upd f d x c=f c:=by simp[upd,h]
def xW (vs:Nat→Value):Array Value:= #[vs 0,vs 1,vs 2,vs 3]
theorem KY (vs:Nat→Value) {d:Nat} (h:d<4):(xW vs)[d]?=some (vs d):=by
 rcases(by omega:d=0∨d=1∨d=2∨d=3)with rfl|rfl|rfl|rfl<;>rfl
theorem KZ (vs:Nat→Value) {d:Nat} (h:d<4) (v:Value):(xW vs).setIfInBounds d v=xW (upd vs d v):=by
 rcases(by omega:d=0∨d=1∨d=2∨d=3)with rfl|rfl|rfl|rfl<;>rfl
theorem lN.owns {N:Nat→Prop} {w w':World} (h:lN N w w') {base:Nat} {e:TypeId} {size:Nat} {v:Value} {n:Nat} {xs:List Value} (ho:w.ownsRow base e size v n xs) (hn:∀k,v.ownBlock=some k→N k):w'.ownsRow base e size v n xs:=by
 refine⟨ho.1,?_⟩
 rcases ho.2 with hx|⟨g,cap,cur,rfl,hb,hg,rest⟩
 ·exact .inl hx
 ·exact .inr ⟨g,cap,cur,rfl,hb,h.blk (hn g rfl) hg,rest⟩
structure fH (M:Nat→Prop) (T e:TypeId) (size:Nat) (w0 w:World) (pb:Nat) (vs:Nat→Value) (n:Nat→Nat) (xs:Nat→List Value):Prop where
 blk:w.heap[pb]?=some (.cells (xW vs) T (0,0))
 new:w0.heap.size≤pb
 mlt:∀k,M k→k<w.heap.size
 uJ:¬M pb
 own:∀d,d<4→dM (fun k=>k=pb∨M k) w0 w e size (vs d) (n d) (xs d)
 apart:∀d c,d<4→c<4→d≠c→∀k,(vs d).ownBlock=some k→(vs c).ownBlock≠some k
def pJ (M:Nat→Prop) (pb:Nat) (vs:Nat→Value) (d k:Nat):Prop:=k=pb∨M k∨∃c,c<4∧c≠d∧(vs c).ownBlock=some k
section
variable {M:Nat→Prop} {T e:TypeId} {size:Nat} {w0 w w':World} {pb:Nat} {vs:Nat→Value} {n:Nat→Nat} {xs:Nat→List Value}
theorem fH.cell (h:fH M T e size w0 w pb vs n xs) {d:Nat} (hd:d<4):w.cell? ⟨pb,d,none⟩=some (vs d):=aF h.blk d (KY vs hd)
theorem fH.but (h:fH M T e size w0 w pb vs n xs) {d:Nat} (hd:d<4):dM (pJ M pb vs d) w0 w e size (vs d) (n d) (xs d):=
 ⟨(h.own d hd).at_,fun k hk hr=>by
   rcases hr with hr|hr|⟨c,hc,hne,hck⟩
   ·exact(h.own d hd).but k hk (.inl hr)
   ·exact(h.own d hd).but k hk (.inr hr)
   ·exact h.apart c d hc hd hne k hck hk⟩
theorem fH.lt (h:fH M T e size w0 w pb vs n xs) (d k:Nat) (hr:pJ M pb vs d k):k<w.heap.size:=by
 rcases hr with rfl|hr|⟨c,hc,_,hck⟩
 ·exact lt_of_block h.blk
 ·exact h.mlt k hr
 ·exact(h.own c hc).at_.lt k hck
theorem fH.keep (h:fH M T e size w0 w pb vs n xs) (f:aj au w w'):fH M T e size w0 w' pb vs n xs:=
 ⟨f.blk h.blk id,h.new,fun k hk=>Nat.lt_of_lt_of_le (h.mlt k hk) f.size,h.uJ,fun d hd=>(h.own d hd).keep f,h.apart⟩
theorem fH.aH (h:fH M T e size w0 w pb vs n xs):aj au w0 w:=(h.own 0 (by omega)).at_.aH
theorem fH.box (h:fH M T e size w0 w pb vs n xs) (o:Obj):fH (fun k=>M k∨k=w.heap.size) T e size w0 (w.alloc o) pb vs n xs:=
 ⟨(aj.alloc au w o).blk h.blk id,h.new,fun k hk=>by
   simp
   rcases hk with hk|hk
   ·have:=h.mlt k hk;omega
   ·omega,fun hm=>hm.elim h.uJ fun he=>by have:=lt_of_block h.blk;omega,fun d hd=>⟨((h.own d hd).keep (aj.alloc _ _ _)).at_,fun k hk hr=>by
   rcases hr with hr|hr|hr
   ·exact(h.own d hd).but k hk (.inl hr)
   ·exact(h.own d hd).but k hk (.inr hr)
   ·have:=(h.own d hd).at_.lt k hk;omega⟩,h.apart⟩
theorem fH.mono {M':Nat→Prop} (h:fH M T e size w0 w pb vs n xs) (hm:∀k,M' k→M k):fH M' T e size w0 w pb vs n xs:=
 ⟨h.blk,h.new,fun k hk=>h.mlt k (hm k hk),fun hk=>h.uJ (hm _ hk),fun d hd=>(h.own d hd).mono fun k hk=>hk.elim .inl fun hk=> .inr (hm k hk),h.apart⟩
theorem fH.step (h:fH M T e size w0 w pb vs n xs) {d:Nat} (hd:d<4) {v':Value} {n':Nat} {xs':List Value} (kp:lN (pJ M pb vs d) w w') (ob:dM (pJ M pb vs d) w0 w' e size v' n' xs'):
 fH M T e size w0 (w'.setCell ⟨pb,d,none⟩ v') pb (upd vs d v') (upd n d n') (upd xs d xs'):=by
 have hset:=dY (kp.blk (.inl rfl) h.blk) d v'
 rw[KZ vs hd]at hset
 have hsz:(w'.setCell ⟨pb,d,none⟩ v').heap.size=w'.heap.size:=by simp[World.setCell]
 refine⟨hset,h.new,fun k hk=>by rw[hsz];exact Nat.lt_of_lt_of_le (h.mlt k hk) kp.1,h.uJ,fun c hc=>?_,fun a c ha hc hne k hk=>?_⟩
 ·by_cases he:c=d
  ·subst he
   rw[upd_same,upd_same,upd_same]
   exact(ob.mono (M:=fun k=>k=pb∨M k) fun k hk=>hk.elim .inl fun hk=> .inr (.inl hk)).set (.inl rfl) h.new _
  ·rw[jP _ _ he,jP _ _ he,jP _ _ he]
   have hc1:=h.own c hc
   have:dM (fun k=>k=pb∨M k) w0 w' e size (vs c) (n c) (xs c):=
    ⟨⟨kp.owns hc1.at_.own (fun k hk=> .inr (.inr ⟨c,hc,he,hk⟩)),hc1.at_.new,ob.at_.aH⟩,hc1.but⟩
   exact this.set (.inl rfl) h.new _
 ·by_cases hea:a=d
  ·subst hea
   rw[upd_same]at hk
   rw[jP _ _ (Ne.symm hne)]
   exact fun hck=>ob.but k hk (.inr (.inr ⟨c,hc,Ne.symm hne,hck⟩))
  ·rw[jP _ _ hea]at hk
   by_cases Fh:c=d
   ·subst Fh
    rw[upd_same]
    exact fun hck=>ob.but k hck (.inr (.inr ⟨a,ha,hea,hk⟩))
   ·rw[jP _ _ Fh]
    exact h.apart a c ha hc hne k hk
theorem fH.congr {n':Nat→Nat} {xs':Nat→List Value} (h:fH M T e size w0 w pb vs n xs) (hn:∀d,d<4→n' d=n d) (hx:∀d,d<4→xs' d=xs d):fH M T e size w0 w pb vs n' xs':=
 ⟨h.blk,h.new,h.mlt,h.uJ,fun d hd=>by rw[hn d hd,hx d hd];exact h.own d hd,h.apart⟩
end
theorem Au {w0 w:World} {b:Nat} {T:TypeId} {a0 a1 a2 a3:Value} (h:w.heap[b]?=some (.cells #[a0,a1,a2,a3] T (0,0))) (f:aj au w0 w) (hb:w0.heap.size≤b) (v0 v1 v2 v3:Value):
 ((((w.setCell ⟨b,0,none⟩ v0).setCell ⟨b,1,none⟩ v1).setCell ⟨b,2,none⟩ v2).setCell ⟨b,3,none⟩ v3).heap[b]?=some (.cells #[v0,v1,v2,v3] T (0,0))∧
 aj au w0 ((((w.setCell ⟨b,0,none⟩ v0).setCell ⟨b,1,none⟩ v1).setCell ⟨b,2,none⟩ v2).setCell ⟨b,3,none⟩ v3):=
 ⟨dY (dY (dY (dY h 0 v0) 1 v1) 2 v2) 3 v3,(((f.set1 (p:=⟨b,0,none⟩) (.inr hb)).set1 (p:=⟨b,1,none⟩) (.inr hb)).set1 (p:=⟨b,2,none⟩) (.inr hb)).set1 (p:=⟨b,3,none⟩) (.inr hb)⟩
theorem fH.start {M:Nat→Prop} {w0 w:World} (T e:TypeId) (size:Nat) (f:aj au w0 w) (hm:∀k,M k→k<w.heap.size):
 fH M T e size w0 (w.alloc (.cells #[.slice none 0 0, .slice none 0 0, .slice none 0 0, .slice none 0 0] T)) w.heap.size (fun _=> .slice none 0 0) (fun _=>0) (fun _=> []):=
 ⟨heap_alloc_new w _,f.size,fun k hk=>by have:=hm k hk;simp;omega,fun h=>by have:=hm _ h;omega,fun d _=>dM.nil (f.trans (aj.alloc _ _ _) fun _ _ h=>h) _ _,fun d c _ _ _ k hk=>by simp[Value.ownBlock]at hk⟩
section
variable {P:Program}
theorem Aw {ops:Array Oper} {o:Oper} {a:Act} (N:Nat→Prop) (w0 w:World) {K:Act→World→Prop} {Q:Exit→Act→World→Prop} {E:Prop} (news:List Value) (hgd:o.guard=none) (s x:Operand) (t:TypeId)
 (ho:o.op= .call {callee:= .builtin .append,args:= #[s,x],argTypes:= #[t,t]})
 (e:TypeId) (i:TypeInfo) (z:Value) (size bytes:Nat) (ht:P.underlying t=some (.slice e)) (hi:P.info? e=some i) (hz:i.zero=some z)
 (hsize:i.size=size) (hby:i.bytes=bytes) (hzs:z.cells.size=size) (hsz:0<size)
 (v:Value) (n:Nat) (xs:List Value) (hown:dM N w0 w e size v n xs) (hN:∀k,N k→k<w.heap.size) (m c:Nat) (hv:a.eval s=v) (hx:a.eval x= .slice (some ⟨w.heap.size,0,none⟩) m c)
 (hnl:news.length=m*size) (h1:∀u∈news,u.oneCell'=true) (h63:n+m≤maxLen) (hbytes:(n+m)*bytes≤140737488355328)
 (h:∀ad c w',dM N w0 w' e size (.slice ad (n+m) c) (n+m) (xs++news)→lN N w w'→K (a.put o.dst (.slice ad (n+m) c)) w'):
 if Region.wanted o (yielded ops a.tmps)=true then Oper.wp P o a (w.alloc (.cells news.toArray e)) K Q else E:=by
 have hw:Region.wanted o (yielded ops a.tmps)=true:=by simp[Region.wanted,hgd]
 rw[if_pos hw]
 have hs:Src P size t (.slice (some ⟨w.heap.size,0,none⟩) m c) m news (w.alloc (.cells news.toArray e)):=
  Src.ofSlice _ ht ⟨w.heap.size,0,none⟩ m c news hnl (fun j u hj=>by
   have hadd:(⟨w.heap.size,0,none⟩:Addr).add j=⟨w.heap.size,j,none⟩:=by unfold Addr.add;split<;>simp_all
   rw[hadd,cell_of_row (w.alloc (.cells news.toArray e)) w.heap.size j news.toArray e (0,0) (heap_alloc_new w _)]
   simpa using hj) h1
 obtain⟨v',w',hr,h2,h3,h4,⟨ad,c',rfl⟩,h6⟩:=wU (P:=P) (w.alloc (.cells news.toArray e)) t t o.type e i z size bytes ht hi hz hsize hby hzs hsz v n xs (hown.at_.own.alloc _) _ m news hs h63 hbytes
 unfold Oper.wp execOp
 simp only[ho,resolve,invoke,builtin,Sem.run_bind,Sem.run_pure,Result.andThen_ok,List.map_toArray,List.map_cons,List.map_nil,hv,hx,hr]
 have hst:=hown.step hN h2 ((aj.alloc (iL v) w _).trans h3 (fun _ _ h=>h)) fun k hk=>(h4 k hk).elim .inl fun h=> .inr (by simp at h;omega)
 exact h ad c' w' hst.1 hst.2
end
end Go.Proofs.YtabkpccdnkjoiaaGreat
