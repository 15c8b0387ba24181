/- Words for the law MsgDecodes: R7Vec, Leaf, R8d, R8e, R8c. -/
import Derived.Test.YtabkpccdnkjoiaaGreatMsgDecodesG0
import Derived.Test.YtabkpccdnkjoiaaGreatMsgDecodesG4
import Derived.Test.YtabkpccdnkjoiaaGreatMsgDecodesG7
import Derived.Test.YtabkpccdnkjoiaaGreatMsgDecodesG8
import Derived.Test.YtabkpccdnkjoiaaGreatMsgDecodesG9
import Derived.Test.YtabkpccdnkjoiaaGreatMsgDecodesG18
import Derived.Test.YtabkpccdnkjoiaaGreatMsgDecodesG19
set_option linter.unusedSimpArgs false
set_option linter.unusedVariables false
set_option maxHeartbeats 32000000
set_option maxRecDepth 1000000
namespace Go.Proofs.YtabkpccdnkjoiaaGreat
open Go.RowKit
theorem acn {l:aW} (h:dR l):∀k,0<k→k<l.length→(l.getD k (0,0)).1≠1:=by
 cases l with
 |nil=>intro k _ hk;cases hk
 |cons r l=>
  intro k h0 hk
  obtain⟨⟨g1,g2,g3⟩,-⟩:=h
  obtain⟨j,rfl⟩:∃j,k=j+1:=⟨k-1,by omega⟩
  have hj:j<l.length:=by simpa using hk
  exact abW g3 (by omega) _ (by
   show l.getD j (0,0)∈l
   exact getD_mem (0,0) hj)
theorem Vj (w:World) (v:Value) (ct:aX) (h:jf w v ct) (hr:dN ct) (hl:ct.length≤100000):Calls Tryz.prog 78 #[v] w fun e w'=>e= .returned (.agg (pU fun d=>n_ (bQ ct d)))∧aj ay w w':=by
 have HC:=ah (fun W (d:Int) (fr:aj ay w W)=>Ip W v ct d (Rd.aJ h fr) hl)
 obtain⟨a,c,rfl⟩:=Rd.sl h
 have dU:=ah hr
 have BF:=ah (fun d h0 h4=>(hr.2 d h0 h4:dR (bQ ct d)))
 clear h hr
 generalize hf:(fun d=>n_ (bQ ct d))=f at*
 have NY:=ah (fun d=>(by rw[←hf]:f d=n_ (bQ ct d)))
 clear hf
 generalize ct.length=n at*
 obtain⟨hb1,hfb,hbs⟩:=uJ w (.cells #[.int .i64 0, .int .i64 0, .int .i64 0, .int .i64 0] 25) #[.int .i64 0, .int .i64 0, .int .i64 0, .int .i64 0] 25
 have hb0:((w.alloc (.cells #[.int .i64 0, .int .i64 0, .int .i64 0, .int .i64 0] 25)).alloc (.cells #[.int .i64 0, .int .i64 0, .int .i64 0, .int .i64 0] 25)).heap[w.heap.size]?=some (.cells #[.int .i64 0, .int .i64 0, .int .i64 0, .int .i64 0] 25 (0,0)):=(aj.alloc ay _ _).blk (heap_alloc_new w _) id
 have HB1:=ah hb1;clear hb1
 have HB0:=ah hb0;clear hb0
 have dI:=ah hfb;clear hfb
 have wE:=ah hbs;clear hbs
 go_enter Tryz.func78,Tryz.ntmps78
 go_wp2
 have hst:t_ w ((w.alloc (.cells #[.int .i64 0, .int .i64 0, .int .i64 0, .int .i64 0] 25)).alloc (.cells #[.int .i64 0, .int .i64 0, .int .i64 0, .int .i64 0] 25)) ((w.alloc (.cells #[.int .i64 0, .int .i64 0, .int .i64 0, .int .i64 0] 25)).alloc (.cells #[.int .i64 0, .int .i64 0, .int .i64 0, .int .i64 0] 25)) (fun _=>0) 25:=⟨HB1.out,HB0.out,dI.out,aj.refl _ _⟩
 have HST:=ah hst;clear hst
 go_loopw [5] (fun i ww=>∃k:Nat,k≤4∧i= .int .i64 k∧t_ w ((w.alloc (.cells #[.int .i64 0, .int .i64 0, .int .i64 0, .int .i64 0] 25)).alloc (.cells #[.int .i64 0, .int .i64 0, .int .i64 0, .int .i64 0] 25)) ww (xY f k) 25) (fun i _=>4-(intOf i).toNat)
 case atStart=>exact⟨0,Nat.zero_le _,rfl,HST.out.congr fun d h0 h4=>by unfold xY;rw[if_neg (by omega)]⟩
 case round=>
  obtain⟨k,hk,rfl,hv⟩:=hrel
  have HV:=ah hv;clear hv
  by_cases hlt:k<4
  ·have hki:(k:Int)<4:=by omega
   have qR:=ah (HC.out wr (k:Int) HV.out.aH)
   have iy:=ah (NY.out k)
   have IC:=ah (BF.out k (by omega) hki)
   have NZ:=ah (fun d=>UO f k d)
   generalize f k=x at*
   go_wp2_with(first
    |(go_at_call 142;refine qR.out.mono ?_;rintro e w2 ⟨v2,rfl,ho2⟩;obtain⟨a2,c2,rfl⟩:=ho2.shape;have HV1:=ah (HV.out.keep ho2.aH);have mO:=ah (iy.out▸abX w2 _ (bQ ct k) ho2.rd (acn IC.out));clear ho2)
    |(go_at_call 141;refine mO.out.mono ?_;rintro e w3 ⟨rfl,hw3⟩;have iU:=ah (HV1.out.keep hw3);clear hw3;have z0:=iU.out.a.cell hlt;have g0:=iU.out.a.free k;have N_:=ah (iU.out.set hlt x)))
   clear z0 g0
   go_roundw
   case rel=>exact⟨k+1,by omega,by go_num,N_.out.congr fun d h0 h4=>NZ.out d⟩
   case measure=>simp[intOf];omega
  ·obtain rfl:k=4:=by omega
   have iU:=ah (HV.out.congr fun d h0 h4=>UQ f h4)
   have a0':=iU.out.a.cell (k:=0) (by decide)
   have a1':=iU.out.a.cell (k:=1) (by decide)
   have a2':=iU.out.a.cell (k:=2) (by decide)
   have a3':=iU.out.a.cell (k:=3) (by decide)
   have r0:=iU.out.r.cell (k:=0) (by decide)
   have r1:=iU.out.r.cell (k:=1) (by decide)
   have r2:=iU.out.r.cell (k:=2) (by decide)
   have r3:=iU.out.r.cell (k:=3) (by decide)
   have g0:=iU.out.r.free 0
   have g1:=iU.out.r.free 1
   have g2:=iU.out.r.free 2
   have g3:=iU.out.r.free 3
   have HR:=ah (iU.out.r.FI f)
   have HF:=ah (iU.out.aH.FI (b:=w.heap.size) (Nat.le_refl _) (.int .i64 (f 0)) (.int .i64 (f 1)) (.int .i64 (f 2)) (.int .i64 (f 3)))
   go_wp2
   clear a0' a1' a2' a3' r0 r1 r2 r3 g0 g1 g2 g3
   have r0:=HR.out.cell (k:=0) (by decide)
   have r1:=HR.out.cell (k:=1) (by decide)
   have r2:=HR.out.cell (k:=2) (by decide)
   have r3:=HR.out.cell (k:=3) (by decide)
   exact bodyPost_ret (v:= .agg (pU f)) (by simp[results,Tryz.results78,go_sem,r0,r1,r2,r3,pU]) rfl ⟨rfl,HF.out⟩
open Go.RowKit
abbrev qJ:=List (Value×aQ)
def pV (l:qJ):List Value:=l.flatMap fun x=>x.1::x.2.cells
def sF (p:Value) (es:List aQ):qJ:=es.map fun e=>(p,e)
def rJ (l:qJ):aW:=l.map fun x=>(x.2.dc,x.2.n)
def wQ (l:qJ):Prop:=∀x∈l,x.1.oneCell'=true
theorem JE (a b:qJ):pV (a++b)=pV a++pV b:=by simp[pV]
theorem Vk (x:Value×aQ) (l:qJ):pV (x::l)=x.1:: .int .i64 x.2.dc:: .int .i64 x.2.n:: .string x.2.s:: .int .i64 x.2.k::pV l:=rfl
theorem JF:∀l:qJ,(pV l).length=l.length*5
 |[]=>rfl
 |x::l=>by rw[Vk];simp only[List.length_cons,JF l];omega
theorem Oh {l:qJ} (h:wQ l):∀v∈pV l,v.oneCell'=true:=by
 intro v hv
 simp only[pV,List.mem_flatMap]at hv
 obtain⟨x,hx,hv⟩:=hv
 rcases List.mem_cons.1 hv with rfl|hv
 ·exact h x hx
 ·simp[aQ.cells]at hv
  rcases hv with rfl|rfl|rfl|rfl<;>rfl
theorem Vl:∀(l:qJ) (k:Nat),k<l.length→(pV l)[k*5+1]?=some (.int .i64 (l.getD k (.bool true,aQ.zero)).2.dc)∧(pV l)[k*5+2]?=some (.int .i64 (l.getD k (.bool true,aQ.zero)).2.n)
 |[],_,h=>by cases h
 |x::l,0,_=>⟨rfl,rfl⟩
 |x::l,k+1,h=>by
  obtain⟨h1,h2⟩:=Vl l k (by simpa using h)
  rw[Vk,show(k+1)*5+1=(k*5+1)+1+1+1+1+1 by omega,show(k+1)*5+2=(k*5+2)+1+1+1+1+1 by omega]
  exact⟨h1,h2⟩
theorem acp {w:World} {b off c n:Nat} {l:qJ} (h:Rd w (.slice (some ⟨b,off,none⟩) n c) n (pV l)) (k:Nat) (hk:k<l.length):
 w.cell? ⟨b,off+k*5+1,none⟩=some (.int .i64 (l.getD k (.bool true,aQ.zero)).2.dc)∧w.cell? ⟨b,off+k*5+2,none⟩=some (.int .i64 (l.getD k (.bool true,aQ.zero)).2.n):=by
 obtain⟨h1,h2⟩:=Vl l k hk
 exact⟨h.cell (k*5+1) _ h1,h.cell (k*5+2) _ h2⟩
theorem acr {l:qJ} {k:Nat} (hk:k<l.length):rJ (l.take (k+1))=rJ (l.take k)++ [((l.getD k (.bool true,aQ.zero)).2.dc,(l.getD k (.bool true,aQ.zero)).2.n)]:=by
 rw[take_succ (.bool true,aQ.zero) hk];simp[rJ]
theorem Oi (a b:qJ):rJ (a++b)=rJ a++rJ b:=by simp[rJ]
theorem yh (l:qJ):(rJ l).length=l.length:=by simp[rJ]
theorem acs (p:Value) (es:List aQ):rJ (sF p es)=rW es:=by simp[rJ,sF,rW]
theorem acu (p:Value) (es:List aQ):(sF p es).length=es.length:=by simp[sF]
theorem wQ.sF {p:Value} (h:p.oneCell'=true) (es:List aQ):wQ (sF p es):=fun x hx=>by
 obtain⟨e,_,rfl⟩:=List.mem_map.1 hx
 exact h
theorem wQ.append {a b:qJ} (ha:wQ a) (hb:wQ b):wQ (a++b):=fun x hx=>(List.mem_append.1 hx).elim (ha x) (hb x)
theorem acv {p:Value} {es:List aQ} {k:Nat} (hk:k<es.length):pV (sF p (es.take (k+1)))=pV (sF p (es.take k))++ [p, .int .i64 (es.getD k aQ.zero).dc, .int .i64 (es.getD k aQ.zero).n, .string (es.getD k aQ.zero).s, .int .i64 (es.getD k aQ.zero).k]:=by
 rw[take_succ aQ.zero hk,show sF p (es.take k++ [es.getD k aQ.zero])=sF p (es.take k)++ [(p,es.getD k aQ.zero)] by simp[sF],JE]
 rfl
def qK (l:List ByteArray):List Value:=l.map .string
theorem Oj (a b:List ByteArray):qK (a++b)=qK a++qK b:=by simp[qK]
@[simp] theorem Ol (l:List ByteArray):(qK l).length=l.length:=by simp[qK]
theorem Om (l:List ByteArray):∀v∈qK l,v.oneCell'=true:=by
 intro v hv
 simp only[qK,List.mem_map]at hv
 obtain⟨r,_,rfl⟩:=hv
 rfl
theorem acw:(Tryz.prog.info? 175).map (fun i=>(i.zero,i.size,i.bytes))=some (some (.agg #[.slice none 0 0, .int .i64 0, .int .i64 0, .string ByteArray.empty, .int .i64 0]),5,64):=by kernel_rfl
theorem acy:(Tryz.prog.info? 9).map (fun i=>(i.zero,i.size,i.bytes))=some (some (.string ByteArray.empty),1,16):=by kernel_rfl
open Go.RowKit
def Vm (w:World) (es:List aQ) (ks:aS) (e:Ending) (w':World):Prop:=
 ∃(v':Value) (l:qJ),e= .returned v'∧OwnAt w w' 175 5 v' l.length (pV l)∧rJ l=iD es ks∧wQ l
theorem acz (Q:Nat→Prop):∀(N:Nat) (es:List aQ) (ks:aS) (w:World) (ev kv pv:Value) (pl:List ByteArray),jE ks<N→dh Q w ev kv es ks→sizeT es ks≤100000→Rd w pv pl.length (qK pl)→pl.length+N≤200000→
 Calls Tryz.prog 108 #[.agg #[ev,kv],pv] w (Vm w es ks):=by
 intro N
 induction N with
 |zero=>intros;exfalso;omega
 |succ N mV=>
  intro es ks w ev kv pv pl hN ht hsz hp hpl
  obtain⟨i0,hi,hz0,hz1,hz2⟩:=info_parts acw
  obtain⟨j0,hji,hy0,hy1,hy2⟩:=info_parts acy
  obtain⟨ae,ce,rfl⟩:=ht.ents.rd.sl
  obtain⟨os,hkr,iP⟩:=ht.kids
  obtain⟨ak,ck,rfl⟩:=hkr.rd.sl
  obtain⟨ap,cp,rfl⟩:=hp.sl
  have HP:=ah hp;clear hp
  have HE:=ah ht.ents.rd
  have mW:=ah hkr.rd;clear hkr ht
  have qw:=ah iP;clear iP
  have IH:=ah mV;clear mV
  have dF:=ah (aj.alloc ay w (.cells #[.slice ae es.length ce, .slice ak ks.len ck] 30))
  have box0:(w.alloc (.cells #[.slice ae es.length ce, .slice ak ks.len ck] 30)).cell? ⟨w.heap.size,0,none⟩=some (.slice ae es.length ce):=au (heap_alloc_new w _) 0 rfl
  have box1:(w.alloc (.cells #[.slice ae es.length ce, .slice ak ks.len ck] 30)).cell? ⟨w.heap.size,1,none⟩=some (.slice ak ks.len ck):=au (heap_alloc_new w _) 1 rfl
  have B0:=ah box0;clear box0
  have B1:=ah box1;clear box1
  have oK:=ah (Nat.le_trans (EC es ks) hsz)
  have yV:es.length≤100000:=by unfold sizeT at hsz;omega
  have EF:ks.len≤100000:=by have:=yU ks;unfold sizeT at hsz;omega
  have kF:=ah hsz;clear hsz
  have kN:=ah hN;clear hN
  have hq5:pl.length≤200000:=by omega
  have jY:=ah hpl;clear hpl
  generalize hes:es.length=n at*
  have HN:=ah hes;clear hes
  generalize hkl:ks.len=m at*
  have HM:=ah hkl;clear hkl
  generalize Vo:pl.length=q at*
  have HQ:=ah Vo;clear Vo
  go_enter Tryz.func108,Tryz.ntmps108
  go_wp2_with fail
  have b0:=B0.out
  go_wp2
  clear b0
  go_loopw [5,12] (fun v i ww=>∃k:Nat,k≤n∧i= .int .i64 k∧OwnAt (w.alloc (.cells #[.slice ae n ce, .slice ak m ck] 30)) ww 175 5 v k (pV (sF (.slice ap q cp) (es.take k)))) (fun _ i _=>n-(intOf i).toNat)
  case atStart=>exact⟨0,Nat.zero_le _,rfl,OwnAt.nil (aj.refl _ _) _ _⟩
  case round=>
   obtain⟨k,hk,rfl,ho⟩:=hrel
   obtain⟨av,cv,rfl⟩:=ho.shape
   have HO:=ah ho;clear ho
   by_cases hlt:k<n
   ·rcases Rd.shape HE.out with⟨ad,he,h0⟩|⟨b,off,cc,he,hmax⟩
    ·exfalso;have:=HN.out;omega
    ·injection he with e1 e2 e3
     subst e1 e3
     clear e2
     have hlk:k<es.length:=by rw[HN.out];exact hlt
     obtain⟨p0,p1,p2,p3⟩:=xC HE.out k hlk
     have f2:=dF.out.aC HO.out.aH
     have q0:=f2.cell' p0 id
     have q1:=f2.cell' p1 id
     have q2:=f2.cell' p2 id
     have q3:=f2.cell' p3 id
     have b0:=HO.out.aH.cell' B0.out id
     clear p0 p1 p2 p3 f2
     have hE:=acv (p:= .slice ap q cp) hlk
     generalize es.getD k aQ.zero=e at*
     have Bc:=ah hE;clear hE
     go_wp2_with(at_builtin;refine qP _ _ [.slice ap q cp, .int .i64 e.dc, .int .i64 e.n, .string e.s, .int .i64 e.k] rfl (.tmp 15) (.tmp 23) 81 rfl 175 i0 _ 5 64 Tryz.underlying81 hi hz0 hz1 hz2 (by decide) (by decide) _ _ _ HO.out 1 1 rfl (by simp[Act.eval]) rfl (by simp[Value.oneCell']) (by simp only[maxLen];omega) (by omega) ?_;intro IE qQ w2 dM;have OW:=ah dM;clear dM)
     go_roundw
     case rel=>exact⟨k+1,by omega,by go_num,by rw[Bc.out];exact OW.out⟩
     case measure=>simp[intOf];omega
   ·obtain rfl:n=k:=by omega
    rw[List.take_of_length_le (by rw[HN.out];exact Nat.le_refl _)]at HO
    have b1:=HO.out.aH.cell' B1.out id
    go_wp2
    clear b1
    go_loopw [5,29] (fun v i ww=>∃(k:Nat) (l:qJ),k≤m∧i= .int .i64 k∧OwnAt (w.alloc (.cells #[.slice ae n ce, .slice ak m ck] 30)) ww 175 5 v l.length (pV l)∧iD es ks=rJ l++qV (ks.drop k)∧wQ l) (fun _ i _=>m-(intOf i).toNat)
    case atStart=>exact⟨0,sF (.slice ap q cp) es,Nat.zero_le _,rfl,by rw[acu,HN.out];exact HO.out,by rw[acs];rfl,wQ.sF rfl es⟩
    case round=>
     obtain⟨k,l,hk,rfl,ho,hd,hone⟩:=hrel
     obtain⟨av,cv,rfl⟩:=ho.shape
     have bT:=ah ho;clear ho
     have HD:=ah hd;clear hd
     have qp:=ah hone;clear hone
     by_cases hlt:k<m
     ·obtain⟨key,es',sub,rest,hdr⟩:=aS.xB (n:=k) (ks:=ks) (by rw[HM.out];exact hlt)
      rcases Rd.shape mW.out with⟨ad,he,h0⟩|⟨b,off,cc,he,hmax⟩
      ·exfalso;have:=HM.out;omega
      ·injection he with e1 e2 e3
       subst e1 e3
       clear e2
       have f2:=dF.out.aC bT.out.aH
       obtain⟨ev',kv',c0,c1,c2,hta⟩:=wz (mW.out.aJ f2) (qw.out.aJ f2) hdr
       obtain⟨h_,ig,rfl⟩:=hta.ents.rd.sl
       obtain⟨os',lV,qx⟩:=hta.kids
       obtain⟨iq,iw,rfl⟩:=lV.rd.sl
       clear lV qx
       have hpr:=HP.out.aJ f2
       have BF:=ah hpr;clear hpr f2
       have b1:=bT.out.aH.cell' B1.out id
       have Bf:=ah (RX hdr)
       have iH:=ah (yT k hdr)
       have HST:=ah (CU k hdr)
       have gV:=ah hta;clear hta
       have HIH:=ah (fun w' (h:aj ay wr w') pv (hpv:Rd w' pv (pl++ [key]).length (qK (pl++ [key])))=>IH.out es' sub w' _ _ pv (pl++ [key]) (by have:=iH.out;have:=kN.out;omega) (gV.out.aJ h) (by have:=HST.out;have:=kF.out;unfold sizeT at*;omega) hpv (by have:=jY.out;have:=HQ.out;simp;omega))
       have hlen:l.length+(iD es' sub).length≤100000:=by
        have h1:=oK.out
        rw[HD.out,Bf.out,List.length_append,List.length_append,yh]at h1
        omega
       have HLEN:=ah hlen;clear hlen
       clear hdr
       generalize es'.length=n' at*
       generalize sub.len=m' at*
       go_wp2_with fail
       refine ku (S:=fun w'=>w'.cell? ⟨w.heap.size,1,none⟩=some (.slice (some ⟨b,off,none⟩) m ck)∧w'.cell? ⟨b,off+k*3,none⟩=some (.string key)) 11 (by kernel_rfl) ⟨b1,c0⟩ ?_
       intro hS
       have og:aj ay wr wr.drew:=aj.drew _ _
       have afv:=ah og
       generalize wr.drew=Y at*
       refine aU 1 33 rfl rfl (v:=?_) (.inl ⟨by rfl,?_⟩) ?_
       rotate_left 1
       ·(intro w hSw;(try dsimp only at hSw);go_simp;(try with_reducible rfl))
       refine aU 3 35 rfl rfl (v:=?_) (.inl ⟨by rfl,?_⟩) ?_
       rotate_left 1
       ·(intro w hSw;(try dsimp only at hSw);go_simp;(try with_reducible rfl))
       try simp only[Act.put,aN,aO,aP]
       refine aU 4 36 rfl rfl (v:=?_) (.inl ⟨by rfl,?_⟩) ?_
       rotate_left 1
       ·(intro w hSw;(try dsimp only at hSw);go_simp;(try with_reducible rfl))
       refine aU 5 37 rfl rfl (v:=?_) (.inl ⟨by rfl,?_⟩) ?_
       rotate_left 1
       ·(intro w hSw;(try dsimp only at hSw);go_simp;(try with_reducible rfl))
       try simp only[Act.put,aN,aO,aP]
       refine aU 6 38 rfl rfl (v:=?_) (.inl ⟨by rfl,?_⟩) ?_
       rotate_left 1
       ·(intro w hSw;(try dsimp only at hSw);go_simp;(try with_reducible rfl))
       refine aU 7 39 rfl rfl (v:=?_) (.inl ⟨by rfl,?_⟩) ?_
       rotate_left 1
       ·(intro w hSw;(try dsimp only at hSw);go_simp;(try with_reducible rfl))
       try simp only[Act.put,aN,aO,aP]
       refine aU 8 40 rfl rfl (v:=?_) (.inl ⟨by rfl,?_⟩) ?_
       rotate_left 1
       ·(intro w hSw;(try dsimp only at hSw);go_simp;(try with_reducible rfl))
       try simp only[Act.put,aN,aO,aP]
       refine uK (i:=0) (j:=9) (by kernel_rfl) rfl rfl (fun K hK=>?_) (fun K hK=>?_)
       ·go_simp
        have hfA:aj ay Y (Y.alloc (.cells #[] 9)):=aj.alloc _ _ _
        have hE:OwnAt wr (Y.alloc (.cells #[] 9)) 9 1 (.slice (some ⟨Y.heap.size,0,none⟩) 0 0) 0 []:=OwnAt.empty og _ _
        have hS:(Y.alloc (.cells #[] 9)).cell? ⟨w.heap.size,1,none⟩=some (.slice (some ⟨b,off,none⟩) m ck)∧(Y.alloc (.cells #[] 9)).cell? ⟨b,off+k*3,none⟩=some (.string key):=⟨hfA.cell' hS.1 id,hfA.cell' hS.2 id⟩
        have og:=og.aC hfA
        (try have hne:kb≠Y.heap.size:=by have:=hkb;omega)
        (try have ny:=ny.aJ hfA)
        refine hK.out _ _ hS ?_
        clear hK K hfA
        obtain⟨eb,heb⟩:∃eb,Y.heap.size=eb:=⟨_,rfl⟩
        rw[heb]at hE⊢
        have BH:eb<(Y.alloc (.cells #[] 9)).heap.size:=by rw[←heb];simp
        (try rw[heb]at hne)
        clear heb
        generalize Y.alloc (.cells #[] 9)=Y at*
        try simp only[Act.put,aN,aO,aP]
        refine uK (i:=2) (j:=9) (by kernel_rfl) rfl rfl (fun K hK=>?_) (fun K hK=>?_)
        ·refine Df wr Y (qK pl) rfl (.tmp 32) (.tmp 33) 173 173 rfl 9 9 j0 _ 1 16 Tryz.underlying173 Tryz.underlying173 hji hy0 hy1 hy2 (by decide) (by decide) _ 0 [] hE _ q (by simp[Act.eval]) (by simp[Act.eval]) (BF.out.aJ og) (by rw[Ol,HQ.out];omega) (Om _) (by simp only[maxLen];omega) (by omega) ?_
         intro Vp II Y2 hP zD FP
         rw[Nat.zero_add]at hP
         rw[List.nil_append]at hP
         have hS:Y2.cell? ⟨w.heap.size,1,none⟩=some (.slice (some ⟨b,off,none⟩) m ck)∧Y2.cell? ⟨b,off+k*3,none⟩=some (.string key):=⟨hP.aH.cell' b1 id,hP.aH.cell' c0 id⟩
         have og:=hP.aH
         (try have ny:=ny.keep zD (fun x hx hr=>by simp[eY,Value.ownBlock]at hx hr;omega))
         rw[Nat.zero_add]
         refine hK.out _ _ hS ?_
         clear hK K zD FP hE BH
         generalize Y2=Y at*
         try simp only[Act.put,aN,aO,aP]
         refine bJ (i:=9) (by kernel_rfl) rfl (fun K hK=>?_)
         go_simp
         have hfA:aj ay Y (Y.alloc (.cells #[.string key] 9)):=aj.alloc _ _ _
         have hS:(Y.alloc (.cells #[.string key] 9)).cell? ⟨w.heap.size,1,none⟩=some (.slice (some ⟨b,off,none⟩) m ck)∧(Y.alloc (.cells #[.string key] 9)).cell? ⟨b,off+k*3,none⟩=some (.string key):=⟨hfA.cell' hS.1 id,hfA.cell' hS.2 id⟩
         have og:=og.aC hfA
         (try have hne:Y.heap.size≠eb:=by have:=BH;omega)
         (try have hE:=hE.keep hfA)
         (try have hP:=hP.keep hfA)
         have ny:Rd (Y.alloc (.cells #[.string key] 9)) (.slice (some ⟨Y.heap.size,0,none⟩) 1 1) 1 [.string key]:= .inr ⟨Y.heap.size,0,1,rfl,Nat.le_refl _,by decide,fun j u hu=>by rw[Nat.zero_add];exact au (heap_alloc_new Y _) j (by simpa using hu)⟩
         refine hK.out _ _ hS ?_
         clear hK K hfA
         obtain⟨kb,sG⟩:∃kb,Y.heap.size=kb:=⟨_,rfl⟩
         rw[sG]at ny⊢
         have hkb:kb<(Y.alloc (.cells #[.string key] 9)).heap.size:=by rw[←sG];simp
         (try rw[sG]at hne)
         clear sG
         generalize Y.alloc (.cells #[.string key] 9)=Y at*
         try simp only[Act.put,aN,aO,aP]
         refine bJ (i:=10) (by kernel_rfl) rfl (fun K hK=>?_)
         refine Df wr Y [.string key] rfl (.tmp 34) (.tmp 41) 173 173 rfl 9 9 j0 _ 1 16 Tryz.underlying173 Tryz.underlying173 hji hy0 hy1 hy2 (by decide) (by decide) _ q (qK pl) hP _ 1 (by simp[Act.eval]) (by simp[Act.eval]) ny rfl (by simp[Value.oneCell']) (by simp only[maxLen];omega) (by omega) ?_
         intro Vq Vr Y3 sH FQ FT
         have hS:Y3.cell? ⟨w.heap.size,1,none⟩=some (.slice (some ⟨b,off,none⟩) m ck)∧Y3.cell? ⟨b,off+k*3,none⟩=some (.string key):=⟨sH.aH.cell' b1 id,sH.aH.cell' c0 id⟩
         refine hK.out _ _ hS ?_
         clear hK K FQ FT hP
         have iR:=ah sH;clear sH
         try simp only[Act.put,aN,aO,aP]
         refine iC (by kernel_rfl) (by kernel_rfl) rfl (fun K hK=>?_)
         go_simp
         refine hK.out _ _ ?_
         clear hK K ny hS
         have c1:=iR.out.aH.cell' c1 id
         have c2:=iR.out.aH.cell' c2 id
         have b1:=iR.out.aH.cell' b1 id
         go_wp2_with(first
          |(go_at_call 108;refine(HIH.out _ iR.out.aH _ (by have:=iR.out.rd;rw[Oj,List.length_append,HQ.out];exact this)).mono ?_;rintro e w3 ⟨v3,l3,rfl,ho3,hd3,vG⟩;obtain⟨a3,c3,rfl⟩:=ho3.shape;have dZ:=ah ho3;clear ho3;have HD3:=ah hd3;clear hd3;have zF:=ah vG;clear vG;have HKK:=ah (bT.out.keep (iR.out.aH.aC dZ.out.aH)))
          |(at_builtin;refine xq _ _ _ rfl (.tmp 43) (.tmp 51) 81 81 rfl 175 175 i0 _ 5 64 Tryz.underlying81 Tryz.underlying81 hi hz0 hz1 hz2 (by decide) (by decide) _ _ _ HKK.out _ l3.length rfl rfl dZ.out.rd (by rw[JF]) (Oh zF.out) (by have:=HLEN.out;rw[←HD3.out,yh]at this;simp only[maxLen];omega) (by have:=HLEN.out;rw[←HD3.out,yh]at this;omega) ?_;intro Vs Oo w5 lN;have OW:=ah lN;clear lN))
         go_roundw
         case rel=>exact⟨k+1,l++l3,by omega,by go_num,by rw[List.length_append,JE];exact OW.out,by rw[HD.out,Bf.out,Oi,HD3.out,List.append_assoc],qp.out.append zF.out⟩
         case measure=>simp[intOf];omega
        ·go_simp
         have hfA:aj ay Y (Y.alloc (.cells #[.string key] 9)):=aj.alloc _ _ _
         have hS:(Y.alloc (.cells #[.string key] 9)).cell? ⟨w.heap.size,1,none⟩=some (.slice (some ⟨b,off,none⟩) m ck)∧(Y.alloc (.cells #[.string key] 9)).cell? ⟨b,off+k*3,none⟩=some (.string key):=⟨hfA.cell' hS.1 id,hfA.cell' hS.2 id⟩
         have og:=og.aC hfA
         (try have hne:Y.heap.size≠eb:=by have:=BH;omega)
         (try have hE:=hE.keep hfA)
         (try have hP:=hP.keep hfA)
         have ny:Rd (Y.alloc (.cells #[.string key] 9)) (.slice (some ⟨Y.heap.size,0,none⟩) 1 1) 1 [.string key]:= .inr ⟨Y.heap.size,0,1,rfl,Nat.le_refl _,by decide,fun j u hu=>by rw[Nat.zero_add];exact au (heap_alloc_new Y _) j (by simpa using hu)⟩
         refine hK.out _ _ hS ?_
         clear hK K hfA
         obtain⟨kb,sG⟩:∃kb,Y.heap.size=kb:=⟨_,rfl⟩
         rw[sG]at ny⊢
         have hkb:kb<(Y.alloc (.cells #[.string key] 9)).heap.size:=by rw[←sG];simp
         (try rw[sG]at hne)
         clear sG
         generalize Y.alloc (.cells #[.string key] 9)=Y at*
         try simp only[Act.put,aN,aO,aP]
         refine bJ (i:=2) (by kernel_rfl) rfl (fun K hK=>?_)
         refine Df wr Y (qK pl) rfl (.tmp 32) (.tmp 33) 173 173 rfl 9 9 j0 _ 1 16 Tryz.underlying173 Tryz.underlying173 hji hy0 hy1 hy2 (by decide) (by decide) _ 0 [] hE _ q (by simp[Act.eval]) (by simp[Act.eval]) (BF.out.aJ og) (by rw[Ol,HQ.out];omega) (Om _) (by simp only[maxLen];omega) (by omega) ?_
         intro Vp II Y2 hP zD FP
         rw[Nat.zero_add]at hP
         rw[List.nil_append]at hP
         have hS:Y2.cell? ⟨w.heap.size,1,none⟩=some (.slice (some ⟨b,off,none⟩) m ck)∧Y2.cell? ⟨b,off+k*3,none⟩=some (.string key):=⟨hP.aH.cell' b1 id,hP.aH.cell' c0 id⟩
         have og:=hP.aH
         (try have ny:=ny.keep zD (fun x hx hr=>by simp[eY,Value.ownBlock]at hx hr;omega))
         rw[Nat.zero_add]
         refine hK.out _ _ hS ?_
         clear hK K zD FP hE BH
         generalize Y2=Y at*
         try simp only[Act.put,aN,aO,aP]
         refine bJ (i:=10) (by kernel_rfl) rfl (fun K hK=>?_)
         refine Df wr Y [.string key] rfl (.tmp 34) (.tmp 41) 173 173 rfl 9 9 j0 _ 1 16 Tryz.underlying173 Tryz.underlying173 hji hy0 hy1 hy2 (by decide) (by decide) _ q (qK pl) hP _ 1 (by simp[Act.eval]) (by simp[Act.eval]) ny rfl (by simp[Value.oneCell']) (by simp only[maxLen];omega) (by omega) ?_
         intro Vq Vr Y3 sH FQ FT
         have hS:Y3.cell? ⟨w.heap.size,1,none⟩=some (.slice (some ⟨b,off,none⟩) m ck)∧Y3.cell? ⟨b,off+k*3,none⟩=some (.string key):=⟨sH.aH.cell' b1 id,sH.aH.cell' c0 id⟩
         refine hK.out _ _ hS ?_
         clear hK K FQ FT hP
         have iR:=ah sH;clear sH
         try simp only[Act.put,aN,aO,aP]
         refine iC (by kernel_rfl) (by kernel_rfl) rfl (fun K hK=>?_)
         go_simp
         refine hK.out _ _ ?_
         clear hK K ny hS
         have c1:=iR.out.aH.cell' c1 id
         have c2:=iR.out.aH.cell' c2 id
         have b1:=iR.out.aH.cell' b1 id
         go_wp2_with(first
          |(go_at_call 108;refine(HIH.out _ iR.out.aH _ (by have:=iR.out.rd;rw[Oj,List.length_append,HQ.out];exact this)).mono ?_;rintro e w3 ⟨v3,l3,rfl,ho3,hd3,vG⟩;obtain⟨a3,c3,rfl⟩:=ho3.shape;have dZ:=ah ho3;clear ho3;have HD3:=ah hd3;clear hd3;have zF:=ah vG;clear vG;have HKK:=ah (bT.out.keep (iR.out.aH.aC dZ.out.aH)))
          |(at_builtin;refine xq _ _ _ rfl (.tmp 43) (.tmp 51) 81 81 rfl 175 175 i0 _ 5 64 Tryz.underlying81 Tryz.underlying81 hi hz0 hz1 hz2 (by decide) (by decide) _ _ _ HKK.out _ l3.length rfl rfl dZ.out.rd (by rw[JF]) (Oh zF.out) (by have:=HLEN.out;rw[←HD3.out,yh]at this;simp only[maxLen];omega) (by have:=HLEN.out;rw[←HD3.out,yh]at this;omega) ?_;intro Vs Oo w5 lN;have OW:=ah lN;clear lN))
         go_roundw
         case rel=>exact⟨k+1,l++l3,by omega,by go_num,by rw[List.length_append,JE];exact OW.out,by rw[HD.out,Bf.out,Oi,HD3.out,List.append_assoc],qp.out.append zF.out⟩
         case measure=>simp[intOf];omega
       ·go_simp
        have hfA:aj ay Y (Y.alloc (.cells #[.string key] 9)):=aj.alloc _ _ _
        have hS:(Y.alloc (.cells #[.string key] 9)).cell? ⟨w.heap.size,1,none⟩=some (.slice (some ⟨b,off,none⟩) m ck)∧(Y.alloc (.cells #[.string key] 9)).cell? ⟨b,off+k*3,none⟩=some (.string key):=⟨hfA.cell' hS.1 id,hfA.cell' hS.2 id⟩
        have og:=og.aC hfA
        (try have hne:Y.heap.size≠eb:=by have:=BH;omega)
        (try have hE:=hE.keep hfA)
        (try have hP:=hP.keep hfA)
        have ny:Rd (Y.alloc (.cells #[.string key] 9)) (.slice (some ⟨Y.heap.size,0,none⟩) 1 1) 1 [.string key]:= .inr ⟨Y.heap.size,0,1,rfl,Nat.le_refl _,by decide,fun j u hu=>by rw[Nat.zero_add];exact au (heap_alloc_new Y _) j (by simpa using hu)⟩
        refine hK.out _ _ hS ?_
        clear hK K hfA
        obtain⟨kb,sG⟩:∃kb,Y.heap.size=kb:=⟨_,rfl⟩
        rw[sG]at ny⊢
        have hkb:kb<(Y.alloc (.cells #[.string key] 9)).heap.size:=by rw[←sG];simp
        (try rw[sG]at hne)
        clear sG
        generalize Y.alloc (.cells #[.string key] 9)=Y at*
        try simp only[Act.put,aN,aO,aP]
        refine bJ (i:=0) (by kernel_rfl) rfl (fun K hK=>?_)
        go_simp
        have hfA:aj ay Y (Y.alloc (.cells #[] 9)):=aj.alloc _ _ _
        have hE:OwnAt wr (Y.alloc (.cells #[] 9)) 9 1 (.slice (some ⟨Y.heap.size,0,none⟩) 0 0) 0 []:=OwnAt.empty og _ _
        have hS:(Y.alloc (.cells #[] 9)).cell? ⟨w.heap.size,1,none⟩=some (.slice (some ⟨b,off,none⟩) m ck)∧(Y.alloc (.cells #[] 9)).cell? ⟨b,off+k*3,none⟩=some (.string key):=⟨hfA.cell' hS.1 id,hfA.cell' hS.2 id⟩
        have og:=og.aC hfA
        (try have hne:kb≠Y.heap.size:=by have:=hkb;omega)
        (try have ny:=ny.aJ hfA)
        refine hK.out _ _ hS ?_
        clear hK K hfA
        obtain⟨eb,heb⟩:∃eb,Y.heap.size=eb:=⟨_,rfl⟩
        rw[heb]at hE⊢
        have BH:eb<(Y.alloc (.cells #[] 9)).heap.size:=by rw[←heb];simp
        (try rw[heb]at hne)
        clear heb
        generalize Y.alloc (.cells #[] 9)=Y at*
        try simp only[Act.put,aN,aO,aP]
        refine bJ (i:=2) (by kernel_rfl) rfl (fun K hK=>?_)
        refine Df wr Y (qK pl) rfl (.tmp 32) (.tmp 33) 173 173 rfl 9 9 j0 _ 1 16 Tryz.underlying173 Tryz.underlying173 hji hy0 hy1 hy2 (by decide) (by decide) _ 0 [] hE _ q (by simp[Act.eval]) (by simp[Act.eval]) (BF.out.aJ og) (by rw[Ol,HQ.out];omega) (Om _) (by simp only[maxLen];omega) (by omega) ?_
        intro Vp II Y2 hP zD FP
        rw[Nat.zero_add]at hP
        rw[List.nil_append]at hP
        have hS:Y2.cell? ⟨w.heap.size,1,none⟩=some (.slice (some ⟨b,off,none⟩) m ck)∧Y2.cell? ⟨b,off+k*3,none⟩=some (.string key):=⟨hP.aH.cell' b1 id,hP.aH.cell' c0 id⟩
        have og:=hP.aH
        (try have ny:=ny.keep zD (fun x hx hr=>by simp[eY,Value.ownBlock]at hx hr;omega))
        rw[Nat.zero_add]
        refine hK.out _ _ hS ?_
        clear hK K zD FP hE BH
        generalize Y2=Y at*
        try simp only[Act.put,aN,aO,aP]
        refine bJ (i:=10) (by kernel_rfl) rfl (fun K hK=>?_)
        refine Df wr Y [.string key] rfl (.tmp 34) (.tmp 41) 173 173 rfl 9 9 j0 _ 1 16 Tryz.underlying173 Tryz.underlying173 hji hy0 hy1 hy2 (by decide) (by decide) _ q (qK pl) hP _ 1 (by simp[Act.eval]) (by simp[Act.eval]) ny rfl (by simp[Value.oneCell']) (by simp only[maxLen];omega) (by omega) ?_
        intro Vq Vr Y3 sH FQ FT
        have hS:Y3.cell? ⟨w.heap.size,1,none⟩=some (.slice (some ⟨b,off,none⟩) m ck)∧Y3.cell? ⟨b,off+k*3,none⟩=some (.string key):=⟨sH.aH.cell' b1 id,sH.aH.cell' c0 id⟩
        refine hK.out _ _ hS ?_
        clear hK K FQ FT hP
        have iR:=ah sH;clear sH
        try simp only[Act.put,aN,aO,aP]
        refine iC (by kernel_rfl) (by kernel_rfl) rfl (fun K hK=>?_)
        go_simp
        refine hK.out _ _ ?_
        clear hK K ny hS
        have c1:=iR.out.aH.cell' c1 id
        have c2:=iR.out.aH.cell' c2 id
        have b1:=iR.out.aH.cell' b1 id
        go_wp2_with(first
         |(go_at_call 108;refine(HIH.out _ iR.out.aH _ (by have:=iR.out.rd;rw[Oj,List.length_append,HQ.out];exact this)).mono ?_;rintro e w3 ⟨v3,l3,rfl,ho3,hd3,vG⟩;obtain⟨a3,c3,rfl⟩:=ho3.shape;have dZ:=ah ho3;clear ho3;have HD3:=ah hd3;clear hd3;have zF:=ah vG;clear vG;have HKK:=ah (bT.out.keep (iR.out.aH.aC dZ.out.aH)))
         |(at_builtin;refine xq _ _ _ rfl (.tmp 43) (.tmp 51) 81 81 rfl 175 175 i0 _ 5 64 Tryz.underlying81 Tryz.underlying81 hi hz0 hz1 hz2 (by decide) (by decide) _ _ _ HKK.out _ l3.length rfl rfl dZ.out.rd (by rw[JF]) (Oh zF.out) (by have:=HLEN.out;rw[←HD3.out,yh]at this;simp only[maxLen];omega) (by have:=HLEN.out;rw[←HD3.out,yh]at this;omega) ?_;intro Vs Oo w5 lN;have OW:=ah lN;clear lN))
        go_roundw
        case rel=>exact⟨k+1,l++l3,by omega,by go_num,by rw[List.length_append,JE];exact OW.out,by rw[HD.out,Bf.out,Oi,HD3.out,List.append_assoc],qp.out.append zF.out⟩
        case measure=>simp[intOf];omega
     ·obtain rfl:m=k:=by omega
      have hd:=HD.out
      rw[aS.yR (by rw[HM.out];exact Nat.le_refl _)]at hd
      have hd2:rJ l=iD es ks:=by rw[hd];simp[qV]
      have HD2:=ah hd2;clear hd2 hd
      go_wp2
      go_ret
      exact⟨_,l,rfl,bT.out.base dF.out,HD2.out,qp.out⟩
open Go.RowKit
theorem acA (Q:Nat→Prop) (es:List aQ) (ks:aS) (w:World) (ev kv:Value) (ht:dh Q w ev kv es ks) (hsz:sizeT es ks≤100000):
 Calls Tryz.prog 44 #[.agg #[ev,kv]] w (Vm w es ks):=by
 obtain⟨ae,ce,rfl⟩:=ht.ents.rd.sl
 obtain⟨os,hkr,iP⟩:=ht.kids
 obtain⟨ak,ck,rfl⟩:=hkr.rd.sl
 have HC:=ah (fun W (f:aj ay w W)=>acz Q _ es ks W _ _ (.slice none 0 0) [] (Nat.lt_succ_self _) (ht.aJ f) hsz (.inl ⟨none,rfl,rfl,rfl⟩) (by unfold sizeT at hsz;simp;omega))
 clear hkr iP ht hsz
 go_enter Tryz.func44,Tryz.ntmps44
 go_wp2_with(go_at_call 108;refine(HC.out _ (aj.alloc _ _ _)).mono ?_;rintro e w3 ⟨v3,l,rfl,ho3,hd3,vG⟩;obtain⟨a3,c3,rfl⟩:=ho3.shape;have dZ:=ah (ho3.base (aj.alloc ay w _));clear ho3;have HD3:=ah hd3;clear hd3;have HON:=ah vG;clear vG)
 go_ret
 exact⟨_,l,rfl,dZ.out,HD3.out,HON.out⟩
theorem Vt (Q:Nat→Prop) (es:List aQ) (ks:aS) (w:World) (ev kv:Value) (ht:dh Q w ev kv es ks) (hsz:sizeT es ks≤2000) (hd:xA (iD es ks)):
 Calls Tryz.prog 90 #[.agg #[ev,kv]] w fun e w'=>∃v' c,e= .returned v'∧OwnAt w w' 144 3 v' c.length (fJ c)∧qO (iD es ks) c∧c.length≤8000:=by
 obtain⟨i0,hi,hz0,hz1,hz2⟩:=info_parts RV
 obtain⟨ae,ce,rfl⟩:=ht.ents.rd.sl
 obtain⟨os,hkr,iP⟩:=ht.kids
 obtain⟨ak,ck,rfl⟩:=hkr.rd.sl
 have HC:=ah (fun W (f:aj ay w W)=>acA Q es ks W _ _ (ht.aJ f) (by omega))
 have hdl:=EC es ks
 have oK:=ah (show(iD es ks).length≤2000 by omega)
 have HDK:=ah hd;clear hd
 have bD:=ah (aj.alloc ay w (.cells #[.slice ae es.length ce, .slice ak ks.len ck] 30))
 clear hkr iP ht hsz hdl
 go_enter Tryz.func90,Tryz.ntmps90
 go_wp2_with(go_at_call 44;refine(HC.out _ bD.out).mono ?_;rintro e w3 ⟨v3,l,rfl,ho3,hd3,-⟩;obtain⟨a3,c3,rfl⟩:=ho3.shape;have dZ:=ah (ho3.base bD.out);clear ho3;have HD3:=ah hd3;clear hd3)
 have hl:=oK.out
 rw[←HD3.out,yh]at hl
 generalize hn:l.length=n at*
 have HN:=ah hn;clear hn
 go_loopw [3,10] (fun v i ww=>∃k:Nat,k≤n∧i= .int .i64 k∧OwnAt w3 ww 170 2 v k (fH (rJ (l.take k)))) (fun _ i _=>n-(intOf i).toNat)
 case atStart=>exact⟨0,Nat.zero_le _,rfl,OwnAt.nil (aj.refl _ _) _ _⟩
 case round=>
  obtain⟨k,hk,rfl,ho⟩:=hrel
  obtain⟨av,cv,rfl⟩:=ho.shape
  have HO:=ah ho;clear ho
  by_cases hlt:k<n
  ·rcases Rd.shape dZ.out.rd with⟨ad,he,h0⟩|⟨b,off,cc,he,hmax⟩
   ·exfalso;omega
   ·injection he with e1 e2 e3
    subst e1 e3
    clear e2
    have hlk:k<l.length:=by rw[HN.out];exact hlt
    obtain⟨p0,p1⟩:=acp dZ.out.rd k hlk
    have q0:=HO.out.aH.cell' p0 id
    have q1:=HO.out.aH.cell' p1 id
    clear p0 p1
    have hE:=acr hlk
    generalize l.getD k (.bool true,aQ.zero)=x at*
    have Bc:=ah hE;clear hE
    go_wp2_with(at_builtin;refine qP _ _ [.int .i64 x.2.dc, .int .i64 x.2.n] rfl (.tmp 13) (.tmp 20) 226 rfl 170 i0 _ 2 16 Tryz.underlying226 hi hz0 hz1 hz2 (by decide) (by decide) _ _ _ HO.out 1 1 rfl (by simp[Act.eval]) rfl (by simp[Value.oneCell']) (by simp only[maxLen];omega) (by omega) ?_;intro IE qQ w2 dM;have OW:=ah dM;clear dM)
    go_roundw
    case rel=>exact⟨k+1,by omega,by go_num,by rw[Bc.out,rV];exact OW.out⟩
    case measure=>simp[intOf];omega
  ·obtain rfl:n=k:=by omega
   rw[List.take_of_length_le (by rw[HN.out];exact Nat.le_refl _),HD3.out]at HO
   have hnn:n=(iD es ks).length:=by rw[←HD3.out,yh];exact HN.out.symm
   have hrun:lK wr (.slice av n cv) (iD es ks):=by show Rd wr _ (iD es ks).length _;rw[←hnn];exact HO.out.rd
   have jA:=ah hrun;clear hrun hnn
   go_wp2_with(go_at_call 153;refine(ZC _ _ (iD es ks) jA.out HDK.out (by have:=oK.out;omega)).mono ?_;rintro e w5 ⟨v5,c5,rfl,qX,hof,-⟩;obtain⟨a5,Oo,rfl⟩:=qX.shape;have xM:=ah qX;clear qX;have gy:=ah hof;clear hof)
   go_ret
   exact⟨_,c5,rfl,(xM.out.base HO.out.aH).base dZ.out.aH,gy.out,by have:=gy.out.length;have:=oK.out;omega⟩
open Go.RowKit
theorem Vu (Q:Nat→Prop) (es:List aQ) (ks:aS) (w:World) (ev kv:Value) (ht:dh Q w ev kv es ks) (hok:oI es ks):
 Calls Tryz.prog 149 #[.agg #[ev,kv]] w fun e w'=>e= .returned (.bool (dD 5 es ks))∧aj ay w w':=by
 obtain⟨ae,ce,rfl⟩:=ht.ents.rd.sl
 obtain⟨os,hkr,iP⟩:=ht.kids
 obtain⟨ak,ck,rfl⟩:=hkr.rd.sl
 have hc:∀W,aj ay w W→Calls Tryz.prog 189 #[.agg #[.slice ae es.length ce, .slice ak ks.len ck], .int .i64 5] W fun e w'=>e= .returned (.bool (dD 5 es ks))∧aj ay W w':=fun W f=>ZR Q _ es ks 5 W _ _ (Nat.lt_succ_self _) (ht.aJ f) hok (by omega)
 have HC:=ah hc
 clear hkr iP ht hok hc
 generalize dD 5 es ks=y at*
 generalize es.length=n at*
 generalize ks.len=m at*
 go_enter Tryz.func149,Tryz.ntmps149
 go_wp2_with(go_at_call 189;refine(HC.out _ (aj.alloc _ _ _)).mono ?_;rintro e w3 ⟨rfl,hw3⟩;have HW3:=ah ((aj.alloc ay _ _).aC hw3);clear hw3)
 go_ret
 exact⟨rfl,HW3.out⟩
end Go.Proofs.YtabkpccdnkjoiaaGreat
