/- Words for the law MsgSame: Front, SolidA, MsgB, MsgC0, CrcP, MsgP. -/
import Derived.Test.YtabkpccdnkjoiaaGreatMsgSameG0
import Derived.Test.YtabkpccdnkjoiaaGreatMsgSameG10
import Derived.Test.YtabkpccdnkjoiaaGreatMsgSameG12
import Derived.Test.YtabkpccdnkjoiaaGreatMsgSameG17
set_option linter.unusedSimpArgs false
set_option linter.unusedVariables false
set_option maxHeartbeats 32000000
set_option maxRecDepth 1000000
namespace Go.Proofs.YtabkpccdnkjoiaaGreat
open Go.RowKit
def lW:aX→Int
 |[]=>0
 |r::_=>if r.1=1 then r.2 else 0
theorem Qz {l:aX} (h:l≠ []):lW l=if(l.getD 0 (0,0)).1=1 then(l.getD 0 (0,0)).2 else 0:=by
 cases l with
 |nil=>exact absurd rfl h
 |cons r l=>rfl
theorem YU (w:World) (v:Value) (l:aX) (h:ku w v l) (hr:dA l):Calls Tryz.prog 224 #[v] w fun e w'=>e= .returned (.int .i64 (lW l))∧aj ay w w':=by
 have HR:=ah (bZ hr▸Ey w v l h hr.fits)
 rcases Rd.shape h with⟨ad,rfl,h0⟩|⟨b,off,c,rfl,hmax⟩
 ·obtain rfl:l=[]:=List.eq_nil_of_length_eq_zero h0
  clear h hr
  go_enter Tryz.func224,Tryz.ntmps224
  go_wp2_with(go_at_call 251;refine HR.out.mono ?_;rintro e w1 ⟨rfl,hw1⟩;have HW1:=ah hw1;clear hw1)
  go_ret
  exact⟨rfl,HW1.out⟩
 ·by_cases hl:l=[]
  ·subst hl
   clear h hr
   go_enter Tryz.func224,Tryz.ntmps224
   go_wp2_with(go_at_call 251;refine HR.out.mono ?_;rintro e w1 ⟨rfl,hw1⟩;have HW1:=ah hw1;clear hw1)
   go_ret
   exact⟨rfl,HW1.out⟩
  ·have hp:0<l.length:=List.length_pos_iff.2 hl
   obtain⟨c0,c1⟩:=nM h rfl 0 hp
   rw[Nat.zero_mul,Nat.add_zero]at c0 c1
   have HF:=ah (Qz hl)
   have C0:=ah c0;clear c0
   have C1:=ah c1;clear c1
   have hn0:((l.length:Int)==0)=false:=beq_false_of_ne (by omega)
   have hn1:(1:Int)≤l.length:=by omega
   generalize (l.getD 0 (0,0)).1=x at*
   generalize (l.getD 0 (0,0)).2=y at*
   clear h hr hl hp
   generalize l.length=n at*
   by_cases hx:x=1
   ·subst hx
    rw[if_pos rfl]at HF
    go_enter Tryz.func224,Tryz.ntmps224
    go_wp2_with(go_at_call 251;refine HR.out.mono ?_;rintro e w1 ⟨rfl,hw1⟩;have d0:=hw1.cell' C0.out id;have d1:=hw1.cell' C1.out id;have HW1:=ah hw1;clear hw1)
    go_ret
    exact⟨by rw[HF.out];rfl,HW1.out⟩
   ·rw[if_neg hx]at HF
    have hxb:((x:Int) !=1)=true:=by simp[bne,hx]
    clear hx
    go_enter Tryz.func224,Tryz.ntmps224
    go_wp2_with(go_at_call 251;refine HR.out.mono ?_;rintro e w1 ⟨rfl,hw1⟩;have d0:=hw1.cell' C0.out id;have d1:=hw1.cell' C1.out id;have HW1:=ah hw1;clear hw1)
    go_ret
    exact⟨by rw[HF.out];rfl,HW1.out⟩
theorem YV {l:aX} {lo:Int} (h:gQ lo l) (hlo:2≤lo):∀r∈l,r.1≠1:=by
 induction l generalizing lo with
 |nil=>intro r hr;cases hr
 |cons a l ih=>
  intro r hr
  obtain⟨h1,h2,h3⟩:=h
  rcases List.mem_cons.1 hr with rfl|hr
  ·omega
  ·exact ih h3 (by omega) r hr
theorem YW (w:World) (v:Value) (l:aX) (h:ku w v l) (hr:∀k,0<k→k<l.length→(l.getD k (0,0)).1≠1):Calls Tryz.prog 141 #[v] w fun e w'=>e= .returned (.int .i64 (lW l))∧aj ay w w':=by
 obtain⟨a,c,rfl⟩:=Rd.sl h
 have HH:=ah h;clear h
 have HR:=ah hr;clear hr
 generalize hn:l.length=n at*
 have HN:=ah hn;clear hn
 go_enter Tryz.func141,Tryz.ntmps141
 go_wp2
 go_loopw [6] (fun i W=>∃k:Nat,k≤n∧i= .int .i64 k∧(0<k→lW l=0)∧W=w) (fun i _=>n-(intOf i).toNat)
 case atStart=>exact⟨0,Nat.zero_le _,rfl,fun h=>absurd h (by omega),rfl⟩
 case round=>
  obtain⟨k,hk,rfl,hz,rfl⟩:=hrel
  have HZ:=ah hz;clear hz
  by_cases hlt:k<n
  ·have hkl:k<l.length:=by rw[HN.out];exact hlt
   have hrd:=HH.out
   rcases Rd.shape hrd with⟨ad,he,h0⟩|⟨b,off,cc,he,hmax⟩
   ·exfalso;have:=HN.out;omega
   injection he with e1 e2 e3
   subst e1 e3
   clear e2
   obtain⟨q0,q1⟩:=nM HH.out HN.out.symm k hkl
   have hmx:(n:Int)≤9223372036854775807:=by have:=HN.out;omega
   clear hrd hmax
   have Kq:=ah (fun h0:0<k=>HR.out k h0 hlt)
   have nU:=ah (show k=0→lW l=if(l.getD k (0,0)).1=1 then(l.getD k (0,0)).2 else 0 from fun h0=>by subst h0;exact Qz (l:=l) (fun e=>by rw[e]at hkl;cases hkl))
   generalize (l.getD k (0,0)).1=x at*
   generalize (l.getD k (0,0)).2=y at*
   by_cases hx:x=1
   ·have hk0:k=0:=by
     by_cases h0:0<k
     ·exact absurd hx (Kq.out h0)
     ·omega
    have HF:=ah (nU.out hk0)
    rw[if_pos hx]at HF
    subst hx
    clear Kq nU hk0
    go_wp2
    go_ret
    exact⟨by rw[HF.out];rfl,aj.refl _ _⟩
   ·have hxb:((x:Int)==1)=false:=beq_false_of_ne hx
    have HZ2:=ah (show 0<k+1→lW l=0 from fun _=>by
     by_cases h0:0<k
     ·exact HZ.out h0
     ·rw[nU.out (by omega),if_neg hx])
    clear Kq nU hx
    go_wp2
    go_roundw
    case rel=>exact⟨k+1,by omega,by go_num,HZ2.out,trivial⟩
    case measure=>simp[intOf];omega
  ·obtain rfl:n=k:=by omega
   have HF:=ah (show lW l=0 by
    by_cases h0:0<n
    ·exact HZ.out h0
    ·obtain rfl:l=[]:=List.eq_nil_of_length_eq_zero (by rw[HN.out];omega)
     rfl)
   go_wp2
   go_ret
   exact⟨by rw[HF.out];rfl,aj.refl _ _⟩
theorem YX (w:World) (v:Value) (ct:aW) (h:fZ w v ct) (hr:dw ct) (hl:ct.length≤100000):Calls Tryz.prog 177 #[v] w fun e w'=>e= .returned (.agg (nD fun d=>lW (bI ct d)))∧aj ay w w':=by
 have HC:=ah (fun W (fr:aj ay w W)=>BF W v ct (Rd.aO h fr) hr.fits (by omega))
 obtain⟨a,c,rfl⟩:=Rd.sl h
 have eF:=ah hr
 have yV:=ah (fun d h0 h4=>(hr.2 d h0 h4:dA (bI ct d)))
 clear h hr
 generalize hf:(fun d=>lW (bI ct d))=f at*
 have Kr:=ah (fun d=>(by rw[←hf]:f d=lW (bI ct d)))
 clear hf
 generalize ct.length=n at*
 obtain⟨hb1,hfb,hbs⟩:=sZ w (.cells #[.int .i64 0, .int .i64 0, .int .i64 0, .int .i64 0] 25) #[.int .i64 0, .int .i64 0, .int .i64 0, .int .i64 0] 25
 have hb0:((w.alloc (.cells #[.int .i64 0, .int .i64 0, .int .i64 0, .int .i64 0] 25)).alloc (.cells #[.int .i64 0, .int .i64 0, .int .i64 0, .int .i64 0] 25)).heap[w.heap.size]?=some (.cells #[.int .i64 0, .int .i64 0, .int .i64 0, .int .i64 0] 25 (0,0)):=(aj.alloc ay _ _).blk (heap_alloc_new w _) id
 have HB1:=ah hb1;clear hb1
 have HB0:=ah hb0;clear hb0
 have bg:=ah hfb;clear hfb
 have uT:=ah hbs;clear hbs
 go_enter Tryz.func177,Tryz.ntmps177
 go_wp2_with(go_at_call 205;refine(HC.out _ bg.out).mono ?_;rintro e w1 ⟨hf1,hp1,-⟩;obtain⟨A,rfl,hpt⟩:=hp1 eF.out;clear hp1;have bH:=ah hf1;clear hf1;have oq:=ah hpt;clear hpt)
 have hix:∀(k:Nat),k<4→∀W,(Instr.index 268 (.agg #[.slice (A 0).1 (A 0).2.1 (A 0).2.2, .slice (A 1).1 (A 1).2.1 (A 1).2.2, .slice (A 2).1 (A 2).2.1 (A 2).2.2, .slice (A 3).1 (A 3).2.1 (A 3).2.2]) (.int .i64 (k:Int))).run Tryz.prog W= .ok (.slice (A k).1 (A k).2.1 (A k).2.2) W:=fun k hk=>by
  rcases(by omega:k=0∨k=1∨k=2∨k=3)with rfl|rfl|rfl|rfl<;>exact fun _=>by kernel_rfl
 have BZ:=ah hix;clear hix
 have hfa:aj ay w1 (w1.alloc (.cells #[.slice (A 0).1 (A 0).2.1 (A 0).2.2, .slice (A 1).1 (A 1).2.1 (A 1).2.2, .slice (A 2).1 (A 2).2.1 (A 2).2.2, .slice (A 3).1 (A 3).2.1 (A 3).2.2] 268)):=aj.alloc _ _ _
 have hst:qW w w1 (w1.alloc (.cells #[.slice (A 0).1 (A 0).2.1 (A 0).2.2, .slice (A 1).1 (A 1).2.1 (A 1).2.2, .slice (A 2).1 (A 2).2.1 (A 2).2.2, .slice (A 3).1 (A 3).2.1 (A 3).2.2] 268)) (fun _=>0) 25:=
  ⟨hfa.blk (bH.out.blk HB1.out id) id,hfa.blk (bH.out.blk HB0.out id) id,(bg.out.au bH.out).au hfa,hfa.mono fun _ _ h=>h.elim⟩
 have HST:=ah hst;clear hst hfa
 go_loopw [15] (fun i ww=>∃k:Nat,k≤4∧i= .int .i64 k∧qW w w1 ww (wG f k) 25) (fun i _=>4-(intOf i).toNat)
 case atStart=>exact⟨0,Nat.zero_le _,rfl,HST.out.congr fun d h0 h4=>by unfold wG;rw[if_neg (by omega)]⟩
 case round=>
  obtain⟨k,hk,rfl,hv⟩:=hrel
  have HV:=ah hv;clear hv
  by_cases hlt:k<4
  ·have hki:(k:Int)<4:=by omega
   have hx:=BZ.out k hlt
   have ho:=oq.out.own k hlt
   have hsz1:=uT.out
   have hrun:ku wr (.slice (A k).1 (A k).2.1 (A k).2.2) (bI ct k):=ho.rd.keep HV.out.old fun b hb he=>by have:=ho.new b hb;omega
   have lK:=ah (Kr.out k▸YU wr _ (bI ct k) hrun (yV.out k (by omega) hki))
   have Kt:=ah (fun d=>Qx f k d)
   clear ho hrun hsz1
   obtain⟨ak,lk,ck,hak⟩:∃ak lk ck,A k=(ak,lk,ck):=⟨_,_,_,rfl⟩
   rw[hak]at hx lK
   clear hak
   generalize f k=x at*
   go_wp2_with(go_at_call 224;refine lK.out.mono ?_;rintro e w2 ⟨rfl,hw2⟩;have gY:=ah (HV.out.keep hw2);clear hw2;have z0:=gY.out.a.cell hlt;have g0:=gY.out.a.free k;have Ku:=ah (gY.out.set hlt x))
   clear z0 g0
   go_roundw
   case rel=>exact⟨k+1,by omega,by go_num,Ku.out.congr fun d h0 h4=>Kt.out d⟩
   case measure=>simp[intOf];omega
  ·obtain rfl:k=4:=by omega
   have gY:=ah (HV.out.congr fun d h0 h4=>Qy f h4)
   have a0':=gY.out.a.cell (k:=0) (by decide)
   have a1':=gY.out.a.cell (k:=1) (by decide)
   have a2':=gY.out.a.cell (k:=2) (by decide)
   have a3':=gY.out.a.cell (k:=3) (by decide)
   have r0:=gY.out.r.cell (k:=0) (by decide)
   have r1:=gY.out.r.cell (k:=1) (by decide)
   have r2:=gY.out.r.cell (k:=2) (by decide)
   have r3:=gY.out.r.cell (k:=3) (by decide)
   have g0:=gY.out.r.free 0
   have g1:=gY.out.r.free 1
   have g2:=gY.out.r.free 2
   have g3:=gY.out.r.free 3
   have HR:=ah (gY.out.r.Dh f)
   have HF:=ah (gY.out.aP.Dh (b:=w.heap.size) (Nat.le_refl _) (.int .i64 (f 0)) (.int .i64 (f 1)) (.int .i64 (f 2)) (.int .i64 (f 3)))
   go_wp2
   clear a0' a1' a2' a3' r0 r1 r2 r3 g0 g1 g2 g3
   have r0:=HR.out.cell (k:=0) (by decide)
   have r1:=HR.out.cell (k:=1) (by decide)
   have r2:=HR.out.cell (k:=2) (by decide)
   have r3:=HR.out.cell (k:=3) (by decide)
   exact bodyPost_ret (v:= .agg (nD f)) (by simp[results,Tryz.results177,go_sem,r0,r1,r2,r3,nD]) rfl ⟨rfl,HF.out⟩
open Go.RowKit
def wH:aX→Bool
 |[]=>true
 |[r]=>r.1==1
 |_=>false
def qX (c:aW) (k:Nat):Bool:=(List.range k).all fun d=>wH (bI c d)
theorem YZ (c:aW) (k:Nat):qX c (k+1)=(qX c k&&wH (bI c k)):=by
 unfold qX
 rw[List.range_succ,List.all_append]
 simp
def bT (c:aW) (d:Int):Int:=lW (bI c d)
theorem Y_ {l:aX} (h:dA l):jR (lW l)=l↔wH l=true:=by
 match l,h with
 |[],_=>exact⟨fun _=>rfl,fun _=>rfl⟩
 |[(a,b)],h=>
  have h1:1≤a∧a≤b:=by
   obtain⟨⟨g1,g2,_⟩,_⟩:=h
   exact⟨g1,g2⟩
  by_cases ha:a=1
  ·subst ha
   refine⟨fun _=>rfl,fun _=>?_⟩
   show jR (if(1:Int)=1 then b else 0)=_
   rw[if_pos rfl]
   exact if_pos (by omega)
  ·constructor
   ·intro e
    exfalso
    have e2:lW [(a,b)]=0:=if_neg ha
    rw[e2]at e
    cases e
   ·intro e
    exact absurd (eq_of_beq (show(a==1)=true from e)) ha
 |r::r2::l,_=>
  constructor
  ·intro e
   exfalso
   have e2:=congrArg List.length e
   unfold jR at e2
   split at e2
   ·simp at e2
   ·simp at e2
  ·intro e
   cases e
theorem QA {c:aW} (h:dw c):qX c 4=true↔c=eU (bT c):=by
 have e4:qX c 4=(wH (bI c 0)&&(wH (bI c 1)&&(wH (bI c 2)&&wH (bI c 3)))):=by
  unfold qX
  simp[List.range,List.range.loop,Bool.and_assoc]
 have p:∀d:Int,0≤d→d<4→(jR (bT c d)=bI c d↔wH (bI c d)=true):=fun d h0 h4=>Y_ (h.2 d h0 h4)
 rw[e4]
 simp only[Bool.and_eq_true]
 constructor
 ·rintro⟨g0,g1,g2,g3⟩
  have e0:=(p 0 (by decide) (by decide)).2 g0
  have e1:=(p 1 (by decide) (by decide)).2 g1
  have e2:=(p 2 (by decide) (by decide)).2 g2
  have e3:=(p 3 (by decide) (by decide)).2 g3
  refine(zH (Int.le_refl 0) h.1).symm.trans ?_
  show dP 0 (bI c 0)++(dP 1 (bI c 1)++(dP 2 (bI c 2)++dP 3 (bI c 3)))=dP 0 (jR (bT c 0))++(dP 1 (jR (bT c 1))++(dP 2 (jR (bT c 2))++dP 3 (jR (bT c 3))))
  rw[e0,e1,e2,e3]
 ·intro e
  have key:∀d:Int,0≤d→d<4→wH (bI c d)=true:=fun d h0 h4=>(p d h0 h4).1 (by
   have e5:bI (eU (bT c)) d=jR (bT c d):=Bl _ h0 h4
   rw[←e]at e5
   exact e5.symm)
  exact⟨key 0 (by decide) (by decide),key 1 (by decide) (by decide),key 2 (by decide) (by decide),key 3 (by decide) (by decide)⟩
theorem Za (w:World) (v:Value) (ct:aW) (h:fZ w v ct) (hr:dw ct) (hl:ct.length≤100000):Calls Tryz.prog 176 #[v] w fun e w'=>e= .returned (.bool (qX ct 4))∧aj ay w w':=by
 have HC:=ah (BF w v ct h hr.fits (by omega))
 obtain⟨a,c,rfl⟩:=Rd.sl h
 have eF:=ah hr
 clear h hr
 generalize ct.length=n at*
 go_enter Tryz.func176,Tryz.ntmps176
 go_wp2_with(go_at_call 205;refine HC.out.mono ?_;rintro e w1 ⟨hf1,hp1,-⟩;obtain⟨A,rfl,hpt⟩:=hp1 eF.out;clear hp1;have bH:=ah hf1;clear hf1;have oq:=ah hpt;clear hpt)
 have hix:∀(k:Nat),k<4→∀W,(Instr.index 268 (.agg #[.slice (A 0).1 (A 0).2.1 (A 0).2.2, .slice (A 1).1 (A 1).2.1 (A 1).2.2, .slice (A 2).1 (A 2).2.1 (A 2).2.2, .slice (A 3).1 (A 3).2.1 (A 3).2.2]) (.int .i64 (k:Int))).run Tryz.prog W= .ok (.slice (A k).1 (A k).2.1 (A k).2.2) W:=fun k hk=>by
  rcases(by omega:k=0∨k=1∨k=2∨k=3)with rfl|rfl|rfl|rfl<;>exact fun _=>by kernel_rfl
 have BZ:=ah hix;clear hix
 have hfa:aj ay w1 (w1.alloc (.cells #[.slice (A 0).1 (A 0).2.1 (A 0).2.2, .slice (A 1).1 (A 1).2.1 (A 1).2.2, .slice (A 2).1 (A 2).2.1 (A 2).2.2, .slice (A 3).1 (A 3).2.1 (A 3).2.2] 268)):=aj.alloc _ _ _
 have aU:=ah hfa;clear hfa
 go_loopw [4,13] (fun o i ww=>∃k:Nat,k≤4∧i= .int .i64 k∧o= .bool (qX ct k)∧aj ay w1 ww) (fun _ i _=>4-(intOf i).toNat)
 case atStart=>exact⟨0,Nat.zero_le _,rfl,rfl,aU.out⟩
 case round=>
  obtain⟨k,hk,rfl,rfl,hw⟩:=hrel
  have HW:=ah hw;clear hw
  by_cases hlt:k<4
  ·have hki:(k:Int)<4:=by omega
   have hx:=BZ.out k hlt
   have ho:=oq.out.own k hlt
   have HS:=ah (YZ ct k)
   obtain⟨ak,lk,ck,hak⟩:∃ak lk ck,A k=(ak,lk,ck):=⟨_,_,_,rfl⟩
   rw[hak]at hx ho
   have hro:Rd wr (.slice ak lk ck) (bI ct k).length (dU (bI ct k)):=ho.rd.aO HW.out
   generalize bI ct k=l at*
   obtain⟨a',c',e⟩:=hro.sl
   injection e with e1 e2 e3
   subst e1 e2 e3
   clear ho hak
   cases hq:qX ct k with
   |false=>
    rw[hq]at HS
    clear hro
    generalize l.length=ln at*
    go_wp2
    go_roundw
    case rel=>exact⟨k+1,by omega,by go_num,by rw[HS.out];rfl,HW.out⟩
    case measure=>simp[intOf];omega
   |true=>
    rw[hq]at HS
    rcases l with _|⟨r,_|⟨r2,l'⟩⟩
    ·simp only[List.length_nil]at hx
     clear hro
     go_wp2
     go_roundw
     case rel=>exact⟨k+1,by omega,by go_num,by rw[HS.out];rfl,HW.out⟩
     case measure=>simp[intOf];omega
    ·replace hx:∀W,_=Result.ok (Value.slice _ 1 _) W:=hx
     rcases Rd.shape hro with⟨ad,he,h0⟩|⟨g,off,cc,he,hmax⟩
     ·cases h0
     injection he with e4 e5 e6
     subst e4
     have c0:=(nM (l:=[r]) (n:=1) (c:=ck) (show ku wr (.slice (some ⟨g,off,none⟩) 1 ck) [r]from hro) rfl 0 (Nat.succ_pos _)).1
     rw[Nat.zero_mul,Nat.add_zero]at c0
     replace c0:wr.cell? ⟨g,off,none⟩=some (.int .i64 r.1):=c0
     have HS2:=ah (show qX ct (k+1)=(true&&(r.1==1))from HS.out)
     generalize r.1=x at*
     clear hro hmax HS e5 e6
     by_cases hx1:x=1
     ·subst hx1
      go_wp2
      go_roundw
      case rel=>exact⟨k+1,by omega,by go_num,by rw[HS2.out];rfl,HW.out⟩
      case measure=>simp[intOf];omega
     ·have hxb:((x:Int)==1)=false:=beq_false_of_ne hx1
      rw[hxb]at HS2
      clear hx1
      go_wp2
      go_roundw
      case rel=>exact⟨k+1,by omega,by go_num,by rw[HS2.out];rfl,HW.out⟩
      case measure=>simp[intOf];omega
    ·have hl0:(((r::r2::l').length:Int)==0)=false:=beq_false_of_ne (by simp;omega)
     have hl1:(((r::r2::l').length:Int)==1)=false:=beq_false_of_ne (by simp;omega)
     have HS2:=ah (show qX ct (k+1)=(true&&false)from HS.out)
     clear hro HS
     generalize (r::r2::l').length=ln at*
     go_wp2
     go_roundw
     case rel=>exact⟨k+1,by omega,by go_num,by rw[HS2.out];rfl,HW.out⟩
     case measure=>simp[intOf];omega
  ·obtain rfl:k=4:=by omega
   go_wp2
   go_ret
   exact⟨rfl,bH.out.au HW.out⟩
open Go.RowKit
theorem Aq (w:World) (u0 u1 u2 u3 u4 u5 u6 u7 u8 u9 u10:Value) (T:TypeId) (W:World) (f:aj ay (w.alloc (.cells #[u0,u1,u2,u3,u4,u5,u6,u7,u8,u9,u10] T)) W):W.cell? ⟨w.heap.size,0,none⟩=some u0∧W.cell? ⟨w.heap.size,1,none⟩=some u1∧W.cell? ⟨w.heap.size,2,none⟩=some u2∧W.cell? ⟨w.heap.size,3,none⟩=some u3∧W.cell? ⟨w.heap.size,4,none⟩=some u4∧W.cell? ⟨w.heap.size,5,none⟩=some u5∧W.cell? ⟨w.heap.size,6,none⟩=some u6∧W.cell? ⟨w.heap.size,7,none⟩=some u7∧W.cell? ⟨w.heap.size,8,none⟩=some u8∧W.cell? ⟨w.heap.size,9,none⟩=some u9∧W.cell? ⟨w.heap.size,10,none⟩=some u10:=
 ⟨f.cell' (aC (heap_alloc_new w _) 0 rfl) id,f.cell' (aC (heap_alloc_new w _) 1 rfl) id,f.cell' (aC (heap_alloc_new w _) 2 rfl) id,f.cell' (aC (heap_alloc_new w _) 3 rfl) id,f.cell' (aC (heap_alloc_new w _) 4 rfl) id,f.cell' (aC (heap_alloc_new w _) 5 rfl) id,f.cell' (aC (heap_alloc_new w _) 6 rfl) id,f.cell' (aC (heap_alloc_new w _) 7 rfl) id,f.cell' (aC (heap_alloc_new w _) 8 rfl) id,f.cell' (aC (heap_alloc_new w _) 9 rfl) id,f.cell' (aC (heap_alloc_new w _) 10 rfl) id⟩
def qh (v0 v1 v2 v3:Int) (es:List aG) (ks:aH) (c:aW):Prop:=fG es ks c∧qX c 4=true∧(bT c 0=v0∧bT c 1=v1∧bT c 2=v2∧bT c 3=v3)∧es=[]
theorem Zb (Q:Nat→Prop) (es:List aG) (ks:aH) (c:aW) (w:World) (kind fr to' v0 v1 v2 v3:Int) (lv ev kv cv:Value) (hlv:∃a n c,lv= .slice a n c) (h:fH Q w ev kv cv es ks c) (hok:fP es ks c):
 Calls Tryz.prog 130 #[.agg #[.int .i64 kind, .int .i64 fr, .int .i64 to', .int .i64 v0, .int .i64 v1, .int .i64 v2, .int .i64 v3,lv,ev,kv,cv]] w fun e w'=>e= .returned (.bool (tf (qh v0 v1 v2 v3 es ks c)))∧aj ay w w':=by
 obtain⟨a0,c0,a1,c1,a2,c2,rfl,rfl,rfl⟩:=h.shape
 obtain⟨al,nl,cl,rfl⟩:=hlv
 have HT:=ah (fun W (f:aj ay w W)=>yO Q es ks c W _ _ _ (h.aO f) hok)
 have aQ:=ah (show ∀W,aj ay (w.alloc (.cells #[.int .i64 kind, .int .i64 fr, .int .i64 to', .int .i64 v0, .int .i64 v1, .int .i64 v2, .int .i64 v3, .slice al nl cl, .slice a0 es.length c0, .slice a1 ks.len c1, .slice a2 c.length c2] 36)) W→W.cell? ⟨w.heap.size,3,none⟩=some (.int .i64 v0)∧W.cell? ⟨w.heap.size,4,none⟩=some (.int .i64 v1)∧W.cell? ⟨w.heap.size,5,none⟩=some (.int .i64 v2)∧W.cell? ⟨w.heap.size,6,none⟩=some (.int .i64 v3)∧W.cell? ⟨w.heap.size,8,none⟩=some (.slice a0 es.length c0)∧W.cell? ⟨w.heap.size,9,none⟩=some (.slice a1 ks.len c1)∧W.cell? ⟨w.heap.size,10,none⟩=some (.slice a2 c.length c2)from fun W f=>by
  obtain⟨_,_,_,y3,y4,y5,y6,_,y8,y9,aT⟩:=Aq w _ _ _ _ _ _ _ _ _ _ _ _ W f
  exact⟨y3,y4,y5,y6,y8,y9,aT⟩)
 by_cases hr:fG es ks c
 rotate_left 1
 ·rw[aZ hr]at HT
  rw[aZ (show ¬qh v0 v1 v2 v3 es ks c from fun h=>hr h.1)]
  clear hr h hok
  generalize es.length=n at*
  generalize ks.len=m at*
  generalize c.length=k at*
  obtain⟨α,hne,K,hK1,hK0,hK2⟩:=worlds (w.alloc (.cells #[.int .i64 kind, .int .i64 fr, .int .i64 to', .int .i64 v0, .int .i64 v1, .int .i64 v2, .int .i64 v3, .slice al nl cl, .slice a0 n c0, .slice a1 m c1, .slice a2 k c2] 36))
  have fV:=ah (fun s=>(aj.alloc ay w _).au (hK1 s))
  have kb:=fun s=>aQ.out (K s) (hK1 s)
  have k0:=fun s=>(kb s).1
  have k1:=fun s=>(kb s).2.1
  have k2:=fun s=>(kb s).2.2.1
  have k3:=fun s=>(kb s).2.2.2.1
  have k4:=fun s=>(kb s).2.2.2.2.1
  have k5:=fun s=>(kb s).2.2.2.2.2.1
  have k6:=fun s=>(kb s).2.2.2.2.2.2
  clear kb hK1
  go_enter Tryz.func130,Tryz.ntmps130
  go_wp2_with fail
  refine dG K (by kernel_rfl) (by kernel_rfl) hK0 ?_
  repeat(go_big_quiet_step ((first|(go_at_call 93;exact Calls.bK hK2 (HT.out _ (fV.out _))))))
  refine wpQuiet_nil ?_
  intro w' hw'
  obtain⟨s,rfl⟩:=hw'
  go_wp2
  go_ret
  exact⟨rfl,fV.out s⟩
 rw[bZ hr]at HT
 have xK:=ah (fun W (f:aj ay w W)=>Za W _ c (Rd.aO h.ctx f) hr.ctx (by have:=hok.len;omega))
 cases hs:qX c 4
 ·rw[hs]at xK
  rw[aZ (show ¬qh v0 v1 v2 v3 es ks c from fun h=>by rw[h.2.1]at hs;cases hs)]
  clear hr h hok hs
  generalize es.length=n at*
  generalize ks.len=m at*
  generalize c.length=k at*
  obtain⟨α,hne,K,hK1,hK0,hK2⟩:=worlds (w.alloc (.cells #[.int .i64 kind, .int .i64 fr, .int .i64 to', .int .i64 v0, .int .i64 v1, .int .i64 v2, .int .i64 v3, .slice al nl cl, .slice a0 n c0, .slice a1 m c1, .slice a2 k c2] 36))
  have fV:=ah (fun s=>(aj.alloc ay w _).au (hK1 s))
  have kb:=fun s=>aQ.out (K s) (hK1 s)
  have k0:=fun s=>(kb s).1
  have k1:=fun s=>(kb s).2.1
  have k2:=fun s=>(kb s).2.2.1
  have k3:=fun s=>(kb s).2.2.2.1
  have k4:=fun s=>(kb s).2.2.2.2.1
  have k5:=fun s=>(kb s).2.2.2.2.2.1
  have k6:=fun s=>(kb s).2.2.2.2.2.2
  clear kb hK1
  go_enter Tryz.func130,Tryz.ntmps130
  go_wp2_with fail
  refine dG K (by kernel_rfl) (by kernel_rfl) hK0 ?_
  repeat(go_big_quiet_step ((first|(go_at_call 93;exact Calls.bK hK2 (HT.out _ (fV.out _)))|(go_at_call 176;exact Calls.bK hK2 (xK.out _ (fV.out _))))))
  refine wpQuiet_nil ?_
  intro w' hw'
  obtain⟨s,rfl⟩:=hw'
  go_wp2
  go_ret
  exact⟨rfl,fV.out s⟩
 rw[hs]at xK
 have HV:=ah (fun W (f:aj ay w W)=>YX W _ c (Rd.aO h.ctx f) hr.ctx (by have:=hok.len;omega))
 have qY:nD (fun d=>lW (bI c d))= #[.int .i64 (bT c 0), .int .i64 (bT c 1), .int .i64 (bT c 2), .int .i64 (bT c 3)]:=rfl
 rw[qY]at HV
 clear qY
 have uY:=Dc (bT c 0) (bT c 1) (bT c 2) (bT c 3) v0 v1 v2 v3
 by_cases hv:bT c 0=v0∧bT c 1=v1∧bT c 2=v2∧bT c 3=v3
 rotate_left 1
 ·rw[show((bT c 0==v0)&&((bT c 1==v1)&&((bT c 2==v2)&&(bT c 3==v3))))=false by
   rw[Bool.eq_false_iff]
   intro hh
   simp only[Bool.and_eq_true,beq_iff_eq]at hh
   exact hv hh]at uY
  rw[aZ (show ¬qh v0 v1 v2 v3 es ks c from fun h=>hv h.2.2.1)]
  clear hr h hok hs hv
  generalize bT c 0=f0 at*
  generalize bT c 1=f1 at*
  generalize bT c 2=f2 at*
  generalize bT c 3=f3 at*
  generalize es.length=n at*
  generalize ks.len=m at*
  generalize c.length=k at*
  obtain⟨α,hne,K,hK1,hK0,hK2⟩:=worlds (w.alloc (.cells #[.int .i64 kind, .int .i64 fr, .int .i64 to', .int .i64 v0, .int .i64 v1, .int .i64 v2, .int .i64 v3, .slice al nl cl, .slice a0 n c0, .slice a1 m c1, .slice a2 k c2] 36))
  have fV:=ah (fun s=>(aj.alloc ay w _).au (hK1 s))
  have kb:=fun s=>aQ.out (K s) (hK1 s)
  have k0:=fun s=>(kb s).1
  have k1:=fun s=>(kb s).2.1
  have k2:=fun s=>(kb s).2.2.1
  have k3:=fun s=>(kb s).2.2.2.1
  have k4:=fun s=>(kb s).2.2.2.2.1
  have k5:=fun s=>(kb s).2.2.2.2.2.1
  have k6:=fun s=>(kb s).2.2.2.2.2.2
  clear kb hK1
  go_enter Tryz.func130,Tryz.ntmps130
  go_wp2_with fail
  refine dG K (by kernel_rfl) (by kernel_rfl) hK0 ?_
  repeat(go_big_quiet_step ((first|(go_at_call 93;exact Calls.bK hK2 (HT.out _ (fV.out _)))|(go_at_call 176;exact Calls.bK hK2 (xK.out _ (fV.out _)))|(go_at_call 177;exact Calls.bK hK2 (HV.out _ (fV.out _))))))
  refine wpQuiet_nil ?_
  intro w' hw'
  obtain⟨s,rfl⟩:=hw'
  go_wp2
  go_ret
  exact⟨rfl,fV.out s⟩
 rw[show((bT c 0==v0)&&((bT c 1==v1)&&((bT c 2==v2)&&(bT c 3==v3))))=true by
  simp only[Bool.and_eq_true,beq_iff_eq]
  exact hv]at uY
 have HY:=ah (show tf (qh v0 v1 v2 v3 es ks c)=((es.length:Int)==0) by
  by_cases he:es=[]
  ·rw[bZ (show qh v0 v1 v2 v3 es ks c from⟨hr,hs,hv,he⟩),he];rfl
  ·rw[aZ (show ¬qh v0 v1 v2 v3 es ks c from fun h=>he h.2.2.2)]
   exact(beq_false_of_ne (by
    have:0<es.length:=List.length_pos_iff.2 he
    omega)).symm)
 clear hr h hok hs hv
 generalize tf (qh v0 v1 v2 v3 es ks c)=y at*
 generalize bT c 0=f0 at*
 generalize bT c 1=f1 at*
 generalize bT c 2=f2 at*
 generalize bT c 3=f3 at*
 generalize es.length=n at*
 generalize ks.len=m at*
 generalize c.length=k at*
 obtain⟨α,hne,K,hK1,hK0,hK2⟩:=worlds (w.alloc (.cells #[.int .i64 kind, .int .i64 fr, .int .i64 to', .int .i64 v0, .int .i64 v1, .int .i64 v2, .int .i64 v3, .slice al nl cl, .slice a0 n c0, .slice a1 m c1, .slice a2 k c2] 36))
 have fV:=ah (fun s=>(aj.alloc ay w _).au (hK1 s))
 have kb:=fun s=>aQ.out (K s) (hK1 s)
 have k0:=fun s=>(kb s).1
 have k1:=fun s=>(kb s).2.1
 have k2:=fun s=>(kb s).2.2.1
 have k3:=fun s=>(kb s).2.2.2.1
 have k4:=fun s=>(kb s).2.2.2.2.1
 have k5:=fun s=>(kb s).2.2.2.2.2.1
 have k6:=fun s=>(kb s).2.2.2.2.2.2
 clear kb hK1
 go_enter Tryz.func130,Tryz.ntmps130
 go_wp2_with fail
 refine dG K (by kernel_rfl) (by kernel_rfl) hK0 ?_
 repeat(go_big_quiet_step ((first|(go_at_call 93;exact Calls.bK hK2 (HT.out _ (fV.out _)))|(go_at_call 176;exact Calls.bK hK2 (xK.out _ (fV.out _)))|(go_at_call 177;exact Calls.bK hK2 (HV.out _ (fV.out _))))))
 refine wpQuiet_nil ?_
 intro w' hw'
 obtain⟨s,rfl⟩:=hw'
 go_wp2
 go_ret
 exact⟨by rw[HY.out];first|rfl|simp,fV.out s⟩
open Go.RowKit
def Ar (es:List aG) (ks:aH) (c:aW):Prop:=c.length=0∧es.length=0∧ks.len=0
def QB (kind v0 v1 v2 v3:Int) (bs:List aY) (es:List aG) (ks:aH) (c:aW):Prop:=
 (kind=1∧Ar es ks c∧1≤bs.length∧bs.length≤16∧bs.any pW=false)∨(kind=2∧bs.length=0∧qh v0 v1 v2 v3 es ks c)∨((kind=3∨kind=4)∧Ar es ks c∧bs.length=0)
def Au (kind fr tt v0 v1 v2 v3:Int) (bs:List aY) (es:List aG) (ks:aH) (c:aW):Prop:=
 f_ (bG v0 v1 v2 v3)∧(0≤fr∧fr<4)∧(0≤tt∧tt<4)∧fr≠tt∧QB kind v0 v1 v2 v3 bs es ks c
structure Di (P SP:Prop) (hv:Bool) (ln n m k:Nat) (kind fr tt v0 v1 v2 v3:Int) (al a0 a1 a2:Option Addr) (cl c0 c1 c2:Nat) (w:World):Prop where
 bh:∀W,aj ay w W→Calls Tryz.prog 128 #[.slice al ln cl, .func (.func 129) #[] #[]] W fun e w'=>e= .returned (.bool hv)∧aj ay W w'
 st:∀W,aj ay w W→Calls Tryz.prog 130 #[.agg #[.int .i64 kind, .int .i64 fr, .int .i64 tt, .int .i64 v0, .int .i64 v1, .int .i64 v2, .int .i64 v3, .slice al ln cl, .slice a0 n c0, .slice a1 m c1, .slice a2 k c2]] W fun e w'=>e= .returned (.bool (tf SP))∧aj ay W w'
 fu:∀W,Calls Tryz.prog 124 #[.agg #[.int .i64 v0, .int .i64 v1, .int .i64 v2, .int .i64 v3]] W fun e w1=>aj ay W w1∧∃av nv cv,e= .returned (.tuple #[.slice av nv cv, .int .i64 0])
 FK:∀W,Calls Tryz.prog 127 #[.int .i64 fr] W fun e w'=>e= .returned (.bool true)∧w'=W
 FN:∀W,Calls Tryz.prog 127 #[.int .i64 tt] W fun e w'=>e= .returned (.bool true)∧w'=W
 bx:∀W,aj ay (w.alloc (.cells #[.int .i64 kind, .int .i64 fr, .int .i64 tt, .int .i64 v0, .int .i64 v1, .int .i64 v2, .int .i64 v3, .slice al ln cl, .slice a0 n c0, .slice a1 m c1, .slice a2 k c2] 36)) W→W.cell? ⟨w.heap.size,0,none⟩=some (.int .i64 kind)∧W.cell? ⟨w.heap.size,1,none⟩=some (.int .i64 fr)∧W.cell? ⟨w.heap.size,2,none⟩=some (.int .i64 tt)∧W.cell? ⟨w.heap.size,3,none⟩=some (.int .i64 v0)∧W.cell? ⟨w.heap.size,4,none⟩=some (.int .i64 v1)∧W.cell? ⟨w.heap.size,5,none⟩=some (.int .i64 v2)∧W.cell? ⟨w.heap.size,6,none⟩=some (.int .i64 v3)∧W.cell? ⟨w.heap.size,7,none⟩=some (.slice al ln cl)∧W.cell? ⟨w.heap.size,8,none⟩=some (.slice a0 n c0)∧W.cell? ⟨w.heap.size,9,none⟩=some (.slice a1 m c1)∧W.cell? ⟨w.heap.size,10,none⟩=some (.slice a2 k c2)
 ne:fr≠tt
 hd:P↔((kind=1∧(k=0∧n=0∧m=0)∧1≤ln∧ln≤16∧hv=false)∨(kind=2∧ln=0∧SP)∨((kind=3∨kind=4)∧(k=0∧n=0∧m=0)∧ln=0))
end Go.Proofs.YtabkpccdnkjoiaaGreat
namespace Go.Proofs.YtabkpccdnkjoiaaGreat
namespace bC
def P:BitVec 32:=0x82f63b78#32
def st (c:BitVec 32):BitVec 32:=if c.getLsbD 0=true then(c>>>1)^^^P else c>>>1
def Aw:Nat→BitVec 32→BitVec 32
 |0,c=>c
 |n+1,c=>st (Aw n c)
def add (c:BitVec 32) (b:UInt8):BitVec 32:=Aw 8 (c^^^BitVec.ofNat 32 b.toNat)
def all (c:BitVec 32) (l:List UInt8):BitVec 32:=l.foldl add c
def crc (l:List UInt8):BitVec 32:=all (BitVec.allOnes 32) l^^^BitVec.allOnes 32
def four (n:Nat):List UInt8:=[UInt8.ofNat n,UInt8.ofNat (n/256),UInt8.ofNat (n/65536),UInt8.ofNat (n/16777216)]
def dV (l:List UInt8):Nat:=(l.getD 0 0).toNat+256*(l.getD 1 0).toNat+65536*(l.getD 2 0).toNat+16777216*(l.getD 3 0).toNat
def sum (l:List UInt8):Nat:=(crc l).toNat
def jM (bs:List UInt8):List UInt8:=(four bs.length++bs)++four (sum (four bs.length++bs))
def nG (b:List UInt8):Int:=if b.length<8∨60000<dV b∨dV b+8≠b.length then 2 else if sum (b.take (4+dV b))=dV (b.drop (4+dV b))then 0 else 11
def qZ (b:List UInt8):List UInt8:=if nG b=0 then(b.drop 4).take (dV b)else []
theorem Dj (n:Nat):(four n).length=4:=rfl
theorem sum_lt (l:List UInt8):sum l<4294967296:=(crc l).isLt
theorem QC {n:Nat} (h:n<4294967296) (r:List UInt8):dV (four n++r)=n:=by
 show(UInt8.ofNat n).toNat+256*(UInt8.ofNat (n/256)).toNat+65536*(UInt8.ofNat (n/65536)).toNat+16777216*(UInt8.ofNat (n/16777216)).toNat=n
 simp only[UInt8.toNat_ofNat']
 omega
theorem Zc (l:List UInt8):dV l<4294967296:=by
 unfold dV
 have h0:=(l.getD 0 0).toNat_lt
 have h1:=(l.getD 1 0).toNat_lt
 have h2:=(l.getD 2 0).toNat_lt
 have h3:=(l.getD 3 0).toNat_lt
 omega
theorem Kv (bs:List UInt8):(jM bs).length=bs.length+8:=by
 unfold jM
 simp only[List.length_append,Dj]
 omega
theorem Zd {bs:List UInt8} (h:bs.length≤60000):dV (jM bs)=bs.length∧(jM bs).take (4+bs.length)=four bs.length++bs∧(jM bs).drop (4+bs.length)=four (sum (four bs.length++bs)):=by
 have hl:(four bs.length++bs).length=4+bs.length:=by rw[List.length_append,Dj]
 refine⟨?_,?_,?_⟩
 ·unfold jM
  rw[List.append_assoc]
  exact QC (by omega) _
 ·unfold jM
  rw[←hl,List.take_left]
 ·unfold jM
  rw[←hl,List.drop_left]
theorem Kw {bs:List UInt8} (h:bs.length≤60000):nG (jM bs)=0∧qZ (jM bs)=bs:=by
 obtain⟨h1,h2,h3⟩:=Zd h
 have he:nG (jM bs)=0:=by
  unfold nG
  rw[if_neg,h1,h2,h3,if_pos]
  ·have:=QC (sum_lt (four bs.length++bs)) []
   rw[List.append_nil]at this
   exact this.symm
  ·rw[h1,Kv];omega
 refine⟨he,?_⟩
 unfold qZ
 rw[if_pos he,h1]
 unfold jM
 rw[List.append_assoc]
 show(List.drop (four bs.length).length _).take _=_
 rw[List.drop_left,List.take_left]
end bC
open Go.RowKit
structure bF where
 kind:Int
 fr:Int
 tt:Int
 v0:Int
 v1:Int
 v2:Int
 v3:Int
 bs:List dh
 es:List aG
 ks:aH
 c:aW
structure iP (Q:Nat→Prop) (w:World) (m:bF) (ps:List aY) (lv ev kv cv:Value):Prop where
 bs:tZ Q w lv ps
 eq:ps.map (·.b)=m.bs
 dD:fH Q w ev kv cv m.es m.ks m.c
theorem iP.aO {Q:Nat→Prop} {w w':World} {m:bF} {ps:List aY} {lv ev kv cv:Value} (h:iP Q w m ps lv ev kv cv) (f:aj ay w w'):iP Q w' m ps lv ev kv cv:=⟨h.bs.aO f,h.eq,h.dD.aO f⟩
theorem iP.len {Q:Nat→Prop} {w:World} {m:bF} {ps:List aY} {lv ev kv cv:Value} (h:iP Q w m ps lv ev kv cv):ps.length=m.bs.length:=by rw[←h.eq,List.length_map]
abbrev bF.ag (m:bF) (lv ev kv cv:Value):Value:= .agg #[.int .i64 m.kind, .int .i64 m.fr, .int .i64 m.tt, .int .i64 m.v0, .int .i64 m.v1, .int .i64 m.v2, .int .i64 m.v3,lv,ev,kv,cv]
structure lq (m:bF):Prop where
 each:∀b∈m.bs,fP b.es b.ks b.c
 len:m.bs.length≤100
 st:fP m.es m.ks m.c
def Dk (b:dh):Prop:=iJ b.es b.ks∧kE b.c∧b.c.length≤140737488351232
structure Dl (m:bF):Prop where
 each:∀b∈m.bs,Dk b
 st:iJ m.es m.ks∧kE m.c∧m.c.length≤140737488351232
 len:m.bs.length≤140737488351232
def bF.zero:bF:=⟨0,0,0,0,0,0,0,[],[], .nil,[]⟩
def bF.right (m:bF):Prop:=
 f_ (bG m.v0 m.v1 m.v2 m.v3)∧(0≤m.fr∧m.fr<4)∧(0≤m.tt∧m.tt<4)∧m.fr≠m.tt∧
  ((m.kind=1∧Ar m.es m.ks m.c∧1≤m.bs.length∧m.bs.length≤16∧∀b∈m.bs,b.right)∨(m.kind=2∧m.bs.length=0∧qh m.v0 m.v1 m.v2 m.v3 m.es m.ks m.c)∨((m.kind=3∨m.kind=4)∧Ar m.es m.ks m.c∧m.bs.length=0))
theorem QD {ps:List aY}:ps.any pW=false↔∀b∈ps.map (·.b),b.right:=by
 rw[List.any_eq_false]
 constructor
 ·intro h b hb
  obtain⟨p,hp,rfl⟩:=List.mem_map.1 hb
  have:=h p hp
  unfold pW at this
  simp only[Bool.not_eq_true',Bool.not_eq_false]at this
  by_cases hr:p.b.right
  ·exact hr
  ·rw[aZ hr]at this;cases this
 ·intro h p hp
  unfold pW
  rw[bZ (h p.b (List.mem_map.2 ⟨p,hp,rfl⟩))]
  simp
theorem Ze {kind fr tt v0 v1 v2 v3:Int} {ps:List aY} {es:List aG} {ks:aH} {c:aW}:Au kind fr tt v0 v1 v2 v3 ps es ks c↔bF.right ⟨kind,fr,tt,v0,v1,v2,v3,ps.map (·.b),es,ks,c⟩:=by
 unfold Au QB bF.right
 simp only[QD,List.length_map]
theorem Ky {es:List aG} {ks:aH} {c:aW} (h:Ar es ks c):es=[]∧ks= .nil∧c=[]:=by
 obtain⟨h1,h2,h3⟩:=h
 refine⟨List.eq_nil_of_length_eq_zero h2,?_,List.eq_nil_of_length_eq_zero h1⟩
 cases ks with
 |nil=>rfl
 |cons _ _ _ r=>exact absurd h3 (by show r.len+1≠0;omega)
def bF.tail (m:bF):List UInt8:=if m.kind=2 then jf m.es m.ks m.c else []
def bF.enc (m:bF):List UInt8:=bD m.kind++(bD m.fr++(bD m.tt++(iZ m.v0 m.v1 m.v2 m.v3++(bD (m.bs.length:Int)++(m.bs.flatMap dh.enc++m.tail)))))
theorem bF.right.kind {m:bF} (h:m.right):1≤m.kind∧m.kind≤4:=by
 obtain⟨-,-,-,-,h⟩:=h
 rcases h with⟨h,-⟩|⟨h,-⟩|⟨h,-⟩<;>omega
theorem bF.right.len {m:bF} (h:m.right):m.bs.length≤16:=by
 obtain⟨-,-,-,-,h⟩:=h
 rcases h with⟨-,-,-,h,-⟩|⟨-,h,-⟩|⟨-,-,h⟩<;>omega
theorem bF.right.each {m:bF} (h:m.right):∀b∈m.bs,b.right:=by
 obtain⟨-,-,-,-,h⟩:=h
 rcases h with⟨-,-,-,-,h⟩|⟨-,h,-⟩|⟨-,-,h⟩
 ·exact h
 ·rw[List.eq_nil_of_length_eq_zero h];exact fun b hb=>by cases hb
 ·rw[List.eq_nil_of_length_eq_zero h];exact fun b hb=>by cases hb
theorem bF.right.bare {m:bF} (h:m.right) (hk:m.kind≠2):m.es=[]∧m.ks= .nil∧m.c=[]:=by
 obtain⟨-,-,-,-,h⟩:=h
 rcases h with⟨-,h,-⟩|⟨h,-⟩|⟨-,h,-⟩
 ·exact Ky h
 ·exact absurd h hk
 ·exact Ky h
theorem bF.right.dD {m:bF} (h:m.right) (hk:m.kind=2):fG m.es m.ks m.c:=by
 obtain⟨-,-,-,-,h⟩:=h
 rcases h with⟨h,-⟩|⟨-,-,h⟩|⟨h,-⟩
 ·omega
 ·exact h.1
 ·omega
theorem QE {a b:bF} (ha:a.right) (hb:b.right) (h:a.enc=b.enc):a=b:=by
 unfold bF.enc at h
 replace h:=jY h
 obtain⟨h1,h⟩:=h
 replace h:=jY h
 obtain⟨h2,h⟩:=h
 replace h:=jY h
 obtain⟨h3,h⟩:=h
 replace h:=JD h
 obtain⟨⟨h4,h5,h6,h7⟩,h⟩:=h
 replace h:=jY h
 obtain⟨h8,h⟩:=h
 have hl:a.bs.length=b.bs.length:=by omega
 replace h:=Fe (f:=dh.enc) Qu hl h
 obtain⟨h9,h⟩:=h
 have hx:(a.es=b.es∧a.ks=b.ks)∧a.c=b.c:=by
  by_cases hk:a.kind=2
  ·have hk':b.kind=2:=h1▸hk
   unfold bF.tail at h
   rw[if_pos hk,if_pos hk']at h
   exact XL h
  ·have hk':¬b.kind=2:=h1▸hk
   obtain⟨a1,a2,a3⟩:=ha.bare hk
   obtain⟨b1,b2,b3⟩:=hb.bare hk'
   exact⟨⟨a1.trans b1.symm,a2.trans b2.symm⟩,a3.trans b3.symm⟩
 obtain⟨⟨h10,h11⟩,h12⟩:=hx
 cases a
 cases b
 simp only at h1 h2 h3 h4 h5 h6 h7 h9 h10 h11 h12
 subst h1 h2 h3 h4 h5 h6 h7 h9 h10 h11 h12
 rfl
def qj (x:List UInt8) (r:Option bF):Prop:=(∃m,r=some m∧m.right∧x=m.enc)∨(r=none∧∀m:bF,m.right→x≠m.enc)
theorem qj.bY {x:List UInt8} {r s:Option bF} (h:qj x r) (k:qj x s):r=s:=by
 rcases h with⟨m,rfl,h1,h2⟩|⟨rfl,h⟩<;>rcases k with⟨m',rfl,k1,k2⟩|⟨rfl,k⟩
 ·rw[QE h1 k1 (h2.symm.trans k2)]
 ·exact absurd h2 (k m h1)
 ·exact absurd k2 (h m' k1)
 ·rfl
theorem qj.make {m:bF} (h:m.right):qj m.enc (some m):= .inl ⟨m,rfl,h,rfl⟩
structure uZ (mk m2:Int) (x:List UInt8) (m:bF) (n:Int) (k:Nat) (s4 s5 s6 s7:Option (List UInt8)):Prop where
 hd:∃s1 s2 s3,b_ (some x) mk m.kind s1∧b_ s1 m2 m.fr s2∧b_ s2 m2 m.tt s3∧jK s3 m.v0 m.v1 m.v2 m.v3 s4
 num:b_ s4 16 n s5
 run:Run jU s5 k m.bs s6
 lim:k=n.toNat∨s6=none
 le:k≤n.toNat
 st:if m.kind=2 then kY s6 m.es m.ks m.c s7 else(m.es=[]∧m.ks= .nil∧m.c=[])∧s7=s6
theorem Zf {st t:Option (List UInt8)} {k:Nat} {l:List dh} (h:Run jU st k l t) {r:List UInt8} (ht:t=some r):st=some (l.flatMap dh.enc++r)∧∀b∈l,b.right:=
 Run.good (f:=dh.enc) (P:=dh.right) (fun {s e r} h=>by
  rcases h with⟨r',h1,h2,h3⟩|⟨h1,-⟩
  ·injection h3 with h3;subst h3;exact⟨h1,h2⟩
  ·cases h1) h ht
theorem Zg {l:List dh} (r:List UInt8) (h:∀b∈l,b.right):Run jU (some (l.flatMap dh.enc++r)) l.length l (some r):=
 Run.make (f:=dh.enc) (P:=dh.right) (fun {e} r he=> .inl ⟨r,rfl,he,rfl⟩) r h
theorem uZ.good {mk m2 n:Int} {x:List UInt8} {m:bF} {k:Nat} {s4 s5 s6:Option (List UInt8)} (h:uZ mk m2 x m n k s4 s5 s6 (some [])) (h0:0≤n) (hr:m.right):qj x (some m):=by
 obtain⟨⟨s1,s2,s3,g1,g2,g3,g4⟩,g5,g6,g7,-,g9⟩:=h
 have h6:s6=some m.tail:=by
  unfold bF.tail
  by_cases hk:m.kind=2
  ·rw[if_pos hk]at g9⊢
   rcases g9 with⟨r,e1,-,e2⟩|⟨e1,-⟩
   ·injection e2 with e2;subst e2;rw[e1,List.append_nil]
   ·cases e1
  ·rw[if_neg hk]at g9⊢
   exact g9.2.symm
 subst h6
 have hk:k=n.toNat:=g7.resolve_right fun h=>by cases h
 obtain⟨rfl,-⟩:=Zf g6 rfl
 obtain⟨rfl,-,-⟩:=lI g5
 rcases g4 with⟨r2,rfl,_,e⟩|⟨e,_⟩
 ·injection e with e;subst e
  obtain⟨rfl,-⟩:=lI g3
  obtain⟨rfl,-⟩:=lI g2
  obtain⟨e,-⟩:=lI g1
  injection e with e
  have hn:(m.bs.length:Int)=n:=by rw[g6.len,hk];omega
  exact .inl ⟨m,rfl,hr,by unfold bF.enc;rw[e,hn]⟩
 ·cases e
theorem Kz {l:List dh} (r:List UInt8) (h:∀b∈l,b.right) (k:Nat) (hk:k≤l.length):Run jU (some (l.flatMap dh.enc++r)) k (l.take k) (some ((l.drop k).flatMap dh.enc++r)):=by
 have:=Zg (l:=l.take k) ((l.drop k).flatMap dh.enc++r) fun b hb=>h b (List.mem_of_mem_take hb)
 rw[←List.append_assoc,←List.flatMap_append,List.take_append_drop,List.length_take,Nat.min_eq_left hk]at this
 exact this
theorem uZ.bad {mk m2 n:Int} (hmk:4≤mk) (hmk':mk≤9223372036854775807) (hm2:4≤m2) (qU:m2≤9223372036854775807) {x:List UInt8} {m:bF} {k:Nat} {s4 s5 s6 s7:Option (List UInt8)} (h:uZ mk m2 x m n k s4 s5 s6 s7) (hb:n<0∨s7≠some []∨¬m.right):qj x none:=by
 refine .inr ⟨rfl,fun m' hr hx=>?_⟩
 subst hx
 obtain⟨⟨s1,s2,s3,g1,g2,g3,g4⟩,g5,g6,g7,g8,g9⟩:=h
 have hkd:=hr.kind
 have hln:=hr.len
 have hea:=hr.each
 obtain⟨q1,q2,q3,-,-⟩:=id hr
 unfold bF.enc at g1
 obtain⟨e1,rfl⟩:=g1.bY (iO _ ⟨by omega,by omega⟩ hmk')
 obtain⟨e2,rfl⟩:=g2.bY (iO _ ⟨by omega,by omega⟩ qU)
 obtain⟨e3,rfl⟩:=g3.bY (iO _ ⟨by omega,by omega⟩ qU)
 obtain⟨⟨e4,e5,e6,e7⟩,rfl⟩:=g4.bY (jK.make _ q1)
 obtain⟨e8,rfl⟩:=g5.bY (iO _ ⟨by omega,by omega⟩ (by decide))
 have hkl:k≤m'.bs.length:=by omega
 obtain⟨e9,e10⟩:=Run.bY (R:=jU) (fun h k=>h.bY k) g6 (Kz m'.tail hea k hkl)
 have hk:k=m'.bs.length:=by
  rcases g7 with h|h
  ·omega
  ·rw[e10]at h;cases h
 subst hk
 rw[List.take_length]at e9
 rw[List.drop_length]at e10
 subst e10
 have hfin:((m.es=m'.es∧m.ks=m'.ks)∧m.c=m'.c)∧s7=some []:=by
  by_cases hk:m'.kind=2
  ·rw[if_pos (e1.trans hk)]at g9
   have ht:m'.tail=jf m'.es m'.ks m'.c++ []:=by unfold bF.tail;rw[if_pos hk,List.append_nil]
   rw[List.flatMap_nil,List.nil_append,ht]at g9
   exact g9.bY (kY.make _ (hr.dD hk))
  ·rw[if_neg (fun h=>hk (e1.symm.trans h))]at g9
   obtain⟨a1,a2,a3⟩:=g9.1
   obtain⟨b1,b2,b3⟩:=hr.bare hk
   have ht:m'.tail=[]:=by unfold bF.tail;rw[if_neg hk]
   refine⟨⟨⟨a1.trans b1.symm,a2.trans b2.symm⟩,a3.trans b3.symm⟩,?_⟩
   rw[g9.2,ht];rfl
 obtain⟨⟨⟨e11,e12⟩,e13⟩,e14⟩:=hfin
 rcases hb with hb|hb|hb
 ·omega
 ·exact hb e14
 ·cases m
  cases m'
  simp only at e1 e2 e3 e4 e5 e6 e7 e9 e11 e12 e13
  subst e1 e2 e3 e4 e5 e6 e7 e9 e11 e12 e13
  exact hb hr
def xM (b:List UInt8) (k:Int) (m:bF):Prop:=
 (bC.nG b≠0∧k=bC.nG b∧m=bF.zero)∨(bC.nG b=0∧((k=0∧qj (bC.qZ b) (some m))∨(k=2∧m=bF.zero∧qj (bC.qZ b) none)))
theorem xM.bY {b:List UInt8} {k k':Int} {m m':bF} (h:xM b k m) (g:xM b k' m'):k=k'∧m=m':=by
 rcases h with⟨h0,h1,h2⟩|⟨h0,⟨h1,h2⟩|⟨h1,h2,h3⟩⟩<;>rcases g with⟨g0,g1,g2⟩|⟨g0,⟨g1,g2⟩|⟨g1,g2,g3⟩⟩
 ·exact⟨h1.trans g1.symm,h2.trans g2.symm⟩
 ·exact absurd g0 h0
 ·exact absurd g0 h0
 ·exact absurd h0 g0
 ·have:=h2.bY g2;injection this with this;exact⟨h1.trans g1.symm,this⟩
 ·cases h2.bY g3
 ·exact absurd h0 g0
 ·cases h3.bY g2
 ·exact⟨h1.trans g1.symm,h2.trans g2.symm⟩
end Go.Proofs.YtabkpccdnkjoiaaGreat
