/- Words for the law ShSet: SUnion2, CBy, Has, Has2, R7e. -/
import Derived.Test.YtlhmbkjdfjoilaaGreatShSetG0
import Derived.Test.YtlhmbkjdfjoilaaGreatShSetG2
import Derived.Test.YtlhmbkjdfjoilaaGreatShSetG4
import Derived.Test.YtlhmbkjdfjoilaaGreatShSetG5
set_option linter.unusedSimpArgs false
set_option linter.unusedVariables false
set_option maxHeartbeats 32000000
set_option maxRecDepth 1000000
namespace Go.Proofs.YtlhmbkjdfjoilaaGreat
open Go.RowKit Go.Sort
theorem O_ (w:World) (b c:Nat) (va vb:Value) (a a':aS) (h0:w.cell? ⟨b,0,none⟩=some va) (h1:w.cell? ⟨b,1,none⟩=some vb) (ha:gZ w va a) (hb:gZ w vb a') (la:a.length≤200000) (lb:a'.length≤200000):
 Calls Tryz.prog 152 #[.slice (some ⟨b,0,none⟩) 2 c] w fun e w'=>∃v',e= .returned v'∧OwnAt w w' 206 2 v' (a.length+a'.length) (bZ (a++a')):=by
 obtain⟨i0,hi,hz0,hz1,hz2⟩:=info_parts uN
 obtain⟨aA,cA,rfl⟩:=ha.sl
 obtain⟨aB,cB,rfl⟩:=hb.sl
 have HA:=ah ha;clear ha
 have HB:=ah hb;clear hb
 have HG:=ah (fun w'=>OZ (a.length+a'.length) w' (by omega))
 generalize hn:a.length=n at*
 generalize hm:a'.length=m at*
 have HN:=ah hn;clear hn
 have HM:=ah hm;clear hm
 go_enter Tryz.func152,Tryz.ntmps152
 go_wp2
 go_loop [3,11] (fun s i=>∃k:Nat,k≤2∧i= .int .i64 k∧s= .int .i64 ((if k=0 then 0 else if k=1 then n else n+m:Nat):Int)) (fun _ i=>2-(intOf i).toNat)
 case atStart=>exact⟨0,by omega,rfl,rfl⟩
 case round=>
  obtain⟨k,hk,rfl,rfl⟩:=hrel
  rcases(by omega:k=0∨k=1∨k=2)with rfl|rfl|rfl
  ·rw[if_pos rfl]
   go_wp2
   go_round
   case rel=>exact⟨1,by omega,rfl,by simp⟩
   case measure=>simp[intOf]
  ·rw[if_neg (by decide),if_pos rfl]
   go_wp2
   go_round
   case rel=>exact⟨2,by omega,rfl,by simp⟩
   case measure=>simp[intOf]
  ·rw[if_neg (by decide),if_neg (by decide)]
   go_wp2_with(go_at_call 184;refine(HG.out _).mono ?_;rintro e w1 ⟨v1,rfl,ho1⟩;obtain⟨a1,c1,rfl⟩:=ho1.shape;have dB:=ah ho1;clear ho1)
   go_loopw [6,27] (fun v i ww=>∃k:Nat,k≤2∧i= .int .i64 k∧OwnAt w ww 206 2 v (if k=0 then 0 else if k=1 then n else n+m) (if k=0 then []else if k=1 then bZ a else bZ (a++a'))) (fun _ i _=>2-(intOf i).toNat)
   case atStart=>exact⟨0,by omega,rfl,dB.out⟩
   case round=>
    obtain⟨k,hk,rfl,ho⟩:=hrel
    rcases(by omega:k=0∨k=1∨k=2)with rfl|rfl|rfl
    ·have ho:OwnAt w wr 206 2 _ 0 []:=ho
     obtain⟨a2,c2,rfl⟩:=ho.shape
     have HO:=ah ho;clear ho
     have q0:=HO.out.aJ.cell' h0 id
     go_wp2_with(at_builtin;refine mD w _ _ rfl (.tmp 31) (.tmp 32) 175 175 rfl 206 206 i0 _ 2 16 Tryz.underlying175 Tryz.underlying175 hi hz0 hz1 hz2 (by decide) (by decide) _ _ _ HO.out _ n rfl rfl (HN.out▸HA.out.aN HO.out.aJ) (by rw[oK,HN.out]) (BF _) (by simp only[maxLen];omega) (by omega) ?_;intro ad cc w5 dw;have OW:=ah dw;clear dw)
     go_roundw
     case rel=>exact⟨1,by omega,rfl,by have:=OW.out;simp at this⊢;exact this⟩
     case measure=>simp[intOf]
    ·have ho:OwnAt w wr 206 2 _ n (bZ a):=ho
     obtain⟨a2,c2,rfl⟩:=ho.shape
     have HO:=ah ho;clear ho
     have q1:=HO.out.aJ.cell' h1 id
     go_wp2_with(at_builtin;refine mD w _ _ rfl (.tmp 31) (.tmp 32) 175 175 rfl 206 206 i0 _ 2 16 Tryz.underlying175 Tryz.underlying175 hi hz0 hz1 hz2 (by decide) (by decide) _ _ _ HO.out _ m rfl rfl (HM.out▸HB.out.aN HO.out.aJ) (by rw[oK,HM.out]) (BF _) (by simp only[maxLen];omega) (by omega) ?_;intro ad cc w5 dw;have OW:=ah dw;clear dw)
     go_roundw
     case rel=>exact⟨2,by omega,rfl,by have:=OW.out;rw[kS];simp at this⊢;exact this⟩
     case measure=>simp[intOf]
    ·have ho:OwnAt w wr 206 2 _ (n+m) (bZ (a++a')):=ho
     obtain⟨a2,c2,rfl⟩:=ho.shape
     have HO:=ah ho;clear ho
     go_wp2
     go_ret
     exact⟨_,rfl,HO.out⟩
theorem Pg (w:World) (va vb:Value) (a b:aS) (ha:gZ w va a) (hb:gZ w vb b) (ra:bM a) (rb:bM b) (la:a.length≤100000) (lb:b.length≤100000):
 Calls Tryz.prog 115 #[va,vb] w fun e w'=>∃v' out,e= .returned v'∧OwnAt w w' 206 2 v' out.length (bZ out)∧bM out∧(∀n,aX out n↔aX a n∨aX b n)∧out.length≤a.length+b.length:=by
 obtain⟨aA,cA,rfl⟩:=ha.sl
 obtain⟨aB,cB,rfl⟩:=hb.sl
 have qh:=ah (both_any w _ _ a b ha ra.fits hb rb.fits)
 have hboth:tf (bM a∧bM b)=true:=dH ⟨ra,rb⟩
 rw[hboth]at qh
 clear hboth
 have hbd:∀r∈a++b,1≤r.1∧r.1≤r.2∧r.2≤1099511627776:=fun r hr=>by
  rcases List.mem_append.1 hr with hr|hr
  ·have:=iT ra.1 r hr;have:=ra.2 r hr;omega
  ·have:=iT rb.1 r hr;have:=rb.2 r hr;omega
 have nT:=ah hbd;clear hbd
 clear ra rb
 have HA:=ah ha;clear ha
 have HB:=ah hb;clear hb
 have B_:=ah la
 have Ph:=ah lb
 have hlab:(a++b).length=a.length+b.length:=List.length_append
 have wO:=ah hlab;clear hlab
 have hl3:a.length+b.length≤200000:=by omega
 have nH:=ah hl3;clear hl3
 generalize hn:a.length=n at*
 generalize hm:b.length=m at*
 have HN:=ah hn;clear hn
 have HM:=ah hm;clear hm
 clear la lb
 have eg:∀args w,(callFunc 154 args).run Tryz.prog w= .ok (.enter 154 args) w:=enters_of Tryz.func154 (by kernel_rfl) rfl
 go_enter Tryz.func115,Tryz.ntmps115
 go_wp2_with(first
  |(go_at_call 151;refine qh.out.mono ?_;rintro e w1 ⟨rfl,hw1⟩;have HW1:=ah hw1;clear hw1;have HX0:=ah (fun X=>aI (heap_alloc_new w1 (.cells #[.slice aA n cA, .slice aB m cB] X)) 0 rfl);have wP:=ah (fun X=>aI (heap_alloc_new w1 (.cells #[.slice aA n cA, .slice aB m cB] X)) 1 rfl))
  |(go_at_call 152;refine(O_ _ _ _ _ _ a b (HX0.out _) (wP.out _) (HA.out.aN HW1.out.alloc1) (HB.out.aN HW1.out.alloc1) (by rw[HN.out];exact Nat.le_trans B_.out (by decide)) (by rw[HM.out];exact Nat.le_trans Ph.out (by decide))).mono ?_;rintro e w2 ⟨v2,rfl,ho2⟩;rw[HN.out,HM.out]at ho2;obtain⟨a2,c2,rfl⟩:=ho2.shape;have dV:=ah ho2;clear ho2)
  |(go_at_call 153;refine(H_ 154 eg OX _ _ _ (n+m) (a++b) dV.out wO.out (Nat.le_trans nH.out (by decide))).mono ?_;rintro e w3 ⟨rfl,l',hp,hs,ho3⟩;have HP:=ah hp;clear hp;have HS:=ah hs;clear hs;have bJ:=ah ho3;clear ho3)
  |(go_at_call 156;refine(He _ _ l' (by have:=bJ.out.rd;rw[←wO.out,←HP.out.length_eq]at this;rw[←wO.out,←HP.out.length_eq];exact this) (by rw[HP.out.length_eq,wO.out];exact nH.out) (wL HP.out HS.out nT.out).2.2).mono ?_;rintro e w4 ⟨v4,rfl,ji⟩;obtain⟨a4,c4,rfl⟩:=ji.shape;have jy:=ah ji;clear ji))
 go_ret
 have hj:=wL HP.out HS.out nT.out
 refine⟨_,k_ l',rfl,⟨jy.out.own,fun k hk=>?_,?_⟩,hj.1,fun x=>by rw[hj.2.1,wz],Nat.le_trans (Ia l') (by rw[HP.out.length_eq,wO.out];exact Nat.le_refl _)⟩
 ·have:=jy.out.new k hk
  have:=bJ.out.aJ.size
  have:=HW1.out.size
  simp at*
  omega
 ·exact((HW1.out.alloc1).aF bJ.out.aJ).aF jy.out.aJ
open Go.RowKit
def CG (g:Nat) (how:Int):Prop:=∀(w:World) (va vb:Value) (a b:aS),gZ w va a→gZ w vb b→bM a→bM b→a.length≤20000→b.length≤20000→
 Calls Tryz.prog g #[va,vb] w fun e w'=>∃v' out,e= .returned v'∧OwnAt w w' 206 2 v' out.length (bZ out)∧bM out∧(∀n,aX out n↔dO how (aX a n) (aX b n))∧out.length≤200000
theorem Pj:CG 115 0:=fun w va vb a b ha hb ra rb la lb=>
 (Pg w va vb a b ha hb ra rb (by omega) (by omega)).mono fun _ _ ⟨v',out,h1,h2,h3,h4,h5⟩=>⟨v',out,h1,h2,h3,fun n=>by rw[h4];unfold dO;simp,by omega⟩
theorem zq:∀ {s l:List Int},s.Nodup→(∀x∈s,x∈l)→s.length≤l.length
 |[],_,_,_=>Nat.zero_le _
 |x::s,l,hn,h=>by
  have hx:=h x List.mem_cons_self
  have hn2:=List.nodup_cons.1 hn
  have:=zq (s:=s) (l:=l.erase x) hn2.2 fun y hy=>(List.mem_erase_of_ne (by intro e;subst e;exact hn2.1 hy)).2 (h y (List.mem_cons_of_mem _ hy))
  rw[List.length_erase_of_mem hx]at this
  have hl:0<l.length:=List.length_pos_of_mem hx
  simp only[List.length_cons]
  omega
theorem CJ:∀(b:aS) (lo hi:Int) (r:Int×Int),r∈iW lo hi b→r.1=lo∨∃x∈b,r.1=x.2+1
 |[],lo,hi,r,h=>by
  have h:r∈(if lo≤hi then [(lo,hi)]else []:aS):=h
  split at h
  ·simp at h;subst h;exact .inl rfl
  ·cases h
 |x::b,lo,hi,r,h=>by
  have h:r∈(if x.2<lo∨hi<x.1 then iW lo hi b else(if lo<x.1 then [(lo,x.1-1)]else [])++iW (x.2+1) hi b):=h
  split at h
  ·rcases CJ b lo hi r h with h|⟨y,hy,h⟩
   ·exact .inl h
   ·exact .inr ⟨y,List.mem_cons_of_mem _ hy,h⟩
  ·rcases List.mem_append.1 h with h|h
   ·split at h
    ·simp at h;subst h;exact .inl rfl
    ·cases h
   ·rcases CJ b _ hi r h with h|⟨y,hy,h⟩
    ·exact .inr ⟨x,List.mem_cons_self,h⟩
    ·exact .inr ⟨y,List.mem_cons_of_mem _ hy,h⟩
theorem zu:∀ {l:aS} {lo:Int},dS lo l→(l.map (·.1)).Nodup
 |[],_,_=>List.nodup_nil
 |r::l,lo,h=>by
  rw[List.map_cons,List.nodup_cons]
  refine⟨fun hm=>?_,zu h.2.2⟩
  obtain⟨x,hx,he⟩:=List.mem_map.1 hm
  have:=iT h.2.2 x hx
  have:=h.2.1
  omega
theorem Pm {a b:aS} (ra:bM a) (rb:bM b):(lW a b).length≤a.length+b.length:=by
 have hn:=zu (Bf a b 1 1 ra.1 rb.1)
 have:=zq (l:=a.map (·.1)++b.map (fun x=>x.2+1)) hn fun x hx=>by
  obtain⟨r,hr,rfl⟩:=List.mem_map.1 hx
  obtain⟨y,hy,hr⟩:=List.mem_flatMap.1 hr
  rcases CJ b y.1 y.2 r hr with h|⟨z,hz,h⟩
  ·exact List.mem_append_left _ (List.mem_map.2 ⟨y,hy,h.symm⟩)
  ·exact List.mem_append_right _ (List.mem_map.2 ⟨z,hz,h.symm⟩)
 simpa using this
theorem Pn:CG 130 2:=fun w va vb a b ha hb ra rb la lb=>
 (OL w va vb a b ha hb ra rb la lb).mono fun _ _ ⟨v',h1,h2⟩=>⟨v',lW a b,h1,h2,bM.of (Bf a b 1 1 ra.1 rb.1) fun n hn=>(ra.Bq ((Bg a b 1 n rb.1).1 hn).1).2,fun n=>by rw[Bg a b 1 n rb.1];unfold dO;simp,by have:=Pm ra rb;omega⟩
structure CO (how:Int) (a b:aV) (k:Nat) (p:Nat→aS):Prop where
 done:∀d,d<k→bM (p d)∧(∀n,aX (p d) n↔dO how (iy a d n) (iy b d n))∧(p d).length≤200000
 todo:∀d,k≤d→d<4→p d=aZ a d
theorem CO.BP {how:Int} {a b:aV} {p:Nat→aS} (h:CO how a b 4 p):iC how a b (jh fun d=>p d.toNat):=by
 refine iC.whole (fun d h0 h4=>?_) fun d n h0 h4=>?_
 ·exact(h.done d.toNat (by omega)).1
 ·have:=(h.done d.toNat (by omega)).2.1 n
  rwa [Int.toNat_of_nonneg h0]at this
structure kU (w0 w:World) (pb:Nat) (A:Nat→Sl) (p:Nat→aS):Prop where
 blk:w.heap[pb]?=some (.cells #[.slice (A 0).1 (A 0).2.1 (A 0).2.2, .slice (A 1).1 (A 1).2.1 (A 1).2.2, .slice (A 2).1 (A 2).2.1 (A 2).2.2, .slice (A 3).1 (A 3).2.1 (A 3).2.2] 177 (0,0))
 new:w0.heap.size≤pb
 own:∀d,d<4→dP (fun k=>k=pb) w0 w 206 2 (.slice (A d).1 (A d).2.1 (A d).2.2) (p d).length (bZ (p d))
theorem kU.cell {w0 w:World} {pb:Nat} {A:Nat→Sl} {p:Nat→aS} (h:kU w0 w pb A p) {d:Nat} (hd:d<4):w.cell? ⟨pb,d,none⟩=some (.slice (A d).1 (A d).2.1 (A d).2.2):=by
 refine aI h.blk d ?_
 rcases(by omega:d=0∨d=1∨d=2∨d=3)with rfl|rfl|rfl|rfl<;>rfl
theorem kU.keep {w0 w w':World} {pb:Nat} {A:Nat→Sl} {p:Nat→aS} (h:kU w0 w pb A p) (f:aj au w w'):kU w0 w' pb A p:=
 ⟨f.blk h.blk id,h.new,fun d hd=>(h.own d hd).keep f⟩
theorem kU.start {w0 w:World} {A:Nat→Sl} {p:Nat→aS} (h:PartsAt w0 w (fun d=> .slice (A d).1 (A d).2.1 (A d).2.2) p):
 kU w0 (w.alloc (.cells #[.slice (A 0).1 (A 0).2.1 (A 0).2.2, .slice (A 1).1 (A 1).2.1 (A 1).2.2, .slice (A 2).1 (A 2).2.1 (A 2).2.2, .slice (A 3).1 (A 3).2.1 (A 3).2.2] 177)) w.heap.size A p:=
 ⟨heap_alloc_new w _,(h.own 0 (by omega)).aJ.size,fun d hd=>(h.own d hd).away (aj.alloc _ _ _) fun k hk=>by rw[hk];exact Nat.le_refl _⟩
theorem kU.set {w0 w w':World} {pb:Nat} {A:Nat→Sl} {p:Nat→aS} (h:kU w0 w pb A p) {d:Nat} (hd:d<4) {t:Sl} {out:aS} (ho:OwnAt w w' 206 2 (.slice t.1 t.2.1 t.2.2) out.length (bZ out)):
 kU w0 (w'.setCell ⟨pb,d,none⟩ (.slice t.1 t.2.1 t.2.2)) pb (upd A d t) (upd p d out):=by
 have hk:=h.keep ho.aJ
 have hs:=fF hk.blk d (.slice t.1 t.2.1 t.2.2)
 refine⟨?_,h.new,fun c hc=>?_⟩
 ·rw[hs]
  rcases(by omega:d=0∨d=1∨d=2∨d=3)with rfl|rfl|rfl|rfl<;>rfl
 ·by_cases he:c=d
  ·subst he
   rw[upd_same,upd_same]
   have hb:dP (fun k=>k=pb) w0 w' 206 2 (.slice t.1 t.2.1 t.2.2) out.length (bZ out):=
    ⟨⟨ho.own,fun k hk2=>by have:=ho.new k hk2;have:=(h.own c hc).at_.aJ.size;omega,(h.own c hc).at_.aJ.aF ho.aJ⟩,fun k hk2 hp=>by have:=ho.new k hk2;have:=lt_of_block h.blk;omega⟩
   exact hb.set rfl h.new _
  ·rw[kH _ _ he,kH _ _ he]
   exact(hk.own c hc).set rfl h.new _
theorem Ib (g:Nat) (how:Int) (eg:∀args w,(callFunc g args).run Tryz.prog w= .ok (.enter g args) w) (HG:CG g how)
 (w:World) (va vb:Value) (a b:aV) (ha:fB w va a) (hb:fB w vb b) (fa:g_ a) (fb:g_ b) (ra:bY a) (rb:bY b) (la:a.length≤20000) (lb:b.length≤20000):
 Calls Tryz.prog 114 #[va,vb, .func (.func g) #[] #[]] w fun e w'=>∃v' c,e= .returned v'∧OwnAt w w' 92 3 v' c.length (bU c)∧iC how a b c∧c.length≤800000:=by
 obtain⟨aA,cA,rfl⟩:=ha.sl
 obtain⟨aB,cB,rfl⟩:=hb.sl
 have HA:=ah (fun w' (h:aj au w w')=>zi w' _ a (Rd.aN ha h) fa (by omega))
 have HB:=ah (fun w' (h:aj au w w')=>zi w' _ b (Rd.aN hb h) fb (by omega))
 have LA:=ah (fun d=>Nat.le_trans (uK a d) la)
 have LB:=ah (fun d=>Nat.le_trans (uK b d) lb)
 have RA:=ah ra;clear ra
 have RB:=ah rb;clear rb
 have zx:=ah HG;clear HG
 clear ha hb fa fb la lb
 go_enter Tryz.func114,Tryz.ntmps114
 go_wp2_with(first
  |(go_at_call_of 129 aA;refine(HA.out _ (aj.refl _ _)).mono ?_;rintro e w1 ⟨hf1,hp1,-⟩;obtain⟨A,rfl,hvs⟩:=hp1 RA.out;clear hp1;have bQ:=ah hf1;clear hf1;have ql:=ah hvs;clear hvs)
  |(go_at_call_of 129 aB;refine(HB.out _ (bQ.out.alloc1)).mono ?_;rintro e w2 ⟨hf2,hp2,-⟩;obtain⟨B,rfl,hus⟩:=hp2 RB.out;clear hp2;have HF2:=ah hf2;clear hf2;have Ic:=ah hus;clear hus))
 have CP:=ah (((kU.start ql.out).keep HF2.out).keep (aj.alloc au w2 (.cells #[.slice (B 0).1 (B 0).2.1 (B 0).2.2, .slice (B 1).1 (B 1).2.1 (B 1).2.2, .slice (B 2).1 (B 2).2.1 (B 2).2.2, .slice (B 3).1 (B 3).2.1 (B 3).2.2] 177)))
 have CQ:=ah (kU.start Ic.out)
 have hpq:w1.heap.size<w2.heap.size:=by have:=HF2.out.size;simp at this;omega
 have HPQ:=ah hpq;clear hpq
 clear ql Ic HA HB
 go_loopw [28] (fun i ww=>∃(k:Nat) (A':Nat→Sl) (p:Nat→aS),k≤4∧i= .int .i64 k∧kU w ww w1.heap.size A' p∧CO how a b k p∧
  aj (fun k=>k=w1.heap.size) (w2.alloc (.cells #[.slice (B 0).1 (B 0).2.1 (B 0).2.2, .slice (B 1).1 (B 1).2.1 (B 1).2.2, .slice (B 2).1 (B 2).2.1 (B 2).2.2, .slice (B 3).1 (B 3).2.1 (B 3).2.2] 177)) ww) (fun i _=>4-(intOf i).toNat)
 case atStart=>exact⟨0,A,fun d=>aZ a d,by omega,rfl,CP.out,⟨fun d hd=>by omega,fun d _ _=>rfl⟩,aj.refl _ _⟩
 case round=>
  obtain⟨k,A',p,hk,rfl,hp,hbu,wQ⟩:=hrel
  have HP:=ah hp;clear hp
  have wR:=ah hbu;clear hbu
  have uQ:=ah wQ;clear wQ
  by_cases hlt:k<4
  ·have hki:(k:Int)<4:=by omega
   have hkd:decide ((k:Int)<4)=true:=by simpa using hki
   have hpc:=HP.out.cell hlt
   have hqc:=uQ.out.cell' (CQ.out.cell hlt) (fun h=>by have:=HPQ.out;have h:w2.heap.size=w1.heap.size:=h;omega)
   have hqo:=Rd.keep (CQ.out.own k hlt).at_.rd uQ.out (fun j hj h=>by have:=(CQ.out.own k hlt).at_.new j hj;have:=HPQ.out;have:=HF2.out.size;have h:j=w1.heap.size:=h;simp at*;omega)
   have htd:=wR.out.todo k (Nat.le_refl _) hlt
   have hpo:=(HP.out.own k hlt).at_.rd
   rw[htd]at hpo
   have Ie:=ah hpo;clear hpo htd
   have Po:=ah hqo;clear hqo
   have oO:=ah (fun w' (h:aj au wr w')=>zx.out w' _ _ (aZ a k) (aZ b k) (Ie.out.aN h) (Po.out.aN h) (RA.out.2 k (by omega) (by omega)) (RB.out.2 k (by omega) (by omega)) (LA.out k) (LB.out k))
   generalize A' k=t at*
   generalize B k=u at*
   have hst:aj au wr wr.drew:=aj.drew _ _
   go_wp2_with fail
   refine iY (S:=fun w'=>w'.cell? ⟨w1.heap.size,k,none⟩=some (.slice t.1 t.2.1 t.2.2)∧w'.cell? ⟨w2.heap.size,k,none⟩=some (.slice u.1 u.2.1 u.2.2)) 10 (by kernel_rfl) ⟨hpc,hqc⟩ ?_
   intro hS
   refine aT 0 31 rfl rfl (v:=?_) (.inl ⟨by rfl,?_⟩) ?_
   rotate_left 1
   ·(intro w hSw;(try dsimp only at hSw);go_simp;(try with_reducible rfl))
   refine aT 1 32 rfl rfl (v:=?_) (.inl ⟨by rfl,?_⟩) ?_
   rotate_left 1
   ·(intro w hSw;(try dsimp only at hSw);go_simp;(try with_reducible rfl))
   try simp only[Act.put,aP,aQ,aO]
   refine aT 2 33 rfl rfl (v:=?_) (.inl ⟨by rfl,?_⟩) ?_
   rotate_left 1
   ·(intro w hSw;(try dsimp only at hSw);go_simp;(try with_reducible rfl))
   refine aT 3 34 rfl rfl (v:=?_) (.inl ⟨by rfl,?_⟩) ?_
   rotate_left 1
   ·(intro w hSw;(try dsimp only at hSw);go_simp;(try with_reducible rfl))
   try simp only[Act.put,aP,aQ,aO]
   refine aT 4 35 rfl rfl (v:=?_) (.inl ⟨by rfl,?_⟩) ?_
   rotate_left 1
   ·(intro w hSw;(try dsimp only at hSw);go_simp;(try with_reducible rfl))
   refine aT 5 36 rfl rfl (v:=?_) (.inl ⟨by rfl,?_⟩) ?_
   rotate_left 1
   ·(intro w hSw;(try dsimp only at hSw);go_simp;(try with_reducible rfl))
   try simp only[Act.put,aP,aQ,aO]
   refine aT 6 37 rfl rfl (v:=?_) (.inl ⟨by rfl,?_⟩) ?_
   rotate_left 1
   ·(intro w hSw;(try dsimp only at hSw);go_simp;(try with_reducible rfl))
   refine aT 7 38 rfl rfl (v:=?_) (.inl ⟨by rfl,?_⟩) ?_
   rotate_left 1
   ·(intro w hSw;(try dsimp only at hSw);go_simp;(try with_reducible rfl))
   try simp only[Act.put,aP,aQ,aO]
   refine bP (i:=8) (by kernel_rfl) rfl (fun K hK=>?_)
   go_simp
   refine(oO.out _ hst).mono ?_
   rintro e w3 ⟨v3,out,rfl,ho3,hr3,wS,hl3⟩
   obtain⟨a3,c3,rfl⟩:=ho3.shape
   have bJ:=ah ho3;clear ho3
   have HR3:=ah hr3;clear hr3
   have yX:=ah wS;clear wS
   have nH:=ah hl3;clear hl3
   have hS3:w3.cell? ⟨w1.heap.size,k,none⟩=some (.slice t.1 t.2.1 t.2.2)∧w3.cell? ⟨w2.heap.size,k,none⟩=some (.slice u.1 u.2.1 u.2.2):=⟨bJ.out.aJ.cell' hS.1 id,bJ.out.aJ.cell' hS.2 id⟩
   refine hK.out _ _ hS3 ?_
   clear hK K
   try simp only[Act.put,aP,aQ,aO]
   refine aT 9 40 rfl rfl (v:=?_) (.inl ⟨by rfl,?_⟩) ?_
   rotate_left 1
   ·(intro w hSw;(try dsimp only at hSw);go_simp;(try with_reducible rfl))
   try simp only[Act.put,aP,aQ,aO]
   refine iK (by kernel_rfl) (by kernel_rfl) rfl (fun K hK=>?_)
   have hcz:=hS3.1
   have hfz:w3.frozen? ⟨w1.heap.size,k,none⟩=false:=bn ((HP.out.keep hst).keep bJ.out.aJ).blk k
   have qm:=ah ((HP.out.keep hst).set hlt (t:=(a3,out.length,c3)) bJ.out)
   clear hS hS3 hpc hqc
   go_simp
   refine hK.out _ _ ?_
   clear hK K hcz hfz
   go_wp2
   go_roundw
   case rel=>exact⟨k+1,_,_,by omega,by go_num,qm.out,⟨fun d hd=>by
    by_cases he:d=k
    ·subst he;rw[upd_same];exact⟨HR3.out,yX.out,nH.out⟩
    ·rw[kH _ _ he];exact wR.out.done d (by omega),fun d h1 h2=>by
    rw[kH _ _ (by omega)];exact wR.out.todo d (by omega) h2⟩,((uQ.out.aF hst).aF bJ.out.aJ).trans (aj.setCell (S:=fun k=>k=w1.heap.size) w3 (p:=⟨w1.heap.size,k,none⟩) (.inl rfl) _) fun _ _ h=>h⟩
   case measure=>simp[intOf];omega
  ·obtain rfl:k=4:=by omega
   have c0:wr.cell? ⟨w1.heap.size,0,none⟩=some (.slice (A' 0).1 (A' 0).2.1 (A' 0).2.2):=HP.out.cell (by omega)
   have c1:wr.cell? ⟨w1.heap.size,1,none⟩=some (.slice (A' 1).1 (A' 1).2.1 (A' 1).2.2):=HP.out.cell (by omega)
   have c2:wr.cell? ⟨w1.heap.size,2,none⟩=some (.slice (A' 2).1 (A' 2).2.1 (A' 2).2.2):=HP.out.cell (by omega)
   have c3:wr.cell? ⟨w1.heap.size,3,none⟩=some (.slice (A' 3).1 (A' 3).2.1 (A' 3).2.2):=HP.out.cell (by omega)
   go_wp2_with(go_at_call 128;refine(Hr _ A' p (fun d hd=>(HP.out.own d hd).at_.rd) (fun d hd=>(wR.out.done d hd).2.2)).mono ?_;rintro e w3 ⟨v3,c,rfl,ho3,hc3,hl3⟩;obtain⟨a3,k3,rfl⟩:=ho3.shape;have bJ:=ah ho3;clear ho3;have sN:=ah hc3;clear hc3;have nH:=ah hl3;clear hl3)
   go_ret
   exact⟨_,c,rfl,bJ.out.base (HP.out.own 0 (by omega)).at_.aJ,by rw[sN.out];exact wR.out.BP,nH.out⟩
theorem Pq:∀args w,(callFunc 115 args).run Tryz.prog w= .ok (.enter 115 args) w:=enters_of Tryz.func115 (by kernel_rfl) rfl
theorem Pv:∀args w,(callFunc 130 args).run Tryz.prog w= .ok (.enter 130 args) w:=enters_of Tryz.func130 (by kernel_rfl) rfl
theorem Px (w:World) (va vb:Value) (a b:aV) (ha:fB w va a) (hb:fB w vb b) (fa:g_ a) (fb:g_ b) (ra:bY a) (rb:bY b) (la:a.length≤20000) (lb:b.length≤20000):
 Calls Tryz.prog 78 #[va,vb] w fun e w'=>∃v' c,e= .returned v'∧OwnAt w w' 92 3 v' c.length (bU c)∧iC 0 a b c∧c.length≤800000:=by
 have HC:=ah (Ib _ 0 Pq Pj w va vb a b ha hb fa fb ra rb la lb)
 clear ha hb fa fb ra rb la lb
 go_enter Tryz.func78,Tryz.ntmps78
 go_wp2_with(go_at_call 114;refine HC.out.mono ?_;rintro e w1 ⟨v1,c,rfl,ho1,hby,hol⟩;obtain⟨a1,c1,rfl⟩:=ho1.shape;have dB:=ah ho1;clear ho1;have HB:=ah hby;clear hby;have HL:=ah hol;clear hol)
 go_ret
 exact⟨_,c,rfl,dB.out,HB.out,HL.out⟩
theorem Py (w:World) (va vb:Value) (a b:aV) (ha:fB w va a) (hb:fB w vb b) (fa:g_ a) (fb:g_ b) (ra:bY a) (rb:bY b) (la:a.length≤20000) (lb:b.length≤20000):
 Calls Tryz.prog 93 #[va,vb] w fun e w'=>∃v' c,e= .returned v'∧OwnAt w w' 92 3 v' c.length (bU c)∧iC 2 a b c∧c.length≤800000:=by
 have HC:=ah (Ib _ 2 Pv Pn w va vb a b ha hb fa fb ra rb la lb)
 clear ha hb fa fb ra rb la lb
 go_enter Tryz.func93,Tryz.ntmps93
 go_wp2_with(go_at_call 114;refine HC.out.mono ?_;rintro e w1 ⟨v1,c,rfl,ho1,hby,hol⟩;obtain⟨a1,c1,rfl⟩:=ho1.shape;have dB:=ah ho1;clear ho1;have HB:=ah hby;clear hby;have HL:=ah hol;clear hol)
 go_ret
 exact⟨_,c,rfl,dB.out,HB.out,HL.out⟩
theorem zy (w:World) (v:Value) (c:aV) (hv:fB w v c) (hf:g_ c) (hl:c.length≤100000):
 Calls Tryz.prog 92 #[v] w fun e w'=>e= .returned (.bool (tf (bY c)))∧aj au w w':=by
 have HC:=ah (zi w v c hv hf hl)
 obtain⟨aA,cA,rfl⟩:=hv.sl
 clear hv hf hl
 by_cases hr:bY c
 ·rw[dH hr]
  go_enter Tryz.func92,Tryz.ntmps92
  go_wp2_with(go_at_call 129;refine HC.out.mono ?_;rintro e w1 ⟨hf1,hp1,-⟩;obtain⟨A,rfl,-⟩:=hp1 hr;clear hp1;have bQ:=ah hf1;clear hf1)
  go_ret
  exact⟨rfl,bQ.out.alloc1⟩
 ·rw[bW hr]
  go_enter Tryz.func92,Tryz.ntmps92
  go_wp2_with(go_at_call 129;refine HC.out.mono ?_;rintro e w1 ⟨hf1,-,hp1⟩;obtain rfl:=hp1 hr;clear hp1;have bQ:=ah hf1;clear hf1)
  go_ret
  exact⟨rfl,bQ.out.alloc1⟩
theorem Pz (w:World) (va vb:Value) (a b:aV) (ha:fB w va a) (hb:fB w vb b) (fa:g_ a) (fb:g_ b) (la:a.length≤20000) (lb:b.length≤20000):
 Calls Tryz.prog 70 #[va,vb] w fun e w'=>e= .returned (.bool (tf (bY a∧bY b∧qQ a b)))∧aj au w w':=by
 obtain⟨aA,cA,rfl⟩:=ha.sl
 obtain⟨aB,cB,rfl⟩:=hb.sl
 have qo:=ah (zy w _ a ha fa (by omega))
 have uS:=ah (fun w' (h:aj au w w')=>zy w' _ b (Rd.aN hb h) fb (by omega))
 have HCM:=ah (fun w' (h:aj au w w') ra rb=>Py w' _ _ a b (Rd.aN ha h) (Rd.aN hb h) fa fb ra rb la lb)
 clear ha hb fa fb la lb
 by_cases ra:bY a
 ·rw[dH ra]at qo
  by_cases rb:bY b
  ·rw[dH rb]at uS
   have RA:=ah ra
   have RB:=ah rb
   have hall:tf (bY a∧bY b∧qQ a b)=tf (qQ a b):=uz ⟨fun h=>h.2.2,fun h=>⟨ra,rb,h⟩⟩
   rw[hall]
   clear ra rb hall
   go_enter Tryz.func70,Tryz.ntmps70
   go_wp2_with(first
    |(go_at_call_of 92 aA;refine qo.out.mono ?_;rintro e w1 ⟨rfl,hw1⟩;have HW1:=ah hw1;clear hw1)
    |(go_at_call_of 92 aB;refine(uS.out _ HW1.out).mono ?_;rintro e w2 ⟨rfl,hw2⟩;have HW2:=ah (HW1.out.aF hw2);clear hw2)
    |(go_at_call 93;refine(HCM.out _ HW2.out RA.out RB.out).mono ?_;rintro e w3 ⟨v3,c,rfl,ho3,hby,hol⟩;obtain⟨a3,c3,rfl⟩:=ho3.shape;have bJ:=ah ho3;clear ho3;have HB:=ah hby;clear hby;clear hol))
   go_ret
   refine⟨bH (uD ?_),HW2.out.aF bJ.out.aJ⟩
   rw[←HB.out.Gm]
   simp
  ·rw[bW rb]at uS
   rw[bW fun h=>rb h.2.1]
   clear ra rb
   go_enter Tryz.func70,Tryz.ntmps70
   go_wp2_with(first
    |(go_at_call_of 92 aA;refine qo.out.mono ?_;rintro e w1 ⟨rfl,hw1⟩;have HW1:=ah hw1;clear hw1)
    |(go_at_call_of 92 aB;refine(uS.out _ HW1.out).mono ?_;rintro e w2 ⟨rfl,hw2⟩;have HW2:=ah (HW1.out.aF hw2);clear hw2))
   go_ret
   exact⟨rfl,HW2.out⟩
 ·rw[bW ra]at qo
  rw[bW fun h=>ra h.1]
  clear ra
  go_enter Tryz.func70,Tryz.ntmps70
  go_wp2_with(go_at_call_of 92 aA;refine qo.out.mono ?_;rintro e w1 ⟨rfl,hw1⟩;have HW1:=ah hw1;clear hw1)
  go_ret
  exact⟨rfl,HW1.out⟩
open Go.RowKit
def inB (n:Int) (r:Int×Int):Bool:=decide (r.1≤n)&&decide (n≤r.2)
theorem PD (l:aS) (n:Int):l.any (inB n)=tf (aX l n):=by
 refine uD ?_
 rw[List.any_eq_true]
 unfold aX inB
 simp only[Bool.and_eq_true,decide_eq_true_eq]
theorem CS {α:Type} {p:α→Bool} {l:List α} {k:Nat} (d:α) (hk:k<l.length):(l.take (k+1)).any p=((l.take k).any p||p (l.getD k d)):=by
 rw[take_succ d hk,List.any_append];simp
theorem PE (lo hi n:Int) (b:Nat) (w:World) (hb:w.cell? ⟨b,0,none⟩=some (.int .i64 n)):Calls Tryz.prog 189 #[.agg #[.int .i64 lo, .int .i64 hi], .pointer (some ⟨b,0,none⟩)] w fun e w'=>e= .returned (.bool (inB n (lo,hi)))∧aj au w w':=by
 have hlt:b<w.heap.size:=World.block_lt_of_cell? _ _ hb
 by_cases h1:lo≤n
 ·by_cases h2:n≤hi
  ·have hr:inB n (lo,hi)=true:=by simp[inB,h1,h2]
   rw[hr]
   go_enter Tryz.func189,Tryz.ntmps189
   go_wp2
   go_ret
   exact⟨rfl,aj.alloc _ _ _⟩
  ·have hr:inB n (lo,hi)=false:=by simp[inB,h2]
   have h3:decide (n≤hi)=false:=by simpa using h2
   rw[hr]
   go_enter Tryz.func189,Tryz.ntmps189
   go_wp2
   go_ret
   exact⟨rfl,aj.alloc _ _ _⟩
 ·have hr:inB n (lo,hi)=false:=by simp[inB,h1]
  have h3:decide (lo≤n)=false:=by simpa using h1
  rw[hr]
  go_enter Tryz.func189,Tryz.ntmps189
  go_wp2
  go_ret
  exact⟨rfl,aj.alloc _ _ _⟩
theorem PG (l:aS) (n:Int) (b:Nat) (w:World) (v:Value) (h:gZ w v l) (hl:l.length≤1000000) (hb:w.cell? ⟨b,0,none⟩=some (.int .i64 n)):
 Calls Tryz.prog 201 #[v, .func (.func 189) #[] #[.pointer (some ⟨b,0,none⟩)]] w fun e w'=>aj au w w'∧(l.any (inB n)=true→∃k:Nat,e= .returned (.int .i64 k))∧(l.any (inB n)=false→e= .returned (.int .i64 (-1))):=by
 have eg:∀args w,(callFunc 189 args).run Tryz.prog w= .ok (.enter 189 args) w:=enters_of Tryz.func189 (by kernel_rfl) rfl
 have HP:=ah (fun lo hi W (f:aj au w W)=>PE lo hi n b W (f.cell' hb id));clear hb
 obtain⟨A,hA⟩:∃A,A=l.any (inB n):=⟨_,rfl⟩
 have HA:=ah hA
 rw[←hA]
 clear hA
 rcases Rd.shape h with⟨ad,rfl,h0⟩|⟨p,off,c,rfl,hmax⟩
 ·have wU:=ah (show A=false by rw[HA.out,List.eq_nil_of_length_eq_zero h0];rfl)
  clear h h0
  go_enter Tryz.func201,Tryz.ntmps201
  go_wp2
  go_loop [8] (fun i=>i= .int .i64 0) (fun _=>0)
  case atStart=>rfl
  case round=>
   obtain rfl:=hrel
   go_wp2
   go_ret
   exact⟨aj.refl _ _,fun h=>(by rw[wU.out]at h;cases h),fun _=>rfl⟩
 ·have HH:=ah h;clear h
  generalize hn:l.length=m at*
  have HN:=ah hn;clear hn
  go_enter Tryz.func201,Tryz.ntmps201
  go_wp2
  go_loopw [8] (fun i W=>∃k:Nat,k≤m∧i= .int .i64 k∧(l.take k).any (inB n)=false∧aj au w W) (fun i _=>m-(intOf i).toNat)
  case atStart=>exact⟨0,Nat.zero_le _,rfl,by simp,aj.refl _ _⟩
  case round=>
   obtain⟨k,hk,rfl,ha,hw⟩:=hrel
   have mM:=ah ha;clear ha
   have HW:=ah hw;clear hw
   by_cases hlt:k<m
   ·have hlk:k<l.length:=by rw[HN.out];exact hlt
    obtain⟨q0,q1⟩:=lq HH.out HN.out.symm k hlk
    replace q0:=HW.out.cell' q0 id
    replace q1:=HW.out.cell' q1 id
    have HT:=ah (CS (p:=inB n) (0,0) hlk)
    have HE:=ah (fun h=>HA.out.trans (List.any_eq_true.2 ⟨_,getD_mem (0,0) hlk,h⟩):inB n (l.getD k (0,0))=true→A=true)
    have HC:=ah (HP.out (l.getD k (0,0)).1 (l.getD k (0,0)).2)
    have hpe:((l.getD k (0,0)).1,(l.getD k (0,0)).2)=l.getD k (0,0):=rfl
    rw[hpe]at HC
    clear hpe hlk
    generalize inB n (l.getD k (0,0))=y at*
    generalize (l.getD k (0,0)).1=x0 at*
    generalize (l.getD k (0,0)).2=x1 at*
    cases y with
    |true=>
     have HEX:=ah (HE.out rfl)
     clear HE HT
     go_wp2_with(go_at_call 189;refine(HC.out _ HW.out).mono ?_;rintro e w1 ⟨rfl,hw1⟩;have HW1:=ah (HW.out.aF hw1);clear hw1)
     go_ret
     exact⟨HW1.out,fun _=>⟨k,rfl⟩,fun h=>(by rw[HEX.out]at h;cases h)⟩
    |false=>
     have wV:=ah (show(l.take (k+1)).any (inB n)=false by rw[HT.out,mM.out];rfl)
     clear HE HT
     go_wp2_with(go_at_call 189;refine(HC.out _ HW.out).mono ?_;rintro e w1 ⟨rfl,hw1⟩;have HW1:=ah (HW.out.aF hw1);clear hw1)
     go_roundw
     case rel=>exact⟨k+1,by omega,by go_num,wV.out,HW1.out⟩
     case measure=>simp[intOf];omega
   ·have hnk:m=k:=by omega
    have hall:A=false:=by
     rw[HA.out]
     have:=mM.out
     rwa [List.take_of_length_le (by rw[HN.out,hnk];exact Nat.le_refl _)]at this
    have wW:=ah hall;clear hall
    go_wp2
    go_ret
    exact⟨HW.out,fun h=>(by rw[wW.out]at h;cases h),fun _=>rfl⟩
theorem PI (l:aS) (n:Int) (b:Nat) (w:World) (v:Value) (h:gZ w v l) (hl:l.length≤1000000) (hb:w.cell? ⟨b,0,none⟩=some (.int .i64 n)):
 Calls Tryz.prog 188 #[v, .func (.func 189) #[] #[.pointer (some ⟨b,0,none⟩)]] w fun e w'=>e= .returned (.bool (tf (aX l n)))∧aj au w w':=by
 have HI:=ah (PG l n b w v h hl hb)
 obtain⟨a,c,rfl⟩:=Rd.sl h
 rw[←PD]
 clear h hb
 generalize l.length=m at*
 generalize l.any (inB n)=y at*
 cases y with
 |true=>
  go_enter Tryz.func188,Tryz.ntmps188
  go_wp2_with(go_at_call 201;refine HI.out.mono ?_;rintro e w1 ⟨hw1,hy,-⟩;obtain⟨k,he⟩:=hy rfl;subst he;have HW1:=ah hw1;clear hw1 hy)
  go_ret
  exact⟨by first|rfl|(simp;omega),HW1.out⟩
 |false=>
  go_enter Tryz.func188,Tryz.ntmps188
  go_wp2_with(go_at_call 201;refine HI.out.mono ?_;rintro e w1 ⟨hw1,-,hy⟩;have he:=hy rfl;subst he;have HW1:=ah hw1;clear hw1 hy)
  go_ret
  exact⟨by first|rfl|(simp;omega),HW1.out⟩
theorem PK (l:aS) (n:Int) (w:World) (v:Value) (h:gZ w v l) (hr:bM l) (hl:l.length≤1000000):
 Calls Tryz.prog 173 #[v, .int .i64 n] w fun e w'=>e= .returned (.bool (tf (aX l n)))∧aj au w w':=by
 have HR:=ah (fun W (f:aj au w W)=>yS W v l (Rd.aN h f) hr.fits)
 have HC:=ah (fun W b (f:aj au w W) hb=>PI l n b W v (Rd.aN h f) hl hb)
 rw[dH hr]at HR
 obtain⟨a,c,rfl⟩:=Rd.sl h
 clear h hr
 generalize l.length=m at*
 generalize tf (aX l n)=y at*
 go_enter Tryz.func173,Tryz.ntmps173
 go_wp2_with(first
  |(go_at_call 167;refine(HR.out _ (aj.alloc _ _ _)).mono ?_;rintro e w1 ⟨rfl,hw1⟩;have y0:w1.cell? ⟨w.heap.size,0,none⟩=some (.int .i64 n):=hw1.cell' (aI (heap_alloc_new w _) 0 rfl) id;have HW1:=ah ((aj.alloc au w _).aF hw1);clear hw1)
  |(go_at_call 188;refine(HC.out _ _ HW1.out y0).mono ?_;rintro e w2 ⟨rfl,hw2⟩;have HW2:=ah (HW1.out.aF hw2);clear hw2))
 go_ret
 exact⟨by cases y<;>rfl,HW2.out⟩
open Go.RowKit
noncomputable def fJ (c:aV) (d n:Int):Bool:=kR d n&&tf (iy c d n)
theorem Ig (c:aV) (w:World) (v:Value) (hv:fB w v c) (hf:g_ c) (hr:bY c) (hl:c.length≤100000) (dc n:Int):
 Calls Tryz.prog 144 #[v, .agg #[.int .i64 dc, .int .i64 n]] w fun e w'=>e= .returned (.bool (fJ c dc n))∧aj au w w':=by
 obtain⟨aA,cA,rfl⟩:=hv.sl
 have HA:=ah (fun w' (h:aj au w w')=>zi w' _ c (Rd.aN hv h) hf hl)
 have RA:=ah hr;clear hr
 have HD:=ah (fun W=>uH dc n W)
 have PL:=ah (fun d=>Nat.le_trans (uK c d) hl)
 clear hv hf hl
 generalize c.length=m at*
 unfold fJ
 cases hd:kR dc n with
 |false=>
  rw[hd]at HD
  clear hd
  go_enter Tryz.func144,Tryz.ntmps144
  go_wp2_with(go_at_call 129;refine(HA.out _ (aj.alloc _ _ _)).mono ?_;rintro e w1 ⟨hf1,hp1,-⟩;obtain⟨A,rfl,-⟩:=hp1 RA.out;clear hp1;have b1:=hf1.blk (heap_alloc_new w _) id;have HB1:=ah b1;clear b1;have bQ:=ah ((aj.alloc au w _).aF hf1);clear hf1)
  obtain⟨α,hne,K,hK1,hK0,hK2⟩:=worlds (w1.alloc (.cells #[.slice (A 0).1 (A 0).2.1 (A 0).2.2, .slice (A 1).1 (A 1).2.1 (A 1).2.2, .slice (A 2).1 (A 2).2.1 (A 2).2.2, .slice (A 3).1 (A 3).2.1 (A 3).2.2] 177))
  have eY:=ah (fun s=>(bQ.out.alloc1).aF (hK1 s))
  have k0:∀s,(K s).cell? ⟨w.heap.size,0,none⟩=some (.int .i64 dc):=fun s=>(hK1 s).cell' ((aj.alloc au w1 _).cell' (aI HB1.out 0 rfl) id) id
  have k1:∀s,(K s).cell? ⟨w.heap.size,1,none⟩=some (.int .i64 n):=fun s=>(hK1 s).cell' ((aj.alloc au w1 _).cell' (aI HB1.out 1 rfl) id) id
  clear hK1
  refine dA K (by kernel_rfl) (by kernel_rfl) hK0 ?_
  repeat(go_big_quiet_step ((go_at_call 126;exact Calls.bf hK2 (HD.out _))))
  refine wpQuiet_nil ?_
  intro w' hw'
  obtain⟨s,rfl⟩:=hw'
  go_wp2
  go_ret
  exact⟨rfl,eY.out s⟩
 |true=>
  rw[hd]at HD
  obtain⟨k,rfl,hk4⟩:∃k:Nat,dc=(k:Int)∧k<4:=by
   unfold kR at hd
   simp only[decide_eq_true_eq]at hd
   exact⟨dc.toNat,by omega,by omega⟩
  clear hd
  have hki:(k:Int)<4:=by omega
  have hkd:decide ((k:Int)<4)=true:=by simpa using hki
  show Calls _ _ _ _ fun e w'=>e= .returned (.bool (true&&tf (aX (aZ c k) n)))∧_
  have RP:=ah (RA.out.2 k (by omega) hki)
  go_enter Tryz.func144,Tryz.ntmps144
  go_wp2_with(go_at_call 129;refine(HA.out _ (aj.alloc _ _ _)).mono ?_;rintro e w1 ⟨hf1,hp1,-⟩;obtain⟨A,rfl,hvs⟩:=hp1 RA.out;clear hp1;have b1:=hf1.blk (heap_alloc_new w _) id;have HB1:=ah b1;clear b1;have bQ:=ah ((aj.alloc au w _).aF hf1);clear hf1;have ql:=ah hvs;clear hvs)
  obtain⟨α,hne,K,hK1,hK0,hK2⟩:=worlds (w1.alloc (.cells #[.slice (A 0).1 (A 0).2.1 (A 0).2.2, .slice (A 1).1 (A 1).2.1 (A 1).2.2, .slice (A 2).1 (A 2).2.1 (A 2).2.2, .slice (A 3).1 (A 3).2.1 (A 3).2.2] 177))
  have eY:=ah (fun s=>(bQ.out.alloc1).aF (hK1 s))
  have k0:∀s,(K s).cell? ⟨w.heap.size,0,none⟩=some (.int .i64 k):=fun s=>(hK1 s).cell' ((aj.alloc au w1 _).cell' (aI HB1.out 0 rfl) id) id
  have k1:∀s,(K s).cell? ⟨w.heap.size,1,none⟩=some (.int .i64 n):=fun s=>(hK1 s).cell' ((aj.alloc au w1 _).cell' (aI HB1.out 1 rfl) id) id
  have k2:∀s,(K s).cell? ⟨w1.heap.size,k,none⟩=some (.slice (A k).1 (A k).2.1 (A k).2.2):=fun s=>(hK1 s).cell' (aI (heap_alloc_new w1 _) k (by rcases(by omega:k=0∨k=1∨k=2∨k=3)with rfl|rfl|rfl|rfl<;>rfl)) id
  have PN:=ah (fun s=>PK (aZ c k) n (K s) (.slice (A k).1 (A k).2.1 (A k).2.2) (Rd.aN (Rd.aN (ql.out.own k hk4).rd (aj.alloc au w1 _)) (hK1 s)) RP.out (by have:=PL.out (k:Int);omega))
  clear hK1 ql
  generalize A k=t at*
  generalize hy:tf (aX (aZ c k) n)=y at*
  have HY:=ah hy;clear hy
  refine dA K (by kernel_rfl) (by kernel_rfl) hK0 ?_
  repeat(go_big_quiet_step ((first|(go_at_call 126;exact Calls.bf hK2 (HD.out _))|(go_at_call 173;exact Calls.bf hK2 (PN.out _)))))
  refine wpQuiet_nil ?_
  intro w' hw'
  obtain⟨s,rfl⟩:=hw'
  go_wp2
  go_ret
  exact⟨by rw[HY.out];cases y<;>rfl,eY.out s⟩
open Go.RowKit
def numsL (l:aS) (d:Int):List Int:=(l.filter fun r=>r.1==d).map (·.2)
theorem Ih {l:aS} {k:Nat} (d:Int) (hk:k<l.length):numsL (l.take (k+1)) d=numsL (l.take k) d++(if(l.getD k (0,0)).1=d then [(l.getD k (0,0)).2]else []):=by
 rw[take_succ (0,0) hk]
 unfold numsL
 rw[List.filter_append,List.map_append]
 congr 1
 generalize l.getD k (0,0)=r
 by_cases h:r.1=d
 ·rw[if_pos h,List.filter_cons_of_pos (by simpa using h)];rfl
 ·rw[if_neg h,List.filter_cons_of_neg (by simpa using h)];rfl
theorem zA {l:aS} {d n:Int}:n∈numsL l d↔(d,n)∈l:=by
 unfold numsL
 simp only[List.mem_map,List.mem_filter]
 constructor
 ·rintro⟨r,⟨hr,he⟩,rfl⟩
  have:r.1=d:=by simpa using he
  subst this
  exact hr
 ·intro h
  exact⟨(d,n),⟨h,by simp⟩,rfl⟩
theorem CU (l:aS) (d:Int):(numsL l d).length≤l.length:=by
 unfold numsL;rw[List.length_map];exact List.length_filter_le _ _
def qp (l:aS):Prop:=∀r∈l,0≤r.1∧r.1<4∧1≤r.2∧r.2≤1099511627776
def CV (l:aS) (d:Int) (o:aS):Prop:=bM o∧∀n,aX o n↔(d,n)∈l
theorem jP.CW {l:aS} {c:aV} (h:jP (CV l) 4 c):mg l c:=
 ⟨⟨h.rise,fun d h0 h4=>(h.parts d h0 h4).1⟩,fun d n h0 h4=>(h.parts d h0 h4).2 n⟩
theorem sF.PO {l:aS} (hl:qp l) {d:Int} {o:aS} (h:sF (numsL l d) o none):CV l d o:=by
 have hm:∀n,aX o n↔(d,n)∈l:=fun n=>by
  rw[h.none_ rfl n,zA]
  exact⟨fun h=>h.2,fun h=>⟨by have:=hl _ h;show 0<n;have:1≤n:=this.2.2.1;omega,h⟩⟩
 exact⟨bM.of h.from_ fun n hn=>(hl _ ((hm n).1 hn)).2.2.2,hm⟩
theorem PS {l:aS} (hl:qp l) (d:Int):∀x∈numsL l d,1≤x∧x≤1099511627777:=fun x hx=>by
 have:=hl _ (zA.1 hx)
 have h1:1≤x:=this.2.2.1
 have h2:x≤1099511627776:=this.2.2.2
 omega
theorem CX {c:aV} {k:Nat} {d:Int} {l o:aS} (h:c.length≤10000*k) (hk:k≤4) (hl:o.length≤10000):(c++dR d o).length≤10000*(k+1)∧c.length+o.length≤1000000:=by
 rw[List.length_append,qU];omega
theorem PU (w:World) (v:Value) (l:aS) (hv:gZ w v l) (hd:qp l) (hl:l.length≤10000):
 Calls Tryz.prog 88 #[v] w fun e w'=>∃v' c,e= .returned v'∧OwnAt w w' 92 3 v' c.length (bU c)∧mg l c∧c.length≤40000:=by
 obtain⟨i0,hi,hz0,hz1,hz2⟩:=info_parts wH
 obtain⟨j0,hji,hy0,hy1,hy2⟩:=info_parts yU
 obtain⟨aA,cA,rfl⟩:=hv.sl
 have HH:=ah hv;clear hv
 have HD:=ah hd;clear hd
 have HL:=ah hl;clear hl
 generalize hn:l.length=n at*
 have HN:=ah hn;clear hn
 go_enter Tryz.func88,Tryz.ntmps88
 go_wp2
 go_loopw [3,7] (fun v i ww=>∃(k:Nat) (c:aV),k≤4∧i= .int .i64 k∧OwnAt w ww 92 3 v c.length (bU c)∧jP (CV l) k c∧c.length≤10000*k) (fun _ i _=>4-(intOf i).toNat)
 case atStart=>exact⟨0,[],by omega,rfl,OwnAt.nil (aj.refl _ _) _ _,jP.zero _,Nat.zero_le _⟩
 case round=>
  obtain⟨k,c,hk,rfl,ho,hu,hlen⟩:=hrel
  obtain⟨av,cv,rfl⟩:=ho.shape
  have HO:=ah ho;clear ho
  have HU:=ah hu;clear hu
  have HLEN:=ah hlen;clear hlen
  by_cases hlt:k<4
  ·have hki:(k:Int)<4:=by omega
   have hkd:decide ((k:Int)<4)=true:=by simpa using hki
   go_wp2
   go_loopw [5,12] (fun v i ww=>∃(j m:Nat),j≤n∧m≤j∧i= .int .i64 j∧m=(numsL (l.take j) k).length∧OwnAt wr ww 2 1 v m (kE (numsL (l.take j) k))) (fun _ i _=>n-(intOf i).toNat)
   case atStart=>exact⟨0,0,Nat.zero_le _,Nat.le_refl _,rfl,rfl,OwnAt.nil (aj.refl _ _) _ _⟩
   case round=>
    obtain⟨j,m,hj,hmj,rfl,hm,hoi⟩:=hrel
    obtain⟨ai,ci,rfl⟩:=hoi.shape
    have sO:=ah hoi;clear hoi
    have HM:=ah hm;clear hm
    have wX:=ah hmj;clear hmj
    by_cases hjl:j<n
    ·rcases Rd.shape HH.out with⟨ad,he,h0⟩|⟨b,off,cc,he,hmax⟩
     ·exfalso;have:=HN.out;omega
     ·injection he with e1 e2 e3
      subst e1 e3
      clear e2
      rw[HN.out]at hmax
      obtain⟨p0,p1⟩:=lq HH.out HN.out.symm j (by rw[HN.out];exact hjl)
      have q0:=sO.out.aJ.cell' (HO.out.aJ.cell' p0 id) id
      have q1:=sO.out.aJ.cell' (HO.out.aJ.cell' p1 id) id
      have hE:=Ih (l:=l) (k:=j) k (by rw[HN.out];exact hjl)
      generalize l.getD j (0,0)=s at*
      clear p0 p1
      by_cases he:s.1=k
      ·rw[if_pos he]at hE
       have he':((s.1:Int)==(k:Int))=true:=by simp[he]
       have HE:=ah hE;clear hE
       clear he
       go_wp2_with(at_builtin;refine jF _ _ [.int .i64 s.2] rfl (.tmp 22) (.tmp 28) 171 rfl 2 j0 _ 1 8 Tryz.underlying171 hji hy0 hy1 hy2 (by decide) (by decide) _ _ _ sO.out 1 1 rfl rfl rfl (by simp[Value.oneCell']) (by have:=HL.out;have:=wX.out;simp only[maxLen];omega) (by have:=HL.out;have:=wX.out;omega) ?_;intro ad iU w2 bI;have OW:=ah bI;clear bI)
       go_roundw
       case rel=>
        refine⟨j+1,m+1,by omega,by have:=wX.out;omega,by go_num,by rw[HE.out,List.length_append,←HM.out];rfl,?_⟩
        rw[HE.out,yN]
        exact OW.out
       case measure=>simp[intOf];omega
      ·rw[if_neg he,List.append_nil]at hE
       have he':((s.1:Int)==(k:Int))=false:=by simpa using he
       have HE:=ah hE;clear hE
       clear he
       go_wp2
       go_roundw
       case rel=>exact⟨j+1,m,by omega,by have:=wX.out;omega,by go_num,by rw[HE.out];exact HM.out,by rw[HE.out];exact sO.out⟩
       case measure=>simp[intOf];omega
    ·obtain rfl:j=n:=by omega
     rw[List.take_of_length_le (by rw[HN.out];exact Nat.le_refl _)]at sO HM
     have hob:=sO.out.rd
     rw[HM.out]at hob
     have wJ:=ah hob;clear hob
     have PV:=ah (HO.out.keep sO.out.aJ)
     have hlm:m≤10000:=Nat.le_trans wX.out HL.out
     have Ii:=ah (HM.out▸hlm:(numsL l k).length≤10000)
     clear hlm
     rw[HM.out]
     go_wp2_with(first
      |(go_at_call 124;refine(NZ _ _ (numsL l k) wJ.out (Nat.le_trans Ii.out (by decide)) (PS HD.out k)).mono ?_;rintro e w3 ⟨v3,o,rfl,ho3,hof,hol⟩;obtain⟨a3,c3,rfl⟩:=ho3.shape;have bJ:=ah ho3;clear ho3;have mO:=ah hof;clear hof;have HOL:=ah (Nat.le_trans hol Ii.out);clear hol)
      |(go_at_call 122;refine(GN _ _ o k bJ.out.rd (Nat.le_trans HOL.out (by decide))).mono ?_;rintro e w4 ⟨v4,rfl,ji⟩;obtain⟨a4,c4,rfl⟩:=ji.shape;have jy:=ah ji;clear ji;have HKK:=ah (PV.out.keep (bJ.out.aJ.aF jy.out.aJ)))
      |(at_builtin;refine mD w _ _ rfl (.tmp 31) (.tmp 35) 30 30 rfl 92 92 i0 _ 3 24 Tryz.underlying30 Tryz.underlying30 hi hz0 hz1 hz2 (by decide) (by decide) _ _ _ HKK.out _ o.length rfl rfl jy.out.rd (by rw[yP,qU]) (BG _) (by have:=(CX (d:=k) (l:=[]) HLEN.out (Nat.le_of_lt hlt) HOL.out).2;simp only[maxLen];omega) (by have:=(CX (d:=k) (l:=[]) HLEN.out (Nat.le_of_lt hlt) HOL.out).2;omega) ?_;intro ad cc w5 dw;have OW:=ah dw;clear dw))
     go_roundw
     case rel=>
      refine⟨k+1,c++dR k o,by omega,by go_num,?_,?_,(CX (l:=[]) HLEN.out (Nat.le_of_lt hlt) HOL.out).1⟩
      ·rw[List.length_append,qU,yO];exact OW.out
      ·exact HU.out.step (by omega) (by omega) (mO.out.PO HD.out)
     case measure=>simp[intOf];omega
  ·obtain rfl:k=4:=by omega
   go_wp2
   go_ret
   exact⟨_,c,rfl,HO.out,HU.out.CW,HLEN.out⟩
end Go.Proofs.YtlhmbkjdfjoilaaGreat
