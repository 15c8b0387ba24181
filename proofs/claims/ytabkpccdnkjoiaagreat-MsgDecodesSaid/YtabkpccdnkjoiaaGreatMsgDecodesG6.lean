/- Words for the law MsgDecodes: SortLay, SUnion, SUnion2, CBy, R7e, Tree, BunLaw. -/
import Derived.Test.YtabkpccdnkjoiaaGreatMsgDecodesG0
import Derived.Test.YtabkpccdnkjoiaaGreatMsgDecodesG4
import Derived.Test.YtabkpccdnkjoiaaGreatMsgDecodesG5
import Derived.Shelf.SlSortCmp.WholeK
import Derived.Ground.SlsfProg
import Derived.Test.YtabkpccdnkjoiaaGreatProg
import Derived.Shelf.SlSortCmp.NoneTotal
import Derived.Lib.AppendZerosOnto
set_option linter.unusedSimpArgs false
set_option linter.unusedVariables false
set_option maxHeartbeats 32000000
set_option maxRecDepth 1000000
namespace Go.Proofs
open Go.Shelf
def Tryz.sortRun_ren:Go.Shelf.Ren:=⟨fun|6=>232|15=>166|14=>265|28=>216|29=>217|20=>285|21=>286|22=>287|23=>288|24=>289|25=>290|26=>291|27=>292|46=>299|47=>257|48=>258|49=>300|50=>301|57=>304|n=>n,fun|22=>266|24=>288|25=>300|3=>3|39=>199|0=>0|53=>151|55=>196|4=>4|46=>274|45=>273|50=>189|5=>5|9=>9|66=>322|70=>326|76=>343|77=>344|n=>n,fun|n=>n⟩
theorem Tryz.sortRun:Go.Proofs.SlLaysF0.n6 Tryz.prog Tryz.sortRun_ren:= {
 mixed:=by kernel_rfl
 f6:=⟨Tryz.f232.name,by decide,Tryz.func232.trans (congrArg some (by kernel_rfl))⟩
 f14:=⟨Tryz.f265.name,by decide,Tryz.func265.trans (congrArg some (by kernel_rfl))⟩
 f15:=Tryz.func166.trans (congrArg some (by kernel_rfl))
 f20:=⟨Tryz.f285.name,by decide,Tryz.func285.trans (congrArg some (by kernel_rfl))⟩
 f21:=⟨Tryz.f286.name,by decide,Tryz.func286.trans (congrArg some (by kernel_rfl))⟩
 f22:=⟨Tryz.f287.name,by decide,Tryz.func287.trans (congrArg some (by kernel_rfl))⟩
 f23:=⟨Tryz.f288.name,by decide,Tryz.func288.trans (congrArg some (by kernel_rfl))⟩
 f24:=⟨Tryz.f289.name,by decide,Tryz.func289.trans (congrArg some (by kernel_rfl))⟩
 f25:=⟨Tryz.f290.name,by decide,Tryz.func290.trans (congrArg some (by kernel_rfl))⟩
 f26:=⟨Tryz.f291.name,by decide,Tryz.func291.trans (congrArg some (by kernel_rfl))⟩
 f27:=⟨Tryz.f292.name,by decide,Tryz.func292.trans (congrArg some (by kernel_rfl))⟩
 f28:=Tryz.func216.trans (congrArg some (by kernel_rfl))
 f29:=Tryz.func217.trans (congrArg some (by kernel_rfl))
 f46:=⟨Tryz.f299.name,by decide,Tryz.func299.trans (congrArg some (by kernel_rfl))⟩
 f47:=Tryz.func257.trans (congrArg some (by kernel_rfl))
 f48:=Tryz.func258.trans (congrArg some (by kernel_rfl))
 f49:=⟨Tryz.f300.name,by decide,Tryz.func300.trans (congrArg some (by kernel_rfl))⟩
 f50:=⟨Tryz.f301.name,by decide,Tryz.func301.trans (congrArg some (by kernel_rfl))⟩
 f57:=⟨Tryz.f304.name,by decide,Tryz.func304.trans (congrArg some (by kernel_rfl))⟩
 t0:=Tryz.underlying0
 a0:=Tryz.isAgg0
 z0:=Tryz.sizeOf0
 v0:=Tryz.zeroValue0
 t3:=Tryz.underlying3
 a3:=Tryz.isAgg3
 z3:=Tryz.sizeOf3
 v3:=Tryz.zeroValue3
 t4:=Tryz.underlying4
 a4:=Tryz.isAgg4
 z4:=Tryz.sizeOf4
 v4:=Tryz.zeroValue4
 t5:=Tryz.underlying5
 a5:=Tryz.isAgg5
 z5:=Tryz.sizeOf5
 v5:=Tryz.zeroValue5
 t9:=Tryz.underlying9
 a9:=Tryz.isAgg9
 z9:=Tryz.sizeOf9
 v9:=Tryz.zeroValue9
 t22:=Tryz.underlying266
 a22:=Tryz.isAgg266
 z22:=Tryz.sizeOf266
 v22:=Tryz.zeroValue266
 t25:=Tryz.underlying300
 a25:=Tryz.isAgg300
 z25:=Tryz.sizeOf300
 v25:=Tryz.zeroValue300
 t39:=Tryz.underlying199
 a39:=Tryz.isAgg199
 z39:=Tryz.sizeOf199
 v39:=Tryz.zeroValue199
 t45:=Tryz.underlying273
 a45:=Tryz.isAgg273
 z45:=Tryz.sizeOf273
 v45:=Tryz.zeroValue273
 t46:=Tryz.underlying274
 a46:=Tryz.isAgg274
 z46:=Tryz.sizeOf274
 v46:=Tryz.zeroValue274
 t50:=Tryz.underlying189
 a50:=Tryz.isAgg189
 z50:=Tryz.sizeOf189
 v50:=Tryz.zeroValue189
 t53:=Tryz.underlying151
 a53:=Tryz.isAgg151
 z53:=Tryz.sizeOf151
 v53:=Tryz.zeroValue151
 t55:=Tryz.underlying196
 a55:=Tryz.isAgg196
 z55:=Tryz.sizeOf196
 v55:=Tryz.zeroValue196
 t66:=Tryz.underlying322
 a66:=Tryz.isAgg322
 z66:=Tryz.sizeOf322
 v66:=Tryz.zeroValue322
 t70:=Tryz.underlying326
 a70:=Tryz.isAgg326
 z70:=Tryz.sizeOf326
 v70:=Tryz.zeroValue326
 t76:=Tryz.underlying343
 a76:=Tryz.isAgg343
 z76:=Tryz.sizeOf343
 v76:=Tryz.zeroValue343
 t77:=Tryz.underlying344
 a77:=Tryz.isAgg344
 z77:=Tryz.sizeOf344
 v77:=Tryz.zeroValue344}
end Go.Proofs
namespace Go.Proofs.YtabkpccdnkjoiaaGreat
open Go.RowKit Go.Sort
theorem Zq (x y:Int×Int) (W:World):Calls Tryz.prog 268 #[.agg #[.int .i64 x.1, .int .i64 x.2], .agg #[.int .i64 y.1, .int .i64 y.2]] W fun e w'=>e= .returned (.int .i64 (yP x y))∧∃q os',w'=grow (W.drewN q) os':=by
 unfold yP
 go_enter Tryz.func268,Tryz.ntmps268
 go_wp2_with(go_at_call 234;refine(Qx _ _ _).mono ?_;rintro e w' ⟨rfl,rfl⟩)
 go_ret
 exact⟨rfl,0,_,by rw[alloc_eq_grow,alloc_eq_grow,grow_grow];rfl⟩
theorem Zr (g:Nat) (eg:∀args w,(callFunc g args).run Tryz.prog w= .ok (.enter g args) w)
 (hg:∀x y W,Calls Tryz.prog g #[.agg #[.int .i64 x.1, .int .i64 x.2], .agg #[.int .i64 y.1, .int .i64 y.2]] W fun e w'=>e= .returned (.int .i64 (yP x y))∧∃q os',w'=grow (W.drewN q) os')
 (w0 w:World) (v:Value) (n:Nat) (l:aW) (h:OwnAt w0 w 288 2 v n (fH l)) (hl:l.length=n) (hn:n≤1000000):
 Calls Tryz.prog 232 #[v, .func (.func g) #[] #[]] w fun e w'=>e= .returned (.tuple #[])∧∃l':aW,l'.Perm l∧l'.Pairwise (fun a b=>a.1≤b.1)∧OwnAt w0 w' 288 2 v n (fH l'):=by
 rcases Nat.eq_zero_or_pos n with rfl|h0
 ·obtain⟨a,c,rfl⟩:=h.shape
  obtain rfl:l=[]:=List.eq_nil_of_length_eq_zero hl
  exact(AnyF.slices_SortFunc_none Tryz.sortRun a c _ w).mono fun _ _ ⟨he,hw⟩=>⟨he,[],List.Perm.refl _,List.Pairwise.nil,by rw[hw];exact h⟩
 ·obtain⟨g',c',rfl,_,hlt,_⟩:=h.row h0
  have hc:=AnyQ.slices_SortFunc Tryz.sortRun 2 Tryz.isAgg288 Tryz.sizeOf288 encR (fun _=>rfl) (fun x v hv=>by simp[encR]at hv;rcases hv with rfl|rfl<;>rfl) yP Zo g #[] g' 0 c' l.toArray w eg (fun _ _ _ _ x y=>hg x y _) (h.Zk h0 hl) hlt (by simp;omega)
  have hs:l.toArray.size=n:=by simpa using hl
  rw[hs]at hc
  refine Calls.mono hc fun e w' ⟨he,d',m,os,hp,hq,hw⟩=>⟨he,d'.toList,?_,?_,?_⟩
  ·have:=Zn (d:=l.toArray) (d':=d') (by rw[hs];exact hp)
   simpa using this
  ·have e1:d'.size=n:=by rw[hp.1,hs]
   exact Zp (by rw[e1];exact hq)
  ·rw[hw]
   exact h.sorted d' (by rw[hp.1,hs]) h0 m os
theorem Ro {l l':aW} (hp:l'.Perm l) (hs:l'.Pairwise (fun a b=>a.1≤b.1)) (hb:∀r∈l,1≤r.1∧r.1≤r.2∧r.2≤1099511627776):dR (sS l')∧(∀n,dB (sS l') n↔dB l n)∧∀r∈l',Bd r:=by
 have hb':∀r∈l',1≤r.1∧r.1≤r.2∧r.2≤1099511627776:=fun r hr=>hb r (hp.mem_iff.1 hr)
 have AX:sQ 1 l':=sQ.Rn hs fun r hr=>⟨(hb' r hr).1,(hb' r hr).2.1⟩
 have hm:∀n,dB (sS l') n↔dB l n:=fun n=>by
  rw[X_ AX]
  exact⟨fun⟨r,hr,h⟩=>⟨r,hp.mem_iff.1 hr,h⟩,fun⟨r,hr,h⟩=>⟨r,hp.mem_iff.2 hr,h⟩⟩
 refine⟨dR.of (Ya AX) fun n hn=>?_,hm,fun r hr=>by have:=hb' r hr;unfold Bd;omega⟩
 obtain⟨r,hr,h⟩:=(hm n).1 hn
 have:=hb r hr
 omega
theorem Ls:∀(l:aW) (c:Int×Int),(jn c l).length≤l.length+1
 |[],c=>by simp[jn]
 |r::l,c=>by
  unfold jn
  split
  ·have:=Ls l (c.1,max c.2 r.2);simp only[List.length_cons];omega
  ·have:=Ls l r;simp only[List.length_cons];omega
theorem Zt (l:aW):(sS l).length≤l.length:=by
 cases l with
 |nil=>exact Nat.le_refl _
 |cons r l=>exact Ls l r
end Go.Proofs.YtabkpccdnkjoiaaGreat
namespace Go.Proofs.YtabkpccdnkjoiaaGreat
open Go.RowKit Go.Sort
open Go.RowKit
def Rq (g:Nat) (how:Int):Prop:=∀(w:World) (va vb:Value) (a b:aW),lK w va a→lK w vb b→dR a→dR b→a.length≤20000→b.length≤20000→
 Calls Tryz.prog g #[va,vb] w fun e w'=>∃v' out,e= .returned v'∧OwnAt w w' 288 2 v' out.length (fH out)∧dR out∧(∀n,dB out n↔iF how (dB a n) (dB b n))∧out.length≤200000
theorem Lu:∀ {s l:List Int},s.Nodup→(∀x∈s,x∈l)→s.length≤l.length
 |[],_,_,_=>Nat.zero_le _
 |x::s,l,hn,h=>by
  have hx:=h x List.mem_cons_self
  have hn2:=List.nodup_cons.1 hn
  have:=Lu (s:=s) (l:=l.erase x) hn2.2 fun y hy=>(List.mem_erase_of_ne (by intro e;subst e;exact hn2.1 hy)).2 (h y (List.mem_cons_of_mem _ hy))
  rw[List.length_erase_of_mem hx]at this
  have hl:0<l.length:=List.length_pos_of_mem hx
  simp only[List.length_cons]
  omega
theorem LC:∀(b:aW) (lo hi:Int) (r:Int×Int),r∈ng lo hi b→r.1=lo∨∃x∈b,r.1=x.2+1
 |[],lo,hi,r,h=>by
  have h:r∈(if lo≤hi then [(lo,hi)]else []:aW):=h
  split at h
  ·simp at h;subst h;exact .inl rfl
  ·cases h
 |x::b,lo,hi,r,h=>by
  have h:r∈(if x.2<lo∨hi<x.1 then ng lo hi b else(if lo<x.1 then [(lo,x.1-1)]else [])++ng (x.2+1) hi b):=h
  split at h
  ·rcases LC b lo hi r h with h|⟨y,hy,h⟩
   ·exact .inl h
   ·exact .inr ⟨y,List.mem_cons_of_mem _ hy,h⟩
  ·rcases List.mem_append.1 h with h|h
   ·split at h
    ·simp at h;subst h;exact .inl rfl
    ·cases h
   ·rcases LC b _ hi r h with h|⟨y,hy,h⟩
    ·exact .inr ⟨x,List.mem_cons_self,h⟩
    ·exact .inr ⟨y,List.mem_cons_of_mem _ hy,h⟩
theorem LD:∀ {l:aW} {lo:Int},iM lo l→(l.map (·.1)).Nodup
 |[],_,_=>List.nodup_nil
 |r::l,lo,h=>by
  rw[List.map_cons,List.nodup_cons]
  refine⟨fun hm=>?_,LD h.2.2⟩
  obtain⟨x,hx,he⟩:=List.mem_map.1 hm
  have:=oZ h.2.2 x hx
  have:=h.2.1
  omega
theorem Rt {a b:aW} (ra:dR a) (rb:dR b):(rQ a b).length≤a.length+b.length:=by
 have hn:=LD (Hq a b 1 1 ra.1 rb.1)
 have:=Lu (l:=a.map (·.1)++b.map (fun x=>x.2+1)) hn fun x hx=>by
  obtain⟨r,hr,rfl⟩:=List.mem_map.1 hx
  obtain⟨y,hy,hr⟩:=List.mem_flatMap.1 hr
  rcases LC b y.1 y.2 r hr with h|⟨z,hz,h⟩
  ·exact List.mem_append_left _ (List.mem_map.2 ⟨y,hy,h.symm⟩)
  ·exact List.mem_append_right _ (List.mem_map.2 ⟨z,hz,h.symm⟩)
 simpa using this
theorem Zu:Rq 238 2:=fun w va vb a b ha hb ra rb la lb=>
 (Zh w va vb a b ha hb ra rb la lb).mono fun _ _ ⟨v',h1,h2⟩=>⟨v',rQ a b,h1,h2,dR.of (Hq a b 1 1 ra.1 rb.1) fun n hn=>(ra.Ia ((Hr a b 1 n rb.1).1 hn).1).2,fun n=>by rw[Hr a b 1 n rb.1];unfold iF;simp,by have:=Rt ra rb;omega⟩
structure LG (how:Int) (a b:aX) (k:Nat) (p:Nat→aW):Prop where
 done:∀d,d<k→dR (p d)∧(∀n,dB (p d) n↔iF how (kT a d n) (kT b d n))∧(p d).length≤200000
 todo:∀d,k≤d→d<4→p d=bQ a d
theorem LG.KY {how:Int} {a b:aX} {p:Nat→aW} (h:LG how a b 4 p):rU how a b (nJ fun d=>p d.toNat):=by
 refine rU.whole (fun d h0 h4=>?_) fun d n h0 h4=>?_
 ·exact(h.done d.toNat (by omega)).1
 ·have:=(h.done d.toNat (by omega)).2.1 n
  rwa [Int.toNat_of_nonneg h0]at this
structure qU (w0 w:World) (pb:Nat) (A:Nat→Sl) (p:Nat→aW):Prop where
 blk:w.heap[pb]?=some (.cells #[.slice (A 0).1 (A 0).2.1 (A 0).2.2, .slice (A 1).1 (A 1).2.1 (A 1).2.2, .slice (A 2).1 (A 2).2.1 (A 2).2.2, .slice (A 3).1 (A 3).2.1 (A 3).2.2] 268 (0,0))
 new:w0.heap.size≤pb
 own:∀d,d<4→jc (fun k=>k=pb) w0 w 288 2 (.slice (A d).1 (A d).2.1 (A d).2.2) (p d).length (fH (p d))
theorem qU.cell {w0 w:World} {pb:Nat} {A:Nat→Sl} {p:Nat→aW} (h:qU w0 w pb A p) {d:Nat} (hd:d<4):w.cell? ⟨pb,d,none⟩=some (.slice (A d).1 (A d).2.1 (A d).2.2):=by
 refine au h.blk d ?_
 rcases(by omega:d=0∨d=1∨d=2∨d=3)with rfl|rfl|rfl|rfl<;>rfl
theorem qU.keep {w0 w w':World} {pb:Nat} {A:Nat→Sl} {p:Nat→aW} (h:qU w0 w pb A p) (f:aj ay w w'):qU w0 w' pb A p:=
 ⟨f.blk h.blk id,h.new,fun d hd=>(h.own d hd).keep f⟩
theorem qU.start {w0 w:World} {A:Nat→Sl} {p:Nat→aW} (h:PartsAt w0 w (fun d=> .slice (A d).1 (A d).2.1 (A d).2.2) p):
 qU w0 (w.alloc (.cells #[.slice (A 0).1 (A 0).2.1 (A 0).2.2, .slice (A 1).1 (A 1).2.1 (A 1).2.2, .slice (A 2).1 (A 2).2.1 (A 2).2.2, .slice (A 3).1 (A 3).2.1 (A 3).2.2] 268)) w.heap.size A p:=
 ⟨heap_alloc_new w _,(h.own 0 (by omega)).aH.size,fun d hd=>(h.own d hd).away (aj.alloc _ _ _) fun k hk=>by rw[hk];exact Nat.le_refl _⟩
theorem qU.set {w0 w w':World} {pb:Nat} {A:Nat→Sl} {p:Nat→aW} (h:qU w0 w pb A p) {d:Nat} (hd:d<4) {t:Sl} {out:aW} (ho:OwnAt w w' 288 2 (.slice t.1 t.2.1 t.2.2) out.length (fH out)):
 qU w0 (w'.setCell ⟨pb,d,none⟩ (.slice t.1 t.2.1 t.2.2)) pb (upd A d t) (upd p d out):=by
 have hk:=h.keep ho.aH
 have hs:=bC hk.blk d (.slice t.1 t.2.1 t.2.2)
 refine⟨?_,h.new,fun c hc=>?_⟩
 ·rw[hs]
  rcases(by omega:d=0∨d=1∨d=2∨d=3)with rfl|rfl|rfl|rfl<;>rfl
 ·by_cases he:c=d
  ·subst he
   rw[upd_same,upd_same]
   have hb:jc (fun k=>k=pb) w0 w' 288 2 (.slice t.1 t.2.1 t.2.2) out.length (fH out):=
    ⟨⟨ho.own,fun k hk2=>by have:=ho.new k hk2;have:=(h.own c hc).at_.aH.size;omega,(h.own c hc).at_.aH.aC ho.aH⟩,fun k hk2 hp=>by have:=ho.new k hk2;have:=lt_of_block h.blk;omega⟩
   exact hb.set rfl h.new _
  ·rw[ql _ _ he,ql _ _ he]
   exact(hk.own c hc).set rfl h.new _
theorem Zv (g:Nat) (how:Int) (eg:∀args w,(callFunc g args).run Tryz.prog w= .ok (.enter g args) w) (HG:Rq g how)
 (w:World) (va vb:Value) (a b:aX) (ha:jf w va a) (hb:jf w vb b) (fa:oD a) (fb:oD b) (ra:dN a) (rb:dN b) (la:a.length≤20000) (lb:b.length≤20000):
 Calls Tryz.prog 183 #[va,vb, .func (.func g) #[] #[]] w fun e w'=>∃v' c,e= .returned v'∧OwnAt w w' 144 3 v' c.length (fJ c)∧rU how a b c∧c.length≤800000:=by
 obtain⟨aA,cA,rfl⟩:=ha.sl
 obtain⟨aB,cB,rfl⟩:=hb.sl
 have HA:=ah (fun w' (h:aj ay w w')=>Et w' _ a (Rd.aJ ha h) fa (by omega))
 have HB:=ah (fun w' (h:aj ay w w')=>Et w' _ b (Rd.aJ hb h) fb (by omega))
 have LA:=ah (fun d=>Nat.le_trans (AV a d) la)
 have LB:=ah (fun d=>Nat.le_trans (AV b d) lb)
 have RA:=ah ra;clear ra
 have RB:=ah rb;clear rb
 have Zw:=ah HG;clear HG
 clear ha hb fa fb la lb
 go_enter Tryz.func183,Tryz.ntmps183
 go_wp2_with(first
  |(go_at_call_of 205 aA;refine(HA.out _ (aj.refl _ _)).mono ?_;rintro e w1 ⟨hf1,hp1,-⟩;obtain⟨A,rfl,hvs⟩:=hp1 RA.out;clear hp1;have bg:=ah hf1;clear hf1;have CO:=ah hvs;clear hvs)
  |(go_at_call_of 205 aB;refine(HB.out _ (bg.out.alloc1)).mono ?_;rintro e w2 ⟨hf2,hp2,-⟩;obtain⟨B,rfl,hus⟩:=hp2 RB.out;clear hp2;have HF2:=ah hf2;clear hf2;have Ru:=ah hus;clear hus))
 have vg:=ah (((qU.start CO.out).keep HF2.out).keep (aj.alloc ay w2 (.cells #[.slice (B 0).1 (B 0).2.1 (B 0).2.2, .slice (B 1).1 (B 1).2.1 (B 1).2.2, .slice (B 2).1 (B 2).2.1 (B 2).2.2, .slice (B 3).1 (B 3).2.1 (B 3).2.2] 268)))
 have CP:=ah (qU.start Ru.out)
 have hpq:w1.heap.size<w2.heap.size:=by have:=HF2.out.size;simp at this;omega
 have HPQ:=ah hpq;clear hpq
 clear CO Ru HA HB
 go_loopw [28] (fun i ww=>∃(k:Nat) (A':Nat→Sl) (p:Nat→aW),k≤4∧i= .int .i64 k∧qU w ww w1.heap.size A' p∧LG how a b k p∧
  aj (fun k=>k=w1.heap.size) (w2.alloc (.cells #[.slice (B 0).1 (B 0).2.1 (B 0).2.2, .slice (B 1).1 (B 1).2.1 (B 1).2.2, .slice (B 2).1 (B 2).2.1 (B 2).2.2, .slice (B 3).1 (B 3).2.1 (B 3).2.2] 268)) ww) (fun i _=>4-(intOf i).toNat)
 case atStart=>exact⟨0,A,fun d=>bQ a d,by omega,rfl,vg.out,⟨fun d hd=>by omega,fun d _ _=>rfl⟩,aj.refl _ _⟩
 case round=>
  obtain⟨k,A',p,hk,rfl,hp,hbu,lT⟩:=hrel
  have HP:=ah hp;clear hp
  have yQ:=ah hbu;clear hbu
  have jL:=ah lT;clear lT
  by_cases hlt:k<4
  ·have hki:(k:Int)<4:=by omega
   have hkd:decide ((k:Int)<4)=true:=by simpa using hki
   have hpc:=HP.out.cell hlt
   have hqc:=jL.out.cell' (CP.out.cell hlt) (fun h=>by have:=HPQ.out;have h:w2.heap.size=w1.heap.size:=h;omega)
   have hqo:=Rd.keep (CP.out.own k hlt).at_.rd jL.out (fun j hj h=>by have:=(CP.out.own k hlt).at_.new j hj;have:=HPQ.out;have:=HF2.out.size;have h:j=w1.heap.size:=h;simp at*;omega)
   have htd:=yQ.out.todo k (Nat.le_refl _) hlt
   have hpo:=(HP.out.own k hlt).at_.rd
   rw[htd]at hpo
   have Rw:=ah hpo;clear hpo htd
   have Zx:=ah hqo;clear hqo
   have qo:=ah (fun w' (h:aj ay wr w')=>Zw.out w' _ _ (bQ a k) (bQ b k) (Rw.out.aJ h) (Zx.out.aJ h) (RA.out.2 k (by omega) (by omega)) (RB.out.2 k (by omega) (by omega)) (LA.out k) (LB.out k))
   generalize A' k=t at*
   generalize B k=u at*
   have hst:aj ay wr wr.drew:=aj.drew _ _
   go_wp2_with fail
   refine ku (S:=fun w'=>w'.cell? ⟨w1.heap.size,k,none⟩=some (.slice t.1 t.2.1 t.2.2)∧w'.cell? ⟨w2.heap.size,k,none⟩=some (.slice u.1 u.2.1 u.2.2)) 10 (by kernel_rfl) ⟨hpc,hqc⟩ ?_
   intro hS
   refine aU 0 31 rfl rfl (v:=?_) (.inl ⟨by rfl,?_⟩) ?_
   rotate_left 1
   ·(intro w hSw;(try dsimp only at hSw);go_simp;(try with_reducible rfl))
   refine aU 1 32 rfl rfl (v:=?_) (.inl ⟨by rfl,?_⟩) ?_
   rotate_left 1
   ·(intro w hSw;(try dsimp only at hSw);go_simp;(try with_reducible rfl))
   try simp only[Act.put,aN,aO,aP]
   refine aU 2 33 rfl rfl (v:=?_) (.inl ⟨by rfl,?_⟩) ?_
   rotate_left 1
   ·(intro w hSw;(try dsimp only at hSw);go_simp;(try with_reducible rfl))
   refine aU 3 34 rfl rfl (v:=?_) (.inl ⟨by rfl,?_⟩) ?_
   rotate_left 1
   ·(intro w hSw;(try dsimp only at hSw);go_simp;(try with_reducible rfl))
   try simp only[Act.put,aN,aO,aP]
   refine aU 4 35 rfl rfl (v:=?_) (.inl ⟨by rfl,?_⟩) ?_
   rotate_left 1
   ·(intro w hSw;(try dsimp only at hSw);go_simp;(try with_reducible rfl))
   refine aU 5 36 rfl rfl (v:=?_) (.inl ⟨by rfl,?_⟩) ?_
   rotate_left 1
   ·(intro w hSw;(try dsimp only at hSw);go_simp;(try with_reducible rfl))
   try simp only[Act.put,aN,aO,aP]
   refine aU 6 37 rfl rfl (v:=?_) (.inl ⟨by rfl,?_⟩) ?_
   rotate_left 1
   ·(intro w hSw;(try dsimp only at hSw);go_simp;(try with_reducible rfl))
   refine aU 7 38 rfl rfl (v:=?_) (.inl ⟨by rfl,?_⟩) ?_
   rotate_left 1
   ·(intro w hSw;(try dsimp only at hSw);go_simp;(try with_reducible rfl))
   try simp only[Act.put,aN,aO,aP]
   refine bJ (i:=8) (by kernel_rfl) rfl (fun K hK=>?_)
   go_simp
   refine(qo.out _ hst).mono ?_
   rintro e w3 ⟨v3,out,rfl,ho3,hr3,jG,hl3⟩
   obtain⟨a3,c3,rfl⟩:=ho3.shape
   have dZ:=ah ho3;clear ho3
   have HR3:=ah hr3;clear hr3
   have xu:=ah jG;clear jG
   have lU:=ah hl3;clear hl3
   have hS3:w3.cell? ⟨w1.heap.size,k,none⟩=some (.slice t.1 t.2.1 t.2.2)∧w3.cell? ⟨w2.heap.size,k,none⟩=some (.slice u.1 u.2.1 u.2.2):=⟨dZ.out.aH.cell' hS.1 id,dZ.out.aH.cell' hS.2 id⟩
   refine hK.out _ _ hS3 ?_
   clear hK K
   try simp only[Act.put,aN,aO,aP]
   refine aU 9 40 rfl rfl (v:=?_) (.inl ⟨by rfl,?_⟩) ?_
   rotate_left 1
   ·(intro w hSw;(try dsimp only at hSw);go_simp;(try with_reducible rfl))
   try simp only[Act.put,aN,aO,aP]
   refine iC (by kernel_rfl) (by kernel_rfl) rfl (fun K hK=>?_)
   have hcz:=hS3.1
   have hfz:w3.frozen? ⟨w1.heap.size,k,none⟩=false:=aG ((HP.out.keep hst).keep dZ.out.aH).blk k
   have LH:=ah ((HP.out.keep hst).set hlt (t:=(a3,out.length,c3)) dZ.out)
   clear hS hS3 hpc hqc
   go_simp
   refine hK.out _ _ ?_
   clear hK K hcz hfz
   go_wp2
   go_roundw
   case rel=>exact⟨k+1,_,_,by omega,by go_num,LH.out,⟨fun d hd=>by
    by_cases he:d=k
    ·subst he;rw[upd_same];exact⟨HR3.out,xu.out,lU.out⟩
    ·rw[ql _ _ he];exact yQ.out.done d (by omega),fun d h1 h2=>by
    rw[ql _ _ (by omega)];exact yQ.out.todo d (by omega) h2⟩,((jL.out.aC hst).aC dZ.out.aH).trans (aj.setCell (S:=fun k=>k=w1.heap.size) w3 (p:=⟨w1.heap.size,k,none⟩) (.inl rfl) _) fun _ _ h=>h⟩
   case measure=>simp[intOf];omega
  ·obtain rfl:k=4:=by omega
   have c0:wr.cell? ⟨w1.heap.size,0,none⟩=some (.slice (A' 0).1 (A' 0).2.1 (A' 0).2.2):=HP.out.cell (by omega)
   have c1:wr.cell? ⟨w1.heap.size,1,none⟩=some (.slice (A' 1).1 (A' 1).2.1 (A' 1).2.2):=HP.out.cell (by omega)
   have c2:wr.cell? ⟨w1.heap.size,2,none⟩=some (.slice (A' 2).1 (A' 2).2.1 (A' 2).2.2):=HP.out.cell (by omega)
   have c3:wr.cell? ⟨w1.heap.size,3,none⟩=some (.slice (A' 3).1 (A' 3).2.1 (A' 3).2.2):=HP.out.cell (by omega)
   go_wp2_with(go_at_call 229;refine(Rk _ A' p (fun d hd=>(HP.out.own d hd).at_.rd) (fun d hd=>(yQ.out.done d hd).2.2)).mono ?_;rintro e w3 ⟨v3,c,rfl,ho3,hc3,hl3⟩;obtain⟨a3,k3,rfl⟩:=ho3.shape;have dZ:=ah ho3;clear ho3;have mP:=ah hc3;clear hc3;have lU:=ah hl3;clear hl3)
   go_ret
   exact⟨_,c,rfl,dZ.out.base (HP.out.own 0 (by omega)).at_.aH,by rw[mP.out];exact yQ.out.KY,lU.out⟩
theorem Zy:∀args w,(callFunc 238 args).run Tryz.prog w= .ok (.enter 238 args) w:=enters_of Tryz.func238 (by kernel_rfl) rfl
theorem Zz (w:World) (va vb:Value) (a b:aX) (ha:jf w va a) (hb:jf w vb b) (fa:oD a) (fb:oD b) (ra:dN a) (rb:dN b) (la:a.length≤20000) (lb:b.length≤20000):
 Calls Tryz.prog 188 #[va,vb] w fun e w'=>∃v' c,e= .returned v'∧OwnAt w w' 144 3 v' c.length (fJ c)∧rU 2 a b c∧c.length≤800000:=by
 have HC:=ah (Zv _ 2 Zy Zu w va vb a b ha hb fa fb ra rb la lb)
 clear ha hb fa fb ra rb la lb
 go_enter Tryz.func188,Tryz.ntmps188
 go_wp2_with(go_at_call 183;refine HC.out.mono ?_;rintro e w1 ⟨v1,c,rfl,ho1,hby,hol⟩;obtain⟨a1,c1,rfl⟩:=ho1.shape;have iG:=ah ho1;clear ho1;have HB:=ah hby;clear hby;have HL:=ah hol;clear hol)
 go_ret
 exact⟨_,c,rfl,iG.out,HB.out,HL.out⟩
theorem IK (w:World) (v:Value) (c:aX) (hv:jf w v c) (hf:oD c) (hl:c.length≤100000):
 Calls Tryz.prog 157 #[v] w fun e w'=>e= .returned (.bool (tf (dN c)))∧aj ay w w':=by
 have HC:=ah (Et w v c hv hf hl)
 obtain⟨aA,cA,rfl⟩:=hv.sl
 clear hv hf hl
 by_cases hr:dN c
 ·rw[dO hr]
  go_enter Tryz.func157,Tryz.ntmps157
  go_wp2_with(go_at_call 205;refine HC.out.mono ?_;rintro e w1 ⟨hf1,hp1,-⟩;obtain⟨A,rfl,-⟩:=hp1 hr;clear hp1;have bg:=ah hf1;clear hf1)
  go_ret
  exact⟨rfl,bg.out.alloc1⟩
 ·rw[bf hr]
  go_enter Tryz.func157,Tryz.ntmps157
  go_wp2_with(go_at_call 205;refine HC.out.mono ?_;rintro e w1 ⟨hf1,-,hp1⟩;obtain rfl:=hp1 hr;clear hp1;have bg:=ah hf1;clear hf1)
  go_ret
  exact⟨rfl,bg.out.alloc1⟩
theorem Rx (w:World) (va vb:Value) (a b:aX) (ha:jf w va a) (hb:jf w vb b) (fa:oD a) (fb:oD b) (la:a.length≤20000) (lb:b.length≤20000):
 Calls Tryz.prog 147 #[va,vb] w fun e w'=>e= .returned (.bool (tf (dN a∧dN b∧jX a b)))∧aj ay w w':=by
 obtain⟨aA,cA,rfl⟩:=ha.sl
 obtain⟨aB,cB,rfl⟩:=hb.sl
 have AY:=ah (IK w _ a ha fa (by omega))
 have tC:=ah (fun w' (h:aj ay w w')=>IK w' _ b (Rd.aJ hb h) fb (by omega))
 have HCM:=ah (fun w' (h:aj ay w w') ra rb=>Zz w' _ _ a b (Rd.aJ ha h) (Rd.aJ hb h) fa fb ra rb la lb)
 clear ha hb fa fb la lb
 by_cases ra:dN a
 ·rw[dO ra]at AY
  by_cases rb:dN b
  ·rw[dO rb]at tC
   have RA:=ah ra
   have RB:=ah rb
   have hall:tf (dN a∧dN b∧jX a b)=tf (jX a b):=qN ⟨fun h=>h.2.2,fun h=>⟨ra,rb,h⟩⟩
   rw[hall]
   clear ra rb hall
   go_enter Tryz.func147,Tryz.ntmps147
   go_wp2_with(first
    |(go_at_call_of 157 aA;refine AY.out.mono ?_;rintro e w1 ⟨rfl,hw1⟩;have HW1:=ah hw1;clear hw1)
    |(go_at_call_of 157 aB;refine(tC.out _ HW1.out).mono ?_;rintro e w2 ⟨rfl,hw2⟩;have HW2:=ah (HW1.out.aC hw2);clear hw2)
    |(go_at_call 188;refine(HCM.out _ HW2.out RA.out RB.out).mono ?_;rintro e w3 ⟨v3,c,rfl,ho3,hby,hol⟩;obtain⟨a3,c3,rfl⟩:=ho3.shape;have dZ:=ah ho3;clear ho3;have HB:=ah hby;clear hby;clear hol))
   go_ret
   refine⟨dK (H_ ?_),HW2.out.aC dZ.out.aH⟩
   rw[←HB.out.Qs]
   simp
  ·rw[bf rb]at tC
   rw[bf fun h=>rb h.2.1]
   clear ra rb
   go_enter Tryz.func147,Tryz.ntmps147
   go_wp2_with(first
    |(go_at_call_of 157 aA;refine AY.out.mono ?_;rintro e w1 ⟨rfl,hw1⟩;have HW1:=ah hw1;clear hw1)
    |(go_at_call_of 157 aB;refine(tC.out _ HW1.out).mono ?_;rintro e w2 ⟨rfl,hw2⟩;have HW2:=ah (HW1.out.aC hw2);clear hw2))
   go_ret
   exact⟨rfl,HW2.out⟩
 ·rw[bf ra]at AY
  rw[bf fun h=>ra h.1]
  clear ra
  go_enter Tryz.func147,Tryz.ntmps147
  go_wp2_with(go_at_call_of 157 aA;refine AY.out.mono ?_;rintro e w1 ⟨rfl,hw1⟩;have HW1:=ah hw1;clear hw1)
  go_ret
  exact⟨rfl,HW1.out⟩
open Go.RowKit
def numsL (l:aW) (d:Int):List Int:=(l.filter fun r=>r.1==d).map (·.2)
theorem Ry {l:aW} {k:Nat} (d:Int) (hk:k<l.length):numsL (l.take (k+1)) d=numsL (l.take k) d++(if(l.getD k (0,0)).1=d then [(l.getD k (0,0)).2]else []):=by
 rw[take_succ (0,0) hk]
 unfold numsL
 rw[List.filter_append,List.map_append]
 congr 1
 generalize l.getD k (0,0)=r
 by_cases h:r.1=d
 ·rw[if_pos h,List.filter_cons_of_pos (by simpa using h)];rfl
 ·rw[if_neg h,List.filter_cons_of_neg (by simpa using h)];rfl
theorem IL {l:aW} {d n:Int}:n∈numsL l d↔(d,n)∈l:=by
 unfold numsL
 simp only[List.mem_map,List.mem_filter]
 constructor
 ·rintro⟨r,⟨hr,he⟩,rfl⟩
  have:r.1=d:=by simpa using he
  subst this
  exact hr
 ·intro h
  exact⟨(d,n),⟨h,by simp⟩,rfl⟩
theorem LJ (l:aW) (d:Int):(numsL l d).length≤l.length:=by
 unfold numsL;rw[List.length_map];exact List.length_filter_le _ _
def xA (l:aW):Prop:=∀r∈l,0≤r.1∧r.1<4∧1≤r.2∧r.2≤1099511627776
def LK (l:aW) (d:Int) (o:aW):Prop:=dR o∧∀n,dB o n↔(d,n)∈l
theorem lM.LM {l:aW} {c:aX} (h:lM (LK l) 4 c):qO l c:=
 ⟨⟨h.rise,fun d h0 h4=>(h.parts d h0 h4).1⟩,fun d n h0 h4=>(h.parts d h0 h4).2 n⟩
theorem AO.ZA {l:aW} (hl:xA l) {d:Int} {o:aW} (h:AO (numsL l d) o none):LK l d o:=by
 have hm:∀n,dB o n↔(d,n)∈l:=fun n=>by
  rw[h.none_ rfl n,IL]
  exact⟨fun h=>h.2,fun h=>⟨by have:=hl _ h;show 0<n;have:1≤n:=this.2.2.1;omega,h⟩⟩
 exact⟨dR.of h.from_ fun n hn=>(hl _ ((hm n).1 hn)).2.2.2,hm⟩
theorem ZB {l:aW} (hl:xA l) (d:Int):∀x∈numsL l d,1≤x∧x≤1099511627777:=fun x hx=>by
 have:=hl _ (IL.1 hx)
 have h1:1≤x:=this.2.2.1
 have h2:x≤1099511627776:=this.2.2.2
 omega
theorem LP {c:aX} {k:Nat} {d:Int} {l o:aW} (h:c.length≤10000*k) (hk:k≤4) (hl:o.length≤10000):(c++fC d o).length≤10000*(k+1)∧c.length+o.length≤1000000:=by
 rw[List.length_append,yK];omega
theorem ZC (w:World) (v:Value) (l:aW) (hv:lK w v l) (hd:xA l) (hl:l.length≤10000):
 Calls Tryz.prog 153 #[v] w fun e w'=>∃v' c,e= .returned v'∧OwnAt w w' 144 3 v' c.length (fJ c)∧qO l c∧c.length≤40000:=by
 obtain⟨i0,hi,hz0,hz1,hz2⟩:=info_parts xw
 obtain⟨j0,hji,hy0,hy1,hy2⟩:=info_parts Cj
 obtain⟨aA,cA,rfl⟩:=hv.sl
 have HH:=ah hv;clear hv
 have HD:=ah hd;clear hd
 have HL:=ah hl;clear hl
 generalize hn:l.length=n at*
 have HN:=ah hn;clear hn
 go_enter Tryz.func153,Tryz.ntmps153
 go_wp2
 go_loopw [3,7] (fun v i ww=>∃(k:Nat) (c:aX),k≤4∧i= .int .i64 k∧OwnAt w ww 144 3 v c.length (fJ c)∧lM (LK l) k c∧c.length≤10000*k) (fun _ i _=>4-(intOf i).toNat)
 case atStart=>exact⟨0,[],by omega,rfl,OwnAt.nil (aj.refl _ _) _ _,lM.zero _,Nat.zero_le _⟩
 case round=>
  obtain⟨k,c,hk,rfl,ho,hu,hlen⟩:=hrel
  obtain⟨av,cv,rfl⟩:=ho.shape
  have HO:=ah ho;clear ho
  have HU:=ah hu;clear hu
  have HLEN:=ah hlen;clear hlen
  by_cases hlt:k<4
  ·have hki:(k:Int)<4:=by omega
   have hkd:decide ((k:Int)<4)=true:=by simpa using hki
   go_wp2
   go_loopw [5,12] (fun v i ww=>∃(j m:Nat),j≤n∧m≤j∧i= .int .i64 j∧m=(numsL (l.take j) k).length∧OwnAt wr ww 2 1 v m (qh (numsL (l.take j) k))) (fun _ i _=>n-(intOf i).toNat)
   case atStart=>exact⟨0,0,Nat.zero_le _,Nat.le_refl _,rfl,rfl,OwnAt.nil (aj.refl _ _) _ _⟩
   case round=>
    obtain⟨j,m,hj,hmj,rfl,hm,hoi⟩:=hrel
    obtain⟨ai,ci,rfl⟩:=hoi.shape
    have AZ:=ah hoi;clear hoi
    have HM:=ah hm;clear hm
    have Ew:=ah hmj;clear hmj
    by_cases hjl:j<n
    ·rcases Rd.shape HH.out with⟨ad,he,h0⟩|⟨b,off,cc,he,hmax⟩
     ·exfalso;have:=HN.out;omega
     ·injection he with e1 e2 e3
      subst e1 e3
      clear e2
      rw[HN.out]at hmax
      obtain⟨p0,p1⟩:=qj HH.out HN.out.symm j (by rw[HN.out];exact hjl)
      have q0:=AZ.out.aH.cell' (HO.out.aH.cell' p0 id) id
      have q1:=AZ.out.aH.cell' (HO.out.aH.cell' p1 id) id
      have hE:=Ry (l:=l) (k:=j) k (by rw[HN.out];exact hjl)
      generalize l.getD j (0,0)=s at*
      clear p0 p1
      by_cases he:s.1=k
      ·rw[if_pos he]at hE
       have he':((s.1:Int)==(k:Int))=true:=by simp[he]
       have HE:=ah hE;clear hE
       clear he
       go_wp2_with(at_builtin;refine qP _ _ [.int .i64 s.2] rfl (.tmp 22) (.tmp 28) 252 rfl 2 j0 _ 1 8 Tryz.underlying252 hji hy0 hy1 hy2 (by decide) (by decide) _ _ _ AZ.out 1 1 rfl rfl rfl (by simp[Value.oneCell']) (by have:=HL.out;have:=Ew.out;simp only[maxLen];omega) (by have:=HL.out;have:=Ew.out;omega) ?_;intro ad qQ w2 dM;have OW:=ah dM;clear dM)
       go_roundw
       case rel=>
        refine⟨j+1,m+1,by omega,by have:=Ew.out;omega,by go_num,by rw[HE.out,List.length_append,←HM.out];rfl,?_⟩
        rw[HE.out,Ih]
        exact OW.out
       case measure=>simp[intOf];omega
      ·rw[if_neg he,List.append_nil]at hE
       have he':((s.1:Int)==(k:Int))=false:=by simpa using he
       have HE:=ah hE;clear hE
       clear he
       go_wp2
       go_roundw
       case rel=>exact⟨j+1,m,by omega,by have:=Ew.out;omega,by go_num,by rw[HE.out];exact HM.out,by rw[HE.out];exact AZ.out⟩
       case measure=>simp[intOf];omega
    ·obtain rfl:j=n:=by omega
     rw[List.take_of_length_le (by rw[HN.out];exact Nat.le_refl _)]at AZ HM
     have hob:=AZ.out.rd
     rw[HM.out]at hob
     have oH:=ah hob;clear hob
     have ZF:=ah (HO.out.keep AZ.out.aH)
     have hlm:m≤10000:=Nat.le_trans Ew.out HL.out
     have Rz:=ah (HM.out▸hlm:(numsL l k).length≤10000)
     clear hlm
     rw[HM.out]
     go_wp2_with(first
      |(go_at_call 194;refine(YD _ _ (numsL l k) oH.out (Nat.le_trans Rz.out (by decide)) (ZB HD.out k)).mono ?_;rintro e w3 ⟨v3,o,rfl,ho3,hof,hol⟩;obtain⟨a3,c3,rfl⟩:=ho3.shape;have dZ:=ah ho3;clear ho3;have gy:=ah hof;clear hof;have HOL:=ah (Nat.le_trans hol Rz.out);clear hol)
      |(go_at_call 151;refine(QN _ _ o k dZ.out.rd (Nat.le_trans HOL.out (by decide))).mono ?_;rintro e w4 ⟨v4,rfl,kL⟩;obtain⟨a4,c4,rfl⟩:=kL.shape;have tq:=ah kL;clear kL;have HKK:=ah (ZF.out.keep (dZ.out.aH.aC tq.out.aH)))
      |(at_builtin;refine xq w _ _ rfl (.tmp 31) (.tmp 35) 32 32 rfl 144 144 i0 _ 3 24 Tryz.underlying32 Tryz.underlying32 hi hz0 hz1 hz2 (by decide) (by decide) _ _ _ HKK.out _ o.length rfl rfl tq.out.rd (by rw[Ii,yK]) (KN _) (by have:=(LP (d:=k) (l:=[]) HLEN.out (Nat.le_of_lt hlt) HOL.out).2;simp only[maxLen];omega) (by have:=(LP (d:=k) (l:=[]) HLEN.out (Nat.le_of_lt hlt) HOL.out).2;omega) ?_;intro ad cc w5 lN;have OW:=ah lN;clear lN))
     go_roundw
     case rel=>
      refine⟨k+1,c++fC k o,by omega,by go_num,?_,?_,(LP (l:=[]) HLEN.out (Nat.le_of_lt hlt) HOL.out).1⟩
      ·rw[List.length_append,yK,AQ];exact OW.out
      ·exact HU.out.step (by omega) (by omega) (gy.out.ZA HD.out)
     case measure=>simp[intOf];omega
  ·obtain rfl:k=4:=by omega
   go_wp2
   go_ret
   exact⟨_,c,rfl,HO.out,HU.out.LM,HLEN.out⟩
open Go.RowKit
structure aQ where
 dc:Int
 n:Int
 s:ByteArray
 k:Int
inductive aS where
 |nil:aS
 |cons (key:ByteArray) (es:List aQ) (sub rest:aS):aS
def aS.len:aS→Nat
 | .nil=>0
 | .cons _ _ _ rest=>rest.len+1
def aQ.zero:aQ:=⟨0,0,ByteArray.empty,0⟩
def aQ.cells (e:aQ):List Value:=[.int .i64 e.dc, .int .i64 e.n, .string e.s, .int .i64 e.k]
def kM (es:List aQ):List Value:=es.flatMap aQ.cells
theorem RD (e:aQ) (es:List aQ):kM (e::es)= .int .i64 e.dc:: .int .i64 e.n:: .string e.s:: .int .i64 e.k::kM es:=rfl
theorem ZG (a b:List aQ):kM (a++b)=kM a++kM b:=by simp[kM]
theorem RF:∀es:List aQ,(kM es).length=es.length*4
 |[]=>rfl
 |e::es=>by rw[RD];simp only[List.length_cons,RF es];omega
theorem ZH (es:List aQ):∀v∈kM es,v.oneCell'=true:=by
 intro v hv
 simp only[kM,List.mem_flatMap]at hv
 obtain⟨r,_,hv⟩:=hv
 simp[aQ.cells]at hv
 rcases hv with rfl|rfl|rfl|rfl<;>rfl
theorem RG:∀(es:List aQ) (k:Nat),k<es.length→(kM es)[k*4]?=some (.int .i64 (es.getD k aQ.zero).dc)∧(kM es)[k*4+1]?=some (.int .i64 (es.getD k aQ.zero).n)∧
 (kM es)[k*4+2]?=some (.string (es.getD k aQ.zero).s)∧(kM es)[k*4+3]?=some (.int .i64 (es.getD k aQ.zero).k)
 |[],_,h=>by cases h
 |e::es,0,_=>⟨rfl,rfl,rfl,rfl⟩
 |e::es,k+1,h=>by
  obtain⟨h1,h2,h3,h4⟩:=RG es k (by simpa using h)
  rw[RD,show(k+1)*4=k*4+1+1+1+1 by omega,show k*4+1+1+1+1+1=(k*4+1)+1+1+1+1 by omega,show k*4+1+1+1+1+2=(k*4+2)+1+1+1+1 by omega,show k*4+1+1+1+1+3=(k*4+3)+1+1+1+1 by omega]
  exact⟨h1,h2,h3,h4⟩
def vk:aS→List (Value×Value)→List Value
 | .cons key _ _ rest,o::outs=> .string key::o.1::o.2::vk rest outs
 |_,_=> []
structure eH (Q:Nat→Prop) (w:World) (v:Value) (n:Nat) (xs:List Value):Prop where
 rd:Rd w v n xs
 q:xs≠ []→∀k,v.ownBlock=some k→Q k
theorem eH.keep {Q S:Nat→Prop} {w w':World} {v:Value} {n:Nat} {xs:List Value} (h:eH Q w v n xs) (f:aj S w w') (hs:∀k,k<w.heap.size→S k→¬Q k):eH Q w' v n xs:=by
 refine⟨?_,h.q⟩
 rcases h.rd with h1|⟨b,off,c,rfl,h1,h2,h3⟩
 ·exact .inl h1
 ·refine .inr ⟨b,off,c,rfl,h1,h2,fun j u hu=>f.cell' (h3 j u hu) fun s=>?_⟩
  have hlt:b<w.heap.size:=World.block_lt_of_cell? _ _ (h3 j u hu)
  exact hs b hlt s (h.q (fun e=>by rw[e]at hu;simp at hu) b rfl)
def lC (Q:Nat→Prop) (w:World):aS→List (Value×Value)→Prop
 | .nil,outs=>outs=[]
 | .cons _ es sub rest,outs=>∃ev kv uH os,outs=(ev,kv)::uH∧eH Q w ev es.length (kM es)∧eH Q w kv sub.len (vk sub os)∧lC Q w sub os∧lC Q w rest uH
structure dh (Q:Nat→Prop) (w:World) (ev kv:Value) (es:List aQ) (ks:aS):Prop where
 ents:eH Q w ev es.length (kM es)
 kids:∃os,eH Q w kv ks.len (vk ks os)∧lC Q w ks os
theorem lC.keep {Q S:Nat→Prop} {w w':World} (f:aj S w w') (hs:∀k,k<w.heap.size→S k→¬Q k):∀ {ks:aS} {os:List (Value×Value)},lC Q w ks os→lC Q w' ks os
 | .nil,_,h=>h
 | .cons _ _ _ _,_,⟨ev,kv,uH,os,h1,h2,h3,h4,h5⟩=>⟨ev,kv,uH,os,h1,h2.keep f hs,h3.keep f hs,h4.keep f hs,h5.keep f hs⟩
theorem dh.keep {Q S:Nat→Prop} {w w':World} {ev kv:Value} {es:List aQ} {ks:aS} (h:dh Q w ev kv es ks) (f:aj S w w') (hs:∀k,k<w.heap.size→S k→¬Q k):dh Q w' ev kv es ks:=
 ⟨h.ents.keep f hs,let⟨os,h1,h2⟩:=h.kids;⟨os,h1.keep f hs,h2.keep f hs⟩⟩
theorem dh.aJ {Q:Nat→Prop} {w w':World} {ev kv:Value} {es:List aQ} {ks:aS} (h:dh Q w ev kv es ks) (f:aj ay w w'):dh Q w' ev kv es ks:=h.keep f fun _ _ s=>s.elim
theorem lC.aJ {Q:Nat→Prop} {w w':World} {ks:aS} {os:List (Value×Value)} (h:lC Q w ks os) (f:aj ay w w'):lC Q w' ks os:=h.keep f fun _ _ s=>s.elim
def aS.drop:Nat→aS→aS
 |0,ks=>ks
 |_+1, .nil=> .nil
 |n+1, .cons _ _ _ rest=>rest.drop n
theorem lC.drop {Q:Nat→Prop} {w:World}:∀(n:Nat) {ks:aS} {os:List (Value×Value)},lC Q w ks os→∃os',lC Q w (ks.drop n) os'∧(vk ks os).drop (n*3)=vk (ks.drop n) os'
 |0,ks,os,h=>⟨os,h,by simp[aS.drop]⟩
 |n+1, .nil,os,h=>by cases h;exact⟨[],rfl,by simp[vk,aS.drop]⟩
 |n+1, .cons key es sub rest,_,⟨ev,kv,uH,os,h1,_,_,_,h5⟩=>by
  subst h1
  obtain⟨os',h6,h7⟩:=lC.drop n h5
  refine⟨os',h6,?_⟩
  show(_::_::_::vk rest uH).drop ((n+1)*3)=_
  rw[show(n+1)*3=n*3+1+1+1 by omega]
  exact h7
theorem aS.LQ:∀(n:Nat) (ks:aS),(ks.drop n).len=ks.len-n
 |0,ks=>by simp[aS.drop]
 |n+1, .nil=>by simp[aS.drop,aS.len]
 |n+1, .cons _ _ _ rest=>by
  show(rest.drop n).len=rest.len+1-(n+1)
  rw[aS.LQ n rest];omega
theorem aS.CQ:∀(n:Nat) (ks:aS) {key:ByteArray} {es:List aQ} {sub rest:aS},ks.drop n= .cons key es sub rest→ks.drop (n+1)=rest
 |0, .cons _ _ _ _,_,_,_,_,h=>by cases h;rfl
 |0, .nil,_,_,_,_,h=>by cases h
 |n+1, .nil,_,_,_,_,h=>by cases h
 |n+1, .cons _ _ _ r,_,_,_,_,h=>aS.CQ n r h
theorem aS.xB {n:Nat} {ks:aS} (h:n<ks.len):∃key es sub rest,ks.drop n= .cons key es sub rest:=by
 have hl:=aS.LQ n ks
 cases hd:ks.drop n with
 |nil=>rw[hd]at hl;simp[aS.len]at hl;omega
 |cons key es sub rest=>exact⟨_,_,_,_,rfl⟩
theorem aS.yR {n:Nat} {ks:aS} (h:ks.len≤n):ks.drop n= .nil:=by
 have hl:=aS.LQ n ks
 cases hd:ks.drop n with
 |nil=>rfl
 |cons key es sub rest=>rw[hd]at hl;simp[aS.len]at hl;omega
theorem wz {Q:Nat→Prop} {w:World} {b off c m:Nat} {ks:aS} {os:List (Value×Value)} (h:Rd w (.slice (some ⟨b,off,none⟩) m c) m (vk ks os)) (hf:lC Q w ks os) {n:Nat} {key:ByteArray} {es:List aQ} {sub rest:aS} (hd:ks.drop n= .cons key es sub rest):
 ∃ev kv,w.cell? ⟨b,off+n*3,none⟩=some (.string key)∧w.cell? ⟨b,off+n*3+1,none⟩=some ev∧w.cell? ⟨b,off+n*3+2,none⟩=some kv∧dh Q w ev kv es sub:=by
 obtain⟨os',h1,h2⟩:=hf.drop n
 rw[hd]at h1 h2
 obtain⟨ev,kv,uH,os2,rfl,g2,g3,g4,_⟩:=h1
 have yS:∀j u,(vk (.cons key es sub rest) ((ev,kv)::uH))[j]?=some u→w.cell? ⟨b,off+n*3+j,none⟩=some u:=fun j u hu=>by
  rw[←h2,List.getElem?_drop]at hu
  have:=h.cell _ u hu
  rwa [←Nat.add_assoc]at this
 exact⟨ev,kv,yS 0 _ rfl,yS 1 _ rfl,yS 2 _ rfl,g2,os2,g3,g4⟩
theorem xC {w:World} {b off c n:Nat} {es:List aQ} (h:Rd w (.slice (some ⟨b,off,none⟩) n c) n (kM es)) (k:Nat) (hk:k<es.length):
 w.cell? ⟨b,off+k*4,none⟩=some (.int .i64 (es.getD k aQ.zero).dc)∧w.cell? ⟨b,off+k*4+1,none⟩=some (.int .i64 (es.getD k aQ.zero).n)∧w.cell? ⟨b,off+k*4+2,none⟩=some (.string (es.getD k aQ.zero).s)∧w.cell? ⟨b,off+k*4+3,none⟩=some (.int .i64 (es.getD k aQ.zero).k):=by
 obtain⟨h1,h2,h3,h4⟩:=RG es k hk
 exact⟨h.cell _ _ h1,h.cell (k*4+1) _ h2,h.cell (k*4+2) _ h3,h.cell (k*4+3) _ h4⟩
def aQ.fits (e:aQ):Prop:=(-9223372036854775808≤e.dc∧e.dc≤9223372036854775807)∧(-9223372036854775808≤e.n∧e.n≤9223372036854775807)∧(-9223372036854775808≤e.k∧e.k≤9223372036854775807)∧e.s.size≤9223372036854775807
structure Ey (es:List aQ):Prop where
 len:es.length≤140737488351232
 fits:∀e∈es,e.fits
def aS.Ok:aS→Prop
 | .nil=>True
 | .cons key es sub rest=>key.size≤9223372036854775807∧Ey es∧sub.len≤140737488351232∧sub.Ok∧rest.Ok
theorem aS.Ok.drop:∀(n:Nat) {ks:aS},ks.Ok→(ks.drop n).Ok
 |0,_,h=>h
 |_+1, .nil,_=>trivial
 |n+1, .cons _ _ _ _,h=>aS.Ok.drop n h.2.2.2.2
structure oI (es:List aQ) (ks:aS):Prop where
 es:Ey es
 len:ks.len≤140737488351232
 ks:ks.Ok
def iO (e:aQ):Bool:=qg e.dc e.n&&decide (e.s.size≤30∧e.k≤1099511627776∧-1099511627776≤e.k)
def xE:Option aQ→aQ→Bool
 |none,_=>true
 |some p,e=>xk p.dc p.n e.dc e.n
def jQ:Option aQ→List aQ→Bool
 |_,[]=>true
 |p,e::l=>iO e&&xE p e&&jQ (some e) l
def ZI (a b:ByteArray):Bool:=Op.bytesLess a.toList b.toList
def ltK:Option ByteArray→ByteArray→Bool
 |none,_=>true
 |some p,s=>ZI p s
def isNil (es:List aQ) (ks:aS):Bool:=decide (es.length=0∧ks.len=0)
def pz:aS→Nat→Option ByteArray→Bool
 | .nil,_,_=>true
 | .cons key es sub rest,d,p=>uy key&&ltK p key&& !isNil es sub&&(decide (1≤d)&&jQ none es&&pz sub (d-1) none)&&pz rest d (some key)
def dD (d:Nat) (es:List aQ) (ks:aS):Bool:=decide (1≤d)&&jQ none es&&pz ks (d-1) none
theorem RH (key:ByteArray) (es:List aQ) (sub rest:aS) (d:Nat) (p:Option ByteArray):pz (.cons key es sub rest) d p=(uy key&&ltK p key&& !isNil es sub&&dD d es sub&&pz rest d (some key)):=rfl
def rW (es:List aQ):aW:=es.map fun e=>(e.dc,e.n)
def qV:aS→aW
 | .nil=> []
 | .cons _ es sub rest=>rW es++qV sub++qV rest
def iD (es:List aQ) (ks:aS):aW:=rW es++qV ks
def jE:aS→Nat
 | .nil=>0
 | .cons _ es sub rest=>1+es.length+jE sub+jE rest
def sizeT (es:List aQ) (ks:aS):Nat:=es.length+jE ks
def mQ:aS→Nat
 | .nil=>0
 | .cons _ _ sub rest=>max (1+mQ sub) (mQ rest)
end Go.Proofs.YtabkpccdnkjoiaaGreat
namespace Go.Proofs.YtabkpccdnkjoiaaGreat
def iE (f:Int→Int) (d x:Int):Int→Int:=fun e=>if e=d then x else f e
def qW (dc af la:Int) (f:Int→Int):Prop:=0≤dc∧dc<4∧0≤af∧af<la∧la≤1099511627776∧f dc≤af∧g_ f
def wB (l:aW) (c:aX):Prop:=∀r∈l,kT c r.1 r.2
theorem qO.leq {l:aW} {c d:aX} (hd:xA l) (h:qO l d):jX d c↔wB l c:=by
 constructor
 ·intro hl r hr
  obtain⟨h0,h4,_⟩:=hd r hr
  exact hl r.1 r.2 h0 h4 ((h.mem r.1 r.2 h0 h4).2 hr)
 ·intro hl e n h0 h4 hi
  exact hl (e,n) ((h.mem e n h0 h4).1 hi)
theorem dN.ge {c:aX} (h:dN c) {d n:Int} (h0:0≤d) (h4:d<4) (hi:kT c d n):1≤n∧n≤1099511627776:=(h.2 d h0 h4).Ia hi
theorem ZJ {dc af la:Int} {f:Int→Int} {c o:aX} (hn:qW dc af la f) (hc:dN c) (hb:rU 2 c [(dc,af+1,la)] o):
 jX c (f_ (iE f dc la))↔jX o (f_ (iE f dc af)):=by
 obtain⟨h1,h2,h3,h4,h5,h6,h7⟩:=hn
 have hm:∀d n,0≤d→d<4→(kT o d n↔kT c d n∧¬(d=dc∧af+1≤n∧n≤la)):=fun d n h0 h4=>by
  rw[hb.mem d n h0 h4,Ym]
  unfold iF
  rw[if_pos rfl]
 constructor
 ·intro hl d n h0 h4 hi
  obtain⟨hi1,hi2⟩:=(hm d n h0 h4).1 hi
  have:=(Ie _ n h0 h4).1 (hl d n h0 h4 hi1)
  rw[Ie _ n h0 h4]
  unfold iE at this⊢
  by_cases he:d=dc
  ·rw[if_pos he]at this⊢
   refine⟨this.1,?_⟩
   by_cases hg:af+1≤n
   ·exact absurd ⟨he,hg,this.2⟩ hi2
   ·omega
  ·rw[if_neg he]at this⊢
   exact this
 ·intro hl d n h0 h4 hi
  rw[Ie _ n h0 h4]
  have h1n:=(hc.ge h0 h4 hi).1
  by_cases he:d=dc∧af+1≤n∧n≤la
  ·unfold iE;rw[if_pos he.1];exact⟨h1n,he.2.2⟩
  ·have:=(Ie _ n h0 h4).1 (hl d n h0 h4 ((hm d n h0 h4).2 ⟨hi,he⟩))
   unfold iE at this⊢
   by_cases hd:d=dc
   ·rw[if_pos hd]at this⊢;omega
   ·rw[if_neg hd]at this⊢;exact this
structure nM (dc af la:Int) (f:Int→Int) (es:List aQ) (ks:aS) (c:aX):Prop where
 nums:qW dc af la f
 tree:dD 5 es ks=true
 ctx:dN c
 dots:wB (iD es ks) c
 bare:es=[]
 mine:wB (iD es ks) [(dc,af+1,la)]
 own:jX [(dc,af+1,la)] c
 may:jX c (f_ (iE f dc la))
theorem LU:∀ {l:List aQ} {p:Option aQ},jQ p l=true→xA (rW l)
 |[],_,_=>fun r hr=>by cases hr
 |e::l,p,h=>by
  have h:(iO e&&xE p e&&jQ (some e) l)=true:=h
  simp only[Bool.and_eq_true]at h
  intro r hr
  rcases List.mem_cons.1 hr with rfl|hr
  ·have:=h.1.1
   unfold iO qg at this
   simp at this
   exact this.1
  ·exact LU h.2 r hr
theorem LV:∀ {ks:aS} {d:Nat} {p:Option ByteArray},pz ks d p=true→xA (qV ks)
 | .nil,_,_,_=>fun r hr=>by cases hr
 | .cons key es sub rest,d,p,h=>by
   rw[RH]at h
   unfold dD at h
   simp only[Bool.and_eq_true]at h
   intro r hr
   have hr:r∈rW es++qV sub++qV rest:=hr
   rcases List.mem_append.1 hr with hr|hr
   ·rcases List.mem_append.1 hr with hr|hr
    ·exact LU h.1.2.1.2 r hr
    ·exact LV h.1.2.2 r hr
   ·exact LV h.2 r hr
theorem Ez {d:Nat} {es:List aQ} {ks:aS} (h:dD d es ks=true):xA (iD es ks):=by
 unfold dD at h
 simp only[Bool.and_eq_true]at h
 intro r hr
 rcases List.mem_append.1 hr with hr|hr
 ·exact LU h.1.2 r hr
 ·exact LV h.2 r hr
theorem LW (es:List aQ):(rW es).length=es.length:=by simp[rW]
theorem LX:∀ks:aS,(qV ks).length≤jE ks
 | .nil=>Nat.le_refl _
 | .cons _ es sub rest=>by
   have h1:=LX sub
   have h2:=LX rest
   show(rW es++qV sub++qV rest).length≤1+es.length+jE sub+jE rest
   rw[List.length_append,List.length_append,LW]
   omega
theorem EC (es:List aQ) (ks:aS):(iD es ks).length≤sizeT es ks:=by
 have:=LX ks
 unfold iD sizeT
 rw[List.length_append,LW]
 omega
end Go.Proofs.YtabkpccdnkjoiaaGreat
