/- Words for the law BundleOrder: SJoin, CApart, CWhole, SMinus, SortK. -/
import Derived.Test.YtabkpccdnkjoiaaGreatBundleOrderG0
import Derived.Test.YtabkpccdnkjoiaaGreatBundleOrderG3
import Derived.Test.YtabkpccdnkjoiaaGreatBundleOrderG4
import Derived.StillTailTactics
import Derived.IntWalk
import Derived.Deep.Slices
import Derived.Shelf.SlSortCmp.WholeK
set_option linter.unusedSimpArgs false
set_option linter.unusedVariables false
set_option maxHeartbeats 32000000
set_option maxRecDepth 1000000
namespace Go.Proofs.YtabkpccdnkjoiaaGreat
open Go.RowKit
theorem rZ:(Tryz.prog.info? 288).map (fun i=>(i.zero,i.size,i.bytes))=some (some (.agg #[.int .i64 0, .int .i64 0]),2,16):=by kernel_rfl
def jQ (l:aQ) (k:Nat) (out:aQ):Prop:=(k=0∧out=[])∨∃acc cur,out=acc++ [cur]∧kM l=acc++jn cur (l.drop k)
theorem xX {l:aQ} {k:Nat} (h:k<l.length):l.drop k=l.getD k (0,0)::l.drop (k+1):=by
 rw[getD_at (0,0) h];exact List.drop_eq_getElem_cons h
theorem jQ.K_ {l:aQ} (h:0<l.length):jQ l (0+1) [l.getD 0 (0,0)]:=by
 refine .inr ⟨[],l.getD 0 (0,0),rfl,?_⟩
 cases l with
 |nil=>cases h
 |cons r l=>rfl
theorem jQ.open_ {l:aQ} {k:Nat} {acc:aQ} {cur:Int×Int} (h:jQ l k (acc++ [cur])):kM l=acc++jn cur (l.drop k):=by
 rcases h with⟨_,h⟩|⟨acc',cur',h1,h2⟩
 ·simp at h
 ·obtain⟨e1,e2⟩:=List.append_inj' h1 rfl
  injection e2 with e2
  rw[e1,e2];exact h2
theorem jQ.meet {l:aQ} {k:Nat} {acc:aQ} {cur:Int×Int} (h:jQ l k (acc++ [cur])) (hk:k<l.length) (hc:(l.getD k (0,0)).1≤cur.2+1):jQ l (k+1) (acc++ [(cur.1,max cur.2 (l.getD k (0,0)).2)]):=by
 refine .inr ⟨acc,_,rfl,?_⟩
 rw[h.open_,xX hk,jn,if_pos hc]
theorem jQ.away {l:aQ} {k:Nat} {acc:aQ} {cur:Int×Int} (h:jQ l k (acc++ [cur])) (hk:k<l.length) (hc:¬(l.getD k (0,0)).1≤cur.2+1):jQ l (k+1) (acc++ [cur]++ [l.getD k (0,0)]):=by
 refine .inr ⟨acc++ [cur],_,rfl,?_⟩
 rw[h.open_,xX hk,jn,if_neg hc];simp
theorem jQ.all {l:aQ} {k:Nat} {out:aQ} (h:jQ l k out) (hk:l.length=k):out=kM l:=by
 rcases h with⟨h0,rfl⟩|⟨acc,cur,rfl,h⟩
 ·have:l=[]:=List.eq_nil_of_length_eq_zero (by omega)
  subst this;rfl
 ·rw[h,List.drop_of_length_le (by omega),jn]
theorem OwnAt.La {w0 w:World} {e:TypeId} {g L c:Nat} {lo:aQ} {r:Int×Int} (h:OwnAt w0 w e 2 (.slice (some ⟨g,0,none⟩) (L+1) c) (L+1) (bP (lo++ [r]))) (hL:lo.length=L) (hi:Int):
 OwnAt w0 (w.setCell ⟨g,L*2+1,none⟩ (.int .i64 hi)) e 2 (.slice (some ⟨g,0,none⟩) (L+1) c) (L+1) (bP (lo++ [(r.1,hi)])):=by
 obtain⟨g',c',he,_,_,_,_,_,hset⟩:=h.row (by omega)
 injection he with e1 e2 e3
 injection e1 with e1
 injection e1 with e4 e5
 subst e4
 have:=hset (L*2+1) (.int .i64 hi)
 rw[←hL,Ae,hL]at this
 exact this
theorem Lc (a b:Int):(if a<b then b else a)=max a b:=by split<;>omega
def Bd (r:Int×Int):Prop:=1≤r.1∧r.1≤1099511627776∧1≤r.2∧r.2≤1099511627776
theorem Fj (w:World) (v:Value) (l:aQ) (hv:f_ w v l) (hl:l.length≤200000) (hb:∀r∈l,Bd r):
 Calls Tryz.prog 235 #[v] w fun e w'=>∃v',e= .returned v'∧OwnAt w w' 288 2 v' (kM l).length (bP (kM l)):=by
 obtain⟨i0,hi,hz0,hz1,hz2⟩:=info_parts rZ
 obtain⟨aA,cA,rfl⟩:=hv.sl
 have HH:=ah hv;clear hv
 have HB:=ah hb;clear hb
 generalize hn:l.length=n at*
 have HN:=ah hn;clear hn
 have ou:=ah hl;clear hl
 go_enter Tryz.func235,Tryz.ntmps235
 go_wp2
 go_loopw [3,9] (fun v i ww=>∃(k:Nat) (out:aQ),k≤n∧out.length≤k∧i= .int .i64 k∧OwnAt w ww 288 2 v out.length (bP out)∧jQ l k out∧∀r∈out,Bd r) (fun _ i _=>n-(intOf i).toNat)
 case atStart=>exact⟨0,[],Nat.zero_le _,Nat.le_refl _,rfl,OwnAt.nil (aj.refl _ _) _ _, .inl ⟨rfl,rfl⟩,(fun r hr=>by cases hr)⟩
 case round=>
  obtain⟨k,out,hk,hok,rfl,ho,hj,Fp⟩:=hrel
  have HO:=ah ho;clear ho
  have HJ:=ah hj;clear hj
  have oz:=ah Fp;clear Fp
  by_cases hlt:k<n
  ·rcases Rd.shape HH.out with⟨ad,he,h0⟩|⟨b,off,cc,he,hmax⟩
   ·exfalso;have:=HN.out;omega
   ·injection he with e1 e2 e3
    subst e1 e3
    clear e2
    rw[HN.out]at hmax
    have hlk:k<l.length:=by rw[HN.out];exact hlt
    obtain⟨p0,p1⟩:=kN HH.out HN.out.symm k hlk
    have q0:=HO.out.aH.cell' p0 id
    have q1:=HO.out.aH.cell' p1 id
    clear p0 p1
    have hbr:=HB.out _ (getD_mem (0,0) hlk)
    have pK:=ah hbr
    obtain⟨r1,r2,r3,r4⟩:=hbr
    have hkm:k≤200000:=Nat.le_trans (Nat.le_of_lt hlt) ou.out
    rcases List.eq_nil_or_concat out with rfl|⟨lo,r,rfl⟩
    ·have hk0:k=0:=by
      rcases HJ.out with⟨h,_⟩|⟨acc,cur,h,_⟩
      ·exact h
      ·simp at h
     subst hk0
     have HST:=ah (jQ.K_ hlk)
     generalize l.getD 0 (0,0)=s at*
     simp only[Nat.zero_mul,Nat.add_zero]at q0 q1
     obtain⟨av,cv,rfl⟩:=HO.out.shape
     go_wp2_with fail
     go_big_quiet (fail)
     go_wp2_with(at_builtin;refine jg w _ [.int .i64 s.1, .int .i64 s.2] rfl (.tmp 43) (.tmp 45) 266 rfl 288 i0 _ 2 16 Tryz.underlying266 hi hz0 hz1 hz2 (by decide) (by decide) _ _ _ (HO.out.keep (aj.alloc _ _ _).eF) 1 1 rfl (by simp[Act.eval]) rfl (by simp[Value.oneCell']) (by simp[maxLen]) (by simp) ?_;intro ad iP w2 bC;have OW:=ah bC;clear bC)
     go_roundw
     case rel=>exact⟨0+1,[s],by omega,by simp,by go_num,OW.out,HST.out,fun r hr=>by simp at hr;subst hr;exact pK.out⟩
     case measure=>simp[intOf];omega
    ·rw[List.concat_eq_append]at*
     have hln:(lo++ [r]).length=lo.length+1:=by simp
     have ho2:=HO.out
     rw[hln]at ho2 hok
     clear HO hln
     obtain⟨g,c2,rfl,hg0,hg,hc2,hcell,hfro,hset⟩:=ho2.row (by simp)
     have cl:=hcell _ _ (Af lo r)
     have fl:=hfro (lo.length*2+1)
     have HO:=ah ho2;clear ho2
     have Fq:=oz.out r (by simp)
     have RV:=ah Fq
     obtain⟨t1,t2,t3,t4⟩:=Fq
     have HM:=ah (fun hc=>jQ.meet HJ.out hlk hc)
     have HA:=ah (fun hc=>jQ.away HJ.out hlk hc)
     generalize hL:lo.length=L at*
     have jK:=ah hL;clear hL
     have dw:=ah hok;clear hok
     generalize l.getD k (0,0)=s at*
     have hL5:L+1≤200000:=Nat.le_trans dw.out hkm
     have hgb:g<wr.heap.size:=hg
     clear hcell hfro hset
     by_cases hc:s.1≤r.2+1
     ·go_wp2_with fail
      go_big_quiet (fail)
      go_wp2_with fail
      have hfr:aj au wr ((wr.alloc (.cells #[.int .i64 s.1, .int .i64 s.2] 288)).drewN nq):=(aj.alloc _ _ _).eF
      have n1:((wr.alloc (.cells #[.int .i64 s.1, .int .i64 s.2] 288)).drewN nq).cell? ⟨wr.heap.size,1,none⟩=some (.int .i64 s.2):=aF (heap_alloc_new wr _) 1 rfl
      have RX:=hfr.cell' cl id
      have RY:=(hfr.frozen (p:=⟨g,L*2+1,none⟩) hgb id).trans fl
      have hg2:g<((wr.alloc (.cells #[.int .i64 s.1, .int .i64 s.2] 288)).drewN nq).heap.size:=Nat.lt_of_lt_of_le hgb hfr.size
      have jy:=ah hfr;clear hfr
      clear cl fl q0 q1
      have hgs:wr.heap.size≠g:=by omega
      generalize wr.heap.size=rs at*
      generalize (wr.alloc (.cells #[.int .i64 s.1, .int .i64 s.2] 288)).drewN nq=W2 at*
      have hwr:IntKind.i64.wrap (L:Int)=L:=IntWalk.i64_in _ (by omega)
      have hx0:(0:Int)≤(L:Int):=by omega
      have hx1:(L:Int)<(L:Int)+1:=by omega
      have hx2:(L:Int)<((L+1:Nat):Int):=by omega
      go_still_tail 14,(by kernel_rfl)
      clear hwr
      change wpList _ _ _ _ _ W2.drew
      clear hx0 hx1 hx2
      go_wp2
      go_roundw
      case rel=>
       refine⟨k+1,lo++ [(r.1,max r.2 s.2)],by omega,by rw[List.length_append,jK.out];exact Nat.succ_le_succ (Nat.le_trans (Nat.le_succ _) dw.out),by go_num,?_,HM.out hc,?_⟩
       ·rw[List.length_append,jK.out]
        try rw[Lc]
        exact((HO.out.keep jy.out).La jK.out _).keep (aj.drew _ _)
       ·intro x hx
        rcases List.mem_append.1 hx with hx|hx
        ·exact oz.out x (List.mem_append_left _ hx)
        ·simp at hx;subst hx;exact⟨t1,t2,by show 1≤max r.2 s.2;omega,by show max r.2 s.2≤_;omega⟩
      case measure=>simp[intOf];omega
     ·go_wp2_with fail
      go_big_quiet (fail)
      go_wp2_with(at_builtin;refine jg w _ [.int .i64 s.1, .int .i64 s.2] rfl (.tmp 43) (.tmp 45) 266 rfl 288 i0 _ 2 16 Tryz.underlying266 hi hz0 hz1 hz2 (by decide) (by decide) _ _ _ (HO.out.keep (aj.alloc _ _ _).eF) 1 1 rfl (by simp[Act.eval]) rfl (by simp[Value.oneCell']) (by simp only[maxLen];omega) (by omega) ?_;intro ad iP w2 bC;have OW:=ah bC;clear bC)
      go_roundw
      case rel=>exact⟨k+1,lo++ [r]++ [s],by omega,by rw[List.length_append,List.length_append,jK.out];have:=dw.out;simp;omega,by go_num,by rw[List.length_append,List.length_append,jK.out,kD];exact OW.out,HA.out hc,fun x hx=>by
       rcases List.mem_append.1 hx with hx|hx
       ·exact oz.out x hx
       ·simp at hx;subst hx;exact pK.out⟩
      case measure=>simp[intOf];omega
  ·obtain rfl:n=k:=by omega
   obtain⟨av,cv,hv⟩:=HO.out.shape
   subst hv
   go_wp2
   go_ret
   have:=HJ.out.all HN.out
   subst this
   exact⟨_,rfl,HO.out⟩
open Go.RowKit
def Fv (c:aU) (k la:Nat):Prop:=(k=0∧la=0)∨(0<k∧(c.getD (k-1) (0,0,0)).1=la)
theorem Ld {c:aU} {k la:Nat} (h:dU 0 (c.take k)) (hl:Fv c k la) (hk:k<c.length):
 dU 0 (c.take (k+1))↔(la:Int)≤(c.getD k (0,0,0)).1∧(c.getD k (0,0,0)).1<4:=by
 rw[Ar h hk]
 rcases hl with⟨rfl,rfl⟩|⟨h0,h1⟩
 ·simp
 ·have hge:0≤(c.getD (k-1) (0,0,0)).1:=by rw[h1];omega
  rw[h1]at hge⊢
  constructor
  ·rintro⟨_,h3,h4⟩;exact⟨h4 h0,h3⟩
  ·rintro⟨h3,h4⟩;exact⟨by omega,h4,fun _=>h3⟩
theorem Fz {c:aU} {k:Nat} (h:¬dU 0 (c.take k)):¬bH c:=fun hr=>h (Fa hr.1 k)
structure PartsAt (w0 w:World) (vs:Nat→Value) (p:Nat→aQ):Prop where
 own:∀d,d<4→OwnAt w0 w 288 2 (vs d) (p d).length (bP (p d))
def Le (w:World) (c:aU) (e:Ending) (w':World):Prop:=
 aj au w w'∧(bH c→∃A:Nat→Option Addr×Nat×Nat,e= .returned (.tuple #[.agg #[.slice (A 0).1 (A 0).2.1 (A 0).2.2, .slice (A 1).1 (A 1).2.1 (A 1).2.2, .slice (A 2).1 (A 2).2.1 (A 2).2.2, .slice (A 3).1 (A 3).2.1 (A 3).2.2], .bool true])∧PartsAt w w' (fun d=> .slice (A d).1 (A d).2.1 (A d).2.2) (fun d=>aZ c d))∧(¬bH c→e= .returned (.tuple #[.agg #[.slice none 0 0, .slice none 0 0, .slice none 0 0, .slice none 0 0], .bool false]))
theorem xY (w:World) (v:Value) (c:aU) (hv:dL w v c) (hf:gB c) (hl:c.length≤100000):
 Calls Tryz.prog 205 #[v] w (Le w c):=by
 obtain⟨i0,hi,hz0,hz1,hz2⟩:=info_parts rZ
 obtain⟨aA,cA,rfl⟩:=hv.sl
 have HH:=ah hv;clear hv
 have HF:=ah hf;clear hf
 generalize hn:c.length=n at*
 have HN:=ah hn;clear hn
 have ou:=ah hl;clear hl
 have HST:=ah (fH.start (M:=fun k=>k=w.heap.size) 268 288 2 (aj.alloc au w (.cells #[.slice none 0 0, .slice none 0 0, .slice none 0 0, .slice none 0 0] 268)) (fun k hk=>by rw[hk];simp))
 go_enter Tryz.func205,Tryz.ntmps205
 go_wp2
 go_loopw [5,12] (fun la i ww=>∃(k l:Nat) (vs:Nat→Value),k≤n∧i= .int .i64 k∧la= .int .i64 l∧l<4∧Fv c k l∧dU 0 (c.take k)∧
  fH (fun k=>k=w.heap.size) 268 288 2 w ww (w.heap.size+1) vs (fun d=>(aZ (c.take k) d).length) (fun d=>bP (aZ (c.take k) d))∧ww.heap[w.heap.size]?=some (.cells #[.slice none 0 0, .slice none 0 0, .slice none 0 0, .slice none 0 0] 268 (0,0))) (fun _ i _=>n-(intOf i).toNat)
 case atStart=>exact⟨0,0,fun _=> .slice none 0 0,Nat.zero_le _,rfl,rfl,by omega, .inl ⟨rfl,rfl⟩,trivial,by have:=HST.out;simp only[World.size_alloc]at this;exact this,by rw[Below.heap_alloc _ _ _ (by simp)];exact heap_alloc_new w _⟩
 case round=>
  obtain⟨k,l,vs,hk,rfl,rfl,hl4,hla,hdc,h4,hres⟩:=hrel
  have H4:=ah h4;clear h4
  have lQ:=ah hres;clear hres
  have fE:=ah hdc;clear hdc
  have Az:=ah hla;clear hla
  have z0:wr.cell? ⟨w.heap.size,0,none⟩=some (.slice none 0 0):=aF lQ.out 0 rfl
  have z1:wr.cell? ⟨w.heap.size,1,none⟩=some (.slice none 0 0):=aF lQ.out 1 rfl
  have z2:wr.cell? ⟨w.heap.size,2,none⟩=some (.slice none 0 0):=aF lQ.out 2 rfl
  have z3:wr.cell? ⟨w.heap.size,3,none⟩=some (.slice none 0 0):=aF lQ.out 3 rfl
  have f0:=aY lQ.out 0
  have f1:=aY lQ.out 1
  have f2:=aY lQ.out 2
  have f3:=aY lQ.out 3
  have hgr:w.heap.size<wr.heap.size:=lt_of_block lQ.out
  have HR4:=ah (Au lQ.out H4.out.aH (Nat.le_refl _) (.slice none 0 0) (.slice none 0 0) (.slice none 0 0) (.slice none 0 0))
  by_cases hlt:k<n
  ·rcases Rd.shape HH.out with⟨ad,he,h0⟩|⟨b,off,cc,he,hmax⟩
   ·exfalso;have:=HN.out;omega
   ·injection he with e1 e2 e3
    subst e1 e3
    clear e2
    rw[HN.out]at hmax
    have hlk:k<c.length:=by rw[HN.out];exact hlt
    obtain⟨p0,p1,p2⟩:=pF HH.out HN.out.symm k hlk
    have q0:=H4.out.aH.cell' p0 id
    have q1:=H4.out.aH.cell' p1 id
    have q2:=H4.out.aH.cell' p2 id
    clear p0 p1 p2
    have hbf:=HF.out _ (getD_mem (0,0,0) hlk)
    have HS:=ah (Ld fE.out Az.out hlk)
    have qF:=ah (fun d=>ES (c:=c) (k:=k) d hlk)
    obtain⟨s,hgd⟩:∃s,s=c.getD k (0,0,0):=⟨_,rfl⟩
    rw[←hgd]at HS qF q0 q1 q2 hbf
    have Lh:=ah hgd.symm;clear hgd
    by_cases c1:s.1<(l:Int)
    ·go_wp2
     have hb4:=HR4.out.1
     have y0:=(aj.alloc au _ (.cells #[.int .i64 s.1, .int .i64 s.2.1, .int .i64 s.2.2] 144)).cell' (aF hb4 0 rfl) id
     have y1:=(aj.alloc au _ (.cells #[.int .i64 s.1, .int .i64 s.2.1, .int .i64 s.2.2] 144)).cell' (aF hb4 1 rfl) id
     have y2:=(aj.alloc au _ (.cells #[.int .i64 s.1, .int .i64 s.2.1, .int .i64 s.2.2] 144)).cell' (aF hb4 2 rfl) id
     have y3:=(aj.alloc au _ (.cells #[.int .i64 s.1, .int .i64 s.2.1, .int .i64 s.2.2] 144)).cell' (aF hb4 3 rfl) id
     refine bodyPost_ret (v:= .tuple #[.agg #[.slice none 0 0, .slice none 0 0, .slice none 0 0, .slice none 0 0], .bool false]) (by simp[results,Tryz.results205,go_sem,y0,y1,y2,y3]) rfl ⟨HR4.out.2.alloc1,fun hr=>absurd hr (Fz (k:=k+1) fun h=>by have:=(HS.out.1 h).1;omega),fun _=>rfl⟩
    ·by_cases c2:4≤s.1
     ·go_wp2
      have hb4:=HR4.out.1
      have y0:=(aj.alloc au _ (.cells #[.int .i64 s.1, .int .i64 s.2.1, .int .i64 s.2.2] 144)).cell' (aF hb4 0 rfl) id
      have y1:=(aj.alloc au _ (.cells #[.int .i64 s.1, .int .i64 s.2.1, .int .i64 s.2.2] 144)).cell' (aF hb4 1 rfl) id
      have y2:=(aj.alloc au _ (.cells #[.int .i64 s.1, .int .i64 s.2.1, .int .i64 s.2.2] 144)).cell' (aF hb4 2 rfl) id
      have y3:=(aj.alloc au _ (.cells #[.int .i64 s.1, .int .i64 s.2.1, .int .i64 s.2.2] 144)).cell' (aF hb4 3 rfl) id
      refine bodyPost_ret (v:= .tuple #[.agg #[.slice none 0 0, .slice none 0 0, .slice none 0 0, .slice none 0 0], .bool false]) (by simp[results,Tryz.results205,go_sem,y0,y1,y2,y3]) rfl ⟨HR4.out.2.alloc1,fun hr=>absurd hr (Fz (k:=k+1) fun h=>by have:=(HS.out.1 h).2;omega),fun _=>rfl⟩
     ·obtain⟨dn,hdn⟩:∃dn:Nat,s.1=dn:=⟨s.1.toNat,by omega⟩
      have hd4:dn<4:=by omega
      rw[hdn]at c1 c2 q0
      have ig:=ah hdn;clear hdn
      have hcd:=H4.out.cell hd4
      have hc4:(dn:Int)<4:=by omega
      clear z0 z1 z2 z3 f0 f1 f2 f3
      have hsp:(wr.alloc (.cells #[.int .i64 s.1, .int .i64 s.2.1, .int .i64 s.2.2] 144)).heap[wr.heap.size]?=some (.cells #[.int .i64 s.1, .int .i64 s.2.1, .int .i64 s.2.2] 144 (0,0)):=heap_alloc_new wr _
      rw[ig.out]at hsp
      have lZ:=ah (((H4.out.box (.cells #[.int .i64 dn, .int .i64 s.2.1, .int .i64 s.2.2] 144)).keep (aj.drew _ _)))
      have xZ:=ah ((aj.alloc au wr (.cells #[.int .i64 dn, .int .i64 s.2.1, .int .i64 s.2.2] 144)).nZ.blk lQ.out id)
      have hsb:wr.heap.size<(wr.alloc (.cells #[.int .i64 dn, .int .i64 s.2.1, .int .i64 s.2.2] 144)).heap.size:=by simp
      have hlen:(aZ (c.take k) dn).length≤k:=Nat.le_trans (pG _ _) (List.length_take_le _ _)
      have HLEN:=ah (Nat.le_trans hlen (Nat.le_trans hk ou.out))
      clear hlen
      go_wp2_with fail
      generalize hW:wr.alloc (.cells #[.int .i64 dn, .int .i64 s.2.1, .int .i64 s.2.2] 144)=W at*
      clear hW hgr q0 q1 q2 hcd
      generalize wr.heap.size=sb at*
      obtain⟨pl,hpl⟩:∃pl,pl=(aZ (c.take k) dn).length:=⟨_,rfl⟩
      have hob:dM (pJ (fun k=>k=w.heap.size∨k=sb) (w.heap.size+1) vs dn) w W.drew 288 2 (vs dn) pl (bP (aZ (c.take k) dn)):=by rw[hpl];exact lZ.out.but hd4
      have mg:=ah hob;clear hob
      rw[←hpl]at HLEN
      have kP:=ah hpl;clear hpl
      refine gX (S:=fun w'=>w'.cell? ⟨sb,0,none⟩=some (.int .i64 dn)∧w'.cell? ⟨sb,1,none⟩=some (.int .i64 s.2.1)∧w'.cell? ⟨sb,2,none⟩=some (.int .i64 s.2.2)∧w'.cell? ⟨w.heap.size+1,dn,none⟩=some (vs dn)) 14 (by kernel_rfl) ⟨aF hsp 0 rfl,aF hsp 1 rfl,aF hsp 2 rfl,lZ.out.cell hd4⟩ ?_
      intro hS
      have hsb:sb<W.drew.heap.size:=hsb
      have hsp:W.drew.heap[sb]?=_:=hsp
      generalize W.drew=Y at*
      have qG:=ah hsp;clear hsp
      refine aT 0 28 rfl rfl (v:=?_) (.inl ⟨by rfl,?_⟩) ?_
      rotate_left 1
      ·(intro w hSw;(try dsimp only at hSw);go_simp;(try with_reducible rfl))
      refine aT 1 29 rfl rfl (v:=?_) (.inl ⟨by rfl,?_⟩) ?_
      rotate_left 1
      ·(intro w hSw;(try dsimp only at hSw);go_simp;(try with_reducible rfl))
      try simp only[Act.put,aJ,aN,aO]
      refine aT 2 30 rfl rfl (v:=?_) (.inl ⟨by rfl,?_⟩) ?_
      rotate_left 1
      ·(intro w hSw;(try dsimp only at hSw);go_simp;(try with_reducible rfl))
      refine aT 3 31 rfl rfl (v:=?_) (.inl ⟨by rfl,?_⟩) ?_
      rotate_left 1
      ·(intro w hSw;(try dsimp only at hSw);go_simp;(try with_reducible rfl))
      try simp only[Act.put,aJ,aN,aO]
      refine aT 4 32 rfl rfl (v:=?_) (.inl ⟨by rfl,?_⟩) ?_
      rotate_left 1
      ·(intro w hSw;(try dsimp only at hSw);go_simp;(try with_reducible rfl))
      refine aT 5 33 rfl rfl (v:=?_) (.inl ⟨by rfl,?_⟩) ?_
      rotate_left 1
      ·(intro w hSw;(try dsimp only at hSw);go_simp;(try with_reducible rfl))
      try simp only[Act.put,aJ,aN,aO]
      refine aT 6 34 rfl rfl (v:=?_) (.inl ⟨by rfl,?_⟩) ?_
      rotate_left 1
      ·(intro w hSw;(try dsimp only at hSw);go_simp;(try with_reducible rfl))
      refine aT 7 35 rfl rfl (v:=?_) (.inl ⟨by rfl,?_⟩) ?_
      rotate_left 1
      ·(intro w hSw;(try dsimp only at hSw);go_simp;(try with_reducible rfl))
      try simp only[Act.put,aJ,aN,aO]
      refine aT 8 36 rfl rfl (v:=?_) (.inl ⟨by rfl,?_⟩) ?_
      rotate_left 1
      ·(intro w hSw;(try dsimp only at hSw);go_simp;(try with_reducible rfl))
      refine aT 9 37 rfl rfl (v:=?_) (.inl ⟨by rfl,?_⟩) ?_
      rotate_left 1
      ·(intro w hSw;(try dsimp only at hSw);go_simp;(try with_reducible rfl))
      try simp only[Act.put,aJ,aN,aO]
      refine aT 10 38 rfl rfl (v:=?_) (.inl ⟨by rfl,?_⟩) ?_
      rotate_left 1
      ·(intro w hSw;(try dsimp only at hSw);go_simp;(try with_reducible rfl))
      try simp only[Act.put,aJ,aN,aO]
      refine bD (i:=11) (by kernel_rfl) rfl (fun K hK=>?_)
      go_simp
      refine hK.out _ _ ⟨(aj.alloc au Y _).cell' hS.1 id,(aj.alloc au Y _).cell' hS.2.1 id,(aj.alloc au Y _).cell' hS.2.2.1 id,(aj.alloc au Y _).cell' hS.2.2.2 id⟩ ?_
      clear hK K
      have hS1:(Y.alloc (.cells #[.int .i64 s.2.1, .int .i64 s.2.2] 288)).cell? ⟨sb,0,none⟩=some (.int .i64 dn)∧(Y.alloc (.cells #[.int .i64 s.2.1, .int .i64 s.2.2] 288)).cell? ⟨sb,1,none⟩=some (.int .i64 s.2.1)∧(Y.alloc (.cells #[.int .i64 s.2.1, .int .i64 s.2.2] 288)).cell? ⟨sb,2,none⟩=some (.int .i64 s.2.2)∧(Y.alloc (.cells #[.int .i64 s.2.1, .int .i64 s.2.2] 288)).cell? ⟨w.heap.size+1,dn,none⟩=some (vs dn):=⟨(aj.alloc au Y _).cell' hS.1 id,(aj.alloc au Y _).cell' hS.2.1 id,(aj.alloc au Y _).cell' hS.2.2.1 id,(aj.alloc au Y _).cell' hS.2.2.2 id⟩
      try simp only[Act.put,aJ,aN,aO]
      refine bD (i:=12) (by kernel_rfl) rfl (fun K hK=>?_)
      refine Aw (pJ (fun k=>k=w.heap.size∨k=sb) (w.heap.size+1) vs dn) w Y [.int .i64 s.2.1, .int .i64 s.2.2] rfl (.tmp 33) (.tmp 39) 266 rfl 288 i0 _ 2 16 Tryz.underlying266 hi hz0 hz1 hz2 (by decide) (by decide) (vs dn) pl _ mg.out (lZ.out.lt dn) 1 1 (by simp[Act.eval]) (by simp[Act.eval]) rfl (by simp[Value.oneCell']) (by have:=HLEN.out;simp only[maxLen];omega) (by have:=HLEN.out;omega) ?_
      intro ad iP w2 bC fF
      have hS2:w2.cell? ⟨sb,0,none⟩=some (.int .i64 dn)∧w2.cell? ⟨sb,1,none⟩=some (.int .i64 s.2.1)∧w2.cell? ⟨sb,2,none⟩=some (.int .i64 s.2.2)∧w2.cell? ⟨w.heap.size+1,dn,none⟩=some (vs dn):=⟨fF.cell (.inr (.inl (.inr rfl))) hS.1,fF.cell (.inr (.inl (.inr rfl))) hS.2.1,fF.cell (.inr (.inl (.inr rfl))) hS.2.2.1,fF.cell (.inl rfl) hS.2.2.2⟩
      refine hK.out _ _ hS2 ?_
      clear hK K hS1
      have qH:=ah (((lZ.out.step hd4 fF bC).mono (M':=fun k=>k=w.heap.size) fun k hk=> .inl hk).congr (n':=fun d=>(aZ (c.take (k+1)) d).length) (xs':=fun d=>bP (aZ (c.take (k+1)) d)) (fun d hd=>by
       rw[qF.out]
       by_cases he:d=dn
       ·subst he;rw[upd_same,if_pos ig.out,List.length_append,←kP.out];rfl
       ·rw[jP _ _ he,if_neg (by rw[ig.out];omega),List.append_nil]) (fun d hd=>by
       rw[qF.out]
       by_cases he:d=dn
       ·subst he;rw[upd_same,if_pos ig.out,kD];rfl
       ·rw[jP _ _ he,if_neg (by rw[ig.out];omega),List.append_nil]))
      have HR2:=ah (fF.blk (.inr (.inl (.inl rfl))) xZ.out)
      have hcf:=fF.frozen (p:=⟨w.heap.size+1,dn,none⟩) (.inl rfl) (aY lZ.out.blk dn)
      clear bC fF
      try simp only[Act.put,aJ,aN,aO]
      refine aT 13 41 rfl rfl (v:=?_) (.inl ⟨by rfl,?_⟩) ?_
      rotate_left 1
      ·(intro w hSw;(try dsimp only at hSw);go_simp;(try with_reducible rfl))
      try simp only[Act.put,aJ,aN,aO]
      refine fD (by kernel_rfl) (by kernel_rfl) rfl (fun K hK=>?_)
      have hcz:=hS2.2.2.2
      clear hS2 hS
      go_simp
      refine hK.out _ _ ?_
      clear hK K hcz hcf
      go_wp2
      go_roundw
      case rel=>exact⟨k+1,dn,_,by omega,by go_num,rfl,hd4, .inr ⟨by omega,by rw[Nat.add_sub_cancel,Lh.out,ig.out]⟩,HS.out.2 ⟨by rw[ig.out];exact c1,by rw[ig.out];omega⟩,qH.out,(aj.setCell (S:=fun k=>k=w.heap.size+1) w2 (p:=⟨w.heap.size+1,dn,none⟩) (.inl rfl) _).blk HR2.out (fun h=>by have h:w.heap.size=w.heap.size+1:=h;omega)⟩
      case measure=>simp[intOf];omega
  ·obtain rfl:n=k:=by omega
   rw[List.take_of_length_le (by rw[HN.out];exact Nat.le_refl _)]at H4 fE
   obtain⟨wo,rfl⟩:∃wo:World,wo=wr:=⟨_,rfl⟩
   have hsh:∀d,d<4→∃t:Option Addr×Nat×Nat,vs d= .slice t.1 t.2.1 t.2.2:=fun d hd=>by
    obtain⟨a,c,h⟩:=(H4.out.own d hd).at_.shape
    exact⟨(a,_,c),h⟩
   obtain⟨A,hA⟩:=Go.Deep.choose_lt hsh
   clear hsh
   have c0:=hA 0 (by omega)▸H4.out.cell (d:=0) (by omega)
   have c1:=hA 1 (by omega)▸H4.out.cell (d:=1) (by omega)
   have c2:=hA 2 (by omega)▸H4.out.cell (d:=2) (by omega)
   have c3:=hA 3 (by omega)▸H4.out.cell (d:=3) (by omega)
   have pO:=ah hA;clear hA
   go_wp2
   clear z0 z1 z2 z3 f0 f1 f2 f3 c0 c1 c2 c3
   go_loopw [44] (fun i ww=>∃j:Nat,j≤4∧i= .int .i64 j∧(∀d:Nat,d<j→bG (aZ c d))∧aj au wo ww) (fun i _=>4-(intOf i).toNat)
   case atStart=>exact⟨0,by omega,rfl,(fun d hd=>by omega),aj.refl _ _⟩
   case round=>
    obtain⟨j,hj,rfl,hr,hw⟩:=hrel
    have HW:=ah hw;clear hw
    have HR:=ah hr;clear hr
    have nG:=ah (HW.out.blk lQ.out id)
    have z0:wr.cell? ⟨w.heap.size,0,none⟩=some (.slice none 0 0):=aF nG.out 0 rfl
    have z1:wr.cell? ⟨w.heap.size,1,none⟩=some (.slice none 0 0):=aF nG.out 1 rfl
    have z2:wr.cell? ⟨w.heap.size,2,none⟩=some (.slice none 0 0):=aF nG.out 2 rfl
    have z3:wr.cell? ⟨w.heap.size,3,none⟩=some (.slice none 0 0):=aF nG.out 3 rfl
    have f0:=aY nG.out 0
    have f1:=aY nG.out 1
    have f2:=aY nG.out 2
    have f3:=aY nG.out 3
    by_cases pR:j<4
    ·have hix:∀W,(Instr.index 268 (.agg #[.slice (A 0).1 (A 0).2.1 (A 0).2.2, .slice (A 1).1 (A 1).2.1 (A 1).2.2, .slice (A 2).1 (A 2).2.1 (A 2).2.2, .slice (A 3).1 (A 3).2.1 (A 3).2.2]) (.int .i64 (j:Int))).run Tryz.prog W= .ok (.slice (A j).1 (A j).2.1 (A j).2.2) W:=by
      rcases(by omega:j=0∨j=1∨j=2∨j=3)with rfl|rfl|rfl|rfl<;>exact fun _=>by kernel_rfl
     have hown:=((H4.out.own j pR).at_.keep HW.out).rd
     rw[pO.out j pR]at hown
     have hcall:=xM wr _ (aZ c j) hown (HF.out.part j)
     by_cases r_:bG (aZ c j)
     ·rw[bM r_]at hcall
      have HC:=ah hcall;clear hcall hown
      have AA:=ah r_;clear r_
      clear z0 z1 z2 z3 f0 f1 f2 f3
      go_wp2_with(go_at_call 251;refine HC.out.mono ?_;rintro e w1 ⟨rfl,hw1⟩;have HW1:=ah hw1;clear hw1)
      go_roundw
      case rel=>exact⟨j+1,by omega,by go_num,(fun d hd=>by
       by_cases he:d=j
       ·subst he;exact AA.out
       ·exact HR.out d (by omega)),HW.out.ay HW1.out⟩
      case measure=>simp[intOf];omega
     ·rw[bn r_]at hcall
      have HC:=ah hcall;clear hcall hown
      have AA:=ah r_;clear r_
      clear z0 z1 z2 z3 f0 f1 f2 f3
      go_wp2_with(go_at_call 251;refine HC.out.mono ?_;rintro e w1 ⟨rfl,hw1⟩;have HW1:=ah hw1;clear hw1;have HB1:=ah (HW1.out.blk nG.out id);have z0:w1.cell? ⟨w.heap.size,0,none⟩=some (.slice none 0 0):=aF HB1.out 0 rfl;have z1:w1.cell? ⟨w.heap.size,1,none⟩=some (.slice none 0 0):=aF HB1.out 1 rfl;have z2:w1.cell? ⟨w.heap.size,2,none⟩=some (.slice none 0 0):=aF HB1.out 2 rfl;have z3:w1.cell? ⟨w.heap.size,3,none⟩=some (.slice none 0 0):=aF HB1.out 3 rfl;have f0:=aY HB1.out 0;have f1:=aY HB1.out 1;have f2:=aY HB1.out 2;have f3:=aY HB1.out 3)
      have hr4:=Au HB1.out ((H4.out.aH.ay HW.out).ay HW1.out) (Nat.le_refl _) (.slice none 0 0) (.slice none 0 0) (.slice none 0 0) (.slice none 0 0)
      have y0:=aF hr4.1 0 rfl
      have y1:=aF hr4.1 1 rfl
      have y2:=aF hr4.1 2 rfl
      have y3:=aF hr4.1 3 rfl
      exact bodyPost_ret (v:= .tuple #[.agg #[.slice none 0 0, .slice none 0 0, .slice none 0 0, .slice none 0 0], .bool false]) (by simp[results,Tryz.results205,go_sem,y0,y1,y2,y3]) rfl ⟨hr4.2,fun hr=>absurd (hr.2 j (by omega) (by omega)) AA.out,fun _=>rfl⟩
    ·obtain rfl:j=4:=by omega
     have hk4:=H4.out.keep HW.out
     have c0:=pO.out 0 (by omega)▸hk4.cell (d:=0) (by omega)
     have c1:=pO.out 1 (by omega)▸hk4.cell (d:=1) (by omega)
     have c2:=pO.out 2 (by omega)▸hk4.cell (d:=2) (by omega)
     have c3:=pO.out 3 (by omega)▸hk4.cell (d:=3) (by omega)
     have HK:=ah hk4;clear hk4
     have hr4:=Au nG.out (H4.out.aH.ay HW.out) (Nat.le_refl _) (.slice (A 0).1 (A 0).2.1 (A 0).2.2) (.slice (A 1).1 (A 1).2.1 (A 1).2.2) (.slice (A 2).1 (A 2).2.1 (A 2).2.2) (.slice (A 3).1 (A 3).2.1 (A 3).2.2)
     have HR4:=ah hr4;clear hr4
     have hrc:bH c:=⟨fE.out,fun d h0 h4=>by
      obtain⟨e,rfl⟩:∃e:Nat,d=e:=⟨d.toNat,by omega⟩
      exact HR.out e (by omega)⟩
     have jR:=ah hrc;clear hrc
     go_wp2
     have y0:=aF HR4.out.1 0 rfl
     have y1:=aF HR4.out.1 1 rfl
     have y2:=aF HR4.out.1 2 rfl
     have y3:=aF HR4.out.1 3 rfl
     refine bodyPost_ret (v:= .tuple #[.agg #[.slice (A 0).1 (A 0).2.1 (A 0).2.2, .slice (A 1).1 (A 1).2.1 (A 1).2.2, .slice (A 2).1 (A 2).2.1 (A 2).2.2, .slice (A 3).1 (A 3).2.1 (A 3).2.2], .bool true]) (by simp[results,Tryz.results205,go_sem,y0,y1,y2,y3]) rfl ⟨HR4.out.2,fun _=>⟨A,rfl,⟨fun d hd=>?_⟩⟩,fun h=>absurd jR.out h⟩
     have ho:=HK.out.own d hd
     rw[pO.out d hd]at ho
     have f4:aj (fun k=>k=w.heap.size) wr ((((wr.setCell ⟨w.heap.size,0,none⟩ (.slice (A 0).1 (A 0).2.1 (A 0).2.2)).setCell ⟨w.heap.size,1,none⟩ (.slice (A 1).1 (A 1).2.1 (A 1).2.2)).setCell ⟨w.heap.size,2,none⟩ (.slice (A 2).1 (A 2).2.1 (A 2).2.2)).setCell ⟨w.heap.size,3,none⟩ (.slice (A 3).1 (A 3).2.1 (A 3).2.2)):=
      (((aj.setCell (S:=fun k=>k=w.heap.size) wr (p:=⟨w.heap.size,0,none⟩) (.inl rfl) (.slice (A 0).1 (A 0).2.1 (A 0).2.2)).trans (aj.setCell (S:=fun k=>k=w.heap.size) _ (p:=⟨w.heap.size,1,none⟩) (.inl rfl) (.slice (A 1).1 (A 1).2.1 (A 1).2.2)) fun _ _ h=>h).trans (aj.setCell (S:=fun k=>k=w.heap.size) _ (p:=⟨w.heap.size,2,none⟩) (.inl rfl) (.slice (A 2).1 (A 2).2.1 (A 2).2.2)) fun _ _ h=>h).trans (aj.setCell (S:=fun k=>k=w.heap.size) _ (p:=⟨w.heap.size,3,none⟩) (.inl rfl) (.slice (A 3).1 (A 3).2.1 (A 3).2.2)) fun _ _ h=>h
     exact⟨f4.owns ho.at_.own fun k hk he=>ho.but k hk (.inr he),ho.at_.new,HR4.out.2⟩
open Go.RowKit
abbrev Sl:=Option Addr×Nat×Nat
def AB (p:Nat→aQ) (d:Int) (o:aQ):Prop:=o=p d.toNat
theorem g_.Lj {p:Nat→aQ} {c:aU} (h:g_ (AB p) 4 c):c=gZ fun d=>p d.toNat:=by
 rw[←pz (Int.le_refl 0) h.rise]
 unfold gZ
 rw[h.parts 0 (by decide) (by decide),h.parts 1 (by decide) (by decide),h.parts 2 (by decide) (by decide),h.parts 3 (by decide) (by decide)]
theorem FB (w:World) (A:Nat→Sl) (p:Nat→aQ) (hp:∀d,d<4→f_ w (.slice (A d).1 (A d).2.1 (A d).2.2) (p d)) (hl:∀d,d<4→(p d).length≤200000):
 Calls Tryz.prog 229 #[.agg #[.slice (A 0).1 (A 0).2.1 (A 0).2.2, .slice (A 1).1 (A 1).2.1 (A 1).2.2, .slice (A 2).1 (A 2).2.1 (A 2).2.2, .slice (A 3).1 (A 3).2.1 (A 3).2.2]] w fun e w'=>
  ∃v' c,e= .returned v'∧OwnAt w w' 144 3 v' c.length (bT c)∧c=(gZ fun d=>p d.toNat)∧c.length≤800000:=by
 obtain⟨i0,hi,hz0,hz1,hz2⟩:=info_parts qE
 have HP:=ah hp;clear hp
 have HL:=ah hl;clear hl
 have hb:aj au w (w.alloc (.cells #[.slice (A 0).1 (A 0).2.1 (A 0).2.2, .slice (A 1).1 (A 1).2.1 (A 1).2.2, .slice (A 2).1 (A 2).2.1 (A 2).2.2, .slice (A 3).1 (A 3).2.1 (A 3).2.2] 268)):=aj.alloc _ _ _
 have bW:=ah hb;clear hb
 go_enter Tryz.func229,Tryz.ntmps229
 go_wp2
 go_loopw [3,9] (fun v i ww=>∃(k:Nat) (c:aU),k≤4∧i= .int .i64 k∧OwnAt w ww 144 3 v c.length (bT c)∧g_ (AB p) k c∧c.length≤200000*k) (fun _ i _=>4-(intOf i).toNat)
 case atStart=>exact⟨0,[],by omega,rfl,OwnAt.nil bW.out _ _,g_.zero _,Nat.zero_le _⟩
 case round=>
  obtain⟨wo,rfl⟩:∃wo:World,wo=wr:=⟨_,rfl⟩
  obtain⟨k,c,hk,rfl,ho,hu,hlen⟩:=hrel
  obtain⟨av,cv,rfl⟩:=ho.shape
  have HO:=ah ho;clear ho
  have HU:=ah hu;clear hu
  have HLEN:=ah hlen;clear hlen
  by_cases hlt:k<4
  ·have hki:(k:Int)<4:=by omega
   have hkd:decide ((k:Int)<4)=true:=by simpa using hki
   have hpk:=HP.out k hlt
   have hlk:=HL.out k hlt
   have hst:=HU.out.step (o:=p k) (by omega) (by omega) (by unfold AB;rw[Int.toNat_natCast])
   have hix:∀W,(Instr.index 268 (.agg #[.slice (A 0).1 (A 0).2.1 (A 0).2.2, .slice (A 1).1 (A 1).2.1 (A 1).2.2, .slice (A 2).1 (A 2).2.1 (A 2).2.2, .slice (A 3).1 (A 3).2.1 (A 3).2.2]) (.int .i64 (k:Int))).run Tryz.prog W= .ok (.slice (A k).1 (A k).2.1 (A k).2.2) W:=by
    rcases(by omega:k=0∨k=1∨k=2∨k=3)with rfl|rfl|rfl|rfl<;>exact fun _=>by kernel_rfl
   obtain⟨a1,c1,he⟩:=hpk.sl
   rw[he]at hpk hix
   clear he
   generalize p k=l at*
   have FC:=ah hpk;clear hpk
   have HST:=ah hst;clear hst
   have mD:=ah hlk;clear hlk
   generalize hn:l.length=n at*
   have HN:=ah hn;clear hn
   go_wp2
   clear hix
   go_loopw [3,15] (fun v i ww=>∃(j m:Nat),j≤n∧m=c.length+j∧i= .int .i64 j∧OwnAt w ww 144 3 v m (bT (c++cO k (l.take j)))) (fun _ i _=>n-(intOf i).toNat)
   case atStart=>exact⟨0,_,Nat.zero_le _,rfl,rfl,by simpa[cO]using HO.out⟩
   case round=>
    obtain⟨j,m,hj,hm,rfl,hoj⟩:=hrel
    obtain⟨a3,c3,rfl⟩:=hoj.shape
    have uK:=ah hoj;clear hoj
    have HM:=ah hm;clear hm
    by_cases hjl:j<n
    ·rcases Rd.shape FC.out with⟨ad,he,h0⟩|⟨b,off,cc,he,hmax⟩
     ·exfalso;have:=HN.out;omega
     ·injection he with e1 e2 e3
      subst e1 e3
      clear e2
      rw[HN.out]at hmax
      have hjk:j<l.length:=by rw[HN.out];exact hjl
      obtain⟨p0,p1⟩:=kN FC.out HN.out.symm j hjk
      have q0:=uK.out.aH.cell' p0 id
      have q1:=uK.out.aH.cell' p1 id
      have hE:=ET (l:=l) (k:=j) k hjk
      generalize l.getD j (0,0)=r at*
      clear p0 p1
      have HE:=ah hE;clear hE
      have hml:m≤1000000:=by have:=HM.out;have:=HLEN.out;have:=mD.out;omega
      have FD:=ah hml;clear hml
      go_wp2_with(at_builtin;refine jg w _ [.int .i64 k, .int .i64 r.1, .int .i64 r.2] rfl (.tmp 19) (.tmp 26) 32 rfl 144 i0 _ 3 24 Tryz.underlying32 hi hz0 hz1 hz2 (by decide) (by decide) _ _ _ (uK.out.keep (aj.alloc _ _ _)) 1 1 rfl (by simp[Act.eval]) rfl (by simp[Value.oneCell']) (by have:=FD.out;simp only[maxLen];omega) (by have:=FD.out;omega) ?_;intro yc iP w2 bC;have OW:=ah bC;clear bC)
      go_roundw
      case rel=>
       refine⟨j+1,m+1,by omega,by rw[HM.out];omega,by go_num,?_⟩
       rw[HE.out,←List.append_assoc,rV]
       exact OW.out
      case measure=>simp[intOf];omega
    ·obtain rfl:n=j:=by omega
     rw[List.take_of_length_le (by rw[HN.out];exact Nat.le_refl _)]at uK
     go_wp2
     go_roundw
     case rel=>
      refine⟨k+1,c++cO k l,by omega,by go_num,?_,HST.out,?_⟩
      ·have:(c++cO k l).length=m:=by rw[List.length_append,pI,HN.out,HM.out]
       rw[this];exact uK.out
      ·rw[List.length_append,pI,HN.out]
       have:=HLEN.out;have:=mD.out;omega
     case measure=>simp[intOf];omega
  ·obtain rfl:k=4:=by omega
   go_wp2
   go_ret
   exact⟨_,c,rfl,HO.out,HU.out.Lj,HLEN.out⟩
open Go.RowKit
theorem Ll {a b:aQ} {k:Nat} (h:k<a.length):kL (a.drop k) b=iH (a.getD k (0,0)).1 (a.getD k (0,0)).2 b++kL (a.drop (k+1)) b:=by
 rw[xX h];rfl
theorem Lm {b:aQ} {k:Nat} (h:k<b.length) (lo hi:Int):iH lo hi (b.drop k)=if(b.getD k (0,0)).2<lo∨hi<(b.getD k (0,0)).1 then iH lo hi (b.drop (k+1))else(if lo<(b.getD k (0,0)).1 then [(lo,(b.getD k (0,0)).1-1)]else [])++iH ((b.getD k (0,0)).2+1) hi (b.drop (k+1)):=by
 rw[xX h];rfl
def Lp (w0:World) (gr:Nat) (b:aQ) (hi:Int) (m:Nat) (tot:aQ) (len:Nat) (v i:Value) (ww:World):Prop:=
 ∃(j:Nat) (out:aQ) (lo:Int),j≤m∧i= .int .i64 j∧dM (fun k=>k=gr) w0 ww 288 2 v out.length (bP out)∧ww.heap[gr]?=some (.cells #[.int .i64 lo, .int .i64 hi] 288 (0,0))∧
  tot=out++iH lo hi (b.drop j)∧out.length≤len+j∧1≤lo∧lo≤1099511627777
theorem Lr (w:World) (va vb:Value) (a b:aQ) (ha:f_ w va a) (hb:f_ w vb b) (ra:bG a) (rb:bG b) (la:a.length≤20000) (lb:b.length≤20000):
 Calls Tryz.prog 238 #[va,vb] w fun e w'=>∃v',e= .returned v'∧OwnAt w w' 288 2 v' (kL a b).length (bP (kL a b)):=by
 obtain⟨i0,hi,hz0,hz1,hz2⟩:=info_parts rZ
 obtain⟨aA,cA,rfl⟩:=ha.sl
 obtain⟨aB,cB,rfl⟩:=hb.sl
 have oz:=ah (both_any w _ _ a b ha ra.fits hb rb.fits)
 have hboth:tf (bG a∧bG b)=true:=bM ⟨ra,rb⟩
 have HA:=ah ha;clear ha
 have HB:=ah hb;clear hb
 have RA:=ah (fun r (h:r∈a)=>(⟨(iI ra.1 r h).1,(iI ra.1 r h).2,ra.2 r h⟩:1≤r.1∧r.1≤r.2∧r.2≤1099511627776));clear ra
 have RB:=ah (fun r (h:r∈b)=>(⟨(iI rb.1 r h).1,(iI rb.1 r h).2,rb.2 r h⟩:1≤r.1∧r.1≤r.2∧r.2≤1099511627776));clear rb
 generalize hn:a.length=n at*
 generalize hm:b.length=m at*
 have HN:=ah hn;clear hn
 have HM:=ah hm;clear hm
 have LA:=ah la;clear la
 have LB:=ah lb;clear lb
 rw[hboth]at oz
 clear hboth
 go_enter Tryz.func238,Tryz.ntmps238
 go_wp2_with(go_at_call 230;refine oz.out.mono ?_;rintro e w1 ⟨rfl,hw1⟩;have HW1:=ah hw1;clear hw1)
 go_loopw [5,16] (fun v i ww=>∃(k:Nat) (out:aQ),k≤n∧out.length≤k*(m+1)∧i= .int .i64 k∧OwnAt w ww 288 2 v out.length (bP out)∧kL a b=out++kL (a.drop k) b) (fun _ i _=>n-(intOf i).toNat)
 case atStart=>exact⟨0,[],Nat.zero_le _,by simp,rfl,OwnAt.nil HW1.out _ _,rfl⟩
 case round=>
  obtain⟨wo,rfl⟩:∃wo:World,wo=wr:=⟨_,rfl⟩
  obtain⟨k,out,hk,hok,rfl,ho,he⟩:=hrel
  have HO:=ah ho;clear ho
  have HE:=ah he;clear he
  obtain⟨av,cv,hv⟩:=HO.out.shape
  subst hv
  by_cases hlt:k<n
  ·rcases Rd.shape HA.out with⟨ad,he,h0⟩|⟨bb,off,cc,he,hmax⟩
   ·exfalso;have:=HN.out;omega
   ·injection he with e1 e2 e3
    subst e1 e3
    clear e2
    rw[HN.out]at hmax
    have hlk:k<a.length:=by rw[HN.out];exact hlt
    obtain⟨p0,p1⟩:=kN HA.out HN.out.symm k hlk
    have q0:=HO.out.aH.cell' p0 id
    have q1:=HO.out.aH.cell' p1 id
    clear p0 p1
    have hbr:=RA.out _ (getD_mem (0,0) hlk)
    have HD:=ah (Ll (b:=b) hlk)
    have hkm:k*(m+1)≤20000*20001:=Nat.mul_le_mul (Nat.le_trans hk LA.out) (Nat.succ_le_succ LB.out)
    generalize a.getD k (0,0)=r at*
    generalize hkk:k*(m+1)=km at*
    have HKK:=ah hkk;clear hkk
    have dw:=ah hok;clear hok
    have yg:=ah hkm;clear hkm
    obtain⟨r1,r2,r3⟩:=hbr
    go_wp2
    go_loopw [5,22] (fun v i ww=>Lp w wo.heap.size b r.2 m (out++iH r.1 r.2 b) out.length v i ww) (fun _ i _=>m-(intOf i).toNat)
    case atStart=>exact⟨0,out,r.1,Nat.zero_le _,rfl,HO.out.away (aj.alloc _ _ _) (fun k hk=>by rw[hk];exact Nat.le_refl _),heap_alloc_new wo _,rfl,Nat.le_refl _,r1,by omega⟩
    case round=>
     obtain⟨j,su,lo,hj,rfl,ho2,hbk,he2,hl2,l1,l2⟩:=hrel
     obtain⟨RZ,Ls,rfl⟩:=ho2.at_.shape
     have dD:=ah ho2;clear ho2
     have HE2:=ah he2;clear he2
     have HL2:=ah hl2;clear hl2
     have oC:=ah hbk;clear hbk
     have z0:=aF oC.out 0 rfl
     have z1:=aF oC.out 1 rfl
     have zf:=aY oC.out 0
     have hgl:wo.heap.size<wr.heap.size:=World.block_lt_of_cell? _ _ z0
     by_cases hjl:j<m
     ·rcases Rd.shape HB.out with⟨ad,he,h0⟩|⟨b2,off2,iP,he,uM⟩
      ·exfalso;have:=HM.out;omega
      ·injection he with e1 e2 e3
       subst e1 e3
       clear e2
       rw[HM.out]at uM
       have hjb:j<b.length:=by rw[HM.out];exact hjl
       obtain⟨p0,p1⟩:=kN HB.out HM.out.symm j hjb
       have x0:=dD.out.at_.aH.cell' p0 id
       have x1:=dD.out.at_.aH.cell' p1 id
       clear p0 p1
       have hbx:=RB.out _ (getD_mem (0,0) hjb)
       have sD:=ah (fun lo hi=>Lm hjb lo hi)
       generalize b.getD j (0,0)=x at*
       obtain⟨y1,y2,y3⟩:=hbx
       have hgw:w.heap.size≤wo.heap.size:=HO.out.aH.size
       by_cases c1:x.2<lo
       ·have HX:=ah (sD.out lo r.2)
        rw[if_pos (.inl c1)]at HX
        go_wp2
        go_roundw
        case rel=>exact⟨j+1,su,lo,by omega,by go_num,dD.out.keep (aj.alloc _ _ _),(aj.alloc au _ _).blk oC.out id,by rw[HE2.out,HX.out],Nat.le_trans HL2.out (by omega),l1,l2⟩
        case measure=>simp[intOf];omega
       ·by_cases c2:r.2<x.1
        ·have HX:=ah (sD.out lo r.2)
         rw[if_pos (.inr c2)]at HX
         go_wp2
         go_roundw
         case rel=>exact⟨j+1,su,lo,by omega,by go_num,dD.out.keep (aj.alloc _ _ _),(aj.alloc au _ _).blk oC.out id,by rw[HE2.out,HX.out],Nat.le_trans HL2.out (by omega),l1,l2⟩
         case measure=>simp[intOf];omega
        ·have HX:=ah (sD.out lo r.2)
         rw[if_neg (by omega)]at HX
         by_cases c3:lo<x.1
         ·rw[if_pos c3]at HX
          have hx0:=aF (heap_alloc_new wr (.cells #[.int .i64 x.1, .int .i64 x.2] 288)) 0 rfl
          have hx1:=aF (heap_alloc_new wr (.cells #[.int .i64 x.1, .int .i64 x.2] 288)) 1 rfl
          have Lu:=ah hx1;clear hx0 hx1
          go_wp2_with(at_builtin;refine Fb (fun k=>k=wo.heap.size∨k=wr.heap.size) w _ [.int .i64 lo, .int .i64 (x.1-1)] rfl (.tmp 43) (.tmp 50) 266 rfl 288 i0 _ 2 16 Tryz.underlying266 hi hz0 hz1 hz2 (by decide) (by decide) _ _ _ (dD.out.box _) (fun k hk=>by simp;omega) 1 1 rfl (by simp[Act.eval]) rfl (by simp[Value.oneCell']) (by have:=HL2.out;have:=dw.out;have:=yg.out;have:=LB.out;simp only[maxLen];omega) (by have:=HL2.out;have:=dw.out;have:=yg.out;have:=LB.out;omega) ?_;intro ad yh w2 bC fF;have OW:=ah bC;clear bC;have b2:=fF.blk (.inl rfl) ((aj.alloc au _ _).blk oC.out id);have B2:=ah b2;clear b2;have k0:=aF B2.out 0 rfl;have kf:=aY B2.out 0;have kx:=fF.cell (p:=⟨wr.heap.size,1,none⟩) (.inr rfl) Lu.out)
          go_roundw
          case rel=>
           refine⟨j+1,su++ [(lo,x.1-1)],x.2+1,by omega,by go_num,?_,dY B2.out 0 _,by rw[HE2.out,HX.out];simp,by rw[List.length_append];have:=HL2.out;simp;omega,by omega,by omega⟩
           rw[List.length_append,kD]
           exact(OW.out.mono (fun k hk=> .inl hk)).set rfl hgw _
          case measure=>simp[intOf];omega
         ·rw[if_neg c3,List.nil_append]at HX
          go_wp2
          go_roundw
          case rel=>exact⟨j+1,su,x.2+1,by omega,by go_num,(dD.out.set (p:=⟨wo.heap.size,0,none⟩) rfl hgw _).keep (aj.alloc _ _ _),(aj.alloc au _ _).blk (dY oC.out 0 _) id,by rw[HE2.out,HX.out],Nat.le_trans HL2.out (by omega),by omega,by omega⟩
          case measure=>simp[intOf];omega
     ·obtain rfl:m=j:=by omega
      have he3:=HE2.out
      rw[List.drop_of_length_le (by rw[HM.out];exact Nat.le_refl _)]at he3
      rw[show iH lo r.2 []=if lo≤r.2 then [(lo,r.2)]else []from rfl]at he3
      by_cases c1:lo≤r.2
      ·rw[if_pos c1]at he3
       have AL:=ah he3;clear he3
       go_wp2_with(at_builtin;refine jg w _ [.int .i64 lo, .int .i64 r.2] rfl (.tmp 62) (.tmp 64) 266 rfl 288 i0 _ 2 16 Tryz.underlying266 hi hz0 hz1 hz2 (by decide) (by decide) _ _ _ dD.out.at_ 1 1 rfl (by simp[Act.eval]) rfl (by simp[Value.oneCell']) (by have:=HL2.out;have:=dw.out;have:=yg.out;have:=LB.out;simp only[maxLen];omega) (by have:=HL2.out;have:=dw.out;have:=yg.out;have:=LB.out;omega) ?_;intro ad yh w2 bC;have OW:=ah bC;clear bC)
       go_roundw
       case rel=>
        refine⟨k+1,su++ [(lo,r.2)],by omega,?_,by go_num,by rw[List.length_append,kD];exact OW.out,by rw[HE.out,HD.out,←List.append_assoc,AL.out]⟩
        have h1:=HL2.out
        have h2:=dw.out
        have h3:(k+1)*(m+1)=km+(m+1):=by rw[Nat.succ_mul,HKK.out]
        rw[List.length_append]
        simp only[List.length_singleton]
        omega
       case measure=>simp[intOf];omega
      ·rw[if_neg c1,List.append_nil]at he3
       have AL:=ah he3;clear he3
       go_wp2
       go_roundw
       case rel=>
        refine⟨k+1,su,by omega,?_,by go_num,dD.out.at_,by rw[HE.out,HD.out,←List.append_assoc,AL.out]⟩
        have h1:=HL2.out
        have h2:=dw.out
        have h3:(k+1)*(m+1)=km+(m+1):=by rw[Nat.succ_mul,HKK.out]
        omega
       case measure=>simp[intOf];omega
  ·obtain rfl:n=k:=by omega
   go_wp2
   go_ret
   have:=HE.out
   rw[List.drop_of_length_le (by rw[HN.out];exact Nat.le_refl _)]at this
   have:out=kL a b:=by rw[this];simp[kL]
   subst this
   exact⟨_,rfl,HO.out⟩
end Go.Proofs.YtabkpccdnkjoiaaGreat
namespace Go.Proofs.YtabkpccdnkjoiaaGreat
open Go.RowKit Go.Sort
def encR (r:Int×Int):List Value:=[.int .i64 r.1, .int .i64 r.2]
theorem LC (d:Array (Int×Int)) {k:Nat} (h:k<d.size):d.toList.getD k (0,0)=d[k]! :=by
 rw[getD_at (0,0) (by simpa using h),getElem!_pos d k h];simp
theorem flat_get (d:Array (Int×Int)) {t:Nat} (ht:t<d.size*2):(bP d.toList)[t]?=some ((flatK encR 2 d)[t]!):=by
 rw[get_flatK _ _ _ _ ht]
 have hk:t/2<d.size:=by omega
 obtain⟨h1,h2⟩:=xJ d.toList (t/2) (by simpa using hk)
 rw[LC d hk]at h1 h2
 rcases Nat.mod_two_eq_zero_or_one t with h|h
 ·rw[h]
  have e:t/2*2=t:=by omega
  rw[e]at h1
  rw[h1];rfl
 ·rw[h]
  have e:t/2*2+1=t:=by omega
  rw[e]at h2
  rw[h2];rfl
theorem OwnAt.LD {w0 w:World} {e:TypeId} {n c g:Nat} {l:aQ} (h:OwnAt w0 w e 2 (.slice (some ⟨g,0,none⟩) n c) n (bP l)) (hn:0<n) (hl:l.length=n):HoldsK encR 2 w g 0 l.toArray:=by
 obtain⟨g',c',he,_,_,_,h1,h2,_⟩:=h.row hn
 injection he with e1 e2 e3
 injection e1 with e1
 injection e1 with e4 e5
 subst e4
 intro j hj
 rw[size_flatK]at hj
 have hf:=flat_get l.toArray hj
 rw[Nat.zero_add]
 exact⟨h1 j _ hf,h2 j⟩
theorem LG (F cur:Array Value) (h:F.size≤cur.size):(putCells id 0 F cur).toList.take F.size=F.toList:=by
 apply List.ext_getElem?
 intro k
 rw[List.getElem?_take]
 by_cases hk:k<F.size
 ·rw[if_pos hk]
  have hc:k<cur.size:=by omega
  simp[putCells,hc,hk]
 ·rw[if_neg hk]
  simp[Nat.le_of_not_lt hk]
theorem LH (d:Array (Int×Int)):(flatK encR 2 d).toList=bP d.toList:=by
 apply List.ext_getElem?
 intro t
 by_cases ht:t<d.size*2
 ·rw[flat_get d ht]
  simp[ht]
 ·rw[List.getElem?_eq_none (by simp;omega),List.getElem?_eq_none (by rw[nC];simp;omega)]
theorem OwnAt.sorted {w0 w:World} {e:TypeId} {n c g:Nat} {l:aQ} (h:OwnAt w0 w e 2 (.slice (some ⟨g,0,none⟩) n c) n (bP l)) (d':Array (Int×Int)) (hd:d'.size=n) (hn:0<n) (m:Nat) (os:Array Obj):
 OwnAt w0 (sortWorldK encR 2 w g 0 m d' os) e 2 (.slice (some ⟨g,0,none⟩) n c) n (bP d'.toList):=by
 rcases h.own.2 with⟨_,h0⟩|⟨g',cap,cur,he,hb,hg,hnc,hcm,hcs,htake⟩
 ·omega
 ·injection he with e1 e2 e3
  injection e1 with e1
  injection e1 with e4 e5
  subst e4 e3
  have hlt:g<w.heap.size:=lt_of_block hg
  have hnew:w0.heap.size≤g:=h.new g rfl
  have hF:(flatK encR 2 d').size=n*2:=by rw[size_flatK,hd]
  have hblk:(sortWorldK encR 2 w g 0 m d' os).heap[g]?=some (.cells (putCells id 0 (flatK encR 2 d') cur) e (0,0)):=by
   unfold sortWorldK putRowK
   rw[heap_grow_old _ _ (by unfold putRow mapBlock;simpa[Sort.ahead]using hlt)]
   show((Sort.ahead w m).heap.modify g (onCells _))[g]?=_
   rw[Array.getElem?_modify,if_pos rfl]
   show Option.map _ (w.heap[g]?)=_
   rw[hg]
   rfl
  have hcur:(flatK encR 2 d').size≤cur.size:=by rw[hF,hcs];exact Nat.mul_le_mul_right _ hnc
  refine⟨⟨by rw[nC];simp[hd], .inr ⟨g,c,_,rfl,hb,hblk,hnc,hcm,by simp[putCells,hcs],?_⟩⟩,h.new,?_⟩
  ·rw[←hF,LG _ _ hcur,LH]
  ·refine h.aH.trans (T:=fun k=>k=g) ⟨rfl,rfl,rfl,?_,fun k hk hn=>?_⟩ (fun i hi he=>by have he:i=g:=he;omega)
   ·unfold sortWorldK putRowK
    rw[size_grow]
    show w.heap.size≤(w.heap.modify g _).size+_
    rw[Array.size_modify];omega
   ·unfold sortWorldK putRowK
    rw[heap_grow_old _ _ (by unfold putRow mapBlock;simpa[Sort.ahead]using hk)]
    show(w.heap.modify g (onCells _))[k]?=_
    rw[Array.getElem?_modify,if_neg (fun e=>hn e.symm)]
theorem LJ {d d':Array (Int×Int)} (h:PermIn 0 d.size d d'):d'.toList.Perm d.toList:=by
 have h1:=h.2.2
 have hs:=h.1
 have e1:(d'.extract 0 d.size).toList=d'.toList:=by rw[←hs];simp
 have e2:(d.extract 0 d.size).toList=d.toList:=by simp
 rw[e1,e2]at h1
 exact h1
theorem kY.FH:∀ {l:aQ} {lo:Int},l.Pairwise (fun a b=>a.1≤b.1)→(∀r∈l,lo≤r.1∧r.1≤r.2)→kY lo l
 |[],_,_,_=>trivial
 |r::l,lo,hp,h=>⟨(h r List.mem_cons_self).1,(h r List.mem_cons_self).2,kY.FH (List.pairwise_cons.1 hp).2 fun x hx=>⟨(List.pairwise_cons.1 hp).1 x hx,(h x (List.mem_cons_of_mem _ hx)).2⟩⟩
def nH (x y:Int×Int):Int:=iV x.1 y.1
theorem yj (x y:Int×Int):ltOf nH x y=decide (x.1<y.1):=by
 unfold ltOf nH iV
 by_cases h1:x.1<y.1
 ·simp[h1]
 ·by_cases h2:y.1<x.1<;>simp[h1,h2]
theorem LK:SWO (ltOf nH) where
 irrefl x:=by rw[yj];simp
 trans x y z h1 h2:=by rw[yj]at*;simp at*;omega
 ntrans x y z h1 h2:=by rw[yj]at*;simp at*;omega
theorem LM {d:Array (Int×Int)} (h:SortedIn (ltOf nH) 0 d.size d):d.toList.Pairwise (fun a b=>a.1≤b.1):=by
 rw[List.pairwise_iff_getElem]
 intro i j hi hj hij
 have hi':i<d.size:=by simpa using hi
 have hj':j<d.size:=by simpa using hj
 have:=h i j (Nat.zero_le _) hij hj'
 rw[yj,getElem!_pos d i hi',getElem!_pos d j hj']at this
 simp at this⊢
 omega
end Go.Proofs.YtabkpccdnkjoiaaGreat
