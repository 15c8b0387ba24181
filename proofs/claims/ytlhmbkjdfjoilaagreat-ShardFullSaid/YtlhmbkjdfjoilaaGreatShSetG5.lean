/- Words for the law ShSet: CApart, CWhole, SMinus, SortK, SortLay, SUnion. -/
import Derived.Test.YtlhmbkjdfjoilaaGreatShSetG0
import Derived.Test.YtlhmbkjdfjoilaaGreatShSetG3
import Derived.Test.YtlhmbkjdfjoilaaGreatShSetG4
import Derived.Deep.Slices
import Derived.Shelf.SlSortCmp.WholeK
import Derived.Ground.SlsfProg
import Derived.Test.YtlhmbkjdfjoilaaGreatProg
import Derived.Shelf.SlSortCmp.NoneTotal
import Derived.Lib.AppendZerosOnto
set_option linter.unusedSimpArgs false
set_option linter.unusedVariables false
set_option maxHeartbeats 32000000
set_option maxRecDepth 1000000
namespace Go.Proofs.YtlhmbkjdfjoilaaGreat
open Go.RowKit
def Ho (c:aV) (k la:Nat):Prop:=(k=0∧la=0)∨(0<k∧(c.getD (k-1) (0,0,0)).1=la)
theorem OD {c:aV} {k la:Nat} (h:eH 0 (c.take k)) (hl:Ho c k la) (hk:k<c.length):
 eH 0 (c.take (k+1))↔(la:Int)≤(c.getD k (0,0,0)).1∧(c.getD k (0,0,0)).1<4:=by
 rw[BU h hk]
 rcases hl with⟨rfl,rfl⟩|⟨h0,h1⟩
 ·simp
 ·have hge:0≤(c.getD (k-1) (0,0,0)).1:=by rw[h1];omega
  rw[h1]at hge⊢
  constructor
  ·rintro⟨_,h3,h4⟩;exact⟨h4 h0,h3⟩
  ·rintro⟨h3,h4⟩;exact⟨by omega,h4,fun _=>h3⟩
theorem Hq {c:aV} {k:Nat} (h:¬eH 0 (c.take k)):¬bY c:=fun hr=>h (GV hr.1 k)
structure PartsAt (w0 w:World) (vs:Nat→Value) (p:Nat→aS):Prop where
 own:∀d,d<4→OwnAt w0 w 206 2 (vs d) (p d).length (bZ (p d))
def OE (w:World) (c:aV) (e:Ending) (w':World):Prop:=
 aj au w w'∧(bY c→∃A:Nat→Option Addr×Nat×Nat,e= .returned (.tuple #[.agg #[.slice (A 0).1 (A 0).2.1 (A 0).2.2, .slice (A 1).1 (A 1).2.1 (A 1).2.2, .slice (A 2).1 (A 2).2.1 (A 2).2.2, .slice (A 3).1 (A 3).2.1 (A 3).2.2], .bool true])∧PartsAt w w' (fun d=> .slice (A d).1 (A d).2.1 (A d).2.2) (fun d=>aZ c d))∧(¬bY c→e= .returned (.tuple #[.agg #[.slice none 0 0, .slice none 0 0, .slice none 0 0, .slice none 0 0], .bool false]))
theorem zi (w:World) (v:Value) (c:aV) (hv:fB w v c) (hf:g_ c) (hl:c.length≤100000):
 Calls Tryz.prog 129 #[v] w (OE w c):=by
 obtain⟨i0,hi,hz0,hz1,hz2⟩:=info_parts uN
 obtain⟨aA,cA,rfl⟩:=hv.sl
 have HH:=ah hv;clear hv
 have HF:=ah hf;clear hf
 generalize hn:c.length=n at*
 have HN:=ah hn;clear hn
 have nU:=ah hl;clear hl
 have HST:=ah (fV.start (M:=fun k=>k=w.heap.size) 177 206 2 (aj.alloc au w (.cells #[.slice none 0 0, .slice none 0 0, .slice none 0 0, .slice none 0 0] 177)) (fun k hk=>by rw[hk];simp))
 go_enter Tryz.func129,Tryz.ntmps129
 go_wp2
 go_loopw [5,12] (fun la i ww=>∃(k l:Nat) (vs:Nat→Value),k≤n∧i= .int .i64 k∧la= .int .i64 l∧l<4∧Ho c k l∧eH 0 (c.take k)∧
  fV (fun k=>k=w.heap.size) 177 206 2 w ww (w.heap.size+1) vs (fun d=>(aZ (c.take k) d).length) (fun d=>bZ (aZ (c.take k) d))∧ww.heap[w.heap.size]?=some (.cells #[.slice none 0 0, .slice none 0 0, .slice none 0 0, .slice none 0 0] 177 (0,0))) (fun _ i _=>n-(intOf i).toNat)
 case atStart=>exact⟨0,0,fun _=> .slice none 0 0,Nat.zero_le _,rfl,rfl,by omega, .inl ⟨rfl,rfl⟩,trivial,by have:=HST.out;simp only[World.size_alloc]at this;exact this,by rw[Below.heap_alloc _ _ _ (by simp)];exact heap_alloc_new w _⟩
 case round=>
  obtain⟨k,l,vs,hk,rfl,rfl,hl4,hla,hdc,h4,hres⟩:=hrel
  have H4:=ah h4;clear h4
  have nG:=ah hres;clear hres
  have fO:=ah hdc;clear hdc
  have B_:=ah hla;clear hla
  have z0:wr.cell? ⟨w.heap.size,0,none⟩=some (.slice none 0 0):=aI nG.out 0 rfl
  have z1:wr.cell? ⟨w.heap.size,1,none⟩=some (.slice none 0 0):=aI nG.out 1 rfl
  have z2:wr.cell? ⟨w.heap.size,2,none⟩=some (.slice none 0 0):=aI nG.out 2 rfl
  have z3:wr.cell? ⟨w.heap.size,3,none⟩=some (.slice none 0 0):=aI nG.out 3 rfl
  have f0:=bn nG.out 0
  have f1:=bn nG.out 1
  have f2:=bn nG.out 2
  have f3:=bn nG.out 3
  have hgr:w.heap.size<wr.heap.size:=lt_of_block nG.out
  have HR4:=ah (BX nG.out H4.out.aJ (Nat.le_refl _) (.slice none 0 0) (.slice none 0 0) (.slice none 0 0) (.slice none 0 0))
  by_cases hlt:k<n
  ·rcases Rd.shape HH.out with⟨ad,he,h0⟩|⟨b,off,cc,he,hmax⟩
   ·exfalso;have:=HN.out;omega
   ·injection he with e1 e2 e3
    subst e1 e3
    clear e2
    rw[HN.out]at hmax
    have hlk:k<c.length:=by rw[HN.out];exact hlt
    obtain⟨p0,p1,p2⟩:=qR HH.out HN.out.symm k hlk
    have q0:=H4.out.aJ.cell' p0 id
    have q1:=H4.out.aJ.cell' p1 id
    have q2:=H4.out.aJ.cell' p2 id
    clear p0 p1 p2
    have hbf:=HF.out _ (getD_mem (0,0,0) hlk)
    have HS:=ah (OD fO.out B_.out hlk)
    have nV:=ah (fun d=>GK (c:=c) (k:=k) d hlk)
    obtain⟨s,hgd⟩:∃s,s=c.getD k (0,0,0):=⟨_,rfl⟩
    rw[←hgd]at HS nV q0 q1 q2 hbf
    have qj:=ah hgd.symm;clear hgd
    by_cases c1:s.1<(l:Int)
    ·go_wp2
     have hb4:=HR4.out.1
     have y0:=(aj.alloc au _ (.cells #[.int .i64 s.1, .int .i64 s.2.1, .int .i64 s.2.2] 92)).cell' (aI hb4 0 rfl) id
     have y1:=(aj.alloc au _ (.cells #[.int .i64 s.1, .int .i64 s.2.1, .int .i64 s.2.2] 92)).cell' (aI hb4 1 rfl) id
     have y2:=(aj.alloc au _ (.cells #[.int .i64 s.1, .int .i64 s.2.1, .int .i64 s.2.2] 92)).cell' (aI hb4 2 rfl) id
     have y3:=(aj.alloc au _ (.cells #[.int .i64 s.1, .int .i64 s.2.1, .int .i64 s.2.2] 92)).cell' (aI hb4 3 rfl) id
     refine bodyPost_ret (v:= .tuple #[.agg #[.slice none 0 0, .slice none 0 0, .slice none 0 0, .slice none 0 0], .bool false]) (by simp[results,Tryz.results129,go_sem,y0,y1,y2,y3]) rfl ⟨HR4.out.2.alloc1,fun hr=>absurd hr (Hq (k:=k+1) fun h=>by have:=(HS.out.1 h).1;omega),fun _=>rfl⟩
    ·by_cases c2:4≤s.1
     ·go_wp2
      have hb4:=HR4.out.1
      have y0:=(aj.alloc au _ (.cells #[.int .i64 s.1, .int .i64 s.2.1, .int .i64 s.2.2] 92)).cell' (aI hb4 0 rfl) id
      have y1:=(aj.alloc au _ (.cells #[.int .i64 s.1, .int .i64 s.2.1, .int .i64 s.2.2] 92)).cell' (aI hb4 1 rfl) id
      have y2:=(aj.alloc au _ (.cells #[.int .i64 s.1, .int .i64 s.2.1, .int .i64 s.2.2] 92)).cell' (aI hb4 2 rfl) id
      have y3:=(aj.alloc au _ (.cells #[.int .i64 s.1, .int .i64 s.2.1, .int .i64 s.2.2] 92)).cell' (aI hb4 3 rfl) id
      refine bodyPost_ret (v:= .tuple #[.agg #[.slice none 0 0, .slice none 0 0, .slice none 0 0, .slice none 0 0], .bool false]) (by simp[results,Tryz.results129,go_sem,y0,y1,y2,y3]) rfl ⟨HR4.out.2.alloc1,fun hr=>absurd hr (Hq (k:=k+1) fun h=>by have:=(HS.out.1 h).2;omega),fun _=>rfl⟩
     ·obtain⟨dn,hdn⟩:∃dn:Nat,s.1=dn:=⟨s.1.toNat,by omega⟩
      have hd4:dn<4:=by omega
      rw[hdn]at c1 c2 q0
      have iM:=ah hdn;clear hdn
      have hcd:=H4.out.cell hd4
      have hc4:(dn:Int)<4:=by omega
      clear z0 z1 z2 z3 f0 f1 f2 f3
      have hsp:(wr.alloc (.cells #[.int .i64 s.1, .int .i64 s.2.1, .int .i64 s.2.2] 92)).heap[wr.heap.size]?=some (.cells #[.int .i64 s.1, .int .i64 s.2.1, .int .i64 s.2.2] 92 (0,0)):=heap_alloc_new wr _
      rw[iM.out]at hsp
      have iO:=ah (((H4.out.box (.cells #[.int .i64 dn, .int .i64 s.2.1, .int .i64 s.2.2] 92)).keep (aj.drew _ _)))
      have Cb:=ah ((aj.alloc au wr (.cells #[.int .i64 dn, .int .i64 s.2.1, .int .i64 s.2.2] 92)).qP.blk nG.out id)
      have hsb:wr.heap.size<(wr.alloc (.cells #[.int .i64 dn, .int .i64 s.2.1, .int .i64 s.2.2] 92)).heap.size:=by simp
      have hlen:(aZ (c.take k) dn).length≤k:=Nat.le_trans (uK _ _) (List.length_take_le _ _)
      have HLEN:=ah (Nat.le_trans hlen (Nat.le_trans hk nU.out))
      clear hlen
      go_wp2_with fail
      generalize hW:wr.alloc (.cells #[.int .i64 dn, .int .i64 s.2.1, .int .i64 s.2.2] 92)=W at*
      clear hW hgr q0 q1 q2 hcd
      generalize wr.heap.size=sb at*
      obtain⟨pl,hpl⟩:∃pl,pl=(aZ (c.take k) dn).length:=⟨_,rfl⟩
      have hob:dP (qV (fun k=>k=w.heap.size∨k=sb) (w.heap.size+1) vs dn) w W.drew 206 2 (vs dn) pl (bZ (aZ (c.take k) dn)):=by rw[hpl];exact iO.out.but hd4
      have wJ:=ah hob;clear hob
      rw[←hpl]at HLEN
      have lu:=ah hpl;clear hpl
      refine iY (S:=fun w'=>w'.cell? ⟨sb,0,none⟩=some (.int .i64 dn)∧w'.cell? ⟨sb,1,none⟩=some (.int .i64 s.2.1)∧w'.cell? ⟨sb,2,none⟩=some (.int .i64 s.2.2)∧w'.cell? ⟨w.heap.size+1,dn,none⟩=some (vs dn)) 14 (by kernel_rfl) ⟨aI hsp 0 rfl,aI hsp 1 rfl,aI hsp 2 rfl,iO.out.cell hd4⟩ ?_
      intro hS
      have hsb:sb<W.drew.heap.size:=hsb
      have hsp:W.drew.heap[sb]?=_:=hsp
      generalize W.drew=Y at*
      have oM:=ah hsp;clear hsp
      refine aT 0 28 rfl rfl (v:=?_) (.inl ⟨by rfl,?_⟩) ?_
      rotate_left 1
      ·(intro w hSw;(try dsimp only at hSw);go_simp;(try with_reducible rfl))
      refine aT 1 29 rfl rfl (v:=?_) (.inl ⟨by rfl,?_⟩) ?_
      rotate_left 1
      ·(intro w hSw;(try dsimp only at hSw);go_simp;(try with_reducible rfl))
      try simp only[Act.put,aP,aQ,aO]
      refine aT 2 30 rfl rfl (v:=?_) (.inl ⟨by rfl,?_⟩) ?_
      rotate_left 1
      ·(intro w hSw;(try dsimp only at hSw);go_simp;(try with_reducible rfl))
      refine aT 3 31 rfl rfl (v:=?_) (.inl ⟨by rfl,?_⟩) ?_
      rotate_left 1
      ·(intro w hSw;(try dsimp only at hSw);go_simp;(try with_reducible rfl))
      try simp only[Act.put,aP,aQ,aO]
      refine aT 4 32 rfl rfl (v:=?_) (.inl ⟨by rfl,?_⟩) ?_
      rotate_left 1
      ·(intro w hSw;(try dsimp only at hSw);go_simp;(try with_reducible rfl))
      refine aT 5 33 rfl rfl (v:=?_) (.inl ⟨by rfl,?_⟩) ?_
      rotate_left 1
      ·(intro w hSw;(try dsimp only at hSw);go_simp;(try with_reducible rfl))
      try simp only[Act.put,aP,aQ,aO]
      refine aT 6 34 rfl rfl (v:=?_) (.inl ⟨by rfl,?_⟩) ?_
      rotate_left 1
      ·(intro w hSw;(try dsimp only at hSw);go_simp;(try with_reducible rfl))
      refine aT 7 35 rfl rfl (v:=?_) (.inl ⟨by rfl,?_⟩) ?_
      rotate_left 1
      ·(intro w hSw;(try dsimp only at hSw);go_simp;(try with_reducible rfl))
      try simp only[Act.put,aP,aQ,aO]
      refine aT 8 36 rfl rfl (v:=?_) (.inl ⟨by rfl,?_⟩) ?_
      rotate_left 1
      ·(intro w hSw;(try dsimp only at hSw);go_simp;(try with_reducible rfl))
      refine aT 9 37 rfl rfl (v:=?_) (.inl ⟨by rfl,?_⟩) ?_
      rotate_left 1
      ·(intro w hSw;(try dsimp only at hSw);go_simp;(try with_reducible rfl))
      try simp only[Act.put,aP,aQ,aO]
      refine aT 10 38 rfl rfl (v:=?_) (.inl ⟨by rfl,?_⟩) ?_
      rotate_left 1
      ·(intro w hSw;(try dsimp only at hSw);go_simp;(try with_reducible rfl))
      try simp only[Act.put,aP,aQ,aO]
      refine bP (i:=11) (by kernel_rfl) rfl (fun K hK=>?_)
      go_simp
      refine hK.out _ _ ⟨(aj.alloc au Y _).cell' hS.1 id,(aj.alloc au Y _).cell' hS.2.1 id,(aj.alloc au Y _).cell' hS.2.2.1 id,(aj.alloc au Y _).cell' hS.2.2.2 id⟩ ?_
      clear hK K
      have hS1:(Y.alloc (.cells #[.int .i64 s.2.1, .int .i64 s.2.2] 206)).cell? ⟨sb,0,none⟩=some (.int .i64 dn)∧(Y.alloc (.cells #[.int .i64 s.2.1, .int .i64 s.2.2] 206)).cell? ⟨sb,1,none⟩=some (.int .i64 s.2.1)∧(Y.alloc (.cells #[.int .i64 s.2.1, .int .i64 s.2.2] 206)).cell? ⟨sb,2,none⟩=some (.int .i64 s.2.2)∧(Y.alloc (.cells #[.int .i64 s.2.1, .int .i64 s.2.2] 206)).cell? ⟨w.heap.size+1,dn,none⟩=some (vs dn):=⟨(aj.alloc au Y _).cell' hS.1 id,(aj.alloc au Y _).cell' hS.2.1 id,(aj.alloc au Y _).cell' hS.2.2.1 id,(aj.alloc au Y _).cell' hS.2.2.2 id⟩
      try simp only[Act.put,aP,aQ,aO]
      refine bP (i:=12) (by kernel_rfl) rfl (fun K hK=>?_)
      refine BZ (qV (fun k=>k=w.heap.size∨k=sb) (w.heap.size+1) vs dn) w Y [.int .i64 s.2.1, .int .i64 s.2.2] rfl (.tmp 33) (.tmp 39) 175 rfl 206 i0 _ 2 16 Tryz.underlying175 hi hz0 hz1 hz2 (by decide) (by decide) (vs dn) pl _ wJ.out (iO.out.lt dn) 1 1 (by simp[Act.eval]) (by simp[Act.eval]) rfl (by simp[Value.oneCell']) (by have:=HLEN.out;simp only[maxLen];omega) (by have:=HLEN.out;omega) ?_
      intro ad iU w2 bI fP
      have hS2:w2.cell? ⟨sb,0,none⟩=some (.int .i64 dn)∧w2.cell? ⟨sb,1,none⟩=some (.int .i64 s.2.1)∧w2.cell? ⟨sb,2,none⟩=some (.int .i64 s.2.2)∧w2.cell? ⟨w.heap.size+1,dn,none⟩=some (vs dn):=⟨fP.cell (.inr (.inl (.inr rfl))) hS.1,fP.cell (.inr (.inl (.inr rfl))) hS.2.1,fP.cell (.inr (.inl (.inr rfl))) hS.2.2.1,fP.cell (.inl rfl) hS.2.2.2⟩
      refine hK.out _ _ hS2 ?_
      clear hK K hS1
      have sJ:=ah (((iO.out.step hd4 fP bI).mono (M':=fun k=>k=w.heap.size) fun k hk=> .inl hk).congr (n':=fun d=>(aZ (c.take (k+1)) d).length) (xs':=fun d=>bZ (aZ (c.take (k+1)) d)) (fun d hd=>by
       rw[nV.out]
       by_cases he:d=dn
       ·subst he;rw[upd_same,if_pos iM.out,List.length_append,←lu.out];rfl
       ·rw[kH _ _ he,if_neg (by rw[iM.out];omega),List.append_nil]) (fun d hd=>by
       rw[nV.out]
       by_cases he:d=dn
       ·subst he;rw[upd_same,if_pos iM.out,kS];rfl
       ·rw[kH _ _ he,if_neg (by rw[iM.out];omega),List.append_nil]))
      have HR2:=ah (fP.blk (.inr (.inl (.inl rfl))) Cb.out)
      have hcf:=fP.frozen (p:=⟨w.heap.size+1,dn,none⟩) (.inl rfl) (bn iO.out.blk dn)
      clear bI fP
      try simp only[Act.put,aP,aQ,aO]
      refine aT 13 41 rfl rfl (v:=?_) (.inl ⟨by rfl,?_⟩) ?_
      rotate_left 1
      ·(intro w hSw;(try dsimp only at hSw);go_simp;(try with_reducible rfl))
      try simp only[Act.put,aP,aQ,aO]
      refine iK (by kernel_rfl) (by kernel_rfl) rfl (fun K hK=>?_)
      have hcz:=hS2.2.2.2
      clear hS2 hS
      go_simp
      refine hK.out _ _ ?_
      clear hK K hcz hcf
      go_wp2
      go_roundw
      case rel=>exact⟨k+1,dn,_,by omega,by go_num,rfl,hd4, .inr ⟨by omega,by rw[Nat.add_sub_cancel,qj.out,iM.out]⟩,HS.out.2 ⟨by rw[iM.out];exact c1,by rw[iM.out];omega⟩,sJ.out,(aj.setCell (S:=fun k=>k=w.heap.size+1) w2 (p:=⟨w.heap.size+1,dn,none⟩) (.inl rfl) _).blk HR2.out (fun h=>by have h:w.heap.size=w.heap.size+1:=h;omega)⟩
      case measure=>simp[intOf];omega
  ·obtain rfl:n=k:=by omega
   rw[List.take_of_length_le (by rw[HN.out];exact Nat.le_refl _)]at H4 fO
   obtain⟨wo,rfl⟩:∃wo:World,wo=wr:=⟨_,rfl⟩
   have hsh:∀d,d<4→∃t:Option Addr×Nat×Nat,vs d= .slice t.1 t.2.1 t.2.2:=fun d hd=>by
    obtain⟨a,c,h⟩:=(H4.out.own d hd).at_.shape
    exact⟨(a,_,c),h⟩
   obtain⟨A,hA⟩:=Go.Deep.choose_lt hsh
   clear hsh
   have c0:=hA 0 (by omega)▸H4.out.cell (d:=0) (by omega)
   have c1:=hA 1 (by omega)▸H4.out.cell (d:=1) (by omega)
   have c2:=hA 2 (by omega)▸H4.out.cell (d:=2) (by omega)
   have c3:=hA 3 (by omega)▸H4.out.cell (d:=3) (by omega)
   have qW:=ah hA;clear hA
   go_wp2
   clear z0 z1 z2 z3 f0 f1 f2 f3 c0 c1 c2 c3
   go_loopw [44] (fun i ww=>∃j:Nat,j≤4∧i= .int .i64 j∧(∀d:Nat,d<j→bM (aZ c d))∧aj au wo ww) (fun i _=>4-(intOf i).toNat)
   case atStart=>exact⟨0,by omega,rfl,(fun d hd=>by omega),aj.refl _ _⟩
   case round=>
    obtain⟨j,hj,rfl,hr,hw⟩:=hrel
    have HW:=ah hw;clear hw
    have HR:=ah hr;clear hr
    have i_:=ah (HW.out.blk nG.out id)
    have z0:wr.cell? ⟨w.heap.size,0,none⟩=some (.slice none 0 0):=aI i_.out 0 rfl
    have z1:wr.cell? ⟨w.heap.size,1,none⟩=some (.slice none 0 0):=aI i_.out 1 rfl
    have z2:wr.cell? ⟨w.heap.size,2,none⟩=some (.slice none 0 0):=aI i_.out 2 rfl
    have z3:wr.cell? ⟨w.heap.size,3,none⟩=some (.slice none 0 0):=aI i_.out 3 rfl
    have f0:=bn i_.out 0
    have f1:=bn i_.out 1
    have f2:=bn i_.out 2
    have f3:=bn i_.out 3
    by_cases qX:j<4
    ·have hix:∀W,(Instr.index 177 (.agg #[.slice (A 0).1 (A 0).2.1 (A 0).2.2, .slice (A 1).1 (A 1).2.1 (A 1).2.2, .slice (A 2).1 (A 2).2.1 (A 2).2.2, .slice (A 3).1 (A 3).2.1 (A 3).2.2]) (.int .i64 (j:Int))).run Tryz.prog W= .ok (.slice (A j).1 (A j).2.1 (A j).2.2) W:=by
      rcases(by omega:j=0∨j=1∨j=2∨j=3)with rfl|rfl|rfl|rfl<;>exact fun _=>by kernel_rfl
     have hown:=((H4.out.own j qX).at_.keep HW.out).rd
     rw[qW.out j qX]at hown
     have hcall:=yS wr _ (aZ c j) hown (HF.out.part j)
     by_cases uO:bM (aZ c j)
     ·rw[dH uO]at hcall
      have HC:=ah hcall;clear hcall hown
      have Cc:=ah uO;clear uO
      clear z0 z1 z2 z3 f0 f1 f2 f3
      go_wp2_with(go_at_call 167;refine HC.out.mono ?_;rintro e w1 ⟨rfl,hw1⟩;have HW1:=ah hw1;clear hw1)
      go_roundw
      case rel=>exact⟨j+1,by omega,by go_num,(fun d hd=>by
       by_cases he:d=j
       ·subst he;exact Cc.out
       ·exact HR.out d (by omega)),HW.out.aF HW1.out⟩
      case measure=>simp[intOf];omega
     ·rw[bW uO]at hcall
      have HC:=ah hcall;clear hcall hown
      have Cc:=ah uO;clear uO
      clear z0 z1 z2 z3 f0 f1 f2 f3
      go_wp2_with(go_at_call 167;refine HC.out.mono ?_;rintro e w1 ⟨rfl,hw1⟩;have HW1:=ah hw1;clear hw1;have HB1:=ah (HW1.out.blk i_.out id);have z0:w1.cell? ⟨w.heap.size,0,none⟩=some (.slice none 0 0):=aI HB1.out 0 rfl;have z1:w1.cell? ⟨w.heap.size,1,none⟩=some (.slice none 0 0):=aI HB1.out 1 rfl;have z2:w1.cell? ⟨w.heap.size,2,none⟩=some (.slice none 0 0):=aI HB1.out 2 rfl;have z3:w1.cell? ⟨w.heap.size,3,none⟩=some (.slice none 0 0):=aI HB1.out 3 rfl;have f0:=bn HB1.out 0;have f1:=bn HB1.out 1;have f2:=bn HB1.out 2;have f3:=bn HB1.out 3)
      have hr4:=BX HB1.out ((H4.out.aJ.aF HW.out).aF HW1.out) (Nat.le_refl _) (.slice none 0 0) (.slice none 0 0) (.slice none 0 0) (.slice none 0 0)
      have y0:=aI hr4.1 0 rfl
      have y1:=aI hr4.1 1 rfl
      have y2:=aI hr4.1 2 rfl
      have y3:=aI hr4.1 3 rfl
      exact bodyPost_ret (v:= .tuple #[.agg #[.slice none 0 0, .slice none 0 0, .slice none 0 0, .slice none 0 0], .bool false]) (by simp[results,Tryz.results129,go_sem,y0,y1,y2,y3]) rfl ⟨hr4.2,fun hr=>absurd (hr.2 j (by omega) (by omega)) Cc.out,fun _=>rfl⟩
    ·obtain rfl:j=4:=by omega
     have hk4:=H4.out.keep HW.out
     have c0:=qW.out 0 (by omega)▸hk4.cell (d:=0) (by omega)
     have c1:=qW.out 1 (by omega)▸hk4.cell (d:=1) (by omega)
     have c2:=qW.out 2 (by omega)▸hk4.cell (d:=2) (by omega)
     have c3:=qW.out 3 (by omega)▸hk4.cell (d:=3) (by omega)
     have HK:=ah hk4;clear hk4
     have hr4:=BX i_.out (H4.out.aJ.aF HW.out) (Nat.le_refl _) (.slice (A 0).1 (A 0).2.1 (A 0).2.2) (.slice (A 1).1 (A 1).2.1 (A 1).2.2) (.slice (A 2).1 (A 2).2.1 (A 2).2.2) (.slice (A 3).1 (A 3).2.1 (A 3).2.2)
     have HR4:=ah hr4;clear hr4
     have hrc:bY c:=⟨fO.out,fun d h0 h4=>by
      obtain⟨e,rfl⟩:∃e:Nat,d=e:=⟨d.toNat,by omega⟩
      exact HR.out e (by omega)⟩
     have Ce:=ah hrc;clear hrc
     go_wp2
     have y0:=aI HR4.out.1 0 rfl
     have y1:=aI HR4.out.1 1 rfl
     have y2:=aI HR4.out.1 2 rfl
     have y3:=aI HR4.out.1 3 rfl
     refine bodyPost_ret (v:= .tuple #[.agg #[.slice (A 0).1 (A 0).2.1 (A 0).2.2, .slice (A 1).1 (A 1).2.1 (A 1).2.2, .slice (A 2).1 (A 2).2.1 (A 2).2.2, .slice (A 3).1 (A 3).2.1 (A 3).2.2], .bool true]) (by simp[results,Tryz.results129,go_sem,y0,y1,y2,y3]) rfl ⟨HR4.out.2,fun _=>⟨A,rfl,⟨fun d hd=>?_⟩⟩,fun h=>absurd Ce.out h⟩
     have ho:=HK.out.own d hd
     rw[qW.out d hd]at ho
     have f4:aj (fun k=>k=w.heap.size) wr ((((wr.setCell ⟨w.heap.size,0,none⟩ (.slice (A 0).1 (A 0).2.1 (A 0).2.2)).setCell ⟨w.heap.size,1,none⟩ (.slice (A 1).1 (A 1).2.1 (A 1).2.2)).setCell ⟨w.heap.size,2,none⟩ (.slice (A 2).1 (A 2).2.1 (A 2).2.2)).setCell ⟨w.heap.size,3,none⟩ (.slice (A 3).1 (A 3).2.1 (A 3).2.2)):=
      (((aj.setCell (S:=fun k=>k=w.heap.size) wr (p:=⟨w.heap.size,0,none⟩) (.inl rfl) (.slice (A 0).1 (A 0).2.1 (A 0).2.2)).trans (aj.setCell (S:=fun k=>k=w.heap.size) _ (p:=⟨w.heap.size,1,none⟩) (.inl rfl) (.slice (A 1).1 (A 1).2.1 (A 1).2.2)) fun _ _ h=>h).trans (aj.setCell (S:=fun k=>k=w.heap.size) _ (p:=⟨w.heap.size,2,none⟩) (.inl rfl) (.slice (A 2).1 (A 2).2.1 (A 2).2.2)) fun _ _ h=>h).trans (aj.setCell (S:=fun k=>k=w.heap.size) _ (p:=⟨w.heap.size,3,none⟩) (.inl rfl) (.slice (A 3).1 (A 3).2.1 (A 3).2.2)) fun _ _ h=>h
     exact⟨f4.owns ho.at_.own fun k hk he=>ho.but k hk (.inr he),ho.at_.new,HR4.out.2⟩
open Go.RowKit
abbrev Sl:=Option Addr×Nat×Nat
def Ci (p:Nat→aS) (d:Int) (o:aS):Prop:=o=p d.toNat
theorem jP.OG {p:Nat→aS} {c:aV} (h:jP (Ci p) 4 c):c=jh fun d=>p d.toNat:=by
 rw[←sG (Int.le_refl 0) h.rise]
 unfold jh
 rw[h.parts 0 (by decide) (by decide),h.parts 1 (by decide) (by decide),h.parts 2 (by decide) (by decide),h.parts 3 (by decide) (by decide)]
theorem Hr (w:World) (A:Nat→Sl) (p:Nat→aS) (hp:∀d,d<4→gZ w (.slice (A d).1 (A d).2.1 (A d).2.2) (p d)) (hl:∀d,d<4→(p d).length≤200000):
 Calls Tryz.prog 128 #[.agg #[.slice (A 0).1 (A 0).2.1 (A 0).2.2, .slice (A 1).1 (A 1).2.1 (A 1).2.2, .slice (A 2).1 (A 2).2.1 (A 2).2.2, .slice (A 3).1 (A 3).2.1 (A 3).2.2]] w fun e w'=>
  ∃v' c,e= .returned v'∧OwnAt w w' 92 3 v' c.length (bU c)∧c=(jh fun d=>p d.toNat)∧c.length≤800000:=by
 obtain⟨i0,hi,hz0,hz1,hz2⟩:=info_parts wH
 have HP:=ah hp;clear hp
 have HL:=ah hl;clear hl
 have hb:aj au w (w.alloc (.cells #[.slice (A 0).1 (A 0).2.1 (A 0).2.2, .slice (A 1).1 (A 1).2.1 (A 1).2.2, .slice (A 2).1 (A 2).2.1 (A 2).2.2, .slice (A 3).1 (A 3).2.1 (A 3).2.2] 177)):=aj.alloc _ _ _
 have bG:=ah hb;clear hb
 go_enter Tryz.func128,Tryz.ntmps128
 go_wp2
 go_loopw [3,9] (fun v i ww=>∃(k:Nat) (c:aV),k≤4∧i= .int .i64 k∧OwnAt w ww 92 3 v c.length (bU c)∧jP (Ci p) k c∧c.length≤200000*k) (fun _ i _=>4-(intOf i).toNat)
 case atStart=>exact⟨0,[],by omega,rfl,OwnAt.nil bG.out _ _,jP.zero _,Nat.zero_le _⟩
 case round=>
  obtain⟨wo,rfl⟩:∃wo:World,wo=wr:=⟨_,rfl⟩
  obtain⟨k,c,hk,rfl,ho,hu,hlen⟩:=hrel
  obtain⟨av,cv,rfl⟩:=ho.shape
  have HO:=ah ho;clear ho
  have HU:=ah hu;clear hu
  have HLEN:=ah hlen;clear hlen
  by_cases hlt:k<4
  ·have hki:(k:Int)<4:=by omega
   have hkd:decide ((k:Int)<4)=true:=by simpa using hki
   have hpk:=HP.out k hlt
   have hlk:=HL.out k hlt
   have hst:=HU.out.step (o:=p k) (by omega) (by omega) (by unfold Ci;rw[Int.toNat_natCast])
   have hix:∀W,(Instr.index 177 (.agg #[.slice (A 0).1 (A 0).2.1 (A 0).2.2, .slice (A 1).1 (A 1).2.1 (A 1).2.2, .slice (A 2).1 (A 2).2.1 (A 2).2.2, .slice (A 3).1 (A 3).2.1 (A 3).2.2]) (.int .i64 (k:Int))).run Tryz.prog W= .ok (.slice (A k).1 (A k).2.1 (A k).2.2) W:=by
    rcases(by omega:k=0∨k=1∨k=2∨k=3)with rfl|rfl|rfl|rfl<;>exact fun _=>by kernel_rfl
   obtain⟨a1,c1,he⟩:=hpk.sl
   rw[he]at hpk hix
   clear he
   generalize p k=l at*
   have Ht:=ah hpk;clear hpk
   have HST:=ah hst;clear hst
   have jQ:=ah hlk;clear hlk
   generalize hn:l.length=n at*
   have HN:=ah hn;clear hn
   go_wp2
   clear hix
   go_loopw [3,15] (fun v i ww=>∃(j m:Nat),j≤n∧m=c.length+j∧i= .int .i64 j∧OwnAt w ww 92 3 v m (bU (c++dR k (l.take j)))) (fun _ i _=>n-(intOf i).toNat)
   case atStart=>exact⟨0,_,Nat.zero_le _,rfl,rfl,by simpa[dR]using HO.out⟩
   case round=>
    obtain⟨j,m,hj,hm,rfl,hoj⟩:=hrel
    obtain⟨a3,c3,rfl⟩:=hoj.shape
    have wK:=ah hoj;clear hoj
    have HM:=ah hm;clear hm
    by_cases hjl:j<n
    ·rcases Rd.shape Ht.out with⟨ad,he,h0⟩|⟨b,off,cc,he,hmax⟩
     ·exfalso;have:=HN.out;omega
     ·injection he with e1 e2 e3
      subst e1 e3
      clear e2
      rw[HN.out]at hmax
      have hjk:j<l.length:=by rw[HN.out];exact hjl
      obtain⟨p0,p1⟩:=lq Ht.out HN.out.symm j hjk
      have q0:=wK.out.aJ.cell' p0 id
      have q1:=wK.out.aJ.cell' p1 id
      have hE:=GL (l:=l) (k:=j) k hjk
      generalize l.getD j (0,0)=r at*
      clear p0 p1
      have HE:=ah hE;clear hE
      have hml:m≤1000000:=by have:=HM.out;have:=HLEN.out;have:=jQ.out;omega
      have Hu:=ah hml;clear hml
      go_wp2_with(at_builtin;refine jF w _ [.int .i64 k, .int .i64 r.1, .int .i64 r.2] rfl (.tmp 19) (.tmp 26) 30 rfl 92 i0 _ 3 24 Tryz.underlying30 hi hz0 hz1 hz2 (by decide) (by decide) _ _ _ (wK.out.keep (aj.alloc _ _ _)) 1 1 rfl (by simp[Act.eval]) rfl (by simp[Value.oneCell']) (by have:=Hu.out;simp only[maxLen];omega) (by have:=Hu.out;omega) ?_;intro zk iU w2 bI;have OW:=ah bI;clear bI)
      go_roundw
      case rel=>
       refine⟨j+1,m+1,by omega,by rw[HM.out];omega,by go_num,?_⟩
       rw[HE.out,←List.append_assoc,yO]
       exact OW.out
      case measure=>simp[intOf];omega
    ·obtain rfl:n=j:=by omega
     rw[List.take_of_length_le (by rw[HN.out];exact Nat.le_refl _)]at wK
     go_wp2
     go_roundw
     case rel=>
      refine⟨k+1,c++dR k l,by omega,by go_num,?_,HST.out,?_⟩
      ·have:(c++dR k l).length=m:=by rw[List.length_append,qU,HN.out,HM.out]
       rw[this];exact wK.out
      ·rw[List.length_append,qU,HN.out]
       have:=HLEN.out;have:=jQ.out;omega
     case measure=>simp[intOf];omega
  ·obtain rfl:k=4:=by omega
   go_wp2
   go_ret
   exact⟨_,c,rfl,HO.out,HU.out.OG,HLEN.out⟩
open Go.RowKit
theorem OH {a b:aS} {k:Nat} (h:k<a.length):lW (a.drop k) b=iW (a.getD k (0,0)).1 (a.getD k (0,0)).2 b++lW (a.drop (k+1)) b:=by
 rw[zh h];rfl
theorem OI {b:aS} {k:Nat} (h:k<b.length) (lo hi:Int):iW lo hi (b.drop k)=if(b.getD k (0,0)).2<lo∨hi<(b.getD k (0,0)).1 then iW lo hi (b.drop (k+1))else(if lo<(b.getD k (0,0)).1 then [(lo,(b.getD k (0,0)).1-1)]else [])++iW ((b.getD k (0,0)).2+1) hi (b.drop (k+1)):=by
 rw[zh h];rfl
def OJ (w0:World) (gr:Nat) (b:aS) (hi:Int) (m:Nat) (tot:aS) (len:Nat) (v i:Value) (ww:World):Prop:=
 ∃(j:Nat) (out:aS) (lo:Int),j≤m∧i= .int .i64 j∧dP (fun k=>k=gr) w0 ww 206 2 v out.length (bZ out)∧ww.heap[gr]?=some (.cells #[.int .i64 lo, .int .i64 hi] 206 (0,0))∧
  tot=out++iW lo hi (b.drop j)∧out.length≤len+j∧1≤lo∧lo≤1099511627777
theorem OL (w:World) (va vb:Value) (a b:aS) (ha:gZ w va a) (hb:gZ w vb b) (ra:bM a) (rb:bM b) (la:a.length≤20000) (lb:b.length≤20000):
 Calls Tryz.prog 130 #[va,vb] w fun e w'=>∃v',e= .returned v'∧OwnAt w w' 206 2 v' (lW a b).length (bZ (lW a b)):=by
 obtain⟨i0,hi,hz0,hz1,hz2⟩:=info_parts uN
 obtain⟨aA,cA,rfl⟩:=ha.sl
 obtain⟨aB,cB,rfl⟩:=hb.sl
 have qh:=ah (both_any w _ _ a b ha ra.fits hb rb.fits)
 have hboth:tf (bM a∧bM b)=true:=dH ⟨ra,rb⟩
 have HA:=ah ha;clear ha
 have HB:=ah hb;clear hb
 have RA:=ah (fun r (h:r∈a)=>(⟨(iT ra.1 r h).1,(iT ra.1 r h).2,ra.2 r h⟩:1≤r.1∧r.1≤r.2∧r.2≤1099511627776));clear ra
 have RB:=ah (fun r (h:r∈b)=>(⟨(iT rb.1 r h).1,(iT rb.1 r h).2,rb.2 r h⟩:1≤r.1∧r.1≤r.2∧r.2≤1099511627776));clear rb
 generalize hn:a.length=n at*
 generalize hm:b.length=m at*
 have HN:=ah hn;clear hn
 have HM:=ah hm;clear hm
 have LA:=ah la;clear la
 have LB:=ah lb;clear lb
 rw[hboth]at qh
 clear hboth
 go_enter Tryz.func130,Tryz.ntmps130
 go_wp2_with(go_at_call 151;refine qh.out.mono ?_;rintro e w1 ⟨rfl,hw1⟩;have HW1:=ah hw1;clear hw1)
 go_loopw [5,16] (fun v i ww=>∃(k:Nat) (out:aS),k≤n∧out.length≤k*(m+1)∧i= .int .i64 k∧OwnAt w ww 206 2 v out.length (bZ out)∧lW a b=out++lW (a.drop k) b) (fun _ i _=>n-(intOf i).toNat)
 case atStart=>exact⟨0,[],Nat.zero_le _,by simp,rfl,OwnAt.nil HW1.out _ _,rfl⟩
 case round=>
  obtain⟨wo,rfl⟩:∃wo:World,wo=wr:=⟨_,rfl⟩
  obtain⟨k,out,hk,hok,rfl,ho,he⟩:=hrel
  have HO:=ah ho;clear ho
  have HE:=ah he;clear he
  obtain⟨av,cv,hv⟩:=HO.out.shape
  subst hv
  by_cases hlt:k<n
  ·rcases Rd.shape HA.out with⟨ad,he,h0⟩|⟨bb,off,cc,he,hmax⟩
   ·exfalso;have:=HN.out;omega
   ·injection he with e1 e2 e3
    subst e1 e3
    clear e2
    rw[HN.out]at hmax
    have hlk:k<a.length:=by rw[HN.out];exact hlt
    obtain⟨p0,p1⟩:=lq HA.out HN.out.symm k hlk
    have q0:=HO.out.aJ.cell' p0 id
    have q1:=HO.out.aJ.cell' p1 id
    clear p0 p1
    have hbr:=RA.out _ (getD_mem (0,0) hlk)
    have HD:=ah (OH (b:=b) hlk)
    have hkm:k*(m+1)≤20000*20001:=Nat.mul_le_mul (Nat.le_trans hk LA.out) (Nat.succ_le_succ LB.out)
    generalize a.getD k (0,0)=r at*
    generalize hkk:k*(m+1)=km at*
    have HKK:=ah hkk;clear hkk
    have dQ:=ah hok;clear hok
    have zl:=ah hkm;clear hkm
    obtain⟨r1,r2,r3⟩:=hbr
    go_wp2
    go_loopw [5,22] (fun v i ww=>OJ w wo.heap.size b r.2 m (out++iW r.1 r.2 b) out.length v i ww) (fun _ i _=>m-(intOf i).toNat)
    case atStart=>exact⟨0,out,r.1,Nat.zero_le _,rfl,HO.out.away (aj.alloc _ _ _) (fun k hk=>by rw[hk];exact Nat.le_refl _),heap_alloc_new wo _,rfl,Nat.le_refl _,r1,by omega⟩
    case round=>
     obtain⟨j,uP,lo,hj,rfl,ho2,hbk,he2,hl2,l1,l2⟩:=hrel
     obtain⟨XB,Hw,rfl⟩:=ho2.at_.shape
     have dV:=ah ho2;clear ho2
     have HE2:=ah he2;clear he2
     have HL2:=ah hl2;clear hl2
     have gK:=ah hbk;clear hbk
     have z0:=aI gK.out 0 rfl
     have z1:=aI gK.out 1 rfl
     have zf:=bn gK.out 0
     have hgl:wo.heap.size<wr.heap.size:=World.block_lt_of_cell? _ _ z0
     by_cases hjl:j<m
     ·rcases Rd.shape HB.out with⟨ad,he,h0⟩|⟨b2,off2,iU,he,sK⟩
      ·exfalso;have:=HM.out;omega
      ·injection he with e1 e2 e3
       subst e1 e3
       clear e2
       rw[HM.out]at sK
       have hjb:j<b.length:=by rw[HM.out];exact hjl
       obtain⟨p0,p1⟩:=lq HB.out HM.out.symm j hjb
       have x0:=dV.out.at_.aJ.cell' p0 id
       have x1:=dV.out.at_.aJ.cell' p1 id
       clear p0 p1
       have hbx:=RB.out _ (getD_mem (0,0) hjb)
       have Cj:=ah (fun lo hi=>OI hjb lo hi)
       generalize b.getD j (0,0)=x at*
       obtain⟨y1,y2,y3⟩:=hbx
       have hgw:w.heap.size≤wo.heap.size:=HO.out.aJ.size
       by_cases c1:x.2<lo
       ·have HX:=ah (Cj.out lo r.2)
        rw[if_pos (.inl c1)]at HX
        go_wp2
        go_roundw
        case rel=>exact⟨j+1,uP,lo,by omega,by go_num,dV.out.keep (aj.alloc _ _ _),(aj.alloc au _ _).blk gK.out id,by rw[HE2.out,HX.out],Nat.le_trans HL2.out (by omega),l1,l2⟩
        case measure=>simp[intOf];omega
       ·by_cases c2:r.2<x.1
        ·have HX:=ah (Cj.out lo r.2)
         rw[if_pos (.inr c2)]at HX
         go_wp2
         go_roundw
         case rel=>exact⟨j+1,uP,lo,by omega,by go_num,dV.out.keep (aj.alloc _ _ _),(aj.alloc au _ _).blk gK.out id,by rw[HE2.out,HX.out],Nat.le_trans HL2.out (by omega),l1,l2⟩
         case measure=>simp[intOf];omega
        ·have HX:=ah (Cj.out lo r.2)
         rw[if_neg (by omega)]at HX
         by_cases c3:lo<x.1
         ·rw[if_pos c3]at HX
          have hx0:=aI (heap_alloc_new wr (.cells #[.int .i64 x.1, .int .i64 x.2] 206)) 0 rfl
          have hx1:=aI (heap_alloc_new wr (.cells #[.int .i64 x.1, .int .i64 x.2] 206)) 1 rfl
          have mJ:=ah hx1;clear hx0 hx1
          go_wp2_with(at_builtin;refine GX (fun k=>k=wo.heap.size∨k=wr.heap.size) w _ [.int .i64 lo, .int .i64 (x.1-1)] rfl (.tmp 43) (.tmp 50) 175 rfl 206 i0 _ 2 16 Tryz.underlying175 hi hz0 hz1 hz2 (by decide) (by decide) _ _ _ (dV.out.box _) (fun k hk=>by simp;omega) 1 1 rfl (by simp[Act.eval]) rfl (by simp[Value.oneCell']) (by have:=HL2.out;have:=dQ.out;have:=zl.out;have:=LB.out;simp only[maxLen];omega) (by have:=HL2.out;have:=dQ.out;have:=zl.out;have:=LB.out;omega) ?_;intro ad zn w2 bI fP;have OW:=ah bI;clear bI;have b2:=fP.blk (.inl rfl) ((aj.alloc au _ _).blk gK.out id);have B2:=ah b2;clear b2;have k0:=aI B2.out 0 rfl;have kf:=bn B2.out 0;have kx:=fP.cell (p:=⟨wr.heap.size,1,none⟩) (.inr rfl) mJ.out)
          go_roundw
          case rel=>
           refine⟨j+1,uP++ [(lo,x.1-1)],x.2+1,by omega,by go_num,?_,fF B2.out 0 _,by rw[HE2.out,HX.out];simp,by rw[List.length_append];have:=HL2.out;simp;omega,by omega,by omega⟩
           rw[List.length_append,kS]
           exact(OW.out.mono (fun k hk=> .inl hk)).set rfl hgw _
          case measure=>simp[intOf];omega
         ·rw[if_neg c3,List.nil_append]at HX
          go_wp2
          go_roundw
          case rel=>exact⟨j+1,uP,x.2+1,by omega,by go_num,(dV.out.set (p:=⟨wo.heap.size,0,none⟩) rfl hgw _).keep (aj.alloc _ _ _),(aj.alloc au _ _).blk (fF gK.out 0 _) id,by rw[HE2.out,HX.out],Nat.le_trans HL2.out (by omega),by omega,by omega⟩
          case measure=>simp[intOf];omega
     ·obtain rfl:m=j:=by omega
      have he3:=HE2.out
      rw[List.drop_of_length_le (by rw[HM.out];exact Nat.le_refl _)]at he3
      rw[show iW lo r.2 []=if lo≤r.2 then [(lo,r.2)]else []from rfl]at he3
      by_cases c1:lo≤r.2
      ·rw[if_pos c1]at he3
       have Cm:=ah he3;clear he3
       go_wp2_with(at_builtin;refine jF w _ [.int .i64 lo, .int .i64 r.2] rfl (.tmp 62) (.tmp 64) 175 rfl 206 i0 _ 2 16 Tryz.underlying175 hi hz0 hz1 hz2 (by decide) (by decide) _ _ _ dV.out.at_ 1 1 rfl (by simp[Act.eval]) rfl (by simp[Value.oneCell']) (by have:=HL2.out;have:=dQ.out;have:=zl.out;have:=LB.out;simp only[maxLen];omega) (by have:=HL2.out;have:=dQ.out;have:=zl.out;have:=LB.out;omega) ?_;intro ad zn w2 bI;have OW:=ah bI;clear bI)
       go_roundw
       case rel=>
        refine⟨k+1,uP++ [(lo,r.2)],by omega,?_,by go_num,by rw[List.length_append,kS];exact OW.out,by rw[HE.out,HD.out,←List.append_assoc,Cm.out]⟩
        have h1:=HL2.out
        have h2:=dQ.out
        have h3:(k+1)*(m+1)=km+(m+1):=by rw[Nat.succ_mul,HKK.out]
        rw[List.length_append]
        simp only[List.length_singleton]
        omega
       case measure=>simp[intOf];omega
      ·rw[if_neg c1,List.append_nil]at he3
       have Cm:=ah he3;clear he3
       go_wp2
       go_roundw
       case rel=>
        refine⟨k+1,uP,by omega,?_,by go_num,dV.out.at_,by rw[HE.out,HD.out,←List.append_assoc,Cm.out]⟩
        have h1:=HL2.out
        have h2:=dQ.out
        have h3:(k+1)*(m+1)=km+(m+1):=by rw[Nat.succ_mul,HKK.out]
        omega
       case measure=>simp[intOf];omega
  ·obtain rfl:n=k:=by omega
   go_wp2
   go_ret
   have:=HE.out
   rw[List.drop_of_length_le (by rw[HN.out];exact Nat.le_refl _)]at this
   have:out=lW a b:=by rw[this];simp[lW]
   subst this
   exact⟨_,rfl,HO.out⟩
end Go.Proofs.YtlhmbkjdfjoilaaGreat
namespace Go.Proofs.YtlhmbkjdfjoilaaGreat
open Go.RowKit Go.Sort
def encR (r:Int×Int):List Value:=[.int .i64 r.1, .int .i64 r.2]
theorem OM (d:Array (Int×Int)) {k:Nat} (h:k<d.size):d.toList.getD k (0,0)=d[k]! :=by
 rw[getD_at (0,0) (by simpa using h),getElem!_pos d k h];simp
theorem flat_get (d:Array (Int×Int)) {t:Nat} (ht:t<d.size*2):(bZ d.toList)[t]?=some ((flatK encR 2 d)[t]!):=by
 rw[get_flatK _ _ _ _ ht]
 have hk:t/2<d.size:=by omega
 obtain⟨h1,h2⟩:=yQ d.toList (t/2) (by simpa using hk)
 rw[OM d hk]at h1 h2
 rcases Nat.mod_two_eq_zero_or_one t with h|h
 ·rw[h]
  have e:t/2*2=t:=by omega
  rw[e]at h1
  rw[h1];rfl
 ·rw[h]
  have e:t/2*2+1=t:=by omega
  rw[e]at h2
  rw[h2];rfl
theorem OwnAt.OO {w0 w:World} {e:TypeId} {n c g:Nat} {l:aS} (h:OwnAt w0 w e 2 (.slice (some ⟨g,0,none⟩) n c) n (bZ l)) (hn:0<n) (hl:l.length=n):HoldsK encR 2 w g 0 l.toArray:=by
 obtain⟨g',c',he,_,_,_,h1,h2,_⟩:=h.row hn
 injection he with e1 e2 e3
 injection e1 with e1
 injection e1 with e4 e5
 subst e4
 intro j hj
 rw[size_flatK]at hj
 have hf:=flat_get l.toArray hj
 rw[Nat.zero_add]
 exact⟨h1 j _ hf,h2 j⟩
theorem Hy (F cur:Array Value) (h:F.size≤cur.size):(putCells id 0 F cur).toList.take F.size=F.toList:=by
 apply List.ext_getElem?
 intro k
 rw[List.getElem?_take]
 by_cases hk:k<F.size
 ·rw[if_pos hk]
  have hc:k<cur.size:=by omega
  simp[putCells,hc,hk]
 ·rw[if_neg hk]
  simp[Nat.le_of_not_lt hk]
theorem OQ (d:Array (Int×Int)):(flatK encR 2 d).toList=bZ d.toList:=by
 apply List.ext_getElem?
 intro t
 by_cases ht:t<d.size*2
 ·rw[flat_get d ht]
  simp[ht]
 ·rw[List.getElem?_eq_none (by simp;omega),List.getElem?_eq_none (by rw[oK];simp;omega)]
theorem OwnAt.sorted {w0 w:World} {e:TypeId} {n c g:Nat} {l:aS} (h:OwnAt w0 w e 2 (.slice (some ⟨g,0,none⟩) n c) n (bZ l)) (d':Array (Int×Int)) (hd:d'.size=n) (hn:0<n) (m:Nat) (os:Array Obj):
 OwnAt w0 (sortWorldK encR 2 w g 0 m d' os) e 2 (.slice (some ⟨g,0,none⟩) n c) n (bZ d'.toList):=by
 rcases h.own.2 with⟨_,h0⟩|⟨g',cap,cur,he,hb,hg,hnc,hcm,hcs,htake⟩
 ·omega
 ·injection he with e1 e2 e3
  injection e1 with e1
  injection e1 with e4 e5
  subst e4 e3
  have hlt:g<w.heap.size:=lt_of_block hg
  have hnew:w0.heap.size≤g:=h.new g rfl
  have hF:(flatK encR 2 d').size=n*2:=by rw[size_flatK,hd]
  have hblk:(sortWorldK encR 2 w g 0 m d' os).heap[g]?=some (.cells (putCells id 0 (flatK encR 2 d') cur) e (0,0)):=by
   unfold sortWorldK putRowK
   rw[heap_grow_old _ _ (by unfold putRow mapBlock;simpa[Sort.ahead]using hlt)]
   show((Sort.ahead w m).heap.modify g (onCells _))[g]?=_
   rw[Array.getElem?_modify,if_pos rfl]
   show Option.map _ (w.heap[g]?)=_
   rw[hg]
   rfl
  have hcur:(flatK encR 2 d').size≤cur.size:=by rw[hF,hcs];exact Nat.mul_le_mul_right _ hnc
  refine⟨⟨by rw[oK];simp[hd], .inr ⟨g,c,_,rfl,hb,hblk,hnc,hcm,by simp[putCells,hcs],?_⟩⟩,h.new,?_⟩
  ·rw[←hF,Hy _ _ hcur,OQ]
  ·refine h.aJ.trans (T:=fun k=>k=g) ⟨rfl,rfl,rfl,?_,fun k hk hn=>?_⟩ (fun i hi he=>by have he:i=g:=he;omega)
   ·unfold sortWorldK putRowK
    rw[size_grow]
    show w.heap.size≤(w.heap.modify g _).size+_
    rw[Array.size_modify];omega
   ·unfold sortWorldK putRowK
    rw[heap_grow_old _ _ (by unfold putRow mapBlock;simpa[Sort.ahead]using hk)]
    show(w.heap.modify g (onCells _))[k]?=_
    rw[Array.getElem?_modify,if_neg (fun e=>hn e.symm)]
theorem OT {d d':Array (Int×Int)} (h:PermIn 0 d.size d d'):d'.toList.Perm d.toList:=by
 have h1:=h.2.2
 have hs:=h.1
 have e1:(d'.extract 0 d.size).toList=d'.toList:=by rw[←hs];simp
 have e2:(d.extract 0 d.size).toList=d.toList:=by simp
 rw[e1,e2]at h1
 exact h1
theorem lX.Hz:∀ {l:aS} {lo:Int},l.Pairwise (fun a b=>a.1≤b.1)→(∀r∈l,lo≤r.1∧r.1≤r.2)→lX lo l
 |[],_,_,_=>trivial
 |r::l,lo,hp,h=>⟨(h r List.mem_cons_self).1,(h r List.mem_cons_self).2,lX.Hz (List.pairwise_cons.1 hp).2 fun x hx=>⟨(List.pairwise_cons.1 hp).1 x hx,(h x (List.mem_cons_of_mem _ hx)).2⟩⟩
def oN (x y:Int×Int):Int:=jw x.1 y.1
theorem zo (x y:Int×Int):ltOf oN x y=decide (x.1<y.1):=by
 unfold ltOf oN jw
 by_cases h1:x.1<y.1
 ·simp[h1]
 ·by_cases h2:y.1<x.1<;>simp[h1,h2]
theorem OU:SWO (ltOf oN) where
 irrefl x:=by rw[zo];simp
 trans x y z h1 h2:=by rw[zo]at*;simp at*;omega
 ntrans x y z h1 h2:=by rw[zo]at*;simp at*;omega
theorem OV {d:Array (Int×Int)} (h:SortedIn (ltOf oN) 0 d.size d):d.toList.Pairwise (fun a b=>a.1≤b.1):=by
 rw[List.pairwise_iff_getElem]
 intro i j hi hj hij
 have hi':i<d.size:=by simpa using hi
 have hj':j<d.size:=by simpa using hj
 have:=h i j (Nat.zero_le _) hij hj'
 rw[zo,getElem!_pos d i hi',getElem!_pos d j hj']at this
 simp at this⊢
 omega
end Go.Proofs.YtlhmbkjdfjoilaaGreat
namespace Go.Proofs
open Go.Shelf
def Tryz.sortRun_ren:Go.Shelf.Ren:=⟨fun|6=>153|15=>76|14=>185|28=>106|29=>107|20=>193|21=>194|22=>195|23=>196|24=>197|25=>198|26=>199|27=>200|46=>203|47=>139|48=>140|49=>204|50=>205|57=>206|n=>n,fun|22=>175|24=>206|25=>209|3=>3|39=>130|0=>0|53=>73|55=>153|4=>4|46=>145|45=>144|50=>149|5=>5|9=>9|66=>190|70=>194|76=>220|77=>221|n=>n,fun|n=>n⟩
theorem Tryz.sortRun:Go.Proofs.SlLaysF0.n6 Tryz.prog Tryz.sortRun_ren:= {
 mixed:=by kernel_rfl
 f6:=⟨Tryz.f153.name,by decide,Tryz.func153.trans (congrArg some (by kernel_rfl))⟩
 f14:=⟨Tryz.f185.name,by decide,Tryz.func185.trans (congrArg some (by kernel_rfl))⟩
 f15:=Tryz.func76.trans (congrArg some (by kernel_rfl))
 f20:=⟨Tryz.f193.name,by decide,Tryz.func193.trans (congrArg some (by kernel_rfl))⟩
 f21:=⟨Tryz.f194.name,by decide,Tryz.func194.trans (congrArg some (by kernel_rfl))⟩
 f22:=⟨Tryz.f195.name,by decide,Tryz.func195.trans (congrArg some (by kernel_rfl))⟩
 f23:=⟨Tryz.f196.name,by decide,Tryz.func196.trans (congrArg some (by kernel_rfl))⟩
 f24:=⟨Tryz.f197.name,by decide,Tryz.func197.trans (congrArg some (by kernel_rfl))⟩
 f25:=⟨Tryz.f198.name,by decide,Tryz.func198.trans (congrArg some (by kernel_rfl))⟩
 f26:=⟨Tryz.f199.name,by decide,Tryz.func199.trans (congrArg some (by kernel_rfl))⟩
 f27:=⟨Tryz.f200.name,by decide,Tryz.func200.trans (congrArg some (by kernel_rfl))⟩
 f28:=Tryz.func106.trans (congrArg some (by kernel_rfl))
 f29:=Tryz.func107.trans (congrArg some (by kernel_rfl))
 f46:=⟨Tryz.f203.name,by decide,Tryz.func203.trans (congrArg some (by kernel_rfl))⟩
 f47:=Tryz.func139.trans (congrArg some (by kernel_rfl))
 f48:=Tryz.func140.trans (congrArg some (by kernel_rfl))
 f49:=⟨Tryz.f204.name,by decide,Tryz.func204.trans (congrArg some (by kernel_rfl))⟩
 f50:=⟨Tryz.f205.name,by decide,Tryz.func205.trans (congrArg some (by kernel_rfl))⟩
 f57:=⟨Tryz.f206.name,by decide,Tryz.func206.trans (congrArg some (by kernel_rfl))⟩
 t0:=Tryz.underlying0
 a0:=Tryz.isAgg0
 z0:=Tryz.sizeOf0
 v0:=Tryz.zeroValue0
 t3:=Tryz.underlying3
 a3:=Tryz.isAgg3
 z3:=Tryz.sizeOf3
 v3:=Tryz.zeroValue3
 t4:=Tryz.underlying4
 a4:=Tryz.isAgg4
 z4:=Tryz.sizeOf4
 v4:=Tryz.zeroValue4
 t5:=Tryz.underlying5
 a5:=Tryz.isAgg5
 z5:=Tryz.sizeOf5
 v5:=Tryz.zeroValue5
 t9:=Tryz.underlying9
 a9:=Tryz.isAgg9
 z9:=Tryz.sizeOf9
 v9:=Tryz.zeroValue9
 t22:=Tryz.underlying175
 a22:=Tryz.isAgg175
 z22:=Tryz.sizeOf175
 v22:=Tryz.zeroValue175
 t25:=Tryz.underlying209
 a25:=Tryz.isAgg209
 z25:=Tryz.sizeOf209
 v25:=Tryz.zeroValue209
 t39:=Tryz.underlying130
 a39:=Tryz.isAgg130
 z39:=Tryz.sizeOf130
 v39:=Tryz.zeroValue130
 t45:=Tryz.underlying144
 a45:=Tryz.isAgg144
 z45:=Tryz.sizeOf144
 v45:=Tryz.zeroValue144
 t46:=Tryz.underlying145
 a46:=Tryz.isAgg145
 z46:=Tryz.sizeOf145
 v46:=Tryz.zeroValue145
 t50:=Tryz.underlying149
 a50:=Tryz.isAgg149
 z50:=Tryz.sizeOf149
 v50:=Tryz.zeroValue149
 t53:=Tryz.underlying73
 a53:=Tryz.isAgg73
 z53:=Tryz.sizeOf73
 v53:=Tryz.zeroValue73
 t55:=Tryz.underlying153
 a55:=Tryz.isAgg153
 z55:=Tryz.sizeOf153
 v55:=Tryz.zeroValue153
 t66:=Tryz.underlying190
 a66:=Tryz.isAgg190
 z66:=Tryz.sizeOf190
 v66:=Tryz.zeroValue190
 t70:=Tryz.underlying194
 a70:=Tryz.isAgg194
 z70:=Tryz.sizeOf194
 v70:=Tryz.zeroValue194
 t76:=Tryz.underlying220
 a76:=Tryz.isAgg220
 z76:=Tryz.sizeOf220
 v76:=Tryz.zeroValue220
 t77:=Tryz.underlying221
 a77:=Tryz.isAgg221
 z77:=Tryz.sizeOf221
 v77:=Tryz.zeroValue221}
end Go.Proofs
namespace Go.Proofs.YtlhmbkjdfjoilaaGreat
open Go.RowKit Go.Sort
theorem OX (x y:Int×Int) (W:World):Calls Tryz.prog 154 #[.agg #[.int .i64 x.1, .int .i64 x.2], .agg #[.int .i64 y.1, .int .i64 y.2]] W fun e w'=>e= .returned (.int .i64 (oN x y))∧∃q os',w'=grow (W.drewN q) os':=by
 unfold oN
 go_enter Tryz.func154,Tryz.ntmps154
 go_wp2_with(go_at_call 155;refine(wF _ _ _).mono ?_;rintro e w' ⟨rfl,rfl⟩)
 go_ret
 exact⟨rfl,0,_,by rw[alloc_eq_grow,alloc_eq_grow,grow_grow];rfl⟩
theorem OY (x y:Int×Int) (W:World):Calls Tryz.prog 166 #[.agg #[.int .i64 x.1, .int .i64 x.2], .agg #[.int .i64 y.1, .int .i64 y.2]] W fun e w'=>e= .returned (.int .i64 (oN x y))∧∃q os',w'=grow (W.drewN q) os':=by
 unfold oN
 go_enter Tryz.func166,Tryz.ntmps166
 go_wp2_with(go_at_call 155;refine(wF _ _ _).mono ?_;rintro e w' ⟨rfl,rfl⟩)
 go_ret
 exact⟨rfl,0,_,by rw[alloc_eq_grow,alloc_eq_grow,grow_grow];rfl⟩
theorem H_ (g:Nat) (eg:∀args w,(callFunc g args).run Tryz.prog w= .ok (.enter g args) w)
 (hg:∀x y W,Calls Tryz.prog g #[.agg #[.int .i64 x.1, .int .i64 x.2], .agg #[.int .i64 y.1, .int .i64 y.2]] W fun e w'=>e= .returned (.int .i64 (oN x y))∧∃q os',w'=grow (W.drewN q) os')
 (w0 w:World) (v:Value) (n:Nat) (l:aS) (h:OwnAt w0 w 206 2 v n (bZ l)) (hl:l.length=n) (hn:n≤1000000):
 Calls Tryz.prog 153 #[v, .func (.func g) #[] #[]] w fun e w'=>e= .returned (.tuple #[])∧∃l':aS,l'.Perm l∧l'.Pairwise (fun a b=>a.1≤b.1)∧OwnAt w0 w' 206 2 v n (bZ l'):=by
 rcases Nat.eq_zero_or_pos n with rfl|h0
 ·obtain⟨a,c,rfl⟩:=h.shape
  obtain rfl:l=[]:=List.eq_nil_of_length_eq_zero hl
  exact(AnyF.slices_SortFunc_none Tryz.sortRun a c _ w).mono fun _ _ ⟨he,hw⟩=>⟨he,[],List.Perm.refl _,List.Pairwise.nil,by rw[hw];exact h⟩
 ·obtain⟨g',c',rfl,_,hlt,_⟩:=h.row h0
  have hc:=AnyQ.slices_SortFunc Tryz.sortRun 2 Tryz.isAgg206 Tryz.sizeOf206 encR (fun _=>rfl) (fun x v hv=>by simp[encR]at hv;rcases hv with rfl|rfl<;>rfl) oN OU g #[] g' 0 c' l.toArray w eg (fun _ _ _ _ x y=>hg x y _) (h.OO h0 hl) hlt (by simp;omega)
  have hs:l.toArray.size=n:=by simpa using hl
  rw[hs]at hc
  refine Calls.mono hc fun e w' ⟨he,d',m,os,hp,hq,hw⟩=>⟨he,d'.toList,?_,?_,?_⟩
  ·have:=OT (d:=l.toArray) (d':=d') (by rw[hs];exact hp)
   simpa using this
  ·have e1:d'.size=n:=by rw[hp.1,hs]
   exact OV (by rw[e1];exact hq)
  ·rw[hw]
   exact h.sorted d' (by rw[hp.1,hs]) h0 m os
theorem wL {l l':aS} (hp:l'.Perm l) (hs:l'.Pairwise (fun a b=>a.1≤b.1)) (hb:∀r∈l,1≤r.1∧r.1≤r.2∧r.2≤1099511627776):bM (k_ l')∧(∀n,aX (k_ l') n↔aX l n)∧∀r∈l',Bd r:=by
 have hb':∀r∈l',1≤r.1∧r.1≤r.2∧r.2≤1099511627776:=fun r hr=>hb r (hp.mem_iff.1 hr)
 have wM:lX 1 l':=lX.Hz hs fun r hr=>⟨(hb' r hr).1,(hb' r hr).2.1⟩
 have hm:∀n,aX (k_ l') n↔aX l n:=fun n=>by
  rw[Nq wM]
  exact⟨fun⟨r,hr,h⟩=>⟨r,hp.mem_iff.1 hr,h⟩,fun⟨r,hr,h⟩=>⟨r,hp.mem_iff.2 hr,h⟩⟩
 refine⟨bM.of (Nr wM) fun n hn=>?_,hm,fun r hr=>by have:=hb' r hr;unfold Bd;omega⟩
 obtain⟨r,hr,h⟩:=(hm n).1 hn
 have:=hb r hr
 omega
theorem CB:∀(l:aS) (c:Int×Int),(jn c l).length≤l.length+1
 |[],c=>by simp[jn]
 |r::l,c=>by
  unfold jn
  split
  ·have:=CB l (c.1,max c.2 r.2);simp only[List.length_cons];omega
  ·have:=CB l r;simp only[List.length_cons];omega
theorem Ia (l:aS):(k_ l).length≤l.length:=by
 cases l with
 |nil=>exact Nat.le_refl _
 |cons r l=>exact CB l r
theorem OZ (n:Nat) (w:World) (hn:n≤1000000):Calls Tryz.prog 184 #[.slice none 0 0, .int .i64 n] w fun e w'=>∃v,e= .returned v∧OwnAt w w' 206 2 v 0 []:=by
 rcases Nat.eq_zero_or_pos n with rfl|h0
 ·go_enter Tryz.func184,Tryz.ntmps184
  go_wp2
  go_ret
  exact⟨_,rfl,OwnAt.nil (aj.refl _ _) _ _⟩
 ·obtain⟨i0,hi,hz0,hz1,hz2⟩:=info_parts uN
  have hrz:∀ty,(Builtin.append_ #[175,3] ty #[.slice none 0 0, .int .i64 (n:Int)]).run Tryz.prog w=
   .ok (.slice (some ⟨w.heap.size,0,none⟩) n (grownCap w n 0 206)) (w.drew.alloc (.cells (Builtin.zeroCells #[.int .i64 0, .int .i64 0] n++Builtin.zeroCells #[.int .i64 0, .int .i64 0] (grownCap w n 0 206-n)) 206)):=fun ty=>by
   have h:=Lib.run_append_grow_zeros w 175 3 ty 206 i0 _ .i64 .i64 Tryz.underlying175 Tryz.underlying3 hi hz0 none 0 0 [] (by simp[Builtin.firstCells]) n h0 (by omega) (by omega) (by omega) (by rw[hz2];omega) (by rw[hz2];exact growslice_fits (by omega) (by omega))
   simp only[Nat.zero_add,Array.empty_append,List.nil_append]at h
   simpa[Value.cells]using h
  have hG:=grownCap_ge w n 0 206
  have hM:=grownCap_le_maxLen w n 0 206 (by unfold maxLen;omega)
  generalize grownCap w n 0 206=G at*
  have HG:=ah hG;clear hG
  have hM:(G:Int)≤9223372036854775807:=by unfold maxLen at hM;omega
  go_enter Tryz.func184,Tryz.ntmps184
  go_wp2_with(at_builtin;refine Lib.wpList_append_run _ rfl _ _ _ _ rfl _ _ rfl rfl _ _ (hrz _) ?_)
  go_ret
  refine⟨_,rfl,⟨⟨rfl, .inr ⟨w.heap.size,G,_,rfl,Nat.zero_le _,heap_alloc_new _ _,Nat.zero_le _,by unfold maxLen;omega,?_,rfl⟩⟩,?_,(aj.drew _ _).alloc1⟩⟩
  ·rw[Array.size_append,size_zeroCells,size_zeroCells]
   have:=HG.out
   show n*2+(G-n)*2=G*2
   omega
  ·intro k hk
   simp[Value.ownBlock]at hk
   omega
end Go.Proofs.YtlhmbkjdfjoilaaGreat
