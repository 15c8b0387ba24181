/- Words for the law MsgDecodes: OpenB, MsgDecodesL. -/
import Derived.Test.YtabkpccdnkjoiaaGreatMsgDecodesG0
import Derived.Test.YtabkpccdnkjoiaaGreatMsgDecodesG12
import Derived.Test.YtabkpccdnkjoiaaGreatMsgDecodesG23
import Derived.Test.YtabkpccdnkjoiaaGreatMsgDecodesG28
import Derived.Test.YtabkpccdnkjoiaaGreatMsgDecodesG36
import Derived.Test.YtabkpccdnkjoiaaGreatMsgDecodesG37
import Derived.Test.YtabkpccdnkjoiaaGreatMsgDecodesG40
set_option linter.unusedSimpArgs false
set_option linter.unusedVariables false
set_option maxHeartbeats 32000000
set_option maxRecDepth 1000000
namespace Go.Proofs.YtabkpccdnkjoiaaGreat
open Go.RowKit Go.WideShapes
theorem Tryz.cells_u8:Tryz.prog.cellsOf 5=1:=by kernel_rfl
theorem open_bytes {H:Type} {enc:TypeId×Value→H} {w:World} {base:Nat} {v:Value} {d:DataW H} {ps:List MemPlace} (hv:Value.okWide Tryz.prog w .any base 22 v) (h:DataW.Trod enc Tryz.prog w 0 (fun _=>true) true 22 v d ps):
 ∃bs:List UInt8,Rd w v bs.length (bV bs):=by
 obtain⟨a0,len,cap,rfl⟩:=okWide_slice Tryz.underlying22 hv
 obtain⟨fuel,hf⟩:=h
 rcases open_arr Tryz.underlying22 Tryz.cells_u8 (by omega) (fun _=>rfl) hf with⟨rfl,rfl⟩|⟨b,off,rfl,h1,h2,n,hel⟩
 ·exact⟨[], .inl ⟨a0,rfl,rfl,rfl⟩⟩
 ·have hx:∀k,k<len→∃c:UInt8,w.cell? ⟨b,off+k,none⟩=some (.int .u8 (c.toNat:Int)):=fun k hk=>by
   obtain⟨cs,hl,hc,y,hy⟩:=hel k hk
   obtain⟨x,rfl,_,hw⟩:=DataW.trod_int Tryz.underlying5 hy
   have hb:0≤x∧x≤255:=by
    simp only[Lit.wf,IntKind.min,IntKind.max,IntKind.signed,IntKind.bits]at hw
    simpa using hw
   refine⟨UInt8.ofNat x.toNat,?_⟩
   have h0:=hc 0 _ rfl
   simp only[Nat.mul_one,Nat.add_zero]at h0
   rw[h0]
   congr 2
   have:(UInt8.ofNat x.toNat).toNat=x.toNat:=by simp;omega
   rw[this];omega
  obtain⟨l,hl,hlp⟩:=ac9 hx
  refine⟨l, .inr ⟨b,off,cap,by rw[hl],by omega,h2,fun j u hu=>?_⟩⟩
  have hj:j<l.length:=by simpa using(List.getElem?_eq_some_iff.1 hu).1
  rw[hlp j (by omega) default]
  rw[←hu]
  simp[bV,List.getD,hj]
open Go.RowKit
theorem ae9 (l:List UInt8) (v:Value) (w:World) (h:Rd w v l.length (bV l)) (hfit:aT.gX l=0→zC (aT.jI l)):Calls Tryz.prog 14 #[v] w (vK l w):=by
 by_cases h0:aT.gX l=0
 ·exact ae4 l v w h h0 (hfit h0)
 ·exact ae3 l v w h h0
theorem XU {l:List UInt8} (h:l.length≤2000) (h0:aT.gX l=0):zC (aT.jI l):= .inl (by
 have h2:=congrArg List.length (aT.Vd h0).1
 rw[aT.JC]at h2
 omega)
theorem ae_ (l:List UInt8):∃k m,sD l k m:=by
 by_cases h0:aT.gX l=0
 ·by_cases h:∃m:bW,m.right∧aT.jI l=m.enc
  ·obtain⟨m,h1,h2⟩:=h
   exact⟨0,m,JD h0 (.inl ⟨m,rfl,h1,h2⟩)⟩
  ·exact⟨2,bW.zero,Oe h0 (.inr ⟨rfl,fun m h1 h2=>h ⟨m,h1,h2⟩⟩)⟩
 ·exact⟨_,_,Og h0⟩
theorem afa {l:List UInt8} {m:bW} (h:sD l 0 m):m.right∧l=aT.iK m.enc∧m.enc.length≤60000:=by
 rcases h with⟨h0,h1,_⟩|⟨h0,⟨_,h2⟩|⟨h1,_⟩⟩
 ·exact absurd h1.symm h0
 ·rcases h2 with⟨m',e,hr,hx⟩|⟨e,_⟩
  ·injection e with e
   subst e
   obtain⟨g1,g2⟩:=aT.Vd h0
   rw[hx]at g1 g2
   exact⟨hr,g1,g2⟩
  ·cases e
 ·exact absurd h1 (by decide)
def XV (w:World) (k:Int) (m:bW) (e:Ending) (w':World):Prop:=∃(ps:List aZ) (al:Option Addr) (cl:Nat) (a0:Option Addr) (c0:Nat) (a1:Option Addr) (c1:Nat) (a2:Option Addr) (c2:Nat),
 e= .returned (.tuple #[.agg #[.int .i64 m.kind, .int .i64 m.fr, .int .i64 m.tt, .int .i64 m.v0, .int .i64 m.v1, .int .i64 m.v2, .int .i64 m.v3, .slice al ps.length cl, .slice a0 m.es.length c0, .slice a1 m.ks.len c1, .slice a2 m.c.length c2], .int .i64 k])∧mZ (fun _=>True) w' m ps (.slice al ps.length cl) (.slice a0 m.es.length c0) (.slice a1 m.ks.len c1) (.slice a2 m.c.length c2)∧kZ m∧aj ay w w'
theorem XW {l:List UInt8} {k:Int} {m:bW} (hd:sD l k m) {w w':World} {e:Ending} (hp:vK l w e w'):XV w k m e w':=by
 obtain⟨k',m',ps,lv,ev,kv,cv,hd',he,hat,hok,hf⟩:=hp
 obtain⟨rfl,rfl⟩:=hd'.b_ hd
 obtain⟨a0,c0,a1,c1,a2,c2,rfl,rfl,rfl⟩:=hat.eX.shape
 obtain⟨al,cl,rfl⟩:=hat.bs.rd.sl
 exact⟨ps,al,cl,a0,c0,a1,c1,a2,c2,he,hat,hok,hf⟩
theorem afb (w:World) (v:Value) (h:∃bs:List UInt8,Rd w v bs.length (bV bs)):Calls Tryz.prog 3 #[v] w fun e w'=>e= .returned (.bool true)∧aj (fun _=>False) w w':=by
 obtain⟨l,h⟩:=h
 have HA:=ah aeD
 have HV:=ah h
 obtain⟨a,c,rfl⟩:=h.sl
 clear h
 by_cases hlen:2000<l.length
 ·go_enter Tryz.func3,Tryz.ntmps3
  go_wp2_with(go_at_call 12;first
   |(have q9:=HW1;clear q9;refine(HA.out _).mono ?_;rintro e w2 ⟨rfl,hw2⟩;have HW2:=ah (HW1.out.aC hw2);clear hw2)
   |(refine(HA.out _).mono ?_;rintro e w1 ⟨rfl,hw1⟩;have HW1:=ah hw1;clear hw1))
  go_ret
  exact⟨rfl,HW2.out⟩
 have hlen':l.length≤2000:=by omega
 clear hlen
 obtain⟨k,m,hd⟩:=ae_ l
 have eF:=ah (fun W v (g:Rd W v l.length (bV l))=>(aez l v W g fun h0=>XU hlen' h0).mono fun e w' hp=>XW hd hp)
 have sJ:=ah (fun W v (g:Rd W v l.length (bV l))=>(ae9 l v W g fun h0=>XU hlen' h0).mono fun e w' hp=>XW hd hp)
 have gy:=ah (fun W ps lv ev kv cv (hok:kZ m) (h:mZ (fun _=>True) W m ps lv ev kv cv)=>acV (fun _=>True) m ps W lv ev kv cv h hok.len)
 have uq:=ah (fun W ps qs lv ev kv cv nS ev' kv' cv' (hok:kZ m) (h:mZ (fun _=>True) W m ps lv ev kv cv) (g:mZ (fun _=>True) W m qs nS ev' kv' cv')=>(show Calls Tryz.prog 15 #[m.ag lv ev kv cv,m.ag nS ev' kv' cv'] W (fun e w'=>e= .returned (.bool true)∧aj ay W w')from by
  have h2:=aeL _ _ m m ps qs W lv ev kv cv nS ev' kv' cv' h g hok hok
  rw[dO rfl]at h2
  exact h2))
 have CY:=ah (fun(e0:k=0) W ps lv ev kv cv (hok:kZ m) (h:mZ (fun _=>True) W m ps lv ev kv cv)=>(show Calls Tryz.prog 17 #[m.ag lv ev kv cv] W (fun e w'=>∃a c,e= .returned (.tuple #[.slice a l.length c, .int .i64 0])∧Copy W (.slice a l.length c) l w')from by
  obtain⟨hr,hx,hle⟩:=afa (e0▸hd)
  refine(Xu _ m ps W lv ev kv cv h hok hr hle).mono fun e w' hp=>?_
  obtain⟨a,c,t,ht,he,hc⟩:=hp
  obtain rfl:t=l:=ht.trans hx.symm
  exact⟨a,c,he,hc⟩))
 unfold XV at eF sJ
 dsimp only[bW.ag]at gy uq CY
 have hkk:((k:Int) !=k)=false:=by simp
 have DC:k=0∨k≠0:=Classical.em _
 clear hd
 by_cases hk:k=0
 rotate_left 1
 ·clear CY DC
  have hk1:((k:Int)==0)=false:=beq_false_of_ne hk
  have hk2:((k:Int) !=0)=true:=by rw[bne,hk1];rfl
  clear hk
  go_enter Tryz.func3,Tryz.ntmps3
  go_wp2_with(first
   |(go_at_call 12;refine(HA.out _).mono ?_;rintro e w1 ⟨rfl,hw1⟩;have HW1:=ah hw1;clear hw1)
   |(go_at_call 13;refine(eF.out _ _ (HV.out.aJ HW1.out)).mono ?_;rintro e w2 ⟨ps,al,cl,a0,c0,a1,c1,a2,c2,rfl,He,hok,hf2⟩;have Hf:=ah He;have bT:=ah hok;have HW2:=ah ((HW1.out.aC hf2).aC (aj.alloc ay w2 (.cells #[.int .i64 m.kind, .int .i64 m.fr, .int .i64 m.tt, .int .i64 m.v0, .int .i64 m.v1, .int .i64 m.v2, .int .i64 m.v3, .slice al ps.length cl, .slice a0 m.es.length c0, .slice a1 m.ks.len c1, .slice a2 m.c.length c2] 36)));clear He hok hf2)
   |(go_at_call 14;refine(sJ.out _ _ (HV.out.aJ HW2.out)).mono ?_;rintro e w4 ⟨qs,bl,dl,b0,d0,b1,d1,b2,d2,rfl,Hg,-,hf4⟩;have Hl:=ah Hg;have iI:=ah hf4;clear Hg hf4))
  have hfx:aj ay w4 (w4.alloc (.cells #[.int .i64 m.kind, .int .i64 m.fr, .int .i64 m.tt, .int .i64 m.v0, .int .i64 m.v1, .int .i64 m.v2, .int .i64 m.v3, .slice bl qs.length dl, .slice b0 m.es.length d0, .slice b1 m.ks.len d1, .slice b2 m.c.length d2] 42)):=aj.alloc _ _ _
  have hfm:aj ay (w2.alloc (.cells #[.int .i64 m.kind, .int .i64 m.fr, .int .i64 m.tt, .int .i64 m.v0, .int .i64 m.v1, .int .i64 m.v2, .int .i64 m.v3, .slice al ps.length cl, .slice a0 m.es.length c0, .slice a1 m.ks.len c1, .slice a2 m.c.length c2] 36)) (w4.alloc (.cells #[.int .i64 m.kind, .int .i64 m.fr, .int .i64 m.tt, .int .i64 m.v0, .int .i64 m.v1, .int .i64 m.v2, .int .i64 m.v3, .slice bl qs.length dl, .slice b0 m.es.length d0, .slice b1 m.ks.len d1, .slice b2 m.c.length d2] 42)):=iI.out.aC hfx
  have oz:=ah (HW2.out.aC hfm)
  have oC:=ah (Hf.out.aJ ((aj.alloc ay w2 (.cells #[.int .i64 m.kind, .int .i64 m.fr, .int .i64 m.tt, .int .i64 m.v0, .int .i64 m.v1, .int .i64 m.v2, .int .i64 m.v3, .slice al ps.length cl, .slice a0 m.es.length c0, .slice a1 m.ks.len c1, .slice a2 m.c.length c2] 36)).aC hfm))
  have uw:=ah (Hl.out.aJ hfx)
  have Ho:=ah (fun W (f:aj ay (w4.alloc (.cells #[.int .i64 m.kind, .int .i64 m.fr, .int .i64 m.tt, .int .i64 m.v0, .int .i64 m.v1, .int .i64 m.v2, .int .i64 m.v3, .slice bl qs.length dl, .slice b0 m.es.length d0, .slice b1 m.ks.len d1, .slice b2 m.c.length d2] 42)) W)=>yc w2 (.int .i64 m.kind) (.int .i64 m.fr) (.int .i64 m.tt) (.int .i64 m.v0) (.int .i64 m.v1) (.int .i64 m.v2) (.int .i64 m.v3) (.slice al ps.length cl) (.slice a0 m.es.length c0) (.slice a1 m.ks.len c1) (.slice a2 m.c.length c2) 36 W (hfm.aC f))
  have uY:=ah (fun W (f:aj ay (w4.alloc (.cells #[.int .i64 m.kind, .int .i64 m.fr, .int .i64 m.tt, .int .i64 m.v0, .int .i64 m.v1, .int .i64 m.v2, .int .i64 m.v3, .slice bl qs.length dl, .slice b0 m.es.length d0, .slice b1 m.ks.len d1, .slice b2 m.c.length d2] 42)) W)=>yc w4 (.int .i64 m.kind) (.int .i64 m.fr) (.int .i64 m.tt) (.int .i64 m.v0) (.int .i64 m.v1) (.int .i64 m.v2) (.int .i64 m.v3) (.slice bl qs.length dl) (.slice b0 m.es.length d0) (.slice b1 m.ks.len d1) (.slice b2 m.c.length d2) 42 W f)
  clear hfx hfm Hf Hl iI
  generalize w4.alloc (.cells #[.int .i64 m.kind, .int .i64 m.fr, .int .i64 m.tt, .int .i64 m.v0, .int .i64 m.v1, .int .i64 m.v2, .int .i64 m.v3, .slice bl qs.length dl, .slice b0 m.es.length d0, .slice b1 m.ks.len d1, .slice b2 m.c.length d2] 42)=W7 at*
  have iH:=ah (fun W (f:aj ay W7 W)=>(⟨f,Ho.out W f,uY.out W f⟩:(fun w'=>aj ay W7 w'∧(w'.cell? ⟨w2.heap.size,0,none⟩=some (.int .i64 m.kind)∧w'.cell? ⟨w2.heap.size,1,none⟩=some (.int .i64 m.fr)∧w'.cell? ⟨w2.heap.size,2,none⟩=some (.int .i64 m.tt)∧w'.cell? ⟨w2.heap.size,3,none⟩=some (.int .i64 m.v0)∧w'.cell? ⟨w2.heap.size,4,none⟩=some (.int .i64 m.v1)∧w'.cell? ⟨w2.heap.size,5,none⟩=some (.int .i64 m.v2)∧w'.cell? ⟨w2.heap.size,6,none⟩=some (.int .i64 m.v3)∧w'.cell? ⟨w2.heap.size,7,none⟩=some (.slice al ps.length cl)∧w'.cell? ⟨w2.heap.size,8,none⟩=some (.slice a0 m.es.length c0)∧w'.cell? ⟨w2.heap.size,9,none⟩=some (.slice a1 m.ks.len c1)∧w'.cell? ⟨w2.heap.size,10,none⟩=some (.slice a2 m.c.length c2))∧(w'.cell? ⟨w4.heap.size,0,none⟩=some (.int .i64 m.kind)∧w'.cell? ⟨w4.heap.size,1,none⟩=some (.int .i64 m.fr)∧w'.cell? ⟨w4.heap.size,2,none⟩=some (.int .i64 m.tt)∧w'.cell? ⟨w4.heap.size,3,none⟩=some (.int .i64 m.v0)∧w'.cell? ⟨w4.heap.size,4,none⟩=some (.int .i64 m.v1)∧w'.cell? ⟨w4.heap.size,5,none⟩=some (.int .i64 m.v2)∧w'.cell? ⟨w4.heap.size,6,none⟩=some (.int .i64 m.v3)∧w'.cell? ⟨w4.heap.size,7,none⟩=some (.slice bl qs.length dl)∧w'.cell? ⟨w4.heap.size,8,none⟩=some (.slice b0 m.es.length d0)∧w'.cell? ⟨w4.heap.size,9,none⟩=some (.slice b1 m.ks.len d1)∧w'.cell? ⟨w4.heap.size,10,none⟩=some (.slice b2 m.c.length d2))) W))
  refine ku (S:=fun w'=>aj ay W7 w'∧(w'.cell? ⟨w2.heap.size,0,none⟩=some (.int .i64 m.kind)∧w'.cell? ⟨w2.heap.size,1,none⟩=some (.int .i64 m.fr)∧w'.cell? ⟨w2.heap.size,2,none⟩=some (.int .i64 m.tt)∧w'.cell? ⟨w2.heap.size,3,none⟩=some (.int .i64 m.v0)∧w'.cell? ⟨w2.heap.size,4,none⟩=some (.int .i64 m.v1)∧w'.cell? ⟨w2.heap.size,5,none⟩=some (.int .i64 m.v2)∧w'.cell? ⟨w2.heap.size,6,none⟩=some (.int .i64 m.v3)∧w'.cell? ⟨w2.heap.size,7,none⟩=some (.slice al ps.length cl)∧w'.cell? ⟨w2.heap.size,8,none⟩=some (.slice a0 m.es.length c0)∧w'.cell? ⟨w2.heap.size,9,none⟩=some (.slice a1 m.ks.len c1)∧w'.cell? ⟨w2.heap.size,10,none⟩=some (.slice a2 m.c.length c2))∧(w'.cell? ⟨w4.heap.size,0,none⟩=some (.int .i64 m.kind)∧w'.cell? ⟨w4.heap.size,1,none⟩=some (.int .i64 m.fr)∧w'.cell? ⟨w4.heap.size,2,none⟩=some (.int .i64 m.tt)∧w'.cell? ⟨w4.heap.size,3,none⟩=some (.int .i64 m.v0)∧w'.cell? ⟨w4.heap.size,4,none⟩=some (.int .i64 m.v1)∧w'.cell? ⟨w4.heap.size,5,none⟩=some (.int .i64 m.v2)∧w'.cell? ⟨w4.heap.size,6,none⟩=some (.int .i64 m.v3)∧w'.cell? ⟨w4.heap.size,7,none⟩=some (.slice bl qs.length dl)∧w'.cell? ⟨w4.heap.size,8,none⟩=some (.slice b0 m.es.length d0)∧w'.cell? ⟨w4.heap.size,9,none⟩=some (.slice b1 m.ks.len d1)∧w'.cell? ⟨w4.heap.size,10,none⟩=some (.slice b2 m.c.length d2))) 9 (by kernel_rfl) (iH.out _ (aj.drew _ _)) ?_
  intro hS
  clear Ho uY
  generalize W7.drew=Y0 at*
  refine uK (i:=0) (j:=1) (by kernel_rfl) rfl rfl (fun K hK=>?_) (fun K hK=>?_)
  ·go_simp
   refine hK.out _ _ hS ?_
   clear hK K
   try simp only[Act.put,aN,aO,aP]
   refine bJ (i:=1) (by kernel_rfl) rfl (fun K hK=>?_)
   go_simp
   refine hK.out _ _ hS ?_
   clear hK K
   try simp only[Act.put,aN,aO,aP]
   refine bJ (i:=2) (by kernel_rfl) rfl (fun K hK=>?_)
   go_simp
   refine hK.out _ _ hS ?_
   clear hK K
   try simp only[Act.put,aN,aO,aP]
   refine qA 3 29 rfl rfl (v:=?_) (.inl ⟨by rfl,?_⟩) ?_
   rotate_left 1
   ·(intro w hSw;(try dsimp only at hSw);go_simp;(try with_reducible rfl))
   try simp only[Act.put,aN,aO,aP]
   refine uK (i:=4) (j:=6) (by kernel_rfl) rfl rfl (fun K hK=>?_) (fun K hK=>?_)
   ·go_simp
    refine hK.out _ _ hS ?_
    clear hK K
    try simp only[Act.put,aN,aO,aP]
    refine uK (i:=5) (j:=6) (by kernel_rfl) rfl rfl (fun K hK=>?_) (fun K hK=>?_)
    ·go_simp
     refine(gy.out _ _ _ _ _ _ bT.out (oC.out.aJ hS.1)).mono ?_
     rintro e1 Y1 ⟨vV,rfl,gu,cZ⟩
     obtain⟨k8,z8,rfl⟩:=gu.bs.rd.sl
     have mJ:=ah gu;clear gu
     have hS1:=iH.out Y1 (hS.1.aC cZ)
     refine hK.out _ _ hS1 ?_
     clear hK K hS
     have hS:=hS1
     clear hS1
     clear cZ
     try simp only[Act.put,aN,aO,aP]
     refine bJ (i:=6) (by kernel_rfl) rfl (fun K hK=>?_)
     go_simp
     refine hK.out _ _ hS ?_
     clear hK K
     try simp only[Act.put,aN,aO,aP]
     refine bJ (i:=7) (by kernel_rfl) rfl (fun K hK=>?_)
     go_simp
     refine(uq.out _ _ _ _ _ _ _ _ _ _ _ bT.out mJ.out (uw.out.aJ hS.1)).mono ?_
     rintro e2 Y2 ⟨rfl,bZ⟩
     have hS1:=iH.out Y2 (hS.1.aC bZ)
     refine hK.out _ _ hS1 ?_
     clear hK K hS
     have hS:=hS1
     clear hS1
     clear bZ
     try simp only[Act.put,aN,aO,aP]
     refine qA 8 34 rfl rfl (v:=?_) (.inl ⟨by rfl,?_⟩) ?_
     rotate_left 1
     ·(intro w hSw;(try dsimp only at hSw);go_simp;(try with_reducible rfl))
     try simp only[Act.put,aN,aO,aP]
     refine iC (by kernel_rfl) (by kernel_rfl) rfl (fun K hK=>?_)
     go_simp
     refine hK.out _ _ ?_
     clear hK K
     go_wp2
     go_ret
     exact⟨by first|rfl|simp,oz.out.aC hS.1⟩
    ·go_simp
     refine hK.out _ _ hS ?_
     clear hK K
     try simp only[Act.put,aN,aO,aP]
     refine bJ (i:=5) (by kernel_rfl) rfl (fun K hK=>?_)
     go_simp
     refine(gy.out _ _ _ _ _ _ bT.out (oC.out.aJ hS.1)).mono ?_
     rintro e1 Y1 ⟨vV,rfl,gu,cZ⟩
     obtain⟨k8,z8,rfl⟩:=gu.bs.rd.sl
     have mJ:=ah gu;clear gu
     have hS1:=iH.out Y1 (hS.1.aC cZ)
     refine hK.out _ _ hS1 ?_
     clear hK K hS
     have hS:=hS1
     clear hS1
     clear cZ
     try simp only[Act.put,aN,aO,aP]
     refine bJ (i:=7) (by kernel_rfl) rfl (fun K hK=>?_)
     go_simp
     refine(uq.out _ _ _ _ _ _ _ _ _ _ _ bT.out mJ.out (uw.out.aJ hS.1)).mono ?_
     rintro e2 Y2 ⟨rfl,bZ⟩
     have hS1:=iH.out Y2 (hS.1.aC bZ)
     refine hK.out _ _ hS1 ?_
     clear hK K hS
     have hS:=hS1
     clear hS1
     clear bZ
     try simp only[Act.put,aN,aO,aP]
     refine qA 8 34 rfl rfl (v:=?_) (.inl ⟨by rfl,?_⟩) ?_
     rotate_left 1
     ·(intro w hSw;(try dsimp only at hSw);go_simp;(try with_reducible rfl))
     try simp only[Act.put,aN,aO,aP]
     refine iC (by kernel_rfl) (by kernel_rfl) rfl (fun K hK=>?_)
     go_simp
     refine hK.out _ _ ?_
     clear hK K
     go_wp2
     go_ret
     exact⟨by first|rfl|simp,oz.out.aC hS.1⟩
   ·go_simp
    refine hK.out _ _ hS ?_
    clear hK K
    try simp only[Act.put,aN,aO,aP]
    refine bJ (i:=4) (by kernel_rfl) rfl (fun K hK=>?_)
    go_simp
    refine hK.out _ _ hS ?_
    clear hK K
    try simp only[Act.put,aN,aO,aP]
    refine bJ (i:=5) (by kernel_rfl) rfl (fun K hK=>?_)
    go_simp
    refine(gy.out _ _ _ _ _ _ bT.out (oC.out.aJ hS.1)).mono ?_
    rintro e1 Y1 ⟨vV,rfl,gu,cZ⟩
    obtain⟨k8,z8,rfl⟩:=gu.bs.rd.sl
    have mJ:=ah gu;clear gu
    have hS1:=iH.out Y1 (hS.1.aC cZ)
    refine hK.out _ _ hS1 ?_
    clear hK K hS
    have hS:=hS1
    clear hS1
    clear cZ
    try simp only[Act.put,aN,aO,aP]
    refine bJ (i:=7) (by kernel_rfl) rfl (fun K hK=>?_)
    go_simp
    refine(uq.out _ _ _ _ _ _ _ _ _ _ _ bT.out mJ.out (uw.out.aJ hS.1)).mono ?_
    rintro e2 Y2 ⟨rfl,bZ⟩
    have hS1:=iH.out Y2 (hS.1.aC bZ)
    refine hK.out _ _ hS1 ?_
    clear hK K hS
    have hS:=hS1
    clear hS1
    clear bZ
    try simp only[Act.put,aN,aO,aP]
    refine qA 8 34 rfl rfl (v:=?_) (.inl ⟨by rfl,?_⟩) ?_
    rotate_left 1
    ·(intro w hSw;(try dsimp only at hSw);go_simp;(try with_reducible rfl))
    try simp only[Act.put,aN,aO,aP]
    refine iC (by kernel_rfl) (by kernel_rfl) rfl (fun K hK=>?_)
    go_simp
    refine hK.out _ _ ?_
    clear hK K
    go_wp2
    go_ret
    exact⟨by first|rfl|simp,oz.out.aC hS.1⟩
  ·go_simp
   refine hK.out _ _ hS ?_
   clear hK K
   try simp only[Act.put,aN,aO,aP]
   refine bJ (i:=0) (by kernel_rfl) rfl (fun K hK=>?_)
   go_simp
   refine hK.out _ _ hS ?_
   clear hK K
   try simp only[Act.put,aN,aO,aP]
   refine bJ (i:=2) (by kernel_rfl) rfl (fun K hK=>?_)
   go_simp
   refine hK.out _ _ hS ?_
   clear hK K
   try simp only[Act.put,aN,aO,aP]
   refine qA 3 29 rfl rfl (v:=?_) (.inl ⟨by rfl,?_⟩) ?_
   rotate_left 1
   ·(intro w hSw;(try dsimp only at hSw);go_simp;(try with_reducible rfl))
   try simp only[Act.put,aN,aO,aP]
   refine uK (i:=4) (j:=6) (by kernel_rfl) rfl rfl (fun K hK=>?_) (fun K hK=>?_)
   ·go_simp
    refine hK.out _ _ hS ?_
    clear hK K
    try simp only[Act.put,aN,aO,aP]
    refine uK (i:=5) (j:=6) (by kernel_rfl) rfl rfl (fun K hK=>?_) (fun K hK=>?_)
    ·go_simp
     refine(gy.out _ _ _ _ _ _ bT.out (oC.out.aJ hS.1)).mono ?_
     rintro e1 Y1 ⟨vV,rfl,gu,cZ⟩
     obtain⟨k8,z8,rfl⟩:=gu.bs.rd.sl
     have mJ:=ah gu;clear gu
     have hS1:=iH.out Y1 (hS.1.aC cZ)
     refine hK.out _ _ hS1 ?_
     clear hK K hS
     have hS:=hS1
     clear hS1
     clear cZ
     try simp only[Act.put,aN,aO,aP]
     refine bJ (i:=6) (by kernel_rfl) rfl (fun K hK=>?_)
     go_simp
     refine hK.out _ _ hS ?_
     clear hK K
     try simp only[Act.put,aN,aO,aP]
     refine bJ (i:=7) (by kernel_rfl) rfl (fun K hK=>?_)
     go_simp
     refine(uq.out _ _ _ _ _ _ _ _ _ _ _ bT.out mJ.out (uw.out.aJ hS.1)).mono ?_
     rintro e2 Y2 ⟨rfl,bZ⟩
     have hS1:=iH.out Y2 (hS.1.aC bZ)
     refine hK.out _ _ hS1 ?_
     clear hK K hS
     have hS:=hS1
     clear hS1
     clear bZ
     try simp only[Act.put,aN,aO,aP]
     refine qA 8 34 rfl rfl (v:=?_) (.inl ⟨by rfl,?_⟩) ?_
     rotate_left 1
     ·(intro w hSw;(try dsimp only at hSw);go_simp;(try with_reducible rfl))
     try simp only[Act.put,aN,aO,aP]
     refine iC (by kernel_rfl) (by kernel_rfl) rfl (fun K hK=>?_)
     go_simp
     refine hK.out _ _ ?_
     clear hK K
     go_wp2
     go_ret
     exact⟨by first|rfl|simp,oz.out.aC hS.1⟩
    ·go_simp
     refine hK.out _ _ hS ?_
     clear hK K
     try simp only[Act.put,aN,aO,aP]
     refine bJ (i:=5) (by kernel_rfl) rfl (fun K hK=>?_)
     go_simp
     refine(gy.out _ _ _ _ _ _ bT.out (oC.out.aJ hS.1)).mono ?_
     rintro e1 Y1 ⟨vV,rfl,gu,cZ⟩
     obtain⟨k8,z8,rfl⟩:=gu.bs.rd.sl
     have mJ:=ah gu;clear gu
     have hS1:=iH.out Y1 (hS.1.aC cZ)
     refine hK.out _ _ hS1 ?_
     clear hK K hS
     have hS:=hS1
     clear hS1
     clear cZ
     try simp only[Act.put,aN,aO,aP]
     refine bJ (i:=7) (by kernel_rfl) rfl (fun K hK=>?_)
     go_simp
     refine(uq.out _ _ _ _ _ _ _ _ _ _ _ bT.out mJ.out (uw.out.aJ hS.1)).mono ?_
     rintro e2 Y2 ⟨rfl,bZ⟩
     have hS1:=iH.out Y2 (hS.1.aC bZ)
     refine hK.out _ _ hS1 ?_
     clear hK K hS
     have hS:=hS1
     clear hS1
     clear bZ
     try simp only[Act.put,aN,aO,aP]
     refine qA 8 34 rfl rfl (v:=?_) (.inl ⟨by rfl,?_⟩) ?_
     rotate_left 1
     ·(intro w hSw;(try dsimp only at hSw);go_simp;(try with_reducible rfl))
     try simp only[Act.put,aN,aO,aP]
     refine iC (by kernel_rfl) (by kernel_rfl) rfl (fun K hK=>?_)
     go_simp
     refine hK.out _ _ ?_
     clear hK K
     go_wp2
     go_ret
     exact⟨by first|rfl|simp,oz.out.aC hS.1⟩
   ·go_simp
    refine hK.out _ _ hS ?_
    clear hK K
    try simp only[Act.put,aN,aO,aP]
    refine bJ (i:=4) (by kernel_rfl) rfl (fun K hK=>?_)
    go_simp
    refine hK.out _ _ hS ?_
    clear hK K
    try simp only[Act.put,aN,aO,aP]
    refine bJ (i:=5) (by kernel_rfl) rfl (fun K hK=>?_)
    go_simp
    refine(gy.out _ _ _ _ _ _ bT.out (oC.out.aJ hS.1)).mono ?_
    rintro e1 Y1 ⟨vV,rfl,gu,cZ⟩
    obtain⟨k8,z8,rfl⟩:=gu.bs.rd.sl
    have mJ:=ah gu;clear gu
    have hS1:=iH.out Y1 (hS.1.aC cZ)
    refine hK.out _ _ hS1 ?_
    clear hK K hS
    have hS:=hS1
    clear hS1
    clear cZ
    try simp only[Act.put,aN,aO,aP]
    refine bJ (i:=7) (by kernel_rfl) rfl (fun K hK=>?_)
    go_simp
    refine(uq.out _ _ _ _ _ _ _ _ _ _ _ bT.out mJ.out (uw.out.aJ hS.1)).mono ?_
    rintro e2 Y2 ⟨rfl,bZ⟩
    have hS1:=iH.out Y2 (hS.1.aC bZ)
    refine hK.out _ _ hS1 ?_
    clear hK K hS
    have hS:=hS1
    clear hS1
    clear bZ
    try simp only[Act.put,aN,aO,aP]
    refine qA 8 34 rfl rfl (v:=?_) (.inl ⟨by rfl,?_⟩) ?_
    rotate_left 1
    ·(intro w hSw;(try dsimp only at hSw);go_simp;(try with_reducible rfl))
    try simp only[Act.put,aN,aO,aP]
    refine iC (by kernel_rfl) (by kernel_rfl) rfl (fun K hK=>?_)
    go_simp
    refine hK.out _ _ ?_
    clear hK K
    go_wp2
    go_ret
    exact⟨by first|rfl|simp,oz.out.aC hS.1⟩
 ·clear DC
  subst hk
  have HE:=ah (CY.out rfl)
  clear CY
  go_enter Tryz.func3,Tryz.ntmps3
  go_wp2_with(first
   |(go_at_call 12;refine(HA.out _).mono ?_;rintro e w1 ⟨rfl,hw1⟩;have HW1:=ah hw1;clear hw1)
   |(go_at_call 13;refine(eF.out _ _ (HV.out.aJ HW1.out)).mono ?_;rintro e w2 ⟨ps,al,cl,a0,c0,a1,c1,a2,c2,rfl,He,hok,hf2⟩;have Hf:=ah He;have bT:=ah hok;have HW2:=ah ((HW1.out.aC hf2).aC (aj.alloc ay w2 (.cells #[.int .i64 m.kind, .int .i64 m.fr, .int .i64 m.tt, .int .i64 m.v0, .int .i64 m.v1, .int .i64 m.v2, .int .i64 m.v3, .slice al ps.length cl, .slice a0 m.es.length c0, .slice a1 m.ks.len c1, .slice a2 m.c.length c2] 36)));clear He hok hf2)
   |(go_at_call 14;refine(sJ.out _ _ (HV.out.aJ HW2.out)).mono ?_;rintro e w4 ⟨qs,bl,dl,b0,d0,b1,d1,b2,d2,rfl,Hg,-,hf4⟩;have Hl:=ah Hg;have iI:=ah hf4;clear Hg hf4))
  have hfx:aj ay w4 (w4.alloc (.cells #[.int .i64 m.kind, .int .i64 m.fr, .int .i64 m.tt, .int .i64 m.v0, .int .i64 m.v1, .int .i64 m.v2, .int .i64 m.v3, .slice bl qs.length dl, .slice b0 m.es.length d0, .slice b1 m.ks.len d1, .slice b2 m.c.length d2] 42)):=aj.alloc _ _ _
  have hfm:aj ay (w2.alloc (.cells #[.int .i64 m.kind, .int .i64 m.fr, .int .i64 m.tt, .int .i64 m.v0, .int .i64 m.v1, .int .i64 m.v2, .int .i64 m.v3, .slice al ps.length cl, .slice a0 m.es.length c0, .slice a1 m.ks.len c1, .slice a2 m.c.length c2] 36)) (w4.alloc (.cells #[.int .i64 m.kind, .int .i64 m.fr, .int .i64 m.tt, .int .i64 m.v0, .int .i64 m.v1, .int .i64 m.v2, .int .i64 m.v3, .slice bl qs.length dl, .slice b0 m.es.length d0, .slice b1 m.ks.len d1, .slice b2 m.c.length d2] 42)):=iI.out.aC hfx
  have oz:=ah (HW2.out.aC hfm)
  have oC:=ah (Hf.out.aJ ((aj.alloc ay w2 (.cells #[.int .i64 m.kind, .int .i64 m.fr, .int .i64 m.tt, .int .i64 m.v0, .int .i64 m.v1, .int .i64 m.v2, .int .i64 m.v3, .slice al ps.length cl, .slice a0 m.es.length c0, .slice a1 m.ks.len c1, .slice a2 m.c.length c2] 36)).aC hfm))
  have uw:=ah (Hl.out.aJ hfx)
  have Ho:=ah (fun W (f:aj ay (w4.alloc (.cells #[.int .i64 m.kind, .int .i64 m.fr, .int .i64 m.tt, .int .i64 m.v0, .int .i64 m.v1, .int .i64 m.v2, .int .i64 m.v3, .slice bl qs.length dl, .slice b0 m.es.length d0, .slice b1 m.ks.len d1, .slice b2 m.c.length d2] 42)) W)=>yc w2 (.int .i64 m.kind) (.int .i64 m.fr) (.int .i64 m.tt) (.int .i64 m.v0) (.int .i64 m.v1) (.int .i64 m.v2) (.int .i64 m.v3) (.slice al ps.length cl) (.slice a0 m.es.length c0) (.slice a1 m.ks.len c1) (.slice a2 m.c.length c2) 36 W (hfm.aC f))
  have uY:=ah (fun W (f:aj ay (w4.alloc (.cells #[.int .i64 m.kind, .int .i64 m.fr, .int .i64 m.tt, .int .i64 m.v0, .int .i64 m.v1, .int .i64 m.v2, .int .i64 m.v3, .slice bl qs.length dl, .slice b0 m.es.length d0, .slice b1 m.ks.len d1, .slice b2 m.c.length d2] 42)) W)=>yc w4 (.int .i64 m.kind) (.int .i64 m.fr) (.int .i64 m.tt) (.int .i64 m.v0) (.int .i64 m.v1) (.int .i64 m.v2) (.int .i64 m.v3) (.slice bl qs.length dl) (.slice b0 m.es.length d0) (.slice b1 m.ks.len d1) (.slice b2 m.c.length d2) 42 W f)
  clear hfx hfm Hf Hl iI
  generalize w4.alloc (.cells #[.int .i64 m.kind, .int .i64 m.fr, .int .i64 m.tt, .int .i64 m.v0, .int .i64 m.v1, .int .i64 m.v2, .int .i64 m.v3, .slice bl qs.length dl, .slice b0 m.es.length d0, .slice b1 m.ks.len d1, .slice b2 m.c.length d2] 42)=W7 at*
  have iH:=ah (fun W (f:aj ay W7 W)=>(⟨f,Ho.out W f,uY.out W f⟩:(fun w'=>aj ay W7 w'∧(w'.cell? ⟨w2.heap.size,0,none⟩=some (.int .i64 m.kind)∧w'.cell? ⟨w2.heap.size,1,none⟩=some (.int .i64 m.fr)∧w'.cell? ⟨w2.heap.size,2,none⟩=some (.int .i64 m.tt)∧w'.cell? ⟨w2.heap.size,3,none⟩=some (.int .i64 m.v0)∧w'.cell? ⟨w2.heap.size,4,none⟩=some (.int .i64 m.v1)∧w'.cell? ⟨w2.heap.size,5,none⟩=some (.int .i64 m.v2)∧w'.cell? ⟨w2.heap.size,6,none⟩=some (.int .i64 m.v3)∧w'.cell? ⟨w2.heap.size,7,none⟩=some (.slice al ps.length cl)∧w'.cell? ⟨w2.heap.size,8,none⟩=some (.slice a0 m.es.length c0)∧w'.cell? ⟨w2.heap.size,9,none⟩=some (.slice a1 m.ks.len c1)∧w'.cell? ⟨w2.heap.size,10,none⟩=some (.slice a2 m.c.length c2))∧(w'.cell? ⟨w4.heap.size,0,none⟩=some (.int .i64 m.kind)∧w'.cell? ⟨w4.heap.size,1,none⟩=some (.int .i64 m.fr)∧w'.cell? ⟨w4.heap.size,2,none⟩=some (.int .i64 m.tt)∧w'.cell? ⟨w4.heap.size,3,none⟩=some (.int .i64 m.v0)∧w'.cell? ⟨w4.heap.size,4,none⟩=some (.int .i64 m.v1)∧w'.cell? ⟨w4.heap.size,5,none⟩=some (.int .i64 m.v2)∧w'.cell? ⟨w4.heap.size,6,none⟩=some (.int .i64 m.v3)∧w'.cell? ⟨w4.heap.size,7,none⟩=some (.slice bl qs.length dl)∧w'.cell? ⟨w4.heap.size,8,none⟩=some (.slice b0 m.es.length d0)∧w'.cell? ⟨w4.heap.size,9,none⟩=some (.slice b1 m.ks.len d1)∧w'.cell? ⟨w4.heap.size,10,none⟩=some (.slice b2 m.c.length d2))) W))
  refine ku (S:=fun w'=>aj ay W7 w'∧(w'.cell? ⟨w2.heap.size,0,none⟩=some (.int .i64 m.kind)∧w'.cell? ⟨w2.heap.size,1,none⟩=some (.int .i64 m.fr)∧w'.cell? ⟨w2.heap.size,2,none⟩=some (.int .i64 m.tt)∧w'.cell? ⟨w2.heap.size,3,none⟩=some (.int .i64 m.v0)∧w'.cell? ⟨w2.heap.size,4,none⟩=some (.int .i64 m.v1)∧w'.cell? ⟨w2.heap.size,5,none⟩=some (.int .i64 m.v2)∧w'.cell? ⟨w2.heap.size,6,none⟩=some (.int .i64 m.v3)∧w'.cell? ⟨w2.heap.size,7,none⟩=some (.slice al ps.length cl)∧w'.cell? ⟨w2.heap.size,8,none⟩=some (.slice a0 m.es.length c0)∧w'.cell? ⟨w2.heap.size,9,none⟩=some (.slice a1 m.ks.len c1)∧w'.cell? ⟨w2.heap.size,10,none⟩=some (.slice a2 m.c.length c2))∧(w'.cell? ⟨w4.heap.size,0,none⟩=some (.int .i64 m.kind)∧w'.cell? ⟨w4.heap.size,1,none⟩=some (.int .i64 m.fr)∧w'.cell? ⟨w4.heap.size,2,none⟩=some (.int .i64 m.tt)∧w'.cell? ⟨w4.heap.size,3,none⟩=some (.int .i64 m.v0)∧w'.cell? ⟨w4.heap.size,4,none⟩=some (.int .i64 m.v1)∧w'.cell? ⟨w4.heap.size,5,none⟩=some (.int .i64 m.v2)∧w'.cell? ⟨w4.heap.size,6,none⟩=some (.int .i64 m.v3)∧w'.cell? ⟨w4.heap.size,7,none⟩=some (.slice bl qs.length dl)∧w'.cell? ⟨w4.heap.size,8,none⟩=some (.slice b0 m.es.length d0)∧w'.cell? ⟨w4.heap.size,9,none⟩=some (.slice b1 m.ks.len d1)∧w'.cell? ⟨w4.heap.size,10,none⟩=some (.slice b2 m.c.length d2))) 9 (by kernel_rfl) (iH.out _ (aj.drew _ _)) ?_
  intro hS
  clear Ho uY
  generalize W7.drew=Y0 at*
  refine uK (i:=0) (j:=1) (by kernel_rfl) rfl rfl (fun K hK=>?_) (fun K hK=>?_)
  ·go_simp
   refine hK.out _ _ hS ?_
   clear hK K
   try simp only[Act.put,aN,aO,aP]
   refine bJ (i:=1) (by kernel_rfl) rfl (fun K hK=>?_)
   go_simp
   refine hK.out _ _ hS ?_
   clear hK K
   try simp only[Act.put,aN,aO,aP]
   refine bJ (i:=2) (by kernel_rfl) rfl (fun K hK=>?_)
   go_simp
   refine hK.out _ _ hS ?_
   clear hK K
   try simp only[Act.put,aN,aO,aP]
   refine qA 3 29 rfl rfl (v:=?_) (.inl ⟨by rfl,?_⟩) ?_
   rotate_left 1
   ·(intro w hSw;(try dsimp only at hSw);go_simp;(try with_reducible rfl))
   try simp only[Act.put,aN,aO,aP]
   refine uK (i:=4) (j:=6) (by kernel_rfl) rfl rfl (fun K hK=>?_) (fun K hK=>?_)
   ·go_simp
    refine hK.out _ _ hS ?_
    clear hK K
    try simp only[Act.put,aN,aO,aP]
    refine uK (i:=5) (j:=6) (by kernel_rfl) rfl rfl (fun K hK=>?_) (fun K hK=>?_)
    ·go_simp
     refine(gy.out _ _ _ _ _ _ bT.out (oC.out.aJ hS.1)).mono ?_
     rintro e1 Y1 ⟨vV,rfl,gu,cZ⟩
     obtain⟨k8,z8,rfl⟩:=gu.bs.rd.sl
     have mJ:=ah gu;clear gu
     have hS1:=iH.out Y1 (hS.1.aC cZ)
     refine hK.out _ _ hS1 ?_
     clear hK K hS
     have hS:=hS1
     clear hS1
     clear cZ
     try simp only[Act.put,aN,aO,aP]
     refine bJ (i:=6) (by kernel_rfl) rfl (fun K hK=>?_)
     go_simp
     refine hK.out _ _ hS ?_
     clear hK K
     try simp only[Act.put,aN,aO,aP]
     refine bJ (i:=7) (by kernel_rfl) rfl (fun K hK=>?_)
     go_simp
     refine(uq.out _ _ _ _ _ _ _ _ _ _ _ bT.out mJ.out (uw.out.aJ hS.1)).mono ?_
     rintro e2 Y2 ⟨rfl,bZ⟩
     have hS1:=iH.out Y2 (hS.1.aC bZ)
     refine hK.out _ _ hS1 ?_
     clear hK K hS
     have hS:=hS1
     clear hS1
     clear bZ
     try simp only[Act.put,aN,aO,aP]
     refine qA 8 34 rfl rfl (v:=?_) (.inl ⟨by rfl,?_⟩) ?_
     rotate_left 1
     ·(intro w hSw;(try dsimp only at hSw);go_simp;(try with_reducible rfl))
     try simp only[Act.put,aN,aO,aP]
     refine iC (by kernel_rfl) (by kernel_rfl) rfl (fun K hK=>?_)
     go_simp
     refine hK.out _ _ ?_
     clear hK K
     obtain⟨lT,⟨y0,y1,y2,y3,y4,y5,y6,y7,y8,y9,aY⟩,-⟩:=hS
     have hlb:=World.block_lt_of_cell? _ _ y0
     have jL:=ah lT;clear lT
     go_wp2_with(go_at_call 17;refine(HE.out _ _ _ _ _ _ bT.out (oC.out.aJ jL.out)).mono ?_;rintro e w6 ⟨b6,d6,rfl,hc6⟩;have hcv:=kQ hc6.rd;have hcw:=kQ (HV.out.aJ ((oz.out.aC jL.out).aC hc6.aH));have HF6:=ah hc6.aH;clear hc6 y0 y1 y2 y3 y4 y5 y6 y7 y8 y9 aY hlb)
     go_ret
     exact⟨by first|rfl|simp,(oz.out.aC jL.out).aC HF6.out⟩
    ·go_simp
     refine hK.out _ _ hS ?_
     clear hK K
     try simp only[Act.put,aN,aO,aP]
     refine bJ (i:=5) (by kernel_rfl) rfl (fun K hK=>?_)
     go_simp
     refine(gy.out _ _ _ _ _ _ bT.out (oC.out.aJ hS.1)).mono ?_
     rintro e1 Y1 ⟨vV,rfl,gu,cZ⟩
     obtain⟨k8,z8,rfl⟩:=gu.bs.rd.sl
     have mJ:=ah gu;clear gu
     have hS1:=iH.out Y1 (hS.1.aC cZ)
     refine hK.out _ _ hS1 ?_
     clear hK K hS
     have hS:=hS1
     clear hS1
     clear cZ
     try simp only[Act.put,aN,aO,aP]
     refine bJ (i:=7) (by kernel_rfl) rfl (fun K hK=>?_)
     go_simp
     refine(uq.out _ _ _ _ _ _ _ _ _ _ _ bT.out mJ.out (uw.out.aJ hS.1)).mono ?_
     rintro e2 Y2 ⟨rfl,bZ⟩
     have hS1:=iH.out Y2 (hS.1.aC bZ)
     refine hK.out _ _ hS1 ?_
     clear hK K hS
     have hS:=hS1
     clear hS1
     clear bZ
     try simp only[Act.put,aN,aO,aP]
     refine qA 8 34 rfl rfl (v:=?_) (.inl ⟨by rfl,?_⟩) ?_
     rotate_left 1
     ·(intro w hSw;(try dsimp only at hSw);go_simp;(try with_reducible rfl))
     try simp only[Act.put,aN,aO,aP]
     refine iC (by kernel_rfl) (by kernel_rfl) rfl (fun K hK=>?_)
     go_simp
     refine hK.out _ _ ?_
     clear hK K
     obtain⟨lT,⟨y0,y1,y2,y3,y4,y5,y6,y7,y8,y9,aY⟩,-⟩:=hS
     have hlb:=World.block_lt_of_cell? _ _ y0
     have jL:=ah lT;clear lT
     go_wp2_with(go_at_call 17;refine(HE.out _ _ _ _ _ _ bT.out (oC.out.aJ jL.out)).mono ?_;rintro e w6 ⟨b6,d6,rfl,hc6⟩;have hcv:=kQ hc6.rd;have hcw:=kQ (HV.out.aJ ((oz.out.aC jL.out).aC hc6.aH));have HF6:=ah hc6.aH;clear hc6 y0 y1 y2 y3 y4 y5 y6 y7 y8 y9 aY hlb)
     go_ret
     exact⟨by first|rfl|simp,(oz.out.aC jL.out).aC HF6.out⟩
   ·go_simp
    refine hK.out _ _ hS ?_
    clear hK K
    try simp only[Act.put,aN,aO,aP]
    refine bJ (i:=4) (by kernel_rfl) rfl (fun K hK=>?_)
    go_simp
    refine hK.out _ _ hS ?_
    clear hK K
    try simp only[Act.put,aN,aO,aP]
    refine bJ (i:=5) (by kernel_rfl) rfl (fun K hK=>?_)
    go_simp
    refine(gy.out _ _ _ _ _ _ bT.out (oC.out.aJ hS.1)).mono ?_
    rintro e1 Y1 ⟨vV,rfl,gu,cZ⟩
    obtain⟨k8,z8,rfl⟩:=gu.bs.rd.sl
    have mJ:=ah gu;clear gu
    have hS1:=iH.out Y1 (hS.1.aC cZ)
    refine hK.out _ _ hS1 ?_
    clear hK K hS
    have hS:=hS1
    clear hS1
    clear cZ
    try simp only[Act.put,aN,aO,aP]
    refine bJ (i:=7) (by kernel_rfl) rfl (fun K hK=>?_)
    go_simp
    refine(uq.out _ _ _ _ _ _ _ _ _ _ _ bT.out mJ.out (uw.out.aJ hS.1)).mono ?_
    rintro e2 Y2 ⟨rfl,bZ⟩
    have hS1:=iH.out Y2 (hS.1.aC bZ)
    refine hK.out _ _ hS1 ?_
    clear hK K hS
    have hS:=hS1
    clear hS1
    clear bZ
    try simp only[Act.put,aN,aO,aP]
    refine qA 8 34 rfl rfl (v:=?_) (.inl ⟨by rfl,?_⟩) ?_
    rotate_left 1
    ·(intro w hSw;(try dsimp only at hSw);go_simp;(try with_reducible rfl))
    try simp only[Act.put,aN,aO,aP]
    refine iC (by kernel_rfl) (by kernel_rfl) rfl (fun K hK=>?_)
    go_simp
    refine hK.out _ _ ?_
    clear hK K
    obtain⟨lT,⟨y0,y1,y2,y3,y4,y5,y6,y7,y8,y9,aY⟩,-⟩:=hS
    have hlb:=World.block_lt_of_cell? _ _ y0
    have jL:=ah lT;clear lT
    go_wp2_with(go_at_call 17;refine(HE.out _ _ _ _ _ _ bT.out (oC.out.aJ jL.out)).mono ?_;rintro e w6 ⟨b6,d6,rfl,hc6⟩;have hcv:=kQ hc6.rd;have hcw:=kQ (HV.out.aJ ((oz.out.aC jL.out).aC hc6.aH));have HF6:=ah hc6.aH;clear hc6 y0 y1 y2 y3 y4 y5 y6 y7 y8 y9 aY hlb)
    go_ret
    exact⟨by first|rfl|simp,(oz.out.aC jL.out).aC HF6.out⟩
  ·go_simp
   refine hK.out _ _ hS ?_
   clear hK K
   try simp only[Act.put,aN,aO,aP]
   refine bJ (i:=0) (by kernel_rfl) rfl (fun K hK=>?_)
   go_simp
   refine hK.out _ _ hS ?_
   clear hK K
   try simp only[Act.put,aN,aO,aP]
   refine bJ (i:=2) (by kernel_rfl) rfl (fun K hK=>?_)
   go_simp
   refine hK.out _ _ hS ?_
   clear hK K
   try simp only[Act.put,aN,aO,aP]
   refine qA 3 29 rfl rfl (v:=?_) (.inl ⟨by rfl,?_⟩) ?_
   rotate_left 1
   ·(intro w hSw;(try dsimp only at hSw);go_simp;(try with_reducible rfl))
   try simp only[Act.put,aN,aO,aP]
   refine uK (i:=4) (j:=6) (by kernel_rfl) rfl rfl (fun K hK=>?_) (fun K hK=>?_)
   ·go_simp
    refine hK.out _ _ hS ?_
    clear hK K
    try simp only[Act.put,aN,aO,aP]
    refine uK (i:=5) (j:=6) (by kernel_rfl) rfl rfl (fun K hK=>?_) (fun K hK=>?_)
    ·go_simp
     refine(gy.out _ _ _ _ _ _ bT.out (oC.out.aJ hS.1)).mono ?_
     rintro e1 Y1 ⟨vV,rfl,gu,cZ⟩
     obtain⟨k8,z8,rfl⟩:=gu.bs.rd.sl
     have mJ:=ah gu;clear gu
     have hS1:=iH.out Y1 (hS.1.aC cZ)
     refine hK.out _ _ hS1 ?_
     clear hK K hS
     have hS:=hS1
     clear hS1
     clear cZ
     try simp only[Act.put,aN,aO,aP]
     refine bJ (i:=6) (by kernel_rfl) rfl (fun K hK=>?_)
     go_simp
     refine hK.out _ _ hS ?_
     clear hK K
     try simp only[Act.put,aN,aO,aP]
     refine bJ (i:=7) (by kernel_rfl) rfl (fun K hK=>?_)
     go_simp
     refine(uq.out _ _ _ _ _ _ _ _ _ _ _ bT.out mJ.out (uw.out.aJ hS.1)).mono ?_
     rintro e2 Y2 ⟨rfl,bZ⟩
     have hS1:=iH.out Y2 (hS.1.aC bZ)
     refine hK.out _ _ hS1 ?_
     clear hK K hS
     have hS:=hS1
     clear hS1
     clear bZ
     try simp only[Act.put,aN,aO,aP]
     refine qA 8 34 rfl rfl (v:=?_) (.inl ⟨by rfl,?_⟩) ?_
     rotate_left 1
     ·(intro w hSw;(try dsimp only at hSw);go_simp;(try with_reducible rfl))
     try simp only[Act.put,aN,aO,aP]
     refine iC (by kernel_rfl) (by kernel_rfl) rfl (fun K hK=>?_)
     go_simp
     refine hK.out _ _ ?_
     clear hK K
     obtain⟨lT,⟨y0,y1,y2,y3,y4,y5,y6,y7,y8,y9,aY⟩,-⟩:=hS
     have hlb:=World.block_lt_of_cell? _ _ y0
     have jL:=ah lT;clear lT
     go_wp2_with(go_at_call 17;refine(HE.out _ _ _ _ _ _ bT.out (oC.out.aJ jL.out)).mono ?_;rintro e w6 ⟨b6,d6,rfl,hc6⟩;have hcv:=kQ hc6.rd;have hcw:=kQ (HV.out.aJ ((oz.out.aC jL.out).aC hc6.aH));have HF6:=ah hc6.aH;clear hc6 y0 y1 y2 y3 y4 y5 y6 y7 y8 y9 aY hlb)
     go_ret
     exact⟨by first|rfl|simp,(oz.out.aC jL.out).aC HF6.out⟩
    ·go_simp
     refine hK.out _ _ hS ?_
     clear hK K
     try simp only[Act.put,aN,aO,aP]
     refine bJ (i:=5) (by kernel_rfl) rfl (fun K hK=>?_)
     go_simp
     refine(gy.out _ _ _ _ _ _ bT.out (oC.out.aJ hS.1)).mono ?_
     rintro e1 Y1 ⟨vV,rfl,gu,cZ⟩
     obtain⟨k8,z8,rfl⟩:=gu.bs.rd.sl
     have mJ:=ah gu;clear gu
     have hS1:=iH.out Y1 (hS.1.aC cZ)
     refine hK.out _ _ hS1 ?_
     clear hK K hS
     have hS:=hS1
     clear hS1
     clear cZ
     try simp only[Act.put,aN,aO,aP]
     refine bJ (i:=7) (by kernel_rfl) rfl (fun K hK=>?_)
     go_simp
     refine(uq.out _ _ _ _ _ _ _ _ _ _ _ bT.out mJ.out (uw.out.aJ hS.1)).mono ?_
     rintro e2 Y2 ⟨rfl,bZ⟩
     have hS1:=iH.out Y2 (hS.1.aC bZ)
     refine hK.out _ _ hS1 ?_
     clear hK K hS
     have hS:=hS1
     clear hS1
     clear bZ
     try simp only[Act.put,aN,aO,aP]
     refine qA 8 34 rfl rfl (v:=?_) (.inl ⟨by rfl,?_⟩) ?_
     rotate_left 1
     ·(intro w hSw;(try dsimp only at hSw);go_simp;(try with_reducible rfl))
     try simp only[Act.put,aN,aO,aP]
     refine iC (by kernel_rfl) (by kernel_rfl) rfl (fun K hK=>?_)
     go_simp
     refine hK.out _ _ ?_
     clear hK K
     obtain⟨lT,⟨y0,y1,y2,y3,y4,y5,y6,y7,y8,y9,aY⟩,-⟩:=hS
     have hlb:=World.block_lt_of_cell? _ _ y0
     have jL:=ah lT;clear lT
     go_wp2_with(go_at_call 17;refine(HE.out _ _ _ _ _ _ bT.out (oC.out.aJ jL.out)).mono ?_;rintro e w6 ⟨b6,d6,rfl,hc6⟩;have hcv:=kQ hc6.rd;have hcw:=kQ (HV.out.aJ ((oz.out.aC jL.out).aC hc6.aH));have HF6:=ah hc6.aH;clear hc6 y0 y1 y2 y3 y4 y5 y6 y7 y8 y9 aY hlb)
     go_ret
     exact⟨by first|rfl|simp,(oz.out.aC jL.out).aC HF6.out⟩
   ·go_simp
    refine hK.out _ _ hS ?_
    clear hK K
    try simp only[Act.put,aN,aO,aP]
    refine bJ (i:=4) (by kernel_rfl) rfl (fun K hK=>?_)
    go_simp
    refine hK.out _ _ hS ?_
    clear hK K
    try simp only[Act.put,aN,aO,aP]
    refine bJ (i:=5) (by kernel_rfl) rfl (fun K hK=>?_)
    go_simp
    refine(gy.out _ _ _ _ _ _ bT.out (oC.out.aJ hS.1)).mono ?_
    rintro e1 Y1 ⟨vV,rfl,gu,cZ⟩
    obtain⟨k8,z8,rfl⟩:=gu.bs.rd.sl
    have mJ:=ah gu;clear gu
    have hS1:=iH.out Y1 (hS.1.aC cZ)
    refine hK.out _ _ hS1 ?_
    clear hK K hS
    have hS:=hS1
    clear hS1
    clear cZ
    try simp only[Act.put,aN,aO,aP]
    refine bJ (i:=7) (by kernel_rfl) rfl (fun K hK=>?_)
    go_simp
    refine(uq.out _ _ _ _ _ _ _ _ _ _ _ bT.out mJ.out (uw.out.aJ hS.1)).mono ?_
    rintro e2 Y2 ⟨rfl,bZ⟩
    have hS1:=iH.out Y2 (hS.1.aC bZ)
    refine hK.out _ _ hS1 ?_
    clear hK K hS
    have hS:=hS1
    clear hS1
    clear bZ
    try simp only[Act.put,aN,aO,aP]
    refine qA 8 34 rfl rfl (v:=?_) (.inl ⟨by rfl,?_⟩) ?_
    rotate_left 1
    ·(intro w hSw;(try dsimp only at hSw);go_simp;(try with_reducible rfl))
    try simp only[Act.put,aN,aO,aP]
    refine iC (by kernel_rfl) (by kernel_rfl) rfl (fun K hK=>?_)
    go_simp
    refine hK.out _ _ ?_
    clear hK K
    obtain⟨lT,⟨y0,y1,y2,y3,y4,y5,y6,y7,y8,y9,aY⟩,-⟩:=hS
    have hlb:=World.block_lt_of_cell? _ _ y0
    have jL:=ah lT;clear lT
    go_wp2_with(go_at_call 17;refine(HE.out _ _ _ _ _ _ bT.out (oC.out.aJ jL.out)).mono ?_;rintro e w6 ⟨b6,d6,rfl,hc6⟩;have hcv:=kQ hc6.rd;have hcw:=kQ (HV.out.aJ ((oz.out.aC jL.out).aC hc6.aH));have HF6:=ah hc6.aH;clear hc6 y0 y1 y2 y3 y4 y5 y6 y7 y8 y9 aY hlb)
    go_ret
    exact⟨by first|rfl|simp,(oz.out.aC jL.out).aC HF6.out⟩
end Go.Proofs.YtabkpccdnkjoiaaGreat
