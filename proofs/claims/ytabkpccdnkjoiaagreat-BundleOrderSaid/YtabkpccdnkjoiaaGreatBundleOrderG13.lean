/- Words for the law BundleOrder: CaJoin, JoinO, CFull, Vec, Bun0, BunP. -/
import Derived.Test.YtabkpccdnkjoiaaGreatBundleOrderG0
import Derived.Test.YtabkpccdnkjoiaaGreatBundleOrderG4
import Derived.Test.YtabkpccdnkjoiaaGreatBundleOrderG6
import Derived.Test.YtabkpccdnkjoiaaGreatBundleOrderG7
import Derived.Test.YtabkpccdnkjoiaaGreatBundleOrderG9
import Derived.Test.YtabkpccdnkjoiaaGreatBundleOrderG10
import Derived.Test.YtabkpccdnkjoiaaGreatBundleOrderG12
set_option linter.unusedSimpArgs false
set_option linter.unusedVariables false
set_option maxHeartbeats 32000000
set_option maxRecDepth 1000000
namespace Go.Proofs.YtabkpccdnkjoiaaGreat
open Go.RowKit
noncomputable def lD (es:List aG) (ks:aI) (c:aU) (es':List aG) (ks':aI) (c':aU):List aG×aI:=gy (gq c) (gq c') 5 (es,ks) (es',ks')
def vS (w:World) (es:List aG) (ks:aI) (c:aU) (es':List aG) (ks':aI) (c':aU) (e:Ending) (w':World) (f:Value→Value):Prop:=
 ∃ev kv cv u,e= .returned (f (.agg #[ev,kv,cv]))∧bJ (fun b=>w.heap.size≤b) w' ev kv (lD es ks c es' ks' c').1 (lD es ks c es' ks' c').2∧OwnAt w w' 144 3 cv u.length (bT u)∧fU 0 c c' u
theorem Pg (Q Q':Nat→Prop) (es:List aG) (ks:aI) (c:aU) (es':List aG) (ks':aI) (c':aU) (w:World) (ev kv cv ev' kv' cv':Value) (h:gQ Q w ev kv cv es ks c) (h':gQ Q' w ev' kv' cv' es' ks' c')
 (hok:fG es ks c) (hok':fG es' ks' c') (hr:eG es ks c) (hr':eG es' ks' c'):
 Calls Tryz.prog 94 #[.agg #[ev,kv,cv], .agg #[ev',kv',cv']] w fun e w'=>vS w es ks c es' ks' c' e w' id:=by
 obtain⟨a0,c0,a1,c1,a2,c2,rfl,rfl,rfl⟩:=h.shape
 obtain⟨d0,k0,d1,k1,d2,k2,rfl,rfl,rfl⟩:=h'.shape
 have HT:=ah (fun W (f:aj au w W)=>OT Q Q' c c' hok.fits hok'.fits hr.ctx hr'.ctx (by have:=hok.len;omega) (by have:=hok'.len;omega) 5 es ks es' ks' W _ _ _ _ _ _ (h.tree.aP f) (h'.tree.aP f) (Rd.aP h.ctx f) (Rd.aP h'.ctx f) hr.tree hr'.tree (by have:=hok.small;omega) (by have:=hok'.small;omega))
 have HU:=ah (fun W (f:aj au w W)=>AZ W _ _ c c' (Rd.aP h.ctx f) (Rd.aP h'.ctx f) hok.fits hok'.fits hr.ctx hr'.ctx (by have:=hok.len;omega) (by have:=hok'.len;omega))
 clear h h' hok hok' hr hr'
 obtain⟨J,hJ⟩:∃J,J=lD es ks c es' ks' c':=⟨_,rfl⟩
 unfold vS
 rw[←hJ]
 have hJ2:gy (gq c) (gq c') 5 (es,ks) (es',ks')=J:=hJ.symm
 rw[hJ2]at HT
 clear hJ hJ2
 generalize es.length=n0 at*
 generalize ks.len=n1 at*
 generalize c.length=n2 at*
 generalize es'.length=m0 at*
 generalize ks'.len=m1 at*
 generalize c'.length=m2 at*
 obtain⟨hf0,hs0,hb0,hb1,hb2⟩:=yU w #[.slice a0 n0 c0, .slice a1 n1 c1, .slice a2 n2 c2] #[.slice d0 m0 k0, .slice d1 m1 k1, .slice d2 m2 k2] #[.slice none 0 0, .slice none 0 0, .slice none 0 0] 34 34 34
 have eP:=ah (fun W (f:aj au (((w.alloc (.cells #[.slice a0 n0 c0, .slice a1 n1 c1, .slice a2 n2 c2] 34)).alloc (.cells #[.slice d0 m0 k0, .slice d1 m1 k1, .slice d2 m2 k2] 34)).alloc (.cells #[.slice none 0 0, .slice none 0 0, .slice none 0 0] 34)) W)=>
  (⟨f.cell' (aF hb0 0 rfl) id,f.cell' (aF hb0 1 rfl) id,f.cell' (aF hb0 2 rfl) id,f.cell' (aF hb1 0 rfl) id,f.cell' (aF hb1 1 rfl) id,f.cell' (aF hb1 2 rfl) id⟩:
    W.cell? ⟨w.heap.size,0,none⟩=some (.slice a0 n0 c0)∧W.cell? ⟨w.heap.size,1,none⟩=some (.slice a1 n1 c1)∧W.cell? ⟨w.heap.size,2,none⟩=some (.slice a2 n2 c2)∧W.cell? ⟨w.heap.size+1,0,none⟩=some (.slice d0 m0 k0)∧W.cell? ⟨w.heap.size+1,1,none⟩=some (.slice d1 m1 k1)∧W.cell? ⟨w.heap.size+1,2,none⟩=some (.slice d2 m2 k2)))
 have fB:=ah hf0;clear hf0
 have HB2:=ah hb2
 clear hb0 hb1 hb2 hs0
 go_enter Tryz.func94,Tryz.ntmps94
 go_wp2_with fail
 refine gX (S:=fun W=>W.cell? ⟨w.heap.size,0,none⟩=some (.slice a0 n0 c0)∧W.cell? ⟨w.heap.size,1,none⟩=some (.slice a1 n1 c1)∧W.cell? ⟨w.heap.size,2,none⟩=some (.slice a2 n2 c2)∧W.cell? ⟨w.heap.size+1,0,none⟩=some (.slice d0 m0 k0)∧W.cell? ⟨w.heap.size+1,1,none⟩=some (.slice d1 m1 k1)∧W.cell? ⟨w.heap.size+1,2,none⟩=some (.slice d2 m2 k2)) 15 (by kernel_rfl) (eP.out _ (aj.drew _ _)) ?_
 intro hS
 obtain⟨Z,hZ⟩:∃Z,Z=((w.alloc (.cells #[.slice a0 n0 c0, .slice a1 n1 c1, .slice a2 n2 c2] 34)).alloc (.cells #[.slice d0 m0 k0, .slice d1 m1 k1, .slice d2 m2 k2] 34)).alloc (.cells #[.slice none 0 0, .slice none 0 0, .slice none 0 0] 34):=⟨_,rfl⟩
 rw[←hZ]at eP fB HB2 hS⊢
 clear hZ
 have CG:=ah (aj.drew au Z)
 generalize Z.drew=Y at*
 refine aT 0 5 rfl rfl (v:=?_) (.inl ⟨by rfl,?_⟩) ?_
 rotate_left 1
 ·(intro w hSw;(try dsimp only at hSw);go_simp;(try with_reducible rfl))
 refine aT 1 6 rfl rfl (v:=?_) (.inl ⟨by rfl,?_⟩) ?_
 rotate_left 1
 ·(intro w hSw;(try dsimp only at hSw);go_simp;(try with_reducible rfl))
 try simp only[Act.put,aJ,aN,aO]
 refine aT 2 7 rfl rfl (v:=?_) (.inl ⟨by rfl,?_⟩) ?_
 rotate_left 1
 ·(intro w hSw;(try dsimp only at hSw);go_simp;(try with_reducible rfl))
 refine aT 3 8 rfl rfl (v:=?_) (.inl ⟨by rfl,?_⟩) ?_
 rotate_left 1
 ·(intro w hSw;(try dsimp only at hSw);go_simp;(try with_reducible rfl))
 try simp only[Act.put,aJ,aN,aO]
 refine aT 4 9 rfl rfl (v:=?_) (.inl ⟨by rfl,?_⟩) ?_
 rotate_left 1
 ·(intro w hSw;(try dsimp only at hSw);go_simp;(try with_reducible rfl))
 refine aT 5 10 rfl rfl (v:=?_) (.inl ⟨by rfl,?_⟩) ?_
 rotate_left 1
 ·(intro w hSw;(try dsimp only at hSw);go_simp;(try with_reducible rfl))
 try simp only[Act.put,aJ,aN,aO]
 refine aT 6 11 rfl rfl (v:=?_) (.inl ⟨by rfl,?_⟩) ?_
 rotate_left 1
 ·(intro w hSw;(try dsimp only at hSw);go_simp;(try with_reducible rfl))
 refine aT 7 12 rfl rfl (v:=?_) (.inl ⟨by rfl,?_⟩) ?_
 rotate_left 1
 ·(intro w hSw;(try dsimp only at hSw);go_simp;(try with_reducible rfl))
 try simp only[Act.put,aJ,aN,aO]
 refine aT 9 14 rfl rfl (v:=?_) (.inl ⟨by rfl,?_⟩) ?_
 rotate_left 1
 ·(intro w hSw;(try dsimp only at hSw);go_simp;(try with_reducible rfl))
 refine aT 10 15 rfl rfl (v:=?_) (.inl ⟨by rfl,?_⟩) ?_
 rotate_left 1
 ·(intro w hSw;(try dsimp only at hSw);go_simp;(try with_reducible rfl))
 try simp only[Act.put,aJ,aN,aO]
 refine aT 11 16 rfl rfl (v:=?_) (.inl ⟨by rfl,?_⟩) ?_
 rotate_left 1
 ·(intro w hSw;(try dsimp only at hSw);go_simp;(try with_reducible rfl))
 refine aT 12 17 rfl rfl (v:=?_) (.inl ⟨by rfl,?_⟩) ?_
 rotate_left 1
 ·(intro w hSw;(try dsimp only at hSw);go_simp;(try with_reducible rfl))
 try simp only[Act.put,aJ,aN,aO]
 refine bD (i:=8) (by kernel_rfl) rfl (fun K hK=>?_)
 go_simp
 refine(HT.out _ (fB.out.ay CG.out)).mono ?_
 rintro e Y1 ⟨mP,mQ,rfl,iY,hf3⟩
 obtain⟨a3,c3,rfl⟩:=iY.ents.rd.sl
 obtain⟨os3,iQ,-⟩:=iY.kids
 obtain⟨a4,c4,rfl⟩:=iQ.rd.sl
 clear iQ
 have HF3:=ah (CG.out.ay hf3)
 have hS1:=eP.out Y1 HF3.out
 refine hK.out _ _ hS1 ?_
 clear hK K hS hf3
 have hS:=hS1
 clear hS1
 have iW:=ah iY;clear iY
 try simp only[Act.put,aJ,aN,aO]
 refine bD (i:=13) (by kernel_rfl) rfl (fun K hK=>?_)
 go_simp
 refine(HU.out _ (fB.out.ay HF3.out)).mono ?_
 rintro e Y2 ⟨v5,u,rfl,iZ,hby,-⟩
 obtain⟨a5,c5,rfl⟩:=iZ.shape
 have jV:=ah iZ;clear iZ
 have jM:=ah hby;clear hby
 have hS1:=eP.out Y2 (HF3.out.ay jV.out.aH)
 refine hK.out _ _ hS1 ?_
 clear hK K hS
 have hS:=hS1
 clear hS1
 try simp only[Act.put,aJ,aN,aO]
 refine aT 14 19 rfl rfl (v:=?_) (.inl ⟨by rfl,?_⟩) ?_
 rotate_left 1
 ·(intro w hSw;(try dsimp only at hSw);go_simp;(try with_reducible rfl))
 try simp only[Act.put,aJ,aN,aO]
 refine fD (by kernel_rfl) (by kernel_rfl) rfl (fun K hK=>?_)
 have hblk:=(HF3.out.ay jV.out.aH).blk HB2.out id
 have CJ:=ah ((fB.out.ay HF3.out).ay jV.out.aH)
 have HR3:=ah (BH hblk CJ.out (by omega) (.slice a3 J.1.length c3) (.slice a4 J.2.len c4) (.slice a5 u.length c5))
 have hs0:=fB.out.size
 have hs3:=CG.out.size
 have hl2:=lt_of_block HB2.out
 have NV:=lt_of_block hblk
 have HP:=ah ((iW.out.aP jV.out.aH).turn (Q':=fun b=>w.heap.size≤b) fun b hb hQ=>⟨HR3.out.2.2 b (by omega),by omega⟩)
 have hown:OwnAt w (((Y2.setCell ⟨w.heap.size+1+1,0,none⟩ (.slice a3 J.1.length c3)).setCell ⟨w.heap.size+1+1,1,none⟩ (.slice a4 J.2.len c4)).setCell ⟨w.heap.size+1+1,2,none⟩ (.slice a5 u.length c5)) 144 3 (.slice a5 u.length c5) u.length (bT u):=by
  have hnew:=jV.out.new
  have hz:=HF3.out.size
  have vw:dM (fun b=>b=w.heap.size+1+1) w Y2 144 3 (.slice a5 u.length c5) u.length (bT u):=⟨jV.out.base (fB.out.ay HF3.out),fun b hb hn=>by have:=hnew b hb;omega⟩
  exact(((vw.set (p:=⟨w.heap.size+1+1,0,none⟩) rfl (by show w.heap.size≤w.heap.size+1+1;omega) _).set (p:=⟨w.heap.size+1+1,1,none⟩) rfl (by show w.heap.size≤w.heap.size+1+1;omega) _).set (p:=⟨w.heap.size+1+1,2,none⟩) rfl (by show w.heap.size≤w.heap.size+1+1;omega) _).at_
 have HOW:=ah hown;clear hown
 have y0:=aF hblk 0 rfl
 have y1:=aF hblk 1 rfl
 have y2:=aF hblk 2 rfl
 have g0:=aY hblk 0
 have g1:=aY hblk 1
 have g2:=aY hblk 2
 clear hS hblk
 go_simp
 refine hK.out _ _ ?_
 clear hK K y0 y1 y2 g0 g1 g2
 go_wp2
 have y0:=aF HR3.out.1 0 rfl
 have y1:=aF HR3.out.1 1 rfl
 have y2:=aF HR3.out.1 2 rfl
 exact bodyPost_ret (v:= .agg #[.slice a3 J.1.length c3, .slice a4 J.2.len c4, .slice a5 u.length c5]) (by simp[results,Tryz.results94,go_sem,y0,y1,y2]) rfl ⟨_,_,_,u,rfl,HP.out,HOW.out,jM.out⟩
theorem Ib (Q Q':Nat→Prop) (es:List aG) (ks:aI) (c:aU) (es':List aG) (ks':aI) (c':aU) (w:World) (ev kv cv ev' kv' cv':Value) (h:gQ Q w ev kv cv es ks c) (h':gQ Q' w ev' kv' cv' es' ks' c')
 (hok:fG es ks c) (hok':fG es' ks' c') (hr:eG es ks c) (hr':eG es' ks' c'):
 Calls Tryz.prog 26 #[.agg #[ev,kv,cv], .agg #[ev',kv',cv']] w fun e w'=>vS w es ks c es' ks' c' e w' fun v=> .tuple #[v, .int .i64 0]:=by
 have HJ:=ah (fun W (f:aj au w W)=>Pg Q Q' es ks c es' ks' c' W ev kv cv ev' kv' cv' (h.aP f) (h'.aP f) hok hok' hr hr')
 have HR:=ah (fun W (f:aj au w W)=>bM hr▸qO Q es ks c W ev kv cv (h.aP f) hok)
 have HR2:=ah (fun W (f:aj au w W)=>bM hr'▸qO Q' es' ks' c' W ev' kv' cv' (h'.aP f) hok')
 obtain⟨a0,c0,a1,c1,a2,c2,rfl,rfl,rfl⟩:=h.shape
 obtain⟨d0,k0,d1,k1,d2,k2,rfl,rfl,rfl⟩:=h'.shape
 clear h h' hok hok' hr hr'
 unfold vS at*
 generalize lD es ks c es' ks' c'=J at*
 generalize es.length=n0 at*
 generalize ks.len=n1 at*
 generalize c.length=n2 at*
 generalize es'.length=m0 at*
 generalize ks'.len=m1 at*
 generalize c'.length=m2 at*
 obtain⟨hf0,hs0,hb0,hb1,hb2⟩:=yU w #[.slice a0 n0 c0, .slice a1 n1 c1, .slice a2 n2 c2] #[.slice d0 m0 k0, .slice d1 m1 k1, .slice d2 m2 k2] #[.slice none 0 0, .slice none 0 0, .slice none 0 0] 34 34 34
 have eP:=ah (fun W (f:aj au (((w.alloc (.cells #[.slice a0 n0 c0, .slice a1 n1 c1, .slice a2 n2 c2] 34)).alloc (.cells #[.slice d0 m0 k0, .slice d1 m1 k1, .slice d2 m2 k2] 34)).alloc (.cells #[.slice none 0 0, .slice none 0 0, .slice none 0 0] 34)) W)=>
  (⟨f.cell' (aF hb0 0 rfl) id,f.cell' (aF hb0 1 rfl) id,f.cell' (aF hb0 2 rfl) id,f.cell' (aF hb1 0 rfl) id,f.cell' (aF hb1 1 rfl) id,f.cell' (aF hb1 2 rfl) id⟩:W.cell? ⟨w.heap.size,0,none⟩=some (.slice a0 n0 c0)∧W.cell? ⟨w.heap.size,1,none⟩=some (.slice a1 n1 c1)∧W.cell? ⟨w.heap.size,2,none⟩=some (.slice a2 n2 c2)∧W.cell? ⟨w.heap.size+1,0,none⟩=some (.slice d0 m0 k0)∧W.cell? ⟨w.heap.size+1,1,none⟩=some (.slice d1 m1 k1)∧W.cell? ⟨w.heap.size+1,2,none⟩=some (.slice d2 m2 k2)))
 have fB:=ah hf0;clear hf0
 have HB2:=ah hb2
 have HZ0:=ah hs0
 clear hb0 hb1 hb2 hs0
 go_enter Tryz.func26,Tryz.ntmps26
 go_wp2_with(first
  |(go_at_call_of 93 a0;refine(HR.out _ fB.out).mono ?_;rintro e w1 ⟨rfl,hw1⟩;obtain⟨y0,y1,y2,y3,y4,y5⟩:=eP.out w1 hw1;have hl0:=World.block_lt_of_cell? _ _ y0;have hl1:=World.block_lt_of_cell? _ _ y3;have HW1:=ah hw1;clear hw1)
  |(go_at_call_of 93 d0;refine(HR2.out _ (fB.out.ay HW1.out)).mono ?_;rintro e w2 ⟨rfl,hw2⟩;clear y0 y1 y2 y3 y4 y5 hl0 hl1;obtain⟨y0,y1,y2,y3,y4,y5⟩:=eP.out w2 (HW1.out.ay hw2);have hl0:=World.block_lt_of_cell? _ _ y0;have hl1:=World.block_lt_of_cell? _ _ y3;have HW2:=ah (HW1.out.ay hw2);clear hw2)
  |(go_at_call 94;refine(HJ.out _ (fB.out.ay HW2.out)).mono ?_;rintro e w3 ⟨mP,mQ,CO,u,rfl,hta,ho,hby⟩;obtain⟨a3,c3,rfl⟩:=hta.ents.rd.sl;obtain⟨os3,iQ,-⟩:=hta.kids;obtain⟨a4,c4,rfl⟩:=iQ.rd.sl;obtain⟨a5,c5,rfl⟩:=ho.shape;clear iQ y0 y1 y2 y3 y4 y5 hl0 hl1;have iW:=ah hta;clear hta;have HO:=ah ho;clear ho;have jM:=ah hby;clear hby;have HW3:=ah (HW2.out.ay HO.out.aH);have hblk:=HW3.out.blk HB2.out id;have z0:=aF hblk 0 rfl;have z1:=aF hblk 1 rfl;have z2:=aF hblk 2 rfl;have g0:=aY hblk 0;have g1:=aY hblk 1;have g2:=aY hblk 2;have hl2:=lt_of_block hblk;have oC:=ah hblk;clear hblk))
 clear z0 z1 z2 g0 g1 g2
 have CJ:=ah (fB.out.ay HW3.out)
 have HR3:=ah (BH oC.out CJ.out (by omega) (.slice a3 J.1.length c3) (.slice a4 J.2.len c4) (.slice a5 u.length c5))
 have hs0:=fB.out.size
 have hs2:=HW2.out.size
 have hz:=HZ0.out
 have HP:=ah (iW.out.turn (Q':=fun b=>w.heap.size≤b) fun b hb hQ=>⟨HR3.out.2.2 b (by omega),by omega⟩)
 have hown:OwnAt w (((w3.setCell ⟨w.heap.size+1+1,0,none⟩ (.slice a3 J.1.length c3)).setCell ⟨w.heap.size+1+1,1,none⟩ (.slice a4 J.2.len c4)).setCell ⟨w.heap.size+1+1,2,none⟩ (.slice a5 u.length c5)) 144 3 (.slice a5 u.length c5) u.length (bT u):=by
  have hnew:=HO.out.new
  have vw:dM (fun b=>b=w.heap.size+1+1) w w3 144 3 (.slice a5 u.length c5) u.length (bT u):=⟨HO.out.base (fB.out.ay HW2.out),fun b hb hn=>by have:=hnew b hb;omega⟩
  exact(((vw.set (p:=⟨w.heap.size+1+1,0,none⟩) rfl (by show w.heap.size≤w.heap.size+1+1;omega) _).set (p:=⟨w.heap.size+1+1,1,none⟩) rfl (by show w.heap.size≤w.heap.size+1+1;omega) _).set (p:=⟨w.heap.size+1+1,2,none⟩) rfl (by show w.heap.size≤w.heap.size+1+1;omega) _).at_
 have y0:=aF HR3.out.1 0 rfl
 have y1:=aF HR3.out.1 1 rfl
 have y2:=aF HR3.out.1 2 rfl
 exact bodyPost_ret (v:= .tuple #[.agg #[.slice a3 J.1.length c3, .slice a4 J.2.len c4, .slice a5 u.length c5], .int .i64 0]) (by simp[results,Tryz.results26,go_sem,y0,y1,y2]) rfl ⟨_,_,_,u,rfl,HP.out,hown,jM.out⟩
end Go.Proofs.YtabkpccdnkjoiaaGreat
namespace Go.Proofs.YtabkpccdnkjoiaaGreat
theorem Ic {key:ByteArray} {a:Nat} {r:ByteArray→Nat}:∀ {M:List ByteArray},M.Nodup→(M.map fun k=>if key=k then a else r k).sum≤a+(M.map r).sum
 |[],_=>by simp
 |x::M,h=>by
  obtain⟨h1,h2⟩:=List.nodup_cons.1 h
  simp only[List.map_cons,List.sum_cons]
  by_cases e:key=x
  ·subst e
   have:(M.map fun k=>if key=k then a else r k)=M.map r:=List.map_congr_left fun k hk=>if_neg fun e=>h1 (by rw[e];exact hk)
   rw[this,if_pos rfl];omega
  ·have:=Ic (key:=key) (a:=a) (r:=r) h2
   rw[if_neg e];omega
def kG (t:List aG×aI):Nat:=sizeT t.1 t.2
theorem Ie:∀M:List ByteArray,(M.map fun _=>0).sum=0
 |[]=>rfl
 |_::M=>by simp only[List.map_cons,List.sum_cons,Ie M]
theorem CP:∀(ks:aI) {M:List ByteArray},M.Nodup→(M.map fun k=>kG (ks.find k)).sum+ks.len≤dX ks
 | .nil,M,_=>by
   have:(M.map fun k=>kG (aI.find k .nil))=M.map fun _=>0:=rfl
   rw[this,Ie];simp[aI.len]
 | .cons key es sub rest,M,h=>by
   have ih:=CP rest h
   have e:(M.map fun k=>kG ((aI.cons key es sub rest).find k))=M.map fun k=>if key=k then sizeT es sub else kG (rest.find k):=List.map_congr_left fun k _=>by
    show kG (if key=k then(es,sub)else rest.find k)=_
    split<;>rfl
   have:=Ic (key:=key) (a:=sizeT es sub) (r:=fun k=>kG (rest.find k)) h
   rw[e]
   simp only[aI.len,dX]
   unfold sizeT at this⊢
   omega
theorem Ig (F:ByteArray→List aG×aI):∀M:List ByteArray,dX (gV F M)≤(M.map fun k=>kG (F k)).sum+M.length
 |[]=>by simp[gV,dX]
 |k::M=>by
  have ih:=Ig F M
  unfold gV oM
  split
  ·simp only[List.map_cons,List.sum_cons,List.length_cons];omega
  ·simp only[List.map_cons,List.sum_cons,List.length_cons,dX,kG,sizeT]at*;omega
theorem Ph {l:List ByteArray} (o:jq l):l.Nodup:=o.imp fun {a b} h e=>by rw[e,nO]at h;cases h
theorem Pj (M:List ByteArray) (f g h:ByteArray→Nat) (hf:∀k∈M,f k≤g k+h k):(M.map f).sum≤(M.map g).sum+(M.map h).sum:=by
 induction M with
 |nil=>simp
 |cons k M ih=>
  have h1:=hf k (by simp)
  have h2:=ih fun x hx=>hf x (by simp[hx])
  simp only[List.map_cons,List.sum_cons];omega
theorem Ih (ha hb:Int→Int→Bool):∀(n:Nat) (a b:List aG×aI),aX n a.1 a.2=true→aX n b.1 b.2=true→kG (gy ha hb n a b)≤kG a+kG b
 |0,_,_,h,_=>by simp[aX]at h
 |n+1,a,b,h1,h2=>by
  obtain⟨_,k1⟩:=yR h1
  obtain⟨_,k2⟩:=yR h2
  have o1:=(qR _ _ _ k1).1
  have o2:=(qR _ _ _ k2).1
  have om:=Ph (BM o1 o2)
  have e:=Ho ha hb a.1 b.1
  have s:=Ig (fun k=>gy ha hb n (a.2.find k) (b.2.find k)) (fP a.2.keys b.2.keys)
  have l:=Hq a.2.keys b.2.keys
  have s1:=CP a.2 om
  have s2:=CP b.2 om
  have st:=Pj (fP a.2.keys b.2.keys) (fun k=>kG (gy ha hb n (a.2.find k) (b.2.find k))) (fun k=>kG (a.2.find k)) (fun k=>kG (b.2.find k)) fun k hk=>by
   have hd:1≤n:=by
    rcases(qh _ _ _).1 hk with g|g
    ·exact yT k1 g
    ·exact yT k2 g
   exact Ih ha hb n _ _ (yS k1 hd) (yS k2 hd)
  rw[aI.mV,aI.mV]at l
  show sizeT (dK ha hb a.1 b.1) (gV (fun k=>gy ha hb n (a.2.find k) (b.2.find k)) (fP a.2.keys b.2.keys))≤sizeT a.1 a.2+sizeT b.1 b.2
  unfold sizeT
  omega
theorem Pm {e:aG} (h:dJ e=true):e.fits:=by
 simp only[dJ,iO,Bool.and_eq_true,decide_eq_true_eq]at h
 unfold aG.fits
 omega
theorem Ii {es:List aG} (h:dO none es=true):∀e∈es,e.fits:=fun e he=>Pm ((GN.1 h).1 e he)
theorem CQ:∀(ks:aI) (d:Nat) (p:Option ByteArray),gI ks d p=true→dX ks≤100000→ks.Ok
 | .nil,_,_,_,_=>trivial
 | .cons key es sub rest,d,p,h,hs=>by
   rw[qJ]at h
   simp only[Bool.and_eq_true]at h
   obtain⟨⟨⟨⟨h1,h2⟩,h3⟩,h4⟩,h5⟩:=h
   simp only[aX,Bool.and_eq_true]at h4
   simp only[dX]at hs
   have hk:key.size≤30:=by simp only[kC,decide_eq_true_eq]at h1;omega
   have hl:=nM sub
   exact⟨by omega,⟨by omega,Ii h4.1.2⟩,by omega,CQ sub _ _ h4.2 (by omega),CQ rest _ _ h5 (by omega)⟩
theorem Pn {d:Nat} {es:List aG} {ks:aI} (h:aX d es ks=true) (hs:sizeT es ks≤100000):gG es ks:=by
 simp only[aX,Bool.and_eq_true]at h
 have hl:=nM ks
 unfold sizeT at hs
 exact⟨⟨by omega,Ii h.1.2⟩,by omega,CQ ks _ _ h.2 (by omega)⟩
theorem Po {c:aU} (h:bH c):gB c:=fun s hs=>by
 have hd:∀ {c:aU} {lo:Int},dU lo c→s∈c→lo≤s.1∧s.1<4:=by
  intro c
  induction c with
  |nil=>intro lo _ hm;cases hm
  |cons x c ih=>
   intro lo h hm
   rcases List.mem_cons.1 hm with rfl|hm
   ·exact⟨h.1,h.2.1⟩
   ·have:=ih h.2.2 hm;have:=h.1;omega
 obtain⟨h0,h4⟩:=hd h.1 hs
 have hp:=h.2 s.1 h0 h4
 have hm:s.2∈aZ c s.1:=by
  unfold aZ
  exact List.mem_map.2 ⟨s,List.mem_filter.2 ⟨hs,by simp⟩,rfl⟩
 have g1:=iI hp.1 _ hm
 have g2:=hp.2 _ hm
 omega
theorem Pq {a b u:aQ} (ha:dI 1 a) (hb:dI 1 b) (hu:dI 1 u) (h:∀n,aV u n↔aV a n∨aV b n):u.length≤a.length+b.length:=by
 have before:∀ {l:aQ} {lo:Int},dI lo l→∀r∈l,¬aV l (r.1-1):=by
  intro l
  induction l with
  |nil=>intro lo _ r hr;cases hr
  |cons x l ih=>
   intro lo hl r hr hi
   rcases List.mem_cons.1 hr with rfl|hr
   ·rcases(jf _ _ _).1 hi with g|g
    ·omega
    ·have:=n_ hl.2.2 g;have:=hl.2.1;omega
   ·have hx:=iI hl.2.2 r hr
    rcases(jf _ _ _).1 hi with g|g
    ·omega
    ·exact ih hl.2.2 r hr g
 have start:∀ {l:aQ} {n:Int},aV l n→¬aV l (n-1)→n∈l.map (·.1):=fun {l n} ⟨r,hr,h1,h2⟩ hn=>by
  refine List.mem_map.2 ⟨r,hr,?_⟩
  rcases Int.lt_or_eq_of_le h1 with g|g
  ·exact absurd ⟨r,hr,by omega,by omega⟩ hn
  ·exact g
 have hn:=yw hu
 have:=yu (l:=a.map (·.1)++b.map (·.1)) hn fun x hx=>by
  obtain⟨r,hr,rfl⟩:=List.mem_map.1 hx
  have h1:aV u r.1:=⟨r,hr,Int.le_refl _,(iI hu r hr).2⟩
  have h2:=before hu r hr
  rw[h]at h1
  have h2:¬(aV a (r.1-1)∨aV b (r.1-1)):=fun g=>h2 ((h _).2 g)
  rcases h1 with h1|h1
  ·exact List.mem_append_left _ (start h1 fun g=>h2 (.inl g))
  ·exact List.mem_append_right _ (start h1 fun g=>h2 (.inr g))
 simpa using this
theorem Pv (p:Int→aQ):(gZ p).length=(p 0).length+((p 1).length+((p 2).length+(p 3).length)):=by simp[gZ,cO]
theorem Px {a b u:aU} (ha:bH a) (hb:bH b) (h:fU 0 a b u):u.length≤a.length+b.length:=by
 have hd:∀d,0≤d→d<4→(aZ u d).length≤(aZ a d).length+(aZ b d).length:=fun d h0 h4=>
  Pq (ha.2 d h0 h4).1 (hb.2 d h0 h4).1 (h.right.2 d h0 h4).1 fun n=>by
   have:=h.mem d n h0 h4
   unfold cZ fC at this
   simpa using this
 have e:∀ {c:aU},bH c→c.length=(aZ c 0).length+((aZ c 1).length+((aZ c 2).length+(aZ c 3).length)):=fun {c} hc=>by
  conv=>lhs;rw[←pz (Int.le_refl 0) hc.1]
  exact Pv _
 rw[e ha,e hb,e h.right]
 have g0:=hd 0 (by decide) (by decide)
 have g1:=hd 1 (by decide) (by decide)
 have g2:=hd 2 (by decide) (by decide)
 have g3:=hd 3 (by decide) (by decide)
 omega
section
variable {es es':List aG} {ks ks':aI} {c c' u:aU}
theorem Ij (h:eG es ks c) (h':eG es' ks' c') (hu:fU 0 c c' u):eG (lD es ks c es' ks' c').1 (lD es ks c es' ks' c').2 u:=by
 refine⟨Oh _ _ 5 5 (es,ks) (es',ks') (Nat.le_refl _) h.tree h'.tree,hu.right,fun r hr=>?_⟩
 have hin:∀ {a:aU},bH a→fC a r.1 r.2→0≤r.1∧r.1<4:=fun {a} ha hi=>by
  obtain⟨x,hx,_⟩:=hi
  unfold aZ at hx
  obtain⟨s,hs,rfl⟩:=List.mem_map.1 hx
  obtain⟨hs,he⟩:=List.mem_filter.1 hs
  have hd:∀ {c:aU} {lo:Int},dU lo c→s∈c→lo≤s.1∧s.1<4:=by
   intro c
   induction c with
   |nil=>intro lo _ hm;cases hm
   |cons x c ih=>
    intro lo h hm
    rcases List.mem_cons.1 hm with rfl|hm
    ·exact⟨h.1,h.2.1⟩
    ·have:=ih h.2.2 hm;have:=h.1;omega
  have:=hd ha.1 hs
  have he:s.1=r.1:=by simpa using he
  omega
 have hr:r∈bU (gy (gq c) (gq c') 5 (es,ks) (es',ks')).1 (gy (gq c) (gq c') 5 (es,ks) (es',ks')).2:=hr
 rcases GY _ _ r _ _ _ hr with g|g
 ·have g2:=h.dots r g
  obtain⟨h0,h4⟩:=hin h.ctx g2
  exact(hu.mem _ _ h0 h4).2 (by unfold cZ;simp[g2])
 ·have g2:=h'.dots r g
  obtain⟨h0,h4⟩:=hin h'.ctx g2
  exact(hu.mem _ _ h0 h4).2 (by unfold cZ;simp[g2])
theorem Py (h:eG es ks c) (h':eG es' ks' c') (hu:fU 0 c c' u) (s:sizeT es ks+sizeT es' ks'≤2000) (l:c.length+c'.length≤2000):fG (lD es ks c es' ks' c').1 (lD es ks c es' ks' c').2 u:=by
 have hs:kG (gy (gq c) (gq c') 5 (es,ks) (es',ks'))≤sizeT es ks+sizeT es' ks':=Ih _ _ 5 _ _ h.tree h'.tree
 have hr:=Ij h h' hu
 have hs2:sizeT (lD es ks c es' ks' c').1 (lD es ks c es' ks' c').2≤2000:=Nat.le_trans hs s
 exact⟨Pn hr.tree (by omega),hs2,Po hu.right,Nat.le_trans (Px h.ctx h'.ctx hu) l⟩
theorem Pz:lD es ks c es' ks' c'=lD es' ks' c' es ks c:=GV _ _ 5 _ _
theorem PD (h:fU 0 c c' u):fU 0 c' c u:=⟨h.right,fun d n h0 h4=>by
 rw[h.mem d n h0 h4]
 unfold cZ
 simp[or_comm]⟩
end
open Go.RowKit
def PE (w:World) (f:Int→Int) (e:Ending) (w':World):Prop:=
 aj au w w'∧(jO f→∃v',e= .returned (.tuple #[v', .int .i64 0])∧OwnAt w w' 144 3 v' (eH f).length (bT (eH f))∧(eH f).length≤4)∧(¬jO f→e= .returned (.tuple #[.slice none 0 0, .int .i64 1]))
theorem tV (w:World) (v0 v1 v2 v3:Int):Calls Tryz.prog 124 #[jh v0 v1 v2 v3] w (PE w (aS v0 v1 v2 v3)):=by
 obtain⟨i0,hi,hz0,hz1,hz2⟩:=info_parts qE
 have hix:∀(k:Nat),k<4→∀W,(Instr.index 25 (.agg #[.int .i64 v0, .int .i64 v1, .int .i64 v2, .int .i64 v3]) (.int .i64 (k:Int))).run Tryz.prog W= .ok (.int .i64 (aS v0 v1 v2 v3 k)) W:=fun k hk=>by
  rcases(by omega:k=0∨k=1∨k=2∨k=3)with rfl|rfl|rfl|rfl<;>exact fun _=>by kernel_rfl
 have tX:=ah hix;clear hix
 unfold jh
 generalize hf:aS v0 v1 v2 v3=f at*
 clear hf
 go_enter Tryz.func124,Tryz.ntmps124
 go_wp2
 go_loopw [4,8] (fun v i ww=>∃(k:Nat) (c:aU),k≤4∧i= .int .i64 k∧OwnAt w ww 144 3 v c.length (bT c)∧g_ (Ap f) k c∧c.length≤k∧∀d:Int,0≤d→d<k→0≤f d∧f d≤1099511627776) (fun _ i _=>4-(intOf i).toNat)
 case atStart=>exact⟨0,[],by omega,rfl,OwnAt.nil (aj.alloc _ _ _) _ _,g_.zero _,Nat.zero_le _,fun d h0 h1=>by have:d<0:=h1;omega⟩
 case round=>
  obtain⟨k,c,hk,rfl,ho,hu,hlen,hr⟩:=hrel
  obtain⟨av,cv,rfl⟩:=ho.shape
  have HO:=ah ho;clear ho
  have HU:=ah hu;clear hu
  have HLEN:=ah hlen;clear hlen
  have HR:=ah hr;clear hr
  by_cases hlt:k<4
  ·have hx:=tX.out k hlt
   have hst:=HU.out.step (o:=jI (f k)) (by omega) (by omega) rfl
   have hL:c.length≤4:=by have:=HLEN.out;omega
   have hrr:0≤f k∧f k≤1099511627776→∀d:Int,0≤d→d<((k+1:Nat):Int)→0≤f d∧f d≤1099511627776:=fun h d h0 h1=>by
    by_cases he:d=k
    ·subst he;exact h
    ·exact HR.out d h0 (by omega)
   have hno:¬(0≤f k∧f k≤1099511627776)→¬jO f:=fun h hm=>h (hm k (by omega) (by omega))
   have HRR:=ah hrr;clear hrr
   have ji:=ah hno;clear hno
   by_cases c1:f k<0
   ·generalize f k=x at*
    clear hst hL
    go_wp2
    go_ret2
    exact⟨HO.out.aH,fun h=>absurd h (ji.out (by omega)),fun _=>rfl⟩
   ·by_cases c2:1099511627776<f k
    ·generalize f k=x at*
     clear hst hL
     go_wp2
     go_ret2
     exact⟨HO.out.aH,fun h=>absurd h (ji.out (by omega)),fun _=>rfl⟩
    ·by_cases h0:0<f k
     ·have he:cO (k:Int) (jI (f k))=[((k:Int),1,f k)]:=by unfold jI;rw[if_pos h0];rfl
      rw[he]at hst
      clear he
      generalize f k=x at*
      have HST:=ah hst;clear hst
      have HL:=ah hL;clear hL
      go_wp2_with(at_builtin;refine jg w _ [.int .i64 k, .int .i64 1, .int .i64 x] rfl (.tmp 20) (.tmp 24) 32 rfl 144 i0 _ 3 24 Tryz.underlying32 hi hz0 hz1 hz2 (by decide) (by decide) _ _ _ HO.out 1 1 rfl rfl rfl (by simp[Value.oneCell']) (by have:=HL.out;simp only[maxLen];omega) (by have:=HL.out;omega) ?_;intro ad cc w2 bC;have OW:=ah bC;clear bC)
      go_roundw
      case rel=>exact⟨k+1,c++ [((k:Int),1,x)],by omega,by go_num,by rw[List.length_append,rV];exact OW.out,HST.out,by rw[List.length_append];have:=HLEN.out;simp;omega,HRR.out ⟨by omega,by omega⟩⟩
      case measure=>simp[intOf];omega
     ·have he:cO (k:Int) (jI (f k))=[]:=by unfold jI;rw[if_neg h0];rfl
      rw[he,List.append_nil]at hst
      clear he
      generalize f k=x at*
      have HST:=ah hst;clear hst
      clear hL
      go_wp2
      go_roundw
      case rel=>exact⟨k+1,c,by omega,by go_num,HO.out,HST.out,by have:=HLEN.out;omega,HRR.out ⟨by omega,by omega⟩⟩
      case measure=>simp[intOf];omega
  ·obtain rfl:k=4:=by omega
   go_wp2
   go_ret2
   have:=HU.out.full
   subst this
   exact⟨HO.out.aH,fun _=>⟨_,rfl,HO.out,HLEN.out⟩,fun h=>absurd (fun d h0 h4=>HR.out d h0 h4) h⟩
theorem PG (w:World) (dc a b:Int) (h0:0≤dc) (h4:dc<4) (ha:1≤a) (hab:a≤b) (hb:b≤1099511627776):
 Calls Tryz.prog 185 #[.int .i64 dc, .int .i64 a, .int .i64 b] w fun e w'=>∃v',e= .returned (.tuple #[v', .int .i64 0])∧dL w' v' [(dc,a,b)]∧aj au w w':=by
 have hd1:iO dc a=true:=by unfold iO;simp;omega
 have hd2:iO dc b=true:=by unfold iO;simp;omega
 go_enter Tryz.func185,Tryz.ntmps185
 go_wp2_with(go_at_call 236;refine(qC _ _ _).mono ?_;rintro e w1 ⟨rfl,hw1⟩;first|rw[hd1]|rw[hd2])
 go_ret2
 rename_i wa PI _
 have hc:(w1.alloc (.cells #[.int .i64 dc, .int .i64 a, .int .i64 b] 144)).heap[w1.heap.size]?=_:=heap_alloc_new w1 _
 refine⟨_,rfl, .inr ⟨w1.heap.size,0,1,rfl,Nat.le_refl _,by simp[maxLen],fun j u hu=>?_⟩,(PI.ay hw1).alloc1⟩
 rw[Nat.zero_add]
 have hu2:([.int .i64 dc, .int .i64 a, .int .i64 b]:List Value)[j]?=some u:=hu
 exact aF hc j (by simpa using hu2)
open Go.RowKit
def lV (f:Int→Int):Array Value:= #[.int .i64 (f 0), .int .i64 (f 1), .int .i64 (f 2), .int .i64 (f 3)]
theorem PK (f:Int→Int) {k:Nat} (h:k<4):(lV f)[k]?=some (.int .i64 (f k)):=by
 rcases(by omega:k=0∨k=1∨k=2∨k=3)with rfl|rfl|rfl|rfl<;>rfl
theorem PL (f:Int→Int) {k:Nat} (h:k<4) (x:Int):(lV f).setIfInBounds k (.int .i64 x)=lV (dA f k x):=by
 rcases(by omega:k=0∨k=1∨k=2∨k=3)with rfl|rfl|rfl|rfl<;>simp[lV,dA]
theorem Ik {f g:Int→Int} (h:∀d,0≤d→d<4→f d=g d):lV f=lV g:=by
 unfold lV
 rw[h 0 (by decide) (by decide),h 1 (by decide) (by decide),h 2 (by decide) (by decide),h 3 (by decide) (by decide)]
def fQ (w:World) (g:Nat) (f:Int→Int) (T:TypeId):Prop:=w.heap[g]?=some (.cells (lV f) T (0,0))
theorem fQ.cell {w:World} {g:Nat} {f:Int→Int} {T:TypeId} (h:fQ w g f T) {k:Nat} (hk:k<4):w.cell? ⟨g,k,none⟩=some (.int .i64 (f k)):=aF h k (PK f hk)
theorem fQ.free {w:World} {g:Nat} {f:Int→Int} {T:TypeId} (h:fQ w g f T) (k:Nat):w.frozen? ⟨g,k,none⟩=false:=aY h k
theorem fQ.set {w:World} {g:Nat} {f:Int→Int} {T:TypeId} (h:fQ w g f T) {k:Nat} (hk:k<4) (x:Int):fQ (w.setCell ⟨g,k,none⟩ (.int .i64 x)) g (dA f k x) T:=by
 have:=dY h k (.int .i64 x)
 rw[PL f hk]at this
 exact this
theorem fQ.keep {w w':World} {g:Nat} {f:Int→Int} {T:TypeId} (h:fQ w g f T) (fr:aj au w w'):fQ w' g f T:=fr.blk h id
theorem fQ.congr {w:World} {g:Nat} {f f':Int→Int} {T:TypeId} (h:fQ w g f T) (he:∀d,0≤d→d<4→f d=f' d):fQ w g f' T:=by
 unfold fQ at*
 rw[←Ik he]
 exact h
theorem PN (w:World) (v0 v1 v2 v3:Int) (T:TypeId):fQ (w.alloc (.cells #[.int .i64 v0, .int .i64 v1, .int .i64 v2, .int .i64 v3] T)) w.heap.size (aS v0 v1 v2 v3) T:=heap_alloc_new w _
def iG (f g:Int→Int):Prop:=∀d,0≤d→d<4→f d≤g d
def oQ (f g:Int→Int) (d:Int):Int:=max (f d) (g d)
def mW (f g:Int→Int) (k:Nat) (d:Int):Int:=if d<k then max (f d) (g d)else f d
theorem PO (f g:Int→Int) (k:Nat) (d:Int):dA (mW f g k) k (max (f k) (g k)) d=mW f g (k+1) d:=by
 unfold dA mW
 by_cases h:d=k
 ·subst h;simp;intro h3;omega
 ·rw[if_neg h]
  by_cases h2:d<k
  ·rw[if_pos h2,if_pos (by omega)]
  ·rw[if_neg h2,if_neg (by omega)]
theorem PS (f g:Int→Int) (k:Nat):mW f g k k=f k:=by unfold mW;simp
theorem PU (f g:Int→Int) {d:Int} (h:d<4):mW f g 4 d=oQ f g d:=by unfold mW oQ;exact if_pos (by omega)
theorem PV (w:World) (v0 v1 v2 v3 u0 u1 u2 u3:Int):Calls Tryz.prog 92 #[jh v0 v1 v2 v3,jh u0 u1 u2 u3] w fun e w'=>e= .returned (.bool (tf (iG (aS v0 v1 v2 v3) (aS u0 u1 u2 u3))))∧aj au w w':=by
 obtain⟨hb1,hfb,hbs⟩:=oL w (.cells #[.int .i64 v0, .int .i64 v1, .int .i64 v2, .int .i64 v3] 25) #[.int .i64 u0, .int .i64 u1, .int .i64 u2, .int .i64 u3] 25
 have hb1:fQ ((w.alloc (.cells #[.int .i64 v0, .int .i64 v1, .int .i64 v2, .int .i64 v3] 25)).alloc (.cells #[.int .i64 u0, .int .i64 u1, .int .i64 u2, .int .i64 u3] 25)) (w.heap.size+1) (aS u0 u1 u2 u3) 25:=hb1
 have hb0:fQ ((w.alloc (.cells #[.int .i64 v0, .int .i64 v1, .int .i64 v2, .int .i64 v3] 25)).alloc (.cells #[.int .i64 u0, .int .i64 u1, .int .i64 u2, .int .i64 u3] 25)) w.heap.size (aS v0 v1 v2 v3) 25:=(PN w v0 v1 v2 v3 _).keep (aj.alloc _ _ _)
 have HB0:=ah hb0;clear hb0
 have HB1:=ah hb1;clear hb1
 have bW:=ah hfb;clear hfb hbs
 unfold jh
 generalize hf:aS v0 v1 v2 v3=f at*
 generalize hg:aS u0 u1 u2 u3=g at*
 clear hf hg
 go_enter Tryz.func92,Tryz.ntmps92
 go_wp2
 go_loopw [6] (fun i ww=>∃k:Nat,k≤4∧i= .int .i64 k∧(∀d:Int,0≤d→d<k→f d≤g d)∧aj au ((w.alloc (.cells #[.int .i64 v0, .int .i64 v1, .int .i64 v2, .int .i64 v3] 25)).alloc (.cells #[.int .i64 u0, .int .i64 u1, .int .i64 u2, .int .i64 u3] 25)) ww) (fun i _=>4-(intOf i).toNat)
 case atStart=>exact⟨0,Nat.zero_le _,rfl,(fun d h0 h1=>by have:d<0:=h1;omega),aj.refl _ _⟩
 case round=>
  obtain⟨k,hk,rfl,hr,hw⟩:=hrel
  have HR:=ah hr;clear hr
  have HW:=ah hw;clear hw
  by_cases hlt:k<4
  ·have hki:(k:Int)<4:=by omega
   have c0:=(HB0.out.keep HW.out).cell hlt
   have c1:=(HB1.out.keep HW.out).cell hlt
   have hst:f k≤g k→∀d:Int,0≤d→d<((k+1:Nat):Int)→f d≤g d:=fun h d h0 h1=>by
    by_cases he:d=k
    ·subst he;exact h
    ·exact HR.out d h0 (by omega)
   have hno:g k<f k→¬iG f g:=fun h h2=>by have:=h2 k (by omega) hki;omega
   have HST:=ah hst;clear hst
   have ji:=ah hno;clear hno
   generalize f k=x at*
   generalize g k=y at*
   cases hc:decide (y<x)with
   |true=>
    have HC:=ah hc
    go_wp2_with fail
    go_quiet (fail)
    go_wp2
    go_ret
    exact⟨bg (bn (ji.out (by simpa using HC.out))).symm,bW.out.ay HW.out.eF⟩
   |false=>
    have HC:=ah hc
    go_wp2_with fail
    go_quiet (fail)
    go_wp2
    go_roundw
    case rel=>exact⟨k+1,by omega,by go_num,HST.out (by have:=HC.out;simp at this;exact this),HW.out.eF⟩
    case measure=>simp[intOf];omega
  ·obtain rfl:k=4:=by omega
   go_wp2
   go_ret
   exact⟨bg (bM (fun d h0 h4=>HR.out d h0 h4)).symm,bW.out.ay HW.out⟩
theorem fQ.CS {w:World} {b:Nat} {f:Int→Int} {T:TypeId} (h:fQ w b f T) (g:Int→Int):fQ ((((w.setCell ⟨b,0,none⟩ (.int .i64 (g 0))).setCell ⟨b,1,none⟩ (.int .i64 (g 1))).setCell ⟨b,2,none⟩ (.int .i64 (g 2))).setCell ⟨b,3,none⟩ (.int .i64 (g 3))) b g T:=
 dY (dY (dY (dY h 0 _) 1 _) 2 _) 3 _
theorem aj.CS {w0 w:World} {b:Nat} (f:aj au w0 w) (hb:w0.heap.size≤b) (v0 v1 v2 v3:Value):aj au w0 ((((w.setCell ⟨b,0,none⟩ v0).setCell ⟨b,1,none⟩ v1).setCell ⟨b,2,none⟩ v2).setCell ⟨b,3,none⟩ v3):=
 (((f.set1 (p:=⟨b,0,none⟩) (.inr hb)).set1 (p:=⟨b,1,none⟩) (.inr hb)).set1 (p:=⟨b,2,none⟩) (.inr hb)).set1 (p:=⟨b,3,none⟩) (.inr hb)
open Go.RowKit
theorem ql (w:World) (u0 u1 u2 u3 u4 u5 u6 u7 u8 u9:Value) (T:TypeId) (W:World) (f:aj au (w.alloc (.cells #[u0,u1,u2,u3,u4,u5,u6,u7,u8,u9] T)) W):W.cell? ⟨w.heap.size,0,none⟩=some u0∧W.cell? ⟨w.heap.size,1,none⟩=some u1∧W.cell? ⟨w.heap.size,2,none⟩=some u2∧W.cell? ⟨w.heap.size,3,none⟩=some u3∧W.cell? ⟨w.heap.size,4,none⟩=some u4∧W.cell? ⟨w.heap.size,5,none⟩=some u5∧W.cell? ⟨w.heap.size,6,none⟩=some u6∧W.cell? ⟨w.heap.size,7,none⟩=some u7∧W.cell? ⟨w.heap.size,8,none⟩=some u8∧W.cell? ⟨w.heap.size,9,none⟩=some u9:=
 ⟨f.cell' (aF (heap_alloc_new w _) 0 rfl) id,f.cell' (aF (heap_alloc_new w _) 1 rfl) id,f.cell' (aF (heap_alloc_new w _) 2 rfl) id,f.cell' (aF (heap_alloc_new w _) 3 rfl) id,f.cell' (aF (heap_alloc_new w _) 4 rfl) id,f.cell' (aF (heap_alloc_new w _) 5 rfl) id,f.cell' (aF (heap_alloc_new w _) 6 rfl) id,f.cell' (aF (heap_alloc_new w _) 7 rfl) id,f.cell' (aF (heap_alloc_new w _) 8 rfl) id,f.cell' (aF (heap_alloc_new w _) 9 rfl) id⟩
theorem vT {f g:Int→Int} (h:∀d,0≤d→d<4→f d=g d):eH f=eH g:=by
 unfold eH gZ
 simp only[h 0 (by decide) (by decide),h 1 (by decide) (by decide),h 2 (by decide) (by decide),h 3 (by decide) (by decide)]
theorem zn {f g:Int→Int} (h:∀d,0≤d→d<4→f d=g d):jO f↔jO g:=by
 unfold jO
 exact⟨fun x d h0 h4=>by rw[←h d h0 h4];exact x d h0 h4,fun x d h0 h4=>by rw[h d h0 h4];exact x d h0 h4⟩
theorem qm (v0 v1 v2 v3 x d:Int) (h0:0≤d) (h4:d<4):
 aS x v1 v2 v3 d=dA (aS v0 v1 v2 v3) 0 x d∧aS v0 x v2 v3 d=dA (aS v0 v1 v2 v3) 1 x d∧aS v0 v1 x v3 d=dA (aS v0 v1 v2 v3) 2 x d∧aS v0 v1 v2 x d=dA (aS v0 v1 v2 v3) 3 x d:=by
 rcases four h0 h4 with rfl|rfl|rfl|rfl<;>simp[aS,dA]
theorem jl.CU {dc af la x:Int} {f:Int→Int} (h:jl dc af la f) (h0:0≤x) (h1:x≤1099511627776):jO (dA f dc x):=fun d h2 h4=>by
 unfold dA
 by_cases he:d=dc
 ·rw[if_pos he];exact⟨h0,h1⟩
 ·rw[if_neg he];exact h.2.2.2.2.2.2 d h2 h4
theorem jl.tY {dc af la:Int} {f:Int→Int} (h:jl dc af la f):bH [(dc,af+1,la)]:=by
 obtain⟨h0,h1,h2,h3,h4,h5,h6⟩:=h
 exact xG h0 h1 (by omega) (by omega) h4
open Go.RowKit
theorem Il (w:World) (dc af la v0 v1 v2 v3:Int) (a0 a1 a2:Option Addr) (n m k c0 c1 c2:Nat):
 Calls Tryz.prog 143 #[.agg #[.int .i64 dc, .int .i64 af, .int .i64 la, .int .i64 v0, .int .i64 v1, .int .i64 v2, .int .i64 v3, .slice a0 n c0, .slice a1 m c1, .slice a2 k c2]] w fun e w'=>e= .returned (.bool (tf (jl dc af la (aS v0 v1 v2 v3))))∧aj au w w':=by
 obtain⟨α,hne,K,hK1,hK0,hK2⟩:=worlds (w.alloc (.cells #[.int .i64 dc, .int .i64 af, .int .i64 la, .int .i64 v0, .int .i64 v1, .int .i64 v2, .int .i64 v3, .slice a0 n c0, .slice a1 m c1, .slice a2 k c2] 59))
 have kb:=fun s=>ql w _ _ _ _ _ _ _ _ _ _ _ (K s) (hK1 s)
 have k0:=fun s=>(kb s).1
 have k1:=fun s=>(kb s).2.1
 have k2:=fun s=>(kb s).2.2.1
 have k3:=fun s=>(kb s).2.2.2.1
 have k4:=fun s=>(kb s).2.2.2.2.1
 have k5:=fun s=>(kb s).2.2.2.2.2.1
 have k6:=fun s=>(kb s).2.2.2.2.2.2.1
 have k7:=fun s=>(kb s).2.2.2.2.2.2.2.1
 have k8:=fun s=>(kb s).2.2.2.2.2.2.2.2.1
 have k9:=fun s=>(kb s).2.2.2.2.2.2.2.2.2
 clear kb
 cases h0:decide (dc<0)with
 |true=>
  rw[bn (fun h=>by obtain⟨g0,g1,g2,g3,g4,g5,g6⟩:=h;simp at h0;omega)]
  go_enter Tryz.func143,Tryz.ntmps143
  go_wp2_with fail
  refine bK K (by kernel_rfl) (by kernel_rfl) hK0 ?_
  repeat(go_big_quiet_step (fail))
  refine wpQuiet_nil ?_
  intro w' hw'
  obtain⟨s,rfl⟩:=hw'
  have hfs:=(aj.alloc au w _).ay (hK1 s)
  go_wp2
  go_ret
  exact⟨rfl,hfs⟩
 |false=>
  cases h1:decide (4≤dc)with
  |true=>
   rw[bn (fun h=>by obtain⟨g0,g1,g2,g3,g4,g5,g6⟩:=h;simp at h1;omega)]
   go_enter Tryz.func143,Tryz.ntmps143
   go_wp2_with fail
   refine bK K (by kernel_rfl) (by kernel_rfl) hK0 ?_
   repeat(go_big_quiet_step (fail))
   refine wpQuiet_nil ?_
   intro w' hw'
   obtain⟨s,rfl⟩:=hw'
   have hfs:=(aj.alloc au w _).ay (hK1 s)
   go_wp2
   go_ret
   exact⟨rfl,hfs⟩
  |false=>
   cases h2:decide (af<0)with
   |true=>
    rw[bn (fun h=>by obtain⟨g0,g1,g2,g3,g4,g5,g6⟩:=h;simp at h2;omega)]
    go_enter Tryz.func143,Tryz.ntmps143
    go_wp2_with fail
    refine bK K (by kernel_rfl) (by kernel_rfl) hK0 ?_
    repeat(go_big_quiet_step (fail))
    refine wpQuiet_nil ?_
    intro w' hw'
    obtain⟨s,rfl⟩:=hw'
    have hfs:=(aj.alloc au w _).ay (hK1 s)
    go_wp2
    go_ret
    exact⟨rfl,hfs⟩
   |false=>
    cases h3:decide (la≤af)with
    |true=>
     rw[bn (fun h=>by obtain⟨g0,g1,g2,g3,g4,g5,g6⟩:=h;simp at h3;omega)]
     go_enter Tryz.func143,Tryz.ntmps143
     go_wp2_with fail
     refine bK K (by kernel_rfl) (by kernel_rfl) hK0 ?_
     repeat(go_big_quiet_step (fail))
     refine wpQuiet_nil ?_
     intro w' hw'
     obtain⟨s,rfl⟩:=hw'
     have hfs:=(aj.alloc au w _).ay (hK1 s)
     go_wp2
     go_ret
     exact⟨rfl,hfs⟩
    |false=>
     cases h4:decide (1099511627776<la)with
     |true=>
      rw[bn (fun h=>by obtain⟨g0,g1,g2,g3,g4,g5,g6⟩:=h;simp at h4;omega)]
      go_enter Tryz.func143,Tryz.ntmps143
      go_wp2_with fail
      refine bK K (by kernel_rfl) (by kernel_rfl) hK0 ?_
      repeat(go_big_quiet_step (fail))
      refine wpQuiet_nil ?_
      intro w' hw'
      obtain⟨s,rfl⟩:=hw'
      have hfs:=(aj.alloc au w _).ay (hK1 s)
      go_wp2
      go_ret
      exact⟨rfl,hfs⟩
     |false=>
      obtain⟨dn,hdn⟩:∃dn:Nat,dc=dn:=⟨dc.toNat,by simp at h0;omega⟩
      subst hdn
      have hd4:dn<4:=by simp at h1;omega
      have kd:∀s,(K s).cell? ⟨w.heap.size,3+dn,none⟩=some (.int .i64 (aS v0 v1 v2 v3 dn)):=fun s=>by
       rcases(by omega:dn=0∨dn=1∨dn=2∨dn=3)with rfl|rfl|rfl|rfl
       ·exact k3 s
       ·exact k4 s
       ·exact k5 s
       ·exact k6 s
      have nS:(dn:Int)<4:=by omega
      have zo:decide ((dn:Int)<4)=true:=by simpa using nS
      obtain⟨fd,hfd⟩:∃fd,fd=aS v0 v1 v2 v3 dn:=⟨_,rfl⟩
      rw[←hfd]at kd
      have Io:=ah hfd;clear hfd
      cases h5:decide (af<fd)with
      |true=>
       rw[bn (fun h=>by obtain⟨g0,g1,g2,g3,g4,g5,g6⟩:=h;simp at h5;have:=Io.out;omega)]
       go_enter Tryz.func143,Tryz.ntmps143
       go_wp2_with fail
       refine bK K (by kernel_rfl) (by kernel_rfl) hK0 ?_
       repeat(go_big_quiet_step (fail))
       refine wpQuiet_nil ?_
       intro w' hw'
       obtain⟨s,rfl⟩:=hw'
       have hfs:=(aj.alloc au w _).ay (hK1 s)
       go_wp2
       go_ret
       exact⟨rfl,hfs⟩
      |false=>
       by_cases hm:jO (aS v0 v1 v2 v3)
       ·rw[bM (show jl dn af la (aS v0 v1 v2 v3)from by simp at h1 h2 h3 h4 h5;have:=Io.out;exact⟨by omega,by omega,h2,h3,h4,by omega,hm⟩)]
        go_enter Tryz.func143,Tryz.ntmps143
        go_wp2_with fail
        refine bK K (by kernel_rfl) (by kernel_rfl) hK0 ?_
        repeat(go_big_quiet_step (fail))
        refine wpQuiet_nil ?_
        intro w' hw'
        obtain⟨s,rfl⟩:=hw'
        have hfs:=(aj.alloc au w _).ay (hK1 s)
        go_wp2_with(go_at_call 124;refine(tV _ v0 v1 v2 v3).mono ?_;rintro e w2 ⟨hf2,hp1,hp2⟩;obtain⟨v',rfl,ho,-⟩:=hp1 hm;obtain⟨a',c',rfl⟩:=ho.shape;have HF2:=ah hf2;clear hf2 hp1 hp2)
        go_ret
        exact⟨rfl,hfs.ay HF2.out⟩
       ·rw[bn (fun h=>hm h.2.2.2.2.2.2)]
        go_enter Tryz.func143,Tryz.ntmps143
        go_wp2_with fail
        refine bK K (by kernel_rfl) (by kernel_rfl) hK0 ?_
        repeat(go_big_quiet_step (fail))
        refine wpQuiet_nil ?_
        intro w' hw'
        obtain⟨s,rfl⟩:=hw'
        have hfs:=(aj.alloc au w _).ay (hK1 s)
        go_wp2_with(go_at_call 124;refine(tV _ v0 v1 v2 v3).mono ?_;rintro e w2 ⟨hf2,hp1,hp2⟩;obtain rfl:=hp2 hm;have HF2:=ah hf2;clear hf2 hp1 hp2)
        go_ret
        exact⟨rfl,hfs.ay HF2.out⟩
theorem Ip (w:World) (dc af la v0 v1 v2 v3:Int) (a0 a1 a2:Option Addr) (n m k c0 c1 c2:Nat) (hn:jl dc af la (aS v0 v1 v2 v3)):
 Calls Tryz.prog 145 #[.agg #[.int .i64 dc, .int .i64 af, .int .i64 la, .int .i64 v0, .int .i64 v1, .int .i64 v2, .int .i64 v3, .slice a0 n c0, .slice a1 m c1, .slice a2 k c2]] w fun e w'=>∃v',e= .returned v'∧dL w' v' [(dc,af+1,la)]∧aj au w w':=by
 have hb:0≤dc∧dc<4∧0≤af∧af<la∧la≤1099511627776:=⟨hn.1,hn.2.1,hn.2.2.1,hn.2.2.2.1,hn.2.2.2.2.1⟩
 have hwr:IntKind.i64.wrap (af+1)=af+1:=by simp[IntKind.wrap,IntKind.bits,IntKind.signed];omega
 clear hn
 go_enter Tryz.func145,Tryz.ntmps145
 go_wp2_with(go_at_call 185;refine(PG _ dc (af+1) la (by omega) (by omega) (by omega) (by omega) (by omega)).mono ?_;rintro e w1 ⟨v1,rfl,hc1,hf1⟩;obtain⟨a',c',rfl⟩:=Rd.sl hc1;have kH:=ah hc1;clear hc1;have dN:=ah hf1;clear hf1)
 go_ret
 exact⟨_,rfl,kH.out,(aj.alloc au _ _).ay dN.out⟩
theorem PW (w:World) (dc af la v0 v1 v2 v3:Int) (a0 a1 a2:Option Addr) (n m k c0 c1 c2:Nat) (hn:jl dc af la (aS v0 v1 v2 v3)):
 Calls Tryz.prog 148 #[.agg #[.int .i64 dc, .int .i64 af, .int .i64 la, .int .i64 v0, .int .i64 v1, .int .i64 v2, .int .i64 v3, .slice a0 n c0, .slice a1 m c1, .slice a2 k c2]] w fun e w'=>∃v',e= .returned v'∧OwnAt w w' 144 3 v' (eH (dA (aS v0 v1 v2 v3) dc la)).length (bT (eH (dA (aS v0 v1 v2 v3) dc la)))∧(eH (dA (aS v0 v1 v2 v3) dc la)).length≤4:=by
 have hm:=hn.CU (x:=la) (by have:=hn.2.2.1;have:=hn.2.2.2.1;omega) hn.2.2.2.2.1
 have h0:=hn.1
 have h4:=hn.2.1
 clear hn
 rcases four h0 h4 with rfl|rfl|rfl|rfl
 ·have he:=vT (f:=aS la v1 v2 v3) (g:=dA (aS v0 v1 v2 v3) 0 la) (fun x h0 h4=>(qm v0 v1 v2 v3 la x h0 h4).1)
  have hm2:jO (aS la v1 v2 v3):=(zn (fun x h0 h4=>(qm v0 v1 v2 v3 la x h0 h4).1)).2 hm
  rw[←he]
  clear he hm h0 h4
  go_enter Tryz.func148,Tryz.ntmps148
  go_wp2_with(go_at_call 124;refine(tV _ la v1 v2 v3).mono ?_;rintro e w2 ⟨hf2,hp1,-⟩;obtain⟨v',rfl,ho,hl⟩:=hp1 hm2;obtain⟨a',c',rfl⟩:=ho.shape;have HO:=ah ho;clear ho hf2 hp1;have HL:=ah hl;clear hl)
  go_ret
  refine⟨_,rfl,HO.out.base ?_,HL.out⟩
  exact(aj.alloc _ _ _).alloc1
 ·have he:=vT (f:=aS v0 la v2 v3) (g:=dA (aS v0 v1 v2 v3) 1 la) (fun x h0 h4=>(qm v0 v1 v2 v3 la x h0 h4).2.1)
  have hm2:jO (aS v0 la v2 v3):=(zn (fun x h0 h4=>(qm v0 v1 v2 v3 la x h0 h4).2.1)).2 hm
  rw[←he]
  clear he hm h0 h4
  go_enter Tryz.func148,Tryz.ntmps148
  go_wp2_with(go_at_call 124;refine(tV _ v0 la v2 v3).mono ?_;rintro e w2 ⟨hf2,hp1,-⟩;obtain⟨v',rfl,ho,hl⟩:=hp1 hm2;obtain⟨a',c',rfl⟩:=ho.shape;have HO:=ah ho;clear ho hf2 hp1;have HL:=ah hl;clear hl)
  go_ret
  refine⟨_,rfl,HO.out.base ?_,HL.out⟩
  exact(aj.alloc _ _ _).alloc1
 ·have he:=vT (f:=aS v0 v1 la v3) (g:=dA (aS v0 v1 v2 v3) 2 la) (fun x h0 h4=>(qm v0 v1 v2 v3 la x h0 h4).2.2.1)
  have hm2:jO (aS v0 v1 la v3):=(zn (fun x h0 h4=>(qm v0 v1 v2 v3 la x h0 h4).2.2.1)).2 hm
  rw[←he]
  clear he hm h0 h4
  go_enter Tryz.func148,Tryz.ntmps148
  go_wp2_with(go_at_call 124;refine(tV _ v0 v1 la v3).mono ?_;rintro e w2 ⟨hf2,hp1,-⟩;obtain⟨v',rfl,ho,hl⟩:=hp1 hm2;obtain⟨a',c',rfl⟩:=ho.shape;have HO:=ah ho;clear ho hf2 hp1;have HL:=ah hl;clear hl)
  go_ret
  refine⟨_,rfl,HO.out.base ?_,HL.out⟩
  exact(aj.alloc _ _ _).alloc1
 ·have he:=vT (f:=aS v0 v1 v2 la) (g:=dA (aS v0 v1 v2 v3) 3 la) (fun x h0 h4=>(qm v0 v1 v2 v3 la x h0 h4).2.2.2)
  have hm2:jO (aS v0 v1 v2 la):=(zn (fun x h0 h4=>(qm v0 v1 v2 v3 la x h0 h4).2.2.2)).2 hm
  rw[←he]
  clear he hm h0 h4
  go_enter Tryz.func148,Tryz.ntmps148
  go_wp2_with(go_at_call 124;refine(tV _ v0 v1 v2 la).mono ?_;rintro e w2 ⟨hf2,hp1,-⟩;obtain⟨v',rfl,ho,hl⟩:=hp1 hm2;obtain⟨a',c',rfl⟩:=ho.shape;have HO:=ah ho;clear ho hf2 hp1;have HL:=ah hl;clear hl)
  go_ret
  refine⟨_,rfl,HO.out.base ?_,HL.out⟩
  exact(aj.alloc _ _ _).alloc1
end Go.Proofs.YtabkpccdnkjoiaaGreat
