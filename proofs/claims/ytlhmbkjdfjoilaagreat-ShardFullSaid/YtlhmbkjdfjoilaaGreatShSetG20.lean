/- Words for the law ShSet: Sh14, Sh15, Sh18, R8Same, R9Same, Sh19. -/
import Derived.Test.YtlhmbkjdfjoilaaGreatShSetG0
import Derived.Test.YtlhmbkjdfjoilaaGreatShSetG8
import Derived.Test.YtlhmbkjdfjoilaaGreatShSetG10
import Derived.Test.YtlhmbkjdfjoilaaGreatShSetG12
import Derived.Test.YtlhmbkjdfjoilaaGreatShSetG18
import Derived.Test.YtlhmbkjdfjoilaaGreatShSetG19
set_option linter.unusedSimpArgs false
set_option linter.unusedVariables false
set_option maxHeartbeats 32000000
set_option maxRecDepth 1000000
namespace Go.Proofs.YtlhmbkjdfjoilaaGreat
open Go.RowKit
section
variable {L:Nat→Prop} {w:World} {b n vb:Nat} {sv:Value} {vs:List aU} {rs:List aW}
theorem EX (h:cZ L w b n vb sv vs rs) (x:Int):Calls Tryz.prog 38 #[.pointer (some ⟨b,0,none⟩), .int .i64 x] w fun e w'=>e= .returned (.int .i64 (fA x (rs.map aW.id)))∧aj au w w':=by
 have:=tN x (rs.map (aW.q n)) b w sv h.rd pJ (by rw[List.length_map];have:=h.few;omega) h.kL
 rwa [vS]at this
theorem VF (h:cZ L w b n vb sv vs rs) (x:Int) (a0 a1 a2:Option Addr) (n0 n1 n2 c0 c1 c2:Nat) (hp:fA x (rs.map aW.id)≠-1):
 Calls Tryz.prog 15 #[.pointer (some ⟨b,0,none⟩), .int .i64 x, .agg #[.slice a0 n0 c0, .slice a1 n1 c1, .slice a2 n2 c2]] w fun e w'=>e= .returned (.int .i64 8)∧aj au w w':=by
 have hp0:0≤fA x (rs.map aW.id):=by
  rcases yg x (rs.map aW.id)with⟨h1,_⟩|⟨k,_,h1,_⟩
  ·exact absurd h1 hp
  ·omega
 have HA:=ah (fun W (f:aj au w W)=>EX (h.aN f) x)
 generalize fA x (rs.map aW.id)=P at*
 clear h
 go_enter Tryz.func15,Tryz.ntmps15
 go_wp2_with(go_at_call 38;refine(HA.out _ (aj.alloc _ _ _)).mono ?_;rintro e w1 ⟨rfl,hw1⟩;have HW1:=ah ((aj.alloc au w _).aF hw1);clear hw1)
 go_ret
 exact⟨rfl,HW1.out⟩
theorem VG (h:cZ L w b n vb sv vs rs) (x:Int) (ks:aH) (c:aV) (ev kv cv:Value) (ha:fE (fun k=>¬L k) w ⟨[],ks,c,ev,kv,cv⟩) (hg:Good (ks,c)) (hp:fA x (rs.map aW.id)=-1) (hl:4≤rs.length):
 Calls Tryz.prog 15 #[.pointer (some ⟨b,0,none⟩), .int .i64 x, .agg #[ev,kv,cv]] w fun e w'=>e= .returned (.int .i64 4)∧∃L' sv' rs',Turned L w L' w'∧cZ L' w' b n vb sv' vs rs'∧rs'.map aW.con=rs.map aW.con:=by
 have hat:∀W,aj au w W→eu (fun k=>¬L k) W ev kv cv [] ks c:=fun W f=>(ha.aN f).at_
 have HA:=ah (fun W (f:aj au w W)=>hp▸EX (h.aN f) x)
 have hn1:=h.n1
 have nV:=ah (fun W (f:aj au w W)=>(show Calls Tryz.prog 16 #[.pointer (some ⟨b,0,none⟩), .agg #[ev,kv,cv], .int .i64 0] W fun e w'=>∃kv cv,e= .returned (.tuple #[.agg #[.slice none 0 0,kv,cv], .int .i64 0])∧bC (fun b=>W.heap.size≤b) w' (.slice none 0 0) kv [] (bF (cO n (0:Nat)) ks)∧OwnAt W w' 92 3 cv c.length (bU c)from En _ ks c W ev kv cv (hat W f) hg.ok hg.right b n n (some ⟨vb,0,none⟩) 0 hn1 (h.aN f).kX))
 have hgf:Good (bF (cO n (0:Nat)) ks,c):=Ap (cO n (0:Nat)) hg
 have hss:pK n x 0 (bF (cO n (0:Nat)) ks,c) (rs.map aW.con)=(4,rs.map aW.con):=by
  unfold pK
  rw[qK,if_pos hp,List.length_map,if_pos hl]
 have EY:=ah (fun W (f:aj au w W) gU jL (h3:fE (fun k=>¬L k) W ⟨[],bF (cO n (0:Nat)) ks,c, .slice none 0 0,gU,jL⟩)=>(show Calls Tryz.prog 18 #[.pointer (some ⟨b,0,none⟩), .int .i64 x, .int .i64 0, .agg #[.slice none 0 0,gU,jL]] W fun e w'=>e= .returned (.int .i64 4)∧∃L' sv' rs',Turned L W L' w'∧cZ L' w' b n vb sv' vs rs'∧rs'.map aW.con=rs.map aW.con from by
  have:=Lm (h.aN f) x 0 hn1 _ _ _ _ _ h3 hgf (EK _ _)
  rw[hss]at this
  exact this))
 have LK:=ah h.Ls
 have VH:=ah (fun W (f:aj au w W)=>(h.aN f).kX)
 have HP:=ah hp
 obtain⟨a0,c0,a1,c1,a2,c2,rfl,rfl,rfl⟩:=(hat w (aj.refl _ _)).shape
 have HB0:=ah (heap_alloc_new w (.cells #[.slice a0 0 c0, .slice a1 ks.len c1, .slice a2 c.length c2] 32))
 have fM:=ah (aj.alloc au w (.cells #[.slice a0 0 c0, .slice a1 ks.len c1, .slice a2 c.length c2] 32))
 clear h ha hg hp hl hat hgf hss
 generalize bF (cO n (0:Nat)) ks=kf at*
 go_enter Tryz.func15,Tryz.ntmps15
 go_upto_region 5 with(go_at_call 38;refine(HA.out _ fM.out).mono ?_;rintro e W1 ⟨rfl,hf1⟩;have HB1:=ah (hf1.blk HB0.out id);have bQ:=ah (fM.out.aF hf1);clear hf1 HB0 fM)
 have y0:=VH.out _ bQ.out
 have hb0:=World.block_lt_of_cell? _ _ y0
 have x0:=aI HB1.out 0 rfl
 have x1:=aI HB1.out 1 rfl
 have x2:=aI HB1.out 2 rfl
 have hb1:=lt_of_block HB1.out
 have hn0:(0:Int)<(n:Int):=by omega
 go_wp2
 go_loopw [21] (fun iv W=>iv= .int .i64 0∧W=W1) (fun _ _=>0)
 case atStart=>exact⟨rfl,rfl⟩
 case round=>
  obtain⟨rfl,rfl⟩:=hrel
  go_upto_region 9 with(go_at_call 16;refine(nV.out _ bQ.out).mono ?_;rintro e W2 ⟨gU,jL,rfl,hta,ho3⟩;clear y0 hb0 x0 x1 x2 hb1;have iF:=ah hta;have bJ:=ah ho3;obtain⟨nN,iq,-⟩:=hta.kids;obtain⟨a5,c5,rfl⟩:=iq.rd.sl;obtain⟨a6,c6,rfl⟩:=ho3.shape;clear iq hta ho3)
  have HF2:=ah ((bQ.out.aF bJ.out.aJ).alloc1 (o:= .cells #[.slice none 0 0, .slice a5 kf.len c5, .slice a6 c.length c6] 32))
  have HB2:=ah (heap_alloc_new W2 (.cells #[.slice none 0 0, .slice a5 kf.len c5, .slice a6 c.length c6] 32))
  have hc3:fE (fun k=>¬L k) (W2.alloc (.cells #[.slice none 0 0, .slice a5 kf.len c5, .slice a6 c.length c6] 32)) ⟨[],kf,c, .slice none 0 0, .slice a5 kf.len c5, .slice a6 c.length c6⟩:=
   fE.aN ⟨iF.out.turn (Q':=fun k=>¬L k) fun k hk hQ=>⟨rfl,fun hl=>by have:=LK.out k hl;have:=bQ.out.size;omega⟩,bJ.out.rd,fun _ k hk hl=>by have:=bJ.out.new k hk;have:=LK.out k hl;have:=bQ.out.size;omega⟩ (aj.alloc au W2 _)
  have sN:=ah hc3;clear hc3
  go_wp2_with(first
   |(go_at_call 18;refine(EY.out _ HF2.out _ _ sN.out).mono ?_;rintro e W3 ⟨rfl,L',sv',rs',ht,hst,hcon⟩;have HT:=ah ht;have HST:=ah hst;have yB:=ah hcon;clear ht hst hcon)
   |(go_at_call 23;refine(KT x (rs'.map (aW.q n)) b _ sv' HST.out.rd pJ (by rw[List.length_map];have:=HST.out.few;omega) HST.out.kL (by rw[vS,←qK,yB.out,qK];exact HP.out)).mono ?_;rintro e W4 ⟨rfl,hf4⟩;have jM:=ah hf4;clear hf4))
  go_ret
  exact⟨rfl,L',_,rs',(Turned.tX HF2.out).trans (HT.out.trans (Turned.tX jM.out)),HST.out.aN jM.out,yB.out⟩
end
open Go.RowKit
theorem VI {n:Nat} (hn:1≤n) (x:Int) (t:dG) (st:List gu):oz n x t st n=st++ [⟨x,gX n t,List.replicate n true⟩]:=by
 unfold oz gX
 rw[if_neg (by omega)]
 have e1:((List.range n).map fun s:Nat=>if s<n then((bF (cO n s) t.1,t.2):dG)else eU)=(List.range n).map fun s:Nat=>(bF (cO n s) t.1,t.2):=
  List.map_congr_left fun s hs=>if_pos (List.mem_range.1 hs)
 have e2:((List.range n).map fun s:Nat=>decide (s<n))=List.replicate n true:=by
  refine List.ext_getElem (by simp) fun i h1 h2=>?_
  have:i<n:=by simpa using h1
  simp[this]
 rw[e1,e2]
theorem LM {α:Type} (l:List α) (a:α):(l++ [a]).eraseIdx l.length=l:=by
 rw[List.eraseIdx_append_of_length_le (Nat.le_refl _)]
 simp
theorem LP (n:Nat):nP (List.replicate n true)=n:=by unfold nP;simp[List.countP_replicate]
section
variable {L:Nat→Prop} {w:World} {b n vb:Nat} {sv:Value} {vs:List aU} {rs:List aW}
theorem VJ (h:cZ L w b n vb sv vs rs) (x:Int) (ks:aH) (c:aV) (ev kv cv:Value) (ha:fE (fun k=>¬L k) w ⟨[],ks,c,ev,kv,cv⟩) (hg:Good (ks,c)) (hp:fA x (rs.map aW.id)=-1) (hl:rs.length<4)
 (hsz:∀j,j<n→kW (vs.getD j default).g+dF ks≤2000∧(vs.getD j default).g.2.length+c.length≤2000):
 Calls Tryz.prog 15 #[.pointer (some ⟨b,0,none⟩), .int .i64 x, .agg #[ev,kv,cv]] w fun e w'=>e= .returned (.int .i64 0)∧∃L' nR sv' ns rs',Turned L w L' w'∧cZ L' w' b n nR sv' ns rs'∧rs'.map aW.con=rs.map aW.con∧ns.map aU.g=List.zipWith iV (vs.map aU.g) (gX n (ks,c)):=by
 have hat:∀W,aj au w W→eu (fun k=>¬L k) W ev kv cv [] ks c:=fun W f=>(ha.aN f).at_
 have HA:=ah (fun W (f:aj au w W)=>hp▸EX (h.aN f) x)
 have hn1:=h.n1
 have hn4:=h.n4
 have hnx:x∉(rs.map aW.con).map gu.id:=by
  rw[qK]
  rcases yg x (rs.map aW.id)with⟨_,h1⟩|⟨k,_,h1,_⟩
  ·exact h1
  ·omega
 have lC:=ah hnx
 have HST:=ah h
 have t_:=ah ha
 have qj:=ah hg
 have HL:=ah hl
 have jS:=ah hsz
 obtain⟨a0,c0,a1,c1,a2,c2,rfl,rfl,rfl⟩:=(hat w (aj.refl _ _)).shape
 have HB0:=ah (heap_alloc_new w (.cells #[.slice a0 0 c0, .slice a1 ks.len c1, .slice a2 c.length c2] 32))
 have fM:=ah (aj.alloc au w (.cells #[.slice a0 0 c0, .slice a1 ks.len c1, .slice a2 c.length c2] 32))
 clear h ha hg hp hl hat hnx hsz
 go_enter Tryz.func15,Tryz.ntmps15
 go_upto_region 5 with(go_at_call 38;refine(HA.out _ fM.out).mono ?_;rintro e W1 ⟨rfl,hf1⟩;have HB1:=ah (hf1.blk HB0.out id);have bQ:=ah (fM.out.aF hf1);clear hf1 HB0 fM)
 have y0:=(HST.out.aN bQ.out).kX
 have hb0:=World.block_lt_of_cell? _ _ y0
 go_wp2
 go_loopw [21] (fun iv W=>∃(j:Nat) (L1:Nat→Prop) (yt:Value) (iw:List aW),j≤n∧iv= .int .i64 j∧Turned L w L1 W∧cZ L1 W b n vb yt vs iw∧iw.map aW.con=oz n x (ks,c) (rs.map aW.con) j∧¬L1 w.heap.size∧W.heap[w.heap.size]?=some (.cells #[.slice a0 0 c0, .slice a1 ks.len c1, .slice a2 c.length c2] 32 (0,0))) (fun iv _=>n-(intOf iv).toNat)
 case atStart=>exact⟨0,L,_,rs,Nat.zero_le _,rfl,Turned.tX bQ.out,HST.out.aN bQ.out,rfl,fun hl=>by have:=HST.out.Ls _ hl;omega,HB1.out⟩
 case round=>
  obtain⟨j,L1,yt,iw,hj,rfl,ht,h1,hcon,hnb,hbk⟩:=hrel
  clear y0 hb0
  have HT:=ah ht
  have H1:=ah h1
  have yB:=ah hcon
  have qZ:=ah hnb
  have gK:=ah hbk
  clear ht h1 hcon hnb hbk
  by_cases hlt:j<n
  ·have hjn:(j:Int)<(n:Int):=by omega
   have hc1:fE (fun k=>¬L1 k) wr ⟨[],ks,c, .slice a0 0 c0, .slice a1 ks.len c1, .slice a2 c.length c2⟩:=t_.out.turn fun k hk hQ=>⟨HT.out.aJ.block k hk hQ,fun hl=>(HT.out.own k hl).elim hQ (by omega)⟩
   have nV:=ah (show Calls Tryz.prog 16 #[.pointer (some ⟨b,0,none⟩), .agg #[.slice a0 0 c0, .slice a1 ks.len c1, .slice a2 c.length c2], .int .i64 j] wr fun e w'=>∃kv cv,e= .returned (.tuple #[.agg #[.slice none 0 0,kv,cv], .int .i64 0])∧bC (fun b=>wr.heap.size≤b) w' (.slice none 0 0) kv [] (bF (cO n j) ks)∧OwnAt wr w' 92 3 cv c.length (bU c)from En _ ks c wr _ _ _ hc1.at_ qj.out.ok qj.out.right b n n (some ⟨vb,0,none⟩) j hlt H1.out.kX)
   have hgf:Good (bF (cO n j) ks,c):=Ap (cO n j) qj.out
   have EY:=ah (fun W (f:aj au wr W) gU jL (h3:fE (fun k=>¬L1 k) W ⟨[],bF (cO n j) ks,c, .slice none 0 0,gU,jL⟩)=>(show Calls Tryz.prog 18 #[.pointer (some ⟨b,0,none⟩), .int .i64 x, .int .i64 j, .agg #[.slice none 0 0,gU,jL]] W fun e w'=>e= .returned (.int .i64 0)∧∃L' sv' rs',Turned L1 W L' w'∧cZ L' w' b n vb sv' vs rs'∧rs'.map aW.con=oz n x (ks,c) (rs.map aW.con) (j+1)from by
    have:=Lm (H1.out.aN f) x j hlt _ _ _ _ _ h3 hgf (EK _ _)
    have hss:=VD (n:=n) (j:=j) (t:=(ks,c)) lC.out (by rw[List.length_map];exact HL.out) hlt
    rw[yB.out,hss]at this
    exact this))
   clear hc1 hgf
   generalize bF (cO n j) ks=kf at*
   have x0:=aI gK.out 0 rfl
   have x1:=aI gK.out 1 rfl
   have x2:=aI gK.out 2 rfl
   have hb1:=lt_of_block gK.out
   go_upto_region 9 with(go_at_call 16;refine nV.out.mono ?_;rintro e W2 ⟨gU,jL,rfl,hta,ho3⟩;clear x0 x1 x2 hb1;have iF:=ah hta;have bJ:=ah ho3;obtain⟨nN,iq,-⟩:=hta.kids;obtain⟨a5,c5,rfl⟩:=iq.rd.sl;obtain⟨a6,c6,rfl⟩:=ho3.shape;clear iq hta ho3)
   have HF2:=ah (bJ.out.aJ.alloc1 (o:= .cells #[.slice none 0 0, .slice a5 kf.len c5, .slice a6 c.length c6] 32))
   have HB2:=ah (heap_alloc_new W2 (.cells #[.slice none 0 0, .slice a5 kf.len c5, .slice a6 c.length c6] 32))
   have hc3:fE (fun k=>¬L1 k) (W2.alloc (.cells #[.slice none 0 0, .slice a5 kf.len c5, .slice a6 c.length c6] 32)) ⟨[],kf,c, .slice none 0 0, .slice a5 kf.len c5, .slice a6 c.length c6⟩:=
    fE.aN ⟨iF.out.turn (Q':=fun k=>¬L1 k) fun k hk hQ=>⟨rfl,fun hl=>by have:=H1.out.Ls k hl;omega⟩,bJ.out.rd,fun _ k hk hl=>by have:=bJ.out.new k hk;have:=H1.out.Ls k hl;omega⟩ (aj.alloc au W2 _)
   have sN:=ah hc3;clear hc3
   go_wp2_with(go_at_call 18;refine(EY.out _ HF2.out _ _ sN.out).mono ?_;rintro e W3 ⟨rfl,L',sv',rs',ht,hst,hcon⟩;have HT3:=ah ht;have EZ:=ah hst;have VK:=ah hcon;clear ht hst hcon)
   go_roundw
   case rel=>
    have hbl:=lt_of_block gK.out
    have hz:=HF2.out.size
    refine⟨j+1,L',_,rs',by omega,by go_num,HT.out.trans ((Turned.tX HF2.out).trans HT3.out),EZ.out,VK.out,fun hl=>?_,HT3.out.aJ.blk (HF2.out.blk gK.out id) qZ.out⟩
    rcases HT3.out.own _ hl with g|g
    ·exact qZ.out g
    ·omega
   case measure=>simp[intOf];omega
  ·obtain rfl:j=n:=by omega
   have hil:=VI hn1 x (ks,c) (rs.map aW.con)
   have hc2:=yB.out
   rw[hil]at hc2
   have hlen:iw.length=rs.length+1:=by have:=congrArg List.length hc2;simpa using this
   have hir:rs.length<iw.length:=by omega
   have hrc:(iw.getD rs.length default).con=⟨x,gX j (ks,c),List.replicate j true⟩:=by
    rw[←Aw hir,hc2,getD_at _ (by simp),List.getElem_append_right (by simp)]
    simp
   have hpx:fA x (iw.map aW.id)=(rs.length:Int):=by
    rw[←qK,hc2,List.map_append]
    have:=EW lC.out
    rw[List.length_map,List.length_map]at this
    exact this
   have hpart:(iw.getD rs.length default).part.map aU.g=gX j (ks,c):=congrArg gu.part hrc
   have his:(iw.getD rs.length default).is=List.replicate j true:=congrArg gu.is hrc
   have hpl:(iw.getD rs.length default).part.length=j:=(H1.out.jY _ (getD_mem default hir)).part.len
   have E_:=UY H1.out x rs.length hir hpx (by rw[his];exact LP j) fun i hi=>by
    have h1:((iw.getD rs.length default).part.getD i default).g=(bF (cO j i) ks,c):=by
     rw[←vT (by rw[hpl];exact hi),hpart]
     exact EH (ks,c) hi
    rw[h1]
    have h2:=jS.out i hi
    have h3:=Am (cO j i) ks
    exact⟨Nat.le_trans (Nat.add_le_add_left h3 _) h2.1,h2.2⟩
   rw[hpart]at E_
   have VL:=ah E_
   have VN:=ah (show(iw.eraseIdx rs.length).map aW.con=rs.map aW.con by
    have:(iw.eraseIdx rs.length).map aW.con=(iw.map aW.con).eraseIdx rs.length:=by simp only[List.eraseIdx_eq_take_drop_succ,List.map_append,List.map_take,List.map_drop]
    rw[this,hc2]
    have:=LM (rs.map aW.con) ⟨x,gX j (ks,c),List.replicate j true⟩
    rwa [List.length_map]at this)
   clear hil hc2 hlen hir hrc hpx hpart his hpl E_
   go_wp2_with(go_at_call 17;refine VL.out.mono ?_;rintro e W3 ⟨rfl,nR,sv',ns,hf,hst,hns⟩;have HF3:=ah hf;have EZ:=ah hst;have tZ:=ah hns;clear hf hst hns)
   go_ret
   exact⟨rfl,L1,nR,sv',ns,_,HT.out.trans ⟨HF3.out,fun _ h=> .inl h⟩,EZ.out,VN.out,tZ.out⟩
end
open Go.RowKit
def VO:ByteArray:= {data:= #[102]}
def LQ:aG:=⟨1,1, {data:= #[]},0⟩
def ug:aH:= .cons VO [LQ] .nil .nil
def pU:aV:=[(1,1,1)]
def oneG:dG:=(ug,pU)
theorem VP (w:World) (o0 o1 o2 o3 o4:Obj):
 (((((w.alloc o0).alloc o1).alloc o2).alloc o3).alloc o4).heap[w.heap.size]?=some o0∧(((((w.alloc o0).alloc o1).alloc o2).alloc o3).alloc o4).heap[w.heap.size+1+1]?=some o2∧
 (((((w.alloc o0).alloc o1).alloc o2).alloc o3).alloc o4).heap[w.heap.size+1+1+1]?=some o3∧(((((w.alloc o0).alloc o1).alloc o2).alloc o3).alloc o4).heap[w.heap.size+1+1+1+1]?=some o4∧aj au w (((((w.alloc o0).alloc o1).alloc o2).alloc o3).alloc o4):=by
 have s1:(w.alloc o0).heap.size=w.heap.size+1:=by simp
 have s2:((w.alloc o0).alloc o1).heap.size=w.heap.size+1+1:=by simp
 have s3:(((w.alloc o0).alloc o1).alloc o2).heap.size=w.heap.size+1+1+1:=by simp
 have s4:((((w.alloc o0).alloc o1).alloc o2).alloc o3).heap.size=w.heap.size+1+1+1+1:=by simp
 have a0:=heap_alloc_new w o0
 have a2:=heap_alloc_new ((w.alloc o0).alloc o1) o2
 have a3:=heap_alloc_new (((w.alloc o0).alloc o1).alloc o2) o3
 have a4:=heap_alloc_new ((((w.alloc o0).alloc o1).alloc o2).alloc o3) o4
 rw[s2]at a2
 rw[s3]at a3
 rw[s4]at a4
 have f4:=aj.alloc au ((((w.alloc o0).alloc o1).alloc o2).alloc o3) o4
 have f3:=(aj.alloc au (((w.alloc o0).alloc o1).alloc o2) o3).aF f4
 have f2:=(aj.alloc au ((w.alloc o0).alloc o1) o2).aF f3
 have f1:=(aj.alloc au (w.alloc o0) o1).aF f2
 exact⟨f1.blk a0 id,f3.blk a2 id,f4.blk a3 id,a4,(aj.alloc au w o0).aF f1⟩
theorem one_any (w:World):Calls Tryz.prog 27 #[] w fun e w'=>∃kv cv,e= .returned (.agg #[.slice none 0 0,kv,cv])∧fE (fun b=>w.heap.size≤b) w' ⟨[],ug,pU, .slice none 0 0,kv,cv⟩∧aj au w w':=by
 go_enter Tryz.func27,Tryz.ntmps27
 go_wp2
 obtain⟨b0,b2,b3,b4,hf⟩:=VP w (.cells #[.slice none 0 0, .slice (some ⟨w.heap.size+1+1+1,0,none⟩) 1 1, .slice (some ⟨w.heap.size+1+1+1+1,0,none⟩) 1 1] 32) (.cells #[.int .i64 1, .int .i64 1, .string {data:= #[]}, .int .i64 0] 100) (.cells #[.int .i64 1, .int .i64 1, .string {data:= #[]}, .int .i64 0] 100) (.cells #[.string {data:= #[102]}, .slice (some ⟨w.heap.size+1+1,0,none⟩) 1 1, .slice none 0 0] 52) (.cells #[.int .i64 1, .int .i64 1, .int .i64 1] 92)
 have z0:=aI b0 0 rfl
 have z1:=aI b0 1 rfl
 have z2:=aI b0 2 rfl
 refine bodyPost_ret (v:= .agg #[.slice none 0 0, .slice (some ⟨w.heap.size+1+1+1,0,none⟩) 1 1, .slice (some ⟨w.heap.size+1+1+1+1,0,none⟩) 1 1]) (by simp[results,Tryz.results27,go_sem,z0,z1,z2]) rfl ⟨_,_,rfl,⟨⟨⟨.inl ⟨none,rfl,rfl,rfl⟩,fun h=>absurd rfl h⟩,[(.slice (some ⟨w.heap.size+1+1,0,none⟩) 1 1, .slice none 0 0)],⟨?_,fun _ k hk=>?_⟩,_,_,[],[],rfl,⟨?_,fun _ k hk=>?_⟩,⟨.inl ⟨none,rfl,rfl,rfl⟩,fun h=>absurd rfl h⟩,rfl,rfl⟩,?_,fun _ k hk=>?_⟩,hf⟩
 ·exact Rd.xZ (xs:=[.string {data:= #[102]}, .slice (some ⟨w.heap.size+1+1,0,none⟩) 1 1, .slice none 0 0]) b3 (by decide)
 ·simp[Value.ownBlock]at hk;omega
 ·exact Rd.xZ (xs:=[.int .i64 1, .int .i64 1, .string {data:= #[]}, .int .i64 0]) b2 (by decide)
 ·simp[Value.ownBlock]at hk;omega
 ·exact Rd.xZ (xs:=[.int .i64 1, .int .i64 1, .int .i64 1]) b4 (by decide)
 ·simp[Value.ownBlock]at hk;omega
theorem AL:Good oneG:=by
 have ht:aY 5 [] ug=true:=by decide
 have hc:bY pU:=⟨⟨by decide,by decide,trivial⟩,fun d h0 h4=>by
  by_cases h:d=1
  ·subst h;exact⟨⟨by decide,by decide,trivial⟩,fun r hr=>by simp[aZ,pU]at hr;subst hr;decide⟩
  ·have:aZ pU d=[]:=by simp[aZ,pU];omega
   rw[this];exact⟨trivial,fun r hr=>by cases hr⟩⟩
 refine⟨⟨EF ht (by decide),by decide,Kt hc,by decide⟩,ht,hc,fun r hr=>?_⟩
 have hr:r=(1,1):=by simpa[dX,jR,gB,oneG,ug,LQ]using hr
 subst hr
 exact⟨(1,1),by simp[aZ,oneG,pU],by decide,by decide⟩
section
variable {L:Nat→Prop} {w:World} {b n vb:Nat} {sv:Value} {vs:List aU} {rs:List aW}
theorem LU (hl:vs.length=n) {t:dG} (hv:vs.map aU.g=gX n t) {j:Nat} (hj:j<n):(vs.getD j default).g=(bF (cO n j) t.1,t.2):=by
 rw[←vT (by omega),hv]
 exact EH t hj
theorem LV (h:cZ L w b n vb sv vs rs) (t:dG) (ht:ig t.1.keys) (hv:vs.map aU.g=gX n t):
 Calls Tryz.prog 20 #[.pointer (some ⟨b,0,none⟩)] w fun e w'=>∃kv cv,e= .returned (.agg #[.slice none 0 0,kv,cv])∧fE (fun b=>w.heap.size≤b) w' ⟨[],t.1,t.2, .slice none 0 0,kv,cv⟩∧aj au w w':=by
 refine(Vm h).mono fun e w' hp=>?_
 obtain⟨kv,cv,ks',rfl,hta,ho,hpm,hso⟩:=hp
 rw[hv]at hpm
 obtain rfl:ks'=t.1:=Uy ht (hpm.trans (Ux t h.n1 h.n4)) hso
 have hc:(vs.getD 0 default).c=t.2:=congrArg Prod.snd (LU h.vis.len hv h.n1)
 rw[hc]at ho
 exact⟨kv,cv,rfl,⟨hta,ho.rd,fun _ k hk=>ho.new k hk⟩,ho.aJ⟩
theorem LW (h:cZ L w b n vb sv vs rs) (x:Int) (a:dG) (hga:Good a) (hv:vs.map aU.g=gX n a) (ks:aH) (c:aV) (ev kv cv:Value) (ha:fE (fun k=>¬L k) w ⟨[],ks,c,ev,kv,cv⟩) (hg:Good (ks,c)) (hp:fA x (rs.map aW.id)=-1) (hl:rs.length<4)
 (hs:kW a+dF ks≤2000) (hc:a.2.length+c.length≤2000):
 Calls Tryz.prog 15 #[.pointer (some ⟨b,0,none⟩), .int .i64 x, .agg #[ev,kv,cv]] w fun e w'=>e= .returned (.int .i64 0)∧∃L' nR sv' ns rs',Turned L w L' w'∧cZ L' w' b n nR sv' ns rs'∧rs'.map aW.con=rs.map aW.con∧ns.map aU.g=gX n (iV a (ks,c)):=by
 refine(VJ h x ks c ev kv cv ha hg hp hl fun j hj=>?_).mono fun e w' ⟨he,L',nR,sv',ns,rs',h1,h2,h3,h4⟩=>⟨he,L',nR,sv',ns,rs',h1,h2,h3,by rw[h4,hv];exact Us hga hg⟩
 rw[LU h.vis.len hv hj]
 have:=Am (cO n j) a.1
 exact⟨Nat.le_trans (Nat.add_le_add_right this _) hs,hc⟩
end
def newL (w:World) (k:Nat):Prop:=k=w.heap.size+1
theorem LX (n:Nat) (h1:1≤n) (h4:n≤4) (w:World):Calls Tryz.prog 14 #[.int .i64 n] w fun e w'=>e= .returned (.tuple #[.pointer (some ⟨w.heap.size+1,0,none⟩), .int .i64 0])∧
 cZ (newL w) w' (w.heap.size+1) n w.heap.size (.slice none 0 0) (je n) []∧(je n).map aU.g=gX n eU∧aj au w w':=by
 refine(TV n h1 h4 w).mono fun e w' ⟨he,hw⟩=>?_
 have b1:w'.heap[w.heap.size+1]?=some (.cells #[.slice (some ⟨w.heap.size,0,none⟩) n n, .slice none 0 0] 81 (0,0)):=by rw[hw];exact(mV w _ _ _).1
 have b0:w'.heap[w.heap.size]?=some (.cells ((je n).flatMap aU.cells).toArray 32 (0,0)):=by rw[hw];exact(aj.alloc au _ _).blk (heap_alloc_new w _) id
 have hf:aj au w w':=by rw[hw];exact(mV w _ _ _).2.1
 refine⟨he,⟨h1,h4,fun k hk=>?_,b1,rfl,EN b0,fun e=>by have e:w.heap.size=w.heap.size+1:=e;omega,World.ownsRow_nil w' 0 _ _,fun k hk=>(by simp[Value.ownBlock]at hk),fun r hr=>(by cases hr),List.nodup_nil,List.nodup_nil,List.nodup_nil,Nat.zero_le _⟩,?_,hf⟩
 ·have hk:k=w.heap.size+1:=hk
  subst hk
  exact lt_of_block b1
 ·rw[Uw]
  unfold je
  rw[List.map_replicate]
  rfl
open Go.RowKit
theorem LY (Q Q':Nat→Prop):∀(N:Nat) (es:List aG) (ks:aH) (es':List aG) (ks':aH) (w:World) (ev kv ev' kv':Value),dF ks<N→bC Q w ev kv es ks→bC Q' w ev' kv' es' ks'→sizeT es ks≤100000→sizeT es' ks'≤100000→
 Calls Tryz.prog 25 #[.agg #[ev,kv], .agg #[ev',kv']] w fun e w'=>e= .returned (.bool (tf (es=es'∧ks=ks')))∧aj au w w':=by
 intro N
 induction N with
 |zero=>intros;exfalso;omega
 |succ N gG=>
  intro es ks es' ks' w ev kv ev' kv' hN ht ht' hsz hsz'
  obtain⟨ae,ce,rfl⟩:=ht.ents.rd.sl
  obtain⟨os,hkr,dU⟩:=ht.kids
  obtain⟨ak,ck,rfl⟩:=hkr.rd.sl
  obtain⟨dI,dJ,rfl⟩:=ht'.ents.rd.sl
  obtain⟨os',fC,jA⟩:=ht'.kids
  obtain⟨dK,dL,rfl⟩:=fC.rd.sl
  have h1:es.length≤100000:=by unfold sizeT at hsz;omega
  have h2:es'.length≤100000:=by unfold sizeT at hsz';omega
  have h3:ks.len≤100000:=by have:=kV ks;unfold sizeT at hsz;omega
  have h4:ks'.len≤100000:=by have:=kV ks';unfold sizeT at hsz';omega
  by_cases hle:es.length=es'.length
  rotate_left 1
  ·rw[bW fun h=>hle (by rw[h.1])]
   clear ht ht' hkr fC dU jA gG hN hsz hsz'
   generalize es.length=n at*
   generalize ks.len=m at*
   generalize es'.length=n' at*
   generalize ks'.len=m' at*
   have hz:((n:Int)==(n':Int))=false:=by simp;omega
   have bG:=ah ((aj.alloc au w (.cells #[.slice ae n ce, .slice ak m ck] 28)).alloc1 (o:= .cells #[.slice dI n' dJ, .slice dK m' dL] 28))
   go_enter Tryz.func25,Tryz.ntmps25
   go_wp2
   go_ret
   exact⟨rfl,bG.out⟩
  by_cases hlk:ks.len=ks'.len
  rotate_left 1
  ·rw[bW fun h=>hlk (by rw[h.2])]
   rw[←hle]
   clear ht ht' hkr fC dU jA gG hN hsz hsz' h2 hle
   generalize es.length=n at*
   generalize ks.len=m at*
   generalize ks'.len=m' at*
   have hz:((m:Int)==(m':Int))=false:=by simp;omega
   have bG:=ah ((aj.alloc au w (.cells #[.slice ae n ce, .slice ak m ck] 28)).alloc1 (o:= .cells #[.slice dI n dJ, .slice dK m' dL] 28))
   go_enter Tryz.func25,Tryz.ntmps25
   go_wp2
   go_ret
   exact⟨rfl,bG.out⟩
  have HE:=ah ht.ents.rd
  have hE':=ht'.ents.rd
  have hK':=fC.rd
  rw[←hle]at hE'⊢
  rw[←hlk]at hK'⊢
  have LZ:=ah hE';clear hE'
  have fH:=ah hkr.rd
  have tH:=ah hK';clear hK'
  have jH:=ah dU;clear dU
  have zV:=ah jA;clear jA
  have vW:=ah hle.symm;clear hle
  have jQ:=ah hlk.symm;clear hlk
  have IH:=ah gG;clear gG
  have jS:=ah hsz;clear hsz
  have VQ:=ah hsz';clear hsz'
  have lH:=ah hN;clear hN
  clear ht ht' hkr fC h2 h4
  generalize hes:es.length=n at*
  have HN:=ah hes;clear hes
  generalize hkl:ks.len=m at*
  have HM:=ah hkl;clear hkl
  have bG:=ah ((aj.alloc au w (.cells #[.slice ae n ce, .slice ak m ck] 28)).alloc1 (o:= .cells #[.slice dI n dJ, .slice dK m dL] 28))
  have bD:=ah (DV w (.slice ae n ce) (.slice ak m ck) (.slice dI n dJ) (.slice dK m dL) 28)
  go_enter Tryz.func25,Tryz.ntmps25
  go_wp2
  go_loopw [26] (fun i ww=>∃k:Nat,k≤n∧i= .int .i64 k∧n_ es es' k∧aj au ((w.alloc (.cells #[.slice ae n ce, .slice ak m ck] 28)).alloc (.cells #[.slice dI n dJ, .slice dK m dL] 28)) ww) (fun i _=>n-(intOf i).toNat)
  case atStart=>exact⟨0,Nat.zero_le _,rfl,(fun j hj=>absurd hj (Nat.not_lt_zero _)),aj.refl _ _⟩
  case round=>
   obtain⟨k,hk,rfl,hlk,hw⟩:=hrel
   have L_:=ah hlk;clear hlk
   have HW:=ah hw;clear hw
   obtain⟨b0,b1,b2,b3⟩:=bD.out wr HW.out
   by_cases hlt:k<n
   ·rcases Rd.shape HE.out with⟨ad,he,h0⟩|⟨e1,off1,zT,he,hmax⟩
    ·exfalso;omega
    rcases Rd.shape LZ.out with⟨ad,he2,h0⟩|⟨e2,off2,iU,he2,sK⟩
    ·exfalso;omega
    injection he with g1 g2 g3
    injection he2 with g4 g5 g6
    subst g1 g3 g4 g6
    clear g2 g5
    obtain⟨p0,p1,p2,p3⟩:=nJ HE.out k (by rw[HN.out];exact hlt)
    obtain⟨q0,q1,q2,q3⟩:=nJ LZ.out k (by rw[vW.out];exact hlt)
    have hfw:=bG.out.aF HW.out
    have p0:=hfw.cell' p0 id
    have p1:=hfw.cell' p1 id
    have p2:=hfw.cell' p2 id
    have p3:=hfw.cell' p3 id
    have q0:=hfw.cell' q0 id
    have q1:=hfw.cell' q1 id
    have q2:=hfw.cell' q2 id
    have q3:=hfw.cell' q3 id
    clear hfw
    have HST:=ah (show es.getD k aG.zero=es'.getD k aG.zero→n_ es es' (k+1)from L_.out.step)
    have jm:=ah (show es.getD k aG.zero≠es'.getD k aG.zero→¬(es=es'∧ks=ks')from fun h e=>h (by rw[e.1]))
    generalize es.getD k aG.zero=s at*
    generalize es'.getD k aG.zero=t at*
    by_cases hst:s=t
    ·subst hst
     go_wp2_with fail
     go_quiet (fail)
     go_wp2
     go_roundw
     case rel=>exact⟨k+1,by omega,by go_num,HST.out (by trivial),HW.out.eX⟩
     case measure=>simp[intOf];omega
    ·have jd:=ah (show false=tf (es=es'∧ks=ks')from(bW (jm.out hst)).symm)
     obtain⟨s0,s1,s2,s3⟩:=s
     obtain⟨t0,t1,t2,t3⟩:=t
     clear HST jm
     dsimp only at p0 p1 p2 p3 q0 q1 q2 q3
     by_cases g0:s0=t0
     ·subst g0
      by_cases g1:s1=t1
      ·subst g1
       by_cases g2:s2=t2
       ·subst g2
        have g3:s3≠t3:=fun h=>hst (by rw[h])
        clear hst
        have gb:((s3:Int)==t3)=false:=by simpa using g3
        go_wp2_with fail
        go_quiet (fail)
        go_wp2
        go_ret
        exact⟨bH jd.out,bG.out.aF HW.out.eX⟩
       ·clear hst
        have gb:=zU g2
        go_wp2_with fail
        go_quiet (fail)
        go_wp2
        go_ret
        exact⟨bH jd.out,bG.out.aF HW.out.eX⟩
      ·clear hst
       have gb:((s1:Int)==t1)=false:=by simpa using g1
       go_wp2_with fail
       go_quiet (fail)
       go_wp2
       go_ret
       exact⟨bH jd.out,bG.out.aF HW.out.eX⟩
     ·clear hst
      have gb:((s0:Int)==t0)=false:=by simpa using g0
      go_wp2_with fail
      go_quiet (fail)
      go_wp2
      go_ret
      exact⟨bH jd.out,bG.out.aF HW.out.eX⟩
   ·obtain rfl:n=k:=by omega
    have hee:es=es':=n_.all (HN.out.trans vW.out.symm) (by rw[HN.out];exact L_.out)
    have sS:=ah hee;clear hee
    go_wp2
    clear b0 b1 b2 b3
    go_loopw [44] (fun i ww=>∃k:Nat,k≤m∧i= .int .i64 k∧(ks=ks'↔ks.drop k=ks'.drop k)∧aj au ((w.alloc (.cells #[.slice ae n ce, .slice ak m ck] 28)).alloc (.cells #[.slice dI n dJ, .slice dK m dL] 28)) ww) (fun i _=>m-(intOf i).toNat)
    case atStart=>exact⟨0,Nat.zero_le _,rfl,Iff.rfl,HW.out⟩
    case round=>
     obtain⟨k,hk,rfl,hiff,hwk⟩:=hrel
     have AO:=ah hiff;clear hiff
     have cu:=ah hwk;clear hwk
     by_cases hlt:k<m
     ·obtain⟨key,es0,sub,rest,hdr⟩:=aH.nI (n:=k) (ks:=ks) (by rw[HM.out];exact hlt)
      obtain⟨key',qH,sub',rest',hdr'⟩:=aH.nI (n:=k) (ks:=ks') (by rw[jQ.out];exact hlt)
      rcases Rd.shape fH.out with⟨ad,he,h0⟩|⟨e1,off1,zT,he,hmax⟩
      ·exfalso;omega
      rcases Rd.shape tH.out with⟨ad,he2,h0⟩|⟨e2,off2,iU,he2,sK⟩
      ·exfalso;omega
      injection he with g1 g2 g3
      injection he2 with g4 g5 g6
      subst g1 g3 g4 g6
      clear g2 g5
      have hfw:=bG.out.aF cu.out
      obtain⟨ev0,VR,p0,p1,p2,hta⟩:=lG (fH.out.aN hfw) (jH.out.aN hfw) hdr
      obtain⟨ev1,Mc,q0,q1,q2,htb⟩:=lG (tH.out.aN hfw) (zV.out.aN hfw) hdr'
      clear hfw
      have hss:=qx k hdr
      have hst1:=q_ k hdr
      have hst2:=q_ k hdr'
      have HC:=ah (fun W (f:aj au wr W)=>IH.out es0 sub qH sub' W ev0 VR ev1 Mc (by have:=lH.out;omega) (hta.aN f) (htb.aN f) (by have:=jS.out;unfold sizeT at*;omega) (by have:=VQ.out;unfold sizeT at*;omega))
      have HST:=ah (Jq hdr hdr')
      obtain⟨a0,c0,rfl⟩:=hta.ents.rd.sl
      obtain⟨o3,hk3,-⟩:=hta.kids
      obtain⟨a1,c1,rfl⟩:=hk3.rd.sl
      obtain⟨a0',c0',rfl⟩:=htb.ents.rd.sl
      obtain⟨o4,hk4,-⟩:=htb.kids
      obtain⟨a1',c1',rfl⟩:=hk4.rd.sl
      clear hk3 hk4 hta htb hdr hdr' hss hst1 hst2
      generalize es0.length=n0 at*
      generalize sub.len=m0 at*
      generalize qH.length=n1 at*
      generalize sub'.len=m1 at*
      obtain⟨α,hne,K,hK1,hK0,hK2⟩:=worlds wr
      have kb:=fun s=>bD.out (K s) (cu.out.aF (hK1 s))
      have k0:=fun s=>(kb s).1
      have k1:=fun s=>(kb s).2.1
      have k2:=fun s=>(kb s).2.2.1
      have k3:=fun s=>(kb s).2.2.2
      have r0:=fun s=>(hK1 s).cell' p0 id
      have r1:=fun s=>(hK1 s).cell' p1 id
      have r2:=fun s=>(hK1 s).cell' p2 id
      have t0:=fun s=>(hK1 s).cell' q0 id
      have t1:=fun s=>(hK1 s).cell' q1 id
      have t2:=fun s=>(hK1 s).cell' q2 id
      clear kb p0 p1 p2 q0 q1 q2
      have eY:=ah (fun s=>cu.out.aF (hK1 s))
      have mX:=ah hK1
      by_cases hkey:key=key'
      ·by_cases hsub:es0=qH∧sub=sub'
       ·rw[dH hsub]at HC
        have HY:=ah (show key=key'∧es0=qH∧sub=sub' from⟨hkey,hsub⟩)
        subst hkey
        clear hsub
        go_wp2_with fail
        refine dA K (by kernel_rfl) (by kernel_rfl) hK0 ?_
        repeat(go_big_quiet_step ((go_at_call 25;exact Calls.bf hK2 (HC.out _ (mX.out _)))))
        refine wpQuiet_nil ?_
        intro w' hw'
        obtain⟨s,rfl⟩:=hw'
        go_wp2
        go_roundw
        case rel=>exact⟨k+1,by omega,by go_num,AO.out.trans (HST.out.trans ⟨fun h=>h.2,fun h=>⟨⟨by trivial,HY.out.2⟩,h⟩⟩),eY.out s⟩
        case measure=>simp[intOf];omega
       ·rw[bW hsub]at HC
        have HY:=ah (show ¬(es=es'∧ks=ks')from fun h=>hsub (HST.out.1 (AO.out.1 h.2)).1.2)
        subst hkey
        clear hsub
        go_wp2_with fail
        refine dA K (by kernel_rfl) (by kernel_rfl) hK0 ?_
        repeat(go_big_quiet_step ((go_at_call 25;exact Calls.bf hK2 (HC.out _ (mX.out _)))))
        refine wpQuiet_nil ?_
        intro w' hw'
        obtain⟨s,rfl⟩:=hw'
        go_wp2
        go_ret
        exact⟨bH (bW HY.out).symm,bG.out.aF (eY.out s)⟩
      ·have HY:=ah (show ¬(es=es'∧ks=ks')from fun h=>hkey (HST.out.1 (AO.out.1 h.2)).1.1)
       have gb:=zU hkey
       have gc:(key.toList==key'.toList)=false:=by simpa using gb
       go_wp2_with fail
       refine dA K (by kernel_rfl) (by kernel_rfl) hK0 ?_
       repeat(go_big_quiet_step ((go_at_call 25;exact Calls.bf hK2 (HC.out _ (mX.out _)))))
       refine wpQuiet_nil ?_
       intro w' hw'
       obtain⟨s,rfl⟩:=hw'
       go_wp2
       go_ret
       exact⟨bH (bW HY.out).symm,bG.out.aF (eY.out s)⟩
     ·obtain rfl:m=k:=by omega
      have hkk:ks=ks':=AO.out.2 (by rw[aH.nX (by rw[HM.out];exact Nat.le_refl _),aH.nX (by rw[jQ.out];exact Nat.le_refl _)])
      have HKK:=ah hkk;clear hkk
      go_wp2
      go_ret
      exact⟨bH (dH ⟨sS.out,HKK.out⟩).symm,bG.out.aF cu.out⟩
open Go.RowKit
theorem VT (Q Q':Nat→Prop) (es:List aG) (ks:aH) (c:aV) (es':List aG) (ks':aH) (c':aV) (w:World) (ev kv cv ev' kv' iQ:Value) (h:eu Q w ev kv cv es ks c) (hok:jB es ks c) (h':eu Q' w ev' kv' iQ es' ks' c') (hok':jB es' ks' c'):
 Calls Tryz.prog 19 #[.agg #[ev,kv,cv], .agg #[ev',kv',iQ]] w fun e w'=>e= .returned (.bool (tf ((es=es'∧ks=ks')∧c=c')))∧aj au w w':=by
 obtain⟨a0,c0,a1,c1,a2,c2,rfl,rfl,rfl⟩:=h.shape
 obtain⟨b0,d0,b1,d1,b2,d2,rfl,rfl,rfl⟩:=h'.shape
 have HT:=ah (fun W (f:aj au w W)=>LY Q Q' _ es ks es' ks' W _ _ _ _ (Nat.lt_succ_self _) (h.tree.aN f) (h'.tree.aN f) (Nat.le_trans hok.small (by decide)) (Nat.le_trans hok'.small (by decide)))
 have hde:decide (c=c')=tf (c=c'):=uD (by rw[decide_eq_true_iff])
 have HC:=ah (fun W (f:aj au w W)=>hde▸Rt W _ _ c c' (Rd.aN h.ctx f) (Rd.aN h'.ctx f) (Nat.le_trans hok.len (by decide)) (Nat.le_trans hok'.len (by decide)))
 clear h hok h' hok' hde
 by_cases r3:es=es'∧ks=ks'
 rotate_left 1
 ·rw[bW r3]at HT
  rw[bW fun h=>r3 h.1]
  clear r3 HC
  generalize es.length=n at*
  generalize ks.len=m at*
  generalize c.length=k at*
  generalize es'.length=n' at*
  generalize ks'.len=m' at*
  generalize c'.length=k' at*
  have bG:=ah ((aj.alloc au w (.cells #[.slice a0 n c0, .slice a1 m c1, .slice a2 k c2] 32)).alloc1 (o:= .cells #[.slice b0 n' d0, .slice b1 m' d1, .slice b2 k' d2] 32))
  have bD:=ah (vJ w (.slice a0 n c0) (.slice a1 m c1) (.slice a2 k c2) (.slice b0 n' d0) (.slice b1 m' d1) (.slice b2 k' d2) 32)
  go_enter Tryz.func19,Tryz.ntmps19
  go_wp2_with(first
   |(go_at_call 25;refine(HT.out _ bG.out).mono ?_;rintro e w1 ⟨rfl,hw1⟩;obtain⟨y0,y1,y2,y3,y4,y5⟩:=bD.out w1 hw1;have HW1:=ah hw1;clear hw1))
  go_ret
  exact⟨rfl,bG.out.aF HW1.out⟩
 rw[dH r3]at HT
 have hall:tf ((es=es'∧ks=ks')∧c=c')=tf (c=c'):=uz ⟨fun h=>h.2,fun h=>⟨r3,h⟩⟩
 rw[hall]
 clear hall r3
 generalize tf (c=c')=y at*
 generalize es.length=n at*
 generalize ks.len=m at*
 generalize c.length=k at*
 generalize es'.length=n' at*
 generalize ks'.len=m' at*
 generalize c'.length=k' at*
 have bG:=ah ((aj.alloc au w (.cells #[.slice a0 n c0, .slice a1 m c1, .slice a2 k c2] 32)).alloc1 (o:= .cells #[.slice b0 n' d0, .slice b1 m' d1, .slice b2 k' d2] 32))
 have bD:=ah (vJ w (.slice a0 n c0) (.slice a1 m c1) (.slice a2 k c2) (.slice b0 n' d0) (.slice b1 m' d1) (.slice b2 k' d2) 32)
 go_enter Tryz.func19,Tryz.ntmps19
 go_wp2_with(first
  |(go_at_call 25;refine(HT.out _ bG.out).mono ?_;rintro e w1 ⟨rfl,hw1⟩;obtain⟨y0,y1,y2,y3,y4,y5⟩:=bD.out w1 hw1;have HW1:=ah hw1;clear hw1)
  |(go_at_call 45;refine(HC.out _ (bG.out.aF HW1.out)).mono ?_;rintro e w2 ⟨rfl,hw2⟩;have HW2:=ah (HW1.out.aF hw2);clear hw2))
 go_ret
 exact⟨rfl,bG.out.aF HW2.out⟩
open Go.RowKit
theorem VU:iV eU (ug,pU)=oneG:=Uo AL
theorem Md {x:Int}:fA x (([]:List aW).map aW.id)=-1:=LH (by simp)
theorem Me:kW eU+dF ug≤2000∧eU.2.length+pU.length≤2000:=by decide
theorem AP {Q:Nat→Prop} {w:World} {es:List aG} {ks:aH} {c:aV} {ev kv cv:Value} (h:fE Q w ⟨es,ks,c,ev,kv,cv⟩):∃a1 c1 a2 c2,kv= .slice a1 ks.len c1∧cv= .slice a2 c.length c2:=by
 obtain⟨_,_,a1,c1,a2,c2,_,h1,h2⟩:=h.at_.shape
 exact⟨a1,c1,a2,c2,h1,h2⟩
theorem Fa (Q Q':Nat→Prop) (ks:aH) (c:aV) (w:World) (kv cv kv' iQ:Value) (hg:Good (ks,c)) (h:fE Q w ⟨[],ks,c, .slice none 0 0,kv,cv⟩) (ev':Value) (h':fE Q' w ⟨[],ks,c,ev',kv',iQ⟩):
 Calls Tryz.prog 19 #[.agg #[.slice none 0 0,kv,cv], .agg #[ev',kv',iQ]] w fun e w'=>e= .returned (.bool true)∧aj au w w':=by
 have:=VT Q Q' [] ks c [] ks c w (.slice none 0 0) kv cv ev' kv' iQ h.at_ hg.ok h'.at_ hg.ok
 rwa [dH ⟨⟨rfl,rfl⟩,rfl⟩]at this
theorem MB (w:World):Calls Tryz.prog 9 #[] w fun e w'=>e= .returned (.bool true)∧aj au w w':=by
 have HN:=ah (show Calls Tryz.prog 14 #[.int .i64 2] w fun e w'=>e= .returned (.tuple #[.pointer (some ⟨w.heap.size+1,0,none⟩), .int .i64 0])∧
  cZ (newL w) w' (w.heap.size+1) 2 w.heap.size (.slice none 0 0) (je 2) []∧(je 2).map aU.g=gX 2 eU∧aj au w w' from LX 2 (by decide) (by decide) w)
 go_enter Tryz.func9,Tryz.ntmps9
 go_wp2_with(first
  |(go_at_call 14;refine HN.out.mono ?_;rintro e w1 ⟨rfl,hst,hv,hf⟩;have HST:=ah hst;have HV:=ah hv;have bQ:=ah hf;clear hst hv hf)
  |(go_at_call 15;refine HI.out.mono ?_;rintro e w3 ⟨rfl,L',nR,sv',ns,rs',ht,hst3,hcon,hv3⟩;rw[VU]at hv3;have HT3:=ah ht;have HF3:=ah (HF2.out.trans ht.aJ fun i hi e=>by have e:i=w.heap.size+1:=e;omega);have ql:=ah (LV hst3 oneG (Ak AL) hv3);clear ht hst3 hcon hv3)
  |(go_at_call 20;refine ql.out.mono ?_;rintro e w4 ⟨XO,XP,rfl,hc4,hf4⟩;have VW:=ah hc4;have jM:=ah (HF3.out.aF hf4);obtain⟨a7,c7,a8,c8,rfl,rfl⟩:=AP hc4;clear hc4 hf4)
  |(go_at_call 19;refine lS.out.mono ?_;rintro e w6 ⟨rfl,MC⟩;have HF6:=ah (Fb.out.aF MC);clear MC)
  |(go_at_call 27;have q9:=jM.out;clear q9;refine(one_any _).mono ?_;rintro e w5 ⟨TI,TJ,rfl,hc5,hf5⟩;have Fb:=ah (jM.out.aF hf5);have lS:=ah (Fa _ _ _ _ _ _ _ _ _ AL (VW.out.aN hf5) _ hc5);obtain⟨a5,c5,a6,c6,rfl,rfl⟩:=AP hc5;clear hc5 hf5)
  |(go_at_call 27;refine(one_any _).mono ?_;rintro e w2 ⟨VX,Hw,rfl,hc2,hf2⟩;have HF2:=ah (bQ.out.aF hf2);have HI:=ah (LW (HST.out.aN hf2) 1 eU EG HV.out ug pU (.slice none 0 0) VX Hw (hc2.turn fun k hk hQ=>⟨rfl,fun e=>by have e:k=w.heap.size+1:=e;have:=lt_of_block HST.out.box;omega⟩) AL Md (by decide) Me.1 Me.2);obtain⟨a2,c2,a3,c3,rfl,rfl⟩:=AP hc2;clear hc2 hf2))
 go_ret
 exact⟨rfl,HF6.out⟩
theorem VY (key:ByteArray) (hk:key.size≤maxLen) (n:Int) (hn:(Lit.int .i64 n).wf=true) (w:World):Calls Tryz.prog 3 #[.string key, .int .i64 n] w fun e w'=>e= .returned (.bool true)∧aj (fun _=>False) w w':=by
 have HA:=ah MB
 by_cases hl:key.size≤100000
 ·have HR:=ah (fun W=>JF key n W hk)
  have HR2:=ah (fun W=>Ti key n W hl)
  go_enter Tryz.func3,Tryz.ntmps3
  go_wp2_with(first
   |(go_at_call 9;refine(HA.out _).mono ?_;rintro e w1 ⟨rfl,hf1⟩;have bQ:=ah hf1;clear hf1)
   |(go_at_call 10;refine(HR.out _).mono ?_;rintro e w2 ⟨rfl,rfl⟩)
   |(go_at_call 11;refine(HR2.out _).mono ?_;rintro e w3 ⟨rfl,hf3⟩;have HF3:=ah (bQ.out.aF hf3);clear hf3))
  go_ret
  exact⟨rfl,HF3.out⟩
 ·go_enter Tryz.func3,Tryz.ntmps3
  go_wp2_with(first
   |(go_at_call 9;have q9:=bQ.out;clear q9;refine(HA.out _).mono ?_;rintro e w2 ⟨rfl,hf2⟩;have HF2:=ah (bQ.out.aF hf2);clear hf2)
   |(go_at_call 9;refine(HA.out _).mono ?_;rintro e w1 ⟨rfl,hf1⟩;have bQ:=ah hf1;clear hf1))
  go_ret
  exact⟨rfl,HF2.out⟩
end Go.Proofs.YtlhmbkjdfjoilaaGreat
