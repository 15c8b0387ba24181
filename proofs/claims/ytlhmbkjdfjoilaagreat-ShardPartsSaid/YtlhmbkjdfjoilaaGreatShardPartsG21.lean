/- Words for the law ShardParts: Sh15, Sh18, R8Same, R9Same, Sh19. -/
import Derived.Test.YtlhmbkjdfjoilaaGreatShardPartsG0
import Derived.Test.YtlhmbkjdfjoilaaGreatShardPartsG5
import Derived.Test.YtlhmbkjdfjoilaaGreatShardPartsG10
import Derived.Test.YtlhmbkjdfjoilaaGreatShardPartsG12
import Derived.Test.YtlhmbkjdfjoilaaGreatShardPartsG19
import Derived.Test.YtlhmbkjdfjoilaaGreatShardPartsG20
set_option linter.unusedSimpArgs false
set_option linter.unusedVariables false
set_option maxHeartbeats 32000000
set_option maxRecDepth 1000000
namespace Go.Proofs.YtlhmbkjdfjoilaaGreat
open Go.RowKit
theorem Xd {n:Nat} (hn:1≤n) (x:Int) (t:dO) (st:List iW):pX n x t st n=st++ [⟨x,fQ n t,List.replicate n true⟩]:=by
 unfold pX fQ
 rw[if_neg (by omega)]
 have e1:((List.range n).map fun s:Nat=>if s<n then((bH (dA n s) t.1,t.2):dO)else gJ)=(List.range n).map fun s:Nat=>(bH (dA n s) t.1,t.2):=
  List.map_congr_left fun s hs=>if_pos (List.mem_range.1 hs)
 have e2:((List.range n).map fun s:Nat=>decide (s<n))=List.replicate n true:=by
  refine List.ext_getElem (by simp) fun i h1 h2=>?_
  have:i<n:=by simpa using h1
  simp[this]
 rw[e1,e2]
theorem Xe {α:Type} (l:List α) (a:α):(l++ [a]).eraseIdx l.length=l:=by
 rw[List.eraseIdx_append_of_length_le (Nat.le_refl _)]
 simp
theorem Xf (n:Nat):pK (List.replicate n true)=n:=by unfold pK;simp[List.countP_replicate]
section
variable {L:Nat→Prop} {w:World} {b n vb:Nat} {sv:Value} {vs:List bD} {rs:List aW}
theorem Xg (h:dY L w b n vb sv vs rs) (x:Int) (ks:aH) (c:aU) (ev kv cv:Value) (ha:jc (fun k=>¬L k) w ⟨[],ks,c,ev,kv,cv⟩) (hg:Good (ks,c)) (hp:iE x (rs.map aW.id)=-1) (hl:rs.length<4)
 (hsz:∀j,j<n→qL (vs.getD j default).g+cu ks≤2000∧(vs.getD j default).g.2.length+c.length≤2000):
 Calls Tryz.prog 15 #[.pointer (some ⟨b,0,none⟩), .int .i64 x, .agg #[ev,kv,cv]] w fun e w'=>e= .returned (.int .i64 0)∧∃L' oI sv' ns rs',Turned L w L' w'∧dY L' w' b n oI sv' ns rs'∧rs'.map aW.con=rs.map aW.con∧ns.map bD.g=List.zipWith mP (vs.map bD.g) (fQ n (ks,c)):=by
 have hat:∀W,aj au w W→fP (fun k=>¬L k) W ev kv cv [] ks c:=fun W f=>(ha.aN f).at_
 have HA:=ah (fun W (f:aj au w W)=>hp▸Xc (h.aN f) x)
 have hn1:=h.n1
 have hn4:=h.n4
 have hnx:x∉(rs.map aW.con).map iW.id:=by
  rw[Ce]
  rcases GH x (rs.map aW.id)with⟨_,h1⟩|⟨k,_,h1,_⟩
  ·exact h1
  ·omega
 have lZ:=ah hnx
 have HST:=ah h
 have zK:=ah ha
 have rF:=ah hg
 have HL:=ah hl
 have jy:=ah hsz
 obtain⟨a0,c0,a1,c1,a2,c2,rfl,rfl,rfl⟩:=(hat w (aj.refl _ _)).shape
 have HB0:=ah (heap_alloc_new w (.cells #[.slice a0 0 c0, .slice a1 ks.len c1, .slice a2 c.length c2] 32))
 have gu:=ah (aj.alloc au w (.cells #[.slice a0 0 c0, .slice a1 ks.len c1, .slice a2 c.length c2] 32))
 clear h ha hg hp hl hat hnx hsz
 go_enter Tryz.func15,Tryz.ntmps15
 go_upto_region 5 with(go_at_call 38;refine(HA.out _ gu.out).mono ?_;rintro e W1 ⟨rfl,hf1⟩;have HB1:=ah (hf1.blk HB0.out id);have dB:=ah (gu.out.aG hf1);clear hf1 HB0 gu)
 have y0:=(HST.out.aN dB.out).nN
 have hb0:=World.block_lt_of_cell? _ _ y0
 go_wp2
 go_loopw [21] (fun iv W=>∃(j:Nat) (L1:Nat→Prop) (zL:Value) (iK:List aW),j≤n∧iv= .int .i64 j∧Turned L w L1 W∧dY L1 W b n vb zL vs iK∧iK.map aW.con=pX n x (ks,c) (rs.map aW.con) j∧¬L1 w.heap.size∧W.heap[w.heap.size]?=some (.cells #[.slice a0 0 c0, .slice a1 ks.len c1, .slice a2 c.length c2] 32 (0,0))) (fun iv _=>n-(intOf iv).toNat)
 case atStart=>exact⟨0,L,_,rs,Nat.zero_le _,rfl,Turned.zH dB.out,HST.out.aN dB.out,rfl,fun hl=>by have:=HST.out.Ls _ hl;omega,HB1.out⟩
 case round=>
  obtain⟨j,L1,zL,iK,hj,rfl,ht,h1,hcon,hnb,hbk⟩:=hrel
  clear y0 hb0
  have HT:=ah ht
  have H1:=ah h1
  have Nw:=ah hcon
  have jT:=ah hnb
  have fF:=ah hbk
  clear ht h1 hcon hnb hbk
  by_cases hlt:j<n
  ·have hjn:(j:Int)<(n:Int):=by omega
   have hc1:jc (fun k=>¬L1 k) wr ⟨[],ks,c, .slice a0 0 c0, .slice a1 ks.len c1, .slice a2 c.length c2⟩:=zK.out.turn fun k hk hQ=>⟨HT.out.aI.block k hk hQ,fun hl=>(HT.out.own k hl).elim hQ (by omega)⟩
   have nG:=ah (show Calls Tryz.prog 16 #[.pointer (some ⟨b,0,none⟩), .agg #[.slice a0 0 c0, .slice a1 ks.len c1, .slice a2 c.length c2], .int .i64 j] wr fun e w'=>∃kv cv,e= .returned (.tuple #[.agg #[.slice none 0 0,kv,cv], .int .i64 0])∧bg (fun b=>wr.heap.size≤b) w' (.slice none 0 0) kv [] (bH (dA n j) ks)∧OwnAt wr w' 92 3 cv c.length (cO c)from Mc _ ks c wr _ _ _ hc1.at_ rF.out.ok rF.out.right b n n (some ⟨vb,0,none⟩) j hlt H1.out.nN)
   have hgf:Good (bH (dA n j) ks,c):=MJ (dA n j) rF.out
   have Xh:=ah (fun W (f:aj au wr W) jB oD (h3:jc (fun k=>¬L1 k) W ⟨[],bH (dA n j) ks,c, .slice none 0 0,jB,oD⟩)=>(show Calls Tryz.prog 18 #[.pointer (some ⟨b,0,none⟩), .int .i64 x, .int .i64 j, .agg #[.slice none 0 0,jB,oD]] W fun e w'=>e= .returned (.int .i64 0)∧∃L' sv' rs',Turned L1 W L' w'∧dY L' w' b n vb sv' vs rs'∧rs'.map aW.con=pX n x (ks,c) (rs.map aW.con) (j+1)from by
    have:=WW (H1.out.aN f) x j hlt _ _ _ _ _ h3 hgf (VH _ _)
    have hss:=Xb (n:=n) (j:=j) (t:=(ks,c)) lZ.out (by rw[List.length_map];exact HL.out) hlt
    rw[Nw.out,hss]at this
    exact this))
   clear hc1 hgf
   generalize bH (dA n j) ks=kf at*
   have x0:=aJ fF.out 0 rfl
   have x1:=aJ fF.out 1 rfl
   have x2:=aJ fF.out 2 rfl
   have hb1:=lt_of_block fF.out
   go_upto_region 9 with(go_at_call 16;refine nG.out.mono ?_;rintro e W2 ⟨jB,oD,rfl,hta,ho3⟩;clear x0 x1 x2 hb1;have je:=ah hta;have bJ:=ah ho3;obtain⟨rQ,kT,-⟩:=hta.kids;obtain⟨a5,c5,rfl⟩:=kT.rd.sl;obtain⟨a6,c6,rfl⟩:=ho3.shape;clear kT hta ho3)
   have HF2:=ah (bJ.out.aI.alloc1 (o:= .cells #[.slice none 0 0, .slice a5 kf.len c5, .slice a6 c.length c6] 32))
   have HB2:=ah (heap_alloc_new W2 (.cells #[.slice none 0 0, .slice a5 kf.len c5, .slice a6 c.length c6] 32))
   have hc3:jc (fun k=>¬L1 k) (W2.alloc (.cells #[.slice none 0 0, .slice a5 kf.len c5, .slice a6 c.length c6] 32)) ⟨[],kf,c, .slice none 0 0, .slice a5 kf.len c5, .slice a6 c.length c6⟩:=
    jc.aN ⟨je.out.turn (Q':=fun k=>¬L1 k) fun k hk hQ=>⟨rfl,fun hl=>by have:=H1.out.Ls k hl;omega⟩,bJ.out.rd,fun _ k hk hl=>by have:=bJ.out.new k hk;have:=H1.out.Ls k hl;omega⟩ (aj.alloc au W2 _)
   have yL:=ah hc3;clear hc3
   go_wp2_with(go_at_call 18;refine(Xh.out _ HF2.out _ _ yL.out).mono ?_;rintro e W3 ⟨rfl,L',sv',rs',ht,hst,hcon⟩;have HT3:=ah ht;have GX:=ah hst;have Xi:=ah hcon;clear ht hst hcon)
   go_roundw
   case rel=>
    have hbl:=lt_of_block fF.out
    have hz:=HF2.out.size
    refine⟨j+1,L',_,rs',by omega,by go_num,HT.out.trans ((Turned.zH HF2.out).trans HT3.out),GX.out,Xi.out,fun hl=>?_,HT3.out.aI.blk (HF2.out.blk fF.out id) jT.out⟩
    rcases HT3.out.own _ hl with g|g
    ·exact jT.out g
    ·omega
   case measure=>simp[intOf];omega
  ·obtain rfl:j=n:=by omega
   have hil:=Xd hn1 x (ks,c) (rs.map aW.con)
   have hc2:=Nw.out
   rw[hil]at hc2
   have hlen:iK.length=rs.length+1:=by have:=congrArg List.length hc2;simpa using this
   have hir:rs.length<iK.length:=by omega
   have hrc:(iK.getD rs.length default).con=⟨x,fQ j (ks,c),List.replicate j true⟩:=by
    rw[←GI hir,hc2,getD_at _ (by simp),List.getElem_append_right (by simp)]
    simp
   have hpx:iE x (iK.map aW.id)=(rs.length:Int):=by
    rw[←Ce,hc2,List.map_append]
    have:=Nv lZ.out
    rw[List.length_map,List.length_map]at this
    exact this
   have hpart:(iK.getD rs.length default).part.map bD.g=fQ j (ks,c):=congrArg iW.part hrc
   have his:(iK.getD rs.length default).is=List.replicate j true:=congrArg iW.is hrc
   have hpl:(iK.getD rs.length default).part.length=j:=(H1.out.lD _ (getD_mem default hir)).part.len
   have GY:=Wq H1.out x rs.length hir hpx (by rw[his];exact Xf j) fun i hi=>by
    have h1:((iK.getD rs.length default).part.getD i default).g=(bH (dA j i) ks,c):=by
     rw[←Cj (by rw[hpl];exact hi),hpart]
     exact Gt (ks,c) hi
    rw[h1]
    have h2:=jy.out i hi
    have h3:=zC (dA j i) ks
    exact⟨Nat.le_trans (Nat.add_le_add_left h3 _) h2.1,h2.2⟩
   rw[hpart]at GY
   have Xj:=ah GY
   have Xk:=ah (show(iK.eraseIdx rs.length).map aW.con=rs.map aW.con by
    have:(iK.eraseIdx rs.length).map aW.con=(iK.map aW.con).eraseIdx rs.length:=by simp only[List.eraseIdx_eq_take_drop_succ,List.map_append,List.map_take,List.map_drop]
    rw[this,hc2]
    have:=Xe (rs.map aW.con) ⟨x,fQ j (ks,c),List.replicate j true⟩
    rwa [List.length_map]at this)
   clear hil hc2 hlen hir hrc hpx hpart his hpl GY
   go_wp2_with(go_at_call 17;refine Xj.out.mono ?_;rintro e W3 ⟨rfl,oI,sv',ns,hf,hst,hns⟩;have HF3:=ah hf;have GX:=ah hst;have u_:=ah hns;clear hf hst hns)
   go_ret
   exact⟨rfl,L1,oI,sv',ns,_,HT.out.trans ⟨HF3.out,fun _ h=> .inl h⟩,GX.out,Xk.out,u_.out⟩
end
open Go.RowKit
def Xl:ByteArray:= {data:= #[102]}
def Ny:aF:=⟨1,1, {data:= #[]},0⟩
def vC:aH:= .cons Xl [Ny] .nil .nil
def qN:aU:=[(1,1,1)]
def oneG:dO:=(vC,qN)
theorem Xm (w:World) (o0 o1 o2 o3 o4:Obj):
 (((((w.alloc o0).alloc o1).alloc o2).alloc o3).alloc o4).heap[w.heap.size]?=some o0∧(((((w.alloc o0).alloc o1).alloc o2).alloc o3).alloc o4).heap[w.heap.size+1+1]?=some o2∧
 (((((w.alloc o0).alloc o1).alloc o2).alloc o3).alloc o4).heap[w.heap.size+1+1+1]?=some o3∧(((((w.alloc o0).alloc o1).alloc o2).alloc o3).alloc o4).heap[w.heap.size+1+1+1+1]?=some o4∧aj au w (((((w.alloc o0).alloc o1).alloc o2).alloc o3).alloc o4):=by
 have s1:(w.alloc o0).heap.size=w.heap.size+1:=by simp
 have s2:((w.alloc o0).alloc o1).heap.size=w.heap.size+1+1:=by simp
 have s3:(((w.alloc o0).alloc o1).alloc o2).heap.size=w.heap.size+1+1+1:=by simp
 have s4:((((w.alloc o0).alloc o1).alloc o2).alloc o3).heap.size=w.heap.size+1+1+1+1:=by simp
 have a0:=heap_alloc_new w o0
 have a2:=heap_alloc_new ((w.alloc o0).alloc o1) o2
 have a3:=heap_alloc_new (((w.alloc o0).alloc o1).alloc o2) o3
 have a4:=heap_alloc_new ((((w.alloc o0).alloc o1).alloc o2).alloc o3) o4
 rw[s2]at a2
 rw[s3]at a3
 rw[s4]at a4
 have f4:=aj.alloc au ((((w.alloc o0).alloc o1).alloc o2).alloc o3) o4
 have f3:=(aj.alloc au (((w.alloc o0).alloc o1).alloc o2) o3).aG f4
 have f2:=(aj.alloc au ((w.alloc o0).alloc o1) o2).aG f3
 have f1:=(aj.alloc au (w.alloc o0) o1).aG f2
 exact⟨f1.blk a0 id,f3.blk a2 id,f4.blk a3 id,a4,(aj.alloc au w o0).aG f1⟩
theorem one_any (w:World):Calls Tryz.prog 27 #[] w fun e w'=>∃kv cv,e= .returned (.agg #[.slice none 0 0,kv,cv])∧jc (fun b=>w.heap.size≤b) w' ⟨[],vC,qN, .slice none 0 0,kv,cv⟩∧aj au w w':=by
 go_enter Tryz.func27,Tryz.ntmps27
 go_wp2
 obtain⟨b0,b2,b3,b4,hf⟩:=Xm w (.cells #[.slice none 0 0, .slice (some ⟨w.heap.size+1+1+1,0,none⟩) 1 1, .slice (some ⟨w.heap.size+1+1+1+1,0,none⟩) 1 1] 32) (.cells #[.int .i64 1, .int .i64 1, .string {data:= #[]}, .int .i64 0] 100) (.cells #[.int .i64 1, .int .i64 1, .string {data:= #[]}, .int .i64 0] 100) (.cells #[.string {data:= #[102]}, .slice (some ⟨w.heap.size+1+1,0,none⟩) 1 1, .slice none 0 0] 52) (.cells #[.int .i64 1, .int .i64 1, .int .i64 1] 92)
 have z0:=aJ b0 0 rfl
 have z1:=aJ b0 1 rfl
 have z2:=aJ b0 2 rfl
 refine bodyPost_ret (v:= .agg #[.slice none 0 0, .slice (some ⟨w.heap.size+1+1+1,0,none⟩) 1 1, .slice (some ⟨w.heap.size+1+1+1+1,0,none⟩) 1 1]) (by simp[results,Tryz.results27,go_sem,z0,z1,z2]) rfl ⟨_,_,rfl,⟨⟨⟨.inl ⟨none,rfl,rfl,rfl⟩,fun h=>absurd rfl h⟩,[(.slice (some ⟨w.heap.size+1+1,0,none⟩) 1 1, .slice none 0 0)],⟨?_,fun _ k hk=>?_⟩,_,_,[],[],rfl,⟨?_,fun _ k hk=>?_⟩,⟨.inl ⟨none,rfl,rfl,rfl⟩,fun h=>absurd rfl h⟩,rfl,rfl⟩,?_,fun _ k hk=>?_⟩,hf⟩
 ·exact Rd.zF (xs:=[.string {data:= #[102]}, .slice (some ⟨w.heap.size+1+1,0,none⟩) 1 1, .slice none 0 0]) b3 (by decide)
 ·simp[Value.ownBlock]at hk;omega
 ·exact Rd.zF (xs:=[.int .i64 1, .int .i64 1, .string {data:= #[]}, .int .i64 0]) b2 (by decide)
 ·simp[Value.ownBlock]at hk;omega
 ·exact Rd.zF (xs:=[.int .i64 1, .int .i64 1, .int .i64 1]) b4 (by decide)
 ·simp[Value.ownBlock]at hk;omega
theorem CG:Good oneG:=by
 have ht:aX 5 [] vC=true:=by decide
 have hc:bZ qN:=⟨⟨by decide,by decide,trivial⟩,fun d h0 h4=>by
  by_cases h:d=1
  ·subst h;exact⟨⟨by decide,by decide,trivial⟩,fun r hr=>by simp[bC,qN]at hr;subst hr;decide⟩
  ·have:bC qN d=[]:=by simp[bC,qN];omega
   rw[this];exact⟨trivial,fun r hr=>by cases hr⟩⟩
 refine⟨⟨FH ht (by decide),by decide,Le hc,by decide⟩,ht,hc,fun r hr=>?_⟩
 have hr:r=(1,1):=by simpa[eu,kM,g_,oneG,vC,Ny]using hr
 subst hr
 exact⟨(1,1),by simp[bC,oneG,qN],by decide,by decide⟩
section
variable {L:Nat→Prop} {w:World} {b n vb:Nat} {sv:Value} {vs:List bD} {rs:List aW}
theorem Nz (hl:vs.length=n) {t:dO} (hv:vs.map bD.g=fQ n t) {j:Nat} (hj:j<n):(vs.getD j default).g=(bH (dA n j) t.1,t.2):=by
 rw[←Cj (by omega),hv]
 exact Gt t hj
theorem Xn (h:dY L w b n vb sv vs rs) (t:dO) (ht:gI t.1.keys) (hv:vs.map bD.g=fQ n t):
 Calls Tryz.prog 20 #[.pointer (some ⟨b,0,none⟩)] w fun e w'=>∃kv cv,e= .returned (.agg #[.slice none 0 0,kv,cv])∧jc (fun b=>w.heap.size≤b) w' ⟨[],t.1,t.2, .slice none 0 0,kv,cv⟩∧aj au w w':=by
 refine(WL h).mono fun e w' hp=>?_
 obtain⟨kv,cv,ks',rfl,hta,ho,hpm,hso⟩:=hp
 rw[hv]at hpm
 obtain rfl:ks'=t.1:=VK ht (hpm.trans (MN t h.n1 h.n4)) hso
 have hc:(vs.getD 0 default).c=t.2:=congrArg Prod.snd (Nz h.vis.len hv h.n1)
 rw[hc]at ho
 exact⟨kv,cv,rfl,⟨hta,ho.rd,fun _ k hk=>ho.new k hk⟩,ho.aI⟩
theorem Xo (h:dY L w b n vb sv vs rs) (x:Int) (a:dO) (hga:Good a) (hv:vs.map bD.g=fQ n a) (ks:aH) (c:aU) (ev kv cv:Value) (ha:jc (fun k=>¬L k) w ⟨[],ks,c,ev,kv,cv⟩) (hg:Good (ks,c)) (hp:iE x (rs.map aW.id)=-1) (hl:rs.length<4)
 (hs:qL a+cu ks≤2000) (hc:a.2.length+c.length≤2000):
 Calls Tryz.prog 15 #[.pointer (some ⟨b,0,none⟩), .int .i64 x, .agg #[ev,kv,cv]] w fun e w'=>e= .returned (.int .i64 0)∧∃L' oI sv' ns rs',Turned L w L' w'∧dY L' w' b n oI sv' ns rs'∧rs'.map aW.con=rs.map aW.con∧ns.map bD.g=fQ n (mP a (ks,c)):=by
 refine(Xg h x ks c ev kv cv ha hg hp hl fun j hj=>?_).mono fun e w' ⟨he,L',oI,sv',ns,rs',h1,h2,h3,h4⟩=>⟨he,L',oI,sv',ns,rs',h1,h2,h3,by rw[h4,hv];exact VF hga hg⟩
 rw[Nz h.vis.len hv hj]
 have:=zC (dA n j) a.1
 exact⟨Nat.le_trans (Nat.add_le_add_right this _) hs,hc⟩
end
def newL (w:World) (k:Nat):Prop:=k=w.heap.size+1
theorem NC (n:Nat) (h1:1≤n) (h4:n≤4) (w:World):Calls Tryz.prog 14 #[.int .i64 n] w fun e w'=>e= .returned (.tuple #[.pointer (some ⟨w.heap.size+1,0,none⟩), .int .i64 0])∧
 dY (newL w) w' (w.heap.size+1) n w.heap.size (.slice none 0 0) (jY n) []∧(jY n).map bD.g=fQ n gJ∧aj au w w':=by
 refine(Vp n h1 h4 w).mono fun e w' ⟨he,hw⟩=>?_
 have b1:w'.heap[w.heap.size+1]?=some (.cells #[.slice (some ⟨w.heap.size,0,none⟩) n n, .slice none 0 0] 81 (0,0)):=by rw[hw];exact(mJ w _ _ _).1
 have b0:w'.heap[w.heap.size]?=some (.cells ((jY n).flatMap bD.cells).toArray 32 (0,0)):=by rw[hw];exact(aj.alloc au _ _).blk (heap_alloc_new w _) id
 have hf:aj au w w':=by rw[hw];exact(mJ w _ _ _).2.1
 refine⟨he,⟨h1,h4,fun k hk=>?_,b1,rfl,GK b0,fun e=>by have e:w.heap.size=w.heap.size+1:=e;omega,World.ownsRow_nil w' 0 _ _,fun k hk=>(by simp[Value.ownBlock]at hk),fun r hr=>(by cases hr),List.nodup_nil,List.nodup_nil,List.nodup_nil,Nat.zero_le _⟩,?_,hf⟩
 ·have hk:k=w.heap.size+1:=hk
  subst hk
  exact lt_of_block b1
 ·rw[VI]
  unfold jY
  rw[List.map_replicate]
  rfl
open Go.RowKit
theorem ND (Q Q':Nat→Prop):∀(N:Nat) (es:List aF) (ks:aH) (es':List aF) (ks':aH) (w:World) (ev kv ev' kv':Value),cu ks<N→bg Q w ev kv es ks→bg Q' w ev' kv' es' ks'→sizeT es ks≤100000→sizeT es' ks'≤100000→
 Calls Tryz.prog 25 #[.agg #[ev,kv], .agg #[ev',kv']] w fun e w'=>e= .returned (.bool (tf (es=es'∧ks=ks')))∧aj au w w':=by
 intro N
 induction N with
 |zero=>intros;exfalso;omega
 |succ N fO=>
  intro es ks es' ks' w ev kv ev' kv' hN ht ht' hsz hsz'
  obtain⟨ae,ce,rfl⟩:=ht.ents.rd.sl
  obtain⟨os,hkr,dH⟩:=ht.kids
  obtain⟨ak,ck,rfl⟩:=hkr.rd.sl
  obtain⟨dI,dJ,rfl⟩:=ht'.ents.rd.sl
  obtain⟨os',fB,jA⟩:=ht'.kids
  obtain⟨dK,dL,rfl⟩:=fB.rd.sl
  have h1:es.length≤100000:=by unfold sizeT at hsz;omega
  have h2:es'.length≤100000:=by unfold sizeT at hsz';omega
  have h3:ks.len≤100000:=by have:=kG ks;unfold sizeT at hsz;omega
  have h4:ks'.len≤100000:=by have:=kG ks';unfold sizeT at hsz';omega
  by_cases hle:es.length=es'.length
  rotate_left 1
  ·rw[bW fun h=>hle (by rw[h.1])]
   clear ht ht' hkr fB dH jA fO hN hsz hsz'
   generalize es.length=n at*
   generalize ks.len=m at*
   generalize es'.length=n' at*
   generalize ks'.len=m' at*
   have hz:((n:Int)==(n':Int))=false:=by simp;omega
   have bf:=ah ((aj.alloc au w (.cells #[.slice ae n ce, .slice ak m ck] 28)).alloc1 (o:= .cells #[.slice dI n' dJ, .slice dK m' dL] 28))
   go_enter Tryz.func25,Tryz.ntmps25
   go_wp2
   go_ret
   exact⟨rfl,bf.out⟩
  by_cases hlk:ks.len=ks'.len
  rotate_left 1
  ·rw[bW fun h=>hlk (by rw[h.2])]
   rw[←hle]
   clear ht ht' hkr fB dH jA fO hN hsz hsz' h2 hle
   generalize es.length=n at*
   generalize ks.len=m at*
   generalize ks'.len=m' at*
   have hz:((m:Int)==(m':Int))=false:=by simp;omega
   have bf:=ah ((aj.alloc au w (.cells #[.slice ae n ce, .slice ak m ck] 28)).alloc1 (o:= .cells #[.slice dI n dJ, .slice dK m' dL] 28))
   go_enter Tryz.func25,Tryz.ntmps25
   go_wp2
   go_ret
   exact⟨rfl,bf.out⟩
  have HE:=ah ht.ents.rd
  have hE':=ht'.ents.rd
  have hK':=fB.rd
  rw[←hle]at hE'⊢
  rw[←hlk]at hK'⊢
  have NG:=ah hE';clear hE'
  have fH:=ah hkr.rd
  have uV:=ah hK';clear hK'
  have jH:=ah dH;clear dH
  have BG:=ah jA;clear jA
  have xM:=ah hle.symm;clear hle
  have jI:=ah hlk.symm;clear hlk
  have IH:=ah fO;clear fO
  have jy:=ah hsz;clear hsz
  have Xp:=ah hsz';clear hsz'
  have kH:=ah hN;clear hN
  clear ht ht' hkr fB h2 h4
  generalize hes:es.length=n at*
  have HN:=ah hes;clear hes
  generalize hkl:ks.len=m at*
  have HM:=ah hkl;clear hkl
  have bf:=ah ((aj.alloc au w (.cells #[.slice ae n ce, .slice ak m ck] 28)).alloc1 (o:= .cells #[.slice dI n dJ, .slice dK m dL] 28))
  have bF:=ah (Fe w (.slice ae n ce) (.slice ak m ck) (.slice dI n dJ) (.slice dK m dL) 28)
  go_enter Tryz.func25,Tryz.ntmps25
  go_wp2
  go_loopw [26] (fun i ww=>∃k:Nat,k≤n∧i= .int .i64 k∧pq es es' k∧aj au ((w.alloc (.cells #[.slice ae n ce, .slice ak m ck] 28)).alloc (.cells #[.slice dI n dJ, .slice dK m dL] 28)) ww) (fun i _=>n-(intOf i).toNat)
  case atStart=>exact⟨0,Nat.zero_le _,rfl,(fun j hj=>absurd hj (Nat.not_lt_zero _)),aj.refl _ _⟩
  case round=>
   obtain⟨k,hk,rfl,hlk,hw⟩:=hrel
   have NH:=ah hlk;clear hlk
   have HW:=ah hw;clear hw
   obtain⟨b0,b1,b2,b3⟩:=bF.out wr HW.out
   by_cases hlt:k<n
   ·rcases Rd.shape HE.out with⟨ad,he,h0⟩|⟨e1,off1,BF,he,hmax⟩
    ·exfalso;omega
    rcases Rd.shape NG.out with⟨ad,he2,h0⟩|⟨e2,off2,jd,he2,uG⟩
    ·exfalso;omega
    injection he with g1 g2 g3
    injection he2 with g4 g5 g6
    subst g1 g3 g4 g6
    clear g2 g5
    obtain⟨p0,p1,p2,p3⟩:=nD HE.out k (by rw[HN.out];exact hlt)
    obtain⟨q0,q1,q2,q3⟩:=nD NG.out k (by rw[xM.out];exact hlt)
    have hfw:=bf.out.aG HW.out
    have p0:=hfw.cell' p0 id
    have p1:=hfw.cell' p1 id
    have p2:=hfw.cell' p2 id
    have p3:=hfw.cell' p3 id
    have q0:=hfw.cell' q0 id
    have q1:=hfw.cell' q1 id
    have q2:=hfw.cell' q2 id
    have q3:=hfw.cell' q3 id
    clear hfw
    have HST:=ah (show es.getD k aF.zero=es'.getD k aF.zero→pq es es' (k+1)from NH.out.step)
    have jM:=ah (show es.getD k aF.zero≠es'.getD k aF.zero→¬(es=es'∧ks=ks')from fun h e=>h (by rw[e.1]))
    generalize es.getD k aF.zero=s at*
    generalize es'.getD k aF.zero=t at*
    by_cases hst:s=t
    ·subst hst
     go_wp2_with fail
     go_quiet (fail)
     go_wp2
     go_roundw
     case rel=>exact⟨k+1,by omega,by go_num,HST.out (by trivial),HW.out.fG⟩
     case measure=>simp[intOf];omega
    ·have ji:=ah (show false=tf (es=es'∧ks=ks')from(bW (jM.out hst)).symm)
     obtain⟨s0,s1,s2,s3⟩:=s
     obtain⟨t0,t1,t2,t3⟩:=t
     clear HST jM
     dsimp only at p0 p1 p2 p3 q0 q1 q2 q3
     by_cases g0:s0=t0
     ·subst g0
      by_cases g1:s1=t1
      ·subst g1
       by_cases g2:s2=t2
       ·subst g2
        have g3:s3≠t3:=fun h=>hst (by rw[h])
        clear hst
        have gb:((s3:Int)==t3)=false:=by simpa using g3
        go_wp2_with fail
        go_quiet (fail)
        go_wp2
        go_ret
        exact⟨bI ji.out,bf.out.aG HW.out.fG⟩
       ·clear hst
        have gb:=zn g2
        go_wp2_with fail
        go_quiet (fail)
        go_wp2
        go_ret
        exact⟨bI ji.out,bf.out.aG HW.out.fG⟩
      ·clear hst
       have gb:((s1:Int)==t1)=false:=by simpa using g1
       go_wp2_with fail
       go_quiet (fail)
       go_wp2
       go_ret
       exact⟨bI ji.out,bf.out.aG HW.out.fG⟩
     ·clear hst
      have gb:((s0:Int)==t0)=false:=by simpa using g0
      go_wp2_with fail
      go_quiet (fail)
      go_wp2
      go_ret
      exact⟨bI ji.out,bf.out.aG HW.out.fG⟩
   ·obtain rfl:n=k:=by omega
    have hee:es=es':=pq.all (HN.out.trans xM.out.symm) (by rw[HN.out];exact NH.out)
    have rC:=ah hee;clear hee
    go_wp2
    clear b0 b1 b2 b3
    go_loopw [44] (fun i ww=>∃k:Nat,k≤m∧i= .int .i64 k∧(ks=ks'↔ks.drop k=ks'.drop k)∧aj au ((w.alloc (.cells #[.slice ae n ce, .slice ak m ck] 28)).alloc (.cells #[.slice dI n dJ, .slice dK m dL] 28)) ww) (fun i _=>m-(intOf i).toNat)
    case atStart=>exact⟨0,Nat.zero_le _,rfl,Iff.rfl,HW.out⟩
    case round=>
     obtain⟨k,hk,rfl,hiff,hwk⟩:=hrel
     have CJ:=ah hiff;clear hiff
     have dw:=ah hwk;clear hwk
     by_cases hlt:k<m
     ·obtain⟨key,es0,sub,rest,hdr⟩:=aH.mD (n:=k) (ks:=ks) (by rw[HM.out];exact hlt)
      obtain⟨key',rP,sub',rest',hdr'⟩:=aH.mD (n:=k) (ks:=ks') (by rw[jI.out];exact hlt)
      rcases Rd.shape fH.out with⟨ad,he,h0⟩|⟨e1,off1,BF,he,hmax⟩
      ·exfalso;omega
      rcases Rd.shape uV.out with⟨ad,he2,h0⟩|⟨e2,off2,jd,he2,uG⟩
      ·exfalso;omega
      injection he with g1 g2 g3
      injection he2 with g4 g5 g6
      subst g1 g3 g4 g6
      clear g2 g5
      have hfw:=bf.out.aG dw.out
      obtain⟨ev0,Xq,p0,p1,p2,hta⟩:=k_ (fH.out.aN hfw) (jH.out.aN hfw) hdr
      obtain⟨ev1,NI,q0,q1,q2,htb⟩:=k_ (uV.out.aN hfw) (BG.out.aN hfw) hdr'
      clear hfw
      have hss:=qC k hdr
      have hst1:=ru k hdr
      have hst2:=ru k hdr'
      have HC:=ah (fun W (f:aj au wr W)=>IH.out es0 sub rP sub' W ev0 Xq ev1 NI (by have:=kH.out;omega) (hta.aN f) (htb.aN f) (by have:=jy.out;unfold sizeT at*;omega) (by have:=Xp.out;unfold sizeT at*;omega))
      have HST:=ah (KO hdr hdr')
      obtain⟨a0,c0,rfl⟩:=hta.ents.rd.sl
      obtain⟨o3,hk3,-⟩:=hta.kids
      obtain⟨a1,c1,rfl⟩:=hk3.rd.sl
      obtain⟨a0',c0',rfl⟩:=htb.ents.rd.sl
      obtain⟨o4,hk4,-⟩:=htb.kids
      obtain⟨a1',c1',rfl⟩:=hk4.rd.sl
      clear hk3 hk4 hta htb hdr hdr' hss hst1 hst2
      generalize es0.length=n0 at*
      generalize sub.len=m0 at*
      generalize rP.length=n1 at*
      generalize sub'.len=m1 at*
      obtain⟨α,hne,K,hK1,hK0,hK2⟩:=worlds wr
      have kb:=fun s=>bF.out (K s) (dw.out.aG (hK1 s))
      have k0:=fun s=>(kb s).1
      have k1:=fun s=>(kb s).2.1
      have k2:=fun s=>(kb s).2.2.1
      have k3:=fun s=>(kb s).2.2.2
      have r0:=fun s=>(hK1 s).cell' p0 id
      have r1:=fun s=>(hK1 s).cell' p1 id
      have r2:=fun s=>(hK1 s).cell' p2 id
      have t0:=fun s=>(hK1 s).cell' q0 id
      have t1:=fun s=>(hK1 s).cell' q1 id
      have t2:=fun s=>(hK1 s).cell' q2 id
      clear kb p0 p1 p2 q0 q1 q2
      have dV:=ah (fun s=>dw.out.aG (hK1 s))
      have nI:=ah hK1
      by_cases hkey:key=key'
      ·by_cases hsub:es0=rP∧sub=sub'
       ·rw[dD hsub]at HC
        have HY:=ah (show key=key'∧es0=rP∧sub=sub' from⟨hkey,hsub⟩)
        subst hkey
        clear hsub
        go_wp2_with fail
        refine dh K (by kernel_rfl) (by kernel_rfl) hK0 ?_
        repeat(go_big_quiet_step ((go_at_call 25;exact Calls.aZ hK2 (HC.out _ (nI.out _)))))
        refine wpQuiet_nil ?_
        intro w' hw'
        obtain⟨s,rfl⟩:=hw'
        go_wp2
        go_roundw
        case rel=>exact⟨k+1,by omega,by go_num,CJ.out.trans (HST.out.trans ⟨fun h=>h.2,fun h=>⟨⟨by trivial,HY.out.2⟩,h⟩⟩),dV.out s⟩
        case measure=>simp[intOf];omega
       ·rw[bW hsub]at HC
        have HY:=ah (show ¬(es=es'∧ks=ks')from fun h=>hsub (HST.out.1 (CJ.out.1 h.2)).1.2)
        subst hkey
        clear hsub
        go_wp2_with fail
        refine dh K (by kernel_rfl) (by kernel_rfl) hK0 ?_
        repeat(go_big_quiet_step ((go_at_call 25;exact Calls.aZ hK2 (HC.out _ (nI.out _)))))
        refine wpQuiet_nil ?_
        intro w' hw'
        obtain⟨s,rfl⟩:=hw'
        go_wp2
        go_ret
        exact⟨bI (bW HY.out).symm,bf.out.aG (dV.out s)⟩
      ·have HY:=ah (show ¬(es=es'∧ks=ks')from fun h=>hkey (HST.out.1 (CJ.out.1 h.2)).1.1)
       have gb:=zn hkey
       have gc:(key.toList==key'.toList)=false:=by simpa using gb
       go_wp2_with fail
       refine dh K (by kernel_rfl) (by kernel_rfl) hK0 ?_
       repeat(go_big_quiet_step ((go_at_call 25;exact Calls.aZ hK2 (HC.out _ (nI.out _)))))
       refine wpQuiet_nil ?_
       intro w' hw'
       obtain⟨s,rfl⟩:=hw'
       go_wp2
       go_ret
       exact⟨bI (bW HY.out).symm,bf.out.aG (dV.out s)⟩
     ·obtain rfl:m=k:=by omega
      have hkk:ks=ks':=CJ.out.2 (by rw[aH.nZ (by rw[HM.out];exact Nat.le_refl _),aH.nZ (by rw[jI.out];exact Nat.le_refl _)])
      have HKK:=ah hkk;clear hkk
      go_wp2
      go_ret
      exact⟨bI (dD ⟨rC.out,HKK.out⟩).symm,bf.out.aG dw.out⟩
open Go.RowKit
theorem NJ (Q Q':Nat→Prop) (es:List aF) (ks:aH) (c:aU) (es':List aF) (ks':aH) (c':aU) (w:World) (ev kv cv ev' kv' i_:Value) (h:fP Q w ev kv cv es ks c) (hok:jW es ks c) (h':fP Q' w ev' kv' i_ es' ks' c') (hok':jW es' ks' c'):
 Calls Tryz.prog 19 #[.agg #[ev,kv,cv], .agg #[ev',kv',i_]] w fun e w'=>e= .returned (.bool (tf ((es=es'∧ks=ks')∧c=c')))∧aj au w w':=by
 obtain⟨a0,c0,a1,c1,a2,c2,rfl,rfl,rfl⟩:=h.shape
 obtain⟨b0,d0,b1,d1,b2,d2,rfl,rfl,rfl⟩:=h'.shape
 have HT:=ah (fun W (f:aj au w W)=>ND Q Q' _ es ks es' ks' W _ _ _ _ (Nat.lt_succ_self _) (h.tree.aN f) (h'.tree.aN f) (Nat.le_trans hok.small (by decide)) (Nat.le_trans hok'.small (by decide)))
 have hde:decide (c=c')=tf (c=c'):=vU (by rw[decide_eq_true_iff])
 have HC:=ah (fun W (f:aj au w W)=>hde▸Tv W _ _ c c' (Rd.aN h.ctx f) (Rd.aN h'.ctx f) (Nat.le_trans hok.len (by decide)) (Nat.le_trans hok'.len (by decide)))
 clear h hok h' hok' hde
 by_cases r3:es=es'∧ks=ks'
 rotate_left 1
 ·rw[bW r3]at HT
  rw[bW fun h=>r3 h.1]
  clear r3 HC
  generalize es.length=n at*
  generalize ks.len=m at*
  generalize c.length=k at*
  generalize es'.length=n' at*
  generalize ks'.len=m' at*
  generalize c'.length=k' at*
  have bf:=ah ((aj.alloc au w (.cells #[.slice a0 n c0, .slice a1 m c1, .slice a2 k c2] 32)).alloc1 (o:= .cells #[.slice b0 n' d0, .slice b1 m' d1, .slice b2 k' d2] 32))
  have bF:=ah (w_ w (.slice a0 n c0) (.slice a1 m c1) (.slice a2 k c2) (.slice b0 n' d0) (.slice b1 m' d1) (.slice b2 k' d2) 32)
  go_enter Tryz.func19,Tryz.ntmps19
  go_wp2_with(first
   |(go_at_call 25;refine(HT.out _ bf.out).mono ?_;rintro e w1 ⟨rfl,hw1⟩;obtain⟨y0,y1,y2,y3,y4,y5⟩:=bF.out w1 hw1;have HW1:=ah hw1;clear hw1))
  go_ret
  exact⟨rfl,bf.out.aG HW1.out⟩
 rw[dD r3]at HT
 have hall:tf ((es=es'∧ks=ks')∧c=c')=tf (c=c'):=vT ⟨fun h=>h.2,fun h=>⟨r3,h⟩⟩
 rw[hall]
 clear hall r3
 generalize tf (c=c')=y at*
 generalize es.length=n at*
 generalize ks.len=m at*
 generalize c.length=k at*
 generalize es'.length=n' at*
 generalize ks'.len=m' at*
 generalize c'.length=k' at*
 have bf:=ah ((aj.alloc au w (.cells #[.slice a0 n c0, .slice a1 m c1, .slice a2 k c2] 32)).alloc1 (o:= .cells #[.slice b0 n' d0, .slice b1 m' d1, .slice b2 k' d2] 32))
 have bF:=ah (w_ w (.slice a0 n c0) (.slice a1 m c1) (.slice a2 k c2) (.slice b0 n' d0) (.slice b1 m' d1) (.slice b2 k' d2) 32)
 go_enter Tryz.func19,Tryz.ntmps19
 go_wp2_with(first
  |(go_at_call 25;refine(HT.out _ bf.out).mono ?_;rintro e w1 ⟨rfl,hw1⟩;obtain⟨y0,y1,y2,y3,y4,y5⟩:=bF.out w1 hw1;have HW1:=ah hw1;clear hw1)
  |(go_at_call 45;refine(HC.out _ (bf.out.aG HW1.out)).mono ?_;rintro e w2 ⟨rfl,hw2⟩;have HW2:=ah (HW1.out.aG hw2);clear hw2))
 go_ret
 exact⟨rfl,bf.out.aG HW2.out⟩
open Go.RowKit
theorem Xr:mP gJ (vC,qN)=oneG:=VE CG
theorem Xt {x:Int}:iE x (([]:List aW).map aW.id)=-1:=Nu (by simp)
theorem NK:qL gJ+cu vC≤2000∧gJ.2.length+qN.length≤2000:=by decide
theorem GZ {Q:Nat→Prop} {w:World} {es:List aF} {ks:aH} {c:aU} {ev kv cv:Value} (h:jc Q w ⟨es,ks,c,ev,kv,cv⟩):∃a1 c1 a2 c2,kv= .slice a1 ks.len c1∧cv= .slice a2 c.length c2:=by
 obtain⟨_,_,a1,c1,a2,c2,_,h1,h2⟩:=h.at_.shape
 exact⟨a1,c1,a2,c2,h1,h2⟩
theorem Xu (Q Q':Nat→Prop) (ks:aH) (c:aU) (w:World) (kv cv kv' i_:Value) (hg:Good (ks,c)) (h:jc Q w ⟨[],ks,c, .slice none 0 0,kv,cv⟩) (ev':Value) (h':jc Q' w ⟨[],ks,c,ev',kv',i_⟩):
 Calls Tryz.prog 19 #[.agg #[.slice none 0 0,kv,cv], .agg #[ev',kv',i_]] w fun e w'=>e= .returned (.bool true)∧aj au w w':=by
 have:=NJ Q Q' [] ks c [] ks c w (.slice none 0 0) kv cv ev' kv' i_ h.at_ hg.ok h'.at_ hg.ok
 rwa [dD ⟨⟨rfl,rfl⟩,rfl⟩]at this
theorem Xv (w:World):Calls Tryz.prog 9 #[] w fun e w'=>e= .returned (.bool true)∧aj au w w':=by
 have HN:=ah (show Calls Tryz.prog 14 #[.int .i64 2] w fun e w'=>e= .returned (.tuple #[.pointer (some ⟨w.heap.size+1,0,none⟩), .int .i64 0])∧
  dY (newL w) w' (w.heap.size+1) 2 w.heap.size (.slice none 0 0) (jY 2) []∧(jY 2).map bD.g=fQ 2 gJ∧aj au w w' from NC 2 (by decide) (by decide) w)
 go_enter Tryz.func9,Tryz.ntmps9
 go_wp2_with(first
  |(go_at_call 14;refine HN.out.mono ?_;rintro e w1 ⟨rfl,hst,hv,hf⟩;have HST:=ah hst;have HV:=ah hv;have dB:=ah hf;clear hst hv hf)
  |(go_at_call 15;refine HI.out.mono ?_;rintro e w3 ⟨rfl,L',oI,sv',ns,rs',ht,hst3,hcon,hv3⟩;rw[Xr]at hv3;have HT3:=ah ht;have HF3:=ah (HF2.out.trans ht.aI fun i hi e=>by have e:i=w.heap.size+1:=e;omega);have uJ:=ah (Xn hst3 oneG (Gn CG) hv3);clear ht hst3 hcon hv3)
  |(go_at_call 20;refine uJ.out.mono ?_;rintro e w4 ⟨Zv,Zw,rfl,hc4,hf4⟩;have Xw:=ah hc4;have lG:=ah (HF3.out.aG hf4);obtain⟨a7,c7,a8,c8,rfl,rfl⟩:=GZ hc4;clear hc4 hf4)
  |(go_at_call 19;refine nT.out.mono ?_;rintro e w6 ⟨rfl,NM⟩;have HF6:=ah (G_.out.aG NM);clear NM)
  |(go_at_call 27;have q9:=lG.out;clear q9;refine(one_any _).mono ?_;rintro e w5 ⟨Vb,Vd,rfl,hc5,hf5⟩;have G_:=ah (lG.out.aG hf5);have nT:=ah (Xu _ _ _ _ _ _ _ _ _ CG (Xw.out.aN hf5) _ hc5);obtain⟨a5,c5,a6,c6,rfl,rfl⟩:=GZ hc5;clear hc5 hf5)
  |(go_at_call 27;refine(one_any _).mono ?_;rintro e w2 ⟨NP,JL,rfl,hc2,hf2⟩;have HF2:=ah (dB.out.aG hf2);have HI:=ah (Xo (HST.out.aN hf2) 1 gJ Gq HV.out vC qN (.slice none 0 0) NP JL (hc2.turn fun k hk hQ=>⟨rfl,fun e=>by have e:k=w.heap.size+1:=e;have:=lt_of_block HST.out.box;omega⟩) CG Xt (by decide) NK.1 NK.2);obtain⟨a2,c2,a3,c3,rfl,rfl⟩:=GZ hc2;clear hc2 hf2))
 go_ret
 exact⟨rfl,HF6.out⟩
end Go.Proofs.YtlhmbkjdfjoilaaGreat
