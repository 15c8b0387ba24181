/- Words for the law ShardPlays: Ps5, Ps6. -/
import Derived.Test.YtlhmbkjdfjoilaaGreatShardPlaysG0
import Derived.Test.YtlhmbkjdfjoilaaGreatShardPlaysG22
import Derived.Test.YtlhmbkjdfjoilaaGreatShardPlaysG28
import Derived.Test.YtlhmbkjdfjoilaaGreatShardPlaysG29
set_option linter.unusedSimpArgs false
set_option linter.unusedVariables false
set_option maxHeartbeats 32000000
set_option maxRecDepth 1000000
namespace Go.Proofs.YtlhmbkjdfjoilaaGreat
open Go.RowKit
theorem ahk {A B:List bY} {k:Nat} (ha:k<A.length) (hb:k<B.length):(List.zipWith fK A B).take (k+1)=(List.zipWith fK A B).take k++ [fK (A.getD k dD) (B.getD k dD)]:=by
 have hl:k<(List.zipWith fK A B).length:=by rw[List.length_zipWith];omega
 rw[take_succ dD hl,getD_at _ hl,List.getElem_zipWith,getD_at _ ha,getD_at _ hb]
theorem Zn:(Tryz.prog.info? 32).map (fun i=>(i.zero,i.size,i.bytes))=some (some (.agg #[.slice none 0 0, .slice none 0 0, .slice none 0 0]),3,72):=by kernel_rfl
structure CY (w W:World) (v:Value) (ns:List aU):Prop where
 own:OwnAt w W 32 3 v ns.length (ns.flatMap aU.cells)
 each:∀q∈ns,q.es=[]∧eF (fun k=>w.heap.size≤k∧v.ownBlock≠some k) W q∧Good q.g
theorem CY.add {w W W2:World} {v v':Value} {ns:List aU} {q:aU} (h:CY w W v ns) (f:aj (eG v) W W2) (fr:lN W v v') (own:W2.ownsRow 0 32 3 v' (ns.length+1) (ns.flatMap aU.cells++q.cells))
 (hq:q.es=[]∧eF (fun k=>w.heap.size≤k∧v.ownBlock≠some k) W q∧Good q.g):CY w W2 v' (ns++ [q]):=by
 have h1:=h.own.step own f fr
 refine⟨by rw[List.length_append,List.flatMap_append];simpa using h1,fun x hx=>?_⟩
 have hx:x.es=[]∧eF (fun k=>w.heap.size≤k∧v.ownBlock≠some k) W x∧Good x.g:=(List.mem_append.1 hx).elim (h.each x) fun h=>by
  have:x=q:=by simpa using h
  subst this
  exact hq
 exact⟨hx.1,hx.2.1.turn fun k hk hQ=>⟨f.block k hk hQ.2,hQ.1,fun e=>by
  rcases fr k e with s|s
  ·exact hQ.2 s
  ·omega⟩,hx.2.2⟩
theorem CY.aS {w W W':World} {v:Value} {ns:List aU} (h:CY w W v ns) (f:aj aF W W'):CY w W' v ns:=
 ⟨h.own.keep f,fun q hq=>let⟨h1,h2,h3⟩:=h.each q hq;⟨h1,h2.aS f,h3⟩⟩
section
variable {Q:Nat→Prop} {w:World} {n:Nat} {vv sv:Value} {vs:List aU} {rs:List bn}
theorem ahl (h:jf Q w n vv sv vs rs) (x:Int) (hc:mZ x (rs.map bn.con)<n):Calls Tryz.prog 58 #[.agg #[vv,sv], .int .i64 x] w fun e w'=>e= .returned (.tuple #[.agg #[vv,sv], .int .i64 7])∧aj aF w w':=by
 obtain⟨a0,c0,a1,c1,rfl,rfl⟩:=h.shape
 have HM:=ah (fun W (f:aj aF w W)=>QL (h.aS f) x)
 have hn4:=h.n4
 clear h
 generalize mZ x (rs.map bn.con)=c at*
 generalize rs.length=m at*
 have hci:(c:Int)<(n:Int):=by omega
 obtain⟨g1,g2,g3⟩:=lY w (.cells #[.slice a0 n c0, .slice a1 m c1] 62) #[.slice none 0 0, .slice none 0 0] 62
 have g0:=(aj.alloc aF (w.alloc (.cells #[.slice a0 n c0, .slice a1 m c1] 62)) (.cells #[.slice none 0 0, .slice none 0 0] 62)).blk (heap_alloc_new w _) id
 obtain⟨W2,hW2⟩:∃W2,W2=(w.alloc (.cells #[.slice a0 n c0, .slice a1 m c1] 62)).alloc (.cells #[.slice none 0 0, .slice none 0 0] 62):=⟨_,rfl⟩
 rw[←hW2]at g0 g1 g2 g3
 have HF2:=ah g2
 have HB0:=ah g0
 have HB1:=ah g1
 have HW2:=ah hW2
 obtain⟨α,hne,K,hK1,hK0,hK2⟩:=worlds W2
 have dS:=ah hK1
 have k0:∀s,(K s).cell? ⟨w.heap.size,0,none⟩=some (.slice a0 n c0):=fun s=>(hK1 s).cell' (aG g0 0 rfl) id
 have k1:∀s,(K s).cell? ⟨w.heap.size,1,none⟩=some (.slice a1 m c1):=fun s=>(hK1 s).cell' (aG g0 1 rfl) id
 have FB:=ah (fun s=>HM.out (K s) (g2.aH (hK1 s)))
 clear g0 g1 g2 g3 hW2 hK1
 go_enter Tryz.func58,Tryz.ntmps58
 go_upto_region 1 with fail
 rw[←HW2.out]
 refine dX K (by kernel_rfl) (by kernel_rfl) hK0 ?_
 repeat(go_big_quiet_step ((go_at_call 32;exact Calls.bT hK2 (FB.out _))))
 refine wpQuiet_nil ?_
 intro w' hw'
 obtain⟨s,rfl⟩:=hw'
 have hx:=(dS.out s).blk HB1.out id
 have x0:=aG hx 0 rfl
 have x1:=aG hx 1 rfl
 have f0:=aW hx 0
 have f1:=aW hx 1
 have hlx:=lt_of_block hx
 have y0:=k0 s
 have y1:=k1 s
 have bH:=ah (eY (eY hx 0 (.slice a0 n c0)) 1 (.slice a1 m c1))
 have bU:=ah (fun w0=>(aj.setCell (S:=fun x=>x=w.heap.size+1) w0 (p:=⟨w.heap.size+1,0,none⟩) (.inl rfl) (.slice a0 n c0)).trans (aj.setCell (S:=fun x=>x=w.heap.size+1) _ (p:=⟨w.heap.size+1,1,none⟩) (.inl rfl) (.slice a1 m c1)) fun _ _ h=>h)
 clear k0 k1 hx hK0 hK2
 generalize hks:K s=Y at*
 have bJ:=ah (show aj aF w Y by rw[←hks];exact HF2.out.aH (dS.out s))
 clear hks
 go_wp2
 have z0:=aG bH.out 0 rfl
 have z1:=aG bH.out 1 rfl
 refine bodyPost_ret (v:= .tuple #[.agg #[.slice a0 n c0, .slice a1 m c1], .int .i64 7]) (by simp[results,Tryz.results58,go_sem,z0,z1]) rfl ⟨rfl,bJ.out.trans (bU.out _) fun y hy e=>by omega⟩
def Sz (Q:Nat→Prop) (w:World) (n:Nat) (vs:List aU) (rs:List bn) (x:Int) (i:Nat) (e:Ending) (w':World):Prop:=
 ∃II sv' ns rs',e= .returned (.tuple #[.agg #[II,sv'], .int .i64 0])∧jf Q w' n II sv' ns rs'∧ns.map aU.g=List.zipWith fK (vs.map aU.g) ((rs.getD i default).part.map aU.g)∧rs'.map bn.con=lT x (rs.map bn.con)∧aj aF w w'
theorem Zo (h:jf Q w n vv sv vs rs) (hQ:∀k,w.heap.size≤k→Q k) (x:Int) (i:Nat) (hi:i<rs.length) (hp:dG x (rs.map bn.id)=i) (hall:mZ x (rs.map bn.con)=n)
 (hsz:∀j,j<n→dQ (vs.getD j default).g+dQ ((rs.getD i default).part.getD j default).g≤2000∧(vs.getD j default).g.2.length+((rs.getD i default).part.getD j default).g.2.length≤2000):
 Calls Tryz.prog 58 #[.agg #[vv,sv], .int .i64 x] w (Sz Q w n vs rs x i):=by
 obtain⟨i0,hi0,hz0,hz1,hz2⟩:=info_parts Zn
 obtain⟨a0,c0,a1,c1,rfl,rfl⟩:=h.shape
 have HM:=ah (fun W (f:aj aF w W)=>hall▸QL (h.aS f) x)
 have HAT:=ah (fun W (f:aj aF w W)=>hp▸EP (h.aS f) x)
 have HR:=ah (fun W (f:aj aF w W)=>h.aS f)
 have iC:=ah hsz
 have HQ:=ah hQ
 have hn4:=h.n4
 have hn1:=h.n1
 have hfew:=h.few
 have wU:=ah h.vis.len
 have dV:=ah (h.jJ _ (getD_mem default hi)).part.len
 have EU:=ah (fun W (f:aj aF w W)=>(h.aS f).jJ _ (getD_mem default hi))
 have hsc:=(uz (rs.map bn.q) i (by rw[List.length_map];exact hi)).2.1
 rw[Io hi]at hsc
 have HSC:=ah hsc
 unfold Sz
 clear h hQ hp hall hsz hsc
 generalize rs.getD i default=r at*
 obtain⟨rid,Lm,ES,qp,nJ⟩:=r
 have hpv:=(EU.out w (aj.refl _ _)).part.rd.rd
 obtain⟨a3,c3,SA⟩:=hpv.sl
 have SA:Lm= .slice a3 n c3:=SA
 subst SA
 clear hpv
 dsimp only
 obtain⟨m,hm⟩:∃m,m=rs.length:=⟨_,rfl⟩
 have n_:=ah hm
 have hi':=hi
 rw[←hm]at hfew hi'⊢
 clear hm
 have hin:¬(n:Int)<(n:Int):=by omega
 have hib:decide ((n:Int)<(n:Int))=false:=decide_eq_false hin
 obtain⟨g1,g2,g3⟩:=lY w (.cells #[.slice a0 n c0, .slice a1 m c1] 62) #[.slice none 0 0, .slice none 0 0] 62
 have g0:=(aj.alloc aF (w.alloc (.cells #[.slice a0 n c0, .slice a1 m c1] 62)) (.cells #[.slice none 0 0, .slice none 0 0] 62)).blk (heap_alloc_new w _) id
 obtain⟨W2,hW2⟩:∃W2,W2=(w.alloc (.cells #[.slice a0 n c0, .slice a1 m c1] 62)).alloc (.cells #[.slice none 0 0, .slice none 0 0] 62):=⟨_,rfl⟩
 rw[←hW2]at g0 g1 g2 g3
 have HF2:=ah g2
 have HB0:=ah g0
 have HB1:=ah g1
 have HZ2:=ah g3
 have HW2:=ah hW2
 clear g0 g1 g2 g3 hW2
 go_enter Tryz.func58,Tryz.ntmps58
 go_upto_region 1 with fail
 rw[←HW2.out]
 go_cut [17] (fun v W=>v= .bool false∧aj aF W2 W)
 case first=>
  obtain⟨α,hne,K,hK1,hK0,hK2⟩:=worlds W2
  have dS:=ah hK1
  have k0:∀s,(K s).cell? ⟨w.heap.size,0,none⟩=some (.slice a0 n c0):=fun s=>(hK1 s).cell' (aG HB0.out 0 rfl) id
  have k1:∀s,(K s).cell? ⟨w.heap.size,1,none⟩=some (.slice a1 m c1):=fun s=>(hK1 s).cell' (aG HB0.out 1 rfl) id
  have FB:=ah (fun s=>HM.out (K s) (HF2.out.aH (hK1 s)))
  rw[←n_.out]at FB
  clear hK1
  refine dX K (by kernel_rfl) (by kernel_rfl) hK0 ?_
  repeat(go_big_quiet_step ((go_at_call 32;exact Calls.bT hK2 (FB.out _))))
  refine wpQuiet_nil ?_
  intro w' hw'
  obtain⟨s,rfl⟩:=hw'
  go_wp2
  go_meet
  case rel=>exact⟨by simp,dS.out s⟩
 case rest=>
  obtain⟨rfl,hfr⟩:=hcut
  obtain⟨W3,rfl⟩:∃W3,W3=wc:=⟨_,rfl⟩
  have HF3:=ah (HF2.out.aH hfr)
  have hbs:=hfr.blk HB0.out id
  have Zp:=ah (hfr.blk HB1.out id)
  have uV:=ah hbs
  have s0:=aG hbs 0 rfl
  have s1:=aG hbs 1 rfl
  have hls:=lt_of_block hbs
  have hat:=HAT.out W3 HF3.out
  rw[←n_.out]at hat
  have HA3:=ah hat
  clear hfr hbs hat
  go_upto_region 4 with(go_at_call 82;refine HA3.out.mono ?_;rintro e w5 ⟨rfl,hf5⟩;have qA:=ah hf5;have iV:=ah (HF3.out.aH hf5);clear s0 s1 hls)
  have hbs:=qA.out.blk uV.out id
  have Zq:=ah hbs
  have s0:=aG hbs 0 rfl
  have hls:=lt_of_block hbs
  clear hbs
  go_wp2
  clear s0 hls
  go_loopw [7,25] (fun v iv W=>∃(k:Nat) (ns:List aU),k≤n∧iv= .int .i64 k∧ns.length=k∧CY w5 W v ns∧ns.map aU.g=(List.zipWith fK (vs.map aU.g) (qp.map aU.g)).take k) (fun _ iv _=>n-(intOf iv).toNat)
  case atStart=>exact⟨0,[],Nat.zero_le _,rfl,rfl,⟨OwnAt.nil (aj.refl _ _) _ _,fun q hq=>(by cases hq)⟩,rfl⟩
  case round=>
   obtain⟨k,ns,hk,rfl,hnl,hco,Zr⟩:=hrel
   obtain⟨av,cv,rfl⟩:=hco.own.shape
   have IJ:=ah hco
   have Zt:=ah Zr
   have iM:=ah hnl
   have tq:=ah hco.own.aI
   have HF:=ah (iV.out.aH hco.own.aI)
   have hbs:=hco.own.aI.blk Zq.out id
   have ajG:=ah hbs
   have s0:=aG hbs 0 rfl
   have s1:=aG hbs 1 rfl
   clear hco Zr hbs hnl
   by_cases hlt:k<n
   ·have hkv:k<vs.length:=by rw[wU.out];exact hlt
    have hkp:k<qp.length:=by have h:qp.length=n:=dV.out;omega
    have iF:=HR.out w (aj.refl _ _)
    have hrs:=EU.out w (aj.refl _ _)
    obtain⟨g0,g1,g2⟩:=wG vs k hkv
    obtain⟨e0,e1,e2⟩:=wG qp k hkp
    have IK:=iF.vis.rd.rd
    have hsr:=iF.rd.rd
    have hpr:Rd w (.slice a3 n c3) n (qp.flatMap aU.cells):=hrs.part.rd.rd
    obtain⟨IL,hvl,IC⟩:=iF.vis.each _ (getD_mem default hkv)
    obtain⟨hpe,hpl,hpg⟩:=hrs.part.each _ (getD_mem (d:=default) hkp)
    have hz:=iC.out k hlt
    have hzs:=ahk (A:=vs.map aU.g) (B:=qp.map aU.g) (k:=k) (by rw[List.length_map];exact hkv) (by rw[List.length_map];exact hkp)
    rw[vI hkv,vI hkp]at hzs
    rw[←n_.out]at hsr
    rcases Rd.shape IK with⟨ad,he,h0⟩|⟨g,off,cc,he,hmx⟩
    ·omega
    injection he with i1 i2 i3
    subst i1 i3
    clear i2
    rcases Rd.shape hsr with⟨ad,he,h0⟩|⟨g9,CZ,cc9,he,ajH⟩
    ·omega
    injection he with i1 i2 i3
    subst i1 i3
    clear i2
    rcases Rd.shape hpr with⟨ad,he,h0⟩|⟨g8,q_,cc8,he,ajJ⟩
    ·omega
    injection he with i1 i2 i3
    subst i1 i3
    clear i2
    have Qy:=ah hzs
    clear hzs
    generalize vs.getD k default=q at*
    generalize qp.getD k default=p at*
    obtain⟨qe,qk,qc,Fb,Fe,Fg⟩:=q
    obtain⟨pe,pk,pc,pev,pkv,pcv⟩:=p
    have IL:qe=[]:=IL
    have hpe:pe=[]:=hpe
    subst IL hpe
    have hva:dU Q w Fb Fe Fg [] qk qc:=hvl.at_
    have hpa:dU Q w pev pkv pcv [] pk pc:=hpl.at_
    obtain⟨b0,d0,b1,d1,b2,d2,rfl,rfl,rfl⟩:=hva.shape
    obtain⟨f0,h0,f1,h1,f2,h2,rfl,rfl,rfl⟩:=hpa.shape
    have y0:w.cell? ⟨g,off+k*3,none⟩=some (.slice b0 0 d0):=IK.cell _ _ g0
    have y1:w.cell? ⟨g,off+k*3+1,none⟩=some (.slice b1 qk.len d1):=IK.cell (k*3+1) _ g1
    have y2:w.cell? ⟨g,off+k*3+2,none⟩=some (.slice b2 qc.length d2):=IK.cell (k*3+2) _ g2
    have x1:w.cell? ⟨g9,CZ+i*3+1,none⟩=some (.slice (some ⟨g8,q_,none⟩) n c3):=hsr.cell (i*3+1) _ HSC.out
    have z0:w.cell? ⟨g8,q_+k*3,none⟩=some (.slice f0 0 h0):=hpr.cell _ _ e0
    have z1:w.cell? ⟨g8,q_+k*3+1,none⟩=some (.slice f1 pk.len h1):=hpr.cell (k*3+1) _ e1
    have z2:w.cell? ⟨g8,q_+k*3+2,none⟩=some (.slice f2 pc.length h2):=hpr.cell (k*3+2) _ e2
    have hga:Good (qk,qc):=IC
    have hgb:Good (pk,pc):=hpg
    have hz1:dQ (qk,qc)+dQ (pk,pc)≤2000:=hz.1
    have hz2:qc.length+pc.length≤2000:=hz.2
    have hj:=fun W (f:aj aF wr W)=>ahc Q Q (qk,qc) (pk,pc) W _ _ _ _ _ _ (hva.aS (HF.out.aH f)) hga (hpa.aS (HF.out.aH f)) hgb hz1 hz2
    unfold RZ at hj
    have HJ:=ah hj
    have HJG:=ah (Qo hga hgb hz1 hz2)
    have aht:=ah (show(List.zipWith fK (vs.map aU.g) (qp.map aU.g)).take (k+1)=(List.zipWith fK (vs.map aU.g) (qp.map aU.g)).take k++ [fK (qk,qc) (pk,pc)]from Qy.out)
    have hg1:=World.block_lt_of_cell? _ _ y0
    have hg2:=World.block_lt_of_cell? _ _ x1
    have hg3:=World.block_lt_of_cell? _ _ z0
    have hw5:w.heap.size<w5.heap.size:=by have h1:=iV.out.size;have h2:=lt_of_block Zq.out;omega
    have dJ:=ah (fun Y Y' (f:aj (fun b=>w5.heap.size≤b) Y Y') (hS:Y.cell? ⟨w.heap.size,0,none⟩=some (.slice (some ⟨g,off,none⟩) n c0)∧Y.cell? ⟨w.heap.size,1,none⟩=some (.slice (some ⟨g9,CZ,none⟩) m c1)∧Y.cell? ⟨g,off+k*3,none⟩=some (.slice b0 0 d0)∧Y.cell? ⟨g,off+k*3+1,none⟩=some (.slice b1 qk.len d1)∧Y.cell? ⟨g,off+k*3+2,none⟩=some (.slice b2 qc.length d2)∧Y.cell? ⟨g9,CZ+i*3+1,none⟩=some (.slice (some ⟨g8,q_,none⟩) n c3)∧Y.cell? ⟨g8,q_+k*3,none⟩=some (.slice f0 0 h0)∧Y.cell? ⟨g8,q_+k*3+1,none⟩=some (.slice f1 pk.len h1)∧Y.cell? ⟨g8,q_+k*3+2,none⟩=some (.slice f2 pc.length h2))=>
     (⟨f.cell' hS.1 (by show ¬w5.heap.size≤w.heap.size;omega),f.cell' hS.2.1 (by show ¬w5.heap.size≤w.heap.size;omega),f.cell' hS.2.2.1 (by show ¬w5.heap.size≤g;have:g<w.heap.size:=hg1;omega),f.cell' hS.2.2.2.1 (by show ¬w5.heap.size≤g;have:g<w.heap.size:=hg1;omega),f.cell' hS.2.2.2.2.1 (by show ¬w5.heap.size≤g;have:g<w.heap.size:=hg1;omega),f.cell' hS.2.2.2.2.2.1 (by show ¬w5.heap.size≤g9;have:g9<w.heap.size:=hg2;omega),f.cell' hS.2.2.2.2.2.2.1 (by show ¬w5.heap.size≤g8;have:g8<w.heap.size:=hg3;omega),f.cell' hS.2.2.2.2.2.2.2.1 (by show ¬w5.heap.size≤g8;have:g8<w.heap.size:=hg3;omega),f.cell' hS.2.2.2.2.2.2.2.2 (by show ¬w5.heap.size≤g8;have:g8<w.heap.size:=hg3;omega)⟩:Y'.cell? ⟨w.heap.size,0,none⟩=some (.slice (some ⟨g,off,none⟩) n c0)∧Y'.cell? ⟨w.heap.size,1,none⟩=some (.slice (some ⟨g9,CZ,none⟩) m c1)∧Y'.cell? ⟨g,off+k*3,none⟩=some (.slice b0 0 d0)∧Y'.cell? ⟨g,off+k*3+1,none⟩=some (.slice b1 qk.len d1)∧Y'.cell? ⟨g,off+k*3+2,none⟩=some (.slice b2 qc.length d2)∧Y'.cell? ⟨g9,CZ+i*3+1,none⟩=some (.slice (some ⟨g8,q_,none⟩) n c3)∧Y'.cell? ⟨g8,q_+k*3,none⟩=some (.slice f0 0 h0)∧Y'.cell? ⟨g8,q_+k*3+1,none⟩=some (.slice f1 pk.len h1)∧Y'.cell? ⟨g8,q_+k*3+2,none⟩=some (.slice f2 pc.length h2)))
    have hfw:=HF.out
    have dH:=dJ.out wr _ ((aj.drew aF wr).mono fun _ _ h=>h.elim) ⟨s0,s1,hfw.cell' y0 id,hfw.cell' y1 id,hfw.cell' y2 id,hfw.cell' x1 id,hfw.cell' z0 id,hfw.cell' z1 id,hfw.cell' z2 id⟩
    have hki:(k:Int)<(n:Int):=by omega
    have hii:(i:Int)<(m:Int):=by omega
    have ahu:=ah IJ.out.own.new
    clear IK hsr hpr hvl hpl IC hpg hz g0 g1 g2 e0 e1 e2 hkv hkp iF hrs hj hga hgb hva hpa y0 y1 y2 x1 z0 z1 z2 s0 s1 hz1 hz2 hfw
    go_upto_region 8 with fail
    refine iq (S:=fun Y=>Y.cell? ⟨w.heap.size,0,none⟩=some (.slice (some ⟨g,off,none⟩) n c0)∧Y.cell? ⟨w.heap.size,1,none⟩=some (.slice (some ⟨g9,CZ,none⟩) m c1)∧Y.cell? ⟨g,off+k*3,none⟩=some (.slice b0 0 d0)∧Y.cell? ⟨g,off+k*3+1,none⟩=some (.slice b1 qk.len d1)∧Y.cell? ⟨g,off+k*3+2,none⟩=some (.slice b2 qc.length d2)∧Y.cell? ⟨g9,CZ+i*3+1,none⟩=some (.slice (some ⟨g8,q_,none⟩) n c3)∧Y.cell? ⟨g8,q_+k*3,none⟩=some (.slice f0 0 h0)∧Y.cell? ⟨g8,q_+k*3+1,none⟩=some (.slice f1 pk.len h1)∧Y.cell? ⟨g8,q_+k*3+2,none⟩=some (.slice f2 pc.length h2)) 19 (by kernel_rfl) dH ?_
    clear dH
    intro hS
    have ng:=ah (aj.drew aF wr)
    generalize World.drew _=Y0 at*
    refine aY 0 28 rfl rfl ?_
    refine aY 1 29 rfl rfl ?_
    try simp only[Act.put,aO,aN,aJ]
    refine aY 2 30 rfl rfl ?_
    refine aY 3 31 rfl rfl ?_
    try simp only[Act.put,aO,aN,aJ]
    refine aY 4 32 rfl rfl ?_
    refine aY 5 33 rfl rfl ?_
    try simp only[Act.put,aO,aN,aJ]
    refine aY 6 34 rfl rfl ?_
    refine aY 7 35 rfl rfl ?_
    try simp only[Act.put,aO,aN,aJ]
    refine aY 8 36 rfl rfl ?_
    refine aY 9 37 rfl rfl ?_
    try simp only[Act.put,aO,aN,aJ]
    refine aY 10 38 rfl rfl ?_
    refine aY 11 39 rfl rfl ?_
    try simp only[Act.put,aO,aN,aJ]
    refine aY 12 40 rfl rfl ?_
    refine aY 13 41 rfl rfl ?_
    try simp only[Act.put,aO,aN,aJ]
    refine aY 14 42 rfl rfl ?_
    try simp only[Act.put,aO,aN,aJ]
    refine bg (i:=15) (by kernel_rfl) rfl (fun K hK=>?_)
    go_simp
    refine(HJ.out _ ng.out).mono ?_
    rintro e Y1 ⟨ev1,wP,Fv,rfl,ht1,ho1⟩
    obtain⟨j0,l0,rfl⟩:=ht1.ents.rd.sl
    obtain⟨os1,uK,-⟩:=ht1.kids
    obtain⟨j1,l1,rfl⟩:=uK.rd.sl
    obtain⟨j2,l2,rfl⟩:=ho1.shape
    have HT1:=ah ht1
    have dZ:=ah ho1
    have dN:=ah (ng.out.aH ho1.aI)
    have hS1:=dJ.out _ _ (ho1.aI.mono fun _ _ h=>h.elim) hS
    refine hK.out _ _ hS1 ?_
    clear hK K hS ht1 ho1 uK
    have hS:=hS1
    clear hS1
    try simp only[Act.put,aO,aN,aJ]
    refine bg (i:=16) (by kernel_rfl) rfl (fun K hK=>?_)
    go_simp
    refine qU _ _ _ (fun Y3 hf3 hb3 hs3=>?_)
    have f_:=ah hb3
    have SB:=ah hf3
    have hS1:=dJ.out _ _ (hf3.mono fun _ _ h=>h.elim) hS
    refine hK.out _ _ hS1 ?_
    clear hK K hS hf3 hb3 hs3
    have hS:=hS1
    clear hS1
    try simp only[Act.put,aO,aN,aJ]
    refine bg (i:=17) (by kernel_rfl) rfl (fun K hK=>?_)
    have Zu:=ah (IJ.out.aS (dN.out.aH SB.out))
    have hrow:=Zu.out.own.own
    rw[iM.out]at hrow
    refine EM Y3 _ [.slice j0 0 l0, .slice j1 (fK (qk,qc) (pk,pc)).1.len l1, .slice j2 (fK (qk,qc) (pk,pc)).2.length l2] rfl (.tmp 28) (.tmp 44) 33 rfl 32 i0 _ 3 72 Tryz.underlying33 hi0 hz0 hz1 hz2 (by decide) (by decide) (.slice av k cv) k _ hrow 1 1 (by simp[Act.eval,iM.out]) (by simp[Act.eval]) f_.out rfl (by simp[Value.oneCell']) (by simp only[maxLen];omega) (by omega) ?_
    intro ad cc w2 bP jK mY
    have hadd:=Zu.out.add (q:=⟨[],(fK (qk,qc) (pk,pc)).1,(fK (qk,qc) (pk,pc)).2, .slice j0 0 l0, .slice j1 (fK (qk,qc) (pk,pc)).1.len l1, .slice j2 (fK (qk,qc) (pk,pc)).2.length l2⟩) (v':= .slice ad (k+1) cc) (by rw[iM.out];exact jK) (by rw[iM.out];exact mY) (by rw[iM.out];exact bP) ⟨rfl,⟨(HT1.out.aS SB.out).turn fun y hy hq=>⟨rfl,by have h1:=tq.out.size;have h2:=ng.out.size;omega,fun e=>by
     obtain⟨cur,h4⟩:=jB IJ.out.own.own e
     have h5:=lt_of_block h4
     have h2:=ng.out.size
     omega⟩,⟨(dZ.out.keep SB.out).rd,fun _ y hy=>⟨by have h1:=tq.out.size;have h2:=ng.out.size;have h3:=dZ.out.new y hy;omega,fun e=>by
     obtain⟨cur,h4⟩:=jB IJ.out.own.own e
     have h5:=lt_of_block h4
     have h2:=ng.out.size
     have h3:=dZ.out.new y hy
     omega⟩⟩⟩,HJG.out⟩
    have HAD:=ah hadd
    have hS1:=dJ.out _ _ (jK.mono fun y _ s=>ahu.out y (by rw[iM.out];exact s)) hS
    refine hK.out _ _ hS1 ?_
    clear hK K hS bP jK mY hadd hrow
    have hS:=hS1
    clear hS1
    try simp only[Act.put,aO,aN,aJ]
    refine bg (i:=18) (by kernel_rfl) rfl (fun K hK=>?_)
    go_simp
    refine hK.out _ _ hS ?_
    clear hK K hS
    refine mF (by kernel_rfl) ?_
    go_wp2
    go_roundw
    case rel=>exact⟨k+1,ns++ [⟨[],(fK (qk,qc) (pk,pc)).1,(fK (qk,qc) (pk,pc)).2, .slice j0 0 l0, .slice j1 (fK (qk,qc) (pk,pc)).1.len l1, .slice j2 (fK (qk,qc) (pk,pc)).2.length l2⟩],by omega,by go_num,by rw[List.length_append,iM.out];rfl,HAD.out,by rw[List.map_append,Zt.out,aht.out];rfl⟩
    case measure=>simp[intOf];omega
   ·obtain rfl:n=k:=by omega
    have hta:(List.zipWith fK (vs.map aU.g) (qp.map aU.g)).take n=List.zipWith fK (vs.map aU.g) (qp.map aU.g):=List.take_of_length_le (by rw[List.length_zipWith,List.length_map,List.length_map];have h:qp.length=n:=dV.out;have:=wU.out;omega)
    have hcon:=Zt.out
    rw[hta]at hcon
    have yj:=ah hcon
    clear hta hcon
    obtain⟨p9,kM⟩:∃p9,p9=w.heap.size+1:=⟨_,rfl⟩
    have hx:=qA.out.blk Zp.out id
    have hx:=tq.out.blk hx id
    rw[←kM]at hx⊢
    have HX:=ah hx
    have tH:=ah (show w.heap.size<p9∧p9<w5.heap.size by have h1:=lt_of_block (qA.out.blk Zp.out id);omega)
    have hne:p9≠w.heap.size:=by omega
    have hne2:w.heap.size≠p9:=by omega
    clear kM hx
    have hrd:=YT (Q:=fun k=>Q k∧k≠p9) ((HR.out w (aj.refl _ _)).turn (w':=wr) (Q':=fun k=>Q k∧k≠p9) fun y hy hq=>⟨HF.out.block y hy id,hq,by have:=tH.out.1;omega⟩) (fun y hy=>⟨HQ.out y (by have:=HF.out.size;omega),by have:=tH.out.2;have:=tq.out.size;omega⟩) x
    unfold RV at hrd
    rw[←n_.out]at hrd
    have HDR:=ah hrd
    clear hrd
    go_upto_region 11 with(go_at_call 59;refine HDR.out.mono ?_;rintro e w7 ⟨sv7,AZ,rfl,SC,Zv,gV⟩;obtain⟨b0,d0,b1,d1,hbe,rfl⟩:=SC.shape;have HR7:=ah SC;have ahw:=ah Zv;have oJ:=ah gV;clear s0 s1 SC Zv gV hbe)
    have hb8:=heap_alloc_new w7 (.cells #[.slice a0 n c0, .slice b1 AZ.length d1] 62)
    have jW:=aj.alloc aF w7 (.cells #[.slice a0 n c0, .slice b1 AZ.length d1] 62)
    obtain⟨p8,zn⟩:∃p8,p8=w7.heap.size:=⟨_,rfl⟩
    rw[←zn]at hb8⊢
    have SE:p8≠p9:=by have h1:=tH.out.2;have h2:=tq.out.size;have h3:=oJ.out.size;omega
    have ahx:p9≠p8:=fun e=>SE e.symm
    clear zn
    generalize World.alloc w7 _=W8 at*
    have iU:=ah (oJ.out.aH jW)
    have ahy:=ah jW
    have hx:=iU.out.blk HX.out id
    have x0:=aG hx 0 rfl
    have x1:=aG hx 1 rfl
    have f0:=aW hx 0
    have f1:=aW hx 1
    have hlx:=lt_of_block hx
    have y1:=aG hb8 1 rfl
    have EZ:=lt_of_block hb8
    have bH:=ah (eY (eY hx 0 (.slice av ns.length cv)) 1 (.slice b1 AZ.length d1))
    have bU:=ah (fun w0=>(aj.setCell (S:=fun x=>x=p9) w0 (p:=⟨p9,0,none⟩) (.inl rfl) (.slice av ns.length cv)).trans (aj.setCell (S:=fun x=>x=p9) _ (p:=⟨p9,1,none⟩) (.inl rfl) (.slice b1 AZ.length d1)) fun _ _ h=>h)
    clear hx jW hb8
    go_wp2
    have z0:=aG bH.out 0 rfl
    have z1:=aG bH.out 1 rfl
    have hpw:=tH.out
    have SG:=tq.out.size
    have ajL:=iV.out.size
    have FC:=(HR7.out.aS ahy.out).turn (w':=(W8.setCell ⟨p9,0,none⟩ (.slice av ns.length cv)).setCell ⟨p9,1,none⟩ (.slice b1 AZ.length d1)) (Q':=Q) fun y hy hq=>⟨(bU.out W8).block y hy hq.2,hq.1⟩
    have SH:=IJ.out.aS iU.out
    refine bodyPost_ret (v:= .tuple #[.agg #[.slice av ns.length cv, .slice b1 AZ.length d1], .int .i64 0]) (by simp[results,Tryz.results58,go_sem,z0,z1]) rfl ⟨_,_,ns,AZ,rfl,⟨FC.n1,FC.n4,⟨iM.out,?_,fun q hq=>?_⟩,FC.rd,FC.jJ,FC.ids,FC.few⟩,yj.out,ahw.out,(HF.out.aH iU.out).trans (bU.out _) fun y hy e=>by omega⟩
    ·have h9:gy (fun y=>w5.heap.size≤y) W8 (.slice av ns.length cv) ns.length (ns.flatMap aU.cells):=⟨SH.own.rd,fun _ y hy=>SH.own.new y hy⟩
     have h10:=h9.turn (w':=(W8.setCell ⟨p9,0,none⟩ (.slice av ns.length cv)).setCell ⟨p9,1,none⟩ (.slice b1 AZ.length d1)) (Q':=Q) fun y hy hq=>⟨(bU.out W8).block y hy (by omega),HQ.out y (by omega)⟩
     rw[iM.out]at h10⊢
     exact h10
    ·obtain⟨k1,k2,k3⟩:=SH.each q hq
     exact⟨k1,k2.turn fun y hy hq=>⟨(bU.out W8).block y hy (by have:=hq.1;omega),HQ.out y (by have:=hq.1;omega)⟩,k3⟩
end
open Go.RowKit
section
variable {Q:Nat→Prop} {w:World} {n:Nat} {vv sv:Value} {vs:List aU} {rs:List bn}
theorem yC {w:World} {b:Nat} {y0 y1:Value} {t:TypeId} (h:w.heap[b]?=some (.cells #[y0,y1] t (0,0))) (x0 x1:Value):
 ((w.setCell ⟨b,0,none⟩ x0).setCell ⟨b,1,none⟩ x1).heap[b]?=some (.cells #[x0,x1] t (0,0))∧aj (fun x=>x=b) w ((w.setCell ⟨b,0,none⟩ x0).setCell ⟨b,1,none⟩ x1):=
 ⟨eY (eY h 0 x0) 1 x1,(aj.setCell (S:=fun x=>x=b) w (p:=⟨b,0,none⟩) (.inl rfl) x0).trans (aj.setCell (S:=fun x=>x=b) _ (p:=⟨b,1,none⟩) (.inl rfl) x1) fun _ _ h=>h⟩
theorem ahz (h:jf Q w n vv sv vs rs) (QA:Nat→Prop) (es:List aQ) (ks:aT) (c:bD) (ev kv cv:Value) (ha:dU QA w ev kv cv es ks c) (hok:iD es ks c) (bf k:Int) (hb:jP n es ks c k=false∨(jP n es ks c k=true∧bF (bQ n k) ks≠ks)):
 Calls Tryz.prog 57 #[.agg #[vv,sv], .int .i64 bf, .int .i64 k, .agg #[ev,kv,cv]] w fun e w'=>e= .returned (.tuple #[.agg #[vv,sv], .int .i64 1])∧aj aF w w':=by
 obtain⟨a0,c0,a1,c1,rfl,rfl⟩:=h.shape
 have hn4:=h.n4
 have HM:=ah (fun W (f:aj aF w W)=>LV QA n hn4 a0 a1 c0 rs.length c1 W es ks c ev kv cv (ha.aS f) hok k)
 have yB:=ah (fun(hm:jP n es ks c k=true) W (f:aj aF w W)=>(show Calls Tryz.prog 81 #[.agg #[.slice a0 n c0, .slice a1 rs.length c1], .agg #[ev,kv,cv], .int .i64 k] W (Fp W (bQ n k) ks cv)from by
  obtain⟨_,h2,h3⟩:=vO.1 hm
  subst h3
  exact RH QA n hn4 a0 a1 c0 rs.length c1 W ks c ev kv cv (ha.aS f) ⟨hok,h2⟩ k))
 have lS:=ah (fun(hm:jP n es ks c k=true) (hne:bF (bQ n k) ks≠ks) W (f:aj aF w W) ev' kv' Q' (ht:bZ Q' W ev' kv' [] (bF (bQ n k) ks))=>(show Calls Tryz.prog 19 #[.agg #[ev',kv',cv], .agg #[ev,kv,cv]] W (fun e w'=>e= .returned (.bool false)∧aj aF W w')from by
  obtain⟨_,h2,h3⟩:=vO.1 hm
  subst h3
  have hg:=Ar (bQ n k) (t:=(ks,c)) ⟨hok,h2⟩
  have:=Iq Q' QA [] (bF (bQ n k) ks) c [] ks c W ev' kv' cv ev kv cv ⟨ht,(ha.aS f).ctx⟩ hg.ok (ha.aS f) hok
  rwa [eH (fun h=>hne h.1.2)]at this))
 have vC:=ah hb
 obtain⟨d0,e0,d1,e1,d2,e2,rfl,rfl,rfl⟩:=ha.shape
 clear h ha hok hb
 unfold Fp at yB
 generalize jP n es ks c k=mb at*
 generalize bF (bQ n k) ks=fk at*
 generalize rs.length=m at*
 generalize es.length=el at*
 generalize ks.len=kl at*
 generalize c.length=cl at*
 obtain⟨hf3,hz3,hb0,hb1,hb2⟩:=oD w #[.slice a0 n c0, .slice a1 m c1] #[.slice d0 el e0, .slice d1 kl e1, .slice d2 cl e2] #[.slice none 0 0, .slice none 0 0] 62 32 62
 obtain⟨W3,hW3⟩:∃W3,W3=((w.alloc (.cells #[.slice a0 n c0, .slice a1 m c1] 62)).alloc (.cells #[.slice d0 el e0, .slice d1 kl e1, .slice d2 cl e2] 32)).alloc (.cells #[.slice none 0 0, .slice none 0 0] 62):=⟨_,rfl⟩
 rw[←hW3]at hf3 hz3 hb0 hb1 hb2
 have HW3:=ah hW3
 have HF3:=ah hf3
 have HB0:=ah hb0
 have HB1:=ah hb1
 have HB2:=ah hb2
 clear hf3 hz3 hb0 hb1 hb2 hW3
 go_enter Tryz.func57,Tryz.ntmps57
 go_upto_region 1 with fail
 rw[←HW3.out]
 go_cut [26] (fun v W=>v= .bool true∧aj aF W3 W)
 case first=>
  cases mb with
  |false=>
   obtain⟨α,hne,K,hK1,hK0,hK2⟩:=worlds W3
   have dS:=ah hK1
   have k0:∀s,(K s).cell? ⟨w.heap.size,0,none⟩=some (.slice a0 n c0):=fun s=>(hK1 s).cell' (aG HB0.out 0 rfl) id
   have k1:∀s,(K s).cell? ⟨w.heap.size,1,none⟩=some (.slice a1 m c1):=fun s=>(hK1 s).cell' (aG HB0.out 1 rfl) id
   have k2:∀s,(K s).cell? ⟨w.heap.size+1,0,none⟩=some (.slice d0 el e0):=fun s=>(hK1 s).cell' (aG HB1.out 0 rfl) id
   have k3:∀s,(K s).cell? ⟨w.heap.size+1,1,none⟩=some (.slice d1 kl e1):=fun s=>(hK1 s).cell' (aG HB1.out 1 rfl) id
   have k4:∀s,(K s).cell? ⟨w.heap.size+1,2,none⟩=some (.slice d2 cl e2):=fun s=>(hK1 s).cell' (aG HB1.out 2 rfl) id
   have FB:=ah (fun s=>HM.out (K s) (HF3.out.aH (hK1 s)))
   clear hK1
   refine dX K (by kernel_rfl) (by kernel_rfl) hK0 ?_
   repeat(go_big_quiet_step ((go_at_call 80;exact Calls.bT hK2 (FB.out _))))
   refine wpQuiet_nil ?_
   intro w' hw'
   obtain⟨s,rfl⟩:=hw'
   go_wp2
   go_meet
   case rel=>exact⟨rfl,dS.out s⟩
  |true=>
   have HC2:=ah (yB.out rfl)
   have HS2:=ah (lS.out rfl (vC.out.resolve_left (by decide)).2)
   clear yB lS vC
   have dJ:=ah (fun Y Y' (f:aj aF Y Y') (hS:aj aF W3 Y∧Y.cell? ⟨w.heap.size,0,none⟩=some (.slice a0 n c0)∧Y.cell? ⟨w.heap.size,1,none⟩=some (.slice a1 m c1)∧Y.cell? ⟨w.heap.size+1,0,none⟩=some (.slice d0 el e0)∧Y.cell? ⟨w.heap.size+1,1,none⟩=some (.slice d1 kl e1)∧Y.cell? ⟨w.heap.size+1,2,none⟩=some (.slice d2 cl e2))=>
    (⟨hS.1.aH f,f.cell' hS.2.1 id,f.cell' hS.2.2.1 id,f.cell' hS.2.2.2.1 id,f.cell' hS.2.2.2.2.1 id,f.cell' hS.2.2.2.2.2 id⟩:aj aF W3 Y'∧Y'.cell? ⟨w.heap.size,0,none⟩=some (.slice a0 n c0)∧Y'.cell? ⟨w.heap.size,1,none⟩=some (.slice a1 m c1)∧Y'.cell? ⟨w.heap.size+1,0,none⟩=some (.slice d0 el e0)∧Y'.cell? ⟨w.heap.size+1,1,none⟩=some (.slice d1 kl e1)∧Y'.cell? ⟨w.heap.size+1,2,none⟩=some (.slice d2 cl e2)))
   have dH:=dJ.out _ _ (aj.drew aF _) ⟨aj.refl aF W3,aG HB0.out 0 rfl,aG HB0.out 1 rfl,aG HB1.out 0 rfl,aG HB1.out 1 rfl,aG HB1.out 2 rfl⟩
   refine iq (S:=fun Y=>aj aF W3 Y∧Y.cell? ⟨w.heap.size,0,none⟩=some (.slice a0 n c0)∧Y.cell? ⟨w.heap.size,1,none⟩=some (.slice a1 m c1)∧Y.cell? ⟨w.heap.size+1,0,none⟩=some (.slice d0 el e0)∧Y.cell? ⟨w.heap.size+1,1,none⟩=some (.slice d1 kl e1)∧Y.cell? ⟨w.heap.size+1,2,none⟩=some (.slice d2 cl e2)) 14 (by kernel_rfl) dH ?_
   clear dH
   intro hS
   generalize World.drew _=Y0 at*
   refine aY 0 13 rfl rfl ?_
   refine aY 1 14 rfl rfl ?_
   try simp only[Act.put,aO,aN,aJ]
   refine aY 2 15 rfl rfl ?_
   try simp only[Act.put,aO,aN,aJ]
   refine bg (i:=3) (by kernel_rfl) rfl (fun K hK=>?_)
   go_simp
   refine(HM.out _ (HF3.out.aH hS.1)).mono ?_
   rintro e Y1 ⟨rfl,hf1⟩
   have hS1:=dJ.out _ _ hf1 hS
   refine hK.out _ _ hS1 ?_
   clear hK K hS hf1
   have hS:=hS1
   clear hS1
   try simp only[Act.put,aO,aN,aJ]
   refine aY 4 17 rfl rfl ?_
   refine aY 5 18 rfl rfl ?_
   try simp only[Act.put,aO,aN,aJ]
   refine aY 6 19 rfl rfl ?_
   refine aY 7 20 rfl rfl ?_
   try simp only[Act.put,aO,aN,aJ]
   refine aY 8 21 rfl rfl ?_
   refine aY 10 23 rfl rfl ?_
   try simp only[Act.put,aO,aN,aJ]
   refine bg (i:=9) (by kernel_rfl) rfl (fun K hK=>?_)
   go_simp
   refine(HC2.out _ (HF3.out.aH hS.1)).mono ?_
   rintro e Y2 ⟨Fa,AP,rfl,ht2,hf2⟩
   obtain⟨b0,g0,rfl⟩:=ht2.ents.rd.sl
   obtain⟨os2,yA,-⟩:=ht2.kids
   obtain⟨b1,g1,rfl⟩:=yA.rd.sl
   have HT2:=ah ht2
   have hS1:=dJ.out _ _ hf2 hS
   refine hK.out _ _ hS1 ?_
   clear hK K hS hf2 ht2 yA
   have hS:=hS1
   clear hS1
   try simp only[Act.put,aO,aN,aJ]
   refine bg (i:=11) (by kernel_rfl) rfl (fun K hK=>?_)
   go_simp
   refine(HS2.out _ (HF3.out.aH hS.1) _ _ _ HT2.out).mono ?_
   rintro e Y3 ⟨rfl,hf3⟩
   have hS1:=dJ.out _ _ hf3 hS
   refine hK.out _ _ hS1 ?_
   clear hK K hS hf3
   have hS:=hS1
   clear hS1
   try simp only[Act.put,aO,aN,aJ]
   refine aY 12 25 rfl rfl ?_
   try simp only[Act.put,aO,aN,aJ]
   refine bg (i:=13) (by kernel_rfl) rfl (fun K hK=>?_)
   go_simp
   refine hK.out _ _ hS ?_
   clear hK K
   refine mF (by kernel_rfl) ?_
   go_wp2
   go_meet
   case rel=>exact⟨rfl,hS.1⟩
 case rest=>
  obtain⟨rfl,hfr⟩:=hcut
  obtain⟨W5,rfl⟩:∃W5,W5=wc:=⟨_,rfl⟩
  have hbs:=hfr.blk HB0.out id
  have hx:=hfr.blk HB2.out id
  have y0:=aG hbs 0 rfl
  have y1:=aG hbs 1 rfl
  have x0:=aG hx 0 rfl
  have x1:=aG hx 1 rfl
  have f0:=aW hx 0
  have f1:=aW hx 1
  have hlx:=lt_of_block hx
  have bH:=ah (yC hx (.slice a0 n c0) (.slice a1 m c1))
  have iV:=ah (HF3.out.aH hfr)
  clear hbs hx hfr
  go_wp2
  have z0:=aG bH.out.1 0 rfl
  have z1:=aG bH.out.1 1 rfl
  refine bodyPost_ret (v:= .tuple #[.agg #[.slice a0 n c0, .slice a1 m c1], .int .i64 1]) (by simp[results,Tryz.results57,go_sem,z0,z1]) rfl ⟨rfl,iV.out.trans bH.out.2 fun y hy e=>by omega⟩
end
end Go.Proofs.YtlhmbkjdfjoilaaGreat
