/- Words for the law ShardPlays: Pj7. -/
import Derived.Test.YtlhmbkjdfjoilaaGreatShardPlaysG0
import Derived.Test.YtlhmbkjdfjoilaaGreatShardPlaysG20
import Derived.Test.YtlhmbkjdfjoilaaGreatShardPlaysG25
import Derived.Test.YtlhmbkjdfjoilaaGreatShardPlaysG26
import Derived.Test.YtlhmbkjdfjoilaaGreatShardPlaysG28
set_option linter.unusedSimpArgs false
set_option linter.unusedVariables false
set_option maxHeartbeats 32000000
set_option maxRecDepth 1000000
namespace Go.Proofs.YtlhmbkjdfjoilaaGreat
open Go.RowKit
theorem RY:∀(ks:aT) (d:Nat) (p:Option ByteArray),jh ks d p=true→∀x∈fZ ks,x.1.length≤d
 | .nil,_,_,_,x,hx=>by cases hx
 | .cons key es sub rest,d,p,h,x,hx=>by
   rw[qI]at h
   simp only[Bool.and_eq_true]at h
   have hr:=h.1.2
   obtain⟨d,rfl⟩:=AV hr
   obtain⟨_,h2⟩:=oZ hr
   have hx:x∈(lI es++fZ sub).map (fun x=>(key::x.1,x.2))++fZ rest:=hx
   rcases List.mem_append.1 hx with hx|hx
   ·obtain⟨y,hy,rfl⟩:=List.mem_map.1 hx
    rcases List.mem_append.1 hy with hy|hy
    ·obtain⟨e,_,rfl⟩:=List.mem_map.1 hy
     simp
    ·have:=RY sub d none h2 y hy
     simp only[List.length_cons]
     omega
   ·exact RY rest _ _ h.2 x hx
theorem Za {t:bY} (h:Good t) {l:List dB} (hl:l.map dB.con=dI [] t.1):∀x∈l,x.path.length≤100000:=fun x hx=>by
 have h1:x.con∈dI [] t.1:=by rw[←hl];exact List.mem_map_of_mem hx
 have h2:=RY t.1 4 none (oZ h.right.tree).2 x.con h1
 have h2:x.path.length≤4:=h2
 omega
theorem Zb {α β:Type} {d:α} (f:α→List β) {l:List α} {k:Nat} (h:k<l.length):(l.take (k+1)).flatMap f=(l.take k).flatMap f++f (l.getD k d):=by
 rw[take_succ d h,List.flatMap_append]
 simp
theorem Zc {l:List dB} {k:Nat} (h:k<l.length):(l.map dB.con).getD k default=(l.getD k default).con:=by
 rw[getD_at _ (by rw[List.length_map];exact h),getD_at _ h,List.getElem_map]
theorem kJ.add1 {w W W2:World} {v v':Value} {l:List dB} {x:dB} {Q:Nat→Prop} (h:kJ (fun _=>True) w W v l) (f:aj (eG v) W W2) (fr:lN W v v') (own:W2.ownsRow 0 103 5 v' (l.length+1) (jS l++jS [x]))
 (hx:gy Q w x.pv x.path.length (fA x.path)) (h1:x.pv.oneCell'=true):kJ (fun _=>True) w W2 v' (l++ [x]):=
 h.add f fr own (fun y hy=>by
  have:y=x:=by simpa using hy
  subst this
  exact hx.turn fun k hk _=>⟨h.own.aI.block k hk id, .inl trivial,fun e=>by have:=h.own.new k e;omega⟩) fun y hy=>by
  have:y=x:=by simpa using hy
  subst this
  exact h1
theorem Zd {hb:Int→Int→Bool} {q:List Lf} {x y:Lf} (h:lK q x=some y):ni hb q x=[if nV x.2 y.2=true then y else x]:=by unfold ni;rw[h]
theorem Ze {hb:Int→Int→Bool} {q:List Lf} {x:Lf} (h:lK q x=none):ni hb q x=if hb x.2.dc x.2.n=true then []else [x]:=by unfold ni;rw[h]
theorem ahb {ha:Int→Int→Bool} {p:List Lf} {x y:Lf} (h:lK p x=some y):pF ha p x=[]:=by unfold pF;rw[h]
theorem Zf {ha:Int→Int→Bool} {p:List Lf} {x:Lf} (h:lK p x=none):pF ha p x=if ha x.2.dc x.2.n=true then []else [x]:=by unfold pF;rw[h]
def RZ (w:World) (a b:bY) (e:Ending) (w':World):Prop:=
 ∃ev kv cv,e= .returned (.agg #[ev,kv,cv])∧bZ (fun k=>w.heap.size≤k) w' ev kv [] (fK a b).1∧OwnAt w w' 92 3 cv (fK a b).2.length (dY (fK a b).2)
theorem ahc (QA QB:Nat→Prop) (ta tb:bY) (w:World) (ev kv cv ev' kv' jI:Value) (ha:dU QA w ev kv cv [] ta.1 ta.2) (ga:Good ta) (hb:dU QB w ev' kv' jI [] tb.1 tb.2) (gb:Good tb) (hsz:dQ ta+dQ tb≤2000) (hlen:ta.2.length+tb.2.length≤2000):
 Calls Tryz.prog 83 #[.agg #[ev,kv,cv], .agg #[ev',kv',jI]] w (RZ w ta tb):=by
 obtain⟨i0,hi0,hz0,hz1,hz2⟩:=info_parts DW
 obtain⟨A0,C0,A1,C1,A2,C2,rfl,rfl,rfl⟩:=ha.shape
 obtain⟨B0,D0,B1,D1,B2,D2,rfl,rfl,rfl⟩:=hb.shape
 obtain⟨ka,ca⟩:=ta
 obtain⟨kb,cb⟩:=tb
 have hsz:dM ka+dM kb≤2000:=hsz
 have hlen:ca.length+cb.length≤2000:=hlen
 have kF:=ah (fun W (f:aj aF w W)=>ha.tree.aS f)
 have GK:=ah (fun W (f:aj aF w W)=>hb.tree.aS f)
 have He:=ah (fun W (f:aj aF w W)=>Rd.aS ha.ctx f)
 have Af:=ah (fun W (f:aj aF w W)=>Rd.aS hb.ctx f)
 have RU:=ah (fun(l:List dB) h=>Za (l:=l) ga h)
 have HSB:=ah (fun(l:List dB) h=>Za (l:=l) gb h)
 have qM:=ah (show ca.length≤2000∧cb.length≤2000∧eP ca∧eP cb from⟨ga.ok.len,gb.ok.len,ga.right.ctx,gb.right.ctx⟩)
 have HUN:=ah (Qm ga.right.ctx gb.right.ctx)
 have hjr:=OX (eU ca) (eU cb) 5 5 ([],ka) ([],kb) (Nat.le_refl _) ga.right.tree gb.right.tree
 have hjp:=agJ (eU ca) (eU cb) (d:=5) (n:=5) (a:=([],ka)) (b:=([],kb)) (Nat.le_refl _) ga.right.tree gb.right.tree
 have hjc:jM (eU ca) (eU cb) 5 ([],ka) ([],kb)=([],rP (ka,ca) (kb,cb)):=Hu (ka,ca) (kb,cb)
 rw[hjc]at hjr hjp
 have HJR:=ah hjr
 have HJP:=ah hjp
 have HJS:=ah (show dM (rP (ka,ca) (kb,cb))≤2000 from Nat.le_trans (Qn ga gb).1 hsz)
 have zV:=ah (show(dI [] ka).length≤dM ka by have:=Ie [] ka;unfold sizeT at this;simpa using this)
 have JU:=ah (show(dI [] kb).length≤dM kb by have:=Ie [] kb;unfold sizeT at this;simpa using this)
 clear ha hb hjr hjp hjc ga gb
 unfold RZ
 rw[show(fK (ka,ca) (kb,cb)).1=rP (ka,ca) (kb,cb)from rfl,show(fK (ka,ca) (kb,cb)).2=yg ca cb from rfl]
 generalize rP (ka,ca) (kb,cb)=kj at*
 generalize yg ca cb=cj at*
 obtain⟨hf3,hz3,hb0,hb1,hb2⟩:=oD w #[.slice A0 0 C0, .slice A1 ka.len C1, .slice A2 ca.length C2] #[.slice B0 0 D0, .slice B1 kb.len D1, .slice B2 cb.length D2] #[.slice none 0 0, .slice none 0 0, .slice none 0 0] 32 32 32
 obtain⟨W3,hW3⟩:∃W3,W3=((w.alloc (.cells #[.slice A0 0 C0, .slice A1 ka.len C1, .slice A2 ca.length C2] 32)).alloc (.cells #[.slice B0 0 D0, .slice B1 kb.len D1, .slice B2 cb.length D2] 32)).alloc (.cells #[.slice none 0 0, .slice none 0 0, .slice none 0 0] 32):=⟨_,rfl⟩
 rw[←hW3]at hf3 hz3 hb0 hb1 hb2
 have HW3:=ah hW3
 have HF3:=ah hf3
 have HB0:=ah hb0
 have HB1:=ah hb1
 have HB2:=ah hb2
 have HZ3:=ah hz3
 have dJ:=ah (fun Y Y' (f:aj aF Y Y') (hS:aj aF W3 Y∧Y.cell? ⟨w.heap.size,0,none⟩=some (.slice A0 0 C0)∧Y.cell? ⟨w.heap.size,1,none⟩=some (.slice A1 ka.len C1)∧Y.cell? ⟨w.heap.size+1,0,none⟩=some (.slice B0 0 D0)∧Y.cell? ⟨w.heap.size+1,1,none⟩=some (.slice B1 kb.len D1))=>(⟨hS.1.aH f,f.cell' hS.2.1 id,f.cell' hS.2.2.1 id,f.cell' hS.2.2.2.1 id,f.cell' hS.2.2.2.2 id⟩:aj aF W3 Y'∧Y'.cell? ⟨w.heap.size,0,none⟩=some (.slice A0 0 C0)∧Y'.cell? ⟨w.heap.size,1,none⟩=some (.slice A1 ka.len C1)∧Y'.cell? ⟨w.heap.size+1,0,none⟩=some (.slice B0 0 D0)∧Y'.cell? ⟨w.heap.size+1,1,none⟩=some (.slice B1 kb.len D1)))
 have dH:=dJ.out _ _ (aj.drew aF _) ⟨aj.refl aF W3,aG hb0 0 rfl,aG hb0 1 rfl,aG hb1 0 rfl,aG hb1 1 rfl⟩
 have Zg:=ah (fun W (f:aj aF W3 W)=>Lh QA [] ka W _ _ (kF.out W (HF3.out.aH f)) (by unfold sizeT;simp only[List.length_nil];omega))
 have Zh:=ah (fun W (f:aj aF W3 W)=>Lh QB [] kb W _ _ (GK.out W (HF3.out.aH f)) (by unfold sizeT;simp only[List.length_nil];omega))
 have Zi:=ah dH
 clear hf3 hb0 hb1 hb2 hW3 hz3 dH
 go_enter Tryz.func83,Tryz.ntmps83
 go_upto_region 1 with fail
 rw[←HW3.out]
 go_cut [5,6] (fun v u W=>∃(l1 l2:List dB),kJ aF W3 W v l1∧kJ aF W3 W u l2∧l1.map dB.con=dI [] ka∧l2.map dB.con=dI [] kb)
 case first=>
  refine iq (S:=fun Y=>aj aF W3 Y∧Y.cell? ⟨w.heap.size,0,none⟩=some (.slice A0 0 C0)∧Y.cell? ⟨w.heap.size,1,none⟩=some (.slice A1 ka.len C1)∧Y.cell? ⟨w.heap.size+1,0,none⟩=some (.slice B0 0 D0)∧Y.cell? ⟨w.heap.size+1,1,none⟩=some (.slice B1 kb.len D1)) 8 (by kernel_rfl) Zi.out ?_
  intro hS
  generalize World.drew _=Y0 at*
  refine aY 0 14 rfl rfl ?_
  refine aY 1 15 rfl rfl ?_
  try simp only[Act.put,aO,aN,aJ]
  refine aY 3 17 rfl rfl ?_
  refine aY 4 18 rfl rfl ?_
  try simp only[Act.put,aO,aN,aJ]
  refine bg (i:=2) (by kernel_rfl) rfl (fun K hK=>?_)
  go_simp
  refine(Zg.out _ hS.1).mono ?_
  rintro e Y1 ⟨v1,l1,rfl,ho1,hd1⟩
  obtain⟨a1,c1,rfl⟩:=ho1.own.shape
  have AY:=ho1.base hS.1
  (try have hO2:=hO2.aS ho1.own.aI)
  have HD1:=ah hd1
  have hS1:=dJ.out _ _ ho1.own.aI hS
  refine hK.out _ _ hS1 ?_
  clear hK K hS ho1 hd1
  have hS:=hS1
  clear hS1
  try simp only[Act.put,aO,aN,aJ]
  refine bg (i:=5) (by kernel_rfl) rfl (fun K hK=>?_)
  go_simp
  refine(Zh.out _ hS.1).mono ?_
  rintro e Y2 ⟨v2,l2,rfl,ho2,hd2⟩
  obtain⟨a2,c2,rfl⟩:=ho2.own.shape
  have hO2:=ho2.base hS.1
  (try have AY:=AY.aS ho2.own.aI)
  have HD2:=ah hd2
  have hS1:=dJ.out _ _ ho2.own.aI hS
  refine hK.out _ _ hS1 ?_
  clear hK K hS ho2 hd2
  have hS:=hS1
  clear hS1
  try simp only[Act.put,aO,aN,aJ]
  refine aY 6 5 rfl rfl ?_
  try simp only[Act.put,aO,aN,aJ]
  refine bg (i:=7) (by kernel_rfl) rfl (fun K hK=>?_)
  go_simp
  refine hK.out _ _ hS ?_
  clear hK K
  refine mF (by kernel_rfl) ?_
  go_wp2
  go_meet
  case rel=>exact⟨l1,l2,AY,hO2,HD1.out,HD2.out⟩
 case rest=>
  obtain⟨l1,l2,AY,hO2,hd1,hd2⟩:=hcut
  obtain⟨W4,rfl⟩:∃W4,W4=wc:=⟨_,rfl⟩
  obtain⟨a1,c1,rfl⟩:=AY.own.shape
  obtain⟨a2,c2,rfl⟩:=hO2.own.shape
  clear Zg Zh Zi
  have dZ:=ah AY
  have gW:=ah hO2
  have HD1:=ah hd1
  have HD2:=ah hd2
  have dR:=ah (HF3.out.aH AY.own.aI)
  have hl1:l1.length≤2000:=by have h:=congrArg List.length hd1;rw[List.length_map]at h;have:=zV.out;omega
  have hl2:l2.length≤2000:=by have h:=congrArg List.length hd2;rw[List.length_map]at h;have:=JU.out;omega
  have hl12:l1.length+l2.length≤2000:=by have h:=congrArg List.length hd2;rw[List.length_map]at h;have h':=congrArg List.length hd1;rw[List.length_map]at h';have:=JU.out;have:=zV.out;omega
  have LU:=ah (RU.out _ hd1)
  have HP2:=ah (HSB.out _ hd2)
  clear AY hO2 hd1 hd2
  obtain⟨m1,hm1⟩:∃m1,m1=l1.length:=⟨_,rfl⟩
  obtain⟨m2,hm2⟩:∃m2,m2=l2.length:=⟨_,rfl⟩
  rw[←hm1]at hl1 hl12⊢
  rw[←hm2]at hl2 hl12⊢
  have zD:=ah hm1
  have IE:=ah hm2
  clear hm1 hm2
  have R_:=ah (fun W (f:aj aF W4 W)=>(show wE _ W (.slice a1 m1 c1) l1 by rw[zD.out];exact dZ.out.Ig.aS f))
  have Me:=ah (fun W (f:aj aF W4 W)=>(show wE _ W (.slice a2 m2 c2) l2 by rw[IE.out];exact gW.out.Ig.aS f))
  go_wp2
  go_loopw [7,22] (fun v iv W=>∃(k:Nat) (l:List dB),k≤m1∧iv= .int .i64 k∧kJ (fun _=>True) W4 W v l∧l.length≤k∧l.map dB.con=((dI [] ka).take k).flatMap (ni (eU cb) (dI [] kb))) (fun _ iv _=>m1-(intOf iv).toNat)
  case atStart=>exact⟨0,[],Nat.zero_le _,rfl,kJ.nil (aj.refl _ _),Nat.le_refl _,rfl⟩
  case round=>
   obtain⟨k,l,hk,rfl,ho,hll,hcn⟩:=hrel
   obtain⟨av,Zj,rfl⟩:=ho.own.shape
   have HO:=ah ho
   have rO:=ah hcn
   have HF:=ah ho.own.aI
   clear ho hcn
   by_cases hlt:k<m1
   ·have hkl:k<l1.length:=by rw[←zD.out];exact hlt
    have hlv:=R_.out _ HF.out
    obtain⟨g0,g1,g2,g3,g4⟩:=Ag l1 k hkl
    have hpk:=hlv.each _ (getD_mem default hkl)
    have hpw:=(R_.out _ (aj.refl _ _)).each _ (getD_mem default hkl)
    have hpl:=LU.out _ (getD_mem default hkl)
    have hrd:=hlv.rd
    rw[←zD.out]at hrd
    have hst:=Zb (d:=default) (ni (eU cb) (dI [] kb)) (l:=dI [] ka) (k:=k) (by rw[←HD1.out,List.length_map];exact hkl)
    have hge:(dI [] ka).getD k default=(l1.getD k default).con:=by rw[←HD1.out];exact Zc hkl
    rw[hge]at hst
    rcases Rd.shape hrd with⟨ad,he,h0⟩|⟨g,off,cc,he,hmx⟩
    ·omega
    injection he with e1 e2 e3
    subst e1 e3
    clear e2 hge
    generalize l1.getD k default=qb at*
    obtain⟨path,pv,ed,en,es,ek⟩:=qb
    have hpk:gy _ wr pv path.length (fA path):=hpk
    obtain⟨ap,cpp,rfl⟩:=hpk.rd.sl
    have hpw:gy _ W4 (.slice ap path.length cpp) path.length (fA path):=hpw
    have hpl:path.length≤100000:=hpl
    have HST:=ah (show((dI [] ka).take (k+1)).flatMap (ni (eU cb) (dI [] kb))=((dI [] ka).take k).flatMap (ni (eU cb) (dI [] kb))++ni (eU cb) (dI [] kb) (path,⟨ed,en,es,ek⟩)from hst)
    have tH:=ah (show gy (fun _=>True) W4 (.slice ap path.length cpp) path.length (fA path)from⟨hpw.rd,fun _ _ _=>trivial⟩)
    have hfc:=fun W (f:aj aF W4 W)=>YZ _ l2 W (.slice a2 m2 c2) (Me.out W f) (by rw[←IE.out];omega) HP2.out path (.slice ap path.length cpp) ⟨ed,en,es,ek⟩ (Rd.aS hpw.rd f) hpl
    unfold RX at hfc
    rw[HD2.out]at hfc
    have Si:=ah hfc
    have y0:wr.cell? ⟨g,off+k*5,none⟩=some (.slice ap path.length cpp):=hrd.cell _ _ g0
    have y1:wr.cell? ⟨g,off+k*5+1,none⟩=some (.int .i64 ed):=hrd.cell (k*5+1) _ g1
    have y2:wr.cell? ⟨g,off+k*5+2,none⟩=some (.int .i64 en):=hrd.cell (k*5+2) _ g2
    have y3:wr.cell? ⟨g,off+k*5+3,none⟩=some (.string es):=hrd.cell (k*5+3) _ g3
    have y4:wr.cell? ⟨g,off+k*5+4,none⟩=some (.int .i64 ek):=hrd.cell (k*5+4) _ g4
    have wS:=ah (fun W (f:aj aF wr W)=>(⟨f.cell' y0 id,f.cell' y1 id,f.cell' y2 id,f.cell' y3 id,f.cell' y4 id⟩:W.cell? ⟨g,off+k*5,none⟩=some (.slice ap path.length cpp)∧W.cell? ⟨g,off+k*5+1,none⟩=some (.int .i64 ed)∧W.cell? ⟨g,off+k*5+2,none⟩=some (.int .i64 en)∧W.cell? ⟨g,off+k*5+3,none⟩=some (.string es)∧W.cell? ⟨g,off+k*5+4,none⟩=some (.int .i64 ek)))
    have lD:=World.block_lt_of_cell? _ _ y0
    have hki:(k:Int)<(m1:Int):=by omega
    clear hrd hlv g0 g1 g2 g3 g4 hpk hkl hst hfc hpw hpl
    generalize IG:path.length=pl at*
    have Sj:=ah IG
    clear IG
    go_upto_region 7 with(go_at_call 117;refine(Si.out _ HF.out).mono ?_;rintro e w6 ⟨y,b9,rfl,jO,hfd,hym,A9,n9,c9,hpv⟩;obtain⟨yp,yv,yd,yn,ys,yk⟩:=y;have hpv:yv= .slice A9 n9 c9:=hpv;subst hpv;have HF6:=ah jO;have ng:=ah hfd;have Zk:=ah hym;clear jO hfd hym y0 y1 y2 y3 y4 lD;dsimp only)
    have hb7:=heap_alloc_new w6 (.cells #[.slice A9 n9 c9, .int .i64 yd, .int .i64 yn, .string ys, .int .i64 yk] 103)
    have oJ:=ah (HF6.out.aH (aj.alloc aF w6 (.cells #[.slice A9 n9 c9, .int .i64 yd, .int .i64 yn, .string ys, .int .i64 yk] 103)))
    obtain⟨p7,vS⟩:∃p7,p7=w6.heap.size:=⟨_,rfl⟩
    rw[←vS]at hb7⊢
    clear vS
    generalize World.alloc w6 _=W7 at*
    have Fz:=ah hb7
    have rM:=lt_of_block hb7
    obtain⟨y0,y1,y2,y3,y4⟩:=wS.out _ oJ.out
    have lD:=World.block_lt_of_cell? _ _ y0
    have bJ:=ah (show lK (dI [] kb) (path,⟨ed,en,es,ek⟩)=if b9=true then some (yp,⟨yd,yn,ys,yk⟩)else none from ng.out)
    have x2:W7.cell? ⟨p7,2,none⟩=some (.int .i64 yn):=aG hb7 2 rfl
    have x3:W7.cell? ⟨p7,3,none⟩=some (.string ys):=aG hb7 3 rfl
    have x4:W7.cell? ⟨p7,4,none⟩=some (.int .i64 yk):=aG hb7 4 rfl
    clear hb7
    go_cut [70] (fun v W=>v= .bool (b9&&nV ⟨ed,en,es,ek⟩ ⟨yd,yn,ys,yk⟩)∧aj aF W7 W)
    case first=>
     cases b9 with
     |false=>
      go_quiet (fail)
      go_wp2
      go_meet
      case rel=>exact⟨rfl,(aj.refl aF W7).iy⟩
     |true=>
      by_cases h1:ek<yk
      ·have hg:(true&&nV ⟨ed,en,es,ek⟩ ⟨yd,yn,ys,yk⟩)=true:=by simp[nV,h1]
       have HG:=ah hg
       clear hg
       go_quiet (fail)
       go_wp2
       go_meet
       case rel=>exact⟨by rw[HG.out],(aj.refl aF W7).iy⟩
      ·have h1a:decide (ek<yk)=false:=by simpa using h1
       by_cases h2:ek=yk
       ·subst h2
        have E_:=Kw 9 ys es
        cases hs:dL es ys with
        |true=>
         rw[show Op.bytesLess es.toList ys.toList=true from hs]at E_
         have hg:(true&&nV ⟨ed,en,es,ek⟩ ⟨yd,yn,ys,ek⟩)=true:=by simp[nV,hs]
         have HG:=ah hg
         clear hg
         go_quiet (fail)
         go_wp2
         go_meet
         case rel=>exact⟨by rw[HG.out],(aj.refl aF W7).iy⟩
        |false=>
         rw[show Op.bytesLess es.toList ys.toList=false from hs]at E_
         have hg:(true&&nV ⟨ed,en,es,ek⟩ ⟨yd,yn,ys,ek⟩)=false:=by simp[nV,hs]
         have HG:=ah hg
         clear hg
         go_quiet (fail)
         go_wp2
         go_meet
         case rel=>exact⟨by rw[HG.out],(aj.refl aF W7).iy⟩
       ·have h2a:(yk==ek)=false:=by simpa using fun h=>h2 h.symm
        have hg:(true&&nV ⟨ed,en,es,ek⟩ ⟨yd,yn,ys,yk⟩)=false:=by simp[nV,h1,h2]
        have HG:=ah hg
        clear hg
        go_quiet (fail)
        go_wp2
        go_meet
        case rel=>exact⟨by rw[HG.out],(aj.refl aF W7).iy⟩
    case rest=>
     obtain⟨rfl,hfr⟩:=hcut
     obtain⟨W8,rfl⟩:∃W8,W8=wc:=⟨_,rfl⟩
     have iU:=ah (oJ.out.aH hfr)
     have tJ:=ah (hfr.blk Fz.out id)
     have HKK:=ah (HO.out.aS iU.out)
     clear hfr y0 y1 y2 y3 y4 lD x2 x3 x4 rM
     cases hgb:(b9&&nV ⟨ed,en,es,ek⟩ ⟨yd,yn,ys,yk⟩)with
     |true=>
      rw[Bool.and_eq_true]at hgb
      have fB:=hgb.1
      subst fB
      have nS:=ah (show ni (eU cb) (dI [] kb) (path,⟨ed,en,es,ek⟩)=[(yp,⟨yd,yn,ys,yk⟩)] by rw[Zd (y:=(yp,⟨yd,yn,ys,yk⟩)) bJ.out];simp only;rw[if_pos hgb.2])
      have HXQ:=ah ((Me.out W4 (aj.refl _ _)).each _ (Zk.out rfl))
      have x0:W8.cell? ⟨p7,0,none⟩=some (.slice A9 n9 c9):=aG tJ.out 0 rfl
      have x1:W8.cell? ⟨p7,1,none⟩=some (.int .i64 yd):=aG tJ.out 1 rfl
      have x2:W8.cell? ⟨p7,2,none⟩=some (.int .i64 yn):=aG tJ.out 2 rfl
      have x3:W8.cell? ⟨p7,3,none⟩=some (.string ys):=aG tJ.out 3 rfl
      have x4:W8.cell? ⟨p7,4,none⟩=some (.int .i64 yk):=aG tJ.out 4 rfl
      have EZ:=lt_of_block tJ.out
      clear hgb
      go_wp2_with(at_builtin;refine zM _ [.slice A9 n9 c9, .int .i64 yd, .int .i64 yn, .string ys, .int .i64 yk] rfl (.tmp 71) (.tmp 73) 50 rfl 103 i0 _ 5 64 Tryz.underlying50 hi0 hz0 hz1 hz2 (by decide) (by decide) _ _ _ HKK.out.own.own 1 1 rfl (by simp[Act.eval]) rfl (by simp[Value.oneCell']) (by simp only[maxLen];omega) (by omega) ?_;intro ad cc w9 tC qW qX;have OW:=ah (HKK.out.add1 (x:=⟨yp, .slice A9 n9 c9,⟨yd,yn,ys,yk⟩⟩) qW qX tC HXQ.out rfl);clear tC qW qX)
      go_roundw
      case rel=>exact⟨k+1,l++ [⟨yp, .slice A9 n9 c9,⟨yd,yn,ys,yk⟩⟩],by omega,by go_num,OW.out,by simp;omega,by rw[List.map_append,rO.out,HST.out,nS.out];rfl⟩
      case measure=>simp[intOf];omega
     |false=>
      go_upto_region 9 with fail
      obtain⟨y0,y1,y2,y3,y4⟩:=wS.out _ iU.out
      have lD:=World.block_lt_of_cell? _ _ y0
      go_cut [87] (fun v W=>v= .bool (b9|| !eU cb ed en)∧aj aF W8 W)
      case first=>
       cases b9 with
       |true=>
        go_quiet (fail)
        go_wp2
        go_meet
        case rel=>exact⟨rfl,(aj.refl aF W8).iy⟩
       |false=>
        obtain⟨α,hne,K,hK1,hK0,hK2⟩:=worlds W8
        have hbb:=((dZ.out.own.aI.aH HF.out).aH iU.out).blk HB1.out id
        have z0:∀t,(K t).cell? ⟨w.heap.size+1,2,none⟩=some (.slice B2 cb.length D2):=fun t=>(hK1 t).cell' (aG hbb 2 rfl) id
        have z1:∀t,(K t).cell? ⟨g,off+k*5+1,none⟩=some (.int .i64 ed):=fun t=>(hK1 t).cell' y1 id
        have z2:∀t,(K t).cell? ⟨g,off+k*5+2,none⟩=some (.int .i64 en):=fun t=>(hK1 t).cell' y2 id
        have dS:=ah hK1
        have xY:=ah (fun t=>YE cb (K t) (.slice B2 cb.length D2) (Af.out _ (((dR.out.aH HF.out).aH iU.out).aH (hK1 t))) (by have:=qM.out.2.1;omega) ed en)
        clear hK1 hbb y0 y1 y2 y3 y4 lD
        refine dX K (by kernel_rfl) (by kernel_rfl) hK0 ?_
        repeat(go_big_quiet_step (((go_at_call 118;exact Calls.bT hK2 (xY.out _)))))
        refine wpQuiet_nil ?_
        intro w' hw'
        obtain⟨t,rfl⟩:=hw'
        go_wp2
        go_meet
        case rel=>exact⟨rfl,dS.out t⟩
      case rest=>
       obtain⟨rfl,hfr⟩:=hcut
       obtain⟨W9,rfl⟩:∃W9,W9=wc:=⟨_,rfl⟩
       have qw:=ah (iU.out.aH hfr)
       have HKK:=ah (HO.out.aS qw.out)
       clear hfr y0 y1 y2 y3 y4 lD
       cases hh:(b9|| !eU cb ed en)with
       |true=>
        have nS:=ah (show ni (eU cb) (dI [] kb) (path,⟨ed,en,es,ek⟩)=[(path,⟨ed,en,es,ek⟩)] by
         cases b9 with
         |true=>
          rw[Zd (y:=(yp,⟨yd,yn,ys,yk⟩)) bJ.out]
          simp only[Bool.true_and]at hgb
          simp only
          rw[if_neg (by rw[hgb];decide)]
         |false=>
          rw[Ze bJ.out]
          simp only[Bool.false_or,Bool.not_eq_true']at hh
          simp only
          rw[if_neg (by rw[hh];decide)])
        obtain⟨y0,y1,y2,y3,y4⟩:=wS.out _ qw.out
        have lD:=World.block_lt_of_cell? _ _ y0
        have Sm:=ah (show gy (fun _=>True) W4 (.slice ap pl cpp) path.length (fA path) by rw[Sj.out];exact tH.out)
        clear hh hgb
        go_wp2_with(at_builtin;refine zM _ [.slice ap pl cpp, .int .i64 ed, .int .i64 en, .string es, .int .i64 ek] rfl (.tmp 88) (.tmp 93) 50 rfl 103 i0 _ 5 64 Tryz.underlying50 hi0 hz0 hz1 hz2 (by decide) (by decide) _ _ _ HKK.out.own.own 1 1 rfl (by simp[Act.eval]) rfl (by simp[Value.oneCell']) (by simp only[maxLen];omega) (by omega) ?_;intro ad cc w9 tC qW qX;have OW:=ah (HKK.out.add1 (x:=⟨path, .slice ap pl cpp,⟨ed,en,es,ek⟩⟩) qW qX tC Sm.out rfl);clear tC qW qX)
        go_roundw
        case rel=>exact⟨k+1,l++ [⟨path, .slice ap pl cpp,⟨ed,en,es,ek⟩⟩],by omega,by go_num,OW.out,by simp;omega,by rw[List.map_append,rO.out,HST.out,nS.out];rfl⟩
        case measure=>simp[intOf];omega
       |false=>
        have nS:=ah (show ni (eU cb) (dI [] kb) (path,⟨ed,en,es,ek⟩)=[] by
         rw[Bool.or_eq_false_iff,Bool.not_eq_false']at hh
         obtain⟨fB,hh⟩:=hh
         subst fB
         rw[Ze bJ.out]
         simp only
         rw[if_pos hh])
        clear hh hgb
        go_wp2
        go_roundw
        case rel=>exact⟨k+1,l,by omega,by go_num,HKK.out,by omega,by rw[rO.out,HST.out,nS.out,List.append_nil]⟩
        case measure=>simp[intOf];omega
   ·obtain rfl:m1=k:=by omega
    have CX:=ah (show l.map dB.con=(dI [] ka).flatMap (ni (eU cb) (dI [] kb)) by rw[rO.out,List.take_of_length_le (by rw[←HD1.out,List.length_map,←zD.out];exact Nat.le_refl _)])
    clear rO HF hlt
    go_wp2
    go_loopw [7,98] (fun v iv W=>∃(k:Nat) (l:List dB),k≤m2∧iv= .int .i64 k∧kJ (fun _=>True) W4 W v l∧l.length≤m1+k∧l.map dB.con=(dI [] ka).flatMap (ni (eU cb) (dI [] kb))++((dI [] kb).take k).flatMap (pF (eU ca) (dI [] ka))) (fun _ iv _=>m2-(intOf iv).toNat)
    case atStart=>exact⟨0,l,Nat.zero_le _,rfl,HO.out,by omega,by rw[CX.out];simp⟩
    case round=>
     obtain⟨k,l,hk,rfl,ho,hll,hcn⟩:=hrel
     obtain⟨av,Zj,rfl⟩:=ho.own.shape
     have HO:=ah ho
     have rO:=ah hcn
     have HF:=ah ho.own.aI
     clear ho hcn
     by_cases hlt:k<m2
     ·have hkl:k<l2.length:=by rw[←IE.out];exact hlt
      have hlv:=Me.out _ HF.out
      obtain⟨g0,g1,g2,g3,g4⟩:=Ag l2 k hkl
      have hpk:=hlv.each _ (getD_mem default hkl)
      have hpw:=(Me.out _ (aj.refl _ _)).each _ (getD_mem default hkl)
      have hpl:=HP2.out _ (getD_mem default hkl)
      have hrd:=hlv.rd
      rw[←IE.out]at hrd
      have hst:=Zb (d:=default) (pF (eU ca) (dI [] ka)) (l:=dI [] kb) (k:=k) (by rw[←HD2.out,List.length_map];exact hkl)
      have hge:(dI [] kb).getD k default=(l2.getD k default).con:=by rw[←HD2.out];exact Zc hkl
      rw[hge]at hst
      rcases Rd.shape hrd with⟨ad,he,h0⟩|⟨g,off,cc,he,hmx⟩
      ·omega
      injection he with e1 e2 e3
      subst e1 e3
      clear e2 hge
      generalize l2.getD k default=qb at*
      obtain⟨path,pv,ed,en,es,ek⟩:=qb
      have hpk:gy _ wr pv path.length (fA path):=hpk
      obtain⟨ap,cpp,rfl⟩:=hpk.rd.sl
      have hpw:gy _ W4 (.slice ap path.length cpp) path.length (fA path):=hpw
      have hpl:path.length≤100000:=hpl
      have HST:=ah (show((dI [] kb).take (k+1)).flatMap (pF (eU ca) (dI [] ka))=((dI [] kb).take k).flatMap (pF (eU ca) (dI [] ka))++pF (eU ca) (dI [] ka) (path,⟨ed,en,es,ek⟩)from hst)
      have tH:=ah (show gy (fun _=>True) W4 (.slice ap path.length cpp) path.length (fA path)from⟨hpw.rd,fun _ _ _=>trivial⟩)
      have hfc:=fun W (f:aj aF W4 W)=>YZ _ l1 W (.slice a1 m1 c1) (R_.out W f) (by rw[←zD.out];omega) LU.out path (.slice ap path.length cpp) ⟨ed,en,es,ek⟩ (Rd.aS hpw.rd f) hpl
      unfold RX at hfc
      rw[HD1.out]at hfc
      have Si:=ah hfc
      have y0:wr.cell? ⟨g,off+k*5,none⟩=some (.slice ap path.length cpp):=hrd.cell _ _ g0
      have y1:wr.cell? ⟨g,off+k*5+1,none⟩=some (.int .i64 ed):=hrd.cell (k*5+1) _ g1
      have y2:wr.cell? ⟨g,off+k*5+2,none⟩=some (.int .i64 en):=hrd.cell (k*5+2) _ g2
      have y3:wr.cell? ⟨g,off+k*5+3,none⟩=some (.string es):=hrd.cell (k*5+3) _ g3
      have y4:wr.cell? ⟨g,off+k*5+4,none⟩=some (.int .i64 ek):=hrd.cell (k*5+4) _ g4
      have wS:=ah (fun W (f:aj aF wr W)=>(⟨f.cell' y0 id,f.cell' y1 id,f.cell' y2 id,f.cell' y3 id,f.cell' y4 id⟩:W.cell? ⟨g,off+k*5,none⟩=some (.slice ap path.length cpp)∧W.cell? ⟨g,off+k*5+1,none⟩=some (.int .i64 ed)∧W.cell? ⟨g,off+k*5+2,none⟩=some (.int .i64 en)∧W.cell? ⟨g,off+k*5+3,none⟩=some (.string es)∧W.cell? ⟨g,off+k*5+4,none⟩=some (.int .i64 ek)))
      have lD:=World.block_lt_of_cell? _ _ y0
      have hki:(k:Int)<(m2:Int):=by omega
      clear hrd hlv g0 g1 g2 g3 g4 hpk hkl hst hfc hpw hpl
      generalize IG:path.length=pl at*
      have Sj:=ah IG
      clear IG
      go_upto_region 16 with(go_at_call 117;refine(Si.out _ HF.out).mono ?_;rintro e w6 ⟨y,b9,rfl,jO,hfd,hym,A9,n9,c9,hpv⟩;obtain⟨yp,yv,yd,yn,ys,yk⟩:=y;have hpv:yv= .slice A9 n9 c9:=hpv;subst hpv;have HF6:=ah jO;have ng:=ah hfd;have Zk:=ah hym;clear jO hfd hym y0 y1 y2 y3 y4 lD;dsimp only)
      have hb7:=heap_alloc_new w6 (.cells #[.slice A9 n9 c9, .int .i64 yd, .int .i64 yn, .string ys, .int .i64 yk] 103)
      have oJ:=ah (HF6.out.aH (aj.alloc aF w6 (.cells #[.slice A9 n9 c9, .int .i64 yd, .int .i64 yn, .string ys, .int .i64 yk] 103)))
      obtain⟨p7,vS⟩:∃p7,p7=w6.heap.size:=⟨_,rfl⟩
      rw[←vS]at hb7⊢
      clear vS
      generalize World.alloc w6 _=W7 at*
      have Fz:=ah hb7
      have rM:=lt_of_block hb7
      obtain⟨y0,y1,y2,y3,y4⟩:=wS.out _ oJ.out
      have lD:=World.block_lt_of_cell? _ _ y0
      have bJ:=ah (show lK (dI [] ka) (path,⟨ed,en,es,ek⟩)=if b9=true then some (yp,⟨yd,yn,ys,yk⟩)else none from ng.out)
      clear hb7
      go_cut [123] (fun v W=>v= .bool (!b9&& !eU ca ed en)∧aj aF W7 W)
      case first=>
       cases b9 with
       |true=>
        go_quiet (fail)
        go_wp2
        go_meet
        case rel=>exact⟨rfl,(aj.refl aF W7).iy⟩
       |false=>
        obtain⟨α,hne,K,hK1,hK0,hK2⟩:=worlds W7
        have hbb:=((dZ.out.own.aI.aH HF.out).aH oJ.out).blk HB0.out id
        have z0:∀t,(K t).cell? ⟨w.heap.size,2,none⟩=some (.slice A2 ca.length C2):=fun t=>(hK1 t).cell' (aG hbb 2 rfl) id
        have z1:∀t,(K t).cell? ⟨g,off+k*5+1,none⟩=some (.int .i64 ed):=fun t=>(hK1 t).cell' y1 id
        have z2:∀t,(K t).cell? ⟨g,off+k*5+2,none⟩=some (.int .i64 en):=fun t=>(hK1 t).cell' y2 id
        have dS:=ah hK1
        have xY:=ah (fun t=>YE ca (K t) (.slice A2 ca.length C2) (He.out _ (((dR.out.aH HF.out).aH oJ.out).aH (hK1 t))) (by have:=qM.out.1;omega) ed en)
        clear hK1 hbb y0 y1 y2 y3 y4 lD
        refine dX K (by kernel_rfl) (by kernel_rfl) hK0 ?_
        repeat(go_big_quiet_step (((go_at_call 118;exact Calls.bT hK2 (xY.out _)))))
        refine wpQuiet_nil ?_
        intro w' hw'
        obtain⟨t,rfl⟩:=hw'
        go_wp2
        go_meet
        case rel=>exact⟨rfl,dS.out t⟩
      case rest=>
       obtain⟨rfl,hfr⟩:=hcut
       obtain⟨W9,rfl⟩:∃W9,W9=wc:=⟨_,rfl⟩
       have qw:=ah (oJ.out.aH hfr)
       have HKK:=ah (HO.out.aS qw.out)
       clear hfr y0 y1 y2 y3 y4 lD rM
       cases hh:(!b9&& !eU ca ed en)with
       |true=>
        have nS:=ah (show pF (eU ca) (dI [] ka) (path,⟨ed,en,es,ek⟩)=[(path,⟨ed,en,es,ek⟩)] by
         rw[Bool.and_eq_true,Bool.not_eq_true',Bool.not_eq_true']at hh
         obtain⟨fB,hh⟩:=hh
         subst fB
         rw[Zf bJ.out]
         simp only
         rw[if_neg (by rw[hh];decide)])
        obtain⟨y0,y1,y2,y3,y4⟩:=wS.out _ qw.out
        have lD:=World.block_lt_of_cell? _ _ y0
        have Sm:=ah (show gy (fun _=>True) W4 (.slice ap pl cpp) path.length (fA path) by rw[Sj.out];exact tH.out)
        clear hh
        go_wp2_with(at_builtin;refine zM _ [.slice ap pl cpp, .int .i64 ed, .int .i64 en, .string es, .int .i64 ek] rfl (.tmp 124) (.tmp 129) 50 rfl 103 i0 _ 5 64 Tryz.underlying50 hi0 hz0 hz1 hz2 (by decide) (by decide) _ _ _ HKK.out.own.own 1 1 rfl (by simp[Act.eval]) rfl (by simp[Value.oneCell']) (by simp only[maxLen];omega) (by omega) ?_;intro ad cc w9 tC qW qX;have OW:=ah (HKK.out.add1 (x:=⟨path, .slice ap pl cpp,⟨ed,en,es,ek⟩⟩) qW qX tC Sm.out rfl);clear tC qW qX)
        go_roundw
        case rel=>exact⟨k+1,l++ [⟨path, .slice ap pl cpp,⟨ed,en,es,ek⟩⟩],by omega,by go_num,OW.out,by simp;omega,by rw[List.map_append,rO.out,HST.out,nS.out,List.append_assoc];rfl⟩
        case measure=>simp[intOf];omega
       |false=>
        have nS:=ah (show pF (eU ca) (dI [] ka) (path,⟨ed,en,es,ek⟩)=[] by
         cases b9 with
         |true=>exact ahb bJ.out
         |false=>
          rw[Zf bJ.out]
          simp only[Bool.not_false,Bool.true_and,Bool.not_eq_false']at hh
          simp only
          rw[if_pos hh])
        clear hh
        go_wp2
        go_roundw
        case rel=>exact⟨k+1,l,by omega,by go_num,HKK.out,by omega,by rw[rO.out,HST.out,nS.out,List.append_nil]⟩
        case measure=>simp[intOf];omega
     ·obtain rfl:m2=k:=by omega
      have HC2:=ah (show l.map dB.con=Fj (eU ca) (eU cb) (dI [] ka) (dI [] kb) by rw[rO.out,List.take_of_length_le (by rw[←HD2.out,List.length_map,←IE.out];exact Nat.le_refl _)];rfl)
      have kE:=ah (fun W (f:aj aF wr W)=>LH _ _ [] kj 5 l W (.slice av l.length Zj) (Nat.lt_succ_self _) ((HO.out.aS f).Ig) (by rw[HC2.out];exact HJP.out) HJR.out (by omega) (by have:=HJS.out;unfold sizeT;simp only[List.length_nil];omega))
      have zo:=ah (dR.out.aH HF.out)
      have MB:=ah (dZ.out.own.aI.aH HF.out)
      have HUC:=ah (fun W (f:aj aF wr W)=>agM W _ _ ca cb (He.out W (zo.out.aH f)) (Af.out W (zo.out.aH f)) qM.out.2.2.1 qM.out.2.2.2 (by have:=qM.out.1;omega) (by have:=qM.out.2.1;omega))
      have hba:=MB.out.blk HB0.out id
      have hbb:=MB.out.blk HB1.out id
      have Sr:=ah (fun Y Y' (f:aj aF Y Y') (hS:aj aF wr Y∧Y.cell? ⟨w.heap.size,2,none⟩=some (.slice A2 ca.length C2)∧Y.cell? ⟨w.heap.size+1,2,none⟩=some (.slice B2 cb.length D2))=>(⟨hS.1.aH f,f.cell' hS.2.1 id,f.cell' hS.2.2 id⟩:aj aF wr Y'∧Y'.cell? ⟨w.heap.size,2,none⟩=some (.slice A2 ca.length C2)∧Y'.cell? ⟨w.heap.size+1,2,none⟩=some (.slice B2 cb.length D2)))
      have dH:=Sr.out _ _ (aj.drew aF _) ⟨aj.refl aF wr,aG hba 2 rfl,aG hbb 2 rfl⟩
      clear hba hbb
      go_upto_region 19 with fail
      refine iq (S:=fun Y=>aj aF wr Y∧Y.cell? ⟨w.heap.size,2,none⟩=some (.slice A2 ca.length C2)∧Y.cell? ⟨w.heap.size+1,2,none⟩=some (.slice B2 cb.length D2)) 8 (by kernel_rfl) dH ?_
      clear dH
      intro hS
      generalize World.drew _=Y0 at*
      refine aX 0 132 rfl rfl ?_
      refine aX 2 134 rfl rfl ?_
      try simp only[Act.put,aO,aN,aJ]
      refine aX 3 135 rfl rfl ?_
      refine aX 4 136 rfl rfl ?_
      try simp only[Act.put,aO,aN,aJ]
      refine aX 5 137 rfl rfl ?_
      try simp only[Act.put,aO,aN,aJ]
      refine bg (i:=1) (by kernel_rfl) rfl (fun K hK=>?_)
      go_simp
      refine(kE.out _ hS.1).mono ?_
      rintro e Y1 ⟨ev1,wP,rfl,ht1,hf1⟩
      obtain⟨b1,d1,rfl⟩:=ht1.ents.rd.sl
      obtain⟨os1,uK,-⟩:=ht1.kids
      obtain⟨b2,d2,rfl⟩:=uK.rd.sl
      have hT1:=ht1.turn (Q':=fun k=>wr.heap.size≤k) fun k _ hk=>⟨rfl,Nat.le_trans hS.1.size hk⟩
      (try have MC:=MC.keep hf1)
      have hS1:=Sr.out _ _ hf1 hS
      refine hK.out _ _ hS1 ?_
      clear hK K hS hf1 ht1 uK
      have hS:=hS1
      clear hS1
      try simp only[Act.put,aO,aN,aJ]
      refine bg (i:=6) (by kernel_rfl) rfl (fun K hK=>?_)
      go_simp
      refine(HUC.out _ hS.1).mono ?_
      rintro e Y2 ⟨v2,c2',rfl,ho2,Zl,-⟩
      obtain rfl:cj=c2':=HUN.out.one Zl
      obtain⟨b3,d3,rfl⟩:=ho2.shape
      have MC:=ho2.base hS.1
      (try have hT1:=hT1.aS ho2.aI)
      have hS1:=Sr.out _ _ ho2.aI hS
      refine hK.out _ _ hS1 ?_
      clear hK K hS ho2 Zl
      have hS:=hS1
      clear hS1
      try simp only[Act.put,aO,aN,aJ]
      refine aX 7 139 rfl rfl ?_
      try simp only[Act.put,aO,aN,aJ]
      refine gJ (by kernel_rfl) (by kernel_rfl) rfl (fun K hK=>?_)
      have hbr:=(MB.out.aH hS.1).blk HB2.out id
      have f0:=aW hbr 0
      have f1:=aW hbr 1
      have f2:=aW hbr 2
      have x0:=aG hbr 0 rfl
      have x1:=aG hbr 1 rfl
      have x2:=aG hbr 2 rfl
      have hlr:=lt_of_block hbr
      have bH:=ah (m_ hbr (.slice b1 0 d1) (.slice b2 kj.len d2) (.slice b3 cj.length d3))
      have bU:=ah (fun w0=>mJ w0 (w.heap.size+1+1) (.slice b1 0 d1) (.slice b2 kj.len d2) (.slice b3 cj.length d3))
      have HT1:=ah hT1
      have Sv:=ah MC
      have bJ:=ah (zo.out.aH hS.1)
      have Zm:=ah (show w.heap.size+1+1<wr.heap.size by have h1:=MB.out.size;have h2:=HZ3.out;omega)
      go_simp
      refine hK.out _ _ ?_
      clear hK K hS f0 f1 f2 x0 x1 x2 hlr hbr hT1 MC
      go_wp2
      have z0:=aG bH.out 0 rfl
      have z1:=aG bH.out 1 rfl
      have z2:=aG bH.out 2 rfl
      refine bodyPost_ret (v:= .agg #[.slice b1 0 d1, .slice b2 kj.len d2, .slice b3 cj.length d3]) (by simp[results,Tryz.results83,go_sem,z0,z1,z2]) rfl ⟨_,_,_,rfl,HT1.out.turn fun k hk hq=>⟨(bU.out _).block k hk (by have:=Zm.out;omega),by have:=zo.out.size;omega⟩,⟨(bU.out _).owns Sv.out.own fun k hk e=>?_,fun k hk=>by have:=Sv.out.new k hk;have:=zo.out.size;omega,bJ.out.trans (bU.out _) fun k hk e=>by have h1:=HF3.out.size;have h2:=HZ3.out;omega⟩⟩
      have h1:=Sv.out.new k hk
      have h2:=Zm.out
      omega
end Go.Proofs.YtlhmbkjdfjoilaaGreat
