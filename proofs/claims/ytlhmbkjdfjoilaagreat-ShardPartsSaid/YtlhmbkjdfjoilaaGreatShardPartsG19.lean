/- Words for the law ShardParts: Sh17, Same1. -/
import Derived.Test.YtlhmbkjdfjoilaaGreatShardPartsG0
import Derived.Test.YtlhmbkjdfjoilaaGreatShardPartsG5
import Derived.Test.YtlhmbkjdfjoilaaGreatShardPartsG10
import Derived.Test.YtlhmbkjdfjoilaaGreatShardPartsG12
import Derived.Test.YtlhmbkjdfjoilaaGreatShardPartsG17
import Derived.Test.YtlhmbkjdfjoilaaGreatShardPartsG18
set_option linter.unusedSimpArgs false
set_option linter.unusedVariables false
set_option maxHeartbeats 32000000
set_option maxRecDepth 1000000
namespace Go.Proofs.YtlhmbkjdfjoilaaGreat
open Go.RowKit
theorem Nb {Q:Nat→Prop} {w:World}:∀ {ks:aH} {os:List (Value×Value)},iw Q w ks os→∃l:List aY,mkK l=ks∧oP l=os∧∀q∈l,q.shaped∧bg Q w q.ev q.kv q.es q.sub
 | .nil,os,h=>⟨[],rfl,(show os=[]from h).symm,fun _ hq=>by cases hq⟩
 | .cons key es sub rest,os,h=>by
   obtain⟨ev,kv,mg,os',he,h1,h2,h3,h4⟩:=h
   obtain⟨l,e1,e2,e3⟩:=Nb h4
   obtain⟨a0,c0,g0⟩:=h1.rd.sl
   obtain⟨a1,c1,g1⟩:=h2.rd.sl
   refine⟨⟨key,es,sub,ev,kv⟩::l,?_,?_,fun q hq=>?_⟩
   ·show aH.cons key es sub (mkK l)=_;rw[e1]
   ·show(ev,kv)::oP l=_;rw[e2,he]
   ·rcases List.mem_cons.1 hq with rfl|hq
    ·exact⟨⟨⟨_,_,_,g0⟩,_,_,_,g1⟩,h1,os',h2,h3⟩
    ·exact e3 q hq
theorem WA {Q:Nat→Prop} {w:World} {ev kv:Value} {es:List aF} {ks:aH} (h:bg Q w ev kv es ks):∃l:List aY,mkK l=ks∧Rd w kv l.length (l.flatMap aY.cells)∧∀q∈l,q.shaped∧bg Q w q.ev q.kv q.es q.sub:=by
 obtain⟨os,h1,h2⟩:=h.kids
 obtain⟨l,e1,e2,e3⟩:=Nb h2
 refine⟨l,e1,?_,e3⟩
 have:=h1.rd
 rw[←e1,←e2,uM,oQ]at this
 exact this
theorem WC {P:Program} {ops:Array Oper} {o:Oper} {a:Act} (w:World) {K:Act→World→Prop} {Q:Exit→Act→World→Prop} {E:Prop} (news:List Value) (hgd:o.guard=none) (s x:Operand) (t:TypeId)
 (ho:o.op= .call {callee:= .builtin .append,args:= #[s,x],argTypes:= #[t,t]})
 (e:TypeId) (i:TypeInfo) (z:Value) (size bytes:Nat) (ht:P.underlying t=some (.slice e)) (hi:P.info? e=some i) (hz:i.zero=some z)
 (hsize:i.size=size) (hby:i.bytes=bytes) (hzs:z.cells.size=size) (hsz:0<size)
 (v:Value) (n:Nat) (xs:List Value) (hown:w.ownsRow 0 e size v n xs) (xv:Value) (m:Nat) (hv:a.eval s=v) (hx:a.eval x=xv) (hr:Rd w xv m news)
 (hnl:news.length=m*size) (h1:∀u∈news,u.oneCell'=true) (h63:n+m≤maxLen) (hbytes:(n+m)*bytes≤140737488355328)
 (h:∀ad c w',w'.ownsRow 0 e size (.slice ad (n+m) c) (n+m) (xs++news)→aj (bY v) w w'→jk w v (.slice ad (n+m) c)→K (a.put o.dst (.slice ad (n+m) c)) w'):
 if Region.wanted o (yielded ops a.tmps)=true then Oper.wp P o a w K Q else E:=by
 have hw:Region.wanted o (yielded ops a.tmps)=true:=by simp[Region.wanted,hgd]
 rw[if_pos hw]
 obtain⟨v',w',hr,h2,h3,h4,⟨ad,c',rfl⟩,h6⟩:=vK (P:=P) w t t o.type e i z size bytes ht hi hz hsize hby hzs hsz v n xs hown xv m news (hr.src ht hnl h1) h63 hbytes
 unfold Oper.wp execOp
 simp only[ho,resolve,invoke,builtin,Sem.run_bind,Sem.run_pure,Result.andThen_ok,List.map_toArray,List.map_cons,List.map_nil,hv,hx,hr]
 exact h ad c' w' h2 h3 h4
theorem iY {w:World} {e:TypeId} {size:Nat} {v:Value} {n:Nat} {xs:List Value} (h:w.ownsRow 0 e size v n xs) {k:Nat} (hk:v.ownBlock=some k):∃cur,w.heap[k]?=some (.cells cur e (0,0)):=by
 rcases h.2 with⟨h1,_⟩|⟨g',cap',cur,h1,_,h2,_⟩
 ·rw[h1]at hk;simp[Value.ownBlock]at hk
 ·rw[h1]at hk
  have:g'=k:=by simpa[Value.ownBlock]using hk
  subst this
  exact⟨cur,h2⟩
structure tY (w W:World) (b3:Nat) (v cv:Value) (l:List aY) (c:aU):Prop where
 aI:aj au w W
 GU:w.heap.size<b3
 jV:W.heap[w.heap.size]?=some (.cells #[.slice none 0 0, .slice none 0 0, .slice none 0 0] 32 (0,0))
 eG:W.heap[b3]?=some (.cells #[.slice none 0 0,v,cv] 32 (0,0))
 ctx:W.ownsRow 0 92 3 cv c.length (cO c)
 cn:uj w cv
 row:W.ownsRow 0 52 3 v l.length (l.flatMap aY.cells)
 rn:uj w v
 each:∀q∈l,q.shaped∧bg (fun k=>w.heap.size<k∧k≠b3∧v.ownBlock≠some k) W q.ev q.kv q.es q.sub
theorem tY.aN {w W W':World} {b3:Nat} {v cv:Value} {l:List aY} {c:aU} (h:tY w W b3 v cv l c) (f:aj au W W'):tY w W' b3 v cv l c:=
 ⟨h.aI.aG f,h.GU,f.blk h.jV id,f.blk h.eG id,f.owns h.ctx (fun _ _ h=>h),h.cn,f.owns h.row (fun _ _ h=>h),h.rn,fun q hq=>⟨(h.each q hq).1,(h.each q hq).2.aN f⟩⟩
theorem tY.add {w W W2:World} {b3:Nat} {v v' cv:Value} {l lk:List aY} {c:aU} (h:tY w W b3 v cv l c) (f:aj (bY v) W W2) (fr:jk W v v') (own:W2.ownsRow 0 52 3 v' (l.length+lk.length) (l.flatMap aY.cells++lk.flatMap aY.cells))
 (hk:∀q∈lk,q.shaped∧bg (fun k=>w.heap.size<k∧k≠b3∧v.ownBlock≠some k) W q.ev q.kv q.es q.sub):
 W2.heap[b3]?=some (.cells #[.slice none 0 0,v,cv] 32 (0,0))∧tY w (W2.setCell ⟨b3,1,none⟩ v') b3 v' cv (l++lk) c:=by
 have nv:∀ {k o t},W.heap[k]?=some (.cells o t (0,0))→t≠52→¬bY v k:=fun hk ht s=>by
  obtain⟨cur,h2⟩:=iY h.row s
  exact fU hk h2 ht rfl
 have g2:=f.blk h.jV (nv h.jV (by decide))
 have g3:=f.blk h.eG (nv h.eG (by decide))
 have f3:aj (fun k=>k=b3) W2 (W2.setCell ⟨b3,1,none⟩ v'):=aj.setCell (S:=fun k=>k=b3) W2 (p:=⟨b3,1,none⟩) (.inl rfl) _
 have e3:=eP g3 1 v'
 have hz:=f.size
 generalize W2.setCell ⟨b3,1,none⟩ v'=W3 at*
 have hcx:∀k,cv.ownBlock=some k→¬bY v k∧k≠b3:=fun k hk=>by
  obtain⟨cur,h2⟩:=iY h.ctx hk
  exact⟨nv h2 (by decide),fU h2 h.eG (by decide)⟩
 have hvn:∀k,v'.ownBlock=some k→k≠b3:=fun k hk=>by
  obtain⟨cur,h2⟩:=iY own hk
  exact fU h2 g3 (by decide)
 have hn2:=h.GU
 have ft:∀k,k<W.heap.size→(w.heap.size<k∧k≠b3∧v.ownBlock≠some k)→W3.heap[k]?=W.heap[k]?∧(w.heap.size<k∧k≠b3∧v'.ownBlock≠some k):=fun k hk hq=>
  ⟨(f3.block k (by omega) hq.2.1).trans (f.block k hk hq.2.2),hq.1,hq.2.1,fun e=>by
    rcases fr k e with s|s
    ·exact hq.2.2 s
    ·omega⟩
 refine⟨g3,⟨?_,h.GU,f3.blk g2 (by omega),e3,?_,h.cn,?_,fun k hk=>?_,fun q hq=>?_⟩⟩
 ·exact(h.aI.trans f fun k hk s=>by have:=h.rn k s;omega).trans f3 fun k hk e=>by omega
 ·exact f3.owns (f.owns h.ctx fun k hk=>(hcx k hk).1) fun k hk=>(hcx k hk).2
 ·rw[List.length_append,List.flatMap_append]
  exact f3.owns own fun k hk=>hvn k hk
 ·rcases fr k hk with s|s
  ·exact h.rn k s
  ·have:=h.aI.size;omega
 ·rcases List.mem_append.1 hq with hq|hq
  ·exact⟨(h.each q hq).1,(h.each q hq).2.turn ft⟩
  ·exact⟨(hk q hq).1,(hk q hq).2.turn ft⟩
def WE (w:World) (vis:List dO) (c:aU) (e:Ending) (w':World):Prop:=
 ∃kv cv ks',e= .returned (.agg #[.slice none 0 0,kv,cv])∧bg (fun b=>w.heap.size≤b) w' (.slice none 0 0) kv [] ks'∧OwnAt w w' 92 3 cv c.length (cO c)∧(eU ks').Perm (vis.flatMap fun x=>eU x.1)∧(eU ks').Pairwise fun x y=>bQ y.1 x.1=false
def k3 (q:aY):xG:=(q.key,q.es,q.sub)
theorem WG {vs:List bD} {j:Nat} (h:j<vs.length):((vs.take (j+1)).flatMap fun q=>eU q.ks)=((vs.take j).flatMap fun q=>eU q.ks)++eU (vs.getD j default).ks:=by
 rw[take_succ default h,List.flatMap_append]
 simp
section
variable {L:Nat→Prop} {w:World} {b n vb:Nat} {sv:Value} {vs:List bD} {rs:List aW}
theorem WH (x y z:Value) (w:World):(Instr.field 32 (.agg #[x,y,z]) 0).run Tryz.prog w= .ok (.agg #[x,y]) w:=by kernel_rfl
theorem WI (x:Value) (a:Option Addr) (m c:Nat) (w:World):(Instr.field 28 (.agg #[x, .slice a m c]) 1).run Tryz.prog w= .ok (.slice a m c) w:=by kernel_rfl
theorem WJ {w:World}:w.ownsRow 0 52 3 (.slice none 0 0) 0 []:=World.ownsRow_nil w 0 _ _
theorem WL (h:dY L w b n vb sv vs rs):
 Calls Tryz.prog 20 #[.pointer (some ⟨b,0,none⟩)] w fun e w'=>WE w (vs.map bD.g) (vs.getD 0 default).c e w':=by
 obtain⟨i0,hi0,hz0,hz1,hz2⟩:=info_parts uN
 have hn1:=h.n1
 have hn4:=h.n4
 have hvl:=h.vis.len
 have h0:0<vs.length:=by omega
 have HST:=ah h
 obtain⟨e1,hq1,hg1⟩:=h.vis.each _ (getD_mem default h0)
 have v2:=(zI h0).2.2
 have qF:=ah (fun W (f:aj au w W)=>Eb W _ (vs.getD 0 default).c (hq1.aN f).ctx.rd (Nat.le_trans hg1.ok.len (by decide)))
 obtain⟨a2,c2,hc2⟩:=hq1.ctx.rd.sl
 rw[hc2]at v2 qF
 have y1:w.cell? ⟨vb,2,none⟩=some (.slice a2 (vs.getD 0 default).c.length c2):=aJ h.vis.blk 2 (by simpa using v2)
 have y0:=h.nN
 have hb0:=World.block_lt_of_cell? _ _ y0
 have hb1:=World.block_lt_of_cell? _ _ y1
 have HB0:=ah (heap_alloc_new w (.cells #[.slice none 0 0, .slice none 0 0, .slice none 0 0] 32))
 have hni:(0:Int)<(n:Int):=by omega
 have hft:=WH
 have hfk:=WI
 clear h h0 e1 hq1 hg1 v2 hc2
 generalize (vs.getD 0 default).c=c at*
 go_enter Tryz.func20,Tryz.ntmps20
 go_upto_region 4 with(go_at_call 46;refine(qF.out _ (aj.alloc _ _ _)).mono ?_;rintro e W1 ⟨cv,rfl,ho⟩;obtain⟨a3,c3,rfl⟩:=ho.shape;have HO:=ah ho;clear ho)
 have kU:tY w (W1.alloc (.cells #[.slice none 0 0, .slice none 0 0, .slice a3 c.length c3] 32)) W1.heap.size (.slice none 0 0) (.slice a3 c.length c3) [] c:=by
  have f0:=aj.alloc au w (.cells #[.slice none 0 0, .slice none 0 0, .slice none 0 0] 32)
  have f1:=HO.out.aI
  have f2:=aj.alloc au W1 (.cells #[.slice none 0 0, .slice none 0 0, .slice a3 c.length c3] 32)
  have hb:=f1.blk HB0.out id
  refine⟨(f0.aG f1).aG f2,lt_of_block hb,f2.blk hb id,heap_alloc_new _ _,f2.owns HO.out.own (fun _ _ h=>h),fun k hk=>?_,WJ,fun k hk=>by simp[Value.ownBlock]at hk,fun q hq=>by cases hq⟩
  have:=HO.out.new k hk
  have:=f0.size
  omega
 obtain⟨b3,hb3⟩:∃b3,b3=W1.heap.size:=⟨_,rfl⟩
 rw[←hb3]at kU⊢
 generalize W1.alloc (.cells #[.slice none 0 0, .slice none 0 0, .slice a3 c.length c3] 32)=W2 at*
 clear y0 y1 hb0 hb1 hb3
 have WM:=ah kU
 have y0:=(HST.out.aN kU.aI).nN
 have hb0:=World.block_lt_of_cell? _ _ y0
 clear kU
 go_wp2
 go_loopw [23] (fun iv W=>∃(j:Nat) (v:Value) (l:List aY),j≤n∧iv= .int .i64 j∧tY w W b3 v (.slice a3 c.length c3) l c∧l.length≤j*2000∧l.map k3=(vs.take j).flatMap fun q=>eU q.ks) (fun iv _=>n-(intOf iv).toNat)
 case atStart=>exact⟨0,_,[],Nat.zero_le _,rfl,WM.out,Nat.zero_le _,by simp⟩
 case round=>
  obtain⟨j,v,l,hj,rfl,kU,hll,hlk⟩:=hrel
  clear y0 hb0
  have mQ:=ah kU
  have jI:=ah hlk
  obtain⟨av,nR,rfl⟩:=(Rd.own kU.row).sl
  clear hlk
  by_cases hlt:j<n
  ·have hjl:j<vs.length:=by omega
   have qM:=ah (HST.out.aN kU.aI).vis
   obtain⟨p0,p1,p2⟩:=zI hjl
   obtain⟨e2,hq2,hg2⟩:=qM.out.each _ (getD_mem default hjl)
   have WO:=ah (WG hjl)
   generalize rV:vs.getD j default=qb at*
   clear rV
   obtain⟨es',ks',cc',ev',kv',i_⟩:=qb
   have e2:es'=[]:=e2
   subst e2
   have hb:∀W,aj au wr W→fP (fun k=>¬L k) W ev' kv' i_ [] ks' cc':=fun W f=>(hq2.aN f).at_
   have hg2:Good (ks',cc'):=hg2
   obtain⟨d0,k0,d1,k1,d2,k2,rfl,rfl,rfl⟩:=(hb wr (aj.refl _ _)).shape
   have qH:=ah (fun W (f:aj au wr W)=>Ku _ [] ks' cc' W _ _ _ (hb W f) hg2.ok hg2.right)
   have hkl:ks'.len≤2000:=by have:=kG ks';have h9:sizeT [] ks'≤2000:=hg2.ok.small;unfold sizeT at h9;simp at h9;omega
   have fK:=ah hkl
   have z4:=aJ qM.out.blk (j*3) p0
   have z5:=aJ qM.out.blk (j*3+1) p1
   have z6:=aJ qM.out.blk (j*3+2) p2
   have hl4:=World.block_lt_of_cell? _ _ z4
   have hjn:(j:Int)<(n:Int):=by omega
   clear p0 p1 p2 hq2 hg2 hb hkl
   have iI:=ah (fun Y Y' (f:aj au Y Y') (hS:Y.cell? ⟨b3,1,none⟩=some (.slice av l.length nR)∧Y.cell? ⟨wr.heap.size,0,none⟩=some (.slice d0 0 k0)∧Y.cell? ⟨wr.heap.size,1,none⟩=some (.slice d1 ks'.len k1)∧Y.cell? ⟨wr.heap.size,2,none⟩=some (.slice d2 cc'.length k2))=>
    (⟨f.cell' hS.1 id,f.cell' hS.2.1 id,f.cell' hS.2.2.1 id,f.cell' hS.2.2.2 id⟩:Y'.cell? ⟨b3,1,none⟩=some (.slice av l.length nR)∧Y'.cell? ⟨wr.heap.size,0,none⟩=some (.slice d0 0 k0)∧Y'.cell? ⟨wr.heap.size,1,none⟩=some (.slice d1 ks'.len k1)∧Y'.cell? ⟨wr.heap.size,2,none⟩=some (.slice d2 cc'.length k2)))
   have fa:=aj.alloc au wr (.cells #[.slice d0 0 k0, .slice d1 ks'.len k1, .slice d2 cc'.length k2] 32)
   have ba:=heap_alloc_new wr (.cells #[.slice d0 0 k0, .slice d1 ks'.len k1, .slice d2 cc'.length k2] 32)
   have jO:=iI.out _ _ (aj.drew au _) ⟨fa.cell' (aJ kU.eG 1 rfl) id,aJ ba 0 rfl,aJ ba 1 rfl,aJ ba 2 rfl⟩
   have jU:=ah (fa.aG (aj.drew au _))
   clear fa ba kU
   go_upto_region 7 with fail
   clear z4 z5 z6 hl4
   refine iZ (S:=fun Y=>Y.cell? ⟨b3,1,none⟩=some (.slice av l.length nR)∧Y.cell? ⟨wr.heap.size,0,none⟩=some (.slice d0 0 k0)∧Y.cell? ⟨wr.heap.size,1,none⟩=some (.slice d1 ks'.len k1)∧Y.cell? ⟨wr.heap.size,2,none⟩=some (.slice d2 cc'.length k2)) 10 (by kernel_rfl) jO ?_
   clear jO
   intro hS
   generalize World.drew _=Y0 at*
   refine iy 0 27 rfl rfl (v:=?_) (.inl ⟨by rfl,?_⟩) ?_
   rotate_left 1
   ·(intro w hSw;(try dsimp only at hSw);go_simp;(try with_reducible rfl))
   refine iy 1 28 rfl rfl (v:=?_) (.inl ⟨by rfl,?_⟩) ?_
   rotate_left 1
   ·(intro w hSw;(try dsimp only at hSw);go_simp;(try with_reducible rfl))
   try simp only[Act.put,aP,aQ,aO]
   refine iy 2 29 rfl rfl (v:=?_) (.inl ⟨by rfl,?_⟩) ?_
   rotate_left 1
   ·(intro w hSw;(try dsimp only at hSw);go_simp;(try with_reducible rfl))
   refine iy 3 30 rfl rfl (v:=?_) (.inl ⟨by rfl,?_⟩) ?_
   rotate_left 1
   ·(intro w hSw;(try dsimp only at hSw);go_simp;(try with_reducible rfl))
   try simp only[Act.put,aP,aQ,aO]
   refine bK (i:=4) (by kernel_rfl) rfl (fun K hK=>?_)
   go_simp
   refine(qH.out _ jU.out).mono ?_
   rintro e Y1 ⟨oU,jB,oD,rfl,hta,ho3⟩
   obtain⟨a4,c4,rfl⟩:=hta.ents.rd.sl
   obtain⟨lk,hmk,hrk,Nc⟩:=WA hta
   have hlen:lk.length=ks'.len:=by rw[←hmk,oQ]
   rw[hlen]at hrk
   obtain⟨a5,c5,rfl⟩:=hrk.sl
   obtain⟨a6,c6,rfl⟩:=ho3.shape
   have uD:=ah hrk
   have qA:=ah Nc
   have xM:=ah hlen
   have wz:=ah hmk
   have Nh:=ah (mQ.out.aN (jU.out.aG ho3.aI))
   have hS1:=iI.out _ _ ho3.aI hS
   refine hK.out _ _ hS1 ?_
   clear hK K hS hta ho3 hrk Nc hlen hmk
   have hS:=hS1
   clear hS1
   try simp only[Act.put,aP,aQ,aO]
   refine iy 5 32 rfl rfl (v:=?_) (.inl ⟨by rfl,?_⟩) ?_
   rotate_left 1
   ·(intro w hSw;(try dsimp only at hSw);go_simp;(try with_reducible rfl))
   refine iy 6 33 rfl rfl (v:=?_) (.inl ⟨by rfl,?_⟩) ?_
   rotate_left 1
   ·(intro w hSw;(try dsimp only at hSw);go_simp;(try with_reducible rfl))
   try simp only[Act.put,aP,aQ,aO]
   refine bK (i:=7) (by kernel_rfl) rfl (fun K hK=>?_)
   have h1c:∀u∈lk.flatMap aY.cells,u.oneCell'=true:=RJ fun q hq=>by
    obtain⟨⟨a,m,d,e1⟩,a',m',d',e2⟩:=(qA.out q hq).1
    rw[e1,e2]
    exact⟨rfl,rfl⟩
   refine WC Y1 (lk.flatMap aY.cells) rfl (.tmp 29) (.tmp 33) 26 rfl 52 i0 _ 3 64 Tryz.underlying26 hi0 hz0 hz1 hz2 (by decide) (by decide) (.slice av l.length nR) l.length _ Nh.out.row (.slice a5 ks'.len c5) ks'.len (by simp[Act.eval]) (by simp[Act.eval]) uD.out (by rw[EF,xM.out]) h1c (by have:=fK.out;simp only[maxLen];omega) (by have:=fK.out;omega) ?_
   intro ad cc w2 bn jP nS
   have hadd:=Nh.out.add (lk:=lk) jP nS (by rw[xM.out];exact bn) fun q hq=>⟨(qA.out q hq).1,(qA.out q hq).2.turn fun k hk hQ=>⟨rfl,by
    have h1:=jU.out.size
    have h2:=lt_of_block mQ.out.eG
    have h3:=lt_of_block mQ.out.jV
    refine⟨by omega,by omega,fun e=>?_⟩
    obtain⟨cur,h4⟩:=iY mQ.out.row e
    have:=lt_of_block h4
    omega⟩⟩
   have HAD:=ah hadd
   have hS1:w2.cell? ⟨b3,1,none⟩=some (.slice av l.length nR)∧w2.cell? ⟨wr.heap.size,0,none⟩=some (.slice d0 0 k0)∧w2.cell? ⟨wr.heap.size,1,none⟩=some (.slice d1 ks'.len k1)∧w2.cell? ⟨wr.heap.size,2,none⟩=some (.slice d2 cc'.length k2):=by
    have nb:¬bY (.slice av l.length nR) wr.heap.size:=fun s=>by
     obtain⟨cur,h4⟩:=iY mQ.out.row s
     have:=lt_of_block h4
     omega
    exact⟨aJ hadd.1 1 rfl,jP.cell' hS.2.1 nb,jP.cell' hS.2.2.1 nb,jP.cell' hS.2.2.2 nb⟩
   refine hK.out _ _ hS1 ?_
   clear hK K hS bn jP nS hadd h1c
   have hS:=hS1
   clear hS1
   try simp only[Act.put,aP,aQ,aO]
   refine bK (i:=8) (by kernel_rfl) rfl (fun K hK=>?_)
   go_simp
   refine hK.out _ _ hS ?_
   clear hK K
   try simp only[Act.put,aP,aQ,aO]
   refine iy 9 36 rfl rfl (v:=?_) (.inl ⟨by rfl,?_⟩) ?_
   rotate_left 1
   ·(intro w hSw;(try dsimp only at hSw);go_simp;(try with_reducible rfl))
   try simp only[Act.put,aP,aQ,aO]
   refine gQ (by kernel_rfl) (by kernel_rfl) rfl (fun K hK=>?_)
   have q1:=hS.1
   have g1:=bG HAD.out.1 1
   have gl:=lt_of_block HAD.out.1
   go_simp
   refine hK.out _ _ ?_
   clear hK K hS q1 g1 gl
   go_wp2
   go_roundw
   case rel=>
    refine⟨j+1,_,l++lk,by omega,by go_num,HAD.out.2,?_,?_⟩
    ·have:=xM.out
     have:=fK.out
     rw[List.length_append]
     omega
    ·rw[WO.out,List.map_append,jI.out,←wz.out,zD]
     rfl
   case measure=>simp[intOf];omega
  ·obtain rfl:j=n:=by omega
   have hks:=VU w wr (.slice av l.length nR) l.length l ⟨kU.row,kU.rn,kU.aI⟩ rfl (by omega) fun q hq=>(kU.each q hq).1
   have iI:=ah hks
   have y1:=aJ kU.eG 1 rfl
   have hb1:=lt_of_block kU.eG
   clear kU hks
   go_upto_region 10 with(go_at_call 47;refine iI.out.mono ?_;rintro e w3 ⟨rfl,l',hpm,hso,hown,hfr⟩;have zJ:=ah hpm;have WQ:=ah hso;have HOW:=ah hown;have gV:=ah hfr;clear hpm hso hown hfr)
   clear y1 hb1
   have nv:∀ {k o t},wr.heap[k]?=some (.cells o t (0,0))→t≠52→¬bY (.slice av l.length nR) k:=fun hk ht s=>by
    obtain⟨cur,h2⟩:=iY mQ.out.row s
    exact fU hk h2 ht rfl
   have hb3:=gV.out.blk mQ.out.eG (nv mQ.out.eG (by decide))
   have hb2:=gV.out.blk mQ.out.jV (nv mQ.out.jV (by decide))
   have y0:=aJ hb3 0 rfl
   have y1:=aJ hb3 1 rfl
   have y2:=aJ hb3 2 rfl
   have x0:=aJ hb2 0 rfl
   have x1:=aJ hb2 1 rfl
   have x2:=aJ hb2 2 rfl
   have g0:=bG hb2 0
   have g1:=bG hb2 1
   have g2:=bG hb2 2
   have hl3:=lt_of_block hb3
   have hl2:=lt_of_block hb2
   have r2:=eP (eP (eP hb2 0 (.slice none 0 0)) 1 (.slice av l.length nR)) 2 (.slice a3 c.length c3)
   have f4:=((aj.setCell (S:=fun x=>x=w.heap.size) w3 (p:=⟨w.heap.size,0,none⟩) (.inl rfl) (.slice none 0 0)).trans (aj.setCell (S:=fun x=>x=w.heap.size) _ (p:=⟨w.heap.size,1,none⟩) (.inl rfl) (.slice av l.length nR)) fun _ _ h=>h).trans (aj.setCell (S:=fun x=>x=w.heap.size) _ (p:=⟨w.heap.size,2,none⟩) (.inl rfl) (.slice a3 c.length c3)) fun _ _ h=>h
   have HR2:=ah r2
   have lG:=ah f4
   have HB2:=ah hb2
   clear r2 f4 hb3 hb2
   go_wp2
   clear y0 y1 y2 x0 x1 x2 g0 g1 g2
   have z0:=aJ HR2.out 0 rfl
   have z1:=aJ HR2.out 1 rfl
   have z2:=aJ HR2.out 2 rfl
   refine bodyPost_ret (v:= .agg #[.slice none 0 0, .slice av l.length nR, .slice a3 c.length c3]) (by simp[results,Tryz.results20,go_sem,z0,z1,z2]) rfl ⟨_,_,mkK l',rfl,?_,?_,?_,?_⟩
   ·have hvn:∀k,(Value.slice av l.length nR).ownBlock=some k→k≠w.heap.size:=fun k hk=>by
     obtain⟨cur,h2⟩:=iY HOW.out.own hk
     exact fU h2 HB2.out (by decide)
    have hrd:=Rd.keep HOW.out.rd lG.out hvn
    refine⟨⟨.inl ⟨none,rfl,rfl,rfl⟩,fun h=>absurd rfl h⟩,oP l',⟨?_,fun _ k hk=>HOW.out.new k hk⟩,wQ fun q hq=>?_⟩
    ·rw[uM,oQ,zJ.out.length_eq]
     exact hrd
    ·have hq2:=(mQ.out.each q (zJ.out.mem_iff.1 hq)).2
     exact hq2.turn fun k hk hQ=>⟨(lG.out.block k (by have:=gV.out.size;omega) (by omega)).trans (gV.out.block k hk hQ.2.2),by omega⟩
   ·have hcx:∀k,(Value.slice a3 c.length c3).ownBlock=some k→¬bY (.slice av l.length nR) k:=fun k hk=>by
     obtain⟨cur,h2⟩:=iY mQ.out.ctx hk
     exact nv h2 (by decide)
    have ho3:=gV.out.owns mQ.out.ctx hcx
    refine⟨lG.out.owns ho3 fun k hk=>?_,mQ.out.cn,HOW.out.aI.trans lG.out fun k hk e=>by omega⟩
    obtain⟨cur,h2⟩:=iY ho3 hk
    exact fU h2 HB2.out (by decide)
   ·rw[zD]
    refine(zJ.out.map k3).trans ?_
    rw[jI.out,List.take_of_length_le (by omega),List.flatMap_map]
    exact List.Perm.refl _
   ·rw[zD]
    exact List.pairwise_map.2 WQ.out
end
open Go.RowKit
theorem WR (w:World) (va vb:Value) (a b:aU) (ha:eY w va a) (hb:eY w vb b) (ra:bZ a) (rb:bZ b) (la:a.length≤20000) (lb:b.length≤20000):
 Calls Tryz.prog 73 #[va,vb] w fun e w'=>e= .returned (.bool (tf (a=b)))∧aj au w w':=by
 obtain⟨aA,cA,rfl⟩:=ha.sl
 obtain⟨aB,cB,rfl⟩:=hb.sl
 have uK:=ah (dD ra▸A_ w _ a ha ra.fits (by omega))
 have wO:=ah (fun W (f:aj au w W)=>dD rb▸A_ W _ b (Rd.aN hb f) rb.fits (by omega))
 have tC:=ah (fun W (f:aj au w W)=>Tz W _ _ a b (Rd.aN ha f) (Rd.aN hb f) (by omega) (by omega))
 have hde:decide (a=b)=tf (a=b):=vU (by rw[decide_eq_true_iff])
 rw[hde]at tC
 clear ha hb ra rb la lb hde
 generalize tf (a=b)=y at*
 generalize a.length=n at*
 generalize b.length=m at*
 go_enter Tryz.func73,Tryz.ntmps73
 go_wp2_with(first
  |(go_at_call_of 92 aA;refine uK.out.mono ?_;rintro e w1 ⟨rfl,hw1⟩;have HW1:=ah hw1;clear hw1)
  |(go_at_call_of 92 aB;refine(wO.out _ HW1.out).mono ?_;rintro e w2 ⟨rfl,hw2⟩;have HW2:=ah (HW1.out.aG hw2);clear hw2)
  |(go_at_call 96;refine(tC.out _ HW2.out).mono ?_;rintro e w3 ⟨rfl,hw3⟩;have HW3:=ah (HW2.out.aG hw3);clear hw3))
 go_ret
 exact⟨rfl,HW3.out⟩
theorem WS (Q Q':Nat→Prop) (es:List aF) (ks:aH) (es':List aF) (ks':aH) (w:World) (ev kv ev' kv':Value) (ht:bg Q w ev kv es ks) (hok:iQ es ks) (hr:aX 5 es ks=true) (hs:sizeT es ks≤4000)
 (ht':bg Q' w ev' kv' es' ks') (hok':iQ es' ks') (hr':aX 5 es' ks'=true) (hs':sizeT es' ks'≤4000):
 Calls Tryz.prog 72 #[.agg #[ev,kv], .agg #[ev',kv']] w fun e w'=>e= .returned (.bool (tf (es=es'∧ks=ks')))∧aj au w w':=by
 have HA:=ah (fun W (f:aj au w W)=>hr▸yS Q es ks W _ _ (ht.aN f) hok)
 have HB:=ah (fun W (f:aj au w W)=>hr'▸yS Q' es' ks' W _ _ (ht'.aN f) hok')
 have HS:=ah (fun W (f:aj au w W)=>TI Q Q' _ es ks es' ks' W _ _ _ _ (Nat.lt_succ_self _) (ht.aN f) (ht'.aN f) (by omega) (by omega))
 obtain⟨ae,ce,rfl⟩:=ht.ents.rd.sl
 obtain⟨os,hkr,-⟩:=ht.kids
 obtain⟨ak,ck,rfl⟩:=hkr.rd.sl
 obtain⟨dI,dJ,rfl⟩:=ht'.ents.rd.sl
 obtain⟨os',fB,-⟩:=ht'.kids
 obtain⟨dK,dL,rfl⟩:=fB.rd.sl
 clear hkr fB ht ht' hok hok' hr hr' hs hs'
 generalize tf (es=es'∧ks=ks')=y at*
 generalize es.length=n at*
 generalize ks.len=m at*
 generalize es'.length=n' at*
 generalize ks'.len=m' at*
 have bf:=ah ((aj.alloc au w (.cells #[.slice ae n ce, .slice ak m ck] 28)).alloc1 (o:= .cells #[.slice dI n' dJ, .slice dK m' dL] 28))
 have bF:=ah (Fe w (.slice ae n ce) (.slice ak m ck) (.slice dI n' dJ) (.slice dK m' dL) 28)
 go_enter Tryz.func72,Tryz.ntmps72
 go_wp2_with(first
  |(go_at_call 95;refine(HS.out _ (bf.out.aG HW2.out)).mono ?_;rintro e w3 ⟨rfl,hw3⟩;have HW3:=ah ((bf.out.aG HW2.out).aG hw3);clear hw3)
  |(go_at_call 89;first
   |(refine(HB.out _ (bf.out.aG HW1.out)).mono ?_;rintro e w2 ⟨rfl,hw2⟩;clear y0 y1 y2 y3;obtain⟨y0,y1,y2,y3⟩:=bF.out w2 (HW1.out.aG hw2);have HW2:=ah (HW1.out.aG hw2);clear hw2)
   |(refine(HA.out _ bf.out).mono ?_;rintro e w1 ⟨rfl,hw1⟩;obtain⟨y0,y1,y2,y3⟩:=bF.out w1 hw1;have HW1:=ah hw1;clear hw1)))
 go_ret
 exact⟨rfl,HW3.out⟩
theorem WT (Q Q':Nat→Prop) (es:List aF) (ks:aH) (c:aU) (es':List aF) (ks':aH) (c':aU) (w:World) (ev kv cv ev' kv' i_:Value) (h:fP Q w ev kv cv es ks c) (hok:jW es ks c) (h':fP Q' w ev' kv' i_ es' ks' c') (hok':jW es' ks' c'):
 Calls Tryz.prog 43 #[.agg #[ev,kv,cv], .agg #[ev',kv',i_]] w fun e w'=>e= .returned (.bool (tf (f_ es ks c∧f_ es' ks' c'∧(es=es'∧ks=ks')∧c=c')))∧aj au w w':=by
 obtain⟨a0,c0,a1,c1,a2,c2,rfl,rfl,rfl⟩:=h.shape
 obtain⟨b0,d0,b1,d1,b2,d2,rfl,rfl,rfl⟩:=h'.shape
 have HA:=ah (fun W (f:aj au w W)=>sW Q es ks c W _ _ _ (h.aN f) hok)
 have HB:=ah (fun W (f:aj au w W)=>sW Q' es' ks' c' W _ _ _ (h'.aN f) hok')
 have HT:=ah (fun W (f:aj au w W) r r'=>WS Q Q' es ks es' ks' W _ _ _ _ (h.tree.aN f) hok.tree r (Nat.le_trans hok.small (by decide)) (h'.tree.aN f) hok'.tree r' (Nat.le_trans hok'.small (by decide)))
 have HC:=ah (fun W (f:aj au w W) r r'=>WR W _ _ c c' (Rd.aN h.ctx f) (Rd.aN h'.ctx f) r r' (Nat.le_trans hok.len (by decide)) (Nat.le_trans hok'.len (by decide)))
 clear h hok h' hok'
 by_cases r1:f_ es ks c
 rotate_left 1
 ·rw[bW r1]at HA
  rw[bW fun h=>r1 h.1]
  clear r1 HB HT HC
  generalize es.length=n at*
  generalize ks.len=m at*
  generalize c.length=k at*
  generalize es'.length=n' at*
  generalize ks'.len=m' at*
  generalize c'.length=k' at*
  have bf:=ah ((aj.alloc au w (.cells #[.slice a0 n c0, .slice a1 m c1, .slice a2 k c2] 32)).alloc1 (o:= .cells #[.slice b0 n' d0, .slice b1 m' d1, .slice b2 k' d2] 32))
  have bF:=ah (w_ w (.slice a0 n c0) (.slice a1 m c1) (.slice a2 k c2) (.slice b0 n' d0) (.slice b1 m' d1) (.slice b2 k' d2) 32)
  go_enter Tryz.func43,Tryz.ntmps43
  go_wp2_with(first
   |(go_at_call 40;refine(HA.out _ bf.out).mono ?_;rintro e w1 ⟨rfl,hw1⟩;obtain⟨y0,y1,y2,y3,y4,y5⟩:=bF.out w1 hw1;have HW1:=ah hw1;clear hw1))
  go_ret
  exact⟨rfl,bf.out.aG HW1.out⟩
 by_cases r2:f_ es' ks' c'
 rotate_left 1
 ·rw[dD r1]at HA
  rw[bW r2]at HB
  rw[bW fun h=>r2 h.2.1]
  clear r1 r2 HT HC
  generalize es.length=n at*
  generalize ks.len=m at*
  generalize c.length=k at*
  generalize es'.length=n' at*
  generalize ks'.len=m' at*
  generalize c'.length=k' at*
  have bf:=ah ((aj.alloc au w (.cells #[.slice a0 n c0, .slice a1 m c1, .slice a2 k c2] 32)).alloc1 (o:= .cells #[.slice b0 n' d0, .slice b1 m' d1, .slice b2 k' d2] 32))
  have bF:=ah (w_ w (.slice a0 n c0) (.slice a1 m c1) (.slice a2 k c2) (.slice b0 n' d0) (.slice b1 m' d1) (.slice b2 k' d2) 32)
  go_enter Tryz.func43,Tryz.ntmps43
  go_wp2_with(first
   |(go_at_call 40;first|(refine(HB.out _ (bf.out.aG HW1.out)).mono ?_;rintro e w2 ⟨rfl,hw2⟩;clear y0 y1 y2 y3 y4 y5;obtain⟨y0,y1,y2,y3,y4,y5⟩:=bF.out w2 (HW1.out.aG hw2);have HW2:=ah (HW1.out.aG hw2);clear hw2)|(refine(HA.out _ bf.out).mono ?_;rintro e w1 ⟨rfl,hw1⟩;obtain⟨y0,y1,y2,y3,y4,y5⟩:=bF.out w1 hw1;have HW1:=ah hw1;clear hw1)))
  go_ret
  exact⟨rfl,bf.out.aG HW2.out⟩
 rw[dD r1]at HA
 rw[dD r2]at HB
 have HT:=ah (fun W f=>HT.out W f r1.tree r2.tree)
 have HC:=ah (fun W f=>HC.out W f r1.ctx r2.ctx)
 by_cases r3:es=es'∧ks=ks'
 rotate_left 1
 ·rw[bW r3]at HT
  rw[bW fun h=>r3 h.2.2.1]
  clear r1 r2 r3 HC
  generalize es.length=n at*
  generalize ks.len=m at*
  generalize c.length=k at*
  generalize es'.length=n' at*
  generalize ks'.len=m' at*
  generalize c'.length=k' at*
  have bf:=ah ((aj.alloc au w (.cells #[.slice a0 n c0, .slice a1 m c1, .slice a2 k c2] 32)).alloc1 (o:= .cells #[.slice b0 n' d0, .slice b1 m' d1, .slice b2 k' d2] 32))
  have bF:=ah (w_ w (.slice a0 n c0) (.slice a1 m c1) (.slice a2 k c2) (.slice b0 n' d0) (.slice b1 m' d1) (.slice b2 k' d2) 32)
  go_enter Tryz.func43,Tryz.ntmps43
  go_wp2_with(first
   |(go_at_call 40;first|(refine(HB.out _ (bf.out.aG HW1.out)).mono ?_;rintro e w2 ⟨rfl,hw2⟩;clear y0 y1 y2 y3 y4 y5;obtain⟨y0,y1,y2,y3,y4,y5⟩:=bF.out w2 (HW1.out.aG hw2);have HW2:=ah (HW1.out.aG hw2);clear hw2)|(refine(HA.out _ bf.out).mono ?_;rintro e w1 ⟨rfl,hw1⟩;obtain⟨y0,y1,y2,y3,y4,y5⟩:=bF.out w1 hw1;have HW1:=ah hw1;clear hw1))
   |(go_at_call 72;refine(HT.out _ (bf.out.aG HW2.out)).mono ?_;rintro e w3 ⟨rfl,hw3⟩;clear y0 y1 y2 y3 y4 y5;obtain⟨y0,y1,y2,y3,y4,y5⟩:=bF.out w3 (HW2.out.aG hw3);have HW3:=ah (HW2.out.aG hw3);clear hw3))
  go_ret
  exact⟨rfl,bf.out.aG HW3.out⟩
 rw[dD r3]at HT
 have hall:tf (f_ es ks c∧f_ es' ks' c'∧(es=es'∧ks=ks')∧c=c')=tf (c=c'):=vT ⟨fun h=>h.2.2.2,fun h=>⟨r1,r2,r3,h⟩⟩
 rw[hall]
 clear hall r1 r2 r3
 generalize tf (c=c')=y at*
 generalize es.length=n at*
 generalize ks.len=m at*
 generalize c.length=k at*
 generalize es'.length=n' at*
 generalize ks'.len=m' at*
 generalize c'.length=k' at*
 have bf:=ah ((aj.alloc au w (.cells #[.slice a0 n c0, .slice a1 m c1, .slice a2 k c2] 32)).alloc1 (o:= .cells #[.slice b0 n' d0, .slice b1 m' d1, .slice b2 k' d2] 32))
 have bF:=ah (w_ w (.slice a0 n c0) (.slice a1 m c1) (.slice a2 k c2) (.slice b0 n' d0) (.slice b1 m' d1) (.slice b2 k' d2) 32)
 go_enter Tryz.func43,Tryz.ntmps43
 go_wp2_with(first
  |(go_at_call 40;first|(refine(HB.out _ (bf.out.aG HW1.out)).mono ?_;rintro e w2 ⟨rfl,hw2⟩;clear y0 y1 y2 y3 y4 y5;obtain⟨y0,y1,y2,y3,y4,y5⟩:=bF.out w2 (HW1.out.aG hw2);have HW2:=ah (HW1.out.aG hw2);clear hw2)|(refine(HA.out _ bf.out).mono ?_;rintro e w1 ⟨rfl,hw1⟩;obtain⟨y0,y1,y2,y3,y4,y5⟩:=bF.out w1 hw1;have HW1:=ah hw1;clear hw1))
  |(go_at_call 72;refine(HT.out _ (bf.out.aG HW2.out)).mono ?_;rintro e w3 ⟨rfl,hw3⟩;clear y0 y1 y2 y3 y4 y5;obtain⟨y0,y1,y2,y3,y4,y5⟩:=bF.out w3 (HW2.out.aG hw3);have HW3:=ah (HW2.out.aG hw3);clear hw3)
  |(go_at_call 73;refine(HC.out _ (bf.out.aG HW3.out)).mono ?_;rintro e w4 ⟨rfl,hw4⟩;have WU:=ah (HW3.out.aG hw4);clear hw4))
 go_ret
 exact⟨rfl,bf.out.aG WU.out⟩
end Go.Proofs.YtlhmbkjdfjoilaaGreat
