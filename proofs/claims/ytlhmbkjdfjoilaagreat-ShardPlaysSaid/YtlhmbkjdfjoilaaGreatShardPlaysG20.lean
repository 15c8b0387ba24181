/- Words for the law ShardPlays: Sh17, Lv5, Lv6. -/
import Derived.Test.YtlhmbkjdfjoilaaGreatShardPlaysG0
import Derived.Test.YtlhmbkjdfjoilaaGreatShardPlaysG6
import Derived.Test.YtlhmbkjdfjoilaaGreatShardPlaysG10
import Derived.Test.YtlhmbkjdfjoilaaGreatShardPlaysG11
import Derived.Test.YtlhmbkjdfjoilaaGreatShardPlaysG15
import Derived.Test.YtlhmbkjdfjoilaaGreatShardPlaysG18
import Derived.Test.YtlhmbkjdfjoilaaGreatShardPlaysG19
set_option linter.unusedSimpArgs false
set_option linter.unusedVariables false
set_option maxHeartbeats 32000000
set_option maxRecDepth 1000000
namespace Go.Proofs.YtlhmbkjdfjoilaaGreat
open Go.RowKit
theorem Xt {Q:Nat→Prop} {w:World}:∀ {ks:aT} {os:List (Value×Value)},jX Q w ks os→∃l:List dh,mkK l=ks∧vX l=os∧∀q∈l,q.shaped∧bZ Q w q.ev q.kv q.es q.sub
 | .nil,os,h=>⟨[],rfl,(show os=[]from h).symm,fun _ hq=>by cases hq⟩
 | .cons key es sub rest,os,h=>by
   obtain⟨ev,kv,qH,os',he,h1,h2,h3,h4⟩:=h
   obtain⟨l,e1,e2,e3⟩:=Xt h4
   obtain⟨a0,c0,g0⟩:=h1.rd.sl
   obtain⟨a1,c1,g1⟩:=h2.rd.sl
   refine⟨⟨key,es,sub,ev,kv⟩::l,?_,?_,fun q hq=>?_⟩
   ·show aT.cons key es sub (mkK l)=_;rw[e1]
   ·show(ev,kv)::vX l=_;rw[e2,he]
   ·rcases List.mem_cons.1 hq with rfl|hq
    ·exact⟨⟨⟨_,_,_,g0⟩,_,_,_,g1⟩,h1,os',h2,h3⟩
    ·exact e3 q hq
theorem ae3 {Q:Nat→Prop} {w:World} {ev kv:Value} {es:List aQ} {ks:aT} (h:bZ Q w ev kv es ks):∃l:List dh,mkK l=ks∧Rd w kv l.length (l.flatMap dh.cells)∧∀q∈l,q.shaped∧bZ Q w q.ev q.kv q.es q.sub:=by
 obtain⟨os,h1,h2⟩:=h.kids
 obtain⟨l,e1,e2,e3⟩:=Xt h2
 refine⟨l,e1,?_,e3⟩
 have:=h1.rd
 rw[←e1,←e2,BN,vY]at this
 exact this
theorem ae4 {P:Program} {ops:Array Oper} {o:Oper} {a:Act} (w:World) {K:Act→World→Prop} {Q:Exit→Act→World→Prop} {E:Prop} (news:List Value) (hgd:o.guard=none) (s x:Operand) (t:TypeId)
 (ho:o.op= .call {callee:= .builtin .append,args:= #[s,x],argTypes:= #[t,t]})
 (e:TypeId) (i:TypeInfo) (z:Value) (size bytes:Nat) (ht:P.underlying t=some (.slice e)) (hi:P.info? e=some i) (hz:i.zero=some z)
 (hsize:i.size=size) (hby:i.bytes=bytes) (hzs:z.cells.size=size) (hsz:0<size)
 (v:Value) (n:Nat) (xs:List Value) (hown:w.ownsRow 0 e size v n xs) (xv:Value) (m:Nat) (hv:a.eval s=v) (hx:a.eval x=xv) (hr:Rd w xv m news)
 (hnl:news.length=m*size) (h1:∀u∈news,u.oneCell'=true) (h63:n+m≤maxLen) (hbytes:(n+m)*bytes≤140737488355328)
 (h:∀ad c w',w'.ownsRow 0 e size (.slice ad (n+m) c) (n+m) (xs++news)→aj (eG v) w w'→lN w v (.slice ad (n+m) c)→K (a.put o.dst (.slice ad (n+m) c)) w'):
 if Region.wanted o (yielded ops a.tmps)=true then Oper.wp P o a w K Q else E:=by
 have hw:Region.wanted o (yielded ops a.tmps)=true:=by simp[Region.wanted,hgd]
 rw[if_pos hw]
 obtain⟨v',w',hr,h2,h3,h4,⟨ad,c',rfl⟩,h6⟩:=Dp (P:=P) w t t o.type e i z size bytes ht hi hz hsize hby hzs hsz v n xs hown xv m news (hr.src ht hnl h1) h63 hbytes
 unfold Oper.wp execOp
 simp only[ho,resolve,invoke,builtin,Sem.run_bind,Sem.run_pure,Result.andThen_ok,List.map_toArray,List.map_cons,List.map_nil,hv,hx,hr]
 exact h ad c' w' h2 h3 h4
theorem jB {w:World} {e:TypeId} {size:Nat} {v:Value} {n:Nat} {xs:List Value} (h:w.ownsRow 0 e size v n xs) {k:Nat} (hk:v.ownBlock=some k):∃cur,w.heap[k]?=some (.cells cur e (0,0)):=by
 rcases h.2 with⟨h1,_⟩|⟨g',cap',cur,h1,_,h2,_⟩
 ·rw[h1]at hk;simp[Value.ownBlock]at hk
 ·rw[h1]at hk
  have:g'=k:=by simpa[Value.ownBlock]using hk
  subst this
  exact⟨cur,h2⟩
structure AA (w W:World) (b3:Nat) (v cv:Value) (l:List dh) (c:bD):Prop where
 aI:aj aF w W
 Qz:w.heap.size<b3
 oz:W.heap[w.heap.size]?=some (.cells #[.slice none 0 0, .slice none 0 0, .slice none 0 0] 32 (0,0))
 jc:W.heap[b3]?=some (.cells #[.slice none 0 0,v,cv] 32 (0,0))
 ctx:W.ownsRow 0 92 3 cv c.length (dY c)
 cn:Bo w cv
 row:W.ownsRow 0 52 3 v l.length (l.flatMap dh.cells)
 rn:Bo w v
 each:∀q∈l,q.shaped∧bZ (fun k=>w.heap.size<k∧k≠b3∧v.ownBlock≠some k) W q.ev q.kv q.es q.sub
theorem AA.aS {w W W':World} {b3:Nat} {v cv:Value} {l:List dh} {c:bD} (h:AA w W b3 v cv l c) (f:aj aF W W'):AA w W' b3 v cv l c:=
 ⟨h.aI.aH f,h.Qz,f.blk h.oz id,f.blk h.jc id,f.owns h.ctx (fun _ _ h=>h),h.cn,f.owns h.row (fun _ _ h=>h),h.rn,fun q hq=>⟨(h.each q hq).1,(h.each q hq).2.aS f⟩⟩
theorem AA.add {w W W2:World} {b3:Nat} {v v' cv:Value} {l lk:List dh} {c:bD} (h:AA w W b3 v cv l c) (f:aj (eG v) W W2) (fr:lN W v v') (own:W2.ownsRow 0 52 3 v' (l.length+lk.length) (l.flatMap dh.cells++lk.flatMap dh.cells))
 (hk:∀q∈lk,q.shaped∧bZ (fun k=>w.heap.size<k∧k≠b3∧v.ownBlock≠some k) W q.ev q.kv q.es q.sub):
 W2.heap[b3]?=some (.cells #[.slice none 0 0,v,cv] 32 (0,0))∧AA w (W2.setCell ⟨b3,1,none⟩ v') b3 v' cv (l++lk) c:=by
 have nv:∀ {k o t},W.heap[k]?=some (.cells o t (0,0))→t≠52→¬eG v k:=fun hk ht s=>by
  obtain⟨cur,h2⟩:=jB h.row s
  exact iO hk h2 ht rfl
 have g2:=f.blk h.oz (nv h.oz (by decide))
 have g3:=f.blk h.jc (nv h.jc (by decide))
 have f3:aj (fun k=>k=b3) W2 (W2.setCell ⟨b3,1,none⟩ v'):=aj.setCell (S:=fun k=>k=b3) W2 (p:=⟨b3,1,none⟩) (.inl rfl) _
 have e3:=eY g3 1 v'
 have hz:=f.size
 generalize W2.setCell ⟨b3,1,none⟩ v'=W3 at*
 have hcx:∀k,cv.ownBlock=some k→¬eG v k∧k≠b3:=fun k hk=>by
  obtain⟨cur,h2⟩:=jB h.ctx hk
  exact⟨nv h2 (by decide),iO h2 h.jc (by decide)⟩
 have hvn:∀k,v'.ownBlock=some k→k≠b3:=fun k hk=>by
  obtain⟨cur,h2⟩:=jB own hk
  exact iO h2 g3 (by decide)
 have hn2:=h.Qz
 have ft:∀k,k<W.heap.size→(w.heap.size<k∧k≠b3∧v.ownBlock≠some k)→W3.heap[k]?=W.heap[k]?∧(w.heap.size<k∧k≠b3∧v'.ownBlock≠some k):=fun k hk hq=>
  ⟨(f3.block k (by omega) hq.2.1).trans (f.block k hk hq.2.2),hq.1,hq.2.1,fun e=>by
    rcases fr k e with s|s
    ·exact hq.2.2 s
    ·omega⟩
 refine⟨g3,⟨?_,h.Qz,f3.blk g2 (by omega),e3,?_,h.cn,?_,fun k hk=>?_,fun q hq=>?_⟩⟩
 ·exact(h.aI.trans f fun k hk s=>by have:=h.rn k s;omega).trans f3 fun k hk e=>by omega
 ·exact f3.owns (f.owns h.ctx fun k hk=>(hcx k hk).1) fun k hk=>(hcx k hk).2
 ·rw[List.length_append,List.flatMap_append]
  exact f3.owns own fun k hk=>hvn k hk
 ·rcases fr k hk with s|s
  ·exact h.rn k s
  ·have:=h.aI.size;omega
 ·rcases List.mem_append.1 hq with hq|hq
  ·exact⟨(h.each q hq).1,(h.each q hq).2.turn ft⟩
  ·exact⟨(hk q hq).1,(hk q hq).2.turn ft⟩
def ae5 (w:World) (vis:List bY) (c:bD) (e:Ending) (w':World):Prop:=
 ∃kv cv ks',e= .returned (.agg #[.slice none 0 0,kv,cv])∧bZ (fun b=>w.heap.size≤b) w' (.slice none 0 0) kv [] ks'∧OwnAt w w' 92 3 cv c.length (dY c)∧(fE ks').Perm (vis.flatMap fun x=>fE x.1)∧(fE ks').Pairwise fun x y=>dL y.1 x.1=false
def k3 (q:dh):wH:=(q.key,q.es,q.sub)
theorem ae6 {vs:List aU} {j:Nat} (h:j<vs.length):((vs.take (j+1)).flatMap fun q=>fE q.ks)=((vs.take j).flatMap fun q=>fE q.ks)++fE (vs.getD j default).ks:=by
 rw[take_succ default h,List.flatMap_append]
 simp
section
variable {L:Nat→Prop} {w:World} {b n vb:Nat} {sv:Value} {vs:List aU} {rs:List bC}
theorem ae7 (x y z:Value) (w:World):(Instr.field 32 (.agg #[x,y,z]) 0).run Tryz.prog w= .ok (.agg #[x,y]) w:=by kernel_rfl
theorem ae8 (x:Value) (a:Option Addr) (m c:Nat) (w:World):(Instr.field 28 (.agg #[x, .slice a m c]) 1).run Tryz.prog w= .ok (.slice a m c) w:=by kernel_rfl
theorem ae9 {w:World}:w.ownsRow 0 52 3 (.slice none 0 0) 0 []:=World.ownsRow_nil w 0 _ _
theorem Xu (h:dW L w b n vb sv vs rs):
 Calls Tryz.prog 20 #[.pointer (some ⟨b,0,none⟩)] w fun e w'=>ae5 w (vs.map aU.g) (vs.getD 0 default).c e w':=by
 obtain⟨i0,hi0,hz0,hz1,hz2⟩:=info_parts BO
 have hn1:=h.n1
 have hn4:=h.n4
 have hvl:=h.vis.len
 have h0:0<vs.length:=by omega
 have HST:=ah h
 obtain⟨e1,hq1,hg1⟩:=h.vis.each _ (getD_mem default h0)
 have v2:=(Ib h0).2.2
 have nS:=ah (fun W (f:aj aF w W)=>Oe W _ (vs.getD 0 default).c (hq1.aS f).ctx.rd (Nat.le_trans hg1.ok.len (by decide)))
 obtain⟨a2,c2,hc2⟩:=hq1.ctx.rd.sl
 rw[hc2]at v2 nS
 have y1:w.cell? ⟨vb,2,none⟩=some (.slice a2 (vs.getD 0 default).c.length c2):=aG h.vis.blk 2 (by simpa using v2)
 have y0:=h.mX
 have hb0:=World.block_lt_of_cell? _ _ y0
 have hb1:=World.block_lt_of_cell? _ _ y1
 have HB0:=ah (heap_alloc_new w (.cells #[.slice none 0 0, .slice none 0 0, .slice none 0 0] 32))
 have hni:(0:Int)<(n:Int):=by omega
 have hft:=ae7
 have hfk:=ae8
 clear h h0 e1 hq1 hg1 v2 hc2
 generalize (vs.getD 0 default).c=c at*
 go_enter Tryz.func20,Tryz.ntmps20
 go_upto_region 4 with(go_at_call 46;refine(nS.out _ (aj.alloc _ _ _)).mono ?_;rintro e W1 ⟨cv,rfl,ho⟩;obtain⟨a3,c3,rfl⟩:=ho.shape;have HO:=ah ho;clear ho)
 have qj:AA w (W1.alloc (.cells #[.slice none 0 0, .slice none 0 0, .slice a3 c.length c3] 32)) W1.heap.size (.slice none 0 0) (.slice a3 c.length c3) [] c:=by
  have f0:=aj.alloc aF w (.cells #[.slice none 0 0, .slice none 0 0, .slice none 0 0] 32)
  have f1:=HO.out.aI
  have f2:=aj.alloc aF W1 (.cells #[.slice none 0 0, .slice none 0 0, .slice a3 c.length c3] 32)
  have hb:=f1.blk HB0.out id
  refine⟨(f0.aH f1).aH f2,lt_of_block hb,f2.blk hb id,heap_alloc_new _ _,f2.owns HO.out.own (fun _ _ h=>h),fun k hk=>?_,ae9,fun k hk=>by simp[Value.ownBlock]at hk,fun q hq=>by cases hq⟩
  have:=HO.out.new k hk
  have:=f0.size
  omega
 obtain⟨b3,hb3⟩:∃b3,b3=W1.heap.size:=⟨_,rfl⟩
 rw[←hb3]at qj⊢
 generalize W1.alloc (.cells #[.slice none 0 0, .slice none 0 0, .slice a3 c.length c3] 32)=W2 at*
 clear y0 y1 hb0 hb1 hb3
 have HVI:=ah qj
 have y0:=(HST.out.aS qj.aI).mX
 have hb0:=World.block_lt_of_cell? _ _ y0
 clear qj
 go_wp2
 go_loopw [23] (fun iv W=>∃(j:Nat) (v:Value) (l:List dh),j≤n∧iv= .int .i64 j∧AA w W b3 v (.slice a3 c.length c3) l c∧l.length≤j*2000∧l.map k3=(vs.take j).flatMap fun q=>fE q.ks) (fun iv _=>n-(intOf iv).toNat)
 case atStart=>exact⟨0,_,[],Nat.zero_le _,rfl,HVI.out,Nat.zero_le _,by simp⟩
 case round=>
  obtain⟨j,v,l,hj,rfl,qj,hll,hlk⟩:=hrel
  clear y0 hb0
  have sS:=ah qj
  have nT:=ah hlk
  obtain⟨av,uF,rfl⟩:=(Rd.own qj.row).sl
  clear hlk
  by_cases hlt:j<n
  ·have hjl:j<vs.length:=by omega
   have yh:=ah (HST.out.aS qj.aI).vis
   obtain⟨p0,p1,p2⟩:=Ib hjl
   obtain⟨e2,hq2,hg2⟩:=yh.out.each _ (getD_mem default hjl)
   have HVT:=ah (ae6 hjl)
   generalize zq:vs.getD j default=qb at*
   clear zq
   obtain⟨es',ks',cc',ev',kv',jI⟩:=qb
   have e2:es'=[]:=e2
   subst e2
   have hb:∀W,aj aF wr W→dU (fun k=>¬L k) W ev' kv' jI [] ks' cc':=fun W f=>(hq2.aS f).at_
   have hg2:Good (ks',cc'):=hg2
   obtain⟨d0,k0,d1,k1,d2,k2,rfl,rfl,rfl⟩:=(hb wr (aj.refl _ _)).shape
   have rJ:=ah (fun W (f:aj aF wr W)=>OJ _ [] ks' cc' W _ _ _ (hb W f) hg2.ok hg2.right)
   have hkl:ks'.len≤2000:=by have:=oQ ks';have h9:sizeT [] ks'≤2000:=hg2.ok.small;unfold sizeT at h9;simp at h9;omega
   have iZ:=ah hkl
   have z4:=aG yh.out.blk (j*3) p0
   have z5:=aG yh.out.blk (j*3+1) p1
   have z6:=aG yh.out.blk (j*3+2) p2
   have hl4:=World.block_lt_of_cell? _ _ z4
   have hjn:(j:Int)<(n:Int):=by omega
   clear p0 p1 p2 hq2 hg2 hb hkl
   have dJ:=ah (fun Y Y' (f:aj aF Y Y') (hS:Y.cell? ⟨b3,1,none⟩=some (.slice av l.length uF)∧Y.cell? ⟨wr.heap.size,0,none⟩=some (.slice d0 0 k0)∧Y.cell? ⟨wr.heap.size,1,none⟩=some (.slice d1 ks'.len k1)∧Y.cell? ⟨wr.heap.size,2,none⟩=some (.slice d2 cc'.length k2))=>
    (⟨f.cell' hS.1 id,f.cell' hS.2.1 id,f.cell' hS.2.2.1 id,f.cell' hS.2.2.2 id⟩:Y'.cell? ⟨b3,1,none⟩=some (.slice av l.length uF)∧Y'.cell? ⟨wr.heap.size,0,none⟩=some (.slice d0 0 k0)∧Y'.cell? ⟨wr.heap.size,1,none⟩=some (.slice d1 ks'.len k1)∧Y'.cell? ⟨wr.heap.size,2,none⟩=some (.slice d2 cc'.length k2)))
   have fa:=aj.alloc aF wr (.cells #[.slice d0 0 k0, .slice d1 ks'.len k1, .slice d2 cc'.length k2] 32)
   have ba:=heap_alloc_new wr (.cells #[.slice d0 0 k0, .slice d1 ks'.len k1, .slice d2 cc'.length k2] 32)
   have dH:=dJ.out _ _ (aj.drew aF _) ⟨fa.cell' (aG qj.jc 1 rfl) id,aG ba 0 rfl,aG ba 1 rfl,aG ba 2 rfl⟩
   have gK:=ah (fa.aH (aj.drew aF _))
   clear fa ba qj
   go_upto_region 7 with fail
   clear z4 z5 z6 hl4
   refine iq (S:=fun Y=>Y.cell? ⟨b3,1,none⟩=some (.slice av l.length uF)∧Y.cell? ⟨wr.heap.size,0,none⟩=some (.slice d0 0 k0)∧Y.cell? ⟨wr.heap.size,1,none⟩=some (.slice d1 ks'.len k1)∧Y.cell? ⟨wr.heap.size,2,none⟩=some (.slice d2 cc'.length k2)) 10 (by kernel_rfl) dH ?_
   clear dH
   intro hS
   generalize World.drew _=Y0 at*
   refine kV 0 27 rfl rfl ?_
   refine kV 1 28 rfl rfl ?_
   try simp only[Act.put,aO,aN,aJ]
   refine kV 2 29 rfl rfl ?_
   refine kV 3 30 rfl rfl ?_
   try simp only[Act.put,aO,aN,aJ]
   refine bg (i:=4) (by kernel_rfl) rfl (fun K hK=>?_)
   go_simp
   refine(rJ.out _ gK.out).mono ?_
   rintro e Y1 ⟨uX,jV,mW,rfl,hta,ho3⟩
   obtain⟨a4,c4,rfl⟩:=hta.ents.rd.sl
   obtain⟨lk,hmk,hrk,Xv⟩:=ae3 hta
   have hlen:lk.length=ks'.len:=by rw[←hmk,vY]
   rw[hlen]at hrk
   obtain⟨a5,c5,rfl⟩:=hrk.sl
   obtain⟨a6,c6,rfl⟩:=ho3.shape
   have BJ:=ah hrk
   have t_:=ah Xv
   have EK:=ah hlen
   have DI:=ah hmk
   have Xw:=ah (sS.out.aS (gK.out.aH ho3.aI))
   have hS1:=dJ.out _ _ ho3.aI hS
   refine hK.out _ _ hS1 ?_
   clear hK K hS hta ho3 hrk Xv hlen hmk
   have hS:=hS1
   clear hS1
   try simp only[Act.put,aO,aN,aJ]
   refine kV 5 32 rfl rfl ?_
   refine kV 6 33 rfl rfl ?_
   try simp only[Act.put,aO,aN,aJ]
   refine bg (i:=7) (by kernel_rfl) rfl (fun K hK=>?_)
   have h1c:∀u∈lk.flatMap dh.cells,u.oneCell'=true:=aci fun q hq=>by
    obtain⟨⟨a,m,d,e1⟩,a',m',d',e2⟩:=(t_.out q hq).1
    rw[e1,e2]
    exact⟨rfl,rfl⟩
   refine ae4 Y1 (lk.flatMap dh.cells) rfl (.tmp 29) (.tmp 33) 26 rfl 52 i0 _ 3 64 Tryz.underlying26 hi0 hz0 hz1 hz2 (by decide) (by decide) (.slice av l.length uF) l.length _ Xw.out.row (.slice a5 ks'.len c5) ks'.len (by simp[Act.eval]) (by simp[Act.eval]) BJ.out (by rw[OD,EK.out]) h1c (by have:=iZ.out;simp only[maxLen];omega) (by have:=iZ.out;omega) ?_
   intro ad cc w2 bP jK mY
   have hadd:=Xw.out.add (lk:=lk) jK mY (by rw[EK.out];exact bP) fun q hq=>⟨(t_.out q hq).1,(t_.out q hq).2.turn fun k hk hQ=>⟨rfl,by
    have h1:=gK.out.size
    have h2:=lt_of_block sS.out.jc
    have h3:=lt_of_block sS.out.oz
    refine⟨by omega,by omega,fun e=>?_⟩
    obtain⟨cur,h4⟩:=jB sS.out.row e
    have:=lt_of_block h4
    omega⟩⟩
   have HAD:=ah hadd
   have hS1:w2.cell? ⟨b3,1,none⟩=some (.slice av l.length uF)∧w2.cell? ⟨wr.heap.size,0,none⟩=some (.slice d0 0 k0)∧w2.cell? ⟨wr.heap.size,1,none⟩=some (.slice d1 ks'.len k1)∧w2.cell? ⟨wr.heap.size,2,none⟩=some (.slice d2 cc'.length k2):=by
    have nb:¬eG (.slice av l.length uF) wr.heap.size:=fun s=>by
     obtain⟨cur,h4⟩:=jB sS.out.row s
     have:=lt_of_block h4
     omega
    exact⟨aG hadd.1 1 rfl,jK.cell' hS.2.1 nb,jK.cell' hS.2.2.1 nb,jK.cell' hS.2.2.2 nb⟩
   refine hK.out _ _ hS1 ?_
   clear hK K hS bP jK mY hadd h1c
   have hS:=hS1
   clear hS1
   try simp only[Act.put,aO,aN,aJ]
   refine bg (i:=8) (by kernel_rfl) rfl (fun K hK=>?_)
   go_simp
   refine hK.out _ _ hS ?_
   clear hK K
   try simp only[Act.put,aO,aN,aJ]
   refine kV 9 36 rfl rfl ?_
   try simp only[Act.put,aO,aN,aJ]
   refine gJ (by kernel_rfl) (by kernel_rfl) rfl (fun K hK=>?_)
   have q1:=hS.1
   have g1:=aW HAD.out.1 1
   have gl:=lt_of_block HAD.out.1
   go_simp
   refine hK.out _ _ ?_
   clear hK K hS q1 g1 gl
   go_wp2
   go_roundw
   case rel=>
    refine⟨j+1,_,l++lk,by omega,by go_num,HAD.out.2,?_,?_⟩
    ·have:=EK.out
     have:=iZ.out
     rw[List.length_append]
     omega
    ·rw[HVT.out,List.map_append,nT.out,←DI.out,Hy]
     rfl
   case measure=>simp[intOf];omega
  ·obtain rfl:j=n:=by omega
   have hks:=aeO w wr (.slice av l.length uF) l.length l ⟨qj.row,qj.rn,qj.aI⟩ rfl (by omega) fun q hq=>(qj.each q hq).1
   have dJ:=ah hks
   have y1:=aG qj.jc 1 rfl
   have hb1:=lt_of_block qj.jc
   clear qj hks
   go_upto_region 10 with(go_at_call 47;refine dJ.out.mono ?_;rintro e w3 ⟨rfl,l',hpm,hso,hown,hfr⟩;have Ic:=ah hpm;have HSO:=ah hso;have HOW:=ah hown;have nD:=ah hfr;clear hpm hso hown hfr)
   clear y1 hb1
   have nv:∀ {k o t},wr.heap[k]?=some (.cells o t (0,0))→t≠52→¬eG (.slice av l.length uF) k:=fun hk ht s=>by
    obtain⟨cur,h2⟩:=jB sS.out.row s
    exact iO hk h2 ht rfl
   have hb3:=nD.out.blk sS.out.jc (nv sS.out.jc (by decide))
   have hb2:=nD.out.blk sS.out.oz (nv sS.out.oz (by decide))
   have y0:=aG hb3 0 rfl
   have y1:=aG hb3 1 rfl
   have y2:=aG hb3 2 rfl
   have x0:=aG hb2 0 rfl
   have x1:=aG hb2 1 rfl
   have x2:=aG hb2 2 rfl
   have g0:=aW hb2 0
   have g1:=aW hb2 1
   have g2:=aW hb2 2
   have hl3:=lt_of_block hb3
   have hl2:=lt_of_block hb2
   have r2:=eY (eY (eY hb2 0 (.slice none 0 0)) 1 (.slice av l.length uF)) 2 (.slice a3 c.length c3)
   have f4:=((aj.setCell (S:=fun x=>x=w.heap.size) w3 (p:=⟨w.heap.size,0,none⟩) (.inl rfl) (.slice none 0 0)).trans (aj.setCell (S:=fun x=>x=w.heap.size) _ (p:=⟨w.heap.size,1,none⟩) (.inl rfl) (.slice av l.length uF)) fun _ _ h=>h).trans (aj.setCell (S:=fun x=>x=w.heap.size) _ (p:=⟨w.heap.size,2,none⟩) (.inl rfl) (.slice a3 c.length c3)) fun _ _ h=>h
   have HR2:=ah r2
   have dR:=ah f4
   have HB2:=ah hb2
   clear r2 f4 hb3 hb2
   go_wp2
   clear y0 y1 y2 x0 x1 x2 g0 g1 g2
   have z0:=aG HR2.out 0 rfl
   have z1:=aG HR2.out 1 rfl
   have z2:=aG HR2.out 2 rfl
   refine bodyPost_ret (v:= .agg #[.slice none 0 0, .slice av l.length uF, .slice a3 c.length c3]) (by simp[results,Tryz.results20,go_sem,z0,z1,z2]) rfl ⟨_,_,mkK l',rfl,?_,?_,?_,?_⟩
   ·have hvn:∀k,(Value.slice av l.length uF).ownBlock=some k→k≠w.heap.size:=fun k hk=>by
     obtain⟨cur,h2⟩:=jB HOW.out.own hk
     exact iO h2 HB2.out (by decide)
    have hrd:=Rd.keep HOW.out.rd dR.out hvn
    refine⟨⟨.inl ⟨none,rfl,rfl,rfl⟩,fun h=>absurd rfl h⟩,vX l',⟨?_,fun _ k hk=>HOW.out.new k hk⟩,Ed fun q hq=>?_⟩
    ·rw[BN,vY,Ic.out.length_eq]
     exact hrd
    ·have hq2:=(sS.out.each q (Ic.out.mem_iff.1 hq)).2
     exact hq2.turn fun k hk hQ=>⟨(dR.out.block k (by have:=nD.out.size;omega) (by omega)).trans (nD.out.block k hk hQ.2.2),by omega⟩
   ·have hcx:∀k,(Value.slice a3 c.length c3).ownBlock=some k→¬eG (.slice av l.length uF) k:=fun k hk=>by
     obtain⟨cur,h2⟩:=jB sS.out.ctx hk
     exact nv h2 (by decide)
    have ho3:=nD.out.owns sS.out.ctx hcx
    refine⟨dR.out.owns ho3 fun k hk=>?_,sS.out.cn,HOW.out.aI.trans dR.out fun k hk e=>by omega⟩
    obtain⟨cur,h2⟩:=jB ho3 hk
    exact iO h2 HB2.out (by decide)
   ·rw[Hy]
    refine(Ic.out.map k3).trans ?_
    rw[nT.out,List.take_of_length_le (by omega),List.flatMap_map]
    exact List.Perm.refl _
   ·rw[Hy]
    exact List.pairwise_map.2 HSO.out
end
open Go.RowKit
theorem Xx (es:List aQ):(lI es).length=es.length:=by simp[lI]
theorem QC:∀ks:aT,(fZ ks).length≤dM ks
 | .nil=>Nat.le_refl _
 | .cons key es sub rest=>by
   show((lI es++fZ sub).map (fun x=>(key::x.1,x.2))++fZ rest).length≤1+es.length+dM sub+dM rest
   have h1:=QC sub
   have h2:=QC rest
   rw[List.length_append,List.length_map,List.length_append,Xx]
   omega
theorem Ie (es:List aQ) (ks:aT):(dI es ks).length≤sizeT es ks:=by
 have:=QC ks
 unfold dI sizeT
 rw[List.length_append,Xx]
 omega
theorem afc {ks:aT} {n:Nat} {key:ByteArray} {es:List aQ} {sub rest:aT} (h:ks.drop n= .cons key es sub rest):fZ (ks.drop n)=(dI es sub).map (fun x=>(key::x.1,x.2))++fZ (ks.drop (n+1)):=by
 rw[h,aT.yN n ks h];rfl
def vJ (pl:List ByteArray) (x:Lf):Lf:=(pl++x.1,x.2)
theorem afd (L:List Lf):L.map (vJ [])=L:=by
 have:vJ []=id:=rfl
 rw[this,List.map_id]
theorem QD (pl:List ByteArray) (key:ByteArray) (L:List Lf):(L.map fun x=>(key::x.1,x.2)).map (vJ pl)=L.map (vJ (pl++ [key])):=by
 rw[List.map_map]
 exact List.map_congr_left fun x _=>by simp[vJ]
def uG (pl:List ByteArray) (pv:Value) (es:List aQ):List dB:=es.map fun e=>⟨pl,pv,e⟩
theorem afe (pl:List ByteArray) (pv:Value) (es:List aQ):(uG pl pv es).length=es.length:=by simp[uG]
theorem aff (pl:List ByteArray) (pv:Value) (es:List aQ):(uG pl pv es).map dB.con=(lI es).map (vJ pl):=by
 unfold uG lI
 rw[List.map_map,List.map_map]
 exact List.map_congr_left fun e _=>by simp[dB.con,vJ]
theorem afg {pl:List ByteArray} {p:Value} {es:List aQ} {k:Nat} (hk:k<es.length):jS (uG pl p (es.take (k+1)))=jS (uG pl p (es.take k))++ [p, .int .i64 (es.getD k aQ.zero).dc, .int .i64 (es.getD k aQ.zero).n, .string (es.getD k aQ.zero).s, .int .i64 (es.getD k aQ.zero).k]:=by
 rw[take_succ aQ.zero hk,show uG pl p (es.take k++ [es.getD k aQ.zero])=uG pl p (es.take k)++ [⟨pl,p,es.getD k aQ.zero⟩] by simp[uG],Hg]
 rfl
def CO (l:List dB):Prop:=∀x∈l,x.pv.oneCell'=true
theorem CO.append {a b:List dB} (ha:CO a) (hb:CO b):CO (a++b):=fun x hx=>(List.mem_append.1 hx).elim (ha x) (hb x)
theorem Le {l:List dB} (h:CO l):∀v∈jS l,v.oneCell'=true:=by
 intro v hv
 simp only[jS,List.mem_flatMap]at hv
 obtain⟨x,hx,hv⟩:=hv
 rcases List.mem_cons.1 hv with rfl|hv
 ·exact h x hx
 ·simp at hv
  rcases hv with rfl|rfl|rfl|rfl<;>rfl
structure kJ (P:Nat→Prop) (w W:World) (v:Value) (l:List dB):Prop where
 own:OwnAt w W 103 5 v l.length (jS l)
 each:∀x∈l,gy (fun k=>(P k∨w.heap.size≤k)∧v.ownBlock≠some k) W x.pv x.path.length (fA x.path)
 one:CO l
theorem kJ.aS {P:Nat→Prop} {w W W':World} {v:Value} {l:List dB} (h:kJ P w W v l) (f:aj aF W W'):kJ P w W' v l:=
 ⟨h.own.keep f,fun x hx=>(h.each x hx).keep f fun _ _ e=>e.elim,h.one⟩
theorem kJ.base {P:Nat→Prop} {w0 w W:World} {v:Value} {l:List dB} (h:kJ P w W v l) (f:aj aF w0 w):kJ P w0 W v l:=
 ⟨h.own.base f,fun x hx=>(h.each x hx).turn fun k _ hk=>⟨rfl,hk.1.imp id fun h2=>Nat.le_trans f.size h2,hk.2⟩,h.one⟩
theorem kJ.Ig {P:Nat→Prop} {w W:World} {v:Value} {l:List dB} (h:kJ P w W v l):wE (fun k=>(P k∨w.heap.size≤k)∧v.ownBlock≠some k) W v l:=⟨h.own.rd,h.each⟩
theorem kJ.nil {P:Nat→Prop} {w W:World} (f:aj aF w W):kJ P w W (.slice none 0 0) []:=⟨OwnAt.nil f _ _,fun x hx=>(by cases hx),fun x hx=>(by cases hx)⟩
theorem kJ.add {P:Nat→Prop} {w W W2:World} {v v':Value} {l m:List dB} (h:kJ P w W v l) (f:aj (eG v) W W2) (fr:lN W v v') (own:W2.ownsRow 0 103 5 v' (l.length+m.length) (jS l++jS m))
 (hm:∀x∈m,gy (fun k=>(P k∨w.heap.size≤k)∧v.ownBlock≠some k) W x.pv x.path.length (fA x.path)) (ho:CO m):kJ P w W2 v' (l++m):=by
 have h1:=h.own.step own f fr
 refine⟨by rw[List.length_append,Hg];exact h1,fun x hx=>?_,h.one.append ho⟩
 have hx:gy (fun k=>(P k∨w.heap.size≤k)∧v.ownBlock≠some k) W x.pv x.path.length (fA x.path):=(List.mem_append.1 hx).elim (h.each x) (hm x)
 exact hx.turn fun k hk hQ=>⟨f.block k hk hQ.2,hQ.1,fun e=>by
  rcases fr k e with s|s
  ·exact hQ.2 s
  ·omega⟩
theorem kJ.ents {P:Nat→Prop} {w W:World} {v pv:Value} {pl:List ByteArray} {es:List aQ} (h:OwnAt w W 103 5 v es.length (jS (uG pl pv es))) (hp:gy P w pv pl.length (fA pl)) (h1:pv.oneCell'=true):kJ P w W v (uG pl pv es):=
 ⟨by rw[afe];exact h,fun x hx=>by
   obtain⟨e,_,rfl⟩:=List.mem_map.1 hx
   exact hp.turn fun k hk hQ=>⟨h.aI.block k hk id, .inl hQ,fun e=>by have:=h.new k e;omega⟩,fun x hx=>by
   obtain⟨e,_,rfl⟩:=List.mem_map.1 hx
   exact h1⟩
def afh (P:Nat→Prop) (w:World) (es:List aQ) (ks:aT) (pl:List ByteArray) (e:Ending) (w':World):Prop:=
 ∃(v':Value) (l:List dB),e= .returned v'∧kJ P w w' v' l∧l.map dB.con=(dI es ks).map (vJ pl)
theorem afi (Q:Nat→Prop):∀(N:Nat) (P:Nat→Prop) (es:List aQ) (ks:aT) (w:World) (ev kv pv:Value) (pl:List ByteArray),dM ks<N→bZ Q w ev kv es ks→sizeT es ks≤100000→gy P w pv pl.length (fA pl)→pl.length+N≤200000→
 Calls Tryz.prog 50 #[.agg #[ev,kv],pv] w (afh P w es ks pl):=by
 intro N
 induction N with
 |zero=>intros;exfalso;omega
 |succ N jH=>
  intro P es ks w ev kv pv pl hN ht hsz hp hpl
  obtain⟨i0,hi,hz0,hz1,hz2⟩:=info_parts DW
  obtain⟨j0,hji,hy0,hy1,hy2⟩:=info_parts UR
  obtain⟨ae,ce,rfl⟩:=ht.ents.rd.sl
  obtain⟨os,hkr,gY⟩:=ht.kids
  obtain⟨ak,ck,rfl⟩:=hkr.rd.sl
  obtain⟨ap,cp,rfl⟩:=hp.rd.sl
  have HPQ:=ah hp
  have HP:=ah hp.rd;clear hp
  have HE:=ah ht.ents.rd
  have iT:=ah hkr.rd;clear hkr ht
  have nR:=ah gY;clear gY
  have IH:=ah jH;clear jH
  have eu:=ah (aj.alloc aF w (.cells #[.slice ae es.length ce, .slice ak ks.len ck] 28))
  have box0:(w.alloc (.cells #[.slice ae es.length ce, .slice ak ks.len ck] 28)).cell? ⟨w.heap.size,0,none⟩=some (.slice ae es.length ce):=aG (heap_alloc_new w _) 0 rfl
  have box1:(w.alloc (.cells #[.slice ae es.length ce, .slice ak ks.len ck] 28)).cell? ⟨w.heap.size,1,none⟩=some (.slice ak ks.len ck):=aG (heap_alloc_new w _) 1 rfl
  have B0:=ah box0;clear box0
  have B1:=ah box1;clear box1
  have oU:=ah (Nat.le_trans (Ie es ks) hsz)
  have vV:es.length≤100000:=by unfold sizeT at hsz;omega
  have Gl:ks.len≤100000:=by have:=oQ ks;unfold sizeT at hsz;omega
  have iC:=ah hsz;clear hsz
  have uh:=ah hN;clear hN
  have hq5:pl.length≤200000:=by omega
  have dV:=ah hpl;clear hpl
  generalize hes:es.length=n at*
  have HN:=ah hes;clear hes
  generalize hkl:ks.len=m at*
  have HM:=ah hkl;clear hkl
  generalize sU:pl.length=q at*
  have HQ:=ah sU;clear sU
  go_enter Tryz.func50,Tryz.ntmps50
  go_wp2_with fail
  have b0:=B0.out
  go_wp2
  clear b0
  go_loopw [5,12] (fun v i ww=>∃k:Nat,k≤n∧i= .int .i64 k∧OwnAt (w.alloc (.cells #[.slice ae n ce, .slice ak m ck] 28)) ww 103 5 v k (jS (uG pl (.slice ap q cp) (es.take k)))) (fun _ i _=>n-(intOf i).toNat)
  case atStart=>exact⟨0,Nat.zero_le _,rfl,OwnAt.nil (aj.refl _ _) _ _⟩
  case round=>
   obtain⟨k,hk,rfl,ho⟩:=hrel
   obtain⟨av,cv,rfl⟩:=ho.shape
   have HO:=ah ho;clear ho
   by_cases hlt:k<n
   ·rcases Rd.shape HE.out with⟨ad,he,h0⟩|⟨b,off,cc,he,hmax⟩
    ·exfalso;have:=HN.out;omega
    ·injection he with e1 e2 e3
     subst e1 e3
     clear e2
     have hlk:k<es.length:=by rw[HN.out];exact hlt
     obtain⟨p0,p1,p2,p3⟩:=ug HE.out k hlk
     have f2:=eu.out.aH HO.out.aI
     have q0:=f2.cell' p0 id
     have q1:=f2.cell' p1 id
     have q2:=f2.cell' p2 id
     have q3:=f2.cell' p3 id
     have b0:=HO.out.aI.cell' B0.out id
     clear p0 p1 p2 p3 f2
     have hE:=afg (pl:=pl) (p:= .slice ap q cp) hlk
     generalize es.getD k aQ.zero=e at*
     have yR:=ah hE;clear hE
     go_wp2_with(at_builtin;refine kT _ _ [.slice ap q cp, .int .i64 e.dc, .int .i64 e.n, .string e.s, .int .i64 e.k] rfl (.tmp 15) (.tmp 23) 50 rfl 103 i0 _ 5 64 Tryz.underlying50 hi hz0 hz1 hz2 (by decide) (by decide) _ _ _ HO.out 1 1 rfl (by simp[Act.eval]) rfl (by simp[Value.oneCell']) (by simp only[maxLen];omega) (by omega) ?_;intro BI lg w2 bP;have OW:=ah bP;clear bP)
     go_roundw
     case rel=>exact⟨k+1,by omega,by go_num,by rw[yR.out];exact OW.out⟩
     case measure=>simp[intOf];omega
   ·obtain rfl:n=k:=by omega
    rw[List.take_of_length_le (by rw[HN.out];exact Nat.le_refl _)]at HO
    have b1:=HO.out.aI.cell' B1.out id
    go_wp2
    clear b1
    go_loopw [5,29] (fun v i ww=>∃(k:Nat) (l:List dB),k≤m∧i= .int .i64 k∧kJ P (w.alloc (.cells #[.slice ae n ce, .slice ak m ck] 28)) ww v l∧(dI es ks).map (vJ pl)=l.map dB.con++(fZ (ks.drop k)).map (vJ pl)) (fun _ i _=>m-(intOf i).toNat)
    case atStart=>exact⟨0,uG pl (.slice ap q cp) es,Nat.zero_le _,rfl,kJ.ents (by rw[HN.out];exact HO.out) (by rw[HQ.out];exact HPQ.out.keep eu.out fun _ _ e=>e.elim) rfl,by rw[aff,←List.map_append];rfl⟩
    case round=>
     obtain⟨k,l,hk,rfl,ho,hd⟩:=hrel
     obtain⟨av,cv,rfl⟩:=ho.own.shape
     have zy:=ah ho
     have fH:=ah ho.own;clear ho
     have HD:=ah hd;clear hd
     by_cases hlt:k<m
     ·obtain⟨key,es',sub,rest,hdr⟩:=aT.uf (n:=k) (ks:=ks) (by rw[HM.out];exact hlt)
      rcases Rd.shape iT.out with⟨ad,he,h0⟩|⟨b,off,cc,he,hmax⟩
      ·exfalso;have:=HM.out;omega
      ·injection he with e1 e2 e3
       subst e1 e3
       clear e2
       have f2:=eu.out.aH fH.out.aI
       obtain⟨ev',kv',c0,c1,c2,hta⟩:=rD (iT.out.aS f2) (nR.out.aS f2) hdr
       obtain⟨gZ,g_,rfl⟩:=hta.ents.rd.sl
       obtain⟨os',ji,nC⟩:=hta.kids
       obtain⟨h_,ig,rfl⟩:=ji.rd.sl
       clear ji nC
       have hpr:=HP.out.aS f2
       have lJ:=ah hpr;clear hpr f2
       have b1:=fH.out.aI.cell' B1.out id
       have uT:=ah (afc hdr)
       have i_:=ah (xJ k hdr)
       have HST:=ah (yQ k hdr)
       have kF:=ah hta;clear hta
       have HIH:=ah (fun w' (h:aj aF wr w') pv (hpv:gy (fun k=>wr.heap.size≤k) w' pv (pl++ [key]).length (fA (pl++ [key])))=>IH.out (fun k=>wr.heap.size≤k) es' sub w' _ _ pv (pl++ [key]) (by have:=i_.out;have:=uh.out;omega) (kF.out.aS h) (by have:=HST.out;have:=iC.out;unfold sizeT at*;omega) hpv (by have:=dV.out;have:=HQ.out;simp;omega))
       have hlen:l.length+(dI es' sub).length≤100000:=by
        have h1:=oU.out
        rw[←List.length_map (f:=vJ pl),HD.out,uT.out]at h1
        simp only[List.length_append,List.length_map]at h1
        omega
       have HLEN:=ah hlen;clear hlen
       clear hdr
       generalize es'.length=n' at*
       generalize sub.len=m' at*
       go_wp2_with fail
       refine iq (S:=fun w'=>w'.cell? ⟨w.heap.size,1,none⟩=some (.slice (some ⟨b,off,none⟩) m ck)∧w'.cell? ⟨b,off+k*3,none⟩=some (.string key)) 11 (by kernel_rfl) ⟨b1,c0⟩ ?_
       intro hS
       have aV:aj aF wr wr.drew:=aj.drew _ _
       have afj:=ah aV
       generalize wr.drew=Y at*
       refine aX 1 33 rfl rfl ?_
       refine aX 3 35 rfl rfl ?_
       try simp only[Act.put,aO,aN,aJ]
       refine aX 4 36 rfl rfl ?_
       refine aX 5 37 rfl rfl ?_
       try simp only[Act.put,aO,aN,aJ]
       refine aX 6 38 rfl rfl ?_
       refine aX 7 39 rfl rfl ?_
       try simp only[Act.put,aO,aN,aJ]
       refine aX 8 40 rfl rfl ?_
       try simp only[Act.put,aO,aN,aJ]
       refine nU (i:=0) (j:=9) (by kernel_rfl) rfl rfl (fun K hK=>?_) (fun K hK=>?_)
       ·go_simp
        have hfA:aj aF Y (Y.alloc (.cells #[] 9)):=aj.alloc _ _ _
        have hE:OwnAt wr (Y.alloc (.cells #[] 9)) 9 1 (.slice (some ⟨Y.heap.size,0,none⟩) 0 0) 0 []:=OwnAt.empty aV _ _
        have hS:(Y.alloc (.cells #[] 9)).cell? ⟨w.heap.size,1,none⟩=some (.slice (some ⟨b,off,none⟩) m ck)∧(Y.alloc (.cells #[] 9)).cell? ⟨b,off+k*3,none⟩=some (.string key):=⟨hfA.cell' hS.1 id,hfA.cell' hS.2 id⟩
        have aV:=aV.aH hfA
        (try have hne:kb≠Y.heap.size:=by have:=hkb;omega)
        (try have iI:=iI.aS hfA)
        refine hK.out _ _ hS ?_
        clear hK K hfA
        obtain⟨eb,heb⟩:∃eb,Y.heap.size=eb:=⟨_,rfl⟩
        rw[heb]at hE⊢
        have rQ:eb<(Y.alloc (.cells #[] 9)).heap.size:=by rw[←heb];simp
        (try rw[heb]at hne)
        clear heb
        generalize Y.alloc (.cells #[] 9)=Y at*
        try simp only[Act.put,aO,aN,aJ]
        refine nU (i:=2) (j:=9) (by kernel_rfl) rfl rfl (fun K hK=>?_) (fun K hK=>?_)
        ·refine jl wr Y (fA pl) rfl (.tmp 32) (.tmp 33) 101 101 rfl 9 9 j0 _ 1 16 Tryz.underlying101 Tryz.underlying101 hji hy0 hy1 hy2 (by decide) (by decide) _ 0 [] hE _ q (by simp[Act.eval]) (by simp[Act.eval]) (lJ.out.aS aV) (by rw[DU,HQ.out];omega) (DV _) (by simp only[maxLen];omega) (by omega) ?_
         intro iw gI Y2 hP ql wJ
         rw[Nat.zero_add]at hP
         rw[List.nil_append]at hP
         have hS:Y2.cell? ⟨w.heap.size,1,none⟩=some (.slice (some ⟨b,off,none⟩) m ck)∧Y2.cell? ⟨b,off+k*3,none⟩=some (.string key):=⟨hP.aI.cell' b1 id,hP.aI.cell' c0 id⟩
         have aV:=hP.aI
         (try have iI:=iI.keep ql (fun x hx hr=>by simp[eG,Value.ownBlock]at hx hr;omega))
         rw[Nat.zero_add]
         refine hK.out _ _ hS ?_
         clear hK K ql wJ hE rQ
         generalize Y2=Y at*
         try simp only[Act.put,aO,aN,aJ]
         refine bg (i:=9) (by kernel_rfl) rfl (fun K hK=>?_)
         go_simp
         have hfA:aj aF Y (Y.alloc (.cells #[.string key] 9)):=aj.alloc _ _ _
         have hS:(Y.alloc (.cells #[.string key] 9)).cell? ⟨w.heap.size,1,none⟩=some (.slice (some ⟨b,off,none⟩) m ck)∧(Y.alloc (.cells #[.string key] 9)).cell? ⟨b,off+k*3,none⟩=some (.string key):=⟨hfA.cell' hS.1 id,hfA.cell' hS.2 id⟩
         have aV:=aV.aH hfA
         (try have hne:Y.heap.size≠eb:=by have:=rQ;omega)
         (try have hE:=hE.keep hfA)
         (try have hP:=hP.keep hfA)
         have iI:Rd (Y.alloc (.cells #[.string key] 9)) (.slice (some ⟨Y.heap.size,0,none⟩) 1 1) 1 [.string key]:= .inr ⟨Y.heap.size,0,1,rfl,Nat.le_refl _,by decide,fun j u hu=>by rw[Nat.zero_add];exact aG (heap_alloc_new Y _) j (by simpa using hu)⟩
         refine hK.out _ _ hS ?_
         clear hK K hfA
         obtain⟨kb,kK⟩:∃kb,Y.heap.size=kb:=⟨_,rfl⟩
         rw[kK]at iI⊢
         have hkb:kb<(Y.alloc (.cells #[.string key] 9)).heap.size:=by rw[←kK];simp
         (try rw[kK]at hne)
         clear kK
         generalize Y.alloc (.cells #[.string key] 9)=Y at*
         try simp only[Act.put,aO,aN,aJ]
         refine bg (i:=10) (by kernel_rfl) rfl (fun K hK=>?_)
         refine jl wr Y [.string key] rfl (.tmp 34) (.tmp 41) 101 101 rfl 9 9 j0 _ 1 16 Tryz.underlying101 Tryz.underlying101 hji hy0 hy1 hy2 (by decide) (by decide) _ q (fA pl) hP _ 1 (by simp[Act.eval]) (by simp[Act.eval]) iI rfl (by simp[Value.oneCell']) (by simp only[maxLen];omega) (by omega) ?_
         intro gB gG Y3 kL wK wL
         have hS:Y3.cell? ⟨w.heap.size,1,none⟩=some (.slice (some ⟨b,off,none⟩) m ck)∧Y3.cell? ⟨b,off+k*3,none⟩=some (.string key):=⟨kL.aI.cell' b1 id,kL.aI.cell' c0 id⟩
         refine hK.out _ _ hS ?_
         clear hK K wK wL hP
         have gU:=ah kL;clear kL
         try simp only[Act.put,aO,aN,aJ]
         refine gJ (by kernel_rfl) (by kernel_rfl) rfl (fun K hK=>?_)
         go_simp
         refine hK.out _ _ ?_
         clear hK K iI hS
         have c1:=gU.out.aI.cell' c1 id
         have c2:=gU.out.aI.cell' c2 id
         have b1:=gU.out.aI.cell' b1 id
         go_wp2_with(first
          |(go_at_call 50;refine(HIH.out _ gU.out.aI _ (by have:=gU.out.Aa;rw[DT,List.length_append,HQ.out];exact this)).mono ?_;rintro e w3 ⟨v3,l3,rfl,ho3,hd3⟩;obtain⟨a3,c3,rfl⟩:=ho3.own.shape;have ku:=ah ho3;have dw:=ah ho3.own;clear ho3;have hd4:=congrArg List.length hd3;rw[List.length_map,List.length_map]at hd4;have HD4:=ah hd4;have HD3:=ah hd3;clear hd3 hd4;have HKK:=ah (zy.out.aS (gU.out.aI.aH dw.out.aI)))
          |(at_builtin;refine Dq _ rfl (.tmp 43) (.tmp 51) 50 50 rfl 103 i0 _ 5 64 Tryz.underlying50 hi hz0 hz1 hz2 (by decide) (by decide) _ _ _ rfl HKK.out.own.own _ l3.length _ rfl (dw.out.rd.src Tryz.underlying50 (by rw[KO]) (Le ku.out.one)) (by have:=HLEN.out;have:=HD4.out;simp only[maxLen];omega) (by have:=HLEN.out;have:=HD4.out;omega) ?_;intro EL CP w5 dP sV sW _;have OW:=ah (HKK.out.add sV sW dP (fun x hx=>(ku.out.each x hx).turn fun k _ hQ=>⟨rfl, .inr (by have h1:=fH.out.aI.size;have h2:=gU.out.aI.size;have h3:=hQ.1;omega),fun e=>by have h2:=gU.out.aI.size;have h3:=hQ.1;obtain⟨cur,h4⟩:=jB fH.out.own e;have h5:=lt_of_block h4;omega⟩) ku.out.one);clear dP sV sW))
         go_roundw
         case rel=>exact⟨k+1,l++l3,by omega,by go_num,OW.out,by rw[HD.out,uT.out,List.map_append,QD,List.map_append,HD3.out,List.append_assoc]⟩
         case measure=>simp[intOf];omega
        ·go_simp
         have hfA:aj aF Y (Y.alloc (.cells #[.string key] 9)):=aj.alloc _ _ _
         have hS:(Y.alloc (.cells #[.string key] 9)).cell? ⟨w.heap.size,1,none⟩=some (.slice (some ⟨b,off,none⟩) m ck)∧(Y.alloc (.cells #[.string key] 9)).cell? ⟨b,off+k*3,none⟩=some (.string key):=⟨hfA.cell' hS.1 id,hfA.cell' hS.2 id⟩
         have aV:=aV.aH hfA
         (try have hne:Y.heap.size≠eb:=by have:=rQ;omega)
         (try have hE:=hE.keep hfA)
         (try have hP:=hP.keep hfA)
         have iI:Rd (Y.alloc (.cells #[.string key] 9)) (.slice (some ⟨Y.heap.size,0,none⟩) 1 1) 1 [.string key]:= .inr ⟨Y.heap.size,0,1,rfl,Nat.le_refl _,by decide,fun j u hu=>by rw[Nat.zero_add];exact aG (heap_alloc_new Y _) j (by simpa using hu)⟩
         refine hK.out _ _ hS ?_
         clear hK K hfA
         obtain⟨kb,kK⟩:∃kb,Y.heap.size=kb:=⟨_,rfl⟩
         rw[kK]at iI⊢
         have hkb:kb<(Y.alloc (.cells #[.string key] 9)).heap.size:=by rw[←kK];simp
         (try rw[kK]at hne)
         clear kK
         generalize Y.alloc (.cells #[.string key] 9)=Y at*
         try simp only[Act.put,aO,aN,aJ]
         refine bg (i:=2) (by kernel_rfl) rfl (fun K hK=>?_)
         refine jl wr Y (fA pl) rfl (.tmp 32) (.tmp 33) 101 101 rfl 9 9 j0 _ 1 16 Tryz.underlying101 Tryz.underlying101 hji hy0 hy1 hy2 (by decide) (by decide) _ 0 [] hE _ q (by simp[Act.eval]) (by simp[Act.eval]) (lJ.out.aS aV) (by rw[DU,HQ.out];omega) (DV _) (by simp only[maxLen];omega) (by omega) ?_
         intro iw gI Y2 hP ql wJ
         rw[Nat.zero_add]at hP
         rw[List.nil_append]at hP
         have hS:Y2.cell? ⟨w.heap.size,1,none⟩=some (.slice (some ⟨b,off,none⟩) m ck)∧Y2.cell? ⟨b,off+k*3,none⟩=some (.string key):=⟨hP.aI.cell' b1 id,hP.aI.cell' c0 id⟩
         have aV:=hP.aI
         (try have iI:=iI.keep ql (fun x hx hr=>by simp[eG,Value.ownBlock]at hx hr;omega))
         rw[Nat.zero_add]
         refine hK.out _ _ hS ?_
         clear hK K ql wJ hE rQ
         generalize Y2=Y at*
         try simp only[Act.put,aO,aN,aJ]
         refine bg (i:=10) (by kernel_rfl) rfl (fun K hK=>?_)
         refine jl wr Y [.string key] rfl (.tmp 34) (.tmp 41) 101 101 rfl 9 9 j0 _ 1 16 Tryz.underlying101 Tryz.underlying101 hji hy0 hy1 hy2 (by decide) (by decide) _ q (fA pl) hP _ 1 (by simp[Act.eval]) (by simp[Act.eval]) iI rfl (by simp[Value.oneCell']) (by simp only[maxLen];omega) (by omega) ?_
         intro gB gG Y3 kL wK wL
         have hS:Y3.cell? ⟨w.heap.size,1,none⟩=some (.slice (some ⟨b,off,none⟩) m ck)∧Y3.cell? ⟨b,off+k*3,none⟩=some (.string key):=⟨kL.aI.cell' b1 id,kL.aI.cell' c0 id⟩
         refine hK.out _ _ hS ?_
         clear hK K wK wL hP
         have gU:=ah kL;clear kL
         try simp only[Act.put,aO,aN,aJ]
         refine gJ (by kernel_rfl) (by kernel_rfl) rfl (fun K hK=>?_)
         go_simp
         refine hK.out _ _ ?_
         clear hK K iI hS
         have c1:=gU.out.aI.cell' c1 id
         have c2:=gU.out.aI.cell' c2 id
         have b1:=gU.out.aI.cell' b1 id
         go_wp2_with(first
          |(go_at_call 50;refine(HIH.out _ gU.out.aI _ (by have:=gU.out.Aa;rw[DT,List.length_append,HQ.out];exact this)).mono ?_;rintro e w3 ⟨v3,l3,rfl,ho3,hd3⟩;obtain⟨a3,c3,rfl⟩:=ho3.own.shape;have ku:=ah ho3;have dw:=ah ho3.own;clear ho3;have hd4:=congrArg List.length hd3;rw[List.length_map,List.length_map]at hd4;have HD4:=ah hd4;have HD3:=ah hd3;clear hd3 hd4;have HKK:=ah (zy.out.aS (gU.out.aI.aH dw.out.aI)))
          |(at_builtin;refine Dq _ rfl (.tmp 43) (.tmp 51) 50 50 rfl 103 i0 _ 5 64 Tryz.underlying50 hi hz0 hz1 hz2 (by decide) (by decide) _ _ _ rfl HKK.out.own.own _ l3.length _ rfl (dw.out.rd.src Tryz.underlying50 (by rw[KO]) (Le ku.out.one)) (by have:=HLEN.out;have:=HD4.out;simp only[maxLen];omega) (by have:=HLEN.out;have:=HD4.out;omega) ?_;intro EL CP w5 dP sV sW _;have OW:=ah (HKK.out.add sV sW dP (fun x hx=>(ku.out.each x hx).turn fun k _ hQ=>⟨rfl, .inr (by have h1:=fH.out.aI.size;have h2:=gU.out.aI.size;have h3:=hQ.1;omega),fun e=>by have h2:=gU.out.aI.size;have h3:=hQ.1;obtain⟨cur,h4⟩:=jB fH.out.own e;have h5:=lt_of_block h4;omega⟩) ku.out.one);clear dP sV sW))
         go_roundw
         case rel=>exact⟨k+1,l++l3,by omega,by go_num,OW.out,by rw[HD.out,uT.out,List.map_append,QD,List.map_append,HD3.out,List.append_assoc]⟩
         case measure=>simp[intOf];omega
       ·go_simp
        have hfA:aj aF Y (Y.alloc (.cells #[.string key] 9)):=aj.alloc _ _ _
        have hS:(Y.alloc (.cells #[.string key] 9)).cell? ⟨w.heap.size,1,none⟩=some (.slice (some ⟨b,off,none⟩) m ck)∧(Y.alloc (.cells #[.string key] 9)).cell? ⟨b,off+k*3,none⟩=some (.string key):=⟨hfA.cell' hS.1 id,hfA.cell' hS.2 id⟩
        have aV:=aV.aH hfA
        (try have hne:Y.heap.size≠eb:=by have:=rQ;omega)
        (try have hE:=hE.keep hfA)
        (try have hP:=hP.keep hfA)
        have iI:Rd (Y.alloc (.cells #[.string key] 9)) (.slice (some ⟨Y.heap.size,0,none⟩) 1 1) 1 [.string key]:= .inr ⟨Y.heap.size,0,1,rfl,Nat.le_refl _,by decide,fun j u hu=>by rw[Nat.zero_add];exact aG (heap_alloc_new Y _) j (by simpa using hu)⟩
        refine hK.out _ _ hS ?_
        clear hK K hfA
        obtain⟨kb,kK⟩:∃kb,Y.heap.size=kb:=⟨_,rfl⟩
        rw[kK]at iI⊢
        have hkb:kb<(Y.alloc (.cells #[.string key] 9)).heap.size:=by rw[←kK];simp
        (try rw[kK]at hne)
        clear kK
        generalize Y.alloc (.cells #[.string key] 9)=Y at*
        try simp only[Act.put,aO,aN,aJ]
        refine bg (i:=0) (by kernel_rfl) rfl (fun K hK=>?_)
        go_simp
        have hfA:aj aF Y (Y.alloc (.cells #[] 9)):=aj.alloc _ _ _
        have hE:OwnAt wr (Y.alloc (.cells #[] 9)) 9 1 (.slice (some ⟨Y.heap.size,0,none⟩) 0 0) 0 []:=OwnAt.empty aV _ _
        have hS:(Y.alloc (.cells #[] 9)).cell? ⟨w.heap.size,1,none⟩=some (.slice (some ⟨b,off,none⟩) m ck)∧(Y.alloc (.cells #[] 9)).cell? ⟨b,off+k*3,none⟩=some (.string key):=⟨hfA.cell' hS.1 id,hfA.cell' hS.2 id⟩
        have aV:=aV.aH hfA
        (try have hne:kb≠Y.heap.size:=by have:=hkb;omega)
        (try have iI:=iI.aS hfA)
        refine hK.out _ _ hS ?_
        clear hK K hfA
        obtain⟨eb,heb⟩:∃eb,Y.heap.size=eb:=⟨_,rfl⟩
        rw[heb]at hE⊢
        have rQ:eb<(Y.alloc (.cells #[] 9)).heap.size:=by rw[←heb];simp
        (try rw[heb]at hne)
        clear heb
        generalize Y.alloc (.cells #[] 9)=Y at*
        try simp only[Act.put,aO,aN,aJ]
        refine bg (i:=2) (by kernel_rfl) rfl (fun K hK=>?_)
        refine jl wr Y (fA pl) rfl (.tmp 32) (.tmp 33) 101 101 rfl 9 9 j0 _ 1 16 Tryz.underlying101 Tryz.underlying101 hji hy0 hy1 hy2 (by decide) (by decide) _ 0 [] hE _ q (by simp[Act.eval]) (by simp[Act.eval]) (lJ.out.aS aV) (by rw[DU,HQ.out];omega) (DV _) (by simp only[maxLen];omega) (by omega) ?_
        intro iw gI Y2 hP ql wJ
        rw[Nat.zero_add]at hP
        rw[List.nil_append]at hP
        have hS:Y2.cell? ⟨w.heap.size,1,none⟩=some (.slice (some ⟨b,off,none⟩) m ck)∧Y2.cell? ⟨b,off+k*3,none⟩=some (.string key):=⟨hP.aI.cell' b1 id,hP.aI.cell' c0 id⟩
        have aV:=hP.aI
        (try have iI:=iI.keep ql (fun x hx hr=>by simp[eG,Value.ownBlock]at hx hr;omega))
        rw[Nat.zero_add]
        refine hK.out _ _ hS ?_
        clear hK K ql wJ hE rQ
        generalize Y2=Y at*
        try simp only[Act.put,aO,aN,aJ]
        refine bg (i:=10) (by kernel_rfl) rfl (fun K hK=>?_)
        refine jl wr Y [.string key] rfl (.tmp 34) (.tmp 41) 101 101 rfl 9 9 j0 _ 1 16 Tryz.underlying101 Tryz.underlying101 hji hy0 hy1 hy2 (by decide) (by decide) _ q (fA pl) hP _ 1 (by simp[Act.eval]) (by simp[Act.eval]) iI rfl (by simp[Value.oneCell']) (by simp only[maxLen];omega) (by omega) ?_
        intro gB gG Y3 kL wK wL
        have hS:Y3.cell? ⟨w.heap.size,1,none⟩=some (.slice (some ⟨b,off,none⟩) m ck)∧Y3.cell? ⟨b,off+k*3,none⟩=some (.string key):=⟨kL.aI.cell' b1 id,kL.aI.cell' c0 id⟩
        refine hK.out _ _ hS ?_
        clear hK K wK wL hP
        have gU:=ah kL;clear kL
        try simp only[Act.put,aO,aN,aJ]
        refine gJ (by kernel_rfl) (by kernel_rfl) rfl (fun K hK=>?_)
        go_simp
        refine hK.out _ _ ?_
        clear hK K iI hS
        have c1:=gU.out.aI.cell' c1 id
        have c2:=gU.out.aI.cell' c2 id
        have b1:=gU.out.aI.cell' b1 id
        go_wp2_with(first
         |(go_at_call 50;refine(HIH.out _ gU.out.aI _ (by have:=gU.out.Aa;rw[DT,List.length_append,HQ.out];exact this)).mono ?_;rintro e w3 ⟨v3,l3,rfl,ho3,hd3⟩;obtain⟨a3,c3,rfl⟩:=ho3.own.shape;have ku:=ah ho3;have dw:=ah ho3.own;clear ho3;have hd4:=congrArg List.length hd3;rw[List.length_map,List.length_map]at hd4;have HD4:=ah hd4;have HD3:=ah hd3;clear hd3 hd4;have HKK:=ah (zy.out.aS (gU.out.aI.aH dw.out.aI)))
         |(at_builtin;refine Dq _ rfl (.tmp 43) (.tmp 51) 50 50 rfl 103 i0 _ 5 64 Tryz.underlying50 hi hz0 hz1 hz2 (by decide) (by decide) _ _ _ rfl HKK.out.own.own _ l3.length _ rfl (dw.out.rd.src Tryz.underlying50 (by rw[KO]) (Le ku.out.one)) (by have:=HLEN.out;have:=HD4.out;simp only[maxLen];omega) (by have:=HLEN.out;have:=HD4.out;omega) ?_;intro EL CP w5 dP sV sW _;have OW:=ah (HKK.out.add sV sW dP (fun x hx=>(ku.out.each x hx).turn fun k _ hQ=>⟨rfl, .inr (by have h1:=fH.out.aI.size;have h2:=gU.out.aI.size;have h3:=hQ.1;omega),fun e=>by have h2:=gU.out.aI.size;have h3:=hQ.1;obtain⟨cur,h4⟩:=jB fH.out.own e;have h5:=lt_of_block h4;omega⟩) ku.out.one);clear dP sV sW))
        go_roundw
        case rel=>exact⟨k+1,l++l3,by omega,by go_num,OW.out,by rw[HD.out,uT.out,List.map_append,QD,List.map_append,HD3.out,List.append_assoc]⟩
        case measure=>simp[intOf];omega
     ·obtain rfl:m=k:=by omega
      have hd:=HD.out
      rw[aT.uP (by rw[HM.out];exact Nat.le_refl _)]at hd
      have hd2:l.map dB.con=(dI es ks).map (vJ pl):=by rw[hd];simp[fZ]
      have HD2:=ah hd2;clear hd2 hd
      go_wp2
      go_ret
      exact⟨_,l,rfl,zy.out.base eu.out,HD2.out⟩
theorem Lh (Q:Nat→Prop) (es:List aQ) (ks:aT) (w:World) (ev kv:Value) (ht:bZ Q w ev kv es ks) (hsz:sizeT es ks≤100000):
 Calls Tryz.prog 24 #[.agg #[ev,kv]] w fun e w'=>∃(v':Value) (l:List dB),e= .returned v'∧kJ aF w w' v' l∧l.map dB.con=dI es ks:=by
 obtain⟨ae,ce,rfl⟩:=ht.ents.rd.sl
 obtain⟨os,hkr,gY⟩:=ht.kids
 obtain⟨ak,ck,rfl⟩:=hkr.rd.sl
 have HC:=ah (fun W (f:aj aF w W)=>afi Q _ aF es ks W _ _ (.slice none 0 0) [] (Nat.lt_succ_self _) (ht.aS f) hsz ⟨.inl ⟨none,rfl,rfl,rfl⟩,fun h=>absurd rfl h⟩ (by unfold sizeT at hsz;simp;omega))
 clear hkr gY ht hsz
 go_enter Tryz.func24,Tryz.ntmps24
 go_wp2_with(go_at_call 50;refine(HC.out _ (aj.alloc _ _ _)).mono ?_;rintro e w3 ⟨v3,l,rfl,ho3,hd3⟩;obtain⟨a3,c3,rfl⟩:=ho3.own.shape;have dw:=ah (ho3.base (aj.alloc aF w _));clear ho3;rw[afd]at hd3;have HD3:=ah hd3;clear hd3)
 go_ret
 exact⟨_,l,rfl,dw.out,HD3.out⟩
end Go.Proofs.YtlhmbkjdfjoilaaGreat
namespace Go.Proofs.YtlhmbkjdfjoilaaGreat
def Ih (x:wH):List Lf:=(lI x.2.1++fZ x.2.2).map fun y=>(x.1::y.1,y.2)
theorem QE:∀ks:aT,fZ ks=(fE ks).flatMap Ih
 | .nil=>rfl
 | .cons key es sub rest=>by
   show(lI es++fZ sub).map (fun x=>(key::x.1,x.2))++fZ rest=Ih (key,es,sub)++(fE rest).flatMap Ih
   rw[QE rest]
   rfl
def pz (l:List bY):List Lf:=l.flatMap fun x=>dI [] x.1
theorem Xy (a b:List bY):pz (a++b)=pz a++pz b:=by simp[pz]
end Go.Proofs.YtlhmbkjdfjoilaaGreat
