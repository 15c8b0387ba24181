/- Words for the law ShardPlays: HeldTwo, Caus, JoinP, Greater. -/
import Derived.Test.YtlhmbkjdfjoilaaGreatShardPlaysG0
import Derived.Test.YtlhmbkjdfjoilaaGreatShardPlaysG2
import Derived.Test.YtlhmbkjdfjoilaaGreatShardPlaysG7
import Derived.Test.YtlhmbkjdfjoilaaGreatShardPlaysG10
set_option linter.unusedSimpArgs false
set_option linter.unusedVariables false
set_option maxHeartbeats 32000000
set_option maxRecDepth 1000000
namespace Go.Proofs.YtlhmbkjdfjoilaaGreat
open Go.RowKit
section
variable {P:Program} {md:Region.Mode} {ops:Array Oper} {Q:Exit→Act→World→Prop} {S:World→Prop} {z:Nat}
def Ei (md:Region.Mode) (ops:Array Oper) (z i:Nat):Bool:=match ops[z]? with|some o=>o.after.any fun e=>Region.binds md e&&e.on==i|none=>false
theorem acw {i:Nat} {o:Oper} (h:Ei md ops z i=true) (hz:ops[z]?=some o):∃e∈o.after,Region.binds md e=true∧e.on=i:=by
 unfold Ei at h
 rw[hz]at h
 simp only[beq_iff_eq,Array.any_eq_true,Bool.and_eq_true]at h
 obtain⟨k,hk,h2,h3⟩:=h
 exact⟨o.after[k],Array.getElem_mem hk,h2,h3⟩
theorem acy {i:Nat} {oi:Oper} {v:Value} (hi:ops[i]?=some oi) (hsel:∀(j:Nat) (o:Oper) cs b,ops[j]?=some o→o.op≠ .select cs b) (hl:Ei md ops z i=true)
 (hQ:∀c a w,Q (.panic c) (a.put oi.dst v) w→Q (.panic c) a w):
 ∀(fuel:Nat) (listed:Array Bool) (a:Act) (w:World),
  (∀j oj,ops[j]?=some oj→j≠i→listed.getD j true=false→(∀e∈oj.after,Region.binds md e=true→e.on≠i)→oi.apart ops oj=true)→
  i∈Region.ready md ops listed→YieldsIf P ops S oi v a→S w→
  jk P md ops Q S z fuel (listed.setIfInBounds i true) (a.put oi.dst v) w→jk P md ops Q S z (fuel+1) listed a w:=by
 intro fuel
 induction fuel with
 |zero=>
  intro listed a w _ hr hy hS H
  refine⟨fun h=>(by rw[h]at hr;cases hr),fun j hj=>?_⟩
  by_cases hji:j=i
  ·subst hji;exact hy.wpOp hi hS ⟨.inr hS,H⟩
  ·have:=ready_mono hj hji
   rw[H.1]at this
   cases this
 |succ fuel ih=>
  intro listed a w hfree hr hy hS H
  refine⟨fun h=>(by rw[h]at hr;cases hr),fun j hj=>?_⟩
  by_cases hji:j=i
  ·subst hji;exact hy.wpOp hi hS ⟨.inr hS,H⟩
  ·have h1:=H.2 j (ready_mono hj hji)
   obtain⟨hjun,oj,hoj,hall⟩:=mem_ready.1 hj
   have hnot:∀e∈oj.after,Region.binds md e=true→e.on≠i:=fun e he hb heq=>by
    have h1:=hall e he hb
    have h0:=(mem_ready.1 hr).1
    rw[heq]at h1
    rcases Nat.lt_or_ge i listed.size with h'|h'
    ·simp[h']at h0 h1;rw[h0]at h1;cases h1
    ·simp[Array.getElem?_eq_none h']at h1
   have hjz:j≠z:=fun hz=>by
    subst hz
    obtain⟨e,he,hb,heq⟩:=acw hl hoj
    exact hnot e he hb heq
   have h2:=wpOp_putIf hoj (hfree j oj hoj hji hjun hnot) (fun cs b=>hsel i oi cs b hi) (fun cs b=>hsel j oj cs b hoj) hQ hy h1
   have hfree':∀k ok,ops[k]?=some ok→k≠i→(listed.setIfInBounds j true).getD k true=false→
    (∀e∈ok.after,Region.binds md e=true→e.on≠i)→oi.apart ops ok=true:=fun k ok hk hki hun hno=>by
    refine hfree k ok hk hki ?_ hno
    by_cases hjk:j=k
    ·subst hjk;exact hjun
    ·rw[getD_set_ne true hjk]at hun;exact hun
   refine wpOp_mono (fun a' w' h3=>?_) h2
   have hS':S w':=h3.2.1.resolve_left hjz
   refine⟨.inr hS',ih (listed.setIfInBounds j true) a' w' hfree' (ready_mono hr (Ne.symm hji)) h3.1 hS' ?_⟩
   rw[Array.setIfInBounds_comm _ _ hji]
   exact h3.2.2
theorem Vw (i d:Nat) {oi:Oper} {v:Value} {fuel:Nat} {listed:Array Bool} {a:Act} {w:World} (hi:ops[i]?=some oi) (hd:oi.dst=some d)
 (hs:Region.noSelect ops=true) (hl:Ei md ops z i=true) (hf:Region.free md ops listed i=true) (hr:(Region.ready md ops listed).contains i=true)
 (hQ:∀c a w,Q (.panic c) (a.put (some d) v) w→Q (.panic c) a w) (hy:YieldsIf P ops S oi v a) (hS:S w)
 (h:jk P md ops Q S z fuel (listed.setIfInBounds i true) (a.put (some d) v) w):jk P md ops Q S z (fuel+1) listed a w:=
 acy hi (Region.noSelect_spec hs) hl (by rw[hd];exact hQ) fuel listed a w (Region.free_spec hi hf) (by simpa using hr) hy hS (by rw[hd];exact h)
theorem tkW (i d:Nat) {oi:Oper} {v:Value} {fuel:Nat} {listed:Array Bool} {a:Act} {w:World} (hi:ops[i]?=some oi) (hd:oi.dst=some d) (hy:YieldsIf P ops S oi v a)
 (h:jk P md ops Q S z fuel (listed.setIfInBounds i true) (a.put (some d) v) w)
 (hs:Region.noSelect ops=true:=by kernel_rfl) (hl:Ei md ops z i=true:=by kernel_rfl) (hf:Region.free md ops listed i=true:=by kernel_rfl) (hr:(Region.ready md ops listed).contains i=true:=by kernel_rfl)
 (hQ:∀c a w,Q (.panic c) (a.put (some d) v) w→Q (.panic c) a w:=by exact fun _ _ _ h=>h) (hS:S w:=by assumption):jk P md ops Q S z (fuel+1) listed a w:=
 Vw i d hi hd hs hl hf hr hQ hy hS h
theorem kV (i d:Nat) {oi:Oper} {v:Value} {fuel:Nat} {listed:Array Bool} {a:Act} {w:World} (hi:ops[i]?=some oi) (hd:oi.dst=some d)
 (h:jk P md ops Q S z fuel (listed.setIfInBounds i true) (a.put (some d) v) w) (hy:YieldsIf P ops S oi v a:=by(refine .inl ⟨by rfl,?_⟩;intro w hSw;(try dsimp only at hSw);go_simp;(try with_reducible rfl)))
 (hs:Region.noSelect ops=true:=by kernel_rfl) (hl:Ei md ops z i=true:=by kernel_rfl) (hf:Region.free md ops listed i=true:=by kernel_rfl) (hr:(Region.ready md ops listed).contains i=true:=by kernel_rfl)
 (hQ:∀c a w,Q (.panic c) (a.put (some d) v) w→Q (.panic c) a w:=by exact fun _ _ _ h=>h) (hS:S w:=by assumption):jk P md ops Q S z (fuel+1) listed a w:=
 Vw i d hi hd hs hl hf hr hQ hy hS h
theorem nU {i j:Nat} {o p:Oper} {fuel:Nat} {listed:Array Bool} {a:Act} {w:World} (hr:Region.ready md ops listed=[i,j]) (ho:ops[i]?=some o) (hp:ops[j]?=some p)
 (h:∀K':Act→World→Prop,Shut (∀a w,S w→jk P md ops Q S z fuel (listed.setIfInBounds i true) a w→K' a w)→if Region.wanted o (yielded ops a.tmps)=true then Oper.wp P o a w K' Q else K' (a.put o.dst undef) w)
 (k:∀K':Act→World→Prop,Shut (∀a w,S w→jk P md ops Q S z fuel (listed.setIfInBounds j true) a w→K' a w)→if Region.wanted p (yielded ops a.tmps)=true then Oper.wp P p a w K' Q else K' (a.put p.dst undef) w):
 jk P md ops Q S z (fuel+1) listed a w:=
 ⟨fun h0=>(by rw[hr]at h0;cases h0),fun x hx=>by
   rw[hr]at hx
   rcases List.mem_cons.1 hx with rfl|hx
   ·exact wpOp_step ho fun K' hK=>h K' fun a w hS hW=>hK a w ⟨.inr hS,hW⟩
   ·obtain rfl:x=j:=by simpa using hx
    exact wpOp_step hp fun K' hK=>k K' fun a w hS hW=>hK a w ⟨.inr hS,hW⟩⟩
theorem jl {o:Oper} {a:Act} (w0 w:World) {K:Act→World→Prop} {E:Prop} (news:List Value) (hgd:o.guard=none) (s x:Operand) (t tx:TypeId)
 (ho:o.op= .call {callee:= .builtin .append,args:= #[s,x],argTypes:= #[t,tx]})
 (e ex:TypeId) (i:TypeInfo) (zv:Value) (size bytes:Nat) (ht:P.underlying t=some (.slice e)) (htx:P.underlying tx=some (.slice ex)) (hi:P.info? e=some i) (hz:i.zero=some zv)
 (hsize:i.size=size) (hby:i.bytes=bytes) (hzs:zv.cells.size=size) (hsz:0<size)
 (v:Value) (n:Nat) (xs:List Value) (hown:OwnAt w0 w e size v n xs) (xv:Value) (m:Nat) (hv:a.eval s=v) (hx:a.eval x=xv) (hr:Rd w xv m news)
 (hnl:news.length=m*size) (h1:∀u∈news,u.oneCell'=true) (h63:n+m≤maxLen) (hbytes:(n+m)*bytes≤140737488355328)
 (h:∀ad c w',OwnAt w0 w' e size (.slice ad (n+m) c) (n+m) (xs++news)→aj (eG v) w w'→lN w v (.slice ad (n+m) c)→K (a.put o.dst (.slice ad (n+m) c)) w'):
 if Region.wanted o (yielded ops a.tmps)=true then Oper.wp P o a w K Q else E:=by
 have hw:Region.wanted o (yielded ops a.tmps)=true:=by simp[Region.wanted,hgd]
 rw[if_pos hw]
 obtain⟨v',w',hrun,h2,h3,h4,⟨ad,c',rfl⟩,h6⟩:=Dp (P:=P) w t tx o.type e i zv size bytes ht hi hz hsize hby hzs hsz v n xs hown.own _ m news (hr.src htx hnl h1) h63 hbytes
 unfold Oper.wp execOp
 simp only[ho,resolve,invoke,builtin,Sem.run_bind,Sem.run_pure,Result.andThen_ok,List.map_toArray,List.map_cons,List.map_nil,hv,hx,hrun]
 exact h ad c' w' (hown.step h2 h3 h4) h3 h4
end
open Go.RowKit
structure jA (es:List aQ) (ks:aT) (c:bD):Prop where
 tree:bM 5 es ks=true
 ctx:eP c
 dots:Uz (iY es ks) c
structure dU (Q:Nat→Prop) (w:World) (ev kv cv:Value) (es:List aQ) (ks:aT) (c:bD):Prop where
 tree:bZ Q w ev kv es ks
 ctx:je w cv c
structure iD (es:List aQ) (ks:aT) (c:bD):Prop where
 tree:lF es ks
 small:sizeT es ks≤2000
 fits:kU c
 len:c.length≤2000
theorem dU.aS {Q:Nat→Prop} {w w':World} {ev kv cv:Value} {es:List aQ} {ks:aT} {c:bD} (h:dU Q w ev kv cv es ks c) (f:aj aF w w'):dU Q w' ev kv cv es ks c:=⟨h.tree.aS f,Rd.aS h.ctx f⟩
theorem dU.shape {Q:Nat→Prop} {w:World} {ev kv cv:Value} {es:List aQ} {ks:aT} {c:bD} (h:dU Q w ev kv cv es ks c):∃a0 c0 a1 c1 a2 c2,ev= .slice a0 es.length c0∧kv= .slice a1 ks.len c1∧cv= .slice a2 c.length c2:=by
 obtain⟨a0,c0,h0⟩:=h.tree.ents.rd.sl
 obtain⟨os,hk,_⟩:=h.tree.kids
 obtain⟨a1,c1,h1⟩:=hk.rd.sl
 obtain⟨a2,c2,h2⟩:=Rd.sl h.ctx
 exact⟨a0,c0,a1,c1,a2,c2,h0,h1,h2⟩
theorem xQ (Q:Nat→Prop) (es:List aQ) (ks:aT) (c:bD) (w:World) (ev kv cv:Value) (h:dU Q w ev kv cv es ks c) (hok:iD es ks c):
 Calls Tryz.prog 40 #[.agg #[ev,kv,cv]] w fun e w'=>e= .returned (.bool (tf (jA es ks c)))∧aj aF w w':=by
 obtain⟨a0,c0,a1,c1,a2,c2,rfl,rfl,rfl⟩:=h.shape
 have HD:=ah (fun w' (f:aj aF w w')=>acu Q es ks w' _ _ (h.tree.aS f) hok.tree (Nat.le_trans hok.small (by decide)))
 have HL:=ah (fun w' (f:aj aF w w') vd d (hd:je w' vd d) (rd:eP d) (ld:d.length≤16000)=>ab1 w' vd _ d c hd (Rd.aS h.ctx f) rd.fits hok.fits (by omega) (by have:=hok.len;omega))
 clear h hok
 by_cases hr:bM 5 es ks=true
 ·have fH:=ah (Oa hr)
  have pX:=ah hr;clear hr
  have hpost:∀d,tZ (iY es ks) d→tf (eP d∧eP c∧zO d c)=tf (jA es ks c):=fun d hd=>Dv ⟨fun h=>⟨pX.out,h.2.1,(hd.leq fH.out).1 h.2.2⟩,fun h=>⟨hd.right,h.ctx,(hd.leq fH.out).2 h.dots⟩⟩
  have BQ:=ah hpost;clear hpost
  generalize tf (jA es ks c)=y at*
  generalize es.length=n at*
  generalize ks.len=m at*
  generalize c.length=k at*
  go_enter Tryz.func40,Tryz.ntmps40
  go_wp2_with(first
   |(go_at_call 69;refine(HD.out _ (aj.alloc _ _ _)).mono ?_;rintro e w1 ⟨hf1,hp1,-⟩;obtain⟨v1,d,rfl,ho1,hof,hl1⟩:=hp1 pX.out;clear hp1;obtain⟨y0,y1,y2⟩:=jc w _ _ _ _ w1 hf1;obtain⟨b1,e1,rfl⟩:=ho1.shape;have dZ:=ah ho1;clear ho1;have oq:=ah hof;clear hof;have nG:=ah hl1;clear hl1 hf1)
   |(go_at_call 70;refine(HL.out _ ((aj.alloc aF _ _).aH dZ.out.aI) _ d dZ.out.rd oq.out.right nG.out).mono ?_;rintro e w2 ⟨rfl,hw2⟩;rw[BQ.out d oq.out];have HW2:=ah hw2;clear hw2))
  go_ret
  exact⟨rfl,((aj.alloc aF _ _).aH dZ.out.aI).aH HW2.out⟩
 ·have hr':bM 5 es ks=false:=by simpa using hr
  rw[eH fun h=>hr h.tree]
  have pX:=ah hr';clear hr hr' HL
  generalize es.length=n at*
  generalize ks.len=m at*
  generalize c.length=k at*
  go_enter Tryz.func40,Tryz.ntmps40
  go_wp2_with(go_at_call 69;refine(HD.out _ (aj.alloc _ _ _)).mono ?_;rintro e w1 ⟨hf1,-,hp1⟩;obtain rfl:=hp1 pX.out;clear hp1;obtain⟨y0,y1,y2⟩:=jc w _ _ _ _ w1 hf1;have dN:=ah hf1;clear hf1)
  go_ret
  exact⟨rfl,(aj.alloc aF _ _).aH dN.out⟩
def OI (w:World) (es:List aQ) (ks:aT) (c:bD) (e:Ending) (w':World):Prop:=
 ∃ev kv cv,e= .returned (.agg #[ev,kv,cv])∧bZ (fun b=>w.heap.size≤b) w' ev kv es ks∧OwnAt w w' 92 3 cv c.length (dY c)
theorem OJ (Q:Nat→Prop) (es:List aQ) (ks:aT) (c:bD) (w:World) (ev kv cv:Value) (h:dU Q w ev kv cv es ks c) (hok:iD es ks c) (hr:jA es ks c):
 Calls Tryz.prog 44 #[.agg #[ev,kv,cv]] w (OI w es ks c):=by
 obtain⟨a0,c0,a1,c1,a2,c2,rfl,rfl,rfl⟩:=h.shape
 have HR:=ah (fun w' (f:aj aF w w')=>gu hr▸xQ Q es ks c w' _ _ _ (h.aS f) hok)
 have HT:=ah (fun w' (f:aj aF w w')=>acv Q es ks w' _ _ (h.tree.aS f) hok.tree (Nat.le_trans hok.small (by decide)) hr.tree)
 have HS:=ah (fun w' (f:aj aF w w')=>Oe w' _ c (Rd.aS h.ctx f) (by have:=hok.len;omega))
 clear h hok hr
 generalize hes:es.length=n at*
 generalize hkl:ks.len=m at*
 generalize hcl:c.length=k at*
 have Eh:=ah hes;clear hes
 have iZ:=ah hkl;clear hkl
 have rJ:=ah hcl;clear hcl
 have htb:((w.alloc (.cells #[.slice a0 n c0, .slice a1 m c1, .slice a2 k c2] 32)).alloc (.cells #[.slice none 0 0, .slice none 0 0, .slice none 0 0] 32)).heap[w.heap.size+1]?=some (.cells #[.slice none 0 0, .slice none 0 0, .slice none 0 0] 32 (0,0)):=(lY w _ _ _).1
 have GK:=ah htb;clear htb
 have hfb:aj aF (w.alloc (.cells #[.slice a0 n c0, .slice a1 m c1, .slice a2 k c2] 32)) ((w.alloc (.cells #[.slice a0 n c0, .slice a1 m c1, .slice a2 k c2] 32)).alloc (.cells #[.slice none 0 0, .slice none 0 0, .slice none 0 0] 32)):=aj.alloc _ _ _
 have b_:=ah hfb;clear hfb
 have bW:=ah (jc w (.slice a0 n c0) (.slice a1 m c1) (.slice a2 k c2) 32)
 go_enter Tryz.func44,Tryz.ntmps44
 go_wp2_with(go_at_call 40;refine(HR.out _ ((aj.alloc aF _ _).aH b_.out)).mono ?_;rintro e w1 ⟨rfl,hw1⟩;obtain⟨y0,y1,y2⟩:=bW.out w1 (b_.out.aH hw1);have hblk:=hw1.blk GK.out id;have GL:=ah hblk;clear hblk;have HW1:=ah (((aj.alloc aF _ _).aH b_.out).aH hw1);clear hw1)
 refine iq (S:=fun w'=>w'.cell? ⟨w.heap.size,0,none⟩=some (.slice a0 n c0)∧w'.cell? ⟨w.heap.size,1,none⟩=some (.slice a1 m c1)∧w'.cell? ⟨w.heap.size,2,none⟩=some (.slice a2 k c2)) 7 (by kernel_rfl) ⟨y0,y1,y2⟩ ?_
 intro hS
 have bJ:=ah (HW1.out.aH (aj.drew aF w1))
 have gX:=ah ((aj.drew aF w1).blk GL.out id)
 have hsb:w.heap.size+1<w1.drew.heap.size:=lt_of_block gX.out
 clear y0 y1 y2 HW1 GL
 generalize w1.drew=Y at*
 refine aX 0 7 rfl rfl ?_
 refine aX 1 8 rfl rfl ?_
 try simp only[Act.put,aO,aN,aJ]
 refine aX 3 10 rfl rfl ?_
 refine aX 4 11 rfl rfl ?_
 try simp only[Act.put,aO,aN,aJ]
 refine bg (i:=2) (by kernel_rfl) rfl (fun K hK=>?_)
 go_simp
 refine(HT.out _ bJ.out).mono ?_
 rintro e Y1 ⟨uX,jV,rfl,lX,hf3⟩
 obtain⟨a3,c3,rfl⟩:=lX.ents.rd.sl
 obtain⟨os3,pW,-⟩:=lX.kids
 obtain⟨a4,c4,rfl⟩:=pW.rd.sl
 clear pW
 have hS:=(⟨hf3.cell' hS.1 id,hf3.cell' hS.2.1 id,hf3.cell' hS.2.2 id⟩:Y1.cell? ⟨w.heap.size,0,none⟩=some (.slice a0 n c0)∧Y1.cell? ⟨w.heap.size,1,none⟩=some (.slice a1 m c1)∧Y1.cell? ⟨w.heap.size,2,none⟩=some (.slice a2 k c2))
 rw[Eh.out,iZ.out]
 refine hK.out _ _ hS ?_
 clear hK K
 have GH:=ah lX;clear lX
 have HF3:=ah hf3;clear hf3
 try simp only[Act.put,aO,aN,aJ]
 refine bg (i:=5) (by kernel_rfl) rfl (fun K hK=>?_)
 go_simp
 refine(HS.out _ (bJ.out.aH HF3.out)).mono ?_
 rintro e Y2 ⟨v5,rfl,lu⟩
 obtain⟨a5,c5,rfl⟩:=lu.shape
 have hS:=(⟨lu.aI.cell' hS.1 id,lu.aI.cell' hS.2.1 id,lu.aI.cell' hS.2.2 id⟩:Y2.cell? ⟨w.heap.size,0,none⟩=some (.slice a0 n c0)∧Y2.cell? ⟨w.heap.size,1,none⟩=some (.slice a1 m c1)∧Y2.cell? ⟨w.heap.size,2,none⟩=some (.slice a2 k c2))
 refine hK.out _ _ hS ?_
 clear hK K
 have lH:=ah lu;clear lu
 try simp only[Act.put,aO,aN,aJ]
 refine aX 6 13 rfl rfl ?_
 try simp only[Act.put,aO,aN,aJ]
 refine gJ (by kernel_rfl) (by kernel_rfl) rfl (fun K hK=>?_)
 have hblk:=lH.out.aI.blk (HF3.out.blk gX.out id) id
 have HR3:=ah (BP hblk ((bJ.out.aH HF3.out).aH lH.out.aI) (by omega) (.slice a3 n c3) (.slice a4 m c4) (.slice a5 k c5))
 have hs3:=HF3.out.size
 have Vx:=lt_of_block hblk
 have HP:=ah ((GH.out.aS lH.out.aI).turn (Q':=fun b=>w.heap.size≤b) fun b hb hQ=>⟨HR3.out.2.2 b (by omega),by omega⟩)
 have hown:OwnAt w (((Y2.setCell ⟨w.heap.size+1,0,none⟩ (.slice a3 n c3)).setCell ⟨w.heap.size+1,1,none⟩ (.slice a4 m c4)).setCell ⟨w.heap.size+1,2,none⟩ (.slice a5 k c5)) 92 3 (.slice a5 k c5) k (dY c):=by
  have hnew:=lH.out.new
  have um:iH (fun b=>b=w.heap.size+1) w Y2 92 3 (.slice a5 k c5) k (dY c):=⟨lH.out.base (bJ.out.aH HF3.out),fun b hb hn=>by have:=hnew b hb;omega⟩
  exact(((um.set (p:=⟨w.heap.size+1,0,none⟩) rfl (Nat.le_succ _) _).set (p:=⟨w.heap.size+1,1,none⟩) rfl (Nat.le_succ _) _).set (p:=⟨w.heap.size+1,2,none⟩) rfl (Nat.le_succ _) _).at_
 have HOW:=ah hown;clear hown
 have y0:=aG hblk 0 rfl
 have y1:=aG hblk 1 rfl
 have y2:=aG hblk 2 rfl
 have g0:=aW hblk 0
 have g1:=aW hblk 1
 have g2:=aW hblk 2
 clear hS hblk
 go_simp
 refine hK.out _ _ ?_
 clear hK K y0 y1 y2 g0 g1 g2
 go_wp2
 have y0:=aG HR3.out.1 0 rfl
 have y1:=aG HR3.out.1 1 rfl
 have y2:=aG HR3.out.1 2 rfl
 exact bodyPost_ret (v:= .agg #[.slice a3 n c3, .slice a4 m c4, .slice a5 k c5]) (by simp[results,Tryz.results44,go_sem,y0,y1,y2]) rfl ⟨_,_,_,rfl,by have:=HP.out;rw[Eh.out,iZ.out]at this;exact this,rJ.out.symm▸HOW.out⟩
end Go.Proofs.YtlhmbkjdfjoilaaGreat
namespace Go.Proofs.YtlhmbkjdfjoilaaGreat
theorem Kr:∀a:List UInt8,Op.bytesLess a a=false
 |[]=>rfl
 |x::a=>by simp[Op.bytesLess,Kr a]
theorem OL:∀a b:List UInt8,Op.bytesLess a b=false→Op.bytesLess b a=false→a=b
 |[],[],_,_=>rfl
 |[],_::_,h,_=>by simp[Op.bytesLess]at h
 |_::_,[],_,h=>by simp[Op.bytesLess]at h
 |x::a,y::b,h,h'=>by
  simp only[Op.bytesLess,Bool.or_eq_false_iff,decide_eq_false_iff_not,UInt8.not_lt]at h h'
  have e:x=y:=UInt8.le_antisymm h'.1 h.1
  subst e
  simp at h h'
  rw[OL a b h h']
theorem OM:∀a b c:List UInt8,Op.bytesLess a b=true→Op.bytesLess b c=true→Op.bytesLess a c=true
 |[],[],_,h,_=>by simp[Op.bytesLess]at h
 |[],_::_,[],_,h=>by simp[Op.bytesLess]at h
 |[],_::_,_::_,_,_=>rfl
 |_::_,[],_,h,_=>by simp[Op.bytesLess]at h
 |_::_,_::_,[],_,h=>by simp[Op.bytesLess]at h
 |x::a,y::b,z::c,h,h'=>by
  simp only[Op.bytesLess,Bool.or_eq_true,decide_eq_true_eq,Bool.and_eq_true,beq_iff_eq]at h h'⊢
  rcases h with h|⟨rfl,h⟩
  ·rcases h' with h'|⟨rfl,h'⟩
   ·exact .inl (UInt8.lt_trans h h')
   ·exact .inl h
  ·rcases h' with h'|⟨rfl,h'⟩
   ·exact .inl h'
   ·exact .inr ⟨rfl,OM a b c h h'⟩
theorem nH (a:ByteArray):dL a a=false:=Kr _
theorem BR {a b:ByteArray} (h:dL a b=false) (h':dL b a=false):a=b:=by
 have:=OL _ _ h h'
 rw[ByteArray.toList_eq,ByteArray.toList_eq]at this
 exact ByteArray.ext (Array.toList_inj.1 this)
theorem uY {a b c:ByteArray} (h:dL a b=true) (h':dL b c=true):dL a c=true:=OM _ _ _ h h'
theorem OO {a b:ByteArray} (h:dL a b=true):dL b a=false:=by
 cases h':dL b a with
 |false=>rfl
 |true=>have:=uY h h';rw[nH]at this;cases this
def ltD (x y:aQ):Bool:=qE x.dc x.n y.dc y.n
theorem uo {x y:aQ}:ltD x y=true↔x.dc<y.dc∨x.dc=y.dc∧x.n<y.n:=by unfold ltD qE;exact decide_eq_true_iff
theorem Ej {x y:aQ}:ltD x y=false↔¬(x.dc<y.dc∨x.dc=y.dc∧x.n<y.n):=by unfold ltD qE;exact decide_eq_false_iff_not
def nV (a b:aQ):Bool:=decide (a.k<b.k)||decide (a.k=b.k)&&dL a.s b.s
def nX (a b:aQ):aQ:=if nV a b=true then b else a
theorem acz {a b:aQ} (hd:a.dc=b.dc) (hn:a.n=b.n):(nX a b).dc=a.dc∧(nX a b).n=a.n:=by unfold nX;split<;>simp[hd,hn]
theorem acA (a b:aQ):nX a b=a∨nX a b=b:=by unfold nX;split<;>simp
def oC (h:Int→Int→Bool) (x:aQ):List aQ:=if h x.dc x.n=true then []else [x]
def iG (ha hb:Int→Int→Bool):List aQ→List aQ→List aQ
 |[],[]=> []
 |x::a,[]=>oC hb x++iG ha hb a []
 |[],y::b=>oC ha y++iG ha hb [] b
 |x::a,y::b=>if ltD x y=true then oC hb x++iG ha hb a (y::b)else if ltD y x=true then oC ha y++iG ha hb (x::a) b else nX x y::iG ha hb a b
termination_by a b=>a.length+b.length
theorem Kt {h:Int→Int→Bool} {x y:aQ} (hy:y∈oC h x):y=x:=by unfold oC at hy;split at hy<;>simp at hy;exact hy
theorem BU {ha hb:Int→Int→Bool} {a b:List aQ} {e:aQ} (he:e∈iG ha hb a b):e∈a∨e∈b:=by
 fun_induction iG ha hb a b with
 |case1=>cases he
 |case2 x a ih=>
  rcases List.mem_append.1 he with h|h
  ·left;rw[Kt h];simp
  ·rcases ih h with h|h
   ·left;simp[h]
   ·right;exact h
 |case3 y b ih=>
  rcases List.mem_append.1 he with h|h
  ·right;rw[Kt h];simp
  ·rcases ih h with h|h
   ·left;exact h
   ·right;simp[h]
 |case4 x a y b _ ih=>
  rcases List.mem_append.1 he with h|h
  ·left;rw[Kt h];simp
  ·rcases ih h with h|h
   ·left;simp[h]
   ·right;exact h
 |case5 x a y b _ _ ih=>
  rcases List.mem_append.1 he with h|h
  ·right;rw[Kt h];simp
  ·rcases ih h with h|h
   ·left;exact h
   ·right;simp[h]
 |case6 x a y b _ _ ih=>
  rcases List.mem_cons.1 he with h|h
  ·rcases acA x y with g|g
   ·left;rw[h,g];simp
   ·right;rw[h,g];simp
  ·rcases ih h with h|h
   ·left;simp[h]
   ·right;simp[h]
theorem Vy:∀(l:List aQ) (p:Option aQ),jg p l=true↔(∀e∈l,iW e=true)∧(∀e,l.head?=some e→xI p e=true)∧l.Pairwise fun x y=>ltD x y=true
 |[],p=>by simp[jg]
 |e::l,p=>by
  rw[jg,Bool.and_eq_true,Bool.and_eq_true,Vy l (some e)]
  simp only[List.mem_cons,forall_eq_or_imp,List.head?_cons,Option.some.injEq,forall_eq',List.pairwise_cons]
  constructor
  ·rintro⟨⟨h1,h2⟩,h3,h4,h5⟩
   refine⟨⟨h1,h3⟩,h2,fun y hy=>?_,h5⟩
   cases l with
   |nil=>cases hy
   |cons z l=>
    have hz:ltD e z=true:=h4 z rfl
    rcases List.mem_cons.1 hy with rfl|hy
    ·exact hz
    ·have:=(List.pairwise_cons.1 h5).1 y hy
     rw[uo]at hz this⊢
     omega
  ·rintro⟨⟨h1,h3⟩,h2,h4,h5⟩
   refine⟨⟨h1,h2⟩,h3,fun z hz=>?_,h5⟩
   cases l with
   |nil=>cases hz
   |cons y l=>simp at hz;subst hz;exact h4 y (by simp)
theorem GN {l:List aQ}:jg none l=true↔(∀e∈l,iW e=true)∧l.Pairwise fun x y=>ltD x y=true:=by
 rw[Vy]
 exact⟨fun h=>⟨h.1,h.2.2⟩,fun h=>⟨h.1,fun _ _=>rfl,h.2⟩⟩
theorem Ku {x y z:aQ} (h:ltD x y=true) (h':ltD y z=true):ltD x z=true:=by rw[uo]at*;omega
theorem Kv {h:Int→Int→Bool} {x:aQ} {l:List aQ} {R:aQ→aQ→Prop} (hl:l.Pairwise R) (hx:∀y∈l,R x y):(oC h x++l).Pairwise R:=by
 unfold oC
 split
 ·exact hl
 ·exact List.pairwise_cons.2 ⟨hx,hl⟩
theorem acB {ha hb:Int→Int→Bool} {a b:List aQ} (oa:a.Pairwise fun x y=>ltD x y=true) (ob:b.Pairwise fun x y=>ltD x y=true):(iG ha hb a b).Pairwise fun x y=>ltD x y=true:=by
 fun_induction iG ha hb a b with
 |case1=>exact List.Pairwise.nil
 |case2 x a ih=>
  obtain⟨h1,h2⟩:=List.pairwise_cons.1 oa
  refine Kv (ih h2 ob) fun y hy=>?_
  rcases BU hy with h|h
  ·exact h1 y h
  ·cases h
 |case3 y b ih=>
  obtain⟨h1,h2⟩:=List.pairwise_cons.1 ob
  refine Kv (ih oa h2) fun x hx=>?_
  rcases BU hx with h|h
  ·cases h
  ·exact h1 x h
 |case4 x a y b h ih=>
  obtain⟨h1,h2⟩:=List.pairwise_cons.1 oa
  obtain⟨h3,h4⟩:=List.pairwise_cons.1 ob
  refine Kv (ih h2 ob) fun z hz=>?_
  rcases BU hz with g|g
  ·exact h1 z g
  ·rcases List.mem_cons.1 g with rfl|g
   ·exact h
   ·exact Ku h (h3 z g)
 |case5 x a y b h h' ih=>
  obtain⟨h1,h2⟩:=List.pairwise_cons.1 oa
  obtain⟨h3,h4⟩:=List.pairwise_cons.1 ob
  refine Kv (ih oa h4) fun z hz=>?_
  rcases BU hz with g|g
  ·rcases List.mem_cons.1 g with rfl|g
   ·exact h'
   ·exact Ku h' (h1 z g)
  ·exact h3 z g
 |case6 x a y b h h' ih=>
  obtain⟨h1,h2⟩:=List.pairwise_cons.1 oa
  obtain⟨h3,h4⟩:=List.pairwise_cons.1 ob
  have hd:x.dc=y.dc∧x.n=y.n:=by
   have g1:=Ej.1 (by simpa using h:ltD x y=false)
   have g2:=Ej.1 (by simpa using h':ltD y x=false)
   omega
  obtain⟨q1,q2⟩:=acz hd.1 hd.2
  refine List.pairwise_cons.2 ⟨fun z hz=>?_,ih h2 h4⟩
  rcases BU hz with g|g
  ·have:=h1 z g
   rw[uo]at this⊢
   rw[q1,q2];exact this
  ·have:=h3 z g
   rw[uo]at this⊢
   rw[q1,q2,hd.1,hd.2];exact this
theorem acC {ha hb:Int→Int→Bool} {a b:List aQ} (oa:jg none a=true) (ob:jg none b=true):jg none (iG ha hb a b)=true:=by
 rw[GN]at*
 refine⟨fun e he=>?_,acB oa.2 ob.2⟩
 rcases BU he with h|h
 ·exact oa.1 e h
 ·exact ob.1 e h
def kW:List ByteArray→List ByteArray→List ByteArray
 |[],b=>b
 |x::a,[]=>x::a
 |x::a,y::b=>if dL x y=true then x::kW a (y::b)else if dL y x=true then y::kW (x::a) b else x::kW a b
termination_by a b=>a.length+b.length
theorem uq (a b:List ByteArray) (k:ByteArray):k∈kW a b↔k∈a∨k∈b:=by
 fun_induction kW a b with
 |case1 b=>simp
 |case2 x a=>simp
 |case3 x a y b h ih=>simp only[List.mem_cons,ih,or_assoc]
 |case4 x a y b h h' ih=>simp only[List.mem_cons,ih];exact or_left_comm
 |case5 x a y b h h' ih=>
  rw[BR (a:=x) (b:=y) (by simpa using h) (by simpa using h')]
  simp only[List.mem_cons,ih,or_assoc]
  exact⟨fun h=>by rcases h with h|h|h<;>simp[h],fun h=>by rcases h with h|h|h|h<;>simp[h]⟩
abbrev jL (l:List ByteArray):Prop:=l.Pairwise fun x y=>dL x y=true
theorem GR {a b:List ByteArray} (oa:jL a) (ob:jL b):jL (kW a b):=by
 fun_induction kW a b with
 |case1 b=>exact ob
 |case2 x a=>exact oa
 |case3 x a y b h ih=>
  obtain⟨h1,h2⟩:=List.pairwise_cons.1 oa
  obtain⟨h3,h4⟩:=List.pairwise_cons.1 ob
  refine List.pairwise_cons.2 ⟨fun z hz=>?_,ih h2 ob⟩
  rcases(uq _ _ _).1 hz with g|g
  ·exact h1 z g
  ·rcases List.mem_cons.1 g with rfl|g
   ·exact h
   ·exact uY h (h3 z g)
 |case4 x a y b h h' ih=>
  obtain⟨h1,h2⟩:=List.pairwise_cons.1 oa
  obtain⟨h3,h4⟩:=List.pairwise_cons.1 ob
  refine List.pairwise_cons.2 ⟨fun z hz=>?_,ih oa h4⟩
  rcases(uq _ _ _).1 hz with g|g
  ·rcases List.mem_cons.1 g with rfl|g
   ·exact h'
   ·exact uY h' (h1 z g)
  ·exact h3 z g
 |case5 x a y b h h' ih=>
  obtain⟨h1,h2⟩:=List.pairwise_cons.1 oa
  obtain⟨h3,h4⟩:=List.pairwise_cons.1 ob
  have e:=BR (by simpa using h) (by simpa using h')
  refine List.pairwise_cons.2 ⟨fun z hz=>?_,ih h2 h4⟩
  rcases(uq _ _ _).1 hz with g|g
  ·exact h1 z g
  ·rw[e];exact h3 z g
theorem OQ:∀ {a b:List ByteArray},jL a→jL b→(∀k,k∈a↔k∈b)→a=b
 |[],[],_,_,_=>rfl
 |[],y::b,_,_,h=>absurd ((h y).2 (by simp)) (by simp)
 |x::a,[],_,_,h=>absurd ((h x).1 (by simp)) (by simp)
 |x::a,y::b,oa,ob,h=>by
  obtain⟨h1,h2⟩:=List.pairwise_cons.1 oa
  obtain⟨h3,h4⟩:=List.pairwise_cons.1 ob
  have e:x=y:=by
   rcases List.mem_cons.1 ((h x).1 (by simp))with g|g
   ·exact g
   ·rcases List.mem_cons.1 ((h y).2 (by simp))with g'|g'
    ·exact g'.symm
    ·have:=OO (h1 y g');rw[h3 x g]at this;cases this
  subst e
  rw[OQ h2 h4 fun k=>?_]
  constructor
  ·intro hk
   rcases List.mem_cons.1 ((h k).1 (by simp[hk]))with g|g
   ·subst g;have:=h1 k hk;rw[nH]at this;cases this
   ·exact g
  ·intro hk
   rcases List.mem_cons.1 ((h k).2 (by simp[hk]))with g|g
   ·subst g;have:=h3 k hk;rw[nH]at this;cases this
   ·exact g
def aT.keys:aT→List ByteArray
 | .nil=> []
 | .cons key _ _ rest=>key::rest.keys
def aT.find (s:ByteArray):aT→List aQ×aT
 | .nil=>([], .nil)
 | .cons key es sub rest=>if key=s then(es,sub)else rest.find s
def lZ (key:ByteArray) (t:List aQ×aT) (rest:aT):aT:=if isNil t.1 t.2=true then rest else .cons key t.1 t.2 rest
def gQ (f:ByteArray→List aQ×aT):List ByteArray→aT
 |[]=> .nil
 |k::l=>lZ k (f k) (gQ f l)
def jM (ha hb:Int→Int→Bool):Nat→List aQ×aT→List aQ×aT→List aQ×aT
 |0,_,_=>([], .nil)
 |n+1,a,b=>(iG ha hb a.1 b.1,gQ (fun k=>jM ha hb n (a.2.find k) (b.2.find k)) (kW a.2.keys b.2.keys))
theorem qO:∀(ks:aT) (d:Nat) (p:Option ByteArray),jh ks d p=true→jL ks.keys∧∀k∈ks.keys,ltK p k=true∧oN k=true
 | .nil,_,_,_=>⟨List.Pairwise.nil,fun _ h=>by cases h⟩
 | .cons key es sub rest,d,p,h=>by
   rw[qI]at h
   simp only[Bool.and_eq_true]at h
   obtain⟨⟨⟨⟨h1,h2⟩,h3⟩,h4⟩,h5⟩:=h
   obtain⟨o,hk⟩:=qO rest d (some key) h5
   refine⟨List.pairwise_cons.2 ⟨fun k hm=>(hk k hm).1,o⟩,fun k hm=>?_⟩
   rcases List.mem_cons.1 hm with rfl|hm
   ·exact⟨h2,h1⟩
   ·refine⟨?_,(hk k hm).2⟩
    cases p with
    |none=>rfl
    |some q=>exact uY h2 (hk k hm).1
theorem uZ:∀(ks:aT) (d:Nat) (p:Option ByteArray) (s:ByteArray),jh ks d p=true→(s∈ks.keys→bM d (ks.find s).1 (ks.find s).2=true∧isNil (ks.find s).1 (ks.find s).2=false)∧(s∉ks.keys→ks.find s=([], .nil))
 | .nil,_,_,_,_=>⟨fun h=>(by cases h),fun _=>rfl⟩
 | .cons key es sub rest,d,p,s,h=>by
   rw[qI]at h
   simp only[Bool.and_eq_true,Bool.not_eq_true']at h
   obtain⟨⟨⟨⟨h1,h2⟩,h3⟩,h4⟩,h5⟩:=h
   have ih:=uZ rest d (some key) s h5
   unfold aT.find aT.keys
   by_cases e:key=s
   ·rw[if_pos e]
    exact⟨fun _=>⟨h4,h3⟩,fun hn=>absurd (by simp[e]) hn⟩
   ·rw[if_neg e]
    refine⟨fun hm=>ih.1 ?_,fun hn=>ih.2 fun hm=>hn (by simp[hm])⟩
    rcases List.mem_cons.1 hm with g|g
    ·exact absurd g.symm e
    ·exact g
theorem Vz {d:Nat} (hd:1≤d):bM d [] .nil=true:=by simp[bM,jg,jh,hd]
theorem OT {f:ByteArray→List aQ×aT} {d:Nat}:∀ {l:List ByteArray} {p:Option ByteArray},jL l→(∀k∈l,oN k=true)→(∀k∈l,ltK p k=true)→(∀k∈l,bM d (f k).1 (f k).2=true)→jh (gQ f l) d p=true
 |[],_,_,_,_,_=>rfl
 |k::l,p,o,hb,hp,hf=>by
  obtain⟨h1,h2⟩:=List.pairwise_cons.1 o
  have ih:=OT (f:=f) (d:=d) (p:=some k) h2 (fun x hx=>hb x (by simp[hx])) (fun x hx=>h1 x hx) (fun x hx=>hf x (by simp[hx]))
  unfold gQ lZ
  split
  ·exact OT h2 (fun x hx=>hb x (by simp[hx])) (fun x hx=>hp x (by simp[hx])) (fun x hx=>hf x (by simp[hx]))
  ·next hn=>
   rw[qI,hb k (by simp),hp k (by simp),hf k (by simp),ih]
   simpa using hn
theorem OX (ha hb:Int→Int→Bool):∀(n d:Nat) (a b:List aQ×aT),d≤n→bM d a.1 a.2=true→bM d b.1 b.2=true→bM d (jM ha hb n a b).1 (jM ha hb n a b).2=true:=by
 intro n
 induction n with
 |zero=>
  intro d a b hd h1 _
  simp only[bM,Bool.and_eq_true,decide_eq_true_eq]at h1
  omega
 |succ n ih=>
  intro d a b hd h1 h2
  simp only[bM,Bool.and_eq_true,decide_eq_true_eq]at h1 h2⊢
  obtain⟨⟨d1,e1⟩,k1⟩:=h1
  obtain⟨⟨_,e2⟩,k2⟩:=h2
  unfold jM
  refine⟨⟨d1,acC e1 e2⟩,?_⟩
  obtain⟨o1,q1⟩:=qO _ _ _ k1
  obtain⟨o2,q2⟩:=qO _ _ _ k2
  refine OT (GR o1 o2) (fun k hk=>?_) (fun _ _=>rfl) fun k hk=>?_
  ·rcases(uq _ _ _).1 hk with g|g
   ·exact(q1 k g).2
   ·exact(q2 k g).2
  ·have hd1:1≤d-1:=by
    rcases(uq _ _ _).1 hk with g|g
    ·have:=((uZ _ _ _ k k1).1 g).1
     simp only[bM,Bool.and_eq_true,decide_eq_true_eq]at this
     exact this.1.1
    ·have:=((uZ _ _ _ k k2).1 g).1
     simp only[bM,Bool.and_eq_true,decide_eq_true_eq]at this
     exact this.1.1
   have get:∀ks:aT,jh ks (d-1) none=true→bM (d-1) (ks.find k).1 (ks.find k).2=true:=fun ks hks=>by
    by_cases hm:k∈ks.keys
    ·exact((uZ _ _ _ k hks).1 hm).1
    ·rw[(uZ _ _ _ k hks).2 hm];exact Vz hd1
   exact ih (d-1) _ _ (by omega) (get _ k1) (get _ k2)
theorem OY:∀(ks:aT) (s:ByteArray) (r:Int×Int),r∈iY (ks.find s).1 (ks.find s).2→r∈kQ ks
 | .nil,_,_,h=>by simp[aT.find,iY,pR,kQ]at h
 | .cons key es sub rest,s,r,h=>by
   unfold aT.find at h
   unfold kQ
   split at h
   ·exact List.mem_append_left _ h
   ·exact List.mem_append_right _ (OY rest s r h)
theorem OZ {f:ByteArray→List aQ×aT} {r:Int×Int}:∀ {l:List ByteArray},r∈kQ (gQ f l)→∃k,r∈iY (f k).1 (f k).2
 |[],h=>by simp[gQ,kQ]at h
 |k::l,h=>by
  unfold gQ lZ at h
  split at h
  ·exact OZ h
  ·unfold kQ at h
   rcases List.mem_append.1 h with h|h
   ·exact⟨k,h⟩
   ·exact OZ h
theorem VA (ha hb:Int→Int→Bool) (r:Int×Int):∀(n:Nat) (a b:List aQ×aT),r∈iY (jM ha hb n a b).1 (jM ha hb n a b).2→r∈iY a.1 a.2∨r∈iY b.1 b.2
 |0,_,_,h=>by simp[jM,iY,pR,kQ]at h
 |n+1,a,b,h=>by
  unfold jM iY at h
  rcases List.mem_append.1 h with h|h
  ·obtain⟨e,he,rfl⟩:=List.mem_map.1 h
   rcases BU he with g|g
   ·left;exact List.mem_append_left _ (List.mem_map.2 ⟨e,g,rfl⟩)
   ·right;exact List.mem_append_left _ (List.mem_map.2 ⟨e,g,rfl⟩)
  ·obtain⟨k,hk⟩:=OZ h
   rcases VA ha hb r n _ _ hk with g|g
   ·left;exact List.mem_append_right _ (OY _ _ _ g)
   ·right;exact List.mem_append_right _ (OY _ _ _ g)
open Go.RowKit
theorem Kw (t:TypeId) (a b:ByteArray):binOp .gtr t (.string a) (.string b)=pure (.bool (Op.bytesLess b.toList a.toList)):=by
 have e:(!Op.bytesLess a.toList b.toList&& !a.toList==b.toList)=Op.bytesLess b.toList a.toList:=by
  cases h1:Op.bytesLess a.toList b.toList with
  |true=>
   cases h2:Op.bytesLess b.toList a.toList with
   |false=>rfl
   |true=>have:=OM _ _ _ h1 h2;rw[Kr]at this;cases this
  |false=>
   cases h2:Op.bytesLess b.toList a.toList with
   |false=>simp[OL _ _ h1 h2]
   |true=>
    have:¬a.toList=b.toList:=fun h=>by rw[h,Kr]at h2;cases h2
    simpa using this
 rw[←e]
 simp[binOp,Op.stringOp]
def pY (a b:ByteArray):Int:=if dL a b=true then-1 else if dL b a=true then 1 else 0
theorem O_ (a:ByteArray) (w:World):Calls Tryz.prog 183 #[.string a] w fun e w'=>e= .returned (.bool false)∧w'=w:=by
 go_enter Tryz.func183,Tryz.ntmps183
 go_wp2
 go_ret
 exact⟨dF (by simp),rfl⟩
theorem Pg (a b:ByteArray) (w:World):Calls Tryz.prog 150 #[.string a, .string b] w fun e w'=>e= .returned (.int .i64 (pY a b))∧w'=w:=by
 have hg:=Kw 9 a b
 unfold pY dL
 cases h1:Op.bytesLess a.toList b.toList with
 |true=>
  go_enter Tryz.func150,Tryz.ntmps150
  go_wp2_with(go_at_call 183;refine(O_ _ _).mono ?_;rintro e w' ⟨rfl,rfl⟩)
  go_ret
  exact⟨by simp,rfl⟩
 |false=>
  cases h2:Op.bytesLess b.toList a.toList with
  |true=>
   rw[h2]at hg
   go_enter Tryz.func150,Tryz.ntmps150
   go_wp2_with(go_at_call 183;refine(O_ _ _).mono ?_;rintro e w' ⟨rfl,rfl⟩)
   go_ret
   exact⟨by simp,rfl⟩
  |false=>
   rw[h2]at hg
   go_enter Tryz.func150,Tryz.ntmps150
   go_wp2_with(go_at_call 183;refine(O_ _ _).mono ?_;rintro e w' ⟨rfl,rfl⟩)
   go_ret
   exact⟨by simp,rfl⟩
theorem acD (a b:aQ):decide (xG (oh a.k b.k) (pY a.s b.s)<0)=nV a b:=by
 rw[Bool.eq_iff_iff]
 simp only[nV,decide_eq_true_eq,Bool.or_eq_true,Bool.and_eq_true]
 unfold xG oh pY
 rcases Int.lt_trichotomy a.k b.k with h|h|h
 ·simp[h]
 ·rw[h]
  cases h1:dL a.s b.s with
  |true=>simp
  |false=>cases h2:dL b.s a.s<;>simp
 ·have h1:¬a.k<b.k:=by omega
  have h2:¬a.k=b.k:=by omega
  simp[h,h1,h2]
theorem acE (a b:aQ) (w:World):Calls Tryz.prog 145 #[.agg #[.int .i64 a.dc, .int .i64 a.n, .string a.s, .int .i64 a.k], .agg #[.int .i64 b.dc, .int .i64 b.n, .string b.s, .int .i64 b.k]] w fun e w'=>
 e= .returned (.agg #[.int .i64 (nX a b).dc, .int .i64 (nX a b).n, .string (nX a b).s, .int .i64 (nX a b).k])∧aj aF w w':=by
 have hg:=acD a b
 unfold nX
 cases hq:nV a b with
 |true=>
  rw[hq]at hg
  clear hq
  obtain⟨a1,a2,a3,a4⟩:=a
  obtain⟨b1,b2,b3,b4⟩:=b
  simp only at hg⊢
  have HZ:=ah (rfl:xG (oh a4 b4) (pY a3 b3)=xG (oh a4 b4) (pY a3 b3))
  go_enter Tryz.func145,Tryz.ntmps145
  go_wp2_with fail
  go_region_held3 (fun w'=>w'.cell? ⟨w.heap.size,2,none⟩=some (.string a3)∧w'.cell? ⟨w.heap.size,3,none⟩=some (.int .i64 a4)∧w'.cell? ⟨w.heap.size+1,2,none⟩=some (.string b3)∧w'.cell? ⟨w.heap.size+1,3,none⟩=some (.int .i64 b4))
   (go_keep)
   (first
     |(go_at_call 150;refine(Pg _ _ _).mono ?_;rintro e w' ⟨rfl,rfl⟩)
     |(go_at_call 155;refine(FU _ _ _).mono ?_;rintro e w' ⟨rfl,rfl⟩)
     |(go_at_call 171;refine(Nr _ _ (oh a4 b4) (pY a3 b3) _ (by go_simp) (by go_simp)).mono ?_;rintro e w' ⟨rfl,rfl⟩))
  all_goals
   go_wp2
   refine bodyPost_ret (v:= .agg #[.int .i64 b1, .int .i64 b2, .string b3, .int .i64 b4]) (by simp[results,Tryz.results145,go_sem]) rfl ⟨rfl,by repeat(first|exact aj.refl _ _|refine aj.alloc1 ?_|refine aj.zN ?_|refine aj.iy ?_|refine aj.set1 ?_ (.inr (by simp;omega)))⟩
 |false=>
  rw[hq]at hg
  clear hq
  obtain⟨a1,a2,a3,a4⟩:=a
  obtain⟨b1,b2,b3,b4⟩:=b
  simp only at hg⊢
  have HZ:=ah (rfl:xG (oh a4 b4) (pY a3 b3)=xG (oh a4 b4) (pY a3 b3))
  go_enter Tryz.func145,Tryz.ntmps145
  go_wp2_with fail
  go_region_held3 (fun w'=>w'.cell? ⟨w.heap.size,2,none⟩=some (.string a3)∧w'.cell? ⟨w.heap.size,3,none⟩=some (.int .i64 a4)∧w'.cell? ⟨w.heap.size+1,2,none⟩=some (.string b3)∧w'.cell? ⟨w.heap.size+1,3,none⟩=some (.int .i64 b4))
   (go_keep)
   (first
     |(go_at_call 150;refine(Pg _ _ _).mono ?_;rintro e w' ⟨rfl,rfl⟩)
     |(go_at_call 155;refine(FU _ _ _).mono ?_;rintro e w' ⟨rfl,rfl⟩)
     |(go_at_call 171;refine(Nr _ _ (oh a4 b4) (pY a3 b3) _ (by go_simp) (by go_simp)).mono ?_;rintro e w' ⟨rfl,rfl⟩))
  all_goals
   go_wp2
   refine bodyPost_ret (v:= .agg #[.int .i64 a1, .int .i64 a2, .string a3, .int .i64 a4]) (by simp[results,Tryz.results145,go_sem]) rfl ⟨rfl,by repeat(first|exact aj.refl _ _|refine aj.alloc1 ?_|refine aj.zN ?_|refine aj.iy ?_|refine aj.set1 ?_ (.inr (by simp;omega)))⟩
end Go.Proofs.YtlhmbkjdfjoilaaGreat
