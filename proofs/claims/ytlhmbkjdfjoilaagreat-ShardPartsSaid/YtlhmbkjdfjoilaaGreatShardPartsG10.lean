/- Words for the law ShardParts: HeldTwo, Caus, JoinP, Greater. -/
import Derived.Test.YtlhmbkjdfjoilaaGreatShardPartsG0
import Derived.Test.YtlhmbkjdfjoilaaGreatShardPartsG2
import Derived.Test.YtlhmbkjdfjoilaaGreatShardPartsG6
import Derived.Test.YtlhmbkjdfjoilaaGreatShardPartsG9
set_option linter.unusedSimpArgs false
set_option linter.unusedVariables false
set_option maxHeartbeats 32000000
set_option maxRecDepth 1000000
namespace Go.Proofs.YtlhmbkjdfjoilaaGreat
open Go.RowKit
section
variable {P:Program} {md:Region.Mode} {ops:Array Oper} {Q:Exit→Act→World→Prop} {S:World→Prop} {z:Nat}
def yT (md:Region.Mode) (ops:Array Oper) (z i:Nat):Bool:=match ops[z]? with|some o=>o.after.any fun e=>Region.binds md e&&e.on==i|none=>false
theorem R_ {i:Nat} {o:Oper} (h:yT md ops z i=true) (hz:ops[z]?=some o):∃e∈o.after,Region.binds md e=true∧e.on=i:=by
 unfold yT at h
 rw[hz]at h
 simp only[beq_iff_eq,Array.any_eq_true,Bool.and_eq_true]at h
 obtain⟨k,hk,h2,h3⟩:=h
 exact⟨o.after[k],Array.getElem_mem hk,h2,h3⟩
theorem Si {i:Nat} {oi:Oper} {v:Value} (hi:ops[i]?=some oi) (hsel:∀(j:Nat) (o:Oper) cs b,ops[j]?=some o→o.op≠ .select cs b) (hl:yT md ops z i=true)
 (hQ:∀c a w,Q (.panic c) (a.put oi.dst v) w→Q (.panic c) a w):
 ∀(fuel:Nat) (listed:Array Bool) (a:Act) (w:World),
  (∀j oj,ops[j]?=some oj→j≠i→listed.getD j true=false→(∀e∈oj.after,Region.binds md e=true→e.on≠i)→oi.apart ops oj=true)→
  i∈Region.ready md ops listed→YieldsIf P ops S oi v a→S w→
  h_ P md ops Q S z fuel (listed.setIfInBounds i true) (a.put oi.dst v) w→h_ P md ops Q S z (fuel+1) listed a w:=by
 intro fuel
 induction fuel with
 |zero=>
  intro listed a w _ hr hy hS H
  refine⟨fun h=>(by rw[h]at hr;cases hr),fun j hj=>?_⟩
  by_cases hji:j=i
  ·subst hji;exact hy.wpOp hi hS ⟨.inr hS,H⟩
  ·have:=ready_mono hj hji
   rw[H.1]at this
   cases this
 |succ fuel ih=>
  intro listed a w hfree hr hy hS H
  refine⟨fun h=>(by rw[h]at hr;cases hr),fun j hj=>?_⟩
  by_cases hji:j=i
  ·subst hji;exact hy.wpOp hi hS ⟨.inr hS,H⟩
  ·have h1:=H.2 j (ready_mono hj hji)
   obtain⟨hjun,oj,hoj,hall⟩:=mem_ready.1 hj
   have hnot:∀e∈oj.after,Region.binds md e=true→e.on≠i:=fun e he hb heq=>by
    have h1:=hall e he hb
    have h0:=(mem_ready.1 hr).1
    rw[heq]at h1
    rcases Nat.lt_or_ge i listed.size with h'|h'
    ·simp[h']at h0 h1;rw[h0]at h1;cases h1
    ·simp[Array.getElem?_eq_none h']at h1
   have hjz:j≠z:=fun hz=>by
    subst hz
    obtain⟨e,he,hb,heq⟩:=R_ hl hoj
    exact hnot e he hb heq
   have h2:=wpOp_putIf hoj (hfree j oj hoj hji hjun hnot) (fun cs b=>hsel i oi cs b hi) (fun cs b=>hsel j oj cs b hoj) hQ hy h1
   have hfree':∀k ok,ops[k]?=some ok→k≠i→(listed.setIfInBounds j true).getD k true=false→
    (∀e∈ok.after,Region.binds md e=true→e.on≠i)→oi.apart ops ok=true:=fun k ok hk hki hun hno=>by
    refine hfree k ok hk hki ?_ hno
    by_cases hjk:j=k
    ·subst hjk;exact hjun
    ·rw[getD_set_ne true hjk]at hun;exact hun
   refine wpOp_mono (fun a' w' h3=>?_) h2
   have hS':S w':=h3.2.1.resolve_left hjz
   refine⟨.inr hS',ih (listed.setIfInBounds j true) a' w' hfree' (ready_mono hr (Ne.symm hji)) h3.1 hS' ?_⟩
   rw[Array.setIfInBounds_comm _ _ hji]
   exact h3.2.2
theorem Sj (i d:Nat) {oi:Oper} {v:Value} {fuel:Nat} {listed:Array Bool} {a:Act} {w:World} (hi:ops[i]?=some oi) (hd:oi.dst=some d)
 (hs:Region.noSelect ops=true) (hl:yT md ops z i=true) (hf:Region.free md ops listed i=true) (hr:(Region.ready md ops listed).contains i=true)
 (hQ:∀c a w,Q (.panic c) (a.put (some d) v) w→Q (.panic c) a w) (hy:YieldsIf P ops S oi v a) (hS:S w)
 (h:h_ P md ops Q S z fuel (listed.setIfInBounds i true) (a.put (some d) v) w):h_ P md ops Q S z (fuel+1) listed a w:=
 Si hi (Region.noSelect_spec hs) hl (by rw[hd];exact hQ) fuel listed a w (Region.free_spec hi hf) (by simpa using hr) hy hS (by rw[hd];exact h)
theorem iy (i d:Nat) {oi:Oper} {v:Value} {fuel:Nat} {listed:Array Bool} {a:Act} {w:World} (hi:ops[i]?=some oi) (hd:oi.dst=some d) (hy:YieldsIf P ops S oi v a)
 (h:h_ P md ops Q S z fuel (listed.setIfInBounds i true) (a.put (some d) v) w)
 (hs:Region.noSelect ops=true:=by kernel_rfl) (hl:yT md ops z i=true:=by kernel_rfl) (hf:Region.free md ops listed i=true:=by kernel_rfl) (hr:(Region.ready md ops listed).contains i=true:=by kernel_rfl)
 (hQ:∀c a w,Q (.panic c) (a.put (some d) v) w→Q (.panic c) a w:=by exact fun _ _ _ h=>h) (hS:S w:=by assumption):h_ P md ops Q S z (fuel+1) listed a w:=
 Sj i d hi hd hs hl hf hr hQ hy hS h
theorem sV {i j:Nat} {o p:Oper} {fuel:Nat} {listed:Array Bool} {a:Act} {w:World} (hr:Region.ready md ops listed=[i,j]) (ho:ops[i]?=some o) (hp:ops[j]?=some p)
 (h:∀K':Act→World→Prop,Shut (∀a w,S w→h_ P md ops Q S z fuel (listed.setIfInBounds i true) a w→K' a w)→if Region.wanted o (yielded ops a.tmps)=true then Oper.wp P o a w K' Q else K' (a.put o.dst undef) w)
 (k:∀K':Act→World→Prop,Shut (∀a w,S w→h_ P md ops Q S z fuel (listed.setIfInBounds j true) a w→K' a w)→if Region.wanted p (yielded ops a.tmps)=true then Oper.wp P p a w K' Q else K' (a.put p.dst undef) w):
 h_ P md ops Q S z (fuel+1) listed a w:=
 ⟨fun h0=>(by rw[hr]at h0;cases h0),fun x hx=>by
   rw[hr]at hx
   rcases List.mem_cons.1 hx with rfl|hx
   ·exact wpOp_step ho fun K' hK=>h K' fun a w hS hW=>hK a w ⟨.inr hS,hW⟩
   ·obtain rfl:x=j:=by simpa using hx
    exact wpOp_step hp fun K' hK=>k K' fun a w hS hW=>hK a w ⟨.inr hS,hW⟩⟩
theorem oz {o:Oper} {a:Act} (w0 w:World) {K:Act→World→Prop} {E:Prop} (news:List Value) (hgd:o.guard=none) (s x:Operand) (t tx:TypeId)
 (ho:o.op= .call {callee:= .builtin .append,args:= #[s,x],argTypes:= #[t,tx]})
 (e ex:TypeId) (i:TypeInfo) (zv:Value) (size bytes:Nat) (ht:P.underlying t=some (.slice e)) (htx:P.underlying tx=some (.slice ex)) (hi:P.info? e=some i) (hz:i.zero=some zv)
 (hsize:i.size=size) (hby:i.bytes=bytes) (hzs:zv.cells.size=size) (hsz:0<size)
 (v:Value) (n:Nat) (xs:List Value) (hown:OwnAt w0 w e size v n xs) (xv:Value) (m:Nat) (hv:a.eval s=v) (hx:a.eval x=xv) (hr:Rd w xv m news)
 (hnl:news.length=m*size) (h1:∀u∈news,u.oneCell'=true) (h63:n+m≤maxLen) (hbytes:(n+m)*bytes≤140737488355328)
 (h:∀ad c w',OwnAt w0 w' e size (.slice ad (n+m) c) (n+m) (xs++news)→aj (bY v) w w'→jk w v (.slice ad (n+m) c)→K (a.put o.dst (.slice ad (n+m) c)) w'):
 if Region.wanted o (yielded ops a.tmps)=true then Oper.wp P o a w K Q else E:=by
 have hw:Region.wanted o (yielded ops a.tmps)=true:=by simp[Region.wanted,hgd]
 rw[if_pos hw]
 obtain⟨v',w',hrun,h2,h3,h4,⟨ad,c',rfl⟩,h6⟩:=vK (P:=P) w t tx o.type e i zv size bytes ht hi hz hsize hby hzs hsz v n xs hown.own _ m news (hr.src htx hnl h1) h63 hbytes
 unfold Oper.wp execOp
 simp only[ho,resolve,invoke,builtin,Sem.run_bind,Sem.run_pure,Result.andThen_ok,List.map_toArray,List.map_cons,List.map_nil,hv,hx,hrun]
 exact h ad c' w' (hown.step h2 h3 h4) h3 h4
end
open Go.RowKit
structure f_ (es:List aF) (ks:aH) (c:aU):Prop where
 tree:aX 5 es ks=true
 ctx:bZ c
 dots:Ji (eu es ks) c
structure fP (Q:Nat→Prop) (w:World) (ev kv cv:Value) (es:List aF) (ks:aH) (c:aU):Prop where
 tree:bg Q w ev kv es ks
 ctx:eY w cv c
structure jW (es:List aF) (ks:aH) (c:aU):Prop where
 tree:iQ es ks
 small:sizeT es ks≤2000
 fits:gZ c
 len:c.length≤2000
theorem fP.aN {Q:Nat→Prop} {w w':World} {ev kv cv:Value} {es:List aF} {ks:aH} {c:aU} (h:fP Q w ev kv cv es ks c) (f:aj au w w'):fP Q w' ev kv cv es ks c:=⟨h.tree.aN f,Rd.aN h.ctx f⟩
theorem fP.shape {Q:Nat→Prop} {w:World} {ev kv cv:Value} {es:List aF} {ks:aH} {c:aU} (h:fP Q w ev kv cv es ks c):∃a0 c0 a1 c1 a2 c2,ev= .slice a0 es.length c0∧kv= .slice a1 ks.len c1∧cv= .slice a2 c.length c2:=by
 obtain⟨a0,c0,h0⟩:=h.tree.ents.rd.sl
 obtain⟨os,hk,_⟩:=h.tree.kids
 obtain⟨a1,c1,h1⟩:=hk.rd.sl
 obtain⟨a2,c2,h2⟩:=Rd.sl h.ctx
 exact⟨a0,c0,a1,c1,a2,c2,h0,h1,h2⟩
theorem sW (Q:Nat→Prop) (es:List aF) (ks:aH) (c:aU) (w:World) (ev kv cv:Value) (h:fP Q w ev kv cv es ks c) (hok:jW es ks c):
 Calls Tryz.prog 40 #[.agg #[ev,kv,cv]] w fun e w'=>e= .returned (.bool (tf (f_ es ks c)))∧aj au w w':=by
 obtain⟨a0,c0,a1,c1,a2,c2,rfl,rfl,rfl⟩:=h.shape
 have HD:=ah (fun w' (f:aj au w w')=>RY Q es ks w' _ _ (h.tree.aN f) hok.tree (Nat.le_trans hok.small (by decide)))
 have HL:=ah (fun w' (f:aj au w w') vd d (hd:eY w' vd d) (rd:bZ d) (ld:d.length≤16000)=>Rj w' vd _ d c hd (Rd.aN h.ctx f) rd.fits hok.fits (by omega) (by have:=hok.len;omega))
 clear h hok
 by_cases hr:aX 5 es ks=true
 ·have cZ:=ah (DZ hr)
  have jJ:=ah hr;clear hr
  have hpost:∀d,ng (eu es ks) d→tf (bZ d∧bZ c∧sG d c)=tf (f_ es ks c):=fun d hd=>vT ⟨fun h=>⟨jJ.out,h.2.1,(hd.leq cZ.out).1 h.2.2⟩,fun h=>⟨hd.right,h.ctx,(hd.leq cZ.out).2 h.dots⟩⟩
  have uO:=ah hpost;clear hpost
  generalize tf (f_ es ks c)=y at*
  generalize es.length=n at*
  generalize ks.len=m at*
  generalize c.length=k at*
  go_enter Tryz.func40,Tryz.ntmps40
  go_wp2_with(first
   |(go_at_call 69;refine(HD.out _ (aj.alloc _ _ _)).mono ?_;rintro e w1 ⟨hf1,hp1,-⟩;obtain⟨v1,d,rfl,ho1,hof,hl1⟩:=hp1 jJ.out;clear hp1;obtain⟨y0,y1,y2⟩:=eG w _ _ _ _ w1 hf1;obtain⟨b1,e1,rfl⟩:=ho1.shape;have dF:=ah ho1;clear ho1;have nC:=ah hof;clear hof;have jC:=ah hl1;clear hl1 hf1)
   |(go_at_call 70;refine(HL.out _ ((aj.alloc au _ _).aG dF.out.aI) _ d dF.out.rd nC.out.right jC.out).mono ?_;rintro e w2 ⟨rfl,hw2⟩;rw[uO.out d nC.out];have HW2:=ah hw2;clear hw2))
  go_ret
  exact⟨rfl,((aj.alloc au _ _).aG dF.out.aI).aG HW2.out⟩
 ·have hr':aX 5 es ks=false:=by simpa using hr
  rw[bW fun h=>hr h.tree]
  have jJ:=ah hr';clear hr hr' HL
  generalize es.length=n at*
  generalize ks.len=m at*
  generalize c.length=k at*
  go_enter Tryz.func40,Tryz.ntmps40
  go_wp2_with(go_at_call 69;refine(HD.out _ (aj.alloc _ _ _)).mono ?_;rintro e w1 ⟨hf1,-,hp1⟩;obtain rfl:=hp1 jJ.out;clear hp1;obtain⟨y0,y1,y2⟩:=eG w _ _ _ _ w1 hf1;have dB:=ah hf1;clear hf1)
  go_ret
  exact⟨rfl,(aj.alloc au _ _).aG dB.out⟩
def Sm (w:World) (es:List aF) (ks:aH) (c:aU) (e:Ending) (w':World):Prop:=
 ∃ev kv cv,e= .returned (.agg #[ev,kv,cv])∧bg (fun b=>w.heap.size≤b) w' ev kv es ks∧OwnAt w w' 92 3 cv c.length (cO c)
theorem Ku (Q:Nat→Prop) (es:List aF) (ks:aH) (c:aU) (w:World) (ev kv cv:Value) (h:fP Q w ev kv cv es ks c) (hok:jW es ks c) (hr:f_ es ks c):
 Calls Tryz.prog 44 #[.agg #[ev,kv,cv]] w (Sm w es ks c):=by
 obtain⟨a0,c0,a1,c1,a2,c2,rfl,rfl,rfl⟩:=h.shape
 have HR:=ah (fun w' (f:aj au w w')=>dD hr▸sW Q es ks c w' _ _ _ (h.aN f) hok)
 have HT:=ah (fun w' (f:aj au w w')=>RZ Q es ks w' _ _ (h.tree.aN f) hok.tree (Nat.le_trans hok.small (by decide)) hr.tree)
 have HS:=ah (fun w' (f:aj au w w')=>Eb w' _ c (Rd.aN h.ctx f) (by have:=hok.len;omega))
 clear h hok hr
 generalize hes:es.length=n at*
 generalize hkl:ks.len=m at*
 generalize hcl:c.length=k at*
 have wW:=ah hes;clear hes
 have fK:=ah hkl;clear hkl
 have qH:=ah hcl;clear hcl
 have htb:((w.alloc (.cells #[.slice a0 n c0, .slice a1 m c1, .slice a2 k c2] 32)).alloc (.cells #[.slice none 0 0, .slice none 0 0, .slice none 0 0] 32)).heap[w.heap.size+1]?=some (.cells #[.slice none 0 0, .slice none 0 0, .slice none 0 0] 32 (0,0)):=(mJ w _ _ _).1
 have EK:=ah htb;clear htb
 have hfb:aj au (w.alloc (.cells #[.slice a0 n c0, .slice a1 m c1, .slice a2 k c2] 32)) ((w.alloc (.cells #[.slice a0 n c0, .slice a1 m c1, .slice a2 k c2] 32)).alloc (.cells #[.slice none 0 0, .slice none 0 0, .slice none 0 0] 32)):=aj.alloc _ _ _
 have bf:=ah hfb;clear hfb
 have bF:=ah (eG w (.slice a0 n c0) (.slice a1 m c1) (.slice a2 k c2) 32)
 go_enter Tryz.func44,Tryz.ntmps44
 go_wp2_with(go_at_call 40;refine(HR.out _ ((aj.alloc au _ _).aG bf.out)).mono ?_;rintro e w1 ⟨rfl,hw1⟩;obtain⟨y0,y1,y2⟩:=bF.out w1 (bf.out.aG hw1);have hblk:=hw1.blk EK.out id;have yU:=ah hblk;clear hblk;have HW1:=ah (((aj.alloc au _ _).aG bf.out).aG hw1);clear hw1)
 refine iZ (S:=fun w'=>w'.cell? ⟨w.heap.size,0,none⟩=some (.slice a0 n c0)∧w'.cell? ⟨w.heap.size,1,none⟩=some (.slice a1 m c1)∧w'.cell? ⟨w.heap.size,2,none⟩=some (.slice a2 k c2)) 7 (by kernel_rfl) ⟨y0,y1,y2⟩ ?_
 intro hS
 have dM:=ah (HW1.out.aG (aj.drew au w1))
 have jR:=ah ((aj.drew au w1).blk yU.out id)
 have hsb:w.heap.size+1<w1.drew.heap.size:=lt_of_block jR.out
 clear y0 y1 y2 HW1 yU
 generalize w1.drew=Y at*
 refine aT 0 7 rfl rfl (v:=?_) (.inl ⟨by rfl,?_⟩) ?_
 rotate_left 1
 ·(intro w hSw;(try dsimp only at hSw);go_simp;(try with_reducible rfl))
 refine aT 1 8 rfl rfl (v:=?_) (.inl ⟨by rfl,?_⟩) ?_
 rotate_left 1
 ·(intro w hSw;(try dsimp only at hSw);go_simp;(try with_reducible rfl))
 try simp only[Act.put,aP,aQ,aO]
 refine aT 3 10 rfl rfl (v:=?_) (.inl ⟨by rfl,?_⟩) ?_
 rotate_left 1
 ·(intro w hSw;(try dsimp only at hSw);go_simp;(try with_reducible rfl))
 refine aT 4 11 rfl rfl (v:=?_) (.inl ⟨by rfl,?_⟩) ?_
 rotate_left 1
 ·(intro w hSw;(try dsimp only at hSw);go_simp;(try with_reducible rfl))
 try simp only[Act.put,aP,aQ,aO]
 refine bK (i:=2) (by kernel_rfl) rfl (fun K hK=>?_)
 go_simp
 refine(HT.out _ dM.out).mono ?_
 rintro e Y1 ⟨oU,jB,rfl,jh,hf3⟩
 obtain⟨a3,c3,rfl⟩:=jh.ents.rd.sl
 obtain⟨os3,kQ,-⟩:=jh.kids
 obtain⟨a4,c4,rfl⟩:=kQ.rd.sl
 clear kQ
 have hS:=(⟨hf3.cell' hS.1 id,hf3.cell' hS.2.1 id,hf3.cell' hS.2.2 id⟩:Y1.cell? ⟨w.heap.size,0,none⟩=some (.slice a0 n c0)∧Y1.cell? ⟨w.heap.size,1,none⟩=some (.slice a1 m c1)∧Y1.cell? ⟨w.heap.size,2,none⟩=some (.slice a2 k c2))
 rw[wW.out,fK.out]
 refine hK.out _ _ hS ?_
 clear hK K
 have yR:=ah jh;clear jh
 have HF3:=ah hf3;clear hf3
 try simp only[Act.put,aP,aQ,aO]
 refine bK (i:=5) (by kernel_rfl) rfl (fun K hK=>?_)
 go_simp
 refine(HS.out _ (dM.out.aG HF3.out)).mono ?_
 rintro e Y2 ⟨v5,rfl,iG⟩
 obtain⟨a5,c5,rfl⟩:=iG.shape
 have hS:=(⟨iG.aI.cell' hS.1 id,iG.aI.cell' hS.2.1 id,iG.aI.cell' hS.2.2 id⟩:Y2.cell? ⟨w.heap.size,0,none⟩=some (.slice a0 n c0)∧Y2.cell? ⟨w.heap.size,1,none⟩=some (.slice a1 m c1)∧Y2.cell? ⟨w.heap.size,2,none⟩=some (.slice a2 k c2))
 refine hK.out _ _ hS ?_
 clear hK K
 have iT:=ah iG;clear iG
 try simp only[Act.put,aP,aQ,aO]
 refine aT 6 13 rfl rfl (v:=?_) (.inl ⟨by rfl,?_⟩) ?_
 rotate_left 1
 ·(intro w hSw;(try dsimp only at hSw);go_simp;(try with_reducible rfl))
 try simp only[Act.put,aP,aQ,aO]
 refine gQ (by kernel_rfl) (by kernel_rfl) rfl (fun K hK=>?_)
 have hblk:=iT.out.aI.blk (HF3.out.blk jR.out id) id
 have HR3:=ah (wV hblk ((dM.out.aG HF3.out).aG iT.out.aI) (by omega) (.slice a3 n c3) (.slice a4 m c4) (.slice a5 k c5))
 have hs3:=HF3.out.size
 have Kv:=lt_of_block hblk
 have HP:=ah ((yR.out.aN iT.out.aI).turn (Q':=fun b=>w.heap.size≤b) fun b hb hQ=>⟨HR3.out.2.2 b (by omega),by omega⟩)
 have hown:OwnAt w (((Y2.setCell ⟨w.heap.size+1,0,none⟩ (.slice a3 n c3)).setCell ⟨w.heap.size+1,1,none⟩ (.slice a4 m c4)).setCell ⟨w.heap.size+1,2,none⟩ (.slice a5 k c5)) 92 3 (.slice a5 k c5) k (cO c):=by
  have hnew:=iT.out.new
  have oW:dU (fun b=>b=w.heap.size+1) w Y2 92 3 (.slice a5 k c5) k (cO c):=⟨iT.out.base (dM.out.aG HF3.out),fun b hb hn=>by have:=hnew b hb;omega⟩
  exact(((oW.set (p:=⟨w.heap.size+1,0,none⟩) rfl (Nat.le_succ _) _).set (p:=⟨w.heap.size+1,1,none⟩) rfl (Nat.le_succ _) _).set (p:=⟨w.heap.size+1,2,none⟩) rfl (Nat.le_succ _) _).at_
 have HOW:=ah hown;clear hown
 have y0:=aJ hblk 0 rfl
 have y1:=aJ hblk 1 rfl
 have y2:=aJ hblk 2 rfl
 have g0:=bG hblk 0
 have g1:=bG hblk 1
 have g2:=bG hblk 2
 clear hS hblk
 go_simp
 refine hK.out _ _ ?_
 clear hK K y0 y1 y2 g0 g1 g2
 go_wp2
 have y0:=aJ HR3.out.1 0 rfl
 have y1:=aJ HR3.out.1 1 rfl
 have y2:=aJ HR3.out.1 2 rfl
 exact bodyPost_ret (v:= .agg #[.slice a3 n c3, .slice a4 m c4, .slice a5 k c5]) (by simp[results,Tryz.results44,go_sem,y0,y1,y2]) rfl ⟨_,_,_,rfl,by have:=HP.out;rw[wW.out,fK.out]at this;exact this,qH.out.symm▸HOW.out⟩
end Go.Proofs.YtlhmbkjdfjoilaaGreat
namespace Go.Proofs.YtlhmbkjdfjoilaaGreat
theorem Bh:∀a:List UInt8,Op.bytesLess a a=false
 |[]=>rfl
 |x::a=>by simp[Op.bytesLess,Bh a]
theorem EL:∀a b:List UInt8,Op.bytesLess a b=false→Op.bytesLess b a=false→a=b
 |[],[],_,_=>rfl
 |[],_::_,h,_=>by simp[Op.bytesLess]at h
 |_::_,[],_,h=>by simp[Op.bytesLess]at h
 |x::a,y::b,h,h'=>by
  simp only[Op.bytesLess,Bool.or_eq_false_iff,decide_eq_false_iff_not,UInt8.not_lt]at h h'
  have e:x=y:=UInt8.le_antisymm h'.1 h.1
  subst e
  simp at h h'
  rw[EL a b h h']
theorem EM:∀a b c:List UInt8,Op.bytesLess a b=true→Op.bytesLess b c=true→Op.bytesLess a c=true
 |[],[],_,h,_=>by simp[Op.bytesLess]at h
 |[],_::_,[],_,h=>by simp[Op.bytesLess]at h
 |[],_::_,_::_,_,_=>rfl
 |_::_,[],_,h,_=>by simp[Op.bytesLess]at h
 |_::_,_::_,[],_,h=>by simp[Op.bytesLess]at h
 |x::a,y::b,z::c,h,h'=>by
  simp only[Op.bytesLess,Bool.or_eq_true,decide_eq_true_eq,Bool.and_eq_true,beq_iff_eq]at h h'⊢
  rcases h with h|⟨rfl,h⟩
  ·rcases h' with h'|⟨rfl,h'⟩
   ·exact .inl (UInt8.lt_trans h h')
   ·exact .inl h
  ·rcases h' with h'|⟨rfl,h'⟩
   ·exact .inl h'
   ·exact .inr ⟨rfl,EM a b c h h'⟩
theorem jK (a:ByteArray):bQ a a=false:=Bh _
theorem yV {a b:ByteArray} (h:bQ a b=false) (h':bQ b a=false):a=b:=by
 have:=EL _ _ h h'
 rw[ByteArray.toList_eq,ByteArray.toList_eq]at this
 exact ByteArray.ext (Array.toList_inj.1 this)
theorem oZ {a b c:ByteArray} (h:bQ a b=true) (h':bQ b c=true):bQ a c=true:=EM _ _ _ h h'
theorem Kw {a b:ByteArray} (h:bQ a b=true):bQ b a=false:=by
 cases h':bQ b a with
 |false=>rfl
 |true=>have:=oZ h h';rw[jK]at this;cases this
def ltD (x y:aF):Bool:=kX x.dc x.n y.dc y.n
theorem rJ {x y:aF}:ltD x y=true↔x.dc<y.dc∨x.dc=y.dc∧x.n<y.n:=by unfold ltD kX;exact decide_eq_true_iff
theorem yX {x y:aF}:ltD x y=false↔¬(x.dc<y.dc∨x.dc=y.dc∧x.n<y.n):=by unfold ltD kX;exact decide_eq_false_iff_not
def Bj (a b:aF):Bool:=decide (a.k<b.k)||decide (a.k=b.k)&&bQ a.s b.s
def mM (a b:aF):aF:=if Bj a b=true then b else a
theorem Sr {a b:aF} (hd:a.dc=b.dc) (hn:a.n=b.n):(mM a b).dc=a.dc∧(mM a b).n=a.n:=by unfold mM;split<;>simp[hd,hn]
theorem Sv (a b:aF):mM a b=a∨mM a b=b:=by unfold mM;split<;>simp
def kR (h:Int→Int→Bool) (x:aF):List aF:=if h x.dc x.n=true then []else [x]
def fC (ha hb:Int→Int→Bool):List aF→List aF→List aF
 |[],[]=> []
 |x::a,[]=>kR hb x++fC ha hb a []
 |[],y::b=>kR ha y++fC ha hb [] b
 |x::a,y::b=>if ltD x y=true then kR hb x++fC ha hb a (y::b)else if ltD y x=true then kR ha y++fC ha hb (x::a) b else mM x y::fC ha hb a b
termination_by a b=>a.length+b.length
theorem Bl {h:Int→Int→Bool} {x y:aF} (hy:y∈kR h x):y=x:=by unfold kR at hy;split at hy<;>simp at hy;exact hy
theorem uP {ha hb:Int→Int→Bool} {a b:List aF} {e:aF} (he:e∈fC ha hb a b):e∈a∨e∈b:=by
 fun_induction fC ha hb a b with
 |case1=>cases he
 |case2 x a ih=>
  rcases List.mem_append.1 he with h|h
  ·left;rw[Bl h];simp
  ·rcases ih h with h|h
   ·left;simp[h]
   ·right;exact h
 |case3 y b ih=>
  rcases List.mem_append.1 he with h|h
  ·right;rw[Bl h];simp
  ·rcases ih h with h|h
   ·left;exact h
   ·right;simp[h]
 |case4 x a y b _ ih=>
  rcases List.mem_append.1 he with h|h
  ·left;rw[Bl h];simp
  ·rcases ih h with h|h
   ·left;simp[h]
   ·right;exact h
 |case5 x a y b _ _ ih=>
  rcases List.mem_append.1 he with h|h
  ·right;rw[Bl h];simp
  ·rcases ih h with h|h
   ·left;exact h
   ·right;simp[h]
 |case6 x a y b _ _ ih=>
  rcases List.mem_cons.1 he with h|h
  ·rcases Sv x y with g|g
   ·left;rw[h,g];simp
   ·right;rw[h,g];simp
  ·rcases ih h with h|h
   ·left;simp[h]
   ·right;simp[h]
theorem Ky:∀(l:List aF) (p:Option aF),fE p l=true↔(∀e∈l,dZ e=true)∧(∀e,l.head?=some e→qB p e=true)∧l.Pairwise fun x y=>ltD x y=true
 |[],p=>by simp[fE]
 |e::l,p=>by
  rw[fE,Bool.and_eq_true,Bool.and_eq_true,Ky l (some e)]
  simp only[List.mem_cons,forall_eq_or_imp,List.head?_cons,Option.some.injEq,forall_eq',List.pairwise_cons]
  constructor
  ·rintro⟨⟨h1,h2⟩,h3,h4,h5⟩
   refine⟨⟨h1,h3⟩,h2,fun y hy=>?_,h5⟩
   cases l with
   |nil=>cases hy
   |cons z l=>
    have hz:ltD e z=true:=h4 z rfl
    rcases List.mem_cons.1 hy with rfl|hy
    ·exact hz
    ·have:=(List.pairwise_cons.1 h5).1 y hy
     rw[rJ]at hz this⊢
     omega
  ·rintro⟨⟨h1,h3⟩,h2,h4,h5⟩
   refine⟨⟨h1,h2⟩,h3,fun z hz=>?_,h5⟩
   cases l with
   |nil=>cases hz
   |cons y l=>simp at hz;subst hz;exact h4 y (by simp)
theorem EN {l:List aF}:fE none l=true↔(∀e∈l,dZ e=true)∧l.Pairwise fun x y=>ltD x y=true:=by
 rw[Ky]
 exact⟨fun h=>⟨h.1,h.2.2⟩,fun h=>⟨h.1,fun _ _=>rfl,h.2⟩⟩
theorem Kz {x y z:aF} (h:ltD x y=true) (h':ltD y z=true):ltD x z=true:=by rw[rJ]at*;omega
theorem Bo {h:Int→Int→Bool} {x:aF} {l:List aF} {R:aF→aF→Prop} (hl:l.Pairwise R) (hx:∀y∈l,R x y):(kR h x++l).Pairwise R:=by
 unfold kR
 split
 ·exact hl
 ·exact List.pairwise_cons.2 ⟨hx,hl⟩
theorem Sz {ha hb:Int→Int→Bool} {a b:List aF} (oa:a.Pairwise fun x y=>ltD x y=true) (ob:b.Pairwise fun x y=>ltD x y=true):(fC ha hb a b).Pairwise fun x y=>ltD x y=true:=by
 fun_induction fC ha hb a b with
 |case1=>exact List.Pairwise.nil
 |case2 x a ih=>
  obtain⟨h1,h2⟩:=List.pairwise_cons.1 oa
  refine Bo (ih h2 ob) fun y hy=>?_
  rcases uP hy with h|h
  ·exact h1 y h
  ·cases h
 |case3 y b ih=>
  obtain⟨h1,h2⟩:=List.pairwise_cons.1 ob
  refine Bo (ih oa h2) fun x hx=>?_
  rcases uP hx with h|h
  ·cases h
  ·exact h1 x h
 |case4 x a y b h ih=>
  obtain⟨h1,h2⟩:=List.pairwise_cons.1 oa
  obtain⟨h3,h4⟩:=List.pairwise_cons.1 ob
  refine Bo (ih h2 ob) fun z hz=>?_
  rcases uP hz with g|g
  ·exact h1 z g
  ·rcases List.mem_cons.1 g with rfl|g
   ·exact h
   ·exact Kz h (h3 z g)
 |case5 x a y b h h' ih=>
  obtain⟨h1,h2⟩:=List.pairwise_cons.1 oa
  obtain⟨h3,h4⟩:=List.pairwise_cons.1 ob
  refine Bo (ih oa h4) fun z hz=>?_
  rcases uP hz with g|g
  ·rcases List.mem_cons.1 g with rfl|g
   ·exact h'
   ·exact Kz h' (h1 z g)
  ·exact h3 z g
 |case6 x a y b h h' ih=>
  obtain⟨h1,h2⟩:=List.pairwise_cons.1 oa
  obtain⟨h3,h4⟩:=List.pairwise_cons.1 ob
  have hd:x.dc=y.dc∧x.n=y.n:=by
   have g1:=yX.1 (by simpa using h:ltD x y=false)
   have g2:=yX.1 (by simpa using h':ltD y x=false)
   omega
  obtain⟨q1,q2⟩:=Sr hd.1 hd.2
  refine List.pairwise_cons.2 ⟨fun z hz=>?_,ih h2 h4⟩
  rcases uP hz with g|g
  ·have:=h1 z g
   rw[rJ]at this⊢
   rw[q1,q2];exact this
  ·have:=h3 z g
   rw[rJ]at this⊢
   rw[q1,q2,hd.1,hd.2];exact this
theorem SA {ha hb:Int→Int→Bool} {a b:List aF} (oa:fE none a=true) (ob:fE none b=true):fE none (fC ha hb a b)=true:=by
 rw[EN]at*
 refine⟨fun e he=>?_,Sz oa.2 ob.2⟩
 rcases uP he with h|h
 ·exact oa.1 e h
 ·exact ob.1 e h
def iU:List ByteArray→List ByteArray→List ByteArray
 |[],b=>b
 |x::a,[]=>x::a
 |x::a,y::b=>if bQ x y=true then x::iU a (y::b)else if bQ y x=true then y::iU (x::a) b else x::iU a b
termination_by a b=>a.length+b.length
theorem qJ (a b:List ByteArray) (k:ByteArray):k∈iU a b↔k∈a∨k∈b:=by
 fun_induction iU a b with
 |case1 b=>simp
 |case2 x a=>simp
 |case3 x a y b h ih=>simp only[List.mem_cons,ih,or_assoc]
 |case4 x a y b h h' ih=>simp only[List.mem_cons,ih];exact or_left_comm
 |case5 x a y b h h' ih=>
  rw[yV (a:=x) (b:=y) (by simpa using h) (by simpa using h')]
  simp only[List.mem_cons,ih,or_assoc]
  exact⟨fun h=>by rcases h with h|h|h<;>simp[h],fun h=>by rcases h with h|h|h|h<;>simp[h]⟩
abbrev gI (l:List ByteArray):Prop:=l.Pairwise fun x y=>bQ x y=true
theorem yY {a b:List ByteArray} (oa:gI a) (ob:gI b):gI (iU a b):=by
 fun_induction iU a b with
 |case1 b=>exact ob
 |case2 x a=>exact oa
 |case3 x a y b h ih=>
  obtain⟨h1,h2⟩:=List.pairwise_cons.1 oa
  obtain⟨h3,h4⟩:=List.pairwise_cons.1 ob
  refine List.pairwise_cons.2 ⟨fun z hz=>?_,ih h2 ob⟩
  rcases(qJ _ _ _).1 hz with g|g
  ·exact h1 z g
  ·rcases List.mem_cons.1 g with rfl|g
   ·exact h
   ·exact oZ h (h3 z g)
 |case4 x a y b h h' ih=>
  obtain⟨h1,h2⟩:=List.pairwise_cons.1 oa
  obtain⟨h3,h4⟩:=List.pairwise_cons.1 ob
  refine List.pairwise_cons.2 ⟨fun z hz=>?_,ih oa h4⟩
  rcases(qJ _ _ _).1 hz with g|g
  ·rcases List.mem_cons.1 g with rfl|g
   ·exact h'
   ·exact oZ h' (h1 z g)
  ·exact h3 z g
 |case5 x a y b h h' ih=>
  obtain⟨h1,h2⟩:=List.pairwise_cons.1 oa
  obtain⟨h3,h4⟩:=List.pairwise_cons.1 ob
  have e:=yV (by simpa using h) (by simpa using h')
  refine List.pairwise_cons.2 ⟨fun z hz=>?_,ih h2 h4⟩
  rcases(qJ _ _ _).1 hz with g|g
  ·exact h1 z g
  ·rw[e];exact h3 z g
theorem EO:∀ {a b:List ByteArray},gI a→gI b→(∀k,k∈a↔k∈b)→a=b
 |[],[],_,_,_=>rfl
 |[],y::b,_,_,h=>absurd ((h y).2 (by simp)) (by simp)
 |x::a,[],_,_,h=>absurd ((h x).1 (by simp)) (by simp)
 |x::a,y::b,oa,ob,h=>by
  obtain⟨h1,h2⟩:=List.pairwise_cons.1 oa
  obtain⟨h3,h4⟩:=List.pairwise_cons.1 ob
  have e:x=y:=by
   rcases List.mem_cons.1 ((h x).1 (by simp))with g|g
   ·exact g
   ·rcases List.mem_cons.1 ((h y).2 (by simp))with g'|g'
    ·exact g'.symm
    ·have:=Kw (h1 y g');rw[h3 x g]at this;cases this
  subst e
  rw[EO h2 h4 fun k=>?_]
  constructor
  ·intro hk
   rcases List.mem_cons.1 ((h k).1 (by simp[hk]))with g|g
   ·subst g;have:=h1 k hk;rw[jK]at this;cases this
   ·exact g
  ·intro hk
   rcases List.mem_cons.1 ((h k).2 (by simp[hk]))with g|g
   ·subst g;have:=h3 k hk;rw[jK]at this;cases this
   ·exact g
def aH.keys:aH→List ByteArray
 | .nil=> []
 | .cons key _ _ rest=>key::rest.keys
def aH.find (s:ByteArray):aH→List aF×aH
 | .nil=>([], .nil)
 | .cons key es sub rest=>if key=s then(es,sub)else rest.find s
def jL (key:ByteArray) (t:List aF×aH) (rest:aH):aH:=if isNil t.1 t.2=true then rest else .cons key t.1 t.2 rest
def eH (f:ByteArray→List aF×aH):List ByteArray→aH
 |[]=> .nil
 |k::l=>jL k (f k) (eH f l)
def iC (ha hb:Int→Int→Bool):Nat→List aF×aH→List aF×aH→List aF×aH
 |0,_,_=>([], .nil)
 |n+1,a,b=>(fC ha hb a.1 b.1,eH (fun k=>iC ha hb n (a.2.find k) (b.2.find k)) (iU a.2.keys b.2.keys))
theorem oC:∀(ks:aH) (d:Nat) (p:Option ByteArray),fV ks d p=true→gI ks.keys∧∀k∈ks.keys,ltK p k=true∧lJ k=true
 | .nil,_,_,_=>⟨List.Pairwise.nil,fun _ h=>by cases h⟩
 | .cons key es sub rest,d,p,h=>by
   rw[n_]at h
   simp only[Bool.and_eq_true]at h
   obtain⟨⟨⟨⟨h1,h2⟩,h3⟩,h4⟩,h5⟩:=h
   obtain⟨o,hk⟩:=oC rest d (some key) h5
   refine⟨List.pairwise_cons.2 ⟨fun k hm=>(hk k hm).1,o⟩,fun k hm=>?_⟩
   rcases List.mem_cons.1 hm with rfl|hm
   ·exact⟨h2,h1⟩
   ·refine⟨?_,(hk k hm).2⟩
    cases p with
    |none=>rfl
    |some q=>exact oZ h2 (hk k hm).1
theorem sZ:∀(ks:aH) (d:Nat) (p:Option ByteArray) (s:ByteArray),fV ks d p=true→(s∈ks.keys→aX d (ks.find s).1 (ks.find s).2=true∧isNil (ks.find s).1 (ks.find s).2=false)∧(s∉ks.keys→ks.find s=([], .nil))
 | .nil,_,_,_,_=>⟨fun h=>(by cases h),fun _=>rfl⟩
 | .cons key es sub rest,d,p,s,h=>by
   rw[n_]at h
   simp only[Bool.and_eq_true,Bool.not_eq_true']at h
   obtain⟨⟨⟨⟨h1,h2⟩,h3⟩,h4⟩,h5⟩:=h
   have ih:=sZ rest d (some key) s h5
   unfold aH.find aH.keys
   by_cases e:key=s
   ·rw[if_pos e]
    exact⟨fun _=>⟨h4,h3⟩,fun hn=>absurd (by simp[e]) hn⟩
   ·rw[if_neg e]
    refine⟨fun hm=>ih.1 ?_,fun hn=>ih.2 fun hm=>hn (by simp[hm])⟩
    rcases List.mem_cons.1 hm with g|g
    ·exact absurd g.symm e
    ·exact g
theorem KA {d:Nat} (hd:1≤d):aX d [] .nil=true:=by simp[aX,fE,fV,hd]
theorem EP {f:ByteArray→List aF×aH} {d:Nat}:∀ {l:List ByteArray} {p:Option ByteArray},gI l→(∀k∈l,lJ k=true)→(∀k∈l,ltK p k=true)→(∀k∈l,aX d (f k).1 (f k).2=true)→fV (eH f l) d p=true
 |[],_,_,_,_,_=>rfl
 |k::l,p,o,hb,hp,hf=>by
  obtain⟨h1,h2⟩:=List.pairwise_cons.1 o
  have ih:=EP (f:=f) (d:=d) (p:=some k) h2 (fun x hx=>hb x (by simp[hx])) (fun x hx=>h1 x hx) (fun x hx=>hf x (by simp[hx]))
  unfold eH jL
  split
  ·exact EP h2 (fun x hx=>hb x (by simp[hx])) (fun x hx=>hp x (by simp[hx])) (fun x hx=>hf x (by simp[hx]))
  ·next hn=>
   rw[n_,hb k (by simp),hp k (by simp),hf k (by simp),ih]
   simpa using hn
theorem SB (ha hb:Int→Int→Bool):∀(n d:Nat) (a b:List aF×aH),d≤n→aX d a.1 a.2=true→aX d b.1 b.2=true→aX d (iC ha hb n a b).1 (iC ha hb n a b).2=true:=by
 intro n
 induction n with
 |zero=>
  intro d a b hd h1 _
  simp only[aX,Bool.and_eq_true,decide_eq_true_eq]at h1
  omega
 |succ n ih=>
  intro d a b hd h1 h2
  simp only[aX,Bool.and_eq_true,decide_eq_true_eq]at h1 h2⊢
  obtain⟨⟨d1,e1⟩,k1⟩:=h1
  obtain⟨⟨_,e2⟩,k2⟩:=h2
  unfold iC
  refine⟨⟨d1,SA e1 e2⟩,?_⟩
  obtain⟨o1,q1⟩:=oC _ _ _ k1
  obtain⟨o2,q2⟩:=oC _ _ _ k2
  refine EP (yY o1 o2) (fun k hk=>?_) (fun _ _=>rfl) fun k hk=>?_
  ·rcases(qJ _ _ _).1 hk with g|g
   ·exact(q1 k g).2
   ·exact(q2 k g).2
  ·have hd1:1≤d-1:=by
    rcases(qJ _ _ _).1 hk with g|g
    ·have:=((sZ _ _ _ k k1).1 g).1
     simp only[aX,Bool.and_eq_true,decide_eq_true_eq]at this
     exact this.1.1
    ·have:=((sZ _ _ _ k k2).1 g).1
     simp only[aX,Bool.and_eq_true,decide_eq_true_eq]at this
     exact this.1.1
   have get:∀ks:aH,fV ks (d-1) none=true→aX (d-1) (ks.find k).1 (ks.find k).2=true:=fun ks hks=>by
    by_cases hm:k∈ks.keys
    ·exact((sZ _ _ _ k hks).1 hm).1
    ·rw[(sZ _ _ _ k hks).2 hm];exact KA hd1
   exact ih (d-1) _ _ (by omega) (get _ k1) (get _ k2)
theorem ER:∀(ks:aH) (s:ByteArray) (r:Int×Int),r∈eu (ks.find s).1 (ks.find s).2→r∈g_ ks
 | .nil,_,_,h=>by simp[aH.find,eu,kM,g_]at h
 | .cons key es sub rest,s,r,h=>by
   unfold aH.find at h
   unfold g_
   split at h
   ·exact List.mem_append_left _ h
   ·exact List.mem_append_right _ (ER rest s r h)
theorem ES {f:ByteArray→List aF×aH} {r:Int×Int}:∀ {l:List ByteArray},r∈g_ (eH f l)→∃k,r∈eu (f k).1 (f k).2
 |[],h=>by simp[eH,g_]at h
 |k::l,h=>by
  unfold eH jL at h
  split at h
  ·exact ES h
  ·unfold g_ at h
   rcases List.mem_append.1 h with h|h
   ·exact⟨k,h⟩
   ·exact ES h
theorem KC (ha hb:Int→Int→Bool) (r:Int×Int):∀(n:Nat) (a b:List aF×aH),r∈eu (iC ha hb n a b).1 (iC ha hb n a b).2→r∈eu a.1 a.2∨r∈eu b.1 b.2
 |0,_,_,h=>by simp[iC,eu,kM,g_]at h
 |n+1,a,b,h=>by
  unfold iC eu at h
  rcases List.mem_append.1 h with h|h
  ·obtain⟨e,he,rfl⟩:=List.mem_map.1 h
   rcases uP he with g|g
   ·left;exact List.mem_append_left _ (List.mem_map.2 ⟨e,g,rfl⟩)
   ·right;exact List.mem_append_left _ (List.mem_map.2 ⟨e,g,rfl⟩)
  ·obtain⟨k,hk⟩:=ES h
   rcases KC ha hb r n _ _ hk with g|g
   ·left;exact List.mem_append_right _ (ER _ _ _ g)
   ·right;exact List.mem_append_right _ (ER _ _ _ g)
open Go.RowKit
theorem ET (t:TypeId) (a b:ByteArray):binOp .gtr t (.string a) (.string b)=pure (.bool (Op.bytesLess b.toList a.toList)):=by
 have e:(!Op.bytesLess a.toList b.toList&& !a.toList==b.toList)=Op.bytesLess b.toList a.toList:=by
  cases h1:Op.bytesLess a.toList b.toList with
  |true=>
   cases h2:Op.bytesLess b.toList a.toList with
   |false=>rfl
   |true=>have:=EM _ _ _ h1 h2;rw[Bh]at this;cases this
  |false=>
   cases h2:Op.bytesLess b.toList a.toList with
   |false=>simp[EL _ _ h1 h2]
   |true=>
    have:¬a.toList=b.toList:=fun h=>by rw[h,Bh]at h2;cases h2
    simpa using this
 rw[←e]
 simp[binOp,Op.stringOp]
def kS (a b:ByteArray):Int:=if bQ a b=true then-1 else if bQ b a=true then 1 else 0
theorem EU (a:ByteArray) (w:World):Calls Tryz.prog 183 #[.string a] w fun e w'=>e= .returned (.bool false)∧w'=w:=by
 go_enter Tryz.func183,Tryz.ntmps183
 go_wp2
 go_ret
 exact⟨bI (by simp),rfl⟩
theorem EW (a b:ByteArray) (w:World):Calls Tryz.prog 150 #[.string a, .string b] w fun e w'=>e= .returned (.int .i64 (kS a b))∧w'=w:=by
 have hg:=ET 9 a b
 unfold kS bQ
 cases h1:Op.bytesLess a.toList b.toList with
 |true=>
  go_enter Tryz.func150,Tryz.ntmps150
  go_wp2_with(go_at_call 183;refine(EU _ _).mono ?_;rintro e w' ⟨rfl,rfl⟩)
  go_ret
  exact⟨by simp,rfl⟩
 |false=>
  cases h2:Op.bytesLess b.toList a.toList with
  |true=>
   rw[h2]at hg
   go_enter Tryz.func150,Tryz.ntmps150
   go_wp2_with(go_at_call 183;refine(EU _ _).mono ?_;rintro e w' ⟨rfl,rfl⟩)
   go_ret
   exact⟨by simp,rfl⟩
  |false=>
   rw[h2]at hg
   go_enter Tryz.func150,Tryz.ntmps150
   go_wp2_with(go_at_call 183;refine(EU _ _).mono ?_;rintro e w' ⟨rfl,rfl⟩)
   go_ret
   exact⟨by simp,rfl⟩
theorem SC (a b:aF):decide (qx (jQ a.k b.k) (kS a.s b.s)<0)=Bj a b:=by
 rw[Bool.eq_iff_iff]
 simp only[Bj,decide_eq_true_eq,Bool.or_eq_true,Bool.and_eq_true]
 unfold qx jQ kS
 rcases Int.lt_trichotomy a.k b.k with h|h|h
 ·simp[h]
 ·rw[h]
  cases h1:bQ a.s b.s with
  |true=>simp
  |false=>cases h2:bQ b.s a.s<;>simp
 ·have h1:¬a.k<b.k:=by omega
  have h2:¬a.k=b.k:=by omega
  simp[h,h1,h2]
theorem SE (a b:aF) (w:World):Calls Tryz.prog 145 #[.agg #[.int .i64 a.dc, .int .i64 a.n, .string a.s, .int .i64 a.k], .agg #[.int .i64 b.dc, .int .i64 b.n, .string b.s, .int .i64 b.k]] w fun e w'=>
 e= .returned (.agg #[.int .i64 (mM a b).dc, .int .i64 (mM a b).n, .string (mM a b).s, .int .i64 (mM a b).k])∧aj au w w':=by
 have hg:=SC a b
 unfold mM
 cases hq:Bj a b with
 |true=>
  rw[hq]at hg
  clear hq
  obtain⟨a1,a2,a3,a4⟩:=a
  obtain⟨b1,b2,b3,b4⟩:=b
  simp only at hg⊢
  have HZ:=ah (rfl:qx (jQ a4 b4) (kS a3 b3)=qx (jQ a4 b4) (kS a3 b3))
  go_enter Tryz.func145,Tryz.ntmps145
  go_wp2_with fail
  go_region_held3 (fun w'=>w'.cell? ⟨w.heap.size,2,none⟩=some (.string a3)∧w'.cell? ⟨w.heap.size,3,none⟩=some (.int .i64 a4)∧w'.cell? ⟨w.heap.size+1,2,none⟩=some (.string b3)∧w'.cell? ⟨w.heap.size+1,3,none⟩=some (.int .i64 b4))
   (go_keep)
   (first
     |(go_at_call 150;refine(EW _ _ _).mono ?_;rintro e w' ⟨rfl,rfl⟩)
     |(go_at_call 155;refine(yc _ _ _).mono ?_;rintro e w' ⟨rfl,rfl⟩)
     |(go_at_call 171;refine(Dq _ _ (jQ a4 b4) (kS a3 b3) _ (by go_simp) (by go_simp)).mono ?_;rintro e w' ⟨rfl,rfl⟩))
  all_goals
   go_wp2
   refine bodyPost_ret (v:= .agg #[.int .i64 b1, .int .i64 b2, .string b3, .int .i64 b4]) (by simp[results,Tryz.results145,go_sem]) rfl ⟨rfl,by repeat(first|exact aj.refl _ _|refine aj.alloc1 ?_|refine aj.sF ?_|refine aj.fG ?_|refine aj.set1 ?_ (.inr (by simp;omega)))⟩
 |false=>
  rw[hq]at hg
  clear hq
  obtain⟨a1,a2,a3,a4⟩:=a
  obtain⟨b1,b2,b3,b4⟩:=b
  simp only at hg⊢
  have HZ:=ah (rfl:qx (jQ a4 b4) (kS a3 b3)=qx (jQ a4 b4) (kS a3 b3))
  go_enter Tryz.func145,Tryz.ntmps145
  go_wp2_with fail
  go_region_held3 (fun w'=>w'.cell? ⟨w.heap.size,2,none⟩=some (.string a3)∧w'.cell? ⟨w.heap.size,3,none⟩=some (.int .i64 a4)∧w'.cell? ⟨w.heap.size+1,2,none⟩=some (.string b3)∧w'.cell? ⟨w.heap.size+1,3,none⟩=some (.int .i64 b4))
   (go_keep)
   (first
     |(go_at_call 150;refine(EW _ _ _).mono ?_;rintro e w' ⟨rfl,rfl⟩)
     |(go_at_call 155;refine(yc _ _ _).mono ?_;rintro e w' ⟨rfl,rfl⟩)
     |(go_at_call 171;refine(Dq _ _ (jQ a4 b4) (kS a3 b3) _ (by go_simp) (by go_simp)).mono ?_;rintro e w' ⟨rfl,rfl⟩))
  all_goals
   go_wp2
   refine bodyPost_ret (v:= .agg #[.int .i64 a1, .int .i64 a2, .string a3, .int .i64 a4]) (by simp[results,Tryz.results145,go_sem]) rfl ⟨rfl,by repeat(first|exact aj.refl _ _|refine aj.alloc1 ?_|refine aj.sF ?_|refine aj.fG ?_|refine aj.set1 ?_ (.inr (by simp;omega)))⟩
end Go.Proofs.YtlhmbkjdfjoilaaGreat
