/- Words for the law ShSet: TDots, HeldTwo, Caus, JoinP, Greater. -/
import Derived.Test.YtlhmbkjdfjoilaaGreatShSetG0
import Derived.Test.YtlhmbkjdfjoilaaGreatShSetG2
import Derived.Test.YtlhmbkjdfjoilaaGreatShSetG4
import Derived.Test.YtlhmbkjdfjoilaaGreatShSetG7
import Derived.Test.YtlhmbkjdfjoilaaGreatShSetG8
import Derived.Test.YtlhmbkjdfjoilaaGreatShSetG9
set_option linter.unusedSimpArgs false
set_option linter.unusedVariables false
set_option maxHeartbeats 32000000
set_option maxRecDepth 1000000
namespace Go.Proofs.YtlhmbkjdfjoilaaGreat
open Go.RowKit
theorem xq (Q:Nat→Prop) (es:List aG) (ks:aH) (w:World) (ev kv:Value) (ht:bC Q w ev kv es ks) (hok:iE es ks):
 Calls Tryz.prog 89 #[.agg #[ev,kv]] w fun e w'=>e= .returned (.bool (aY 5 es ks))∧aj au w w':=by
 obtain⟨ae,ce,rfl⟩:=ht.ents.rd.sl
 obtain⟨os,hkr,dU⟩:=ht.kids
 obtain⟨ak,ck,rfl⟩:=hkr.rd.sl
 have hc:∀W,aj au w W→Calls Tryz.prog 125 #[.agg #[.slice ae es.length ce, .slice ak ks.len ck], .int .i64 5] W fun e w'=>e= .returned (.bool (aY 5 es ks))∧aj au W w':=fun W f=>Qo Q _ es ks 5 W _ _ (Nat.lt_succ_self _) (ht.aN f) hok (by omega)
 have HC:=ah hc
 clear hkr dU ht hok hc
 generalize aY 5 es ks=y at*
 generalize es.length=n at*
 generalize ks.len=m at*
 go_enter Tryz.func89,Tryz.ntmps89
 go_wp2_with(go_at_call 125;refine(HC.out _ (aj.alloc _ _ _)).mono ?_;rintro e w3 ⟨rfl,hw3⟩;have HW3:=ah ((aj.alloc au _ _).aF hw3);clear hw3)
 go_ret
 exact⟨rfl,HW3.out⟩
def Dq (w:World) (es:List aG) (ks:aH) (e:Ending) (w':World):Prop:=
 aj au w w'∧(aY 5 es ks=true→∃v' c,e= .returned (.tuple #[v', .int .i64 0])∧OwnAt w w' 92 3 v' c.length (bU c)∧mg (dX es ks) c∧c.length≤16000)∧(aY 5 es ks=false→e= .returned (.tuple #[.slice none 0 0, .int .i64 1]))
theorem Qz (Q:Nat→Prop) (es:List aG) (ks:aH) (w:World) (ev kv:Value) (ht:bC Q w ev kv es ks) (hok:iE es ks) (hsz:sizeT es ks≤4000):
 Calls Tryz.prog 69 #[.agg #[ev,kv]] w (Dq w es ks):=by
 obtain⟨ae,ce,rfl⟩:=ht.ents.rd.sl
 obtain⟨os,hkr,dU⟩:=ht.kids
 obtain⟨ak,ck,rfl⟩:=hkr.rd.sl
 have HR:=ah (fun W (f:aj au w W)=>xq Q es ks W _ _ (ht.aN f) hok)
 have HA:=ah (fun w' (h:aj au w w')=>Ql Q _ es ks w' _ _ (Nat.lt_succ_self _) (ht.aN h) (by omega))
 have hdl:=zC es ks
 have mP:=ah (show(dX es ks).length≤4000 by omega)
 clear hkr dU ht hok hsz hdl
 by_cases hr:aY 5 es ks=true
 ·have HDK:=ah (Dc hr)
  rw[hr]at HR
  have jc:=ah hr;clear hr
  have hpost:∀e w',aj au w w'→(∃v' c,e= .returned (.tuple #[v', .int .i64 0])∧OwnAt w w' 92 3 v' c.length (bU c)∧mg (dX es ks) c∧c.length≤16000)→Dq w es ks e w':=fun e w' h1 h2=>⟨h1,fun _=>h2,fun h=>by rw[jc.out]at h;cases h⟩
  have sW:=ah hpost;clear hpost
  generalize dX es ks=l at*
  generalize es.length=n at*
  generalize ks.len=m at*
  go_enter Tryz.func69,Tryz.ntmps69
  go_wp2_with(first
   |(go_at_call 89;refine(HR.out _ (aj.alloc _ _ _)).mono ?_;rintro e w1 ⟨rfl,hw1⟩;obtain⟨y0,y1⟩:=qC w _ _ _ w1 hw1;have HW1:=ah ((aj.alloc au _ _).aF hw1);clear hw1)
   |(go_at_call 91;refine(HA.out _ HW1.out).mono ?_;rintro e w2 ⟨v2,rfl,ho2⟩;obtain⟨a2,c2,rfl⟩:=ho2.shape;have dV:=ah ho2;clear ho2)
   |(go_at_call 90;refine(Qa _ _ l dV.out.rd HDK.out (by have:=mP.out;omega)).mono ?_;rintro e w3 ⟨v3,c,rfl,ho3,hof,-⟩;obtain⟨a3,c3,rfl⟩:=ho3.shape;have bJ:=ah ho3;clear ho3;have mO:=ah hof;clear hof))
  go_ret2
  have hf:=(HW1.out.aF dV.out.aJ).aF bJ.out.aJ
  exact sW.out _ _ hf ⟨_,c,rfl,bJ.out.base (HW1.out.aF dV.out.aJ),mO.out,by have:=mO.out.length;have:=mP.out;omega⟩
 ·have hr':aY 5 es ks=false:=by simpa using hr
  rw[hr']at HR
  have jc:=ah hr';clear hr hr' mP HA
  have hpost:∀w',aj au w w'→Dq w es ks (.returned (.tuple #[.slice none 0 0, .int .i64 1])) w':=fun w' h1=>⟨h1,(fun h=>by rw[jc.out]at h;cases h),fun _=>rfl⟩
  have sW:=ah hpost;clear hpost jc
  generalize es.length=n at*
  generalize ks.len=m at*
  go_enter Tryz.func69,Tryz.ntmps69
  go_wp2_with(go_at_call 89;refine(HR.out _ (aj.alloc _ _ _)).mono ?_;rintro e w1 ⟨rfl,hw1⟩;have HW1:=ah ((aj.alloc au _ _).aF hw1);clear hw1)
  go_ret2
  exact sW.out _ HW1.out
theorem QA (Q:Nat→Prop) (es:List aG) (ks:aH) (w:World) (ev kv:Value) (ht:bC Q w ev kv es ks) (hok:iE es ks) (hsz:sizeT es ks≤4000) (hr:aY 5 es ks=true):
 Calls Tryz.prog 74 #[.agg #[ev,kv]] w (zH w es ks):=by
 obtain⟨ae,ce,rfl⟩:=ht.ents.rd.sl
 obtain⟨os,hkr,dU⟩:=ht.kids
 obtain⟨ak,ck,rfl⟩:=hkr.rd.sl
 have HR:=ah (fun W (f:aj au w W)=>xq Q es ks W _ _ (ht.aN f) hok)
 have HA:=ah (fun w' (h:aj au w w')=>Qy Q _ es ks w' _ _ (Nat.lt_succ_self _) (ht.aN h) (by omega))
 rw[hr]at HR
 have Ie:=ah (show ∀w1 w',aj au w w1→∀ev' kv',bC (fun b=>w1.heap.size≤b) w' ev' kv' es ks→bC (fun b=>w.heap.size≤b) w' ev' kv' es ks from fun w1 w' h ev' kv' h2=>h2.turn fun b hb hQ=>⟨rfl,Nat.le_trans h.size hQ⟩)
 clear hkr dU ht hok hsz hr
 generalize hes:es.length=n at*
 generalize hkl:ks.len=m at*
 obtain⟨hb2,hfb,hbs⟩:=mV w (.cells #[.slice ae n ce, .slice ak m ck] 28) #[.slice none 0 0, .slice none 0 0] 28
 have HB2:=ah hb2;clear hb2
 have bG:=ah hfb;clear hfb
 have u_:=ah hbs;clear hbs
 have vC:=ah hes;clear hes
 have f_:=ah hkl;clear hkl
 go_enter Tryz.func74,Tryz.ntmps74
 go_wp2_with(first
  |(go_at_call 89;refine(HR.out _ bG.out).mono ?_;rintro e w1 ⟨rfl,hw1⟩;obtain⟨y0,y1⟩:=qC w _ _ _ w1 ((aj.alloc au _ _).aF hw1);have HW1:=ah hw1;clear hw1)
  |(go_at_call 97;refine(HA.out _ (bG.out.aF HW1.out)).mono ?_;rintro e w2 ⟨mQ,gU,rfl,iP,hf3⟩;obtain⟨a3,c3,rfl⟩:=iP.ents.rd.sl;obtain⟨os3,jU,-⟩:=iP.kids;obtain⟨a4,c4,rfl⟩:=jU.rd.sl;clear jU;have hblk:=hf3.blk (HW1.out.blk HB2.out id) id;have y0:=aI hblk 0 rfl;have y1:=aI hblk 1 rfl;have g0:=bn hblk 0;have g1:=bn hblk 1;have hsb:=ah (lt_of_block hblk);have HR2:=ah (res2 hblk ((bG.out.aF HW1.out).aF hf3) (by omega) (.slice a3 es.length c3) (.slice a4 ks.len c4));have hs1:=HW1.out.size;have HP:=ah (iP.turn (Q':=fun b=>w.heap.size≤b) fun b hb hQ=>⟨HR2.out.2.2 b (by have:=u_.out;omega),by have:=u_.out;omega⟩);clear iP hf3 hblk hs1;rw[vC.out,f_.out]at HR2 HP;rw[vC.out,f_.out]))
 clear y0 y1
 have y0:=aI HR2.out.1 0 rfl
 have y1:=aI HR2.out.1 1 rfl
 exact bodyPost_ret (v:= .agg #[.slice a3 n c3, .slice a4 m c4]) (by simp[results,Tryz.results74,go_sem,y0,y1]) rfl ⟨_,_,rfl,HP.out,HR2.out.2.1⟩
open Go.RowKit
section
variable {P:Program} {md:Region.Mode} {ops:Array Oper} {Q:Exit→Act→World→Prop} {S:World→Prop} {z:Nat}
def xu (md:Region.Mode) (ops:Array Oper) (z i:Nat):Bool:=match ops[z]? with|some o=>o.after.any fun e=>Region.binds md e&&e.on==i|none=>false
theorem QB {i:Nat} {o:Oper} (h:xu md ops z i=true) (hz:ops[z]?=some o):∃e∈o.after,Region.binds md e=true∧e.on=i:=by
 unfold xu at h
 rw[hz]at h
 simp only[beq_iff_eq,Array.any_eq_true,Bool.and_eq_true]at h
 obtain⟨k,hk,h2,h3⟩:=h
 exact⟨o.after[k],Array.getElem_mem hk,h2,h3⟩
theorem QC {i:Nat} {oi:Oper} {v:Value} (hi:ops[i]?=some oi) (hsel:∀(j:Nat) (o:Oper) cs b,ops[j]?=some o→o.op≠ .select cs b) (hl:xu md ops z i=true)
 (hQ:∀c a w,Q (.panic c) (a.put oi.dst v) w→Q (.panic c) a w):
 ∀(fuel:Nat) (listed:Array Bool) (a:Act) (w:World),
  (∀j oj,ops[j]?=some oj→j≠i→listed.getD j true=false→(∀e∈oj.after,Region.binds md e=true→e.on≠i)→oi.apart ops oj=true)→
  i∈Region.ready md ops listed→YieldsIf P ops S oi v a→S w→
  gy P md ops Q S z fuel (listed.setIfInBounds i true) (a.put oi.dst v) w→gy P md ops Q S z (fuel+1) listed a w:=by
 intro fuel
 induction fuel with
 |zero=>
  intro listed a w _ hr hy hS H
  refine⟨fun h=>(by rw[h]at hr;cases hr),fun j hj=>?_⟩
  by_cases hji:j=i
  ·subst hji;exact hy.wpOp hi hS ⟨.inr hS,H⟩
  ·have:=ready_mono hj hji
   rw[H.1]at this
   cases this
 |succ fuel ih=>
  intro listed a w hfree hr hy hS H
  refine⟨fun h=>(by rw[h]at hr;cases hr),fun j hj=>?_⟩
  by_cases hji:j=i
  ·subst hji;exact hy.wpOp hi hS ⟨.inr hS,H⟩
  ·have h1:=H.2 j (ready_mono hj hji)
   obtain⟨hjun,oj,hoj,hall⟩:=mem_ready.1 hj
   have hnot:∀e∈oj.after,Region.binds md e=true→e.on≠i:=fun e he hb heq=>by
    have h1:=hall e he hb
    have h0:=(mem_ready.1 hr).1
    rw[heq]at h1
    rcases Nat.lt_or_ge i listed.size with h'|h'
    ·simp[h']at h0 h1;rw[h0]at h1;cases h1
    ·simp[Array.getElem?_eq_none h']at h1
   have hjz:j≠z:=fun hz=>by
    subst hz
    obtain⟨e,he,hb,heq⟩:=QB hl hoj
    exact hnot e he hb heq
   have h2:=wpOp_putIf hoj (hfree j oj hoj hji hjun hnot) (fun cs b=>hsel i oi cs b hi) (fun cs b=>hsel j oj cs b hoj) hQ hy h1
   have hfree':∀k ok,ops[k]?=some ok→k≠i→(listed.setIfInBounds j true).getD k true=false→
    (∀e∈ok.after,Region.binds md e=true→e.on≠i)→oi.apart ops ok=true:=fun k ok hk hki hun hno=>by
    refine hfree k ok hk hki ?_ hno
    by_cases hjk:j=k
    ·subst hjk;exact hjun
    ·rw[getD_set_ne true hjk]at hun;exact hun
   refine wpOp_mono (fun a' w' h3=>?_) h2
   have hS':S w':=h3.2.1.resolve_left hjz
   refine⟨.inr hS',ih (listed.setIfInBounds j true) a' w' hfree' (ready_mono hr (Ne.symm hji)) h3.1 hS' ?_⟩
   rw[Array.setIfInBounds_comm _ _ hji]
   exact h3.2.2
theorem QD (i d:Nat) {oi:Oper} {v:Value} {fuel:Nat} {listed:Array Bool} {a:Act} {w:World} (hi:ops[i]?=some oi) (hd:oi.dst=some d)
 (hs:Region.noSelect ops=true) (hl:xu md ops z i=true) (hf:Region.free md ops listed i=true) (hr:(Region.ready md ops listed).contains i=true)
 (hQ:∀c a w,Q (.panic c) (a.put (some d) v) w→Q (.panic c) a w) (hy:YieldsIf P ops S oi v a) (hS:S w)
 (h:gy P md ops Q S z fuel (listed.setIfInBounds i true) (a.put (some d) v) w):gy P md ops Q S z (fuel+1) listed a w:=
 QC hi (Region.noSelect_spec hs) hl (by rw[hd];exact hQ) fuel listed a w (Region.free_spec hi hf) (by simpa using hr) hy hS (by rw[hd];exact h)
theorem gV (i d:Nat) {oi:Oper} {v:Value} {fuel:Nat} {listed:Array Bool} {a:Act} {w:World} (hi:ops[i]?=some oi) (hd:oi.dst=some d) (hy:YieldsIf P ops S oi v a)
 (h:gy P md ops Q S z fuel (listed.setIfInBounds i true) (a.put (some d) v) w)
 (hs:Region.noSelect ops=true:=by kernel_rfl) (hl:xu md ops z i=true:=by kernel_rfl) (hf:Region.free md ops listed i=true:=by kernel_rfl) (hr:(Region.ready md ops listed).contains i=true:=by kernel_rfl)
 (hQ:∀c a w,Q (.panic c) (a.put (some d) v) w→Q (.panic c) a w:=by exact fun _ _ _ h=>h) (hS:S w:=by assumption):gy P md ops Q S z (fuel+1) listed a w:=
 QD i d hi hd hs hl hf hr hQ hy hS h
theorem vF {i j:Nat} {o p:Oper} {fuel:Nat} {listed:Array Bool} {a:Act} {w:World} (hr:Region.ready md ops listed=[i,j]) (ho:ops[i]?=some o) (hp:ops[j]?=some p)
 (h:∀K':Act→World→Prop,Shut (∀a w,S w→gy P md ops Q S z fuel (listed.setIfInBounds i true) a w→K' a w)→if Region.wanted o (yielded ops a.tmps)=true then Oper.wp P o a w K' Q else K' (a.put o.dst undef) w)
 (k:∀K':Act→World→Prop,Shut (∀a w,S w→gy P md ops Q S z fuel (listed.setIfInBounds j true) a w→K' a w)→if Region.wanted p (yielded ops a.tmps)=true then Oper.wp P p a w K' Q else K' (a.put p.dst undef) w):
 gy P md ops Q S z (fuel+1) listed a w:=
 ⟨fun h0=>(by rw[hr]at h0;cases h0),fun x hx=>by
   rw[hr]at hx
   rcases List.mem_cons.1 hx with rfl|hx
   ·exact wpOp_step ho fun K' hK=>h K' fun a w hS hW=>hK a w ⟨.inr hS,hW⟩
   ·obtain rfl:x=j:=by simpa using hx
    exact wpOp_step hp fun K' hK=>k K' fun a w hS hW=>hK a w ⟨.inr hS,hW⟩⟩
theorem vG {o:Oper} {a:Act} (w0 w:World) {K:Act→World→Prop} {E:Prop} (news:List Value) (hgd:o.guard=none) (s x:Operand) (t tx:TypeId)
 (ho:o.op= .call {callee:= .builtin .append,args:= #[s,x],argTypes:= #[t,tx]})
 (e ex:TypeId) (i:TypeInfo) (zv:Value) (size bytes:Nat) (ht:P.underlying t=some (.slice e)) (htx:P.underlying tx=some (.slice ex)) (hi:P.info? e=some i) (hz:i.zero=some zv)
 (hsize:i.size=size) (hby:i.bytes=bytes) (hzs:zv.cells.size=size) (hsz:0<size)
 (v:Value) (n:Nat) (xs:List Value) (hown:OwnAt w0 w e size v n xs) (xv:Value) (m:Nat) (hv:a.eval s=v) (hx:a.eval x=xv) (hr:Rd w xv m news)
 (hnl:news.length=m*size) (h1:∀u∈news,u.oneCell'=true) (h63:n+m≤maxLen) (hbytes:(n+m)*bytes≤140737488355328)
 (h:∀ad c w',OwnAt w0 w' e size (.slice ad (n+m) c) (n+m) (xs++news)→aj (dh v) w w'→jr w v (.slice ad (n+m) c)→K (a.put o.dst (.slice ad (n+m) c)) w'):
 if Region.wanted o (yielded ops a.tmps)=true then Oper.wp P o a w K Q else E:=by
 have hw:Region.wanted o (yielded ops a.tmps)=true:=by simp[Region.wanted,hgd]
 rw[if_pos hw]
 obtain⟨v',w',hrun,h2,h3,h4,⟨ad,c',rfl⟩,h6⟩:=um (P:=P) w t tx o.type e i zv size bytes ht hi hz hsize hby hzs hsz v n xs hown.own _ m news (hr.src htx hnl h1) h63 hbytes
 unfold Oper.wp execOp
 simp only[ho,resolve,invoke,builtin,Sem.run_bind,Sem.run_pure,Result.andThen_ok,List.map_toArray,List.map_cons,List.map_nil,hv,hx,hrun]
 exact h ad c' w' (hown.step h2 h3 h4) h3 h4
end
open Go.RowKit
structure fG (es:List aG) (ks:aH) (c:aV):Prop where
 tree:aY 5 es ks=true
 ctx:bY c
 dots:Io (dX es ks) c
structure eu (Q:Nat→Prop) (w:World) (ev kv cv:Value) (es:List aG) (ks:aH) (c:aV):Prop where
 tree:bC Q w ev kv es ks
 ctx:fB w cv c
structure jB (es:List aG) (ks:aH) (c:aV):Prop where
 tree:iE es ks
 small:sizeT es ks≤2000
 fits:g_ c
 len:c.length≤2000
theorem eu.aN {Q:Nat→Prop} {w w':World} {ev kv cv:Value} {es:List aG} {ks:aH} {c:aV} (h:eu Q w ev kv cv es ks c) (f:aj au w w'):eu Q w' ev kv cv es ks c:=⟨h.tree.aN f,Rd.aN h.ctx f⟩
theorem eu.shape {Q:Nat→Prop} {w:World} {ev kv cv:Value} {es:List aG} {ks:aH} {c:aV} (h:eu Q w ev kv cv es ks c):∃a0 c0 a1 c1 a2 c2,ev= .slice a0 es.length c0∧kv= .slice a1 ks.len c1∧cv= .slice a2 c.length c2:=by
 obtain⟨a0,c0,h0⟩:=h.tree.ents.rd.sl
 obtain⟨os,hk,_⟩:=h.tree.kids
 obtain⟨a1,c1,h1⟩:=hk.rd.sl
 obtain⟨a2,c2,h2⟩:=Rd.sl h.ctx
 exact⟨a0,c0,a1,c1,a2,c2,h0,h1,h2⟩
theorem rD (Q:Nat→Prop) (es:List aG) (ks:aH) (c:aV) (w:World) (ev kv cv:Value) (h:eu Q w ev kv cv es ks c) (hok:jB es ks c):
 Calls Tryz.prog 40 #[.agg #[ev,kv,cv]] w fun e w'=>e= .returned (.bool (tf (fG es ks c)))∧aj au w w':=by
 obtain⟨a0,c0,a1,c1,a2,c2,rfl,rfl,rfl⟩:=h.shape
 have HD:=ah (fun w' (f:aj au w w')=>Qz Q es ks w' _ _ (h.tree.aN f) hok.tree (Nat.le_trans hok.small (by decide)))
 have HL:=ah (fun w' (f:aj au w w') vd d (hd:fB w' vd d) (rd:bY d) (ld:d.length≤16000)=>Pz w' vd _ d c hd (Rd.aN h.ctx f) rd.fits hok.fits (by omega) (by have:=hok.len;omega))
 clear h hok
 by_cases hr:aY 5 es ks=true
 ·have dQ:=ah (Dc hr)
  have jc:=ah hr;clear hr
  have hpost:∀d,mg (dX es ks) d→tf (bY d∧bY c∧qQ d c)=tf (fG es ks c):=fun d hd=>uz ⟨fun h=>⟨jc.out,h.2.1,(hd.leq dQ.out).1 h.2.2⟩,fun h=>⟨hd.right,h.ctx,(hd.leq dQ.out).2 h.dots⟩⟩
  have sW:=ah hpost;clear hpost
  generalize tf (fG es ks c)=y at*
  generalize es.length=n at*
  generalize ks.len=m at*
  generalize c.length=k at*
  go_enter Tryz.func40,Tryz.ntmps40
  go_wp2_with(first
   |(go_at_call 69;refine(HD.out _ (aj.alloc _ _ _)).mono ?_;rintro e w1 ⟨hf1,hp1,-⟩;obtain⟨v1,d,rfl,ho1,hof,hl1⟩:=hp1 jc.out;clear hp1;obtain⟨y0,y1,y2⟩:=jJ w _ _ _ _ w1 hf1;obtain⟨b1,e1,rfl⟩:=ho1.shape;have dB:=ah ho1;clear ho1;have mO:=ah hof;clear hof;have jK:=ah hl1;clear hl1 hf1)
   |(go_at_call 70;refine(HL.out _ ((aj.alloc au _ _).aF dB.out.aJ) _ d dB.out.rd mO.out.right jK.out).mono ?_;rintro e w2 ⟨rfl,hw2⟩;rw[sW.out d mO.out];have HW2:=ah hw2;clear hw2))
  go_ret
  exact⟨rfl,((aj.alloc au _ _).aF dB.out.aJ).aF HW2.out⟩
 ·have hr':aY 5 es ks=false:=by simpa using hr
  rw[bW fun h=>hr h.tree]
  have jc:=ah hr';clear hr hr' HL
  generalize es.length=n at*
  generalize ks.len=m at*
  generalize c.length=k at*
  go_enter Tryz.func40,Tryz.ntmps40
  go_wp2_with(go_at_call 69;refine(HD.out _ (aj.alloc _ _ _)).mono ?_;rintro e w1 ⟨hf1,-,hp1⟩;obtain rfl:=hp1 jc.out;clear hp1;obtain⟨y0,y1,y2⟩:=jJ w _ _ _ _ w1 hf1;have bQ:=ah hf1;clear hf1)
  go_ret
  exact⟨rfl,(aj.alloc au _ _).aF bQ.out⟩
def Dt (w:World) (es:List aG) (ks:aH) (c:aV) (e:Ending) (w':World):Prop:=
 ∃ev kv cv,e= .returned (.agg #[ev,kv,cv])∧bC (fun b=>w.heap.size≤b) w' ev kv es ks∧OwnAt w w' 92 3 cv c.length (bU c)
theorem Du (Q:Nat→Prop) (es:List aG) (ks:aH) (c:aV) (w:World) (ev kv cv:Value) (h:eu Q w ev kv cv es ks c) (hok:jB es ks c) (hr:fG es ks c):
 Calls Tryz.prog 44 #[.agg #[ev,kv,cv]] w (Dt w es ks c):=by
 obtain⟨a0,c0,a1,c1,a2,c2,rfl,rfl,rfl⟩:=h.shape
 have HR:=ah (fun w' (f:aj au w w')=>dH hr▸rD Q es ks c w' _ _ _ (h.aN f) hok)
 have HT:=ah (fun w' (f:aj au w w')=>QA Q es ks w' _ _ (h.tree.aN f) hok.tree (Nat.le_trans hok.small (by decide)) hr.tree)
 have HS:=ah (fun w' (f:aj au w w')=>Dl w' _ c (Rd.aN h.ctx f) (by have:=hok.len;omega))
 clear h hok hr
 generalize hes:es.length=n at*
 generalize hkl:ks.len=m at*
 generalize hcl:c.length=k at*
 have vC:=ah hes;clear hes
 have f_:=ah hkl;clear hkl
 have oO:=ah hcl;clear hcl
 have htb:((w.alloc (.cells #[.slice a0 n c0, .slice a1 m c1, .slice a2 k c2] 32)).alloc (.cells #[.slice none 0 0, .slice none 0 0, .slice none 0 0] 32)).heap[w.heap.size+1]?=some (.cells #[.slice none 0 0, .slice none 0 0, .slice none 0 0] 32 (0,0)):=(mV w _ _ _).1
 have Dv:=ah htb;clear htb
 have hfb:aj au (w.alloc (.cells #[.slice a0 n c0, .slice a1 m c1, .slice a2 k c2] 32)) ((w.alloc (.cells #[.slice a0 n c0, .slice a1 m c1, .slice a2 k c2] 32)).alloc (.cells #[.slice none 0 0, .slice none 0 0, .slice none 0 0] 32)):=aj.alloc _ _ _
 have bG:=ah hfb;clear hfb
 have bD:=ah (jJ w (.slice a0 n c0) (.slice a1 m c1) (.slice a2 k c2) 32)
 go_enter Tryz.func44,Tryz.ntmps44
 go_wp2_with(go_at_call 40;refine(HR.out _ ((aj.alloc au _ _).aF bG.out)).mono ?_;rintro e w1 ⟨rfl,hw1⟩;obtain⟨y0,y1,y2⟩:=bD.out w1 (bG.out.aF hw1);have hblk:=hw1.blk Dv.out id;have xw:=ah hblk;clear hblk;have HW1:=ah (((aj.alloc au _ _).aF bG.out).aF hw1);clear hw1)
 refine iY (S:=fun w'=>w'.cell? ⟨w.heap.size,0,none⟩=some (.slice a0 n c0)∧w'.cell? ⟨w.heap.size,1,none⟩=some (.slice a1 m c1)∧w'.cell? ⟨w.heap.size,2,none⟩=some (.slice a2 k c2)) 7 (by kernel_rfl) ⟨y0,y1,y2⟩ ?_
 intro hS
 have dM:=ah (HW1.out.aF (aj.drew au w1))
 have mG:=ah ((aj.drew au w1).blk xw.out id)
 have hsb:w.heap.size+1<w1.drew.heap.size:=lt_of_block mG.out
 clear y0 y1 y2 HW1 xw
 generalize w1.drew=Y at*
 refine aT 0 7 rfl rfl (v:=?_) (.inl ⟨by rfl,?_⟩) ?_
 rotate_left 1
 ·(intro w hSw;(try dsimp only at hSw);go_simp;(try with_reducible rfl))
 refine aT 1 8 rfl rfl (v:=?_) (.inl ⟨by rfl,?_⟩) ?_
 rotate_left 1
 ·(intro w hSw;(try dsimp only at hSw);go_simp;(try with_reducible rfl))
 try simp only[Act.put,aP,aQ,aO]
 refine aT 3 10 rfl rfl (v:=?_) (.inl ⟨by rfl,?_⟩) ?_
 rotate_left 1
 ·(intro w hSw;(try dsimp only at hSw);go_simp;(try with_reducible rfl))
 refine aT 4 11 rfl rfl (v:=?_) (.inl ⟨by rfl,?_⟩) ?_
 rotate_left 1
 ·(intro w hSw;(try dsimp only at hSw);go_simp;(try with_reducible rfl))
 try simp only[Act.put,aP,aQ,aO]
 refine bP (i:=2) (by kernel_rfl) rfl (fun K hK=>?_)
 go_simp
 refine(HT.out _ dM.out).mono ?_
 rintro e Y1 ⟨mQ,gU,rfl,iP,hf3⟩
 obtain⟨a3,c3,rfl⟩:=iP.ents.rd.sl
 obtain⟨os3,jU,-⟩:=iP.kids
 obtain⟨a4,c4,rfl⟩:=jU.rd.sl
 clear jU
 have hS:=(⟨hf3.cell' hS.1 id,hf3.cell' hS.2.1 id,hf3.cell' hS.2.2 id⟩:Y1.cell? ⟨w.heap.size,0,none⟩=some (.slice a0 n c0)∧Y1.cell? ⟨w.heap.size,1,none⟩=some (.slice a1 m c1)∧Y1.cell? ⟨w.heap.size,2,none⟩=some (.slice a2 k c2))
 rw[vC.out,f_.out]
 refine hK.out _ _ hS ?_
 clear hK K
 have xg:=ah iP;clear iP
 have HF3:=ah hf3;clear hf3
 try simp only[Act.put,aP,aQ,aO]
 refine bP (i:=5) (by kernel_rfl) rfl (fun K hK=>?_)
 go_simp
 refine(HS.out _ (dM.out.aF HF3.out)).mono ?_
 rintro e Y2 ⟨v5,rfl,h_⟩
 obtain⟨a5,c5,rfl⟩:=h_.shape
 have hS:=(⟨h_.aJ.cell' hS.1 id,h_.aJ.cell' hS.2.1 id,h_.aJ.cell' hS.2.2 id⟩:Y2.cell? ⟨w.heap.size,0,none⟩=some (.slice a0 n c0)∧Y2.cell? ⟨w.heap.size,1,none⟩=some (.slice a1 m c1)∧Y2.cell? ⟨w.heap.size,2,none⟩=some (.slice a2 k c2))
 refine hK.out _ _ hS ?_
 clear hK K
 have iH:=ah h_;clear h_
 try simp only[Act.put,aP,aQ,aO]
 refine aT 6 13 rfl rfl (v:=?_) (.inl ⟨by rfl,?_⟩) ?_
 rotate_left 1
 ·(intro w hSw;(try dsimp only at hSw);go_simp;(try with_reducible rfl))
 try simp only[Act.put,aP,aQ,aO]
 refine iK (by kernel_rfl) (by kernel_rfl) rfl (fun K hK=>?_)
 have hblk:=iH.out.aJ.blk (HF3.out.blk mG.out id) id
 have HR3:=ah (sV hblk ((dM.out.aF HF3.out).aF iH.out.aJ) (by omega) (.slice a3 n c3) (.slice a4 m c4) (.slice a5 k c5))
 have hs3:=HF3.out.size
 have IY:=lt_of_block hblk
 have HP:=ah ((xg.out.aN iH.out.aJ).turn (Q':=fun b=>w.heap.size≤b) fun b hb hQ=>⟨HR3.out.2.2 b (by omega),by omega⟩)
 have hown:OwnAt w (((Y2.setCell ⟨w.heap.size+1,0,none⟩ (.slice a3 n c3)).setCell ⟨w.heap.size+1,1,none⟩ (.slice a4 m c4)).setCell ⟨w.heap.size+1,2,none⟩ (.slice a5 k c5)) 92 3 (.slice a5 k c5) k (bU c):=by
  have hnew:=iH.out.new
  have mW:dP (fun b=>b=w.heap.size+1) w Y2 92 3 (.slice a5 k c5) k (bU c):=⟨iH.out.base (dM.out.aF HF3.out),fun b hb hn=>by have:=hnew b hb;omega⟩
  exact(((mW.set (p:=⟨w.heap.size+1,0,none⟩) rfl (Nat.le_succ _) _).set (p:=⟨w.heap.size+1,1,none⟩) rfl (Nat.le_succ _) _).set (p:=⟨w.heap.size+1,2,none⟩) rfl (Nat.le_succ _) _).at_
 have HOW:=ah hown;clear hown
 have y0:=aI hblk 0 rfl
 have y1:=aI hblk 1 rfl
 have y2:=aI hblk 2 rfl
 have g0:=bn hblk 0
 have g1:=bn hblk 1
 have g2:=bn hblk 2
 clear hS hblk
 go_simp
 refine hK.out _ _ ?_
 clear hK K y0 y1 y2 g0 g1 g2
 go_wp2
 have y0:=aI HR3.out.1 0 rfl
 have y1:=aI HR3.out.1 1 rfl
 have y2:=aI HR3.out.1 2 rfl
 exact bodyPost_ret (v:= .agg #[.slice a3 n c3, .slice a4 m c4, .slice a5 k c5]) (by simp[results,Tryz.results44,go_sem,y0,y1,y2]) rfl ⟨_,_,_,rfl,by have:=HP.out;rw[vC.out,f_.out]at this;exact this,oO.out.symm▸HOW.out⟩
end Go.Proofs.YtlhmbkjdfjoilaaGreat
namespace Go.Proofs.YtlhmbkjdfjoilaaGreat
theorem zI:∀a:List UInt8,Op.bytesLess a a=false
 |[]=>rfl
 |x::a=>by simp[Op.bytesLess,zI a]
theorem Dw:∀a b:List UInt8,Op.bytesLess a b=false→Op.bytesLess b a=false→a=b
 |[],[],_,_=>rfl
 |[],_::_,h,_=>by simp[Op.bytesLess]at h
 |_::_,[],_,h=>by simp[Op.bytesLess]at h
 |x::a,y::b,h,h'=>by
  simp only[Op.bytesLess,Bool.or_eq_false_iff,decide_eq_false_iff_not,UInt8.not_lt]at h h'
  have e:x=y:=UInt8.le_antisymm h'.1 h.1
  subst e
  simp at h h'
  rw[Dw a b h h']
theorem Dx:∀a b c:List UInt8,Op.bytesLess a b=true→Op.bytesLess b c=true→Op.bytesLess a c=true
 |[],[],_,h,_=>by simp[Op.bytesLess]at h
 |[],_::_,[],_,h=>by simp[Op.bytesLess]at h
 |[],_::_,_::_,_,_=>rfl
 |_::_,[],_,h,_=>by simp[Op.bytesLess]at h
 |_::_,_::_,[],_,h=>by simp[Op.bytesLess]at h
 |x::a,y::b,z::c,h,h'=>by
  simp only[Op.bytesLess,Bool.or_eq_true,decide_eq_true_eq,Bool.and_eq_true,beq_iff_eq]at h h'⊢
  rcases h with h|⟨rfl,h⟩
  ·rcases h' with h'|⟨rfl,h'⟩
   ·exact .inl (UInt8.lt_trans h h')
   ·exact .inl h
  ·rcases h' with h'|⟨rfl,h'⟩
   ·exact .inl h'
   ·exact .inr ⟨rfl,Dx a b c h h'⟩
theorem lJ (a:ByteArray):dD a a=false:=zI _
theorem xC {a b:ByteArray} (h:dD a b=false) (h':dD b a=false):a=b:=by
 have:=Dw _ _ h h'
 rw[ByteArray.toList_eq,ByteArray.toList_eq]at this
 exact ByteArray.ext (Array.toList_inj.1 this)
theorem qE {a b c:ByteArray} (h:dD a b=true) (h':dD b c=true):dD a c=true:=Dx _ _ _ h h'
theorem IZ {a b:ByteArray} (h:dD a b=true):dD b a=false:=by
 cases h':dD b a with
 |false=>rfl
 |true=>have:=qE h h';rw[lJ]at this;cases this
def ltD (x y:aG):Bool:=ni x.dc x.n y.dc y.n
theorem zJ {x y:aG}:ltD x y=true↔x.dc<y.dc∨x.dc=y.dc∧x.n<y.n:=by unfold ltD ni;exact decide_eq_true_iff
theorem I_ {x y:aG}:ltD x y=false↔¬(x.dc<y.dc∨x.dc=y.dc∧x.n<y.n):=by unfold ltD ni;exact decide_eq_false_iff_not
def zK (a b:aG):Bool:=decide (a.k<b.k)||decide (a.k=b.k)&&dD a.s b.s
def lK (a b:aG):aG:=if zK a b=true then b else a
theorem QE {a b:aG} (hd:a.dc=b.dc) (hn:a.n=b.n):(lK a b).dc=a.dc∧(lK a b).n=a.n:=by unfold lK;split<;>simp[hd,hn]
theorem QF (a b:aG):lK a b=a∨lK a b=b:=by unfold lK;split<;>simp
def jV (h:Int→Int→Bool) (x:aG):List aG:=if h x.dc x.n=true then []else [x]
def eG (ha hb:Int→Int→Bool):List aG→List aG→List aG
 |[],[]=> []
 |x::a,[]=>jV hb x++eG ha hb a []
 |[],y::b=>jV ha y++eG ha hb [] b
 |x::a,y::b=>if ltD x y=true then jV hb x++eG ha hb a (y::b)else if ltD y x=true then jV ha y++eG ha hb (x::a) b else lK x y::eG ha hb a b
termination_by a b=>a.length+b.length
theorem zL {h:Int→Int→Bool} {x y:aG} (hy:y∈jV h x):y=x:=by unfold jV at hy;split at hy<;>simp at hy;exact hy
theorem sZ {ha hb:Int→Int→Bool} {a b:List aG} {e:aG} (he:e∈eG ha hb a b):e∈a∨e∈b:=by
 fun_induction eG ha hb a b with
 |case1=>cases he
 |case2 x a ih=>
  rcases List.mem_append.1 he with h|h
  ·left;rw[zL h];simp
  ·rcases ih h with h|h
   ·left;simp[h]
   ·right;exact h
 |case3 y b ih=>
  rcases List.mem_append.1 he with h|h
  ·right;rw[zL h];simp
  ·rcases ih h with h|h
   ·left;exact h
   ·right;simp[h]
 |case4 x a y b _ ih=>
  rcases List.mem_append.1 he with h|h
  ·left;rw[zL h];simp
  ·rcases ih h with h|h
   ·left;simp[h]
   ·right;exact h
 |case5 x a y b _ _ ih=>
  rcases List.mem_append.1 he with h|h
  ·right;rw[zL h];simp
  ·rcases ih h with h|h
   ·left;exact h
   ·right;simp[h]
 |case6 x a y b _ _ ih=>
  rcases List.mem_cons.1 he with h|h
  ·rcases QF x y with g|g
   ·left;rw[h,g];simp
   ·right;rw[h,g];simp
  ·rcases ih h with h|h
   ·left;simp[h]
   ·right;simp[h]
theorem Ja:∀(l:List aG) (p:Option aG),eP p l=true↔(∀e∈l,dW e=true)∧(∀e,l.head?=some e→oP p e=true)∧l.Pairwise fun x y=>ltD x y=true
 |[],p=>by simp[eP]
 |e::l,p=>by
  rw[eP,Bool.and_eq_true,Bool.and_eq_true,Ja l (some e)]
  simp only[List.mem_cons,forall_eq_or_imp,List.head?_cons,Option.some.injEq,forall_eq',List.pairwise_cons]
  constructor
  ·rintro⟨⟨h1,h2⟩,h3,h4,h5⟩
   refine⟨⟨h1,h3⟩,h2,fun y hy=>?_,h5⟩
   cases l with
   |nil=>cases hy
   |cons z l=>
    have hz:ltD e z=true:=h4 z rfl
    rcases List.mem_cons.1 hy with rfl|hy
    ·exact hz
    ·have:=(List.pairwise_cons.1 h5).1 y hy
     rw[zJ]at hz this⊢
     omega
  ·rintro⟨⟨h1,h3⟩,h2,h4,h5⟩
   refine⟨⟨h1,h2⟩,h3,fun z hz=>?_,h5⟩
   cases l with
   |nil=>cases hz
   |cons y l=>simp at hz;subst hz;exact h4 y (by simp)
theorem Jb {l:List aG}:eP none l=true↔(∀e∈l,dW e=true)∧l.Pairwise fun x y=>ltD x y=true:=by
 rw[Ja]
 exact⟨fun h=>⟨h.1,h.2.2⟩,fun h=>⟨h.1,fun _ _=>rfl,h.2⟩⟩
theorem Jc {x y z:aG} (h:ltD x y=true) (h':ltD y z=true):ltD x z=true:=by rw[zJ]at*;omega
theorem zM {h:Int→Int→Bool} {x:aG} {l:List aG} {R:aG→aG→Prop} (hl:l.Pairwise R) (hx:∀y∈l,R x y):(jV h x++l).Pairwise R:=by
 unfold jV
 split
 ·exact hl
 ·exact List.pairwise_cons.2 ⟨hx,hl⟩
theorem QG {ha hb:Int→Int→Bool} {a b:List aG} (oa:a.Pairwise fun x y=>ltD x y=true) (ob:b.Pairwise fun x y=>ltD x y=true):(eG ha hb a b).Pairwise fun x y=>ltD x y=true:=by
 fun_induction eG ha hb a b with
 |case1=>exact List.Pairwise.nil
 |case2 x a ih=>
  obtain⟨h1,h2⟩:=List.pairwise_cons.1 oa
  refine zM (ih h2 ob) fun y hy=>?_
  rcases sZ hy with h|h
  ·exact h1 y h
  ·cases h
 |case3 y b ih=>
  obtain⟨h1,h2⟩:=List.pairwise_cons.1 ob
  refine zM (ih oa h2) fun x hx=>?_
  rcases sZ hx with h|h
  ·cases h
  ·exact h1 x h
 |case4 x a y b h ih=>
  obtain⟨h1,h2⟩:=List.pairwise_cons.1 oa
  obtain⟨h3,h4⟩:=List.pairwise_cons.1 ob
  refine zM (ih h2 ob) fun z hz=>?_
  rcases sZ hz with g|g
  ·exact h1 z g
  ·rcases List.mem_cons.1 g with rfl|g
   ·exact h
   ·exact Jc h (h3 z g)
 |case5 x a y b h h' ih=>
  obtain⟨h1,h2⟩:=List.pairwise_cons.1 oa
  obtain⟨h3,h4⟩:=List.pairwise_cons.1 ob
  refine zM (ih oa h4) fun z hz=>?_
  rcases sZ hz with g|g
  ·rcases List.mem_cons.1 g with rfl|g
   ·exact h'
   ·exact Jc h' (h1 z g)
  ·exact h3 z g
 |case6 x a y b h h' ih=>
  obtain⟨h1,h2⟩:=List.pairwise_cons.1 oa
  obtain⟨h3,h4⟩:=List.pairwise_cons.1 ob
  have hd:x.dc=y.dc∧x.n=y.n:=by
   have g1:=I_.1 (by simpa using h:ltD x y=false)
   have g2:=I_.1 (by simpa using h':ltD y x=false)
   omega
  obtain⟨q1,q2⟩:=QE hd.1 hd.2
  refine List.pairwise_cons.2 ⟨fun z hz=>?_,ih h2 h4⟩
  rcases sZ hz with g|g
  ·have:=h1 z g
   rw[zJ]at this⊢
   rw[q1,q2];exact this
  ·have:=h3 z g
   rw[zJ]at this⊢
   rw[q1,q2,hd.1,hd.2];exact this
theorem QH {ha hb:Int→Int→Bool} {a b:List aG} (oa:eP none a=true) (ob:eP none b=true):eP none (eG ha hb a b)=true:=by
 rw[Jb]at*
 refine⟨fun e he=>?_,QG oa.2 ob.2⟩
 rcases sZ he with h|h
 ·exact oa.1 e h
 ·exact ob.1 e h
def iI:List ByteArray→List ByteArray→List ByteArray
 |[],b=>b
 |x::a,[]=>x::a
 |x::a,y::b=>if dD x y=true then x::iI a (y::b)else if dD y x=true then y::iI (x::a) b else x::iI a b
termination_by a b=>a.length+b.length
theorem oZ (a b:List ByteArray) (k:ByteArray):k∈iI a b↔k∈a∨k∈b:=by
 fun_induction iI a b with
 |case1 b=>simp
 |case2 x a=>simp
 |case3 x a y b h ih=>simp only[List.mem_cons,ih,or_assoc]
 |case4 x a y b h h' ih=>simp only[List.mem_cons,ih];exact or_left_comm
 |case5 x a y b h h' ih=>
  rw[xC (a:=x) (b:=y) (by simpa using h) (by simpa using h')]
  simp only[List.mem_cons,ih,or_assoc]
  exact⟨fun h=>by rcases h with h|h|h<;>simp[h],fun h=>by rcases h with h|h|h|h<;>simp[h]⟩
abbrev ig (l:List ByteArray):Prop:=l.Pairwise fun x y=>dD x y=true
theorem xE {a b:List ByteArray} (oa:ig a) (ob:ig b):ig (iI a b):=by
 fun_induction iI a b with
 |case1 b=>exact ob
 |case2 x a=>exact oa
 |case3 x a y b h ih=>
  obtain⟨h1,h2⟩:=List.pairwise_cons.1 oa
  obtain⟨h3,h4⟩:=List.pairwise_cons.1 ob
  refine List.pairwise_cons.2 ⟨fun z hz=>?_,ih h2 ob⟩
  rcases(oZ _ _ _).1 hz with g|g
  ·exact h1 z g
  ·rcases List.mem_cons.1 g with rfl|g
   ·exact h
   ·exact qE h (h3 z g)
 |case4 x a y b h h' ih=>
  obtain⟨h1,h2⟩:=List.pairwise_cons.1 oa
  obtain⟨h3,h4⟩:=List.pairwise_cons.1 ob
  refine List.pairwise_cons.2 ⟨fun z hz=>?_,ih oa h4⟩
  rcases(oZ _ _ _).1 hz with g|g
  ·rcases List.mem_cons.1 g with rfl|g
   ·exact h'
   ·exact qE h' (h1 z g)
  ·exact h3 z g
 |case5 x a y b h h' ih=>
  obtain⟨h1,h2⟩:=List.pairwise_cons.1 oa
  obtain⟨h3,h4⟩:=List.pairwise_cons.1 ob
  have e:=xC (by simpa using h) (by simpa using h')
  refine List.pairwise_cons.2 ⟨fun z hz=>?_,ih h2 h4⟩
  rcases(oZ _ _ _).1 hz with g|g
  ·exact h1 z g
  ·rw[e];exact h3 z g
theorem Dy:∀ {a b:List ByteArray},ig a→ig b→(∀k,k∈a↔k∈b)→a=b
 |[],[],_,_,_=>rfl
 |[],y::b,_,_,h=>absurd ((h y).2 (by simp)) (by simp)
 |x::a,[],_,_,h=>absurd ((h x).1 (by simp)) (by simp)
 |x::a,y::b,oa,ob,h=>by
  obtain⟨h1,h2⟩:=List.pairwise_cons.1 oa
  obtain⟨h3,h4⟩:=List.pairwise_cons.1 ob
  have e:x=y:=by
   rcases List.mem_cons.1 ((h x).1 (by simp))with g|g
   ·exact g
   ·rcases List.mem_cons.1 ((h y).2 (by simp))with g'|g'
    ·exact g'.symm
    ·have:=IZ (h1 y g');rw[h3 x g]at this;cases this
  subst e
  rw[Dy h2 h4 fun k=>?_]
  constructor
  ·intro hk
   rcases List.mem_cons.1 ((h k).1 (by simp[hk]))with g|g
   ·subst g;have:=h1 k hk;rw[lJ]at this;cases this
   ·exact g
  ·intro hk
   rcases List.mem_cons.1 ((h k).2 (by simp[hk]))with g|g
   ·subst g;have:=h3 k hk;rw[lJ]at this;cases this
   ·exact g
def aH.keys:aH→List ByteArray
 | .nil=> []
 | .cons key _ _ rest=>key::rest.keys
def aH.find (s:ByteArray):aH→List aG×aH
 | .nil=>([], .nil)
 | .cons key es sub rest=>if key=s then(es,sub)else rest.find s
def jl (key:ByteArray) (t:List aG×aH) (rest:aH):aH:=if isNil t.1 t.2=true then rest else .cons key t.1 t.2 rest
def dY (f:ByteArray→List aG×aH):List ByteArray→aH
 |[]=> .nil
 |k::l=>jl k (f k) (dY f l)
def gW (ha hb:Int→Int→Bool):Nat→List aG×aH→List aG×aH→List aG×aH
 |0,_,_=>([], .nil)
 |n+1,a,b=>(eG ha hb a.1 b.1,dY (fun k=>gW ha hb n (a.2.find k) (b.2.find k)) (iI a.2.keys b.2.keys))
theorem o_:∀(ks:aH) (d:Nat) (p:Option ByteArray),fQ ks d p=true→ig ks.keys∧∀k∈ks.keys,ltK p k=true∧lg k=true
 | .nil,_,_,_=>⟨List.Pairwise.nil,fun _ h=>by cases h⟩
 | .cons key es sub rest,d,p,h=>by
   rw[oQ]at h
   simp only[Bool.and_eq_true]at h
   obtain⟨⟨⟨⟨h1,h2⟩,h3⟩,h4⟩,h5⟩:=h
   obtain⟨o,hk⟩:=o_ rest d (some key) h5
   refine⟨List.pairwise_cons.2 ⟨fun k hm=>(hk k hm).1,o⟩,fun k hm=>?_⟩
   rcases List.mem_cons.1 hm with rfl|hm
   ·exact⟨h2,h1⟩
   ·refine⟨?_,(hk k hm).2⟩
    cases p with
    |none=>rfl
    |some q=>exact qE h2 (hk k hm).1
theorem rE:∀(ks:aH) (d:Nat) (p:Option ByteArray) (s:ByteArray),fQ ks d p=true→(s∈ks.keys→aY d (ks.find s).1 (ks.find s).2=true∧isNil (ks.find s).1 (ks.find s).2=false)∧(s∉ks.keys→ks.find s=([], .nil))
 | .nil,_,_,_,_=>⟨fun h=>(by cases h),fun _=>rfl⟩
 | .cons key es sub rest,d,p,s,h=>by
   rw[oQ]at h
   simp only[Bool.and_eq_true,Bool.not_eq_true']at h
   obtain⟨⟨⟨⟨h1,h2⟩,h3⟩,h4⟩,h5⟩:=h
   have ih:=rE rest d (some key) s h5
   unfold aH.find aH.keys
   by_cases e:key=s
   ·rw[if_pos e]
    exact⟨fun _=>⟨h4,h3⟩,fun hn=>absurd (by simp[e]) hn⟩
   ·rw[if_neg e]
    refine⟨fun hm=>ih.1 ?_,fun hn=>ih.2 fun hm=>hn (by simp[hm])⟩
    rcases List.mem_cons.1 hm with g|g
    ·exact absurd g.symm e
    ·exact g
theorem Jd {d:Nat} (hd:1≤d):aY d [] .nil=true:=by simp[aY,eP,fQ,hd]
theorem Dz {f:ByteArray→List aG×aH} {d:Nat}:∀ {l:List ByteArray} {p:Option ByteArray},ig l→(∀k∈l,lg k=true)→(∀k∈l,ltK p k=true)→(∀k∈l,aY d (f k).1 (f k).2=true)→fQ (dY f l) d p=true
 |[],_,_,_,_,_=>rfl
 |k::l,p,o,hb,hp,hf=>by
  obtain⟨h1,h2⟩:=List.pairwise_cons.1 o
  have ih:=Dz (f:=f) (d:=d) (p:=some k) h2 (fun x hx=>hb x (by simp[hx])) (fun x hx=>h1 x hx) (fun x hx=>hf x (by simp[hx]))
  unfold dY jl
  split
  ·exact Dz h2 (fun x hx=>hb x (by simp[hx])) (fun x hx=>hp x (by simp[hx])) (fun x hx=>hf x (by simp[hx]))
  ·next hn=>
   rw[oQ,hb k (by simp),hp k (by simp),hf k (by simp),ih]
   simpa using hn
theorem QI (ha hb:Int→Int→Bool):∀(n d:Nat) (a b:List aG×aH),d≤n→aY d a.1 a.2=true→aY d b.1 b.2=true→aY d (gW ha hb n a b).1 (gW ha hb n a b).2=true:=by
 intro n
 induction n with
 |zero=>
  intro d a b hd h1 _
  simp only[aY,Bool.and_eq_true,decide_eq_true_eq]at h1
  omega
 |succ n ih=>
  intro d a b hd h1 h2
  simp only[aY,Bool.and_eq_true,decide_eq_true_eq]at h1 h2⊢
  obtain⟨⟨d1,e1⟩,k1⟩:=h1
  obtain⟨⟨_,e2⟩,k2⟩:=h2
  unfold gW
  refine⟨⟨d1,QH e1 e2⟩,?_⟩
  obtain⟨o1,q1⟩:=o_ _ _ _ k1
  obtain⟨o2,q2⟩:=o_ _ _ _ k2
  refine Dz (xE o1 o2) (fun k hk=>?_) (fun _ _=>rfl) fun k hk=>?_
  ·rcases(oZ _ _ _).1 hk with g|g
   ·exact(q1 k g).2
   ·exact(q2 k g).2
  ·have hd1:1≤d-1:=by
    rcases(oZ _ _ _).1 hk with g|g
    ·have:=((rE _ _ _ k k1).1 g).1
     simp only[aY,Bool.and_eq_true,decide_eq_true_eq]at this
     exact this.1.1
    ·have:=((rE _ _ _ k k2).1 g).1
     simp only[aY,Bool.and_eq_true,decide_eq_true_eq]at this
     exact this.1.1
   have get:∀ks:aH,fQ ks (d-1) none=true→aY (d-1) (ks.find k).1 (ks.find k).2=true:=fun ks hks=>by
    by_cases hm:k∈ks.keys
    ·exact((rE _ _ _ k hks).1 hm).1
    ·rw[(rE _ _ _ k hks).2 hm];exact Jd hd1
   exact ih (d-1) _ _ (by omega) (get _ k1) (get _ k2)
theorem DC:∀(ks:aH) (s:ByteArray) (r:Int×Int),r∈dX (ks.find s).1 (ks.find s).2→r∈gB ks
 | .nil,_,_,h=>by simp[aH.find,dX,jR,gB]at h
 | .cons key es sub rest,s,r,h=>by
   unfold aH.find at h
   unfold gB
   split at h
   ·exact List.mem_append_left _ h
   ·exact List.mem_append_right _ (DC rest s r h)
theorem DF {f:ByteArray→List aG×aH} {r:Int×Int}:∀ {l:List ByteArray},r∈gB (dY f l)→∃k,r∈dX (f k).1 (f k).2
 |[],h=>by simp[dY,gB]at h
 |k::l,h=>by
  unfold dY jl at h
  split at h
  ·exact DF h
  ·unfold gB at h
   rcases List.mem_append.1 h with h|h
   ·exact⟨k,h⟩
   ·exact DF h
theorem Je (ha hb:Int→Int→Bool) (r:Int×Int):∀(n:Nat) (a b:List aG×aH),r∈dX (gW ha hb n a b).1 (gW ha hb n a b).2→r∈dX a.1 a.2∨r∈dX b.1 b.2
 |0,_,_,h=>by simp[gW,dX,jR,gB]at h
 |n+1,a,b,h=>by
  unfold gW dX at h
  rcases List.mem_append.1 h with h|h
  ·obtain⟨e,he,rfl⟩:=List.mem_map.1 h
   rcases sZ he with g|g
   ·left;exact List.mem_append_left _ (List.mem_map.2 ⟨e,g,rfl⟩)
   ·right;exact List.mem_append_left _ (List.mem_map.2 ⟨e,g,rfl⟩)
  ·obtain⟨k,hk⟩:=DF h
   rcases Je ha hb r n _ _ hk with g|g
   ·left;exact List.mem_append_right _ (DC _ _ _ g)
   ·right;exact List.mem_append_right _ (DC _ _ _ g)
open Go.RowKit
theorem QJ (t:TypeId) (a b:ByteArray):binOp .gtr t (.string a) (.string b)=pure (.bool (Op.bytesLess b.toList a.toList)):=by
 have e:(!Op.bytesLess a.toList b.toList&& !a.toList==b.toList)=Op.bytesLess b.toList a.toList:=by
  cases h1:Op.bytesLess a.toList b.toList with
  |true=>
   cases h2:Op.bytesLess b.toList a.toList with
   |false=>rfl
   |true=>have:=Dx _ _ _ h1 h2;rw[zI]at this;cases this
  |false=>
   cases h2:Op.bytesLess b.toList a.toList with
   |false=>simp[Dw _ _ h1 h2]
   |true=>
    have:¬a.toList=b.toList:=fun h=>by rw[h,zI]at h2;cases h2
    simpa using this
 rw[←e]
 simp[binOp,Op.stringOp]
def jW (a b:ByteArray):Int:=if dD a b=true then-1 else if dD b a=true then 1 else 0
theorem DI (a:ByteArray) (w:World):Calls Tryz.prog 183 #[.string a] w fun e w'=>e= .returned (.bool false)∧w'=w:=by
 go_enter Tryz.func183,Tryz.ntmps183
 go_wp2
 go_ret
 exact⟨bH (by simp),rfl⟩
theorem DJ (a b:ByteArray) (w:World):Calls Tryz.prog 150 #[.string a, .string b] w fun e w'=>e= .returned (.int .i64 (jW a b))∧w'=w:=by
 have hg:=QJ 9 a b
 unfold jW dD
 cases h1:Op.bytesLess a.toList b.toList with
 |true=>
  go_enter Tryz.func150,Tryz.ntmps150
  go_wp2_with(go_at_call 183;refine(DI _ _).mono ?_;rintro e w' ⟨rfl,rfl⟩)
  go_ret
  exact⟨by simp,rfl⟩
 |false=>
  cases h2:Op.bytesLess b.toList a.toList with
  |true=>
   rw[h2]at hg
   go_enter Tryz.func150,Tryz.ntmps150
   go_wp2_with(go_at_call 183;refine(DI _ _).mono ?_;rintro e w' ⟨rfl,rfl⟩)
   go_ret
   exact⟨by simp,rfl⟩
  |false=>
   rw[h2]at hg
   go_enter Tryz.func150,Tryz.ntmps150
   go_wp2_with(go_at_call 183;refine(DI _ _).mono ?_;rintro e w' ⟨rfl,rfl⟩)
   go_ret
   exact⟨by simp,rfl⟩
theorem QK (a b:aG):decide (oJ (jw a.k b.k) (jW a.s b.s)<0)=zK a b:=by
 rw[Bool.eq_iff_iff]
 simp only[zK,decide_eq_true_eq,Bool.or_eq_true,Bool.and_eq_true]
 unfold oJ jw jW
 rcases Int.lt_trichotomy a.k b.k with h|h|h
 ·simp[h]
 ·rw[h]
  cases h1:dD a.s b.s with
  |true=>simp
  |false=>cases h2:dD b.s a.s<;>simp
 ·have h1:¬a.k<b.k:=by omega
  have h2:¬a.k=b.k:=by omega
  simp[h,h1,h2]
theorem QL (a b:aG) (w:World):Calls Tryz.prog 145 #[.agg #[.int .i64 a.dc, .int .i64 a.n, .string a.s, .int .i64 a.k], .agg #[.int .i64 b.dc, .int .i64 b.n, .string b.s, .int .i64 b.k]] w fun e w'=>
 e= .returned (.agg #[.int .i64 (lK a b).dc, .int .i64 (lK a b).n, .string (lK a b).s, .int .i64 (lK a b).k])∧aj au w w':=by
 have hg:=QK a b
 unfold lK
 cases hq:zK a b with
 |true=>
  rw[hq]at hg
  clear hq
  obtain⟨a1,a2,a3,a4⟩:=a
  obtain⟨b1,b2,b3,b4⟩:=b
  simp only at hg⊢
  have HZ:=ah (rfl:oJ (jw a4 b4) (jW a3 b3)=oJ (jw a4 b4) (jW a3 b3))
  go_enter Tryz.func145,Tryz.ntmps145
  go_wp2_with fail
  go_region_held3 (fun w'=>w'.cell? ⟨w.heap.size,2,none⟩=some (.string a3)∧w'.cell? ⟨w.heap.size,3,none⟩=some (.int .i64 a4)∧w'.cell? ⟨w.heap.size+1,2,none⟩=some (.string b3)∧w'.cell? ⟨w.heap.size+1,3,none⟩=some (.int .i64 b4))
   (go_keep)
   (first
     |(go_at_call 150;refine(DJ _ _ _).mono ?_;rintro e w' ⟨rfl,rfl⟩)
     |(go_at_call 155;refine(wF _ _ _).mono ?_;rintro e w' ⟨rfl,rfl⟩)
     |(go_at_call 171;refine(BD _ _ (jw a4 b4) (jW a3 b3) _ (by go_simp) (by go_simp)).mono ?_;rintro e w' ⟨rfl,rfl⟩))
  all_goals
   go_wp2
   refine bodyPost_ret (v:= .agg #[.int .i64 b1, .int .i64 b2, .string b3, .int .i64 b4]) (by simp[results,Tryz.results145,go_sem]) rfl ⟨rfl,by repeat(first|exact aj.refl _ _|refine aj.alloc1 ?_|refine aj.qP ?_|refine aj.eX ?_|refine aj.set1 ?_ (.inr (by simp;omega)))⟩
 |false=>
  rw[hq]at hg
  clear hq
  obtain⟨a1,a2,a3,a4⟩:=a
  obtain⟨b1,b2,b3,b4⟩:=b
  simp only at hg⊢
  have HZ:=ah (rfl:oJ (jw a4 b4) (jW a3 b3)=oJ (jw a4 b4) (jW a3 b3))
  go_enter Tryz.func145,Tryz.ntmps145
  go_wp2_with fail
  go_region_held3 (fun w'=>w'.cell? ⟨w.heap.size,2,none⟩=some (.string a3)∧w'.cell? ⟨w.heap.size,3,none⟩=some (.int .i64 a4)∧w'.cell? ⟨w.heap.size+1,2,none⟩=some (.string b3)∧w'.cell? ⟨w.heap.size+1,3,none⟩=some (.int .i64 b4))
   (go_keep)
   (first
     |(go_at_call 150;refine(DJ _ _ _).mono ?_;rintro e w' ⟨rfl,rfl⟩)
     |(go_at_call 155;refine(wF _ _ _).mono ?_;rintro e w' ⟨rfl,rfl⟩)
     |(go_at_call 171;refine(BD _ _ (jw a4 b4) (jW a3 b3) _ (by go_simp) (by go_simp)).mono ?_;rintro e w' ⟨rfl,rfl⟩))
  all_goals
   go_wp2
   refine bodyPost_ret (v:= .agg #[.int .i64 a1, .int .i64 a2, .string a3, .int .i64 a4]) (by simp[results,Tryz.results145,go_sem]) rfl ⟨rfl,by repeat(first|exact aj.refl _ _|refine aj.alloc1 ?_|refine aj.qP ?_|refine aj.eX ?_|refine aj.set1 ?_ (.inr (by simp;omega)))⟩
end Go.Proofs.YtlhmbkjdfjoilaaGreat
