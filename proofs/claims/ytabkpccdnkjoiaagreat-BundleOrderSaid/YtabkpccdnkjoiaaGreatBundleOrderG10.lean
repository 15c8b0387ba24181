/- Words for the law BundleOrder: TDots, HeldTwo, Caus, JoinP, Greater. -/
import Derived.Test.YtabkpccdnkjoiaaGreatBundleOrderG0
import Derived.Test.YtabkpccdnkjoiaaGreatBundleOrderG2
import Derived.Test.YtabkpccdnkjoiaaGreatBundleOrderG4
import Derived.Test.YtabkpccdnkjoiaaGreatBundleOrderG7
import Derived.Test.YtabkpccdnkjoiaaGreatBundleOrderG8
import Derived.Test.YtabkpccdnkjoiaaGreatBundleOrderG9
set_option linter.unusedSimpArgs false
set_option linter.unusedVariables false
set_option maxHeartbeats 32000000
set_option maxRecDepth 1000000
namespace Go.Proofs.YtabkpccdnkjoiaaGreat
open Go.RowKit
theorem yH (Q:Nat→Prop) (es:List aG) (ks:aI) (w:World) (ev kv:Value) (ht:bJ Q w ev kv es ks) (hok:gG es ks):
 Calls Tryz.prog 155 #[.agg #[ev,kv]] w fun e w'=>e= .returned (.bool (aX 5 es ks))∧aj au w w':=by
 obtain⟨ae,ce,rfl⟩:=ht.ents.rd.sl
 obtain⟨os,hkr,dZ⟩:=ht.kids
 obtain⟨ak,ck,rfl⟩:=hkr.rd.sl
 have hc:∀W,aj au w W→Calls Tryz.prog 201 #[.agg #[.slice ae es.length ce, .slice ak ks.len ck], .int .i64 5] W fun e w'=>e= .returned (.bool (aX 5 es ks))∧aj au W w':=fun W f=>NC Q _ es ks 5 W _ _ (Nat.lt_succ_self _) (ht.aP f) hok (by omega)
 have HC:=ah hc
 clear hkr dZ ht hok hc
 generalize aX 5 es ks=y at*
 generalize es.length=n at*
 generalize ks.len=m at*
 go_enter Tryz.func155,Tryz.ntmps155
 go_wp2_with(go_at_call 201;refine(HC.out _ (aj.alloc _ _ _)).mono ?_;rintro e w3 ⟨rfl,hw3⟩;have HW3:=ah ((aj.alloc au _ _).ay hw3);clear hw3)
 go_ret
 exact⟨rfl,HW3.out⟩
def BI (w:World) (es:List aG) (ks:aI) (e:Ending) (w':World):Prop:=
 aj au w w'∧(aX 5 es ks=true→∃v' c,e= .returned (.tuple #[v', .int .i64 0])∧OwnAt w w' 144 3 v' c.length (bT c)∧ku (bU es ks) c∧c.length≤16000)∧(aX 5 es ks=false→e= .returned (.tuple #[.slice none 0 0, .int .i64 1]))
theorem GI (Q:Nat→Prop) (es:List aG) (ks:aI) (w:World) (ev kv:Value) (ht:bJ Q w ev kv es ks) (hok:gG es ks) (hsz:sizeT es ks≤4000):
 Calls Tryz.prog 146 #[.agg #[ev,kv]] w (BI w es ks):=by
 obtain⟨ae,ce,rfl⟩:=ht.ents.rd.sl
 obtain⟨os,hkr,dZ⟩:=ht.kids
 obtain⟨ak,ck,rfl⟩:=hkr.rd.sl
 have HR:=ah (fun W (f:aj au w W)=>yH Q es ks W _ _ (ht.aP f) hok)
 have HA:=ah (fun w' (h:aj au w w')=>Nw Q _ es ks w' _ _ (Nat.lt_succ_self _) (ht.aP h) (by omega))
 have hdl:=uU es ks
 have jD:=ah (show(bU es ks).length≤4000 by omega)
 clear hkr dZ ht hok hsz hdl
 by_cases hr:aX 5 es ks=true
 ·have HDK:=ah (uT hr)
  rw[hr]at HR
  have kS:=ah hr;clear hr
  have hpost:∀e w',aj au w w'→(∃v' c,e= .returned (.tuple #[v', .int .i64 0])∧OwnAt w w' 144 3 v' c.length (bT c)∧ku (bU es ks) c∧c.length≤16000)→BI w es ks e w':=fun e w' h1 h2=>⟨h1,fun _=>h2,fun h=>by rw[kS.out]at h;cases h⟩
  have qN:=ah hpost;clear hpost
  generalize bU es ks=l at*
  generalize es.length=n at*
  generalize ks.len=m at*
  go_enter Tryz.func146,Tryz.ntmps146
  go_wp2_with(first
   |(go_at_call 155;refine(HR.out _ (aj.alloc _ _ _)).mono ?_;rintro e w1 ⟨rfl,hw1⟩;obtain⟨y0,y1⟩:=GH w _ _ _ w1 hw1;have HW1:=ah ((aj.alloc au _ _).ay hw1);clear hw1)
   |(go_at_call 187;refine(HA.out _ HW1.out).mono ?_;rintro e w2 ⟨v2,rfl,ho2⟩;obtain⟨a2,c2,rfl⟩:=ho2.shape;have dD:=ah ho2;clear ho2)
   |(go_at_call 186;refine(Nc _ _ l dD.out.rd HDK.out (by have:=jD.out;omega)).mono ?_;rintro e w3 ⟨v3,c,rfl,ho3,hof,-⟩;obtain⟨a3,c3,rfl⟩:=ho3.shape;have bI:=ah ho3;clear ho3;have eX:=ah hof;clear hof))
  go_ret2
  have hf:=(HW1.out.ay dD.out.aH).ay bI.out.aH
  exact qN.out _ _ hf ⟨_,c,rfl,bI.out.base (HW1.out.ay dD.out.aH),eX.out,by have:=eX.out.length;have:=jD.out;omega⟩
 ·have hr':aX 5 es ks=false:=by simpa using hr
  rw[hr']at HR
  have kS:=ah hr';clear hr hr' jD HA
  have hpost:∀w',aj au w w'→BI w es ks (.returned (.tuple #[.slice none 0 0, .int .i64 1])) w':=fun w' h1=>⟨h1,(fun h=>by rw[kS.out]at h;cases h),fun _=>rfl⟩
  have qN:=ah hpost;clear hpost kS
  generalize es.length=n at*
  generalize ks.len=m at*
  go_enter Tryz.func146,Tryz.ntmps146
  go_wp2_with(go_at_call 155;refine(HR.out _ (aj.alloc _ _ _)).mono ?_;rintro e w1 ⟨rfl,hw1⟩;have HW1:=ah ((aj.alloc au _ _).ay hw1);clear hw1)
  go_ret2
  exact qN.out _ HW1.out
theorem NP (Q:Nat→Prop) (es:List aG) (ks:aI) (w:World) (ev kv:Value) (ht:bJ Q w ev kv es ks) (hok:gG es ks) (hsz:sizeT es ks≤4000) (hr:aX 5 es ks=true):
 Calls Tryz.prog 164 #[.agg #[ev,kv]] w (yF w es ks):=by
 obtain⟨ae,ce,rfl⟩:=ht.ents.rd.sl
 obtain⟨os,hkr,dZ⟩:=ht.kids
 obtain⟨ak,ck,rfl⟩:=hkr.rd.sl
 have HR:=ah (fun W (f:aj au w W)=>yH Q es ks W _ _ (ht.aP f) hok)
 have HA:=ah (fun w' (h:aj au w w')=>NI Q _ es ks w' _ _ (Nat.lt_succ_self _) (ht.aP h) (by omega))
 rw[hr]at HR
 have sH:=ah (show ∀w1 w',aj au w w1→∀ev' kv',bJ (fun b=>w1.heap.size≤b) w' ev' kv' es ks→bJ (fun b=>w.heap.size≤b) w' ev' kv' es ks from fun w1 w' h ev' kv' h2=>h2.turn fun b hb hQ=>⟨rfl,Nat.le_trans h.size hQ⟩)
 clear hkr dZ ht hok hsz hr
 generalize hes:es.length=n at*
 generalize hkl:ks.len=m at*
 obtain⟨hb2,hfb,hbs⟩:=oL w (.cells #[.slice ae n ce, .slice ak m ck] 30) #[.slice none 0 0, .slice none 0 0] 30
 have HB2:=ah hb2;clear hb2
 have bW:=ah hfb;clear hfb
 have yG:=ah hbs;clear hbs
 have vg:=ah hes;clear hes
 have jB:=ah hkl;clear hkl
 go_enter Tryz.func164,Tryz.ntmps164
 go_wp2_with(first
  |(go_at_call 155;refine(HR.out _ bW.out).mono ?_;rintro e w1 ⟨rfl,hw1⟩;obtain⟨y0,y1⟩:=GH w _ _ _ w1 ((aj.alloc au _ _).ay hw1);have HW1:=ah hw1;clear hw1)
  |(go_at_call 207;refine(HA.out _ (bW.out.ay HW1.out)).mono ?_;rintro e w2 ⟨mP,mQ,rfl,iY,hf3⟩;obtain⟨a3,c3,rfl⟩:=iY.ents.rd.sl;obtain⟨os3,iQ,-⟩:=iY.kids;obtain⟨a4,c4,rfl⟩:=iQ.rd.sl;clear iQ;have hblk:=hf3.blk (HW1.out.blk HB2.out id) id;have y0:=aF hblk 0 rfl;have y1:=aF hblk 1 rfl;have g0:=aY hblk 0;have g1:=aY hblk 1;have hsb:=ah (lt_of_block hblk);have HR2:=ah (res2 hblk ((bW.out.ay HW1.out).ay hf3) (by omega) (.slice a3 es.length c3) (.slice a4 ks.len c4));have hs1:=HW1.out.size;have HP:=ah (iY.turn (Q':=fun b=>w.heap.size≤b) fun b hb hQ=>⟨HR2.out.2.2 b (by have:=yG.out;omega),by have:=yG.out;omega⟩);clear iY hf3 hblk hs1;rw[vg.out,jB.out]at HR2 HP;rw[vg.out,jB.out]))
 clear y0 y1
 have y0:=aF HR2.out.1 0 rfl
 have y1:=aF HR2.out.1 1 rfl
 exact bodyPost_ret (v:= .agg #[.slice a3 n c3, .slice a4 m c4]) (by simp[results,Tryz.results164,go_sem,y0,y1]) rfl ⟨_,_,rfl,HP.out,HR2.out.2.1⟩
open Go.RowKit
section
variable {P:Program} {md:Region.Mode} {ops:Array Oper} {Q:Exit→Act→World→Prop} {S:World→Prop} {z:Nat}
def vk (md:Region.Mode) (ops:Array Oper) (z i:Nat):Bool:=match ops[z]? with|some o=>o.after.any fun e=>Region.binds md e&&e.on==i|none=>false
theorem NQ {i:Nat} {o:Oper} (h:vk md ops z i=true) (hz:ops[z]?=some o):∃e∈o.after,Region.binds md e=true∧e.on=i:=by
 unfold vk at h
 rw[hz]at h
 simp only[beq_iff_eq,Array.any_eq_true,Bool.and_eq_true]at h
 obtain⟨k,hk,h2,h3⟩:=h
 exact⟨o.after[k],Array.getElem_mem hk,h2,h3⟩
theorem NR {i:Nat} {oi:Oper} {v:Value} (hi:ops[i]?=some oi) (hsel:∀(j:Nat) (o:Oper) cs b,ops[j]?=some o→o.op≠ .select cs b) (hl:vk md ops z i=true)
 (hQ:∀c a w,Q (.panic c) (a.put oi.dst v) w→Q (.panic c) a w):
 ∀(fuel:Nat) (listed:Array Bool) (a:Act) (w:World),
  (∀j oj,ops[j]?=some oj→j≠i→listed.getD j true=false→(∀e∈oj.after,Region.binds md e=true→e.on≠i)→oi.apart ops oj=true)→
  i∈Region.ready md ops listed→YieldsIf P ops S oi v a→S w→
  h_ P md ops Q S z fuel (listed.setIfInBounds i true) (a.put oi.dst v) w→h_ P md ops Q S z (fuel+1) listed a w:=by
 intro fuel
 induction fuel with
 |zero=>
  intro listed a w _ hr hy hS H
  refine⟨fun h=>(by rw[h]at hr;cases hr),fun j hj=>?_⟩
  by_cases hji:j=i
  ·subst hji;exact hy.wpOp hi hS ⟨.inr hS,H⟩
  ·have:=ready_mono hj hji
   rw[H.1]at this
   cases this
 |succ fuel ih=>
  intro listed a w hfree hr hy hS H
  refine⟨fun h=>(by rw[h]at hr;cases hr),fun j hj=>?_⟩
  by_cases hji:j=i
  ·subst hji;exact hy.wpOp hi hS ⟨.inr hS,H⟩
  ·have h1:=H.2 j (ready_mono hj hji)
   obtain⟨hjun,oj,hoj,hall⟩:=mem_ready.1 hj
   have hnot:∀e∈oj.after,Region.binds md e=true→e.on≠i:=fun e he hb heq=>by
    have h1:=hall e he hb
    have h0:=(mem_ready.1 hr).1
    rw[heq]at h1
    rcases Nat.lt_or_ge i listed.size with h'|h'
    ·simp[h']at h0 h1;rw[h0]at h1;cases h1
    ·simp[Array.getElem?_eq_none h']at h1
   have hjz:j≠z:=fun hz=>by
    subst hz
    obtain⟨e,he,hb,heq⟩:=NQ hl hoj
    exact hnot e he hb heq
   have h2:=wpOp_putIf hoj (hfree j oj hoj hji hjun hnot) (fun cs b=>hsel i oi cs b hi) (fun cs b=>hsel j oj cs b hoj) hQ hy h1
   have hfree':∀k ok,ops[k]?=some ok→k≠i→(listed.setIfInBounds j true).getD k true=false→
    (∀e∈ok.after,Region.binds md e=true→e.on≠i)→oi.apart ops ok=true:=fun k ok hk hki hun hno=>by
    refine hfree k ok hk hki ?_ hno
    by_cases hjk:j=k
    ·subst hjk;exact hjun
    ·rw[getD_set_ne true hjk]at hun;exact hun
   refine wpOp_mono (fun a' w' h3=>?_) h2
   have hS':S w':=h3.2.1.resolve_left hjz
   refine⟨.inr hS',ih (listed.setIfInBounds j true) a' w' hfree' (ready_mono hr (Ne.symm hji)) h3.1 hS' ?_⟩
   rw[Array.setIfInBounds_comm _ _ hji]
   exact h3.2.2
theorem NS (i d:Nat) {oi:Oper} {v:Value} {fuel:Nat} {listed:Array Bool} {a:Act} {w:World} (hi:ops[i]?=some oi) (hd:oi.dst=some d)
 (hs:Region.noSelect ops=true) (hl:vk md ops z i=true) (hf:Region.free md ops listed i=true) (hr:(Region.ready md ops listed).contains i=true)
 (hQ:∀c a w,Q (.panic c) (a.put (some d) v) w→Q (.panic c) a w) (hy:YieldsIf P ops S oi v a) (hS:S w)
 (h:h_ P md ops Q S z fuel (listed.setIfInBounds i true) (a.put (some d) v) w):h_ P md ops Q S z (fuel+1) listed a w:=
 NR hi (Region.noSelect_spec hs) hl (by rw[hd];exact hQ) fuel listed a w (Region.free_spec hi hf) (by simpa using hr) hy hS (by rw[hd];exact h)
theorem nN (i d:Nat) {oi:Oper} {v:Value} {fuel:Nat} {listed:Array Bool} {a:Act} {w:World} (hi:ops[i]?=some oi) (hd:oi.dst=some d) (hy:YieldsIf P ops S oi v a)
 (h:h_ P md ops Q S z fuel (listed.setIfInBounds i true) (a.put (some d) v) w)
 (hs:Region.noSelect ops=true:=by kernel_rfl) (hl:vk md ops z i=true:=by kernel_rfl) (hf:Region.free md ops listed i=true:=by kernel_rfl) (hr:(Region.ready md ops listed).contains i=true:=by kernel_rfl)
 (hQ:∀c a w,Q (.panic c) (a.put (some d) v) w→Q (.panic c) a w:=by exact fun _ _ _ h=>h) (hS:S w:=by assumption):h_ P md ops Q S z (fuel+1) listed a w:=
 NS i d hi hd hs hl hf hr hQ hy hS h
theorem tq {i j:Nat} {o p:Oper} {fuel:Nat} {listed:Array Bool} {a:Act} {w:World} (hr:Region.ready md ops listed=[i,j]) (ho:ops[i]?=some o) (hp:ops[j]?=some p)
 (h:∀K':Act→World→Prop,Shut (∀a w,S w→h_ P md ops Q S z fuel (listed.setIfInBounds i true) a w→K' a w)→if Region.wanted o (yielded ops a.tmps)=true then Oper.wp P o a w K' Q else K' (a.put o.dst undef) w)
 (k:∀K':Act→World→Prop,Shut (∀a w,S w→h_ P md ops Q S z fuel (listed.setIfInBounds j true) a w→K' a w)→if Region.wanted p (yielded ops a.tmps)=true then Oper.wp P p a w K' Q else K' (a.put p.dst undef) w):
 h_ P md ops Q S z (fuel+1) listed a w:=
 ⟨fun h0=>(by rw[hr]at h0;cases h0),fun x hx=>by
   rw[hr]at hx
   rcases List.mem_cons.1 hx with rfl|hx
   ·exact wpOp_step ho fun K' hK=>h K' fun a w hS hW=>hK a w ⟨.inr hS,hW⟩
   ·obtain rfl:x=j:=by simpa using hx
    exact wpOp_step hp fun K' hK=>k K' fun a w hS hW=>hK a w ⟨.inr hS,hW⟩⟩
theorem tu {o:Oper} {a:Act} (w0 w:World) {K:Act→World→Prop} {E:Prop} (news:List Value) (hgd:o.guard=none) (s x:Operand) (t tx:TypeId)
 (ho:o.op= .call {callee:= .builtin .append,args:= #[s,x],argTypes:= #[t,tx]})
 (e ex:TypeId) (i:TypeInfo) (zv:Value) (size bytes:Nat) (ht:P.underlying t=some (.slice e)) (htx:P.underlying tx=some (.slice ex)) (hi:P.info? e=some i) (hz:i.zero=some zv)
 (hsize:i.size=size) (hby:i.bytes=bytes) (hzs:zv.cells.size=size) (hsz:0<size)
 (v:Value) (n:Nat) (xs:List Value) (hown:OwnAt w0 w e size v n xs) (xv:Value) (m:Nat) (hv:a.eval s=v) (hx:a.eval x=xv) (hr:Rd w xv m news)
 (hnl:news.length=m*size) (h1:∀u∈news,u.oneCell'=true) (h63:n+m≤maxLen) (hbytes:(n+m)*bytes≤140737488355328)
 (h:∀ad c w',OwnAt w0 w' e size (.slice ad (n+m) c) (n+m) (xs++news)→aj (iL v) w w'→kK w v (.slice ad (n+m) c)→K (a.put o.dst (.slice ad (n+m) c)) w'):
 if Region.wanted o (yielded ops a.tmps)=true then Oper.wp P o a w K Q else E:=by
 have hw:Region.wanted o (yielded ops a.tmps)=true:=by simp[Region.wanted,hgd]
 rw[if_pos hw]
 obtain⟨v',w',hrun,h2,h3,h4,⟨ad,c',rfl⟩,h6⟩:=wU (P:=P) w t tx o.type e i zv size bytes ht hi hz hsize hby hzs hsz v n xs hown.own _ m news (hr.src htx hnl h1) h63 hbytes
 unfold Oper.wp execOp
 simp only[ho,resolve,invoke,builtin,Sem.run_bind,Sem.run_pure,Result.andThen_ok,List.map_toArray,List.map_cons,List.map_nil,hv,hx,hrun]
 exact h ad c' w' (hown.step h2 h3 h4) h3 h4
end
open Go.RowKit
structure eG (es:List aG) (ks:aI) (c:aU):Prop where
 tree:aX 5 es ks=true
 ctx:bH c
 dots:mM (bU es ks) c
structure gQ (Q:Nat→Prop) (w:World) (ev kv cv:Value) (es:List aG) (ks:aI) (c:aU):Prop where
 tree:bJ Q w ev kv es ks
 ctx:dL w cv c
structure fG (es:List aG) (ks:aI) (c:aU):Prop where
 tree:gG es ks
 small:sizeT es ks≤2000
 fits:gB c
 len:c.length≤2000
theorem gQ.aP {Q:Nat→Prop} {w w':World} {ev kv cv:Value} {es:List aG} {ks:aI} {c:aU} (h:gQ Q w ev kv cv es ks c) (f:aj au w w'):gQ Q w' ev kv cv es ks c:=⟨h.tree.aP f,Rd.aP h.ctx f⟩
theorem gQ.shape {Q:Nat→Prop} {w:World} {ev kv cv:Value} {es:List aG} {ks:aI} {c:aU} (h:gQ Q w ev kv cv es ks c):∃a0 c0 a1 c1 a2 c2,ev= .slice a0 es.length c0∧kv= .slice a1 ks.len c1∧cv= .slice a2 c.length c2:=by
 obtain⟨a0,c0,h0⟩:=h.tree.ents.rd.sl
 obtain⟨os,hk,_⟩:=h.tree.kids
 obtain⟨a1,c1,h1⟩:=hk.rd.sl
 obtain⟨a2,c2,h2⟩:=Rd.sl h.ctx
 exact⟨a0,c0,a1,c1,a2,c2,h0,h1,h2⟩
theorem qO (Q:Nat→Prop) (es:List aG) (ks:aI) (c:aU) (w:World) (ev kv cv:Value) (h:gQ Q w ev kv cv es ks c) (hok:fG es ks c):
 Calls Tryz.prog 93 #[.agg #[ev,kv,cv]] w fun e w'=>e= .returned (.bool (tf (eG es ks c)))∧aj au w w':=by
 obtain⟨a0,c0,a1,c1,a2,c2,rfl,rfl,rfl⟩:=h.shape
 have HD:=ah (fun w' (f:aj au w w')=>GI Q es ks w' _ _ (h.tree.aP f) hok.tree (Nat.le_trans hok.small (by decide)))
 have HL:=ah (fun w' (f:aj au w w') vd d (hd:dL w' vd d) (rd:bH d) (ld:d.length≤16000)=>FT w' vd _ d c hd (Rd.aP h.ctx f) rd.fits hok.fits (by omega) (by have:=hok.len;omega))
 clear h hok
 by_cases hr:aX 5 es ks=true
 ·have dw:=ah (uT hr)
  have kS:=ah hr;clear hr
  have hpost:∀d,ku (bU es ks) d→tf (bH d∧bH c∧fK d c)=tf (eG es ks c):=fun d hd=>lI ⟨fun h=>⟨kS.out,h.2.1,(hd.leq dw.out).1 h.2.2⟩,fun h=>⟨hd.right,h.ctx,(hd.leq dw.out).2 h.dots⟩⟩
  have qN:=ah hpost;clear hpost
  generalize tf (eG es ks c)=y at*
  generalize es.length=n at*
  generalize ks.len=m at*
  generalize c.length=k at*
  go_enter Tryz.func93,Tryz.ntmps93
  go_wp2_with(first
   |(go_at_call 146;refine(HD.out _ (aj.alloc _ _ _)).mono ?_;rintro e w1 ⟨hf1,hp1,-⟩;obtain⟨v1,d,rfl,ho1,hof,hl1⟩:=hp1 kS.out;clear hp1;obtain⟨y0,y1,y2⟩:=sZ w _ _ _ _ w1 hf1;obtain⟨b1,e1,rfl⟩:=ho1.shape;have bZ:=ah ho1;clear ho1;have eX:=ah hof;clear hof;have kT:=ah hl1;clear hl1 hf1)
   |(go_at_call 147;refine(HL.out _ ((aj.alloc au _ _).ay bZ.out.aH) _ d bZ.out.rd eX.out.right kT.out).mono ?_;rintro e w2 ⟨rfl,hw2⟩;rw[qN.out d eX.out];have HW2:=ah hw2;clear hw2))
  go_ret
  exact⟨rfl,((aj.alloc au _ _).ay bZ.out.aH).ay HW2.out⟩
 ·have hr':aX 5 es ks=false:=by simpa using hr
  rw[bn fun h=>hr h.tree]
  have kS:=ah hr';clear hr hr' HL
  generalize es.length=n at*
  generalize ks.len=m at*
  generalize c.length=k at*
  go_enter Tryz.func93,Tryz.ntmps93
  go_wp2_with(go_at_call 146;refine(HD.out _ (aj.alloc _ _ _)).mono ?_;rintro e w1 ⟨hf1,-,hp1⟩;obtain rfl:=hp1 kS.out;clear hp1;obtain⟨y0,y1,y2⟩:=sZ w _ _ _ _ w1 hf1;have dN:=ah hf1;clear hf1)
  go_ret
  exact⟨rfl,(aj.alloc au _ _).ay dN.out⟩
def NT (w:World) (es:List aG) (ks:aI) (c:aU) (e:Ending) (w':World):Prop:=
 ∃ev kv cv,e= .returned (.agg #[ev,kv,cv])∧bJ (fun b=>w.heap.size≤b) w' ev kv es ks∧OwnAt w w' 144 3 cv c.length (bT c)
theorem NU (Q:Nat→Prop) (es:List aG) (ks:aI) (c:aU) (w:World) (ev kv cv:Value) (h:gQ Q w ev kv cv es ks c) (hok:fG es ks c) (hr:eG es ks c):
 Calls Tryz.prog 104 #[.agg #[ev,kv,cv]] w (NT w es ks c):=by
 obtain⟨a0,c0,a1,c1,a2,c2,rfl,rfl,rfl⟩:=h.shape
 have HR:=ah (fun w' (f:aj au w w')=>bM hr▸qO Q es ks c w' _ _ _ (h.aP f) hok)
 have HT:=ah (fun w' (f:aj au w w')=>NP Q es ks w' _ _ (h.tree.aP f) hok.tree (Nat.le_trans hok.small (by decide)) hr.tree)
 have HS:=ah (fun w' (f:aj au w w')=>NH w' _ c (Rd.aP h.ctx f) (by have:=hok.len;omega))
 clear h hok hr
 generalize hes:es.length=n at*
 generalize hkl:ks.len=m at*
 generalize hcl:c.length=k at*
 have vg:=ah hes;clear hes
 have jB:=ah hkl;clear hkl
 have jS:=ah hcl;clear hcl
 have htb:((w.alloc (.cells #[.slice a0 n c0, .slice a1 m c1, .slice a2 k c2] 34)).alloc (.cells #[.slice none 0 0, .slice none 0 0, .slice none 0 0] 34)).heap[w.heap.size+1]?=some (.cells #[.slice none 0 0, .slice none 0 0, .slice none 0 0] 34 (0,0)):=(oL w _ _ _).1
 have qg:=ah htb;clear htb
 have hfb:aj au (w.alloc (.cells #[.slice a0 n c0, .slice a1 m c1, .slice a2 k c2] 34)) ((w.alloc (.cells #[.slice a0 n c0, .slice a1 m c1, .slice a2 k c2] 34)).alloc (.cells #[.slice none 0 0, .slice none 0 0, .slice none 0 0] 34)):=aj.alloc _ _ _
 have bW:=ah hfb;clear hfb
 have bF:=ah (sZ w (.slice a0 n c0) (.slice a1 m c1) (.slice a2 k c2) 34)
 go_enter Tryz.func104,Tryz.ntmps104
 go_wp2_with(go_at_call 93;refine(HR.out _ ((aj.alloc au _ _).ay bW.out)).mono ?_;rintro e w1 ⟨rfl,hw1⟩;obtain⟨y0,y1,y2⟩:=bF.out w1 (bW.out.ay hw1);have hblk:=hw1.blk qg.out id;have GK:=ah hblk;clear hblk;have HW1:=ah (((aj.alloc au _ _).ay bW.out).ay hw1);clear hw1)
 refine gX (S:=fun w'=>w'.cell? ⟨w.heap.size,0,none⟩=some (.slice a0 n c0)∧w'.cell? ⟨w.heap.size,1,none⟩=some (.slice a1 m c1)∧w'.cell? ⟨w.heap.size,2,none⟩=some (.slice a2 k c2)) 7 (by kernel_rfl) ⟨y0,y1,y2⟩ ?_
 intro hS
 have gU:=ah (HW1.out.ay (aj.drew au w1))
 have jM:=ah ((aj.drew au w1).blk GK.out id)
 have hsb:w.heap.size+1<w1.drew.heap.size:=lt_of_block jM.out
 clear y0 y1 y2 HW1 GK
 generalize w1.drew=Y at*
 refine aT 0 7 rfl rfl (v:=?_) (.inl ⟨by rfl,?_⟩) ?_
 rotate_left 1
 ·(intro w hSw;(try dsimp only at hSw);go_simp;(try with_reducible rfl))
 refine aT 1 8 rfl rfl (v:=?_) (.inl ⟨by rfl,?_⟩) ?_
 rotate_left 1
 ·(intro w hSw;(try dsimp only at hSw);go_simp;(try with_reducible rfl))
 try simp only[Act.put,aJ,aN,aO]
 refine aT 3 10 rfl rfl (v:=?_) (.inl ⟨by rfl,?_⟩) ?_
 rotate_left 1
 ·(intro w hSw;(try dsimp only at hSw);go_simp;(try with_reducible rfl))
 refine aT 4 11 rfl rfl (v:=?_) (.inl ⟨by rfl,?_⟩) ?_
 rotate_left 1
 ·(intro w hSw;(try dsimp only at hSw);go_simp;(try with_reducible rfl))
 try simp only[Act.put,aJ,aN,aO]
 refine bD (i:=2) (by kernel_rfl) rfl (fun K hK=>?_)
 go_simp
 refine(HT.out _ gU.out).mono ?_
 rintro e Y1 ⟨mP,mQ,rfl,iY,hf3⟩
 obtain⟨a3,c3,rfl⟩:=iY.ents.rd.sl
 obtain⟨os3,iQ,-⟩:=iY.kids
 obtain⟨a4,c4,rfl⟩:=iQ.rd.sl
 clear iQ
 have hS:=(⟨hf3.cell' hS.1 id,hf3.cell' hS.2.1 id,hf3.cell' hS.2.2 id⟩:Y1.cell? ⟨w.heap.size,0,none⟩=some (.slice a0 n c0)∧Y1.cell? ⟨w.heap.size,1,none⟩=some (.slice a1 m c1)∧Y1.cell? ⟨w.heap.size,2,none⟩=some (.slice a2 k c2))
 rw[vg.out,jB.out]
 refine hK.out _ _ hS ?_
 clear hK K
 have qM:=ah iY;clear iY
 have HF3:=ah hf3;clear hf3
 try simp only[Act.put,aJ,aN,aO]
 refine bD (i:=5) (by kernel_rfl) rfl (fun K hK=>?_)
 go_simp
 refine(HS.out _ (gU.out.ay HF3.out)).mono ?_
 rintro e Y2 ⟨v5,rfl,iZ⟩
 obtain⟨a5,c5,rfl⟩:=iZ.shape
 have hS:=(⟨iZ.aH.cell' hS.1 id,iZ.aH.cell' hS.2.1 id,iZ.aH.cell' hS.2.2 id⟩:Y2.cell? ⟨w.heap.size,0,none⟩=some (.slice a0 n c0)∧Y2.cell? ⟨w.heap.size,1,none⟩=some (.slice a1 m c1)∧Y2.cell? ⟨w.heap.size,2,none⟩=some (.slice a2 k c2))
 refine hK.out _ _ hS ?_
 clear hK K
 have jV:=ah iZ;clear iZ
 try simp only[Act.put,aJ,aN,aO]
 refine aT 6 13 rfl rfl (v:=?_) (.inl ⟨by rfl,?_⟩) ?_
 rotate_left 1
 ·(intro w hSw;(try dsimp only at hSw);go_simp;(try with_reducible rfl))
 try simp only[Act.put,aJ,aN,aO]
 refine fD (by kernel_rfl) (by kernel_rfl) rfl (fun K hK=>?_)
 have hblk:=jV.out.aH.blk (HF3.out.blk jM.out id) id
 have HR3:=ah (BH hblk ((gU.out.ay HF3.out).ay jV.out.aH) (by omega) (.slice a3 n c3) (.slice a4 m c4) (.slice a5 k c5))
 have hs3:=HF3.out.size
 have NV:=lt_of_block hblk
 have HP:=ah ((qM.out.aP jV.out.aH).turn (Q':=fun b=>w.heap.size≤b) fun b hb hQ=>⟨HR3.out.2.2 b (by omega),by omega⟩)
 have hown:OwnAt w (((Y2.setCell ⟨w.heap.size+1,0,none⟩ (.slice a3 n c3)).setCell ⟨w.heap.size+1,1,none⟩ (.slice a4 m c4)).setCell ⟨w.heap.size+1,2,none⟩ (.slice a5 k c5)) 144 3 (.slice a5 k c5) k (bT c):=by
  have hnew:=jV.out.new
  have vw:dM (fun b=>b=w.heap.size+1) w Y2 144 3 (.slice a5 k c5) k (bT c):=⟨jV.out.base (gU.out.ay HF3.out),fun b hb hn=>by have:=hnew b hb;omega⟩
  exact(((vw.set (p:=⟨w.heap.size+1,0,none⟩) rfl (Nat.le_succ _) _).set (p:=⟨w.heap.size+1,1,none⟩) rfl (Nat.le_succ _) _).set (p:=⟨w.heap.size+1,2,none⟩) rfl (Nat.le_succ _) _).at_
 have HOW:=ah hown;clear hown
 have y0:=aF hblk 0 rfl
 have y1:=aF hblk 1 rfl
 have y2:=aF hblk 2 rfl
 have g0:=aY hblk 0
 have g1:=aY hblk 1
 have g2:=aY hblk 2
 clear hS hblk
 go_simp
 refine hK.out _ _ ?_
 clear hK K y0 y1 y2 g0 g1 g2
 go_wp2
 have y0:=aF HR3.out.1 0 rfl
 have y1:=aF HR3.out.1 1 rfl
 have y2:=aF HR3.out.1 2 rfl
 exact bodyPost_ret (v:= .agg #[.slice a3 n c3, .slice a4 m c4, .slice a5 k c5]) (by simp[results,Tryz.results104,go_sem,y0,y1,y2]) rfl ⟨_,_,_,rfl,by have:=HP.out;rw[vg.out,jB.out]at this;exact this,jS.out.symm▸HOW.out⟩
end Go.Proofs.YtabkpccdnkjoiaaGreat
namespace Go.Proofs.YtabkpccdnkjoiaaGreat
theorem yI:∀a:List UInt8,Op.bytesLess a a=false
 |[]=>rfl
 |x::a=>by simp[Op.bytesLess,yI a]
theorem BJ:∀a b:List UInt8,Op.bytesLess a b=false→Op.bytesLess b a=false→a=b
 |[],[],_,_=>rfl
 |[],_::_,h,_=>by simp[Op.bytesLess]at h
 |_::_,[],_,h=>by simp[Op.bytesLess]at h
 |x::a,y::b,h,h'=>by
  simp only[Op.bytesLess,Bool.or_eq_false_iff,decide_eq_false_iff_not,UInt8.not_lt]at h h'
  have e:x=y:=UInt8.le_antisymm h'.1 h.1
  subst e
  simp at h h'
  rw[BJ a b h h']
theorem BK:∀a b c:List UInt8,Op.bytesLess a b=true→Op.bytesLess b c=true→Op.bytesLess a c=true
 |[],[],_,h,_=>by simp[Op.bytesLess]at h
 |[],_::_,[],_,h=>by simp[Op.bytesLess]at h
 |[],_::_,_::_,_,_=>rfl
 |_::_,[],_,h,_=>by simp[Op.bytesLess]at h
 |_::_,_::_,[],_,h=>by simp[Op.bytesLess]at h
 |x::a,y::b,z::c,h,h'=>by
  simp only[Op.bytesLess,Bool.or_eq_true,decide_eq_true_eq,Bool.and_eq_true,beq_iff_eq]at h h'⊢
  rcases h with h|⟨rfl,h⟩
  ·rcases h' with h'|⟨rfl,h'⟩
   ·exact .inl (UInt8.lt_trans h h')
   ·exact .inl h
  ·rcases h' with h'|⟨rfl,h'⟩
   ·exact .inl h'
   ·exact .inr ⟨rfl,BK a b c h h'⟩
theorem nO (a:ByteArray):dW a a=false:=yI _
theorem vC {a b:ByteArray} (h:dW a b=false) (h':dW b a=false):a=b:=by
 have:=BJ _ _ h h'
 rw[ByteArray.toList_eq,ByteArray.toList_eq]at this
 exact ByteArray.ext (Array.toList_inj.1 this)
theorem qP {a b c:ByteArray} (h:dW a b=true) (h':dW b c=true):dW a c=true:=BK _ _ _ h h'
theorem BL {a b:ByteArray} (h:dW a b=true):dW b a=false:=by
 cases h':dW b a with
 |false=>rfl
 |true=>have:=qP h h';rw[nO]at this;cases this
def ltD (x y:aG):Bool:=lJ x.dc x.n y.dc y.n
theorem vF {x y:aG}:ltD x y=true↔x.dc<y.dc∨x.dc=y.dc∧x.n<y.n:=by unfold ltD lJ;exact decide_eq_true_iff
theorem yJ {x y:aG}:ltD x y=false↔¬(x.dc<y.dc∨x.dc=y.dc∧x.n<y.n):=by unfold ltD lJ;exact decide_eq_false_iff_not
def vG (a b:aG):Bool:=decide (a.k<b.k)||decide (a.k=b.k)&&dW a.s b.s
def jE (a b:aG):aG:=if vG a b=true then b else a
theorem NW {a b:aG} (hd:a.dc=b.dc) (hn:a.n=b.n):(jE a b).dc=a.dc∧(jE a b).n=a.n:=by unfold jE;split<;>simp[hd,hn]
theorem NY (a b:aG):jE a b=a∨jE a b=b:=by unfold jE;split<;>simp
theorem NZ {a b:aG} (h:ltD a b=false) (h':ltD b a=false):jE a b=jE b a:=by
 rw[yJ]at h h'
 obtain⟨d1,n1,s1,k1⟩:=a
 obtain⟨d2,n2,s2,k2⟩:=b
 simp only at h h'
 have hd:d1=d2:=by omega
 have hn:n1=n2:=by omega
 subst hd hn
 unfold jE vG
 simp only
 rcases Int.lt_trichotomy k1 k2 with hk|rfl|hk
 ·have h1:¬k2<k1:=by omega
  have h2:¬k2=k1:=by omega
  simp[hk,h1,h2]
 ·cases g1:dW s1 s2 with
  |true=>simp[BL g1]
  |false=>
   cases g2:dW s2 s1 with
   |true=>simp
   |false=>simp[vC g1 g2]
 ·have h1:¬k1<k2:=by omega
  have h2:¬k1=k2:=by omega
  simp[hk,h1,h2]
def jW (h:Int→Int→Bool) (x:aG):List aG:=if h x.dc x.n=true then []else [x]
def dK (ha hb:Int→Int→Bool):List aG→List aG→List aG
 |[],[]=> []
 |x::a,[]=>jW hb x++dK ha hb a []
 |[],y::b=>jW ha y++dK ha hb [] b
 |x::a,y::b=>if ltD x y=true then jW hb x++dK ha hb a (y::b)else if ltD y x=true then jW ha y++dK ha hb (x::a) b else jE x y::dK ha hb a b
termination_by a b=>a.length+b.length
theorem N_ {x y:aG} (h:ltD x y=true):ltD y x=false:=by rw[vF]at h;rw[yJ];omega
theorem Oa (ha hb:Int→Int→Bool) (a b:List aG):dK ha hb a b=dK hb ha b a:=by
 fun_induction dK ha hb a b with
 |case1=>rw[dK]
 |case2 x a ih=>rw[ih,dK]
 |case3 y b ih=>rw[ih,dK]
 |case4 x a y b h ih=>rw[ih];conv=>rhs;rw[dK];rw[if_neg (by rw[N_ h];simp),if_pos h]
 |case5 x a y b h h' ih=>rw[ih];conv=>rhs;rw[dK];rw[if_pos h']
 |case6 x a y b h h' ih=>
  rw[ih]
  conv=>rhs;rw[dK];rw[if_neg h',if_neg h]
  rw[NZ (a:=x) (b:=y) (by simpa using h) (by simpa using h')]
theorem yK {h:Int→Int→Bool} {x y:aG} (hy:y∈jW h x):y=x:=by unfold jW at hy;split at hy<;>simp at hy;exact hy
theorem qQ {ha hb:Int→Int→Bool} {a b:List aG} {e:aG} (he:e∈dK ha hb a b):e∈a∨e∈b:=by
 fun_induction dK ha hb a b with
 |case1=>cases he
 |case2 x a ih=>
  rcases List.mem_append.1 he with h|h
  ·left;rw[yK h];simp
  ·rcases ih h with h|h
   ·left;simp[h]
   ·right;exact h
 |case3 y b ih=>
  rcases List.mem_append.1 he with h|h
  ·right;rw[yK h];simp
  ·rcases ih h with h|h
   ·left;exact h
   ·right;simp[h]
 |case4 x a y b _ ih=>
  rcases List.mem_append.1 he with h|h
  ·left;rw[yK h];simp
  ·rcases ih h with h|h
   ·left;simp[h]
   ·right;exact h
 |case5 x a y b _ _ ih=>
  rcases List.mem_append.1 he with h|h
  ·right;rw[yK h];simp
  ·rcases ih h with h|h
   ·left;exact h
   ·right;simp[h]
 |case6 x a y b _ _ ih=>
  rcases List.mem_cons.1 he with h|h
  ·rcases NY x y with g|g
   ·left;rw[h,g];simp
   ·right;rw[h,g];simp
  ·rcases ih h with h|h
   ·left;simp[h]
   ·right;simp[h]
theorem GL:∀(l:List aG) (p:Option aG),dO p l=true↔(∀e∈l,dJ e=true)∧(∀e,l.head?=some e→mJ p e=true)∧l.Pairwise fun x y=>ltD x y=true
 |[],p=>by simp[dO]
 |e::l,p=>by
  rw[dO,Bool.and_eq_true,Bool.and_eq_true,GL l (some e)]
  simp only[List.mem_cons,forall_eq_or_imp,List.head?_cons,Option.some.injEq,forall_eq',List.pairwise_cons]
  constructor
  ·rintro⟨⟨h1,h2⟩,h3,h4,h5⟩
   refine⟨⟨h1,h3⟩,h2,fun y hy=>?_,h5⟩
   cases l with
   |nil=>cases hy
   |cons z l=>
    have hz:ltD e z=true:=h4 z rfl
    rcases List.mem_cons.1 hy with rfl|hy
    ·exact hz
    ·have:=(List.pairwise_cons.1 h5).1 y hy
     rw[vF]at hz this⊢
     omega
  ·rintro⟨⟨h1,h3⟩,h2,h4,h5⟩
   refine⟨⟨h1,h2⟩,h3,fun z hz=>?_,h5⟩
   cases l with
   |nil=>cases hz
   |cons y l=>simp at hz;subst hz;exact h4 y (by simp)
theorem GN {l:List aG}:dO none l=true↔(∀e∈l,dJ e=true)∧l.Pairwise fun x y=>ltD x y=true:=by
 rw[GL]
 exact⟨fun h=>⟨h.1,h.2.2⟩,fun h=>⟨h.1,fun _ _=>rfl,h.2⟩⟩
theorem GR {x y z:aG} (h:ltD x y=true) (h':ltD y z=true):ltD x z=true:=by rw[vF]at*;omega
theorem yL {h:Int→Int→Bool} {x:aG} {l:List aG} {R:aG→aG→Prop} (hl:l.Pairwise R) (hx:∀y∈l,R x y):(jW h x++l).Pairwise R:=by
 unfold jW
 split
 ·exact hl
 ·exact List.pairwise_cons.2 ⟨hx,hl⟩
theorem Ob {ha hb:Int→Int→Bool} {a b:List aG} (oa:a.Pairwise fun x y=>ltD x y=true) (ob:b.Pairwise fun x y=>ltD x y=true):(dK ha hb a b).Pairwise fun x y=>ltD x y=true:=by
 fun_induction dK ha hb a b with
 |case1=>exact List.Pairwise.nil
 |case2 x a ih=>
  obtain⟨h1,h2⟩:=List.pairwise_cons.1 oa
  refine yL (ih h2 ob) fun y hy=>?_
  rcases qQ hy with h|h
  ·exact h1 y h
  ·cases h
 |case3 y b ih=>
  obtain⟨h1,h2⟩:=List.pairwise_cons.1 ob
  refine yL (ih oa h2) fun x hx=>?_
  rcases qQ hx with h|h
  ·cases h
  ·exact h1 x h
 |case4 x a y b h ih=>
  obtain⟨h1,h2⟩:=List.pairwise_cons.1 oa
  obtain⟨h3,h4⟩:=List.pairwise_cons.1 ob
  refine yL (ih h2 ob) fun z hz=>?_
  rcases qQ hz with g|g
  ·exact h1 z g
  ·rcases List.mem_cons.1 g with rfl|g
   ·exact h
   ·exact GR h (h3 z g)
 |case5 x a y b h h' ih=>
  obtain⟨h1,h2⟩:=List.pairwise_cons.1 oa
  obtain⟨h3,h4⟩:=List.pairwise_cons.1 ob
  refine yL (ih oa h4) fun z hz=>?_
  rcases qQ hz with g|g
  ·rcases List.mem_cons.1 g with rfl|g
   ·exact h'
   ·exact GR h' (h1 z g)
  ·exact h3 z g
 |case6 x a y b h h' ih=>
  obtain⟨h1,h2⟩:=List.pairwise_cons.1 oa
  obtain⟨h3,h4⟩:=List.pairwise_cons.1 ob
  have hd:x.dc=y.dc∧x.n=y.n:=by
   have g1:=yJ.1 (by simpa using h:ltD x y=false)
   have g2:=yJ.1 (by simpa using h':ltD y x=false)
   omega
  obtain⟨q1,q2⟩:=NW hd.1 hd.2
  refine List.pairwise_cons.2 ⟨fun z hz=>?_,ih h2 h4⟩
  rcases qQ hz with g|g
  ·have:=h1 z g
   rw[vF]at this⊢
   rw[q1,q2];exact this
  ·have:=h3 z g
   rw[vF]at this⊢
   rw[q1,q2,hd.1,hd.2];exact this
theorem Oc {ha hb:Int→Int→Bool} {a b:List aG} (oa:dO none a=true) (ob:dO none b=true):dO none (dK ha hb a b)=true:=by
 rw[GN]at*
 refine⟨fun e he=>?_,Ob oa.2 ob.2⟩
 rcases qQ he with h|h
 ·exact oa.1 e h
 ·exact ob.1 e h
def fP:List ByteArray→List ByteArray→List ByteArray
 |[],b=>b
 |x::a,[]=>x::a
 |x::a,y::b=>if dW x y=true then x::fP a (y::b)else if dW y x=true then y::fP (x::a) b else x::fP a b
termination_by a b=>a.length+b.length
theorem Oe (a:List ByteArray):fP a []=a:=by cases a<;>rw[fP]
theorem Og (a b:List ByteArray):fP a b=fP b a:=by
 fun_induction fP a b with
 |case1 b=>rw[Oe]
 |case2 x a=>rw[fP]
 |case3 x a y b h ih=>rw[ih];conv=>rhs;rw[fP];rw[if_neg (by rw[BL h];simp),if_pos h]
 |case4 x a y b h h' ih=>rw[ih];conv=>rhs;rw[fP];rw[if_pos h']
 |case5 x a y b h h' ih=>
  rw[ih]
  conv=>rhs;rw[fP];rw[if_neg h',if_neg h]
  rw[vC (a:=x) (b:=y) (by simpa using h) (by simpa using h')]
theorem qh (a b:List ByteArray) (k:ByteArray):k∈fP a b↔k∈a∨k∈b:=by
 fun_induction fP a b with
 |case1 b=>simp
 |case2 x a=>simp
 |case3 x a y b h ih=>simp only[List.mem_cons,ih,or_assoc]
 |case4 x a y b h h' ih=>simp only[List.mem_cons,ih];exact or_left_comm
 |case5 x a y b h h' ih=>
  rw[vC (a:=x) (b:=y) (by simpa using h) (by simpa using h')]
  simp only[List.mem_cons,ih,or_assoc]
  exact⟨fun h=>by rcases h with h|h|h<;>simp[h],fun h=>by rcases h with h|h|h|h<;>simp[h]⟩
abbrev jq (l:List ByteArray):Prop:=l.Pairwise fun x y=>dW x y=true
theorem BM {a b:List ByteArray} (oa:jq a) (ob:jq b):jq (fP a b):=by
 fun_induction fP a b with
 |case1 b=>exact ob
 |case2 x a=>exact oa
 |case3 x a y b h ih=>
  obtain⟨h1,h2⟩:=List.pairwise_cons.1 oa
  obtain⟨h3,h4⟩:=List.pairwise_cons.1 ob
  refine List.pairwise_cons.2 ⟨fun z hz=>?_,ih h2 ob⟩
  rcases(qh _ _ _).1 hz with g|g
  ·exact h1 z g
  ·rcases List.mem_cons.1 g with rfl|g
   ·exact h
   ·exact qP h (h3 z g)
 |case4 x a y b h h' ih=>
  obtain⟨h1,h2⟩:=List.pairwise_cons.1 oa
  obtain⟨h3,h4⟩:=List.pairwise_cons.1 ob
  refine List.pairwise_cons.2 ⟨fun z hz=>?_,ih oa h4⟩
  rcases(qh _ _ _).1 hz with g|g
  ·rcases List.mem_cons.1 g with rfl|g
   ·exact h'
   ·exact qP h' (h1 z g)
  ·exact h3 z g
 |case5 x a y b h h' ih=>
  obtain⟨h1,h2⟩:=List.pairwise_cons.1 oa
  obtain⟨h3,h4⟩:=List.pairwise_cons.1 ob
  have e:=vC (by simpa using h) (by simpa using h')
  refine List.pairwise_cons.2 ⟨fun z hz=>?_,ih h2 h4⟩
  rcases(qh _ _ _).1 hz with g|g
  ·exact h1 z g
  ·rw[e];exact h3 z g
theorem GU:∀ {a b:List ByteArray},jq a→jq b→(∀k,k∈a↔k∈b)→a=b
 |[],[],_,_,_=>rfl
 |[],y::b,_,_,h=>absurd ((h y).2 (by simp)) (by simp)
 |x::a,[],_,_,h=>absurd ((h x).1 (by simp)) (by simp)
 |x::a,y::b,oa,ob,h=>by
  obtain⟨h1,h2⟩:=List.pairwise_cons.1 oa
  obtain⟨h3,h4⟩:=List.pairwise_cons.1 ob
  have e:x=y:=by
   rcases List.mem_cons.1 ((h x).1 (by simp))with g|g
   ·exact g
   ·rcases List.mem_cons.1 ((h y).2 (by simp))with g'|g'
    ·exact g'.symm
    ·have:=BL (h1 y g');rw[h3 x g]at this;cases this
  subst e
  rw[GU h2 h4 fun k=>?_]
  constructor
  ·intro hk
   rcases List.mem_cons.1 ((h k).1 (by simp[hk]))with g|g
   ·subst g;have:=h1 k hk;rw[nO]at this;cases this
   ·exact g
  ·intro hk
   rcases List.mem_cons.1 ((h k).2 (by simp[hk]))with g|g
   ·subst g;have:=h3 k hk;rw[nO]at this;cases this
   ·exact g
def aI.keys:aI→List ByteArray
 | .nil=> []
 | .cons key _ _ rest=>key::rest.keys
def aI.find (s:ByteArray):aI→List aG×aI
 | .nil=>([], .nil)
 | .cons key es sub rest=>if key=s then(es,sub)else rest.find s
def oM (key:ByteArray) (t:List aG×aI) (rest:aI):aI:=if isNil t.1 t.2=true then rest else .cons key t.1 t.2 rest
def gV (f:ByteArray→List aG×aI):List ByteArray→aI
 |[]=> .nil
 |k::l=>oM k (f k) (gV f l)
def gy (ha hb:Int→Int→Bool):Nat→List aG×aI→List aG×aI→List aG×aI
 |0,_,_=>([], .nil)
 |n+1,a,b=>(dK ha hb a.1 b.1,gV (fun k=>gy ha hb n (a.2.find k) (b.2.find k)) (fP a.2.keys b.2.keys))
theorem GV (ha hb:Int→Int→Bool):∀(n:Nat) (a b:List aG×aI),gy ha hb n a b=gy hb ha n b a
 |0,_,_=>rfl
 |n+1,a,b=>by
  unfold gy
  rw[Oa,Og]
  congr 2
  funext k
  exact GV ha hb n _ _
theorem qR:∀(ks:aI) (d:Nat) (p:Option ByteArray),gI ks d p=true→jq ks.keys∧∀k∈ks.keys,ltK p k=true∧kC k=true
 | .nil,_,_,_=>⟨List.Pairwise.nil,fun _ h=>by cases h⟩
 | .cons key es sub rest,d,p,h=>by
   rw[qJ]at h
   simp only[Bool.and_eq_true]at h
   obtain⟨⟨⟨⟨h1,h2⟩,h3⟩,h4⟩,h5⟩:=h
   obtain⟨o,hk⟩:=qR rest d (some key) h5
   refine⟨List.pairwise_cons.2 ⟨fun k hm=>(hk k hm).1,o⟩,fun k hm=>?_⟩
   rcases List.mem_cons.1 hm with rfl|hm
   ·exact⟨h2,h1⟩
   ·refine⟨?_,(hk k hm).2⟩
    cases p with
    |none=>rfl
    |some q=>exact qP h2 (hk k hm).1
theorem qj:∀(ks:aI) (d:Nat) (p:Option ByteArray) (s:ByteArray),gI ks d p=true→(s∈ks.keys→aX d (ks.find s).1 (ks.find s).2=true∧isNil (ks.find s).1 (ks.find s).2=false)∧(s∉ks.keys→ks.find s=([], .nil))
 | .nil,_,_,_,_=>⟨fun h=>(by cases h),fun _=>rfl⟩
 | .cons key es sub rest,d,p,s,h=>by
   rw[qJ]at h
   simp only[Bool.and_eq_true,Bool.not_eq_true']at h
   obtain⟨⟨⟨⟨h1,h2⟩,h3⟩,h4⟩,h5⟩:=h
   have ih:=qj rest d (some key) s h5
   unfold aI.find aI.keys
   by_cases e:key=s
   ·rw[if_pos e]
    exact⟨fun _=>⟨h4,h3⟩,fun hn=>absurd (by simp[e]) hn⟩
   ·rw[if_neg e]
    refine⟨fun hm=>ih.1 ?_,fun hn=>ih.2 fun hm=>hn (by simp[hm])⟩
    rcases List.mem_cons.1 hm with g|g
    ·exact absurd g.symm e
    ·exact g
theorem GX {d:Nat} (hd:1≤d):aX d [] .nil=true:=by simp[aX,dO,gI,hd]
theorem BN {f:ByteArray→List aG×aI} {d:Nat}:∀ {l:List ByteArray} {p:Option ByteArray},jq l→(∀k∈l,kC k=true)→(∀k∈l,ltK p k=true)→(∀k∈l,aX d (f k).1 (f k).2=true)→gI (gV f l) d p=true
 |[],_,_,_,_,_=>rfl
 |k::l,p,o,hb,hp,hf=>by
  obtain⟨h1,h2⟩:=List.pairwise_cons.1 o
  have ih:=BN (f:=f) (d:=d) (p:=some k) h2 (fun x hx=>hb x (by simp[hx])) (fun x hx=>h1 x hx) (fun x hx=>hf x (by simp[hx]))
  unfold gV oM
  split
  ·exact BN h2 (fun x hx=>hb x (by simp[hx])) (fun x hx=>hp x (by simp[hx])) (fun x hx=>hf x (by simp[hx]))
  ·next hn=>
   rw[qJ,hb k (by simp),hp k (by simp),hf k (by simp),ih]
   simpa using hn
theorem Oh (ha hb:Int→Int→Bool):∀(n d:Nat) (a b:List aG×aI),d≤n→aX d a.1 a.2=true→aX d b.1 b.2=true→aX d (gy ha hb n a b).1 (gy ha hb n a b).2=true:=by
 intro n
 induction n with
 |zero=>
  intro d a b hd h1 _
  simp only[aX,Bool.and_eq_true,decide_eq_true_eq]at h1
  omega
 |succ n ih=>
  intro d a b hd h1 h2
  simp only[aX,Bool.and_eq_true,decide_eq_true_eq]at h1 h2⊢
  obtain⟨⟨d1,e1⟩,k1⟩:=h1
  obtain⟨⟨_,e2⟩,k2⟩:=h2
  unfold gy
  refine⟨⟨d1,Oc e1 e2⟩,?_⟩
  obtain⟨o1,q1⟩:=qR _ _ _ k1
  obtain⟨o2,q2⟩:=qR _ _ _ k2
  refine BN (BM o1 o2) (fun k hk=>?_) (fun _ _=>rfl) fun k hk=>?_
  ·rcases(qh _ _ _).1 hk with g|g
   ·exact(q1 k g).2
   ·exact(q2 k g).2
  ·have hd1:1≤d-1:=by
    rcases(qh _ _ _).1 hk with g|g
    ·have:=((qj _ _ _ k k1).1 g).1
     simp only[aX,Bool.and_eq_true,decide_eq_true_eq]at this
     exact this.1.1
    ·have:=((qj _ _ _ k k2).1 g).1
     simp only[aX,Bool.and_eq_true,decide_eq_true_eq]at this
     exact this.1.1
   have get:∀ks:aI,gI ks (d-1) none=true→aX (d-1) (ks.find k).1 (ks.find k).2=true:=fun ks hks=>by
    by_cases hm:k∈ks.keys
    ·exact((qj _ _ _ k hks).1 hm).1
    ·rw[(qj _ _ _ k hks).2 hm];exact GX hd1
   exact ih (d-1) _ _ (by omega) (get _ k1) (get _ k2)
theorem BO:∀(ks:aI) (s:ByteArray) (r:Int×Int),r∈bU (ks.find s).1 (ks.find s).2→r∈iE ks
 | .nil,_,_,h=>by simp[aI.find,bU,jT,iE]at h
 | .cons key es sub rest,s,r,h=>by
   unfold aI.find at h
   unfold iE
   split at h
   ·exact List.mem_append_left _ h
   ·exact List.mem_append_right _ (BO rest s r h)
theorem BP {f:ByteArray→List aG×aI} {r:Int×Int}:∀ {l:List ByteArray},r∈iE (gV f l)→∃k,r∈bU (f k).1 (f k).2
 |[],h=>by simp[gV,iE]at h
 |k::l,h=>by
  unfold gV oM at h
  split at h
  ·exact BP h
  ·unfold iE at h
   rcases List.mem_append.1 h with h|h
   ·exact⟨k,h⟩
   ·exact BP h
theorem GY (ha hb:Int→Int→Bool) (r:Int×Int):∀(n:Nat) (a b:List aG×aI),r∈bU (gy ha hb n a b).1 (gy ha hb n a b).2→r∈bU a.1 a.2∨r∈bU b.1 b.2
 |0,_,_,h=>by simp[gy,bU,jT,iE]at h
 |n+1,a,b,h=>by
  unfold gy bU at h
  rcases List.mem_append.1 h with h|h
  ·obtain⟨e,he,rfl⟩:=List.mem_map.1 h
   rcases qQ he with g|g
   ·left;exact List.mem_append_left _ (List.mem_map.2 ⟨e,g,rfl⟩)
   ·right;exact List.mem_append_left _ (List.mem_map.2 ⟨e,g,rfl⟩)
  ·obtain⟨k,hk⟩:=BP h
   rcases GY ha hb r n _ _ hk with g|g
   ·left;exact List.mem_append_right _ (BO _ _ _ g)
   ·right;exact List.mem_append_right _ (BO _ _ _ g)
open Go.RowKit
theorem Oi (t:TypeId) (a b:ByteArray):binOp .gtr t (.string a) (.string b)=pure (.bool (Op.bytesLess b.toList a.toList)):=by
 have e:(!Op.bytesLess a.toList b.toList&& !a.toList==b.toList)=Op.bytesLess b.toList a.toList:=by
  cases h1:Op.bytesLess a.toList b.toList with
  |true=>
   cases h2:Op.bytesLess b.toList a.toList with
   |false=>rfl
   |true=>have:=BK _ _ _ h1 h2;rw[yI]at this;cases this
  |false=>
   cases h2:Op.bytesLess b.toList a.toList with
   |false=>simp[BJ _ _ h1 h2]
   |true=>
    have:¬a.toList=b.toList:=fun h=>by rw[h,yI]at h2;cases h2
    simpa using this
 rw[←e]
 simp[binOp,Op.stringOp]
def jF (a b:ByteArray):Int:=if dW a b=true then-1 else if dW b a=true then 1 else 0
theorem BQ (a:ByteArray) (w:World):Calls Tryz.prog 281 #[.string a] w fun e w'=>e= .returned (.bool false)∧w'=w:=by
 go_enter Tryz.func281,Tryz.ntmps281
 go_wp2
 go_ret
 exact⟨bg (by simp),rfl⟩
theorem BR (a b:ByteArray) (w:World):Calls Tryz.prog 248 #[.string a, .string b] w fun e w'=>e= .returned (.int .i64 (jF a b))∧w'=w:=by
 have hg:=Oi 9 a b
 unfold jF dW
 cases h1:Op.bytesLess a.toList b.toList with
 |true=>
  go_enter Tryz.func248,Tryz.ntmps248
  go_wp2_with(go_at_call 281;refine(BQ _ _).mono ?_;rintro e w' ⟨rfl,rfl⟩)
  go_ret
  exact⟨by simp,rfl⟩
 |false=>
  cases h2:Op.bytesLess b.toList a.toList with
  |true=>
   rw[h2]at hg
   go_enter Tryz.func248,Tryz.ntmps248
   go_wp2_with(go_at_call 281;refine(BQ _ _).mono ?_;rintro e w' ⟨rfl,rfl⟩)
   go_ret
   exact⟨by simp,rfl⟩
  |false=>
   rw[h2]at hg
   go_enter Tryz.func248,Tryz.ntmps248
   go_wp2_with(go_at_call 281;refine(BQ _ _).mono ?_;rintro e w' ⟨rfl,rfl⟩)
   go_ret
   exact⟨by simp,rfl⟩
theorem Oj (a b:aG):decide (ny (iV a.k b.k) (jF a.s b.s)<0)=vG a b:=by
 rw[Bool.eq_iff_iff]
 simp only[vG,decide_eq_true_eq,Bool.or_eq_true,Bool.and_eq_true]
 unfold ny iV jF
 rcases Int.lt_trichotomy a.k b.k with h|h|h
 ·simp[h]
 ·rw[h]
  cases h1:dW a.s b.s with
  |true=>simp
  |false=>cases h2:dW b.s a.s<;>simp
 ·have h1:¬a.k<b.k:=by omega
  have h2:¬a.k=b.k:=by omega
  simp[h,h1,h2]
theorem Ol (a b:aG) (w:World):Calls Tryz.prog 243 #[.agg #[.int .i64 a.dc, .int .i64 a.n, .string a.s, .int .i64 a.k], .agg #[.int .i64 b.dc, .int .i64 b.n, .string b.s, .int .i64 b.k]] w fun e w'=>
 e= .returned (.agg #[.int .i64 (jE a b).dc, .int .i64 (jE a b).n, .string (jE a b).s, .int .i64 (jE a b).k])∧aj au w w':=by
 have hg:=Oj a b
 unfold jE
 cases hq:vG a b with
 |true=>
  rw[hq]at hg
  clear hq
  obtain⟨a1,a2,a3,a4⟩:=a
  obtain⟨b1,b2,b3,b4⟩:=b
  simp only at hg⊢
  have HZ:=ah (rfl:ny (iV a4 b4) (jF a3 b3)=ny (iV a4 b4) (jF a3 b3))
  go_enter Tryz.func243,Tryz.ntmps243
  go_wp2_with fail
  go_region_held3 (fun w'=>w'.cell? ⟨w.heap.size,2,none⟩=some (.string a3)∧w'.cell? ⟨w.heap.size,3,none⟩=some (.int .i64 a4)∧w'.cell? ⟨w.heap.size+1,2,none⟩=some (.string b3)∧w'.cell? ⟨w.heap.size+1,3,none⟩=some (.int .i64 b4))
   (go_keep)
   (first
     |(go_at_call 248;refine(BR _ _ _).mono ?_;rintro e w' ⟨rfl,rfl⟩)
     |(go_at_call 234;refine(uG _ _ _).mono ?_;rintro e w' ⟨rfl,rfl⟩)
     |(go_at_call 269;refine(zX _ _ (iV a4 b4) (jF a3 b3) _ (by go_simp) (by go_simp)).mono ?_;rintro e w' ⟨rfl,rfl⟩))
  all_goals
   go_wp2
   refine bodyPost_ret (v:= .agg #[.int .i64 b1, .int .i64 b2, .string b3, .int .i64 b4]) (by simp[results,Tryz.results243,go_sem]) rfl ⟨rfl,by repeat(first|exact aj.refl _ _|refine aj.alloc1 ?_|refine aj.nZ ?_|refine aj.eF ?_|refine aj.set1 ?_ (.inr (by simp;omega)))⟩
 |false=>
  rw[hq]at hg
  clear hq
  obtain⟨a1,a2,a3,a4⟩:=a
  obtain⟨b1,b2,b3,b4⟩:=b
  simp only at hg⊢
  have HZ:=ah (rfl:ny (iV a4 b4) (jF a3 b3)=ny (iV a4 b4) (jF a3 b3))
  go_enter Tryz.func243,Tryz.ntmps243
  go_wp2_with fail
  go_region_held3 (fun w'=>w'.cell? ⟨w.heap.size,2,none⟩=some (.string a3)∧w'.cell? ⟨w.heap.size,3,none⟩=some (.int .i64 a4)∧w'.cell? ⟨w.heap.size+1,2,none⟩=some (.string b3)∧w'.cell? ⟨w.heap.size+1,3,none⟩=some (.int .i64 b4))
   (go_keep)
   (first
     |(go_at_call 248;refine(BR _ _ _).mono ?_;rintro e w' ⟨rfl,rfl⟩)
     |(go_at_call 234;refine(uG _ _ _).mono ?_;rintro e w' ⟨rfl,rfl⟩)
     |(go_at_call 269;refine(zX _ _ (iV a4 b4) (jF a3 b3) _ (by go_simp) (by go_simp)).mono ?_;rintro e w' ⟨rfl,rfl⟩))
  all_goals
   go_wp2
   refine bodyPost_ret (v:= .agg #[.int .i64 a1, .int .i64 a2, .string a3, .int .i64 a4]) (by simp[results,Tryz.results243,go_sem]) rfl ⟨rfl,by repeat(first|exact aj.refl _ _|refine aj.alloc1 ?_|refine aj.nZ ?_|refine aj.eF ?_|refine aj.set1 ?_ (.inr (by simp;omega)))⟩
end Go.Proofs.YtabkpccdnkjoiaaGreat
