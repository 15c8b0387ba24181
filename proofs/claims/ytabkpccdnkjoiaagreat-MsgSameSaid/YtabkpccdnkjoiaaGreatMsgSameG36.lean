/- Words for the law MsgSame: Same3, HeldNone. -/
import Derived.Test.YtabkpccdnkjoiaaGreatMsgSameG0
import Derived.Test.YtabkpccdnkjoiaaGreatMsgSameG9
import Derived.Test.YtabkpccdnkjoiaaGreatMsgSameG17
import Derived.Test.YtabkpccdnkjoiaaGreatMsgSameG21
set_option linter.unusedSimpArgs false
set_option linter.unusedVariables false
set_option maxHeartbeats 32000000
set_option maxRecDepth 1000000
namespace Go.Proofs.YtabkpccdnkjoiaaGreat
open Go.RowKit
theorem ab2 (Q Q':Nat→Prop) (es:List aG) (ks:aH) (c:aW) (es':List aG) (ks':aH) (c':aW) (w:World) (dc af la v0 v1 v2 v3 dc' jL la' v0' v1' v2' dO:Int) (ev kv cv ev' kv' cv':Value) (h:fH Q w ev kv cv es ks c) (hok:fP es ks c) (h':fH Q' w ev' kv' cv' es' ks' c') (hok':fP es' ks' c'):
 Calls Tryz.prog 69 #[.agg #[.int .i64 dc, .int .i64 af, .int .i64 la, .int .i64 v0, .int .i64 v1, .int .i64 v2, .int .i64 v3,ev,kv,cv], .agg #[.int .i64 dc', .int .i64 jL, .int .i64 la', .int .i64 v0', .int .i64 v1', .int .i64 v2', .int .i64 dO,ev',kv',cv']] w fun e w'=>e= .returned (.bool (tf (Ap dc af la v0 v1 v2 v3 dc' jL la' v0' v1' v2' dO es ks c es' ks' c')))∧aj ay w w':=by
 have HC:=ah (fun W (f:aj ay w W)=>KL Q Q' es ks c es' ks' c' W _ _ _ _ _ _ (h.aO f) hok (h'.aO f) hok')
 obtain⟨a0,c0,a1,c1,a2,c2,rfl,rfl,rfl⟩:=h.shape
 obtain⟨b0,d0,b1,d1,b2,d2,rfl,rfl,rfl⟩:=h'.shape
 clear h hok h' hok'
 by_cases e0:dc=dc'
 rotate_left 1
 ·rw[aZ fun h=>e0 h.1]
  have ge:((dc:Int)==dc')=false:=by simpa using e0
  clear e0 HC
  generalize es.length=n at*
  generalize ks.len=m at*
  generalize c.length=k at*
  generalize es'.length=n' at*
  generalize ks'.len=m' at*
  generalize c'.length=k' at*
  have bg:=ah ((aj.alloc ay w (.cells #[.int .i64 dc, .int .i64 af, .int .i64 la, .int .i64 v0, .int .i64 v1, .int .i64 v2, .int .i64 v3, .slice a0 n c0, .slice a1 m c1, .slice a2 k c2] 55)).alloc1 (o:= .cells #[.int .i64 dc', .int .i64 jL, .int .i64 la', .int .i64 v0', .int .i64 v1', .int .i64 v2', .int .i64 dO, .slice b0 n' d0, .slice b1 m' d1, .slice b2 k' d2] 55))
  have aQ:=ah (rY w (.int .i64 dc) (.int .i64 af) (.int .i64 la) (.int .i64 v0) (.int .i64 v1) (.int .i64 v2) (.int .i64 v3) (.slice a0 n c0) (.slice a1 m c1) (.slice a2 k c2) (.int .i64 dc') (.int .i64 jL) (.int .i64 la') (.int .i64 v0') (.int .i64 v1') (.int .i64 v2') (.int .i64 dO) (.slice b0 n' d0) (.slice b1 m' d1) (.slice b2 k' d2) 55)
  obtain⟨⟨y0,y1,y2,y3,y4,y5,y6,y7,y8,y9⟩,z0,z1,z2,z3,z4,z5,z6,z7,z8,z9⟩:=aQ.out _ (aj.refl _ _)
  go_enter Tryz.func69,Tryz.ntmps69
  go_wp2
  go_ret
  exact⟨rfl,bg.out⟩
 subst e0
 by_cases e1:af=jL
 rotate_left 1
 ·rw[aZ fun h=>e1 h.2.1]
  have ge:((af:Int)==jL)=false:=by simpa using e1
  clear e1 HC
  generalize es.length=n at*
  generalize ks.len=m at*
  generalize c.length=k at*
  generalize es'.length=n' at*
  generalize ks'.len=m' at*
  generalize c'.length=k' at*
  have bg:=ah ((aj.alloc ay w (.cells #[.int .i64 dc, .int .i64 af, .int .i64 la, .int .i64 v0, .int .i64 v1, .int .i64 v2, .int .i64 v3, .slice a0 n c0, .slice a1 m c1, .slice a2 k c2] 55)).alloc1 (o:= .cells #[.int .i64 dc, .int .i64 jL, .int .i64 la', .int .i64 v0', .int .i64 v1', .int .i64 v2', .int .i64 dO, .slice b0 n' d0, .slice b1 m' d1, .slice b2 k' d2] 55))
  have aQ:=ah (rY w (.int .i64 dc) (.int .i64 af) (.int .i64 la) (.int .i64 v0) (.int .i64 v1) (.int .i64 v2) (.int .i64 v3) (.slice a0 n c0) (.slice a1 m c1) (.slice a2 k c2) (.int .i64 dc) (.int .i64 jL) (.int .i64 la') (.int .i64 v0') (.int .i64 v1') (.int .i64 v2') (.int .i64 dO) (.slice b0 n' d0) (.slice b1 m' d1) (.slice b2 k' d2) 55)
  obtain⟨⟨y0,y1,y2,y3,y4,y5,y6,y7,y8,y9⟩,z0,z1,z2,z3,z4,z5,z6,z7,z8,z9⟩:=aQ.out _ (aj.refl _ _)
  go_enter Tryz.func69,Tryz.ntmps69
  go_wp2
  go_ret
  exact⟨rfl,bg.out⟩
 subst e1
 by_cases e2:la=la'
 rotate_left 1
 ·rw[aZ fun h=>e2 h.2.2.1]
  have ge:((la:Int)==la')=false:=by simpa using e2
  clear e2 HC
  generalize es.length=n at*
  generalize ks.len=m at*
  generalize c.length=k at*
  generalize es'.length=n' at*
  generalize ks'.len=m' at*
  generalize c'.length=k' at*
  have bg:=ah ((aj.alloc ay w (.cells #[.int .i64 dc, .int .i64 af, .int .i64 la, .int .i64 v0, .int .i64 v1, .int .i64 v2, .int .i64 v3, .slice a0 n c0, .slice a1 m c1, .slice a2 k c2] 55)).alloc1 (o:= .cells #[.int .i64 dc, .int .i64 af, .int .i64 la', .int .i64 v0', .int .i64 v1', .int .i64 v2', .int .i64 dO, .slice b0 n' d0, .slice b1 m' d1, .slice b2 k' d2] 55))
  have aQ:=ah (rY w (.int .i64 dc) (.int .i64 af) (.int .i64 la) (.int .i64 v0) (.int .i64 v1) (.int .i64 v2) (.int .i64 v3) (.slice a0 n c0) (.slice a1 m c1) (.slice a2 k c2) (.int .i64 dc) (.int .i64 af) (.int .i64 la') (.int .i64 v0') (.int .i64 v1') (.int .i64 v2') (.int .i64 dO) (.slice b0 n' d0) (.slice b1 m' d1) (.slice b2 k' d2) 55)
  obtain⟨⟨y0,y1,y2,y3,y4,y5,y6,y7,y8,y9⟩,z0,z1,z2,z3,z4,z5,z6,z7,z8,z9⟩:=aQ.out _ (aj.refl _ _)
  go_enter Tryz.func69,Tryz.ntmps69
  go_wp2
  go_ret
  exact⟨rfl,bg.out⟩
 subst e2
 by_cases e3:v0=v0'∧v1=v1'∧v2=v2'∧v3=dO
 rotate_left 1
 ·rw[aZ fun h=>e3 h.2.2.2.1]
  have JY:=JX e3
  clear e3 HC
  generalize es.length=n at*
  generalize ks.len=m at*
  generalize c.length=k at*
  generalize es'.length=n' at*
  generalize ks'.len=m' at*
  generalize c'.length=k' at*
  have bg:=ah ((aj.alloc ay w (.cells #[.int .i64 dc, .int .i64 af, .int .i64 la, .int .i64 v0, .int .i64 v1, .int .i64 v2, .int .i64 v3, .slice a0 n c0, .slice a1 m c1, .slice a2 k c2] 55)).alloc1 (o:= .cells #[.int .i64 dc, .int .i64 af, .int .i64 la, .int .i64 v0', .int .i64 v1', .int .i64 v2', .int .i64 dO, .slice b0 n' d0, .slice b1 m' d1, .slice b2 k' d2] 55))
  have aQ:=ah (rY w (.int .i64 dc) (.int .i64 af) (.int .i64 la) (.int .i64 v0) (.int .i64 v1) (.int .i64 v2) (.int .i64 v3) (.slice a0 n c0) (.slice a1 m c1) (.slice a2 k c2) (.int .i64 dc) (.int .i64 af) (.int .i64 la) (.int .i64 v0') (.int .i64 v1') (.int .i64 v2') (.int .i64 dO) (.slice b0 n' d0) (.slice b1 m' d1) (.slice b2 k' d2) 55)
  obtain⟨⟨y0,y1,y2,y3,y4,y5,y6,y7,y8,y9⟩,z0,z1,z2,z3,z4,z5,z6,z7,z8,z9⟩:=aQ.out _ (aj.refl _ _)
  go_enter Tryz.func69,Tryz.ntmps69
  go_wp2
  go_ret
  exact⟨rfl,bg.out⟩
 have JY:=Qs e3
 have hall:tf (Ap dc af la v0 v1 v2 v3 dc af la v0' v1' v2' dO es ks c es' ks' c')=tf ((es=es'∧ks=ks')∧c=c'):=kT ⟨fun h=>h.2.2.2.2,fun h=>⟨rfl,rfl,rfl,e3,h⟩⟩
 rw[hall]
 clear hall e3
 generalize tf ((es=es'∧ks=ks')∧c=c')=y at*
 generalize es.length=n at*
 generalize ks.len=m at*
 generalize c.length=k at*
 generalize es'.length=n' at*
 generalize ks'.len=m' at*
 generalize c'.length=k' at*
 have bg:=ah ((aj.alloc ay w (.cells #[.int .i64 dc, .int .i64 af, .int .i64 la, .int .i64 v0, .int .i64 v1, .int .i64 v2, .int .i64 v3, .slice a0 n c0, .slice a1 m c1, .slice a2 k c2] 55)).alloc1 (o:= .cells #[.int .i64 dc, .int .i64 af, .int .i64 la, .int .i64 v0', .int .i64 v1', .int .i64 v2', .int .i64 dO, .slice b0 n' d0, .slice b1 m' d1, .slice b2 k' d2] 55))
 have aQ:=ah (rY w (.int .i64 dc) (.int .i64 af) (.int .i64 la) (.int .i64 v0) (.int .i64 v1) (.int .i64 v2) (.int .i64 v3) (.slice a0 n c0) (.slice a1 m c1) (.slice a2 k c2) (.int .i64 dc) (.int .i64 af) (.int .i64 la) (.int .i64 v0') (.int .i64 v1') (.int .i64 v2') (.int .i64 dO) (.slice b0 n' d0) (.slice b1 m' d1) (.slice b2 k' d2) 55)
 obtain⟨⟨y0,y1,y2,y3,y4,y5,y6,y7,y8,y9⟩,z0,z1,z2,z3,z4,z5,z6,z7,z8,z9⟩:=aQ.out _ (aj.refl _ _)
 go_enter Tryz.func69,Tryz.ntmps69
 go_wp2_with(go_at_call 40;refine(HC.out _ bg.out).mono ?_;rintro e w3 ⟨rfl,hw3⟩;have HW3:=ah (bg.out.au hw3);clear hw3)
 go_ret
 exact⟨rfl,HW3.out⟩
open Go.RowKit
section
variable {P:Program} {md:Region.Mode} {ops:Array Oper} {Q:Exit→Act→World→Prop} {S:World→Prop} {z:Nat}
theorem ab3 {i:Nat} {oi:Oper} {v:Value} (hi:ops[i]?=some oi) (hsel:∀(j:Nat) (o:Oper) cs b,ops[j]?=some o→o.op≠ .select cs b) (hl:ops[z]?=none)
 (hQ:∀c a w,Q (.panic c) (a.put oi.dst v) w→Q (.panic c) a w):
 ∀(fuel:Nat) (listed:Array Bool) (a:Act) (w:World),
  (∀j oj,ops[j]?=some oj→j≠i→listed.getD j true=false→(∀e∈oj.after,Region.binds md e=true→e.on≠i)→oi.apart ops oj=true)→
  i∈Region.ready md ops listed→YieldsIf P ops S oi v a→S w→
  kN P md ops Q S z fuel (listed.setIfInBounds i true) (a.put oi.dst v) w→kN P md ops Q S z (fuel+1) listed a w:=by
 intro fuel
 induction fuel with
 |zero=>
  intro listed a w _ hr hy hS H
  refine⟨fun h=>(by rw[h]at hr;cases hr),fun j hj=>?_⟩
  by_cases hji:j=i
  ·subst hji;exact hy.wpOp hi hS ⟨.inr hS,H⟩
  ·have:=ready_mono hj hji
   rw[H.1]at this
   cases this
 |succ fuel ih=>
  intro listed a w hfree hr hy hS H
  refine⟨fun h=>(by rw[h]at hr;cases hr),fun j hj=>?_⟩
  by_cases hji:j=i
  ·subst hji;exact hy.wpOp hi hS ⟨.inr hS,H⟩
  ·have h1:=H.2 j (ready_mono hj hji)
   obtain⟨hjun,oj,hoj,hall⟩:=mem_ready.1 hj
   have hnot:∀e∈oj.after,Region.binds md e=true→e.on≠i:=fun e he hb heq=>by
    have h1:=hall e he hb
    have h0:=(mem_ready.1 hr).1
    rw[heq]at h1
    rcases Nat.lt_or_ge i listed.size with h'|h'
    ·simp[h']at h0 h1;rw[h0]at h1;cases h1
    ·simp[Array.getElem?_eq_none h']at h1
   have hjz:j≠z:=fun hz=>by
    subst hz
    rw[hl]at hoj
    cases hoj
   have h2:=wpOp_putIf hoj (hfree j oj hoj hji hjun hnot) (fun cs b=>hsel i oi cs b hi) (fun cs b=>hsel j oj cs b hoj) hQ hy h1
   have hfree':∀k ok,ops[k]?=some ok→k≠i→(listed.setIfInBounds j true).getD k true=false→
    (∀e∈ok.after,Region.binds md e=true→e.on≠i)→oi.apart ops ok=true:=fun k ok hk hki hun hno=>by
    refine hfree k ok hk hki ?_ hno
    by_cases hjk:j=k
    ·subst hjk;exact hjun
    ·rw[getD_set_ne true hjk]at hun;exact hun
   refine wpOp_mono (fun a' w' h3=>?_) h2
   have hS':S w':=h3.2.1.resolve_left hjz
   refine⟨.inr hS',ih (listed.setIfInBounds j true) a' w' hfree' (ready_mono hr (Ne.symm hji)) h3.1 hS' ?_⟩
   rw[Array.setIfInBounds_comm _ _ hji]
   exact h3.2.2
theorem iV (i d:Nat) {oi:Oper} {v:Value} {fuel:Nat} {listed:Array Bool} {a:Act} {w:World} (hi:ops[i]?=some oi) (hd:oi.dst=some d)
 (hs:Region.noSelect ops=true) (hl:ops[z]?=none) (hf:Region.free md ops listed i=true) (hr:(Region.ready md ops listed).contains i=true)
 (hQ:∀c a w,Q (.panic c) (a.put (some d) v) w→Q (.panic c) a w) (hy:YieldsIf P ops S oi v a) (hS:S w)
 (h:kN P md ops Q S z fuel (listed.setIfInBounds i true) (a.put (some d) v) w):kN P md ops Q S z (fuel+1) listed a w:=
 ab3 hi (Region.noSelect_spec hs) hl (by rw[hd];exact hQ) fuel listed a w (Region.free_spec hi hf) (by simpa using hr) hy hS (by rw[hd];exact h)
theorem LZ {fuel:Nat} {listed:Array Bool} {a:Act} {w:World} (hr:Region.ready md ops listed=[]) (h:Q .normal a w):kN P md ops Q S z fuel listed a w:=by
 cases fuel with
 |zero=>exact⟨hr,h⟩
 |succ n=>exact⟨fun _=>h,by rw[hr];simp⟩
end
end Go.Proofs.YtabkpccdnkjoiaaGreat
