/- Words for the law BundleOrder: ReadyLaw, VecOpen, BundleOrderL. -/
import Derived.Test.YtabkpccdnkjoiaaGreatBundleOrderG0
import Derived.Test.YtabkpccdnkjoiaaGreatBundleOrderG13
import Derived.Test.YtabkpccdnkjoiaaGreatBundleOrderG18
import Derived.Test.YtabkpccdnkjoiaaGreatBundleOrderG19
import Derived.Test.YtabkpccdnkjoiaaGreatBundleOrderG20
set_option linter.unusedSimpArgs false
set_option linter.unusedVariables false
set_option maxHeartbeats 32000000
set_option maxRecDepth 1000000
namespace Go.Proofs.YtabkpccdnkjoiaaGreat
open Go.RowKit
def Js (v:Value):Prop:=∃u0 u1 u2 u3:Int,v=jh u0 u1 u2 u3
end Go.Proofs.YtabkpccdnkjoiaaGreat
namespace Go.Proofs.YtabkpccdnkjoiaaGreat
open Go.RowKit Go.WideShapes Go.ChangeShapes
theorem RF {H:Type} {enc:TypeId×Value→H} {w:World} {base:Nat} {v:Value} {d:DataW H} {ps:List MemPlace} (hv:Value.okWide Tryz.prog w .any base 25 v) (h:DataW.Trod enc Tryz.prog w 0 (fun _=>true) true 25 v d ps):Js v:=by
 unfold Value.okWide at hv
 rw[Tryz.underlying25]at hv
 obtain⟨cs,rfl,hsz,_⟩:=hv
 rw[Tryz.cells_vector]at hsz
 obtain⟨l⟩:=cs
 match l,hsz with
 |[c0,c1,c2,c3],_=>
 obtain⟨fuel,hf⟩:=h
 have hf:DataW.trod enc Tryz.prog w 0 (fun _=>true) true fuel 25 [c0,c1,c2,c3]=some (d,ps):=hf
 obtain⟨v0,v1,v2,v3,rfl,rfl,rfl,rfl,_⟩:=Jq hf
 exact⟨v0,v1,v2,v3,rfl⟩
open Go.RowKit
theorem uf (u v:Int→Int) (dc la d:Int):dV u v dc la d=if d=dc then max (max (u d) (v d)) la else max (u d) (v d):=by
 unfold dV dA oQ
 split
 ·next h=>subst h;rfl
 ·rfl
theorem zK (f:Int→Int) {d:Int} (h0:0≤d) (h4:d<4):aS (f 0) (f 1) (f 2) (f 3) d=f d:=by
 rcases four h0 h4 with rfl|rfl|rfl|rfl<;>rfl
theorem RG (u a b:Int→Int) (dc la dd lb:Int) (hne:dc≠dd) {d:Int} (h0:0≤d) (h4:d<4):
 dV (aS (dV u a dc la 0) (dV u a dc la 1) (dV u a dc la 2) (dV u a dc la 3)) b dd lb d=dV (aS (dV u b dd lb 0) (dV u b dd lb 1) (dV u b dd lb 2) (dV u b dd lb 3)) a dc la d:=by
 have e1:=zK (dV u a dc la) h0 h4
 have e2:=zK (dV u b dd lb) h0 h4
 generalize aS (dV u a dc la 0) (dV u a dc la 1) (dV u a dc la 2) (dV u a dc la 3)=g at*
 generalize aS (dV u b dd lb 0) (dV u b dd lb 1) (dV u b dd lb 2) (dV u b dd lb 3)=k at*
 rw[uf g,uf k,e1,e2,uf,uf]
 split<;>split<;>simp only[Int.max_def]<;>(repeat' split)<;>omega
theorem Jt {u a b:Int→Int} {dc af dd lb:Int} (hne:dc≠dd) (h0:0≤dc) (h4:dc<4) (ha:u dc=af∧iG a u) (hb:iG b u):
 aS (dV u b dd lb 0) (dV u b dd lb 1) (dV u b dd lb 2) (dV u b dd lb 3) dc=af∧iG a (aS (dV u b dd lb 0) (dV u b dd lb 1) (dV u b dd lb 2) (dV u b dd lb 3)):=by
 refine⟨?_,fun d g0 g4=>?_⟩
 ·rw[zK _ h0 h4,uf,if_neg hne]
  have:=hb dc h0 h4
  rw[Int.max_def];split<;>omega
 ·rw[zK _ g0 g4,uf]
  have:=ha.2 d g0 g4
  split<;>simp only[Int.max_def]<;>(repeat' split)<;>omega
theorem ug (w:World) (c1 c2:Array Value) (T:TypeId):aj au w ((w.alloc (.cells c1 T)).alloc (.cells c2 T)).drew∧((w.alloc (.cells c1 T)).alloc (.cells c2 T)).drew.heap[w.heap.size]?=some (.cells c1 T (0,0))∧((w.alloc (.cells c1 T)).alloc (.cells c2 T)).drew.heap[w.heap.size+1]?=some (.cells c2 T (0,0)):=by
 refine⟨((aj.alloc _ _ _).alloc1).nZ,?_,?_⟩
 ·show((w.alloc (.cells c1 T)).alloc (.cells c2 T)).heap[w.heap.size]?=_
  rw[Below.heap_alloc _ _ _ (by simp)];exact heap_alloc_new w _
 ·show((w.alloc (.cells c1 T)).alloc (.cells c2 T)).heap[w.heap.size+1]?=_
  have:=heap_alloc_new (w.alloc (.cells c1 T)) (.cells c2 T)
  simpa using this
theorem RH (w:World) (u0 u1 u2 u3:Int) (v v':Value) (h:wR w v) (h':wR w v'):Calls Tryz.prog 5 #[v,v',jh u0 u1 u2 u3] w fun e w'=>e= .returned (.bool true)∧aj (fun _=>False) w w':=by
 obtain⟨dc,af,la,v0,v1,v2,v3,ev,kv,cv,es,ks,c,rfl,hc,hok,hf,hcl⟩:=h.out
 obtain⟨dd,bf,lb,x0,x1,x2,x3,ev',kv',cv',es',ks',c',rfl,hc',hok',hf',hcl'⟩:=h'.out
 have HA:=ah Ro
 have Ju:=ah (fun W (f:aj au w W)=>Jl (fun _=>True) es ks c 40 W dc af la v0 v1 v2 v3 _ _ _ (hc.aP f) hok hcl (by decide) (by decide))
 have Jv:=ah (fun W (f:aj au w W)=>Jl (fun _=>True) es' ks' c' 40 W dd bf lb x0 x1 x2 x3 _ _ _ (hc'.aP f) hok' hcl' (by decide) (by decide))
 have kQ:=ah (fun W (f:aj au w W) (ok:fG es ks c)=>IK (fun _=>True) es ks c W dc af la v0 v1 v2 v3 _ _ _ (hc.aP f) ok)
 have lu:=ah (fun W (f:aj au w W) (ok:fG es' ks' c')=>IK (fun _=>True) es' ks' c' W dd bf lb x0 x1 x2 x3 _ _ _ (hc'.aP f) ok)
 have Jw:=ah (fun W (f:aj au w W) (ok:fG es ks c) (ok':fG es' ks' c') (hr:eG es ks c) (hr':eG es' ks' c')=>Ib (fun _=>True) (fun _=>True) es ks c es' ks' c' W _ _ _ _ _ _ (hc.aP f) (hc'.aP f) ok ok' hr hr')
 have sD:=ah (fun W (f:aj au w W) (ok:fG es ks c) (ok':fG es' ks' c') (hr:eG es ks c) (hr':eG es' ks' c')=>Ib (fun _=>True) (fun _=>True) es' ks' c' es ks c W _ _ _ _ _ _ (hc'.aP f) (hc.aP f) ok' ok hr' hr)
 have Jy:=ah (fun W (f:aj au w W) (ok:fG es ks c) hr r0 r1 r2 r3=>IZ (fun _=>True) es ks c W dc af la v0 v1 v2 v3 r0 r1 r2 r3 _ _ _ (hc.aP f) ok hr)
 have vM:=ah (fun W (f:aj au w W) (ok:fG es' ks' c') hr r0 r1 r2 r3=>IZ (fun _=>True) es' ks' c' W dd bf lb x0 x1 x2 x3 r0 r1 r2 r3 _ _ _ (hc'.aP f) ok hr)
 have Ak:=ah (fun W (f:aj au w W) (ok:fG es ks c) r0 r1 r2 r3=>Ir (fun _=>True) es ks c W dc af la v0 v1 v2 v3 r0 r1 r2 r3 _ _ _ (hc.aP f) ok)
 have Am:=ah (fun W (f:aj au w W) (ok:fG es' ks' c') r0 r1 r2 r3=>Ir (fun _=>True) es' ks' c' W dd bf lb x0 x1 x2 x3 r0 r1 r2 r3 _ _ _ (hc'.aP f) ok)
 have nP:=ah (fun(h:(decide (0≤iU es ks 40 8)&&decide ((c.length:Int)≤40))=true)=>(⟨Jm hok hf h,by simp only[Bool.and_eq_true,decide_eq_true_iff]at h;have:=Dk h.1;omega,by simp only[Bool.and_eq_true,decide_eq_true_iff]at h;omega⟩:fG es ks c∧sizeT es ks≤40∧c.length≤40))
 have HKB:=ah (fun(h:(decide (0≤iU es' ks' 40 8)&&decide ((c'.length:Int)≤40))=true)=>(⟨Jm hok' hf' h,by simp only[Bool.and_eq_true,decide_eq_true_iff]at h;have:=Dk h.1;omega,by simp only[Bool.and_eq_true,decide_eq_true_iff]at h;omega⟩:fG es' ks' c'∧sizeT es' ks'≤40∧c'.length≤40))
 obtain⟨a0,c0,a1,c1,a2,c2,rfl,rfl,rfl⟩:=hc.shape
 obtain⟨b0,e0,b1,e1,b2,e2,rfl,rfl,rfl⟩:=hc'.shape
 have uh:=ah (fun W hn=>Ja W dc af la v0 v1 v2 v3 u0 u1 u2 u3 a0 a1 a2 es.length ks.len c.length c0 c1 c2 hn)
 have uj:=ah (fun W hn=>Ja W dd bf lb x0 x1 x2 x3 u0 u1 u2 u3 b0 b1 b2 es'.length ks'.len c'.length e0 e1 e2 hn)
 clear hc hok hf hcl hc' hok' hf' hcl' h h'
 generalize hsa:(decide (0≤iU es ks 40 8)&&decide ((c.length:Int)≤40))=sa at*
 generalize hsb:(decide (0≤iU es' ks' 40 8)&&decide ((c'.length:Int)≤40))=sb at*
 clear hsa hsb
 generalize es.length=n0 at*
 generalize ks.len=n1 at*
 generalize hcl:c.length=n2 at*
 have jS:=ah hcl;clear hcl
 generalize es'.length=m0 at*
 generalize ks'.len=m1 at*
 generalize hcl:c'.length=m2 at*
 have jD:=ah hcl;clear hcl
 unfold jh at*
 obtain⟨hf0,-,hb0,hb1,hb2⟩:=yU w #[.int .i64 dc, .int .i64 af, .int .i64 la, .int .i64 v0, .int .i64 v1, .int .i64 v2, .int .i64 v3, .slice a0 n0 c0, .slice a1 n1 c1, .slice a2 n2 c2] #[.int .i64 dd, .int .i64 bf, .int .i64 lb, .int .i64 x0, .int .i64 x1, .int .i64 x2, .int .i64 x3, .slice b0 m0 e0, .slice b1 m1 e1, .slice b2 m2 e2] #[.int .i64 u0, .int .i64 u1, .int .i64 u2, .int .i64 u3] 55 55 25
 have bF:=ah (fun W (f:aj au (((w.alloc (.cells #[.int .i64 dc, .int .i64 af, .int .i64 la, .int .i64 v0, .int .i64 v1, .int .i64 v2, .int .i64 v3, .slice a0 n0 c0, .slice a1 n1 c1, .slice a2 n2 c2] 55)).alloc (.cells #[.int .i64 dd, .int .i64 bf, .int .i64 lb, .int .i64 x0, .int .i64 x1, .int .i64 x2, .int .i64 x3, .slice b0 m0 e0, .slice b1 m1 e1, .slice b2 m2 e2] 55)).alloc (.cells #[.int .i64 u0, .int .i64 u1, .int .i64 u2, .int .i64 u3] 25)) W)=>(show W.cell? ⟨w.heap.size,0,none⟩=some (.int .i64 dc)∧W.cell? ⟨w.heap.size,1,none⟩=some (.int .i64 af)∧W.cell? ⟨w.heap.size,2,none⟩=some (.int .i64 la)∧W.cell? ⟨w.heap.size,3,none⟩=some (.int .i64 v0)∧W.cell? ⟨w.heap.size,4,none⟩=some (.int .i64 v1)∧W.cell? ⟨w.heap.size,5,none⟩=some (.int .i64 v2)∧W.cell? ⟨w.heap.size,6,none⟩=some (.int .i64 v3)∧W.cell? ⟨w.heap.size,7,none⟩=some (.slice a0 n0 c0)∧W.cell? ⟨w.heap.size,8,none⟩=some (.slice a1 n1 c1)∧W.cell? ⟨w.heap.size,9,none⟩=some (.slice a2 n2 c2)∧W.cell? ⟨w.heap.size+1,0,none⟩=some (.int .i64 dd)∧W.cell? ⟨w.heap.size+1,1,none⟩=some (.int .i64 bf)∧W.cell? ⟨w.heap.size+1,2,none⟩=some (.int .i64 lb)∧W.cell? ⟨w.heap.size+1,3,none⟩=some (.int .i64 x0)∧W.cell? ⟨w.heap.size+1,4,none⟩=some (.int .i64 x1)∧W.cell? ⟨w.heap.size+1,5,none⟩=some (.int .i64 x2)∧W.cell? ⟨w.heap.size+1,6,none⟩=some (.int .i64 x3)∧W.cell? ⟨w.heap.size+1,7,none⟩=some (.slice b0 m0 e0)∧W.cell? ⟨w.heap.size+1,8,none⟩=some (.slice b1 m1 e1)∧W.cell? ⟨w.heap.size+1,9,none⟩=some (.slice b2 m2 e2)∧W.cell? ⟨w.heap.size+1+1,0,none⟩=some (.int .i64 u0)∧W.cell? ⟨w.heap.size+1+1,1,none⟩=some (.int .i64 u1)∧W.cell? ⟨w.heap.size+1+1,2,none⟩=some (.int .i64 u2)∧W.cell? ⟨w.heap.size+1+1,3,none⟩=some (.int .i64 u3)from⟨f.cell' (aF hb0 0 rfl) id,f.cell' (aF hb0 1 rfl) id,f.cell' (aF hb0 2 rfl) id,f.cell' (aF hb0 3 rfl) id,f.cell' (aF hb0 4 rfl) id,f.cell' (aF hb0 5 rfl) id,f.cell' (aF hb0 6 rfl) id,f.cell' (aF hb0 7 rfl) id,f.cell' (aF hb0 8 rfl) id,f.cell' (aF hb0 9 rfl) id,f.cell' (aF hb1 0 rfl) id,f.cell' (aF hb1 1 rfl) id,f.cell' (aF hb1 2 rfl) id,f.cell' (aF hb1 3 rfl) id,f.cell' (aF hb1 4 rfl) id,f.cell' (aF hb1 5 rfl) id,f.cell' (aF hb1 6 rfl) id,f.cell' (aF hb1 7 rfl) id,f.cell' (aF hb1 8 rfl) id,f.cell' (aF hb1 9 rfl) id,f.cell' (aF hb2 0 rfl) id,f.cell' (aF hb2 1 rfl) id,f.cell' (aF hb2 2 rfl) id,f.cell' (aF hb2 3 rfl) id⟩))
 have fB:=ah hf0;clear hf0
 have HW:=ah (aj.refl au (((w.alloc (.cells #[.int .i64 dc, .int .i64 af, .int .i64 la, .int .i64 v0, .int .i64 v1, .int .i64 v2, .int .i64 v3, .slice a0 n0 c0, .slice a1 n1 c1, .slice a2 n2 c2] 55)).alloc (.cells #[.int .i64 dd, .int .i64 bf, .int .i64 lb, .int .i64 x0, .int .i64 x1, .int .i64 x2, .int .i64 x3, .slice b0 m0 e0, .slice b1 m1 e1, .slice b2 m2 e2] 55)).alloc (.cells #[.int .i64 u0, .int .i64 u1, .int .i64 u2, .int .i64 u3] 25)))
 clear hb0 hb1 hb2
 have key:sa=false∨(sa=true∧sb=false)∨(sa=true∧sb=true∧dc=dd)∨(sa=true∧sb=true∧dc≠dd∧¬fO dc af la (aS v0 v1 v2 v3) es ks c)∨(sa=true∧sb=true∧dc≠dd∧fO dc af la (aS v0 v1 v2 v3) es ks c∧¬fO dd bf lb (aS x0 x1 x2 x3) es' ks' c')∨
  (sa=true∧sb=true∧dc≠dd∧fO dc af la (aS v0 v1 v2 v3) es ks c∧fO dd bf lb (aS x0 x1 x2 x3) es' ks' c'∧¬(aS u0 u1 u2 u3 dc=af∧iG (aS v0 v1 v2 v3) (aS u0 u1 u2 u3)))∨
  (sa=true∧sb=true∧dc≠dd∧fO dc af la (aS v0 v1 v2 v3) es ks c∧fO dd bf lb (aS x0 x1 x2 x3) es' ks' c'∧(aS u0 u1 u2 u3 dc=af∧iG (aS v0 v1 v2 v3) (aS u0 u1 u2 u3))∧¬(aS u0 u1 u2 u3 dd=bf∧iG (aS x0 x1 x2 x3) (aS u0 u1 u2 u3)))∨
  (sa=true∧sb=true∧dc≠dd∧fO dc af la (aS v0 v1 v2 v3) es ks c∧fO dd bf lb (aS x0 x1 x2 x3) es' ks' c'∧(aS u0 u1 u2 u3 dc=af∧iG (aS v0 v1 v2 v3) (aS u0 u1 u2 u3))∧(aS u0 u1 u2 u3 dd=bf∧iG (aS x0 x1 x2 x3) (aS u0 u1 u2 u3))):=by
  cases sa
  ·exact .inl rfl
  cases sb
  ·exact .inr (.inl ⟨rfl,rfl⟩)
  by_cases h1:dc=dd
  ·exact .inr (.inr (.inl ⟨rfl,rfl,h1⟩))
  by_cases h2:fO dc af la (aS v0 v1 v2 v3) es ks c
  rotate_left 1
  ·exact .inr (.inr (.inr (.inl ⟨rfl,rfl,h1,h2⟩)))
  by_cases h3:fO dd bf lb (aS x0 x1 x2 x3) es' ks' c'
  rotate_left 1
  ·exact .inr (.inr (.inr (.inr (.inl ⟨rfl,rfl,h1,h2,h3⟩))))
  by_cases h4:aS u0 u1 u2 u3 dc=af∧iG (aS v0 v1 v2 v3) (aS u0 u1 u2 u3)
  rotate_left 1
  ·exact .inr (.inr (.inr (.inr (.inr (.inl ⟨rfl,rfl,h1,h2,h3,h4⟩)))))
  by_cases h5:aS u0 u1 u2 u3 dd=bf∧iG (aS x0 x1 x2 x3) (aS u0 u1 u2 u3)
  ·exact .inr (.inr (.inr (.inr (.inr (.inr (.inr ⟨rfl,rfl,h1,h2,h3,h4,h5⟩))))))
  ·exact .inr (.inr (.inr (.inr (.inr (.inr (.inl ⟨rfl,rfl,h1,h2,h3,h4,h5⟩))))))
 rcases key with rfl|⟨rfl,rfl⟩|⟨rfl,rfl,rfl⟩|⟨rfl,rfl,hne,hpa⟩|⟨rfl,rfl,hne,hpa,hpb⟩|⟨rfl,rfl,hne,hpa,hpb,hqa⟩|⟨rfl,rfl,hne,hpa,hpb,hqa,wS⟩|⟨rfl,rfl,hne,hpa,hpb,hqa,wS⟩
 all_goals
  try have hde:((dc:Int)==dd)=false:=by simpa using hne
  try replace kQ:=ah (fun W f=>kQ.out W f (nP.out rfl).1)
  try replace lu:=ah (fun W f=>lu.out W f (HKB.out rfl).1)
  try rw[bM hpa]at kQ
  try rw[bn hpa]at kQ
  try rw[bM hpb]at lu
  try rw[bn hpb]at lu
  try replace uh:=ah (fun W=>uh.out W hpa.nums)
  try replace uj:=ah (fun W=>uj.out W hpb.nums)
  try rw[bM hqa]at uh
  try rw[bn hqa]at uh
  try rw[bM wS]at uj
  try rw[bn wS]at uj
  try have fV:=ah (⟨hne,hpa,hpb,hqa,wS⟩:dc≠dd∧fO dc af la (aS v0 v1 v2 v3) es ks c∧fO dd bf lb (aS x0 x1 x2 x3) es' ks' c'∧(aS u0 u1 u2 u3 dc=af∧iG (aS v0 v1 v2 v3) (aS u0 u1 u2 u3))∧(aS u0 u1 u2 u3 dd=bf∧iG (aS x0 x1 x2 x3) (aS u0 u1 u2 u3)))
  try clear hne
  try clear hpa
  try clear hpb
  try clear hqa
  try clear wS
 rotate_right 1
 ·go_enter Tryz.func5,Tryz.ntmps5
  go_wp2_with(first
   |(go_at_call 22;refine(HA.out _).mono ?_;rintro e w1 ⟨rfl,hw1⟩;(try clear y0 y1 y2 y3 y4 y5 y6 y7 y8 y9 z0 z1 z2 z3 z4 z5 z6 z7 z8 z9 q0 q1 q2 q3 hl0 hl1 hl2);replace HW:=ah (HW.out.ay hw1);clear hw1;obtain⟨y0,y1,y2,y3,y4,y5,y6,y7,y8,y9,z0,z1,z2,z3,z4,z5,z6,z7,z8,z9,q0,q1,q2,q3⟩:=bF.out _ HW.out;have hl0:=World.block_lt_of_cell? _ _ y0;have hl1:=World.block_lt_of_cell? _ _ z0;have hl2:=World.block_lt_of_cell? _ _ q0)
   |(go_at_call_of 23 a0;refine(Ju.out _ (fB.out.ay HW.out)).mono ?_;rintro e w1 ⟨rfl,hw1⟩;(try clear y0 y1 y2 y3 y4 y5 y6 y7 y8 y9 z0 z1 z2 z3 z4 z5 z6 z7 z8 z9 q0 q1 q2 q3 hl0 hl1 hl2);replace HW:=ah (HW.out.ay hw1);clear hw1;obtain⟨y0,y1,y2,y3,y4,y5,y6,y7,y8,y9,z0,z1,z2,z3,z4,z5,z6,z7,z8,z9,q0,q1,q2,q3⟩:=bF.out _ HW.out;have hl0:=World.block_lt_of_cell? _ _ y0;have hl1:=World.block_lt_of_cell? _ _ z0;have hl2:=World.block_lt_of_cell? _ _ q0)
   |(go_at_call_of 23 b0;refine(Jv.out _ (fB.out.ay HW.out)).mono ?_;rintro e w1 ⟨rfl,hw1⟩;(try clear y0 y1 y2 y3 y4 y5 y6 y7 y8 y9 z0 z1 z2 z3 z4 z5 z6 z7 z8 z9 q0 q1 q2 q3 hl0 hl1 hl2);replace HW:=ah (HW.out.ay hw1);clear hw1;obtain⟨y0,y1,y2,y3,y4,y5,y6,y7,y8,y9,z0,z1,z2,z3,z4,z5,z6,z7,z8,z9,q0,q1,q2,q3⟩:=bF.out _ HW.out;have hl0:=World.block_lt_of_cell? _ _ y0;have hl1:=World.block_lt_of_cell? _ _ z0;have hl2:=World.block_lt_of_cell? _ _ q0)
   |(go_at_call_of 24 a0;refine(kQ.out _ (fB.out.ay HW.out)).mono ?_;rintro e w1 ⟨rfl,hw1⟩;(try clear y0 y1 y2 y3 y4 y5 y6 y7 y8 y9 z0 z1 z2 z3 z4 z5 z6 z7 z8 z9 q0 q1 q2 q3 hl0 hl1 hl2);replace HW:=ah (HW.out.ay hw1);clear hw1;obtain⟨y0,y1,y2,y3,y4,y5,y6,y7,y8,y9,z0,z1,z2,z3,z4,z5,z6,z7,z8,z9,q0,q1,q2,q3⟩:=bF.out _ HW.out;have hl0:=World.block_lt_of_cell? _ _ y0;have hl1:=World.block_lt_of_cell? _ _ z0;have hl2:=World.block_lt_of_cell? _ _ q0)
   |(go_at_call_of 24 b0;refine(lu.out _ (fB.out.ay HW.out)).mono ?_;rintro e w1 ⟨rfl,hw1⟩;(try clear y0 y1 y2 y3 y4 y5 y6 y7 y8 y9 z0 z1 z2 z3 z4 z5 z6 z7 z8 z9 q0 q1 q2 q3 hl0 hl1 hl2);replace HW:=ah (HW.out.ay hw1);clear hw1;obtain⟨y0,y1,y2,y3,y4,y5,y6,y7,y8,y9,z0,z1,z2,z3,z4,z5,z6,z7,z8,z9,q0,q1,q2,q3⟩:=bF.out _ HW.out;have hl0:=World.block_lt_of_cell? _ _ y0;have hl1:=World.block_lt_of_cell? _ _ z0;have hl2:=World.block_lt_of_cell? _ _ q0)
   |(go_at_call_of 25 a0;refine(uh.out _).mono ?_;rintro e w1 ⟨rfl,hw1⟩;(try clear y0 y1 y2 y3 y4 y5 y6 y7 y8 y9 z0 z1 z2 z3 z4 z5 z6 z7 z8 z9 q0 q1 q2 q3 hl0 hl1 hl2);replace HW:=ah (HW.out.ay hw1);clear hw1;obtain⟨y0,y1,y2,y3,y4,y5,y6,y7,y8,y9,z0,z1,z2,z3,z4,z5,z6,z7,z8,z9,q0,q1,q2,q3⟩:=bF.out _ HW.out;have hl0:=World.block_lt_of_cell? _ _ y0;have hl1:=World.block_lt_of_cell? _ _ z0;have hl2:=World.block_lt_of_cell? _ _ q0)
   |(go_at_call_of 25 b0;refine(uj.out _).mono ?_;rintro e w1 ⟨rfl,hw1⟩;(try clear y0 y1 y2 y3 y4 y5 y6 y7 y8 y9 z0 z1 z2 z3 z4 z5 z6 z7 z8 z9 q0 q1 q2 q3 hl0 hl1 hl2);replace HW:=ah (HW.out.ay hw1);clear hw1;obtain⟨y0,y1,y2,y3,y4,y5,y6,y7,y8,y9,z0,z1,z2,z3,z4,z5,z6,z7,z8,z9,q0,q1,q2,q3⟩:=bF.out _ HW.out;have hl0:=World.block_lt_of_cell? _ _ y0;have hl1:=World.block_lt_of_cell? _ _ z0;have hl2:=World.block_lt_of_cell? _ _ q0))
  go_cut [7,8] (fun v7 v8 W=>∃p q,v7= .pointer (some ⟨p,0,none⟩)∧v8= .pointer (some ⟨q,0,none⟩)∧aj au w1 W∧W.heap[p]?=some (.cells #[.int .i64 dc, .int .i64 af, .int .i64 la, .int .i64 v0, .int .i64 v1, .int .i64 v2, .int .i64 v3, .slice a0 n0 c0, .slice a1 n1 c1, .slice a2 n2 c2] 59 (0,0))∧W.heap[q]?=some (.cells #[.int .i64 dd, .int .i64 bf, .int .i64 lb, .int .i64 x0, .int .i64 x1, .int .i64 x2, .int .i64 x3, .slice b0 m0 e0, .slice b1 m1 e1, .slice b2 m2 e2] 59 (0,0)))
  case first=>
   go_region
   all_goals
    go_wp2_with fail
    go_meet
    case rel=>
     first
      |exact⟨_,_,rfl,rfl,(ug w1 #[.int .i64 dc, .int .i64 af, .int .i64 la, .int .i64 v0, .int .i64 v1, .int .i64 v2, .int .i64 v3, .slice a0 n0 c0, .slice a1 n1 c1, .slice a2 n2 c2] #[.int .i64 dd, .int .i64 bf, .int .i64 lb, .int .i64 x0, .int .i64 x1, .int .i64 x2, .int .i64 x3, .slice b0 m0 e0, .slice b1 m1 e1, .slice b2 m2 e2] 59).1,(ug w1 #[.int .i64 dc, .int .i64 af, .int .i64 la, .int .i64 v0, .int .i64 v1, .int .i64 v2, .int .i64 v3, .slice a0 n0 c0, .slice a1 n1 c1, .slice a2 n2 c2] #[.int .i64 dd, .int .i64 bf, .int .i64 lb, .int .i64 x0, .int .i64 x1, .int .i64 x2, .int .i64 x3, .slice b0 m0 e0, .slice b1 m1 e1, .slice b2 m2 e2] 59).2.1,(ug w1 #[.int .i64 dc, .int .i64 af, .int .i64 la, .int .i64 v0, .int .i64 v1, .int .i64 v2, .int .i64 v3, .slice a0 n0 c0, .slice a1 n1 c1, .slice a2 n2 c2] #[.int .i64 dd, .int .i64 bf, .int .i64 lb, .int .i64 x0, .int .i64 x1, .int .i64 x2, .int .i64 x3, .slice b0 m0 e0, .slice b1 m1 e1, .slice b2 m2 e2] 59).2.2⟩
      |exact⟨_,_,rfl,rfl,(ug w1 #[.int .i64 dd, .int .i64 bf, .int .i64 lb, .int .i64 x0, .int .i64 x1, .int .i64 x2, .int .i64 x3, .slice b0 m0 e0, .slice b1 m1 e1, .slice b2 m2 e2] #[.int .i64 dc, .int .i64 af, .int .i64 la, .int .i64 v0, .int .i64 v1, .int .i64 v2, .int .i64 v3, .slice a0 n0 c0, .slice a1 n1 c1, .slice a2 n2 c2] 59).1,(ug w1 #[.int .i64 dd, .int .i64 bf, .int .i64 lb, .int .i64 x0, .int .i64 x1, .int .i64 x2, .int .i64 x3, .slice b0 m0 e0, .slice b1 m1 e1, .slice b2 m2 e2] #[.int .i64 dc, .int .i64 af, .int .i64 la, .int .i64 v0, .int .i64 v1, .int .i64 v2, .int .i64 v3, .slice a0 n0 c0, .slice a1 n1 c1, .slice a2 n2 c2] 59).2.2,(ug w1 #[.int .i64 dd, .int .i64 bf, .int .i64 lb, .int .i64 x0, .int .i64 x1, .int .i64 x2, .int .i64 x3, .slice b0 m0 e0, .slice b1 m1 e1, .slice b2 m2 e2] #[.int .i64 dc, .int .i64 af, .int .i64 la, .int .i64 v0, .int .i64 v1, .int .i64 v2, .int .i64 v3, .slice a0 n0 c0, .slice a1 n1 c1, .slice a2 n2 c2] 59).2.1⟩
  case rest=>
   obtain⟨p,q,rfl,rfl,hf1,hp,hq⟩:=hcut
   obtain⟨w2,rfl⟩:∃w2,w2=wc:=⟨_,rfl⟩
   (try clear y0 y1 y2 y3 y4 y5 y6 y7 y8 y9 z0 z1 z2 z3 z4 z5 z6 z7 z8 z9 q0 q1 q2 q3 hl0 hl1 hl2)
   replace HW:=ah (HW.out.ay hf1)
   have bQ:=HW
   obtain⟨y0,y1,y2,y3,y4,y5,y6,y7,y8,y9,z0,z1,z2,z3,z4,z5,z6,z7,z8,z9,q0,q1,q2,q3⟩:=bF.out _ HW.out;have hl0:=World.block_lt_of_cell? _ _ y0;have hl1:=World.block_lt_of_cell? _ _ z0;have hl2:=World.block_lt_of_cell? _ _ q0
   have HP:=ah hp;clear hp
   have HQ:=ah hq;clear hq
   clear hf1
   have Jz:=ah (fun W f=>Jw.out W f (nP.out (by trivial)).1 (HKB.out (by trivial)).1 fV.out.2.1.qx fV.out.2.2.1.qx)
   have Ed:=ah (fun W f=>sD.out W f (nP.out (by trivial)).1 (HKB.out (by trivial)).1 fV.out.2.1.qx fV.out.2.2.1.qx)
   clear Jw sD
   have JA:=ah (fun u hu=>Ij (u:=u) fV.out.2.1.qx fV.out.2.2.1.qx hu)
   have JB:=ah (fun u hu=>Py (u:=u) fV.out.2.1.qx fV.out.2.2.1.qx hu (by have:=(nP.out (by trivial)).2.1;have:=(HKB.out (by trivial)).2.1;omega) (by rw[jS.out,jD.out];have:=(nP.out (by trivial)).2.2;have:=(HKB.out (by trivial)).2.2;omega))
   unfold vS at Jz Ed
   rw[Pz (es:=es') (ks:=ks') (c:=c') (es':=es) (ks':=ks) (c':=c)]at Ed
   generalize lD es ks c es' ks' c'=J at*
   go_wp2_with(first
    |(go_at_call 26;(have q9:=um;clear q9);refine(Ed.out _ (fB.out.ay HW.out.alloc1)).mono ?_;rintro e w4 ⟨Tc,Td,Tf,u',rfl,hta,ho,hby⟩;obtain rfl:=(PD um.out).one hby;obtain⟨a8,c8,rfl⟩:=hta.ents.rd.sl;obtain⟨Ti,hk8,-⟩:=hta.kids;obtain⟨a9,c9,rfl⟩:=hk8.rd.sl;clear hk8;obtain⟨a10,c10,rfl⟩:=ho.shape;(try clear y0 y1 y2 y3 y4 y5 y6 y7 y8 y9 z0 z1 z2 z3 z4 z5 z6 z7 z8 z9 q0 q1 q2 q3 hl0 hl1 hl2);have HW3:=HW;replace HW:=ah (HW.out.alloc1.ay ho.aH);obtain⟨y0,y1,y2,y3,y4,y5,y6,y7,y8,y9,z0,z1,z2,z3,z4,z5,z6,z7,z8,z9,q0,q1,q2,q3⟩:=bF.out _ HW.out;have hl0:=World.block_lt_of_cell? _ _ y0;have hl1:=World.block_lt_of_cell? _ _ z0;have hl2:=World.block_lt_of_cell? _ _ q0;have qg:=ah hta;clear hta;have mg:=ah ho;clear ho hby)
    |(go_at_call 26;refine(Jz.out _ (fB.out.ay HW.out)).mono ?_;rintro e w3 ⟨mP,mQ,CO,u,rfl,hta,ho,hby⟩;obtain⟨a5,c5,rfl⟩:=hta.ents.rd.sl;obtain⟨zk,hk5,-⟩:=hta.kids;obtain⟨a6,c6,rfl⟩:=hk5.rd.sl;clear hk5;obtain⟨a7,c7,rfl⟩:=ho.shape;(try clear y0 y1 y2 y3 y4 y5 y6 y7 y8 y9 z0 z1 z2 z3 z4 z5 z6 z7 z8 z9 q0 q1 q2 q3 hl0 hl1 hl2);have HW2:=HW;replace HW:=ah (HW.out.ay ho.aH);obtain⟨y0,y1,y2,y3,y4,y5,y6,y7,y8,y9,z0,z1,z2,z3,z4,z5,z6,z7,z8,z9,q0,q1,q2,q3⟩:=bF.out _ HW.out;have hl0:=World.block_lt_of_cell? _ _ y0;have hl1:=World.block_lt_of_cell? _ _ z0;have hl2:=World.block_lt_of_cell? _ _ q0;have iW:=ah hta;clear hta;have JC:=ah ho;clear ho;have um:=ah hby;clear hby))
   obtain⟨α,hne,K,hK1,hK0,hK2⟩:=worlds (w4.alloc (.cells #[.slice a8 J.1.length c8, .slice a9 J.2.len c9, .slice a10 u.length c10] 34))
   have dH:=ah (fun s=>(fB.out.ay HW.out.alloc1).ay (hK1 s))
   have uo:=ah (fun s=>(aj.alloc au w4 (.cells #[.slice a8 J.1.length c8, .slice a9 J.2.len c9, .slice a10 u.length c10] 34)).ay (hK1 s))
   have Ee:=ah (fun s=>(((aj.alloc au w3 (.cells #[.slice a5 J.1.length c5, .slice a6 J.2.len c6, .slice a7 u.length c7] 34)).ay mg.out.aH).ay (uo.out s)))
   have gY:=ah (fun s=>JC.out.aH.ay (Ee.out s))
   (try clear y0 y1 y2 y3 y4 y5 y6 y7 y8 y9 z0 z1 z2 z3 z4 z5 z6 z7 z8 z9 q0 q1 q2 q3 hl0 hl1 hl2)
   obtain⟨y0,y1,y2,y3,y4,y5,y6,y7,y8,y9,z0,z1,z2,z3,z4,z5,z6,z7,z8,z9,q0,q1,q2,q3⟩:=bF.out w2 bQ.out
   obtain⟨k0,k1,k2,k3,k4,k5,k6,k7,k8,k9,k10,k11,k12,k13,k14,k15,k16,k17,k18,k19,k20,k21,k22,k23,k24,k25,k26,k27,k28,k29⟩:(∀s,(K s).cell? ⟨p,0,none⟩=some (.int .i64 dc))∧(∀s,(K s).cell? ⟨p,1,none⟩=some (.int .i64 af))∧(∀s,(K s).cell? ⟨p,2,none⟩=some (.int .i64 la))∧(∀s,(K s).cell? ⟨p,3,none⟩=some (.int .i64 v0))∧(∀s,(K s).cell? ⟨p,4,none⟩=some (.int .i64 v1))∧(∀s,(K s).cell? ⟨p,5,none⟩=some (.int .i64 v2))∧(∀s,(K s).cell? ⟨p,6,none⟩=some (.int .i64 v3))∧(∀s,(K s).cell? ⟨p,7,none⟩=some (.slice a0 n0 c0))∧(∀s,(K s).cell? ⟨p,8,none⟩=some (.slice a1 n1 c1))∧(∀s,(K s).cell? ⟨p,9,none⟩=some (.slice a2 n2 c2))∧(∀s,(K s).cell? ⟨q,0,none⟩=some (.int .i64 dd))∧(∀s,(K s).cell? ⟨q,1,none⟩=some (.int .i64 bf))∧(∀s,(K s).cell? ⟨q,2,none⟩=some (.int .i64 lb))∧(∀s,(K s).cell? ⟨q,3,none⟩=some (.int .i64 x0))∧(∀s,(K s).cell? ⟨q,4,none⟩=some (.int .i64 x1))∧(∀s,(K s).cell? ⟨q,5,none⟩=some (.int .i64 x2))∧(∀s,(K s).cell? ⟨q,6,none⟩=some (.int .i64 x3))∧(∀s,(K s).cell? ⟨q,7,none⟩=some (.slice b0 m0 e0))∧(∀s,(K s).cell? ⟨q,8,none⟩=some (.slice b1 m1 e1))∧(∀s,(K s).cell? ⟨q,9,none⟩=some (.slice b2 m2 e2))∧(∀s,(K s).cell? ⟨w.heap.size+1+1,0,none⟩=some (.int .i64 u0))∧(∀s,(K s).cell? ⟨w.heap.size+1+1,1,none⟩=some (.int .i64 u1))∧(∀s,(K s).cell? ⟨w.heap.size+1+1,2,none⟩=some (.int .i64 u2))∧(∀s,(K s).cell? ⟨w.heap.size+1+1,3,none⟩=some (.int .i64 u3))∧(∀s,(K s).cell? ⟨w3.heap.size,0,none⟩=some (.slice a5 J.1.length c5))∧(∀s,(K s).cell? ⟨w3.heap.size,1,none⟩=some (.slice a6 J.2.len c6))∧(∀s,(K s).cell? ⟨w3.heap.size,2,none⟩=some (.slice a7 u.length c7))∧(∀s,(K s).cell? ⟨w4.heap.size,0,none⟩=some (.slice a8 J.1.length c8))∧(∀s,(K s).cell? ⟨w4.heap.size,1,none⟩=some (.slice a9 J.2.len c9))∧(∀s,(K s).cell? ⟨w4.heap.size,2,none⟩=some (.slice a10 u.length c10)):=⟨fun s=>(gY.out s).cell' (aF HP.out 0 rfl) id,fun s=>(gY.out s).cell' (aF HP.out 1 rfl) id,fun s=>(gY.out s).cell' (aF HP.out 2 rfl) id,fun s=>(gY.out s).cell' (aF HP.out 3 rfl) id,fun s=>(gY.out s).cell' (aF HP.out 4 rfl) id,fun s=>(gY.out s).cell' (aF HP.out 5 rfl) id,fun s=>(gY.out s).cell' (aF HP.out 6 rfl) id,fun s=>(gY.out s).cell' (aF HP.out 7 rfl) id,fun s=>(gY.out s).cell' (aF HP.out 8 rfl) id,fun s=>(gY.out s).cell' (aF HP.out 9 rfl) id,fun s=>(gY.out s).cell' (aF HQ.out 0 rfl) id,fun s=>(gY.out s).cell' (aF HQ.out 1 rfl) id,fun s=>(gY.out s).cell' (aF HQ.out 2 rfl) id,fun s=>(gY.out s).cell' (aF HQ.out 3 rfl) id,fun s=>(gY.out s).cell' (aF HQ.out 4 rfl) id,fun s=>(gY.out s).cell' (aF HQ.out 5 rfl) id,fun s=>(gY.out s).cell' (aF HQ.out 6 rfl) id,fun s=>(gY.out s).cell' (aF HQ.out 7 rfl) id,fun s=>(gY.out s).cell' (aF HQ.out 8 rfl) id,fun s=>(gY.out s).cell' (aF HQ.out 9 rfl) id,fun s=>(gY.out s).cell' q0 id,fun s=>(gY.out s).cell' q1 id,fun s=>(gY.out s).cell' q2 id,fun s=>(gY.out s).cell' q3 id,fun s=>((mg.out.aH).ay (uo.out s)).cell' (aF (heap_alloc_new w3 _) 0 rfl) id,fun s=>((mg.out.aH).ay (uo.out s)).cell' (aF (heap_alloc_new w3 _) 1 rfl) id,fun s=>((mg.out.aH).ay (uo.out s)).cell' (aF (heap_alloc_new w3 _) 2 rfl) id,fun s=>(hK1 s).cell' (aF (heap_alloc_new w4 _) 0 rfl) id,fun s=>(hK1 s).cell' (aF (heap_alloc_new w4 _) 1 rfl) id,fun s=>(hK1 s).cell' (aF (heap_alloc_new w4 _) 2 rfl) id⟩
   clear hK1
   obtain⟨P,hP⟩:∃P,P=dV (aS u0 u1 u2 u3) (aS x0 x1 x2 x3) dd lb:=⟨_,rfl⟩
   obtain⟨G,hG⟩:∃G,G=dV (aS u0 u1 u2 u3) (aS v0 v1 v2 v3) dc la:=⟨_,rfl⟩
   obtain⟨R,hR⟩:∃R,R=dV (aS (G 0) (G 1) (G 2) (G 3)) (aS x0 x1 x2 x3) dd lb:=⟨_,rfl⟩
   obtain⟨R',hR'⟩:∃R',R'=dV (aS (P 0) (P 1) (P 2) (P 3)) (aS v0 v1 v2 v3) dc la:=⟨_,rfl⟩
   have hRR:∀d,0≤d→d<4→R' d=R d:=fun d h0 h4=>by
    rw[hR,hR',hG,hP]
    exact(RG (aS u0 u1 u2 u3) (aS v0 v1 v2 v3) (aS x0 x1 x2 x3) dc la dd lb fV.out.1 h0 h4).symm
   have HB1:=ah (fun s=>vM.out (K s) (dH.out s) (HKB.out (by trivial)).1 fV.out.2.2.1 u0 u1 u2 u3)
   have HB2:=ah (fun s=>Jy.out (K s) (dH.out s) (nP.out (by trivial)).1 fV.out.2.1 u0 u1 u2 u3)
   have HB3:=ah (fun s=>vM.out (K s) (dH.out s) (HKB.out (by trivial)).1 fV.out.2.2.1 (G 0) (G 1) (G 2) (G 3))
   have HB4:=ah (fun s=>Jy.out (K s) (dH.out s) (nP.out (by trivial)).1 fV.out.2.1 (P 0) (P 1) (P 2) (P 3))
   have JD:=ah (fun s=>Ak.out (K s) (dH.out s) (nP.out (by trivial)).1 (P 0) (P 1) (P 2) (P 3))
   have JE:=ah (fun s=>Am.out (K s) (dH.out s) (HKB.out (by trivial)).1 (G 0) (G 1) (G 2) (G 3))
   have hy1:=Jt (dd:=dd) (lb:=lb) fV.out.1 fV.out.2.1.nums.1 fV.out.2.1.nums.2.1 fV.out.2.2.2.1 fV.out.2.2.2.2.2
   have hy2:=Jt (dd:=dc) (lb:=la) (fun h=>fV.out.1 h.symm) fV.out.2.2.1.nums.1 fV.out.2.2.1.nums.2.1 fV.out.2.2.2.2 fV.out.2.2.2.1.2
   rw[←hP]at hy1
   rw[←hG]at hy2
   rw[bM (show fO dc af la (aS v0 v1 v2 v3) es ks c∧aS (P 0) (P 1) (P 2) (P 3) dc=af∧iG (aS v0 v1 v2 v3) (aS (P 0) (P 1) (P 2) (P 3))from⟨fV.out.2.1,hy1⟩)]at JD
   rw[bM (show fO dd bf lb (aS x0 x1 x2 x3) es' ks' c'∧aS (G 0) (G 1) (G 2) (G 3) dd=bf∧iG (aS x0 x1 x2 x3) (aS (G 0) (G 1) (G 2) (G 3))from⟨fV.out.2.2.1,hy2⟩)]at JE
   clear hy1 hy2
   rw[←hP]at HB1
   rw[←hG]at HB2
   rw[←hR]at HB3
   rw[←hR']at HB4
   rw[Ik hRR]at HB4
   clear hRR hR hR' hG hP
   unfold lV at HB1 HB2 HB3 HB4
   have JF:=ah (fun s=>QV (fun b=>True) (fun b=>True) J.1 J.2 u J.1 J.2 u (K s) (.slice a5 J.1.length c5) (.slice a6 J.2.len c6) (.slice a7 u.length c7) (.slice a8 J.1.length c8) (.slice a9 J.2.len c9) (.slice a10 u.length c10) ⟨(iW.out.aP (Ee.out s)).turn fun _ _ _=>⟨rfl,trivial⟩,Rd.aP JC.out.rd (Ee.out s)⟩ (JB.out u um.out) ⟨(qg.out.aP (uo.out s)).turn fun _ _ _=>⟨rfl,trivial⟩,Rd.aP mg.out.rd (uo.out s)⟩ (JB.out u um.out))
   rw[bM (show eG J.1 J.2 u∧eG J.1 J.2 u∧(J.1=J.1∧J.2=J.2)∧u=u from⟨JA.out u um.out,JA.out u um.out,⟨rfl,rfl⟩,rfl⟩)]at JF
   have Tj:=QZ (R 0) (R 1) (R 2) (R 3)
   generalize J.1.length=j0 at*
   generalize J.2.len=j1 at*
   generalize u.length=j2 at*
   generalize G 0=g0 at*
   generalize G 1=g1 at*
   generalize G 2=g2 at*
   generalize G 3=g3 at*
   generalize P 0=p0 at*
   generalize P 1=p1 at*
   generalize P 2=p2 at*
   generalize P 3=p3 at*
   generalize R 0=r0 at*
   generalize R 1=r1 at*
   generalize R 2=r2 at*
   generalize R 3=r3 at*
   refine bK K (by kernel_rfl) (by kernel_rfl) hK0 ?_
   repeat(go_big_quiet_step ((first|(go_at_call_of 28 g0;exact Calls.aW hK2 (HB3.out _))|(go_at_call_of 28 p0;exact Calls.aW hK2 (HB4.out _))|(go_at_call_of 28 b0;exact Calls.aW hK2 (HB1.out _))|(go_at_call_of 28 a0;exact Calls.aW hK2 (HB2.out _))|(go_at_call_of 27 p0;exact Calls.aW hK2 (JD.out _))|(go_at_call_of 27 g0;exact Calls.aW hK2 (JE.out _))|(go_at_call 29;exact Calls.aW hK2 (JF.out _)))))
   refine wpQuiet_nil ?_
   intro w' hw'
   obtain⟨s,rfl⟩:=hw'
   go_wp2
   go_ret
   exact⟨rfl,dH.out s⟩
 all_goals
  go_enter Tryz.func5,Tryz.ntmps5
  go_wp2_with(first
   |(go_at_call 22;refine(HA.out _).mono ?_;rintro e w1 ⟨rfl,hw1⟩;(try clear y0 y1 y2 y3 y4 y5 y6 y7 y8 y9 z0 z1 z2 z3 z4 z5 z6 z7 z8 z9 q0 q1 q2 q3 hl0 hl1 hl2);replace HW:=ah (HW.out.ay hw1);clear hw1;obtain⟨y0,y1,y2,y3,y4,y5,y6,y7,y8,y9,z0,z1,z2,z3,z4,z5,z6,z7,z8,z9,q0,q1,q2,q3⟩:=bF.out _ HW.out;have hl0:=World.block_lt_of_cell? _ _ y0;have hl1:=World.block_lt_of_cell? _ _ z0;have hl2:=World.block_lt_of_cell? _ _ q0)
   |(go_at_call_of 23 a0;refine(Ju.out _ (fB.out.ay HW.out)).mono ?_;rintro e w1 ⟨rfl,hw1⟩;(try clear y0 y1 y2 y3 y4 y5 y6 y7 y8 y9 z0 z1 z2 z3 z4 z5 z6 z7 z8 z9 q0 q1 q2 q3 hl0 hl1 hl2);replace HW:=ah (HW.out.ay hw1);clear hw1;obtain⟨y0,y1,y2,y3,y4,y5,y6,y7,y8,y9,z0,z1,z2,z3,z4,z5,z6,z7,z8,z9,q0,q1,q2,q3⟩:=bF.out _ HW.out;have hl0:=World.block_lt_of_cell? _ _ y0;have hl1:=World.block_lt_of_cell? _ _ z0;have hl2:=World.block_lt_of_cell? _ _ q0)
   |(go_at_call_of 23 b0;refine(Jv.out _ (fB.out.ay HW.out)).mono ?_;rintro e w1 ⟨rfl,hw1⟩;(try clear y0 y1 y2 y3 y4 y5 y6 y7 y8 y9 z0 z1 z2 z3 z4 z5 z6 z7 z8 z9 q0 q1 q2 q3 hl0 hl1 hl2);replace HW:=ah (HW.out.ay hw1);clear hw1;obtain⟨y0,y1,y2,y3,y4,y5,y6,y7,y8,y9,z0,z1,z2,z3,z4,z5,z6,z7,z8,z9,q0,q1,q2,q3⟩:=bF.out _ HW.out;have hl0:=World.block_lt_of_cell? _ _ y0;have hl1:=World.block_lt_of_cell? _ _ z0;have hl2:=World.block_lt_of_cell? _ _ q0)
   |(go_at_call_of 24 a0;refine(kQ.out _ (fB.out.ay HW.out)).mono ?_;rintro e w1 ⟨rfl,hw1⟩;(try clear y0 y1 y2 y3 y4 y5 y6 y7 y8 y9 z0 z1 z2 z3 z4 z5 z6 z7 z8 z9 q0 q1 q2 q3 hl0 hl1 hl2);replace HW:=ah (HW.out.ay hw1);clear hw1;obtain⟨y0,y1,y2,y3,y4,y5,y6,y7,y8,y9,z0,z1,z2,z3,z4,z5,z6,z7,z8,z9,q0,q1,q2,q3⟩:=bF.out _ HW.out;have hl0:=World.block_lt_of_cell? _ _ y0;have hl1:=World.block_lt_of_cell? _ _ z0;have hl2:=World.block_lt_of_cell? _ _ q0)
   |(go_at_call_of 24 b0;refine(lu.out _ (fB.out.ay HW.out)).mono ?_;rintro e w1 ⟨rfl,hw1⟩;(try clear y0 y1 y2 y3 y4 y5 y6 y7 y8 y9 z0 z1 z2 z3 z4 z5 z6 z7 z8 z9 q0 q1 q2 q3 hl0 hl1 hl2);replace HW:=ah (HW.out.ay hw1);clear hw1;obtain⟨y0,y1,y2,y3,y4,y5,y6,y7,y8,y9,z0,z1,z2,z3,z4,z5,z6,z7,z8,z9,q0,q1,q2,q3⟩:=bF.out _ HW.out;have hl0:=World.block_lt_of_cell? _ _ y0;have hl1:=World.block_lt_of_cell? _ _ z0;have hl2:=World.block_lt_of_cell? _ _ q0)
   |(go_at_call_of 25 a0;refine(uh.out _).mono ?_;rintro e w1 ⟨rfl,hw1⟩;(try clear y0 y1 y2 y3 y4 y5 y6 y7 y8 y9 z0 z1 z2 z3 z4 z5 z6 z7 z8 z9 q0 q1 q2 q3 hl0 hl1 hl2);replace HW:=ah (HW.out.ay hw1);clear hw1;obtain⟨y0,y1,y2,y3,y4,y5,y6,y7,y8,y9,z0,z1,z2,z3,z4,z5,z6,z7,z8,z9,q0,q1,q2,q3⟩:=bF.out _ HW.out;have hl0:=World.block_lt_of_cell? _ _ y0;have hl1:=World.block_lt_of_cell? _ _ z0;have hl2:=World.block_lt_of_cell? _ _ q0)
   |(go_at_call_of 25 b0;refine(uj.out _).mono ?_;rintro e w1 ⟨rfl,hw1⟩;(try clear y0 y1 y2 y3 y4 y5 y6 y7 y8 y9 z0 z1 z2 z3 z4 z5 z6 z7 z8 z9 q0 q1 q2 q3 hl0 hl1 hl2);replace HW:=ah (HW.out.ay hw1);clear hw1;obtain⟨y0,y1,y2,y3,y4,y5,y6,y7,y8,y9,z0,z1,z2,z3,z4,z5,z6,z7,z8,z9,q0,q1,q2,q3⟩:=bF.out _ HW.out;have hl0:=World.block_lt_of_cell? _ _ y0;have hl1:=World.block_lt_of_cell? _ _ z0;have hl2:=World.block_lt_of_cell? _ _ q0))
  go_ret
  exact⟨rfl,fB.out.ay HW.out⟩
theorem RI (w:World) (v:Value) (h:wR w v) (v':Value) (h':wR w v') (u:Value) (hu:Js u):Calls Tryz.prog 5 #[v,v',u] w fun e w'=>e= .returned (.bool true)∧aj (fun _=>False) w w':=by
 obtain⟨u0,u1,u2,u3,rfl⟩:=hu
 exact RH w u0 u1 u2 u3 v v' h h'
end Go.Proofs.YtabkpccdnkjoiaaGreat
