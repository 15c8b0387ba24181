/- Words for the law BundleOrder: Same2, Awake0, Make. -/
import Derived.Test.YtabkpccdnkjoiaaGreatBundleOrderG0
import Derived.Test.YtabkpccdnkjoiaaGreatBundleOrderG13
import Derived.Test.YtabkpccdnkjoiaaGreatBundleOrderG14
import Derived.Test.YtabkpccdnkjoiaaGreatBundleOrderG18
set_option linter.unusedSimpArgs false
set_option linter.unusedVariables false
set_option maxHeartbeats 32000000
set_option maxRecDepth 1000000
namespace Go.Proofs.YtabkpccdnkjoiaaGreat
open Go.RowKit
theorem fO.qx {dc af la:Int} {f:Int→Int} {es:List aG} {ks:aI} {c:aU} (h:fO dc af la f es ks c):eG es ks c:=⟨h.tree,h.ctx,h.dots⟩
open Go.RowKit
def Q_:ByteArray:=⟨#[102]⟩
def Dw:List aG:=[⟨1,1,ByteArray.empty,0⟩]
def m_:aI:= .cons Q_ Dw .nil .nil
theorem Jf (w:World) (c0 c1 c2 c3 c4:Array Value) (T0 T1 T2 T3 T4:TypeId) (W:World) (hW:W=((((w.alloc (.cells c0 T0)).alloc (.cells c1 T1)).alloc (.cells c2 T2)).alloc (.cells c3 T3)).alloc (.cells c4 T4)):
 W.heap[w.heap.size]?=some (.cells c0 T0 (0,0))∧W.heap[w.heap.size+1+1]?=some (.cells c2 T2 (0,0))∧W.heap[w.heap.size+1+1+1]?=some (.cells c3 T3 (0,0))∧W.heap[w.heap.size+1+1+1+1]?=some (.cells c4 T4 (0,0))∧aj au w W:=by
 subst hW
 have h0:=heap_alloc_new w (.cells c0 T0)
 have h2:=heap_alloc_new ((w.alloc (.cells c0 T0)).alloc (.cells c1 T1)) (.cells c2 T2)
 have h3:=heap_alloc_new (((w.alloc (.cells c0 T0)).alloc (.cells c1 T1)).alloc (.cells c2 T2)) (.cells c3 T3)
 have h4:=heap_alloc_new ((((w.alloc (.cells c0 T0)).alloc (.cells c1 T1)).alloc (.cells c2 T2)).alloc (.cells c3 T3)) (.cells c4 T4)
 have sz:∀(u:World) (o:Obj),(u.alloc o).heap.size=u.heap.size+1:=fun u o=>by simp
 simp only[sz]at h2 h3 h4
 exact⟨(((aj.alloc au _ _).alloc1.alloc1).alloc1).blk h0 id,((aj.alloc au _ _).alloc1).blk h2 id,(aj.alloc au _ _).blk h3 id,h4,((((aj.alloc au _ _).alloc1).alloc1).alloc1).alloc1⟩
theorem zI {w:World} {b n:Nat} {cs:Array Value} {T:TypeId} (h:w.heap[b]?=some (.cells cs T (0,0))) (hm:n≤100):Rd w (.slice (some ⟨b,0,none⟩) n n) n cs.toList:=
 .inr ⟨b,0,n,rfl,Nat.le_refl _,by simp only[maxLen];omega,fun j u hu=>by rw[Nat.zero_add];exact aF h j (by simpa using hu)⟩
theorem Rf (w:World):Calls Tryz.prog 82 #[] w fun e w'=>∃ev kv cv,e= .returned (.agg #[ev,kv,cv])∧gQ (fun _=>True) w' ev kv cv [] m_ [(1,1,1)]∧aj au w w':=by
 have SS:=ah (fun c0 c1 c2 c3 c4 T0 T1 T2 T3 T4=>Jf w c0 c1 c2 c3 c4 T0 T1 T2 T3 T4 _ rfl)
 go_enter Tryz.func82,Tryz.ntmps82
 go_wp2
 generalize hW:((((w.alloc (.cells #[.slice none 0 0, .slice (some ⟨w.heap.size+1+1+1,0,none⟩) 1 1, .slice (some ⟨w.heap.size+1+1+1+1,0,none⟩) 1 1] 34)).alloc (.cells #[.int .i64 1, .int .i64 1, .string ⟨#[]⟩, .int .i64 0] 172)).alloc (.cells #[.int .i64 1, .int .i64 1, .string ⟨#[]⟩, .int .i64 0] 172)).alloc (.cells #[.string ⟨#[102]⟩, .slice (some ⟨w.heap.size+1+1,0,none⟩) 1 1, .slice none 0 0] 83)).alloc (.cells #[.int .i64 1, .int .i64 1, .int .i64 1] 144)=W
 obtain⟨g0,g2,g3,g4,gf⟩:=Jf w _ _ _ _ _ _ _ _ _ _ W hW.symm
 have y0:=aF g0 0 rfl
 have y1:=aF g0 1 rfl
 have y2:=aF g0 2 rfl
 refine bodyPost_ret (v:= .agg #[.slice none 0 0, .slice (some ⟨w.heap.size+1+1+1,0,none⟩) 1 1, .slice (some ⟨w.heap.size+1+1+1+1,0,none⟩) 1 1]) (by simp[results,Tryz.results82,go_sem,y0,y1,y2]) rfl ⟨_,_,_,rfl,⟨⟨⟨.inl ⟨none,rfl,rfl,rfl⟩,fun _ _ _=>trivial⟩,[(.slice (some ⟨w.heap.size+1+1,0,none⟩) 1 1, .slice none 0 0)],⟨zI g3 (by decide),fun _ _ _=>trivial⟩,?_⟩,zI g4 (by decide)⟩,gf⟩
 exact⟨_,_,_,[],rfl,⟨zI g2 (by decide),fun _ _ _=>trivial⟩,⟨.inl ⟨none,rfl,rfl,rfl⟩,fun _ _ _=>trivial⟩,rfl,rfl⟩
theorem Jg:aX 5 [] m_=true:=by
 rw[aX,m_,qJ]
 simp only[aX,dO,gI,kC,ltK,isNil,Dw,dJ,iO,mJ,aI.len,List.length]
 decide
open Go.RowKit
theorem t_ {w0 w:World} {b:Nat} {T:TypeId} {u0 u1 u2 u3 u4 u5 u6 u7 u8 u9:Value} (h:w.heap[b]?=some (.cells #[u0,u1,u2,u3,u4,u5,u6,u7,u8,u9] T (0,0))) (f:aj au w0 w) (hb:w0.heap.size≤b) (x0 x1 x2 x3 x4 x5 x6 x7 x8 x9:Value):
 ((((((((((w.setCell ⟨b,0,none⟩ (x0)).setCell ⟨b,1,none⟩ (x1)).setCell ⟨b,2,none⟩ (x2)).setCell ⟨b,3,none⟩ (x3)).setCell ⟨b,4,none⟩ (x4)).setCell ⟨b,5,none⟩ (x5)).setCell ⟨b,6,none⟩ (x6)).setCell ⟨b,7,none⟩ (x7)).setCell ⟨b,8,none⟩ (x8)).setCell ⟨b,9,none⟩ (x9)).heap[b]?=some (.cells #[x0,x1,x2,x3,x4,x5,x6,x7,x8,x9] T (0,0))∧aj au w0 ((((((((((w.setCell ⟨b,0,none⟩ (x0)).setCell ⟨b,1,none⟩ (x1)).setCell ⟨b,2,none⟩ (x2)).setCell ⟨b,3,none⟩ (x3)).setCell ⟨b,4,none⟩ (x4)).setCell ⟨b,5,none⟩ (x5)).setCell ⟨b,6,none⟩ (x6)).setCell ⟨b,7,none⟩ (x7)).setCell ⟨b,8,none⟩ (x8)).setCell ⟨b,9,none⟩ (x9))∧∀k,k≠b→((((((((((w.setCell ⟨b,0,none⟩ (x0)).setCell ⟨b,1,none⟩ (x1)).setCell ⟨b,2,none⟩ (x2)).setCell ⟨b,3,none⟩ (x3)).setCell ⟨b,4,none⟩ (x4)).setCell ⟨b,5,none⟩ (x5)).setCell ⟨b,6,none⟩ (x6)).setCell ⟨b,7,none⟩ (x7)).setCell ⟨b,8,none⟩ (x8)).setCell ⟨b,9,none⟩ (x9)).heap[k]?=w.heap[k]?:=by
 have e0:(w.setCell ⟨b,0,none⟩ (x0)).heap[b]?=some (.cells #[x0,u1,u2,u3,u4,u5,u6,u7,u8,u9] T (0,0)):=dY h 0 x0
 have f0:aj au w0 (w.setCell ⟨b,0,none⟩ (x0)):=aj.set1 (p:=⟨b,0,none⟩) f (.inr hb)
 have e1:((w.setCell ⟨b,0,none⟩ (x0)).setCell ⟨b,1,none⟩ (x1)).heap[b]?=some (.cells #[x0,x1,u2,u3,u4,u5,u6,u7,u8,u9] T (0,0)):=dY e0 1 x1
 have f1:aj au w0 ((w.setCell ⟨b,0,none⟩ (x0)).setCell ⟨b,1,none⟩ (x1)):=aj.set1 (p:=⟨b,1,none⟩) f0 (.inr hb)
 have e2:(((w.setCell ⟨b,0,none⟩ (x0)).setCell ⟨b,1,none⟩ (x1)).setCell ⟨b,2,none⟩ (x2)).heap[b]?=some (.cells #[x0,x1,x2,u3,u4,u5,u6,u7,u8,u9] T (0,0)):=dY e1 2 x2
 have f2:aj au w0 (((w.setCell ⟨b,0,none⟩ (x0)).setCell ⟨b,1,none⟩ (x1)).setCell ⟨b,2,none⟩ (x2)):=aj.set1 (p:=⟨b,2,none⟩) f1 (.inr hb)
 have e3:((((w.setCell ⟨b,0,none⟩ (x0)).setCell ⟨b,1,none⟩ (x1)).setCell ⟨b,2,none⟩ (x2)).setCell ⟨b,3,none⟩ (x3)).heap[b]?=some (.cells #[x0,x1,x2,x3,u4,u5,u6,u7,u8,u9] T (0,0)):=dY e2 3 x3
 have f3:aj au w0 ((((w.setCell ⟨b,0,none⟩ (x0)).setCell ⟨b,1,none⟩ (x1)).setCell ⟨b,2,none⟩ (x2)).setCell ⟨b,3,none⟩ (x3)):=aj.set1 (p:=⟨b,3,none⟩) f2 (.inr hb)
 have e4:(((((w.setCell ⟨b,0,none⟩ (x0)).setCell ⟨b,1,none⟩ (x1)).setCell ⟨b,2,none⟩ (x2)).setCell ⟨b,3,none⟩ (x3)).setCell ⟨b,4,none⟩ (x4)).heap[b]?=some (.cells #[x0,x1,x2,x3,x4,u5,u6,u7,u8,u9] T (0,0)):=dY e3 4 x4
 have f4:aj au w0 (((((w.setCell ⟨b,0,none⟩ (x0)).setCell ⟨b,1,none⟩ (x1)).setCell ⟨b,2,none⟩ (x2)).setCell ⟨b,3,none⟩ (x3)).setCell ⟨b,4,none⟩ (x4)):=aj.set1 (p:=⟨b,4,none⟩) f3 (.inr hb)
 have e5:((((((w.setCell ⟨b,0,none⟩ (x0)).setCell ⟨b,1,none⟩ (x1)).setCell ⟨b,2,none⟩ (x2)).setCell ⟨b,3,none⟩ (x3)).setCell ⟨b,4,none⟩ (x4)).setCell ⟨b,5,none⟩ (x5)).heap[b]?=some (.cells #[x0,x1,x2,x3,x4,x5,u6,u7,u8,u9] T (0,0)):=dY e4 5 x5
 have f5:aj au w0 ((((((w.setCell ⟨b,0,none⟩ (x0)).setCell ⟨b,1,none⟩ (x1)).setCell ⟨b,2,none⟩ (x2)).setCell ⟨b,3,none⟩ (x3)).setCell ⟨b,4,none⟩ (x4)).setCell ⟨b,5,none⟩ (x5)):=aj.set1 (p:=⟨b,5,none⟩) f4 (.inr hb)
 have e6:(((((((w.setCell ⟨b,0,none⟩ (x0)).setCell ⟨b,1,none⟩ (x1)).setCell ⟨b,2,none⟩ (x2)).setCell ⟨b,3,none⟩ (x3)).setCell ⟨b,4,none⟩ (x4)).setCell ⟨b,5,none⟩ (x5)).setCell ⟨b,6,none⟩ (x6)).heap[b]?=some (.cells #[x0,x1,x2,x3,x4,x5,x6,u7,u8,u9] T (0,0)):=dY e5 6 x6
 have f6:aj au w0 (((((((w.setCell ⟨b,0,none⟩ (x0)).setCell ⟨b,1,none⟩ (x1)).setCell ⟨b,2,none⟩ (x2)).setCell ⟨b,3,none⟩ (x3)).setCell ⟨b,4,none⟩ (x4)).setCell ⟨b,5,none⟩ (x5)).setCell ⟨b,6,none⟩ (x6)):=aj.set1 (p:=⟨b,6,none⟩) f5 (.inr hb)
 have e7:((((((((w.setCell ⟨b,0,none⟩ (x0)).setCell ⟨b,1,none⟩ (x1)).setCell ⟨b,2,none⟩ (x2)).setCell ⟨b,3,none⟩ (x3)).setCell ⟨b,4,none⟩ (x4)).setCell ⟨b,5,none⟩ (x5)).setCell ⟨b,6,none⟩ (x6)).setCell ⟨b,7,none⟩ (x7)).heap[b]?=some (.cells #[x0,x1,x2,x3,x4,x5,x6,x7,u8,u9] T (0,0)):=dY e6 7 x7
 have f7:aj au w0 ((((((((w.setCell ⟨b,0,none⟩ (x0)).setCell ⟨b,1,none⟩ (x1)).setCell ⟨b,2,none⟩ (x2)).setCell ⟨b,3,none⟩ (x3)).setCell ⟨b,4,none⟩ (x4)).setCell ⟨b,5,none⟩ (x5)).setCell ⟨b,6,none⟩ (x6)).setCell ⟨b,7,none⟩ (x7)):=aj.set1 (p:=⟨b,7,none⟩) f6 (.inr hb)
 have e8:(((((((((w.setCell ⟨b,0,none⟩ (x0)).setCell ⟨b,1,none⟩ (x1)).setCell ⟨b,2,none⟩ (x2)).setCell ⟨b,3,none⟩ (x3)).setCell ⟨b,4,none⟩ (x4)).setCell ⟨b,5,none⟩ (x5)).setCell ⟨b,6,none⟩ (x6)).setCell ⟨b,7,none⟩ (x7)).setCell ⟨b,8,none⟩ (x8)).heap[b]?=some (.cells #[x0,x1,x2,x3,x4,x5,x6,x7,x8,u9] T (0,0)):=dY e7 8 x8
 have f8:aj au w0 (((((((((w.setCell ⟨b,0,none⟩ (x0)).setCell ⟨b,1,none⟩ (x1)).setCell ⟨b,2,none⟩ (x2)).setCell ⟨b,3,none⟩ (x3)).setCell ⟨b,4,none⟩ (x4)).setCell ⟨b,5,none⟩ (x5)).setCell ⟨b,6,none⟩ (x6)).setCell ⟨b,7,none⟩ (x7)).setCell ⟨b,8,none⟩ (x8)):=aj.set1 (p:=⟨b,8,none⟩) f7 (.inr hb)
 have e9:((((((((((w.setCell ⟨b,0,none⟩ (x0)).setCell ⟨b,1,none⟩ (x1)).setCell ⟨b,2,none⟩ (x2)).setCell ⟨b,3,none⟩ (x3)).setCell ⟨b,4,none⟩ (x4)).setCell ⟨b,5,none⟩ (x5)).setCell ⟨b,6,none⟩ (x6)).setCell ⟨b,7,none⟩ (x7)).setCell ⟨b,8,none⟩ (x8)).setCell ⟨b,9,none⟩ (x9)).heap[b]?=some (.cells #[x0,x1,x2,x3,x4,x5,x6,x7,x8,x9] T (0,0)):=dY e8 9 x9
 have f9:aj au w0 ((((((((((w.setCell ⟨b,0,none⟩ (x0)).setCell ⟨b,1,none⟩ (x1)).setCell ⟨b,2,none⟩ (x2)).setCell ⟨b,3,none⟩ (x3)).setCell ⟨b,4,none⟩ (x4)).setCell ⟨b,5,none⟩ (x5)).setCell ⟨b,6,none⟩ (x6)).setCell ⟨b,7,none⟩ (x7)).setCell ⟨b,8,none⟩ (x8)).setCell ⟨b,9,none⟩ (x9)):=aj.set1 (p:=⟨b,9,none⟩) f8 (.inr hb)
 exact⟨e9,f9,fun k hk=>(((((((((iJ hk).trans (iJ hk)).trans (iJ hk)).trans (iJ hk)).trans (iJ hk)).trans (iJ hk)).trans (iJ hk)).trans (iJ hk)).trans (iJ hk)).trans (iJ hk)⟩
theorem Rh (w:World) (c0 c1 c2:Array Value) (T0 T1 T2:TypeId) (W:World) (f:aj au (((w.alloc (.cells c0 T0)).alloc (.cells c1 T1)).alloc (.cells c2 T2)) W):
 W.heap[w.heap.size]?=some (.cells c0 T0 (0,0))∧W.heap[w.heap.size+1]?=some (.cells c1 T1 (0,0))∧W.heap[w.heap.size+1+1]?=some (.cells c2 T2 (0,0))∧aj au w W:=by
 have h0:=heap_alloc_new w (.cells c0 T0)
 have h1:=heap_alloc_new (w.alloc (.cells c0 T0)) (.cells c1 T1)
 have h2:=heap_alloc_new ((w.alloc (.cells c0 T0)).alloc (.cells c1 T1)) (.cells c2 T2)
 have sz:∀(u:World) (o:Obj),(u.alloc o).heap.size=u.heap.size+1:=fun u o=>by simp
 simp only[sz]at h1 h2
 exact⟨f.blk (((aj.alloc au _ _).alloc1).blk h0 id) id,f.blk ((aj.alloc au _ _).blk h1 id) id,f.blk h2 id,(((aj.alloc au _ _).alloc1).alloc1).ay f⟩
def Ri (w:World) (dc af la v0 v1 v2 v3:Int) (es:List aG) (ks:aI) (c:aU) (e:Ending) (w':World):Prop:=
 ∃ev kv cv c',e= .returned (.tuple #[.agg #[.int .i64 dc, .int .i64 af, .int .i64 la, .int .i64 v0, .int .i64 v1, .int .i64 v2, .int .i64 v3,ev,kv,cv], .int .i64 0])∧gQ (fun _=>True) w' ev kv cv es ks c'∧fU 0 c [(dc,af+1,la)] c'∧aj au w w'
theorem Rj (Q:Nat→Prop) (es:List aG) (ks:aI) (c:aU) (w:World) (dc af la v0 v1 v2 v3:Int) (ev kv cv:Value) (h:gQ Q w ev kv cv es ks c) (hok:fG es ks c)
 (hn:jl dc af la (aS v0 v1 v2 v3)) (hc:eG es ks c) (hB:∀c',fU 0 c [(dc,af+1,la)] c'→fO dc af la (aS v0 v1 v2 v3) es ks c'∧fG es ks c'):
 Calls Tryz.prog 81 #[.int .i64 dc, .int .i64 af, .int .i64 la, .agg #[.int .i64 v0, .int .i64 v1, .int .i64 v2, .int .i64 v3], .agg #[ev,kv,cv]] w (Ri w dc af la v0 v1 v2 v3 es ks c):=by
 obtain⟨a0,c0,a1,c1,a2,c2,rfl,rfl,rfl⟩:=h.shape
 have yY:=ah (fun W (f:aj au w W)=>NU Q es ks c W _ _ _ (h.aP f) hok hc)
 have iR:=ah (fun W (f:aj au w W)=>bM hc▸qO Q es ks c W _ _ _ (h.aP f) hok)
 have HN:=ah hn
 have HB:=ah hB
 have dw:=ah hok
 have HC:=ah hc
 have eU:=ah (fun W a0 a1 a2 n m k c0 c1 c2=>bM hn▸Il W dc af la v0 v1 v2 v3 a0 a1 a2 n m k c0 c1 c2)
 have HOW:=ah (fun W a0 a1 a2 n m k c0 c1 c2=>Ip W dc af la v0 v1 v2 v3 a0 a1 a2 n m k c0 c1 c2 hn)
 have qg:=ah (Rh w #[.int .i64 v0, .int .i64 v1, .int .i64 v2, .int .i64 v3] #[.slice a0 es.length c0, .slice a1 ks.len c1, .slice a2 c.length c2] #[.int .i64 0, .int .i64 0, .int .i64 0, .int .i64 0, .int .i64 0, .int .i64 0, .int .i64 0, .slice none 0 0, .slice none 0 0, .slice none 0 0] 25 34 59)
 have hS0:∀W,aj au (((w.alloc (.cells #[.int .i64 v0, .int .i64 v1, .int .i64 v2, .int .i64 v3] 25)).alloc (.cells #[.slice a0 es.length c0, .slice a1 ks.len c1, .slice a2 c.length c2] 34)).alloc (.cells #[.int .i64 0, .int .i64 0, .int .i64 0, .int .i64 0, .int .i64 0, .int .i64 0, .int .i64 0, .slice none 0 0, .slice none 0 0, .slice none 0 0] 59)) W→W.cell? ⟨w.heap.size,0,none⟩=some (.int .i64 v0)∧W.cell? ⟨w.heap.size,1,none⟩=some (.int .i64 v1)∧W.cell? ⟨w.heap.size,2,none⟩=some (.int .i64 v2)∧W.cell? ⟨w.heap.size,3,none⟩=some (.int .i64 v3)∧W.cell? ⟨w.heap.size+1,0,none⟩=some (.slice a0 es.length c0)∧W.cell? ⟨w.heap.size+1,1,none⟩=some (.slice a1 ks.len c1)∧W.cell? ⟨w.heap.size+1,2,none⟩=some (.slice a2 c.length c2):=fun W f=>by
  obtain⟨g0,g1,-,-⟩:=qg.out W f
  exact⟨aF g0 0 rfl,aF g0 1 rfl,aF g0 2 rfl,aF g0 3 rfl,aF g1 0 rfl,aF g1 1 rfl,aF g1 2 rfl⟩
 have qX:=ah hS0;clear hS0
 clear h hok hn hc hB
 have hsz0:(((w.alloc (.cells #[.int .i64 v0, .int .i64 v1, .int .i64 v2, .int .i64 v3] 25)).alloc (.cells #[.slice a0 es.length c0, .slice a1 ks.len c1, .slice a2 c.length c2] 34)).alloc (.cells #[.int .i64 0, .int .i64 0, .int .i64 0, .int .i64 0, .int .i64 0, .int .i64 0, .int .i64 0, .slice none 0 0, .slice none 0 0, .slice none 0 0] 59)).heap.size=w.heap.size+1+1+1:=by simp
 have u_:=ah hsz0;clear hsz0
 go_enter Tryz.func81,Tryz.ntmps81
 go_wp2_with fail
 have hW0:aj au (((w.alloc (.cells #[.int .i64 v0, .int .i64 v1, .int .i64 v2, .int .i64 v3] 25)).alloc (.cells #[.slice a0 es.length c0, .slice a1 ks.len c1, .slice a2 c.length c2] 34)).alloc (.cells #[.int .i64 0, .int .i64 0, .int .i64 0, .int .i64 0, .int .i64 0, .int .i64 0, .int .i64 0, .slice none 0 0, .slice none 0 0, .slice none 0 0] 59)) (((w.alloc (.cells #[.int .i64 v0, .int .i64 v1, .int .i64 v2, .int .i64 v3] 25)).alloc (.cells #[.slice a0 es.length c0, .slice a1 ks.len c1, .slice a2 c.length c2] 34)).alloc (.cells #[.int .i64 0, .int .i64 0, .int .i64 0, .int .i64 0, .int .i64 0, .int .i64 0, .int .i64 0, .slice none 0 0, .slice none 0 0, .slice none 0 0] 59)).drew:=aj.drew _ _
 have hS:=qX.out _ hW0
 have eu:=(qg.out _ hW0).2.2.2
 have hr:w.heap.size+1+1<(((w.alloc (.cells #[.int .i64 v0, .int .i64 v1, .int .i64 v2, .int .i64 v3] 25)).alloc (.cells #[.slice a0 es.length c0, .slice a1 ks.len c1, .slice a2 c.length c2] 34)).alloc (.cells #[.int .i64 0, .int .i64 0, .int .i64 0, .int .i64 0, .int .i64 0, .int .i64 0, .int .i64 0, .slice none 0 0, .slice none 0 0, .slice none 0 0] 59)).drew.heap.size:=by have:(((w.alloc (.cells #[.int .i64 v0, .int .i64 v1, .int .i64 v2, .int .i64 v3] 25)).alloc (.cells #[.slice a0 es.length c0, .slice a1 ks.len c1, .slice a2 c.length c2] 34)).alloc (.cells #[.int .i64 0, .int .i64 0, .int .i64 0, .int .i64 0, .int .i64 0, .int .i64 0, .int .i64 0, .slice none 0 0, .slice none 0 0, .slice none 0 0] 59)).drew.heap.size=_:=u_.out;omega
 refine gX (S:=fun w'=>w'.cell? ⟨w.heap.size,0,none⟩=some (.int .i64 v0)∧w'.cell? ⟨w.heap.size,1,none⟩=some (.int .i64 v1)∧w'.cell? ⟨w.heap.size,2,none⟩=some (.int .i64 v2)∧w'.cell? ⟨w.heap.size,3,none⟩=some (.int .i64 v3)∧w'.cell? ⟨w.heap.size+1,0,none⟩=some (.slice a0 es.length c0)∧w'.cell? ⟨w.heap.size+1,1,none⟩=some (.slice a1 ks.len c1)∧w'.cell? ⟨w.heap.size+1,2,none⟩=some (.slice a2 c.length c2)) 8 (by kernel_rfl) hS ?_
 clear hS
 intro hS
 clear u_
 generalize hY0:(((w.alloc (.cells #[.int .i64 v0, .int .i64 v1, .int .i64 v2, .int .i64 v3] 25)).alloc (.cells #[.slice a0 es.length c0, .slice a1 ks.len c1, .slice a2 c.length c2] 34)).alloc (.cells #[.int .i64 0, .int .i64 0, .int .i64 0, .int .i64 0, .int .i64 0, .int .i64 0, .int .i64 0, .slice none 0 0, .slice none 0 0, .slice none 0 0] 59))=Z0 at*
 have Jh:=ah hY0;clear hY0
 generalize Z0.drew=Y at*
 refine aT 0 13 rfl rfl (v:=?_) (.inl ⟨by rfl,?_⟩) ?_
 rotate_left 1
 ·(intro w hSw;(try dsimp only at hSw);go_simp;(try with_reducible rfl))
 refine aT 1 14 rfl rfl (v:=?_) (.inl ⟨by rfl,?_⟩) ?_
 rotate_left 1
 ·(intro w hSw;(try dsimp only at hSw);go_simp;(try with_reducible rfl))
 try simp only[Act.put,aJ,aN,aO]
 refine aT 2 15 rfl rfl (v:=?_) (.inl ⟨by rfl,?_⟩) ?_
 rotate_left 1
 ·(intro w hSw;(try dsimp only at hSw);go_simp;(try with_reducible rfl))
 refine aT 3 16 rfl rfl (v:=?_) (.inl ⟨by rfl,?_⟩) ?_
 rotate_left 1
 ·(intro w hSw;(try dsimp only at hSw);go_simp;(try with_reducible rfl))
 try simp only[Act.put,aJ,aN,aO]
 refine aT 4 17 rfl rfl (v:=?_) (.inl ⟨by rfl,?_⟩) ?_
 rotate_left 1
 ·(intro w hSw;(try dsimp only at hSw);go_simp;(try with_reducible rfl))
 try simp only[Act.put,aJ,aN,aO]
 refine tq (i:=5) (j:=7) (by kernel_rfl) rfl rfl (fun K hK=>?_) (fun K hK=>?_)
 ·go_simp
  refine(yY.out _ eu).mono ?_
  rintro e Y1 ⟨mP,mQ,CO,rfl,hta,hoc⟩
  obtain⟨a3,d3,rfl⟩:=hta.ents.rd.sl
  obtain⟨os3,iQ,-⟩:=hta.kids
  obtain⟨a4,d4,rfl⟩:=iQ.rd.sl
  clear iQ
  obtain⟨a5,d5,rfl⟩:=hoc.shape
  have hf:=hoc.aH
  have Dx:Y.heap.size≤Y1.heap.size:=hf.size
  have hS:Y1.cell? ⟨w.heap.size,0,none⟩=some (.int .i64 v0)∧Y1.cell? ⟨w.heap.size,1,none⟩=some (.int .i64 v1)∧Y1.cell? ⟨w.heap.size,2,none⟩=some (.int .i64 v2)∧Y1.cell? ⟨w.heap.size,3,none⟩=some (.int .i64 v3)∧Y1.cell? ⟨w.heap.size+1,0,none⟩=some (.slice a0 es.length c0)∧Y1.cell? ⟨w.heap.size+1,1,none⟩=some (.slice a1 ks.len c1)∧Y1.cell? ⟨w.heap.size+1,2,none⟩=some (.slice a2 c.length c2):=⟨hf.cell' hS.1 id,hf.cell' hS.2.1 id,hf.cell' hS.2.2.1 id,hf.cell' hS.2.2.2.1 id,hf.cell' hS.2.2.2.2.1 id,hf.cell' hS.2.2.2.2.2.1 id,hf.cell' hS.2.2.2.2.2.2 id⟩
  have hW0:=hW0.ay hf
  have eu:=eu.ay hf
  have hr0:=hr
  have hr:w.heap.size+1+1<Y1.heap.size:=by omega
  (try have hM:=hf.blk hM id)
  (try have hTA:bJ (fun b=>b≠mb∧b≠w.heap.size+1+1) Y1 (.slice a3 es.length d3) (.slice a4 ks.len d4) es ks:=hta.turn fun b hb hQ=>⟨rfl,by omega,by omega⟩)
  (try have rG:jA (fun b=>b≠mb∧b≠w.heap.size+1+1) Y1 (.slice a5 c.length d5) c.length (bT c):=hoc.pY.turn fun b hb hQ=>⟨rfl,by omega,by omega⟩)
  refine hK.out _ _ hS ?_
  clear hK K hf
  generalize Y1=Y at*
  try simp only[Act.put,aJ,aN,aO]
  refine aT 6 19 rfl rfl (v:=?_) (.inl ⟨by rfl,?_⟩) ?_
  rotate_left 1
  ·(intro w hSw;(try dsimp only at hSw);go_simp;(try with_reducible rfl))
  try simp only[Act.put,aJ,aN,aO]
  refine bD (i:=7) (by kernel_rfl) rfl (fun K hK=>?_)
  go_simp
  have hf:aj au Y (Y.alloc (.cells #[.int .i64 0, .int .i64 0, .int .i64 0, .int .i64 0, .int .i64 0, .int .i64 0, .int .i64 0, .slice none 0 0, .slice none 0 0, .slice none 0 0] 59)):=aj.alloc _ _ _
  have hM:=heap_alloc_new Y (.cells #[.int .i64 0, .int .i64 0, .int .i64 0, .int .i64 0, .int .i64 0, .int .i64 0, .int .i64 0, .slice none 0 0, .slice none 0 0, .slice none 0 0] 59)
  have hS:(Y.alloc (.cells #[.int .i64 0, .int .i64 0, .int .i64 0, .int .i64 0, .int .i64 0, .int .i64 0, .int .i64 0, .slice none 0 0, .slice none 0 0, .slice none 0 0] 59)).cell? ⟨w.heap.size,0,none⟩=some (.int .i64 v0)∧(Y.alloc (.cells #[.int .i64 0, .int .i64 0, .int .i64 0, .int .i64 0, .int .i64 0, .int .i64 0, .int .i64 0, .slice none 0 0, .slice none 0 0, .slice none 0 0] 59)).cell? ⟨w.heap.size,1,none⟩=some (.int .i64 v1)∧(Y.alloc (.cells #[.int .i64 0, .int .i64 0, .int .i64 0, .int .i64 0, .int .i64 0, .int .i64 0, .int .i64 0, .slice none 0 0, .slice none 0 0, .slice none 0 0] 59)).cell? ⟨w.heap.size,2,none⟩=some (.int .i64 v2)∧(Y.alloc (.cells #[.int .i64 0, .int .i64 0, .int .i64 0, .int .i64 0, .int .i64 0, .int .i64 0, .int .i64 0, .slice none 0 0, .slice none 0 0, .slice none 0 0] 59)).cell? ⟨w.heap.size,3,none⟩=some (.int .i64 v3)∧(Y.alloc (.cells #[.int .i64 0, .int .i64 0, .int .i64 0, .int .i64 0, .int .i64 0, .int .i64 0, .int .i64 0, .slice none 0 0, .slice none 0 0, .slice none 0 0] 59)).cell? ⟨w.heap.size+1,0,none⟩=some (.slice a0 es.length c0)∧(Y.alloc (.cells #[.int .i64 0, .int .i64 0, .int .i64 0, .int .i64 0, .int .i64 0, .int .i64 0, .int .i64 0, .slice none 0 0, .slice none 0 0, .slice none 0 0] 59)).cell? ⟨w.heap.size+1,1,none⟩=some (.slice a1 ks.len c1)∧(Y.alloc (.cells #[.int .i64 0, .int .i64 0, .int .i64 0, .int .i64 0, .int .i64 0, .int .i64 0, .int .i64 0, .slice none 0 0, .slice none 0 0, .slice none 0 0] 59)).cell? ⟨w.heap.size+1,2,none⟩=some (.slice a2 c.length c2):=⟨hf.cell' hS.1 id,hf.cell' hS.2.1 id,hf.cell' hS.2.2.1 id,hf.cell' hS.2.2.2.1 id,hf.cell' hS.2.2.2.2.1 id,hf.cell' hS.2.2.2.2.2.1 id,hf.cell' hS.2.2.2.2.2.2 id⟩
  have hW0:=hW0.ay hf
  have eu:=eu.ay hf
  have hsa:(Y.alloc (.cells #[.int .i64 0, .int .i64 0, .int .i64 0, .int .i64 0, .int .i64 0, .int .i64 0, .int .i64 0, .slice none 0 0, .slice none 0 0, .slice none 0 0] 59)).heap.size=Y.heap.size+1:=by simp
  obtain⟨mb,hmb⟩:∃mb,Y.heap.size=mb:=⟨_,rfl⟩
  have hrm:w.heap.size+1+1<mb:=by omega
  (try have hTA:bJ (fun b=>b≠mb∧b≠w.heap.size+1+1) (Y.alloc (.cells #[.int .i64 0, .int .i64 0, .int .i64 0, .int .i64 0, .int .i64 0, .int .i64 0, .int .i64 0, .slice none 0 0, .slice none 0 0, .slice none 0 0] 59)) (.slice a3 es.length d3) (.slice a4 ks.len d4) es ks:=hta.turn fun b hb hQ=>⟨Below.heap_alloc _ _ _ hb,by omega,by omega⟩)
  (try have rG:jA (fun b=>b≠mb∧b≠w.heap.size+1+1) (Y.alloc (.cells #[.int .i64 0, .int .i64 0, .int .i64 0, .int .i64 0, .int .i64 0, .int .i64 0, .int .i64 0, .slice none 0 0, .slice none 0 0, .slice none 0 0] 59)) (.slice a5 c.length d5) c.length (bT c):=hoc.pY.turn fun b hb hQ=>⟨Below.heap_alloc _ _ _ hb,by omega,by omega⟩)
  have hml:mb<(Y.alloc (.cells #[.int .i64 0, .int .i64 0, .int .i64 0, .int .i64 0, .int .i64 0, .int .i64 0, .int .i64 0, .slice none 0 0, .slice none 0 0, .slice none 0 0] 59)).heap.size:=by omega
  have hr:w.heap.size+1+1<(Y.alloc (.cells #[.int .i64 0, .int .i64 0, .int .i64 0, .int .i64 0, .int .i64 0, .int .i64 0, .int .i64 0, .slice none 0 0, .slice none 0 0, .slice none 0 0] 59)).heap.size:=by omega
  rw[hmb]at hM⊢
  clear hsa hmb
  refine hK.out _ _ hS ?_
  clear hK K hf
  generalize Y.alloc (.cells #[.int .i64 0, .int .i64 0, .int .i64 0, .int .i64 0, .int .i64 0, .int .i64 0, .int .i64 0, .slice none 0 0, .slice none 0 0, .slice none 0 0] 59)=Y at*
  try simp only[Act.put,aJ,aN,aO]
  refine fD (by kernel_rfl) (by kernel_rfl) rfl (fun K hK=>?_)
  have HR:=ah (t_ hM eu (by omega) (.int .i64 dc) (.int .i64 af) (.int .i64 la) (.int .i64 v0) (.int .i64 v1) (.int .i64 v2) (.int .i64 v3) (.slice a3 es.length d3) (.slice a4 ks.len d4) (.slice a5 c.length d5))
  have z0:=aF hM 0 rfl
  have g0:=aY hM 0
  have z1:=aF hM 1 rfl
  have g1:=aY hM 1
  have z2:=aF hM 2 rfl
  have g2:=aY hM 2
  have z3:=aF hM 3 rfl
  have g3:=aY hM 3
  have z4:=aF hM 4 rfl
  have g4:=aY hM 4
  have z5:=aF hM 5 rfl
  have g5:=aY hM 5
  have z6:=aF hM 6 rfl
  have g6:=aY hM 6
  have z7:=aF hM 7 rfl
  have g7:=aY hM 7
  have z8:=aF hM 8 rfl
  have g8:=aY hM 8
  have z9:=aF hM 9 rfl
  have g9:=aY hM 9
  have iW:=ah (hTA.turn (Q':=fun b=>b≠mb∧b≠w.heap.size+1+1) fun b hb hQ=>⟨HR.out.2.2 b hQ.1,hQ⟩)
  have jc:=ah (rG.turn (Q':=fun b=>b≠mb∧b≠w.heap.size+1+1) fun b hb hQ=>⟨HR.out.2.2 b hQ.1,hQ⟩)
  have hz0:Z0.heap.size≤mb:=by rw[←Jh.out];simp;omega
  have HW0:=ah (t_ hM hW0 hz0 (.int .i64 dc) (.int .i64 af) (.int .i64 la) (.int .i64 v0) (.int .i64 v1) (.int .i64 v2) (.int .i64 v3) (.slice a3 es.length d3) (.slice a4 ks.len d4) (.slice a5 c.length d5)).2.1
  have Dy:=ah hz0
  have wK:=ah hrm
  clear hS hM hTA rG hW0 eu hr hz0 hrm
  (try clear hr0)
  (try clear Dx)
  clear hta hoc
  go_simp
  refine hK.out _ _ ?_
  clear hK K z0 g0 z1 g1 z2 g2 z3 g3 z4 g4 z5 g5 z6 g6 z7 g7 z8 g8 z9 g9
  generalize ((((((((((Y.setCell ⟨mb,0,none⟩ (.int .i64 dc)).setCell ⟨mb,1,none⟩ (.int .i64 af)).setCell ⟨mb,2,none⟩ (.int .i64 la)).setCell ⟨mb,3,none⟩ (.int .i64 v0)).setCell ⟨mb,4,none⟩ (.int .i64 v1)).setCell ⟨mb,5,none⟩ (.int .i64 v2)).setCell ⟨mb,6,none⟩ (.int .i64 v3)).setCell ⟨mb,7,none⟩ (.slice a3 es.length d3)).setCell ⟨mb,8,none⟩ (.slice a4 ks.len d4)).setCell ⟨mb,9,none⟩ (.slice a5 c.length d5))=X at*
  obtain⟨gW,wL,-⟩:=HR.out
  have Dz:=ah gW
  have wM:=ah wL
  have y0:=aF gW 0 rfl
  have y1:=aF gW 1 rfl
  have y2:=aF gW 2 rfl
  have y3:=aF gW 3 rfl
  have y4:=aF gW 4 rfl
  have y5:=aF gW 5 rfl
  have y6:=aF gW 6 rfl
  have y7:=aF gW 7 rfl
  have y8:=aF gW 8 rfl
  have y9:=aF gW 9 rfl
  clear gW wL HR
  go_wp2_with(first
   |(go_at_call 143;refine(eU.out _ _ _ _ _ _ _ _ _ _).mono ?_;rintro e w1 ⟨rfl,hw1⟩;obtain⟨-,-,-,-,b0,b1,b2⟩:=qX.out w1 (HW0.out.ay hw1);have HW1:=ah hw1;clear hw1)
   |(go_at_call 93;refine(iR.out _ (wM.out.ay HW1.out)).mono ?_;rintro e w2 ⟨rfl,hw2⟩;have HW2:=ah (HW1.out.ay hw2);clear hw2))
  clear b0 b1 b2 y0 y1 y2 y3 y4 y5 y6 y7 y8 y9
  have hfx:=HW2.out.ay (aj.drew au w2)
  have hM:=hfx.blk Dz.out id
  refine gX (S:=fun w'=>w'.cell? ⟨mb,0,none⟩=some (.int .i64 dc)∧w'.cell? ⟨mb,1,none⟩=some (.int .i64 af)∧w'.cell? ⟨mb,2,none⟩=some (.int .i64 la)∧w'.cell? ⟨mb,3,none⟩=some (.int .i64 v0)∧w'.cell? ⟨mb,4,none⟩=some (.int .i64 v1)∧w'.cell? ⟨mb,5,none⟩=some (.int .i64 v2)∧w'.cell? ⟨mb,6,none⟩=some (.int .i64 v3)∧w'.cell? ⟨mb,7,none⟩=some (.slice a3 es.length d3)∧w'.cell? ⟨mb,8,none⟩=some (.slice a4 ks.len d4)∧w'.cell? ⟨mb,9,none⟩=some (.slice a5 c.length d5)) 8 (by kernel_rfl) ⟨aF hM 0 rfl,aF hM 1 rfl,aF hM 2 rfl,aF hM 3 rfl,aF hM 4 rfl,aF hM 5 rfl,aF hM 6 rfl,aF hM 7 rfl,aF hM 8 rfl,aF hM 9 rfl⟩ ?_
  intro hS
  have cu:=ah (fun Y Y' (f:aj au Y Y') (hS:Y.cell? ⟨mb,0,none⟩=some (.int .i64 dc)∧Y.cell? ⟨mb,1,none⟩=some (.int .i64 af)∧Y.cell? ⟨mb,2,none⟩=some (.int .i64 la)∧Y.cell? ⟨mb,3,none⟩=some (.int .i64 v0)∧Y.cell? ⟨mb,4,none⟩=some (.int .i64 v1)∧Y.cell? ⟨mb,5,none⟩=some (.int .i64 v2)∧Y.cell? ⟨mb,6,none⟩=some (.int .i64 v3)∧Y.cell? ⟨mb,7,none⟩=some (.slice a3 es.length d3)∧Y.cell? ⟨mb,8,none⟩=some (.slice a4 ks.len d4)∧Y.cell? ⟨mb,9,none⟩=some (.slice a5 c.length d5))=>(⟨f.cell' hS.1 id,f.cell' hS.2.1 id,f.cell' hS.2.2.1 id,f.cell' hS.2.2.2.1 id,f.cell' hS.2.2.2.2.1 id,f.cell' hS.2.2.2.2.2.1 id,f.cell' hS.2.2.2.2.2.2.1 id,f.cell' hS.2.2.2.2.2.2.2.1 id,f.cell' hS.2.2.2.2.2.2.2.2.1 id,f.cell' hS.2.2.2.2.2.2.2.2.2 id⟩:Y'.cell? ⟨mb,0,none⟩=some (.int .i64 dc)∧Y'.cell? ⟨mb,1,none⟩=some (.int .i64 af)∧Y'.cell? ⟨mb,2,none⟩=some (.int .i64 la)∧Y'.cell? ⟨mb,3,none⟩=some (.int .i64 v0)∧Y'.cell? ⟨mb,4,none⟩=some (.int .i64 v1)∧Y'.cell? ⟨mb,5,none⟩=some (.int .i64 v2)∧Y'.cell? ⟨mb,6,none⟩=some (.int .i64 v3)∧Y'.cell? ⟨mb,7,none⟩=some (.slice a3 es.length d3)∧Y'.cell? ⟨mb,8,none⟩=some (.slice a4 ks.len d4)∧Y'.cell? ⟨mb,9,none⟩=some (.slice a5 c.length d5)))
  have DC:=ah (iW.out.aP hfx)
  have DF:=ah (jc.out.rd.aP hfx)
  have HF2:=ah (wM.out.ay hfx)
  have HZ2:=ah (HW0.out.ay hfx)
  have DI:=ah hM
  clear hM hfx
  generalize w2.drew=Y2 at*
  refine nN 0 29 rfl rfl (v:=?_) (.inl ⟨by rfl,?_⟩) ?_
  rotate_left 1
  ·(intro w hSw;(try dsimp only at hSw);go_simp;(try with_reducible rfl))
  refine nN 1 30 rfl rfl (v:=?_) (.inl ⟨by rfl,?_⟩) ?_
  rotate_left 1
  ·(intro w hSw;(try dsimp only at hSw);go_simp;(try with_reducible rfl))
  try simp only[Act.put,aJ,aN,aO]
  refine nN 2 31 rfl rfl (v:=?_) (.inl ⟨by rfl,?_⟩) ?_
  rotate_left 1
  ·(intro w hSw;(try dsimp only at hSw);go_simp;(try with_reducible rfl))
  refine nN 3 32 rfl rfl (v:=?_) (.inl ⟨by rfl,?_⟩) ?_
  rotate_left 1
  ·(intro w hSw;(try dsimp only at hSw);go_simp;(try with_reducible rfl))
  try simp only[Act.put,aJ,aN,aO]
  refine bD (i:=4) (by kernel_rfl) rfl (fun K hK=>?_)
  go_simp
  refine(HOW.out _ _ _ _ _ _ _ _ _ _).mono ?_
  rintro e Y3 ⟨nU,rfl,hc3,hf3⟩
  obtain⟨CW,CX,rfl⟩:∃a c,nU= .slice a 1 c:=Rd.sl hc3
  have hS:=cu.out _ _ hf3 hS
  refine hK.out _ _ hS ?_
  clear hK K
  have qM:=ah (DC.out.aP hf3)
  have DJ:=ah (DF.out.aP hf3)
  have HF3:=ah (HF2.out.ay hf3)
  have HZ3:=ah (HZ2.out.ay hf3)
  have nD:=ah (hf3.blk DI.out id)
  have mG:=ah hc3
  clear hf3 hc3
  try simp only[Act.put,aJ,aN,aO]
  refine bD (i:=5) (by kernel_rfl) rfl (fun K hK=>?_)
  go_simp
  refine(AZ _ _ _ c [(dc,af+1,la)] DJ.out mG.out dw.out.fits HN.out.tY.fits HC.out.ctx HN.out.tY (by have:=dw.out.len;omega) (by simp)).mono ?_
  rintro e Y4 ⟨v4',c',rfl,dh,hby,-⟩
  obtain⟨a6,d6,rfl⟩:=dh.shape
  have hf4:=dh.aH
  have hS:=cu.out _ _ hf4 hS
  refine hK.out _ _ hS ?_
  clear hK K
  have DK:=ah (qM.out.aP hf4)
  have jG:=ah (HF3.out.ay hf4)
  have DL:=ah (HZ3.out.ay hf4)
  have DN:=ah (hf4.blk nD.out id)
  have oD:=lt_of_block nD.out
  have hrm:=wK.out
  have DR:=ah (dh.pY.turn (Q':=fun b=>b≠mb∧b≠w.heap.size+1+1) fun b hb hQ=>⟨rfl,by omega,by omega⟩)
  have jM:=ah hby
  clear hf4 dh hby oD hrm
  try simp only[Act.put,aJ,aN,aO]
  refine bD (i:=6) (by kernel_rfl) rfl (fun K hK=>?_)
  go_simp
  refine hK.out _ _ hS ?_
  clear hK K
  try simp only[Act.put,aJ,aN,aO]
  refine nN 7 36 rfl rfl (v:=?_) (.inl ⟨by rfl,?_⟩) ?_
  rotate_left 1
  ·(intro w hSw;(try dsimp only at hSw);go_simp;(try with_reducible rfl))
  try simp only[Act.put,aJ,aN,aO]
  refine fD (by kernel_rfl) (by kernel_rfl) rfl (fun K hK=>?_)
  have hM:=DN.out
  have DT:=aF hM 9 rfl
  have DU:=aY hM 9
  have wO:(Y4.setCell ⟨mb,9,none⟩ (.slice a6 c'.length d6)).heap[mb]?=some (.cells #[.int .i64 dc, .int .i64 af, .int .i64 la, .int .i64 v0, .int .i64 v1, .int .i64 v2, .int .i64 v3, .slice a3 es.length d3, .slice a4 ks.len d4, .slice a6 c'.length d6] 59 (0,0)):=dY hM 9 _
  have iw:=ah wO
  have lW:=ah (jG.out.set1 (p:=⟨mb,9,none⟩) (u:= .slice a6 c'.length d6) (.inr (by have:=wK.out;show w.heap.size≤mb;omega)))
  have DV:=ah (DL.out.set1 (p:=⟨mb,9,none⟩) (u:= .slice a6 c'.length d6) (.inr Dy.out))
  have wP:=ah (DK.out.turn (Q':=fun b=>b≠mb∧b≠w.heap.size+1+1) (w':=Y4.setCell ⟨mb,9,none⟩ (.slice a6 c'.length d6)) fun b hb hQ=>⟨iJ hQ.1,hQ⟩)
  have wQ:=ah (DR.out.turn (Q':=fun b=>b≠mb∧b≠w.heap.size+1+1) (w':=Y4.setCell ⟨mb,9,none⟩ (.slice a6 c'.length d6)) fun b hb hQ=>⟨iJ hQ.1,hQ⟩)
  clear hS hM wO
  go_simp
  refine hK.out _ _ ?_
  clear hK K DT DU
  generalize Y4.setCell ⟨mb,9,none⟩ (.slice a6 c'.length d6)=X2 at*
  have y0:=aF iw.out 0 rfl
  have y1:=aF iw.out 1 rfl
  have y2:=aF iw.out 2 rfl
  have y3:=aF iw.out 3 rfl
  have y4:=aF iw.out 4 rfl
  have y5:=aF iw.out 5 rfl
  have y6:=aF iw.out 6 rfl
  have y7:=aF iw.out 7 rfl
  have y8:=aF iw.out 8 rfl
  have y9:=aF iw.out 9 rfl
  have pK:=ah (HB.out c' jM.out)
  go_wp2_with(go_at_call 83;refine(vU (fun b=>b≠mb∧b≠w.heap.size+1+1) es ks c' _ dc af la v0 v1 v2 v3 _ _ _ ⟨wP.out,wQ.out.rd⟩ pK.out.2).mono ?_;rintro e w3 ⟨rfl,hw3⟩;rw[bM pK.out.1];clear y0 y1 y2 y3 y4 y5 y6 y7 y8 y9;have iy:=hw3.blk iw.out id;have dB:=(qg.out w3 (DV.out.ay hw3)).2.2.1;have y0:=aF iy 0 rfl;have z0:=aF dB 0 rfl;have g0:=aY dB 0;have y1:=aF iy 1 rfl;have z1:=aF dB 1 rfl;have g1:=aY dB 1;have y2:=aF iy 2 rfl;have z2:=aF dB 2 rfl;have g2:=aY dB 2;have y3:=aF iy 3 rfl;have z3:=aF dB 3 rfl;have g3:=aY dB 3;have y4:=aF iy 4 rfl;have z4:=aF dB 4 rfl;have g4:=aY dB 4;have y5:=aF iy 5 rfl;have z5:=aF dB 5 rfl;have g5:=aY dB 5;have y6:=aF iy 6 rfl;have z6:=aF dB 6 rfl;have g6:=aY dB 6;have y7:=aF iy 7 rfl;have z7:=aF dB 7 rfl;have g7:=aY dB 7;have y8:=aF iy 8 rfl;have z8:=aF dB 8 rfl;have g8:=aY dB 8;have y9:=aF iy 9 rfl;have z9:=aF dB 9 rfl;have g9:=aY dB 9;have fZ:=ah (t_ dB (lW.out.ay hw3) (by show w.heap.size≤_;omega) (.int .i64 dc) (.int .i64 af) (.int .i64 la) (.int .i64 v0) (.int .i64 v1) (.int .i64 v2) (.int .i64 v3) (.slice a3 es.length d3) (.slice a4 ks.len d4) (.slice a6 c'.length d6));have DW:=ah ((wP.out.aP hw3).turn (Q':=fun _=>True) fun b hb hQ=>⟨fZ.out.2.2 b hQ.2,trivial⟩);have DX:=ah ((wQ.out.keep (S:=au) hw3 (fun _ _ h=>h.elim)).turn (Q':=fun _=>True) fun b hb hQ=>⟨fZ.out.2.2 b hQ.2,trivial⟩);clear hw3 iy dB)
  clear y0 z0 g0 y1 z1 g1 y2 z2 g2 y3 z3 g3 y4 z4 g4 y5 z5 g5 y6 z6 g6 y7 z7 g7 y8 z8 g8 y9 z9 g9
  generalize ((((((((((w3.setCell ⟨w.heap.size+1+1,0,none⟩ (.int .i64 dc)).setCell ⟨w.heap.size+1+1,1,none⟩ (.int .i64 af)).setCell ⟨w.heap.size+1+1,2,none⟩ (.int .i64 la)).setCell ⟨w.heap.size+1+1,3,none⟩ (.int .i64 v0)).setCell ⟨w.heap.size+1+1,4,none⟩ (.int .i64 v1)).setCell ⟨w.heap.size+1+1,5,none⟩ (.int .i64 v2)).setCell ⟨w.heap.size+1+1,6,none⟩ (.int .i64 v3)).setCell ⟨w.heap.size+1+1,7,none⟩ (.slice a3 es.length d3)).setCell ⟨w.heap.size+1+1,8,none⟩ (.slice a4 ks.len d4)).setCell ⟨w.heap.size+1+1,9,none⟩ (.slice a6 c'.length d6))=X3 at*
  have y0:=aF fZ.out.1 0 rfl
  have y1:=aF fZ.out.1 1 rfl
  have y2:=aF fZ.out.1 2 rfl
  have y3:=aF fZ.out.1 3 rfl
  have y4:=aF fZ.out.1 4 rfl
  have y5:=aF fZ.out.1 5 rfl
  have y6:=aF fZ.out.1 6 rfl
  have y7:=aF fZ.out.1 7 rfl
  have y8:=aF fZ.out.1 8 rfl
  have y9:=aF fZ.out.1 9 rfl
  exact bodyPost_ret (v:= .tuple #[.agg #[.int .i64 dc, .int .i64 af, .int .i64 la, .int .i64 v0, .int .i64 v1, .int .i64 v2, .int .i64 v3, .slice a3 es.length d3, .slice a4 ks.len d4, .slice a6 c'.length d6], .int .i64 0]) (by simp[results,Tryz.results81,go_sem,y0,y1,y2,y3,y4,y5,y6,y7,y8,y9]) rfl ⟨_,_,_,c',rfl,⟨DW.out,DX.out.rd⟩,jM.out,fZ.out.2.1⟩
 ·go_simp
  have hf:aj au Y (Y.alloc (.cells #[.int .i64 0, .int .i64 0, .int .i64 0, .int .i64 0, .int .i64 0, .int .i64 0, .int .i64 0, .slice none 0 0, .slice none 0 0, .slice none 0 0] 59)):=aj.alloc _ _ _
  have hM:=heap_alloc_new Y (.cells #[.int .i64 0, .int .i64 0, .int .i64 0, .int .i64 0, .int .i64 0, .int .i64 0, .int .i64 0, .slice none 0 0, .slice none 0 0, .slice none 0 0] 59)
  have hS:(Y.alloc (.cells #[.int .i64 0, .int .i64 0, .int .i64 0, .int .i64 0, .int .i64 0, .int .i64 0, .int .i64 0, .slice none 0 0, .slice none 0 0, .slice none 0 0] 59)).cell? ⟨w.heap.size,0,none⟩=some (.int .i64 v0)∧(Y.alloc (.cells #[.int .i64 0, .int .i64 0, .int .i64 0, .int .i64 0, .int .i64 0, .int .i64 0, .int .i64 0, .slice none 0 0, .slice none 0 0, .slice none 0 0] 59)).cell? ⟨w.heap.size,1,none⟩=some (.int .i64 v1)∧(Y.alloc (.cells #[.int .i64 0, .int .i64 0, .int .i64 0, .int .i64 0, .int .i64 0, .int .i64 0, .int .i64 0, .slice none 0 0, .slice none 0 0, .slice none 0 0] 59)).cell? ⟨w.heap.size,2,none⟩=some (.int .i64 v2)∧(Y.alloc (.cells #[.int .i64 0, .int .i64 0, .int .i64 0, .int .i64 0, .int .i64 0, .int .i64 0, .int .i64 0, .slice none 0 0, .slice none 0 0, .slice none 0 0] 59)).cell? ⟨w.heap.size,3,none⟩=some (.int .i64 v3)∧(Y.alloc (.cells #[.int .i64 0, .int .i64 0, .int .i64 0, .int .i64 0, .int .i64 0, .int .i64 0, .int .i64 0, .slice none 0 0, .slice none 0 0, .slice none 0 0] 59)).cell? ⟨w.heap.size+1,0,none⟩=some (.slice a0 es.length c0)∧(Y.alloc (.cells #[.int .i64 0, .int .i64 0, .int .i64 0, .int .i64 0, .int .i64 0, .int .i64 0, .int .i64 0, .slice none 0 0, .slice none 0 0, .slice none 0 0] 59)).cell? ⟨w.heap.size+1,1,none⟩=some (.slice a1 ks.len c1)∧(Y.alloc (.cells #[.int .i64 0, .int .i64 0, .int .i64 0, .int .i64 0, .int .i64 0, .int .i64 0, .int .i64 0, .slice none 0 0, .slice none 0 0, .slice none 0 0] 59)).cell? ⟨w.heap.size+1,2,none⟩=some (.slice a2 c.length c2):=⟨hf.cell' hS.1 id,hf.cell' hS.2.1 id,hf.cell' hS.2.2.1 id,hf.cell' hS.2.2.2.1 id,hf.cell' hS.2.2.2.2.1 id,hf.cell' hS.2.2.2.2.2.1 id,hf.cell' hS.2.2.2.2.2.2 id⟩
  have hW0:=hW0.ay hf
  have eu:=eu.ay hf
  have hsa:(Y.alloc (.cells #[.int .i64 0, .int .i64 0, .int .i64 0, .int .i64 0, .int .i64 0, .int .i64 0, .int .i64 0, .slice none 0 0, .slice none 0 0, .slice none 0 0] 59)).heap.size=Y.heap.size+1:=by simp
  obtain⟨mb,hmb⟩:∃mb,Y.heap.size=mb:=⟨_,rfl⟩
  have hrm:w.heap.size+1+1<mb:=by omega
  (try have hTA:bJ (fun b=>b≠mb∧b≠w.heap.size+1+1) (Y.alloc (.cells #[.int .i64 0, .int .i64 0, .int .i64 0, .int .i64 0, .int .i64 0, .int .i64 0, .int .i64 0, .slice none 0 0, .slice none 0 0, .slice none 0 0] 59)) (.slice a3 es.length d3) (.slice a4 ks.len d4) es ks:=hta.turn fun b hb hQ=>⟨Below.heap_alloc _ _ _ hb,by omega,by omega⟩)
  (try have rG:jA (fun b=>b≠mb∧b≠w.heap.size+1+1) (Y.alloc (.cells #[.int .i64 0, .int .i64 0, .int .i64 0, .int .i64 0, .int .i64 0, .int .i64 0, .int .i64 0, .slice none 0 0, .slice none 0 0, .slice none 0 0] 59)) (.slice a5 c.length d5) c.length (bT c):=hoc.pY.turn fun b hb hQ=>⟨Below.heap_alloc _ _ _ hb,by omega,by omega⟩)
  have hml:mb<(Y.alloc (.cells #[.int .i64 0, .int .i64 0, .int .i64 0, .int .i64 0, .int .i64 0, .int .i64 0, .int .i64 0, .slice none 0 0, .slice none 0 0, .slice none 0 0] 59)).heap.size:=by omega
  have hr:w.heap.size+1+1<(Y.alloc (.cells #[.int .i64 0, .int .i64 0, .int .i64 0, .int .i64 0, .int .i64 0, .int .i64 0, .int .i64 0, .slice none 0 0, .slice none 0 0, .slice none 0 0] 59)).heap.size:=by omega
  rw[hmb]at hM⊢
  clear hsa hmb
  refine hK.out _ _ hS ?_
  clear hK K hf
  generalize Y.alloc (.cells #[.int .i64 0, .int .i64 0, .int .i64 0, .int .i64 0, .int .i64 0, .int .i64 0, .int .i64 0, .slice none 0 0, .slice none 0 0, .slice none 0 0] 59)=Y at*
  try simp only[Act.put,aJ,aN,aO]
  refine bD (i:=5) (by kernel_rfl) rfl (fun K hK=>?_)
  go_simp
  refine(yY.out _ eu).mono ?_
  rintro e Y1 ⟨mP,mQ,CO,rfl,hta,hoc⟩
  obtain⟨a3,d3,rfl⟩:=hta.ents.rd.sl
  obtain⟨os3,iQ,-⟩:=hta.kids
  obtain⟨a4,d4,rfl⟩:=iQ.rd.sl
  clear iQ
  obtain⟨a5,d5,rfl⟩:=hoc.shape
  have hf:=hoc.aH
  have Dx:Y.heap.size≤Y1.heap.size:=hf.size
  have hS:Y1.cell? ⟨w.heap.size,0,none⟩=some (.int .i64 v0)∧Y1.cell? ⟨w.heap.size,1,none⟩=some (.int .i64 v1)∧Y1.cell? ⟨w.heap.size,2,none⟩=some (.int .i64 v2)∧Y1.cell? ⟨w.heap.size,3,none⟩=some (.int .i64 v3)∧Y1.cell? ⟨w.heap.size+1,0,none⟩=some (.slice a0 es.length c0)∧Y1.cell? ⟨w.heap.size+1,1,none⟩=some (.slice a1 ks.len c1)∧Y1.cell? ⟨w.heap.size+1,2,none⟩=some (.slice a2 c.length c2):=⟨hf.cell' hS.1 id,hf.cell' hS.2.1 id,hf.cell' hS.2.2.1 id,hf.cell' hS.2.2.2.1 id,hf.cell' hS.2.2.2.2.1 id,hf.cell' hS.2.2.2.2.2.1 id,hf.cell' hS.2.2.2.2.2.2 id⟩
  have hW0:=hW0.ay hf
  have eu:=eu.ay hf
  have hr0:=hr
  have hr:w.heap.size+1+1<Y1.heap.size:=by omega
  (try have hM:=hf.blk hM id)
  (try have hTA:bJ (fun b=>b≠mb∧b≠w.heap.size+1+1) Y1 (.slice a3 es.length d3) (.slice a4 ks.len d4) es ks:=hta.turn fun b hb hQ=>⟨rfl,by omega,by omega⟩)
  (try have rG:jA (fun b=>b≠mb∧b≠w.heap.size+1+1) Y1 (.slice a5 c.length d5) c.length (bT c):=hoc.pY.turn fun b hb hQ=>⟨rfl,by omega,by omega⟩)
  refine hK.out _ _ hS ?_
  clear hK K hf
  generalize Y1=Y at*
  try simp only[Act.put,aJ,aN,aO]
  refine aT 6 19 rfl rfl (v:=?_) (.inl ⟨by rfl,?_⟩) ?_
  rotate_left 1
  ·(intro w hSw;(try dsimp only at hSw);go_simp;(try with_reducible rfl))
  try simp only[Act.put,aJ,aN,aO]
  refine fD (by kernel_rfl) (by kernel_rfl) rfl (fun K hK=>?_)
  have HR:=ah (t_ hM eu (by omega) (.int .i64 dc) (.int .i64 af) (.int .i64 la) (.int .i64 v0) (.int .i64 v1) (.int .i64 v2) (.int .i64 v3) (.slice a3 es.length d3) (.slice a4 ks.len d4) (.slice a5 c.length d5))
  have z0:=aF hM 0 rfl
  have g0:=aY hM 0
  have z1:=aF hM 1 rfl
  have g1:=aY hM 1
  have z2:=aF hM 2 rfl
  have g2:=aY hM 2
  have z3:=aF hM 3 rfl
  have g3:=aY hM 3
  have z4:=aF hM 4 rfl
  have g4:=aY hM 4
  have z5:=aF hM 5 rfl
  have g5:=aY hM 5
  have z6:=aF hM 6 rfl
  have g6:=aY hM 6
  have z7:=aF hM 7 rfl
  have g7:=aY hM 7
  have z8:=aF hM 8 rfl
  have g8:=aY hM 8
  have z9:=aF hM 9 rfl
  have g9:=aY hM 9
  have iW:=ah (hTA.turn (Q':=fun b=>b≠mb∧b≠w.heap.size+1+1) fun b hb hQ=>⟨HR.out.2.2 b hQ.1,hQ⟩)
  have jc:=ah (rG.turn (Q':=fun b=>b≠mb∧b≠w.heap.size+1+1) fun b hb hQ=>⟨HR.out.2.2 b hQ.1,hQ⟩)
  have hz0:Z0.heap.size≤mb:=by rw[←Jh.out];simp;omega
  have HW0:=ah (t_ hM hW0 hz0 (.int .i64 dc) (.int .i64 af) (.int .i64 la) (.int .i64 v0) (.int .i64 v1) (.int .i64 v2) (.int .i64 v3) (.slice a3 es.length d3) (.slice a4 ks.len d4) (.slice a5 c.length d5)).2.1
  have Dy:=ah hz0
  have wK:=ah hrm
  clear hS hM hTA rG hW0 eu hr hz0 hrm
  (try clear hr0)
  (try clear Dx)
  clear hta hoc
  go_simp
  refine hK.out _ _ ?_
  clear hK K z0 g0 z1 g1 z2 g2 z3 g3 z4 g4 z5 g5 z6 g6 z7 g7 z8 g8 z9 g9
  generalize ((((((((((Y.setCell ⟨mb,0,none⟩ (.int .i64 dc)).setCell ⟨mb,1,none⟩ (.int .i64 af)).setCell ⟨mb,2,none⟩ (.int .i64 la)).setCell ⟨mb,3,none⟩ (.int .i64 v0)).setCell ⟨mb,4,none⟩ (.int .i64 v1)).setCell ⟨mb,5,none⟩ (.int .i64 v2)).setCell ⟨mb,6,none⟩ (.int .i64 v3)).setCell ⟨mb,7,none⟩ (.slice a3 es.length d3)).setCell ⟨mb,8,none⟩ (.slice a4 ks.len d4)).setCell ⟨mb,9,none⟩ (.slice a5 c.length d5))=X at*
  obtain⟨gW,wL,-⟩:=HR.out
  have Dz:=ah gW
  have wM:=ah wL
  have y0:=aF gW 0 rfl
  have y1:=aF gW 1 rfl
  have y2:=aF gW 2 rfl
  have y3:=aF gW 3 rfl
  have y4:=aF gW 4 rfl
  have y5:=aF gW 5 rfl
  have y6:=aF gW 6 rfl
  have y7:=aF gW 7 rfl
  have y8:=aF gW 8 rfl
  have y9:=aF gW 9 rfl
  clear gW wL HR
  go_wp2_with(first
   |(go_at_call 143;refine(eU.out _ _ _ _ _ _ _ _ _ _).mono ?_;rintro e w1 ⟨rfl,hw1⟩;obtain⟨-,-,-,-,b0,b1,b2⟩:=qX.out w1 (HW0.out.ay hw1);have HW1:=ah hw1;clear hw1)
   |(go_at_call 93;refine(iR.out _ (wM.out.ay HW1.out)).mono ?_;rintro e w2 ⟨rfl,hw2⟩;have HW2:=ah (HW1.out.ay hw2);clear hw2))
  clear b0 b1 b2 y0 y1 y2 y3 y4 y5 y6 y7 y8 y9
  have hfx:=HW2.out.ay (aj.drew au w2)
  have hM:=hfx.blk Dz.out id
  refine gX (S:=fun w'=>w'.cell? ⟨mb,0,none⟩=some (.int .i64 dc)∧w'.cell? ⟨mb,1,none⟩=some (.int .i64 af)∧w'.cell? ⟨mb,2,none⟩=some (.int .i64 la)∧w'.cell? ⟨mb,3,none⟩=some (.int .i64 v0)∧w'.cell? ⟨mb,4,none⟩=some (.int .i64 v1)∧w'.cell? ⟨mb,5,none⟩=some (.int .i64 v2)∧w'.cell? ⟨mb,6,none⟩=some (.int .i64 v3)∧w'.cell? ⟨mb,7,none⟩=some (.slice a3 es.length d3)∧w'.cell? ⟨mb,8,none⟩=some (.slice a4 ks.len d4)∧w'.cell? ⟨mb,9,none⟩=some (.slice a5 c.length d5)) 8 (by kernel_rfl) ⟨aF hM 0 rfl,aF hM 1 rfl,aF hM 2 rfl,aF hM 3 rfl,aF hM 4 rfl,aF hM 5 rfl,aF hM 6 rfl,aF hM 7 rfl,aF hM 8 rfl,aF hM 9 rfl⟩ ?_
  intro hS
  have cu:=ah (fun Y Y' (f:aj au Y Y') (hS:Y.cell? ⟨mb,0,none⟩=some (.int .i64 dc)∧Y.cell? ⟨mb,1,none⟩=some (.int .i64 af)∧Y.cell? ⟨mb,2,none⟩=some (.int .i64 la)∧Y.cell? ⟨mb,3,none⟩=some (.int .i64 v0)∧Y.cell? ⟨mb,4,none⟩=some (.int .i64 v1)∧Y.cell? ⟨mb,5,none⟩=some (.int .i64 v2)∧Y.cell? ⟨mb,6,none⟩=some (.int .i64 v3)∧Y.cell? ⟨mb,7,none⟩=some (.slice a3 es.length d3)∧Y.cell? ⟨mb,8,none⟩=some (.slice a4 ks.len d4)∧Y.cell? ⟨mb,9,none⟩=some (.slice a5 c.length d5))=>(⟨f.cell' hS.1 id,f.cell' hS.2.1 id,f.cell' hS.2.2.1 id,f.cell' hS.2.2.2.1 id,f.cell' hS.2.2.2.2.1 id,f.cell' hS.2.2.2.2.2.1 id,f.cell' hS.2.2.2.2.2.2.1 id,f.cell' hS.2.2.2.2.2.2.2.1 id,f.cell' hS.2.2.2.2.2.2.2.2.1 id,f.cell' hS.2.2.2.2.2.2.2.2.2 id⟩:Y'.cell? ⟨mb,0,none⟩=some (.int .i64 dc)∧Y'.cell? ⟨mb,1,none⟩=some (.int .i64 af)∧Y'.cell? ⟨mb,2,none⟩=some (.int .i64 la)∧Y'.cell? ⟨mb,3,none⟩=some (.int .i64 v0)∧Y'.cell? ⟨mb,4,none⟩=some (.int .i64 v1)∧Y'.cell? ⟨mb,5,none⟩=some (.int .i64 v2)∧Y'.cell? ⟨mb,6,none⟩=some (.int .i64 v3)∧Y'.cell? ⟨mb,7,none⟩=some (.slice a3 es.length d3)∧Y'.cell? ⟨mb,8,none⟩=some (.slice a4 ks.len d4)∧Y'.cell? ⟨mb,9,none⟩=some (.slice a5 c.length d5)))
  have DC:=ah (iW.out.aP hfx)
  have DF:=ah (jc.out.rd.aP hfx)
  have HF2:=ah (wM.out.ay hfx)
  have HZ2:=ah (HW0.out.ay hfx)
  have DI:=ah hM
  clear hM hfx
  generalize w2.drew=Y2 at*
  refine nN 0 29 rfl rfl (v:=?_) (.inl ⟨by rfl,?_⟩) ?_
  rotate_left 1
  ·(intro w hSw;(try dsimp only at hSw);go_simp;(try with_reducible rfl))
  refine nN 1 30 rfl rfl (v:=?_) (.inl ⟨by rfl,?_⟩) ?_
  rotate_left 1
  ·(intro w hSw;(try dsimp only at hSw);go_simp;(try with_reducible rfl))
  try simp only[Act.put,aJ,aN,aO]
  refine nN 2 31 rfl rfl (v:=?_) (.inl ⟨by rfl,?_⟩) ?_
  rotate_left 1
  ·(intro w hSw;(try dsimp only at hSw);go_simp;(try with_reducible rfl))
  refine nN 3 32 rfl rfl (v:=?_) (.inl ⟨by rfl,?_⟩) ?_
  rotate_left 1
  ·(intro w hSw;(try dsimp only at hSw);go_simp;(try with_reducible rfl))
  try simp only[Act.put,aJ,aN,aO]
  refine bD (i:=4) (by kernel_rfl) rfl (fun K hK=>?_)
  go_simp
  refine(HOW.out _ _ _ _ _ _ _ _ _ _).mono ?_
  rintro e Y3 ⟨nU,rfl,hc3,hf3⟩
  obtain⟨CW,CX,rfl⟩:∃a c,nU= .slice a 1 c:=Rd.sl hc3
  have hS:=cu.out _ _ hf3 hS
  refine hK.out _ _ hS ?_
  clear hK K
  have qM:=ah (DC.out.aP hf3)
  have DJ:=ah (DF.out.aP hf3)
  have HF3:=ah (HF2.out.ay hf3)
  have HZ3:=ah (HZ2.out.ay hf3)
  have nD:=ah (hf3.blk DI.out id)
  have mG:=ah hc3
  clear hf3 hc3
  try simp only[Act.put,aJ,aN,aO]
  refine bD (i:=5) (by kernel_rfl) rfl (fun K hK=>?_)
  go_simp
  refine(AZ _ _ _ c [(dc,af+1,la)] DJ.out mG.out dw.out.fits HN.out.tY.fits HC.out.ctx HN.out.tY (by have:=dw.out.len;omega) (by simp)).mono ?_
  rintro e Y4 ⟨v4',c',rfl,dh,hby,-⟩
  obtain⟨a6,d6,rfl⟩:=dh.shape
  have hf4:=dh.aH
  have hS:=cu.out _ _ hf4 hS
  refine hK.out _ _ hS ?_
  clear hK K
  have DK:=ah (qM.out.aP hf4)
  have jG:=ah (HF3.out.ay hf4)
  have DL:=ah (HZ3.out.ay hf4)
  have DN:=ah (hf4.blk nD.out id)
  have oD:=lt_of_block nD.out
  have hrm:=wK.out
  have DR:=ah (dh.pY.turn (Q':=fun b=>b≠mb∧b≠w.heap.size+1+1) fun b hb hQ=>⟨rfl,by omega,by omega⟩)
  have jM:=ah hby
  clear hf4 dh hby oD hrm
  try simp only[Act.put,aJ,aN,aO]
  refine bD (i:=6) (by kernel_rfl) rfl (fun K hK=>?_)
  go_simp
  refine hK.out _ _ hS ?_
  clear hK K
  try simp only[Act.put,aJ,aN,aO]
  refine nN 7 36 rfl rfl (v:=?_) (.inl ⟨by rfl,?_⟩) ?_
  rotate_left 1
  ·(intro w hSw;(try dsimp only at hSw);go_simp;(try with_reducible rfl))
  try simp only[Act.put,aJ,aN,aO]
  refine fD (by kernel_rfl) (by kernel_rfl) rfl (fun K hK=>?_)
  have hM:=DN.out
  have DT:=aF hM 9 rfl
  have DU:=aY hM 9
  have wO:(Y4.setCell ⟨mb,9,none⟩ (.slice a6 c'.length d6)).heap[mb]?=some (.cells #[.int .i64 dc, .int .i64 af, .int .i64 la, .int .i64 v0, .int .i64 v1, .int .i64 v2, .int .i64 v3, .slice a3 es.length d3, .slice a4 ks.len d4, .slice a6 c'.length d6] 59 (0,0)):=dY hM 9 _
  have iw:=ah wO
  have lW:=ah (jG.out.set1 (p:=⟨mb,9,none⟩) (u:= .slice a6 c'.length d6) (.inr (by have:=wK.out;show w.heap.size≤mb;omega)))
  have DV:=ah (DL.out.set1 (p:=⟨mb,9,none⟩) (u:= .slice a6 c'.length d6) (.inr Dy.out))
  have wP:=ah (DK.out.turn (Q':=fun b=>b≠mb∧b≠w.heap.size+1+1) (w':=Y4.setCell ⟨mb,9,none⟩ (.slice a6 c'.length d6)) fun b hb hQ=>⟨iJ hQ.1,hQ⟩)
  have wQ:=ah (DR.out.turn (Q':=fun b=>b≠mb∧b≠w.heap.size+1+1) (w':=Y4.setCell ⟨mb,9,none⟩ (.slice a6 c'.length d6)) fun b hb hQ=>⟨iJ hQ.1,hQ⟩)
  clear hS hM wO
  go_simp
  refine hK.out _ _ ?_
  clear hK K DT DU
  generalize Y4.setCell ⟨mb,9,none⟩ (.slice a6 c'.length d6)=X2 at*
  have y0:=aF iw.out 0 rfl
  have y1:=aF iw.out 1 rfl
  have y2:=aF iw.out 2 rfl
  have y3:=aF iw.out 3 rfl
  have y4:=aF iw.out 4 rfl
  have y5:=aF iw.out 5 rfl
  have y6:=aF iw.out 6 rfl
  have y7:=aF iw.out 7 rfl
  have y8:=aF iw.out 8 rfl
  have y9:=aF iw.out 9 rfl
  have pK:=ah (HB.out c' jM.out)
  go_wp2_with(go_at_call 83;refine(vU (fun b=>b≠mb∧b≠w.heap.size+1+1) es ks c' _ dc af la v0 v1 v2 v3 _ _ _ ⟨wP.out,wQ.out.rd⟩ pK.out.2).mono ?_;rintro e w3 ⟨rfl,hw3⟩;rw[bM pK.out.1];clear y0 y1 y2 y3 y4 y5 y6 y7 y8 y9;have iy:=hw3.blk iw.out id;have dB:=(qg.out w3 (DV.out.ay hw3)).2.2.1;have y0:=aF iy 0 rfl;have z0:=aF dB 0 rfl;have g0:=aY dB 0;have y1:=aF iy 1 rfl;have z1:=aF dB 1 rfl;have g1:=aY dB 1;have y2:=aF iy 2 rfl;have z2:=aF dB 2 rfl;have g2:=aY dB 2;have y3:=aF iy 3 rfl;have z3:=aF dB 3 rfl;have g3:=aY dB 3;have y4:=aF iy 4 rfl;have z4:=aF dB 4 rfl;have g4:=aY dB 4;have y5:=aF iy 5 rfl;have z5:=aF dB 5 rfl;have g5:=aY dB 5;have y6:=aF iy 6 rfl;have z6:=aF dB 6 rfl;have g6:=aY dB 6;have y7:=aF iy 7 rfl;have z7:=aF dB 7 rfl;have g7:=aY dB 7;have y8:=aF iy 8 rfl;have z8:=aF dB 8 rfl;have g8:=aY dB 8;have y9:=aF iy 9 rfl;have z9:=aF dB 9 rfl;have g9:=aY dB 9;have fZ:=ah (t_ dB (lW.out.ay hw3) (by show w.heap.size≤_;omega) (.int .i64 dc) (.int .i64 af) (.int .i64 la) (.int .i64 v0) (.int .i64 v1) (.int .i64 v2) (.int .i64 v3) (.slice a3 es.length d3) (.slice a4 ks.len d4) (.slice a6 c'.length d6));have DW:=ah ((wP.out.aP hw3).turn (Q':=fun _=>True) fun b hb hQ=>⟨fZ.out.2.2 b hQ.2,trivial⟩);have DX:=ah ((wQ.out.keep (S:=au) hw3 (fun _ _ h=>h.elim)).turn (Q':=fun _=>True) fun b hb hQ=>⟨fZ.out.2.2 b hQ.2,trivial⟩);clear hw3 iy dB)
  clear y0 z0 g0 y1 z1 g1 y2 z2 g2 y3 z3 g3 y4 z4 g4 y5 z5 g5 y6 z6 g6 y7 z7 g7 y8 z8 g8 y9 z9 g9
  generalize ((((((((((w3.setCell ⟨w.heap.size+1+1,0,none⟩ (.int .i64 dc)).setCell ⟨w.heap.size+1+1,1,none⟩ (.int .i64 af)).setCell ⟨w.heap.size+1+1,2,none⟩ (.int .i64 la)).setCell ⟨w.heap.size+1+1,3,none⟩ (.int .i64 v0)).setCell ⟨w.heap.size+1+1,4,none⟩ (.int .i64 v1)).setCell ⟨w.heap.size+1+1,5,none⟩ (.int .i64 v2)).setCell ⟨w.heap.size+1+1,6,none⟩ (.int .i64 v3)).setCell ⟨w.heap.size+1+1,7,none⟩ (.slice a3 es.length d3)).setCell ⟨w.heap.size+1+1,8,none⟩ (.slice a4 ks.len d4)).setCell ⟨w.heap.size+1+1,9,none⟩ (.slice a6 c'.length d6))=X3 at*
  have y0:=aF fZ.out.1 0 rfl
  have y1:=aF fZ.out.1 1 rfl
  have y2:=aF fZ.out.1 2 rfl
  have y3:=aF fZ.out.1 3 rfl
  have y4:=aF fZ.out.1 4 rfl
  have y5:=aF fZ.out.1 5 rfl
  have y6:=aF fZ.out.1 6 rfl
  have y7:=aF fZ.out.1 7 rfl
  have y8:=aF fZ.out.1 8 rfl
  have y9:=aF fZ.out.1 9 rfl
  exact bodyPost_ret (v:= .tuple #[.agg #[.int .i64 dc, .int .i64 af, .int .i64 la, .int .i64 v0, .int .i64 v1, .int .i64 v2, .int .i64 v3, .slice a3 es.length d3, .slice a4 ks.len d4, .slice a6 c'.length d6], .int .i64 0]) (by simp[results,Tryz.results81,go_sem,y0,y1,y2,y3,y4,y5,y6,y7,y8,y9]) rfl ⟨_,_,_,c',rfl,⟨DW.out,DX.out.rd⟩,jM.out,fZ.out.2.1⟩
end Go.Proofs.YtabkpccdnkjoiaaGreat
