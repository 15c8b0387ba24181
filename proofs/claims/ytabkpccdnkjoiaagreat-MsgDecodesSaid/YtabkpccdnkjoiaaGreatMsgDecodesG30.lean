/- Words for the law MsgDecodes: R16f, R16g. -/
import Derived.Test.YtabkpccdnkjoiaaGreatMsgDecodesG0
import Derived.Test.YtabkpccdnkjoiaaGreatMsgDecodesG16
import Derived.Test.YtabkpccdnkjoiaaGreatMsgDecodesG17
import Derived.Test.YtabkpccdnkjoiaaGreatMsgDecodesG20
import Derived.Test.YtabkpccdnkjoiaaGreatMsgDecodesG29
set_option linter.unusedSimpArgs false
set_option linter.unusedVariables false
set_option maxHeartbeats 32000000
set_option maxRecDepth 1000000
namespace Go.Proofs.YtabkpccdnkjoiaaGreat
open Go.RowKit
section
variable {w0 w wr W W1:World} {B:Nat} {T:TypeId} {cs:Array Value} {v v':Value} {t t':Option (List UInt8)} {b:Bool}
theorem dH.jC (h:dH w0 w wr W B T cs v t) (hb:t.isNone=b):W.cell? ⟨w.heap.size,0,none⟩=some v∧W.cell? ⟨w.heap.size,1,none⟩=some (.bool b)∧W.frozen? ⟨w.heap.size,0,none⟩=false∧W.frozen? ⟨w.heap.size,1,none⟩=false∧w.heap.size<W.heap.size∧B<W.heap.size∧¬B=w.heap.size∧¬w.heap.size=B:=by
 subst hb;exact h.facts
theorem dH.qM (h:dH w0 w wr W B T cs v t) (hr:bK w0 W v' t') (hb:t'.isNone=b):dH w0 w wr ((W.setCell ⟨w.heap.size,0,none⟩ v').setCell ⟨w.heap.size,1,none⟩ (.bool b)) B T cs v' t':=by
 subst hb;exact h.put hr
theorem dH.BL (h:dH w0 w wr W B T cs v t) (f:aj ay W W1) (hr:bK w0 W1 v' t') (hb:t'.isNone=b) (j:Nat) (x:Value):
 dH w0 w wr (((W1.setCell ⟨B,j,none⟩ x).setCell ⟨w.heap.size,0,none⟩ v').setCell ⟨w.heap.size,1,none⟩ (.bool b)) B T (cs.setIfInBounds j x) v' t':=by
 subst hb;exact h.next f hr j x
theorem dH.adf (h:dH w0 w wr W B T cs v t) (f:aj ay W W1) (hr:bK w0 W1 v' t') (hb:t'.isNone=b) (x y:Value):
 dH w0 w wr ((((W1.setCell ⟨B,1,none⟩ x).setCell ⟨B,2,none⟩ y).setCell ⟨w.heap.size,0,none⟩ v').setCell ⟨w.heap.size,1,none⟩ (.bool b)) B T ((cs.setIfInBounds 1 x).setIfInBounds 2 y) v' t':=by
 subst hb
 have g:∀(W:World) (j:Nat) (u:Value),bK w0 W v' t'→bK w0 (W.setCell ⟨B,j,none⟩ u) v' t':=fun W j u hr=>hr.keep (dG W B j u) fun k hk hs=>(by have hs:k=B:=hs;have:=h.h0;have:=h.new;have:=h.old;omega)
 exact(((h.call f).je 1 x).je 2 y).put (g _ 2 y (g _ 1 x hr))
theorem dH.cell (h:dH w0 w wr W B T cs v t) (j:Nat) {u:Value} (hu:cs[j]?=some u):W.cell? ⟨B,j,none⟩=some u:=au h.blk j hu
end
structure oW (w0 w W:World) (s:Option (List UInt8)):Prop where
 box:∃a l,bK w0 W (.slice a (leftOf s).length l) s∧W.heap[w.heap.size]?=some (.cells #[.slice a (leftOf s).length l, .bool s.isNone] 115 (0,0))
 r1:W.heap[w.heap.size+1]?=some (.cells #[.slice none 0 0, .slice none 0 0] 30 (0,0))
 r2:W.heap[w.heap.size+1+1]?=some (.cells #[.slice none 0 0, .bool false] 115 (0,0))
 h0:w0.heap.size≤w.heap.size
def XT (w:World) (k:Nat):Prop:=k=w.heap.size∨k=w.heap.size+1∨k=w.heap.size+1+1
abbrev GT (w W:World) (es:List aQ) (l:List gB) (ev kv:Value):Prop:=jB ay (XT w) w W (w.heap.size+1+1+1) es l ev kv
theorem oW.keep {w0 w W W':World} {s:Option (List UInt8)} (h:oW w0 w W s) (f:aj ay W W'):oW w0 w W' s:=by
 obtain⟨a,l,h1,h2⟩:=h.box
 exact⟨⟨a,l,h1.aJ f,f.blk h2 id⟩,f.blk h.r1 id,f.blk h.r2 id,h.h0⟩
theorem oW.step {w0 w wr W w6:World} {B:Nat} {T:TypeId} {cs:Array Value} {a:Option Addr} {cl:Nat} {s t:Option (List UInt8)} {ev:Value} (h:oW w0 w wr s) (hs:dH w0 w wr W B T cs (.slice a (leftOf t).length cl) t) (fm:aj (eY ev) W w6)
 (hn:∀b,ev.ownBlock=some b→w.heap.size≤b∧¬XT w b) (j:Nat) (u:Value):oW w0 w (w6.setCell ⟨w.heap.size+1+1+1,j,none⟩ u) t:=by
 have hset:aj (Only (w.heap.size+1+1+1)) w6 (w6.setCell ⟨w.heap.size+1+1+1,j,none⟩ u):=dG _ _ _ _
 have nx:∀k,XT w k→¬eY ev k:=fun k hk e=>(hn k e).2 hk
 have ns:∀k,XT w k→¬Only (w.heap.size+1+1+1) k:=fun k hk e=>by have e:k=w.heap.size+1+1+1:=e;rcases hk with hk|hk|hk<;>omega
 have kp:∀k o,XT w k→W.heap[k]?=some o→(w6.setCell ⟨w.heap.size+1+1+1,j,none⟩ u).heap[k]?=some o:=fun k o hk ho=>hset.blk (fm.blk ho (nx k hk)) (ns k hk)
 refine⟨⟨a,cl,(hs.rin.keep fm fun k hk e=>?_).keep hset fun k hk e=>?_,kp _ _ (.inl rfl) hs.box⟩,kp _ _ (.inr (.inl rfl)) (hs.aH.blk h.r1 fun e=>?_),kp _ _ (.inr (.inr rfl)) (hs.aH.blk h.r2 fun e=>?_),h.h0⟩
 ·have:=(hn k e).1;have:=h.h0;omega
 ·have e:k=w.heap.size+1+1+1:=e;have:=h.h0;omega
 ·have e:w.heap.size+1=w.heap.size:=e;omega
 ·have e:w.heap.size+1+1=w.heap.size:=e;omega
theorem oW.put {w0 w W W1:World} {s s':Option (List UInt8)} {a:Option Addr} {l L:Nat} {b:Bool} (h:oW w0 w W s) (f:aj ay W W1) (hr:bK w0 W1 (.slice a L l) s') (hL:(leftOf s').length=L) (hb:s'.isNone=b):
 oW w0 w ((W1.setCell ⟨w.heap.size,0,none⟩ (.slice a L l)).setCell ⟨w.heap.size,1,none⟩ (.bool b)) s':=by
 subst hL hb
 have f2:=fV W1 w.heap.size (.slice a (leftOf s').length l) (.bool s'.isNone)
 obtain⟨a2,l2,_,hb2⟩:=h.box
 refine⟨⟨a,l,hr.keep f2 fun k hk hs=>?_,bC (bC (f.blk hb2 id) 0 _) 1 _⟩,f2.blk (f.blk h.r1 id) fun e=>?_,f2.blk (f.blk h.r2 id) fun e=>?_,h.h0⟩
 ·have hs:k=w.heap.size:=hs;have:=h.h0;omega
 ·have e:w.heap.size+1=w.heap.size:=e;omega
 ·have e:w.heap.size+1+1=w.heap.size:=e;omega
theorem GT.put {w W W1:World} {es:List aQ} {l:List gB} {ev kv v':Value} {b:Bool} (h:GT w W es l ev kv) (f:aj ay W W1):GT w ((W1.setCell ⟨w.heap.size,0,none⟩ v').setCell ⟨w.heap.size,1,none⟩ (.bool b)) es l ev kv:=
 (jB.aJ h f).r_ ((fV W1 w.heap.size v' (.bool b)).mono fun k _ hk=> .inl hk)
def OJ (w0 w:World) (D:Nat) (st:Option (List UInt8)) (e:Ending) (w':World):Prop:=
 ∃ev kv es ks s a l,e= .returned (.tuple #[.agg #[ev,kv], .agg #[.slice a (leftOf s).length l, .bool s.isNone]])∧dh (fun b=>w.heap.size≤b) w' ev kv es ks∧rD jw D st es ks s∧bK w0 w' (.slice a (leftOf s).length l) s∧aj ay w w'
theorem Ws (w:World) (c0 c1 c2 c3:Array Value) (T0 T1 T2 T3:TypeId) (W:World) (hW:W=(((w.alloc (.cells c0 T0)).alloc (.cells c1 T1)).alloc (.cells c2 T2)).alloc (.cells c3 T3)):
 W.heap[w.heap.size]?=some (.cells c0 T0 (0,0))∧W.heap[w.heap.size+1]?=some (.cells c1 T1 (0,0))∧W.heap[w.heap.size+1+1]?=some (.cells c2 T2 (0,0))∧W.heap[w.heap.size+1+1+1]?=some (.cells c3 T3 (0,0))∧aj ay w W:=by
 subst hW
 have h0:=heap_alloc_new w (.cells c0 T0)
 have h1:=heap_alloc_new (w.alloc (.cells c0 T0)) (.cells c1 T1)
 have h2:=heap_alloc_new ((w.alloc (.cells c0 T0)).alloc (.cells c1 T1)) (.cells c2 T2)
 have h3:=heap_alloc_new (((w.alloc (.cells c0 T0)).alloc (.cells c1 T1)).alloc (.cells c2 T2)) (.cells c3 T3)
 have sz:∀(u:World) (o:Obj),(u.alloc o).heap.size=u.heap.size+1:=fun u o=>by simp
 simp only[sz]at h1 h2 h3
 exact⟨(((aj.alloc ay _ _).alloc1).alloc1).blk h0 id,((aj.alloc ay _ _).alloc1).blk h1 id,(aj.alloc ay _ _).blk h2 id,h3,(((aj.alloc ay _ _).alloc1).alloc1).alloc1⟩
theorem oW.start {w0 w W:World} {a:Option Addr} {l:Nat} {st:Option (List UInt8)} (h:bK w0 w (.slice a (leftOf st).length l) st) (h0:w0.heap.size≤w.heap.size)
 (hW:W=(((w.alloc (.cells #[.slice a (leftOf st).length l, .bool st.isNone] 115)).alloc (.cells #[.slice none 0 0, .slice none 0 0] 30)).alloc (.cells #[.slice none 0 0, .bool false] 115)).alloc (.cells #[.slice none 0 0, .slice none 0 0] 30)):
 oW w0 w W st∧GT w W [] [] (.slice none 0 0) (.slice none 0 0)∧bK w0 W (.slice a (leftOf st).length l) st∧W.heap[w.heap.size]?=some (.cells #[.slice a (leftOf st).length l, .bool st.isNone] 115 (0,0)):=by
 obtain⟨g0,g1,g2,g3,gf⟩:=Ws w _ _ _ _ _ _ _ _ W hW
 have xlt:∀k,XT w k→k<W.heap.size:=fun k hk=>by
  rcases hk with hk|hk|hk
  ·rw[hk];exact lt_of_block g0
  ·rw[hk];exact lt_of_block g1
  ·rw[hk];exact lt_of_block g2
 refine⟨⟨⟨a,l,h.aJ gf,g0⟩,g1,g2,h0⟩,jB.start (fun k hk=>hk.elim) (fun k hk=>by rcases hk with hk|hk|hk<;>omega) xlt gf g3 (by omega) (fun hk=>by rcases hk with hk|hk|hk<;>omega),h.aJ gf,g0⟩
theorem OL {w0 w W W':World} {es:List aQ} {l:List gB} {ev kv:Value} {a:Option Addr} {cl D:Nat} {st s:Option (List UInt8)} (hg:GT w W es l ev kv) (hr:bK w0 W (.slice a (leftOf s).length cl) s) (h0:w0.heap.size≤w.heap.size) (hres:rD jw D st es (mkK l) s)
 (f:aj (XT w) W W'):OJ w0 w D st (.returned (.tuple #[.agg #[ev,kv], .agg #[.slice a (leftOf s).length cl, .bool s.isNone]])) W':=by
 have nx:∀b,w.heap.size≤b→¬XT w b→¬XT w b:=fun b _ h=>h
 refine⟨ev,kv,es,mkK l,s,a,cl,rfl,hg.done.turn fun b hb hQ=>⟨f.block b hb hQ.2.1,hQ.1⟩,hres,hr.keep f fun k hk hs=>?_,hg.aH.trans f fun i hi hs=>?_⟩
 ·rcases hs with hs|hs|hs<;>omega
 ·rcases hs with hs|hs|hs<;>omega
theorem DU (w W:World) (x0 x1 y0 y1:Value):aj (XT w) W ((((W.setCell ⟨w.heap.size+1,0,none⟩ x0).setCell ⟨w.heap.size+1,1,none⟩ x1).setCell ⟨w.heap.size+1+1,0,none⟩ y0).setCell ⟨w.heap.size+1+1,1,none⟩ y1):=
 (((fV W (w.heap.size+1) x0 x1).mono fun k _ hk=> .inr (.inl hk)).trans ((fV _ (w.heap.size+1+1) y0 y1).mono fun k _ hk=> .inr (.inr hk)) fun _ _ h=>h)
theorem DV {w W:World} {x0 x1 y0 y1:Value} {a b c d:Value} (h1:W.heap[w.heap.size+1]?=some (.cells #[a,b] 30 (0,0))) (h2:W.heap[w.heap.size+1+1]?=some (.cells #[c,d] 115 (0,0))) (W':World)
 (hW:W'=(((W.setCell ⟨w.heap.size+1,0,none⟩ x0).setCell ⟨w.heap.size+1,1,none⟩ x1).setCell ⟨w.heap.size+1+1,0,none⟩ y0).setCell ⟨w.heap.size+1+1,1,none⟩ y1):
 W'.cell? ⟨w.heap.size+1,0,none⟩=some x0∧W'.cell? ⟨w.heap.size+1,1,none⟩=some x1∧W'.cell? ⟨w.heap.size+1+1,0,none⟩=some y0∧W'.cell? ⟨w.heap.size+1+1,1,none⟩=some y1:=by
 subst hW
 have g1:=bC (bC h1 0 x0) 1 x1
 have f1:=fV W (w.heap.size+1) x0 x1
 have f2:=fV ((W.setCell ⟨w.heap.size+1,0,none⟩ x0).setCell ⟨w.heap.size+1,1,none⟩ x1) (w.heap.size+1+1) y0 y1
 have g2:=f1.blk h2 fun e=>by have e:w.heap.size+1+1=w.heap.size+1:=e;omega
 have g3:=f2.blk g1 fun e=>by have e:w.heap.size+1=w.heap.size+1+1:=e;omega
 have g4:=bC (bC g2 0 y0) 1 y1
 exact⟨au g3 0 rfl,au g3 1 rfl,au g4 0 rfl,au g4 1 rfl⟩
theorem Wu {w0:World}:∀(D:Nat) (v:Value) (st:Option (List UInt8)) (w:World),D≤5→bK w0 w v st→w0.heap.size≤w.heap.size→(leftOf st).length≤60000→Calls Tryz.prog 180 #[.agg #[v, .bool st.isNone], .int .i64 D] w (OJ w0 w D st):=by
 intro D
 induction D with
 |zero=>
  intro v st w _ h h0 _
  obtain⟨a0,c0,rfl⟩:=h.shape
  obtain⟨WB,eU⟩:∃W,W=(((w.alloc (.cells #[.slice a0 (leftOf st).length c0, .bool st.isNone] 115)).alloc (.cells #[.slice none 0 0, .slice none 0 0] 30)).alloc (.cells #[.slice none 0 0, .bool false] 115)).alloc (.cells #[.slice none 0 0, .slice none 0 0] 30):=⟨_,rfl⟩
  obtain⟨hts,hg,-,-⟩:=oW.start h h0 eU
  have m_:=ah hts;clear hts
  have HG:=ah hg;clear hg
  have HH0:=ah h0;clear h0
  clear h
  have HZ:=ah (TP jw st [] (mkK []))
  generalize st.isNone=bd at*
  generalize (leftOf st).length=L0 at*
  go_enter Tryz.func180,Tryz.ntmps180
  go_wp2_with fail
  rw[←eU]
  clear eU
  refine ku (S:=fun w'=>aj (XT w) WB w'∧w'.cell? ⟨w.heap.size+1+1+1,0,none⟩=some (.slice none 0 0)∧w'.cell? ⟨w.heap.size+1+1+1,1,none⟩=some (.slice none 0 0)) 3 (by kernel_rfl) ⟨(aj.drew ay _).mono fun _ _ s=>s.elim,au ((aj.drew ay _).blk HG.out.b3 id) 0 rfl,au ((aj.drew ay _).blk HG.out.b3 id) 1 rfl⟩ ?_
  intro hS
  have Jb:=ah (aj.drew ay WB)
  generalize WB.drew=Y0 at*
  refine aU 0 13 rfl rfl (v:=?_) (.inl ⟨by rfl,?_⟩) ?_
  rotate_left 1
  ·(intro w hSw;(try dsimp only at hSw);go_simp;(try with_reducible rfl))
  try simp only[Act.put,aN,aO,aP]
  refine bJ (i:=1) (by kernel_rfl) rfl (fun K hK=>?_)
  go_simp
  refine(uP _).mono ?_
  rintro e1 Y1 ⟨rfl,hf1⟩
  have bg:=ah (Jb.out.aC hf1)
  refine hK.out _ _ ⟨hS.1.trans hf1 fun _ _ s=>s.elim,hf1.cell' hS.2.1 id,hf1.cell' hS.2.2 id⟩ ?_
  clear hK K hS hf1
  have g1:=(m_.out.keep bg.out).r1
  have g2:=(m_.out.keep bg.out).r2
  have x0:=au g1 0 rfl
  have x1:=au g1 1 rfl
  have f0:=aG g1 0
  have f1:=aG g1 1
  have hl1:=lt_of_block g1
  have x2:=au g2 0 rfl
  have x3:=au g2 1 rfl
  have f2:=aG g2 0
  have f3:=aG g2 1
  have hl2:=lt_of_block g2
  have G1:=ah g1;clear g1
  have G2:=ah g2;clear g2
  try simp only[Act.put,aN,aO,aP]
  refine bJ (i:=2) (by kernel_rfl) rfl (fun K hK=>?_)
  go_simp
  refine hK.out _ _ ⟨(bg.out.mono fun _ _ s=>s.elim).trans ((fV Y1 (w.heap.size+1) (.slice none 0 0) (.slice none 0 0)).mono fun k _ hk=> .inr (.inl hk)) fun _ _ s=>s,(fV Y1 (w.heap.size+1) _ _).cell' (bg.out.cell' (au HG.out.b3 0 rfl) id) (fun e=>by have e:w.heap.size+1+1+1=w.heap.size+1:=e;omega),(fV Y1 (w.heap.size+1) _ _).cell' (bg.out.cell' (au HG.out.b3 1 rfl) id) (fun e=>by have e:w.heap.size+1+1+1=w.heap.size+1:=e;omega)⟩ ?_
  clear hK K
  try simp only[Act.put,aN,aO,aP]
  refine iC (by kernel_rfl) (by kernel_rfl) rfl (fun K hK=>?_)
  go_simp
  refine hK.out _ _ ?_
  clear hK K x0 x1 x2 x3 f0 f1 f2 f3 hl1 hl2
  obtain⟨y0,y1,y2,y3⟩:=DV (x0:= .slice none 0 0) (x1:= .slice none 0 0) (y0:= .slice none 0 0) (y1:= .bool true) G1.out G2.out _ rfl
  go_wp2
  exact bodyPost_ret (v:= .tuple #[.agg #[.slice none 0 0, .slice none 0 0], .agg #[.slice none 0 0, .bool true]]) (by simp[results,Tryz.results180,go_sem,y0,y1,y2,y3]) rfl (OL (a:=none) (cl:=0) (s:=none) (HG.out.aJ bg.out) (bK.bad w0 _) HH0.out HZ.out (DU w Y1 _ _ _ _))
 |succ D Fg=>
  intro v st w hD h h0 hl
  obtain⟨i0,hi,hz0,hz1,hz2⟩:=info_parts MC
  obtain⟨i1,hi1,hy0,hy1,hy2⟩:=info_parts MF
  have IH:=ah (fun v st W a b c d=>Fg v st W a b c d);clear Fg
  unfold OJ at IH
  have hdl:¬((D:Int)+1=0):=by omega
  have hd5:(D:Int)≤4:=by omega
  have hcast:((D+1:Nat):Int)=(D:Int)+1:=by omega
  rw[hcast]
  clear hcast
  obtain⟨n,s1,hcnt⟩:=ji.total st 9223372036854775807
  have Ut:n≤60000:=by have:=hcnt.left;omega
  have oL:=ah (Nat.le_trans hcnt.less hl)
  obtain⟨a0,c0,rfl⟩:=h.shape
  obtain⟨WB,eU⟩:∃W,W=(((w.alloc (.cells #[.slice a0 (leftOf st).length c0, .bool st.isNone] 115)).alloc (.cells #[.slice none 0 0, .slice none 0 0] 30)).alloc (.cells #[.slice none 0 0, .bool false] 115)).alloc (.cells #[.slice none 0 0, .slice none 0 0] 30):=⟨_,rfl⟩
  obtain⟨hts,hg,hrb,hbb⟩:=oW.start h h0 eU
  have HM:=ah (fun W v (hr:bK w0 W v st) (f:w0.heap.size≤W.heap.size)=>OE W hr f hcnt)
  unfold qL at HM
  have m_:=ah hts;clear hts
  have HG:=ah hg;clear hg
  have HH0:=ah h0;clear h0
  have DT:=ah hcnt;clear hcnt
  have HL:=ah hl;clear hl h
  have tC:=ah hrb;clear hrb
  have zK:=ah hbb;clear hbb
  generalize hbd:st.isNone=bd at*
  generalize hll:(leftOf st).length=L0 at*
  have uD:=ah hbd;clear hbd
  have o_:=ah hll;clear hll
  generalize hb1:s1.isNone=b1 at*
  generalize hl1:(leftOf s1).length=L1 at*
  have OH:=ah hb1;clear hb1
  have Wv:=ah hl1;clear hl1
  have dF:=ah eU;clear eU
  go_enter Tryz.func180,Tryz.ntmps180
  go_wp2_with(go_at_call 181;rw[←dF.out];refine(HM.out WB _ tC.out (Nat.le_trans HH0.out HG.out.aH.size)).mono ?_;rintro e w1 ⟨a1,c1,rfl,hr1,hf1⟩;have hbw:=hf1.blk zK.out id;have y0:=au hbw 0 rfl;have y1:=au hbw 1 rfl;have y2:=aG hbw 0;have y3:=aG hbw 1;have y4:=lt_of_block hbw;have Gh:=ah (m_.out.put hf1 hr1 Wv.out OH.out);have fZ:=ah (GT.put (v':= .slice a1 L1 c1) (b:=b1) HG.out hf1);clear hbw hr1 hf1)
  go_loopw [21] (fun i W=>∃(k:Nat) (es:List aQ) (s:Option (List UInt8)) (ev:Value),k≤n∧i= .int .i64 k∧wH jw s1 k es s∧(leftOf s).length≤60000∧oW w0 w W s∧GT w W es [] ev (.slice none 0 0)) (fun i _=>n-(intOf i).toNat)
  case atStart=>exact⟨0,[],s1,_,Nat.zero_le _,rfl, .zero,by have:=oL.out;have e:=Wv.out;omega,Gh.out,fZ.out⟩
  case round=>
   clear Gh fZ y0 y1 y2 y3 y4 tC zK m_ HG dF
   obtain⟨k,es,s,ev,hk,rfl,hrun,hls,hts,hg⟩:=hrel
   have jA:=ah hrun;clear hrun
   have Bz:=ah hls;clear hls
   have m_:=ah hts;clear hts
   have hlen:es.length=k:=jA.out.len
   obtain⟨aV,cV,rfl⟩:=(Rd.own hg.wJ).sl
   rw[hlen]at hg
   have HG:=ah hg;clear hg
   have hl3:w.heap.size+1+1+1<wr.heap.size:=lt_of_block HG.out.b3
   by_cases hlt:k<n
   ·obtain⟨e,t1,t2,t3,t4,g1,g2,g3,g4⟩:=pJ.total jw s
    have NG:=ah (show pJ jw s e t4 from⟨t1,t2,t3,g1,g2,g3,g4⟩)
    have nV:=ah (show(leftOf t4).length≤60000 by
     have q1:=g1.left
     have q2:=g2.left
     have q3:=g3.left
     have q4:=g4.left
     have:=Bz.out
     omega)
    have bH:=ah (fun W v (hs:bK w0 W v s)=>oV hs g1 (by decide) (by decide))
    have HC2:=ah (fun W v (hs:bK w0 W v t1)=>oV hs g2 (by decide) (by decide))
    have mP:=ah (fun W v (hs:bK w0 W v t2)=>Wh hs g3 (by decide) (by decide))
    have BM:=ah (fun W v (hs:bK w0 W v t3)=>oV hs g4 (by decide) (by decide))
    unfold qL at bH HC2 mP BM
    simp only[jw]at bH HC2 mP BM
    clear g1 g2 g3 g4
    obtain⟨a2,c2,hr2,hb2⟩:=m_.out.box
    have vO:=ah (fun(x:Value)=>(⟨hr2.aJ (aj.alloc ay wr _),(aj.alloc ay wr _).blk hb2 id,heap_alloc_new wr _,(aj.alloc ay wr _).mono fun _ _ s=>s.elim,Nat.le_refl _,lt_of_block hb2,HH0.out⟩:dH w0 w wr (wr.alloc (.cells #[.int .i64 0, .int .i64 0,x, .int .i64 0] 172)) wr.heap.size 172 #[.int .i64 0, .int .i64 0,x, .int .i64 0] (.slice a2 (leftOf s).length c2) s))
    have y0:=au hb2 0 rfl;have y1:=au hb2 1 rfl;have y2:=aG hb2 0;have y3:=aG hb2 1;have y4:=lt_of_block hb2
    clear hr2 hb2
    generalize hb0:s.isNone=q0 at*
    generalize hm0:(leftOf s).length=M0 at*
    have CP:=ah hb0;clear hb0
    have Wx:=ah hm0;clear hm0
    generalize hb1:t1.isNone=q1 at*
    generalize hm1:(leftOf t1).length=M1 at*
    have Gi:=ah hb1;clear hb1
    have DW:=ah hm1;clear hm1
    generalize hb2:t2.isNone=q2 at*
    generalize hm2:(leftOf t2).length=M2 at*
    have Gj:=ah hb2;clear hb2
    have OM:=ah hm2;clear hm2
    generalize hb3:t3.isNone=q3 at*
    generalize jG:(leftOf t3).length=M3 at*
    have wU:=ah hb3;clear hb3
    have xu:=ah jG;clear jG
    generalize hb4:t4.isNone=q4 at*
    generalize hm4:(leftOf t4).length=M4 at*
    have zG:=ah hb4;clear hb4
    have Wy:=ah hm4;clear hm4
    go_wp2_with(first
     |(go_at_call 226;refine(mP.out _ _ HS2.out.rin).mono ?_;rintro e3 w4 ⟨a5,c5,rfl,gI,hf5⟩;clear y0 y1 y2 y3 y4 y5 y6 y7 z8 z9;obtain⟨y0,y1,y2,y3,y4,y5,y6,y7⟩:=(HS2.out.call hf5).jC Gj.out;have z8:=(HS2.out.call hf5).free 2;have z9:=(HS2.out.call hf5).cell 2 rfl;have fG:=ah (HS2.out.BL hf5 gI wU.out 2 (.string e.s));clear gI hf5)
     |(go_at_call 64;first
      |(refine(BM.out _ _ fG.out.rin).mono ?_;rintro e4 w5 ⟨a6,c6,rfl,Gl,fF⟩;clear y0 y1 y2 y3 y4 y5 y6 y7 z8 z9;obtain⟨y0,y1,y2,y3,y4,y5,y6,y7⟩:=(fG.out.call fF).jC wU.out;have z8:=(fG.out.call fF).free 3;have z9:=(fG.out.call fF).cell 3 rfl
        have OO:w5.cell? ⟨wr.heap.size,0,none⟩=some (.int .i64 e.dc):=(fG.out.call fF).cell 0 rfl
        have q01:w5.cell? ⟨wr.heap.size,1,none⟩=some (.int .i64 e.n):=(fG.out.call fF).cell 1 rfl
        have q02:w5.cell? ⟨wr.heap.size,2,none⟩=some (.string e.s):=(fG.out.call fF).cell 2 rfl
        have x0:w5.cell? ⟨w.heap.size+1+1+1,0,none⟩=some (.slice aV k cV):=au ((fG.out.call fF).aH.blk HG.out.b3 (fun e=>by have e:w.heap.size+1+1+1=w.heap.size:=e;omega)) 0 rfl
        have x1:¬wr.heap.size=w.heap.size+1+1+1:=by omega
        have x2:¬w.heap.size+1+1+1=wr.heap.size:=by omega
        have cO:=ah (fG.out.BL fF Gl zG.out 3 (.int .i64 e.k))
        have tY:=ah (HG.out.r_ (cO.out.aH.mono fun k _ hk=> .inl hk))
        clear Gl fF)
      |(refine(HC2.out _ _ dQ.out.rin).mono ?_;rintro e2 w3 ⟨a4,c4,rfl,hr4,hf4⟩;clear y0 y1 y2 y3 y4 y5 y6 y7 z8 z9;obtain⟨y0,y1,y2,y3,y4,y5,y6,y7⟩:=(dQ.out.call hf4).jC Gi.out;have z8:=(dQ.out.call hf4).free 1;have z9:=(dQ.out.call hf4).cell 1 rfl;have HS2:=ah (dQ.out.BL hf4 hr4 Gj.out 1 (.int .i64 e.n));clear hr4 hf4)
      |(refine(bH.out _ _ (vO.out _).rin).mono ?_;rintro e1 w2 ⟨a3,c3,rfl,hr3,hf3⟩;clear y0 y1 y2 y3 y4;obtain⟨y0,y1,y2,y3,y4,y5,y6,y7⟩:=((vO.out _).call hf3).jC CP.out;have z8:=((vO.out _).call hf3).free 0;have z9:=((vO.out _).call hf3).cell 0 rfl;have dQ:=ah ((((vO.out _).call hf3).qM hr3 Gi.out).je 0 (.int .i64 e.dc));clear hr3 hf3))
     |(at_builtin;refine vW _ [.int .i64 e.dc, .int .i64 e.n, .string e.s, .int .i64 e.k] rfl (.tmp 51) (.tmp 53) 27 rfl 172 i0 _ 4 40 Tryz.underlying27 hi hz0 hz1 hz2 (by decide) (by decide) _ k _ (by have heo:=tY.out.wJ;rw[hlen]at heo;exact heo) 1 1 rfl (by simp[Act.eval]) rfl ?c1 ?c2 ?c3 ?_))
    case c1=>simp[Value.oneCell']
    case c2=>simp only[maxLen];omega
    case c3=>omega
    intro ad cc w6 kX dV kY
    clear y0 y1 y2 y3 y4 y5 y6 y7 z8 z9 OO q01 q02 x0 x1 x2
    have hn3:¬eY (.slice aV k cV) (w.heap.size+1+1+1):=fun h=>(tY.out.rE _ h).2.2 rfl
    have hb6:=dV.blk tY.out.b3 hn3
    have hrow:w6.cell? ⟨w.heap.size+1+1+1,0,none⟩=some (.slice aV k cV):=au hb6 0 rfl
    have hcf:w6.frozen? ⟨w.heap.size+1+1+1,0,none⟩=false:=aG hb6 0
    have NJ:=lt_of_block hb6
    have e1:=zG.out
    have e2:=Wy.out
    subst e1 e2
    have OQ:=ah (m_.out.step cO.out dV (fun b hb=>⟨(tY.out.rE b hb).1,(tY.out.rE b hb).2.1⟩) 0 (.slice ad (k+1) cc))
    have OT:=ah (tY.out.Um (e:=e) (ev':= .slice ad (k+1) cc) (w':=w6) (by rw[hlen];exact kX) dV kY)
    clear hn3 hb6 kX dV kY
    go_wp2
    go_roundw
    case rel=>exact⟨k+1,es++ [e],t4,_,by omega,by go_num, .snoc jA.out NG.out,nV.out,OQ.out,OT.out⟩
    case measure=>simp[intOf];omega
   ·obtain rfl:n=k:=by omega
    clear hlt hk
    obtain⟨m,s3,Gm⟩:=ji.total s 9223372036854775807
    have hm6:m≤60000:=by have:=Gm.left;have:=Bz.out;omega
    have lU:=ah (Nat.le_trans Gm.less Bz.out)
    have xu:=ah (fun W v (hr:bK w0 W v s) (f:w0.heap.size≤W.heap.size)=>OE W hr f Gm)
    unfold qL at xu
    have WC:=ah Gm;clear Gm
    obtain⟨a2,c2,hr2,hb2⟩:=m_.out.box
    have HR2:=ah hr2;clear hr2
    have y0:=au hb2 0 rfl;have y1:=au hb2 1 rfl;have y2:=aG hb2 0;have y3:=aG hb2 1;have y4:=lt_of_block hb2
    have HB2:=ah hb2;clear hb2
    generalize hq0:s.isNone=q0 at*
    generalize hm0:(leftOf s).length=M0 at*
    have CP:=ah hq0;clear hq0
    have Wx:=ah hm0;clear hm0
    generalize hq3:s3.isNone=q3 at*
    generalize jG:(leftOf s3).length=M3 at*
    have wU:=ah hq3;clear hq3
    have WE:=ah jG;clear jG
    go_wp2_with(go_at_call 181;refine(xu.out _ _ HR2.out (Nat.le_trans HH0.out HG.out.aH.size)).mono ?_;rintro e w1 ⟨a3,c3,rfl,hr1,hf1⟩;clear y0 y1 y2 y3 y4;have hbw:=hf1.blk HB2.out id;have y0:=au hbw 0 rfl;have y1:=au hbw 1 rfl;have y2:=aG hbw 0;have y3:=aG hbw 1;have y4:=lt_of_block hbw;have Gh:=ah (m_.out.put hf1 hr1 WE.out wU.out);have fZ:=ah (GT.put (v':= .slice a3 M3 c3) (b:=q3) HG.out hf1);clear hbw hr1 hf1)
    go_loopw [63] (fun i W=>∃(k:Nat) (l:List gB) (t:Option (List UInt8)) (kv:Value),k≤m∧i= .int .i64 k∧l.length=k∧vw jw D s3 m l t∧(leftOf t).length≤60000∧oW w0 w W t∧GT w W es l (.slice aV n cV) kv) (fun i _=>m-(intOf i).toNat)
    case atStart=>exact⟨0,[],s3,_,Nat.zero_le _,rfl,rfl, .start _ _ _ _,by have:=lU.out;have e:=WE.out;omega,Gh.out,fZ.out⟩
    case round=>
     clear Gh fZ y0 y1 y2 y3 y4 m_ HG HR2 HB2
     obtain⟨k,l,t,kv,hk,rfl,hll,hkv,hlt4,hts,hg⟩:=hrel
     have BA:=ah hkv;clear hkv
     have nV:=ah hlt4;clear hlt4
     have m_:=ah hts;clear hts
     obtain⟨aK,cK,rfl⟩:=(Rd.own hg.Bv).sl
     rw[hll]at hg
     have HG:=ah hg;clear hg
     have hl3:w.heap.size+1+1+1<wr.heap.size:=lt_of_block HG.out.b3
     obtain⟨a2,c2,hr2,hb2⟩:=m_.out.box
     have HR2:=ah hr2;clear hr2
     by_cases hlt:k<m
     ·cases t with
      |none=>
       have oG:=ah (TN Dn (M:=9223372036854775807) (by omega) (by have:=HL.out;have:=o_.out;omega) DT.out jA.out WC.out BA.out es (mkK l))
       have y0:wr.cell? ⟨w.heap.size,0,none⟩=some (.slice a2 0 c2):=au hb2 0 rfl
       have y1:wr.cell? ⟨w.heap.size,1,none⟩=some (.bool true):=au hb2 1 rfl
       have y2:=aG hb2 0
       have y3:=aG hb2 1
       have y4:=lt_of_block hb2
       clear hb2
       have g1:=m_.out.r1
       have g2:=m_.out.r2
       have x0:=au g1 0 rfl
       have x1:=au g1 1 rfl
       have f0:=aG g1 0
       have f1:=aG g1 1
       have hl1:=lt_of_block g1
       have x2:=au g2 0 rfl
       have x3:=au g2 1 rfl
       have f2:=aG g2 0
       have f3:=aG g2 1
       have hl2:=lt_of_block g2
       have x4:wr.cell? ⟨w.heap.size+1+1+1,0,none⟩=some (.slice aV n cV):=au HG.out.b3 0 rfl
       have x5:wr.cell? ⟨w.heap.size+1+1+1,1,none⟩=some (.slice aK k cK):=au HG.out.b3 1 rfl
       have G1:=ah g1;clear g1
       have G2:=ah g2;clear g2
       go_wp2_with fail
       go_region
       all_goals
        clear x0 x1 x2 x3 x4 x5 f0 f1 f2 f3 hl1 hl2 y0 y1 y2 y3 y4
        obtain⟨y0,y1,y2,y3⟩:=DV (x0:= .slice aV n cV) (x1:= .slice aK k cK) (y0:= .slice a2 0 c2) (y1:= .bool true) G1.out G2.out _ rfl
        go_wp2
        exact bodyPost_ret (v:= .tuple #[.agg #[.slice aV n cV, .slice aK k cK], .agg #[.slice a2 0 c2, .bool true]]) (by simp[results,Tryz.results180,go_sem,y0,y1,y2,y3]) rfl (OL HG.out (s:=none) HR2.out HH0.out oG.out ((DU w wr _ _ _ _).aC (aj.drew ay _)))
      |some r=>
       obtain⟨key,t1,g1⟩:=mX.total (some r) 9223372036854775807
       have Fv:=ah (Nat.le_trans g1.left nV.out)
       have bH:=ah (fun W v (hs:bK w0 W v (some r))=>Wh hs g1 (by decide) (by decide))
       unfold qL at bH
       simp only[show(leftOf (some r)).length=r.length from rfl,show(some r).isNone=false from rfl]at bH
       have HT1:=ah g1;clear g1
       have vO:=ah (fun(x:Value)=>(⟨HR2.out.aJ (aj.alloc ay wr _),(aj.alloc ay wr _).blk hb2 id,heap_alloc_new wr _,(aj.alloc ay wr _).mono fun _ _ s=>s.elim,Nat.le_refl _,lt_of_block hb2,HH0.out⟩:dH w0 w wr (wr.alloc (.cells #[x, .slice none 0 0, .slice none 0 0] 83)) wr.heap.size 83 #[x, .slice none 0 0, .slice none 0 0] (.slice a2 (leftOf (some r)).length c2) (some r)))
       have y0:wr.cell? ⟨w.heap.size,0,none⟩=some (.slice a2 r.length c2):=au hb2 0 rfl
       have y1:wr.cell? ⟨w.heap.size,1,none⟩=some (.bool false):=au hb2 1 rfl
       have y2:=aG hb2 0
       have y3:=aG hb2 1
       have y4:=lt_of_block hb2
       clear hb2
       have HIH:=ah (fun v W (hs:bK w0 W v t1) (hz:w0.heap.size≤W.heap.size)=>IH.out v t1 W (by omega) hs hz Fv.out)
       clear IH
       generalize hb1:t1.isNone=q1 at*
       generalize hm1:(leftOf t1).length=M1 at*
       have Gi:=ah hb1;clear hb1
       have DW:=ah hm1;clear hm1
       have hd1:IntKind.i64.wrap ((D:Int)+1-1)=D:=by rw[IntKind.wrap_i64];omega
       have hd2:IntKind.i64.wrap (D:Int)=D:=by rw[IntKind.wrap_i64];omega
       go_wp2_with(first
        |(go_at_call 226;refine(bH.out _ _ (vO.out _).rin).mono ?_;rintro e1 w3 ⟨a5,c5,rfl,gI,hf5⟩;clear y0 y1 y2 y3 y4;obtain⟨y0,y1,y2,y3,y4,y5,y6,y7⟩:=((vO.out _).call hf5).jC (rfl:(some r).isNone=false);have z8:=((vO.out _).call hf5).free 0;have z9:=((vO.out _).call hf5).cell 0 rfl;have dQ:=ah ((vO.out _).BL hf5 gI Gi.out 0 (.string key));clear gI hf5)
        |(go_at_call 180;refine(HIH.out _ _ dQ.out.rin (Nat.le_trans dQ.out.h0 (Nat.le_of_lt (lt_of_block dQ.out.box)))).mono ?_;rintro e2 w4 ⟨IX,IY,es3,ks3,t2,a6,c6,rfl,lD,hgr,Gl,fF⟩
          obtain⟨a3,c3,rfl⟩:=lD.ents.rd.sl
          obtain⟨os3,fE,-⟩:=lD.kids
          obtain⟨a4,c4,rfl⟩:=fE.rd.sl
          clear fE y0 y1 y2 y3 y4 y5 y6 y7 z8 z9
          obtain⟨y0,y1,y2,y3,y4,y5,y6,y7⟩:=(dQ.out.call fF).jC Gi.out
          have z8:=(dQ.out.call fF).free 1
          have z9:=(dQ.out.call fF).free 2
          have z10:=(dQ.out.call fF).cell 1 rfl
          have z11:=(dQ.out.call fF).cell 2 rfl
          have OO:w4.cell? ⟨wr.heap.size,0,none⟩=some (.string key):=(dQ.out.call fF).cell 0 rfl
          have x0:w4.cell? ⟨w.heap.size+1+1+1,1,none⟩=some (.slice aK k cK):=au ((dQ.out.call fF).aH.blk HG.out.b3 (fun e=>by have e:w.heap.size+1+1+1=w.heap.size:=e;omega)) 1 rfl
          have x1:¬wr.heap.size=w.heap.size+1+1+1:=by omega
          have x2:¬w.heap.size+1+1+1=wr.heap.size:=by omega
          have hGR:=hgr
          have Fz:=ah hgr;clear hgr hGR
          generalize hb2:t2.isNone=q2 at*
          generalize hm2:(leftOf t2).length=M2 at*
          have Gj:=ah hb2;clear hb2
          have OM:=ah hm2;clear hm2
          have HS2:=ah (dQ.out.adf fF Gl Gj.out (.slice a3 es3.length c3) (.slice a4 ks3.len c4))
          have hgw:=HG.out.r_ (dQ.out.aH.mono fun k _ hk=> .inl hk)
          have hwb:wr.heap.size<_:=lt_of_block dQ.out.blk
          have hft:aj (fun k=>k=wr.heap.size∨k=w.heap.size) w4 ((((w4.setCell ⟨wr.heap.size,1,none⟩ (.slice a3 es3.length c3)).setCell ⟨wr.heap.size,2,none⟩ (.slice a4 ks3.len c4)).setCell ⟨w.heap.size,0,none⟩ (.slice a6 M2 c6)).setCell ⟨w.heap.size,1,none⟩ (.bool q2)):=
           (((dG w4 wr.heap.size 1 _).trans (dG _ wr.heap.size 2 _) fun _ _ h=>h).mono fun k _ hk=> .inl hk).trans ((fV _ w.heap.size _ _).mono fun k _ hk=> .inr hk) fun _ _ h=>h
          have NM:=ah (hgw.kid (lD.turn (Q':=fun b=>_≤b) fun b hb hQ=>⟨hft.block b hb (fun hs=>by rcases hs with hs|hs<;>omega),hQ⟩) (Nat.le_trans fF.size hft.size))
          have HG2:=ah (HG.out.r_ (HS2.out.aH.mono fun k _ hk=> .inl hk))
          clear lD hgw hwb hft Gl fF
          generalize es3.length=n3 at*
          generalize ks3.len=m3 at*)
        |(at_builtin;refine vW _ [.string key, .slice a3 n3 c3, .slice a4 m3 c4] rfl (.tmp 84) (.tmp 86) 28 rfl 83 i1 _ 3 64 Tryz.underlying28 hi1 hy0 hy1 hy2 (by decide) (by decide) _ k _ (by have heo:=HG2.out.Bv;rw[hll]at heo;exact heo) 1 1 rfl (by simp[Act.eval]) rfl ?c1 ?c2 ?c3 ?_))
       case c1=>simp[Value.oneCell']
       case c2=>simp only[maxLen];omega
       case c3=>omega
       intro ad cc w6 kX dV kY
       clear y0 y1 y2 y3 y4 y5 y6 y7 z8 z9 z10 z11 OO x0 x1 x2
       have hn3:¬eY (.slice aK k cK) (w.heap.size+1+1+1):=fun h=>(HG2.out.knew _ h).2.2.1 rfl
       have hb6:=dV.blk HG2.out.b3 hn3
       have hrow:w6.cell? ⟨w.heap.size+1+1+1,1,none⟩=some (.slice aK k cK):=au hb6 1 rfl
       have hcf:w6.frozen? ⟨w.heap.size+1+1+1,1,none⟩=false:=aG hb6 1
       have NJ:=lt_of_block hb6
       have e1:=Gj.out
       have e2:=OM.out
       subst e1 e2
       have OQ:=ah (m_.out.step HS2.out dV (fun b hb=>⟨(HG2.out.knew b hb).1,(HG2.out.knew b hb).2.1⟩) 1 (.slice ad (k+1) cc))
       have OT:=ah (HG2.out.Un (q:=⟨key,es3,ks3, .slice a3 n3 c3, .slice a4 m3 c4⟩) (kv':= .slice ad (k+1) cc) (w':=w6) NM.out (by rw[hll];exact kX) dV kY)
       have NP:=ah (BA.out.step (q:=⟨key,es3,ks3, .slice a3 n3 c3, .slice a4 m3 c4⟩) Dn (by omega) HT1.out Fz.out)
       have adi:=ah (show(leftOf t2).length≤60000 by have h1:=Fz.out.left;have h2:=Fv.out;have h3:=DW.out;omega)
       clear hn3 hb6 kX dV kY
       go_wp2
       go_roundw
       case rel=>exact⟨k+1,l++ [⟨key,es3,ks3, .slice a3 n3 c3, .slice a4 m3 c4⟩],t2,_,by omega,by go_num,by simp[hll],NP.out,adi.out,OQ.out,OT.out⟩
       case measure=>simp[intOf];omega
     ·obtain rfl:m=k:=by omega
      have oG:=ah (TM Dn (M:=9223372036854775807) (by omega) (by have:=HL.out;have:=o_.out;omega) DT.out jA.out WC.out BA.out hll)
      have y0:=au hb2 0 rfl;have y1:=au hb2 1 rfl;have y2:=aG hb2 0;have y3:=aG hb2 1;have y4:=lt_of_block hb2
      clear hb2
      generalize WG:t.isNone=q9 at*
      generalize WH:(leftOf t).length=M9 at*
      have OA:=ah WG;clear WG
      have HM9:=ah WH;clear WH
      have g1:=m_.out.r1
      have g2:=m_.out.r2
      have x0:=au g1 0 rfl
      have x1:=au g1 1 rfl
      have f0:=aG g1 0
      have f1:=aG g1 1
      have hl1:=lt_of_block g1
      have x2:=au g2 0 rfl
      have x3:=au g2 1 rfl
      have f2:=aG g2 0
      have f3:=aG g2 1
      have hl2:=lt_of_block g2
      have x4:wr.cell? ⟨w.heap.size+1+1+1,0,none⟩=some (.slice aV n cV):=au HG.out.b3 0 rfl
      have x5:wr.cell? ⟨w.heap.size+1+1+1,1,none⟩=some (.slice aK m cK):=au HG.out.b3 1 rfl
      have G1:=ah g1;clear g1
      have G2:=ah g2;clear g2
      go_wp2_with fail
      go_region
      all_goals
       clear x0 x1 x2 x3 x4 x5 f0 f1 f2 f3 hl1 hl2 y0 y1 y2 y3 y4
       obtain⟨y0,y1,y2,y3⟩:=DV (x0:= .slice aV n cV) (x1:= .slice aK m cK) (y0:= .slice a2 M9 c2) (y1:= .bool q9) G1.out G2.out _ rfl
       go_wp2
       exact bodyPost_ret (v:= .tuple #[.agg #[.slice aV n cV, .slice aK m cK], .agg #[.slice a2 M9 c2, .bool q9]]) (by simp[results,Tryz.results180,go_sem,y0,y1,y2,y3]) rfl (by have e1:=OA.out;have e2:=HM9.out;subst e1 e2;exact OL HG.out (s:=t) HR2.out HH0.out oG.out ((DU w wr _ _ _ _).aC (aj.drew ay _)))
open Go.RowKit
theorem adl {w0:World} {es:List aQ} {ks:aS} {bs r:List UInt8} (hg:rC jw 5 bs es ks r) (v:Value) (w:World) (h:bK w0 w v (some bs)) (h0:w0.heap.size≤w.heap.size) (hl:bs.length≤60000):
 Calls Tryz.prog 180 #[.agg #[v, .bool false], .int .i64 5] w fun e w'=>∃ev kv a l,e= .returned (.tuple #[.agg #[ev,kv], .agg #[.slice a r.length l, .bool false]])∧dh (fun b=>w.heap.size≤b) w' ev kv es ks∧bK w0 w' (.slice a r.length l) (some r)∧aj ay w w':=by
 refine Calls.mono (Wu 5 v (some bs) w (Nat.le_refl _) h h0 hl) fun e w' ⟨ev,kv,es',ks',s,a,l,he,ht,hr,hi,hf⟩=>?_
 rcases hr with⟨b2,r2,h1,h2,h3⟩|⟨_,h2⟩
 ·injection h1 with h1
  subst h1 h2
  have e2:fM es' ks'++r2=fM es ks++r:=by rw[←h3.eq,←hg.eq]
  obtain⟨⟨rfl,rfl⟩,rfl⟩:=ES e2
  exact⟨ev,kv,a,l,he,ht,hi,hf⟩
 ·exact absurd hg (h2 _ _ _ _ rfl)
theorem adn {w0:World} {st:Option (List UInt8)} (hg:∀bs es ks r,st=some bs→¬rC jw 5 bs es ks r) (v:Value) (w:World) (h:bK w0 w v st) (h0:w0.heap.size≤w.heap.size) (hl:(leftOf st).length≤60000):
 Calls Tryz.prog 180 #[.agg #[v, .bool st.isNone], .int .i64 5] w fun e w'=>∃a n c a2 n2 c2 a3 l3,e= .returned (.tuple #[.agg #[.slice a n c, .slice a2 n2 c2], .agg #[.slice a3 0 l3, .bool true]])∧bK w0 w' (.slice a3 0 l3) none∧aj ay w w':=by
 refine Calls.mono (Wu 5 v st w (Nat.le_refl _) h h0 hl) fun e w' ⟨ev,kv,es',ks',s,a,l,he,ht,hr,hi,hf⟩=>?_
 obtain⟨a0,c0,rfl⟩:=ht.ents.rd.sl
 obtain⟨os,hk,_⟩:=ht.kids
 obtain⟨a1,c1,rfl⟩:=hk.rd.sl
 rcases hr with⟨b2,r2,h1,h2,h3⟩|⟨rfl,_⟩
 ·exact absurd h3 (hg _ _ _ _ h1)
 ·exact⟨_,_,_,_,_,_,a,l,he,hi,hf⟩
def JQ (w0 w:World) (es:List aQ) (ks:aS) (s:Option (List UInt8)) (e:Ending) (w':World):Prop:=
 ∃ev kv a l,e= .returned (.tuple #[.agg #[ev,kv], .agg #[.slice a (leftOf s).length l, .bool s.isNone]])∧dh (fun b=>w.heap.size≤b) w' ev kv es ks∧bK w0 w' (.slice a (leftOf s).length l) s∧aj ay w w'
theorem OU {w0 w W W':World} {es:List aQ} {ks:aS} {ev kv:Value} {a:Option Addr} {l:Nat} {s:Option (List UInt8)} (ht:dh (fun b=>w.heap.size+1+1+1≤b) W ev kv es ks) (hr:bK w0 W (.slice a (leftOf s).length l) s) (h0:w0.heap.size≤w.heap.size) (hf:aj ay w W) (f:aj (XT w) W W'):
 JQ w0 w es ks s (.returned (.tuple #[.agg #[ev,kv], .agg #[.slice a (leftOf s).length l, .bool s.isNone]])) W':=by
 refine⟨ev,kv,a,l,rfl,ht.turn fun b hb hQ=>⟨f.block b hb fun hs=>?_,by have hQ:w.heap.size+1+1+1≤b:=hQ;omega⟩,hr.keep f fun k hk hs=>?_,hf.trans f fun i hi hs=>?_⟩
 ·have hQ:w.heap.size+1+1+1≤b:=hQ
  rcases hs with hs|hs|hs<;>omega
 ·rcases hs with hs|hs|hs<;>omega
 ·rcases hs with hs|hs|hs<;>omega
theorem oW.start3 {w0 w W:World} {a:Option Addr} {l:Nat} {st:Option (List UInt8)} (h:bK w0 w (.slice a (leftOf st).length l) st) (h0:w0.heap.size≤w.heap.size)
 (hW:W=((w.alloc (.cells #[.slice a (leftOf st).length l, .bool st.isNone] 115)).alloc (.cells #[.slice none 0 0, .slice none 0 0] 30)).alloc (.cells #[.slice none 0 0, .bool false] 115)):
 oW w0 w W st∧bK w0 W (.slice a (leftOf st).length l) st∧W.heap[w.heap.size]?=some (.cells #[.slice a (leftOf st).length l, .bool st.isNone] 115 (0,0))∧aj ay w W∧W.heap.size=w.heap.size+1+1+1:=by
 subst hW
 have f0:aj ay w (w.alloc (.cells #[.slice a (leftOf st).length l, .bool st.isNone] 115)):=aj.alloc _ _ _
 have f1:aj ay _ ((w.alloc (.cells #[.slice a (leftOf st).length l, .bool st.isNone] 115)).alloc (.cells #[.slice none 0 0, .slice none 0 0] 30)):=aj.alloc _ _ _
 have f2:aj ay _ (((w.alloc (.cells #[.slice a (leftOf st).length l, .bool st.isNone] 115)).alloc (.cells #[.slice none 0 0, .slice none 0 0] 30)).alloc (.cells #[.slice none 0 0, .bool false] 115)):=aj.alloc _ _ _
 have g0:=f2.blk (f1.blk (heap_alloc_new w (.cells #[.slice a (leftOf st).length l, .bool st.isNone] 115)) id) id
 have g1:=f2.blk (heap_alloc_new (w.alloc (.cells #[.slice a (leftOf st).length l, .bool st.isNone] 115)) (.cells #[.slice none 0 0, .slice none 0 0] 30)) id
 have g2:=heap_alloc_new ((w.alloc (.cells #[.slice a (leftOf st).length l, .bool st.isNone] 115)).alloc (.cells #[.slice none 0 0, .slice none 0 0] 30)) (.cells #[.slice none 0 0, .bool false] 115)
 have sz:∀(u:World) (o:Obj),(u.alloc o).heap.size=u.heap.size+1:=fun u o=>by simp
 simp only[sz]at g1 g2
 have hf:=(f0.aC f1).aC f2
 have hr:=h.aJ hf
 exact⟨⟨⟨a,l,hr,g0⟩,g1,g2,h0⟩,hr,g0,hf,by simp only[sz]⟩
theorem ado {w0:World} {v:Value} {st s:Option (List UInt8)} {es:List aQ} {ks:aS} (w:World) (h:bK w0 w v st) (h0:w0.heap.size≤w.heap.size) (hc:kH st es ks s) (hl:(leftOf st).length≤60000):
 Calls Tryz.prog 135 #[.agg #[v, .bool st.isNone]] w (JQ w0 w es ks s):=by
 obtain⟨a0,c0,rfl⟩:=h.shape
 obtain⟨WB,eU⟩:∃W,W=((w.alloc (.cells #[.slice a0 (leftOf st).length c0, .bool st.isNone] 115)).alloc (.cells #[.slice none 0 0, .slice none 0 0] 30)).alloc (.cells #[.slice none 0 0, .bool false] 115):=⟨_,rfl⟩
 obtain⟨hts,hrb,hbb,hfb,hsz⟩:=oW.start3 h h0 eU
 have m_:=ah hts;clear hts
 have tC:=ah hrb;clear hrb
 have zK:=ah hbb;clear hbb
 have dI:=ah hfb;clear hfb
 have kF:=ah hsz;clear hsz
 have HH0:=ah h0;clear h0
 clear h
 by_cases hg:∃bs es ks r,st=some bs∧rC jw 5 bs es ks r
 ·obtain⟨bs,es1,lH,r,rfl,hg⟩:=hg
  have HC:=ah (fun W v (hr:bK w0 W v (some bs)) (f:w0.heap.size≤W.heap.size)=>adl hg v W hr f hl)
  have hok:=(hg.tr Dn (Nat.le_trans hl (by decide))).1
  have dU:=ah (fun W Q ev kv (h:dh Q W ev kv es1 lH)=>Vu Q es1 lH W ev kv h hok)
  clear hok
  have dF:=ah (show WB=((w.alloc (.cells #[.slice a0 bs.length c0, .bool false] 115)).alloc (.cells #[.slice none 0 0, .slice none 0 0] 30)).alloc (.cells #[.slice none 0 0, .bool false] 115)from eU);clear eU
  have zK:=ah (show WB.heap[w.heap.size]?=some (.cells #[.slice a0 bs.length c0, .bool false] 115 (0,0))from zK.out)
  show Calls Tryz.prog 135 #[.agg #[.slice a0 bs.length c0, .bool false]] w (JQ w0 w es ks s)
  cases hr:dD 5 es1 lH with
  |true=>
   rw[hr]at dU
   obtain⟨⟨rfl,rfl⟩,rfl⟩:=hc.b_ (tree_good (B:=jw) (st:=some bs) (rest:=r) (.inl ⟨bs,r,rfl,rfl,hg⟩) hr)
   clear hr hg hl hc
   go_enter Tryz.func135,Tryz.ntmps135
   go_wp2_with(first
    |(go_at_call 180;rw[←dF.out];refine(HC.out WB _ tC.out (Nat.le_trans HH0.out dI.out.size)).mono ?_;rintro e w1 ⟨ev,kv,a3,l3,rfl,hta,hr1,hf1⟩;obtain⟨a4,c4,rfl⟩:=hta.ents.rd.sl;obtain⟨JR,sK,-⟩:=hta.kids;obtain⟨a5,c5,rfl⟩:=sK.rd.sl;clear sK
      generalize es.length=n at*
      generalize ks.len=m at*
      have hbw:=hf1.blk zK.out id;have y0:=au hbw 0 rfl;have y1:=au hbw 1 rfl;have y2:=aG hbw 0;have y3:=aG hbw 1;have y4:=lt_of_block hbw
      have f2:=fV w1 w.heap.size (.slice a3 r.length l3) (.bool false)
      have hsw:((w1.setCell ⟨w.heap.size,0,none⟩ (.slice a3 r.length l3)).setCell ⟨w.heap.size,1,none⟩ (.bool false)).heap.size=w1.heap.size:=by simp
      have hal:aj ay ((w1.setCell ⟨w.heap.size,0,none⟩ (.slice a3 r.length l3)).setCell ⟨w.heap.size,1,none⟩ (.bool false)) (((w1.setCell ⟨w.heap.size,0,none⟩ (.slice a3 r.length l3)).setCell ⟨w.heap.size,1,none⟩ (.bool false)).alloc (.cells #[.slice a4 n c4, .slice a5 m c5] 30)):=aj.alloc _ _ _
      have zL:=ah ((m_.out.put hf1 hr1 (L:=r.length) rfl (b:=false) rfl).keep hal)
      have hx2:=heap_alloc_new ((w1.setCell ⟨w.heap.size,0,none⟩ (.slice a3 r.length l3)).setCell ⟨w.heap.size,1,none⟩ (.bool false)) (.cells #[.slice a4 n c4, .slice a5 m c5] 30)
      rw[hsw]at hx2
      have FC:=ah hx2;clear hx2 hsw
      have HB2:=ah (hal.blk (bC (bC hbw 0 (.slice a3 r.length l3)) 1 (.bool false)) id)
      have HF2:=ah (((dI.out.aC hf1).trans f2 fun i hi e=>by have e:i=w.heap.size:=e;omega).aC hal)
      have HR2:=ah ((hr1.keep f2 fun k hk e=>by have e:k=w.heap.size:=e;have:=HH0.out;omega).aJ hal)
      have pR:=ah ((hta.turn (Q':=fun b=>w.heap.size+1+1+1≤b) fun b hb hQ=>⟨f2.block b hb (fun e=>by have e:b=w.heap.size:=e;have:=kF.out;have hQ:WB.heap.size≤b:=hQ;omega),by have:=kF.out;have hQ:WB.heap.size≤b:=hQ;omega⟩).aJ hal)
      clear hal f2 hta hr1 hf1 hbw)
    |(go_at_call 149;refine(dU.out _ _ _ _ pR.out).mono ?_;rintro e w3 ⟨rfl,hf3⟩;clear y0 y1 y2 y3 y4
      have g1:=(zL.out.keep hf3).r1
      have g2:=(zL.out.keep hf3).r2
      have x0:=au g1 0 rfl
      have x1:=au g1 1 rfl
      have f0:=aG g1 0
      have f1:=aG g1 1
      have hl1:=lt_of_block g1
      have x2:=au g2 0 rfl
      have x3:=au g2 1 rfl
      have f2:=aG g2 0
      have f3:=aG g2 1
      have hl2:=lt_of_block g2
      have G1:=ah g1;clear g1
      have G2:=ah g2;clear g2
      have hb3:=hf3.blk HB2.out id
      have y0:w3.cell? ⟨w.heap.size,0,none⟩=some (.slice a3 r.length l3):=au hb3 0 rfl
      have y1:w3.cell? ⟨w.heap.size,1,none⟩=some (.bool false):=au hb3 1 rfl
      have y4:=lt_of_block hb3
      have hx3:=hf3.blk FC.out id
      have z0:w3.cell? ⟨w1.heap.size,0,none⟩=some (.slice a4 n c4):=au hx3 0 rfl
      have z1:w3.cell? ⟨w1.heap.size,1,none⟩=some (.slice a5 m c5):=au hx3 1 rfl
      have z4:=lt_of_block hx3
      have HF3:=ah hf3
      clear hf3 hb3 hx3))
   go_region
   all_goals
    clear x0 x1 x2 x3 f0 f1 f2 f3 hl1 hl2 y0 y1 y4 z0 z1 z4
    obtain⟨y0,y1,y2,y3⟩:=DV (x0:= .slice a4 n c4) (x1:= .slice a5 m c5) (y0:= .slice a3 r.length l3) (y1:= .bool false) G1.out G2.out _ rfl
    go_wp2
    exact bodyPost_ret (v:= .tuple #[.agg #[.slice a4 n c4, .slice a5 m c5], .agg #[.slice a3 r.length l3, .bool false]]) (by simp[results,Tryz.results135,go_sem,y0,y1,y2,y3]) rfl (OU (s:=some r) (pR.out.aJ HF3.out) (HR2.out.aJ HF3.out) HH0.out (HF2.out.aC HF3.out) ((DU w w3 _ _ _ _).aC (aj.drew ay _)))
  |false=>
   rw[hr]at dU
   obtain⟨⟨rfl,rfl⟩,rfl⟩:=hc.b_ (TQ (B:=jw) (st:=some bs) (rest:=r) (.inl ⟨bs,r,rfl,rfl,hg⟩) hr)
   clear hr hg hl hc
   go_enter Tryz.func135,Tryz.ntmps135
   go_wp2_with(first
    |(go_at_call 180;rw[←dF.out];refine(HC.out WB _ tC.out (Nat.le_trans HH0.out dI.out.size)).mono ?_;rintro e w1 ⟨ev,kv,a3,l3,rfl,hta,hr1,hf1⟩;obtain⟨a4,c4,rfl⟩:=hta.ents.rd.sl;obtain⟨JR,sK,-⟩:=hta.kids;obtain⟨a5,c5,rfl⟩:=sK.rd.sl;clear sK
      generalize es1.length=n at*
      generalize lH.len=m at*
      have hbw:=hf1.blk zK.out id;have y0:=au hbw 0 rfl;have y1:=au hbw 1 rfl;have y2:=aG hbw 0;have y3:=aG hbw 1;have y4:=lt_of_block hbw
      have f2:=fV w1 w.heap.size (.slice a3 r.length l3) (.bool false)
      have hsw:((w1.setCell ⟨w.heap.size,0,none⟩ (.slice a3 r.length l3)).setCell ⟨w.heap.size,1,none⟩ (.bool false)).heap.size=w1.heap.size:=by simp
      have hal:aj ay ((w1.setCell ⟨w.heap.size,0,none⟩ (.slice a3 r.length l3)).setCell ⟨w.heap.size,1,none⟩ (.bool false)) (((w1.setCell ⟨w.heap.size,0,none⟩ (.slice a3 r.length l3)).setCell ⟨w.heap.size,1,none⟩ (.bool false)).alloc (.cells #[.slice a4 n c4, .slice a5 m c5] 30)):=aj.alloc _ _ _
      have zL:=ah ((m_.out.put hf1 hr1 (L:=r.length) rfl (b:=false) rfl).keep hal)
      have hx2:=heap_alloc_new ((w1.setCell ⟨w.heap.size,0,none⟩ (.slice a3 r.length l3)).setCell ⟨w.heap.size,1,none⟩ (.bool false)) (.cells #[.slice a4 n c4, .slice a5 m c5] 30)
      rw[hsw]at hx2
      have FC:=ah hx2;clear hx2 hsw
      have HB2:=ah (hal.blk (bC (bC hbw 0 (.slice a3 r.length l3)) 1 (.bool false)) id)
      have HF2:=ah (((dI.out.aC hf1).trans f2 fun i hi e=>by have e:i=w.heap.size:=e;omega).aC hal)
      have HR2:=ah ((hr1.keep f2 fun k hk e=>by have e:k=w.heap.size:=e;have:=HH0.out;omega).aJ hal)
      have pR:=ah ((hta.turn (Q':=fun b=>w.heap.size+1+1+1≤b) fun b hb hQ=>⟨f2.block b hb (fun e=>by have e:b=w.heap.size:=e;have:=kF.out;have hQ:WB.heap.size≤b:=hQ;omega),by have:=kF.out;have hQ:WB.heap.size≤b:=hQ;omega⟩).aJ hal)
      clear hal f2 hta hr1 hf1 hbw)
    |(go_at_call 149;refine(dU.out _ _ _ _ pR.out).mono ?_;rintro e w3 ⟨rfl,hf3⟩;have HF3:=ah hf3;clear hf3)
    |(go_at_call 134;refine(uP _).mono ?_;rintro e w9 ⟨rfl,bZ⟩;clear y0 y1 y2 y3 y4
      have g1:=(zL.out.keep (HF3.out.aC bZ)).r1
      have g2:=(zL.out.keep (HF3.out.aC bZ)).r2
      have x0:=au g1 0 rfl
      have x1:=au g1 1 rfl
      have f0:=aG g1 0
      have f1:=aG g1 1
      have hl1:=lt_of_block g1
      have x2:=au g2 0 rfl
      have x3:=au g2 1 rfl
      have f2:=aG g2 0
      have f3:=aG g2 1
      have hl2:=lt_of_block g2
      have G1:=ah g1;clear g1
      have G2:=ah g2;clear g2
      have uj:=ah (HF2.out.aC (HF3.out.aC bZ))
      clear bZ))
   clear x0 x1 x2 x3 f0 f1 f2 f3 hl1 hl2
   obtain⟨y0,y1,y2,y3⟩:=DV (x0:= .slice none 0 0) (x1:= .slice none 0 0) (y0:= .slice none 0 0) (y1:= .bool true) G1.out G2.out _ rfl
   exact bodyPost_ret (v:= .tuple #[.agg #[.slice none 0 0, .slice none 0 0], .agg #[.slice none 0 0, .bool true]]) (by simp[results,Tryz.results135,go_sem,y0,y1,y2,y3]) rfl (OU (a:=none) (l:=0) (s:=none) (tX _ _) (bK.bad w0 _) HH0.out uj.out (DU w w9 _ _ _ _))
 ·have hg':∀bs es ks r,st=some bs→¬rC jw 5 bs es ks r:=fun bs es ks r h1 h2=>hg ⟨bs,es,ks,r,h1,h2⟩
  have HC:=ah (fun W v (hr:bK w0 W v st) (f:w0.heap.size≤W.heap.size)=>adn hg' v W hr f hl)
  obtain⟨⟨rfl,rfl⟩,rfl⟩:=hc.b_ (TR (B:=jw) (es:=[]) (ks:= .nil) Nk (.inr ⟨rfl,hg'⟩:rD jw 5 st [] .nil none))
  clear hg hg' hl hc
  generalize st.isNone=bd at*
  generalize (leftOf st).length=L0 at*
  have dF:=ah eU;clear eU
  go_enter Tryz.func135,Tryz.ntmps135
  go_wp2_with(first
   |(go_at_call 180;rw[←dF.out];refine(HC.out WB _ tC.out (Nat.le_trans HH0.out dI.out.size)).mono ?_;rintro e w1 ⟨a4,n,c4,a5,m,c5,a3,l3,rfl,hr1,hf1⟩
     have hbw:=hf1.blk zK.out id;have y0:=au hbw 0 rfl;have y1:=au hbw 1 rfl;have y2:=aG hbw 0;have y3:=aG hbw 1;have y4:=lt_of_block hbw
     have f2:=fV w1 w.heap.size (.slice a3 0 l3) (.bool true)
     have hsw:((w1.setCell ⟨w.heap.size,0,none⟩ (.slice a3 0 l3)).setCell ⟨w.heap.size,1,none⟩ (.bool true)).heap.size=w1.heap.size:=by simp
     have hal:aj ay ((w1.setCell ⟨w.heap.size,0,none⟩ (.slice a3 0 l3)).setCell ⟨w.heap.size,1,none⟩ (.bool true)) (((w1.setCell ⟨w.heap.size,0,none⟩ (.slice a3 0 l3)).setCell ⟨w.heap.size,1,none⟩ (.bool true)).alloc (.cells #[.slice a4 n c4, .slice a5 m c5] 30)):=aj.alloc _ _ _
     have zL:=ah ((m_.out.put hf1 hr1 (L:=0) rfl (b:=true) rfl).keep hal)
     have hx2:=heap_alloc_new ((w1.setCell ⟨w.heap.size,0,none⟩ (.slice a3 0 l3)).setCell ⟨w.heap.size,1,none⟩ (.bool true)) (.cells #[.slice a4 n c4, .slice a5 m c5] 30)
     rw[hsw]at hx2
     have FC:=ah hx2;clear hx2 hsw
     have HB2:=ah (hal.blk (bC (bC hbw 0 (.slice a3 0 l3)) 1 (.bool true)) id)
     have HF2:=ah (((dI.out.aC hf1).trans f2 fun i hi e=>by have e:i=w.heap.size:=e;omega).aC hal)
     have HR2:=ah ((hr1.keep f2 fun k hk e=>by have e:k=w.heap.size:=e;have:=HH0.out;omega).aJ hal)
     clear hal f2 hr1 hf1 hbw)
   |(go_at_call 134;refine(uP _).mono ?_;rintro e w9 ⟨rfl,bZ⟩;clear y0 y1 y2 y3 y4
     have g1:=(zL.out.keep bZ).r1
     have g2:=(zL.out.keep bZ).r2
     have x0:=au g1 0 rfl
     have x1:=au g1 1 rfl
     have f0:=aG g1 0
     have f1:=aG g1 1
     have hl1:=lt_of_block g1
     have x2:=au g2 0 rfl
     have x3:=au g2 1 rfl
     have f2:=aG g2 0
     have f3:=aG g2 1
     have hl2:=lt_of_block g2
     have G1:=ah g1;clear g1
     have G2:=ah g2;clear g2
     have uj:=ah (HF2.out.aC bZ)
     clear bZ))
  clear x0 x1 x2 x3 f0 f1 f2 f3 hl1 hl2
  obtain⟨y0,y1,y2,y3⟩:=DV (x0:= .slice none 0 0) (x1:= .slice none 0 0) (y0:= .slice none 0 0) (y1:= .bool true) G1.out G2.out _ rfl
  exact bodyPost_ret (v:= .tuple #[.agg #[.slice none 0 0, .slice none 0 0], .agg #[.slice none 0 0, .bool true]]) (by simp[results,Tryz.results135,go_sem,y0,y1,y2,y3]) rfl (OU (a:=none) (l:=0) (s:=none) (tX _ _) (bK.bad w0 _) HH0.out uj.out (DU w w9 _ _ _ _))
end Go.Proofs.YtabkpccdnkjoiaaGreat
