/- Words for the law MsgDecodes: R16d, R16e. -/
import Derived.Test.YtabkpccdnkjoiaaGreatMsgDecodesG0
import Derived.Test.YtabkpccdnkjoiaaGreatMsgDecodesG1
import Derived.Test.YtabkpccdnkjoiaaGreatMsgDecodesG4
import Derived.Test.YtabkpccdnkjoiaaGreatMsgDecodesG9
import Derived.Test.YtabkpccdnkjoiaaGreatMsgDecodesG13
import Derived.Test.YtabkpccdnkjoiaaGreatMsgDecodesG14
import Derived.Test.YtabkpccdnkjoiaaGreatMsgDecodesG15
set_option linter.unusedSimpArgs false
set_option linter.unusedVariables false
set_option maxHeartbeats 32000000
set_option maxRecDepth 1000000
namespace Go.Proofs.YtabkpccdnkjoiaaGreat
open Go.RowKit
structure bK (w0 w:World) (v:Value) (st:Option (List UInt8)):Prop where
 mY:qE w v st.isNone st
 old:Old w0 v st
section
variable {w0 w w':World} {v:Value} {st:Option (List UInt8)}
theorem bK.keep (h:bK w0 w v st) {S:Nat→Prop} (f:aj S w w') (hS:∀k,k<w0.heap.size→¬S k):bK w0 w' v st:=⟨abr h.old h.mY f hS,h.old⟩
theorem bK.aJ (h:bK w0 w v st) (f:aj ay w w'):bK w0 w' v st:=h.keep f fun _ _=>id
theorem bK.shape (h:bK w0 w v st):∃a c,v= .slice a (leftOf st).length c:=h.mY.shape
theorem bK.bad (w0 w:World):bK w0 w (.slice none 0 0) none:=⟨⟨rfl,rfl⟩,fun h=>absurd rfl h⟩
def qL (w0 w:World) (u:Value) (st':Option (List UInt8)) (e:Ending) (w':World):Prop:=
 ∃a c,e= .returned (.tuple #[u, .agg #[.slice a (leftOf st').length c, .bool st'.isNone]])∧bK w0 w' (.slice a (leftOf st').length c) st'∧aj ay w w'
theorem oV {st':Option (List UInt8)} {m n:Int} (h:bK w0 w v st) (hs:dw st m n st') (hm2:m≤9223372036854775807) (jG:-9223372036854775808≤m):
 Calls Tryz.prog 64 #[.agg #[v, .bool st.isNone], .int .i64 m] w (qL w0 w (.int .i64 n) st'):=
 (Ug m v st.isNone st w h.mY hm2 jG).mono fun e w' ⟨n',v',bad',st2,he,hs2,hr,hu,hf⟩=>by
   obtain⟨rfl,rfl⟩:=hs.b_ hs2
   obtain⟨a,c,rfl⟩:=hr.shape
   obtain rfl:=hr.isNone
   exact⟨a,c,he,⟨hr,h.old.lu hs2 hu⟩,hf⟩
theorem Wh {st':Option (List UInt8)} {m:Int} {s:ByteArray} (h:bK w0 w v st) (hs:mX st m s st') (hm2:m≤9223372036854775807) (jG:-9223372036854775808≤m):
 Calls Tryz.prog 226 #[.agg #[v, .bool st.isNone], .int .i64 m] w (qL w0 w (.string s) st'):=
 (abp m v st.isNone st w h.mY hm2 jG).mono fun e w' ⟨n',v',bad',st2,he,hs2,hr,hu,hf⟩=>by
   obtain⟨rfl,rfl⟩:=hs.b_ hs2
   obtain⟨a,c,rfl⟩:=hr.shape
   obtain rfl:=hr.isNone
   exact⟨a,c,he,⟨hr,h.old.stepT hs2 hu⟩,hf⟩
end
theorem uP (w:World):Calls Tryz.prog 134 #[] w fun e w'=>e= .returned (.agg #[.slice none 0 0, .bool true])∧aj ay w w':=by
 go_enter Tryz.func134,Tryz.ntmps134
 go_wp2
 have hb:=heap_alloc_new w (.cells #[.slice none 0 0, .bool true] 115)
 have y0:=au hb 0 rfl
 have y1:=au hb 1 rfl
 exact bodyPost_ret (v:= .agg #[.slice none 0 0, .bool true]) (by simp[results,Tryz.results134,go_sem,y0,y1]) rfl ⟨rfl,aj.alloc ay w _⟩
structure um (w ww:World) (a b:Value) (R:Array Value) (T:TypeId):Prop where
 box:ww.heap[w.heap.size]?=some (.cells #[a,b] 115 (0,0))
 res:ww.heap[w.heap.size+1]?=some (.cells R T (0,0))
 aH:aj ay w ww
section
variable {w ww w':World} {a b:Value} {R:Array Value} {T:TypeId}
theorem um.start (w:World) (a b:Value) (R:Array Value) (T:TypeId):um w ((w.alloc (.cells #[a,b] 115)).alloc (.cells R T)) a b R T:=by
 obtain⟨h1,h2,_⟩:=uJ w (.cells #[a,b] 115) R T
 refine⟨?_,h1,h2⟩
 rw[Below.heap_alloc _ _ _ (by simp)]
 exact heap_alloc_new w _
theorem um.keep (h:um w ww a b R T) (f:aj ay ww w'):um w w' a b R T:=⟨f.blk h.box id,f.blk h.res id,h.aH.aC f⟩
theorem um.put (h:um w ww a b R T) (a' b':Value):um w ((ww.setCell ⟨w.heap.size,0,none⟩ a').setCell ⟨w.heap.size,1,none⟩ b') a' b' R T:=by
 obtain⟨h1,h2,h3⟩:=res2 h.box h.aH (Nat.le_refl _) a' b'
 exact⟨h1,(h3 _ (by omega)).trans h.res,h2⟩
theorem um.facts (h:um w ww a b R T):ww.cell? ⟨w.heap.size,0,none⟩=some a∧ww.cell? ⟨w.heap.size,1,none⟩=some b∧ww.frozen? ⟨w.heap.size,0,none⟩=false∧ww.frozen? ⟨w.heap.size,1,none⟩=false∧w.heap.size<ww.heap.size:=
 ⟨au h.box 0 rfl,au h.box 1 rfl,aG h.box 0,aG h.box 1,lt_of_block h.box⟩
end
theorem OE {w0:World} {v:Value} {st st':Option (List UInt8)} {n:Nat} (w:World) (h:bK w0 w v st) (h0:w0.heap.size≤w.heap.size) (hs:ji st 9223372036854775807 n st'):
 Calls Tryz.prog 181 #[.agg #[v, .bool st.isNone]] w (qL w0 w (.int .i64 n) st'):=by
 obtain⟨x,s1,h1,h2⟩:=hs
 have hxr:=ET h1
 obtain⟨a0,c0,rfl⟩:=h.shape
 have HB0:=ah (um.start w (.slice a0 (leftOf st).length c0) (.bool st.isNone) #[.slice none 0 0, .bool false] 115)
 have HN:=ah (fun W (f:aj ay w W)=>oV (h.aJ f) h1 (by omega) (by omega))
 unfold qL at HN
 clear h h1
 generalize st.isNone=bd at*
 generalize (leftOf st).length=L at*
 have OG:n=0→st'=none→(s1.isNone=true∨x<0∨((leftOf s1).length:Int)<x)→Calls Tryz.prog 181 #[.agg #[.slice a0 L c0, .bool bd]] w (qL w0 w (.int .i64 n) st'):=by
  rintro rfl rfl hbad
  clear h2
  have HH0:=ah h0;clear h0
  generalize (leftOf s1).length=L1 at*
  generalize s1.isNone=b1 at*
  have fin:∀w',aj ay w w'→qL w0 w (.int .i64 ((0:Nat):Int)) none (.returned (.tuple #[.int .i64 0, .agg #[.slice none 0 0, .bool true]])) w':=fun w' f=>⟨none,0,rfl,bK.bad w0 w',f⟩
  have FIN:=ah fin;clear fin
  cases b1 with
  |true=>
   clear hbad
   go_enter Tryz.func181,Tryz.ntmps181
   go_wp2_with(first
    |(go_at_call 64;refine(HN.out _ HB0.out.aH).mono ?_;rintro e w1 ⟨a1,c1,rfl,hr1,hf1⟩;have HB1:=ah ((HB0.out.keep hf1).put (.slice a1 L1 c1) (.bool true));obtain⟨y0,y1,y2,y3,y4⟩:=(HB0.out.keep hf1).facts;clear hr1 hf1)
    |(go_at_call 134;refine(uP _).mono ?_;rintro e w2 ⟨rfl,hf2⟩;clear y0 y1 y2 y3 y4;have HB2:=ah (HB1.out.keep hf2);have z0:=aG HB2.out.res 0;have z1:=aG HB2.out.res 1;have z2:=lt_of_block HB2.out.res;have z3:=au HB2.out.res 0 rfl;have z4:=au HB2.out.res 1 rfl;clear hf2))
   clear z0 z1 z2 z3 z4
   have hr:=res2 HB2.out.res HB2.out.aH (Nat.le_succ _) (.slice none 0 0) (.bool true)
   have y0:=au hr.1 0 rfl
   have y1:=au hr.1 1 rfl
   exact bodyPost_ret (v:= .tuple #[.int .i64 0, .agg #[.slice none 0 0, .bool true]]) (by simp[results,Tryz.results181,go_sem,y0,y1]) rfl (FIN.out _ hr.2.1)
  |false=>
   by_cases hx:x<0
   ·clear hbad
    go_enter Tryz.func181,Tryz.ntmps181
    go_wp2_with(first
     |(go_at_call 64;refine(HN.out _ HB0.out.aH).mono ?_;rintro e w1 ⟨a1,c1,rfl,hr1,hf1⟩;have HB1:=ah ((HB0.out.keep hf1).put (.slice a1 L1 c1) (.bool false));obtain⟨y0,y1,y2,y3,y4⟩:=(HB0.out.keep hf1).facts;clear hr1 hf1)
     |(go_at_call 134;refine(uP _).mono ?_;rintro e w2 ⟨rfl,hf2⟩;clear y0 y1 y2 y3 y4;have HB2:=ah (HB1.out.keep hf2);have z0:=aG HB2.out.res 0;have z1:=aG HB2.out.res 1;have z2:=lt_of_block HB2.out.res;have z3:=au HB2.out.res 0 rfl;have z4:=au HB2.out.res 1 rfl;clear hf2))
    clear z0 z1 z2 z3 z4
    have hr:=res2 HB2.out.res HB2.out.aH (Nat.le_succ _) (.slice none 0 0) (.bool true)
    have y0:=au hr.1 0 rfl
    have y1:=au hr.1 1 rfl
    exact bodyPost_ret (v:= .tuple #[.int .i64 0, .agg #[.slice none 0 0, .bool true]]) (by simp[results,Tryz.results181,go_sem,y0,y1]) rfl (FIN.out _ hr.2.1)
   ·have hlx:(L1:Int)<x:=by
     rcases hbad with h|h|h
     ·cases h
     ·exact absurd h hx
     ·exact h
    clear hbad
    go_enter Tryz.func181,Tryz.ntmps181
    go_wp2_with(first
     |(go_at_call 64;refine(HN.out _ HB0.out.aH).mono ?_;rintro e w1 ⟨a1,c1,rfl,hr1,hf1⟩;have HB1:=ah ((HB0.out.keep hf1).put (.slice a1 L1 c1) (.bool false));obtain⟨y0,y1,y2,y3,y4⟩:=(HB0.out.keep hf1).facts;clear hr1 hf1)
     |(go_at_call 134;refine(uP _).mono ?_;rintro e w2 ⟨rfl,hf2⟩;clear y0 y1 y2 y3 y4;have HB2:=ah (HB1.out.keep hf2);have z0:=aG HB2.out.res 0;have z1:=aG HB2.out.res 1;have z2:=lt_of_block HB2.out.res;have z3:=au HB2.out.res 0 rfl;have z4:=au HB2.out.res 1 rfl;clear hf2))
    clear z0 z1 z2 z3 z4
    have hr:=res2 HB2.out.res HB2.out.aH (Nat.le_succ _) (.slice none 0 0) (.bool true)
    have y0:=au hr.1 0 rfl
    have y1:=au hr.1 1 rfl
    exact bodyPost_ret (v:= .tuple #[.int .i64 0, .agg #[.slice none 0 0, .bool true]]) (by simp[results,Tryz.results181,go_sem,y0,y1]) rfl (FIN.out _ hr.2.1)
 cases s1 with
 |none=>exact OG h2.1 h2.2 (.inl rfl)
 |some r=>
  rcases h2 with⟨hx0,hxl,rfl,rfl⟩|⟨hb,h3,h4⟩
  ·clear OG
   obtain⟨n,rfl⟩:=Int.eq_ofNat_of_zero_le hx0
   have HH0:=ah h0;clear h0
   have FIN:=ah (fun a c w' (hr:bK w0 w' (.slice a r.length c) (some r)) (f:aj ay w w')=>(⟨a,c,rfl,hr,f⟩:qL w0 w (.int .i64 ((n:Int).toNat:Int)) (some r) (.returned (.tuple #[.int .i64 n, .agg #[.slice a r.length c, .bool false]])) w'))
   have hsh:(leftOf (some r)).length=r.length:=rfl
   simp only[leftOf,Option.isNone]at HN
   generalize hR:r.length=R1 at*
   have HR:=ah hR;clear hR hsh
   go_enter Tryz.func181,Tryz.ntmps181
   go_wp2_with(go_at_call 64;refine(HN.out _ HB0.out.aH).mono ?_;rintro e w1 ⟨a1,c1,rfl,hr1,hf1⟩;have HB1:=ah ((HB0.out.keep hf1).put (.slice a1 R1 c1) (.bool false));obtain⟨y0,y1,y2,y3,y4⟩:=(HB0.out.keep hf1).facts;have HR1:=ah hr1;clear hr1 hf1)
   clear y0 y1 y2 y3 y4
   have hts:=fV w1 w.heap.size (.slice a1 R1 c1) (.bool false)
   generalize (w1.setCell ⟨w.heap.size,0,none⟩ (.slice a1 R1 c1)).setCell ⟨w.heap.size,1,none⟩ (.bool false)=W1 at*
   have HRI:=ah (HR1.out.keep hts fun k hk hs=>by have hs:k=w.heap.size:=hs;have:=HH0.out;omega);clear hts
   obtain⟨y0,y1,y2,y3,y4⟩:=HB1.out.facts
   have z0:=aG HB1.out.res 0
   have z1:=aG HB1.out.res 1
   have z2:=lt_of_block HB1.out.res
   have z3:=au HB1.out.res 0 rfl
   have z4:=au HB1.out.res 1 rfl
   go_region
   all_goals
    clear y0 y1 y2 y3 y4 z0 z1 z2 z3 z4
    have hr:=res2 HB1.out.res HB1.out.aH (Nat.le_succ _) (.slice a1 R1 c1) (.bool false)
    have hts:=fV W1 (w.heap.size+1) (.slice a1 R1 c1) (.bool false)
    have y0:=au hr.1 0 rfl
    have y1:=au hr.1 1 rfl
    go_wp2
    exact bodyPost_ret (v:= .tuple #[.int .i64 n, .agg #[.slice a1 R1 c1, .bool false]]) (by simp[results,Tryz.results181,go_sem,y0,y1]) rfl (FIN.out _ _ _ ((HRI.out.keep hts fun k hk hs=>by have hs:k=w.heap.size+1:=hs;have:=HH0.out;omega).aJ (aj.drew ay _)) (hr.2.1.aC (aj.drew ay _)))
  ·exact OG h3 h4 (.inr hb)
open Go.RowKit
theorem ji.total (st:Option (List UInt8)) (m:Int):∃n st',ji st m n st':=by
 obtain⟨v,s1,h1⟩:=dw.total st m
 cases s1 with
 |none=>exact⟨0,none,v,none,h1,rfl,rfl⟩
 |some r=>
  by_cases h:0≤v∧v≤r.length
  ·exact⟨v.toNat,some r,v,some r,h1, .inl ⟨h.1,h.2,rfl,rfl⟩⟩
  ·exact⟨0,none,v,some r,h1, .inr ⟨by omega,rfl,rfl⟩⟩
structure dH (w0 w wr W:World) (B:Nat) (T:TypeId) (cs:Array Value) (v:Value) (t:Option (List UInt8)):Prop where
 rin:bK w0 W v t
 box:W.heap[w.heap.size]?=some (.cells #[v, .bool t.isNone] 115 (0,0))
 blk:W.heap[B]?=some (.cells cs T (0,0))
 aH:aj (Only w.heap.size) wr W
 new:wr.heap.size≤B
 old:w.heap.size<wr.heap.size
 h0:w0.heap.size≤w.heap.size
section
variable {w0 w wr W W1:World} {B:Nat} {T:TypeId} {cs:Array Value} {v v':Value} {t t':Option (List UInt8)}
theorem dH.call (h:dH w0 w wr W B T cs v t) (f:aj ay W W1):dH w0 w wr W1 B T cs v t:=
 ⟨h.rin.aJ f,f.blk h.box id,f.blk h.blk id,h.aH.trans f fun _ _ s=>s.elim,h.new,h.old,h.h0⟩
theorem dH.put (h:dH w0 w wr W B T cs v t) (hr:bK w0 W v' t'):dH w0 w wr ((W.setCell ⟨w.heap.size,0,none⟩ v').setCell ⟨w.heap.size,1,none⟩ (.bool t'.isNone)) B T cs v' t':=
 have f:=fV W w.heap.size v' (.bool t'.isNone)
 ⟨hr.keep f fun k hk hs=>(by have hs:k=w.heap.size:=hs;have:=h.h0;omega),bC (bC h.box 0 v') 1 _,f.blk h.blk fun hs=>(by have hs:B=w.heap.size:=hs;have:=h.new;have:=h.old;omega),h.aH.trans f fun _ _ s=>s,h.new,h.old,h.h0⟩
theorem dH.je (h:dH w0 w wr W B T cs v t) (j:Nat) (x:Value):dH w0 w wr (W.setCell ⟨B,j,none⟩ x) B T (cs.setIfInBounds j x) v t:=
 have f:=dG W B j x
 have ne:w.heap.size≠B:=by have:=h.new;have:=h.old;omega
 ⟨h.rin.keep f fun k hk hs=>(by have hs:k=B:=hs;have:=h.h0;have:=h.new;have:=h.old;omega),f.blk h.box ne,bC h.blk j x,h.aH.trans f fun i hi hs=>(by have hs:i=B:=hs;have:=h.new;omega),h.new,h.old,h.h0⟩
theorem dH.facts (h:dH w0 w wr W B T cs v t):W.cell? ⟨w.heap.size,0,none⟩=some v∧W.cell? ⟨w.heap.size,1,none⟩=some (.bool t.isNone)∧W.frozen? ⟨w.heap.size,0,none⟩=false∧W.frozen? ⟨w.heap.size,1,none⟩=false∧w.heap.size<W.heap.size∧B<W.heap.size∧¬B=w.heap.size∧¬w.heap.size=B:=
 ⟨au h.box 0 rfl,au h.box 1 rfl,aG h.box 0,aG h.box 1,lt_of_block h.box,lt_of_block h.blk,by have:=h.new;have:=h.old;omega,by have:=h.new;have:=h.old;omega⟩
theorem dH.next (h:dH w0 w wr W B T cs v t) (f:aj ay W W1) (hr:bK w0 W1 v' t') (j:Nat) (x:Value):
 dH w0 w wr (((W1.setCell ⟨B,j,none⟩ x).setCell ⟨w.heap.size,0,none⟩ v').setCell ⟨w.heap.size,1,none⟩ (.bool t'.isNone)) B T (cs.setIfInBounds j x) v' t':=
 ((h.call f).je j x).put (hr.keep (dG W1 B j x) fun k hk hs=>(by have hs:k=B:=hs;have:=h.h0;have:=h.new;have:=h.old;omega))
theorem dH.free (h:dH w0 w wr W B T cs v t) (j:Nat):W.frozen? ⟨B,j,none⟩=false:=aG h.blk j
end
structure DN (w0 w W:World) (s1:Option (List UInt8)) (k:Nat) (cv:Value) (cs:aX) (s:Option (List UInt8)):Prop where
 run:ru jw s1 k cs s
 box:∃a l,bK w0 W (.slice a (leftOf s).length l) s∧um w W (.slice a (leftOf s).length l) (.bool s.isNone) #[.slice none 0 0, .bool false] 115
 own:W.ownsRow 0 144 3 cv k (fJ cs)
 new:∀b,cv.ownBlock=some b→w.heap.size+1+1≤b
theorem DN.next {w0 w WO W w6:World} {s1 t0 t3:Option (List UInt8)} {k:Nat} {cv cv':Value} {cs:aX} {B:Nat} {T:TypeId} {cs8:Array Value} {al:Option Addr} {cl:Nat} {d a b:Int} (h:DN w0 w WO s1 k cv cs t0) (hs:dH w0 w WO W B T cs8 (.slice al (leftOf t3).length cl) t3) (hsp:nR jw t0 (d,a,b) t3)
 (kX:w6.ownsRow 0 144 3 cv' (k+1) (fJ cs++ [.int .i64 d, .int .i64 a, .int .i64 b])) (dV:aj (eY cv) W w6) (kY:gZ W cv cv'):DN w0 w w6 s1 (k+1) cv' (cs++ [(d,a,b)]) t3:=by
 obtain⟨a2,c2,_,hb2⟩:=h.box
 have hr:W.heap[w.heap.size+1]?=some (.cells #[.slice none 0 0, .bool false] 115 (0,0)):=hs.aH.blk hb2.res fun e=>by have e:w.heap.size+1=w.heap.size:=e;omega
 have hlt:=lt_of_block hr
 have n0:¬eY cv w.heap.size:=fun e=>by have:=h.new _ e;omega
 have n1:¬eY cv (w.heap.size+1):=fun e=>by have:=h.new _ e;omega
 refine⟨.snoc h.run hsp,⟨al,cl,hs.rin.keep dV fun j hj e=>(by have:=h.new j e;have:=hs.h0;omega),dV.blk hs.box n0,dV.blk hr n1,?_⟩,by rw[←Ul];exact kX,fun j hj=>?_⟩
 ·exact(hb2.aH.trans hs.aH fun i hi e=>by have e:i=w.heap.size:=e;omega).trans dV fun i hi e=>by have:=h.new i e;omega
 ·rcases kY j hj with e|e
  ·exact h.new j e
  ·omega
theorem DN.done {w0 w W w':World} {s1 s:Option (List UInt8)} {k:Nat} {cv:Value} {cs:aX} (h:DN w0 w W s1 k cv cs s) (f:aj (Only (w.heap.size+1)) W w'):eH (fun b=>w.heap.size≤b) w' cv cs.length (fJ cs):=by
 rw[h.run.len]
 exact⟨Rd.own (f.owns h.own fun j hj e=>by have e:j=w.heap.size+1:=e;have:=h.new j hj;omega),fun _ j hj=>by have:=h.new j hj;omega⟩
def Wi (w0 w:World) (c:aX) (s:Option (List UInt8)) (e:Ending) (w':World):Prop:=
 ∃cv a l,e= .returned (.tuple #[cv, .agg #[.slice a (leftOf s).length l, .bool s.isNone]])∧eH (fun b=>w.heap.size≤b) w' cv c.length (fJ c)∧bK w0 w' (.slice a (leftOf s).length l) s∧aj ay w w'
theorem adb {w0:World} {v:Value} {st s:Option (List UInt8)} {c:aX} (w:World) (h:bK w0 w v st) (h0:w0.heap.size≤w.heap.size) (hc:kV st c s) (hl:(leftOf st).length≤60000):
 Calls Tryz.prog 136 #[.agg #[v, .bool st.isNone]] w (Wi w0 w c s):=by
 obtain⟨i0,hi,hz0,hz1,hz2⟩:=info_parts xw
 obtain⟨n,s1,hcnt⟩:=ji.total st 9223372036854775807
 have Ut:n≤60000:=by have:=hcnt.left;omega
 obtain⟨a0,c0,rfl⟩:=h.shape
 have HB0:=ah (um.start w (.slice a0 (leftOf st).length c0) (.bool st.isNone) #[.slice none 0 0, .bool false] 115)
 have HM:=ah (fun W (f:aj ay w W)=>OE W (h.aJ f) (Nat.le_trans h0 f.size) hcnt)
 unfold qL at HM
 have HH0:=ah h0;clear h0
 have DT:=ah hcnt;clear hcnt
 have HC:=ah hc;clear hc
 have HL:=ah hl;clear hl
 clear h
 generalize st.isNone=bd at*
 generalize Wj:(leftOf st).length=L0 at*
 have o_:=ah Wj;clear Wj
 generalize hL1:(leftOf s1).length=L1 at*
 generalize hb1:s1.isNone=b1 at*
 have oL:=ah hL1;clear hL1
 have OH:=ah hb1;clear hb1
 go_enter Tryz.func136,Tryz.ntmps136
 go_wp2_with(go_at_call 181;refine(HM.out _ HB0.out.aH).mono ?_;rintro e w1 ⟨a1,c1,rfl,hr1,hf1⟩;have HB1:=ah ((HB0.out.keep hf1).put (.slice a1 L1 c1) (.bool b1));obtain⟨y0,y1,y2,y3,y4⟩:=(HB0.out.keep hf1).facts;have HR1:=ah hr1;clear hr1 hf1)
 go_loopw [4,14] (fun cv i W=>∃(k:Nat) (cs:aX) (s:Option (List UInt8)),k≤n∧i= .int .i64 k∧DN w0 w W s1 k cv cs s) (fun _ i _=>n-(intOf i).toNat)
 case atStart=>
  have e1:=oL.out
  have e2:=OH.out
  subst e1 e2
  exact⟨0,[],s1,Nat.zero_le _,rfl, .zero,⟨a1,c1,HR1.out.keep (fV _ _ _ _) (fun k hk hs=>by have hs:k=w.heap.size:=hs;have:=HH0.out;omega),HB1.out⟩,World.ownsRow_nil _ 0 _ 3,fun b hb=>by simp[Value.ownBlock]at hb⟩
 case round=>
  clear HB1 HR1 y0 y1 y2 y3 y4
  obtain⟨k,cs,t0,hk,rfl,htc⟩:=hrel
  obtain⟨aV,cV,rfl⟩:=(Rd.own htc.own).sl
  have uQ:=ah htc;clear htc
  by_cases hlt:k<n
  ·obtain⟨d,a,b,t1,t2,t3,g1,g2,g3⟩:=nR.total jw t0
   obtain⟨a2,c2,hr2,hb2⟩:=uQ.out.box
   have Wn:∀(WA:World),aj ay wr WA→WA.heap[wr.heap.size]?=some (.cells #[.int .i64 0, .int .i64 0, .int .i64 0] 116 (0,0))→dH w0 w wr WA wr.heap.size 116 #[.int .i64 0, .int .i64 0, .int .i64 0] (.slice a2 (leftOf t0).length c2) t0:=
    fun WA f hB=>⟨hr2.aJ f,f.blk hb2.box id,hB,f.mono fun _ _ s=>s.elim,Nat.le_refl _,lt_of_block hb2.box,HH0.out⟩
   have Gf:=ah Wn;clear Wn
   have mO:=ah hb2.aH
   obtain⟨y0,y1,y2,y3,y4⟩:=hb2.facts
   clear hr2 hb2
   have fZ:=ah (fun W a l (hs:bK w0 W (.slice a (leftOf t0).length l) t0)=>oV hs g1 (by decide) (by decide))
   have HG2:=ah (fun W a l (hs:bK w0 W (.slice a (leftOf t1).length l) t1)=>oV hs g2 (by decide) (by decide))
   have gW:=ah (fun W a l (hs:bK w0 W (.slice a (leftOf t2).length l) t2)=>oV hs g3 (by decide) (by decide))
   have tu:=ah (show nR jw t0 (d,a,b) t3 from⟨t1,t2,g1,g2,g3⟩)
   unfold qL at fZ HG2 gW
   simp only[jw]at fZ HG2 gW
   clear g1 g2 g3
   have DL:=ah (heap_alloc_new wr (.cells #[.int .i64 0, .int .i64 0, .int .i64 0] 116))
   obtain⟨WO,Gg⟩:∃W,W=wr:=⟨wr,rfl⟩
   subst Gg
   go_wp2
   go_loopw [16] (fun j W=>∃(J:Nat) (x y z:Int) (t:Option (List UInt8)) (al:Option Addr) (cl:Nat),((J=0∧x=0∧y=0∧z=0∧t=t0)∨(J=1∧x=d∧y=0∧z=0∧t=t1)∨(J=2∧x=d∧y=a∧z=0∧t=t2)∨(J=3∧x=d∧y=a∧z=b∧t=t3))∧j= .int .i64 J∧dH w0 w WO W WO.heap.size 116 #[.int .i64 x, .int .i64 y, .int .i64 z] (.slice al (leftOf t).length cl) t) (fun j _=>3-(intOf j).toNat)
   case atStart=>exact⟨0,0,0,0,t0,a2,c2, .inl ⟨rfl,rfl,rfl,rfl,rfl⟩,rfl,Gf.out _ (aj.alloc _ _ _) DL.out⟩
   case round=>
    clear y0 y1 y2 y3
    obtain⟨J,x,y,z,t,al,cl,hcase,rfl,hs⟩:=hrel
    rcases hcase with⟨rfl,rfl,rfl,rfl,rfl⟩|⟨rfl,rfl,rfl,rfl,rfl⟩|⟨rfl,rfl,rfl,rfl,rfl⟩|⟨rfl,rfl,rfl,rfl,rfl⟩
    ·have bH:=ah (fZ.out wr al cl hs.rin)
     obtain⟨y0,y1,-⟩:=hs.facts
     have HS:=ah hs;clear hs fZ HG2 gW Gf
     generalize (leftOf t).length=Lx at*
     generalize t.isNone=bx at*
     generalize jW:(leftOf t1).length=Ly at*
     generalize hby:t1.isNone=by' at*
     have oh:=ah jW;clear jW
     have jm:=ah hby;clear hby
     go_wp2_with(go_at_call 64;refine bH.out.mono ?_;rintro e W1 ⟨a5,c5,rfl,gI,hf5⟩;clear y0 y1;obtain⟨z0,z1,z2,z3,z4,z5,z6,z7⟩:=(HS.out.call hf5).facts;have z8:=(HS.out.call hf5).free 0;have z9:=au (HS.out.call hf5).blk 0 rfl;have iJ:=ah hf5;have oq:=ah gI;clear hf5 gI)
     go_roundw
     case rel=>
      have e1:=oh.out
      have e2:=jm.out
      subst e1 e2
      exact⟨1,d,0,0,t1,a5,c5, .inr (.inl ⟨rfl,rfl,rfl,rfl,rfl⟩),by go_num,HS.out.next iJ.out oq.out 0 (.int .i64 d)⟩
     case measure=>simp[intOf]
    ·have bH:=ah (HG2.out wr al cl hs.rin)
     obtain⟨y0,y1,-⟩:=hs.facts
     have HS:=ah hs;clear hs fZ HG2 gW Gf
     generalize (leftOf t).length=Lx at*
     generalize t.isNone=bx at*
     generalize jW:(leftOf t2).length=Ly at*
     generalize hby:t2.isNone=by' at*
     have oh:=ah jW;clear jW
     have jm:=ah hby;clear hby
     go_wp2_with(go_at_call 64;refine bH.out.mono ?_;rintro e W1 ⟨a5,c5,rfl,gI,hf5⟩;clear y0 y1;obtain⟨z0,z1,z2,z3,z4,z5,z6,z7⟩:=(HS.out.call hf5).facts;have z8:=(HS.out.call hf5).free 1;have z9:=au (HS.out.call hf5).blk 1 rfl;have iJ:=ah hf5;have oq:=ah gI;clear hf5 gI)
     go_roundw
     case rel=>
      have e1:=oh.out
      have e2:=jm.out
      subst e1 e2
      exact⟨2,x,a,0,t2,a5,c5, .inr (.inr (.inl ⟨rfl,rfl,rfl,rfl,rfl⟩)),by go_num,HS.out.next iJ.out oq.out 1 (.int .i64 a)⟩
     case measure=>simp[intOf]
    ·have bH:=ah (gW.out wr al cl hs.rin)
     obtain⟨y0,y1,-⟩:=hs.facts
     have HS:=ah hs;clear hs fZ HG2 gW Gf
     generalize (leftOf t).length=Lx at*
     generalize t.isNone=bx at*
     generalize jW:(leftOf t3).length=Ly at*
     generalize hby:t3.isNone=by' at*
     have oh:=ah jW;clear jW
     have jm:=ah hby;clear hby
     go_wp2_with(go_at_call 64;refine bH.out.mono ?_;rintro e W1 ⟨a5,c5,rfl,gI,hf5⟩;clear y0 y1;obtain⟨z0,z1,z2,z3,z4,z5,z6,z7⟩:=(HS.out.call hf5).facts;have z8:=(HS.out.call hf5).free 2;have z9:=au (HS.out.call hf5).blk 2 rfl;have iJ:=ah hf5;have oq:=ah gI;clear hf5 gI)
     go_roundw
     case rel=>
      have e1:=oh.out
      have e2:=jm.out
      subst e1 e2
      exact⟨3,x,y,b,t3,a5,c5, .inr (.inr (.inr ⟨rfl,rfl,rfl,rfl,rfl⟩)),by go_num,HS.out.next iJ.out oq.out 2 (.int .i64 b)⟩
     case measure=>simp[intOf]
    ·have z0:=au hs.blk 0 rfl
     have z1:=au hs.blk 1 rfl
     have z2:=au hs.blk 2 rfl
     have hown:=hs.aH.owns uQ.out.own fun j hj e=>by have e:j=w.heap.size:=e;have:=uQ.out.new j hj;omega
     have HOWN:=ah hown;clear hown
     have HS:=ah hs;clear hs fZ HG2 gW Gf
     go_wp2_with(at_builtin;refine vW wr [.int .i64 x, .int .i64 y, .int .i64 z] rfl (.tmp 27) (.tmp 35) 32 rfl 144 i0 _ 3 24 Tryz.underlying32 hi hz0 hz1 hz2 (by decide) (by decide) _ _ _ HOWN.out 1 1 rfl rfl rfl ?c1 ?c2 ?c3 ?_)
     case c1=>simp[Value.oneCell']
     case c2=>simp only[maxLen];omega
     case c3=>omega
     intro ad cc w6 kX dV kY
     have ade:=ah (uQ.out.next HS.out tu.out kX dV kY)
     clear kX dV kY z0 z1 z2
     go_wp2
     go_roundw
     case rel=>exact⟨k+1,_,_,by omega,by go_num,ade.out⟩
     case measure=>simp[intOf];omega
  ·obtain rfl:n=k:=by omega
   obtain⟨a2,c2,hr2,hb2⟩:=uQ.out.box
   have hlen:=uQ.out.run.len
   have e0:=o_.out
   have hlm:((leftOf st).length:Int)≤9223372036854775807:=by have:=HL.out;omega
   have hok:=ru.fits uQ.out.run
   have Wp:=fun(W:World) (f:aj (Only (w.heap.size+1)) wr W)=>QY W (.slice aV n cV) cs (by have h:=(uQ.out.done f).rd;rw[hlen]at h;unfold jf;rw[hlen];exact h) hok (by omega)
   have fU:=ah (Wp wr (aj.refl _ _));clear Wp hok
   have HR2:=ah hr2;clear hr2
   obtain⟨y0,y1,y2,y3,y4⟩:=hb2.facts
   have OI:=ah hb2;clear hb2
   cases t0 with
   |none=>
    obtain⟨rfl,rfl⟩:=HC.out.b_ (Jo Dn Nk (M:=9223372036854775807) (by decide) hlm DT.out uQ.out.run (.inl rfl))
    clear hlm e0 hlen
    go_wp2_with(go_at_call 134;refine(uP _).mono ?_;rintro e w2 ⟨rfl,hf2⟩;clear y0 y1 y2 y3 y4;have HB2:=ah (OI.out.keep hf2);have z0:=aG HB2.out.res 0;have z1:=aG HB2.out.res 1;have z2:=lt_of_block HB2.out.res;have z3:=au HB2.out.res 0 rfl;have z4:=au HB2.out.res 1 rfl;clear hf2)
    clear z0 z1 z2 z3 z4
    have vN:=res2 HB2.out.res HB2.out.aH (Nat.le_succ _) (.slice none 0 0) (.bool true)
    have y0:=au vN.1 0 rfl
    have y1:=au vN.1 1 rfl
    exact bodyPost_ret (v:= .tuple #[.slice none 0 0, .agg #[.slice none 0 0, .bool true]]) (by simp[results,Tryz.results136,go_sem,y0,y1]) rfl ⟨_,none,0,rfl,⟨.inl ⟨none,rfl,rfl,rfl⟩,fun h=>absurd rfl h⟩,bK.bad w0 _,vN.2.1⟩
   |some r=>
    by_cases hr:dN cs
    ·rw[dO hr]at fU
     obtain⟨rfl,rfl⟩:=HC.out.b_ (TS DT.out uQ.out.run hr)
     clear hr hlm e0 hlen
     simp only[leftOf,Option.isNone]at y0 y1
     go_wp2_with(go_at_call 150;refine fU.out.mono ?_;rintro e w2 ⟨rfl,hf2⟩;have HF2:=ah hf2;clear y0 y1 y2 y3 y4;have HB2:=ah (OI.out.keep hf2);obtain⟨y0,y1,y2,y3,y4⟩:=HB2.out.facts;have z0:=aG HB2.out.res 0;have z1:=aG HB2.out.res 1;have z2:=lt_of_block HB2.out.res;have z3:=au HB2.out.res 0 rfl;have z4:=au HB2.out.res 1 rfl;clear hf2)
     simp only[leftOf,Option.isNone]at y0 y1
     go_region
     all_goals
      clear y0 y1 y2 y3 y4 z0 z1 z2 z3 z4
      have vN:=res2 HB2.out.res HB2.out.aH (Nat.le_succ _) (.slice a2 r.length c2) (.bool false)
      have hts:=fV w2 (w.heap.size+1) (.slice a2 r.length c2) (.bool false)
      have y0:=au vN.1 0 rfl
      have y1:=au vN.1 1 rfl
      go_wp2
      exact bodyPost_ret (v:= .tuple #[.slice aV n cV, .agg #[.slice a2 r.length c2, .bool false]]) (by simp[results,Tryz.results136,go_sem,y0,y1]) rfl
       ⟨_,a2,c2,rfl,uQ.out.done (((HF2.out.mono fun _ _ s=>s.elim).trans hts fun _ _ s=>s).aC (aj.drew ay _)),((HR2.out.aJ HF2.out).keep hts fun k hk hs=>by have hs:k=w.heap.size+1:=hs;have:=HH0.out;omega).aJ (aj.drew ay _),vN.2.1.aC (aj.drew ay _)⟩
    ·rw[bf hr]at fU
     obtain⟨rfl,rfl⟩:=HC.out.b_ (Jo Dn Nk (M:=9223372036854775807) (by decide) hlm DT.out uQ.out.run (.inr hr))
     clear hr hlm e0 hlen
     simp only[leftOf,Option.isNone]at y0 y1
     go_wp2_with(first
      |(go_at_call 150;refine fU.out.mono ?_;rintro e w8 ⟨rfl,cZ⟩;clear y0 y1 y2 y3 y4;have Wq:=ah (OI.out.keep cZ);obtain⟨y0,y1,y2,y3,y4⟩:=Wq.out.facts;clear cZ)
      |(go_at_call 134;refine(uP _).mono ?_;rintro e w2 ⟨rfl,hf2⟩;clear y0 y1 y2 y3 y4;have HB2:=ah (Wq.out.keep hf2);have z0:=aG HB2.out.res 0;have z1:=aG HB2.out.res 1;have z2:=lt_of_block HB2.out.res;have z3:=au HB2.out.res 0 rfl;have z4:=au HB2.out.res 1 rfl;clear hf2))
     clear z0 z1 z2 z3 z4
     have vN:=res2 HB2.out.res HB2.out.aH (Nat.le_succ _) (.slice none 0 0) (.bool true)
     have y0:=au vN.1 0 rfl
     have y1:=au vN.1 1 rfl
     exact bodyPost_ret (v:= .tuple #[.slice none 0 0, .agg #[.slice none 0 0, .bool true]]) (by simp[results,Tryz.results136,go_sem,y0,y1]) rfl ⟨_,none,0,rfl,⟨.inl ⟨none,rfl,rfl,rfl⟩,fun h=>absurd rfl h⟩,bK.bad w0 _,vN.2.1⟩
end Go.Proofs.YtabkpccdnkjoiaaGreat
