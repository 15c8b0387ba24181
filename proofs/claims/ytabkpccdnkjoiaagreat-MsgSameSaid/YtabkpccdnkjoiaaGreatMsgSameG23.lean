/- Words for the law MsgSame: R25a, MsgDecP, MsgBld, MsgTo. -/
import Derived.Test.YtabkpccdnkjoiaaGreatMsgSameG0
import Derived.Test.YtabkpccdnkjoiaaGreatMsgSameG8
import Derived.Test.YtabkpccdnkjoiaaGreatMsgSameG9
import Derived.Test.YtabkpccdnkjoiaaGreatMsgSameG14
import Derived.Test.YtabkpccdnkjoiaaGreatMsgSameG18
import Derived.Test.YtabkpccdnkjoiaaGreatMsgSameG19
import Derived.Test.YtabkpccdnkjoiaaGreatMsgSameG20
import Derived.Test.YtabkpccdnkjoiaaGreatMsgSameG21
import Derived.Test.YtabkpccdnkjoiaaGreatMsgSameG22
set_option linter.unusedSimpArgs false
set_option linter.unusedVariables false
set_option maxHeartbeats 32000000
set_option maxRecDepth 1000000
namespace Go.Proofs.YtabkpccdnkjoiaaGreat
open Go.RowKit
theorem ZY:fP [] .nil []:=⟨⟨⟨Nat.zero_le _,fun e he=>by cases he⟩,Nat.zero_le _,trivial⟩,Nat.zero_le _,fun s hs=>(by cases hs),Nat.zero_le _⟩
theorem DC (Q:Nat→Prop) (w:World):fH Q w (.slice none 0 0) (.slice none 0 0) (.slice none 0 0) [] .nil []:=⟨⟨⟨.inl ⟨none,rfl,rfl,rfl⟩,fun h=>absurd rfl h⟩,[],⟨.inl ⟨none,rfl,rfl,rfl⟩,fun h=>absurd rfl h⟩,rfl⟩, .inl ⟨none,rfl,rfl,rfl⟩⟩
structure KT (P PB S9 SV:Prop) (ps:List aY) (ln n m k:Nat) (kind fr tt v0 v1 v2 v3 f0 f1 f2 f3:Int) (al a0 a1 a2:Option Addr) (cl c0 c1 c2:Nat) (w:World):Prop where
 may:∀W,Calls Tryz.prog 76 #[.agg #[.int .i64 v0, .int .i64 v1, .int .i64 v2, .int .i64 v3]] W fun e w'=>e= .returned (.bool true)∧aj ay W w'
 Ro:∀W,aj ay w W→Calls Tryz.prog 77 #[.agg #[.slice a0 n c0, .slice a1 m c1, .slice a2 k c2]] W fun e w'=>e= .returned (.bool (tf S9))∧aj ay W w'
 vec:S9→∀W,aj ay w W→Calls Tryz.prog 78 #[.slice a2 k c2] W fun e w'=>e= .returned (.agg #[.int .i64 f0, .int .i64 f1, .int .i64 f2, .int .i64 f3])∧aj ay W w'
 sv:SV↔(f0=v0∧f1=v1∧f2=v2∧f3=v3)
 same:∀W,aj ay w W→Calls Tryz.prog 40 #[.agg #[.slice a0 n c0, .slice a1 m c1, .slice a2 k c2], .agg #[.slice none 0 0, .slice none 0 0, .slice none 0 0]] W fun e w'=>e= .returned (.bool (tf PB))∧aj ay W w'
 Rq:∀p∈ps,∀W,aj ay w W→Calls Tryz.prog 24 #[.agg #[.int .i64 p.b.dc, .int .i64 p.b.af, .int .i64 p.b.la, .int .i64 p.b.v0, .int .i64 p.b.v1, .int .i64 p.b.v2, .int .i64 p.b.v3,p.ev,p.kv,p.cv]] W fun e w'=>e= .returned (.bool (!pW p))∧aj ay W w'
 Rt:∀p∈ps,∃a0 c0 a1 c1 a2 c2,p.ev= .slice a0 p.b.es.length c0∧p.kv= .slice a1 p.b.ks.len c1∧p.cv= .slice a2 p.b.c.length c2
 rd:Rd w (.slice al ln cl) ln (jV ps)
 len:ps.length=ln
 bx:∀W,aj ay (w.alloc (.cells #[.int .i64 kind, .int .i64 fr, .int .i64 tt, .int .i64 v0, .int .i64 v1, .int .i64 v2, .int .i64 v3, .slice al ln cl, .slice a0 n c0, .slice a1 m c1, .slice a2 k c2] 42)) W→W.cell? ⟨w.heap.size,0,none⟩=some (.int .i64 kind)∧W.cell? ⟨w.heap.size,1,none⟩=some (.int .i64 fr)∧W.cell? ⟨w.heap.size,2,none⟩=some (.int .i64 tt)∧W.cell? ⟨w.heap.size,3,none⟩=some (.int .i64 v0)∧W.cell? ⟨w.heap.size,4,none⟩=some (.int .i64 v1)∧W.cell? ⟨w.heap.size,5,none⟩=some (.int .i64 v2)∧W.cell? ⟨w.heap.size,6,none⟩=some (.int .i64 v3)∧W.cell? ⟨w.heap.size,7,none⟩=some (.slice al ln cl)∧W.cell? ⟨w.heap.size,8,none⟩=some (.slice a0 n c0)∧W.cell? ⟨w.heap.size,9,none⟩=some (.slice a1 m c1)∧W.cell? ⟨w.heap.size,10,none⟩=some (.slice a2 k c2)
 ne:fr≠tt
 f1:0≤fr
 f2:fr<4
 t1:0≤tt
 t2:tt<4
 hd:P↔((kind=1∧PB∧1≤ln∧ln≤16∧ps.any pW=false)∨(kind=2∧ln=0∧S9∧SV)∨((kind=3∨kind=4)∧PB∧ln=0))
open Go.RowKit
def KU (l:List UInt8) (w:World) (e:Ending) (w':World):Prop:=∃(k:Int) (m:bF) (ps:List aY) (lv ev kv cv:Value),xM l k m∧e= .returned (.tuple #[m.ag lv ev kv cv, .int .i64 k])∧iP (fun _=>True) w' m ps lv ev kv cv∧lq m∧aj ay w w'
theorem Z_ (Q:Nat→Prop) (w:World):iP Q w bF.zero [] (.slice none 0 0) (.slice none 0 0) (.slice none 0 0) (.slice none 0 0):=
 ⟨⟨.inl ⟨none,rfl,rfl,rfl⟩,fun p hp=>by cases hp⟩,rfl,⟨⟨⟨.inl ⟨none,rfl,rfl,rfl⟩,fun h=>absurd rfl h⟩,[],⟨.inl ⟨none,rfl,rfl,rfl⟩,fun h=>absurd rfl h⟩,rfl⟩, .inl ⟨none,rfl,rfl,rfl⟩⟩⟩
theorem aac {s:Option (List UInt8)} {es:List aG} {ks:aH} {c:aW} (h:kY none es ks c s):s=none:=by
 rcases h with⟨r,h1,_⟩|⟨h1,_⟩
 ·cases h1
 ·exact h1
theorem Ru {s:Option (List UInt8)} (h:tJ s=true):s=some []:=by
 cases s with
 |none=>cases h
 |some bs=>
  have hb:bs=[]:=by
   unfold tJ at h
   exact List.eq_nil_of_length_eq_zero (by simpa using h)
  rw[hb]
open Go.RowKit
theorem aad (a b:List aY):jV (a++b)=jV a++jV b:=by simp[jV]
theorem aae (p:aY):jV [p]=p.cells:=by simp[jV]
theorem aaf (a:List aY) (p:aY):jV (a++ [p])=jV a++p.cells:=by rw[aad,aae]
theorem Rw:∀ps:List aY,(jV ps).length=ps.length*10
 |[]=>rfl
 |p::ps=>by
  have e:jV (p::ps)=p.cells++jV ps:=rfl
  have hl:p.cells.length=10:=rfl
  rw[e,List.length_append,Rw ps,hl,List.length_cons]
  omega
def j_ (w:World) (X:Nat→Prop) (lv:Value) (b:Nat):Prop:=w.heap.size≤b∧¬X b∧lv.ownBlock≠some b
structure iT (T:TypeId) (S X:Nat→Prop) (w ww:World) (ps:List aY) (lv:Value):Prop where
 low:∀k,S k→k<w.heap.size
 rW:∀k,X k→w.heap.size≤k
 xlt:∀k,X k→k<ww.heap.size
 aP:aj S w ww
 own:ww.ownsRow 0 T 10 lv ps.length (jV ps)
 new:∀b,lv.ownBlock=some b→w.heap.size≤b∧¬X b
section
variable {T:TypeId} {S X:Nat→Prop} {w ww w1 w':World} {ps:List aY} {lv jc:Value}
theorem iT.start (low:∀k,S k→k<w.heap.size) (rW:∀k,X k→w.heap.size≤k) (xlt:∀k,X k→k<ww.heap.size) (f:aj S w ww):iT T S X w ww [] (.slice none 0 0):=
 ⟨low,rW,xlt,f,World.ownsRow_nil ww 0 T 10,fun b hb=>by cases hb⟩
theorem iT.keep (h:iT T S X w ww ps lv) (f:aj (fun k=>S k∨X k) ww w'):iT T S X w w' ps lv:=
 ⟨h.low,h.rW,fun k hk=>Nat.lt_of_lt_of_le (h.xlt k hk) f.size,h.aP.trans f fun i hi hs=>hs.elim id fun hx=>absurd hi (by have:=h.rW i hx;omega),
  f.owns h.own fun k hk hs=>by
   have h1:=h.new k hk
   rcases hs with hs|hs
   ·have:=h.low k hs;omega
   ·exact h1.2 hs,h.new⟩
theorem iT.nT (h:iT T S X w ww ps lv) (f:aj S ww w'):iT T S X w w' ps lv:=h.keep (f.mono fun _ _ s=> .inl s)
theorem iT.DF (h:iT T S X w ww ps lv) (f:aj X ww w'):iT T S X w w' ps lv:=h.keep (f.mono fun _ _ s=> .inr s)
theorem iT.aO (h:iT T S X w ww ps lv) (f:aj ay ww w'):iT T S X w w' ps lv:=h.keep (f.mono fun _ _ s=>s.elim)
theorem iT.step (h:iT T S X w w1 ps lv) {p:aY} (own:w'.ownsRow 0 T 10 jc (ps.length+1) (jV ps++p.cells)) (fm:aj (fJ lv) w1 w') (fr:gK w1 lv jc):iT T S X w w' (ps++ [p]) jc:=
 ⟨h.low,h.rW,fun k hk=>Nat.lt_of_lt_of_le (h.xlt k hk) fm.size,h.aP.trans fm fun i hi hr=>absurd hi (by have:=(h.new i hr).1;omega),
  by rw[List.length_append,aaf];exact own,fun b hb=>by
   rcases fr b hb with h1|h1
   ·exact h.new b h1
   ·exact⟨by have:=h.aP.size;omega,fun hx=>by have:=h.xlt b hx;omega⟩⟩
theorem iT.DI {Q:Nat→Prop} (h:iT T S X w ww ps lv) (hc:∀p∈ps,fH Q ww p.ev p.kv p.cv p.b.es p.b.ks p.b.c):tZ Q ww lv ps:=⟨Rd.own h.own,hc⟩
def kR (Q:Nat→Prop) (w:World) (ps:List aY):Prop:=∀p∈ps,bQ Q w p.ev p.kv p.b.es p.b.ks∧iw Q w p.cv p.b.c
theorem kR.turn {Q Q':Nat→Prop} (h:kR Q w ps) (f:∀b,b<w.heap.size→Q b→w'.heap[b]?=w.heap[b]?∧Q' b):kR Q' w' ps:=fun p hp=>⟨(h p hp).1.turn f,fC.turn (h p hp).2 f⟩
theorem kR.nil (Q:Nat→Prop) (w:World):kR Q w []:=fun p hp=>by cases hp
theorem kR.keep (h:kR (j_ w X lv) ww ps) (hB:iT T S X w ww ps lv) (f:aj (fun k=>S k∨X k) ww w'):kR (j_ w X lv) w' ps:=
 h.turn fun b hb hq=>⟨f.block b hb fun hs=>by
  rcases hs with hs|hs
  ·have:=hB.low b hs;have:=hq.1;omega
  ·exact hq.2.1 hs,hq⟩
theorem kR.nT (h:kR (j_ w X lv) ww ps) (hB:iT T S X w ww ps lv) (f:aj S ww w'):kR (j_ w X lv) w' ps:=h.keep hB (f.mono fun _ _ s=> .inl s)
theorem kR.DF (h:kR (j_ w X lv) ww ps) (hB:iT T S X w ww ps lv) (f:aj X ww w'):kR (j_ w X lv) w' ps:=h.keep hB (f.mono fun _ _ s=> .inr s)
theorem kR.step (h:kR (j_ w X lv) w1 ps) (hB:iT T S X w w1 ps lv) {p:aY} (hp:bQ (j_ w X lv) w1 p.ev p.kv p.b.es p.b.ks∧iw (j_ w X lv) w1 p.cv p.b.c) (fm:aj (fJ lv) w1 w') (fr:gK w1 lv jc):kR (j_ w X jc) w' (ps++ [p]):=by
 have h1:kR (j_ w X lv) w1 (ps++ [p]):=fun q hq=>by
  rcases List.mem_append.1 hq with hq|hq
  ·exact h q hq
  ·rw[List.mem_singleton.1 hq];exact hp
 exact h1.turn fun b hb hq=>⟨fm.block b hb hq.2.2,hq.1,hq.2.1,fun he=>by
  rcases fr b he with h2|h2
  ·exact hq.2.2 h2
  ·omega⟩
theorem iT.fresh (h:iT T S X w w1 ps lv) (b:Nat) (hb:w1.heap.size≤b):j_ w X lv b:=
 ⟨by have:=h.aP.size;omega,fun hx=>by have:=h.xlt b hx;omega,fun he=>by have:=(h.own.lt b he).2;omega⟩
theorem iT.newP (h:iT T S X w w1 ps lv) {p:aY} (ht:bQ (fun b=>w1.heap.size≤b) ww p.ev p.kv p.b.es p.b.ks) (hc:iw (fun b=>w1.heap.size≤b) ww p.cv p.b.c):bQ (j_ w X lv) ww p.ev p.kv p.b.es p.b.ks∧iw (j_ w X lv) ww p.cv p.b.c:=
 ⟨ht.turn fun b _ hq=>⟨rfl,h.fresh b hq⟩,fC.turn hc fun b _ hq=>⟨rfl,h.fresh b hq⟩⟩
theorem kR.dD {Q:Nat→Prop} (h:kR Q w ps):∀p∈ps,fH Q w p.ev p.kv p.cv p.b.es p.b.ks p.b.c:=fun p hp=>⟨(h p hp).1,iw.at_ (h p hp).2⟩
theorem aY.one (p:aY) (h1:p.ev.oneCell'=true) (h2:p.kv.oneCell'=true) (h3:p.cv.oneCell'=true):∀u∈p.cells,u.oneCell'=true:=by
 intro u hu
 simp only[aY.cells,List.mem_cons,List.not_mem_nil,or_false]at hu
 rcases hu with rfl|rfl|rfl|rfl|rfl|rfl|rfl|rfl|rfl|rfl
 ·rfl
 ·rfl
 ·rfl
 ·rfl
 ·rfl
 ·rfl
 ·rfl
 ·exact h1
 ·exact h2
 ·exact h3
end
open Go.RowKit
theorem uh (w:World) (b:Nat) (x0 x1 x2 x3 x4 x5 x6 x7 x8 x9 x10:Value):aj (Only b) w ((((((((((((w).setCell ⟨b,0,none⟩ x0).setCell ⟨b,1,none⟩ x1).setCell ⟨b,2,none⟩ x2).setCell ⟨b,3,none⟩ x3).setCell ⟨b,4,none⟩ x4).setCell ⟨b,5,none⟩ x5).setCell ⟨b,6,none⟩ x6).setCell ⟨b,7,none⟩ x7).setCell ⟨b,8,none⟩ x8).setCell ⟨b,9,none⟩ x9).setCell ⟨b,10,none⟩ x10):=
 ((((((((((((((((((((eG w b 0 x0).trans (eG _ b 1 x1) fun _ _ h=>h)).trans (eG _ b 2 x2) fun _ _ h=>h)).trans (eG _ b 3 x3) fun _ _ h=>h)).trans (eG _ b 4 x4) fun _ _ h=>h)).trans (eG _ b 5 x5) fun _ _ h=>h)).trans (eG _ b 6 x6) fun _ _ h=>h)).trans (eG _ b 7 x7) fun _ _ h=>h)).trans (eG _ b 8 x8) fun _ _ h=>h)).trans (eG _ b 9 x9) fun _ _ h=>h)).trans (eG _ b 10 x10) fun _ _ h=>h)
theorem uj {w:World} {b:Nat} {a0 a1 a2 a3 a4 a5 a6 a7 a8 a9 a10:Value} {T:TypeId} (h:w.heap[b]?=some (.cells #[a0,a1,a2,a3,a4,a5,a6,a7,a8,a9,a10] T (0,0))) (x0 x1 x2 x3 x4 x5 x6 x7 x8 x9 x10:Value) (W:World) (hW:W=((((((((((((w).setCell ⟨b,0,none⟩ x0).setCell ⟨b,1,none⟩ x1).setCell ⟨b,2,none⟩ x2).setCell ⟨b,3,none⟩ x3).setCell ⟨b,4,none⟩ x4).setCell ⟨b,5,none⟩ x5).setCell ⟨b,6,none⟩ x6).setCell ⟨b,7,none⟩ x7).setCell ⟨b,8,none⟩ x8).setCell ⟨b,9,none⟩ x9).setCell ⟨b,10,none⟩ x10)):
 W.heap[b]?=some (.cells #[x0,x1,x2,x3,x4,x5,x6,x7,x8,x9,x10] T (0,0)):=by
 subst hW
 have e0:((w).setCell ⟨b,0,none⟩ x0).heap[b]?=some (.cells #[x0,a1,a2,a3,a4,a5,a6,a7,a8,a9,a10] T (0,0)):=bJ h 0 x0
 have e1:(((w).setCell ⟨b,0,none⟩ x0).setCell ⟨b,1,none⟩ x1).heap[b]?=some (.cells #[x0,x1,a2,a3,a4,a5,a6,a7,a8,a9,a10] T (0,0)):=bJ e0 1 x1
 have e2:((((w).setCell ⟨b,0,none⟩ x0).setCell ⟨b,1,none⟩ x1).setCell ⟨b,2,none⟩ x2).heap[b]?=some (.cells #[x0,x1,x2,a3,a4,a5,a6,a7,a8,a9,a10] T (0,0)):=bJ e1 2 x2
 have e3:(((((w).setCell ⟨b,0,none⟩ x0).setCell ⟨b,1,none⟩ x1).setCell ⟨b,2,none⟩ x2).setCell ⟨b,3,none⟩ x3).heap[b]?=some (.cells #[x0,x1,x2,x3,a4,a5,a6,a7,a8,a9,a10] T (0,0)):=bJ e2 3 x3
 have e4:((((((w).setCell ⟨b,0,none⟩ x0).setCell ⟨b,1,none⟩ x1).setCell ⟨b,2,none⟩ x2).setCell ⟨b,3,none⟩ x3).setCell ⟨b,4,none⟩ x4).heap[b]?=some (.cells #[x0,x1,x2,x3,x4,a5,a6,a7,a8,a9,a10] T (0,0)):=bJ e3 4 x4
 have e5:(((((((w).setCell ⟨b,0,none⟩ x0).setCell ⟨b,1,none⟩ x1).setCell ⟨b,2,none⟩ x2).setCell ⟨b,3,none⟩ x3).setCell ⟨b,4,none⟩ x4).setCell ⟨b,5,none⟩ x5).heap[b]?=some (.cells #[x0,x1,x2,x3,x4,x5,a6,a7,a8,a9,a10] T (0,0)):=bJ e4 5 x5
 have e6:((((((((w).setCell ⟨b,0,none⟩ x0).setCell ⟨b,1,none⟩ x1).setCell ⟨b,2,none⟩ x2).setCell ⟨b,3,none⟩ x3).setCell ⟨b,4,none⟩ x4).setCell ⟨b,5,none⟩ x5).setCell ⟨b,6,none⟩ x6).heap[b]?=some (.cells #[x0,x1,x2,x3,x4,x5,x6,a7,a8,a9,a10] T (0,0)):=bJ e5 6 x6
 have e7:(((((((((w).setCell ⟨b,0,none⟩ x0).setCell ⟨b,1,none⟩ x1).setCell ⟨b,2,none⟩ x2).setCell ⟨b,3,none⟩ x3).setCell ⟨b,4,none⟩ x4).setCell ⟨b,5,none⟩ x5).setCell ⟨b,6,none⟩ x6).setCell ⟨b,7,none⟩ x7).heap[b]?=some (.cells #[x0,x1,x2,x3,x4,x5,x6,x7,a8,a9,a10] T (0,0)):=bJ e6 7 x7
 have e8:((((((((((w).setCell ⟨b,0,none⟩ x0).setCell ⟨b,1,none⟩ x1).setCell ⟨b,2,none⟩ x2).setCell ⟨b,3,none⟩ x3).setCell ⟨b,4,none⟩ x4).setCell ⟨b,5,none⟩ x5).setCell ⟨b,6,none⟩ x6).setCell ⟨b,7,none⟩ x7).setCell ⟨b,8,none⟩ x8).heap[b]?=some (.cells #[x0,x1,x2,x3,x4,x5,x6,x7,x8,a9,a10] T (0,0)):=bJ e7 8 x8
 have e9:(((((((((((w).setCell ⟨b,0,none⟩ x0).setCell ⟨b,1,none⟩ x1).setCell ⟨b,2,none⟩ x2).setCell ⟨b,3,none⟩ x3).setCell ⟨b,4,none⟩ x4).setCell ⟨b,5,none⟩ x5).setCell ⟨b,6,none⟩ x6).setCell ⟨b,7,none⟩ x7).setCell ⟨b,8,none⟩ x8).setCell ⟨b,9,none⟩ x9).heap[b]?=some (.cells #[x0,x1,x2,x3,x4,x5,x6,x7,x8,x9,a10] T (0,0)):=bJ e8 9 x9
 have e10:((((((((((((w).setCell ⟨b,0,none⟩ x0).setCell ⟨b,1,none⟩ x1).setCell ⟨b,2,none⟩ x2).setCell ⟨b,3,none⟩ x3).setCell ⟨b,4,none⟩ x4).setCell ⟨b,5,none⟩ x5).setCell ⟨b,6,none⟩ x6).setCell ⟨b,7,none⟩ x7).setCell ⟨b,8,none⟩ x8).setCell ⟨b,9,none⟩ x9).setCell ⟨b,10,none⟩ x10).heap[b]?=some (.cells #[x0,x1,x2,x3,x4,x5,x6,x7,x8,x9,x10] T (0,0)):=bJ e9 10 x10
 exact e10
theorem fE {w:World} {b:Nat} {a0 a1 a2 a3 a4 a5 a6 a7 a8 a9 a10:Value} {T:TypeId} {f:Nat×Nat} (h:w.heap[b]?=some (.cells #[a0,a1,a2,a3,a4,a5,a6,a7,a8,a9,a10] T f)):w.cell? ⟨b,0,none⟩=some a0∧w.cell? ⟨b,1,none⟩=some a1∧w.cell? ⟨b,2,none⟩=some a2∧w.cell? ⟨b,3,none⟩=some a3∧w.cell? ⟨b,4,none⟩=some a4∧w.cell? ⟨b,5,none⟩=some a5∧w.cell? ⟨b,6,none⟩=some a6∧w.cell? ⟨b,7,none⟩=some a7∧w.cell? ⟨b,8,none⟩=some a8∧w.cell? ⟨b,9,none⟩=some a9∧w.cell? ⟨b,10,none⟩=some a10:=
 ⟨aC h 0 rfl,aC h 1 rfl,aC h 2 rfl,aC h 3 rfl,aC h 4 rfl,aC h 5 rfl,aC h 6 rfl,aC h 7 rfl,aC h 8 rfl,aC h 9 rfl,aC h 10 rfl⟩
theorem oN {w:World} {b:Nat} {cs:Array Value} {T:TypeId} (h:w.heap[b]?=some (.cells cs T (0,0))):w.frozen? ⟨b,0,none⟩=false∧w.frozen? ⟨b,1,none⟩=false∧w.frozen? ⟨b,2,none⟩=false∧w.frozen? ⟨b,3,none⟩=false∧w.frozen? ⟨b,4,none⟩=false∧w.frozen? ⟨b,5,none⟩=false∧w.frozen? ⟨b,6,none⟩=false∧w.frozen? ⟨b,7,none⟩=false∧w.frozen? ⟨b,8,none⟩=false∧w.frozen? ⟨b,9,none⟩=false∧w.frozen? ⟨b,10,none⟩=false:=
 ⟨bf h 0,bf h 1,bf h 2,bf h 3,bf h 4,bf h 5,bf h 6,bf h 7,bf h 8,bf h 9,bf h 10⟩
theorem Rx:(Tryz.prog.info? 59).map (fun i=>(i.zero,i.size,i.bytes))=some (some (.agg #[.int .i64 0, .int .i64 0, .int .i64 0, .int .i64 0, .int .i64 0, .int .i64 0, .int .i64 0, .slice none 0 0, .slice none 0 0, .slice none 0 0]),10,128):=by kernel_rfl
theorem Ry (Q:Nat→Prop) (m:bF) (ps:List aY) (w:World) (lv ev kv cv:Value) (h:iP Q w m ps lv ev kv cv) (hl:m.bs.length≤100):
 Calls Tryz.prog 21 #[m.ag lv ev kv cv] w fun e w'=>∃jc,e= .returned (m.ag jc ev kv cv)∧iP Q w' m ps jc ev kv cv∧aj ay w w':=by
 obtain⟨i0,hi,hz0,hz1,hz2⟩:=info_parts Rx
 have hl':ps.length≤100:=by rw[h.len];exact hl
 have tX:=ah h.eq
 have Rz:=ah h.dD
 have HCB:=ah h.bs.dD
 have qc:=ah (fun p hp=>(h.bs.dD p hp).shape)
 obtain⟨kind,fr,tt,v0,v1,v2,v3,bs,es,ks,c⟩:=m
 dsimp only at tX Rz
 have hrd:=h.bs.rd
 obtain⟨a0,c0,a1,c1,a2,c2,rfl,rfl,rfl⟩:=h.dD.shape
 obtain⟨al,cl,rfl⟩:=h.bs.rd.sl
 have r_:=ah hrd
 clear h hl hrd
 dsimp only[bF.ag]
 generalize es.length=n at*
 generalize ks.len=m at*
 generalize c.length=k at*
 generalize hln:ps.length=ln at*
 have HLEN:=ah hln;clear hln
 obtain⟨WB,jA⟩:∃WB,WB=((w.alloc (.cells #[.int .i64 kind, .int .i64 fr, .int .i64 tt, .int .i64 v0, .int .i64 v1, .int .i64 v2, .int .i64 v3, .slice al ln cl, .slice a0 n c0, .slice a1 m c1, .slice a2 k c2] 42)).alloc (.cells #[.int .i64 0, .int .i64 0, .int .i64 0, .int .i64 0, .int .i64 0, .int .i64 0, .int .i64 0, .slice none 0 0, .slice none 0 0, .slice none 0 0, .slice none 0 0] 36)).alloc (.cells #[.int .i64 kind, .int .i64 fr, .int .i64 tt, .int .i64 v0, .int .i64 v1, .int .i64 v2, .int .i64 v3, .slice none 0 0, .slice a0 n c0, .slice a1 m c1, .slice a2 k c2] 36):=⟨_,rfl⟩
 have hb0:WB.heap[w.heap.size]?=some (.cells #[.int .i64 kind, .int .i64 fr, .int .i64 tt, .int .i64 v0, .int .i64 v1, .int .i64 v2, .int .i64 v3, .slice al ln cl, .slice a0 n c0, .slice a1 m c1, .slice a2 k c2] 42 (0,0)):=by rw[jA,Below.heap_alloc _ _ _ (by simp;omega),Below.heap_alloc _ _ _ (by simp)];exact heap_alloc_new w _
 have hb1:WB.heap[w.heap.size+1]?=some (.cells #[.int .i64 0, .int .i64 0, .int .i64 0, .int .i64 0, .int .i64 0, .int .i64 0, .int .i64 0, .slice none 0 0, .slice none 0 0, .slice none 0 0, .slice none 0 0] 36 (0,0)):=by
  rw[jA,Below.heap_alloc _ _ _ (by simp)]
  have:=heap_alloc_new (w.alloc (.cells #[.int .i64 kind, .int .i64 fr, .int .i64 tt, .int .i64 v0, .int .i64 v1, .int .i64 v2, .int .i64 v3, .slice al ln cl, .slice a0 n c0, .slice a1 m c1, .slice a2 k c2] 42)) (.cells #[.int .i64 0, .int .i64 0, .int .i64 0, .int .i64 0, .int .i64 0, .int .i64 0, .int .i64 0, .slice none 0 0, .slice none 0 0, .slice none 0 0, .slice none 0 0] 36)
  simpa using this
 have hb2:WB.heap[w.heap.size+1+1]?=some (.cells #[.int .i64 kind, .int .i64 fr, .int .i64 tt, .int .i64 v0, .int .i64 v1, .int .i64 v2, .int .i64 v3, .slice none 0 0, .slice a0 n c0, .slice a1 m c1, .slice a2 k c2] 36 (0,0)):=by
  rw[jA]
  have:=heap_alloc_new ((w.alloc (.cells #[.int .i64 kind, .int .i64 fr, .int .i64 tt, .int .i64 v0, .int .i64 v1, .int .i64 v2, .int .i64 v3, .slice al ln cl, .slice a0 n c0, .slice a1 m c1, .slice a2 k c2] 42)).alloc (.cells #[.int .i64 0, .int .i64 0, .int .i64 0, .int .i64 0, .int .i64 0, .int .i64 0, .int .i64 0, .slice none 0 0, .slice none 0 0, .slice none 0 0, .slice none 0 0] 36)) (.cells #[.int .i64 kind, .int .i64 fr, .int .i64 tt, .int .i64 v0, .int .i64 v1, .int .i64 v2, .int .i64 v3, .slice none 0 0, .slice a0 n c0, .slice a1 m c1, .slice a2 k c2] 36)
  simpa using this
 have hfb:aj ay w WB:=by rw[jA];exact((aj.alloc ay w _).au (aj.alloc _ _ _)).au (aj.alloc _ _ _)
 have hB:iT 59 ay (fun k=>k=w.heap.size∨k=w.heap.size+1∨k=w.heap.size+1+1) w WB [] (.slice none 0 0):=
  iT.start (fun k hk=>hk.elim) (fun k hk=>by omega) (fun k hk=>by have:=lt_of_block hb2;omega) hfb
 have HB:=ah hB
 have H0:=ah hb0
 have H1:=ah hb1
 have H2:=ah hb2
 have dB:=ah jA
 clear hb0 hb1 hb2 hfb hB jA
 go_enter Tryz.func21,Tryz.ntmps21
 go_wp2
 go_loopw [19] (fun i ww=>∃(q:Nat) (jc:Value),q≤ln∧i= .int .i64 q∧iT 59 ay (fun k=>k=w.heap.size∨k=w.heap.size+1∨k=w.heap.size+1+1) w ww (ps.take q) jc∧ww.heap[w.heap.size]?=some (.cells #[.int .i64 kind, .int .i64 fr, .int .i64 tt, .int .i64 v0, .int .i64 v1, .int .i64 v2, .int .i64 v3, .slice al ln cl, .slice a0 n c0, .slice a1 m c1, .slice a2 k c2] 42 (0,0))∧ww.heap[w.heap.size+1]?=some (.cells #[.int .i64 0, .int .i64 0, .int .i64 0, .int .i64 0, .int .i64 0, .int .i64 0, .int .i64 0, .slice none 0 0, .slice none 0 0, .slice none 0 0, .slice none 0 0] 36 (0,0))∧ww.heap[w.heap.size+1+1]?=some (.cells #[.int .i64 kind, .int .i64 fr, .int .i64 tt, .int .i64 v0, .int .i64 v1, .int .i64 v2, .int .i64 v3,jc, .slice a0 n c0, .slice a1 m c1, .slice a2 k c2] 36 (0,0))) (fun i _=>ln-(intOf i).toNat)
 case atStart=>rw[←dB.out];exact⟨0,_,Nat.zero_le _,rfl,HB.out,H0.out,H1.out,H2.out⟩
 case round=>
  clear HB H0 H1 H2 dB
  obtain⟨q,jc,hq,rfl,hB,h0,h1,h2⟩:=hrel
  have htl:(ps.take q).length=q:=by rw[List.length_take,HLEN.out];omega
  obtain⟨aV,cV,rfl⟩:=(Rd.own hB.own).sl
  rw[htl]at h2
  have hown:=hB.own
  rw[htl]at hown
  rw[htl]at hB
  have HB:=ah hB;clear hB
  have H0:=ah h0;clear h0
  have H1:=ah h1;clear h1
  have H2:=ah h2;clear h2
  have HOWN:=ah hown;clear hown htl
  by_cases hlt:q<ln
  ·have hlk:q<ps.length:=by rw[HLEN.out];exact hlt
   have hrd:=r_.out.aO HB.out.aP
   rcases Rd.shape hrd with⟨ad,he,hz⟩|⟨b,off,cc,he,hmax⟩
   ·exfalso;omega
   ·injection he with e1 e2 e3
    subst e1 e3
    clear e2
    obtain⟨q0,q1,q2,q3,q4,q5,q6,q7,q8,q9⟩:=wF hrd q hlk
    clear hrd
    have hsh:=qc.out _ (getD_mem aY.zero hlk)
    have htk:=take_succ aY.zero hlk
    obtain⟨p,hgd⟩:∃p,p=ps.getD q aY.zero:=⟨_,rfl⟩
    rw[←hgd]at q0 q1 q2 q3 q4 q5 q6 q7 q8 q9 hsh htk
    clear hgd
    obtain⟨⟨dc,af,la,u0,u1,u2,u3,es',ks',c'⟩,ev',kv',cv'⟩:=p
    dsimp only at q0 q1 q2 q3 q4 q5 q6 q7 q8 q9 hsh
    obtain⟨a3,c3,a4,c4,a5,c5,rfl,rfl,rfl⟩:=hsh
    have hpc:aY.cells ⟨⟨dc,af,la,u0,u1,u2,u3,es',ks',c'⟩, .slice a3 es'.length c3, .slice a4 ks'.len c4, .slice a5 c'.length c5⟩=[.int .i64 dc, .int .i64 af, .int .i64 la, .int .i64 u0, .int .i64 u1, .int .i64 u2, .int .i64 u3, .slice a3 es'.length c3, .slice a4 ks'.len c4, .slice a5 c'.length c5]:=rfl
    have BN:=ah hpc;clear hpc
    have HTK:=ah htk;clear htk
    have hone:=aY.one ⟨⟨dc,af,la,u0,u1,u2,u3,es',ks',c'⟩, .slice a3 es'.length c3, .slice a4 ks'.len c4, .slice a5 c'.length c5⟩ rfl rfl rfl
    rw[BN.out]at hone
    have pJ:=ah hone;clear hone
    generalize es'.length=n' at*
    generalize ks'.len=m' at*
    generalize c'.length=k' at*
    go_wp2_with fail
    have z2:=aC H2.out 7 rfl
    have z0:=aC H0.out 7 rfl
    have hbs:b<wr.heap.size:=World.block_lt_of_cell? _ _ q0
    have hbw:b<w.heap.size:=by
     rcases r_.out with⟨ad,he,hz,_⟩|⟨b',off',c',he,_,_,hc⟩
     ·exfalso;omega
     ·injection he with e1 e2 e3
      injection e1 with e1
      have hc0:=hc 0 _ (show(jV ps)[0]?=some _ from List.getElem?_eq_getElem (by
       rw[Rw,HLEN.out];omega))
      have:=World.block_lt_of_cell? _ _ hc0
      cases e1
      exact this
    refine iI (S:=fun w'=>w'.cell? ⟨w.heap.size+1+1,7,none⟩=some (.slice aV q cV)∧w'.cell? ⟨w.heap.size,7,none⟩=some (.slice (some ⟨b,off,none⟩) ln cl)∧w'.cell? ⟨b,off+q*10,none⟩=some (.int .i64 dc)∧w'.cell? ⟨b,off+q*10+1,none⟩=some (.int .i64 af)∧w'.cell? ⟨b,off+q*10+2,none⟩=some (.int .i64 la)∧w'.cell? ⟨b,off+q*10+3,none⟩=some (.int .i64 u0)∧w'.cell? ⟨b,off+q*10+4,none⟩=some (.int .i64 u1)∧w'.cell? ⟨b,off+q*10+5,none⟩=some (.int .i64 u2)∧w'.cell? ⟨b,off+q*10+6,none⟩=some (.int .i64 u3)∧w'.cell? ⟨b,off+q*10+7,none⟩=some (.slice a3 n' c3)∧w'.cell? ⟨b,off+q*10+8,none⟩=some (.slice a4 m' c4)∧w'.cell? ⟨b,off+q*10+9,none⟩=some (.slice a5 k' c5)) 10 (by kernel_rfl) ⟨z2,z0,q0,q1,q2,q3,q4,q5,q6,q7,q8,q9⟩ ?_
    intro hS
    have fO:=ah (fun Y Y' (f:aj ay Y Y') (hS:Y.cell? ⟨w.heap.size+1+1,7,none⟩=some (.slice aV q cV)∧Y.cell? ⟨w.heap.size,7,none⟩=some (.slice (some ⟨b,off,none⟩) ln cl)∧Y.cell? ⟨b,off+q*10,none⟩=some (.int .i64 dc)∧Y.cell? ⟨b,off+q*10+1,none⟩=some (.int .i64 af)∧Y.cell? ⟨b,off+q*10+2,none⟩=some (.int .i64 la)∧Y.cell? ⟨b,off+q*10+3,none⟩=some (.int .i64 u0)∧Y.cell? ⟨b,off+q*10+4,none⟩=some (.int .i64 u1)∧Y.cell? ⟨b,off+q*10+5,none⟩=some (.int .i64 u2)∧Y.cell? ⟨b,off+q*10+6,none⟩=some (.int .i64 u3)∧Y.cell? ⟨b,off+q*10+7,none⟩=some (.slice a3 n' c3)∧Y.cell? ⟨b,off+q*10+8,none⟩=some (.slice a4 m' c4)∧Y.cell? ⟨b,off+q*10+9,none⟩=some (.slice a5 k' c5))=>(⟨f.cell' hS.1 id,f.cell' hS.2.1 id,f.cell' hS.2.2.1 id,f.cell' hS.2.2.2.1 id,f.cell' hS.2.2.2.2.1 id,f.cell' hS.2.2.2.2.2.1 id,f.cell' hS.2.2.2.2.2.2.1 id,f.cell' hS.2.2.2.2.2.2.2.1 id,f.cell' hS.2.2.2.2.2.2.2.2.1 id,f.cell' hS.2.2.2.2.2.2.2.2.2.1 id,f.cell' hS.2.2.2.2.2.2.2.2.2.2.1 id,f.cell' hS.2.2.2.2.2.2.2.2.2.2.2 id⟩:Y'.cell? ⟨w.heap.size+1+1,7,none⟩=some (.slice aV q cV)∧Y'.cell? ⟨w.heap.size,7,none⟩=some (.slice (some ⟨b,off,none⟩) ln cl)∧Y'.cell? ⟨b,off+q*10,none⟩=some (.int .i64 dc)∧Y'.cell? ⟨b,off+q*10+1,none⟩=some (.int .i64 af)∧Y'.cell? ⟨b,off+q*10+2,none⟩=some (.int .i64 la)∧Y'.cell? ⟨b,off+q*10+3,none⟩=some (.int .i64 u0)∧Y'.cell? ⟨b,off+q*10+4,none⟩=some (.int .i64 u1)∧Y'.cell? ⟨b,off+q*10+5,none⟩=some (.int .i64 u2)∧Y'.cell? ⟨b,off+q*10+6,none⟩=some (.int .i64 u3)∧Y'.cell? ⟨b,off+q*10+7,none⟩=some (.slice a3 n' c3)∧Y'.cell? ⟨b,off+q*10+8,none⟩=some (.slice a4 m' c4)∧Y'.cell? ⟨b,off+q*10+9,none⟩=some (.slice a5 k' c5)))
    clear z0 z2 q0 q1 q2 q3 q4 q5 q6 q7 q8 q9
    have o_:=ah (HB.out.aO (aj.drew ay wr))
    have KW:=ah ((aj.drew ay wr).owns HOWN.out fun _ _=>id)
    have H0Y:=ah ((aj.drew ay wr).blk H0.out id)
    have H1Y:=ah ((aj.drew ay wr).blk H1.out id)
    have KX:=ah ((aj.drew ay wr).blk H2.out id)
    clear HB HOWN H0 H1 H2
    generalize wr.drew=Y0 at*
    refine aS 0 22 rfl rfl (v:=?_) (.inl ⟨by rfl,?_⟩) ?_
    rotate_left 1
    ·(intro w hSw;(try dsimp only at hSw);go_simp;(try with_reducible rfl))
    refine aS 1 23 rfl rfl (v:=?_) (.inl ⟨by rfl,?_⟩) ?_
    rotate_left 1
    ·(intro w hSw;(try dsimp only at hSw);go_simp;(try with_reducible rfl))
    try simp only[Act.put,aI,aJ,aN]
    refine aS 2 24 rfl rfl (v:=?_) (.inl ⟨by rfl,?_⟩) ?_
    rotate_left 1
    ·(intro w hSw;(try dsimp only at hSw);go_simp;(try with_reducible rfl))
    refine aS 3 25 rfl rfl (v:=?_) (.inl ⟨by rfl,?_⟩) ?_
    rotate_left 1
    ·(intro w hSw;(try dsimp only at hSw);go_simp;(try with_reducible rfl))
    try simp only[Act.put,aI,aJ,aN]
    refine aS 4 26 rfl rfl (v:=?_) (.inl ⟨by rfl,?_⟩) ?_
    rotate_left 1
    ·(intro w hSw;(try dsimp only at hSw);go_simp;(try with_reducible rfl))
    refine aS 5 27 rfl rfl (v:=?_) (.inl ⟨by rfl,?_⟩) ?_
    rotate_left 1
    ·(intro w hSw;(try dsimp only at hSw);go_simp;(try with_reducible rfl))
    try simp only[Act.put,aI,aJ,aN]
    refine aS 6 28 rfl rfl (v:=?_) (.inl ⟨by rfl,?_⟩) ?_
    rotate_left 1
    ·(intro w hSw;(try dsimp only at hSw);go_simp;(try with_reducible rfl))
    try simp only[Act.put,aI,aJ,aN]
    refine bM (i:=7) (by kernel_rfl) rfl (fun K hK=>?_)
    go_simp
    have hS3:=fO.out _ _ (aj.alloc ay Y0 (.cells #[.int .i64 dc, .int .i64 af, .int .i64 la, .int .i64 u0, .int .i64 u1, .int .i64 u2, .int .i64 u3, .slice a3 n' c3, .slice a4 m' c4, .slice a5 k' c5] 59)) hS
    refine hK.out _ _ hS3 ?_
    clear hK K
    try simp only[Act.put,aI,aJ,aN]
    refine bM (i:=8) (by kernel_rfl) rfl (fun K hK=>?_)
    refine Fz Y0 [.int .i64 dc, .int .i64 af, .int .i64 la, .int .i64 u0, .int .i64 u1, .int .i64 u2, .int .i64 u3, .slice a3 n' c3, .slice a4 m' c4, .slice a5 k' c5] rfl (.tmp 23) (.tmp 29) 26 rfl 59 i0 _ 10 128 Tryz.underlying26 hi hz0 hz1 hz2 (by decide) (by decide) (.slice aV q cV) q _ KW.out 1 1 (by simp[Act.eval]) (by simp[Act.eval]) rfl pJ.out (by simp only[maxLen];omega) (by omega) ?_
    intro ad c6 w6 pV eY pX
    have hnx:∀x,x=w.heap.size∨x=w.heap.size+1∨x=w.heap.size+1+1→¬fJ (.slice aV q cV) x:=fun x hx hr=>(o_.out.new x hr).2 hx
    have hno:¬fJ (.slice aV q cV) b:=fun hr=>by have:=(o_.out.new b hr).1;omega
    have hS6:w6.cell? ⟨w.heap.size+1+1,7,none⟩=some (.slice aV q cV)∧w6.cell? ⟨w.heap.size,7,none⟩=some (.slice (some ⟨b,off,none⟩) ln cl)∧w6.cell? ⟨b,off+q*10,none⟩=some (.int .i64 dc)∧w6.cell? ⟨b,off+q*10+1,none⟩=some (.int .i64 af)∧w6.cell? ⟨b,off+q*10+2,none⟩=some (.int .i64 la)∧w6.cell? ⟨b,off+q*10+3,none⟩=some (.int .i64 u0)∧w6.cell? ⟨b,off+q*10+4,none⟩=some (.int .i64 u1)∧w6.cell? ⟨b,off+q*10+5,none⟩=some (.int .i64 u2)∧w6.cell? ⟨b,off+q*10+6,none⟩=some (.int .i64 u3)∧w6.cell? ⟨b,off+q*10+7,none⟩=some (.slice a3 n' c3)∧w6.cell? ⟨b,off+q*10+8,none⟩=some (.slice a4 m' c4)∧w6.cell? ⟨b,off+q*10+9,none⟩=some (.slice a5 k' c5):=⟨eY.cell' hS.1 (hnx _ (.inr (.inr rfl))),eY.cell' hS.2.1 (hnx _ (.inl rfl)),eY.cell' hS.2.2.1 hno,eY.cell' hS.2.2.2.1 hno,eY.cell' hS.2.2.2.2.1 hno,eY.cell' hS.2.2.2.2.2.1 hno,eY.cell' hS.2.2.2.2.2.2.1 hno,eY.cell' hS.2.2.2.2.2.2.2.1 hno,eY.cell' hS.2.2.2.2.2.2.2.2.1 hno,eY.cell' hS.2.2.2.2.2.2.2.2.2.1 hno,eY.cell' hS.2.2.2.2.2.2.2.2.2.2.1 hno,eY.cell' hS.2.2.2.2.2.2.2.2.2.2.2 hno⟩
    have hcf:w6.frozen? ⟨w.heap.size+1+1,7,none⟩=false:=bf (eY.blk KX.out (hnx _ (.inr (.inr rfl)))) 7
    have hset:aj (Only (w.heap.size+1+1)) w6 (w6.setCell ⟨w.heap.size+1+1,7,none⟩ (.slice ad (q+1) c6)):=eG _ _ _ _
    have H0K:=ah (hset.blk (eY.blk H0Y.out (hnx _ (.inl rfl))) fun hs=>by have hs:w.heap.size=w.heap.size+1+1:=hs;omega)
    have H1K:=ah (hset.blk (eY.blk H1Y.out (hnx _ (.inr (.inl rfl)))) fun hs=>by have hs:w.heap.size+1=w.heap.size+1+1:=hs;omega)
    have H2K:=ah (show(w6.setCell ⟨w.heap.size+1+1,7,none⟩ (.slice ad (q+1) c6)).heap[w.heap.size+1+1]?=some (.cells #[.int .i64 kind, .int .i64 fr, .int .i64 tt, .int .i64 v0, .int .i64 v1, .int .i64 v2, .int .i64 v3, .slice ad (q+1) c6, .slice a0 n c0, .slice a1 m c1, .slice a2 k c2] 36 (0,0))from bJ (eY.blk KX.out (hnx _ (.inr (.inr rfl)))) 7 (.slice ad (q+1) c6))
    have hstp:=o_.out.step (p:=⟨⟨dc,af,la,u0,u1,u2,u3,es',ks',c'⟩, .slice a3 n' c3, .slice a4 m' c4, .slice a5 k' c5⟩) (jc:= .slice ad (q+1) c6) (w':=w6) (by rw[show(ps.take q).length=q by rw[List.length_take,HLEN.out];omega];exact pV) eY pX
    have ji:=ah ((hstp.DF (hset.mono fun i _ hs=> .inr (.inr hs))))
    have hl6:w.heap.size+1+1<w6.heap.size:=lt_of_block (eY.blk KX.out (hnx _ (.inr (.inr rfl))))
    have hrow:=hS6.1
    refine hK.out _ _ hS6 ?_
    clear hK K pV eY pX hnx hno hset hS3 hstp
    try simp only[Act.put,aI,aJ,aN]
    refine aS 9 31 rfl rfl (v:=?_) (.inl ⟨by rfl,?_⟩) ?_
    rotate_left 1
    ·(intro w hSw;(try dsimp only at hSw);go_simp;(try with_reducible rfl))
    try simp only[Act.put,aI,aJ,aN]
    refine iQ (by kernel_rfl) (by kernel_rfl) rfl (fun K hK=>?_)
    go_simp
    refine hK.out _ _ ?_
    clear hK K hrow hcf
    go_wp2
    go_roundw
    case rel=>exact⟨q+1,_,by omega,by go_num,HTK.out▸ji.out,H0K.out,H1K.out,H2K.out⟩
    case measure=>simp[intOf];omega
  ·obtain rfl:ln=q:=by omega
   have hta:ps.take ln=ps:=List.take_of_length_le (by rw[HLEN.out];exact Nat.le_refl _)
   rw[hta]at HB
   have dM:=ah hta
   clear hlt hq hta
   obtain⟨z0,z1,z2,z3,z4,z5,z6,z7,z8,z9,z10⟩:=fE H2.out
   obtain⟨y0,y1,y2,y3,y4,y5,y6,y7,y8,y9,aT⟩:=fE H1.out
   obtain⟨g0,g1,g2,g3,g4,g5,g6,g7,g8,g9,g10⟩:=oN H1.out
   have zl:=lt_of_block H2.out
   have yl:=lt_of_block H1.out
   go_wp2
   clear z0 y0 g0 z1 y1 g1 z2 y2 g2 z3 y3 g3 z4 y4 g4 z5 y5 g5 z6 y6 g6 z7 y7 g7 z8 y8 g8 z9 y9 g9 z10 aT g10 zl yl
   have hel:=uj H1.out (.int .i64 kind) (.int .i64 fr) (.int .i64 tt) (.int .i64 v0) (.int .i64 v1) (.int .i64 v2) (.int .i64 v3) (.slice aV ln cV) (.slice a0 n c0) (.slice a1 m c1) (.slice a2 k c2) _ rfl
   obtain⟨y0,y1,y2,y3,y4,y5,y6,y7,y8,y9,aT⟩:=fE hel
   have hset:=uh wr (w.heap.size+1) (.int .i64 kind) (.int .i64 fr) (.int .i64 tt) (.int .i64 v0) (.int .i64 v1) (.int .i64 v2) (.int .i64 v3) (.slice aV ln cV) (.slice a0 n c0) (.slice a1 m c1) (.slice a2 k c2)
   have Gh:=HB.out.DF (hset.mono fun i _ hs=> .inr (.inl hs))
   exact bodyPost_ret (v:= .agg #[.int .i64 kind, .int .i64 fr, .int .i64 tt, .int .i64 v0, .int .i64 v1, .int .i64 v2, .int .i64 v3, .slice aV ln cV, .slice a0 n c0, .slice a1 m c1, .slice a2 k c2]) (by simp[results,Tryz.results21,go_sem,y0,y1,y2,y3,y4,y5,y6,y7,y8,y9,aT]) rfl ⟨_,rfl,⟨Gh.DI fun p hp=>(HCB.out p hp).aO Gh.aP,tX.out,Rz.out.aO Gh.aP⟩,Gh.aP⟩
end Go.Proofs.YtabkpccdnkjoiaaGreat
