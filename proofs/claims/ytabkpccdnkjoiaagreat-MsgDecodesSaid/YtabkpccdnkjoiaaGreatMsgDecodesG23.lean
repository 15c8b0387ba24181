/- Words for the law MsgDecodes: R25a, MsgDecP, MsgBld, MsgTo. -/
import Derived.Test.YtabkpccdnkjoiaaGreatMsgDecodesG0
import Derived.Test.YtabkpccdnkjoiaaGreatMsgDecodesG8
import Derived.Test.YtabkpccdnkjoiaaGreatMsgDecodesG9
import Derived.Test.YtabkpccdnkjoiaaGreatMsgDecodesG15
import Derived.Test.YtabkpccdnkjoiaaGreatMsgDecodesG19
import Derived.Test.YtabkpccdnkjoiaaGreatMsgDecodesG21
import Derived.Test.YtabkpccdnkjoiaaGreatMsgDecodesG22
set_option linter.unusedSimpArgs false
set_option linter.unusedVariables false
set_option maxHeartbeats 32000000
set_option maxRecDepth 1000000
namespace Go.Proofs.YtabkpccdnkjoiaaGreat
open Go.RowKit
theorem acQ:jd [] .nil []:=⟨⟨⟨Nat.zero_le _,fun e he=>by cases he⟩,Nat.zero_le _,trivial⟩,Nat.zero_le _,fun s hs=>(by cases hs),Nat.zero_le _⟩
theorem zH (Q:Nat→Prop) (w:World):gK Q w (.slice none 0 0) (.slice none 0 0) (.slice none 0 0) [] .nil []:=⟨⟨⟨.inl ⟨none,rfl,rfl,rfl⟩,fun h=>absurd rfl h⟩,[],⟨.inl ⟨none,rfl,rfl,rfl⟩,fun h=>absurd rfl h⟩,rfl⟩, .inl ⟨none,rfl,rfl,rfl⟩⟩
structure OB (P PB S9 SV:Prop) (ps:List aZ) (ln n m k:Nat) (kind fr tt v0 v1 v2 v3 f0 f1 f2 f3:Int) (al a0 a1 a2:Option Addr) (cl c0 c1 c2:Nat) (w:World):Prop where
 may:∀W,Calls Tryz.prog 76 #[.agg #[.int .i64 v0, .int .i64 v1, .int .i64 v2, .int .i64 v3]] W fun e w'=>e= .returned (.bool true)∧aj ay W w'
 VI:∀W,aj ay w W→Calls Tryz.prog 77 #[.agg #[.slice a0 n c0, .slice a1 m c1, .slice a2 k c2]] W fun e w'=>e= .returned (.bool (tf S9))∧aj ay W w'
 vec:S9→∀W,aj ay w W→Calls Tryz.prog 78 #[.slice a2 k c2] W fun e w'=>e= .returned (.agg #[.int .i64 f0, .int .i64 f1, .int .i64 f2, .int .i64 f3])∧aj ay W w'
 sv:SV↔(f0=v0∧f1=v1∧f2=v2∧f3=v3)
 same:∀W,aj ay w W→Calls Tryz.prog 40 #[.agg #[.slice a0 n c0, .slice a1 m c1, .slice a2 k c2], .agg #[.slice none 0 0, .slice none 0 0, .slice none 0 0]] W fun e w'=>e= .returned (.bool (tf PB))∧aj ay W w'
 VJ:∀p∈ps,∀W,aj ay w W→Calls Tryz.prog 24 #[.agg #[.int .i64 p.b.dc, .int .i64 p.b.af, .int .i64 p.b.la, .int .i64 p.b.v0, .int .i64 p.b.v1, .int .i64 p.b.v2, .int .i64 p.b.v3,p.ev,p.kv,p.cv]] W fun e w'=>e= .returned (.bool (!pW p))∧aj ay W w'
 VK:∀p∈ps,∃a0 c0 a1 c1 a2 c2,p.ev= .slice a0 p.b.es.length c0∧p.kv= .slice a1 p.b.ks.len c1∧p.cv= .slice a2 p.b.c.length c2
 rd:Rd w (.slice al ln cl) ln (kR ps)
 len:ps.length=ln
 bx:∀W,aj ay (w.alloc (.cells #[.int .i64 kind, .int .i64 fr, .int .i64 tt, .int .i64 v0, .int .i64 v1, .int .i64 v2, .int .i64 v3, .slice al ln cl, .slice a0 n c0, .slice a1 m c1, .slice a2 k c2] 42)) W→W.cell? ⟨w.heap.size,0,none⟩=some (.int .i64 kind)∧W.cell? ⟨w.heap.size,1,none⟩=some (.int .i64 fr)∧W.cell? ⟨w.heap.size,2,none⟩=some (.int .i64 tt)∧W.cell? ⟨w.heap.size,3,none⟩=some (.int .i64 v0)∧W.cell? ⟨w.heap.size,4,none⟩=some (.int .i64 v1)∧W.cell? ⟨w.heap.size,5,none⟩=some (.int .i64 v2)∧W.cell? ⟨w.heap.size,6,none⟩=some (.int .i64 v3)∧W.cell? ⟨w.heap.size,7,none⟩=some (.slice al ln cl)∧W.cell? ⟨w.heap.size,8,none⟩=some (.slice a0 n c0)∧W.cell? ⟨w.heap.size,9,none⟩=some (.slice a1 m c1)∧W.cell? ⟨w.heap.size,10,none⟩=some (.slice a2 k c2)
 ne:fr≠tt
 f1:0≤fr
 f2:fr<4
 t1:0≤tt
 t2:tt<4
 hd:P↔((kind=1∧PB∧1≤ln∧ln≤16∧ps.any pW=false)∨(kind=2∧ln=0∧S9∧SV)∨((kind=3∨kind=4)∧PB∧ln=0))
open Go.RowKit
def vK (l:List UInt8) (w:World) (e:Ending) (w':World):Prop:=∃(k:Int) (m:bW) (ps:List aZ) (lv ev kv cv:Value),sD l k m∧e= .returned (.tuple #[m.ag lv ev kv cv, .int .i64 k])∧mZ (fun _=>True) w' m ps lv ev kv cv∧kZ m∧aj ay w w'
theorem JJ (Q:Nat→Prop) (w:World):mZ Q w bW.zero [] (.slice none 0 0) (.slice none 0 0) (.slice none 0 0) (.slice none 0 0):=
 ⟨⟨.inl ⟨none,rfl,rfl,rfl⟩,fun p hp=>by cases hp⟩,rfl,⟨⟨⟨.inl ⟨none,rfl,rfl,rfl⟩,fun h=>absurd rfl h⟩,[],⟨.inl ⟨none,rfl,rfl,rfl⟩,fun h=>absurd rfl h⟩,rfl⟩, .inl ⟨none,rfl,rfl,rfl⟩⟩⟩
theorem VL {s:Option (List UInt8)} {es:List aQ} {ks:aS} {c:aX} (h:kW none es ks c s):s=none:=by
 rcases h with⟨r,h1,_⟩|⟨h1,_⟩
 ·cases h1
 ·exact h1
theorem JK {s:Option (List UInt8)} (h:nO s=true):s=some []:=by
 cases s with
 |none=>cases h
 |some bs=>
  have hb:bs=[]:=by
   unfold nO at h
   exact List.eq_nil_of_length_eq_zero (by simpa using h)
  rw[hb]
open Go.RowKit
theorem acR (a b:List aZ):kR (a++b)=kR a++kR b:=by simp[kR]
theorem acS (p:aZ):kR [p]=p.cells:=by simp[kR]
theorem acT (a:List aZ) (p:aZ):kR (a++ [p])=kR a++p.cells:=by rw[acR,acS]
theorem VN:∀ps:List aZ,(kR ps).length=ps.length*10
 |[]=>rfl
 |p::ps=>by
  have e:kR (p::ps)=p.cells++kR ps:=rfl
  have hl:p.cells.length=10:=rfl
  rw[e,List.length_append,VN ps,hl,List.length_cons]
  omega
def iV (w:World) (X:Nat→Prop) (lv:Value) (b:Nat):Prop:=w.heap.size≤b∧¬X b∧lv.ownBlock≠some b
structure jq (T:TypeId) (S X:Nat→Prop) (w ww:World) (ps:List aZ) (lv:Value):Prop where
 low:∀k,S k→k<w.heap.size
 uN:∀k,X k→w.heap.size≤k
 xlt:∀k,X k→k<ww.heap.size
 aH:aj S w ww
 own:ww.ownsRow 0 T 10 lv ps.length (kR ps)
 new:∀b,lv.ownBlock=some b→w.heap.size≤b∧¬X b
section
variable {T:TypeId} {S X:Nat→Prop} {w ww w1 w':World} {ps:List aZ} {lv nS:Value}
theorem jq.start (low:∀k,S k→k<w.heap.size) (uN:∀k,X k→w.heap.size≤k) (xlt:∀k,X k→k<ww.heap.size) (f:aj S w ww):jq T S X w ww [] (.slice none 0 0):=
 ⟨low,uN,xlt,f,World.ownsRow_nil ww 0 T 10,fun b hb=>by cases hb⟩
theorem jq.keep (h:jq T S X w ww ps lv) (f:aj (fun k=>S k∨X k) ww w'):jq T S X w w' ps lv:=
 ⟨h.low,h.uN,fun k hk=>Nat.lt_of_lt_of_le (h.xlt k hk) f.size,h.aH.trans f fun i hi hs=>hs.elim id fun hx=>absurd hi (by have:=h.uN i hx;omega),
  f.owns h.own fun k hk hs=>by
   have h1:=h.new k hk
   rcases hs with hs|hs
   ·have:=h.low k hs;omega
   ·exact h1.2 hs,h.new⟩
theorem jq.pO (h:jq T S X w ww ps lv) (f:aj S ww w'):jq T S X w w' ps lv:=h.keep (f.mono fun _ _ s=> .inl s)
theorem jq.r_ (h:jq T S X w ww ps lv) (f:aj X ww w'):jq T S X w w' ps lv:=h.keep (f.mono fun _ _ s=> .inr s)
theorem jq.aJ (h:jq T S X w ww ps lv) (f:aj ay ww w'):jq T S X w w' ps lv:=h.keep (f.mono fun _ _ s=>s.elim)
theorem jq.step (h:jq T S X w w1 ps lv) {p:aZ} (own:w'.ownsRow 0 T 10 nS (ps.length+1) (kR ps++p.cells)) (fm:aj (eY lv) w1 w') (fr:gZ w1 lv nS):jq T S X w w' (ps++ [p]) nS:=
 ⟨h.low,h.uN,fun k hk=>Nat.lt_of_lt_of_le (h.xlt k hk) fm.size,h.aH.trans fm fun i hi hr=>absurd hi (by have:=(h.new i hr).1;omega),
  by rw[List.length_append,acT];exact own,fun b hb=>by
   rcases fr b hb with h1|h1
   ·exact h.new b h1
   ·exact⟨by have:=h.aH.size;omega,fun hx=>by have:=h.xlt b hx;omega⟩⟩
theorem jq.yu {Q:Nat→Prop} (h:jq T S X w ww ps lv) (hc:∀p∈ps,gK Q ww p.ev p.kv p.cv p.b.es p.b.ks p.b.c):zq Q ww lv ps:=⟨Rd.own h.own,hc⟩
def lJ (Q:Nat→Prop) (w:World) (ps:List aZ):Prop:=∀p∈ps,dh Q w p.ev p.kv p.b.es p.b.ks∧dP Q w p.cv p.b.c
theorem lJ.turn {Q Q':Nat→Prop} (h:lJ Q w ps) (f:∀b,b<w.heap.size→Q b→w'.heap[b]?=w.heap[b]?∧Q' b):lJ Q' w' ps:=fun p hp=>⟨(h p hp).1.turn f,eH.turn (h p hp).2 f⟩
theorem lJ.nil (Q:Nat→Prop) (w:World):lJ Q w []:=fun p hp=>by cases hp
theorem lJ.keep (h:lJ (iV w X lv) ww ps) (hB:jq T S X w ww ps lv) (f:aj (fun k=>S k∨X k) ww w'):lJ (iV w X lv) w' ps:=
 h.turn fun b hb hq=>⟨f.block b hb fun hs=>by
  rcases hs with hs|hs
  ·have:=hB.low b hs;have:=hq.1;omega
  ·exact hq.2.1 hs,hq⟩
theorem lJ.pO (h:lJ (iV w X lv) ww ps) (hB:jq T S X w ww ps lv) (f:aj S ww w'):lJ (iV w X lv) w' ps:=h.keep hB (f.mono fun _ _ s=> .inl s)
theorem lJ.r_ (h:lJ (iV w X lv) ww ps) (hB:jq T S X w ww ps lv) (f:aj X ww w'):lJ (iV w X lv) w' ps:=h.keep hB (f.mono fun _ _ s=> .inr s)
theorem lJ.step (h:lJ (iV w X lv) w1 ps) (hB:jq T S X w w1 ps lv) {p:aZ} (hp:dh (iV w X lv) w1 p.ev p.kv p.b.es p.b.ks∧dP (iV w X lv) w1 p.cv p.b.c) (fm:aj (eY lv) w1 w') (fr:gZ w1 lv nS):lJ (iV w X nS) w' (ps++ [p]):=by
 have h1:lJ (iV w X lv) w1 (ps++ [p]):=fun q hq=>by
  rcases List.mem_append.1 hq with hq|hq
  ·exact h q hq
  ·rw[List.mem_singleton.1 hq];exact hp
 exact h1.turn fun b hb hq=>⟨fm.block b hb hq.2.2,hq.1,hq.2.1,fun he=>by
  rcases fr b he with h2|h2
  ·exact hq.2.2 h2
  ·omega⟩
theorem jq.fresh (h:jq T S X w w1 ps lv) (b:Nat) (hb:w1.heap.size≤b):iV w X lv b:=
 ⟨by have:=h.aH.size;omega,fun hx=>by have:=h.xlt b hx;omega,fun he=>by have:=(h.own.lt b he).2;omega⟩
theorem jq.newP (h:jq T S X w w1 ps lv) {p:aZ} (ht:dh (fun b=>w1.heap.size≤b) ww p.ev p.kv p.b.es p.b.ks) (hc:dP (fun b=>w1.heap.size≤b) ww p.cv p.b.c):dh (iV w X lv) ww p.ev p.kv p.b.es p.b.ks∧dP (iV w X lv) ww p.cv p.b.c:=
 ⟨ht.turn fun b _ hq=>⟨rfl,h.fresh b hq⟩,eH.turn hc fun b _ hq=>⟨rfl,h.fresh b hq⟩⟩
theorem lJ.eX {Q:Nat→Prop} (h:lJ Q w ps):∀p∈ps,gK Q w p.ev p.kv p.cv p.b.es p.b.ks p.b.c:=fun p hp=>⟨(h p hp).1,dP.at_ (h p hp).2⟩
theorem aZ.one (p:aZ) (h1:p.ev.oneCell'=true) (h2:p.kv.oneCell'=true) (h3:p.cv.oneCell'=true):∀u∈p.cells,u.oneCell'=true:=by
 intro u hu
 simp only[aZ.cells,List.mem_cons,List.not_mem_nil,or_false]at hu
 rcases hu with rfl|rfl|rfl|rfl|rfl|rfl|rfl|rfl|rfl|rfl
 ·rfl
 ·rfl
 ·rfl
 ·rfl
 ·rfl
 ·rfl
 ·rfl
 ·exact h1
 ·exact h2
 ·exact h3
end
open Go.RowKit
theorem mg (w:World) (b:Nat) (x0 x1 x2 x3 x4 x5 x6 x7 x8 x9 x10:Value):aj (Only b) w ((((((((((((w).setCell ⟨b,0,none⟩ x0).setCell ⟨b,1,none⟩ x1).setCell ⟨b,2,none⟩ x2).setCell ⟨b,3,none⟩ x3).setCell ⟨b,4,none⟩ x4).setCell ⟨b,5,none⟩ x5).setCell ⟨b,6,none⟩ x6).setCell ⟨b,7,none⟩ x7).setCell ⟨b,8,none⟩ x8).setCell ⟨b,9,none⟩ x9).setCell ⟨b,10,none⟩ x10):=
 ((((((((((((((((((((dG w b 0 x0).trans (dG _ b 1 x1) fun _ _ h=>h)).trans (dG _ b 2 x2) fun _ _ h=>h)).trans (dG _ b 3 x3) fun _ _ h=>h)).trans (dG _ b 4 x4) fun _ _ h=>h)).trans (dG _ b 5 x5) fun _ _ h=>h)).trans (dG _ b 6 x6) fun _ _ h=>h)).trans (dG _ b 7 x7) fun _ _ h=>h)).trans (dG _ b 8 x8) fun _ _ h=>h)).trans (dG _ b 9 x9) fun _ _ h=>h)).trans (dG _ b 10 x10) fun _ _ h=>h)
theorem mD {w:World} {b:Nat} {a0 a1 a2 a3 a4 a5 a6 a7 a8 a9 a10:Value} {T:TypeId} (h:w.heap[b]?=some (.cells #[a0,a1,a2,a3,a4,a5,a6,a7,a8,a9,a10] T (0,0))) (x0 x1 x2 x3 x4 x5 x6 x7 x8 x9 x10:Value) (W:World) (hW:W=((((((((((((w).setCell ⟨b,0,none⟩ x0).setCell ⟨b,1,none⟩ x1).setCell ⟨b,2,none⟩ x2).setCell ⟨b,3,none⟩ x3).setCell ⟨b,4,none⟩ x4).setCell ⟨b,5,none⟩ x5).setCell ⟨b,6,none⟩ x6).setCell ⟨b,7,none⟩ x7).setCell ⟨b,8,none⟩ x8).setCell ⟨b,9,none⟩ x9).setCell ⟨b,10,none⟩ x10)):
 W.heap[b]?=some (.cells #[x0,x1,x2,x3,x4,x5,x6,x7,x8,x9,x10] T (0,0)):=by
 subst hW
 have e0:((w).setCell ⟨b,0,none⟩ x0).heap[b]?=some (.cells #[x0,a1,a2,a3,a4,a5,a6,a7,a8,a9,a10] T (0,0)):=bC h 0 x0
 have e1:(((w).setCell ⟨b,0,none⟩ x0).setCell ⟨b,1,none⟩ x1).heap[b]?=some (.cells #[x0,x1,a2,a3,a4,a5,a6,a7,a8,a9,a10] T (0,0)):=bC e0 1 x1
 have e2:((((w).setCell ⟨b,0,none⟩ x0).setCell ⟨b,1,none⟩ x1).setCell ⟨b,2,none⟩ x2).heap[b]?=some (.cells #[x0,x1,x2,a3,a4,a5,a6,a7,a8,a9,a10] T (0,0)):=bC e1 2 x2
 have e3:(((((w).setCell ⟨b,0,none⟩ x0).setCell ⟨b,1,none⟩ x1).setCell ⟨b,2,none⟩ x2).setCell ⟨b,3,none⟩ x3).heap[b]?=some (.cells #[x0,x1,x2,x3,a4,a5,a6,a7,a8,a9,a10] T (0,0)):=bC e2 3 x3
 have e4:((((((w).setCell ⟨b,0,none⟩ x0).setCell ⟨b,1,none⟩ x1).setCell ⟨b,2,none⟩ x2).setCell ⟨b,3,none⟩ x3).setCell ⟨b,4,none⟩ x4).heap[b]?=some (.cells #[x0,x1,x2,x3,x4,a5,a6,a7,a8,a9,a10] T (0,0)):=bC e3 4 x4
 have e5:(((((((w).setCell ⟨b,0,none⟩ x0).setCell ⟨b,1,none⟩ x1).setCell ⟨b,2,none⟩ x2).setCell ⟨b,3,none⟩ x3).setCell ⟨b,4,none⟩ x4).setCell ⟨b,5,none⟩ x5).heap[b]?=some (.cells #[x0,x1,x2,x3,x4,x5,a6,a7,a8,a9,a10] T (0,0)):=bC e4 5 x5
 have e6:((((((((w).setCell ⟨b,0,none⟩ x0).setCell ⟨b,1,none⟩ x1).setCell ⟨b,2,none⟩ x2).setCell ⟨b,3,none⟩ x3).setCell ⟨b,4,none⟩ x4).setCell ⟨b,5,none⟩ x5).setCell ⟨b,6,none⟩ x6).heap[b]?=some (.cells #[x0,x1,x2,x3,x4,x5,x6,a7,a8,a9,a10] T (0,0)):=bC e5 6 x6
 have e7:(((((((((w).setCell ⟨b,0,none⟩ x0).setCell ⟨b,1,none⟩ x1).setCell ⟨b,2,none⟩ x2).setCell ⟨b,3,none⟩ x3).setCell ⟨b,4,none⟩ x4).setCell ⟨b,5,none⟩ x5).setCell ⟨b,6,none⟩ x6).setCell ⟨b,7,none⟩ x7).heap[b]?=some (.cells #[x0,x1,x2,x3,x4,x5,x6,x7,a8,a9,a10] T (0,0)):=bC e6 7 x7
 have e8:((((((((((w).setCell ⟨b,0,none⟩ x0).setCell ⟨b,1,none⟩ x1).setCell ⟨b,2,none⟩ x2).setCell ⟨b,3,none⟩ x3).setCell ⟨b,4,none⟩ x4).setCell ⟨b,5,none⟩ x5).setCell ⟨b,6,none⟩ x6).setCell ⟨b,7,none⟩ x7).setCell ⟨b,8,none⟩ x8).heap[b]?=some (.cells #[x0,x1,x2,x3,x4,x5,x6,x7,x8,a9,a10] T (0,0)):=bC e7 8 x8
 have e9:(((((((((((w).setCell ⟨b,0,none⟩ x0).setCell ⟨b,1,none⟩ x1).setCell ⟨b,2,none⟩ x2).setCell ⟨b,3,none⟩ x3).setCell ⟨b,4,none⟩ x4).setCell ⟨b,5,none⟩ x5).setCell ⟨b,6,none⟩ x6).setCell ⟨b,7,none⟩ x7).setCell ⟨b,8,none⟩ x8).setCell ⟨b,9,none⟩ x9).heap[b]?=some (.cells #[x0,x1,x2,x3,x4,x5,x6,x7,x8,x9,a10] T (0,0)):=bC e8 9 x9
 have e10:((((((((((((w).setCell ⟨b,0,none⟩ x0).setCell ⟨b,1,none⟩ x1).setCell ⟨b,2,none⟩ x2).setCell ⟨b,3,none⟩ x3).setCell ⟨b,4,none⟩ x4).setCell ⟨b,5,none⟩ x5).setCell ⟨b,6,none⟩ x6).setCell ⟨b,7,none⟩ x7).setCell ⟨b,8,none⟩ x8).setCell ⟨b,9,none⟩ x9).setCell ⟨b,10,none⟩ x10).heap[b]?=some (.cells #[x0,x1,x2,x3,x4,x5,x6,x7,x8,x9,x10] T (0,0)):=bC e9 10 x10
 exact e10
theorem cu {w:World} {b:Nat} {a0 a1 a2 a3 a4 a5 a6 a7 a8 a9 a10:Value} {T:TypeId} {f:Nat×Nat} (h:w.heap[b]?=some (.cells #[a0,a1,a2,a3,a4,a5,a6,a7,a8,a9,a10] T f)):w.cell? ⟨b,0,none⟩=some a0∧w.cell? ⟨b,1,none⟩=some a1∧w.cell? ⟨b,2,none⟩=some a2∧w.cell? ⟨b,3,none⟩=some a3∧w.cell? ⟨b,4,none⟩=some a4∧w.cell? ⟨b,5,none⟩=some a5∧w.cell? ⟨b,6,none⟩=some a6∧w.cell? ⟨b,7,none⟩=some a7∧w.cell? ⟨b,8,none⟩=some a8∧w.cell? ⟨b,9,none⟩=some a9∧w.cell? ⟨b,10,none⟩=some a10:=
 ⟨au h 0 rfl,au h 1 rfl,au h 2 rfl,au h 3 rfl,au h 4 rfl,au h 5 rfl,au h 6 rfl,au h 7 rfl,au h 8 rfl,au h 9 rfl,au h 10 rfl⟩
theorem jV {w:World} {b:Nat} {cs:Array Value} {T:TypeId} (h:w.heap[b]?=some (.cells cs T (0,0))):w.frozen? ⟨b,0,none⟩=false∧w.frozen? ⟨b,1,none⟩=false∧w.frozen? ⟨b,2,none⟩=false∧w.frozen? ⟨b,3,none⟩=false∧w.frozen? ⟨b,4,none⟩=false∧w.frozen? ⟨b,5,none⟩=false∧w.frozen? ⟨b,6,none⟩=false∧w.frozen? ⟨b,7,none⟩=false∧w.frozen? ⟨b,8,none⟩=false∧w.frozen? ⟨b,9,none⟩=false∧w.frozen? ⟨b,10,none⟩=false:=
 ⟨aG h 0,aG h 1,aG h 2,aG h 3,aG h 4,aG h 5,aG h 6,aG h 7,aG h 8,aG h 9,aG h 10⟩
theorem acU:(Tryz.prog.info? 59).map (fun i=>(i.zero,i.size,i.bytes))=some (some (.agg #[.int .i64 0, .int .i64 0, .int .i64 0, .int .i64 0, .int .i64 0, .int .i64 0, .int .i64 0, .slice none 0 0, .slice none 0 0, .slice none 0 0]),10,128):=by kernel_rfl
theorem VO:(Tryz.prog.info? 55).map (fun i=>(i.zero,i.size,i.bytes))=some (some (.agg #[.int .i64 0, .int .i64 0, .int .i64 0, .int .i64 0, .int .i64 0, .int .i64 0, .int .i64 0, .slice none 0 0, .slice none 0 0, .slice none 0 0]),10,128):=by kernel_rfl
theorem acV (Q:Nat→Prop) (m:bW) (ps:List aZ) (w:World) (lv ev kv cv:Value) (h:mZ Q w m ps lv ev kv cv) (hl:m.bs.length≤100):
 Calls Tryz.prog 16 #[m.ag lv ev kv cv] w fun e w'=>∃nS,e= .returned (m.ag nS ev kv cv)∧mZ Q w' m ps nS ev kv cv∧aj ay w w':=by
 obtain⟨i0,hi,hz0,hz1,hz2⟩:=info_parts VO
 have hl':ps.length≤100:=by rw[h.len];exact hl
 have Jv:=ah h.eq
 have VP:=ah h.eX
 have HCB:=ah h.bs.eX
 have wM:=ah (fun p hp=>(h.bs.eX p hp).shape)
 obtain⟨kind,fr,tt,v0,v1,v2,v3,bs,es,ks,c⟩:=m
 dsimp only at Jv VP
 have hrd:=h.bs.rd
 obtain⟨a0,c0,a1,c1,a2,c2,rfl,rfl,rfl⟩:=h.eX.shape
 obtain⟨al,cl,rfl⟩:=h.bs.rd.sl
 have sJ:=ah hrd
 clear h hl hrd
 dsimp only[bW.ag]
 generalize es.length=n at*
 generalize ks.len=m at*
 generalize c.length=k at*
 generalize hln:ps.length=ln at*
 have HLEN:=ah hln;clear hln
 obtain⟨WB,eU⟩:∃WB,WB=((w.alloc (.cells #[.int .i64 kind, .int .i64 fr, .int .i64 tt, .int .i64 v0, .int .i64 v1, .int .i64 v2, .int .i64 v3, .slice al ln cl, .slice a0 n c0, .slice a1 m c1, .slice a2 k c2] 36)).alloc (.cells #[.int .i64 0, .int .i64 0, .int .i64 0, .int .i64 0, .int .i64 0, .int .i64 0, .int .i64 0, .slice none 0 0, .slice none 0 0, .slice none 0 0, .slice none 0 0] 42)).alloc (.cells #[.int .i64 kind, .int .i64 fr, .int .i64 tt, .int .i64 v0, .int .i64 v1, .int .i64 v2, .int .i64 v3, .slice none 0 0, .slice a0 n c0, .slice a1 m c1, .slice a2 k c2] 42):=⟨_,rfl⟩
 have hb0:WB.heap[w.heap.size]?=some (.cells #[.int .i64 kind, .int .i64 fr, .int .i64 tt, .int .i64 v0, .int .i64 v1, .int .i64 v2, .int .i64 v3, .slice al ln cl, .slice a0 n c0, .slice a1 m c1, .slice a2 k c2] 36 (0,0)):=by rw[eU,Below.heap_alloc _ _ _ (by simp;omega),Below.heap_alloc _ _ _ (by simp)];exact heap_alloc_new w _
 have hb1:WB.heap[w.heap.size+1]?=some (.cells #[.int .i64 0, .int .i64 0, .int .i64 0, .int .i64 0, .int .i64 0, .int .i64 0, .int .i64 0, .slice none 0 0, .slice none 0 0, .slice none 0 0, .slice none 0 0] 42 (0,0)):=by
  rw[eU,Below.heap_alloc _ _ _ (by simp)]
  have:=heap_alloc_new (w.alloc (.cells #[.int .i64 kind, .int .i64 fr, .int .i64 tt, .int .i64 v0, .int .i64 v1, .int .i64 v2, .int .i64 v3, .slice al ln cl, .slice a0 n c0, .slice a1 m c1, .slice a2 k c2] 36)) (.cells #[.int .i64 0, .int .i64 0, .int .i64 0, .int .i64 0, .int .i64 0, .int .i64 0, .int .i64 0, .slice none 0 0, .slice none 0 0, .slice none 0 0, .slice none 0 0] 42)
  simpa using this
 have hb2:WB.heap[w.heap.size+1+1]?=some (.cells #[.int .i64 kind, .int .i64 fr, .int .i64 tt, .int .i64 v0, .int .i64 v1, .int .i64 v2, .int .i64 v3, .slice none 0 0, .slice a0 n c0, .slice a1 m c1, .slice a2 k c2] 42 (0,0)):=by
  rw[eU]
  have:=heap_alloc_new ((w.alloc (.cells #[.int .i64 kind, .int .i64 fr, .int .i64 tt, .int .i64 v0, .int .i64 v1, .int .i64 v2, .int .i64 v3, .slice al ln cl, .slice a0 n c0, .slice a1 m c1, .slice a2 k c2] 36)).alloc (.cells #[.int .i64 0, .int .i64 0, .int .i64 0, .int .i64 0, .int .i64 0, .int .i64 0, .int .i64 0, .slice none 0 0, .slice none 0 0, .slice none 0 0, .slice none 0 0] 42)) (.cells #[.int .i64 kind, .int .i64 fr, .int .i64 tt, .int .i64 v0, .int .i64 v1, .int .i64 v2, .int .i64 v3, .slice none 0 0, .slice a0 n c0, .slice a1 m c1, .slice a2 k c2] 42)
  simpa using this
 have hfb:aj ay w WB:=by rw[eU];exact((aj.alloc ay w _).aC (aj.alloc _ _ _)).aC (aj.alloc _ _ _)
 have hB:jq 55 ay (fun k=>k=w.heap.size∨k=w.heap.size+1∨k=w.heap.size+1+1) w WB [] (.slice none 0 0):=
  jq.start (fun k hk=>hk.elim) (fun k hk=>by omega) (fun k hk=>by have:=lt_of_block hb2;omega) hfb
 have HB:=ah hB
 have H0:=ah hb0
 have H1:=ah hb1
 have H2:=ah hb2
 have dF:=ah eU
 clear hb0 hb1 hb2 hfb hB eU
 go_enter Tryz.func16,Tryz.ntmps16
 go_wp2
 go_loopw [19] (fun i ww=>∃(q:Nat) (nS:Value),q≤ln∧i= .int .i64 q∧jq 55 ay (fun k=>k=w.heap.size∨k=w.heap.size+1∨k=w.heap.size+1+1) w ww (ps.take q) nS∧ww.heap[w.heap.size]?=some (.cells #[.int .i64 kind, .int .i64 fr, .int .i64 tt, .int .i64 v0, .int .i64 v1, .int .i64 v2, .int .i64 v3, .slice al ln cl, .slice a0 n c0, .slice a1 m c1, .slice a2 k c2] 36 (0,0))∧ww.heap[w.heap.size+1]?=some (.cells #[.int .i64 0, .int .i64 0, .int .i64 0, .int .i64 0, .int .i64 0, .int .i64 0, .int .i64 0, .slice none 0 0, .slice none 0 0, .slice none 0 0, .slice none 0 0] 42 (0,0))∧ww.heap[w.heap.size+1+1]?=some (.cells #[.int .i64 kind, .int .i64 fr, .int .i64 tt, .int .i64 v0, .int .i64 v1, .int .i64 v2, .int .i64 v3,nS, .slice a0 n c0, .slice a1 m c1, .slice a2 k c2] 42 (0,0))) (fun i _=>ln-(intOf i).toNat)
 case atStart=>rw[←dF.out];exact⟨0,_,Nat.zero_le _,rfl,HB.out,H0.out,H1.out,H2.out⟩
 case round=>
  clear HB H0 H1 H2 dF
  obtain⟨q,nS,hq,rfl,hB,h0,h1,h2⟩:=hrel
  have htl:(ps.take q).length=q:=by rw[List.length_take,HLEN.out];omega
  obtain⟨aV,cV,rfl⟩:=(Rd.own hB.own).sl
  rw[htl]at h2
  have hown:=hB.own
  rw[htl]at hown
  rw[htl]at hB
  have HB:=ah hB;clear hB
  have H0:=ah h0;clear h0
  have H1:=ah h1;clear h1
  have H2:=ah h2;clear h2
  have HOWN:=ah hown;clear hown htl
  by_cases hlt:q<ln
  ·have hlk:q<ps.length:=by rw[HLEN.out];exact hlt
   have hrd:=sJ.out.aJ HB.out.aH
   rcases Rd.shape hrd with⟨ad,he,hz⟩|⟨b,off,cc,he,hmax⟩
   ·exfalso;omega
   ·injection he with e1 e2 e3
    subst e1 e3
    clear e2
    obtain⟨q0,q1,q2,q3,q4,q5,q6,q7,q8,q9⟩:=Dz hrd q hlk
    clear hrd
    have hsh:=wM.out _ (getD_mem aZ.zero hlk)
    have htk:=take_succ aZ.zero hlk
    obtain⟨p,hgd⟩:∃p,p=ps.getD q aZ.zero:=⟨_,rfl⟩
    rw[←hgd]at q0 q1 q2 q3 q4 q5 q6 q7 q8 q9 hsh htk
    clear hgd
    obtain⟨⟨dc,af,la,u0,u1,u2,u3,es',ks',c'⟩,ev',kv',cv'⟩:=p
    dsimp only at q0 q1 q2 q3 q4 q5 q6 q7 q8 q9 hsh
    obtain⟨a3,c3,a4,c4,a5,c5,rfl,rfl,rfl⟩:=hsh
    have hpc:aZ.cells ⟨⟨dc,af,la,u0,u1,u2,u3,es',ks',c'⟩, .slice a3 es'.length c3, .slice a4 ks'.len c4, .slice a5 c'.length c5⟩=[.int .i64 dc, .int .i64 af, .int .i64 la, .int .i64 u0, .int .i64 u1, .int .i64 u2, .int .i64 u3, .slice a3 es'.length c3, .slice a4 ks'.len c4, .slice a5 c'.length c5]:=rfl
    have CS:=ah hpc;clear hpc
    have xR:=ah htk;clear htk
    have hone:=aZ.one ⟨⟨dc,af,la,u0,u1,u2,u3,es',ks',c'⟩, .slice a3 es'.length c3, .slice a4 ks'.len c4, .slice a5 c'.length c5⟩ rfl rfl rfl
    rw[CS.out]at hone
    have qp:=ah hone;clear hone
    generalize es'.length=n' at*
    generalize ks'.len=m' at*
    generalize c'.length=k' at*
    go_wp2_with fail
    have z2:=au H2.out 7 rfl
    have z0:=au H0.out 7 rfl
    have hbs:b<wr.heap.size:=World.block_lt_of_cell? _ _ q0
    have hbw:b<w.heap.size:=by
     rcases sJ.out with⟨ad,he,hz,_⟩|⟨b',off',c',he,_,_,hc⟩
     ·exfalso;omega
     ·injection he with e1 e2 e3
      injection e1 with e1
      have hc0:=hc 0 _ (show(kR ps)[0]?=some _ from List.getElem?_eq_getElem (by
       rw[VN,HLEN.out];omega))
      have:=World.block_lt_of_cell? _ _ hc0
      cases e1
      exact this
    refine ku (S:=fun w'=>w'.cell? ⟨w.heap.size+1+1,7,none⟩=some (.slice aV q cV)∧w'.cell? ⟨w.heap.size,7,none⟩=some (.slice (some ⟨b,off,none⟩) ln cl)∧w'.cell? ⟨b,off+q*10,none⟩=some (.int .i64 dc)∧w'.cell? ⟨b,off+q*10+1,none⟩=some (.int .i64 af)∧w'.cell? ⟨b,off+q*10+2,none⟩=some (.int .i64 la)∧w'.cell? ⟨b,off+q*10+3,none⟩=some (.int .i64 u0)∧w'.cell? ⟨b,off+q*10+4,none⟩=some (.int .i64 u1)∧w'.cell? ⟨b,off+q*10+5,none⟩=some (.int .i64 u2)∧w'.cell? ⟨b,off+q*10+6,none⟩=some (.int .i64 u3)∧w'.cell? ⟨b,off+q*10+7,none⟩=some (.slice a3 n' c3)∧w'.cell? ⟨b,off+q*10+8,none⟩=some (.slice a4 m' c4)∧w'.cell? ⟨b,off+q*10+9,none⟩=some (.slice a5 k' c5)) 10 (by kernel_rfl) ⟨z2,z0,q0,q1,q2,q3,q4,q5,q6,q7,q8,q9⟩ ?_
    intro hS
    have gQ:=ah (fun Y Y' (f:aj ay Y Y') (hS:Y.cell? ⟨w.heap.size+1+1,7,none⟩=some (.slice aV q cV)∧Y.cell? ⟨w.heap.size,7,none⟩=some (.slice (some ⟨b,off,none⟩) ln cl)∧Y.cell? ⟨b,off+q*10,none⟩=some (.int .i64 dc)∧Y.cell? ⟨b,off+q*10+1,none⟩=some (.int .i64 af)∧Y.cell? ⟨b,off+q*10+2,none⟩=some (.int .i64 la)∧Y.cell? ⟨b,off+q*10+3,none⟩=some (.int .i64 u0)∧Y.cell? ⟨b,off+q*10+4,none⟩=some (.int .i64 u1)∧Y.cell? ⟨b,off+q*10+5,none⟩=some (.int .i64 u2)∧Y.cell? ⟨b,off+q*10+6,none⟩=some (.int .i64 u3)∧Y.cell? ⟨b,off+q*10+7,none⟩=some (.slice a3 n' c3)∧Y.cell? ⟨b,off+q*10+8,none⟩=some (.slice a4 m' c4)∧Y.cell? ⟨b,off+q*10+9,none⟩=some (.slice a5 k' c5))=>(⟨f.cell' hS.1 id,f.cell' hS.2.1 id,f.cell' hS.2.2.1 id,f.cell' hS.2.2.2.1 id,f.cell' hS.2.2.2.2.1 id,f.cell' hS.2.2.2.2.2.1 id,f.cell' hS.2.2.2.2.2.2.1 id,f.cell' hS.2.2.2.2.2.2.2.1 id,f.cell' hS.2.2.2.2.2.2.2.2.1 id,f.cell' hS.2.2.2.2.2.2.2.2.2.1 id,f.cell' hS.2.2.2.2.2.2.2.2.2.2.1 id,f.cell' hS.2.2.2.2.2.2.2.2.2.2.2 id⟩:Y'.cell? ⟨w.heap.size+1+1,7,none⟩=some (.slice aV q cV)∧Y'.cell? ⟨w.heap.size,7,none⟩=some (.slice (some ⟨b,off,none⟩) ln cl)∧Y'.cell? ⟨b,off+q*10,none⟩=some (.int .i64 dc)∧Y'.cell? ⟨b,off+q*10+1,none⟩=some (.int .i64 af)∧Y'.cell? ⟨b,off+q*10+2,none⟩=some (.int .i64 la)∧Y'.cell? ⟨b,off+q*10+3,none⟩=some (.int .i64 u0)∧Y'.cell? ⟨b,off+q*10+4,none⟩=some (.int .i64 u1)∧Y'.cell? ⟨b,off+q*10+5,none⟩=some (.int .i64 u2)∧Y'.cell? ⟨b,off+q*10+6,none⟩=some (.int .i64 u3)∧Y'.cell? ⟨b,off+q*10+7,none⟩=some (.slice a3 n' c3)∧Y'.cell? ⟨b,off+q*10+8,none⟩=some (.slice a4 m' c4)∧Y'.cell? ⟨b,off+q*10+9,none⟩=some (.slice a5 k' c5)))
    clear z0 z2 q0 q1 q2 q3 q4 q5 q6 q7 q8 q9
    have jm:=ah (HB.out.aJ (aj.drew ay wr))
    have OC:=ah ((aj.drew ay wr).owns HOWN.out fun _ _=>id)
    have H0Y:=ah ((aj.drew ay wr).blk H0.out id)
    have H1Y:=ah ((aj.drew ay wr).blk H1.out id)
    have OD:=ah ((aj.drew ay wr).blk H2.out id)
    clear HB HOWN H0 H1 H2
    generalize wr.drew=Y0 at*
    refine aU 0 22 rfl rfl (v:=?_) (.inl ⟨by rfl,?_⟩) ?_
    rotate_left 1
    ·(intro w hSw;(try dsimp only at hSw);go_simp;(try with_reducible rfl))
    refine aU 1 23 rfl rfl (v:=?_) (.inl ⟨by rfl,?_⟩) ?_
    rotate_left 1
    ·(intro w hSw;(try dsimp only at hSw);go_simp;(try with_reducible rfl))
    try simp only[Act.put,aN,aO,aP]
    refine aU 2 24 rfl rfl (v:=?_) (.inl ⟨by rfl,?_⟩) ?_
    rotate_left 1
    ·(intro w hSw;(try dsimp only at hSw);go_simp;(try with_reducible rfl))
    refine aU 3 25 rfl rfl (v:=?_) (.inl ⟨by rfl,?_⟩) ?_
    rotate_left 1
    ·(intro w hSw;(try dsimp only at hSw);go_simp;(try with_reducible rfl))
    try simp only[Act.put,aN,aO,aP]
    refine aU 4 26 rfl rfl (v:=?_) (.inl ⟨by rfl,?_⟩) ?_
    rotate_left 1
    ·(intro w hSw;(try dsimp only at hSw);go_simp;(try with_reducible rfl))
    refine aU 5 27 rfl rfl (v:=?_) (.inl ⟨by rfl,?_⟩) ?_
    rotate_left 1
    ·(intro w hSw;(try dsimp only at hSw);go_simp;(try with_reducible rfl))
    try simp only[Act.put,aN,aO,aP]
    refine aU 6 28 rfl rfl (v:=?_) (.inl ⟨by rfl,?_⟩) ?_
    rotate_left 1
    ·(intro w hSw;(try dsimp only at hSw);go_simp;(try with_reducible rfl))
    try simp only[Act.put,aN,aO,aP]
    refine bJ (i:=7) (by kernel_rfl) rfl (fun K hK=>?_)
    go_simp
    have hS3:=gQ.out _ _ (aj.alloc ay Y0 (.cells #[.int .i64 dc, .int .i64 af, .int .i64 la, .int .i64 u0, .int .i64 u1, .int .i64 u2, .int .i64 u3, .slice a3 n' c3, .slice a4 m' c4, .slice a5 k' c5] 55)) hS
    refine hK.out _ _ hS3 ?_
    clear hK K
    try simp only[Act.put,aN,aO,aP]
    refine bJ (i:=8) (by kernel_rfl) rfl (fun K hK=>?_)
    refine Js Y0 [.int .i64 dc, .int .i64 af, .int .i64 la, .int .i64 u0, .int .i64 u1, .int .i64 u2, .int .i64 u3, .slice a3 n' c3, .slice a4 m' c4, .slice a5 k' c5] rfl (.tmp 23) (.tmp 29) 40 rfl 55 i0 _ 10 128 Tryz.underlying40 hi hz0 hz1 hz2 (by decide) (by decide) (.slice aV q cV) q _ OC.out 1 1 (by simp[Act.eval]) (by simp[Act.eval]) rfl qp.out (by simp only[maxLen];omega) (by omega) ?_
    intro ad c6 w6 kX dV kY
    have hnx:∀x,x=w.heap.size∨x=w.heap.size+1∨x=w.heap.size+1+1→¬eY (.slice aV q cV) x:=fun x hx hr=>(jm.out.new x hr).2 hx
    have hno:¬eY (.slice aV q cV) b:=fun hr=>by have:=(jm.out.new b hr).1;omega
    have hS6:w6.cell? ⟨w.heap.size+1+1,7,none⟩=some (.slice aV q cV)∧w6.cell? ⟨w.heap.size,7,none⟩=some (.slice (some ⟨b,off,none⟩) ln cl)∧w6.cell? ⟨b,off+q*10,none⟩=some (.int .i64 dc)∧w6.cell? ⟨b,off+q*10+1,none⟩=some (.int .i64 af)∧w6.cell? ⟨b,off+q*10+2,none⟩=some (.int .i64 la)∧w6.cell? ⟨b,off+q*10+3,none⟩=some (.int .i64 u0)∧w6.cell? ⟨b,off+q*10+4,none⟩=some (.int .i64 u1)∧w6.cell? ⟨b,off+q*10+5,none⟩=some (.int .i64 u2)∧w6.cell? ⟨b,off+q*10+6,none⟩=some (.int .i64 u3)∧w6.cell? ⟨b,off+q*10+7,none⟩=some (.slice a3 n' c3)∧w6.cell? ⟨b,off+q*10+8,none⟩=some (.slice a4 m' c4)∧w6.cell? ⟨b,off+q*10+9,none⟩=some (.slice a5 k' c5):=⟨dV.cell' hS.1 (hnx _ (.inr (.inr rfl))),dV.cell' hS.2.1 (hnx _ (.inl rfl)),dV.cell' hS.2.2.1 hno,dV.cell' hS.2.2.2.1 hno,dV.cell' hS.2.2.2.2.1 hno,dV.cell' hS.2.2.2.2.2.1 hno,dV.cell' hS.2.2.2.2.2.2.1 hno,dV.cell' hS.2.2.2.2.2.2.2.1 hno,dV.cell' hS.2.2.2.2.2.2.2.2.1 hno,dV.cell' hS.2.2.2.2.2.2.2.2.2.1 hno,dV.cell' hS.2.2.2.2.2.2.2.2.2.2.1 hno,dV.cell' hS.2.2.2.2.2.2.2.2.2.2.2 hno⟩
    have hcf:w6.frozen? ⟨w.heap.size+1+1,7,none⟩=false:=aG (dV.blk OD.out (hnx _ (.inr (.inr rfl)))) 7
    have hset:aj (Only (w.heap.size+1+1)) w6 (w6.setCell ⟨w.heap.size+1+1,7,none⟩ (.slice ad (q+1) c6)):=dG _ _ _ _
    have H0K:=ah (hset.blk (dV.blk H0Y.out (hnx _ (.inl rfl))) fun hs=>by have hs:w.heap.size=w.heap.size+1+1:=hs;omega)
    have H1K:=ah (hset.blk (dV.blk H1Y.out (hnx _ (.inr (.inl rfl)))) fun hs=>by have hs:w.heap.size+1=w.heap.size+1+1:=hs;omega)
    have H2K:=ah (show(w6.setCell ⟨w.heap.size+1+1,7,none⟩ (.slice ad (q+1) c6)).heap[w.heap.size+1+1]?=some (.cells #[.int .i64 kind, .int .i64 fr, .int .i64 tt, .int .i64 v0, .int .i64 v1, .int .i64 v2, .int .i64 v3, .slice ad (q+1) c6, .slice a0 n c0, .slice a1 m c1, .slice a2 k c2] 42 (0,0))from bC (dV.blk OD.out (hnx _ (.inr (.inr rfl)))) 7 (.slice ad (q+1) c6))
    have hstp:=jm.out.step (p:=⟨⟨dc,af,la,u0,u1,u2,u3,es',ks',c'⟩, .slice a3 n' c3, .slice a4 m' c4, .slice a5 k' c5⟩) (nS:= .slice ad (q+1) c6) (w':=w6) (by rw[show(ps.take q).length=q by rw[List.length_take,HLEN.out];omega];exact kX) dV kY
    have jP:=ah ((hstp.r_ (hset.mono fun i _ hs=> .inr (.inr hs))))
    have hl6:w.heap.size+1+1<w6.heap.size:=lt_of_block (dV.blk OD.out (hnx _ (.inr (.inr rfl))))
    have hrow:=hS6.1
    refine hK.out _ _ hS6 ?_
    clear hK K kX dV kY hnx hno hset hS3 hstp
    try simp only[Act.put,aN,aO,aP]
    refine aU 9 31 rfl rfl (v:=?_) (.inl ⟨by rfl,?_⟩) ?_
    rotate_left 1
    ·(intro w hSw;(try dsimp only at hSw);go_simp;(try with_reducible rfl))
    try simp only[Act.put,aN,aO,aP]
    refine iC (by kernel_rfl) (by kernel_rfl) rfl (fun K hK=>?_)
    go_simp
    refine hK.out _ _ ?_
    clear hK K hrow hcf
    go_wp2
    go_roundw
    case rel=>exact⟨q+1,_,by omega,by go_num,xR.out▸jP.out,H0K.out,H1K.out,H2K.out⟩
    case measure=>simp[intOf];omega
  ·obtain rfl:ln=q:=by omega
   have hta:ps.take ln=ps:=List.take_of_length_le (by rw[HLEN.out];exact Nat.le_refl _)
   rw[hta]at HB
   have gV:=ah hta
   clear hlt hq hta
   obtain⟨z0,z1,z2,z3,z4,z5,z6,z7,z8,z9,z10⟩:=cu H2.out
   obtain⟨y0,y1,y2,y3,y4,y5,y6,y7,y8,y9,aY⟩:=cu H1.out
   obtain⟨g0,g1,g2,g3,g4,g5,g6,g7,g8,g9,g10⟩:=jV H1.out
   have zl:=lt_of_block H2.out
   have yl:=lt_of_block H1.out
   go_wp2
   clear z0 y0 g0 z1 y1 g1 z2 y2 g2 z3 y3 g3 z4 y4 g4 z5 y5 g5 z6 y6 g6 z7 y7 g7 z8 y8 g8 z9 y9 g9 z10 aY g10 zl yl
   have hel:=mD H1.out (.int .i64 kind) (.int .i64 fr) (.int .i64 tt) (.int .i64 v0) (.int .i64 v1) (.int .i64 v2) (.int .i64 v3) (.slice aV ln cV) (.slice a0 n c0) (.slice a1 m c1) (.slice a2 k c2) _ rfl
   obtain⟨y0,y1,y2,y3,y4,y5,y6,y7,y8,y9,aY⟩:=cu hel
   have hset:=mg wr (w.heap.size+1) (.int .i64 kind) (.int .i64 fr) (.int .i64 tt) (.int .i64 v0) (.int .i64 v1) (.int .i64 v2) (.int .i64 v3) (.slice aV ln cV) (.slice a0 n c0) (.slice a1 m c1) (.slice a2 k c2)
   have JL:=HB.out.r_ (hset.mono fun i _ hs=> .inr (.inl hs))
   exact bodyPost_ret (v:= .agg #[.int .i64 kind, .int .i64 fr, .int .i64 tt, .int .i64 v0, .int .i64 v1, .int .i64 v2, .int .i64 v3, .slice aV ln cV, .slice a0 n c0, .slice a1 m c1, .slice a2 k c2]) (by simp[results,Tryz.results16,go_sem,y0,y1,y2,y3,y4,y5,y6,y7,y8,y9,aY]) rfl ⟨_,rfl,⟨JL.yu fun p hp=>(HCB.out p hp).aJ JL.aH,Jv.out,VP.out.aJ JL.aH⟩,JL.aH⟩
end Go.Proofs.YtabkpccdnkjoiaaGreat
