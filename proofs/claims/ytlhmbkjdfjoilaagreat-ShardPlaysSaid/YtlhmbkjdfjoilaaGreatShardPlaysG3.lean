/- Words for the law ShardPlays: R6b, Own, R6ends, R6Of. -/
import Derived.Test.YtlhmbkjdfjoilaaGreatShardPlaysG0
import Derived.Test.YtlhmbkjdfjoilaaGreatShardPlaysG2
set_option linter.unusedSimpArgs false
set_option linter.unusedVariables false
set_option maxHeartbeats 32000000
set_option maxRecDepth 1000000
namespace Go.Proofs.YtlhmbkjdfjoilaaGreat
open Go.RowKit
theorem both_any (w:World) (va vb:Value) (a b:aZ) (ha:k_ w va a) (fa:Fits a) (hb:k_ w vb b) (fb:Fits b):
 Calls Tryz.prog 151 #[va,vb] w fun e w'=>e= .returned (.bool (tf (dO a∧dO b)))∧aj aF w w':=by
 have HA:=ah (Jw w va a ha fa)
 have HB:=ah (fun w' h=>Jw w' vb b (Rd.aS hb h) fb)
 clear ha fa hb fb
 by_cases h:dO a
 ·rw[show(dO a∧dO b)=dO b by simp[h]]
  rw[gu h]at HA
  generalize tf (dO b)=t at*
  clear h
  go_enter Tryz.func151,Tryz.ntmps151
  go_wp2_with(first|(go_at_call 167;refine(HB.out w1 hw1).mono ?_;rintro e w2 ⟨rfl,hw2⟩)|(go_at_call 167;refine HA.out.mono ?_;rintro e w1 ⟨rfl,hw1⟩))
  go_ret
  exact⟨rfl,hw1.aH hw2⟩
 ·rw[eH (fun hh=>h hh.1)]
  rw[eH h]at HA
  clear h HB
  go_enter Tryz.func151,Tryz.ntmps151
  go_wp2_with(go_at_call 167;refine HA.out.mono ?_;rintro e w1 ⟨rfl,hw1⟩)
  go_ret
  exact⟨rfl,hw1⟩
theorem aaQ {l:aZ} {k:Nat} (n:Int) (hk:k<l.length):bK (l.take (k+1)) n↔bK (l.take k) n∨((l.getD k (0,0)).1≤n∧n≤(l.getD k (0,0)).2):=by
 rw[take_succ (0,0) hk,Jm]
theorem aaR {l:aZ} {k:Nat} {n:Int} (h:bK (l.take k) n):bK l n:=by
 obtain⟨r,hr,h⟩:=h
 exact⟨r,List.mem_of_mem_take hr,h⟩
theorem FW (w:World) (v:Value) (l:aZ) (x:Int) (hv:k_ w v l):
 Calls Tryz.prog 160 #[v, .int .i64 x] w fun e w'=>e= .returned (.bool (tf (bK l x)))∧w'=w:=by
 rcases Rd.shape hv with⟨ad,rfl,h0⟩|⟨b,off,c,rfl,hmax⟩
 ·obtain rfl:l=[]:=List.eq_nil_of_length_eq_zero h0
  rw[eH (nM x)]
  clear hv
  go_enter Tryz.func160,Tryz.ntmps160
  go_wp2
  go_loop [8] (fun i=>i= .int .i64 0) (fun _=>0)
  case atStart=>rfl
  case round=>
   obtain rfl:=hrel
   go_wp2
   go_ret
   exact⟨rfl,rfl⟩
 ·have HH:=ah hv;clear hv
  generalize hn:l.length=n at*
  have HN:=ah hn;clear hn
  go_enter Tryz.func160,Tryz.ntmps160
  go_wp2
  go_loop [8] (fun i=>∃k:Nat,k≤n∧i= .int .i64 k∧tf (bK (l.take k) x)=false) (fun i=>n-(intOf i).toNat)
  case atStart=>exact⟨0,Nat.zero_le _,rfl,eH (nM x)⟩
  case round=>
   obtain⟨k,hk,rfl,hr⟩:=hrel
   have HR:=ah (xE.1 hr);clear hr
   by_cases hlt:k<n
   ·obtain⟨q1,q2⟩:=r_ HH.out HN.out.symm k (by rw[HN.out];exact hlt)
    have hs:=aaQ (l:=l) x (show k<l.length by rw[HN.out];exact hlt)
    have HS:=ah hs;clear hs
    generalize l.getD k (0,0)=r at*
    by_cases c1:r.1≤x
    ·by_cases c2:x≤r.2
     ·go_wp2
      go_ret
      exact⟨dF (gu (aaR (HS.out.2 (.inr ⟨c1,c2⟩)))).symm,rfl⟩
     ·go_wp2
      go_round
      case rel=>exact⟨k+1,by omega,by go_num,eH fun h=>(HS.out.1 h).elim HR.out (fun h=>by omega)⟩
      case measure=>simp[intOf];omega
    ·go_wp2
     go_round
     case rel=>exact⟨k+1,by omega,by go_num,eH fun h=>(HS.out.1 h).elim HR.out (fun h=>by omega)⟩
     case measure=>simp[intOf];omega
   ·obtain rfl:k=n:=by omega
    have hall:¬bK l x:=by
     have:=HR.out
     rwa [List.take_of_length_le (by rw[HN.out];exact Nat.le_refl _)]at this
    have HA:=ah hall;clear hall
    go_wp2
    go_ret
    exact⟨dF (eH HA.out).symm,rfl⟩
theorem Ny (w:World) (v:Value) (l:List Int) (x:Int) (hv:Jv w v l):
 Calls Tryz.prog 162 #[v, .int .i64 x] w fun e w'=>e= .returned (.tuple #[.int .i64 ((nextL l x).getD 0), .bool (nextL l x).isSome])∧w'=w:=by
 rcases Rd.shape hv with⟨ad,rfl,h0⟩|⟨b,off,c,rfl,hmax⟩
 ·obtain rfl:l=[]:=List.eq_nil_of_length_eq_zero h0
  clear hv
  go_enter Tryz.func162,Tryz.ntmps162
  go_wp2
  go_loop [6,7,11] (fun p o i=>p= .int .i64 0∧o= .bool false∧i= .int .i64 0) (fun _ _ _=>0)
  case atStart=>exact⟨rfl,rfl,rfl⟩
  case round=>
   obtain⟨rfl,rfl,rfl⟩:=hrel
   go_wp2
   exact bodyPost_ret (v:= .tuple #[.int .i64 0, .bool false]) (by simp[results,Tryz.results162,go_sem]) rfl ⟨rfl,rfl⟩
 ·have HH:=ah hv;clear hv
  generalize hn:l.length=n at*
  have HN:=ah hn;clear hn
  go_enter Tryz.func162,Tryz.ntmps162
  go_wp2
  go_loop [6,7,11] (fun p o i=>∃k:Nat,k≤n∧i= .int .i64 k∧((nextL (l.take k) x=none∧p= .int .i64 0∧o= .bool false)∨∃m,nextL (l.take k) x=some m∧p= .int .i64 m∧o= .bool true)) (fun _ _ i=>n-(intOf i).toNat)
  case atStart=>exact⟨0,Nat.zero_le _,rfl, .inl ⟨rfl,rfl,rfl⟩⟩
  case round=>
   obtain⟨k,hk,rfl,hr⟩:=hrel
   by_cases hlt:k<n
   ·have q1:=Uk HH.out HN.out.symm k (by rw[HN.out];exact hlt)
    have hs:nextL (l.take (k+1)) x=mP x (nextL (l.take k) x) (l.getD k 0):=by
     rw[take_succ 0 (show k<l.length by rw[HN.out];exact hlt),aaC]
    generalize l.getD k 0=y at*
    have HS:=ah hs;clear hs
    rcases hr with⟨h1,rfl,rfl⟩|⟨m,h1,rfl,rfl⟩
    ·rw[h1]at HS
     clear h1
     by_cases c1:x<y
     ·go_wp2
      go_round
      case rel=>exact⟨k+1,by omega,by go_num, .inr ⟨y,by rw[HS.out];simp[mP,c1],rfl,rfl⟩⟩
      case measure=>simp[intOf];omega
     ·go_wp2
      go_round
      case rel=>exact⟨k+1,by omega,by go_num, .inl ⟨by rw[HS.out];simp[mP,c1],rfl,rfl⟩⟩
      case measure=>simp[intOf];omega
    ·rw[h1]at HS
     clear h1
     by_cases c1:x<y
     ·by_cases c2:y<m
      ·go_wp2
       go_round
       case rel=>exact⟨k+1,by omega,by go_num, .inr ⟨y,by rw[HS.out];simp[mP,c1,c2],rfl,rfl⟩⟩
       case measure=>simp[intOf];omega
      ·go_wp2
       go_round
       case rel=>exact⟨k+1,by omega,by go_num, .inr ⟨m,by rw[HS.out];simp[mP,c2],rfl,rfl⟩⟩
       case measure=>simp[intOf];omega
     ·go_wp2
      go_round
      case rel=>exact⟨k+1,by omega,by go_num, .inr ⟨m,by rw[HS.out];simp[mP,c1],rfl,rfl⟩⟩
      case measure=>simp[intOf];omega
   ·obtain rfl:k=n:=by omega
    rw[List.take_of_length_le (by rw[HN.out];exact Nat.le_refl _)]at hr
    rcases hr with⟨h1,rfl,rfl⟩|⟨m,h1,rfl,rfl⟩
    ·have H1:=ah h1
     clear h1
     go_wp2
     exact bodyPost_ret (v:= .tuple #[.int .i64 0, .bool false]) (by simp[results,Tryz.results162,go_sem]) rfl ⟨by rw[H1.out];rfl,rfl⟩
    ·have H1:=ah h1
     clear h1
     go_wp2
     exact bodyPost_ret (v:= .tuple #[.int .i64 m, .bool true]) (by simp[results,Tryz.results162,go_sem]) rfl ⟨by rw[H1.out];rfl,rfl⟩
open Go.RowKit
theorem aG {w:World} {b:Nat} {cs:Array Value} {t:TypeId} {f:Nat×Nat} (h:w.heap[b]?=some (.cells cs t f)) (j:Nat) {u:Value} (hu:cs[j]?=some u):w.cell? ⟨b,j,none⟩=some u:=
 (cell_of_row w b j cs t f h).trans hu
theorem aW {w:World} {b:Nat} {cs:Array Value} {t:TypeId} (h:w.heap[b]?=some (.cells cs t (0,0))) (j:Nat):w.frozen? ⟨b,j,none⟩=false:=by simp[World.frozen?,h]
theorem eY {w:World} {b:Nat} {cs:Array Value} {t:TypeId} {f:Nat×Nat} (h:w.heap[b]?=some (.cells cs t f)) (j:Nat) (u:Value):(w.setCell ⟨b,j,none⟩ u).heap[b]?=some (.cells (cs.setIfInBounds j u) t f):=by
 simp only[World.setCell,Array.getElem?_modify,if_true,h,Option.map_some]
 rfl
structure OwnAt (w0 w:World) (e:TypeId) (size:Nat) (v:Value) (n:Nat) (xs:List Value):Prop where
 own:w.ownsRow 0 e size v n xs
 new:Bo w0 v
 aI:aj aF w0 w
theorem OwnAt.nil {w0 w:World} (f:aj aF w0 w) (e:TypeId) (size:Nat):OwnAt w0 w e size (.slice none 0 0) 0 []:=
 ⟨World.ownsRow_nil w 0 e size,(fun k hk=>by simp[Value.ownBlock]at hk),f⟩
theorem OwnAt.keep {w0 w w':World} {e:TypeId} {size:Nat} {v:Value} {n:Nat} {xs:List Value} (h:OwnAt w0 w e size v n xs) (f:aj aF w w'):OwnAt w0 w' e size v n xs:=
 ⟨f.owns h.own (fun _ _ h=>h),h.new,h.aI.aH f⟩
theorem OwnAt.rd {w0 w:World} {e:TypeId} {size:Nat} {v:Value} {n:Nat} {xs:List Value} (h:OwnAt w0 w e size v n xs):Rd w v n xs:=Rd.own h.own
theorem OwnAt.shape {w0 w:World} {e:TypeId} {size:Nat} {v:Value} {n:Nat} {xs:List Value} (h:OwnAt w0 w e size v n xs):∃a c,v= .slice a n c:=by
 rcases h.own.2 with⟨rfl,h0⟩|⟨g,cap,cur,rfl,_⟩
 ·exact⟨none,0,by rw[h0]⟩
 ·exact⟨_,_,rfl⟩
theorem OwnAt.step {w0 w w':World} {e e':TypeId} {size size':Nat} {v v':Value} {n n':Nat} {xs xs':List Value} (h:OwnAt w0 w e size v n xs) (own:w'.ownsRow 0 e' size' v' n' xs') (fm:aj (eG v) w w') (fr:lN w v v'):OwnAt w0 w' e' size' v' n' xs':=
 ⟨own,(fun k hk=>by
   rcases fr k hk with h1|h1
   ·exact h.new k h1
   ·have:=h.aI.size;omega),h.aI.trans fm (fun i hi s=>by have:=h.new i s;omega)⟩
theorem OwnAt.row {w0 w:World} {e:TypeId} {size:Nat} {v:Value} {n:Nat} {xs:List Value} (h:OwnAt w0 w e size v n xs) (hn:0<n):
 ∃g c,v= .slice (some ⟨g,0,none⟩) n c∧w0.heap.size≤g∧g<w.heap.size∧n≤c∧(∀j u,xs[j]?=some u→w.cell? ⟨g,j,none⟩=some u)∧(∀j,w.frozen? ⟨g,j,none⟩=false)∧
  ∀j u,OwnAt w0 (w.setCell ⟨g,j,none⟩ u) e size v n (xs.set j u):=by
 rcases h.own.2 with⟨_,h0⟩|⟨g,cap,cur,rfl,hb,hg,hnc,hcm,hcs,htake⟩
 ·omega
 ·have hlt:w0.heap.size≤g:=h.new g rfl
  refine⟨g,cap,rfl,hlt,lt_of_block hg,hnc,fun j u hu=>?_,fun j=>aW hg j,fun j u=>⟨⟨?_, .inr ⟨g,cap,_,rfl,hb,eY hg j u,hnc,hcm,by simp[hcs],?_⟩⟩,h.new,?_⟩⟩
  ·refine aG hg j ?_
   rw[←htake,List.getElem?_take]at hu
   split at hu
   ·simpa using hu
   ·cases hu
  ·rw[List.length_set];exact h.own.1
  ·rw[Array.toList_setIfInBounds,List.take_set,htake]
  ·exact h.aI.set1 (.inr hlt)
section
variable {P:Program}
theorem kT {ops:Array Oper} {rest:List Oper} {o:Oper} {a:Act} {Q:Exit→Act→World→Prop} (w0 w:World) (news:List Value) (hgd:o.guard=none) (s x:Operand) (t:TypeId)
 (ho:o.op= .call {callee:= .builtin .append,args:= #[s,x],argTypes:= #[t,t]})
 (e:TypeId) (i:TypeInfo) (z:Value) (size bytes:Nat) (ht:P.underlying t=some (.slice e)) (hi:P.info? e=some i) (hz:i.zero=some z)
 (hsize:i.size=size) (hby:i.bytes=bytes) (hzs:z.cells.size=size) (hsz:0<size)
 (v:Value) (n:Nat) (xs:List Value) (hown:OwnAt w0 w e size v n xs) (m c:Nat) (hv:a.eval s=v) (hx:a.eval x= .slice (some ⟨w.heap.size,0,none⟩) m c)
 (hnl:news.length=m*size) (h1:∀u∈news,u.oneCell'=true) (h63:n+m≤maxLen) (hbytes:(n+m)*bytes≤140737488355328)
 (h:∀ad c w',OwnAt w0 w' e size (.slice ad (n+m) c) (n+m) (xs++news)→wpList P ops Q rest (a.put o.dst (.slice ad (n+m) c)) w'):
 wpList P ops Q (o::rest) a (w.alloc (.cells news.toArray e)):=
 zM w news hgd s x t ho e i z size bytes ht hi hz hsize hby hzs hsz v n xs hown.own m c hv hx hnl h1 h63 hbytes fun ad c' w' g1 g2 g3=>h ad c' w' (hown.step g1 g2 g3)
theorem rC {ops:Array Oper} {rest:List Oper} {o:Oper} {a:Act} {Q:Exit→Act→World→Prop} (w0 w:World) (news:List Value) (hgd:o.guard=none) (s x:Operand) (t tx:TypeId)
 (ho:o.op= .call {callee:= .builtin .append,args:= #[s,x],argTypes:= #[t,tx]})
 (e e':TypeId) (i:TypeInfo) (z:Value) (size bytes:Nat) (ht:P.underlying t=some (.slice e)) (htx:P.underlying tx=some (.slice e')) (hi:P.info? e=some i) (hz:i.zero=some z)
 (hsize:i.size=size) (hby:i.bytes=bytes) (hzs:z.cells.size=size) (hsz:0<size)
 (v:Value) (n:Nat) (xs:List Value) (hown:OwnAt w0 w e size v n xs) (xv:Value) (m:Nat) (hv:a.eval s=v) (hx:a.eval x=xv) (hr:Rd w xv m news)
 (hnl:news.length=m*size) (h1:∀u∈news,u.oneCell'=true) (h63:n+m≤maxLen) (hbytes:(n+m)*bytes≤140737488355328)
 (h:∀ad c w',OwnAt w0 w' e size (.slice ad (n+m) c) (n+m) (xs++news)→wpList P ops Q rest (a.put o.dst (.slice ad (n+m) c)) w'):
 wpList P ops Q (o::rest) a w:=
 Dq w hgd s x t tx ho e i z size bytes ht hi hz hsize hby hzs hsz v n xs hv hown.own xv m news hx (hr.src htx hnl h1) h63 hbytes fun ad c' w' g1 g2 g3 _=>h ad c' w' (hown.step g1 g2 g3)
theorem FX {ops:Array Oper} {o:Oper} {a:Act} (w0 w:World) {K:Act→World→Prop} {Q:Exit→Act→World→Prop} {E:Prop} (news:List Value) (hgd:o.guard=none) (s x:Operand) (t:TypeId)
 (ho:o.op= .call {callee:= .builtin .append,args:= #[s,x],argTypes:= #[t,t]})
 (e:TypeId) (i:TypeInfo) (z:Value) (size bytes:Nat) (ht:P.underlying t=some (.slice e)) (hi:P.info? e=some i) (hz:i.zero=some z)
 (hsize:i.size=size) (hby:i.bytes=bytes) (hzs:z.cells.size=size) (hsz:0<size)
 (v:Value) (n:Nat) (xs:List Value) (hown:OwnAt w0 w e size v n xs) (m c:Nat) (hv:a.eval s=v) (hx:a.eval x= .slice (some ⟨w.heap.size,0,none⟩) m c)
 (hnl:news.length=m*size) (h1:∀u∈news,u.oneCell'=true) (h63:n+m≤maxLen) (hbytes:(n+m)*bytes≤140737488355328)
 (h:∀ad c w',OwnAt w0 w' e size (.slice ad (n+m) c) (n+m) (xs++news)→K (a.put o.dst (.slice ad (n+m) c)) w'):
 if Region.wanted o (yielded ops a.tmps)=true then Oper.wp P o a (w.alloc (.cells news.toArray e)) K Q else E:=by
 have hw:Region.wanted o (yielded ops a.tmps)=true:=by simp[Region.wanted,hgd]
 rw[if_pos hw]
 have hs:Src P size t (.slice (some ⟨w.heap.size,0,none⟩) m c) m news (w.alloc (.cells news.toArray e)):=
  Src.ofSlice _ ht ⟨w.heap.size,0,none⟩ m c news hnl (fun j u hj=>by
   have hadd:(⟨w.heap.size,0,none⟩:Addr).add j=⟨w.heap.size,j,none⟩:=by unfold Addr.add;split<;>simp_all
   rw[hadd,cell_of_row (w.alloc (.cells news.toArray e)) w.heap.size j news.toArray e (0,0) (heap_alloc_new w _)]
   simpa using hj) h1
 obtain⟨v',w',hr,h2,h3,h4,⟨ad,c',rfl⟩,h6⟩:=Dp (P:=P) (w.alloc (.cells news.toArray e)) t t o.type e i z size bytes ht hi hz hsize hby hzs hsz v n xs (hown.own.alloc _) _ m news hs h63 hbytes
 unfold Oper.wp execOp
 simp only[ho,resolve,invoke,builtin,Sem.run_bind,Sem.run_pure,Result.andThen_ok,List.map_toArray,List.map_cons,List.map_nil,hv,hx,hr]
 refine h ad c' w' (hown.step h2 ((aj.alloc (eG v) w _).trans h3 (fun _ _ h=>h)) fun k hk=>?_)
 rcases h4 k hk with h|h
 ·exact .inl h
 ·refine .inr ?_
  simp at h
  omega
end
theorem Jy:(Tryz.prog.info? 168).map (fun i=>(i.zero,i.size,i.bytes))=some (some (.agg #[.int .i64 0, .int .i64 0]),2,16):=by kernel_rfl
theorem FY:(Tryz.prog.info? 2).map (fun i=>(i.zero,i.size,i.bytes))=some (some (.int .i64 0),1,8):=by kernel_rfl
open Go.RowKit
theorem aaS {l:aZ} {k:Nat} (hk:k<l.length):fC (l.take (k+1))=fC (l.take k)++ [(l.getD k (0,0)).1,(l.getD k (0,0)).2+1]:=by
 rw[take_succ (0,0) hk];simp[fC]
theorem yJ (l:aZ):(fC l).length=l.length*2:=by
 induction l with
 |nil=>rfl
 |cons r l ih=>
  have:fC (r::l)=[r.1,r.2+1]++fC l:=rfl
  rw[this,List.length_append,ih];simp;omega
theorem Jz (w:World) (v:Value) (l:aZ) (hv:k_ w v l) (hr:dO l) (hl:l.length≤100000):
 Calls Tryz.prog 161 #[v] w fun e w'=>∃v',e= .returned v'∧OwnAt w w' 2 1 v' (fC l).length (qF (fC l)):=by
 obtain⟨i0,hi,hz0,hz1,hz2⟩:=info_parts FY
 rcases Rd.shape hv with⟨ad,rfl,h0⟩|⟨b,off,c,rfl,hmax⟩
 ·obtain rfl:l=[]:=List.eq_nil_of_length_eq_zero h0
  clear hv hr
  go_enter Tryz.func161,Tryz.ntmps161
  go_wp2
  go_loop [3,7] (fun v i=>v= .slice none 0 0∧i= .int .i64 0) (fun _ _=>0)
  case atStart=>exact⟨rfl,rfl⟩
  case round=>
   obtain⟨rfl,rfl⟩:=hrel
   go_wp2
   go_ret
   exact⟨_,rfl,OwnAt.nil (aj.refl _ _) _ _⟩
 ·have HH:=ah hv;clear hv
  have HR:=ah hr;clear hr
  generalize hn:l.length=n at*
  have HN:=ah hn;clear hn
  go_enter Tryz.func161,Tryz.ntmps161
  go_wp2
  go_loopw [3,7] (fun v i ww=>∃(k:Nat),k≤n∧i= .int .i64 k∧OwnAt w ww 2 1 v (k*2) (qF (fC (l.take k)))) (fun _ i _=>n-(intOf i).toNat)
  case atStart=>exact⟨0,Nat.zero_le _,rfl,OwnAt.nil (aj.refl _ _) _ _⟩
  case round=>
   obtain⟨k,hk,rfl,ho⟩:=hrel
   obtain⟨av,cv,rfl⟩:=ho.shape
   have HO:=ah ho;clear ho
   by_cases hlt:k<n
   ·obtain⟨p1,p2⟩:=r_ HH.out HN.out.symm k (by rw[HN.out];exact hlt)
    have q1:=HO.out.aI.cell' p1 id
    have q2:=HO.out.aI.cell' p2 id
    have hbl:=World.block_lt_of_cell? _ _ q1
    have hbl:b<wr.heap.size:=hbl
    have hfit:1≤(l.getD k (0,0)).1∧(l.getD k (0,0)).1≤(l.getD k (0,0)).2∧(l.getD k (0,0)).2≤1099511627776:=by
     have hm:=getD_mem (0,0) (show k<l.length by rw[HN.out];exact hlt)
     have:=mQ HR.out.1 _ hm
     have:=HR.out.2 _ hm
     omega
    have HE:=ah (aaS (l:=l) (k:=k) (by rw[HN.out];exact hlt))
    generalize l.getD k (0,0)=r at*
    have P1:=ah p1;clear p1
    have P2:=ah p2;clear p2
    have hwr:IntKind.i64.wrap (r.2+1)=r.2+1:=by simp[IntKind.wrap,IntKind.bits,IntKind.signed];omega
    go_wp2_with fail
    go_region_held3 (fun w'=>w'.cell? ⟨b,off+k*2,none⟩=some (.int .i64 r.1)∧w'.cell? ⟨b,off+k*2+1,none⟩=some (.int .i64 r.2))
     (first|exact⟨q1,q2⟩|exact⟨(aj.alloc1 (aj.drew aF _)).cell' q1 id,(aj.alloc1 (aj.drew aF _)).cell' q2 id⟩|exact⟨bP.aI.cell' P1.out id,bP.aI.cell' P2.out id⟩)
     (first|(refine FX w wr.drew [.int .i64 r.1, .int .i64 (r.2+1)] rfl (.tmp 10) (.tmp 22) 171 rfl 2 i0 _ 1 8 Tryz.underlying171 hi hz0 hz1 hz2 (by decide) (by decide) (.slice av (k*2) cv) (k*2) _ (HO.out.keep (aj.drew _ _)) 2 2 (by simp[Act.eval]) (by simp[Act.eval]) rfl (by simp[Value.oneCell']) (by simp only[maxLen];omega) (by omega) ?_;intro ad cc w2 bP))
    have OW:=ah bP;clear bP
    go_wp2
    go_roundw
    case rel=>
     refine⟨k+1,by omega,by go_num,?_⟩
     rw[HE.out,FV,show(k+1)*2=k*2+2 by omega]
     exact OW.out
    case measure=>simp[intOf];omega
   ·obtain rfl:k=n:=by omega
    go_wp2
    go_ret
    rw[List.take_of_length_le (by rw[HN.out];exact Nat.le_refl _)]at HO
    refine⟨_,rfl,?_⟩
    rw[yJ,HN.out]
    exact HO.out
open Go.RowKit
def Nz (l:List Int) (x o:Value):Nat:=
 match o with
 | .bool true=>ahead l (some (intOf x))
 |_=>0
theorem aaT {n:Nat} (h:n+1≤100000):wrap64 (n:Int)=n:=by unfold wrap64;omega
theorem JA (l:List Int) (x:Option Int):ahead l x≤l.length:=by
 cases x with
 |none=>exact Nat.zero_le _
 |some m=>exact List.length_filter_le _ _
theorem FZ (out:aZ) (a hi:Int):(xu out a hi).length≤out.length+1:=by
 rcases List.eq_nil_or_concat out with rfl|⟨l,r,rfl⟩
 ·simp[xu]
 ·rw[List.concat_eq_append,Bq]
  split<;>simp
theorem DC (l:aZ) (r:Int×Int) (hi:Int):(fD (l++ [r])).set (l.length*2+1) (.int .i64 hi)=fD (l++ [(r.1,hi)]):=by
 rw[oO,oO,List.set_append_right _ _ (by rw[xH];omega),xH,show l.length*2+1-l.length*2=1 by omega]
 rfl
theorem DF (l:aZ) (r:Int×Int):(fD (l++ [r]))[l.length*2+1]?=some (.int .i64 r.2):=by
 rw[oO,List.getElem?_append_right (by rw[xH];omega),xH,show l.length*2+1-l.length*2=1 by omega]
 rfl
def aaU (w:World) (l:List Int) (v x o:Value) (ww:World):Prop:=
 ∃(q:Option Int) (out:aZ),OwnAt w ww 168 2 v out.length (fD out)∧Bv l out q∧out.length+ahead l q≤l.length∧x= .int .i64 (q.getD 0)∧o= .bool q.isSome
theorem aaV (w:World) (v:Value) (l:List Int) (hv:Jv w v l) (hl:l.length≤100000) (hb:∀x∈l,1≤x∧x≤1099511627777):
 Calls Tryz.prog 124 #[v] w fun e w'=>∃v' out,e= .returned v'∧OwnAt w w' 168 2 v' out.length (fD out)∧Bv l out none∧out.length≤l.length:=by
 obtain⟨i0,hi,hz0,hz1,hz2⟩:=info_parts Jy
 obtain⟨a,c,rfl⟩:=hv.sl
 have HB:=ah hb;clear hb
 have HN:=ah (fun w' x h=>Ny w' _ l x (Rd.aS hv h));clear hv
 go_enter Tryz.func124,Tryz.ntmps124
 go_wp2_with(go_at_call 162;refine(HN.out w 0 (aj.refl _ _)).mono ?_;rintro e w' ⟨rfl,hw⟩;rw[hw];clear hw w')
 go_loopw [3,4,5] (fun v x o ww=>aaU w l v x o ww) (fun _ x o _=>Nz l x o)
 case atStart=>exact⟨nextL l 0,[],OwnAt.nil (aj.refl _ _) _ _,aaD l,by have:=JA l (nextL l 0);simpa using this,rfl,rfl⟩
 case round=>
  obtain⟨q,out,ho,hq,hlen,rfl,rfl⟩:=hrel
  have HQ:=ah hq;clear hq
  have HO:=ah ho;clear ho
  cases q with
  |none=>
   have HLEN:=ah hlen;clear hlen
   obtain⟨av,cv,rfl⟩:=HO.out.shape
   go_wp2
   go_ret
   exact⟨_,out,rfl,HO.out,HQ.out,Nat.le_trans (Nat.le_add_right _ _) HLEN.out⟩
  |some m=>
   obtain⟨m1,m2,m3,m4⟩:=HQ.out.some_ m rfl
   obtain⟨b1,b2⟩:=HB.out m m2
   have hah:=Nc m2
   have hstep:=aaE HQ.out
   have hpl:=FZ out m m
   have aaW:=JA l (some m)
   rcases List.eq_nil_or_concat out with rfl|⟨lo,r,rfl⟩
   ·have HST:=ah hstep
    have HLEN:=ah hlen
    have pK:=ah hah
    clear hstep hpl hah m2 m3 m4
    obtain⟨av,cv,rfl⟩:=HO.out.shape
    go_wp2_with(first
     |(go_at_call 162;refine(HN.out _ m OW.out.aI).mono ?_;rintro e w' ⟨rfl,hw⟩;rw[hw];clear hw w')
     |(at_builtin;refine kT w _ [.int .i64 m, .int .i64 m] rfl (.tmp 34) (.tmp 38) 135 rfl 168 i0 _ 2 16 Tryz.underlying135 hi hz0 hz1 hz2 (by decide) (by decide) _ _ _ HO.out 1 1 rfl rfl rfl (by simp[Value.oneCell']) (by simp[maxLen]) (by simp) ?_;intro ad cc w2 bP;have OW:=ah bP;clear bP))
    go_roundw
    case rel=>
     refine⟨nextL l m,[(m,m)],OW.out,HST.out,?_,rfl,rfl⟩
     have:=HLEN.out
     have:=pK.out
     simp at*
     omega
    case measure=>
     have:=pK.out
     cases hx:nextL l m with
     |none=>rw[hx]at this;exact this
     |some t=>rw[hx]at this;exact this
   ·rw[List.concat_eq_append]at*
    rw[Bq]at hstep hpl
    have hln:(lo++ [r]).length=lo.length+1:=by simp
    have ho2:=HO.out
    rw[hln]at ho2 hlen hpl
    clear HO hln
    obtain⟨g,c2,rfl,hg0,hg,hc2,hcell,hfro,hset⟩:=ho2.row (by simp)
    have cl:=hcell _ _ (DF lo r)
    have fl:=hfro (lo.length*2+1)
    have hs:=hset (lo.length*2+1) (.int .i64 m)
    rw[DC]at hs
    have HO:=ah ho2;clear ho2
    have hr2:=m3 r (by simp)
    have hr1:1≤r.2:=by
     have:=mQ HQ.out.from_ r (by simp)
     omega
    generalize hL:lo.length=L at*
    have jR:=ah hL;clear hL
    have HS:=ah hs;clear hs
    have dV:=ah hpl;clear hpl
    have HLEN:=ah hlen
    have pK:=ah hah;clear hah
    clear m3 m4 hset hcell hfro m2
    have hL5:L+1≤100000:=Nat.le_trans (Nat.le_trans (Nat.le_add_right _ _) hlen) hl
    have hwm:wrap64 (L:Int)=L:=aaT hL5
    clear hlen aaW hr1 hr2
    by_cases he:r.2=m-1
    ·rw[if_pos he]at hstep dV
     have HST:=ah hstep;clear hstep
     have he':((r.2:Int)==m-1)=true:=by simp[he]
     clear he
     go_wp2_with(go_at_call 162;refine(HN.out _ m HS.out.aI).mono ?_;rintro e w' ⟨rfl,hw⟩;rw[hw];clear hw w')
     go_roundw
     case rel=>
      refine⟨nextL l m,lo++ [(r.1,m)],by rw[List.length_append,jR.out];exact HS.out,HST.out,?_,rfl,rfl⟩
      have:=HLEN.out
      have:=pK.out
      have:=jR.out
      simp at*
      omega
     case measure=>
      have:=pK.out
      cases hx:nextL l m with
      |none=>rw[hx]at this;exact this
      |some t=>rw[hx]at this;exact this
    ·rw[if_neg he]at hstep dV
     have HST:=ah hstep;clear hstep
     have he':((r.2:Int)==m-1)=false:=by simpa using he
     clear he
     go_wp2_with(first
      |(go_at_call 162;refine(HN.out _ m OW.out.aI).mono ?_;rintro e w' ⟨rfl,hw⟩;rw[hw];clear hw w')
      |(at_builtin;refine kT w _ [.int .i64 m, .int .i64 m] rfl (.tmp 34) (.tmp 38) 135 rfl 168 i0 _ 2 16 Tryz.underlying135 hi hz0 hz1 hz2 (by decide) (by decide) _ _ _ HO.out 1 1 rfl rfl rfl (by simp[Value.oneCell']) (by simp only[maxLen];omega) (by omega) ?_;intro ad cc w2 bP;have OW:=ah bP;clear bP))
     go_roundw
     case rel=>
      refine⟨nextL l m,lo++ [r]++ [(m,m)],by rw[List.length_append,List.length_append,jR.out,oO];exact OW.out,HST.out,?_,rfl,rfl⟩
      have:=HLEN.out
      have:=pK.out
      have:=jR.out
      simp at*
      omega
     case measure=>
      have:=pK.out
      cases hx:nextL l m with
      |none=>rw[hx]at this;exact this
      |some t=>rw[hx]at this;exact this
end Go.Proofs.YtlhmbkjdfjoilaaGreat
