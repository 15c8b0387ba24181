/- Words for the law ShSet: R6b, Own, R6ends, R6Of, R6By, R7a. -/
import Derived.Test.YtlhmbkjdfjoilaaGreatShSetG0
import Derived.Test.YtlhmbkjdfjoilaaGreatShSetG2
set_option linter.unusedSimpArgs false
set_option linter.unusedVariables false
set_option maxHeartbeats 32000000
set_option maxRecDepth 1000000
namespace Go.Proofs.YtlhmbkjdfjoilaaGreat
open Go.RowKit
theorem both_any (w:World) (va vb:Value) (a b:aS) (ha:gZ w va a) (fa:Fits a) (hb:gZ w vb b) (fb:Fits b):
 Calls Tryz.prog 151 #[va,vb] w fun e w'=>e= .returned (.bool (tf (bM a∧bM b)))∧aj au w w':=by
 have HA:=ah (yS w va a ha fa)
 have HB:=ah (fun w' h=>yS w' vb b (Rd.aN hb h) fb)
 clear ha fa hb fb
 by_cases h:bM a
 ·rw[show(bM a∧bM b)=bM b by simp[h]]
  rw[dH h]at HA
  generalize tf (bM b)=t at*
  clear h
  go_enter Tryz.func151,Tryz.ntmps151
  go_wp2_with(first|(go_at_call 167;refine(HB.out w1 hw1).mono ?_;rintro e w2 ⟨rfl,hw2⟩)|(go_at_call 167;refine HA.out.mono ?_;rintro e w1 ⟨rfl,hw1⟩))
  go_ret
  exact⟨rfl,hw1.aF hw2⟩
 ·rw[bW (fun hh=>h hh.1)]
  rw[bW h]at HA
  clear h HB
  go_enter Tryz.func151,Tryz.ntmps151
  go_wp2_with(go_at_call 167;refine HA.out.mono ?_;rintro e w1 ⟨rfl,hw1⟩)
  go_ret
  exact⟨rfl,hw1⟩
theorem NT {l:aS} {k:Nat} (n:Int) (hk:k<l.length):aX (l.take (k+1)) n↔aX (l.take k) n∨((l.getD k (0,0)).1≤n∧n≤(l.getD k (0,0)).2):=by
 rw[take_succ (0,0) hk,yL]
theorem NU {l:aS} {k:Nat} {n:Int} (h:aX (l.take k) n):aX l n:=by
 obtain⟨r,hr,h⟩:=h
 exact⟨r,List.mem_of_mem_take hr,h⟩
theorem Gv (w:World) (v:Value) (l:aS) (x:Int) (hv:gZ w v l):
 Calls Tryz.prog 160 #[v, .int .i64 x] w fun e w'=>e= .returned (.bool (tf (aX l x)))∧w'=w:=by
 rcases Rd.shape hv with⟨ad,rfl,h0⟩|⟨b,off,c,rfl,hmax⟩
 ·obtain rfl:l=[]:=List.eq_nil_of_length_eq_zero h0
  rw[bW (jg x)]
  clear hv
  go_enter Tryz.func160,Tryz.ntmps160
  go_wp2
  go_loop [8] (fun i=>i= .int .i64 0) (fun _=>0)
  case atStart=>rfl
  case round=>
   obtain rfl:=hrel
   go_wp2
   go_ret
   exact⟨rfl,rfl⟩
 ·have HH:=ah hv;clear hv
  generalize hn:l.length=n at*
  have HN:=ah hn;clear hn
  go_enter Tryz.func160,Tryz.ntmps160
  go_wp2
  go_loop [8] (fun i=>∃k:Nat,k≤n∧i= .int .i64 k∧tf (aX (l.take k) x)=false) (fun i=>n-(intOf i).toNat)
  case atStart=>exact⟨0,Nat.zero_le _,rfl,bW (jg x)⟩
  case round=>
   obtain⟨k,hk,rfl,hr⟩:=hrel
   have HR:=ah (uy.1 hr);clear hr
   by_cases hlt:k<n
   ·obtain⟨q1,q2⟩:=lq HH.out HN.out.symm k (by rw[HN.out];exact hlt)
    have hs:=NT (l:=l) x (show k<l.length by rw[HN.out];exact hlt)
    have HS:=ah hs;clear hs
    generalize l.getD k (0,0)=r at*
    by_cases c1:r.1≤x
    ·by_cases c2:x≤r.2
     ·go_wp2
      go_ret
      exact⟨bH (dH (NU (HS.out.2 (.inr ⟨c1,c2⟩)))).symm,rfl⟩
     ·go_wp2
      go_round
      case rel=>exact⟨k+1,by omega,by go_num,bW fun h=>(HS.out.1 h).elim HR.out (fun h=>by omega)⟩
      case measure=>simp[intOf];omega
    ·go_wp2
     go_round
     case rel=>exact⟨k+1,by omega,by go_num,bW fun h=>(HS.out.1 h).elim HR.out (fun h=>by omega)⟩
     case measure=>simp[intOf];omega
   ·obtain rfl:k=n:=by omega
    have hall:¬aX l x:=by
     have:=HR.out
     rwa [List.take_of_length_le (by rw[HN.out];exact Nat.le_refl _)]at this
    have HA:=ah hall;clear hall
    go_wp2
    go_ret
    exact⟨bH (bW HA.out).symm,rfl⟩
theorem Gw (w:World) (v:Value) (l:List Int) (x:Int) (hv:yR w v l):
 Calls Tryz.prog 162 #[v, .int .i64 x] w fun e w'=>e= .returned (.tuple #[.int .i64 ((nextL l x).getD 0), .bool (nextL l x).isSome])∧w'=w:=by
 rcases Rd.shape hv with⟨ad,rfl,h0⟩|⟨b,off,c,rfl,hmax⟩
 ·obtain rfl:l=[]:=List.eq_nil_of_length_eq_zero h0
  clear hv
  go_enter Tryz.func162,Tryz.ntmps162
  go_wp2
  go_loop [6,7,11] (fun p o i=>p= .int .i64 0∧o= .bool false∧i= .int .i64 0) (fun _ _ _=>0)
  case atStart=>exact⟨rfl,rfl,rfl⟩
  case round=>
   obtain⟨rfl,rfl,rfl⟩:=hrel
   go_wp2
   exact bodyPost_ret (v:= .tuple #[.int .i64 0, .bool false]) (by simp[results,Tryz.results162,go_sem]) rfl ⟨rfl,rfl⟩
 ·have HH:=ah hv;clear hv
  generalize hn:l.length=n at*
  have HN:=ah hn;clear hn
  go_enter Tryz.func162,Tryz.ntmps162
  go_wp2
  go_loop [6,7,11] (fun p o i=>∃k:Nat,k≤n∧i= .int .i64 k∧((nextL (l.take k) x=none∧p= .int .i64 0∧o= .bool false)∨∃m,nextL (l.take k) x=some m∧p= .int .i64 m∧o= .bool true)) (fun _ _ i=>n-(intOf i).toNat)
  case atStart=>exact⟨0,Nat.zero_le _,rfl, .inl ⟨rfl,rfl,rfl⟩⟩
  case round=>
   obtain⟨k,hk,rfl,hr⟩:=hrel
   by_cases hlt:k<n
   ·have q1:=Gs HH.out HN.out.symm k (by rw[HN.out];exact hlt)
    have hs:nextL (l.take (k+1)) x=iR x (nextL (l.take k) x) (l.getD k 0):=by
     rw[take_succ 0 (show k<l.length by rw[HN.out];exact hlt),Ns]
    generalize l.getD k 0=y at*
    have HS:=ah hs;clear hs
    rcases hr with⟨h1,rfl,rfl⟩|⟨m,h1,rfl,rfl⟩
    ·rw[h1]at HS
     clear h1
     by_cases c1:x<y
     ·go_wp2
      go_round
      case rel=>exact⟨k+1,by omega,by go_num, .inr ⟨y,by rw[HS.out];simp[iR,c1],rfl,rfl⟩⟩
      case measure=>simp[intOf];omega
     ·go_wp2
      go_round
      case rel=>exact⟨k+1,by omega,by go_num, .inl ⟨by rw[HS.out];simp[iR,c1],rfl,rfl⟩⟩
      case measure=>simp[intOf];omega
    ·rw[h1]at HS
     clear h1
     by_cases c1:x<y
     ·by_cases c2:y<m
      ·go_wp2
       go_round
       case rel=>exact⟨k+1,by omega,by go_num, .inr ⟨y,by rw[HS.out];simp[iR,c1,c2],rfl,rfl⟩⟩
       case measure=>simp[intOf];omega
      ·go_wp2
       go_round
       case rel=>exact⟨k+1,by omega,by go_num, .inr ⟨m,by rw[HS.out];simp[iR,c2],rfl,rfl⟩⟩
       case measure=>simp[intOf];omega
     ·go_wp2
      go_round
      case rel=>exact⟨k+1,by omega,by go_num, .inr ⟨m,by rw[HS.out];simp[iR,c1],rfl,rfl⟩⟩
      case measure=>simp[intOf];omega
   ·obtain rfl:k=n:=by omega
    rw[List.take_of_length_le (by rw[HN.out];exact Nat.le_refl _)]at hr
    rcases hr with⟨h1,rfl,rfl⟩|⟨m,h1,rfl,rfl⟩
    ·have H1:=ah h1
     clear h1
     go_wp2
     exact bodyPost_ret (v:= .tuple #[.int .i64 0, .bool false]) (by simp[results,Tryz.results162,go_sem]) rfl ⟨by rw[H1.out];rfl,rfl⟩
    ·have H1:=ah h1
     clear h1
     go_wp2
     exact bodyPost_ret (v:= .tuple #[.int .i64 m, .bool true]) (by simp[results,Tryz.results162,go_sem]) rfl ⟨by rw[H1.out];rfl,rfl⟩
open Go.RowKit
theorem aI {w:World} {b:Nat} {cs:Array Value} {t:TypeId} {f:Nat×Nat} (h:w.heap[b]?=some (.cells cs t f)) (j:Nat) {u:Value} (hu:cs[j]?=some u):w.cell? ⟨b,j,none⟩=some u:=
 (cell_of_row w b j cs t f h).trans hu
theorem bn {w:World} {b:Nat} {cs:Array Value} {t:TypeId} (h:w.heap[b]?=some (.cells cs t (0,0))) (j:Nat):w.frozen? ⟨b,j,none⟩=false:=by simp[World.frozen?,h]
theorem fF {w:World} {b:Nat} {cs:Array Value} {t:TypeId} {f:Nat×Nat} (h:w.heap[b]?=some (.cells cs t f)) (j:Nat) (u:Value):(w.setCell ⟨b,j,none⟩ u).heap[b]?=some (.cells (cs.setIfInBounds j u) t f):=by
 simp only[World.setCell,Array.getElem?_modify,if_true,h,Option.map_some]
 rfl
structure OwnAt (w0 w:World) (e:TypeId) (size:Nat) (v:Value) (n:Nat) (xs:List Value):Prop where
 own:w.ownsRow 0 e size v n xs
 new:wu w0 v
 aJ:aj au w0 w
theorem OwnAt.nil {w0 w:World} (f:aj au w0 w) (e:TypeId) (size:Nat):OwnAt w0 w e size (.slice none 0 0) 0 []:=
 ⟨World.ownsRow_nil w 0 e size,(fun k hk=>by simp[Value.ownBlock]at hk),f⟩
theorem OwnAt.keep {w0 w w':World} {e:TypeId} {size:Nat} {v:Value} {n:Nat} {xs:List Value} (h:OwnAt w0 w e size v n xs) (f:aj au w w'):OwnAt w0 w' e size v n xs:=
 ⟨f.owns h.own (fun _ _ h=>h),h.new,h.aJ.aF f⟩
theorem OwnAt.rd {w0 w:World} {e:TypeId} {size:Nat} {v:Value} {n:Nat} {xs:List Value} (h:OwnAt w0 w e size v n xs):Rd w v n xs:=Rd.own h.own
theorem OwnAt.shape {w0 w:World} {e:TypeId} {size:Nat} {v:Value} {n:Nat} {xs:List Value} (h:OwnAt w0 w e size v n xs):∃a c,v= .slice a n c:=by
 rcases h.own.2 with⟨rfl,h0⟩|⟨g,cap,cur,rfl,_⟩
 ·exact⟨none,0,by rw[h0]⟩
 ·exact⟨_,_,rfl⟩
theorem OwnAt.step {w0 w w':World} {e e':TypeId} {size size':Nat} {v v':Value} {n n':Nat} {xs xs':List Value} (h:OwnAt w0 w e size v n xs) (own:w'.ownsRow 0 e' size' v' n' xs') (fm:aj (dh v) w w') (fr:jr w v v'):OwnAt w0 w' e' size' v' n' xs':=
 ⟨own,(fun k hk=>by
   rcases fr k hk with h1|h1
   ·exact h.new k h1
   ·have:=h.aJ.size;omega),h.aJ.trans fm (fun i hi s=>by have:=h.new i s;omega)⟩
theorem OwnAt.row {w0 w:World} {e:TypeId} {size:Nat} {v:Value} {n:Nat} {xs:List Value} (h:OwnAt w0 w e size v n xs) (hn:0<n):
 ∃g c,v= .slice (some ⟨g,0,none⟩) n c∧w0.heap.size≤g∧g<w.heap.size∧n≤c∧(∀j u,xs[j]?=some u→w.cell? ⟨g,j,none⟩=some u)∧(∀j,w.frozen? ⟨g,j,none⟩=false)∧
  ∀j u,OwnAt w0 (w.setCell ⟨g,j,none⟩ u) e size v n (xs.set j u):=by
 rcases h.own.2 with⟨_,h0⟩|⟨g,cap,cur,rfl,hb,hg,hnc,hcm,hcs,htake⟩
 ·omega
 ·have hlt:w0.heap.size≤g:=h.new g rfl
  refine⟨g,cap,rfl,hlt,lt_of_block hg,hnc,fun j u hu=>?_,fun j=>bn hg j,fun j u=>⟨⟨?_, .inr ⟨g,cap,_,rfl,hb,fF hg j u,hnc,hcm,by simp[hcs],?_⟩⟩,h.new,?_⟩⟩
  ·refine aI hg j ?_
   rw[←htake,List.getElem?_take]at hu
   split at hu
   ·simpa using hu
   ·cases hu
  ·rw[List.length_set];exact h.own.1
  ·rw[Array.toList_setIfInBounds,List.take_set,htake]
  ·exact h.aJ.set1 (.inr hlt)
section
variable {P:Program}
theorem jF {ops:Array Oper} {rest:List Oper} {o:Oper} {a:Act} {Q:Exit→Act→World→Prop} (w0 w:World) (news:List Value) (hgd:o.guard=none) (s x:Operand) (t:TypeId)
 (ho:o.op= .call {callee:= .builtin .append,args:= #[s,x],argTypes:= #[t,t]})
 (e:TypeId) (i:TypeInfo) (z:Value) (size bytes:Nat) (ht:P.underlying t=some (.slice e)) (hi:P.info? e=some i) (hz:i.zero=some z)
 (hsize:i.size=size) (hby:i.bytes=bytes) (hzs:z.cells.size=size) (hsz:0<size)
 (v:Value) (n:Nat) (xs:List Value) (hown:OwnAt w0 w e size v n xs) (m c:Nat) (hv:a.eval s=v) (hx:a.eval x= .slice (some ⟨w.heap.size,0,none⟩) m c)
 (hnl:news.length=m*size) (h1:∀u∈news,u.oneCell'=true) (h63:n+m≤maxLen) (hbytes:(n+m)*bytes≤140737488355328)
 (h:∀ad c w',OwnAt w0 w' e size (.slice ad (n+m) c) (n+m) (xs++news)→wpList P ops Q rest (a.put o.dst (.slice ad (n+m) c)) w'):
 wpList P ops Q (o::rest) a (w.alloc (.cells news.toArray e)):=
 FV w news hgd s x t ho e i z size bytes ht hi hz hsize hby hzs hsz v n xs hown.own m c hv hx hnl h1 h63 hbytes fun ad c' w' g1 g2 g3=>h ad c' w' (hown.step g1 g2 g3)
theorem mD {ops:Array Oper} {rest:List Oper} {o:Oper} {a:Act} {Q:Exit→Act→World→Prop} (w0 w:World) (news:List Value) (hgd:o.guard=none) (s x:Operand) (t tx:TypeId)
 (ho:o.op= .call {callee:= .builtin .append,args:= #[s,x],argTypes:= #[t,tx]})
 (e e':TypeId) (i:TypeInfo) (z:Value) (size bytes:Nat) (ht:P.underlying t=some (.slice e)) (htx:P.underlying tx=some (.slice e')) (hi:P.info? e=some i) (hz:i.zero=some z)
 (hsize:i.size=size) (hby:i.bytes=bytes) (hzs:z.cells.size=size) (hsz:0<size)
 (v:Value) (n:Nat) (xs:List Value) (hown:OwnAt w0 w e size v n xs) (xv:Value) (m:Nat) (hv:a.eval s=v) (hx:a.eval x=xv) (hr:Rd w xv m news)
 (hnl:news.length=m*size) (h1:∀u∈news,u.oneCell'=true) (h63:n+m≤maxLen) (hbytes:(n+m)*bytes≤140737488355328)
 (h:∀ad c w',OwnAt w0 w' e size (.slice ad (n+m) c) (n+m) (xs++news)→wpList P ops Q rest (a.put o.dst (.slice ad (n+m) c)) w'):
 wpList P ops Q (o::rest) a w:=
 FU w hgd s x t tx ho e i z size bytes ht hi hz hsize hby hzs hsz v n xs hv hown.own xv m news hx (hr.src htx hnl h1) h63 hbytes fun ad c' w' g1 g2 g3 _=>h ad c' w' (hown.step g1 g2 g3)
theorem yT {ops:Array Oper} {o:Oper} {a:Act} (w0 w:World) {K:Act→World→Prop} {Q:Exit→Act→World→Prop} {E:Prop} (news:List Value) (hgd:o.guard=none) (s x:Operand) (t:TypeId)
 (ho:o.op= .call {callee:= .builtin .append,args:= #[s,x],argTypes:= #[t,t]})
 (e:TypeId) (i:TypeInfo) (z:Value) (size bytes:Nat) (ht:P.underlying t=some (.slice e)) (hi:P.info? e=some i) (hz:i.zero=some z)
 (hsize:i.size=size) (hby:i.bytes=bytes) (hzs:z.cells.size=size) (hsz:0<size)
 (v:Value) (n:Nat) (xs:List Value) (hown:OwnAt w0 w e size v n xs) (m c:Nat) (hv:a.eval s=v) (hx:a.eval x= .slice (some ⟨w.heap.size,0,none⟩) m c)
 (hnl:news.length=m*size) (h1:∀u∈news,u.oneCell'=true) (h63:n+m≤maxLen) (hbytes:(n+m)*bytes≤140737488355328)
 (h:∀ad c w',OwnAt w0 w' e size (.slice ad (n+m) c) (n+m) (xs++news)→K (a.put o.dst (.slice ad (n+m) c)) w'):
 if Region.wanted o (yielded ops a.tmps)=true then Oper.wp P o a (w.alloc (.cells news.toArray e)) K Q else E:=by
 have hw:Region.wanted o (yielded ops a.tmps)=true:=by simp[Region.wanted,hgd]
 rw[if_pos hw]
 have hs:Src P size t (.slice (some ⟨w.heap.size,0,none⟩) m c) m news (w.alloc (.cells news.toArray e)):=
  Src.ofSlice _ ht ⟨w.heap.size,0,none⟩ m c news hnl (fun j u hj=>by
   have hadd:(⟨w.heap.size,0,none⟩:Addr).add j=⟨w.heap.size,j,none⟩:=by unfold Addr.add;split<;>simp_all
   rw[hadd,cell_of_row (w.alloc (.cells news.toArray e)) w.heap.size j news.toArray e (0,0) (heap_alloc_new w _)]
   simpa using hj) h1
 obtain⟨v',w',hr,h2,h3,h4,⟨ad,c',rfl⟩,h6⟩:=um (P:=P) (w.alloc (.cells news.toArray e)) t t o.type e i z size bytes ht hi hz hsize hby hzs hsz v n xs (hown.own.alloc _) _ m news hs h63 hbytes
 unfold Oper.wp execOp
 simp only[ho,resolve,invoke,builtin,Sem.run_bind,Sem.run_pure,Result.andThen_ok,List.map_toArray,List.map_cons,List.map_nil,hv,hx,hr]
 refine h ad c' w' (hown.step h2 ((aj.alloc (dh v) w _).trans h3 (fun _ _ h=>h)) fun k hk=>?_)
 rcases h4 k hk with h|h
 ·exact .inl h
 ·refine .inr ?_
  simp at h
  omega
end
theorem BJ:(Tryz.prog.info? 168).map (fun i=>(i.zero,i.size,i.bytes))=some (some (.agg #[.int .i64 0, .int .i64 0]),2,16):=by kernel_rfl
theorem yU:(Tryz.prog.info? 2).map (fun i=>(i.zero,i.size,i.bytes))=some (some (.int .i64 0),1,8):=by kernel_rfl
open Go.RowKit
theorem NV {l:aS} {k:Nat} (hk:k<l.length):dN (l.take (k+1))=dN (l.take k)++ [(l.getD k (0,0)).1,(l.getD k (0,0)).2+1]:=by
 rw[take_succ (0,0) hk];simp[dN]
theorem wG (l:aS):(dN l).length=l.length*2:=by
 induction l with
 |nil=>rfl
 |cons r l ih=>
  have:dN (r::l)=[r.1,r.2+1]++dN l:=rfl
  rw[this,List.length_append,ih];simp;omega
theorem Gx (w:World) (v:Value) (l:aS) (hv:gZ w v l) (hr:bM l) (hl:l.length≤100000):
 Calls Tryz.prog 161 #[v] w fun e w'=>∃v',e= .returned v'∧OwnAt w w' 2 1 v' (dN l).length (kE (dN l)):=by
 obtain⟨i0,hi,hz0,hz1,hz2⟩:=info_parts yU
 rcases Rd.shape hv with⟨ad,rfl,h0⟩|⟨b,off,c,rfl,hmax⟩
 ·obtain rfl:l=[]:=List.eq_nil_of_length_eq_zero h0
  clear hv hr
  go_enter Tryz.func161,Tryz.ntmps161
  go_wp2
  go_loop [3,7] (fun v i=>v= .slice none 0 0∧i= .int .i64 0) (fun _ _=>0)
  case atStart=>exact⟨rfl,rfl⟩
  case round=>
   obtain⟨rfl,rfl⟩:=hrel
   go_wp2
   go_ret
   exact⟨_,rfl,OwnAt.nil (aj.refl _ _) _ _⟩
 ·have HH:=ah hv;clear hv
  have HR:=ah hr;clear hr
  generalize hn:l.length=n at*
  have HN:=ah hn;clear hn
  go_enter Tryz.func161,Tryz.ntmps161
  go_wp2
  go_loopw [3,7] (fun v i ww=>∃(k:Nat),k≤n∧i= .int .i64 k∧OwnAt w ww 2 1 v (k*2) (kE (dN (l.take k)))) (fun _ i _=>n-(intOf i).toNat)
  case atStart=>exact⟨0,Nat.zero_le _,rfl,OwnAt.nil (aj.refl _ _) _ _⟩
  case round=>
   obtain⟨k,hk,rfl,ho⟩:=hrel
   obtain⟨av,cv,rfl⟩:=ho.shape
   have HO:=ah ho;clear ho
   by_cases hlt:k<n
   ·obtain⟨p1,p2⟩:=lq HH.out HN.out.symm k (by rw[HN.out];exact hlt)
    have q1:=HO.out.aJ.cell' p1 id
    have q2:=HO.out.aJ.cell' p2 id
    have hbl:=World.block_lt_of_cell? _ _ q1
    have hbl:b<wr.heap.size:=hbl
    have hfit:1≤(l.getD k (0,0)).1∧(l.getD k (0,0)).1≤(l.getD k (0,0)).2∧(l.getD k (0,0)).2≤1099511627776:=by
     have hm:=getD_mem (0,0) (show k<l.length by rw[HN.out];exact hlt)
     have:=iT HR.out.1 _ hm
     have:=HR.out.2 _ hm
     omega
    have HE:=ah (NV (l:=l) (k:=k) (by rw[HN.out];exact hlt))
    generalize l.getD k (0,0)=r at*
    have P1:=ah p1;clear p1
    have P2:=ah p2;clear p2
    have hwr:IntKind.i64.wrap (r.2+1)=r.2+1:=by simp[IntKind.wrap,IntKind.bits,IntKind.signed];omega
    go_wp2_with fail
    go_region_held3 (fun w'=>w'.cell? ⟨b,off+k*2,none⟩=some (.int .i64 r.1)∧w'.cell? ⟨b,off+k*2+1,none⟩=some (.int .i64 r.2))
     (first|exact⟨q1,q2⟩|exact⟨(aj.alloc1 (aj.drew au _)).cell' q1 id,(aj.alloc1 (aj.drew au _)).cell' q2 id⟩|exact⟨bI.aJ.cell' P1.out id,bI.aJ.cell' P2.out id⟩)
     (first|(refine yT w wr.drew [.int .i64 r.1, .int .i64 (r.2+1)] rfl (.tmp 10) (.tmp 22) 171 rfl 2 i0 _ 1 8 Tryz.underlying171 hi hz0 hz1 hz2 (by decide) (by decide) (.slice av (k*2) cv) (k*2) _ (HO.out.keep (aj.drew _ _)) 2 2 (by simp[Act.eval]) (by simp[Act.eval]) rfl (by simp[Value.oneCell']) (by simp only[maxLen];omega) (by omega) ?_;intro ad cc w2 bI))
    have OW:=ah bI;clear bI
    go_wp2
    go_roundw
    case rel=>
     refine⟨k+1,by omega,by go_num,?_⟩
     rw[HE.out,yN,show(k+1)*2=k*2+2 by omega]
     exact OW.out
    case measure=>simp[intOf];omega
   ·obtain rfl:k=n:=by omega
    go_wp2
    go_ret
    rw[List.take_of_length_le (by rw[HN.out];exact Nat.le_refl _)]at HO
    refine⟨_,rfl,?_⟩
    rw[wG,HN.out]
    exact HO.out
open Go.RowKit
def Gy (l:List Int) (x o:Value):Nat:=
 match o with
 | .bool true=>ahead l (some (intOf x))
 |_=>0
theorem NW {n:Nat} (h:n+1≤100000):wrap64 (n:Int)=n:=by unfold wrap64;omega
theorem BK (l:List Int) (x:Option Int):ahead l x≤l.length:=by
 cases x with
 |none=>exact Nat.zero_le _
 |some m=>exact List.length_filter_le _ _
theorem Gz (out:aS) (a hi:Int):(oH out a hi).length≤out.length+1:=by
 rcases List.eq_nil_or_concat out with rfl|⟨l,r,rfl⟩
 ·simp[oH]
 ·rw[List.concat_eq_append,yK]
  split<;>simp
theorem BL (l:aS) (r:Int×Int) (hi:Int):(bZ (l++ [r])).set (l.length*2+1) (.int .i64 hi)=bZ (l++ [(r.1,hi)]):=by
 rw[kS,kS,List.set_append_right _ _ (by rw[oK];omega),oK,show l.length*2+1-l.length*2=1 by omega]
 rfl
theorem BM (l:aS) (r:Int×Int):(bZ (l++ [r]))[l.length*2+1]?=some (.int .i64 r.2):=by
 rw[kS,List.getElem?_append_right (by rw[oK];omega),oK,show l.length*2+1-l.length*2=1 by omega]
 rfl
def NY (w:World) (l:List Int) (v x o:Value) (ww:World):Prop:=
 ∃(q:Option Int) (out:aS),OwnAt w ww 168 2 v out.length (bZ out)∧sF l out q∧out.length+ahead l q≤l.length∧x= .int .i64 (q.getD 0)∧o= .bool q.isSome
theorem NZ (w:World) (v:Value) (l:List Int) (hv:yR w v l) (hl:l.length≤100000) (hb:∀x∈l,1≤x∧x≤1099511627777):
 Calls Tryz.prog 124 #[v] w fun e w'=>∃v' out,e= .returned v'∧OwnAt w w' 168 2 v' out.length (bZ out)∧sF l out none∧out.length≤l.length:=by
 obtain⟨i0,hi,hz0,hz1,hz2⟩:=info_parts BJ
 obtain⟨a,c,rfl⟩:=hv.sl
 have HB:=ah hb;clear hb
 have HN:=ah (fun w' x h=>Gw w' _ l x (Rd.aN hv h));clear hv
 go_enter Tryz.func124,Tryz.ntmps124
 go_wp2_with(go_at_call 162;refine(HN.out w 0 (aj.refl _ _)).mono ?_;rintro e w' ⟨rfl,hw⟩;rw[hw];clear hw w')
 go_loopw [3,4,5] (fun v x o ww=>NY w l v x o ww) (fun _ x o _=>Gy l x o)
 case atStart=>exact⟨nextL l 0,[],OwnAt.nil (aj.refl _ _) _ _,Ny l,by have:=BK l (nextL l 0);simpa using this,rfl,rfl⟩
 case round=>
  obtain⟨q,out,ho,hq,hlen,rfl,rfl⟩:=hrel
  have HQ:=ah hq;clear hq
  have HO:=ah ho;clear ho
  cases q with
  |none=>
   have HLEN:=ah hlen;clear hlen
   obtain⟨av,cv,rfl⟩:=HO.out.shape
   go_wp2
   go_ret
   exact⟨_,out,rfl,HO.out,HQ.out,Nat.le_trans (Nat.le_add_right _ _) HLEN.out⟩
  |some m=>
   obtain⟨m1,m2,m3,m4⟩:=HQ.out.some_ m rfl
   obtain⟨b1,b2⟩:=HB.out m m2
   have hah:=Gf m2
   have hstep:=Nz HQ.out
   have hpl:=Gz out m m
   have N_:=BK l (some m)
   rcases List.eq_nil_or_concat out with rfl|⟨lo,r,rfl⟩
   ·have HST:=ah hstep
    have HLEN:=ah hlen
    have nC:=ah hah
    clear hstep hpl hah m2 m3 m4
    obtain⟨av,cv,rfl⟩:=HO.out.shape
    go_wp2_with(first
     |(go_at_call 162;refine(HN.out _ m OW.out.aJ).mono ?_;rintro e w' ⟨rfl,hw⟩;rw[hw];clear hw w')
     |(at_builtin;refine jF w _ [.int .i64 m, .int .i64 m] rfl (.tmp 34) (.tmp 38) 135 rfl 168 i0 _ 2 16 Tryz.underlying135 hi hz0 hz1 hz2 (by decide) (by decide) _ _ _ HO.out 1 1 rfl rfl rfl (by simp[Value.oneCell']) (by simp[maxLen]) (by simp) ?_;intro ad cc w2 bI;have OW:=ah bI;clear bI))
    go_roundw
    case rel=>
     refine⟨nextL l m,[(m,m)],OW.out,HST.out,?_,rfl,rfl⟩
     have:=HLEN.out
     have:=nC.out
     simp at*
     omega
    case measure=>
     have:=nC.out
     cases hx:nextL l m with
     |none=>rw[hx]at this;exact this
     |some t=>rw[hx]at this;exact this
   ·rw[List.concat_eq_append]at*
    rw[yK]at hstep hpl
    have hln:(lo++ [r]).length=lo.length+1:=by simp
    have ho2:=HO.out
    rw[hln]at ho2 hlen hpl
    clear HO hln
    obtain⟨g,c2,rfl,hg0,hg,hc2,hcell,hfro,hset⟩:=ho2.row (by simp)
    have cl:=hcell _ _ (BM lo r)
    have fl:=hfro (lo.length*2+1)
    have hs:=hset (lo.length*2+1) (.int .i64 m)
    rw[BL]at hs
    have HO:=ah ho2;clear ho2
    have hr2:=m3 r (by simp)
    have hr1:1≤r.2:=by
     have:=iT HQ.out.from_ r (by simp)
     omega
    generalize hL:lo.length=L at*
    have kF:=ah hL;clear hL
    have HS:=ah hs;clear hs
    have lu:=ah hpl;clear hpl
    have HLEN:=ah hlen
    have nC:=ah hah;clear hah
    clear m3 m4 hset hcell hfro m2
    have hL5:L+1≤100000:=Nat.le_trans (Nat.le_trans (Nat.le_add_right _ _) hlen) hl
    have hwm:wrap64 (L:Int)=L:=NW hL5
    clear hlen N_ hr1 hr2
    by_cases he:r.2=m-1
    ·rw[if_pos he]at hstep lu
     have HST:=ah hstep;clear hstep
     have he':((r.2:Int)==m-1)=true:=by simp[he]
     clear he
     go_wp2_with(go_at_call 162;refine(HN.out _ m HS.out.aJ).mono ?_;rintro e w' ⟨rfl,hw⟩;rw[hw];clear hw w')
     go_roundw
     case rel=>
      refine⟨nextL l m,lo++ [(r.1,m)],by rw[List.length_append,kF.out];exact HS.out,HST.out,?_,rfl,rfl⟩
      have:=HLEN.out
      have:=nC.out
      have:=kF.out
      simp at*
      omega
     case measure=>
      have:=nC.out
      cases hx:nextL l m with
      |none=>rw[hx]at this;exact this
      |some t=>rw[hx]at this;exact this
    ·rw[if_neg he]at hstep lu
     have HST:=ah hstep;clear hstep
     have he':((r.2:Int)==m-1)=false:=by simpa using he
     clear he
     go_wp2_with(first
      |(go_at_call 162;refine(HN.out _ m OW.out.aJ).mono ?_;rintro e w' ⟨rfl,hw⟩;rw[hw];clear hw w')
      |(at_builtin;refine jF w _ [.int .i64 m, .int .i64 m] rfl (.tmp 34) (.tmp 38) 135 rfl 168 i0 _ 2 16 Tryz.underlying135 hi hz0 hz1 hz2 (by decide) (by decide) _ _ _ HO.out 1 1 rfl rfl rfl (by simp[Value.oneCell']) (by simp only[maxLen];omega) (by omega) ?_;intro ad cc w2 bI;have OW:=ah bI;clear bI))
     go_roundw
     case rel=>
      refine⟨nextL l m,lo++ [r]++ [(m,m)],by rw[List.length_append,List.length_append,kF.out,kS];exact OW.out,HST.out,?_,rfl,rfl⟩
      have:=HLEN.out
      have:=nC.out
      have:=kF.out
      simp at*
      omega
     case measure=>
      have:=nC.out
      cases hx:nextL l m with
      |none=>rw[hx]at this;exact this
      |some t=>rw[hx]at this;exact this
open Go.RowKit
theorem OwnAt.base {w0 w1 w:World} {e:TypeId} {size:Nat} {v:Value} {n:Nat} {xs:List Value} (h:OwnAt w1 w e size v n xs) (f:aj au w0 w1):OwnAt w0 w e size v n xs:=
 ⟨h.own,(fun k hk=>Nat.le_trans f.size (h.new k hk)),f.aF h.aJ⟩
def GH (how:Int):Prop:=∀(w:World) (va vb:Value) (a b:aS) (_:gZ w va a) (_:gZ w vb b) (_:bM a) (_:bM b) (_:a.length≤10000) (_:b.length≤10000),
    Calls Tryz.prog 123 #[va,vb, .int .i64 how] w fun e w'=>∃v' out,e= .returned v'∧OwnAt w w' 168 2 v' out.length (bZ out)∧pY a b how out none∧out.length≤40000
theorem Oa {n:Nat} (h:n+1≤1000000):wrap64 (n:Int)=n:=by unfold wrap64;omega
theorem yV {m:Int} (h1:1≤m) (h2:m≤1099511627777):wrap64 (m-1)=m-1:=by unfold wrap64;omega
theorem GI {l:aS} (h:bM l):∀x∈dN l,1≤x∧x≤1099511627777:=by
 intro x hx
 obtain⟨r,hr,h1⟩:=uo.1 hx
 have:=iT h.1 r hr
 have:=h.2 r hr
 omega
theorem Ob:GH 2:=by
 intro w va vb a b ha hb ra rb la lb
 obtain⟨i0,hi,hz0,hz1,hz2⟩:=info_parts BJ
 obtain⟨j0,hj,hy0,hy1,hy2⟩:=info_parts yU
 obtain⟨aA,cA,rfl⟩:=ha.sl
 obtain⟨aB,cB,rfl⟩:=hb.sl
 have hl:(dN a++dN b).length≤40000:=by rw[List.length_append,wG,wG];omega
 have hbd:∀x∈(dN a++dN b),1≤x∧x≤1099511627777:=fun x hx=>(List.mem_append.1 hx).elim (GI ra x) (GI rb x)
 have nT:=ah hbd;clear hbd
 have Oc:=ah (Nu 2 ra.1 rb.1)
 have oL:=ah (Gx w _ a ha ra (by omega))
 have uI:=ah (fun w' h=>Gx w' _ b (Rd.aN hb h) rb (by omega))
 have HA:=ah (fun w' x h=>Gv w' _ a x (Rd.aN ha h))
 have HB:=ah (fun w' x h=>Gv w' _ b x (Rd.aN hb h))
 have Oe:(dN a).length≤20000:=by rw[wG];omega
 have elb:(dN b).length≤20000:=by rw[wG];omega
 clear ha hb la lb
 go_enter Tryz.func123,Tryz.ntmps123
 go_wp2_with(first
  |(go_at_call_of 161 aA;refine oL.out.mono ?_;rintro e w1 ⟨v1,rfl,ho1⟩;obtain⟨a1,c1,rfl⟩:=ho1.shape;have dB:=ah ho1;clear ho1)
  |(go_at_call_of 161 aB;refine(uI.out w1 dB.out.aJ).mono ?_;rintro e w2 ⟨v2,rfl,ho2⟩;obtain⟨a2,c2,rfl⟩:=ho2.shape;have dV:=ah ho2;clear ho2)
  |(at_builtin;refine mD w _ _ rfl (.tmp 17) (.tmp 19) 171 171 rfl 2 2 j0 _ 1 8 Tryz.underlying171 Tryz.underlying171 hj hy0 hy1 hy2 (by decide) (by decide) _ _ _ (dB.out.keep dV.out.aJ) _ (dN b).length rfl rfl dV.out.rd (by simp) (NQ _) (by simp only[maxLen];omega) (by omega) ?_;intro a3 c3 w3 uJ;have bJ:=ah uJ;clear uJ))
 have HW3:=ah bJ.out.aJ
 have lC:=ah (fun w' x (h:aj au w3 w')=>Gw w' _ (dN a++dN b) x (by have:=(bJ.out.keep h).rd;rw[←yN,←List.length_append]at this;exact this))
 clear dB dV bJ oL uI
 rw[←List.length_append]
 have Og:(dN a++dN b).length=(dN a).length+(dN b).length:=List.length_append
 generalize hP:(dN a++dN b)=P at*
 have HP:=ah hP;clear hP
 clear Oe elb Og
 refine(lC.out w3 0 (aj.refl _ _)).mono ?_
 rintro e w' ⟨rfl,hw⟩
 rw[hw]
 clear hw w'
 go_wp2
 go_loopw [8,9,10] (fun v x o ww=>∃(q:Option Int) (out:aS),OwnAt w3 ww 168 2 v out.length (bZ out)∧pY a b 2 out q∧out.length+ahead P q≤P.length∧x= .int .i64 (q.getD 0)∧o= .bool q.isSome) (fun _ x o _=>Gy P x o)
 case atStart=>exact⟨nextL P 0,[],OwnAt.nil (aj.refl _ _) _ _,Oc.out,by have:=BK P (nextL P 0);simpa using this,rfl,rfl⟩
 case round=>
  obtain⟨q,out,ho,hq,hlen,rfl,rfl⟩:=hrel
  have HQ:=ah hq;clear hq
  have HO:=ah ho;clear ho
  cases q with
  |none=>
   have HLEN:=ah hlen;clear hlen
   have HL:=ah hl;clear hl
   obtain⟨av,cv,rfl⟩:=HO.out.shape
   go_wp2
   go_ret
   exact⟨_,out,rfl,HO.out.base HW3.out,HQ.out,Nat.le_trans (Nat.le_trans (Nat.le_add_right _ _) HLEN.out) HL.out⟩
  |some m=>
   obtain⟨m1,m2,m3,m4⟩:=HQ.out.some_ m rfl
   rw[HP.out]at m2
   obtain⟨b1,b2⟩:=nT.out m m2
   have hah:=Gf m2
   have nC:=ah hah;clear hah
   have hole:out.length+1≤40000:=by
    have:0<ahead P (some m):=List.length_pos_of_mem (List.mem_filter.2 ⟨m2,by simp⟩)
    omega
   have HLEN:=ah hlen
   have yX:=ah m3;clear m3
   clear m4 m1 hlen m2
   cases hp:tf (aX a m)with
   |false=>
    cases hq:tf (aX b m)with
    |false=>
     have hin:¬dO 2 (aX a m) (aX b m):=by
      have h1:=uy.1 hp
      have h2:=uy.1 hq
      unfold dO
      simp[h1,h2]
     have kG:=ah (fun w' h=>HA.out w' m h)
     have jO:=ah (fun w' h=>HB.out w' m h)
     rw[hp]at kG
     rw[hq]at jO
     clear hp hq
     have HST:=ah (HP.out▸Bo HQ.out hin)
     have mF:=ah (fun w' h=>lC.out w' m h)
     have hlm:ahead P (nextL P m)<ahead P (some m):=nC.out
     generalize hnx:nextL P m=nx at*
     have HL2:=ah hlm;clear hlm
     clear hin
     obtain⟨av,cv,rfl⟩:=HO.out.shape
     go_wp2_with(first
      |(go_at_call 162;refine(mF.out _ HO.out.aJ).mono ?_;rintro e w' ⟨rfl,hw⟩;rw[hw];clear hw w')
      |(go_at_call_of 160 aA;refine(kG.out _ (HW3.out.aF HO.out.aJ)).mono ?_;rintro e w' ⟨rfl,hw⟩;rw[hw];clear hw w')
      |(go_at_call_of 160 aB;refine(jO.out _ (HW3.out.aF HO.out.aJ)).mono ?_;rintro e w' ⟨rfl,hw⟩;rw[hw];clear hw w'))
     go_roundw
     case rel=>
      refine⟨nx,out,HO.out,HST.out,?_,rfl,rfl⟩
      have:=HLEN.out
      have:=HL2.out
      omega
     case measure=>
      have:=HL2.out
      cases nx with
      |none=>exact this
      |some t=>exact this
    |true=>
     have hin:¬dO 2 (aX a m) (aX b m):=by
      have h1:=uy.1 hp
      have h2:=uw.1 hq
      unfold dO
      simp[h1,h2]
     have kG:=ah (fun w' h=>HA.out w' m h)
     have jO:=ah (fun w' h=>HB.out w' m h)
     rw[hp]at kG
     rw[hq]at jO
     clear hp hq
     have HST:=ah (HP.out▸Bo HQ.out hin)
     have mF:=ah (fun w' h=>lC.out w' m h)
     have hlm:ahead P (nextL P m)<ahead P (some m):=nC.out
     generalize hnx:nextL P m=nx at*
     have HL2:=ah hlm;clear hlm
     clear hin
     obtain⟨av,cv,rfl⟩:=HO.out.shape
     go_wp2_with(first
      |(go_at_call 162;refine(mF.out _ HO.out.aJ).mono ?_;rintro e w' ⟨rfl,hw⟩;rw[hw];clear hw w')
      |(go_at_call_of 160 aA;refine(kG.out _ (HW3.out.aF HO.out.aJ)).mono ?_;rintro e w' ⟨rfl,hw⟩;rw[hw];clear hw w')
      |(go_at_call_of 160 aB;refine(jO.out _ (HW3.out.aF HO.out.aJ)).mono ?_;rintro e w' ⟨rfl,hw⟩;rw[hw];clear hw w'))
     go_roundw
     case rel=>
      refine⟨nx,out,HO.out,HST.out,?_,rfl,rfl⟩
      have:=HLEN.out
      have:=HL2.out
      omega
     case measure=>
      have:=HL2.out
      cases nx with
      |none=>exact this
      |some t=>exact this
   |true=>
    cases hq:tf (aX b m)with
    |false=>
     have hin:dO 2 (aX a m) (aX b m):=by
      have h1:=uw.1 hp
      have h2:=uy.1 hq
      unfold dO
      simp[h1,h2]
     have kG:=ah (fun w' h=>HA.out w' m h)
     have jO:=ah (fun w' h=>HB.out w' m h)
     rw[hp]at kG
     rw[hq]at jO
     clear hp hq
     obtain⟨t,ht⟩:=Nw hin
     have hst:=Nv HQ.out hin ht
     rw[HP.out]at ht
     have HST:=ah hst;clear hst
     have hlm:ahead P (some t)<ahead P (some m):=ht▸nC.out
     have HL2:=ah hlm;clear hlm
     obtain⟨t1,t2⟩:=nT.out t (sD ht).1
     have mF:=ah (fun w' h=>lC.out w' m h)
     rw[ht]at mF
     clear hin ht
     have lu:=ah (Gz out m (t-1))
     rcases List.eq_nil_or_concat out with rfl|⟨lo,r,rfl⟩
     ·rw[Gg]at HST lu
      obtain⟨av,cv,rfl⟩:=HO.out.shape
      go_wp2_with(first
       |(go_at_call 162;refine(mF.out _ HO.out.aJ).mono ?_;rintro e w' ⟨rfl,hw⟩;rw[hw];clear hw w')|(go_at_call_of 160 aA;refine(kG.out _ (HW3.out.aF HO.out.aJ)).mono ?_;rintro e w' ⟨rfl,hw⟩;rw[hw];clear hw w')|(go_at_call_of 160 aB;refine(jO.out _ (HW3.out.aF HO.out.aJ)).mono ?_;rintro e w' ⟨rfl,hw⟩;rw[hw];clear hw w')
       |(at_builtin;refine jF w3 _ [.int .i64 m, .int .i64 (t-1)] rfl (.tmp 83) (.tmp 88) 135 rfl 168 i0 _ 2 16 Tryz.underlying135 hi hz0 hz1 hz2 (by decide) (by decide) _ _ _ HO.out 1 1 rfl rfl rfl (by simp[Value.oneCell']) (by simp[maxLen]) (by simp) ?_;intro ad cc w2 bI;have OW:=ah bI;clear bI))
      go_roundw
      case rel=>exact⟨some t,[(m,t-1)],OW.out,HST.out,by have:=HLEN.out;have:=HL2.out;simp at*;omega,rfl,rfl⟩
      case measure=>exact HL2.out
     ·rw[List.concat_eq_append]at*
      rw[yK]at HST lu
      have hln:(lo++ [r]).length=lo.length+1:=by simp
      have ho2:=HO.out
      have hlen:=HLEN.out
      rw[hln]at ho2 hole hlen lu
      clear HO HLEN
      have HLEN:=ah hlen;clear hlen
      obtain⟨g,c2,rfl,hg0,hg,hc2,hcell,hfro,hset⟩:=ho2.row (by simp)
      have cl:=hcell _ _ (BM lo r)
      have fl:=hfro (lo.length*2+1)
      have hs:=hset (lo.length*2+1) (.int .i64 (t-1))
      rw[BL]at hs
      have HO:=ah ho2;clear ho2
      generalize hL:lo.length=L at*
      have kF:=ah hL;clear hL
      have HS:=ah hs;clear hs
      clear hset hcell hfro hln
      have hwm:wrap64 (L:Int)=L:=Oa (Nat.le_of_succ_le (Nat.le_trans hole (by decide:40000≤1000000)))
      have HOLE:=ah hole;clear hole hc2
      by_cases he:r.2=m-1
      ·rw[if_pos he]at HST lu
       have he':((r.2:Int)==m-1)=true:=by simp[he]
       have hw1:wrap64 (m-1)=m-1:=yV b1 b2
       have hw2:wrap64 (t-1)=t-1:=yV t1 t2
       clear he b1 b2 t1 t2
       go_wp2_with(first
        |(go_at_call 162;refine(mF.out _ HO.out.aJ).mono ?_;rintro e w' ⟨rfl,hw⟩;rw[hw];clear hw w')|(go_at_call_of 160 aA;refine(kG.out _ (HW3.out.aF HO.out.aJ)).mono ?_;rintro e w' ⟨rfl,hw⟩;rw[hw];clear hw w')|(go_at_call_of 160 aB;refine(jO.out _ (HW3.out.aF HO.out.aJ)).mono ?_;rintro e w' ⟨rfl,hw⟩;rw[hw];clear hw w'))
       go_roundw
       case rel=>
        refine⟨some t,lo++ [(r.1,t-1)],by rw[List.length_append,kF.out];exact HS.out,HST.out,?_,rfl,rfl⟩
        have:=HLEN.out
        have:=HL2.out
        have:=kF.out
        rw[List.length_append]
        simp at*
        omega
       case measure=>exact HL2.out
      ·rw[if_neg he]at HST lu
       have he':((r.2:Int)==m-1)=false:=by simpa using he
       have hw1:wrap64 (m-1)=m-1:=yV b1 b2
       have hw2:wrap64 (t-1)=t-1:=yV t1 t2
       clear he b1 b2 t1 t2
       go_wp2_with(first
        |(go_at_call 162;refine(mF.out _ HO.out.aJ).mono ?_;rintro e w' ⟨rfl,hw⟩;rw[hw];clear hw w')|(go_at_call_of 160 aA;refine(kG.out _ (HW3.out.aF HO.out.aJ)).mono ?_;rintro e w' ⟨rfl,hw⟩;rw[hw];clear hw w')|(go_at_call_of 160 aB;refine(jO.out _ (HW3.out.aF HO.out.aJ)).mono ?_;rintro e w' ⟨rfl,hw⟩;rw[hw];clear hw w')
        |(at_builtin;refine jF w3 _ [.int .i64 m, .int .i64 (t-1)] rfl (.tmp 83) (.tmp 88) 135 rfl 168 i0 _ 2 16 Tryz.underlying135 hi hz0 hz1 hz2 (by decide) (by decide) _ _ _ HO.out 1 1 rfl rfl rfl (by simp[Value.oneCell']) (by have:=HOLE.out;simp only[maxLen];omega) (by have:=HOLE.out;omega) ?_;intro ad cc w2 bI;have OW:=ah bI;clear bI))
       go_roundw
       case rel=>
        refine⟨some t,lo++ [r]++ [(m,t-1)],by rw[List.length_append,List.length_append,kF.out,kS];exact OW.out,HST.out,?_,rfl,rfl⟩
        have:=HLEN.out
        have:=HL2.out
        have:=kF.out
        simp at*
        omega
       case measure=>exact HL2.out
    |true=>
     have hin:¬dO 2 (aX a m) (aX b m):=by
      have h1:=uw.1 hp
      have h2:=uw.1 hq
      unfold dO
      simp[h1,h2]
     have kG:=ah (fun w' h=>HA.out w' m h)
     have jO:=ah (fun w' h=>HB.out w' m h)
     rw[hp]at kG
     rw[hq]at jO
     clear hp hq
     have HST:=ah (HP.out▸Bo HQ.out hin)
     have mF:=ah (fun w' h=>lC.out w' m h)
     have hlm:ahead P (nextL P m)<ahead P (some m):=nC.out
     generalize hnx:nextL P m=nx at*
     have HL2:=ah hlm;clear hlm
     clear hin
     obtain⟨av,cv,rfl⟩:=HO.out.shape
     go_wp2_with(first
      |(go_at_call 162;refine(mF.out _ HO.out.aJ).mono ?_;rintro e w' ⟨rfl,hw⟩;rw[hw];clear hw w')
      |(go_at_call_of 160 aA;refine(kG.out _ (HW3.out.aF HO.out.aJ)).mono ?_;rintro e w' ⟨rfl,hw⟩;rw[hw];clear hw w')
      |(go_at_call_of 160 aB;refine(jO.out _ (HW3.out.aF HO.out.aJ)).mono ?_;rintro e w' ⟨rfl,hw⟩;rw[hw];clear hw w'))
     go_roundw
     case rel=>
      refine⟨nx,out,HO.out,HST.out,?_,rfl,rfl⟩
      have:=HLEN.out
      have:=HL2.out
      omega
     case measure=>
      have:=HL2.out
      cases nx with
      |none=>exact this
      |some t=>exact this
open Go.RowKit
theorem wH:(Tryz.prog.info? 92).map (fun i=>(i.zero,i.size,i.bytes))=some (some (.agg #[.int .i64 0, .int .i64 0, .int .i64 0]),3,24):=by kernel_rfl
theorem GK {c:aV} {k:Nat} (d:Int) (hk:k<c.length):aZ (c.take (k+1)) d=aZ (c.take k) d++(if(c.getD k (0,0,0)).1=d then [(c.getD k (0,0,0)).2]else []):=by
 rw[take_succ (0,0,0) hk,wB]
 congr 1
 split
 ·rename_i h;subst h;rw[Gj];rfl
 ·rename_i h;rw[Bz _ _ h];rfl
theorem uK (c:aV) (d:Int):(aZ c d).length≤c.length:=by
 unfold aZ;rw[List.length_map];exact List.length_filter_le _ _
theorem BN (w:World) (v:Value) (c:aV) (d:Int) (hv:fB w v c) (hl:c.length≤100000):
 Calls Tryz.prog 86 #[v, .int .i64 d] w fun e w'=>∃v',e= .returned v'∧OwnAt w w' 168 2 v' (aZ c d).length (bZ (aZ c d)):=by
 obtain⟨i0,hi,hz0,hz1,hz2⟩:=info_parts BJ
 rcases Rd.shape hv with⟨ad,rfl,h0⟩|⟨b,off,Oh,rfl,hmax⟩
 ·obtain rfl:c=[]:=List.eq_nil_of_length_eq_zero h0
  clear hv
  go_enter Tryz.func86,Tryz.ntmps86
  go_wp2
  go_loop [5,9] (fun v i=>v= .slice none 0 0∧i= .int .i64 0) (fun _ _=>0)
  case atStart=>exact⟨rfl,rfl⟩
  case round=>
   obtain⟨rfl,rfl⟩:=hrel
   go_wp2
   go_ret
   exact⟨_,rfl,OwnAt.nil (aj.refl _ _) _ _⟩
 ·have HH:=ah hv;clear hv
  generalize hn:c.length=n at*
  have HN:=ah hn;clear hn
  have nU:=ah hl;clear hl
  go_enter Tryz.func86,Tryz.ntmps86
  go_wp2
  go_loopw [5,9] (fun v i ww=>∃(k m:Nat),k≤n∧m≤k∧i= .int .i64 k∧m=(aZ (c.take k) d).length∧OwnAt w ww 168 2 v m (bZ (aZ (c.take k) d))) (fun _ i _=>n-(intOf i).toNat)
  case atStart=>exact⟨0,0,Nat.zero_le _,Nat.le_refl _,rfl,rfl,OwnAt.nil (aj.refl _ _) _ _⟩
  case round=>
   obtain⟨k,m,hk,hmk,rfl,hm,ho⟩:=hrel
   obtain⟨av,cv,rfl⟩:=ho.shape
   have HO:=ah ho;clear ho
   have HM:=ah hm;clear hm
   have uM:=ah hmk;clear hmk
   by_cases hlt:k<n
   ·obtain⟨p0,p1,p2⟩:=qR HH.out HN.out.symm k (by rw[HN.out];exact hlt)
    have q0:=HO.out.aJ.cell' p0 id
    have q1:=HO.out.aJ.cell' p1 id
    have q2:=HO.out.aJ.cell' p2 id
    have hbl:=World.block_lt_of_cell? _ _ q1
    have hbl:b<wr.heap.size:=hbl
    have hE:=GK (c:=c) (k:=k) d (by rw[HN.out];exact hlt)
    generalize c.getD k (0,0,0)=s at*
    have P1:=ah p1;clear p1
    have P2:=ah p2;clear p2
    clear p0
    by_cases he:s.1=d
    ·rw[if_pos he]at hE
     have he':((s.1:Int)==d)=true:=by simp[he]
     have HE:=ah hE;clear hE
     clear he
     go_wp2_with fail
     go_region_held3 (fun w'=>w'.cell? ⟨b,off+k*3+1,none⟩=some (.int .i64 s.2.1)∧w'.cell? ⟨b,off+k*3+2,none⟩=some (.int .i64 s.2.2))
      (first|exact⟨q1,q2⟩|exact⟨(aj.alloc1 (aj.drew au _)).cell' q1 id,(aj.alloc1 (aj.drew au _)).cell' q2 id⟩|exact⟨bI.aJ.cell' P1.out id,bI.aJ.cell' P2.out id⟩)
      (first|(refine yT w wr.drew [.int .i64 s.2.1, .int .i64 s.2.2] rfl (.tmp 19) (.tmp 31) 135 rfl 168 i0 _ 2 16 Tryz.underlying135 hi hz0 hz1 hz2 (by decide) (by decide) (.slice av m cv) m _ (HO.out.keep (aj.drew _ _)) 1 1 (by simp[Act.eval]) (by simp[Act.eval]) rfl (by simp[Value.oneCell']) (by have:=nU.out;have:=uM.out;simp only[maxLen];omega) (by have:=nU.out;have:=uM.out;omega) ?_;intro ad cc w2 bI))
     have OW:=ah bI;clear bI
     go_wp2
     go_roundw
     case rel=>
      refine⟨k+1,m+1,by omega,by have:=uM.out;omega,by go_num,by rw[HE.out,List.length_append,←HM.out];rfl,?_⟩
      rw[HE.out,kS]
      exact OW.out
     case measure=>simp[intOf];omega
    ·rw[if_neg he,List.append_nil]at hE
     have he':((s.1:Int)==d)=false:=by simpa using he
     have HE:=ah hE;clear hE
     clear he
     go_wp2
     go_roundw
     case rel=>exact⟨k+1,m,by omega,by have:=uM.out;omega,by go_num,by rw[HE.out];exact HM.out,by rw[HE.out];exact HO.out⟩
     case measure=>simp[intOf];omega
   ·obtain rfl:k=n:=by omega
    go_wp2
    go_ret
    rw[List.take_of_length_le (by rw[HN.out];exact Nat.le_refl _)]at HO HM
    exact⟨_,rfl,by rw[←HM.out];exact HO.out⟩
theorem GL {l:aS} {k:Nat} (d:Int) (hk:k<l.length):dR d (l.take (k+1))=dR d (l.take k)++ [(d,(l.getD k (0,0)).1,(l.getD k (0,0)).2)]:=by
 rw[take_succ (0,0) hk];simp[dR]
theorem GN (w:World) (v:Value) (l:aS) (d:Int) (hv:gZ w v l) (hl:l.length≤100000):
 Calls Tryz.prog 122 #[.int .i64 d,v] w fun e w'=>∃v',e= .returned v'∧OwnAt w w' 92 3 v' l.length (bU (dR d l)):=by
 obtain⟨i0,hi,hz0,hz1,hz2⟩:=info_parts wH
 rcases Rd.shape hv with⟨ad,rfl,h0⟩|⟨b,off,Oh,rfl,hmax⟩
 ·obtain rfl:l=[]:=List.eq_nil_of_length_eq_zero h0
  clear hv
  go_enter Tryz.func122,Tryz.ntmps122
  go_wp2
  go_loop [5,9] (fun v i=>v= .slice none 0 0∧i= .int .i64 0) (fun _ _=>0)
  case atStart=>exact⟨rfl,rfl⟩
  case round=>
   obtain⟨rfl,rfl⟩:=hrel
   go_wp2
   go_ret
   exact⟨_,rfl,OwnAt.nil (aj.refl _ _) _ _⟩
 ·have HH:=ah hv;clear hv
  generalize hn:l.length=n at*
  have HN:=ah hn;clear hn
  have nU:=ah hl;clear hl
  go_enter Tryz.func122,Tryz.ntmps122
  go_wp2
  go_loopw [5,9] (fun v i ww=>∃(k:Nat),k≤n∧i= .int .i64 k∧OwnAt w ww 92 3 v k (bU (dR d (l.take k)))) (fun _ i _=>n-(intOf i).toNat)
  case atStart=>exact⟨0,Nat.zero_le _,rfl,OwnAt.nil (aj.refl _ _) _ _⟩
  case round=>
   obtain⟨k,hk,rfl,ho⟩:=hrel
   obtain⟨av,cv,rfl⟩:=ho.shape
   have HO:=ah ho;clear ho
   by_cases hlt:k<n
   ·obtain⟨p1,p2⟩:=lq HH.out HN.out.symm k (by rw[HN.out];exact hlt)
    have q1:=HO.out.aJ.cell' p1 id
    have q2:=HO.out.aJ.cell' p2 id
    have hbl:=World.block_lt_of_cell? _ _ q1
    have hbl:b<wr.heap.size:=hbl
    have HE:=ah (GL (l:=l) (k:=k) d (by rw[HN.out];exact hlt))
    generalize l.getD k (0,0)=s at*
    have P1:=ah p1;clear p1
    have P2:=ah p2;clear p2
    go_wp2_with fail
    go_region_held3 (fun w'=>w'.cell? ⟨b,off+k*2,none⟩=some (.int .i64 s.1)∧w'.cell? ⟨b,off+k*2+1,none⟩=some (.int .i64 s.2))
     (first|exact⟨q1,q2⟩|exact⟨(aj.alloc1 (aj.drew au _)).cell' q1 id,(aj.alloc1 (aj.drew au _)).cell' q2 id⟩|exact⟨bI.aJ.cell' P1.out id,bI.aJ.cell' P2.out id⟩)
     (first|(refine yT w wr.drew [.int .i64 d, .int .i64 s.1, .int .i64 s.2] rfl (.tmp 12) (.tmp 25) 30 rfl 92 i0 _ 3 24 Tryz.underlying30 hi hz0 hz1 hz2 (by decide) (by decide) (.slice av k cv) k _ (HO.out.keep (aj.drew _ _)) 1 1 (by simp[Act.eval]) (by simp[Act.eval]) rfl (by simp[Value.oneCell']) (by have:=nU.out;simp only[maxLen];omega) (by have:=nU.out;omega) ?_;intro ad cc w2 bI))
    have OW:=ah bI;clear bI
    go_wp2
    go_roundw
    case rel=>
     refine⟨k+1,by omega,by go_num,?_⟩
     rw[HE.out,yO]
     exact OW.out
    case measure=>simp[intOf];omega
   ·obtain rfl:k=n:=by omega
    go_wp2
    go_ret
    rw[List.take_of_length_le (by rw[HN.out];exact Nat.le_refl _)]at HO
    exact⟨_,rfl,HO.out⟩
end Go.Proofs.YtlhmbkjdfjoilaaGreat
