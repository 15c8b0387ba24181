/- Words for the law ShardParts: R6b, Own, R6ends, R6Of, R6By, R7a. -/
import Derived.Test.YtlhmbkjdfjoilaaGreatShardPartsG0
import Derived.Test.YtlhmbkjdfjoilaaGreatShardPartsG2
set_option linter.unusedSimpArgs false
set_option linter.unusedVariables false
set_option maxHeartbeats 32000000
set_option maxRecDepth 1000000
namespace Go.Proofs.YtlhmbkjdfjoilaaGreat
open Go.RowKit
theorem both_any (w:World) (va vb:Value) (a b:aS) (ha:iF w va a) (fa:Fits a) (hb:iF w vb b) (fb:Fits b):
 Calls Tryz.prog 151 #[va,vb] w fun e w'=>e= .returned (.bool (tf (bP a∧bP b)))∧aj au w w':=by
 have HA:=ah (Ai w va a ha fa)
 have HB:=ah (fun w' h=>Ai w' vb b (Rd.aN hb h) fb)
 clear ha fa hb fb
 by_cases h:bP a
 ·rw[show(bP a∧bP b)=bP b by simp[h]]
  rw[dD h]at HA
  generalize tf (bP b)=t at*
  clear h
  go_enter Tryz.func151,Tryz.ntmps151
  go_wp2_with(first|(go_at_call 167;refine(HB.out w1 hw1).mono ?_;rintro e w2 ⟨rfl,hw2⟩)|(go_at_call 167;refine HA.out.mono ?_;rintro e w1 ⟨rfl,hw1⟩))
  go_ret
  exact⟨rfl,hw1.aG hw2⟩
 ·rw[bW (fun hh=>h hh.1)]
  rw[bW h]at HA
  clear h HB
  go_enter Tryz.func151,Tryz.ntmps151
  go_wp2_with(go_at_call 167;refine HA.out.mono ?_;rintro e w1 ⟨rfl,hw1⟩)
  go_ret
  exact⟨rfl,hw1⟩
theorem Pm {l:aS} {k:Nat} (n:Int) (hk:k<l.length):aV (l.take (k+1)) n↔aV (l.take k) n∨((l.getD k (0,0)).1≤n∧n≤(l.getD k (0,0)).2):=by
 rw[take_succ (0,0) hk,Aa]
theorem Pn {l:aS} {k:Nat} {n:Int} (h:aV (l.take k) n):aV l n:=by
 obtain⟨r,hr,h⟩:=h
 exact⟨r,List.mem_of_mem_take hr,h⟩
theorem IL (w:World) (v:Value) (l:aS) (x:Int) (hv:iF w v l):
 Calls Tryz.prog 160 #[v, .int .i64 x] w fun e w'=>e= .returned (.bool (tf (aV l x)))∧w'=w:=by
 rcases Rd.shape hv with⟨ad,rfl,h0⟩|⟨b,off,c,rfl,hmax⟩
 ·obtain rfl:l=[]:=List.eq_nil_of_length_eq_zero h0
  rw[bW (jE x)]
  clear hv
  go_enter Tryz.func160,Tryz.ntmps160
  go_wp2
  go_loop [8] (fun i=>i= .int .i64 0) (fun _=>0)
  case atStart=>rfl
  case round=>
   obtain rfl:=hrel
   go_wp2
   go_ret
   exact⟨rfl,rfl⟩
 ·have HH:=ah hv;clear hv
  generalize hn:l.length=n at*
  have HN:=ah hn;clear hn
  go_enter Tryz.func160,Tryz.ntmps160
  go_wp2
  go_loop [8] (fun i=>∃k:Nat,k≤n∧i= .int .i64 k∧tf (aV (l.take k) x)=false) (fun i=>n-(intOf i).toNat)
  case atStart=>exact⟨0,Nat.zero_le _,rfl,bW (jE x)⟩
  case round=>
   obtain⟨k,hk,rfl,hr⟩:=hrel
   have HR:=ah (vS.1 hr);clear hr
   by_cases hlt:k<n
   ·obtain⟨q1,q2⟩:=lY HH.out HN.out.symm k (by rw[HN.out];exact hlt)
    have hs:=Pm (l:=l) x (show k<l.length by rw[HN.out];exact hlt)
    have HS:=ah hs;clear hs
    generalize l.getD k (0,0)=r at*
    by_cases c1:r.1≤x
    ·by_cases c2:x≤r.2
     ·go_wp2
      go_ret
      exact⟨bI (dD (Pn (HS.out.2 (.inr ⟨c1,c2⟩)))).symm,rfl⟩
     ·go_wp2
      go_round
      case rel=>exact⟨k+1,by omega,by go_num,bW fun h=>(HS.out.1 h).elim HR.out (fun h=>by omega)⟩
      case measure=>simp[intOf];omega
    ·go_wp2
     go_round
     case rel=>exact⟨k+1,by omega,by go_num,bW fun h=>(HS.out.1 h).elim HR.out (fun h=>by omega)⟩
     case measure=>simp[intOf];omega
   ·obtain rfl:k=n:=by omega
    have hall:¬aV l x:=by
     have:=HR.out
     rwa [List.take_of_length_le (by rw[HN.out];exact Nat.le_refl _)]at this
    have HA:=ah hall;clear hall
    go_wp2
    go_ret
    exact⟨bI (bW HA.out).symm,rfl⟩
theorem IQ (w:World) (v:Value) (l:List Int) (x:Int) (hv:Ah w v l):
 Calls Tryz.prog 162 #[v, .int .i64 x] w fun e w'=>e= .returned (.tuple #[.int .i64 ((nextL l x).getD 0), .bool (nextL l x).isSome])∧w'=w:=by
 rcases Rd.shape hv with⟨ad,rfl,h0⟩|⟨b,off,c,rfl,hmax⟩
 ·obtain rfl:l=[]:=List.eq_nil_of_length_eq_zero h0
  clear hv
  go_enter Tryz.func162,Tryz.ntmps162
  go_wp2
  go_loop [6,7,11] (fun p o i=>p= .int .i64 0∧o= .bool false∧i= .int .i64 0) (fun _ _ _=>0)
  case atStart=>exact⟨rfl,rfl,rfl⟩
  case round=>
   obtain⟨rfl,rfl,rfl⟩:=hrel
   go_wp2
   exact bodyPost_ret (v:= .tuple #[.int .i64 0, .bool false]) (by simp[results,Tryz.results162,go_sem]) rfl ⟨rfl,rfl⟩
 ·have HH:=ah hv;clear hv
  generalize hn:l.length=n at*
  have HN:=ah hn;clear hn
  go_enter Tryz.func162,Tryz.ntmps162
  go_wp2
  go_loop [6,7,11] (fun p o i=>∃k:Nat,k≤n∧i= .int .i64 k∧((nextL (l.take k) x=none∧p= .int .i64 0∧o= .bool false)∨∃m,nextL (l.take k) x=some m∧p= .int .i64 m∧o= .bool true)) (fun _ _ i=>n-(intOf i).toNat)
  case atStart=>exact⟨0,Nat.zero_le _,rfl, .inl ⟨rfl,rfl,rfl⟩⟩
  case round=>
   obtain⟨k,hk,rfl,hr⟩:=hrel
   by_cases hlt:k<n
   ·have q1:=II HH.out HN.out.symm k (by rw[HN.out];exact hlt)
    have hs:nextL (l.take (k+1)) x=jl x (nextL (l.take k) x) (l.getD k 0):=by
     rw[take_succ 0 (show k<l.length by rw[HN.out];exact hlt),OG]
    generalize l.getD k 0=y at*
    have HS:=ah hs;clear hs
    rcases hr with⟨h1,rfl,rfl⟩|⟨m,h1,rfl,rfl⟩
    ·rw[h1]at HS
     clear h1
     by_cases c1:x<y
     ·go_wp2
      go_round
      case rel=>exact⟨k+1,by omega,by go_num, .inr ⟨y,by rw[HS.out];simp[jl,c1],rfl,rfl⟩⟩
      case measure=>simp[intOf];omega
     ·go_wp2
      go_round
      case rel=>exact⟨k+1,by omega,by go_num, .inl ⟨by rw[HS.out];simp[jl,c1],rfl,rfl⟩⟩
      case measure=>simp[intOf];omega
    ·rw[h1]at HS
     clear h1
     by_cases c1:x<y
     ·by_cases c2:y<m
      ·go_wp2
       go_round
       case rel=>exact⟨k+1,by omega,by go_num, .inr ⟨y,by rw[HS.out];simp[jl,c1,c2],rfl,rfl⟩⟩
       case measure=>simp[intOf];omega
      ·go_wp2
       go_round
       case rel=>exact⟨k+1,by omega,by go_num, .inr ⟨m,by rw[HS.out];simp[jl,c2],rfl,rfl⟩⟩
       case measure=>simp[intOf];omega
     ·go_wp2
      go_round
      case rel=>exact⟨k+1,by omega,by go_num, .inr ⟨m,by rw[HS.out];simp[jl,c1],rfl,rfl⟩⟩
      case measure=>simp[intOf];omega
   ·obtain rfl:k=n:=by omega
    rw[List.take_of_length_le (by rw[HN.out];exact Nat.le_refl _)]at hr
    rcases hr with⟨h1,rfl,rfl⟩|⟨m,h1,rfl,rfl⟩
    ·have H1:=ah h1
     clear h1
     go_wp2
     exact bodyPost_ret (v:= .tuple #[.int .i64 0, .bool false]) (by simp[results,Tryz.results162,go_sem]) rfl ⟨by rw[H1.out];rfl,rfl⟩
    ·have H1:=ah h1
     clear h1
     go_wp2
     exact bodyPost_ret (v:= .tuple #[.int .i64 m, .bool true]) (by simp[results,Tryz.results162,go_sem]) rfl ⟨by rw[H1.out];rfl,rfl⟩
open Go.RowKit
theorem aJ {w:World} {b:Nat} {cs:Array Value} {t:TypeId} {f:Nat×Nat} (h:w.heap[b]?=some (.cells cs t f)) (j:Nat) {u:Value} (hu:cs[j]?=some u):w.cell? ⟨b,j,none⟩=some u:=
 (cell_of_row w b j cs t f h).trans hu
theorem bG {w:World} {b:Nat} {cs:Array Value} {t:TypeId} (h:w.heap[b]?=some (.cells cs t (0,0))) (j:Nat):w.frozen? ⟨b,j,none⟩=false:=by simp[World.frozen?,h]
theorem eP {w:World} {b:Nat} {cs:Array Value} {t:TypeId} {f:Nat×Nat} (h:w.heap[b]?=some (.cells cs t f)) (j:Nat) (u:Value):(w.setCell ⟨b,j,none⟩ u).heap[b]?=some (.cells (cs.setIfInBounds j u) t f):=by
 simp only[World.setCell,Array.getElem?_modify,if_true,h,Option.map_some]
 rfl
structure OwnAt (w0 w:World) (e:TypeId) (size:Nat) (v:Value) (n:Nat) (xs:List Value):Prop where
 own:w.ownsRow 0 e size v n xs
 new:uj w0 v
 aI:aj au w0 w
theorem OwnAt.nil {w0 w:World} (f:aj au w0 w) (e:TypeId) (size:Nat):OwnAt w0 w e size (.slice none 0 0) 0 []:=
 ⟨World.ownsRow_nil w 0 e size,(fun k hk=>by simp[Value.ownBlock]at hk),f⟩
theorem OwnAt.keep {w0 w w':World} {e:TypeId} {size:Nat} {v:Value} {n:Nat} {xs:List Value} (h:OwnAt w0 w e size v n xs) (f:aj au w w'):OwnAt w0 w' e size v n xs:=
 ⟨f.owns h.own (fun _ _ h=>h),h.new,h.aI.aG f⟩
theorem OwnAt.rd {w0 w:World} {e:TypeId} {size:Nat} {v:Value} {n:Nat} {xs:List Value} (h:OwnAt w0 w e size v n xs):Rd w v n xs:=Rd.own h.own
theorem OwnAt.shape {w0 w:World} {e:TypeId} {size:Nat} {v:Value} {n:Nat} {xs:List Value} (h:OwnAt w0 w e size v n xs):∃a c,v= .slice a n c:=by
 rcases h.own.2 with⟨rfl,h0⟩|⟨g,cap,cur,rfl,_⟩
 ·exact⟨none,0,by rw[h0]⟩
 ·exact⟨_,_,rfl⟩
theorem OwnAt.step {w0 w w':World} {e e':TypeId} {size size':Nat} {v v':Value} {n n':Nat} {xs xs':List Value} (h:OwnAt w0 w e size v n xs) (own:w'.ownsRow 0 e' size' v' n' xs') (fm:aj (bY v) w w') (fr:jk w v v'):OwnAt w0 w' e' size' v' n' xs':=
 ⟨own,(fun k hk=>by
   rcases fr k hk with h1|h1
   ·exact h.new k h1
   ·have:=h.aI.size;omega),h.aI.trans fm (fun i hi s=>by have:=h.new i s;omega)⟩
theorem OwnAt.row {w0 w:World} {e:TypeId} {size:Nat} {v:Value} {n:Nat} {xs:List Value} (h:OwnAt w0 w e size v n xs) (hn:0<n):
 ∃g c,v= .slice (some ⟨g,0,none⟩) n c∧w0.heap.size≤g∧g<w.heap.size∧n≤c∧(∀j u,xs[j]?=some u→w.cell? ⟨g,j,none⟩=some u)∧(∀j,w.frozen? ⟨g,j,none⟩=false)∧
  ∀j u,OwnAt w0 (w.setCell ⟨g,j,none⟩ u) e size v n (xs.set j u):=by
 rcases h.own.2 with⟨_,h0⟩|⟨g,cap,cur,rfl,hb,hg,hnc,hcm,hcs,htake⟩
 ·omega
 ·have hlt:w0.heap.size≤g:=h.new g rfl
  refine⟨g,cap,rfl,hlt,lt_of_block hg,hnc,fun j u hu=>?_,fun j=>bG hg j,fun j u=>⟨⟨?_, .inr ⟨g,cap,_,rfl,hb,eP hg j u,hnc,hcm,by simp[hcs],?_⟩⟩,h.new,?_⟩⟩
  ·refine aJ hg j ?_
   rw[←htake,List.getElem?_take]at hu
   split at hu
   ·simpa using hu
   ·cases hu
  ·rw[List.length_set];exact h.own.1
  ·rw[Array.toList_setIfInBounds,List.take_set,htake]
  ·exact h.aI.set1 (.inr hlt)
section
variable {P:Program}
theorem ku {ops:Array Oper} {rest:List Oper} {o:Oper} {a:Act} {Q:Exit→Act→World→Prop} (w0 w:World) (news:List Value) (hgd:o.guard=none) (s x:Operand) (t:TypeId)
 (ho:o.op= .call {callee:= .builtin .append,args:= #[s,x],argTypes:= #[t,t]})
 (e:TypeId) (i:TypeInfo) (z:Value) (size bytes:Nat) (ht:P.underlying t=some (.slice e)) (hi:P.info? e=some i) (hz:i.zero=some z)
 (hsize:i.size=size) (hby:i.bytes=bytes) (hzs:z.cells.size=size) (hsz:0<size)
 (v:Value) (n:Nat) (xs:List Value) (hown:OwnAt w0 w e size v n xs) (m c:Nat) (hv:a.eval s=v) (hx:a.eval x= .slice (some ⟨w.heap.size,0,none⟩) m c)
 (hnl:news.length=m*size) (h1:∀u∈news,u.oneCell'=true) (h63:n+m≤maxLen) (hbytes:(n+m)*bytes≤140737488355328)
 (h:∀ad c w',OwnAt w0 w' e size (.slice ad (n+m) c) (n+m) (xs++news)→wpList P ops Q rest (a.put o.dst (.slice ad (n+m) c)) w'):
 wpList P ops Q (o::rest) a (w.alloc (.cells news.toArray e)):=
 CX w news hgd s x t ho e i z size bytes ht hi hz hsize hby hzs hsz v n xs hown.own m c hv hx hnl h1 h63 hbytes fun ad c' w' g1 g2 g3=>h ad c' w' (hown.step g1 g2 g3)
theorem ni {ops:Array Oper} {rest:List Oper} {o:Oper} {a:Act} {Q:Exit→Act→World→Prop} (w0 w:World) (news:List Value) (hgd:o.guard=none) (s x:Operand) (t tx:TypeId)
 (ho:o.op= .call {callee:= .builtin .append,args:= #[s,x],argTypes:= #[t,tx]})
 (e e':TypeId) (i:TypeInfo) (z:Value) (size bytes:Nat) (ht:P.underlying t=some (.slice e)) (htx:P.underlying tx=some (.slice e')) (hi:P.info? e=some i) (hz:i.zero=some z)
 (hsize:i.size=size) (hby:i.bytes=bytes) (hzs:z.cells.size=size) (hsz:0<size)
 (v:Value) (n:Nat) (xs:List Value) (hown:OwnAt w0 w e size v n xs) (xv:Value) (m:Nat) (hv:a.eval s=v) (hx:a.eval x=xv) (hr:Rd w xv m news)
 (hnl:news.length=m*size) (h1:∀u∈news,u.oneCell'=true) (h63:n+m≤maxLen) (hbytes:(n+m)*bytes≤140737488355328)
 (h:∀ad c w',OwnAt w0 w' e size (.slice ad (n+m) c) (n+m) (xs++news)→wpList P ops Q rest (a.put o.dst (.slice ad (n+m) c)) w'):
 wpList P ops Q (o::rest) a w:=
 vM w hgd s x t tx ho e i z size bytes ht hi hz hsize hby hzs hsz v n xs hv hown.own xv m news hx (hr.src htx hnl h1) h63 hbytes fun ad c' w' g1 g2 g3 _=>h ad c' w' (hown.step g1 g2 g3)
theorem yg {ops:Array Oper} {o:Oper} {a:Act} (w0 w:World) {K:Act→World→Prop} {Q:Exit→Act→World→Prop} {E:Prop} (news:List Value) (hgd:o.guard=none) (s x:Operand) (t:TypeId)
 (ho:o.op= .call {callee:= .builtin .append,args:= #[s,x],argTypes:= #[t,t]})
 (e:TypeId) (i:TypeInfo) (z:Value) (size bytes:Nat) (ht:P.underlying t=some (.slice e)) (hi:P.info? e=some i) (hz:i.zero=some z)
 (hsize:i.size=size) (hby:i.bytes=bytes) (hzs:z.cells.size=size) (hsz:0<size)
 (v:Value) (n:Nat) (xs:List Value) (hown:OwnAt w0 w e size v n xs) (m c:Nat) (hv:a.eval s=v) (hx:a.eval x= .slice (some ⟨w.heap.size,0,none⟩) m c)
 (hnl:news.length=m*size) (h1:∀u∈news,u.oneCell'=true) (h63:n+m≤maxLen) (hbytes:(n+m)*bytes≤140737488355328)
 (h:∀ad c w',OwnAt w0 w' e size (.slice ad (n+m) c) (n+m) (xs++news)→K (a.put o.dst (.slice ad (n+m) c)) w'):
 if Region.wanted o (yielded ops a.tmps)=true then Oper.wp P o a (w.alloc (.cells news.toArray e)) K Q else E:=by
 have hw:Region.wanted o (yielded ops a.tmps)=true:=by simp[Region.wanted,hgd]
 rw[if_pos hw]
 have hs:Src P size t (.slice (some ⟨w.heap.size,0,none⟩) m c) m news (w.alloc (.cells news.toArray e)):=
  Src.ofSlice _ ht ⟨w.heap.size,0,none⟩ m c news hnl (fun j u hj=>by
   have hadd:(⟨w.heap.size,0,none⟩:Addr).add j=⟨w.heap.size,j,none⟩:=by unfold Addr.add;split<;>simp_all
   rw[hadd,cell_of_row (w.alloc (.cells news.toArray e)) w.heap.size j news.toArray e (0,0) (heap_alloc_new w _)]
   simpa using hj) h1
 obtain⟨v',w',hr,h2,h3,h4,⟨ad,c',rfl⟩,h6⟩:=vK (P:=P) (w.alloc (.cells news.toArray e)) t t o.type e i z size bytes ht hi hz hsize hby hzs hsz v n xs (hown.own.alloc _) _ m news hs h63 hbytes
 unfold Oper.wp execOp
 simp only[ho,resolve,invoke,builtin,Sem.run_bind,Sem.run_pure,Result.andThen_ok,List.map_toArray,List.map_cons,List.map_nil,hv,hx,hr]
 refine h ad c' w' (hown.step h2 ((aj.alloc (bY v) w _).trans h3 (fun _ _ h=>h)) fun k hk=>?_)
 rcases h4 k hk with h|h
 ·exact .inl h
 ·refine .inr ?_
  simp at h
  omega
end
theorem Dx:(Tryz.prog.info? 168).map (fun i=>(i.zero,i.size,i.bytes))=some (some (.agg #[.int .i64 0, .int .i64 0]),2,16):=by kernel_rfl
theorem Aj:(Tryz.prog.info? 2).map (fun i=>(i.zero,i.size,i.bytes))=some (some (.int .i64 0),1,8):=by kernel_rfl
open Go.RowKit
theorem Po {l:aS} {k:Nat} (hk:k<l.length):dP (l.take (k+1))=dP (l.take k)++ [(l.getD k (0,0)).1,(l.getD k (0,0)).2+1]:=by
 rw[take_succ (0,0) hk];simp[dP]
theorem yh (l:aS):(dP l).length=l.length*2:=by
 induction l with
 |nil=>rfl
 |cons r l ih=>
  have:dP (r::l)=[r.1,r.2+1]++dP l:=rfl
  rw[this,List.length_append,ih];simp;omega
theorem IU (w:World) (v:Value) (l:aS) (hv:iF w v l) (hr:bP l) (hl:l.length≤100000):
 Calls Tryz.prog 161 #[v] w fun e w'=>∃v',e= .returned v'∧OwnAt w w' 2 1 v' (dP l).length (kY (dP l)):=by
 obtain⟨i0,hi,hz0,hz1,hz2⟩:=info_parts Aj
 rcases Rd.shape hv with⟨ad,rfl,h0⟩|⟨b,off,c,rfl,hmax⟩
 ·obtain rfl:l=[]:=List.eq_nil_of_length_eq_zero h0
  clear hv hr
  go_enter Tryz.func161,Tryz.ntmps161
  go_wp2
  go_loop [3,7] (fun v i=>v= .slice none 0 0∧i= .int .i64 0) (fun _ _=>0)
  case atStart=>exact⟨rfl,rfl⟩
  case round=>
   obtain⟨rfl,rfl⟩:=hrel
   go_wp2
   go_ret
   exact⟨_,rfl,OwnAt.nil (aj.refl _ _) _ _⟩
 ·have HH:=ah hv;clear hv
  have HR:=ah hr;clear hr
  generalize hn:l.length=n at*
  have HN:=ah hn;clear hn
  go_enter Tryz.func161,Tryz.ntmps161
  go_wp2
  go_loopw [3,7] (fun v i ww=>∃(k:Nat),k≤n∧i= .int .i64 k∧OwnAt w ww 2 1 v (k*2) (kY (dP (l.take k)))) (fun _ i _=>n-(intOf i).toNat)
  case atStart=>exact⟨0,Nat.zero_le _,rfl,OwnAt.nil (aj.refl _ _) _ _⟩
  case round=>
   obtain⟨k,hk,rfl,ho⟩:=hrel
   obtain⟨av,cv,rfl⟩:=ho.shape
   have HO:=ah ho;clear ho
   by_cases hlt:k<n
   ·obtain⟨p1,p2⟩:=lY HH.out HN.out.symm k (by rw[HN.out];exact hlt)
    have q1:=HO.out.aI.cell' p1 id
    have q2:=HO.out.aI.cell' p2 id
    have hbl:=World.block_lt_of_cell? _ _ q1
    have hbl:b<wr.heap.size:=hbl
    have hfit:1≤(l.getD k (0,0)).1∧(l.getD k (0,0)).1≤(l.getD k (0,0)).2∧(l.getD k (0,0)).2≤1099511627776:=by
     have hm:=getD_mem (0,0) (show k<l.length by rw[HN.out];exact hlt)
     have:=jm HR.out.1 _ hm
     have:=HR.out.2 _ hm
     omega
    have HE:=ah (Po (l:=l) (k:=k) (by rw[HN.out];exact hlt))
    generalize l.getD k (0,0)=r at*
    have P1:=ah p1;clear p1
    have P2:=ah p2;clear p2
    have hwr:IntKind.i64.wrap (r.2+1)=r.2+1:=by simp[IntKind.wrap,IntKind.bits,IntKind.signed];omega
    go_wp2_with fail
    go_region_held3 (fun w'=>w'.cell? ⟨b,off+k*2,none⟩=some (.int .i64 r.1)∧w'.cell? ⟨b,off+k*2+1,none⟩=some (.int .i64 r.2))
     (first|exact⟨q1,q2⟩|exact⟨(aj.alloc1 (aj.drew au _)).cell' q1 id,(aj.alloc1 (aj.drew au _)).cell' q2 id⟩|exact⟨bn.aI.cell' P1.out id,bn.aI.cell' P2.out id⟩)
     (first|(refine yg w wr.drew [.int .i64 r.1, .int .i64 (r.2+1)] rfl (.tmp 10) (.tmp 22) 171 rfl 2 i0 _ 1 8 Tryz.underlying171 hi hz0 hz1 hz2 (by decide) (by decide) (.slice av (k*2) cv) (k*2) _ (HO.out.keep (aj.drew _ _)) 2 2 (by simp[Act.eval]) (by simp[Act.eval]) rfl (by simp[Value.oneCell']) (by simp only[maxLen];omega) (by omega) ?_;intro ad cc w2 bn))
    have OW:=ah bn;clear bn
    go_wp2
    go_roundw
    case rel=>
     refine⟨k+1,by omega,by go_num,?_⟩
     rw[HE.out,Ad,show(k+1)*2=k*2+2 by omega]
     exact OW.out
    case measure=>simp[intOf];omega
   ·obtain rfl:k=n:=by omega
    go_wp2
    go_ret
    rw[List.take_of_length_le (by rw[HN.out];exact Nat.le_refl _)]at HO
    refine⟨_,rfl,?_⟩
    rw[yh,HN.out]
    exact HO.out
open Go.RowKit
def IV (l:List Int) (x o:Value):Nat:=
 match o with
 | .bool true=>ahead l (some (intOf x))
 |_=>0
theorem Pq {n:Nat} (h:n+1≤100000):wrap64 (n:Int)=n:=by unfold wrap64;omega
theorem Dy (l:List Int) (x:Option Int):ahead l x≤l.length:=by
 cases x with
 |none=>exact Nat.zero_le _
 |some m=>exact List.length_filter_le _ _
theorem IW (out:aS) (a hi:Int):(qp out a hi).length≤out.length+1:=by
 rcases List.eq_nil_or_concat out with rfl|⟨l,r,rfl⟩
 ·simp[qp]
 ·rw[List.concat_eq_append,z_]
  split<;>simp
theorem Dz (l:aS) (r:Int×Int) (hi:Int):(b_ (l++ [r])).set (l.length*2+1) (.int .i64 hi)=b_ (l++ [(r.1,hi)]):=by
 rw[lK,lK,List.set_append_right _ _ (by rw[qy];omega),qy,show l.length*2+1-l.length*2=1 by omega]
 rfl
theorem DC (l:aS) (r:Int×Int):(b_ (l++ [r]))[l.length*2+1]?=some (.int .i64 r.2):=by
 rw[lK,List.getElem?_append_right (by rw[qy];omega),qy,show l.length*2+1-l.length*2=1 by omega]
 rfl
def Pv (w:World) (l:List Int) (v x o:Value) (ww:World):Prop:=
 ∃(q:Option Int) (out:aS),OwnAt w ww 168 2 v out.length (b_ out)∧uo l out q∧out.length+ahead l q≤l.length∧x= .int .i64 (q.getD 0)∧o= .bool q.isSome
theorem Px (w:World) (v:Value) (l:List Int) (hv:Ah w v l) (hl:l.length≤100000) (hb:∀x∈l,1≤x∧x≤1099511627777):
 Calls Tryz.prog 124 #[v] w fun e w'=>∃v' out,e= .returned v'∧OwnAt w w' 168 2 v' out.length (b_ out)∧uo l out none∧out.length≤l.length:=by
 obtain⟨i0,hi,hz0,hz1,hz2⟩:=info_parts Dx
 obtain⟨a,c,rfl⟩:=hv.sl
 have HB:=ah hb;clear hb
 have HN:=ah (fun w' x h=>IQ w' _ l x (Rd.aN hv h));clear hv
 go_enter Tryz.func124,Tryz.ntmps124
 go_wp2_with(go_at_call 162;refine(HN.out w 0 (aj.refl _ _)).mono ?_;rintro e w' ⟨rfl,hw⟩;rw[hw];clear hw w')
 go_loopw [3,4,5] (fun v x o ww=>Pv w l v x o ww) (fun _ x o _=>IV l x o)
 case atStart=>exact⟨nextL l 0,[],OwnAt.nil (aj.refl _ _) _ _,OL l,by have:=Dy l (nextL l 0);simpa using this,rfl,rfl⟩
 case round=>
  obtain⟨q,out,ho,hq,hlen,rfl,rfl⟩:=hrel
  have HQ:=ah hq;clear hq
  have HO:=ah ho;clear ho
  cases q with
  |none=>
   have HLEN:=ah hlen;clear hlen
   obtain⟨av,cv,rfl⟩:=HO.out.shape
   go_wp2
   go_ret
   exact⟨_,out,rfl,HO.out,HQ.out,Nat.le_trans (Nat.le_add_right _ _) HLEN.out⟩
  |some m=>
   obtain⟨m1,m2,m3,m4⟩:=HQ.out.some_ m rfl
   obtain⟨b1,b2⟩:=HB.out m m2
   have hah:=Iq m2
   have hstep:=OM HQ.out
   have hpl:=IW out m m
   have Py:=Dy l (some m)
   rcases List.eq_nil_or_concat out with rfl|⟨lo,r,rfl⟩
   ·have HST:=ah hstep
    have HLEN:=ah hlen
    have nY:=ah hah
    clear hstep hpl hah m2 m3 m4
    obtain⟨av,cv,rfl⟩:=HO.out.shape
    go_wp2_with(first
     |(go_at_call 162;refine(HN.out _ m OW.out.aI).mono ?_;rintro e w' ⟨rfl,hw⟩;rw[hw];clear hw w')
     |(at_builtin;refine ku w _ [.int .i64 m, .int .i64 m] rfl (.tmp 34) (.tmp 38) 135 rfl 168 i0 _ 2 16 Tryz.underlying135 hi hz0 hz1 hz2 (by decide) (by decide) _ _ _ HO.out 1 1 rfl rfl rfl (by simp[Value.oneCell']) (by simp[maxLen]) (by simp) ?_;intro ad cc w2 bn;have OW:=ah bn;clear bn))
    go_roundw
    case rel=>
     refine⟨nextL l m,[(m,m)],OW.out,HST.out,?_,rfl,rfl⟩
     have:=HLEN.out
     have:=nY.out
     simp at*
     omega
    case measure=>
     have:=nY.out
     cases hx:nextL l m with
     |none=>rw[hx]at this;exact this
     |some t=>rw[hx]at this;exact this
   ·rw[List.concat_eq_append]at*
    rw[z_]at hstep hpl
    have hln:(lo++ [r]).length=lo.length+1:=by simp
    have ho2:=HO.out
    rw[hln]at ho2 hlen hpl
    clear HO hln
    obtain⟨g,c2,rfl,hg0,hg,hc2,hcell,hfro,hset⟩:=ho2.row (by simp)
    have cl:=hcell _ _ (DC lo r)
    have fl:=hfro (lo.length*2+1)
    have hs:=hset (lo.length*2+1) (.int .i64 m)
    rw[Dz]at hs
    have HO:=ah ho2;clear ho2
    have hr2:=m3 r (by simp)
    have hr1:1≤r.2:=by
     have:=jm HQ.out.from_ r (by simp)
     omega
    generalize hL:lo.length=L at*
    have kC:=ah hL;clear hL
    have HS:=ah hs;clear hs
    have kD:=ah hpl;clear hpl
    have HLEN:=ah hlen
    have nY:=ah hah;clear hah
    clear m3 m4 hset hcell hfro m2
    have hL5:L+1≤100000:=Nat.le_trans (Nat.le_trans (Nat.le_add_right _ _) hlen) hl
    have hwm:wrap64 (L:Int)=L:=Pq hL5
    clear hlen Py hr1 hr2
    by_cases he:r.2=m-1
    ·rw[if_pos he]at hstep kD
     have HST:=ah hstep;clear hstep
     have he':((r.2:Int)==m-1)=true:=by simp[he]
     clear he
     go_wp2_with(go_at_call 162;refine(HN.out _ m HS.out.aI).mono ?_;rintro e w' ⟨rfl,hw⟩;rw[hw];clear hw w')
     go_roundw
     case rel=>
      refine⟨nextL l m,lo++ [(r.1,m)],by rw[List.length_append,kC.out];exact HS.out,HST.out,?_,rfl,rfl⟩
      have:=HLEN.out
      have:=nY.out
      have:=kC.out
      simp at*
      omega
     case measure=>
      have:=nY.out
      cases hx:nextL l m with
      |none=>rw[hx]at this;exact this
      |some t=>rw[hx]at this;exact this
    ·rw[if_neg he]at hstep kD
     have HST:=ah hstep;clear hstep
     have he':((r.2:Int)==m-1)=false:=by simpa using he
     clear he
     go_wp2_with(first
      |(go_at_call 162;refine(HN.out _ m OW.out.aI).mono ?_;rintro e w' ⟨rfl,hw⟩;rw[hw];clear hw w')
      |(at_builtin;refine ku w _ [.int .i64 m, .int .i64 m] rfl (.tmp 34) (.tmp 38) 135 rfl 168 i0 _ 2 16 Tryz.underlying135 hi hz0 hz1 hz2 (by decide) (by decide) _ _ _ HO.out 1 1 rfl rfl rfl (by simp[Value.oneCell']) (by simp only[maxLen];omega) (by omega) ?_;intro ad cc w2 bn;have OW:=ah bn;clear bn))
     go_roundw
     case rel=>
      refine⟨nextL l m,lo++ [r]++ [(m,m)],by rw[List.length_append,List.length_append,kC.out,lK];exact OW.out,HST.out,?_,rfl,rfl⟩
      have:=HLEN.out
      have:=nY.out
      have:=kC.out
      simp at*
      omega
     case measure=>
      have:=nY.out
      cases hx:nextL l m with
      |none=>rw[hx]at this;exact this
      |some t=>rw[hx]at this;exact this
open Go.RowKit
theorem OwnAt.base {w0 w1 w:World} {e:TypeId} {size:Nat} {v:Value} {n:Nat} {xs:List Value} (h:OwnAt w1 w e size v n xs) (f:aj au w0 w1):OwnAt w0 w e size v n xs:=
 ⟨h.own,(fun k hk=>Nat.le_trans f.size (h.new k hk)),f.aG h.aI⟩
def IX (how:Int):Prop:=∀(w:World) (va vb:Value) (a b:aS) (_:iF w va a) (_:iF w vb b) (_:bP a) (_:bP b) (_:a.length≤10000) (_:b.length≤10000),
    Calls Tryz.prog 123 #[va,vb, .int .i64 how] w fun e w'=>∃v' out,e= .returned v'∧OwnAt w w' 168 2 v' out.length (b_ out)∧qU a b how out none∧out.length≤40000
theorem Pz {n:Nat} (h:n+1≤1000000):wrap64 (n:Int)=n:=by unfold wrap64;omega
theorem Ak {m:Int} (h1:1≤m) (h2:m≤1099511627777):wrap64 (m-1)=m-1:=by unfold wrap64;omega
theorem IY {l:aS} (h:bP l):∀x∈dP l,1≤x∧x≤1099511627777:=by
 intro x hx
 obtain⟨r,hr,h1⟩:=vN.1 hx
 have:=jm h.1 r hr
 have:=h.2 r hr
 omega
theorem PD:IX 2:=by
 intro w va vb a b ha hb ra rb la lb
 obtain⟨i0,hi,hz0,hz1,hz2⟩:=info_parts Dx
 obtain⟨j0,hj,hy0,hy1,hy2⟩:=info_parts Aj
 obtain⟨aA,cA,rfl⟩:=ha.sl
 obtain⟨aB,cB,rfl⟩:=hb.sl
 have hl:(dP a++dP b).length≤40000:=by rw[List.length_append,yh,yh];omega
 have hbd:∀x∈(dP a++dP b),1≤x∧x≤1099511627777:=fun x hx=>(List.mem_append.1 hx).elim (IY ra x) (IY rb x)
 have jo:=ah hbd;clear hbd
 have PE:=ah (OH 2 ra.1 rb.1)
 have qA:=ah (IU w _ a ha ra (by omega))
 have vY:=ah (fun w' h=>IU w' _ b (Rd.aN hb h) rb (by omega))
 have HA:=ah (fun w' x h=>IL w' _ a x (Rd.aN ha h))
 have HB:=ah (fun w' x h=>IL w' _ b x (Rd.aN hb h))
 have PG:(dP a).length≤20000:=by rw[yh];omega
 have elb:(dP b).length≤20000:=by rw[yh];omega
 clear ha hb la lb
 go_enter Tryz.func123,Tryz.ntmps123
 go_wp2_with(first
  |(go_at_call_of 161 aA;refine qA.out.mono ?_;rintro e w1 ⟨v1,rfl,ho1⟩;obtain⟨a1,c1,rfl⟩:=ho1.shape;have dF:=ah ho1;clear ho1)
  |(go_at_call_of 161 aB;refine(vY.out w1 dF.out.aI).mono ?_;rintro e w2 ⟨v2,rfl,ho2⟩;obtain⟨a2,c2,rfl⟩:=ho2.shape;have fA:=ah ho2;clear ho2)
  |(at_builtin;refine ni w _ _ rfl (.tmp 17) (.tmp 19) 171 171 rfl 2 2 j0 _ 1 8 Tryz.underlying171 Tryz.underlying171 hj hy0 hy1 hy2 (by decide) (by decide) _ _ _ (dF.out.keep fA.out.aI) _ (dP b).length rfl rfl fA.out.rd (by simp) (Pg _) (by simp only[maxLen];omega) (by omega) ?_;intro a3 c3 w3 vZ;have bJ:=ah vZ;clear vZ))
 have HW3:=ah bJ.out.aI
 have lZ:=ah (fun w' x (h:aj au w3 w')=>IQ w' _ (dP a++dP b) x (by have:=(bJ.out.keep h).rd;rw[←Ad,←List.length_append]at this;exact this))
 clear dF fA bJ qA vY
 rw[←List.length_append]
 have PI:(dP a++dP b).length=(dP a).length+(dP b).length:=List.length_append
 generalize hP:(dP a++dP b)=P at*
 have HP:=ah hP;clear hP
 clear PG elb PI
 refine(lZ.out w3 0 (aj.refl _ _)).mono ?_
 rintro e w' ⟨rfl,hw⟩
 rw[hw]
 clear hw w'
 go_wp2
 go_loopw [8,9,10] (fun v x o ww=>∃(q:Option Int) (out:aS),OwnAt w3 ww 168 2 v out.length (b_ out)∧qU a b 2 out q∧out.length+ahead P q≤P.length∧x= .int .i64 (q.getD 0)∧o= .bool q.isSome) (fun _ x o _=>IV P x o)
 case atStart=>exact⟨nextL P 0,[],OwnAt.nil (aj.refl _ _) _ _,PE.out,by have:=Dy P (nextL P 0);simpa using this,rfl,rfl⟩
 case round=>
  obtain⟨q,out,ho,hq,hlen,rfl,rfl⟩:=hrel
  have HQ:=ah hq;clear hq
  have HO:=ah ho;clear ho
  cases q with
  |none=>
   have HLEN:=ah hlen;clear hlen
   have HL:=ah hl;clear hl
   obtain⟨av,cv,rfl⟩:=HO.out.shape
   go_wp2
   go_ret
   exact⟨_,out,rfl,HO.out.base HW3.out,HQ.out,Nat.le_trans (Nat.le_trans (Nat.le_add_right _ _) HLEN.out) HL.out⟩
  |some m=>
   obtain⟨m1,m2,m3,m4⟩:=HQ.out.some_ m rfl
   rw[HP.out]at m2
   obtain⟨b1,b2⟩:=jo.out m m2
   have hah:=Iq m2
   have nY:=ah hah;clear hah
   have hole:out.length+1≤40000:=by
    have:0<ahead P (some m):=List.length_pos_of_mem (List.mem_filter.2 ⟨m2,by simp⟩)
    omega
   have HLEN:=ah hlen
   have Am:=ah m3;clear m3
   clear m4 m1 hlen m2
   cases hp:tf (aV a m)with
   |false=>
    cases hq:tf (aV b m)with
    |false=>
     have hin:¬dQ 2 (aV a m) (aV b m):=by
      have h1:=vS.1 hp
      have h2:=vS.1 hq
      unfold dQ
      simp[h1,h2]
     have kZ:=ah (fun w' h=>HA.out w' m h)
     have kK:=ah (fun w' h=>HB.out w' m h)
     rw[hp]at kZ
     rw[hq]at kK
     clear hp hq
     have HST:=ah (HP.out▸Dj HQ.out hin)
     have ny:=ah (fun w' h=>lZ.out w' m h)
     have hlm:ahead P (nextL P m)<ahead P (some m):=nY.out
     generalize hnx:nextL P m=nx at*
     have HL2:=ah hlm;clear hlm
     clear hin
     obtain⟨av,cv,rfl⟩:=HO.out.shape
     go_wp2_with(first
      |(go_at_call 162;refine(ny.out _ HO.out.aI).mono ?_;rintro e w' ⟨rfl,hw⟩;rw[hw];clear hw w')
      |(go_at_call_of 160 aA;refine(kZ.out _ (HW3.out.aG HO.out.aI)).mono ?_;rintro e w' ⟨rfl,hw⟩;rw[hw];clear hw w')
      |(go_at_call_of 160 aB;refine(kK.out _ (HW3.out.aG HO.out.aI)).mono ?_;rintro e w' ⟨rfl,hw⟩;rw[hw];clear hw w'))
     go_roundw
     case rel=>
      refine⟨nx,out,HO.out,HST.out,?_,rfl,rfl⟩
      have:=HLEN.out
      have:=HL2.out
      omega
     case measure=>
      have:=HL2.out
      cases nx with
      |none=>exact this
      |some t=>exact this
    |true=>
     have hin:¬dQ 2 (aV a m) (aV b m):=by
      have h1:=vS.1 hp
      have h2:=vP.1 hq
      unfold dQ
      simp[h1,h2]
     have kZ:=ah (fun w' h=>HA.out w' m h)
     have kK:=ah (fun w' h=>HB.out w' m h)
     rw[hp]at kZ
     rw[hq]at kK
     clear hp hq
     have HST:=ah (HP.out▸Dj HQ.out hin)
     have ny:=ah (fun w' h=>lZ.out w' m h)
     have hlm:ahead P (nextL P m)<ahead P (some m):=nY.out
     generalize hnx:nextL P m=nx at*
     have HL2:=ah hlm;clear hlm
     clear hin
     obtain⟨av,cv,rfl⟩:=HO.out.shape
     go_wp2_with(first
      |(go_at_call 162;refine(ny.out _ HO.out.aI).mono ?_;rintro e w' ⟨rfl,hw⟩;rw[hw];clear hw w')
      |(go_at_call_of 160 aA;refine(kZ.out _ (HW3.out.aG HO.out.aI)).mono ?_;rintro e w' ⟨rfl,hw⟩;rw[hw];clear hw w')
      |(go_at_call_of 160 aB;refine(kK.out _ (HW3.out.aG HO.out.aI)).mono ?_;rintro e w' ⟨rfl,hw⟩;rw[hw];clear hw w'))
     go_roundw
     case rel=>
      refine⟨nx,out,HO.out,HST.out,?_,rfl,rfl⟩
      have:=HLEN.out
      have:=HL2.out
      omega
     case measure=>
      have:=HL2.out
      cases nx with
      |none=>exact this
      |some t=>exact this
   |true=>
    cases hq:tf (aV b m)with
    |false=>
     have hin:dQ 2 (aV a m) (aV b m):=by
      have h1:=vP.1 hp
      have h2:=vS.1 hq
      unfold dQ
      simp[h1,h2]
     have kZ:=ah (fun w' h=>HA.out w' m h)
     have kK:=ah (fun w' h=>HB.out w' m h)
     rw[hp]at kZ
     rw[hq]at kK
     clear hp hq
     obtain⟨t,ht⟩:=OJ hin
     have hst:=OI HQ.out hin ht
     rw[HP.out]at ht
     have HST:=ah hst;clear hst
     have hlm:ahead P (some t)<ahead P (some m):=ht▸nY.out
     have HL2:=ah hlm;clear hlm
     obtain⟨t1,t2⟩:=jo.out t (um ht).1
     have ny:=ah (fun w' h=>lZ.out w' m h)
     rw[ht]at ny
     clear hin ht
     have kD:=ah (IW out m (t-1))
     rcases List.eq_nil_or_concat out with rfl|⟨lo,r,rfl⟩
     ·rw[Ir]at HST kD
      obtain⟨av,cv,rfl⟩:=HO.out.shape
      go_wp2_with(first
       |(go_at_call 162;refine(ny.out _ HO.out.aI).mono ?_;rintro e w' ⟨rfl,hw⟩;rw[hw];clear hw w')|(go_at_call_of 160 aA;refine(kZ.out _ (HW3.out.aG HO.out.aI)).mono ?_;rintro e w' ⟨rfl,hw⟩;rw[hw];clear hw w')|(go_at_call_of 160 aB;refine(kK.out _ (HW3.out.aG HO.out.aI)).mono ?_;rintro e w' ⟨rfl,hw⟩;rw[hw];clear hw w')
       |(at_builtin;refine ku w3 _ [.int .i64 m, .int .i64 (t-1)] rfl (.tmp 83) (.tmp 88) 135 rfl 168 i0 _ 2 16 Tryz.underlying135 hi hz0 hz1 hz2 (by decide) (by decide) _ _ _ HO.out 1 1 rfl rfl rfl (by simp[Value.oneCell']) (by simp[maxLen]) (by simp) ?_;intro ad cc w2 bn;have OW:=ah bn;clear bn))
      go_roundw
      case rel=>exact⟨some t,[(m,t-1)],OW.out,HST.out,by have:=HLEN.out;have:=HL2.out;simp at*;omega,rfl,rfl⟩
      case measure=>exact HL2.out
     ·rw[List.concat_eq_append]at*
      rw[z_]at HST kD
      have hln:(lo++ [r]).length=lo.length+1:=by simp
      have ho2:=HO.out
      have hlen:=HLEN.out
      rw[hln]at ho2 hole hlen kD
      clear HO HLEN
      have HLEN:=ah hlen;clear hlen
      obtain⟨g,c2,rfl,hg0,hg,hc2,hcell,hfro,hset⟩:=ho2.row (by simp)
      have cl:=hcell _ _ (DC lo r)
      have fl:=hfro (lo.length*2+1)
      have hs:=hset (lo.length*2+1) (.int .i64 (t-1))
      rw[Dz]at hs
      have HO:=ah ho2;clear ho2
      generalize hL:lo.length=L at*
      have kC:=ah hL;clear hL
      have HS:=ah hs;clear hs
      clear hset hcell hfro hln
      have hwm:wrap64 (L:Int)=L:=Pz (Nat.le_of_succ_le (Nat.le_trans hole (by decide:40000≤1000000)))
      have HOLE:=ah hole;clear hole hc2
      by_cases he:r.2=m-1
      ·rw[if_pos he]at HST kD
       have he':((r.2:Int)==m-1)=true:=by simp[he]
       have hw1:wrap64 (m-1)=m-1:=Ak b1 b2
       have hw2:wrap64 (t-1)=t-1:=Ak t1 t2
       clear he b1 b2 t1 t2
       go_wp2_with(first
        |(go_at_call 162;refine(ny.out _ HO.out.aI).mono ?_;rintro e w' ⟨rfl,hw⟩;rw[hw];clear hw w')|(go_at_call_of 160 aA;refine(kZ.out _ (HW3.out.aG HO.out.aI)).mono ?_;rintro e w' ⟨rfl,hw⟩;rw[hw];clear hw w')|(go_at_call_of 160 aB;refine(kK.out _ (HW3.out.aG HO.out.aI)).mono ?_;rintro e w' ⟨rfl,hw⟩;rw[hw];clear hw w'))
       go_roundw
       case rel=>
        refine⟨some t,lo++ [(r.1,t-1)],by rw[List.length_append,kC.out];exact HS.out,HST.out,?_,rfl,rfl⟩
        have:=HLEN.out
        have:=HL2.out
        have:=kC.out
        rw[List.length_append]
        simp at*
        omega
       case measure=>exact HL2.out
      ·rw[if_neg he]at HST kD
       have he':((r.2:Int)==m-1)=false:=by simpa using he
       have hw1:wrap64 (m-1)=m-1:=Ak b1 b2
       have hw2:wrap64 (t-1)=t-1:=Ak t1 t2
       clear he b1 b2 t1 t2
       go_wp2_with(first
        |(go_at_call 162;refine(ny.out _ HO.out.aI).mono ?_;rintro e w' ⟨rfl,hw⟩;rw[hw];clear hw w')|(go_at_call_of 160 aA;refine(kZ.out _ (HW3.out.aG HO.out.aI)).mono ?_;rintro e w' ⟨rfl,hw⟩;rw[hw];clear hw w')|(go_at_call_of 160 aB;refine(kK.out _ (HW3.out.aG HO.out.aI)).mono ?_;rintro e w' ⟨rfl,hw⟩;rw[hw];clear hw w')
        |(at_builtin;refine ku w3 _ [.int .i64 m, .int .i64 (t-1)] rfl (.tmp 83) (.tmp 88) 135 rfl 168 i0 _ 2 16 Tryz.underlying135 hi hz0 hz1 hz2 (by decide) (by decide) _ _ _ HO.out 1 1 rfl rfl rfl (by simp[Value.oneCell']) (by have:=HOLE.out;simp only[maxLen];omega) (by have:=HOLE.out;omega) ?_;intro ad cc w2 bn;have OW:=ah bn;clear bn))
       go_roundw
       case rel=>
        refine⟨some t,lo++ [r]++ [(m,t-1)],by rw[List.length_append,List.length_append,kC.out,lK];exact OW.out,HST.out,?_,rfl,rfl⟩
        have:=HLEN.out
        have:=HL2.out
        have:=kC.out
        simp at*
        omega
       case measure=>exact HL2.out
    |true=>
     have hin:¬dQ 2 (aV a m) (aV b m):=by
      have h1:=vP.1 hp
      have h2:=vP.1 hq
      unfold dQ
      simp[h1,h2]
     have kZ:=ah (fun w' h=>HA.out w' m h)
     have kK:=ah (fun w' h=>HB.out w' m h)
     rw[hp]at kZ
     rw[hq]at kK
     clear hp hq
     have HST:=ah (HP.out▸Dj HQ.out hin)
     have ny:=ah (fun w' h=>lZ.out w' m h)
     have hlm:ahead P (nextL P m)<ahead P (some m):=nY.out
     generalize hnx:nextL P m=nx at*
     have HL2:=ah hlm;clear hlm
     clear hin
     obtain⟨av,cv,rfl⟩:=HO.out.shape
     go_wp2_with(first
      |(go_at_call 162;refine(ny.out _ HO.out.aI).mono ?_;rintro e w' ⟨rfl,hw⟩;rw[hw];clear hw w')
      |(go_at_call_of 160 aA;refine(kZ.out _ (HW3.out.aG HO.out.aI)).mono ?_;rintro e w' ⟨rfl,hw⟩;rw[hw];clear hw w')
      |(go_at_call_of 160 aB;refine(kK.out _ (HW3.out.aG HO.out.aI)).mono ?_;rintro e w' ⟨rfl,hw⟩;rw[hw];clear hw w'))
     go_roundw
     case rel=>
      refine⟨nx,out,HO.out,HST.out,?_,rfl,rfl⟩
      have:=HLEN.out
      have:=HL2.out
      omega
     case measure=>
      have:=HL2.out
      cases nx with
      |none=>exact this
      |some t=>exact this
open Go.RowKit
theorem yj:(Tryz.prog.info? 92).map (fun i=>(i.zero,i.size,i.bytes))=some (some (.agg #[.int .i64 0, .int .i64 0, .int .i64 0]),3,24):=by kernel_rfl
theorem IZ {c:aU} {k:Nat} (d:Int) (hk:k<c.length):bC (c.take (k+1)) d=bC (c.take k) d++(if(c.getD k (0,0,0)).1=d then [(c.getD k (0,0,0)).2]else []):=by
 rw[take_succ (0,0,0) hk,xY]
 congr 1
 split
 ·rename_i h;subst h;rw[Iy];rfl
 ·rename_i h;rw[Dn _ _ h];rfl
theorem wu (c:aU) (d:Int):(bC c d).length≤c.length:=by
 unfold bC;rw[List.length_map];exact List.length_filter_le _ _
theorem DF (w:World) (v:Value) (c:aU) (d:Int) (hv:eY w v c) (hl:c.length≤100000):
 Calls Tryz.prog 86 #[v, .int .i64 d] w fun e w'=>∃v',e= .returned v'∧OwnAt w w' 168 2 v' (bC c d).length (b_ (bC c d)):=by
 obtain⟨i0,hi,hz0,hz1,hz2⟩:=info_parts Dx
 rcases Rd.shape hv with⟨ad,rfl,h0⟩|⟨b,off,PK,rfl,hmax⟩
 ·obtain rfl:c=[]:=List.eq_nil_of_length_eq_zero h0
  clear hv
  go_enter Tryz.func86,Tryz.ntmps86
  go_wp2
  go_loop [5,9] (fun v i=>v= .slice none 0 0∧i= .int .i64 0) (fun _ _=>0)
  case atStart=>exact⟨rfl,rfl⟩
  case round=>
   obtain⟨rfl,rfl⟩:=hrel
   go_wp2
   go_ret
   exact⟨_,rfl,OwnAt.nil (aj.refl _ _) _ _⟩
 ·have HH:=ah hv;clear hv
  generalize hn:c.length=n at*
  have HN:=ah hn;clear hn
  have kE:=ah hl;clear hl
  go_enter Tryz.func86,Tryz.ntmps86
  go_wp2
  go_loopw [5,9] (fun v i ww=>∃(k m:Nat),k≤n∧m≤k∧i= .int .i64 k∧m=(bC (c.take k) d).length∧OwnAt w ww 168 2 v m (b_ (bC (c.take k) d))) (fun _ i _=>n-(intOf i).toNat)
  case atStart=>exact⟨0,0,Nat.zero_le _,Nat.le_refl _,rfl,rfl,OwnAt.nil (aj.refl _ _) _ _⟩
  case round=>
   obtain⟨k,m,hk,hmk,rfl,hm,ho⟩:=hrel
   obtain⟨av,cv,rfl⟩:=ho.shape
   have HO:=ah ho;clear ho
   have HM:=ah hm;clear hm
   have wz:=ah hmk;clear hmk
   by_cases hlt:k<n
   ·obtain⟨p0,p1,p2⟩:=sJ HH.out HN.out.symm k (by rw[HN.out];exact hlt)
    have q0:=HO.out.aI.cell' p0 id
    have q1:=HO.out.aI.cell' p1 id
    have q2:=HO.out.aI.cell' p2 id
    have hbl:=World.block_lt_of_cell? _ _ q1
    have hbl:b<wr.heap.size:=hbl
    have hE:=IZ (c:=c) (k:=k) d (by rw[HN.out];exact hlt)
    generalize c.getD k (0,0,0)=s at*
    have P1:=ah p1;clear p1
    have P2:=ah p2;clear p2
    clear p0
    by_cases he:s.1=d
    ·rw[if_pos he]at hE
     have he':((s.1:Int)==d)=true:=by simp[he]
     have HE:=ah hE;clear hE
     clear he
     go_wp2_with fail
     go_region_held3 (fun w'=>w'.cell? ⟨b,off+k*3+1,none⟩=some (.int .i64 s.2.1)∧w'.cell? ⟨b,off+k*3+2,none⟩=some (.int .i64 s.2.2))
      (first|exact⟨q1,q2⟩|exact⟨(aj.alloc1 (aj.drew au _)).cell' q1 id,(aj.alloc1 (aj.drew au _)).cell' q2 id⟩|exact⟨bn.aI.cell' P1.out id,bn.aI.cell' P2.out id⟩)
      (first|(refine yg w wr.drew [.int .i64 s.2.1, .int .i64 s.2.2] rfl (.tmp 19) (.tmp 31) 135 rfl 168 i0 _ 2 16 Tryz.underlying135 hi hz0 hz1 hz2 (by decide) (by decide) (.slice av m cv) m _ (HO.out.keep (aj.drew _ _)) 1 1 (by simp[Act.eval]) (by simp[Act.eval]) rfl (by simp[Value.oneCell']) (by have:=kE.out;have:=wz.out;simp only[maxLen];omega) (by have:=kE.out;have:=wz.out;omega) ?_;intro ad cc w2 bn))
     have OW:=ah bn;clear bn
     go_wp2
     go_roundw
     case rel=>
      refine⟨k+1,m+1,by omega,by have:=wz.out;omega,by go_num,by rw[HE.out,List.length_append,←HM.out];rfl,?_⟩
      rw[HE.out,lK]
      exact OW.out
     case measure=>simp[intOf];omega
    ·rw[if_neg he,List.append_nil]at hE
     have he':((s.1:Int)==d)=false:=by simpa using he
     have HE:=ah hE;clear hE
     clear he
     go_wp2
     go_roundw
     case rel=>exact⟨k+1,m,by omega,by have:=wz.out;omega,by go_num,by rw[HE.out];exact HM.out,by rw[HE.out];exact HO.out⟩
     case measure=>simp[intOf];omega
   ·obtain rfl:k=n:=by omega
    go_wp2
    go_ret
    rw[List.take_of_length_le (by rw[HN.out];exact Nat.le_refl _)]at HO HM
    exact⟨_,rfl,by rw[←HM.out];exact HO.out⟩
theorem I_ {l:aS} {k:Nat} (d:Int) (hk:k<l.length):dS d (l.take (k+1))=dS d (l.take k)++ [(d,(l.getD k (0,0)).1,(l.getD k (0,0)).2)]:=by
 rw[take_succ (0,0) hk];simp[dS]
theorem Ja (w:World) (v:Value) (l:aS) (d:Int) (hv:iF w v l) (hl:l.length≤100000):
 Calls Tryz.prog 122 #[.int .i64 d,v] w fun e w'=>∃v',e= .returned v'∧OwnAt w w' 92 3 v' l.length (cO (dS d l)):=by
 obtain⟨i0,hi,hz0,hz1,hz2⟩:=info_parts yj
 rcases Rd.shape hv with⟨ad,rfl,h0⟩|⟨b,off,PK,rfl,hmax⟩
 ·obtain rfl:l=[]:=List.eq_nil_of_length_eq_zero h0
  clear hv
  go_enter Tryz.func122,Tryz.ntmps122
  go_wp2
  go_loop [5,9] (fun v i=>v= .slice none 0 0∧i= .int .i64 0) (fun _ _=>0)
  case atStart=>exact⟨rfl,rfl⟩
  case round=>
   obtain⟨rfl,rfl⟩:=hrel
   go_wp2
   go_ret
   exact⟨_,rfl,OwnAt.nil (aj.refl _ _) _ _⟩
 ·have HH:=ah hv;clear hv
  generalize hn:l.length=n at*
  have HN:=ah hn;clear hn
  have kE:=ah hl;clear hl
  go_enter Tryz.func122,Tryz.ntmps122
  go_wp2
  go_loopw [5,9] (fun v i ww=>∃(k:Nat),k≤n∧i= .int .i64 k∧OwnAt w ww 92 3 v k (cO (dS d (l.take k)))) (fun _ i _=>n-(intOf i).toNat)
  case atStart=>exact⟨0,Nat.zero_le _,rfl,OwnAt.nil (aj.refl _ _) _ _⟩
  case round=>
   obtain⟨k,hk,rfl,ho⟩:=hrel
   obtain⟨av,cv,rfl⟩:=ho.shape
   have HO:=ah ho;clear ho
   by_cases hlt:k<n
   ·obtain⟨p1,p2⟩:=lY HH.out HN.out.symm k (by rw[HN.out];exact hlt)
    have q1:=HO.out.aI.cell' p1 id
    have q2:=HO.out.aI.cell' p2 id
    have hbl:=World.block_lt_of_cell? _ _ q1
    have hbl:b<wr.heap.size:=hbl
    have HE:=ah (I_ (l:=l) (k:=k) d (by rw[HN.out];exact hlt))
    generalize l.getD k (0,0)=s at*
    have P1:=ah p1;clear p1
    have P2:=ah p2;clear p2
    go_wp2_with fail
    go_region_held3 (fun w'=>w'.cell? ⟨b,off+k*2,none⟩=some (.int .i64 s.1)∧w'.cell? ⟨b,off+k*2+1,none⟩=some (.int .i64 s.2))
     (first|exact⟨q1,q2⟩|exact⟨(aj.alloc1 (aj.drew au _)).cell' q1 id,(aj.alloc1 (aj.drew au _)).cell' q2 id⟩|exact⟨bn.aI.cell' P1.out id,bn.aI.cell' P2.out id⟩)
     (first|(refine yg w wr.drew [.int .i64 d, .int .i64 s.1, .int .i64 s.2] rfl (.tmp 12) (.tmp 25) 30 rfl 92 i0 _ 3 24 Tryz.underlying30 hi hz0 hz1 hz2 (by decide) (by decide) (.slice av k cv) k _ (HO.out.keep (aj.drew _ _)) 1 1 (by simp[Act.eval]) (by simp[Act.eval]) rfl (by simp[Value.oneCell']) (by have:=kE.out;simp only[maxLen];omega) (by have:=kE.out;omega) ?_;intro ad cc w2 bn))
    have OW:=ah bn;clear bn
    go_wp2
    go_roundw
    case rel=>
     refine⟨k+1,by omega,by go_num,?_⟩
     rw[HE.out,Ae]
     exact OW.out
    case measure=>simp[intOf];omega
   ·obtain rfl:k=n:=by omega
    go_wp2
    go_ret
    rw[List.take_of_length_le (by rw[HN.out];exact Nat.le_refl _)]at HO
    exact⟨_,rfl,HO.out⟩
end Go.Proofs.YtlhmbkjdfjoilaaGreat
