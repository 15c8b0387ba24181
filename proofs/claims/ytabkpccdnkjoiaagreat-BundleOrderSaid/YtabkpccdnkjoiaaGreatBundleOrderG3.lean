/- Words for the law BundleOrder: R6b, Own, R6ends, R6Of, R6By, R7a. -/
import Derived.Test.YtabkpccdnkjoiaaGreatBundleOrderG0
import Derived.Test.YtabkpccdnkjoiaaGreatBundleOrderG2
set_option linter.unusedSimpArgs false
set_option linter.unusedVariables false
set_option maxHeartbeats 32000000
set_option maxRecDepth 1000000
namespace Go.Proofs.YtabkpccdnkjoiaaGreat
open Go.RowKit
theorem both_any (w:World) (va vb:Value) (a b:aQ) (ha:f_ w va a) (fa:Fits a) (hb:f_ w vb b) (fb:Fits b):
 Calls Tryz.prog 230 #[va,vb] w fun e w'=>e= .returned (.bool (tf (bG a∧bG b)))∧aj au w w':=by
 have HA:=ah (xM w va a ha fa)
 have HB:=ah (fun w' h=>xM w' vb b (Rd.aP hb h) fb)
 clear ha fa hb fb
 by_cases h:bG a
 ·rw[show(bG a∧bG b)=bG b by simp[h]]
  rw[bM h]at HA
  generalize tf (bG b)=t at*
  clear h
  go_enter Tryz.func230,Tryz.ntmps230
  go_wp2_with(first|(go_at_call 251;refine(HB.out w1 hw1).mono ?_;rintro e w2 ⟨rfl,hw2⟩)|(go_at_call 251;refine HA.out.mono ?_;rintro e w1 ⟨rfl,hw1⟩))
  go_ret
  exact⟨rfl,hw1.ay hw2⟩
 ·rw[bn (fun hh=>h hh.1)]
  rw[bn h]at HA
  clear h HB
  go_enter Tryz.func230,Tryz.ntmps230
  go_wp2_with(go_at_call 251;refine HA.out.mono ?_;rintro e w1 ⟨rfl,hw1⟩)
  go_ret
  exact⟨rfl,hw1⟩
theorem Kw {l:aQ} {k:Nat} (n:Int) (hk:k<l.length):aV (l.take (k+1)) n↔aV (l.take k) n∨((l.getD k (0,0)).1≤n∧n≤(l.getD k (0,0)).2):=by
 rw[take_succ (0,0) hk,xg]
theorem Ky {l:aQ} {k:Nat} {n:Int} (h:aV (l.take k) n):aV l n:=by
 obtain⟨r,hr,h⟩:=h
 exact⟨r,List.mem_of_mem_take hr,h⟩
theorem EI (w:World) (v:Value) (l:aQ) (x:Int) (hv:f_ w v l):
 Calls Tryz.prog 193 #[v, .int .i64 x] w fun e w'=>e= .returned (.bool (tf (aV l x)))∧w'=w:=by
 rcases Rd.shape hv with⟨ad,rfl,h0⟩|⟨b,off,c,rfl,hmax⟩
 ·obtain rfl:l=[]:=List.eq_nil_of_length_eq_zero h0
  rw[bn (iM x)]
  clear hv
  go_enter Tryz.func193,Tryz.ntmps193
  go_wp2
  go_loop [8] (fun i=>i= .int .i64 0) (fun _=>0)
  case atStart=>rfl
  case round=>
   obtain rfl:=hrel
   go_wp2
   go_ret
   exact⟨rfl,rfl⟩
 ·have HH:=ah hv;clear hv
  generalize hn:l.length=n at*
  have HN:=ah hn;clear hn
  go_enter Tryz.func193,Tryz.ntmps193
  go_wp2
  go_loop [8] (fun i=>∃k:Nat,k≤n∧i= .int .i64 k∧tf (aV (l.take k) x)=false) (fun i=>n-(intOf i).toNat)
  case atStart=>exact⟨0,Nat.zero_le _,rfl,bn (iM x)⟩
  case round=>
   obtain⟨k,hk,rfl,hr⟩:=hrel
   have HR:=ah (rP.1 hr);clear hr
   by_cases hlt:k<n
   ·obtain⟨q1,q2⟩:=kN HH.out HN.out.symm k (by rw[HN.out];exact hlt)
    have hs:=Kw (l:=l) x (show k<l.length by rw[HN.out];exact hlt)
    have HS:=ah hs;clear hs
    generalize l.getD k (0,0)=r at*
    by_cases c1:r.1≤x
    ·by_cases c2:x≤r.2
     ·go_wp2
      go_ret
      exact⟨bg (bM (Ky (HS.out.2 (.inr ⟨c1,c2⟩)))).symm,rfl⟩
     ·go_wp2
      go_round
      case rel=>exact⟨k+1,by omega,by go_num,bn fun h=>(HS.out.1 h).elim HR.out (fun h=>by omega)⟩
      case measure=>simp[intOf];omega
    ·go_wp2
     go_round
     case rel=>exact⟨k+1,by omega,by go_num,bn fun h=>(HS.out.1 h).elim HR.out (fun h=>by omega)⟩
     case measure=>simp[intOf];omega
   ·obtain rfl:k=n:=by omega
    have hall:¬aV l x:=by
     have:=HR.out
     rwa [List.take_of_length_le (by rw[HN.out];exact Nat.le_refl _)]at this
    have HA:=ah hall;clear hall
    go_wp2
    go_ret
    exact⟨bg (bn HA.out).symm,rfl⟩
theorem EK (w:World) (v:Value) (l:List Int) (x:Int) (hv:xK w v l):
 Calls Tryz.prog 192 #[v, .int .i64 x] w fun e w'=>e= .returned (.tuple #[.int .i64 ((nextL l x).getD 0), .bool (nextL l x).isSome])∧w'=w:=by
 rcases Rd.shape hv with⟨ad,rfl,h0⟩|⟨b,off,c,rfl,hmax⟩
 ·obtain rfl:l=[]:=List.eq_nil_of_length_eq_zero h0
  clear hv
  go_enter Tryz.func192,Tryz.ntmps192
  go_wp2
  go_loop [6,7,11] (fun p o i=>p= .int .i64 0∧o= .bool false∧i= .int .i64 0) (fun _ _ _=>0)
  case atStart=>exact⟨rfl,rfl,rfl⟩
  case round=>
   obtain⟨rfl,rfl,rfl⟩:=hrel
   go_wp2
   exact bodyPost_ret (v:= .tuple #[.int .i64 0, .bool false]) (by simp[results,Tryz.results192,go_sem]) rfl ⟨rfl,rfl⟩
 ·have HH:=ah hv;clear hv
  generalize hn:l.length=n at*
  have HN:=ah hn;clear hn
  go_enter Tryz.func192,Tryz.ntmps192
  go_wp2
  go_loop [6,7,11] (fun p o i=>∃k:Nat,k≤n∧i= .int .i64 k∧((nextL (l.take k) x=none∧p= .int .i64 0∧o= .bool false)∨∃m,nextL (l.take k) x=some m∧p= .int .i64 m∧o= .bool true)) (fun _ _ i=>n-(intOf i).toNat)
  case atStart=>exact⟨0,Nat.zero_le _,rfl, .inl ⟨rfl,rfl,rfl⟩⟩
  case round=>
   obtain⟨k,hk,rfl,hr⟩:=hrel
   by_cases hlt:k<n
   ·have q1:=EF HH.out HN.out.symm k (by rw[HN.out];exact hlt)
    have hs:nextL (l.take (k+1)) x=iC x (nextL (l.take k) x) (l.getD k 0):=by
     rw[take_succ 0 (show k<l.length by rw[HN.out];exact hlt),JJ]
    generalize l.getD k 0=y at*
    have HS:=ah hs;clear hs
    rcases hr with⟨h1,rfl,rfl⟩|⟨m,h1,rfl,rfl⟩
    ·rw[h1]at HS
     clear h1
     by_cases c1:x<y
     ·go_wp2
      go_round
      case rel=>exact⟨k+1,by omega,by go_num, .inr ⟨y,by rw[HS.out];simp[iC,c1],rfl,rfl⟩⟩
      case measure=>simp[intOf];omega
     ·go_wp2
      go_round
      case rel=>exact⟨k+1,by omega,by go_num, .inl ⟨by rw[HS.out];simp[iC,c1],rfl,rfl⟩⟩
      case measure=>simp[intOf];omega
    ·rw[h1]at HS
     clear h1
     by_cases c1:x<y
     ·by_cases c2:y<m
      ·go_wp2
       go_round
       case rel=>exact⟨k+1,by omega,by go_num, .inr ⟨y,by rw[HS.out];simp[iC,c1,c2],rfl,rfl⟩⟩
       case measure=>simp[intOf];omega
      ·go_wp2
       go_round
       case rel=>exact⟨k+1,by omega,by go_num, .inr ⟨m,by rw[HS.out];simp[iC,c2],rfl,rfl⟩⟩
       case measure=>simp[intOf];omega
     ·go_wp2
      go_round
      case rel=>exact⟨k+1,by omega,by go_num, .inr ⟨m,by rw[HS.out];simp[iC,c1],rfl,rfl⟩⟩
      case measure=>simp[intOf];omega
   ·obtain rfl:k=n:=by omega
    rw[List.take_of_length_le (by rw[HN.out];exact Nat.le_refl _)]at hr
    rcases hr with⟨h1,rfl,rfl⟩|⟨m,h1,rfl,rfl⟩
    ·have H1:=ah h1
     clear h1
     go_wp2
     exact bodyPost_ret (v:= .tuple #[.int .i64 0, .bool false]) (by simp[results,Tryz.results192,go_sem]) rfl ⟨by rw[H1.out];rfl,rfl⟩
    ·have H1:=ah h1
     clear h1
     go_wp2
     exact bodyPost_ret (v:= .tuple #[.int .i64 m, .bool true]) (by simp[results,Tryz.results192,go_sem]) rfl ⟨by rw[H1.out];rfl,rfl⟩
open Go.RowKit
theorem aF {w:World} {b:Nat} {cs:Array Value} {t:TypeId} {f:Nat×Nat} (h:w.heap[b]?=some (.cells cs t f)) (j:Nat) {u:Value} (hu:cs[j]?=some u):w.cell? ⟨b,j,none⟩=some u:=
 (cell_of_row w b j cs t f h).trans hu
theorem aY {w:World} {b:Nat} {cs:Array Value} {t:TypeId} (h:w.heap[b]?=some (.cells cs t (0,0))) (j:Nat):w.frozen? ⟨b,j,none⟩=false:=by simp[World.frozen?,h]
theorem dY {w:World} {b:Nat} {cs:Array Value} {t:TypeId} {f:Nat×Nat} (h:w.heap[b]?=some (.cells cs t f)) (j:Nat) (u:Value):(w.setCell ⟨b,j,none⟩ u).heap[b]?=some (.cells (cs.setIfInBounds j u) t f):=by
 simp only[World.setCell,Array.getElem?_modify,if_true,h,Option.map_some]
 rfl
structure OwnAt (w0 w:World) (e:TypeId) (size:Nat) (v:Value) (n:Nat) (xs:List Value):Prop where
 own:w.ownsRow 0 e size v n xs
 new:zL w0 v
 aH:aj au w0 w
theorem OwnAt.nil {w0 w:World} (f:aj au w0 w) (e:TypeId) (size:Nat):OwnAt w0 w e size (.slice none 0 0) 0 []:=
 ⟨World.ownsRow_nil w 0 e size,(fun k hk=>by simp[Value.ownBlock]at hk),f⟩
theorem OwnAt.keep {w0 w w':World} {e:TypeId} {size:Nat} {v:Value} {n:Nat} {xs:List Value} (h:OwnAt w0 w e size v n xs) (f:aj au w w'):OwnAt w0 w' e size v n xs:=
 ⟨f.owns h.own (fun _ _ h=>h),h.new,h.aH.ay f⟩
theorem OwnAt.rd {w0 w:World} {e:TypeId} {size:Nat} {v:Value} {n:Nat} {xs:List Value} (h:OwnAt w0 w e size v n xs):Rd w v n xs:=Rd.own h.own
theorem OwnAt.shape {w0 w:World} {e:TypeId} {size:Nat} {v:Value} {n:Nat} {xs:List Value} (h:OwnAt w0 w e size v n xs):∃a c,v= .slice a n c:=by
 rcases h.own.2 with⟨rfl,h0⟩|⟨g,cap,cur,rfl,_⟩
 ·exact⟨none,0,by rw[h0]⟩
 ·exact⟨_,_,rfl⟩
theorem OwnAt.step {w0 w w':World} {e e':TypeId} {size size':Nat} {v v':Value} {n n':Nat} {xs xs':List Value} (h:OwnAt w0 w e size v n xs) (own:w'.ownsRow 0 e' size' v' n' xs') (fm:aj (iL v) w w') (fr:kK w v v'):OwnAt w0 w' e' size' v' n' xs':=
 ⟨own,(fun k hk=>by
   rcases fr k hk with h1|h1
   ·exact h.new k h1
   ·have:=h.aH.size;omega),h.aH.trans fm (fun i hi s=>by have:=h.new i s;omega)⟩
theorem OwnAt.row {w0 w:World} {e:TypeId} {size:Nat} {v:Value} {n:Nat} {xs:List Value} (h:OwnAt w0 w e size v n xs) (hn:0<n):
 ∃g c,v= .slice (some ⟨g,0,none⟩) n c∧w0.heap.size≤g∧g<w.heap.size∧n≤c∧(∀j u,xs[j]?=some u→w.cell? ⟨g,j,none⟩=some u)∧(∀j,w.frozen? ⟨g,j,none⟩=false)∧
  ∀j u,OwnAt w0 (w.setCell ⟨g,j,none⟩ u) e size v n (xs.set j u):=by
 rcases h.own.2 with⟨_,h0⟩|⟨g,cap,cur,rfl,hb,hg,hnc,hcm,hcs,htake⟩
 ·omega
 ·have hlt:w0.heap.size≤g:=h.new g rfl
  refine⟨g,cap,rfl,hlt,lt_of_block hg,hnc,fun j u hu=>?_,fun j=>aY hg j,fun j u=>⟨⟨?_, .inr ⟨g,cap,_,rfl,hb,dY hg j u,hnc,hcm,by simp[hcs],?_⟩⟩,h.new,?_⟩⟩
  ·refine aF hg j ?_
   rw[←htake,List.getElem?_take]at hu
   split at hu
   ·simpa using hu
   ·cases hu
  ·rw[List.length_set];exact h.own.1
  ·rw[Array.toList_setIfInBounds,List.take_set,htake]
  ·exact h.aH.set1 (.inr hlt)
section
variable {P:Program}
theorem jg {ops:Array Oper} {rest:List Oper} {o:Oper} {a:Act} {Q:Exit→Act→World→Prop} (w0 w:World) (news:List Value) (hgd:o.guard=none) (s x:Operand) (t:TypeId)
 (ho:o.op= .call {callee:= .builtin .append,args:= #[s,x],argTypes:= #[t,t]})
 (e:TypeId) (i:TypeInfo) (z:Value) (size bytes:Nat) (ht:P.underlying t=some (.slice e)) (hi:P.info? e=some i) (hz:i.zero=some z)
 (hsize:i.size=size) (hby:i.bytes=bytes) (hzs:z.cells.size=size) (hsz:0<size)
 (v:Value) (n:Nat) (xs:List Value) (hown:OwnAt w0 w e size v n xs) (m c:Nat) (hv:a.eval s=v) (hx:a.eval x= .slice (some ⟨w.heap.size,0,none⟩) m c)
 (hnl:news.length=m*size) (h1:∀u∈news,u.oneCell'=true) (h63:n+m≤maxLen) (hbytes:(n+m)*bytes≤140737488355328)
 (h:∀ad c w',OwnAt w0 w' e size (.slice ad (n+m) c) (n+m) (xs++news)→wpList P ops Q rest (a.put o.dst (.slice ad (n+m) c)) w'):
 wpList P ops Q (o::rest) a (w.alloc (.cells news.toArray e)):=
 Ei w news hgd s x t ho e i z size bytes ht hi hz hsize hby hzs hsz v n xs hown.own m c hv hx hnl h1 h63 hbytes fun ad c' w' g1 g2 g3=>h ad c' w' (hown.step g1 g2 g3)
theorem lq {ops:Array Oper} {rest:List Oper} {o:Oper} {a:Act} {Q:Exit→Act→World→Prop} (w0 w:World) (news:List Value) (hgd:o.guard=none) (s x:Operand) (t tx:TypeId)
 (ho:o.op= .call {callee:= .builtin .append,args:= #[s,x],argTypes:= #[t,tx]})
 (e e':TypeId) (i:TypeInfo) (z:Value) (size bytes:Nat) (ht:P.underlying t=some (.slice e)) (htx:P.underlying tx=some (.slice e')) (hi:P.info? e=some i) (hz:i.zero=some z)
 (hsize:i.size=size) (hby:i.bytes=bytes) (hzs:z.cells.size=size) (hsz:0<size)
 (v:Value) (n:Nat) (xs:List Value) (hown:OwnAt w0 w e size v n xs) (xv:Value) (m:Nat) (hv:a.eval s=v) (hx:a.eval x=xv) (hr:Rd w xv m news)
 (hnl:news.length=m*size) (h1:∀u∈news,u.oneCell'=true) (h63:n+m≤maxLen) (hbytes:(n+m)*bytes≤140737488355328)
 (h:∀ad c w',OwnAt w0 w' e size (.slice ad (n+m) c) (n+m) (xs++news)→wpList P ops Q rest (a.put o.dst (.slice ad (n+m) c)) w'):
 wpList P ops Q (o::rest) a w:=
 Eh w hgd s x t tx ho e i z size bytes ht hi hz hsize hby hzs hsz v n xs hv hown.own xv m news hx (hr.src htx hnl h1) h63 hbytes fun ad c' w' g1 g2 g3 _=>h ad c' w' (hown.step g1 g2 g3)
theorem xO {ops:Array Oper} {o:Oper} {a:Act} (w0 w:World) {K:Act→World→Prop} {Q:Exit→Act→World→Prop} {E:Prop} (news:List Value) (hgd:o.guard=none) (s x:Operand) (t:TypeId)
 (ho:o.op= .call {callee:= .builtin .append,args:= #[s,x],argTypes:= #[t,t]})
 (e:TypeId) (i:TypeInfo) (z:Value) (size bytes:Nat) (ht:P.underlying t=some (.slice e)) (hi:P.info? e=some i) (hz:i.zero=some z)
 (hsize:i.size=size) (hby:i.bytes=bytes) (hzs:z.cells.size=size) (hsz:0<size)
 (v:Value) (n:Nat) (xs:List Value) (hown:OwnAt w0 w e size v n xs) (m c:Nat) (hv:a.eval s=v) (hx:a.eval x= .slice (some ⟨w.heap.size,0,none⟩) m c)
 (hnl:news.length=m*size) (h1:∀u∈news,u.oneCell'=true) (h63:n+m≤maxLen) (hbytes:(n+m)*bytes≤140737488355328)
 (h:∀ad c w',OwnAt w0 w' e size (.slice ad (n+m) c) (n+m) (xs++news)→K (a.put o.dst (.slice ad (n+m) c)) w'):
 if Region.wanted o (yielded ops a.tmps)=true then Oper.wp P o a (w.alloc (.cells news.toArray e)) K Q else E:=by
 have hw:Region.wanted o (yielded ops a.tmps)=true:=by simp[Region.wanted,hgd]
 rw[if_pos hw]
 have hs:Src P size t (.slice (some ⟨w.heap.size,0,none⟩) m c) m news (w.alloc (.cells news.toArray e)):=
  Src.ofSlice _ ht ⟨w.heap.size,0,none⟩ m c news hnl (fun j u hj=>by
   have hadd:(⟨w.heap.size,0,none⟩:Addr).add j=⟨w.heap.size,j,none⟩:=by unfold Addr.add;split<;>simp_all
   rw[hadd,cell_of_row (w.alloc (.cells news.toArray e)) w.heap.size j news.toArray e (0,0) (heap_alloc_new w _)]
   simpa using hj) h1
 obtain⟨v',w',hr,h2,h3,h4,⟨ad,c',rfl⟩,h6⟩:=wU (P:=P) (w.alloc (.cells news.toArray e)) t t o.type e i z size bytes ht hi hz hsize hby hzs hsz v n xs (hown.own.alloc _) _ m news hs h63 hbytes
 unfold Oper.wp execOp
 simp only[ho,resolve,invoke,builtin,Sem.run_bind,Sem.run_pure,Result.andThen_ok,List.map_toArray,List.map_cons,List.map_nil,hv,hx,hr]
 refine h ad c' w' (hown.step h2 ((aj.alloc (iL v) w _).trans h3 (fun _ _ h=>h)) fun k hk=>?_)
 rcases h4 k hk with h|h
 ·exact .inl h
 ·refine .inr ?_
  simp at h
  omega
end
theorem Ac:(Tryz.prog.info? 245).map (fun i=>(i.zero,i.size,i.bytes))=some (some (.agg #[.int .i64 0, .int .i64 0]),2,16):=by kernel_rfl
theorem rW:(Tryz.prog.info? 2).map (fun i=>(i.zero,i.size,i.bytes))=some (some (.int .i64 0),1,8):=by kernel_rfl
open Go.RowKit
theorem Kz {l:aQ} {k:Nat} (hk:k<l.length):dG (l.take (k+1))=dG (l.take k)++ [(l.getD k (0,0)).1,(l.getD k (0,0)).2+1]:=by
 rw[take_succ (0,0) hk];simp[dG]
theorem uH (l:aQ):(dG l).length=l.length*2:=by
 induction l with
 |nil=>rfl
 |cons r l ih=>
  have:dG (r::l)=[r.1,r.2+1]++dG l:=rfl
  rw[this,List.length_append,ih];simp;omega
theorem EL (w:World) (v:Value) (l:aQ) (hv:f_ w v l) (hr:bG l) (hl:l.length≤100000):
 Calls Tryz.prog 191 #[v] w fun e w'=>∃v',e= .returned v'∧OwnAt w w' 2 1 v' (dG l).length (jJ (dG l)):=by
 obtain⟨i0,hi,hz0,hz1,hz2⟩:=info_parts rW
 rcases Rd.shape hv with⟨ad,rfl,h0⟩|⟨b,off,c,rfl,hmax⟩
 ·obtain rfl:l=[]:=List.eq_nil_of_length_eq_zero h0
  clear hv hr
  go_enter Tryz.func191,Tryz.ntmps191
  go_wp2
  go_loop [3,7] (fun v i=>v= .slice none 0 0∧i= .int .i64 0) (fun _ _=>0)
  case atStart=>exact⟨rfl,rfl⟩
  case round=>
   obtain⟨rfl,rfl⟩:=hrel
   go_wp2
   go_ret
   exact⟨_,rfl,OwnAt.nil (aj.refl _ _) _ _⟩
 ·have HH:=ah hv;clear hv
  have HR:=ah hr;clear hr
  generalize hn:l.length=n at*
  have HN:=ah hn;clear hn
  go_enter Tryz.func191,Tryz.ntmps191
  go_wp2
  go_loopw [3,7] (fun v i ww=>∃(k:Nat),k≤n∧i= .int .i64 k∧OwnAt w ww 2 1 v (k*2) (jJ (dG (l.take k)))) (fun _ i _=>n-(intOf i).toNat)
  case atStart=>exact⟨0,Nat.zero_le _,rfl,OwnAt.nil (aj.refl _ _) _ _⟩
  case round=>
   obtain⟨k,hk,rfl,ho⟩:=hrel
   obtain⟨av,cv,rfl⟩:=ho.shape
   have HO:=ah ho;clear ho
   by_cases hlt:k<n
   ·obtain⟨p1,p2⟩:=kN HH.out HN.out.symm k (by rw[HN.out];exact hlt)
    have q1:=HO.out.aH.cell' p1 id
    have q2:=HO.out.aH.cell' p2 id
    have hbl:=World.block_lt_of_cell? _ _ q1
    have hbl:b<wr.heap.size:=hbl
    have hfit:1≤(l.getD k (0,0)).1∧(l.getD k (0,0)).1≤(l.getD k (0,0)).2∧(l.getD k (0,0)).2≤1099511627776:=by
     have hm:=getD_mem (0,0) (show k<l.length by rw[HN.out];exact hlt)
     have:=iI HR.out.1 _ hm
     have:=HR.out.2 _ hm
     omega
    have HE:=ah (Kz (l:=l) (k:=k) (by rw[HN.out];exact hlt))
    generalize l.getD k (0,0)=r at*
    have P1:=ah p1;clear p1
    have P2:=ah p2;clear p2
    have hwr:IntKind.i64.wrap (r.2+1)=r.2+1:=by simp[IntKind.wrap,IntKind.bits,IntKind.signed];omega
    go_wp2_with fail
    go_region_held3 (fun w'=>w'.cell? ⟨b,off+k*2,none⟩=some (.int .i64 r.1)∧w'.cell? ⟨b,off+k*2+1,none⟩=some (.int .i64 r.2))
     (first|exact⟨q1,q2⟩|exact⟨(aj.alloc1 (aj.drew au _)).cell' q1 id,(aj.alloc1 (aj.drew au _)).cell' q2 id⟩|exact⟨bC.aH.cell' P1.out id,bC.aH.cell' P2.out id⟩)
     (first|(refine xO w wr.drew [.int .i64 r.1, .int .i64 (r.2+1)] rfl (.tmp 10) (.tmp 22) 252 rfl 2 i0 _ 1 8 Tryz.underlying252 hi hz0 hz1 hz2 (by decide) (by decide) (.slice av (k*2) cv) (k*2) _ (HO.out.keep (aj.drew _ _)) 2 2 (by simp[Act.eval]) (by simp[Act.eval]) rfl (by simp[Value.oneCell']) (by simp only[maxLen];omega) (by omega) ?_;intro ad cc w2 bC))
    have OW:=ah bC;clear bC
    go_wp2
    go_roundw
    case rel=>
     refine⟨k+1,by omega,by go_num,?_⟩
     rw[HE.out,xH,show(k+1)*2=k*2+2 by omega]
     exact OW.out
    case measure=>simp[intOf];omega
   ·obtain rfl:k=n:=by omega
    go_wp2
    go_ret
    rw[List.take_of_length_le (by rw[HN.out];exact Nat.le_refl _)]at HO
    refine⟨_,rfl,?_⟩
    rw[uH,HN.out]
    exact HO.out
open Go.RowKit
def EM (l:List Int) (x o:Value):Nat:=
 match o with
 | .bool true=>ahead l (some (intOf x))
 |_=>0
theorem KA {n:Nat} (h:n+1≤100000):wrap64 (n:Int)=n:=by unfold wrap64;omega
theorem Ad (l:List Int) (x:Option Int):ahead l x≤l.length:=by
 cases x with
 |none=>exact Nat.zero_le _
 |some m=>exact List.length_filter_le _ _
theorem EN (out:aQ) (a hi:Int):(ng out a hi).length≤out.length+1:=by
 rcases List.eq_nil_or_concat out with rfl|⟨l,r,rfl⟩
 ·simp[ng]
 ·rw[List.concat_eq_append,w_]
  split<;>simp
theorem Ae (l:aQ) (r:Int×Int) (hi:Int):(bP (l++ [r])).set (l.length*2+1) (.int .i64 hi)=bP (l++ [(r.1,hi)]):=by
 rw[kD,kD,List.set_append_right _ _ (by rw[nC];omega),nC,show l.length*2+1-l.length*2=1 by omega]
 rfl
theorem Af (l:aQ) (r:Int×Int):(bP (l++ [r]))[l.length*2+1]?=some (.int .i64 r.2):=by
 rw[kD,List.getElem?_append_right (by rw[nC];omega),nC,show l.length*2+1-l.length*2=1 by omega]
 rfl
def KC (w:World) (l:List Int) (v x o:Value) (ww:World):Prop:=
 ∃(q:Option Int) (out:aQ),OwnAt w ww 245 2 v out.length (bP out)∧qA l out q∧out.length+ahead l q≤l.length∧x= .int .i64 (q.getD 0)∧o= .bool q.isSome
theorem KD (w:World) (v:Value) (l:List Int) (hv:xK w v l) (hl:l.length≤100000) (hb:∀x∈l,1≤x∧x≤1099511627777):
 Calls Tryz.prog 194 #[v] w fun e w'=>∃v' out,e= .returned v'∧OwnAt w w' 245 2 v' out.length (bP out)∧qA l out none∧out.length≤l.length:=by
 obtain⟨i0,hi,hz0,hz1,hz2⟩:=info_parts Ac
 obtain⟨a,c,rfl⟩:=hv.sl
 have HB:=ah hb;clear hb
 have HN:=ah (fun w' x h=>EK w' _ l x (Rd.aP hv h));clear hv
 go_enter Tryz.func194,Tryz.ntmps194
 go_wp2_with(go_at_call 192;refine(HN.out w 0 (aj.refl _ _)).mono ?_;rintro e w' ⟨rfl,hw⟩;rw[hw];clear hw w')
 go_loopw [3,4,5] (fun v x o ww=>KC w l v x o ww) (fun _ x o _=>EM l x o)
 case atStart=>exact⟨nextL l 0,[],OwnAt.nil (aj.refl _ _) _ _,JO l,by have:=Ad l (nextL l 0);simpa using this,rfl,rfl⟩
 case round=>
  obtain⟨q,out,ho,hq,hlen,rfl,rfl⟩:=hrel
  have HQ:=ah hq;clear hq
  have HO:=ah ho;clear ho
  cases q with
  |none=>
   have HLEN:=ah hlen;clear hlen
   obtain⟨av,cv,rfl⟩:=HO.out.shape
   go_wp2
   go_ret
   exact⟨_,out,rfl,HO.out,HQ.out,Nat.le_trans (Nat.le_add_right _ _) HLEN.out⟩
  |some m=>
   obtain⟨m1,m2,m3,m4⟩:=HQ.out.some_ m rfl
   obtain⟨b1,b2⟩:=HB.out m m2
   have hah:=Eo m2
   have hstep:=JQ HQ.out
   have hpl:=EN out m m
   have KE:=Ad l (some m)
   rcases List.eq_nil_or_concat out with rfl|⟨lo,r,rfl⟩
   ·have HST:=ah hstep
    have HLEN:=ah hlen
    have lM:=ah hah
    clear hstep hpl hah m2 m3 m4
    obtain⟨av,cv,rfl⟩:=HO.out.shape
    go_wp2_with(first
     |(go_at_call 192;refine(HN.out _ m OW.out.aH).mono ?_;rintro e w' ⟨rfl,hw⟩;rw[hw];clear hw w')
     |(at_builtin;refine jg w _ [.int .i64 m, .int .i64 m] rfl (.tmp 34) (.tmp 38) 217 rfl 245 i0 _ 2 16 Tryz.underlying217 hi hz0 hz1 hz2 (by decide) (by decide) _ _ _ HO.out 1 1 rfl rfl rfl (by simp[Value.oneCell']) (by simp[maxLen]) (by simp) ?_;intro ad cc w2 bC;have OW:=ah bC;clear bC))
    go_roundw
    case rel=>
     refine⟨nextL l m,[(m,m)],OW.out,HST.out,?_,rfl,rfl⟩
     have:=HLEN.out
     have:=lM.out
     simp at*
     omega
    case measure=>
     have:=lM.out
     cases hx:nextL l m with
     |none=>rw[hx]at this;exact this
     |some t=>rw[hx]at this;exact this
   ·rw[List.concat_eq_append]at*
    rw[w_]at hstep hpl
    have hln:(lo++ [r]).length=lo.length+1:=by simp
    have ho2:=HO.out
    rw[hln]at ho2 hlen hpl
    clear HO hln
    obtain⟨g,c2,rfl,hg0,hg,hc2,hcell,hfro,hset⟩:=ho2.row (by simp)
    have cl:=hcell _ _ (Af lo r)
    have fl:=hfro (lo.length*2+1)
    have hs:=hset (lo.length*2+1) (.int .i64 m)
    rw[Ae]at hs
    have HO:=ah ho2;clear ho2
    have hr2:=m3 r (by simp)
    have hr1:1≤r.2:=by
     have:=iI HQ.out.from_ r (by simp)
     omega
    generalize hL:lo.length=L at*
    have jK:=ah hL;clear hL
    have HS:=ah hs;clear hs
    have kP:=ah hpl;clear hpl
    have HLEN:=ah hlen
    have lM:=ah hah;clear hah
    clear m3 m4 hset hcell hfro m2
    have hL5:L+1≤100000:=Nat.le_trans (Nat.le_trans (Nat.le_add_right _ _) hlen) hl
    have hwm:wrap64 (L:Int)=L:=KA hL5
    clear hlen KE hr1 hr2
    by_cases he:r.2=m-1
    ·rw[if_pos he]at hstep kP
     have HST:=ah hstep;clear hstep
     have he':((r.2:Int)==m-1)=true:=by simp[he]
     clear he
     go_wp2_with(go_at_call 192;refine(HN.out _ m HS.out.aH).mono ?_;rintro e w' ⟨rfl,hw⟩;rw[hw];clear hw w')
     go_roundw
     case rel=>
      refine⟨nextL l m,lo++ [(r.1,m)],by rw[List.length_append,jK.out];exact HS.out,HST.out,?_,rfl,rfl⟩
      have:=HLEN.out
      have:=lM.out
      have:=jK.out
      simp at*
      omega
     case measure=>
      have:=lM.out
      cases hx:nextL l m with
      |none=>rw[hx]at this;exact this
      |some t=>rw[hx]at this;exact this
    ·rw[if_neg he]at hstep kP
     have HST:=ah hstep;clear hstep
     have he':((r.2:Int)==m-1)=false:=by simpa using he
     clear he
     go_wp2_with(first
      |(go_at_call 192;refine(HN.out _ m OW.out.aH).mono ?_;rintro e w' ⟨rfl,hw⟩;rw[hw];clear hw w')
      |(at_builtin;refine jg w _ [.int .i64 m, .int .i64 m] rfl (.tmp 34) (.tmp 38) 217 rfl 245 i0 _ 2 16 Tryz.underlying217 hi hz0 hz1 hz2 (by decide) (by decide) _ _ _ HO.out 1 1 rfl rfl rfl (by simp[Value.oneCell']) (by simp only[maxLen];omega) (by omega) ?_;intro ad cc w2 bC;have OW:=ah bC;clear bC))
     go_roundw
     case rel=>
      refine⟨nextL l m,lo++ [r]++ [(m,m)],by rw[List.length_append,List.length_append,jK.out,kD];exact OW.out,HST.out,?_,rfl,rfl⟩
      have:=HLEN.out
      have:=lM.out
      have:=jK.out
      simp at*
      omega
     case measure=>
      have:=lM.out
      cases hx:nextL l m with
      |none=>rw[hx]at this;exact this
      |some t=>rw[hx]at this;exact this
open Go.RowKit
theorem OwnAt.base {w0 w1 w:World} {e:TypeId} {size:Nat} {v:Value} {n:Nat} {xs:List Value} (h:OwnAt w1 w e size v n xs) (f:aj au w0 w1):OwnAt w0 w e size v n xs:=
 ⟨h.own,(fun k hk=>Nat.le_trans f.size (h.new k hk)),f.ay h.aH⟩
def EO (how:Int):Prop:=∀(w:World) (va vb:Value) (a b:aQ) (_:f_ w va a) (_:f_ w vb b) (_:bG a) (_:bG b) (_:a.length≤10000) (_:b.length≤10000),
    Calls Tryz.prog 152 #[va,vb, .int .i64 how] w fun e w'=>∃v' out,e= .returned v'∧OwnAt w w' 245 2 v' out.length (bP out)∧og a b how out none∧out.length≤40000
theorem KF {n:Nat} (h:n+1≤1000000):wrap64 (n:Int)=n:=by unfold wrap64;omega
theorem xP {m:Int} (h1:1≤m) (h2:m≤1099511627777):wrap64 (m-1)=m-1:=by unfold wrap64;omega
theorem EP {l:aQ} (h:bG l):∀x∈dG l,1≤x∧x≤1099511627777:=by
 intro x hx
 obtain⟨r,hr,h1⟩:=rM.1 hx
 have:=iI h.1 r hr
 have:=h.2 r hr
 omega
theorem KG:EO 2:=by
 intro w va vb a b ha hb ra rb la lb
 obtain⟨i0,hi,hz0,hz1,hz2⟩:=info_parts Ac
 obtain⟨j0,hj,hy0,hy1,hy2⟩:=info_parts rW
 obtain⟨aA,cA,rfl⟩:=ha.sl
 obtain⟨aB,cB,rfl⟩:=hb.sl
 have hl:(dG a++dG b).length≤40000:=by rw[List.length_append,uH,uH];omega
 have hbd:∀x∈(dG a++dG b),1≤x∧x≤1099511627777:=fun x hx=>(List.mem_append.1 hx).elim (EP ra x) (EP rb x)
 have lY:=ah hbd;clear hbd
 have KH:=ah (JK 2 ra.1 rb.1)
 have rX:=ah (EL w _ a ha ra (by omega))
 have rY:=ah (fun w' h=>EL w' _ b (Rd.aP hb h) rb (by omega))
 have HA:=ah (fun w' x h=>EI w' _ a x (Rd.aP ha h))
 have HB:=ah (fun w' x h=>EI w' _ b x (Rd.aP hb h))
 have KI:(dG a).length≤20000:=by rw[uH];omega
 have elb:(dG b).length≤20000:=by rw[uH];omega
 clear ha hb la lb
 go_enter Tryz.func152,Tryz.ntmps152
 go_wp2_with(first
  |(go_at_call_of 191 aA;refine rX.out.mono ?_;rintro e w1 ⟨v1,rfl,ho1⟩;obtain⟨a1,c1,rfl⟩:=ho1.shape;have bZ:=ah ho1;clear ho1)
  |(go_at_call_of 191 aB;refine(rY.out w1 bZ.out.aH).mono ?_;rintro e w2 ⟨v2,rfl,ho2⟩;obtain⟨a2,c2,rfl⟩:=ho2.shape;have dD:=ah ho2;clear ho2)
  |(at_builtin;refine lq w _ _ rfl (.tmp 17) (.tmp 19) 252 252 rfl 2 2 j0 _ 1 8 Tryz.underlying252 Tryz.underlying252 hj hy0 hy1 hy2 (by decide) (by decide) _ _ _ (bZ.out.keep dD.out.aH) _ (dG b).length rfl rfl dD.out.rd (by simp) (Kt _) (by simp only[maxLen];omega) (by omega) ?_;intro a3 c3 w3 ER;have bI:=ah ER;clear ER))
 have HW3:=ah bI.out.aH
 have uI:=ah (fun w' x (h:aj au w3 w')=>EK w' _ (dG a++dG b) x (by have:=(bI.out.keep h).rd;rw[←xH,←List.length_append]at this;exact this))
 clear bZ dD bI rX rY
 rw[←List.length_append]
 have KJ:(dG a++dG b).length=(dG a).length+(dG b).length:=List.length_append
 generalize hP:(dG a++dG b)=P at*
 have HP:=ah hP;clear hP
 clear KI elb KJ
 refine(uI.out w3 0 (aj.refl _ _)).mono ?_
 rintro e w' ⟨rfl,hw⟩
 rw[hw]
 clear hw w'
 go_wp2
 go_loopw [8,9,10] (fun v x o ww=>∃(q:Option Int) (out:aQ),OwnAt w3 ww 245 2 v out.length (bP out)∧og a b 2 out q∧out.length+ahead P q≤P.length∧x= .int .i64 (q.getD 0)∧o= .bool q.isSome) (fun _ x o _=>EM P x o)
 case atStart=>exact⟨nextL P 0,[],OwnAt.nil (aj.refl _ _) _ _,KH.out,by have:=Ad P (nextL P 0);simpa using this,rfl,rfl⟩
 case round=>
  obtain⟨q,out,ho,hq,hlen,rfl,rfl⟩:=hrel
  have HQ:=ah hq;clear hq
  have HO:=ah ho;clear ho
  cases q with
  |none=>
   have HLEN:=ah hlen;clear hlen
   have HL:=ah hl;clear hl
   obtain⟨av,cv,rfl⟩:=HO.out.shape
   go_wp2
   go_ret
   exact⟨_,out,rfl,HO.out.base HW3.out,HQ.out,Nat.le_trans (Nat.le_trans (Nat.le_add_right _ _) HLEN.out) HL.out⟩
  |some m=>
   obtain⟨m1,m2,m3,m4⟩:=HQ.out.some_ m rfl
   rw[HP.out]at m2
   obtain⟨b1,b2⟩:=lY.out m m2
   have hah:=Eo m2
   have lM:=ah hah;clear hah
   have hole:out.length+1≤40000:=by
    have:0<ahead P (some m):=List.length_pos_of_mem (List.mem_filter.2 ⟨m2,by simp⟩)
    omega
   have HLEN:=ah hlen
   have nD:=ah m3;clear m3
   clear m4 m1 hlen m2
   cases hp:tf (aV a m)with
   |false=>
    cases hq:tf (aV b m)with
    |false=>
     have hin:¬cZ 2 (aV a m) (aV b m):=by
      have h1:=rP.1 hp
      have h2:=rP.1 hq
      unfold cZ
      simp[h1,h2]
     have jL:=ah (fun w' h=>HA.out w' m h)
     have jw:=ah (fun w' h=>HB.out w' m h)
     rw[hp]at jL
     rw[hq]at jw
     clear hp hq
     have HST:=ah (HP.out▸zU HQ.out hin)
     have eU:=ah (fun w' h=>uI.out w' m h)
     have hlm:ahead P (nextL P m)<ahead P (some m):=lM.out
     generalize hnx:nextL P m=nx at*
     have HL2:=ah hlm;clear hlm
     clear hin
     obtain⟨av,cv,rfl⟩:=HO.out.shape
     go_wp2_with(first
      |(go_at_call 192;refine(eU.out _ HO.out.aH).mono ?_;rintro e w' ⟨rfl,hw⟩;rw[hw];clear hw w')
      |(go_at_call_of 193 aA;refine(jL.out _ (HW3.out.ay HO.out.aH)).mono ?_;rintro e w' ⟨rfl,hw⟩;rw[hw];clear hw w')
      |(go_at_call_of 193 aB;refine(jw.out _ (HW3.out.ay HO.out.aH)).mono ?_;rintro e w' ⟨rfl,hw⟩;rw[hw];clear hw w'))
     go_roundw
     case rel=>
      refine⟨nx,out,HO.out,HST.out,?_,rfl,rfl⟩
      have:=HLEN.out
      have:=HL2.out
      omega
     case measure=>
      have:=HL2.out
      cases nx with
      |none=>exact this
      |some t=>exact this
    |true=>
     have hin:¬cZ 2 (aV a m) (aV b m):=by
      have h1:=rP.1 hp
      have h2:=o_.1 hq
      unfold cZ
      simp[h1,h2]
     have jL:=ah (fun w' h=>HA.out w' m h)
     have jw:=ah (fun w' h=>HB.out w' m h)
     rw[hp]at jL
     rw[hq]at jw
     clear hp hq
     have HST:=ah (HP.out▸zU HQ.out hin)
     have eU:=ah (fun w' h=>uI.out w' m h)
     have hlm:ahead P (nextL P m)<ahead P (some m):=lM.out
     generalize hnx:nextL P m=nx at*
     have HL2:=ah hlm;clear hlm
     clear hin
     obtain⟨av,cv,rfl⟩:=HO.out.shape
     go_wp2_with(first
      |(go_at_call 192;refine(eU.out _ HO.out.aH).mono ?_;rintro e w' ⟨rfl,hw⟩;rw[hw];clear hw w')
      |(go_at_call_of 193 aA;refine(jL.out _ (HW3.out.ay HO.out.aH)).mono ?_;rintro e w' ⟨rfl,hw⟩;rw[hw];clear hw w')
      |(go_at_call_of 193 aB;refine(jw.out _ (HW3.out.ay HO.out.aH)).mono ?_;rintro e w' ⟨rfl,hw⟩;rw[hw];clear hw w'))
     go_roundw
     case rel=>
      refine⟨nx,out,HO.out,HST.out,?_,rfl,rfl⟩
      have:=HLEN.out
      have:=HL2.out
      omega
     case measure=>
      have:=HL2.out
      cases nx with
      |none=>exact this
      |some t=>exact this
   |true=>
    cases hq:tf (aV b m)with
    |false=>
     have hin:cZ 2 (aV a m) (aV b m):=by
      have h1:=o_.1 hp
      have h2:=rP.1 hq
      unfold cZ
      simp[h1,h2]
     have jL:=ah (fun w' h=>HA.out w' m h)
     have jw:=ah (fun w' h=>HB.out w' m h)
     rw[hp]at jL
     rw[hq]at jw
     clear hp hq
     obtain⟨t,ht⟩:=JM hin
     have hst:=JL HQ.out hin ht
     rw[HP.out]at ht
     have HST:=ah hst;clear hst
     have hlm:ahead P (some t)<ahead P (some m):=ht▸lM.out
     have HL2:=ah hlm;clear hlm
     obtain⟨t1,t2⟩:=lY.out t (qy ht).1
     have eU:=ah (fun w' h=>uI.out w' m h)
     rw[ht]at eU
     clear hin ht
     have kP:=ah (EN out m (t-1))
     rcases List.eq_nil_or_concat out with rfl|⟨lo,r,rfl⟩
     ·rw[Ep]at HST kP
      obtain⟨av,cv,rfl⟩:=HO.out.shape
      go_wp2_with(first
       |(go_at_call 192;refine(eU.out _ HO.out.aH).mono ?_;rintro e w' ⟨rfl,hw⟩;rw[hw];clear hw w')|(go_at_call_of 193 aA;refine(jL.out _ (HW3.out.ay HO.out.aH)).mono ?_;rintro e w' ⟨rfl,hw⟩;rw[hw];clear hw w')|(go_at_call_of 193 aB;refine(jw.out _ (HW3.out.ay HO.out.aH)).mono ?_;rintro e w' ⟨rfl,hw⟩;rw[hw];clear hw w')
       |(at_builtin;refine jg w3 _ [.int .i64 m, .int .i64 (t-1)] rfl (.tmp 83) (.tmp 88) 217 rfl 245 i0 _ 2 16 Tryz.underlying217 hi hz0 hz1 hz2 (by decide) (by decide) _ _ _ HO.out 1 1 rfl rfl rfl (by simp[Value.oneCell']) (by simp[maxLen]) (by simp) ?_;intro ad cc w2 bC;have OW:=ah bC;clear bC))
      go_roundw
      case rel=>exact⟨some t,[(m,t-1)],OW.out,HST.out,by have:=HLEN.out;have:=HL2.out;simp at*;omega,rfl,rfl⟩
      case measure=>exact HL2.out
     ·rw[List.concat_eq_append]at*
      rw[w_]at HST kP
      have hln:(lo++ [r]).length=lo.length+1:=by simp
      have ho2:=HO.out
      have hlen:=HLEN.out
      rw[hln]at ho2 hole hlen kP
      clear HO HLEN
      have HLEN:=ah hlen;clear hlen
      obtain⟨g,c2,rfl,hg0,hg,hc2,hcell,hfro,hset⟩:=ho2.row (by simp)
      have cl:=hcell _ _ (Af lo r)
      have fl:=hfro (lo.length*2+1)
      have hs:=hset (lo.length*2+1) (.int .i64 (t-1))
      rw[Ae]at hs
      have HO:=ah ho2;clear ho2
      generalize hL:lo.length=L at*
      have jK:=ah hL;clear hL
      have HS:=ah hs;clear hs
      clear hset hcell hfro hln
      have hwm:wrap64 (L:Int)=L:=KF (Nat.le_of_succ_le (Nat.le_trans hole (by decide:40000≤1000000)))
      have HOLE:=ah hole;clear hole hc2
      by_cases he:r.2=m-1
      ·rw[if_pos he]at HST kP
       have he':((r.2:Int)==m-1)=true:=by simp[he]
       have hw1:wrap64 (m-1)=m-1:=xP b1 b2
       have hw2:wrap64 (t-1)=t-1:=xP t1 t2
       clear he b1 b2 t1 t2
       go_wp2_with(first
        |(go_at_call 192;refine(eU.out _ HO.out.aH).mono ?_;rintro e w' ⟨rfl,hw⟩;rw[hw];clear hw w')|(go_at_call_of 193 aA;refine(jL.out _ (HW3.out.ay HO.out.aH)).mono ?_;rintro e w' ⟨rfl,hw⟩;rw[hw];clear hw w')|(go_at_call_of 193 aB;refine(jw.out _ (HW3.out.ay HO.out.aH)).mono ?_;rintro e w' ⟨rfl,hw⟩;rw[hw];clear hw w'))
       go_roundw
       case rel=>
        refine⟨some t,lo++ [(r.1,t-1)],by rw[List.length_append,jK.out];exact HS.out,HST.out,?_,rfl,rfl⟩
        have:=HLEN.out
        have:=HL2.out
        have:=jK.out
        rw[List.length_append]
        simp at*
        omega
       case measure=>exact HL2.out
      ·rw[if_neg he]at HST kP
       have he':((r.2:Int)==m-1)=false:=by simpa using he
       have hw1:wrap64 (m-1)=m-1:=xP b1 b2
       have hw2:wrap64 (t-1)=t-1:=xP t1 t2
       clear he b1 b2 t1 t2
       go_wp2_with(first
        |(go_at_call 192;refine(eU.out _ HO.out.aH).mono ?_;rintro e w' ⟨rfl,hw⟩;rw[hw];clear hw w')|(go_at_call_of 193 aA;refine(jL.out _ (HW3.out.ay HO.out.aH)).mono ?_;rintro e w' ⟨rfl,hw⟩;rw[hw];clear hw w')|(go_at_call_of 193 aB;refine(jw.out _ (HW3.out.ay HO.out.aH)).mono ?_;rintro e w' ⟨rfl,hw⟩;rw[hw];clear hw w')
        |(at_builtin;refine jg w3 _ [.int .i64 m, .int .i64 (t-1)] rfl (.tmp 83) (.tmp 88) 217 rfl 245 i0 _ 2 16 Tryz.underlying217 hi hz0 hz1 hz2 (by decide) (by decide) _ _ _ HO.out 1 1 rfl rfl rfl (by simp[Value.oneCell']) (by have:=HOLE.out;simp only[maxLen];omega) (by have:=HOLE.out;omega) ?_;intro ad cc w2 bC;have OW:=ah bC;clear bC))
       go_roundw
       case rel=>
        refine⟨some t,lo++ [r]++ [(m,t-1)],by rw[List.length_append,List.length_append,jK.out,kD];exact OW.out,HST.out,?_,rfl,rfl⟩
        have:=HLEN.out
        have:=HL2.out
        have:=jK.out
        simp at*
        omega
       case measure=>exact HL2.out
    |true=>
     have hin:¬cZ 2 (aV a m) (aV b m):=by
      have h1:=o_.1 hp
      have h2:=o_.1 hq
      unfold cZ
      simp[h1,h2]
     have jL:=ah (fun w' h=>HA.out w' m h)
     have jw:=ah (fun w' h=>HB.out w' m h)
     rw[hp]at jL
     rw[hq]at jw
     clear hp hq
     have HST:=ah (HP.out▸zU HQ.out hin)
     have eU:=ah (fun w' h=>uI.out w' m h)
     have hlm:ahead P (nextL P m)<ahead P (some m):=lM.out
     generalize hnx:nextL P m=nx at*
     have HL2:=ah hlm;clear hlm
     clear hin
     obtain⟨av,cv,rfl⟩:=HO.out.shape
     go_wp2_with(first
      |(go_at_call 192;refine(eU.out _ HO.out.aH).mono ?_;rintro e w' ⟨rfl,hw⟩;rw[hw];clear hw w')
      |(go_at_call_of 193 aA;refine(jL.out _ (HW3.out.ay HO.out.aH)).mono ?_;rintro e w' ⟨rfl,hw⟩;rw[hw];clear hw w')
      |(go_at_call_of 193 aB;refine(jw.out _ (HW3.out.ay HO.out.aH)).mono ?_;rintro e w' ⟨rfl,hw⟩;rw[hw];clear hw w'))
     go_roundw
     case rel=>
      refine⟨nx,out,HO.out,HST.out,?_,rfl,rfl⟩
      have:=HLEN.out
      have:=HL2.out
      omega
     case measure=>
      have:=HL2.out
      cases nx with
      |none=>exact this
      |some t=>exact this
open Go.RowKit
theorem qE:(Tryz.prog.info? 144).map (fun i=>(i.zero,i.size,i.bytes))=some (some (.agg #[.int .i64 0, .int .i64 0, .int .i64 0]),3,24):=by kernel_rfl
theorem ES {c:aU} {k:Nat} (d:Int) (hk:k<c.length):aZ (c.take (k+1)) d=aZ (c.take k) d++(if(c.getD k (0,0,0)).1=d then [(c.getD k (0,0,0)).2]else []):=by
 rw[take_succ (0,0,0) hk,uw]
 congr 1
 split
 ·rename_i h;subst h;rw[xC];rfl
 ·rename_i h;rw[uy _ _ h];rfl
theorem pG (c:aU) (d:Int):(aZ c d).length≤c.length:=by
 unfold aZ;rw[List.length_map];exact List.length_filter_le _ _
theorem Ag (w:World) (v:Value) (c:aU) (d:Int) (hv:dL w v c) (hl:c.length≤100000):
 Calls Tryz.prog 142 #[v, .int .i64 d] w fun e w'=>∃v',e= .returned v'∧OwnAt w w' 245 2 v' (aZ c d).length (bP (aZ c d)):=by
 obtain⟨i0,hi,hz0,hz1,hz2⟩:=info_parts Ac
 rcases Rd.shape hv with⟨ad,rfl,h0⟩|⟨b,off,KL,rfl,hmax⟩
 ·obtain rfl:c=[]:=List.eq_nil_of_length_eq_zero h0
  clear hv
  go_enter Tryz.func142,Tryz.ntmps142
  go_wp2
  go_loop [5,9] (fun v i=>v= .slice none 0 0∧i= .int .i64 0) (fun _ _=>0)
  case atStart=>exact⟨rfl,rfl⟩
  case round=>
   obtain⟨rfl,rfl⟩:=hrel
   go_wp2
   go_ret
   exact⟨_,rfl,OwnAt.nil (aj.refl _ _) _ _⟩
 ·have HH:=ah hv;clear hv
  generalize hn:c.length=n at*
  have HN:=ah hn;clear hn
  have ou:=ah hl;clear hl
  go_enter Tryz.func142,Tryz.ntmps142
  go_wp2
  go_loopw [5,9] (fun v i ww=>∃(k m:Nat),k≤n∧m≤k∧i= .int .i64 k∧m=(aZ (c.take k) d).length∧OwnAt w ww 245 2 v m (bP (aZ (c.take k) d))) (fun _ i _=>n-(intOf i).toNat)
  case atStart=>exact⟨0,0,Nat.zero_le _,Nat.le_refl _,rfl,rfl,OwnAt.nil (aj.refl _ _) _ _⟩
  case round=>
   obtain⟨k,m,hk,hmk,rfl,hm,ho⟩:=hrel
   obtain⟨av,cv,rfl⟩:=ho.shape
   have HO:=ah ho;clear ho
   have HM:=ah hm;clear hm
   have xQ:=ah hmk;clear hmk
   by_cases hlt:k<n
   ·obtain⟨p0,p1,p2⟩:=pF HH.out HN.out.symm k (by rw[HN.out];exact hlt)
    have q0:=HO.out.aH.cell' p0 id
    have q1:=HO.out.aH.cell' p1 id
    have q2:=HO.out.aH.cell' p2 id
    have hbl:=World.block_lt_of_cell? _ _ q1
    have hbl:b<wr.heap.size:=hbl
    have hE:=ES (c:=c) (k:=k) d (by rw[HN.out];exact hlt)
    generalize c.getD k (0,0,0)=s at*
    have P1:=ah p1;clear p1
    have P2:=ah p2;clear p2
    clear p0
    by_cases he:s.1=d
    ·rw[if_pos he]at hE
     have he':((s.1:Int)==d)=true:=by simp[he]
     have HE:=ah hE;clear hE
     clear he
     go_wp2_with fail
     go_region_held3 (fun w'=>w'.cell? ⟨b,off+k*3+1,none⟩=some (.int .i64 s.2.1)∧w'.cell? ⟨b,off+k*3+2,none⟩=some (.int .i64 s.2.2))
      (first|exact⟨q1,q2⟩|exact⟨(aj.alloc1 (aj.drew au _)).cell' q1 id,(aj.alloc1 (aj.drew au _)).cell' q2 id⟩|exact⟨bC.aH.cell' P1.out id,bC.aH.cell' P2.out id⟩)
      (first|(refine xO w wr.drew [.int .i64 s.2.1, .int .i64 s.2.2] rfl (.tmp 19) (.tmp 31) 217 rfl 245 i0 _ 2 16 Tryz.underlying217 hi hz0 hz1 hz2 (by decide) (by decide) (.slice av m cv) m _ (HO.out.keep (aj.drew _ _)) 1 1 (by simp[Act.eval]) (by simp[Act.eval]) rfl (by simp[Value.oneCell']) (by have:=ou.out;have:=xQ.out;simp only[maxLen];omega) (by have:=ou.out;have:=xQ.out;omega) ?_;intro ad cc w2 bC))
     have OW:=ah bC;clear bC
     go_wp2
     go_roundw
     case rel=>
      refine⟨k+1,m+1,by omega,by have:=xQ.out;omega,by go_num,by rw[HE.out,List.length_append,←HM.out];rfl,?_⟩
      rw[HE.out,kD]
      exact OW.out
     case measure=>simp[intOf];omega
    ·rw[if_neg he,List.append_nil]at hE
     have he':((s.1:Int)==d)=false:=by simpa using he
     have HE:=ah hE;clear hE
     clear he
     go_wp2
     go_roundw
     case rel=>exact⟨k+1,m,by omega,by have:=xQ.out;omega,by go_num,by rw[HE.out];exact HM.out,by rw[HE.out];exact HO.out⟩
     case measure=>simp[intOf];omega
   ·obtain rfl:k=n:=by omega
    go_wp2
    go_ret
    rw[List.take_of_length_le (by rw[HN.out];exact Nat.le_refl _)]at HO HM
    exact⟨_,rfl,by rw[←HM.out];exact HO.out⟩
theorem ET {l:aQ} {k:Nat} (d:Int) (hk:k<l.length):cO d (l.take (k+1))=cO d (l.take k)++ [(d,(l.getD k (0,0)).1,(l.getD k (0,0)).2)]:=by
 rw[take_succ (0,0) hk];simp[cO]
theorem EU (w:World) (v:Value) (l:aQ) (d:Int) (hv:f_ w v l) (hl:l.length≤100000):
 Calls Tryz.prog 151 #[.int .i64 d,v] w fun e w'=>∃v',e= .returned v'∧OwnAt w w' 144 3 v' l.length (bT (cO d l)):=by
 obtain⟨i0,hi,hz0,hz1,hz2⟩:=info_parts qE
 rcases Rd.shape hv with⟨ad,rfl,h0⟩|⟨b,off,KL,rfl,hmax⟩
 ·obtain rfl:l=[]:=List.eq_nil_of_length_eq_zero h0
  clear hv
  go_enter Tryz.func151,Tryz.ntmps151
  go_wp2
  go_loop [5,9] (fun v i=>v= .slice none 0 0∧i= .int .i64 0) (fun _ _=>0)
  case atStart=>exact⟨rfl,rfl⟩
  case round=>
   obtain⟨rfl,rfl⟩:=hrel
   go_wp2
   go_ret
   exact⟨_,rfl,OwnAt.nil (aj.refl _ _) _ _⟩
 ·have HH:=ah hv;clear hv
  generalize hn:l.length=n at*
  have HN:=ah hn;clear hn
  have ou:=ah hl;clear hl
  go_enter Tryz.func151,Tryz.ntmps151
  go_wp2
  go_loopw [5,9] (fun v i ww=>∃(k:Nat),k≤n∧i= .int .i64 k∧OwnAt w ww 144 3 v k (bT (cO d (l.take k)))) (fun _ i _=>n-(intOf i).toNat)
  case atStart=>exact⟨0,Nat.zero_le _,rfl,OwnAt.nil (aj.refl _ _) _ _⟩
  case round=>
   obtain⟨k,hk,rfl,ho⟩:=hrel
   obtain⟨av,cv,rfl⟩:=ho.shape
   have HO:=ah ho;clear ho
   by_cases hlt:k<n
   ·obtain⟨p1,p2⟩:=kN HH.out HN.out.symm k (by rw[HN.out];exact hlt)
    have q1:=HO.out.aH.cell' p1 id
    have q2:=HO.out.aH.cell' p2 id
    have hbl:=World.block_lt_of_cell? _ _ q1
    have hbl:b<wr.heap.size:=hbl
    have HE:=ah (ET (l:=l) (k:=k) d (by rw[HN.out];exact hlt))
    generalize l.getD k (0,0)=s at*
    have P1:=ah p1;clear p1
    have P2:=ah p2;clear p2
    go_wp2_with fail
    go_region_held3 (fun w'=>w'.cell? ⟨b,off+k*2,none⟩=some (.int .i64 s.1)∧w'.cell? ⟨b,off+k*2+1,none⟩=some (.int .i64 s.2))
     (first|exact⟨q1,q2⟩|exact⟨(aj.alloc1 (aj.drew au _)).cell' q1 id,(aj.alloc1 (aj.drew au _)).cell' q2 id⟩|exact⟨bC.aH.cell' P1.out id,bC.aH.cell' P2.out id⟩)
     (first|(refine xO w wr.drew [.int .i64 d, .int .i64 s.1, .int .i64 s.2] rfl (.tmp 12) (.tmp 25) 32 rfl 144 i0 _ 3 24 Tryz.underlying32 hi hz0 hz1 hz2 (by decide) (by decide) (.slice av k cv) k _ (HO.out.keep (aj.drew _ _)) 1 1 (by simp[Act.eval]) (by simp[Act.eval]) rfl (by simp[Value.oneCell']) (by have:=ou.out;simp only[maxLen];omega) (by have:=ou.out;omega) ?_;intro ad cc w2 bC))
    have OW:=ah bC;clear bC
    go_wp2
    go_roundw
    case rel=>
     refine⟨k+1,by omega,by go_num,?_⟩
     rw[HE.out,rV]
     exact OW.out
    case measure=>simp[intOf];omega
   ·obtain rfl:k=n:=by omega
    go_wp2
    go_ret
    rw[List.take_of_length_le (by rw[HN.out];exact Nat.le_refl _)]at HO
    exact⟨_,rfl,HO.out⟩
end Go.Proofs.YtabkpccdnkjoiaaGreat
