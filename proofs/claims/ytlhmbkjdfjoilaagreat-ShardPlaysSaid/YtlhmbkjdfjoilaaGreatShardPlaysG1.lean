/- Words for the law ShardPlays: Mem, Quiet, Runs, Runs2, Runs3, RunsBy. -/
import Derived.Test.YtlhmbkjdfjoilaaGreatShardPlaysG0
import Derived.WalkKit
import Derived.WalkSpells
import Derived.WalkLawsBesides
import Derived.Lib.Hide
import Derived.OneCell
import Derived.Deep.AppendSrc
import Derived.BigQuiet
import Derived.Deep.QuietTactic
import Derived.ProofKit
set_option linter.unusedSimpArgs false
set_option linter.unusedVariables false
set_option maxHeartbeats 32000000
set_option maxRecDepth 1000000
namespace Go.Proofs.YtlhmbkjdfjoilaaGreat
open Go.RowKit
structure aj (S:Nat→Prop) (w w':World):Prop where
 os:w'.os=w.os
 tape:w'.tape=w.tape
 output:w'.output=w.output
 size:w.heap.size≤w'.heap.size
 block:∀k,k<w.heap.size→¬S k→w'.heap[k]?=w.heap[k]?
theorem aj.refl (S:Nat→Prop) (w:World):aj S w w:=⟨rfl,rfl,rfl,Nat.le_refl _,fun _ _ _=>rfl⟩
theorem aj.mono {S T:Nat→Prop} {w w':World} (h:aj S w w') (hs:∀k,k<w.heap.size→S k→T k):aj T w w':=
 ⟨h.os,h.tape,h.output,h.size,fun k hk hn=>h.block k hk fun s=>hn (hs k hk s)⟩
theorem aj.trans {S T:Nat→Prop} {a b c:World} (h:aj S a b) (k:aj T b c) (hs:∀i,i<a.heap.size→T i→S i):aj S a c:=
 ⟨k.os.trans h.os,k.tape.trans h.tape,k.output.trans h.output,Nat.le_trans h.size k.size,
  fun i hi hn=>(k.block i (Nat.lt_of_lt_of_le hi h.size) fun t=>hn (hs i hi t)).trans (h.block i hi hn)⟩
theorem aj.alloc (S:Nat→Prop) (w:World) (o:Obj):aj S w (w.alloc o):=
 ⟨rfl,rfl,rfl,by simp,fun k hk _=>Below.heap_alloc _ _ _ hk⟩
theorem aj.drew (S:Nat→Prop) (w:World):aj S w w.drew:=⟨rfl,rfl,rfl,Nat.le_refl _,fun _ _ _=>rfl⟩
theorem aj.drewN (S:Nat→Prop) (w:World) (n:Nat):aj S w (w.drewN n):=⟨rfl,rfl,rfl,Nat.le_refl _,fun _ _ _=>rfl⟩
theorem aj.setCell {S:Nat→Prop} (w:World) {p:Addr} (hp:S p.block∨w.heap.size≤p.block) (u:Value):aj S w (w.setCell p u):=
 ⟨rfl,rfl,rfl,by simp[World.setCell],fun k hk hn=>Below.heap_setCell _ _ _ _ fun e=>by
   rcases hp with hp|hp
   ·exact hn (e▸hp)
   ·omega⟩
theorem aj.grown {S:Nat→Prop} {w w':World} {row:Option Nat} (h:w.grownBy w' row) (hr:∀k,row=some k→S k∨w.heap.size≤k):aj S w w':=
 ⟨h.os,h.tape,h.output,h.size,fun k hk hn=>h.block k hk fun e=>by
   rcases hr k e.symm with hp|hp
   ·exact hn hp
   ·omega⟩
theorem aj.cell {S:Nat→Prop} {w w':World} (h:aj S w w') {p:Addr} (hp:p.block<w.heap.size) (hn:¬S p.block):w'.cell? p=w.cell? p:=
 World.cell?_of_block (w:=w) (h.block p.block hp hn)
theorem aj.cell' {S:Nat→Prop} {w w':World} (h:aj S w w') {p:Addr} {v:Value} (hv:w.cell? p=some v) (hn:¬S p.block):w'.cell? p=some v:=
 (h.cell (World.block_lt_of_cell? w p hv) hn).trans hv
theorem aj.frozen {S:Nat→Prop} {w w':World} (h:aj S w w') {p:Addr} (hp:p.block<w.heap.size) (hn:¬S p.block):w'.frozen? p=w.frozen? p:=
 World.frozen?_of_block (w:=w) (h.block p.block hp hn)
theorem aj.blk {S:Nat→Prop} {w w':World} (h:aj S w w') {k:Nat} {o:Obj} (hv:w.heap[k]?=some o) (hn:¬S k):w'.heap[k]?=some o:=
 (h.block k (lt_of_block hv) hn).trans hv
theorem aj.below {w w':World} (h:aj (fun _=>False) w w'):Below w.heap.size w w':=
 ⟨h.os,h.tape,h.output,h.size,fun k hk=>h.block k hk id⟩
theorem aj.owns {S:Nat→Prop} {w w':World} (h:aj S w w') {base:Nat} {e:TypeId} {size:Nat} {v:Value} {n:Nat} {xs:List Value}
 (ho:w.ownsRow base e size v n xs) (hn:∀k,v.ownBlock=some k→¬S k):w'.ownsRow base e size v n xs:=by
 refine⟨ho.1,?_⟩
 rcases ho.2 with hx|⟨g,cap,cur,rfl,hb,hg,rest⟩
 ·exact .inl hx
 ·exact .inr ⟨g,cap,cur,rfl,hb,h.blk hg (hn g rfl),rest⟩
theorem dF {a b:Bool} (h:a=b):Ending.returned (.bool a)= .returned (.bool b):=by rw[h]
theorem Dl {k:IntKind} {a b:Int} (h:a=b):Ending.returned (.int k a)= .returned (.int k b):=by rw[h]
def bV (l:List UInt8):List Value:=l.map fun b=> .int .u8 (b.toNat:Int)
@[simp] theorem ai' (l:List UInt8):(bV l).length=l.length:=by simp[bV]
theorem aaz (a b:List UInt8):bV (a++b)=bV a++bV b:=by simp[bV]
def lN (w:World) (v v':Value):Prop:=∀k,v'.ownBlock=some k→v.ownBlock=some k∨w.heap.size≤k
theorem lN.refl (w:World) (v:Value):lN w v v:=fun _ h=> .inl h
def eG (v:Value) (k:Nat):Prop:=v.ownBlock=some k
theorem Dn (g:Nat) (e:TypeId) (f:Nat×Nat):∀(vs:List Value) (o:Nat) (w:World) (cur:Array Value),w.heap[g]?=some (.cells cur e f)→o+vs.length≤cur.size→
 (w.setCells g o vs).heap[g]?=some (.cells (cur.toList.take o++vs++cur.toList.drop (o+vs.length)).toArray e f)
 |[],o,w,cur,h,_=>by
  simp only[World.setCells,List.append_nil,List.length_nil,Nat.add_zero,List.take_append_drop,Array.toArray_toList]
  exact h
 |v::r,o,w,cur,h,hl=>by
  have hlt:g<w.heap.size:=lt_of_block h
  have h1:(w.setCell ⟨g,o,none⟩ v).heap[g]?=some (.cells (cur.setIfInBounds o v) e f):=by
   simp only[World.setCell,Array.getElem?_modify,if_true,h,Option.map_some]
   rfl
  have hsz:o<cur.size:=by simp only[List.length_cons]at hl;omega
  have ih:=Dn g e f r (o+1) (w.setCell ⟨g,o,none⟩ v) (cur.setIfInBounds o v) h1 (by simp only[List.length_cons,Array.size_setIfInBounds]at hl⊢;omega)
  rw[World.setCells,ih]
  congr 3
  simp only[Array.toList_setIfInBounds]
  rw[List.take_set,List.drop_set]
  have ht:(List.take (o+1) cur.toList).set o v=List.take o cur.toList++ [v]:=by
   have hto:(List.take o cur.toList).length=o:=by rw[List.length_take,Array.length_toList];omega
   rw[List.take_succ_eq_append_getElem (by simpa using hsz),List.set_append_right _ _ (by omega),hto,Nat.sub_self]
   rfl
  rw[ht]
  simp only[List.length_cons,List.append_assoc,List.cons_append,List.nil_append]
  rw[if_pos (by omega)]
  rw[show o+1+r.length=o+(r.length+1) by omega]
theorem aj.setCells {S:Nat→Prop} (g:Nat) (w:World) (hp:S g∨w.heap.size≤g):∀(vs:List Value) (o:Nat),aj S w (w.setCells g o vs):=by
 intro vs
 induction vs generalizing w with
 |nil=>intro o;exact aj.refl _ _
 |cons v r ih=>
  intro o
  have h1:aj S w (w.setCell ⟨g,o,none⟩ v):=aj.setCell w hp v
  refine h1.trans (ih (w.setCell ⟨g,o,none⟩ v) ?_ (o+1)) (fun _ _ h=>h)
  rcases hp with hp|hp
  ·exact .inl hp
  ·exact .inr (by simpa[World.setCell]using hp)
def Rd (w:World) (v:Value) (n:Nat) (xs:List Value):Prop:=
 (∃ad,v= .slice ad 0 0∧n=0∧xs=[])∨∃b off c,v= .slice (some ⟨b,off,none⟩) n c∧n≤c∧c≤maxLen∧∀j u,xs[j]?=some u→w.cell? ⟨b,off+j,none⟩=some u
def Bo (w:World) (v:Value):Prop:=∀k,v.ownBlock=some k→w.heap.size≤k
theorem addr_add (b off j:Nat):(⟨b,off,none⟩:Addr).add j=⟨b,off+j,none⟩:=by unfold Addr.add;split<;>simp_all
theorem Rd.own {w:World} {base:Nat} {e:TypeId} {size:Nat} {v:Value} {n:Nat} {xs:List Value} (h:w.ownsRow base e size v n xs):Rd w v n xs:=by
 rcases h.2 with⟨rfl,rfl⟩|⟨g,cap,cur,rfl,_,hg,hn,hc,hs,ht⟩
 ·exact .inl ⟨none,rfl,rfl,List.eq_nil_of_length_eq_zero (by simpa using h.1)⟩
 ·refine .inr ⟨g,0,cap,rfl,hn,hc,fun j u hu=>?_⟩
  have:=h.cells (g:=g) rfl j u hu
  rwa [addr_add]at this
theorem Rd.keep {w w':World} {v:Value} {n:Nat} {xs:List Value} (h:Rd w v n xs) {S:Nat→Prop} (f:aj S w w') (hn:∀k,v.ownBlock=some k→¬S k):Rd w' v n xs:=by
 rcases h with h|⟨b,off,c,rfl,h1,h2,h3⟩
 ·exact .inl h
 ·exact .inr ⟨b,off,c,rfl,h1,h2,fun j u hu=>f.cell' (h3 j u hu) (hn b rfl)⟩
theorem Rd.src {P:Program} {w:World} {v:Value} {n:Nat} {xs:List Value} (h:Rd w v n xs) {size:Nat} {tx e':TypeId} (hk:P.underlying tx=some (.slice e')) (hl:xs.length=n*size) (h1:∀u∈xs,u.oneCell'=true):Src P size tx v n xs w:=by
 rcases h with⟨ad,rfl,rfl,rfl⟩|⟨b,off,c,rfl,_,_,h3⟩
 ·cases ad with
  |none=>exact Src.ofNil w hk 0
  |some a=>exact Src.ofSlice w hk a 0 0 [] hl (fun j u hu=>by simp at hu) h1
 ·exact Src.ofSlice w hk _ n c xs hl (fun j u hu=>by rw[addr_add];exact h3 j u hu) h1
section
variable {P:Program}
theorem Dp (w:World) (t tx ty e:TypeId) (i:TypeInfo) (z:Value) (size bytes:Nat) (ht:P.underlying t=some (.slice e)) (hi:P.info? e=some i) (hz:i.zero=some z)
 (hsize:i.size=size) (hby:i.bytes=bytes) (hzs:z.cells.size=size) (hsz:0<size)
 (v:Value) (n:Nat) (xs:List Value) (hown:w.ownsRow 0 e size v n xs) (x:Value) (m:Nat) (news:List Value) (hs:Src P size tx x m news w)
 (h63:n+m≤maxLen) (hbytes:(n+m)*bytes≤140737488355328):
 ∃v' w',(Builtin.append_ #[t,tx] ty #[v,x]).run P w= .ok v' w'∧w'.ownsRow 0 e size v' (n+m) (xs++news)∧aj (eG v) w w'∧lN w v v'∧
  (∃a c,v'= .slice a (n+m) c)∧(v'= .slice none 0 0↔v= .slice none 0 0∧m=0):=by
 subst hsize
 subst hby
 have hnl:=hs.newsLen
 have hsmall:n+m≤9223372036854775807:=by simp only[maxLen]at h63;omega
 have hlen:(xs++news).length=(n+m)*i.size:=by rw[List.length_append,hown.1,hnl,Nat.add_mul]
 have grow:∀(base:Option Addr) (old:Nat),v= .slice base n old→old<n+m→(Builtin.firstCells i.size n (.slice base n old)).run P w.drew= .ok xs.toArray w.drew→
  ∃v' w',(Builtin.append_ #[t,tx] ty #[v,x]).run P w= .ok v' w'∧w'.ownsRow 0 e i.size v' (n+m) (xs++news)∧aj (eG v) w w'∧lN w v v'∧
  (∃a c,v'= .slice a (n+m) c)∧(v'= .slice none 0 0↔v= .slice none 0 0∧m=0):=by
  intro base old hv ho hold
  have hge:=grownCap_ge w (n+m) old e
  have hcm:grownCap w (n+m) old e≤maxLen:=grownCap_le_maxLen w (n+m) old e h63
  have hr:=run_append_grow_src (P:=P) w t tx ty e i z ht hi hz base n old xs hold x m news hs ho (by omega) (growslice_fits (by omega) hbytes)
  subst hv
  refine⟨_,_,hr,⟨hlen, .inr ⟨w.heap.size,_,_,rfl,Nat.zero_le _,heap_alloc_new w.drew _,hge,hcm,?_,?_⟩⟩,?_,?_,⟨_,_,rfl⟩,?_⟩
  ·rw[Array.size_append,List.size_toArray,size_zeroCells,hzs,hlen,←Nat.add_mul]
   congr 1
   omega
  ·simp only[Array.toList_append]
   rw[←hlen]
   exact List.take_left
  ·exact(aj.drew _ w).trans (aj.alloc (eG (.slice base n old)) w.drew _) (fun _ _ h=>h)
  ·intro k hk
   simp[Value.ownBlock]at hk
   exact .inr (by omega)
  ·constructor
   ·intro h;cases h
   ·rintro⟨h1,h2⟩
    cases h1
    omega
 rcases hown.2 with⟨rfl,rfl⟩|⟨g,cap,cur,rfl,hbg,hg,hnc,hcm,hcs,htake⟩
 ·have hx:xs=[]:=List.eq_nil_of_length_eq_zero (by simpa using hown.1)
  subst hx
  by_cases hm:m=0
  ·subst hm
   have hn:news=[]:=List.eq_nil_of_length_eq_zero (by simpa using hnl)
   subst hn
   refine⟨.slice none 0 0,w,?_,World.ownsRow_nil w 0 e i.size,aj.refl _ _,lN.refl _ _,⟨_,_,rfl⟩,by simp⟩
   rcases hs.kind with⟨e',hk⟩|hk<;>simp[Builtin.append_,run_underlying ht,run_underlying hk,sizeOf,typeInfo,hi,hs.len,hs.cells]
  ·exact grow none 0 rfl (by omega) (run_firstCells_none w.drew i.size 0 0 0)
 ·by_cases hroom:n+m≤cap
  ·have hfit:n*i.size+news.length≤cur.size:=by rw[hnl,hcs,←Nat.add_mul];exact Nat.mul_le_mul_right _ hroom
   have hr:=run_append_room_src (P:=P) w t tx ty e i ht hi g 0 n cap x m news hs hroom
    (fun j hj=>by simp[World.cell?,hg];omega) (fun j hj=>by simp[World.frozen?,hg])
   rw[Nat.zero_add]at hr
   refine⟨_,_,hr,⟨hlen, .inr ⟨g,cap,_,rfl,hbg,Dn g e (0,0) news (n*i.size) w cur hg hfit,hroom,hcm,?_,?_⟩⟩,aj.setCells (S:=eG (.slice (some ⟨g,0,none⟩) n cap)) g w (.inl rfl) _ _,lN.refl _ _,⟨_,_,rfl⟩,by simp⟩
   ·simp only[List.size_toArray,List.length_append,List.length_take,List.length_drop,Array.length_toList]
    omega
   ·rw[htake,←hlen]
    exact List.take_left
  ·have holds:∀j u,xs[j]?=some u→w.cell? ((⟨g,0,none⟩:Addr).add j)=some u:=hown.cells (g:=g) rfl
   exact grow (some ⟨g,0,none⟩) cap rfl (by omega) (run_firstCells_some (P:=P) w.drew i.size n ⟨g,0,none⟩ n cap xs hown.1 (by simpa using holds))
theorem Dq {ops:Array Oper} {rest:List Oper} {o:Oper} {a:Act} {Q:Exit→Act→World→Prop} (w:World) (hgd:o.guard=none) (s x:Operand) (t tx:TypeId)
 (ho:o.op= .call {callee:= .builtin .append,args:= #[s,x],argTypes:= #[t,tx]})
 (e:TypeId) (i:TypeInfo) (z:Value) (size bytes:Nat) (ht:P.underlying t=some (.slice e)) (hi:P.info? e=some i) (hz:i.zero=some z)
 (hsize:i.size=size) (hby:i.bytes=bytes) (hzs:z.cells.size=size) (hsz:0<size)
 (v:Value) (n:Nat) (xs:List Value) (hv:a.eval s=v) (hown:w.ownsRow 0 e size v n xs) (xv:Value) (m:Nat) (news:List Value) (hx:a.eval x=xv) (hs:Src P size tx xv m news w)
 (h63:n+m≤maxLen) (hbytes:(n+m)*bytes≤140737488355328)
 (h:∀ad c w',w'.ownsRow 0 e size (.slice ad (n+m) c) (n+m) (xs++news)→aj (eG v) w w'→lN w v (.slice ad (n+m) c)→(Value.slice ad (n+m) c= .slice none 0 0↔v= .slice none 0 0∧m=0)→wpList P ops Q rest (a.put o.dst (.slice ad (n+m) c)) w'):
 wpList P ops Q (o::rest) a w:=by
 obtain⟨v',w',hr,h2,h3,h4,⟨ad,c,rfl⟩,h6⟩:=Dp (P:=P) w t tx o.type e i z size bytes ht hi hz hsize hby hzs hsz v n xs hown xv m news hs h63 hbytes
 refine wpList_plain hgd fun K hK=>?_
 unfold Oper.wp execOp
 simp only[ho,resolve,invoke,builtin,Sem.run_bind,Sem.run_pure,Result.andThen_ok,List.map_toArray,List.map_cons,List.map_nil,hv,hx,hr]
 exact hK _ _ (h ad c w' h2 h3 h4 h6)
theorem zM {ops:Array Oper} {rest:List Oper} {o:Oper} {a:Act} {Q:Exit→Act→World→Prop} (w:World) (news:List Value) (hgd:o.guard=none) (s x:Operand) (t:TypeId)
 (ho:o.op= .call {callee:= .builtin .append,args:= #[s,x],argTypes:= #[t,t]})
 (e:TypeId) (i:TypeInfo) (z:Value) (size bytes:Nat) (ht:P.underlying t=some (.slice e)) (hi:P.info? e=some i) (hz:i.zero=some z)
 (hsize:i.size=size) (hby:i.bytes=bytes) (hzs:z.cells.size=size) (hsz:0<size)
 (v:Value) (n:Nat) (xs:List Value) (hown:w.ownsRow 0 e size v n xs) (m c:Nat) (hv:a.eval s=v) (hx:a.eval x= .slice (some ⟨w.heap.size,0,none⟩) m c)
 (hnl:news.length=m*size) (h1:∀u∈news,u.oneCell'=true) (h63:n+m≤maxLen) (hbytes:(n+m)*bytes≤140737488355328)
 (h:∀ad c w',w'.ownsRow 0 e size (.slice ad (n+m) c) (n+m) (xs++news)→aj (eG v) w w'→lN w v (.slice ad (n+m) c)→wpList P ops Q rest (a.put o.dst (.slice ad (n+m) c)) w'):
 wpList P ops Q (o::rest) a (w.alloc (.cells news.toArray e)):=by
 have hs:Src P size t (.slice (some ⟨w.heap.size,0,none⟩) m c) m news (w.alloc (.cells news.toArray e)):=
  Src.ofSlice _ ht ⟨w.heap.size,0,none⟩ m c news hnl (fun j u hj=>by
   have hadd:(⟨w.heap.size,0,none⟩:Addr).add j=⟨w.heap.size,j,none⟩:=by unfold Addr.add;split<;>simp_all
   rw[hadd,cell_of_row (w.alloc (.cells news.toArray e)) w.heap.size j news.toArray e (0,0) (heap_alloc_new w _)]
   simpa using hj) h1
 refine Dq _ hgd s x t t ho e i z size bytes ht hi hz hsize hby hzs hsz v n xs hv (hown.alloc _) _ m news hx hs h63 hbytes fun ad c' w' g1 g2 g3 _=>?_
 refine h ad c' w' g1 ((aj.alloc (eG v) w _).trans g2 (fun _ _ h=>h)) fun k hk=>?_
 rcases g3 k hk with h|h
 ·exact .inl h
 ·refine .inr ?_
  simp at h
  omega
end
open Go.RowKit
theorem aj.alloc1 {S:Nat→Prop} {a w:World} {o:Obj} (h:aj S a w):aj S a (w.alloc o):=h.trans (aj.alloc S w o) fun _ _ h=>h
theorem aj.zN {S:Nat→Prop} {a w:World} (h:aj S a w):aj S a w.drew:=h.trans (aj.drew S w) fun _ _ h=>h
theorem aj.iy {S:Nat→Prop} {a w:World} {n:Nat} (h:aj S a w):aj S a (w.drewN n):=h.trans (aj.drewN S w n) fun _ _ h=>h
theorem aj.set1 {S:Nat→Prop} {a w:World} {p:Addr} {u:Value} (h:aj S a w) (hp:S p.block∨a.heap.size≤p.block):aj S a (w.setCell p u):=
 h.trans (T:=fun k=>k=p.block) (aj.setCell (S:=fun k=>k=p.block) w (.inl rfl) u) fun i hi he=>by
  rcases hp with hp|hp
  ·exact he▸hp
  ·have hi:i<a.heap.size:=hi
   have he:i=p.block:=he
   omega
theorem aj.aH {S:Nat→Prop} {a w w':World} (h:aj S a w) (k:aj (fun _=>False) w w'):aj S a w':=h.trans k fun _ _ h=>h.elim
theorem worlds (w:World):∃(α:Type) (_:Nonempty α) (K:α→World),(∀s,aj (fun _=>False) w (K s))∧(∃s,w.drew=K s)∧∀s w',aj (fun _=>False) (K s) w'→∃s',w'=K s':=
 ⟨{w':World//aj (fun _=>False) w w'},⟨⟨w,aj.refl _ w⟩⟩,Subtype.val,fun s=>s.2,⟨⟨w.drew,aj.drew _ w⟩,rfl⟩,fun s w' h=>⟨⟨w',s.2.trans h (fun _ _ h=>h)⟩,rfl⟩⟩
theorem dX {P:Program} {id:Nat} {Q:Exit→Act→World→Prop} {a:Act} {w:World} {l:List Oper} {α:Type} (K:α→World) (hm:P.follows .mixedOrders=true) (hB:Region.lexB .any l.toArray=true) (h0:∃s,w.drew=K s)
 (h:wpQuiet P l.toArray (fun w'=>∃s,w'=K s) (fun a'=>∀w',(∃s,w'=K s)→Q .normal a' w') l a):(Code.region id l.toArray true).wp P Q a w:=
 wp_region_quiet (C:=fun w'=>∃s,w'=K s) hm hB h0 (by simpa using h)
theorem Calls.bT {P:Program} {f:FuncId} {args:Array Value} {v:Value} {α:Type} {K:α→World} {s:α} (hK:∀s w',aj (fun _=>False) (K s) w'→∃s',w'=K s')
 (h:Calls P f args (K s) fun e w'=>e= .returned v∧aj (fun _=>False) (K s) w'):Calls P f args (K s) fun e w''=>e= .returned v∧∃s',w''=K s':=
 h.mono fun _ _ ⟨he,hf⟩=>⟨he,hK s _ hf⟩
end Go.Proofs.YtlhmbkjdfjoilaaGreat
namespace Go.Proofs.YtlhmbkjdfjoilaaGreat
abbrev aZ:=List (Int×Int)
def iR:Int→aZ→Prop
 |_,[]=>True
 |lo,r::l=>lo≤r.1∧r.1≤r.2∧iR (r.2+2) l
def bK (l:aZ) (n:Int):Prop:=∃r∈l,r.1≤n∧n≤r.2
theorem nM (n:Int):¬bK [] n:=fun⟨_,h,_⟩=>by cases h
theorem oM (r:Int×Int) (l:aZ) (n:Int):bK (r::l) n↔(r.1≤n∧n≤r.2)∨bK l n:=by
 constructor
 ·rintro⟨x,hx,h⟩
  rcases List.mem_cons.1 hx with rfl|hx
  ·exact .inl h
  ·exact .inr ⟨x,hx,h⟩
 ·rintro(h|⟨x,hx,h⟩)
  ·exact⟨r,List.mem_cons_self,h⟩
  ·exact⟨x,List.mem_cons_of_mem _ hx,h⟩
theorem yG:∀ {l:aZ} {lo n:Int},iR lo l→bK l n→lo≤n
 |[],_,_,_,h=>absurd h (nM _)
 |r::l,lo,n,h,hn=>by
  rcases(oM r l n).1 hn with h1|h1
  ·exact Int.le_trans h.1 h1.1
  ·have:=yG h.2.2 h1
   have:=h.1
   have:=h.2.1
   omega
theorem iR.mono {lo lo':Int} {l:aZ} (h:iR lo l) (hl:lo'≤lo):iR lo' l:=by
 cases l with
 |nil=>trivial
 |cons r l=>exact⟨Int.le_trans hl h.1,h.2.1,h.2.2⟩
theorem TW:∀ {l l':aZ} {lo lo':Int},iR lo l→iR lo' l'→(∀n,bK l n↔bK l' n)→l=l'
 |[],[],_,_,_,_,_=>rfl
 |[],r::l',_,_,_,h',he=>absurd ((he r.1).2 ((oM _ _ _).2 (.inl ⟨Int.le_refl _,h'.2.1⟩))) (nM _)
 |r::l,[],_,_,h,_,he=>absurd ((he r.1).1 ((oM _ _ _).2 (.inl ⟨Int.le_refl _,h.2.1⟩))) (nM _)
 |r::l,r'::l',lo,lo',h,h',he=>by
  have e1:=(he r.1).1 ((oM _ _ _).2 (.inl ⟨Int.le_refl _,h.2.1⟩))
  have e2:=(he r'.1).2 ((oM _ _ _).2 (.inl ⟨Int.le_refl _,h'.2.1⟩))
  have a1:=yG (l:=r'::l') (lo:=r'.1) ⟨Int.le_refl _,h'.2.1,h'.2.2⟩ e1
  have a2:=yG (l:=r::l) (lo:=r.1) ⟨Int.le_refl _,h.2.1,h.2.2⟩ e2
  have hs:r.1=r'.1:=by omega
  have top:r.2=r'.2:=by
   rcases Int.lt_trichotomy r.2 r'.2 with hlt|heq|hgt
   ·exfalso
    have:=(he (r.2+1)).2 ((oM _ _ _).2 (.inl ⟨by have:=h.2.1;omega,by omega⟩))
    rcases(oM _ _ _).1 this with h1|h1
    ·omega
    ·have:=yG h.2.2 h1;omega
   ·exact heq
   ·exfalso
    have:=(he (r'.2+1)).1 ((oM _ _ _).2 (.inl ⟨by have:=h'.2.1;omega,by omega⟩))
    rcases(oM _ _ _).1 this with h1|h1
    ·omega
    ·have:=yG h'.2.2 h1;omega
  have hr:r=r':=Prod.ext hs top
  subst hr
  have hl:l=l':=TW h.2.2 h'.2.2 fun n=>by
   have:=he n
   rw[oM,oM]at this
   constructor
   ·intro hn
    have g:=yG h.2.2 hn
    rcases this.1 (.inr hn)with h1|h1
    ·omega
    ·exact h1
   ·intro hn
    have g:=yG h'.2.2 hn
    rcases this.2 (.inr hn)with h1|h1
    ·omega
    ·exact h1
  rw[hl]
end Go.Proofs.YtlhmbkjdfjoilaaGreat
namespace Go.Proofs.YtlhmbkjdfjoilaaGreat
def ny (lo hi:Int):aZ→aZ
 |[]=>if lo≤hi then [(lo,hi)]else []
 |x::b=>if x.2<lo∨hi<x.1 then ny lo hi b else(if lo<x.1 then [(lo,x.1-1)]else [])++ny (x.2+1) hi b
def tN (a b:aZ):aZ:=a.flatMap fun r=>ny r.1 r.2 b
theorem FN (a b:aZ) (n:Int):bK (a++b) n↔bK a n∨bK b n:=by
 constructor
 ·rintro⟨r,hr,h⟩
  rcases List.mem_append.1 hr with h1|h1
  ·exact .inl ⟨r,h1,h⟩
  ·exact .inr ⟨r,h1,h⟩
 ·rintro(⟨r,hr,h⟩|⟨r,hr,h⟩)
  ·exact⟨r,List.mem_append_left _ hr,h⟩
  ·exact⟨r,List.mem_append_right _ hr,h⟩
theorem Jj (a b n:Int):bK [(a,b)] n↔a≤n∧n≤b:=by
 constructor
 ·rintro⟨r,hr,h⟩
  simp at hr
  subst hr
  exact h
 ·intro h
  exact⟨_,List.mem_singleton.2 rfl,h⟩
theorem MW:∀(b:aZ) (lo hi lb n:Int),iR lb b→(bK (ny lo hi b) n↔lo≤n∧n≤hi∧¬bK b n)
 |[],lo,hi,lb,n,_=>by
  unfold ny
  by_cases h:lo≤hi
  ·rw[if_pos h,Jj]
   exact⟨fun⟨h1,h2⟩=>⟨h1,h2,nM n⟩,fun⟨h1,h2,_⟩=>⟨h1,h2⟩⟩
  ·rw[if_neg h]
   exact⟨fun h1=>absurd h1 (nM n),fun⟨h1,h2,_⟩=>by omega⟩
 |x::b,lo,hi,lb,n,hb=>by
  unfold ny
  have ih1:=MW b lo hi (x.2+2) n hb.2.2
  have ih2:=MW b (x.2+1) hi (x.2+2) n hb.2.2
  have hx:=hb.2.1
  have hge:bK b n→x.2+2≤n:=fun h=>yG hb.2.2 h
  rw[oM]
  by_cases h:x.2<lo∨hi<x.1
  ·rw[if_pos h,ih1]
   constructor
   ·rintro⟨h1,h2,h3⟩
    exact⟨h1,h2,fun h4=>h4.elim (fun h5=>by omega) h3⟩
   ·rintro⟨h1,h2,h3⟩
    exact⟨h1,h2,fun h4=>h3 (.inr h4)⟩
  ·rw[if_neg h,FN,ih2]
   have hfirst:bK (if lo<x.1 then [(lo,x.1-1)]else []) n↔lo≤n∧n<x.1:=by
    by_cases h1:lo<x.1
    ·rw[if_pos h1,Jj];omega
    ·rw[if_neg h1];exact⟨fun h=>absurd h (nM n),fun h=>by omega⟩
   rw[hfirst]
   constructor
   ·rintro(⟨h1,h2⟩|⟨h1,h2,h3⟩)
    ·exact⟨h1,by omega,fun h4=>h4.elim (fun h5=>by omega) (fun h5=>by have:=hge h5;omega)⟩
    ·exact⟨by omega,h2,fun h4=>h4.elim (fun h5=>by omega) h3⟩
   ·rintro⟨h1,h2,h3⟩
    by_cases h4:n<x.1
    ·exact .inl ⟨h1,h4⟩
    ·refine .inr ⟨?_,h2,fun h5=>h3 (.inr h5)⟩
     by_cases h5:n≤x.2
     ·exact absurd (.inl ⟨by omega,h5⟩) h3
     ·omega
theorem MX:∀(b:aZ) (lo hi lb:Int),iR lb b→iR lo (ny lo hi b)∧∀r∈ny lo hi b,r.2≤hi
 |[],lo,hi,lb,_=>by
  unfold ny
  by_cases h:lo≤hi
  ·rw[if_pos h]
   exact⟨⟨Int.le_refl _,h,trivial⟩,fun r hr=>by simp at hr;subst hr;exact Int.le_refl _⟩
  ·rw[if_neg h]
   exact⟨trivial,fun r hr=>by cases hr⟩
 |x::b,lo,hi,lb,hb=>by
  unfold ny
  have ih1:=MX b lo hi (x.2+2) hb.2.2
  have ih2:=MX b (x.2+1) hi (x.2+2) hb.2.2
  have hx:=hb.2.1
  by_cases h:x.2<lo∨hi<x.1
  ·rw[if_pos h];exact ih1
  ·rw[if_neg h]
   by_cases h1:lo<x.1
   ·rw[if_pos h1]
    refine⟨⟨Int.le_refl _,by show lo≤x.1-1;omega,ih2.1.mono (by show x.1-1+2≤x.2+1;omega)⟩,fun r hr=>?_⟩
    rcases List.mem_cons.1 hr with rfl|hr
    ·show x.1-1≤hi;omega
    ·exact ih2.2 r hr
   ·rw[if_neg h1]
    exact⟨ih2.1.mono (by omega),ih2.2⟩
theorem TY:∀ {a b:aZ} {lo hi:Int},iR lo a→(∀r∈a,r.2≤hi)→iR (hi+2) b→lo≤hi+2→iR lo (a++b)
 |[],_,_,_,_,_,hb,hl=>hb.mono hl
 |r::a,b,lo,hi,ha,hh,hb,_=>⟨ha.1,ha.2.1,TY ha.2.2 (fun x hx=>hh x (List.mem_cons_of_mem _ hx)) hb (by have:=hh r List.mem_cons_self;omega)⟩
theorem MZ:∀(a b:aZ) (lo lb:Int),iR lo a→iR lb b→iR lo (tN a b)
 |[],_,_,_,_,_=>trivial
 |r::a,b,lo,lb,ha,hb=>by
  have h1:=MX b r.1 r.2 lb hb
  have h2:=MZ a b (r.2+2) lb ha.2.2 hb
  exact(TY h1.1 h1.2 h2 (by have:=ha.2.1;omega)).mono ha.1
theorem M_:∀(a b:aZ) (lb n:Int),iR lb b→(bK (tN a b) n↔bK a n∧¬bK b n)
 |[],b,lb,n,_=>⟨fun h=>absurd h (nM n),fun h=>absurd h.1 (nM n)⟩
 |r::a,b,lb,n,hb=>by
  show bK (ny r.1 r.2 b++tN a b) n↔_
  rw[FN,MW b r.1 r.2 lb n hb,M_ a b lb n hb,oM]
  constructor
  ·rintro(⟨h1,h2,h3⟩|⟨h1,h2⟩)
   ·exact⟨.inl ⟨h1,h2⟩,h3⟩
   ·exact⟨.inr h1,h2⟩
  ·rintro⟨h1|h1,h2⟩
   ·exact .inl ⟨h1.1,h1.2,h2⟩
   ·exact .inr ⟨h1,h2⟩
end Go.Proofs.YtlhmbkjdfjoilaaGreat
namespace Go.Proofs.YtlhmbkjdfjoilaaGreat
def tV:Int→aZ→Prop
 |_,[]=>True
 |lo,r::l=>lo≤r.1∧r.1≤r.2∧tV r.1 l
def jn:Int×Int→aZ→aZ
 |cur,[]=> [cur]
 |cur,r::l=>if r.1≤cur.2+1 then jn (cur.1,max cur.2 r.2) l else cur::jn r l
def rZ:aZ→aZ
 |[]=> []
 |r::l=>jn r l
theorem tV.mono {lo lo':Int} {l:aZ} (h:tV lo l) (hl:lo'≤lo):tV lo' l:=by
 cases l with
 |nil=>trivial
 |cons r l=>exact⟨Int.le_trans hl h.1,h.2.1,h.2.2⟩
theorem Na:∀(l:aZ) (cur:Int×Int) (n:Int),tV cur.1 l→cur.1≤cur.2→(bK (jn cur l) n↔(cur.1≤n∧n≤cur.2)∨bK l n)
 |[],cur,n,_,_=>by
  unfold jn
  exact⟨fun⟨r,hr,h⟩=>by simp at hr;subst hr;exact .inl h,fun h=>h.elim (fun h=>⟨cur,List.mem_singleton.2 rfl,h⟩) (fun h=>absurd h (nM n))⟩
 |r::l,cur,n,hr,hc=>by
  unfold jn
  rw[oM r l n]
  have h1:=hr.1
  have h2:=hr.2.1
  by_cases h:r.1≤cur.2+1
  ·rw[if_pos h,Na l (cur.1,max cur.2 r.2) n (hr.2.2.mono hr.1) (by show cur.1≤max cur.2 r.2;omega)]
   show(cur.1≤n∧n≤max cur.2 r.2)∨bK l n↔_
   constructor
   ·rintro(h3|h3)
    ·by_cases h4:n≤cur.2
     ·exact .inl ⟨h3.1,h4⟩
     ·exact .inr (.inl ⟨by omega,by omega⟩)
    ·exact .inr (.inr h3)
   ·rintro(h3|h3|h3)
    ·exact .inl ⟨h3.1,by omega⟩
    ·exact .inl ⟨by omega,by omega⟩
    ·exact .inr h3
  ·rw[if_neg h,oM,Na l r n hr.2.2 h2]
theorem Nb:∀(l:aZ) (cur:Int×Int),tV cur.1 l→cur.1≤cur.2→iR cur.1 (jn cur l)
 |[],cur,_,hc=>by unfold jn;exact⟨Int.le_refl _,hc,trivial⟩
 |r::l,cur,hr,hc=>by
  unfold jn
  have h1:=hr.1
  have h2:=hr.2.1
  by_cases h:r.1≤cur.2+1
  ·rw[if_pos h]
   exact Nb l (cur.1,max cur.2 r.2) (hr.2.2.mono hr.1) (by show cur.1≤max cur.2 r.2;omega)
  ·rw[if_neg h]
   exact⟨Int.le_refl _,hc,(Nb l r hr.2.2 h2).mono (by omega)⟩
theorem aaA {l:aZ} {lo:Int} (h:tV lo l) (n:Int):bK (rZ l) n↔bK l n:=by
 cases l with
 |nil=>exact Iff.rfl
 |cons r l=>rw[rZ,Na l r n h.2.2 h.2.1,oM]
theorem aaB {l:aZ} {lo:Int} (h:tV lo l):iR lo (rZ l):=by
 cases l with
 |nil=>trivial
 |cons r l=>exact(Nb l r h.2.2 h.2.1).mono h.1
end Go.Proofs.YtlhmbkjdfjoilaaGreat
namespace Go.Proofs.YtlhmbkjdfjoilaaGreat
def mP (a:Int):Option Int→Int→Option Int
 |none,x=>if a<x then some x else none
 |some b,x=>if a<x∧x<b then some x else some b
def nextL (l:List Int) (a:Int):Option Int:=l.foldl (mP a) none
theorem aaC (l:List Int) (x a:Int):nextL (l++ [x]) a=mP a (nextL l a) x:=by simp[nextL]
theorem T_ (a:Int):∀(l:List Int) (b:Option Int),l.foldl (mP a) b=none↔b=none∧∀x∈l,x≤a
 |[],b=>by simp
 |x::l,b=>by
  rw[List.foldl_cons,T_ a l (mP a b x)]
  cases b with
  |none=>
   by_cases h:a<x
   ·simp only[mP,if_pos h,List.mem_cons]
    constructor
    ·intro hc;exact absurd hc.1 (by simp)
    ·intro hc;have:=hc.2 x (.inl rfl);omega
   ·simp only[mP,if_neg h,List.mem_cons,true_and]
    constructor
    ·rintro hc y (rfl|hy)
     ·omega
     ·exact hc y hy
    ·exact fun hc y hy=>hc y (.inr hy)
  |some b=>
   simp only[mP]
   by_cases h:a<x∧x<b
   ·rw[if_pos h];simp
   ·rw[if_neg h];simp
theorem Ua (a:Int):∀(l:List Int) (b:Option Int) (m:Int),l.foldl (mP a) b=some m→(b=some m∨(m∈l∧a<m))∧(∀y,b=some y→m≤y)∧∀x∈l,a<x→m≤x
 |[],b,m,h=>by
  have h:b=some m:=h
  subst h
  exact⟨.inl rfl,(fun y hy=>by cases hy;omega),fun x hx=>by cases hx⟩
 |x::l,b,m,h=>by
  rw[List.foldl_cons]at h
  obtain⟨h1,h2,h3⟩:=Ua a l _ m h
  cases b with
  |none=>
   by_cases hx:a<x
   ·have hs:mP a none x=some x:=by simp[mP,hx]
    rw[hs]at h1 h2
    refine⟨.inr ?_,(fun y hy=>by cases hy),?_⟩
    ·rcases h1 with h1|h1
     ·cases h1;exact⟨List.mem_cons_self,hx⟩
     ·exact⟨List.mem_cons_of_mem _ h1.1,h1.2⟩
    ·intro y hy hay
     rcases List.mem_cons.1 hy with rfl|hy
     ·exact h2 _ rfl
     ·exact h3 y hy hay
   ·have hs:mP a none x=none:=by simp[mP,hx]
    rw[hs]at h1 h2
    refine⟨.inr ?_,(fun y hy=>by cases hy),?_⟩
    ·rcases h1 with h1|h1
     ·cases h1
     ·exact⟨List.mem_cons_of_mem _ h1.1,h1.2⟩
    ·intro y hy hay
     rcases List.mem_cons.1 hy with rfl|hy
     ·omega
     ·exact h3 y hy hay
  |some b=>
   by_cases hx:a<x∧x<b
   ·have hs:mP a (some b) x=some x:=by simp[mP,hx]
    rw[hs]at h1 h2
    have h4:=h2 x rfl
    refine⟨?_,(fun y hy=>by cases hy;omega),?_⟩
    ·rcases h1 with h1|h1
     ·cases h1;exact .inr ⟨List.mem_cons_self,hx.1⟩
     ·exact .inr ⟨List.mem_cons_of_mem _ h1.1,h1.2⟩
    ·intro y hy hay
     rcases List.mem_cons.1 hy with rfl|hy
     ·exact h4
     ·exact h3 y hy hay
   ·have hs:mP a (some b) x=some b:=by simp only[mP,if_neg hx]
    rw[hs]at h1 h2
    have h4:=h2 b rfl
    refine⟨?_,(fun y hy=>by cases hy;exact h4),?_⟩
    ·rcases h1 with h1|h1
     ·exact .inl h1
     ·exact .inr ⟨List.mem_cons_of_mem _ h1.1,h1.2⟩
    ·intro y hy hay
     rcases List.mem_cons.1 hy with rfl|hy
     ·omega
     ·exact h3 y hy hay
theorem Jk {l:List Int} {a:Int}:nextL l a=none↔∀x∈l,x≤a:=by
 unfold nextL
 rw[T_]
 simp
theorem xq {l:List Int} {a m:Int} (h:nextL l a=some m):m∈l∧a<m∧∀x∈l,a<x→m≤x:=by
 obtain⟨h1,_,h3⟩:=Ua a l none m h
 rcases h1 with h1|h1
 ·cases h1
 ·exact⟨h1.1,h1.2,h3⟩
def ahead (l:List Int):Option Int→Nat
 |none=>0
 |some m=>(l.filter fun x=>decide (m≤x)).length
theorem Nc {l:List Int} {m:Int} (hm:m∈l):ahead l (nextL l m)<ahead l (some m):=by
 have h0:0<ahead l (some m):=by
  unfold ahead
  exact List.length_pos_of_mem (List.mem_filter.2 ⟨hm,by simp⟩)
 cases h:nextL l m with
 |none=>exact h0
 |some t=>
  obtain⟨_,h2,_⟩:=xq h
  unfold ahead
  have key:∀l:List Int,m∈l→(l.filter fun x=>decide (t≤x)).length<(l.filter fun x=>decide (m≤x)).length:=by
   intro l
   have mono:∀l:List Int,(l.filter fun x=>decide (t≤x)).length≤(l.filter fun x=>decide (m≤x)).length:=by
    intro l
    induction l with
    |nil=>simp
    |cons x l ih=>
     simp only[List.filter_cons]
     by_cases h4:t≤x
     ·simp[h4,show m≤x by omega];omega
     ·by_cases h5:m≤x<;>simp[h4,h5]<;>omega
   induction l with
   |nil=>intro h;cases h
   |cons x l ih=>
    intro hx
    simp only[List.filter_cons]
    rcases List.mem_cons.1 hx with rfl|hx
    ·have:=mono l
     simp[show ¬t≤m by omega]
     omega
    ·have:=ih hx
     by_cases h4:t≤x
     ·simp[h4,show m≤x by omega];omega
     ·by_cases h5:m≤x<;>simp[h4,h5]<;>omega
  exact key l hm
def fC (l:aZ):List Int:=l.flatMap fun r=> [r.1,r.2+1]
theorem Dt {l:aZ} {x:Int}:x∈fC l↔∃r∈l,x=r.1∨x=r.2+1:=by
 simp[fC]
theorem between {l:aZ} {at_ Jl n:Int} (h:∀p∈fC l,at_<p→Jl≤p) (h1:at_≤n) (h2:n<Jl):bK l n↔bK l at_:=by
 constructor
 ·rintro⟨r,hr,h3,h4⟩
  refine⟨r,hr,?_,by omega⟩
  by_cases h5:at_<r.1
  ·have:=h r.1 (Dt.2 ⟨r,hr, .inl rfl⟩) h5;omega
  ·omega
 ·rintro⟨r,hr,h3,h4⟩
  refine⟨r,hr,by omega,?_⟩
  have:=h (r.2+1) (Dt.2 ⟨r,hr, .inr rfl⟩) (by omega)
  omega
def xu (out:aZ) (a hi:Int):aZ:=
 match out.getLast? with
 |none=> [(a,hi)]
 |some r=>if r.2=a-1 then out.dropLast++ [(r.1,hi)]else out++ [(a,hi)]
theorem Du:∀ {l:aZ} {lo:Int} {r:Int×Int},iR lo (l++ [r])↔iR lo l∧lo≤r.1∧r.1≤r.2∧∀x∈l,x.2+2≤r.1
 |[],lo,r=>by simp[iR]
 |x::l,lo,r=>by
  rw[List.cons_append]
  show(lo≤x.1∧x.1≤x.2∧iR (x.2+2) (l++ [r]))↔_
  rw[Du]
  constructor
  ·rintro⟨h1,h2,h3,h4,h5,h6⟩
   refine⟨⟨h1,h2,h3⟩,by omega,h5,fun y hy=>?_⟩
   rcases List.mem_cons.1 hy with rfl|hy
   ·exact h4
   ·exact h6 y hy
  ·rintro⟨⟨h1,h2,h3⟩,h4,h5,h6⟩
   exact⟨h1,h2,h3,h6 x List.mem_cons_self,h5,fun y hy=>h6 y (List.mem_cons_of_mem _ hy)⟩
theorem FP (a hi:Int):xu [] a hi=[(a,hi)]:=rfl
theorem Bq (l:aZ) (r:Int×Int) (a hi:Int):xu (l++ [r]) a hi=if r.2=a-1 then l++ [(r.1,hi)]else l++ [r]++ [(a,hi)]:=by
 simp[xu]
theorem Jm (l:aZ) (r:Int×Int) (n:Int):bK (l++ [r]) n↔bK l n∨(r.1≤n∧n≤r.2):=by
 rw[FN,Jj r.1 r.2]
theorem Ub {out:aZ} {lo a hi:Int} (h:iR lo out) (ho:∀r∈out,r.2<a) (hl:lo≤a) (hh:a≤hi):
 iR lo (xu out a hi)∧(∀r∈xu out a hi,r.2≤hi)∧∀n,bK (xu out a hi) n↔bK out n∨(a≤n∧n≤hi):=by
 rcases List.eq_nil_or_concat out with rfl|⟨l,r,rfl⟩
 ·rw[FP]
  refine⟨⟨hl,hh,trivial⟩,fun r hr=>by simp at hr;subst hr;exact Int.le_refl _,fun n=>?_⟩
  rw[Jj]
  exact⟨.inr,fun h=>h.elim (fun h=>absurd h (nM n)) id⟩
 ·rw[List.concat_eq_append]at*
  rw[Bq]
  obtain⟨h1,h2,h3,h4⟩:=Du.1 h
  have hr:=ho r (by simp)
  by_cases he:r.2=a-1
  ·rw[if_pos he]
   refine⟨Du.2 ⟨h1,h2,by show r.1≤hi;omega,h4⟩,fun x hx=>?_,fun n=>?_⟩
   ·rcases List.mem_append.1 hx with hx|hx
    ·have:=ho x (by simp[hx]);omega
    ·simp at hx;subst hx;exact Int.le_refl _
   ·rw[Jm,Jm]
    constructor
    ·rintro(h5|h5)
     ·exact .inl (.inl h5)
     ·by_cases h6:n≤r.2
      ·exact .inl (.inr ⟨h5.1,h6⟩)
      ·exact .inr ⟨by omega,h5.2⟩
    ·rintro((h5|h5)|h5)
     ·exact .inl h5
     ·exact .inr ⟨h5.1,by show n≤hi;omega⟩
     ·exact .inr ⟨by show r.1≤n;omega,h5.2⟩
  ·rw[if_neg he]
   refine⟨Du.2 ⟨h,hl,hh,fun x hx=>?_⟩,fun x hx=>?_,fun n=>?_⟩
   ·show x.2+2≤a
    rcases List.mem_append.1 hx with hx1|hx1
    ·have:=h4 x hx1;omega
    ·simp at hx1;subst hx1;omega
   ·rcases List.mem_append.1 hx with hx|hx
    ·have:=ho x hx;omega
    ·simp at hx;subst hx;exact Int.le_refl _
   ·rw[Jm (l++ [r])]
def fV (how:Int) (p q:Prop):Prop:=if how=2 then p∧¬q else if how=1 then p∧q else p∨q
theorem fV.Nh {how:Int} {p q:Prop} (hp:¬p) (hq:¬q):¬fV how p q:=by
 unfold fV
 split
 ·exact fun h=>hp h.1
 ·split
  ·exact fun h=>hp h.1
  ·exact fun h=>h.elim hp hq
theorem fV.congr {how:Int} {p q p' q':Prop} (hp:p↔p') (hq:q↔q'):fV how p q↔fV how p' q':=by
 rw[propext hp,propext hq]
structure xw (a b:aZ) (how:Int) (out:aZ) (x:Option Int):Prop where
 from_:iR 1 out
 some_:∀m,x=some m→1≤m∧m∈fC a++fC b∧(∀r∈out,r.2<m)∧∀n,bK out n↔n<m∧fV how (bK a n) (bK b n)
 none_:x=none→∀n,bK out n↔fV how (bK a n) (bK b n)
theorem Jo {a:aZ} (ha:iR 1 a) {n:Int} (h:bK a n):∃p∈fC a,0<p∧p≤n∧n<p+0+(n-p+1):=by
 obtain⟨r,hr,h1,h2⟩:=h
 have:1≤r.1:=by
  have:∀ {l:aZ} {lo:Int},iR lo l→∀r∈l,lo≤r.1:=by
   intro l
   induction l with
   |nil=>intro lo _ r hr;cases hr
   |cons y l ih=>
    intro lo h r hr
    rcases List.mem_cons.1 hr with rfl|hr
    ·exact h.1
    ·have:=ih h.2.2 r hr
     have:=h.1
     have:=h.2.1
     omega
  exact this ha r hr
 exact⟨r.1,Dt.2 ⟨r,hr, .inl rfl⟩,by omega,h1,by omega⟩
theorem Uc {a b:aZ} (how:Int) (ha:iR 1 a) (hb:iR 1 b):xw a b how [] (nextL (fC a++fC b) 0):=by
 refine⟨trivial,fun m hm=>?_,fun hm n=>?_⟩
 ·obtain⟨h1,h2,h3⟩:=xq hm
  refine⟨by omega,h1,(fun r hr=>by cases hr),fun n=>⟨fun h=>absurd h (nM n),fun⟨h4,h5⟩=>?_⟩⟩
  refine absurd h5 (fV.Nh (fun h=>?_) fun h=>?_)
  ·obtain⟨p,hp,h6,h7,_⟩:=Jo ha h
   have:=h3 p (List.mem_append_left _ hp) h6
   omega
  ·obtain⟨p,hp,h6,h7,_⟩:=Jo hb h
   have:=h3 p (List.mem_append_right _ hp) h6
   omega
 ·have h3:=Jk.1 hm
  refine⟨fun h=>absurd h (nM n),fun h5=>absurd h5 (fV.Nh (fun h=>?_) fun h=>?_)⟩
  ·obtain⟨p,hp,h6,h7,_⟩:=Jo ha h
   have:=h3 p (List.mem_append_left _ hp)
   omega
  ·obtain⟨p,hp,h6,h7,_⟩:=Jo hb h
   have:=h3 p (List.mem_append_right _ hp)
   omega
theorem Ud {a b:aZ} {how m n:Int} (h:nextL (fC a++fC b) m=none) (hn:m≤n):¬fV how (bK a n) (bK b n):=by
 have h3:=Jk.1 h
 refine fV.Nh (fun⟨r,hr,_,h2⟩=>?_) fun⟨r,hr,_,h2⟩=>?_
 ·have:=h3 (r.2+1) (List.mem_append_left _ (Dt.2 ⟨r,hr, .inr rfl⟩));omega
 ·have:=h3 (r.2+1) (List.mem_append_right _ (Dt.2 ⟨r,hr, .inr rfl⟩));omega
theorem Jp {a b:aZ} {how m:Int} {out:aZ} (h:xw a b how out (some m)) (hi:¬fV how (bK a m) (bK b m)):xw a b how out (nextL (fC a++fC b) m):=by
 obtain⟨h1,h2,h3,h4⟩:=h.some_ m rfl
 refine⟨h.from_,fun t ht=>?_,fun hn n=>?_⟩
 ·obtain⟨g1,g2,g3⟩:=xq ht
  refine⟨by omega,g1,fun r hr=>by have:=h3 r hr;omega,fun n=>?_⟩
  rw[h4]
  constructor
  ·exact fun h=>⟨by omega,h.2⟩
  ·rintro⟨h5,h6⟩
   by_cases h7:n<m
   ·exact⟨h7,h6⟩
   ·exact absurd ((fV.congr (between (fun p hp hm=>g3 p (List.mem_append_left _ hp) hm) (by omega) h5) (between (fun p hp hm=>g3 p (List.mem_append_right _ hp) hm) (by omega) h5)).1 h6) hi
 ·rw[h4]
  refine⟨fun h=>h.2,fun h6=>⟨?_,h6⟩⟩
  by_cases h7:n<m
  ·exact h7
  ·exact absurd h6 (Ud hn (by omega))
theorem Jq {a b:aZ} {how m t:Int} {out:aZ} (h:xw a b how out (some m)) (hi:fV how (bK a m) (bK b m)) (ht:nextL (fC a++fC b) m=some t):xw a b how (xu out m (t-1)) (some t):=by
 obtain⟨h1,h2,h3,h4⟩:=h.some_ m rfl
 obtain⟨g1,g2,g3⟩:=xq ht
 obtain⟨p1,p2,p3⟩:=Ub (hi:=t-1) h.from_ h3 h1 (by omega)
 refine⟨p1,fun t' ht'=>?_,fun hn=>by cases hn⟩
 cases ht'
 refine⟨by omega,g1,fun r hr=>by have:=p2 r hr;omega,fun n=>?_⟩
 rw[p3,h4]
 constructor
 ·rintro(h5|h5)
  ·exact⟨by omega,h5.2⟩
  ·exact⟨by omega,(fV.congr (between (Jl:=t) (fun p hp hm=>g3 p (List.mem_append_left _ hp) hm) h5.1 (by omega)) (between (Jl:=t) (fun p hp hm=>g3 p (List.mem_append_right _ hp) hm) h5.1 (by omega))).2 hi⟩
 ·rintro⟨h5,h6⟩
  by_cases h7:n<m
  ·exact .inl ⟨h7,h6⟩
  ·exact .inr ⟨by omega,by omega⟩
theorem Jr {a b:aZ} {how m:Int} (hi:fV how (bK a m) (bK b m)):∃t,nextL (fC a++fC b) m=some t:=by
 cases h:nextL (fC a++fC b) m with
 |none=>exact absurd hi (Ud h (Int.le_refl _))
 |some t=>exact⟨t,rfl⟩
structure Bv (l:List Int) (out:aZ) (x:Option Int):Prop where
 from_:iR 1 out
 some_:∀m,x=some m→1≤m∧m∈l∧(∀r∈out,r.2<m)∧∀n,bK out n↔0<n∧n<m∧n∈l
 none_:x=none→∀n,bK out n↔0<n∧n∈l
theorem aaD (l:List Int):Bv l [] (nextL l 0):=by
 refine⟨trivial,fun m hm=>?_,fun hm n=>?_⟩
 ·obtain⟨h1,h2,h3⟩:=xq hm
  refine⟨by omega,h1,(fun r hr=>by cases hr),fun n=>⟨fun h=>absurd h (nM n),fun⟨h4,h5,h6⟩=>?_⟩⟩
  have:=h3 n h6 h4
  omega
 ·have h3:=Jk.1 hm
  refine⟨fun h=>absurd h (nM n),fun⟨h4,h5⟩=>?_⟩
  have:=h3 n h5
  omega
theorem aaE {l:List Int} {out:aZ} {m:Int} (h:Bv l out (some m)):Bv l (xu out m m) (nextL l m):=by
 obtain⟨h1,h2,h3,h4⟩:=h.some_ m rfl
 obtain⟨p1,p2,p3⟩:=Ub (hi:=m) h.from_ h3 h1 (Int.le_refl _)
 refine⟨p1,fun t ht=>?_,fun hn n=>?_⟩
 ·obtain⟨g1,g2,g3⟩:=xq ht
  refine⟨by omega,g1,fun r hr=>by have:=p2 r hr;omega,fun n=>?_⟩
  rw[p3,h4]
  constructor
  ·rintro(h5|h5)
   ·exact⟨h5.1,by omega,h5.2.2⟩
   ·have:n=m:=by omega
    subst this
    exact⟨by omega,g2,h2⟩
  ·rintro⟨h5,h6,h7⟩
   by_cases h8:n<m
   ·exact .inl ⟨h5,h8,h7⟩
   ·by_cases h9:m<n
    ·have:=g3 n h7 h9;omega
    ·exact .inr ⟨by omega,by omega⟩
 ·have g:=Jk.1 hn
  rw[p3,h4]
  constructor
  ·rintro(h5|h5)
   ·exact⟨h5.1,h5.2.2⟩
   ·have:n=m:=by omega
    subst this
    exact⟨by omega,h2⟩
  ·rintro⟨h5,h7⟩
   have:=g n h7
   by_cases h8:n<m
   ·exact .inl ⟨h5,h8,h7⟩
   ·exact .inr ⟨by omega,by omega⟩
end Go.Proofs.YtlhmbkjdfjoilaaGreat
