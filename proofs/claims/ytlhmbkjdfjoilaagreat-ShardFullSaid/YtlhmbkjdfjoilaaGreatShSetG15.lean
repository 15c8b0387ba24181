/- Words for the law ShSet: Sh3, Sh4, Sh5, Sh6, Sh7, CaJoin. -/
import Derived.Test.YtlhmbkjdfjoilaaGreatShSetG0
import Derived.Test.YtlhmbkjdfjoilaaGreatShSetG6
import Derived.Test.YtlhmbkjdfjoilaaGreatShSetG10
import Derived.Test.YtlhmbkjdfjoilaaGreatShSetG14
set_option linter.unusedSimpArgs false
set_option linter.unusedVariables false
set_option maxHeartbeats 32000000
set_option maxRecDepth 1000000
namespace Go.Proofs.YtlhmbkjdfjoilaaGreat
open Go.RowKit
structure bK where
 id:Int
 pv:Value
 iv:Value
instance:Inhabited bK:=⟨⟨0, .slice none 0 0, .slice none 0 0⟩⟩
def bK.cells (q:bK):List Value:=[.int .i64 q.id,q.pv,q.iv]
def bK.shaped (q:bK):Prop:=(∃a n c,q.pv= .slice a n c)∧∃a n c,q.iv= .slice a n c
theorem TM (l:List bK):(l.flatMap bK.cells).length=l.length*3:=by
 induction l with
 |nil=>rfl
 |cons q l ih=>rw[List.flatMap_cons,List.length_append,ih];simp[bK.cells];omega
theorem vN:∀(l:List bK) (j:Nat),j<l.length→(l.flatMap bK.cells)[j*3]?=some (.int .i64 (l.getD j default).id)∧(l.flatMap bK.cells)[j*3+1]?=some (l.getD j default).pv∧(l.flatMap bK.cells)[j*3+2]?=some (l.getD j default).iv
 |[],_,h=>by cases h
 |q::l,0,_=>⟨rfl,rfl,rfl⟩
 |q::l,j+1,h=>by
  obtain⟨h1,h2,h3⟩:=vN l j (by simpa using h)
  refine⟨?_,?_,?_⟩
  ·rw[show(j+1)*3=j*3+1+1+1 by omega];exact h1
  ·rw[show(j+1)*3+1=(j*3+1)+1+1+1 by omega];exact h2
  ·rw[show(j+1)*3+2=(j*3+2)+1+1+1 by omega];exact h3
def fA (x:Int) (l:List Int):Int:=if l.findIdx (fun y=>y==x)<l.length then(l.findIdx (fun y=>y==x):Int)else-1
theorem JV {x:Int} {l:List Int} {k:Nat} (hk:k<l.length) (h:∀j,j<k→l.getD j 0≠x) (he:l.getD k 0=x):fA x l=k:=by
 have hf:l.findIdx (fun y=>y==x)=k:=by
  rw[List.findIdx_eq hk]
  refine⟨?_,fun j hj=>?_⟩
  ·rw[getD_at 0 hk]at he;simpa using he
  ·have:=h j hj;rw[getD_at 0 (by omega)]at this;simpa using this
 unfold fA
 rw[hf,if_pos hk]
theorem TN {x:Int} {l:List Int} (h:∀j,j<l.length→l.getD j 0≠x):fA x l=-1:=by
 have hf:l.findIdx (fun y=>y==x)=l.length:=by
  rw[List.findIdx_eq_length]
  intro y hy
  obtain⟨j,hj,rfl⟩:=List.getElem_of_mem hy
  have:=h j hj
  rw[getD_at 0 hj]at this
  simpa using this
 unfold fA
 rw[hf,if_neg (by omega)]
theorem Eo (l:List bK) (j:Nat) (hj:j<l.length):(l.map bK.id).getD j 0=(l.getD j default).id:=by
 rw[getD_at default hj,getD_at 0 (by rw[List.length_map];exact hj),List.getElem_map]
theorem TP (y x:Int) (a a':Option Addr) (n c n' c' b:Nat) (w:World) (hb:w.cell? ⟨b,0,none⟩=some (.int .i64 x)):
 Calls Tryz.prog 68 #[.agg #[.int .i64 y, .slice a n c, .slice a' n' c'], .pointer (some ⟨b,0,none⟩)] w fun e w'=>e= .returned (.bool (decide (y=x)))∧aj au w w':=by
 have hlt:b<w.heap.size:=World.block_lt_of_cell? _ _ hb
 go_enter Tryz.func68,Tryz.ntmps68
 go_wp2
 go_ret
 exact⟨rfl,aj.alloc _ _ _⟩
theorem TQ (x:Int) (l:List bK) (b:Nat) (w:World) (v:Value) (h:Rd w v l.length (l.flatMap bK.cells)) (hs:∀q∈l,q.shaped) (hl:l.length≤100000) (hb:w.cell? ⟨b,0,none⟩=some (.int .i64 x)):
 Calls Tryz.prog 67 #[v, .func (.func 68) #[] #[.pointer (some ⟨b,0,none⟩)]] w fun e w'=>e= .returned (.int .i64 (fA x (l.map bK.id)))∧aj au w w':=by
 have eg:∀args w,(callFunc 68 args).run Tryz.prog w= .ok (.enter 68 args) w:=enters_of Tryz.func68 (by kernel_rfl) rfl
 have HP:=ah (fun y a n c a' n' c' W (f:aj au w W)=>TP y x a a' n c n' c' b W (f.cell' hb id));clear hb
 have HIT:=ah (fun k (hk:k<l.length) (h1:∀j,j<k→(l.getD j default).id≠x) (h2:(l.getD k default).id=x)=>JV (x:=x) (l:=l.map bK.id) (k:=k) (by rw[List.length_map];exact hk) (fun j hj=>by rw[Eo l j (by omega)];exact h1 j hj) (by rw[Eo l k hk];exact h2))
 have jm:=ah (fun(h1:∀j,j<l.length→(l.getD j default).id≠x)=>TN (x:=x) (l:=l.map bK.id) (fun j hj=>by rw[List.length_map]at hj;rw[Eo l j hj];exact h1 j hj))
 generalize fA x (l.map bK.id)=P at*
 rcases Rd.shape h with⟨ad,rfl,h0⟩|⟨p,off,c,rfl,hmax⟩
 ·have HN:=ah (jm.out fun j hj=>by omega)
  clear h h0 hs
  go_enter Tryz.func67,Tryz.ntmps67
  go_wp2
  go_loop [8] (fun i=>i= .int .i64 0) (fun _=>0)
  case atStart=>rfl
  case round=>
   obtain rfl:=hrel
   go_wp2
   go_ret
   exact⟨by rw[HN.out];rfl,aj.refl _ _⟩
 ·have HH:=ah h;clear h
  have rH:=ah hs;clear hs
  generalize hn:l.length=m at*
  have HN:=ah hn;clear hn
  go_enter Tryz.func67,Tryz.ntmps67
  go_wp2
  go_loopw [8] (fun i W=>∃k:Nat,k≤m∧i= .int .i64 k∧(∀j,j<k→(l.getD j default).id≠x)∧aj au w W) (fun i _=>m-(intOf i).toNat)
  case atStart=>exact⟨0,Nat.zero_le _,rfl,fun j hj=>by omega,aj.refl _ _⟩
  case round=>
   obtain⟨k,hk,rfl,ha,hw⟩:=hrel
   have mM:=ah ha;clear ha
   have HW:=ah hw;clear hw
   by_cases hlt:k<m
   ·have hlk:k<l.length:=by rw[HN.out];exact hlt
    obtain⟨g0,g1,g2⟩:=vN l k hlk
    obtain⟨⟨a0,n0,c0,e0⟩,a1,n1,c1,e1⟩:=rH.out _ (getD_mem default hlk)
    rw[e0]at g1
    rw[e1]at g2
    have r:=HH.out.aN HW.out
    have q0:wr.cell? ⟨p,off+k*3,none⟩=_:=r.cell _ _ g0
    have q1:wr.cell? ⟨p,off+k*3+1,none⟩=_:=r.cell (k*3+1) _ g1
    have q2:wr.cell? ⟨p,off+k*3+2,none⟩=_:=r.cell (k*3+2) _ g2
    clear g0 g1 g2 e0 e1 r
    have rM:=ah (HIT.out k hlt mM.out)
    have Ep:=ah (fun(hne:(l.getD k default).id≠x) j (hj:j<k+1)=>(show(l.getD j default).id≠x from by
     rcases Nat.lt_or_ge j k with h1|h1
     ·exact mM.out j h1
     ·obtain rfl:j=k:=by omega
      exact hne))
    have HC:=ah (HP.out (l.getD k default).id a0 n0 c0 a1 n1 c1)
    generalize (l.getD k default).id=y at*
    by_cases hx:y=x
    ·have HR:=ah (rM.out hx);clear rM Ep
     rw[decide_eq_true hx]at HC
     clear hx
     go_wp2_with(go_at_call 68;refine(HC.out _ HW.out).mono ?_;rintro e w1 ⟨rfl,hw1⟩;have HW1:=ah (HW.out.aF hw1);clear hw1)
     go_ret
     exact⟨by rw[HR.out];rfl,HW1.out⟩
    ·have HR:=ah (Ep.out hx);clear rM Ep
     rw[decide_eq_false hx]at HC
     clear hx
     go_wp2_with(go_at_call 68;refine(HC.out _ HW.out).mono ?_;rintro e w1 ⟨rfl,hw1⟩;have HW1:=ah (HW.out.aF hw1);clear hw1)
     go_roundw
     case rel=>exact⟨k+1,by omega,by go_num,HR.out,HW1.out⟩
     case measure=>simp[intOf];omega
   ·obtain rfl:m=k:=by omega
    have HR:=ah (jm.out mM.out)
    go_wp2
    go_ret
    exact⟨by rw[HR.out];rfl,HW.out⟩
theorem tN (x:Int) (l:List bK) (b:Nat) (w:World) (v:Value) (h:Rd w v l.length (l.flatMap bK.cells)) (hs:∀q∈l,q.shaped) (hl:l.length≤100000) (hb:w.cell? ⟨b,1,none⟩=some v):
 Calls Tryz.prog 38 #[.pointer (some ⟨b,0,none⟩), .int .i64 x] w fun e w'=>e= .returned (.int .i64 (fA x (l.map bK.id)))∧aj au w w':=by
 have HI:=ah (fun W c (f:aj au w W) hc=>TQ x l c W v (h.aN f) hs hl hc)
 obtain⟨a,c,rfl⟩:=h.sl
 have hlt:b<w.heap.size:=World.block_lt_of_cell? _ _ hb
 clear h hs
 generalize fA x (l.map bK.id)=P at*
 generalize l.length=n at*
 go_enter Tryz.func38,Tryz.ntmps38
 go_wp2_with(go_at_call 67;refine(HI.out _ _ (aj.alloc _ _ _) (aI (heap_alloc_new w _) 0 rfl)).mono ?_;rintro e w1 ⟨rfl,hw1⟩;have HW1:=ah ((aj.alloc au w _).aF hw1);clear hw1)
 go_ret
 exact⟨rfl,HW1.out⟩
open Go.RowKit
def nO (bs:List Bool):List Value:=bs.map .bool
def nP (bs:List Bool):Nat:=bs.countP fun y=>y
theorem TR {bs:List Bool} {k:Nat} (h:k<bs.length):nP (bs.take (k+1))=nP (bs.take k)+if bs.getD k false=true then 1 else 0:=by
 unfold nP
 rw[take_succ false h,List.countP_append,List.countP_singleton]
theorem TS {w:World} {g o c n:Nat} {bs:List Bool} (h:Rd w (.slice (some ⟨g,o,none⟩) n c) n (nO bs)) (k:Nat) (hk:k<bs.length):w.cell? ⟨g,o+k,none⟩=some (.bool (bs.getD k false)):=
 h.cell k _ (by unfold nO;rw[List.getElem?_map,List.getElem?_eq_getElem hk,getD_at _ hk];rfl)
theorem TT (x:Int) (l:List bK) (b:Nat) (w:World) (v:Value) (h:Rd w v l.length (l.flatMap bK.cells)) (hs:∀q∈l,q.shaped) (hl:l.length≤100000) (hb:w.cell? ⟨b,1,none⟩=some v) (hp:fA x (l.map bK.id)=-1):
 Calls Tryz.prog 21 #[.pointer (some ⟨b,0,none⟩), .int .i64 x] w fun e w'=>e= .returned (.int .i64 0)∧aj au w w':=by
 have HA:=ah (hp▸tN x l b w v h hs hl hb)
 clear h hs hl hb hp
 go_enter Tryz.func21,Tryz.ntmps21
 go_wp2_with(go_at_call 38;refine HA.out.mono ?_;rintro e w1 ⟨rfl,hw1⟩;have HW1:=ah hw1;clear hw1)
 go_ret
 exact⟨rfl,HW1.out⟩
theorem JW (x:Int) (l:List bK) (b:Nat) (w:World) (v:Value) (h:Rd w v l.length (l.flatMap bK.cells)) (hs:∀q∈l,q.shaped) (hl:l.length≤100000) (hb:w.cell? ⟨b,1,none⟩=some v) (k:Nat) (bs:List Bool)
 (hp:fA x (l.map bK.id)=k) (hk:k<l.length) (hbs:Rd w (l.getD k default).iv bs.length (nO bs)) (hbl:bs.length≤1000):
 Calls Tryz.prog 21 #[.pointer (some ⟨b,0,none⟩), .int .i64 x] w fun e w'=>e= .returned (.int .i64 (nP bs))∧aj au w w':=by
 have HA:=ah (hp▸tN x l b w v h hs hl hb)
 have HH:=ah (fun W (f:aj au w W)=>h.aN f)
 have HB:=ah (fun W (f:aj au w W)=>f.cell' hb id)
 have u_:=ah (fun W (f:aj au w W)=>hbs.aN f)
 obtain⟨-,-,g2⟩:=vN l k hk
 rcases Rd.shape h with⟨ad,rfl,h0⟩|⟨p,off,c,rfl,hmax⟩
 ·omega
 have HQ:=ah (fun W (f:aj au w W)=>(show W.cell? ⟨p,off+k*3+2,none⟩=some (l.getD k default).iv from(HH.out W f).cell (k*3+2) _ g2))
 generalize (l.getD k default).iv=iv at*
 obtain⟨ai,ci,rfl⟩:=hbs.sl
 clear h hs hb hp hbs g2 HH
 generalize l.length=n at*
 have hkn:(k:Int)<(n:Int):=by omega
 go_enter Tryz.func21,Tryz.ntmps21
 go_wp2_with(go_at_call 38;refine HA.out.mono ?_;rintro e w1 ⟨rfl,hw1⟩;have y0:=HB.out _ hw1;have y1:=HQ.out _ hw1;have hb0:=World.block_lt_of_cell? _ _ y0;have hb1:=World.block_lt_of_cell? _ _ y1;have HW1:=ah hw1;clear hw1)
 clear y0 y1 hb0 hb1
 have HR:=ah (u_.out _ HW1.out)
 generalize hm:bs.length=m at*
 have HM:=ah hm;clear hm
 go_loopw [5,23] (fun cv iv W=>∃j:Nat,j≤m∧iv= .int .i64 j∧cv= .int .i64 (nP (bs.take j))∧W=w1) (fun _ iv _=>m-(intOf iv).toNat)
 case atStart=>exact⟨0,by omega,rfl,rfl,rfl⟩
 case round=>
  obtain⟨j,hj,rfl,rfl,rfl⟩:=hrel
  have hle:nP (bs.take j)≤1000:=by have:=List.countP_le_length (p:=fun y=>y) (l:=bs.take j);rw[List.length_take]at this;unfold nP;omega
  by_cases hlt:j<m
  ·have hjl:j<bs.length:=by rw[HM.out];exact hlt
   rcases Rd.shape HR.out with⟨ad,he,h0⟩|⟨g,o,cc,he,hmx⟩
   ·omega
   injection he with e1 e2 e3
   subst e1 e3
   clear e2
   have q0:=TS HR.out j hjl
   have HT:=ah (TR hjl)
   clear hjl
   generalize nP (bs.take j)=N at*
   have hji:(j:Int)<(m:Int):=by omega
   cases hy:bs.getD j false with
   |true=>
    rw[hy]at q0 HT
    clear hy
    go_wp2
    go_roundw
    case rel=>exact⟨j+1,by omega,by go_num,by rw[HT.out];go_num,by trivial⟩
    case measure=>simp[intOf];omega
   |false=>
    rw[hy]at q0 HT
    clear hy
    go_wp2
    go_roundw
    case rel=>exact⟨j+1,by omega,by go_num,by rw[HT.out];rfl,by trivial⟩
    case measure=>simp[intOf];omega
  ·obtain rfl:j=m:=by omega
   have hall:bs.take j=bs:=List.take_of_length_le (by rw[HM.out];exact Nat.le_refl _)
   rw[hall]
   rw[hall]at hle
   clear hall
   go_wp2
   go_ret
   exact⟨rfl,HW1.out⟩
open Go.RowKit
structure aU where
 es:List aG
 ks:aH
 c:aV
 ev:Value
 kv:Value
 cv:Value
instance:Inhabited aU:=⟨⟨[], .nil,[], .slice none 0 0, .slice none 0 0, .slice none 0 0⟩⟩
def aU.cells (q:aU):List Value:=[q.ev,q.kv,q.cv]
structure fE (Q:Nat→Prop) (w:World) (q:aU):Prop where
 tree:bC Q w q.ev q.kv q.es q.ks
 ctx:lD Q w q.cv q.c.length (bU q.c)
theorem fE.at_ {Q:Nat→Prop} {w:World} {q:aU} (h:fE Q w q):eu Q w q.ev q.kv q.cv q.es q.ks q.c:=⟨h.tree,h.ctx.rd⟩
theorem fE.turn {Q Q':Nat→Prop} {w w':World} {q:aU} (h:fE Q w q) (f:∀b,b<w.heap.size→Q b→w'.heap[b]?=w.heap[b]?∧Q' b):fE Q' w' q:=⟨h.tree.turn f,h.ctx.turn f⟩
theorem fE.aN {Q:Nat→Prop} {w w':World} {q:aU} (h:fE Q w q) (f:aj au w w'):fE Q w' q:=h.turn fun b hb hq=>⟨f.block b hb id,hq⟩
structure aU.good (q:aU):Prop where
 ok:jB q.es q.ks q.c
 right:fG q.es q.ks q.c
theorem rQ:∀(l:List aU) (j:Nat),j<l.length→(l.flatMap aU.cells)[j*3]?=some (l.getD j default).ev∧(l.flatMap aU.cells)[j*3+1]?=some (l.getD j default).kv∧(l.flatMap aU.cells)[j*3+2]?=some (l.getD j default).cv
 |[],_,h=>by cases h
 |q::l,0,_=>⟨rfl,rfl,rfl⟩
 |q::l,j+1,h=>by
  obtain⟨h1,h2,h3⟩:=rQ l j (by simpa using h)
  refine⟨?_,?_,?_⟩
  ·rw[show(j+1)*3=j*3+1+1+1 by omega];exact h1
  ·rw[show(j+1)*3+1=(j*3+1)+1+1+1 by omega];exact h2
  ·rw[show(j+1)*3+2=(j*3+2)+1+1+1 by omega];exact h3
theorem Et:∀(l:List aU) (i:Nat) (q:aU),i<l.length→(l.set i q).flatMap aU.cells=(((l.flatMap aU.cells).set (i*3) q.ev).set (i*3+1) q.kv).set (i*3+2) q.cv
 |[],_,_,h=>by cases h
 |x::l,0,q,_=>rfl
 |x::l,i+1,q,h=>by
  have ih:=Et l i q (by simpa using h)
  rw[aO,List.flatMap_cons,ih,List.flatMap_cons]
  rw[show(i+1)*3=i*3+1+1+1 by omega,show i*3+1+1+1+1=(i*3+1)+1+1+1 by omega,show i*3+1+1+1+2=(i*3+2)+1+1+1 by omega]
  rfl
theorem TU (Q:Nat→Prop) (l:List aU) (w:World) (b:Nat) (v:Value) (h:Rd w v l.length (l.flatMap aU.cells)) (hl:l.length≤1000) (hb:w.cell? ⟨b,0,none⟩=some v) (k:Nat) (hk:k<l.length)
 (hq:fE Q w (l.getD k default)) (hg:(l.getD k default).good):
 Calls Tryz.prog 53 #[.pointer (some ⟨b,0,none⟩), .int .i64 k] w (Dt w (l.getD k default).es (l.getD k default).ks (l.getD k default).c):=by
 obtain⟨g0,g1,g2⟩:=rQ l k hk
 obtain⟨a0,c0,a1,c1,a2,c2,e0,e1,e2⟩:=hq.at_.shape
 have HC:=ah (fun W (f:aj au w W)=>Du Q _ _ _ W _ _ _ (hq.aN f).at_ hg.ok hg.right)
 rcases Rd.shape h with⟨ad,rfl,h0⟩|⟨p,off,c,rfl,hmax⟩
 ·omega
 have HH:=ah (fun W (f:aj au w W)=>Ei b l.length c (some ⟨p,off,none⟩) k W (f.cell' hb id))
 have hhk:decide (0≤(k:Int)∧(k:Int)<(l.length:Int))=true:=by rw[decide_eq_true_eq];omega
 rw[hhk]at HH
 rw[e0]at g0 HC
 rw[e1]at g1 HC
 rw[e2]at g2 HC
 have HB:=ah (fun W (f:aj au w W)=>(show W.cell? ⟨b,0,none⟩=some (.slice (some ⟨p,off,none⟩) l.length c)∧W.cell? ⟨p,off+k*3,none⟩=some (.slice a0 (l.getD k default).es.length c0)∧W.cell? ⟨p,off+k*3+1,none⟩=some (.slice a1 (l.getD k default).ks.len c1)∧W.cell? ⟨p,off+k*3+2,none⟩=some (.slice a2 (l.getD k default).c.length c2)from
  ⟨f.cell' hb id,(h.aN f).cell _ _ g0,(h.aN f).cell (k*3+1) _ g1,(h.aN f).cell (k*3+2) _ g2⟩))
 clear hq hg h hb hhk g0 g1 g2 e0 e1 e2
 unfold Dt at HC⊢
 generalize (l.getD k default).es=es at*
 generalize (l.getD k default).ks=ks at*
 generalize (l.getD k default).c=cx at*
 generalize l.length=n at*
 have hkn:(k:Int)<(n:Int):=by omega
 have bD:=ah (heap_alloc_new w (.cells #[.slice none 0 0, .slice none 0 0, .slice none 0 0] 32))
 go_enter Tryz.func53,Tryz.ntmps53
 go_wp2_with(first
  |(go_at_call 39;refine(HH.out _ (aj.alloc _ _ _)).mono ?_;rintro e w1 ⟨rfl,rfl⟩;obtain⟨y0,y1,y2,y3⟩:=HB.out _ (aj.alloc au w (.cells #[.slice none 0 0, .slice none 0 0, .slice none 0 0] 32));have hb0:=World.block_lt_of_cell? _ _ y0;have hb1:=World.block_lt_of_cell? _ _ y1)
  |(go_at_call 44;refine(HC.out _ (aj.alloc _ _ _)).mono ?_;clear y0 y1 y2 y3 hb0 hb1;rintro e w3 ⟨mQ,gU,jL,rfl,hta,ho3⟩;obtain⟨a3,c3,rfl⟩:=hta.ents.rd.sl;obtain⟨nN,iq,-⟩:=hta.kids;obtain⟨a5,c5,rfl⟩:=iq.rd.sl;obtain⟨a6,c6,rfl⟩:=ho3.shape;clear iq;have hblk:=ho3.aJ.blk bD.out id;have z0:=aI hblk 0 rfl;have z1:=aI hblk 1 rfl;have z2:=aI hblk 2 rfl;have g0:=bn hblk 0;have g1:=bn hblk 1;have g2:=bn hblk 2;have hbl:=lt_of_block hblk;have iF:=ah hta;clear hta;have bJ:=ah ho3;clear ho3;have HB3:=ah hblk;clear hblk))
 have JU:=lt_of_block bD.out
 have hs5:=bJ.out.aJ.size
 have HR3:=ah (sV HB3.out ((aj.alloc au w _).aF bJ.out.aJ) (Nat.le_refl _) (.slice a3 es.length c3) (.slice a5 ks.len c5) (.slice a6 cx.length c6))
 have HP:=ah (iF.out.turn (Q':=fun b=>w.heap.size≤b) fun b hb hQ=>⟨HR3.out.2.2 b (by omega),by omega⟩)
 have hnew:=bJ.out.new
 have mW:dP (fun b=>b=w.heap.size) w w3 92 3 (.slice a6 cx.length c6) cx.length (bU cx):=⟨bJ.out.base (aj.alloc au w _),fun b hb hn=>by have:=hnew b hb;omega⟩
 have hown:=(((mW.set (p:=⟨w.heap.size,0,none⟩) rfl (Nat.le_refl _) (.slice a3 es.length c3)).set (p:=⟨w.heap.size,1,none⟩) rfl (Nat.le_refl _) (.slice a5 ks.len c5)).set (p:=⟨w.heap.size,2,none⟩) rfl (Nat.le_refl _) (.slice a6 cx.length c6)).at_
 clear z0 z1 z2
 have z0:=aI HR3.out.1 0 rfl
 have z1:=aI HR3.out.1 1 rfl
 have z2:=aI HR3.out.1 2 rfl
 exact bodyPost_ret (v:= .agg #[.slice a3 es.length c3, .slice a5 ks.len c5, .slice a6 cx.length c6]) (by simp[results,Tryz.results53,go_sem,z0,z1,z2]) rfl ⟨_,_,_,rfl,HP.out,hown⟩
open Go.RowKit
def je (n:Nat):List aU:=List.replicate n default
theorem Eu (n:Nat) (h1:1≤n) (h4:n≤4):∀w,(Instr.makeSlice 33 (.int .i64 n) (.int .i64 n)).run Tryz.prog w= .ok (.slice (some ⟨w.heap.size,0,none⟩) n n) (w.alloc (.cells ((je n).flatMap aU.cells).toArray 32)):=by
 rcases(by omega:n=1∨n=2∨n=3∨n=4)with rfl|rfl|rfl|rfl<;>(intro w;kernel_rfl)
theorem make_is (n:Nat) (h1:1≤n) (h4:n≤4):∀w,(Instr.makeSlice 84 (.int .i64 n) (.int .i64 n)).run Tryz.prog w= .ok (.slice (some ⟨w.heap.size,0,none⟩) n n) (w.alloc (.cells (nO (List.replicate n false)).toArray 4)):=by
 rcases(by omega:n=1∨n=2∨n=3∨n=4)with rfl|rfl|rfl|rfl<;>(intro w;kernel_rfl)
theorem TV (n:Nat) (h1:1≤n) (h4:n≤4) (w:World):
 Calls Tryz.prog 14 #[.int .i64 n] w fun e w'=>e= .returned (.tuple #[.pointer (some ⟨w.heap.size+1,0,none⟩), .int .i64 0])∧
  w'=(w.alloc (.cells ((je n).flatMap aU.cells).toArray 32)).alloc (.cells #[.slice (some ⟨w.heap.size,0,none⟩) n n, .slice none 0 0] 81):=by
 have hmk:=Eu n h1 h4
 generalize ((je n).flatMap aU.cells).toArray=Z at*
 go_enter Tryz.func14,Tryz.ntmps14
 go_wp2
 go_ret2
 exact⟨rfl,rfl⟩
open Go.RowKit
theorem TW (w:World) (b o n c:Nat) (hn:0<n) (hc:∀j,j<n*3→(w.cell? ⟨b,o+j,none⟩).isSome=true) (hf:∀j,j<n*3→w.frozen? ⟨b,o+j,none⟩=false):
 ∃Z:List Value,Z.length=n*3∧∀ty,(Builtin.clear_ #[79] ty #[.slice (some ⟨b,o,none⟩) n c]).run Tryz.prog w= .ok (.tuple #[]) (w.setCells b o Z):=by
 obtain⟨Z,hZ⟩:∃Z,Z=(Builtin.zeroCells #[.int .i64 0, .slice none 0 0, .slice none 0 0] n).toList:=⟨_,rfl⟩
 have hl:Z.length=n*3:=by rw[hZ,Array.length_toList,size_zeroCells];rfl
 have h1:∀v∈Z,v.oneCell'=true:=fun v hv=>by
  rw[hZ]at hv
  simp[Builtin.zeroCells]at hv
  obtain⟨i,_,rfl⟩:=hv
  have:i%3<3:=Nat.mod_lt _ (by decide)
  rcases(by omega:i%3=0∨i%3=1∨i%3=2)with h|h|h<;>simp[h,Value.oneCell']
 refine⟨Z,hl,fun ty=>?_⟩
 have hst:=run_storeCells_cells (P:=Tryz.prog) b o Z 0 w (by rw[hl];simpa using hc) (by rw[hl];simpa using hf) h1
 simp only[Nat.add_zero]at hst
 obtain⟨m,rfl⟩:∃m,n=m+1:=⟨n-1,by omega⟩
 have hz:∀w,(zeroValue 86).run Tryz.prog w= .ok (.agg #[.int .i64 0, .slice none 0 0, .slice none 0 0]) w:=Tryz.zeroValue86
 have hv:(Value.agg #[.int .i64 0, .slice none 0 0, .slice none 0 0]).cells= #[.int .i64 0, .slice none 0 0, .slice none 0 0]:=rfl
 simp[Builtin.clear_,run_underlying Tryz.underlying79,hz,hv,←hZ,hst]
theorem TY:(Tryz.prog.info? 86).map (fun i=>(i.zero,i.size))=some (some (.agg #[.int .i64 0, .slice none 0 0, .slice none 0 0]),3):=by kernel_rfl
theorem T_ (l:List bK) (i:Nat):(l.take i).flatMap bK.cells=(l.flatMap bK.cells).take (i*3):=by
 induction l generalizing i with
 |nil=>simp
 |cons q l ih=>
  cases i with
  |zero=>simp
  |succ i=>
   rw[List.take_succ_cons,List.flatMap_cons,ih,List.flatMap_cons,show(i+1)*3=i*3+1+1+1 by omega]
   rfl
theorem Ua (l:List bK) (i:Nat):(l.drop i).flatMap bK.cells=(l.flatMap bK.cells).drop (i*3):=by
 induction l generalizing i with
 |nil=>simp
 |cons q l ih=>
  cases i with
  |zero=>simp
  |succ i=>
   rw[List.drop_succ_cons,ih,List.flatMap_cons,show(i+1)*3=i*3+1+1+1 by omega]
   rfl
theorem Ub (g m m1:Nat) (w W2:World) (R:Prop) (hR:R) (f4:¬((m:Int)=(m1:Int))) (f3:(m:Int)≤(m1:Int)) (hdm:m1-m=1) (hne:¬m1=m)
 (hld:(loadCellsFrom ⟨g,0,none⟩ 0 0 #[]).run Tryz.prog w.drew= .ok #[] w.drew) (Ew:(storeCells ⟨g,m*3,none⟩ []).run Tryz.prog w.drew= .ok () w.drew) (hx:(m1:Int)≤9223372036854775807)
 (hcl:∀ty,(Builtin.clear_ #[79] ty #[.slice (some ⟨g,m*3,none⟩) 1 1]).run Tryz.prog w.drew= .ok (.tuple #[]) W2):
 Calls Tryz.prog 42 #[.slice (some ⟨g,0,none⟩) m1 m1, .int .i64 m, .int .i64 (m1:Nat)] w fun e w'=>e= .returned (.slice (some ⟨g,0,none⟩) m m1)∧w'=W2∧R:=by
 have f0:(0:Int)≤(m1:Int):=by omega
 have f9:m≤m1:=by omega
 have HR:=ah hR;clear hR
 go_enter Tryz.func42,Tryz.ntmps42
 go_wp2
 refine iY (S:=fun _=>True) 7 (by kernel_rfl) trivial ?_
 intro hS
 refine aT 0 20 rfl rfl (v:=?_) (.inl ⟨by rfl,?_⟩) ?_
 rotate_left 1
 ·(intro w hSw;(try dsimp only at hSw);go_simp;(try with_reducible rfl))
 refine aT 1 21 rfl rfl (v:=?_) (.inl ⟨by rfl,?_⟩) ?_
 rotate_left 1
 ·(intro w hSw;(try dsimp only at hSw);go_simp;(try with_reducible rfl))
 try simp only[Act.put,aP,aQ,aO]
 refine aT 2 22 rfl rfl (v:=?_) (.inl ⟨by rfl,?_⟩) ?_
 rotate_left 1
 ·(intro w hSw;(try dsimp only at hSw);go_simp;(try with_reducible rfl))
 refine aT 3 23 rfl rfl (v:=?_) (.inl ⟨by rfl,?_⟩) ?_
 rotate_left 1
 ·(intro w hSw;(try dsimp only at hSw);go_simp;(try with_reducible rfl))
 try simp only[Act.put,aP,aQ,aO]
 refine aT 4 24 rfl rfl (v:=?_) (.inl ⟨by rfl,?_⟩) ?_
 rotate_left 1
 ·(intro w hSw;(try dsimp only at hSw);go_simp;(try with_reducible rfl))
 refine aT 5 25 rfl rfl (v:=?_) (.inl ⟨by rfl,?_⟩) ?_
 rotate_left 1
 ·(intro w hSw;(try dsimp only at hSw);go_simp;(try with_reducible rfl))
 try simp only[Act.put,aP,aQ,aO]
 refine bP (i:=6) (by kernel_rfl) rfl (fun K hK=>?_)
 go_simp
 refine hK.out _ _ hS ?_
 clear hK K
 try simp only[Act.put,aP,aQ,aO]
 refine iK (by kernel_rfl) (by kernel_rfl) rfl (fun K hK=>?_)
 go_simp
 refine hK.out _ _ ?_
 clear hK K
 go_wp2
 go_ret
 exact⟨rfl,rfl,HR.out⟩
theorem JX (l:List bK) (g m c k:Nat) (w:World) (ho:w.ownsRow 0 86 3 (.slice (some ⟨g,0,none⟩) (m+1) c) (m+1) (l.flatMap bK.cells)) (hl:l.length=m+1) (hs:∀q∈l,q.shaped) (hk:k≤m) (hn:m≤1000):
 Calls Tryz.prog 42 #[.slice (some ⟨g,0,none⟩) (m+1:Nat) c, .int .i64 k, .int .i64 ((k:Int)+1)] w fun e w'=>e= .returned (.slice (some ⟨g,0,none⟩) m c)∧w'.ownsRow 0 86 3 (.slice (some ⟨g,0,none⟩) m c) m ((l.eraseIdx k).flatMap bK.cells)∧aj (dh (.slice (some ⟨g,0,none⟩) (m+1) c)) w w':=by
 rcases ho.2 with⟨h,_⟩|⟨g',cap',cur,h,hbg,hg,hnc,hcm,hcs,htake⟩
 ·cases h
 cases h
 have hxl:=ho.1
 have hcells:∀j u,(l.flatMap bK.cells)[j]?=some u→w.drew.cell? ⟨g,j,none⟩=some u:=fun j u hu=>by
  have:=ho.cells (g:=g) rfl j u hu
  rwa [addr_add,Nat.zero_add]at this
 have hfree:∀j,w.drew.frozen? ⟨g,j,none⟩=false:=fun j=>bn (w:=w.drew) hg j
 obtain⟨i0,hi0,hi1⟩:∃i0,Tryz.prog.info? 86=some i0∧i0.size=3:=by
  have:=TY
  cases hq:Tryz.prog.info? 86 with
  |none=>rw[hq]at this;cases this
  |some i0=>rw[hq]at this;simp at this;exact⟨i0,rfl,this.2⟩
 have hone:∀u∈l.flatMap bK.cells,u.oneCell'=true:=fun u hu=>by
  obtain⟨q,hq,hu⟩:=List.mem_flatMap.1 hu
  obtain⟨⟨a0,n0,c0,e0⟩,a1,n1,c1,e1⟩:=hs q hq
  simp[bK.cells]at hu
  rcases hu with rfl|rfl|rfl
  ·rfl
  ·rw[e0];rfl
  ·rw[e1];rfl
 have hnl:((l.flatMap bK.cells).drop ((k+1)*3)).length=(m-k)*3:=by rw[List.length_drop,hxl];omega
 have hap:∀ty,(Builtin.append_ #[79,79] ty #[.slice (some ⟨g,0,none⟩) k c, .slice (if c=k+1 then some ⟨g,0,none⟩else some ⟨g,(k+1)*3,none⟩) (m+1-(k+1)) (c-(k+1))]).run Tryz.prog w.drew= .ok (.slice (some ⟨g,0,none⟩) m c) (w.drew.setCells g (k*3) ((l.flatMap bK.cells).drop ((k+1)*3))):=fun ty=>by
  have hsrc:Src Tryz.prog i0.size 79 (.slice (if c=k+1 then some ⟨g,0,none⟩else some ⟨g,(k+1)*3,none⟩) (m+1-(k+1)) (c-(k+1))) (m+1-(k+1)) ((l.flatMap bK.cells).drop ((k+1)*3)) w.drew:=by
   have hx:((l.flatMap bK.cells).drop ((k+1)*3)).length=(m+1-(k+1))*i0.size:=by rw[hnl,hi1,show m+1-(k+1)=m-k by omega]
   have ho1:∀u∈(l.flatMap bK.cells).drop ((k+1)*3),u.oneCell'=true:=fun u hu=>hone u (List.mem_of_mem_drop hu)
   split
   ·refine Src.ofSlice w.drew Tryz.underlying79 _ _ _ _ hx (fun j u hu=>?_) ho1
    have:(l.flatMap bK.cells).drop ((k+1)*3)=[]:=List.eq_nil_of_length_eq_zero (by rw[hnl];omega)
    rw[this]at hu
    simp at hu
   ·refine Src.ofSlice w.drew Tryz.underlying79 _ _ _ _ hx (fun j u hu=>?_) ho1
    rw[addr_add]
    rw[List.getElem?_drop]at hu
    exact hcells _ _ hu
  have:=run_append_room_src (P:=Tryz.prog) w.drew 79 79 ty 86 i0 Tryz.underlying79 hi0 g 0 k c _ _ _ hsrc (by omega) (fun j hj=>?_) fun j hj=>hfree _
  ·rw[this,hi1,show k+(m+1-(k+1))=m by omega,Nat.zero_add]
  ·rw[hi1,Nat.zero_add]
   have hlt:k*3+j<(l.flatMap bK.cells).length:=by rw[hxl];omega
   rw[hcells _ _ (List.getElem?_eq_getElem hlt)]
   rfl
 have hld:c≠k+1→(loadCellsFrom ⟨g,(k+1)*3,none⟩ 0 ((m-k)*3) #[]).run Tryz.prog w.drew= .ok ((l.flatMap bK.cells).drop ((k+1)*3)).toArray w.drew:=fun hne=>by
  have:=run_firstCells_some (P:=Tryz.prog) w.drew 3 (m-k) ⟨g,(k+1)*3,none⟩ (m-k) (c-(k+1)) ((l.flatMap bK.cells).drop ((k+1)*3)) hnl (fun j u hu=>by rw[addr_add];rw[List.getElem?_drop]at hu;exact hcells _ _ hu)
  simpa[Builtin.firstCells,loadCells]using this
 have Ew:(storeCells ⟨g,k*3,none⟩ ((l.flatMap bK.cells).drop ((k+1)*3))).run Tryz.prog w.drew= .ok () (w.drew.setCells g (k*3) ((l.flatMap bK.cells).drop ((k+1)*3))):=by
  have:=run_storeCells_cells (P:=Tryz.prog) g (k*3) ((l.flatMap bK.cells).drop ((k+1)*3)) 0 w.drew (fun j hj=>?_) (fun j hj=>hfree _) (fun u hu=>hone u (List.mem_of_mem_drop hu))
  ·simpa using this
  ·have hlt:k*3+j<(l.flatMap bK.cells).length:=by rw[hxl];omega
   rw[Nat.add_zero,hcells _ _ (List.getElem?_eq_getElem hlt)];rfl
 obtain⟨W1,hW1⟩:∃W1,W1=w.drew.setCells g (k*3) ((l.flatMap bK.cells).drop ((k+1)*3)):=⟨_,rfl⟩
 have hcz:cur.size=c*3:=hcs
 have hb1:W1.heap[g]?=some (.cells (cur.toList.take (k*3)++(l.flatMap bK.cells).drop ((k+1)*3)++cur.toList.drop (k*3+((l.flatMap bK.cells).drop ((k+1)*3)).length)).toArray 86 (0,0)):=by
  rw[hW1]
  exact vZ g _ _ _ _ w.drew cur hg (by rw[hnl];omega)
 have hpre:(cur.toList.take (k*3)++(l.flatMap bK.cells).drop ((k+1)*3)++cur.toList.drop (k*3+((l.flatMap bK.cells).drop ((k+1)*3)).length)).take (m*3)=(l.eraseIdx k).flatMap bK.cells:=by
  have h1:cur.toList.take (k*3)=(l.flatMap bK.cells).take (k*3):=by rw[←htake,List.take_take,Nat.min_eq_left (by omega)]
  rw[List.eraseIdx_eq_take_drop_succ,List.flatMap_append,T_,Ua,←h1]
  refine List.take_left' ?_
  rw[List.length_append,hnl,List.length_take,Array.length_toList]
  omega
 have hsz1:(cur.toList.take (k*3)++(l.flatMap bK.cells).drop ((k+1)*3)++cur.toList.drop (k*3+((l.flatMap bK.cells).drop ((k+1)*3)).length)).length=c*3:=by
  rw[List.length_append,List.length_append,hnl,List.length_take,List.length_drop,Array.length_toList]
  omega
 generalize Uc:cur.toList.take (k*3)++(l.flatMap bK.cells).drop ((k+1)*3)++cur.toList.drop (k*3+((l.flatMap bK.cells).drop ((k+1)*3)).length)=C at*
 clear Uc
 obtain⟨Z,hZ,hcl⟩:=TW W1 g (m*3) 1 (c-m) (by omega) (fun j hj=>by
  rw[aI hb1 (m*3+j) (u:=C[m*3+j]'(by omega)) (by simp)];rfl) fun j hj=>bn hb1 _
 obtain⟨W2,hW2⟩:∃W2,W2=W1.setCells g (m*3) Z:=⟨_,rfl⟩
 have hb2:W2.heap[g]?=some (.cells (C.take (m*3)++Z++C.drop (m*3+Z.length)).toArray 86 (0,0)):=by
  rw[hW2]
  have:=vZ g 86 (0,0) Z (m*3) W1 C.toArray hb1 (by rw[hZ,List.size_toArray,hsz1];omega)
  simpa using this
 have HOWN:=ah (show W2.ownsRow 0 86 3 (.slice (some ⟨g,0,none⟩) m c) m ((l.eraseIdx k).flatMap bK.cells)from by
  refine⟨by rw[TM,List.length_eraseIdx_of_lt (by omega),hl];rfl, .inr ⟨g,c,_,rfl,Nat.zero_le _,hb2,by omega,hcm,?_,?_⟩⟩
  ·rw[List.size_toArray,List.length_append,List.length_append,hZ,List.length_take,List.length_drop,hsz1];omega
  ·rw[List.append_assoc,List.take_left' (by rw[List.length_take,hsz1];omega),hpre])
 have iZ:=ah (show aj (dh (.slice (some ⟨g,0,none⟩) (m+1) c)) w W2 from by
  rw[hW2,hW1]
  exact((aj.drew _ w).trans (aj.setCells (S:=dh (.slice (some ⟨g,0,none⟩) (m+1) c)) g w.drew (.inl rfl) _ _) fun _ _ h=>h).trans (aj.setCells (S:=dh (.slice (some ⟨g,0,none⟩) (m+1) c)) g _ (.inl rfl) _ _) fun _ _ h=>h)
 rw[←hW1]at Ew
 clear hap
 have hwd:c=k+1→W1=w.drew:=fun h=>by
  have:(l.flatMap bK.cells).drop ((k+1)*3)=[]:=List.eq_nil_of_length_eq_zero (by rw[hnl];omega)
  rw[hW1,this]
  rfl
 have hmc:m≤c:=by omega
 rw[←hW2]at hcl
 have hcx:(c:Int)≤9223372036854775807:=by simp only[maxLen]at hcm;omega
 have hcm2:¬c=m:=by omega
 have JY:=hnl
 clear hW1 hW2 hb1 hb2 hZ hpre hsz1 htake hcs hcz hg hfree hcells hone hnl hxl ho hs
 have mP:=ah JY;clear JY
 generalize (l.flatMap bK.cells).drop ((k+1)*3)=D at*
 have f0:(0:Int)≤(k:Int)+1:=by omega
 have f2:(k:Int)+1≤(m:Int)+1:=by omega
 have f3:(m:Int)+1≤(c:Int):=by omega
 have f4:(k:Int)≤(c:Int):=by omega
 have f5:(k:Int)+1≤(c:Int):=by omega
 have f6:(k:Int)≤(k:Int)+1:=by omega
 by_cases hck:c=k+1
 ·obtain rfl:k=m:=by omega
  have hw1:=hwd hck
  subst hw1 hck
  have hD:D.length=0:=by rw[mP.out];omega
  have hD:D=[]:=List.eq_nil_of_length_eq_zero hD
  subst hD
  have:=Ub g k (k+1) w W2 _ (⟨HOWN.out,iZ.out⟩:_∧_) (by omega) (by omega) (by omega) (by omega) rfl Ew (by omega) (by simpa using hcl)
  exact this.mono fun e w' h=>⟨h.1,h.2.1▸h.2.2.1,h.2.1▸h.2.2.2⟩
 all_goals(
  replace hld:=hld hck
  clear hwd
  go_enter Tryz.func42,Tryz.ntmps42
  go_wp2
  refine iY (S:=fun _=>True) 7 (by kernel_rfl) trivial ?_
  intro hS
  refine aT 0 20 rfl rfl (v:=?_) (.inl ⟨by rfl,?_⟩) ?_
  rotate_left 1
  ·(intro w hSw;(try dsimp only at hSw);go_simp;(try with_reducible rfl))
  refine aT 1 21 rfl rfl (v:=?_) (.inl ⟨by rfl,?_⟩) ?_
  rotate_left 1
  ·(intro w hSw;(try dsimp only at hSw);go_simp;(try with_reducible rfl))
  try simp only[Act.put,aP,aQ,aO]
  refine aT 2 22 rfl rfl (v:=?_) (.inl ⟨by rfl,?_⟩) ?_
  rotate_left 1
  ·(intro w hSw;(try dsimp only at hSw);go_simp;(try with_reducible rfl))
  refine aT 3 23 rfl rfl (v:=?_) (.inl ⟨by rfl,?_⟩) ?_
  rotate_left 1
  ·(intro w hSw;(try dsimp only at hSw);go_simp;(try with_reducible rfl))
  try simp only[Act.put,aP,aQ,aO]
  refine aT 4 24 rfl rfl (v:=?_) (.inl ⟨by rfl,?_⟩) ?_
  rotate_left 1
  ·(intro w hSw;(try dsimp only at hSw);go_simp;(try with_reducible rfl))
  refine aT 5 25 rfl rfl (v:=?_) (.inl ⟨by rfl,?_⟩) ?_
  rotate_left 1
  ·(intro w hSw;(try dsimp only at hSw);go_simp;(try with_reducible rfl))
  try simp only[Act.put,aP,aQ,aO]
  refine bP (i:=6) (by kernel_rfl) rfl (fun K hK=>?_)
  go_simp
  refine hK.out _ _ hS ?_
  clear hK K
  try simp only[Act.put,aP,aQ,aO]
  refine iK (by kernel_rfl) (by kernel_rfl) rfl (fun K hK=>?_)
  go_simp
  refine hK.out _ _ ?_
  clear hK K
  go_wp2
  go_ret
  exact⟨rfl,HOWN.out,iZ.out⟩
  )
open Go.RowKit
noncomputable def lM (es:List aG) (ks:aH) (c:aV) (es':List aG) (ks':aH) (c':aV):List aG×aH:=gW (fJ c) (fJ c') 5 (es,ks) (es',ks')
def Ah (w:World) (es:List aG) (ks:aH) (c:aV) (es':List aG) (ks':aH) (c':aV) (e:Ending) (w':World) (f:Value→Value):Prop:=
 ∃ev kv cv u,e= .returned (f (.agg #[ev,kv,cv]))∧bC (fun b=>w.heap.size≤b) w' ev kv (lM es ks c es' ks' c').1 (lM es ks c es' ks' c').2∧OwnAt w w' 92 3 cv u.length (bU u)∧iC 0 c c' u
theorem Ud (Q Q':Nat→Prop) (es:List aG) (ks:aH) (c:aV) (es':List aG) (ks':aH) (c':aV) (w:World) (ev kv cv ev' kv' iQ:Value) (h:eu Q w ev kv cv es ks c) (h':eu Q' w ev' kv' iQ es' ks' c')
 (hok:jB es ks c) (hok':jB es' ks' c') (hr:fG es ks c) (hr':fG es' ks' c'):
 Calls Tryz.prog 49 #[.agg #[ev,kv,cv], .agg #[ev',kv',iQ]] w fun e w'=>Ah w es ks c es' ks' c' e w' id:=by
 obtain⟨a0,c0,a1,c1,a2,c2,rfl,rfl,rfl⟩:=h.shape
 obtain⟨d0,k0,d1,k1,d2,k2,rfl,rfl,rfl⟩:=h'.shape
 have HT:=ah (fun W (f:aj au w W)=>Tn Q Q' c c' hok.fits hok'.fits hr.ctx hr'.ctx (by have:=hok.len;omega) (by have:=hok'.len;omega) 5 es ks es' ks' W _ _ _ _ _ _ (h.tree.aN f) (h'.tree.aN f) (Rd.aN h.ctx f) (Rd.aN h'.ctx f) hr.tree hr'.tree (by have:=hok.small;omega) (by have:=hok'.small;omega))
 have HU:=ah (fun W (f:aj au w W)=>Px W _ _ c c' (Rd.aN h.ctx f) (Rd.aN h'.ctx f) hok.fits hok'.fits hr.ctx hr'.ctx (by have:=hok.len;omega) (by have:=hok'.len;omega))
 clear h h' hok hok' hr hr'
 obtain⟨J,hJ⟩:∃J,J=lM es ks c es' ks' c':=⟨_,rfl⟩
 unfold Ah
 rw[←hJ]
 have hJ2:gW (fJ c) (fJ c') 5 (es,ks) (es',ks')=J:=hJ.symm
 rw[hJ2]at HT
 clear hJ hJ2
 generalize es.length=n0 at*
 generalize ks.len=n1 at*
 generalize c.length=n2 at*
 generalize es'.length=m0 at*
 generalize ks'.len=m1 at*
 generalize c'.length=m2 at*
 obtain⟨hf0,hs0,hb0,hb1,hb2⟩:=zZ w #[.slice a0 n0 c0, .slice a1 n1 c1, .slice a2 n2 c2] #[.slice d0 m0 k0, .slice d1 m1 k1, .slice d2 m2 k2] #[.slice none 0 0, .slice none 0 0, .slice none 0 0] 32 32 32
 have eF:=ah (fun W (f:aj au (((w.alloc (.cells #[.slice a0 n0 c0, .slice a1 n1 c1, .slice a2 n2 c2] 32)).alloc (.cells #[.slice d0 m0 k0, .slice d1 m1 k1, .slice d2 m2 k2] 32)).alloc (.cells #[.slice none 0 0, .slice none 0 0, .slice none 0 0] 32)) W)=>
  (⟨f.cell' (aI hb0 0 rfl) id,f.cell' (aI hb0 1 rfl) id,f.cell' (aI hb0 2 rfl) id,f.cell' (aI hb1 0 rfl) id,f.cell' (aI hb1 1 rfl) id,f.cell' (aI hb1 2 rfl) id⟩:
    W.cell? ⟨w.heap.size,0,none⟩=some (.slice a0 n0 c0)∧W.cell? ⟨w.heap.size,1,none⟩=some (.slice a1 n1 c1)∧W.cell? ⟨w.heap.size,2,none⟩=some (.slice a2 n2 c2)∧W.cell? ⟨w.heap.size+1,0,none⟩=some (.slice d0 m0 k0)∧W.cell? ⟨w.heap.size+1,1,none⟩=some (.slice d1 m1 k1)∧W.cell? ⟨w.heap.size+1,2,none⟩=some (.slice d2 m2 k2)))
 have fM:=ah hf0;clear hf0
 have HB2:=ah hb2
 clear hb0 hb1 hb2 hs0
 go_enter Tryz.func49,Tryz.ntmps49
 go_wp2_with fail
 refine iY (S:=fun W=>W.cell? ⟨w.heap.size,0,none⟩=some (.slice a0 n0 c0)∧W.cell? ⟨w.heap.size,1,none⟩=some (.slice a1 n1 c1)∧W.cell? ⟨w.heap.size,2,none⟩=some (.slice a2 n2 c2)∧W.cell? ⟨w.heap.size+1,0,none⟩=some (.slice d0 m0 k0)∧W.cell? ⟨w.heap.size+1,1,none⟩=some (.slice d1 m1 k1)∧W.cell? ⟨w.heap.size+1,2,none⟩=some (.slice d2 m2 k2)) 15 (by kernel_rfl) (eF.out _ (aj.drew _ _)) ?_
 intro hS
 obtain⟨Z,hZ⟩:∃Z,Z=((w.alloc (.cells #[.slice a0 n0 c0, .slice a1 n1 c1, .slice a2 n2 c2] 32)).alloc (.cells #[.slice d0 m0 k0, .slice d1 m1 k1, .slice d2 m2 k2] 32)).alloc (.cells #[.slice none 0 0, .slice none 0 0, .slice none 0 0] 32):=⟨_,rfl⟩
 rw[←hZ]at eF fM HB2 hS⊢
 clear hZ
 have Ey:=ah (aj.drew au Z)
 generalize Z.drew=Y at*
 refine aT 0 5 rfl rfl (v:=?_) (.inl ⟨by rfl,?_⟩) ?_
 rotate_left 1
 ·(intro w hSw;(try dsimp only at hSw);go_simp;(try with_reducible rfl))
 refine aT 1 6 rfl rfl (v:=?_) (.inl ⟨by rfl,?_⟩) ?_
 rotate_left 1
 ·(intro w hSw;(try dsimp only at hSw);go_simp;(try with_reducible rfl))
 try simp only[Act.put,aP,aQ,aO]
 refine aT 2 7 rfl rfl (v:=?_) (.inl ⟨by rfl,?_⟩) ?_
 rotate_left 1
 ·(intro w hSw;(try dsimp only at hSw);go_simp;(try with_reducible rfl))
 refine aT 3 8 rfl rfl (v:=?_) (.inl ⟨by rfl,?_⟩) ?_
 rotate_left 1
 ·(intro w hSw;(try dsimp only at hSw);go_simp;(try with_reducible rfl))
 try simp only[Act.put,aP,aQ,aO]
 refine aT 4 9 rfl rfl (v:=?_) (.inl ⟨by rfl,?_⟩) ?_
 rotate_left 1
 ·(intro w hSw;(try dsimp only at hSw);go_simp;(try with_reducible rfl))
 refine aT 5 10 rfl rfl (v:=?_) (.inl ⟨by rfl,?_⟩) ?_
 rotate_left 1
 ·(intro w hSw;(try dsimp only at hSw);go_simp;(try with_reducible rfl))
 try simp only[Act.put,aP,aQ,aO]
 refine aT 6 11 rfl rfl (v:=?_) (.inl ⟨by rfl,?_⟩) ?_
 rotate_left 1
 ·(intro w hSw;(try dsimp only at hSw);go_simp;(try with_reducible rfl))
 refine aT 7 12 rfl rfl (v:=?_) (.inl ⟨by rfl,?_⟩) ?_
 rotate_left 1
 ·(intro w hSw;(try dsimp only at hSw);go_simp;(try with_reducible rfl))
 try simp only[Act.put,aP,aQ,aO]
 refine aT 9 14 rfl rfl (v:=?_) (.inl ⟨by rfl,?_⟩) ?_
 rotate_left 1
 ·(intro w hSw;(try dsimp only at hSw);go_simp;(try with_reducible rfl))
 refine aT 10 15 rfl rfl (v:=?_) (.inl ⟨by rfl,?_⟩) ?_
 rotate_left 1
 ·(intro w hSw;(try dsimp only at hSw);go_simp;(try with_reducible rfl))
 try simp only[Act.put,aP,aQ,aO]
 refine aT 11 16 rfl rfl (v:=?_) (.inl ⟨by rfl,?_⟩) ?_
 rotate_left 1
 ·(intro w hSw;(try dsimp only at hSw);go_simp;(try with_reducible rfl))
 refine aT 12 17 rfl rfl (v:=?_) (.inl ⟨by rfl,?_⟩) ?_
 rotate_left 1
 ·(intro w hSw;(try dsimp only at hSw);go_simp;(try with_reducible rfl))
 try simp only[Act.put,aP,aQ,aO]
 refine bP (i:=8) (by kernel_rfl) rfl (fun K hK=>?_)
 go_simp
 refine(HT.out _ (fM.out.aF Ey.out)).mono ?_
 rintro e Y1 ⟨mQ,gU,rfl,iP,hf3⟩
 obtain⟨a3,c3,rfl⟩:=iP.ents.rd.sl
 obtain⟨os3,jU,-⟩:=iP.kids
 obtain⟨a4,c4,rfl⟩:=jU.rd.sl
 clear jU
 have HF3:=ah (Ey.out.aF hf3)
 have hS1:=eF.out Y1 HF3.out
 refine hK.out _ _ hS1 ?_
 clear hK K hS hf3
 have hS:=hS1
 clear hS1
 have iF:=ah iP;clear iP
 try simp only[Act.put,aP,aQ,aO]
 refine bP (i:=13) (by kernel_rfl) rfl (fun K hK=>?_)
 go_simp
 refine(HU.out _ (fM.out.aF HF3.out)).mono ?_
 rintro e Y2 ⟨v5,u,rfl,h_,hby,-⟩
 obtain⟨a5,c5,rfl⟩:=h_.shape
 have iH:=ah h_;clear h_
 have mG:=ah hby;clear hby
 have hS1:=eF.out Y2 (HF3.out.aF iH.out.aJ)
 refine hK.out _ _ hS1 ?_
 clear hK K hS
 have hS:=hS1
 clear hS1
 try simp only[Act.put,aP,aQ,aO]
 refine aT 14 19 rfl rfl (v:=?_) (.inl ⟨by rfl,?_⟩) ?_
 rotate_left 1
 ·(intro w hSw;(try dsimp only at hSw);go_simp;(try with_reducible rfl))
 try simp only[Act.put,aP,aQ,aO]
 refine iK (by kernel_rfl) (by kernel_rfl) rfl (fun K hK=>?_)
 have hblk:=(HF3.out.aF iH.out.aJ).blk HB2.out id
 have gq:=ah ((fM.out.aF HF3.out).aF iH.out.aJ)
 have HR3:=ah (sV hblk gq.out (by omega) (.slice a3 J.1.length c3) (.slice a4 J.2.len c4) (.slice a5 u.length c5))
 have hs0:=fM.out.size
 have hs3:=Ey.out.size
 have hl2:=lt_of_block HB2.out
 have IY:=lt_of_block hblk
 have HP:=ah ((iF.out.aN iH.out.aJ).turn (Q':=fun b=>w.heap.size≤b) fun b hb hQ=>⟨HR3.out.2.2 b (by omega),by omega⟩)
 have hown:OwnAt w (((Y2.setCell ⟨w.heap.size+1+1,0,none⟩ (.slice a3 J.1.length c3)).setCell ⟨w.heap.size+1+1,1,none⟩ (.slice a4 J.2.len c4)).setCell ⟨w.heap.size+1+1,2,none⟩ (.slice a5 u.length c5)) 92 3 (.slice a5 u.length c5) u.length (bU u):=by
  have hnew:=iH.out.new
  have hz:=HF3.out.size
  have mW:dP (fun b=>b=w.heap.size+1+1) w Y2 92 3 (.slice a5 u.length c5) u.length (bU u):=⟨iH.out.base (fM.out.aF HF3.out),fun b hb hn=>by have:=hnew b hb;omega⟩
  exact(((mW.set (p:=⟨w.heap.size+1+1,0,none⟩) rfl (by show w.heap.size≤w.heap.size+1+1;omega) _).set (p:=⟨w.heap.size+1+1,1,none⟩) rfl (by show w.heap.size≤w.heap.size+1+1;omega) _).set (p:=⟨w.heap.size+1+1,2,none⟩) rfl (by show w.heap.size≤w.heap.size+1+1;omega) _).at_
 have HOW:=ah hown;clear hown
 have y0:=aI hblk 0 rfl
 have y1:=aI hblk 1 rfl
 have y2:=aI hblk 2 rfl
 have g0:=bn hblk 0
 have g1:=bn hblk 1
 have g2:=bn hblk 2
 clear hS hblk
 go_simp
 refine hK.out _ _ ?_
 clear hK K y0 y1 y2 g0 g1 g2
 go_wp2
 have y0:=aI HR3.out.1 0 rfl
 have y1:=aI HR3.out.1 1 rfl
 have y2:=aI HR3.out.1 2 rfl
 exact bodyPost_ret (v:= .agg #[.slice a3 J.1.length c3, .slice a4 J.2.len c4, .slice a5 u.length c5]) (by simp[results,Tryz.results49,go_sem,y0,y1,y2]) rfl ⟨_,_,_,u,rfl,HP.out,HOW.out,mG.out⟩
theorem JZ (Q Q':Nat→Prop) (es:List aG) (ks:aH) (c:aV) (es':List aG) (ks':aH) (c':aV) (w:World) (ev kv cv ev' kv' iQ:Value) (h:eu Q w ev kv cv es ks c) (h':eu Q' w ev' kv' iQ es' ks' c')
 (hok:jB es ks c) (hok':jB es' ks' c') (hr:fG es ks c) (hr':fG es' ks' c'):
 Calls Tryz.prog 22 #[.agg #[ev,kv,cv], .agg #[ev',kv',iQ]] w fun e w'=>Ah w es ks c es' ks' c' e w' fun v=> .tuple #[v, .int .i64 0]:=by
 have HJ:=ah (fun W (f:aj au w W)=>Ud Q Q' es ks c es' ks' c' W ev kv cv ev' kv' iQ (h.aN f) (h'.aN f) hok hok' hr hr')
 have HR:=ah (fun W (f:aj au w W)=>dH hr▸rD Q es ks c W ev kv cv (h.aN f) hok)
 have HR2:=ah (fun W (f:aj au w W)=>dH hr'▸rD Q' es' ks' c' W ev' kv' iQ (h'.aN f) hok')
 obtain⟨a0,c0,a1,c1,a2,c2,rfl,rfl,rfl⟩:=h.shape
 obtain⟨d0,k0,d1,k1,d2,k2,rfl,rfl,rfl⟩:=h'.shape
 clear h h' hok hok' hr hr'
 unfold Ah at*
 generalize lM es ks c es' ks' c'=J at*
 generalize es.length=n0 at*
 generalize ks.len=n1 at*
 generalize c.length=n2 at*
 generalize es'.length=m0 at*
 generalize ks'.len=m1 at*
 generalize c'.length=m2 at*
 obtain⟨hf0,hs0,hb0,hb1,hb2⟩:=zZ w #[.slice a0 n0 c0, .slice a1 n1 c1, .slice a2 n2 c2] #[.slice d0 m0 k0, .slice d1 m1 k1, .slice d2 m2 k2] #[.slice none 0 0, .slice none 0 0, .slice none 0 0] 32 32 32
 have eF:=ah (fun W (f:aj au (((w.alloc (.cells #[.slice a0 n0 c0, .slice a1 n1 c1, .slice a2 n2 c2] 32)).alloc (.cells #[.slice d0 m0 k0, .slice d1 m1 k1, .slice d2 m2 k2] 32)).alloc (.cells #[.slice none 0 0, .slice none 0 0, .slice none 0 0] 32)) W)=>
  (⟨f.cell' (aI hb0 0 rfl) id,f.cell' (aI hb0 1 rfl) id,f.cell' (aI hb0 2 rfl) id,f.cell' (aI hb1 0 rfl) id,f.cell' (aI hb1 1 rfl) id,f.cell' (aI hb1 2 rfl) id⟩:W.cell? ⟨w.heap.size,0,none⟩=some (.slice a0 n0 c0)∧W.cell? ⟨w.heap.size,1,none⟩=some (.slice a1 n1 c1)∧W.cell? ⟨w.heap.size,2,none⟩=some (.slice a2 n2 c2)∧W.cell? ⟨w.heap.size+1,0,none⟩=some (.slice d0 m0 k0)∧W.cell? ⟨w.heap.size+1,1,none⟩=some (.slice d1 m1 k1)∧W.cell? ⟨w.heap.size+1,2,none⟩=some (.slice d2 m2 k2)))
 have fM:=ah hf0;clear hf0
 have HB2:=ah hb2
 have HZ0:=ah hs0
 clear hb0 hb1 hb2 hs0
 go_enter Tryz.func22,Tryz.ntmps22
 go_wp2_with(first
  |(go_at_call_of 40 a0;refine(HR.out _ fM.out).mono ?_;rintro e w1 ⟨rfl,hw1⟩;obtain⟨y0,y1,y2,y3,y4,y5⟩:=eF.out w1 hw1;have hl0:=World.block_lt_of_cell? _ _ y0;have hl1:=World.block_lt_of_cell? _ _ y3;have HW1:=ah hw1;clear hw1)
  |(go_at_call_of 40 d0;refine(HR2.out _ (fM.out.aF HW1.out)).mono ?_;rintro e w2 ⟨rfl,hw2⟩;clear y0 y1 y2 y3 y4 y5 hl0 hl1;obtain⟨y0,y1,y2,y3,y4,y5⟩:=eF.out w2 (HW1.out.aF hw2);have hl0:=World.block_lt_of_cell? _ _ y0;have hl1:=World.block_lt_of_cell? _ _ y3;have HW2:=ah (HW1.out.aF hw2);clear hw2)
  |(go_at_call 49;refine(HJ.out _ (fM.out.aF HW2.out)).mono ?_;rintro e w3 ⟨mQ,gU,jL,u,rfl,hta,ho,hby⟩;obtain⟨a3,c3,rfl⟩:=hta.ents.rd.sl;obtain⟨os3,jU,-⟩:=hta.kids;obtain⟨a4,c4,rfl⟩:=jU.rd.sl;obtain⟨a5,c5,rfl⟩:=ho.shape;clear jU y0 y1 y2 y3 y4 y5 hl0 hl1;have iF:=ah hta;clear hta;have HO:=ah ho;clear ho;have mG:=ah hby;clear hby;have HW3:=ah (HW2.out.aF HO.out.aJ);have hblk:=HW3.out.blk HB2.out id;have z0:=aI hblk 0 rfl;have z1:=aI hblk 1 rfl;have z2:=aI hblk 2 rfl;have g0:=bn hblk 0;have g1:=bn hblk 1;have g2:=bn hblk 2;have hl2:=lt_of_block hblk;have gK:=ah hblk;clear hblk))
 clear z0 z1 z2 g0 g1 g2
 have gq:=ah (fM.out.aF HW3.out)
 have HR3:=ah (sV gK.out gq.out (by omega) (.slice a3 J.1.length c3) (.slice a4 J.2.len c4) (.slice a5 u.length c5))
 have hs0:=fM.out.size
 have hs2:=HW2.out.size
 have hz:=HZ0.out
 have HP:=ah (iF.out.turn (Q':=fun b=>w.heap.size≤b) fun b hb hQ=>⟨HR3.out.2.2 b (by omega),by omega⟩)
 have hown:OwnAt w (((w3.setCell ⟨w.heap.size+1+1,0,none⟩ (.slice a3 J.1.length c3)).setCell ⟨w.heap.size+1+1,1,none⟩ (.slice a4 J.2.len c4)).setCell ⟨w.heap.size+1+1,2,none⟩ (.slice a5 u.length c5)) 92 3 (.slice a5 u.length c5) u.length (bU u):=by
  have hnew:=HO.out.new
  have mW:dP (fun b=>b=w.heap.size+1+1) w w3 92 3 (.slice a5 u.length c5) u.length (bU u):=⟨HO.out.base (fM.out.aF HW2.out),fun b hb hn=>by have:=hnew b hb;omega⟩
  exact(((mW.set (p:=⟨w.heap.size+1+1,0,none⟩) rfl (by show w.heap.size≤w.heap.size+1+1;omega) _).set (p:=⟨w.heap.size+1+1,1,none⟩) rfl (by show w.heap.size≤w.heap.size+1+1;omega) _).set (p:=⟨w.heap.size+1+1,2,none⟩) rfl (by show w.heap.size≤w.heap.size+1+1;omega) _).at_
 have y0:=aI HR3.out.1 0 rfl
 have y1:=aI HR3.out.1 1 rfl
 have y2:=aI HR3.out.1 2 rfl
 exact bodyPost_ret (v:= .tuple #[.agg #[.slice a3 J.1.length c3, .slice a4 J.2.len c4, .slice a5 u.length c5], .int .i64 0]) (by simp[results,Tryz.results22,go_sem,y0,y1,y2]) rfl ⟨_,_,_,u,rfl,HP.out,hown,mG.out⟩
end Go.Proofs.YtlhmbkjdfjoilaaGreat
