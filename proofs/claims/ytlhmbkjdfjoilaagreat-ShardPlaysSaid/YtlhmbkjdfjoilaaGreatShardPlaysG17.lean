/- Words for the law ShardPlays: Sh2, Sh3, Sh4, Sh5, Sh6, Sh7. -/
import Derived.Test.YtlhmbkjdfjoilaaGreatShardPlaysG0
import Derived.Test.YtlhmbkjdfjoilaaGreatShardPlaysG16
set_option linter.unusedSimpArgs false
set_option linter.unusedVariables false
set_option maxHeartbeats 32000000
set_option maxRecDepth 1000000
namespace Go.Proofs.YtlhmbkjdfjoilaaGreat
open Go.RowKit
def aem (w:World) (p:ByteArray→Bool) (ks:aT) (c:bD) (e:Ending) (w':World):Prop:=
 ∃kv cv,e= .returned (.tuple #[.agg #[.slice none 0 0,kv,cv], .int .i64 0])∧bZ (fun b=>w.heap.size≤b) w' (.slice none 0 0) kv [] (bF p ks)∧OwnAt w w' 92 3 cv c.length (dY c)
theorem Qi (Q:Nat→Prop) (ks:aT) (c:bD) (w:World) (ev kv cv:Value) (h:dU Q w ev kv cv [] ks c) (hok:iD [] ks c) (hr:jA [] ks c)
 (b n cp:Nat) (a:Option Addr) (k:Nat) (hk:k<n) (hb:w.cell? ⟨b,0,none⟩=some (.slice a n cp)):
 Calls Tryz.prog 16 #[.pointer (some ⟨b,0,none⟩), .agg #[ev,kv,cv], .int .i64 k] w (aem w (bQ n k) ks c):=by
 have HH:=ah (fun W (f:aj aF w W)=>Ey b n cp a k W (f.cell' hb id))
 have HR:=ah (fun W (f:aj aF w W)=>gu hr▸xQ Q [] ks c W ev kv cv (h.aS f) hok)
 have HC:=ah (fun W (f:aj aF w W)=>Qg Q [] ks c W ev kv cv (h.aS f) hok hr b n cp a k (f.cell' hb id))
 have hhk:decide (0≤(k:Int)∧(k:Int)<(n:Int))=true:=by rw[decide_eq_true_eq];omega
 rw[hhk]at HH
 obtain⟨a0,c0,a1,c1,a2,c2,rfl,rfl,rfl⟩:=h.shape
 clear h hok hr hhk hb
 unfold Hr at HC
 generalize ks.len=m at*
 obtain⟨WB,lG⟩:∃WB,WB=(w.alloc (.cells #[.slice a0 0 c0, .slice a1 m c1, .slice a2 c.length c2] 32)).alloc (.cells #[.slice none 0 0, .slice none 0 0, .slice none 0 0] 32):=⟨_,rfl⟩
 have b_:=ah (show aj aF w WB by rw[lG];exact(aj.alloc _ _ _).alloc1)
 have HB0:=ah (show WB.heap[w.heap.size]?=some (.cells #[.slice a0 0 c0, .slice a1 m c1, .slice a2 c.length c2] 32 (0,0)) by rw[lG];exact((aj.refl aF _).alloc1 (o:= .cells #[.slice none 0 0, .slice none 0 0, .slice none 0 0] 32)).blk (heap_alloc_new w _) id)
 have HB1:=ah (show WB.heap[w.heap.size+1]?=some (.cells #[.slice none 0 0, .slice none 0 0, .slice none 0 0] 32 (0,0)) by rw[lG];exact(lY w _ _ _).1)
 have eu:=ah lG
 clear lG
 go_enter Tryz.func16,Tryz.ntmps16
 go_wp2_with(first
  |(go_at_call 39;rw[←eu.out];refine(HH.out _ b_.out).mono ?_;rintro e w1 ⟨rfl,rfl⟩;have y0:=aG HB0.out 0 rfl;have y1:=aG HB0.out 1 rfl;have y2:=aG HB0.out 2 rfl;have hl0:=lt_of_block HB0.out)
  |(go_at_call 40;refine(HR.out _ b_.out).mono ?_;clear y0 y1 y2 hl0;rintro e w2 ⟨rfl,hw2⟩;have y0:=aG (hw2.blk HB0.out id) 0 rfl;have y1:=aG (hw2.blk HB0.out id) 1 rfl;have y2:=aG (hw2.blk HB0.out id) 2 rfl;have hl0:=lt_of_block (hw2.blk HB0.out id);have HW2:=ah hw2;clear hw2)
  |(go_at_call 41;refine(HC.out _ (b_.out.aH HW2.out)).mono ?_;clear y0 y1 y2 hl0;rintro e w3 ⟨jV,mW,rfl,hta,ho3⟩;obtain⟨uy,kH,-⟩:=hta.kids;obtain⟨a5,c5,rfl⟩:=kH.rd.sl;obtain⟨a6,c6,rfl⟩:=ho3.shape;clear kH;have hblk:=ho3.aI.blk (HW2.out.blk HB1.out id) id;have z0:=aG hblk 0 rfl;have z1:=aG hblk 1 rfl;have z2:=aG hblk 2 rfl;have g0:=aW hblk 0;have g1:=aW hblk 1;have g2:=aW hblk 2;have hbl:=lt_of_block hblk;have kF:=ah hta;clear hta;have dw:=ah ho3;clear ho3;have HB3:=ah hblk;clear hblk))
 have WJ:=lt_of_block HB1.out
 have hsw:=HW2.out.size
 have hs5:=dw.out.aI.size
 have HR3:=ah (BP HB3.out ((b_.out.aH HW2.out).aH dw.out.aI) (by omega) (.slice none 0 0) (.slice a5 (bF (bQ n k) ks).len c5) (.slice a6 c.length c6))
 have HP:=ah (kF.out.turn (Q':=fun b=>w.heap.size≤b) fun b hb hQ=>⟨HR3.out.2.2 b (by omega),by omega⟩)
 have hnew:=dw.out.new
 have um:iH (fun b=>b=w.heap.size+1) w w3 92 3 (.slice a6 c.length c6) c.length (dY c):=⟨dw.out.base (b_.out.aH HW2.out),fun b hb hn=>by have:=hnew b hb;omega⟩
 have hown:=(((um.set (p:=⟨w.heap.size+1,0,none⟩) rfl (Nat.le_succ _) (.slice none 0 0)).set (p:=⟨w.heap.size+1,1,none⟩) rfl (Nat.le_succ _) (.slice a5 (bF (bQ n k) ks).len c5)).set (p:=⟨w.heap.size+1,2,none⟩) rfl (Nat.le_succ _) (.slice a6 c.length c6)).at_
 clear z0 z1 z2
 have z0:=aG HR3.out.1 0 rfl
 have z1:=aG HR3.out.1 1 rfl
 have z2:=aG HR3.out.1 2 rfl
 exact bodyPost_ret (v:= .tuple #[.agg #[.slice none 0 0, .slice a5 (bF (bQ n k) ks).len c5, .slice a6 c.length c6], .int .i64 0]) (by simp[results,Tryz.results16,go_sem,z0,z1,z2]) rfl ⟨_,_,rfl,HP.out,hown⟩
open Go.RowKit
structure cO where
 id:Int
 pv:Value
 iv:Value
instance:Inhabited cO:=⟨⟨0, .slice none 0 0, .slice none 0 0⟩⟩
def cO.cells (q:cO):List Value:=[.int .i64 q.id,q.pv,q.iv]
def cO.shaped (q:cO):Prop:=(∃a n c,q.pv= .slice a n c)∧∃a n c,q.iv= .slice a n c
theorem WL (l:List cO):(l.flatMap cO.cells).length=l.length*3:=by
 induction l with
 |nil=>rfl
 |cons q l ih=>rw[List.flatMap_cons,List.length_append,ih];simp[cO.cells];omega
theorem uz:∀(l:List cO) (j:Nat),j<l.length→(l.flatMap cO.cells)[j*3]?=some (.int .i64 (l.getD j default).id)∧(l.flatMap cO.cells)[j*3+1]?=some (l.getD j default).pv∧(l.flatMap cO.cells)[j*3+2]?=some (l.getD j default).iv
 |[],_,h=>by cases h
 |q::l,0,_=>⟨rfl,rfl,rfl⟩
 |q::l,j+1,h=>by
  obtain⟨h1,h2,h3⟩:=uz l j (by simpa using h)
  refine⟨?_,?_,?_⟩
  ·rw[show(j+1)*3=j*3+1+1+1 by omega];exact h1
  ·rw[show(j+1)*3+1=(j*3+1)+1+1+1 by omega];exact h2
  ·rw[show(j+1)*3+2=(j*3+2)+1+1+1 by omega];exact h3
def dG (x:Int) (l:List Int):Int:=if l.findIdx (fun y=>y==x)<l.length then(l.findIdx (fun y=>y==x):Int)else-1
theorem EC {x:Int} {l:List Int} {k:Nat} (hk:k<l.length) (h:∀j,j<k→l.getD j 0≠x) (he:l.getD k 0=x):dG x l=k:=by
 have hf:l.findIdx (fun y=>y==x)=k:=by
  rw[List.findIdx_eq hk]
  refine⟨?_,fun j hj=>?_⟩
  ·rw[getD_at 0 hk]at he;simpa using he
  ·have:=h j hj;rw[getD_at 0 (by omega)]at this;simpa using this
 unfold dG
 rw[hf,if_pos hk]
theorem WM {x:Int} {l:List Int} (h:∀j,j<l.length→l.getD j 0≠x):dG x l=-1:=by
 have hf:l.findIdx (fun y=>y==x)=l.length:=by
  rw[List.findIdx_eq_length]
  intro y hy
  obtain⟨j,hj,rfl⟩:=List.getElem_of_mem hy
  have:=h j hj
  rw[getD_at 0 hj]at this
  simpa using this
 unfold dG
 rw[hf,if_neg (by omega)]
theorem KU (l:List cO) (j:Nat) (hj:j<l.length):(l.map cO.id).getD j 0=(l.getD j default).id:=by
 rw[getD_at default hj,getD_at 0 (by rw[List.length_map];exact hj),List.getElem_map]
theorem aen (y x:Int) (a a':Option Addr) (n c n' c' b:Nat) (w:World) (hb:w.cell? ⟨b,0,none⟩=some (.int .i64 x)):
 Calls Tryz.prog 68 #[.agg #[.int .i64 y, .slice a n c, .slice a' n' c'], .pointer (some ⟨b,0,none⟩)] w fun e w'=>e= .returned (.bool (decide (y=x)))∧aj aF w w':=by
 have hlt:b<w.heap.size:=World.block_lt_of_cell? _ _ hb
 go_enter Tryz.func68,Tryz.ntmps68
 go_wp2
 go_ret
 exact⟨rfl,aj.alloc _ _ _⟩
theorem aeo (x:Int) (l:List cO) (b:Nat) (w:World) (v:Value) (h:Rd w v l.length (l.flatMap cO.cells)) (hs:∀q∈l,q.shaped) (hl:l.length≤100000) (hb:w.cell? ⟨b,0,none⟩=some (.int .i64 x)):
 Calls Tryz.prog 67 #[v, .func (.func 68) #[] #[.pointer (some ⟨b,0,none⟩)]] w fun e w'=>e= .returned (.int .i64 (dG x (l.map cO.id)))∧aj aF w w':=by
 have eg:∀args w,(callFunc 68 args).run Tryz.prog w= .ok (.enter 68 args) w:=enters_of Tryz.func68 (by kernel_rfl) rfl
 have HP:=ah (fun y a n c a' n' c' W (f:aj aF w W)=>aen y x a a' n c n' c' b W (f.cell' hb id));clear hb
 have HIT:=ah (fun k (hk:k<l.length) (h1:∀j,j<k→(l.getD j default).id≠x) (h2:(l.getD k default).id=x)=>EC (x:=x) (l:=l.map cO.id) (k:=k) (by rw[List.length_map];exact hk) (fun j hj=>by rw[KU l j (by omega)];exact h1 j hj) (by rw[KU l k hk];exact h2))
 have lQ:=ah (fun(h1:∀j,j<l.length→(l.getD j default).id≠x)=>WM (x:=x) (l:=l.map cO.id) (fun j hj=>by rw[List.length_map]at hj;rw[KU l j hj];exact h1 j hj))
 generalize dG x (l.map cO.id)=P at*
 rcases Rd.shape h with⟨ad,rfl,h0⟩|⟨p,off,c,rfl,hmax⟩
 ·have HN:=ah (lQ.out fun j hj=>by omega)
  clear h h0 hs
  go_enter Tryz.func67,Tryz.ntmps67
  go_wp2
  go_loop [8] (fun i=>i= .int .i64 0) (fun _=>0)
  case atStart=>rfl
  case round=>
   obtain rfl:=hrel
   go_wp2
   go_ret
   exact⟨by rw[HN.out];rfl,aj.refl _ _⟩
 ·have HH:=ah h;clear h
  have Ah:=ah hs;clear hs
  generalize hn:l.length=m at*
  have HN:=ah hn;clear hn
  go_enter Tryz.func67,Tryz.ntmps67
  go_wp2
  go_loopw [8] (fun i W=>∃k:Nat,k≤m∧i= .int .i64 k∧(∀j,j<k→(l.getD j default).id≠x)∧aj aF w W) (fun i _=>m-(intOf i).toNat)
  case atStart=>exact⟨0,Nat.zero_le _,rfl,fun j hj=>by omega,aj.refl _ _⟩
  case round=>
   obtain⟨k,hk,rfl,ha,hw⟩:=hrel
   have qN:=ah ha;clear ha
   have HW:=ah hw;clear hw
   by_cases hlt:k<m
   ·have hlk:k<l.length:=by rw[HN.out];exact hlt
    obtain⟨g0,g1,g2⟩:=uz l k hlk
    obtain⟨⟨a0,n0,c0,e0⟩,a1,n1,c1,e1⟩:=Ah.out _ (getD_mem default hlk)
    rw[e0]at g1
    rw[e1]at g2
    have r:=HH.out.aS HW.out
    have q0:wr.cell? ⟨p,off+k*3,none⟩=_:=r.cell _ _ g0
    have q1:wr.cell? ⟨p,off+k*3+1,none⟩=_:=r.cell (k*3+1) _ g1
    have q2:wr.cell? ⟨p,off+k*3+2,none⟩=_:=r.cell (k*3+2) _ g2
    clear g0 g1 g2 e0 e1 r
    have sK:=ah (HIT.out k hlt qN.out)
    have Qj:=ah (fun(hne:(l.getD k default).id≠x) j (hj:j<k+1)=>(show(l.getD j default).id≠x from by
     rcases Nat.lt_or_ge j k with h1|h1
     ·exact qN.out j h1
     ·obtain rfl:j=k:=by omega
      exact hne))
    have HC:=ah (HP.out (l.getD k default).id a0 n0 c0 a1 n1 c1)
    generalize (l.getD k default).id=y at*
    by_cases hx:y=x
    ·have HR:=ah (sK.out hx);clear sK Qj
     rw[decide_eq_true hx]at HC
     clear hx
     go_wp2_with(go_at_call 68;refine(HC.out _ HW.out).mono ?_;rintro e w1 ⟨rfl,hw1⟩;have HW1:=ah (HW.out.aH hw1);clear hw1)
     go_ret
     exact⟨by rw[HR.out];rfl,HW1.out⟩
    ·have HR:=ah (Qj.out hx);clear sK Qj
     rw[decide_eq_false hx]at HC
     clear hx
     go_wp2_with(go_at_call 68;refine(HC.out _ HW.out).mono ?_;rintro e w1 ⟨rfl,hw1⟩;have HW1:=ah (HW.out.aH hw1);clear hw1)
     go_roundw
     case rel=>exact⟨k+1,by omega,by go_num,HR.out,HW1.out⟩
     case measure=>simp[intOf];omega
   ·obtain rfl:m=k:=by omega
    have HR:=ah (lQ.out qN.out)
    go_wp2
    go_ret
    exact⟨by rw[HR.out];rfl,HW.out⟩
theorem Cm (x:Int) (l:List cO) (b:Nat) (w:World) (v:Value) (h:Rd w v l.length (l.flatMap cO.cells)) (hs:∀q∈l,q.shaped) (hl:l.length≤100000) (hb:w.cell? ⟨b,1,none⟩=some v):
 Calls Tryz.prog 38 #[.pointer (some ⟨b,0,none⟩), .int .i64 x] w fun e w'=>e= .returned (.int .i64 (dG x (l.map cO.id)))∧aj aF w w':=by
 have HI:=ah (fun W c (f:aj aF w W) hc=>aeo x l c W v (h.aS f) hs hl hc)
 obtain⟨a,c,rfl⟩:=h.sl
 have hlt:b<w.heap.size:=World.block_lt_of_cell? _ _ hb
 clear h hs
 generalize dG x (l.map cO.id)=P at*
 generalize l.length=n at*
 go_enter Tryz.func38,Tryz.ntmps38
 go_wp2_with(go_at_call 67;refine(HI.out _ _ (aj.alloc _ _ _) (aG (heap_alloc_new w _) 0 rfl)).mono ?_;rintro e w1 ⟨rfl,hw1⟩;have HW1:=ah ((aj.alloc aF w _).aH hw1);clear hw1)
 go_ret
 exact⟨rfl,HW1.out⟩
open Go.RowKit
def fJ (bs:List Bool):List Value:=bs.map .bool
def lC (bs:List Bool):Nat:=bs.countP fun y=>y
theorem WQ {bs:List Bool} {k:Nat} (h:k<bs.length):lC (bs.take (k+1))=lC (bs.take k)+if bs.getD k false=true then 1 else 0:=by
 unfold lC
 rw[take_succ false h,List.countP_append,List.countP_singleton]
theorem KW {w:World} {g o c n:Nat} {bs:List Bool} (h:Rd w (.slice (some ⟨g,o,none⟩) n c) n (fJ bs)) (k:Nat) (hk:k<bs.length):w.cell? ⟨g,o+k,none⟩=some (.bool (bs.getD k false)):=
 h.cell k _ (by unfold fJ;rw[List.getElem?_map,List.getElem?_eq_getElem hk,getD_at _ hk];rfl)
theorem aep (x:Int) (l:List cO) (b:Nat) (w:World) (v:Value) (h:Rd w v l.length (l.flatMap cO.cells)) (hs:∀q∈l,q.shaped) (hl:l.length≤100000) (hb:w.cell? ⟨b,1,none⟩=some v) (hp:dG x (l.map cO.id)=-1):
 Calls Tryz.prog 21 #[.pointer (some ⟨b,0,none⟩), .int .i64 x] w fun e w'=>e= .returned (.int .i64 0)∧aj aF w w':=by
 have HA:=ah (hp▸Cm x l b w v h hs hl hb)
 clear h hs hl hb hp
 go_enter Tryz.func21,Tryz.ntmps21
 go_wp2_with(go_at_call 38;refine HA.out.mono ?_;rintro e w1 ⟨rfl,hw1⟩;have HW1:=ah hw1;clear hw1)
 go_ret
 exact⟨rfl,HW1.out⟩
theorem WR (x:Int) (l:List cO) (b:Nat) (w:World) (v:Value) (h:Rd w v l.length (l.flatMap cO.cells)) (hs:∀q∈l,q.shaped) (hl:l.length≤100000) (hb:w.cell? ⟨b,1,none⟩=some v) (k:Nat) (bs:List Bool)
 (hp:dG x (l.map cO.id)=k) (hk:k<l.length) (hbs:Rd w (l.getD k default).iv bs.length (fJ bs)) (hbl:bs.length≤1000):
 Calls Tryz.prog 21 #[.pointer (some ⟨b,0,none⟩), .int .i64 x] w fun e w'=>e= .returned (.int .i64 (lC bs))∧aj aF w w':=by
 have HA:=ah (hp▸Cm x l b w v h hs hl hb)
 have HH:=ah (fun W (f:aj aF w W)=>h.aS f)
 have HB:=ah (fun W (f:aj aF w W)=>f.cell' hb id)
 have uV:=ah (fun W (f:aj aF w W)=>hbs.aS f)
 obtain⟨-,-,g2⟩:=uz l k hk
 rcases Rd.shape h with⟨ad,rfl,h0⟩|⟨p,off,c,rfl,hmax⟩
 ·omega
 have HQ:=ah (fun W (f:aj aF w W)=>(show W.cell? ⟨p,off+k*3+2,none⟩=some (l.getD k default).iv from(HH.out W f).cell (k*3+2) _ g2))
 generalize (l.getD k default).iv=iv at*
 obtain⟨ai,ci,rfl⟩:=hbs.sl
 clear h hs hb hp hbs g2 HH
 generalize l.length=n at*
 have hkn:(k:Int)<(n:Int):=by omega
 go_enter Tryz.func21,Tryz.ntmps21
 go_wp2_with(go_at_call 38;refine HA.out.mono ?_;rintro e w1 ⟨rfl,hw1⟩;have y0:=HB.out _ hw1;have y1:=HQ.out _ hw1;have hb0:=World.block_lt_of_cell? _ _ y0;have hb1:=World.block_lt_of_cell? _ _ y1;have HW1:=ah hw1;clear hw1)
 clear y0 y1 hb0 hb1
 have HR:=ah (uV.out _ HW1.out)
 generalize hm:bs.length=m at*
 have HM:=ah hm;clear hm
 go_loopw [5,23] (fun cv iv W=>∃j:Nat,j≤m∧iv= .int .i64 j∧cv= .int .i64 (lC (bs.take j))∧W=w1) (fun _ iv _=>m-(intOf iv).toNat)
 case atStart=>exact⟨0,by omega,rfl,rfl,rfl⟩
 case round=>
  obtain⟨j,hj,rfl,rfl,rfl⟩:=hrel
  have hle:lC (bs.take j)≤1000:=by have:=List.countP_le_length (p:=fun y=>y) (l:=bs.take j);rw[List.length_take]at this;unfold lC;omega
  by_cases hlt:j<m
  ·have hjl:j<bs.length:=by rw[HM.out];exact hlt
   rcases Rd.shape HR.out with⟨ad,he,h0⟩|⟨g,o,cc,he,hmx⟩
   ·omega
   injection he with e1 e2 e3
   subst e1 e3
   clear e2
   have q0:=KW HR.out j hjl
   have HT:=ah (WQ hjl)
   clear hjl
   generalize lC (bs.take j)=N at*
   have hji:(j:Int)<(m:Int):=by omega
   cases hy:bs.getD j false with
   |true=>
    rw[hy]at q0 HT
    clear hy
    go_wp2
    go_roundw
    case rel=>exact⟨j+1,by omega,by go_num,by rw[HT.out];go_num,by trivial⟩
    case measure=>simp[intOf];omega
   |false=>
    rw[hy]at q0 HT
    clear hy
    go_wp2
    go_roundw
    case rel=>exact⟨j+1,by omega,by go_num,by rw[HT.out];rfl,by trivial⟩
    case measure=>simp[intOf];omega
  ·obtain rfl:j=m:=by omega
   have hall:bs.take j=bs:=List.take_of_length_le (by rw[HM.out];exact Nat.le_refl _)
   rw[hall]
   rw[hall]at hle
   clear hall
   go_wp2
   go_ret
   exact⟨rfl,HW1.out⟩
open Go.RowKit
structure aU where
 es:List aQ
 ks:aT
 c:bD
 ev:Value
 kv:Value
 cv:Value
instance:Inhabited aU:=⟨⟨[], .nil,[], .slice none 0 0, .slice none 0 0, .slice none 0 0⟩⟩
def aU.cells (q:aU):List Value:=[q.ev,q.kv,q.cv]
structure eF (Q:Nat→Prop) (w:World) (q:aU):Prop where
 tree:bZ Q w q.ev q.kv q.es q.ks
 ctx:gy Q w q.cv q.c.length (dY q.c)
theorem eF.at_ {Q:Nat→Prop} {w:World} {q:aU} (h:eF Q w q):dU Q w q.ev q.kv q.cv q.es q.ks q.c:=⟨h.tree,h.ctx.rd⟩
theorem eF.turn {Q Q':Nat→Prop} {w w':World} {q:aU} (h:eF Q w q) (f:∀b,b<w.heap.size→Q b→w'.heap[b]?=w.heap[b]?∧Q' b):eF Q' w' q:=⟨h.tree.turn f,h.ctx.turn f⟩
theorem eF.aS {Q:Nat→Prop} {w w':World} {q:aU} (h:eF Q w q) (f:aj aF w w'):eF Q w' q:=h.turn fun b hb hq=>⟨f.block b hb id,hq⟩
structure aU.good (q:aU):Prop where
 ok:iD q.es q.ks q.c
 right:jA q.es q.ks q.c
theorem vG (l:List aU):(l.flatMap aU.cells).length=l.length*3:=by
 induction l with
 |nil=>rfl
 |cons q l ih=>rw[List.flatMap_cons,List.length_append,ih];simp[aU.cells];omega
theorem wG:∀(l:List aU) (j:Nat),j<l.length→(l.flatMap aU.cells)[j*3]?=some (l.getD j default).ev∧(l.flatMap aU.cells)[j*3+1]?=some (l.getD j default).kv∧(l.flatMap aU.cells)[j*3+2]?=some (l.getD j default).cv
 |[],_,h=>by cases h
 |q::l,0,_=>⟨rfl,rfl,rfl⟩
 |q::l,j+1,h=>by
  obtain⟨h1,h2,h3⟩:=wG l j (by simpa using h)
  refine⟨?_,?_,?_⟩
  ·rw[show(j+1)*3=j*3+1+1+1 by omega];exact h1
  ·rw[show(j+1)*3+1=(j*3+1)+1+1+1 by omega];exact h2
  ·rw[show(j+1)*3+2=(j*3+2)+1+1+1 by omega];exact h3
theorem KX:∀(l:List aU) (i:Nat) (q:aU),i<l.length→(l.set i q).flatMap aU.cells=(((l.flatMap aU.cells).set (i*3) q.ev).set (i*3+1) q.kv).set (i*3+2) q.cv
 |[],_,_,h=>by cases h
 |x::l,0,q,_=>rfl
 |x::l,i+1,q,h=>by
  have ih:=KX l i q (by simpa using h)
  rw[aJ,List.flatMap_cons,ih,List.flatMap_cons]
  rw[show(i+1)*3=i*3+1+1+1 by omega,show i*3+1+1+1+1=(i*3+1)+1+1+1 by omega,show i*3+1+1+1+2=(i*3+2)+1+1+1 by omega]
  rfl
theorem aer (Q:Nat→Prop) (l:List aU) (w:World) (b:Nat) (v:Value) (h:Rd w v l.length (l.flatMap aU.cells)) (hl:l.length≤1000) (hb:w.cell? ⟨b,0,none⟩=some v) (k:Nat) (hk:k<l.length)
 (hq:eF Q w (l.getD k default)) (hg:(l.getD k default).good):
 Calls Tryz.prog 53 #[.pointer (some ⟨b,0,none⟩), .int .i64 k] w (OI w (l.getD k default).es (l.getD k default).ks (l.getD k default).c):=by
 obtain⟨g0,g1,g2⟩:=wG l k hk
 obtain⟨a0,c0,a1,c1,a2,c2,e0,e1,e2⟩:=hq.at_.shape
 have HC:=ah (fun W (f:aj aF w W)=>OJ Q _ _ _ W _ _ _ (hq.aS f).at_ hg.ok hg.right)
 rcases Rd.shape h with⟨ad,rfl,h0⟩|⟨p,off,c,rfl,hmax⟩
 ·omega
 have HH:=ah (fun W (f:aj aF w W)=>Ey b l.length c (some ⟨p,off,none⟩) k W (f.cell' hb id))
 have hhk:decide (0≤(k:Int)∧(k:Int)<(l.length:Int))=true:=by rw[decide_eq_true_eq];omega
 rw[hhk]at HH
 rw[e0]at g0 HC
 rw[e1]at g1 HC
 rw[e2]at g2 HC
 have HB:=ah (fun W (f:aj aF w W)=>(show W.cell? ⟨b,0,none⟩=some (.slice (some ⟨p,off,none⟩) l.length c)∧W.cell? ⟨p,off+k*3,none⟩=some (.slice a0 (l.getD k default).es.length c0)∧W.cell? ⟨p,off+k*3+1,none⟩=some (.slice a1 (l.getD k default).ks.len c1)∧W.cell? ⟨p,off+k*3+2,none⟩=some (.slice a2 (l.getD k default).c.length c2)from
  ⟨f.cell' hb id,(h.aS f).cell _ _ g0,(h.aS f).cell (k*3+1) _ g1,(h.aS f).cell (k*3+2) _ g2⟩))
 clear hq hg h hb hhk g0 g1 g2 e0 e1 e2
 unfold OI at HC⊢
 generalize (l.getD k default).es=es at*
 generalize (l.getD k default).ks=ks at*
 generalize (l.getD k default).c=cx at*
 generalize l.length=n at*
 have hkn:(k:Int)<(n:Int):=by omega
 have bW:=ah (heap_alloc_new w (.cells #[.slice none 0 0, .slice none 0 0, .slice none 0 0] 32))
 go_enter Tryz.func53,Tryz.ntmps53
 go_wp2_with(first
  |(go_at_call 39;refine(HH.out _ (aj.alloc _ _ _)).mono ?_;rintro e w1 ⟨rfl,rfl⟩;obtain⟨y0,y1,y2,y3⟩:=HB.out _ (aj.alloc aF w (.cells #[.slice none 0 0, .slice none 0 0, .slice none 0 0] 32));have hb0:=World.block_lt_of_cell? _ _ y0;have hb1:=World.block_lt_of_cell? _ _ y1)
  |(go_at_call 44;refine(HC.out _ (aj.alloc _ _ _)).mono ?_;clear y0 y1 y2 y3 hb0 hb1;rintro e w3 ⟨uX,jV,mW,rfl,hta,ho3⟩;obtain⟨a3,c3,rfl⟩:=hta.ents.rd.sl;obtain⟨uy,kH,-⟩:=hta.kids;obtain⟨a5,c5,rfl⟩:=kH.rd.sl;obtain⟨a6,c6,rfl⟩:=ho3.shape;clear kH;have hblk:=ho3.aI.blk bW.out id;have z0:=aG hblk 0 rfl;have z1:=aG hblk 1 rfl;have z2:=aG hblk 2 rfl;have g0:=aW hblk 0;have g1:=aW hblk 1;have g2:=aW hblk 2;have hbl:=lt_of_block hblk;have kF:=ah hta;clear hta;have dw:=ah ho3;clear ho3;have HB3:=ah hblk;clear hblk))
 have WJ:=lt_of_block bW.out
 have hs5:=dw.out.aI.size
 have HR3:=ah (BP HB3.out ((aj.alloc aF w _).aH dw.out.aI) (Nat.le_refl _) (.slice a3 es.length c3) (.slice a5 ks.len c5) (.slice a6 cx.length c6))
 have HP:=ah (kF.out.turn (Q':=fun b=>w.heap.size≤b) fun b hb hQ=>⟨HR3.out.2.2 b (by omega),by omega⟩)
 have hnew:=dw.out.new
 have um:iH (fun b=>b=w.heap.size) w w3 92 3 (.slice a6 cx.length c6) cx.length (dY cx):=⟨dw.out.base (aj.alloc aF w _),fun b hb hn=>by have:=hnew b hb;omega⟩
 have hown:=(((um.set (p:=⟨w.heap.size,0,none⟩) rfl (Nat.le_refl _) (.slice a3 es.length c3)).set (p:=⟨w.heap.size,1,none⟩) rfl (Nat.le_refl _) (.slice a5 ks.len c5)).set (p:=⟨w.heap.size,2,none⟩) rfl (Nat.le_refl _) (.slice a6 cx.length c6)).at_
 clear z0 z1 z2
 have z0:=aG HR3.out.1 0 rfl
 have z1:=aG HR3.out.1 1 rfl
 have z2:=aG HR3.out.1 2 rfl
 exact bodyPost_ret (v:= .agg #[.slice a3 es.length c3, .slice a5 ks.len c5, .slice a6 cx.length c6]) (by simp[results,Tryz.results53,go_sem,z0,z1,z2]) rfl ⟨_,_,_,rfl,HP.out,hown⟩
open Go.RowKit
def jm (n:Nat):List aU:=List.replicate n default
theorem Ht (n:Nat) (h1:1≤n) (h4:n≤4):∀w,(Instr.makeSlice 33 (.int .i64 n) (.int .i64 n)).run Tryz.prog w= .ok (.slice (some ⟨w.heap.size,0,none⟩) n n) (w.alloc (.cells ((jm n).flatMap aU.cells).toArray 32)):=by
 rcases(by omega:n=1∨n=2∨n=3∨n=4)with rfl|rfl|rfl|rfl<;>(intro w;kernel_rfl)
theorem make_is (n:Nat) (h1:1≤n) (h4:n≤4):∀w,(Instr.makeSlice 84 (.int .i64 n) (.int .i64 n)).run Tryz.prog w= .ok (.slice (some ⟨w.heap.size,0,none⟩) n n) (w.alloc (.cells (fJ (List.replicate n false)).toArray 4)):=by
 rcases(by omega:n=1∨n=2∨n=3∨n=4)with rfl|rfl|rfl|rfl<;>(intro w;kernel_rfl)
theorem aes (n:Nat) (h1:1≤n) (h4:n≤4) (w:World):
 Calls Tryz.prog 14 #[.int .i64 n] w fun e w'=>e= .returned (.tuple #[.pointer (some ⟨w.heap.size+1,0,none⟩), .int .i64 0])∧
  w'=(w.alloc (.cells ((jm n).flatMap aU.cells).toArray 32)).alloc (.cells #[.slice (some ⟨w.heap.size,0,none⟩) n n, .slice none 0 0] 81):=by
 have hmk:=Ht n h1 h4
 generalize ((jm n).flatMap aU.cells).toArray=Z at*
 go_enter Tryz.func14,Tryz.ntmps14
 go_wp2
 go_ret2
 exact⟨rfl,rfl⟩
open Go.RowKit
theorem aeu (w:World) (b o n c:Nat) (hn:0<n) (hc:∀j,j<n*3→(w.cell? ⟨b,o+j,none⟩).isSome=true) (hf:∀j,j<n*3→w.frozen? ⟨b,o+j,none⟩=false):
 ∃Z:List Value,Z.length=n*3∧∀ty,(Builtin.clear_ #[79] ty #[.slice (some ⟨b,o,none⟩) n c]).run Tryz.prog w= .ok (.tuple #[]) (w.setCells b o Z):=by
 obtain⟨Z,hZ⟩:∃Z,Z=(Builtin.zeroCells #[.int .i64 0, .slice none 0 0, .slice none 0 0] n).toList:=⟨_,rfl⟩
 have hl:Z.length=n*3:=by rw[hZ,Array.length_toList,size_zeroCells];rfl
 have h1:∀v∈Z,v.oneCell'=true:=fun v hv=>by
  rw[hZ]at hv
  simp[Builtin.zeroCells]at hv
  obtain⟨i,_,rfl⟩:=hv
  have:i%3<3:=Nat.mod_lt _ (by decide)
  rcases(by omega:i%3=0∨i%3=1∨i%3=2)with h|h|h<;>simp[h,Value.oneCell']
 refine⟨Z,hl,fun ty=>?_⟩
 have hst:=run_storeCells_cells (P:=Tryz.prog) b o Z 0 w (by rw[hl];simpa using hc) (by rw[hl];simpa using hf) h1
 simp only[Nat.add_zero]at hst
 obtain⟨m,rfl⟩:∃m,n=m+1:=⟨n-1,by omega⟩
 have hz:∀w,(zeroValue 86).run Tryz.prog w= .ok (.agg #[.int .i64 0, .slice none 0 0, .slice none 0 0]) w:=Tryz.zeroValue86
 have hv:(Value.agg #[.int .i64 0, .slice none 0 0, .slice none 0 0]).cells= #[.int .i64 0, .slice none 0 0, .slice none 0 0]:=rfl
 simp[Builtin.clear_,run_underlying Tryz.underlying79,hz,hv,←hZ,hst]
theorem aev:(Tryz.prog.info? 86).map (fun i=>(i.zero,i.size))=some (some (.agg #[.int .i64 0, .slice none 0 0, .slice none 0 0]),3):=by kernel_rfl
theorem aew (l:List cO) (i:Nat):(l.take i).flatMap cO.cells=(l.flatMap cO.cells).take (i*3):=by
 induction l generalizing i with
 |nil=>simp
 |cons q l ih=>
  cases i with
  |zero=>simp
  |succ i=>
   rw[List.take_succ_cons,List.flatMap_cons,ih,List.flatMap_cons,show(i+1)*3=i*3+1+1+1 by omega]
   rfl
theorem aex (l:List cO) (i:Nat):(l.drop i).flatMap cO.cells=(l.flatMap cO.cells).drop (i*3):=by
 induction l generalizing i with
 |nil=>simp
 |cons q l ih=>
  cases i with
  |zero=>simp
  |succ i=>
   rw[List.drop_succ_cons,ih,List.flatMap_cons,show(i+1)*3=i*3+1+1+1 by omega]
   rfl
theorem aey (g m m1:Nat) (w W2:World) (R:Prop) (hR:R) (f4:¬((m:Int)=(m1:Int))) (f3:(m:Int)≤(m1:Int)) (hdm:m1-m=1) (hne:¬m1=m)
 (hld:(loadCellsFrom ⟨g,0,none⟩ 0 0 #[]).run Tryz.prog w.drew= .ok #[] w.drew) (Qk:(storeCells ⟨g,m*3,none⟩ []).run Tryz.prog w.drew= .ok () w.drew) (hx:(m1:Int)≤9223372036854775807)
 (hcl:∀ty,(Builtin.clear_ #[79] ty #[.slice (some ⟨g,m*3,none⟩) 1 1]).run Tryz.prog w.drew= .ok (.tuple #[]) W2):
 Calls Tryz.prog 42 #[.slice (some ⟨g,0,none⟩) m1 m1, .int .i64 m, .int .i64 (m1:Nat)] w fun e w'=>e= .returned (.slice (some ⟨g,0,none⟩) m m1)∧w'=W2∧R:=by
 have f0:(0:Int)≤(m1:Int):=by omega
 have f9:m≤m1:=by omega
 have HR:=ah hR;clear hR
 go_enter Tryz.func42,Tryz.ntmps42
 go_wp2
 refine iq (S:=fun _=>True) 7 (by kernel_rfl) trivial ?_
 intro hS
 refine aX 0 20 rfl rfl ?_
 refine aX 1 21 rfl rfl ?_
 try simp only[Act.put,aO,aN,aJ]
 refine aX 2 22 rfl rfl ?_
 refine aX 3 23 rfl rfl ?_
 try simp only[Act.put,aO,aN,aJ]
 refine aX 4 24 rfl rfl ?_
 refine aX 5 25 rfl rfl ?_
 try simp only[Act.put,aO,aN,aJ]
 refine bg (i:=6) (by kernel_rfl) rfl (fun K hK=>?_)
 go_simp
 refine hK.out _ _ hS ?_
 clear hK K
 try simp only[Act.put,aO,aN,aJ]
 refine gJ (by kernel_rfl) (by kernel_rfl) rfl (fun K hK=>?_)
 go_simp
 refine hK.out _ _ ?_
 clear hK K
 go_wp2
 go_ret
 exact⟨rfl,rfl,HR.out⟩
theorem WS (l:List cO) (g m c k:Nat) (w:World) (ho:w.ownsRow 0 86 3 (.slice (some ⟨g,0,none⟩) (m+1) c) (m+1) (l.flatMap cO.cells)) (hl:l.length=m+1) (hs:∀q∈l,q.shaped) (hk:k≤m) (hn:m≤1000):
 Calls Tryz.prog 42 #[.slice (some ⟨g,0,none⟩) (m+1:Nat) c, .int .i64 k, .int .i64 ((k:Int)+1)] w fun e w'=>e= .returned (.slice (some ⟨g,0,none⟩) m c)∧w'.ownsRow 0 86 3 (.slice (some ⟨g,0,none⟩) m c) m ((l.eraseIdx k).flatMap cO.cells)∧aj (eG (.slice (some ⟨g,0,none⟩) (m+1) c)) w w':=by
 rcases ho.2 with⟨h,_⟩|⟨g',cap',cur,h,hbg,hg,hnc,hcm,hcs,htake⟩
 ·cases h
 cases h
 have hxl:=ho.1
 have hcells:∀j u,(l.flatMap cO.cells)[j]?=some u→w.drew.cell? ⟨g,j,none⟩=some u:=fun j u hu=>by
  have:=ho.cells (g:=g) rfl j u hu
  rwa [addr_add,Nat.zero_add]at this
 have hfree:∀j,w.drew.frozen? ⟨g,j,none⟩=false:=fun j=>aW (w:=w.drew) hg j
 obtain⟨i0,hi0,hi1⟩:∃i0,Tryz.prog.info? 86=some i0∧i0.size=3:=by
  have:=aev
  cases hq:Tryz.prog.info? 86 with
  |none=>rw[hq]at this;cases this
  |some i0=>rw[hq]at this;simp at this;exact⟨i0,rfl,this.2⟩
 have hone:∀u∈l.flatMap cO.cells,u.oneCell'=true:=fun u hu=>by
  obtain⟨q,hq,hu⟩:=List.mem_flatMap.1 hu
  obtain⟨⟨a0,n0,c0,e0⟩,a1,n1,c1,e1⟩:=hs q hq
  simp[cO.cells]at hu
  rcases hu with rfl|rfl|rfl
  ·rfl
  ·rw[e0];rfl
  ·rw[e1];rfl
 have hnl:((l.flatMap cO.cells).drop ((k+1)*3)).length=(m-k)*3:=by rw[List.length_drop,hxl];omega
 have hap:∀ty,(Builtin.append_ #[79,79] ty #[.slice (some ⟨g,0,none⟩) k c, .slice (if c=k+1 then some ⟨g,0,none⟩else some ⟨g,(k+1)*3,none⟩) (m+1-(k+1)) (c-(k+1))]).run Tryz.prog w.drew= .ok (.slice (some ⟨g,0,none⟩) m c) (w.drew.setCells g (k*3) ((l.flatMap cO.cells).drop ((k+1)*3))):=fun ty=>by
  have hsrc:Src Tryz.prog i0.size 79 (.slice (if c=k+1 then some ⟨g,0,none⟩else some ⟨g,(k+1)*3,none⟩) (m+1-(k+1)) (c-(k+1))) (m+1-(k+1)) ((l.flatMap cO.cells).drop ((k+1)*3)) w.drew:=by
   have hx:((l.flatMap cO.cells).drop ((k+1)*3)).length=(m+1-(k+1))*i0.size:=by rw[hnl,hi1,show m+1-(k+1)=m-k by omega]
   have ho1:∀u∈(l.flatMap cO.cells).drop ((k+1)*3),u.oneCell'=true:=fun u hu=>hone u (List.mem_of_mem_drop hu)
   split
   ·refine Src.ofSlice w.drew Tryz.underlying79 _ _ _ _ hx (fun j u hu=>?_) ho1
    have:(l.flatMap cO.cells).drop ((k+1)*3)=[]:=List.eq_nil_of_length_eq_zero (by rw[hnl];omega)
    rw[this]at hu
    simp at hu
   ·refine Src.ofSlice w.drew Tryz.underlying79 _ _ _ _ hx (fun j u hu=>?_) ho1
    rw[addr_add]
    rw[List.getElem?_drop]at hu
    exact hcells _ _ hu
  have:=run_append_room_src (P:=Tryz.prog) w.drew 79 79 ty 86 i0 Tryz.underlying79 hi0 g 0 k c _ _ _ hsrc (by omega) (fun j hj=>?_) fun j hj=>hfree _
  ·rw[this,hi1,show k+(m+1-(k+1))=m by omega,Nat.zero_add]
  ·rw[hi1,Nat.zero_add]
   have hlt:k*3+j<(l.flatMap cO.cells).length:=by rw[hxl];omega
   rw[hcells _ _ (List.getElem?_eq_getElem hlt)]
   rfl
 have hld:c≠k+1→(loadCellsFrom ⟨g,(k+1)*3,none⟩ 0 ((m-k)*3) #[]).run Tryz.prog w.drew= .ok ((l.flatMap cO.cells).drop ((k+1)*3)).toArray w.drew:=fun hne=>by
  have:=run_firstCells_some (P:=Tryz.prog) w.drew 3 (m-k) ⟨g,(k+1)*3,none⟩ (m-k) (c-(k+1)) ((l.flatMap cO.cells).drop ((k+1)*3)) hnl (fun j u hu=>by rw[addr_add];rw[List.getElem?_drop]at hu;exact hcells _ _ hu)
  simpa[Builtin.firstCells,loadCells]using this
 have Qk:(storeCells ⟨g,k*3,none⟩ ((l.flatMap cO.cells).drop ((k+1)*3))).run Tryz.prog w.drew= .ok () (w.drew.setCells g (k*3) ((l.flatMap cO.cells).drop ((k+1)*3))):=by
  have:=run_storeCells_cells (P:=Tryz.prog) g (k*3) ((l.flatMap cO.cells).drop ((k+1)*3)) 0 w.drew (fun j hj=>?_) (fun j hj=>hfree _) (fun u hu=>hone u (List.mem_of_mem_drop hu))
  ·simpa using this
  ·have hlt:k*3+j<(l.flatMap cO.cells).length:=by rw[hxl];omega
   rw[Nat.add_zero,hcells _ _ (List.getElem?_eq_getElem hlt)];rfl
 obtain⟨W1,hW1⟩:∃W1,W1=w.drew.setCells g (k*3) ((l.flatMap cO.cells).drop ((k+1)*3)):=⟨_,rfl⟩
 have hcz:cur.size=c*3:=hcs
 have hb1:W1.heap[g]?=some (.cells (cur.toList.take (k*3)++(l.flatMap cO.cells).drop ((k+1)*3)++cur.toList.drop (k*3+((l.flatMap cO.cells).drop ((k+1)*3)).length)).toArray 86 (0,0)):=by
  rw[hW1]
  exact Dn g _ _ _ _ w.drew cur hg (by rw[hnl];omega)
 have hpre:(cur.toList.take (k*3)++(l.flatMap cO.cells).drop ((k+1)*3)++cur.toList.drop (k*3+((l.flatMap cO.cells).drop ((k+1)*3)).length)).take (m*3)=(l.eraseIdx k).flatMap cO.cells:=by
  have h1:cur.toList.take (k*3)=(l.flatMap cO.cells).take (k*3):=by rw[←htake,List.take_take,Nat.min_eq_left (by omega)]
  rw[List.eraseIdx_eq_take_drop_succ,List.flatMap_append,aew,aex,←h1]
  refine List.take_left' ?_
  rw[List.length_append,hnl,List.length_take,Array.length_toList]
  omega
 have hsz1:(cur.toList.take (k*3)++(l.flatMap cO.cells).drop ((k+1)*3)++cur.toList.drop (k*3+((l.flatMap cO.cells).drop ((k+1)*3)).length)).length=c*3:=by
  rw[List.length_append,List.length_append,hnl,List.length_take,List.length_drop,Array.length_toList]
  omega
 generalize qh:cur.toList.take (k*3)++(l.flatMap cO.cells).drop ((k+1)*3)++cur.toList.drop (k*3+((l.flatMap cO.cells).drop ((k+1)*3)).length)=C at*
 clear qh
 obtain⟨Z,hZ,hcl⟩:=aeu W1 g (m*3) 1 (c-m) (by omega) (fun j hj=>by
  rw[aG hb1 (m*3+j) (u:=C[m*3+j]'(by omega)) (by simp)];rfl) fun j hj=>aW hb1 _
 obtain⟨W2,hW2⟩:∃W2,W2=W1.setCells g (m*3) Z:=⟨_,rfl⟩
 have hb2:W2.heap[g]?=some (.cells (C.take (m*3)++Z++C.drop (m*3+Z.length)).toArray 86 (0,0)):=by
  rw[hW2]
  have:=Dn g 86 (0,0) Z (m*3) W1 C.toArray hb1 (by rw[hZ,List.size_toArray,hsz1];omega)
  simpa using this
 have HOWN:=ah (show W2.ownsRow 0 86 3 (.slice (some ⟨g,0,none⟩) m c) m ((l.eraseIdx k).flatMap cO.cells)from by
  refine⟨by rw[WL,List.length_eraseIdx_of_lt (by omega),hl];rfl, .inr ⟨g,c,_,rfl,Nat.zero_le _,hb2,by omega,hcm,?_,?_⟩⟩
  ·rw[List.size_toArray,List.length_append,List.length_append,hZ,List.length_take,List.length_drop,hsz1];omega
  ·rw[List.append_assoc,List.take_left' (by rw[List.length_take,hsz1];omega),hpre])
 have nD:=ah (show aj (eG (.slice (some ⟨g,0,none⟩) (m+1) c)) w W2 from by
  rw[hW2,hW1]
  exact((aj.drew _ w).trans (aj.setCells (S:=eG (.slice (some ⟨g,0,none⟩) (m+1) c)) g w.drew (.inl rfl) _ _) fun _ _ h=>h).trans (aj.setCells (S:=eG (.slice (some ⟨g,0,none⟩) (m+1) c)) g _ (.inl rfl) _ _) fun _ _ h=>h)
 rw[←hW1]at Qk
 clear hap
 have hwd:c=k+1→W1=w.drew:=fun h=>by
  have:(l.flatMap cO.cells).drop ((k+1)*3)=[]:=List.eq_nil_of_length_eq_zero (by rw[hnl];omega)
  rw[hW1,this]
  rfl
 have hmc:m≤c:=by omega
 rw[←hW2]at hcl
 have hcx:(c:Int)≤9223372036854775807:=by simp only[maxLen]at hcm;omega
 have hcm2:¬c=m:=by omega
 have WT:=hnl
 clear hW1 hW2 hb1 hb2 hZ hpre hsz1 htake hcs hcz hg hfree hcells hone hnl hxl ho hs
 have oU:=ah WT;clear WT
 generalize (l.flatMap cO.cells).drop ((k+1)*3)=D at*
 have f0:(0:Int)≤(k:Int)+1:=by omega
 have f2:(k:Int)+1≤(m:Int)+1:=by omega
 have f3:(m:Int)+1≤(c:Int):=by omega
 have f4:(k:Int)≤(c:Int):=by omega
 have f5:(k:Int)+1≤(c:Int):=by omega
 have f6:(k:Int)≤(k:Int)+1:=by omega
 by_cases hck:c=k+1
 ·obtain rfl:k=m:=by omega
  have hw1:=hwd hck
  subst hw1 hck
  have hD:D.length=0:=by rw[oU.out];omega
  have hD:D=[]:=List.eq_nil_of_length_eq_zero hD
  subst hD
  have:=aey g k (k+1) w W2 _ (⟨HOWN.out,nD.out⟩:_∧_) (by omega) (by omega) (by omega) (by omega) rfl Qk (by omega) (by simpa using hcl)
  exact this.mono fun e w' h=>⟨h.1,h.2.1▸h.2.2.1,h.2.1▸h.2.2.2⟩
 all_goals(
  replace hld:=hld hck
  clear hwd
  go_enter Tryz.func42,Tryz.ntmps42
  go_wp2
  refine iq (S:=fun _=>True) 7 (by kernel_rfl) trivial ?_
  intro hS
  refine aX 0 20 rfl rfl ?_
  refine aX 1 21 rfl rfl ?_
  try simp only[Act.put,aO,aN,aJ]
  refine aX 2 22 rfl rfl ?_
  refine aX 3 23 rfl rfl ?_
  try simp only[Act.put,aO,aN,aJ]
  refine aX 4 24 rfl rfl ?_
  refine aX 5 25 rfl rfl ?_
  try simp only[Act.put,aO,aN,aJ]
  refine bg (i:=6) (by kernel_rfl) rfl (fun K hK=>?_)
  go_simp
  refine hK.out _ _ hS ?_
  clear hK K
  try simp only[Act.put,aO,aN,aJ]
  refine gJ (by kernel_rfl) (by kernel_rfl) rfl (fun K hK=>?_)
  go_simp
  refine hK.out _ _ ?_
  clear hK K
  go_wp2
  go_ret
  exact⟨rfl,HOWN.out,nD.out⟩
  )
end Go.Proofs.YtlhmbkjdfjoilaaGreat
