/- Words for the law ShardPlays: Four, SJoin, CApart, CWhole. -/
import Derived.Test.YtlhmbkjdfjoilaaGreatShardPlaysG0
import Derived.Test.YtlhmbkjdfjoilaaGreatShardPlaysG3
import Derived.Test.YtlhmbkjdfjoilaaGreatShardPlaysG5
import Derived.Test.YtlhmbkjdfjoilaaGreatShardPlaysG6
import Derived.StillTailTactics
import Derived.IntWalk
import Derived.Deep.Slices
set_option linter.unusedSimpArgs false
set_option linter.unusedVariables false
set_option maxHeartbeats 32000000
set_option maxRecDepth 1000000
namespace Go.Proofs.YtlhmbkjdfjoilaaGreat
open Go.RowKit
def upd {α:Type} (f:Nat→α) (d:Nat) (x:α):Nat→α:=fun c=>if c=d then x else f c
theorem upd_same {α:Type} (f:Nat→α) (d:Nat) (x:α):upd f d x d=x:=by simp[upd]
theorem qK {α:Type} (f:Nat→α) {d c:Nat} (x:α) (h:c≠d):upd f d x c=f c:=by simp[upd,h]
def JK (vs:Nat→Value):Array Value:= #[vs 0,vs 1,vs 2,vs 3]
theorem abv (vs:Nat→Value) {d:Nat} (h:d<4):(JK vs)[d]?=some (vs d):=by
 rcases(by omega:d=0∨d=1∨d=2∨d=3)with rfl|rfl|rfl|rfl<;>rfl
theorem abw (vs:Nat→Value) {d:Nat} (h:d<4) (v:Value):(JK vs).setIfInBounds d v=JK (upd vs d v):=by
 rcases(by omega:d=0∨d=1∨d=2∨d=3)with rfl|rfl|rfl|rfl<;>rfl
theorem uS.owns {N:Nat→Prop} {w w':World} (h:uS N w w') {base:Nat} {e:TypeId} {size:Nat} {v:Value} {n:Nat} {xs:List Value} (ho:w.ownsRow base e size v n xs) (hn:∀k,v.ownBlock=some k→N k):w'.ownsRow base e size v n xs:=by
 refine⟨ho.1,?_⟩
 rcases ho.2 with hx|⟨g,cap,cur,rfl,hb,hg,rest⟩
 ·exact .inl hx
 ·exact .inr ⟨g,cap,cur,rfl,hb,h.blk (hn g rfl) hg,rest⟩
structure kG (M:Nat→Prop) (T e:TypeId) (size:Nat) (w0 w:World) (pb:Nat) (vs:Nat→Value) (n:Nat→Nat) (xs:Nat→List Value):Prop where
 blk:w.heap[pb]?=some (.cells (JK vs) T (0,0))
 new:w0.heap.size≤pb
 mlt:∀k,M k→k<w.heap.size
 Gm:¬M pb
 own:∀d,d<4→iH (fun k=>k=pb∨M k) w0 w e size (vs d) (n d) (xs d)
 apart:∀d c,d<4→c<4→d≠c→∀k,(vs d).ownBlock=some k→(vs c).ownBlock≠some k
def zU (M:Nat→Prop) (pb:Nat) (vs:Nat→Value) (d k:Nat):Prop:=k=pb∨M k∨∃c,c<4∧c≠d∧(vs c).ownBlock=some k
section
variable {M:Nat→Prop} {T e:TypeId} {size:Nat} {w0 w w':World} {pb:Nat} {vs:Nat→Value} {n:Nat→Nat} {xs:Nat→List Value}
theorem kG.cell (h:kG M T e size w0 w pb vs n xs) {d:Nat} (hd:d<4):w.cell? ⟨pb,d,none⟩=some (vs d):=aG h.blk d (abv vs hd)
theorem kG.but (h:kG M T e size w0 w pb vs n xs) {d:Nat} (hd:d<4):iH (zU M pb vs d) w0 w e size (vs d) (n d) (xs d):=
 ⟨(h.own d hd).at_,fun k hk hr=>by
   rcases hr with hr|hr|⟨c,hc,hne,hck⟩
   ·exact(h.own d hd).but k hk (.inl hr)
   ·exact(h.own d hd).but k hk (.inr hr)
   ·exact h.apart c d hc hd hne k hck hk⟩
theorem kG.lt (h:kG M T e size w0 w pb vs n xs) (d k:Nat) (hr:zU M pb vs d k):k<w.heap.size:=by
 rcases hr with rfl|hr|⟨c,hc,_,hck⟩
 ·exact lt_of_block h.blk
 ·exact h.mlt k hr
 ·exact(h.own c hc).at_.lt k hck
theorem kG.keep (h:kG M T e size w0 w pb vs n xs) (f:aj aF w w'):kG M T e size w0 w' pb vs n xs:=
 ⟨f.blk h.blk id,h.new,fun k hk=>Nat.lt_of_lt_of_le (h.mlt k hk) f.size,h.Gm,fun d hd=>(h.own d hd).keep f,h.apart⟩
theorem kG.aI (h:kG M T e size w0 w pb vs n xs):aj aF w0 w:=(h.own 0 (by omega)).at_.aI
theorem kG.box (h:kG M T e size w0 w pb vs n xs) (o:Obj):kG (fun k=>M k∨k=w.heap.size) T e size w0 (w.alloc o) pb vs n xs:=
 ⟨(aj.alloc aF w o).blk h.blk id,h.new,fun k hk=>by
   simp
   rcases hk with hk|hk
   ·have:=h.mlt k hk;omega
   ·omega,fun hm=>hm.elim h.Gm fun he=>by have:=lt_of_block h.blk;omega,fun d hd=>⟨((h.own d hd).keep (aj.alloc _ _ _)).at_,fun k hk hr=>by
   rcases hr with hr|hr|hr
   ·exact(h.own d hd).but k hk (.inl hr)
   ·exact(h.own d hd).but k hk (.inr hr)
   ·have:=(h.own d hd).at_.lt k hk;omega⟩,h.apart⟩
theorem kG.mono {M':Nat→Prop} (h:kG M T e size w0 w pb vs n xs) (hm:∀k,M' k→M k):kG M' T e size w0 w pb vs n xs:=
 ⟨h.blk,h.new,fun k hk=>h.mlt k (hm k hk),fun hk=>h.Gm (hm _ hk),fun d hd=>(h.own d hd).mono fun k hk=>hk.elim .inl fun hk=> .inr (hm k hk),h.apart⟩
theorem kG.step (h:kG M T e size w0 w pb vs n xs) {d:Nat} (hd:d<4) {v':Value} {n':Nat} {xs':List Value} (kp:uS (zU M pb vs d) w w') (ob:iH (zU M pb vs d) w0 w' e size v' n' xs'):
 kG M T e size w0 (w'.setCell ⟨pb,d,none⟩ v') pb (upd vs d v') (upd n d n') (upd xs d xs'):=by
 have hset:=eY (kp.blk (.inl rfl) h.blk) d v'
 rw[abw vs hd]at hset
 have hsz:(w'.setCell ⟨pb,d,none⟩ v').heap.size=w'.heap.size:=by simp[World.setCell]
 refine⟨hset,h.new,fun k hk=>by rw[hsz];exact Nat.lt_of_lt_of_le (h.mlt k hk) kp.1,h.Gm,fun c hc=>?_,fun a c ha hc hne k hk=>?_⟩
 ·by_cases he:c=d
  ·subst he
   rw[upd_same,upd_same,upd_same]
   exact(ob.mono (M:=fun k=>k=pb∨M k) fun k hk=>hk.elim .inl fun hk=> .inr (.inl hk)).set (.inl rfl) h.new _
  ·rw[qK _ _ he,qK _ _ he,qK _ _ he]
   have hc1:=h.own c hc
   have:iH (fun k=>k=pb∨M k) w0 w' e size (vs c) (n c) (xs c):=
    ⟨⟨kp.owns hc1.at_.own (fun k hk=> .inr (.inr ⟨c,hc,he,hk⟩)),hc1.at_.new,ob.at_.aI⟩,hc1.but⟩
   exact this.set (.inl rfl) h.new _
 ·by_cases hea:a=d
  ·subst hea
   rw[upd_same]at hk
   rw[qK _ _ (Ne.symm hne)]
   exact fun hck=>ob.but k hk (.inr (.inr ⟨c,hc,Ne.symm hne,hck⟩))
  ·rw[qK _ _ hea]at hk
   by_cases UW:c=d
   ·subst UW
    rw[upd_same]
    exact fun hck=>ob.but k hck (.inr (.inr ⟨a,ha,hea,hk⟩))
   ·rw[qK _ _ UW]
    exact h.apart a c ha hc hne k hk
theorem kG.congr {n':Nat→Nat} {xs':Nat→List Value} (h:kG M T e size w0 w pb vs n xs) (hn:∀d,d<4→n' d=n d) (hx:∀d,d<4→xs' d=xs d):kG M T e size w0 w pb vs n' xs':=
 ⟨h.blk,h.new,h.mlt,h.Gm,fun d hd=>by rw[hn d hd,hx d hd];exact h.own d hd,h.apart⟩
end
theorem Oj {w0 w:World} {b:Nat} {T:TypeId} {a0 a1 a2 a3:Value} (h:w.heap[b]?=some (.cells #[a0,a1,a2,a3] T (0,0))) (f:aj aF w0 w) (hb:w0.heap.size≤b) (v0 v1 v2 v3:Value):
 ((((w.setCell ⟨b,0,none⟩ v0).setCell ⟨b,1,none⟩ v1).setCell ⟨b,2,none⟩ v2).setCell ⟨b,3,none⟩ v3).heap[b]?=some (.cells #[v0,v1,v2,v3] T (0,0))∧
 aj aF w0 ((((w.setCell ⟨b,0,none⟩ v0).setCell ⟨b,1,none⟩ v1).setCell ⟨b,2,none⟩ v2).setCell ⟨b,3,none⟩ v3):=
 ⟨eY (eY (eY (eY h 0 v0) 1 v1) 2 v2) 3 v3,(((f.set1 (p:=⟨b,0,none⟩) (.inr hb)).set1 (p:=⟨b,1,none⟩) (.inr hb)).set1 (p:=⟨b,2,none⟩) (.inr hb)).set1 (p:=⟨b,3,none⟩) (.inr hb)⟩
theorem kG.start {M:Nat→Prop} {w0 w:World} (T e:TypeId) (size:Nat) (f:aj aF w0 w) (hm:∀k,M k→k<w.heap.size):
 kG M T e size w0 (w.alloc (.cells #[.slice none 0 0, .slice none 0 0, .slice none 0 0, .slice none 0 0] T)) w.heap.size (fun _=> .slice none 0 0) (fun _=>0) (fun _=> []):=
 ⟨heap_alloc_new w _,f.size,fun k hk=>by have:=hm k hk;simp;omega,fun h=>by have:=hm _ h;omega,fun d _=>iH.nil (f.trans (aj.alloc _ _ _) fun _ _ h=>h) _ _,fun d c _ _ _ k hk=>by simp[Value.ownBlock]at hk⟩
section
variable {P:Program}
theorem Ol {ops:Array Oper} {o:Oper} {a:Act} (N:Nat→Prop) (w0 w:World) {K:Act→World→Prop} {Q:Exit→Act→World→Prop} {E:Prop} (news:List Value) (hgd:o.guard=none) (s x:Operand) (t:TypeId)
 (ho:o.op= .call {callee:= .builtin .append,args:= #[s,x],argTypes:= #[t,t]})
 (e:TypeId) (i:TypeInfo) (z:Value) (size bytes:Nat) (ht:P.underlying t=some (.slice e)) (hi:P.info? e=some i) (hz:i.zero=some z)
 (hsize:i.size=size) (hby:i.bytes=bytes) (hzs:z.cells.size=size) (hsz:0<size)
 (v:Value) (n:Nat) (xs:List Value) (hown:iH N w0 w e size v n xs) (hN:∀k,N k→k<w.heap.size) (m c:Nat) (hv:a.eval s=v) (hx:a.eval x= .slice (some ⟨w.heap.size,0,none⟩) m c)
 (hnl:news.length=m*size) (h1:∀u∈news,u.oneCell'=true) (h63:n+m≤maxLen) (hbytes:(n+m)*bytes≤140737488355328)
 (h:∀ad c w',iH N w0 w' e size (.slice ad (n+m) c) (n+m) (xs++news)→uS N w w'→K (a.put o.dst (.slice ad (n+m) c)) w'):
 if Region.wanted o (yielded ops a.tmps)=true then Oper.wp P o a (w.alloc (.cells news.toArray e)) K Q else E:=by
 have hw:Region.wanted o (yielded ops a.tmps)=true:=by simp[Region.wanted,hgd]
 rw[if_pos hw]
 have hs:Src P size t (.slice (some ⟨w.heap.size,0,none⟩) m c) m news (w.alloc (.cells news.toArray e)):=
  Src.ofSlice _ ht ⟨w.heap.size,0,none⟩ m c news hnl (fun j u hj=>by
   have hadd:(⟨w.heap.size,0,none⟩:Addr).add j=⟨w.heap.size,j,none⟩:=by unfold Addr.add;split<;>simp_all
   rw[hadd,cell_of_row (w.alloc (.cells news.toArray e)) w.heap.size j news.toArray e (0,0) (heap_alloc_new w _)]
   simpa using hj) h1
 obtain⟨v',w',hr,h2,h3,h4,⟨ad,c',rfl⟩,h6⟩:=Dp (P:=P) (w.alloc (.cells news.toArray e)) t t o.type e i z size bytes ht hi hz hsize hby hzs hsz v n xs (hown.at_.own.alloc _) _ m news hs h63 hbytes
 unfold Oper.wp execOp
 simp only[ho,resolve,invoke,builtin,Sem.run_bind,Sem.run_pure,Result.andThen_ok,List.map_toArray,List.map_cons,List.map_nil,hv,hx,hr]
 have hst:=hown.step hN h2 ((aj.alloc (eG v) w _).trans h3 (fun _ _ h=>h)) fun k hk=>(h4 k hk).elim .inl fun h=> .inr (by simp at h;omega)
 exact h ad c' w' hst.1 hst.2
end
open Go.RowKit
theorem DX:(Tryz.prog.info? 206).map (fun i=>(i.zero,i.size,i.bytes))=some (some (.agg #[.int .i64 0, .int .i64 0]),2,16):=by kernel_rfl
def qL (l:aZ) (k:Nat) (out:aZ):Prop:=(k=0∧out=[])∨∃acc cur,out=acc++ [cur]∧rZ l=acc++jn cur (l.drop k)
theorem JL {l:aZ} {k:Nat} (h:k<l.length):l.drop k=l.getD k (0,0)::l.drop (k+1):=by
 rw[getD_at (0,0) h];exact List.drop_eq_getElem_cons h
theorem qL.abx {l:aZ} (h:0<l.length):qL l (0+1) [l.getD 0 (0,0)]:=by
 refine .inr ⟨[],l.getD 0 (0,0),rfl,?_⟩
 cases l with
 |nil=>cases h
 |cons r l=>rfl
theorem qL.open_ {l:aZ} {k:Nat} {acc:aZ} {cur:Int×Int} (h:qL l k (acc++ [cur])):rZ l=acc++jn cur (l.drop k):=by
 rcases h with⟨_,h⟩|⟨acc',cur',h1,h2⟩
 ·simp at h
 ·obtain⟨e1,e2⟩:=List.append_inj' h1 rfl
  injection e2 with e2
  rw[e1,e2];exact h2
theorem qL.meet {l:aZ} {k:Nat} {acc:aZ} {cur:Int×Int} (h:qL l k (acc++ [cur])) (hk:k<l.length) (hc:(l.getD k (0,0)).1≤cur.2+1):qL l (k+1) (acc++ [(cur.1,max cur.2 (l.getD k (0,0)).2)]):=by
 refine .inr ⟨acc,_,rfl,?_⟩
 rw[h.open_,JL hk,jn,if_pos hc]
theorem qL.away {l:aZ} {k:Nat} {acc:aZ} {cur:Int×Int} (h:qL l k (acc++ [cur])) (hk:k<l.length) (hc:¬(l.getD k (0,0)).1≤cur.2+1):qL l (k+1) (acc++ [cur]++ [l.getD k (0,0)]):=by
 refine .inr ⟨acc++ [cur],_,rfl,?_⟩
 rw[h.open_,JL hk,jn,if_neg hc];simp
theorem qL.all {l:aZ} {k:Nat} {out:aZ} (h:qL l k out) (hk:l.length=k):out=rZ l:=by
 rcases h with⟨h0,rfl⟩|⟨acc,cur,rfl,h⟩
 ·have:l=[]:=List.eq_nil_of_length_eq_zero (by omega)
  subst this;rfl
 ·rw[h,List.drop_of_length_le (by omega),jn]
theorem OwnAt.aby {w0 w:World} {e:TypeId} {g L c:Nat} {lo:aZ} {r:Int×Int} (h:OwnAt w0 w e 2 (.slice (some ⟨g,0,none⟩) (L+1) c) (L+1) (fD (lo++ [r]))) (hL:lo.length=L) (hi:Int):
 OwnAt w0 (w.setCell ⟨g,L*2+1,none⟩ (.int .i64 hi)) e 2 (.slice (some ⟨g,0,none⟩) (L+1) c) (L+1) (fD (lo++ [(r.1,hi)])):=by
 obtain⟨g',c',he,_,_,_,_,_,hset⟩:=h.row (by omega)
 injection he with e1 e2 e3
 injection e1 with e1
 injection e1 with e4 e5
 subst e4
 have:=hset (L*2+1) (.int .i64 hi)
 rw[←hL,DC,hL]at this
 exact this
theorem abz (a b:Int):(if a<b then b else a)=max a b:=by split<;>omega
def Bd (r:Int×Int):Prop:=1≤r.1∧r.1≤1099511627776∧1≤r.2∧r.2≤1099511627776
theorem UY (w:World) (v:Value) (l:aZ) (hv:k_ w v l) (hl:l.length≤200000) (hb:∀r∈l,Bd r):
 Calls Tryz.prog 156 #[v] w fun e w'=>∃v',e= .returned v'∧OwnAt w w' 206 2 v' (rZ l).length (fD (rZ l)):=by
 obtain⟨i0,hi,hz0,hz1,hz2⟩:=info_parts DX
 obtain⟨aA,cA,rfl⟩:=hv.sl
 have HH:=ah hv;clear hv
 have HB:=ah hb;clear hb
 generalize hn:l.length=n at*
 have HN:=ah hn;clear hn
 have nO:=ah hl;clear hl
 go_enter Tryz.func156,Tryz.ntmps156
 go_wp2
 go_loopw [3,9] (fun v i ww=>∃(k:Nat) (out:aZ),k≤n∧out.length≤k∧i= .int .i64 k∧OwnAt w ww 206 2 v out.length (fD out)∧qL l k out∧∀r∈out,Bd r) (fun _ i _=>n-(intOf i).toNat)
 case atStart=>exact⟨0,[],Nat.zero_le _,Nat.le_refl _,rfl,OwnAt.nil (aj.refl _ _) _ _, .inl ⟨rfl,rfl⟩,(fun r hr=>by cases hr)⟩
 case round=>
  obtain⟨k,out,hk,hok,rfl,ho,hj,UZ⟩:=hrel
  have HO:=ah ho;clear ho
  have HJ:=ah hj;clear hj
  have yT:=ah UZ;clear UZ
  by_cases hlt:k<n
  ·rcases Rd.shape HH.out with⟨ad,he,h0⟩|⟨b,off,cc,he,hmax⟩
   ·exfalso;have:=HN.out;omega
   ·injection he with e1 e2 e3
    subst e1 e3
    clear e2
    rw[HN.out]at hmax
    have hlk:k<l.length:=by rw[HN.out];exact hlt
    obtain⟨p0,p1⟩:=r_ HH.out HN.out.symm k hlk
    have q0:=HO.out.aI.cell' p0 id
    have q1:=HO.out.aI.cell' p1 id
    clear p0 p1
    have hbr:=HB.out _ (getD_mem (0,0) hlk)
    have oV:=ah hbr
    obtain⟨r1,r2,r3,r4⟩:=hbr
    have hkm:k≤200000:=Nat.le_trans (Nat.le_of_lt hlt) nO.out
    rcases List.eq_nil_or_concat out with rfl|⟨lo,r,rfl⟩
    ·have hk0:k=0:=by
      rcases HJ.out with⟨h,_⟩|⟨acc,cur,h,_⟩
      ·exact h
      ·simp at h
     subst hk0
     have HST:=ah (qL.abx hlk)
     generalize l.getD 0 (0,0)=s at*
     simp only[Nat.zero_mul,Nat.add_zero]at q0 q1
     obtain⟨av,cv,rfl⟩:=HO.out.shape
     go_wp2_with fail
     go_big_quiet (fail)
     go_wp2_with(at_builtin;refine kT w _ [.int .i64 s.1, .int .i64 s.2] rfl (.tmp 43) (.tmp 45) 175 rfl 206 i0 _ 2 16 Tryz.underlying175 hi hz0 hz1 hz2 (by decide) (by decide) _ _ _ (HO.out.keep (aj.alloc _ _ _).iy) 1 1 rfl (by simp[Act.eval]) rfl (by simp[Value.oneCell']) (by simp[maxLen]) (by simp) ?_;intro ad lg w2 bP;have OW:=ah bP;clear bP)
     go_roundw
     case rel=>exact⟨0+1,[s],by omega,by simp,by go_num,OW.out,HST.out,fun r hr=>by simp at hr;subst hr;exact oV.out⟩
     case measure=>simp[intOf];omega
    ·rw[List.concat_eq_append]at*
     have hln:(lo++ [r]).length=lo.length+1:=by simp
     have ho2:=HO.out
     rw[hln]at ho2 hok
     clear HO hln
     obtain⟨g,c2,rfl,hg0,hg,hc2,hcell,hfro,hset⟩:=ho2.row (by simp)
     have cl:=hcell _ _ (DF lo r)
     have fl:=hfro (lo.length*2+1)
     have HO:=ah ho2;clear ho2
     have U_:=yT.out r (by simp)
     have ajd:=ah U_
     obtain⟨t1,t2,t3,t4⟩:=U_
     have HM:=ah (fun hc=>qL.meet HJ.out hlk hc)
     have HA:=ah (fun hc=>qL.away HJ.out hlk hc)
     generalize hL:lo.length=L at*
     have jR:=ah hL;clear hL
     have fH:=ah hok;clear hok
     generalize l.getD k (0,0)=s at*
     have hL5:L+1≤200000:=Nat.le_trans fH.out hkm
     have hgb:g<wr.heap.size:=hg
     clear hcell hfro hset
     by_cases hc:s.1≤r.2+1
     ·go_wp2_with fail
      go_big_quiet (fail)
      go_wp2_with fail
      have hfr:aj aF wr ((wr.alloc (.cells #[.int .i64 s.1, .int .i64 s.2] 206)).drewN nq):=(aj.alloc _ _ _).iy
      have n1:((wr.alloc (.cells #[.int .i64 s.1, .int .i64 s.2] 206)).drewN nq).cell? ⟨wr.heap.size,1,none⟩=some (.int .i64 s.2):=aG (heap_alloc_new wr _) 1 rfl
      have cl2:=hfr.cell' cl id
      have fl2:=(hfr.frozen (p:=⟨g,L*2+1,none⟩) hgb id).trans fl
      have hg2:g<((wr.alloc (.cells #[.int .i64 s.1, .int .i64 s.2] 206)).drewN nq).heap.size:=Nat.lt_of_lt_of_le hgb hfr.size
      have nD:=ah hfr;clear hfr
      clear cl fl q0 q1
      have hgs:wr.heap.size≠g:=by omega
      generalize wr.heap.size=rs at*
      generalize (wr.alloc (.cells #[.int .i64 s.1, .int .i64 s.2] 206)).drewN nq=W2 at*
      have hwr:IntKind.i64.wrap (L:Int)=L:=IntWalk.i64_in _ (by omega)
      have hx0:(0:Int)≤(L:Int):=by omega
      have hx1:(L:Int)<(L:Int)+1:=by omega
      have hx2:(L:Int)<((L+1:Nat):Int):=by omega
      go_still_tail 14,(by kernel_rfl)
      clear hwr
      change wpList _ _ _ _ _ W2.drew
      clear hx0 hx1 hx2
      go_wp2
      go_roundw
      case rel=>
       refine⟨k+1,lo++ [(r.1,max r.2 s.2)],by omega,by rw[List.length_append,jR.out];exact Nat.succ_le_succ (Nat.le_trans (Nat.le_succ _) fH.out),by go_num,?_,HM.out hc,?_⟩
       ·rw[List.length_append,jR.out]
        try rw[abz]
        exact((HO.out.keep nD.out).aby jR.out _).keep (aj.drew _ _)
       ·intro x hx
        rcases List.mem_append.1 hx with hx|hx
        ·exact yT.out x (List.mem_append_left _ hx)
        ·simp at hx;subst hx;exact⟨t1,t2,by show 1≤max r.2 s.2;omega,by show max r.2 s.2≤_;omega⟩
      case measure=>simp[intOf];omega
     ·go_wp2_with fail
      go_big_quiet (fail)
      go_wp2_with(at_builtin;refine kT w _ [.int .i64 s.1, .int .i64 s.2] rfl (.tmp 43) (.tmp 45) 175 rfl 206 i0 _ 2 16 Tryz.underlying175 hi hz0 hz1 hz2 (by decide) (by decide) _ _ _ (HO.out.keep (aj.alloc _ _ _).iy) 1 1 rfl (by simp[Act.eval]) rfl (by simp[Value.oneCell']) (by simp only[maxLen];omega) (by omega) ?_;intro ad lg w2 bP;have OW:=ah bP;clear bP)
      go_roundw
      case rel=>exact⟨k+1,lo++ [r]++ [s],by omega,by rw[List.length_append,List.length_append,jR.out];have:=fH.out;simp;omega,by go_num,by rw[List.length_append,List.length_append,jR.out,oO];exact OW.out,HA.out hc,fun x hx=>by
       rcases List.mem_append.1 hx with hx|hx
       ·exact yT.out x hx
       ·simp at hx;subst hx;exact oV.out⟩
      case measure=>simp[intOf];omega
  ·obtain rfl:n=k:=by omega
   obtain⟨av,cv,hv⟩:=HO.out.shape
   subst hv
   go_wp2
   go_ret
   have:=HJ.out.all HN.out
   subst this
   exact⟨_,rfl,HO.out⟩
open Go.RowKit
def Va (c:bD) (k la:Nat):Prop:=(k=0∧la=0)∨(0<k∧(c.getD (k-1) (0,0,0)).1=la)
theorem abA {c:bD} {k la:Nat} (h:jq 0 (c.take k)) (hl:Va c k la) (hk:k<c.length):
 jq 0 (c.take (k+1))↔(la:Int)≤(c.getD k (0,0,0)).1∧(c.getD k (0,0,0)).1<4:=by
 rw[NQ h hk]
 rcases hl with⟨rfl,rfl⟩|⟨h0,h1⟩
 ·simp
 ·have hge:0≤(c.getD (k-1) (0,0,0)).1:=by rw[h1];omega
  rw[h1]at hge⊢
  constructor
  ·rintro⟨_,h3,h4⟩;exact⟨h4 h0,h3⟩
  ·rintro⟨h3,h4⟩;exact⟨by omega,h4,fun _=>h3⟩
theorem Vb {c:bD} {k:Nat} (h:¬jq 0 (c.take k)):¬eP c:=fun hr=>h (Uu hr.1 k)
structure PartsAt (w0 w:World) (vs:Nat→Value) (p:Nat→aZ):Prop where
 own:∀d,d<4→OwnAt w0 w 206 2 (vs d) (p d).length (fD (p d))
def abB (w:World) (c:bD) (e:Ending) (w':World):Prop:=
 aj aF w w'∧(eP c→∃A:Nat→Option Addr×Nat×Nat,e= .returned (.tuple #[.agg #[.slice (A 0).1 (A 0).2.1 (A 0).2.2, .slice (A 1).1 (A 1).2.1 (A 1).2.2, .slice (A 2).1 (A 2).2.1 (A 2).2.2, .slice (A 3).1 (A 3).2.1 (A 3).2.2], .bool true])∧PartsAt w w' (fun d=> .slice (A d).1 (A d).2.1 (A d).2.2) (fun d=>dA c d))∧(¬eP c→e= .returned (.tuple #[.agg #[.slice none 0 0, .slice none 0 0, .slice none 0 0, .slice none 0 0], .bool false]))
theorem JM (w:World) (v:Value) (c:bD) (hv:je w v c) (hf:kU c) (hl:c.length≤100000):
 Calls Tryz.prog 129 #[v] w (abB w c):=by
 obtain⟨i0,hi,hz0,hz1,hz2⟩:=info_parts DX
 obtain⟨aA,cA,rfl⟩:=hv.sl
 have HH:=ah hv;clear hv
 have HF:=ah hf;clear hf
 generalize hn:c.length=n at*
 have HN:=ah hn;clear hn
 have nO:=ah hl;clear hl
 have HST:=ah (kG.start (M:=fun k=>k=w.heap.size) 177 206 2 (aj.alloc aF w (.cells #[.slice none 0 0, .slice none 0 0, .slice none 0 0, .slice none 0 0] 177)) (fun k hk=>by rw[hk];simp))
 go_enter Tryz.func129,Tryz.ntmps129
 go_wp2
 go_loopw [5,12] (fun la i ww=>∃(k l:Nat) (vs:Nat→Value),k≤n∧i= .int .i64 k∧la= .int .i64 l∧l<4∧Va c k l∧jq 0 (c.take k)∧
  kG (fun k=>k=w.heap.size) 177 206 2 w ww (w.heap.size+1) vs (fun d=>(dA (c.take k) d).length) (fun d=>fD (dA (c.take k) d))∧ww.heap[w.heap.size]?=some (.cells #[.slice none 0 0, .slice none 0 0, .slice none 0 0, .slice none 0 0] 177 (0,0))) (fun _ i _=>n-(intOf i).toNat)
 case atStart=>exact⟨0,0,fun _=> .slice none 0 0,Nat.zero_le _,rfl,rfl,by omega, .inl ⟨rfl,rfl⟩,trivial,by have:=HST.out;simp only[World.size_alloc]at this;exact this,by rw[Below.heap_alloc _ _ _ (by simp)];exact heap_alloc_new w _⟩
 case round=>
  obtain⟨k,l,vs,hk,rfl,rfl,hl4,hla,hdc,h4,hres⟩:=hrel
  have H4:=ah h4;clear h4
  have uU:=ah hres;clear hres
  have jY:=ah hdc;clear hdc
  have zV:=ah hla;clear hla
  have z0:wr.cell? ⟨w.heap.size,0,none⟩=some (.slice none 0 0):=aG uU.out 0 rfl
  have z1:wr.cell? ⟨w.heap.size,1,none⟩=some (.slice none 0 0):=aG uU.out 1 rfl
  have z2:wr.cell? ⟨w.heap.size,2,none⟩=some (.slice none 0 0):=aG uU.out 2 rfl
  have z3:wr.cell? ⟨w.heap.size,3,none⟩=some (.slice none 0 0):=aG uU.out 3 rfl
  have f0:=aW uU.out 0
  have f1:=aW uU.out 1
  have f2:=aW uU.out 2
  have f3:=aW uU.out 3
  have hgr:w.heap.size<wr.heap.size:=lt_of_block uU.out
  have HR4:=ah (Oj uU.out H4.out.aI (Nat.le_refl _) (.slice none 0 0) (.slice none 0 0) (.slice none 0 0) (.slice none 0 0))
  by_cases hlt:k<n
  ·rcases Rd.shape HH.out with⟨ad,he,h0⟩|⟨b,off,cc,he,hmax⟩
   ·exfalso;have:=HN.out;omega
   ·injection he with e1 e2 e3
    subst e1 e3
    clear e2
    rw[HN.out]at hmax
    have hlk:k<c.length:=by rw[HN.out];exact hlt
    obtain⟨p0,p1,p2⟩:=zS HH.out HN.out.symm k hlk
    have q0:=H4.out.aI.cell' p0 id
    have q1:=H4.out.aI.cell' p1 id
    have q2:=H4.out.aI.cell' p2 id
    clear p0 p1 p2
    have hbf:=HF.out _ (getD_mem (0,0,0) hlk)
    have HS:=ah (abA jY.out zV.out hlk)
    have jZ:=ah (fun d=>Un (c:=c) (k:=k) d hlk)
    obtain⟨s,hgd⟩:∃s,s=c.getD k (0,0,0):=⟨_,rfl⟩
    rw[←hgd]at HS jZ q0 q1 q2 hbf
    have yU:=ah hgd.symm;clear hgd
    by_cases c1:s.1<(l:Int)
    ·go_wp2
     have hb4:=HR4.out.1
     have y0:=(aj.alloc aF _ (.cells #[.int .i64 s.1, .int .i64 s.2.1, .int .i64 s.2.2] 92)).cell' (aG hb4 0 rfl) id
     have y1:=(aj.alloc aF _ (.cells #[.int .i64 s.1, .int .i64 s.2.1, .int .i64 s.2.2] 92)).cell' (aG hb4 1 rfl) id
     have y2:=(aj.alloc aF _ (.cells #[.int .i64 s.1, .int .i64 s.2.1, .int .i64 s.2.2] 92)).cell' (aG hb4 2 rfl) id
     have y3:=(aj.alloc aF _ (.cells #[.int .i64 s.1, .int .i64 s.2.1, .int .i64 s.2.2] 92)).cell' (aG hb4 3 rfl) id
     refine bodyPost_ret (v:= .tuple #[.agg #[.slice none 0 0, .slice none 0 0, .slice none 0 0, .slice none 0 0], .bool false]) (by simp[results,Tryz.results129,go_sem,y0,y1,y2,y3]) rfl ⟨HR4.out.2.alloc1,fun hr=>absurd hr (Vb (k:=k+1) fun h=>by have:=(HS.out.1 h).1;omega),fun _=>rfl⟩
    ·by_cases c2:4≤s.1
     ·go_wp2
      have hb4:=HR4.out.1
      have y0:=(aj.alloc aF _ (.cells #[.int .i64 s.1, .int .i64 s.2.1, .int .i64 s.2.2] 92)).cell' (aG hb4 0 rfl) id
      have y1:=(aj.alloc aF _ (.cells #[.int .i64 s.1, .int .i64 s.2.1, .int .i64 s.2.2] 92)).cell' (aG hb4 1 rfl) id
      have y2:=(aj.alloc aF _ (.cells #[.int .i64 s.1, .int .i64 s.2.1, .int .i64 s.2.2] 92)).cell' (aG hb4 2 rfl) id
      have y3:=(aj.alloc aF _ (.cells #[.int .i64 s.1, .int .i64 s.2.1, .int .i64 s.2.2] 92)).cell' (aG hb4 3 rfl) id
      refine bodyPost_ret (v:= .tuple #[.agg #[.slice none 0 0, .slice none 0 0, .slice none 0 0, .slice none 0 0], .bool false]) (by simp[results,Tryz.results129,go_sem,y0,y1,y2,y3]) rfl ⟨HR4.out.2.alloc1,fun hr=>absurd hr (Vb (k:=k+1) fun h=>by have:=(HS.out.1 h).2;omega),fun _=>rfl⟩
     ·obtain⟨dn,hdn⟩:∃dn:Nat,s.1=dn:=⟨s.1.toNat,by omega⟩
      have hd4:dn<4:=by omega
      rw[hdn]at c1 c2 q0
      have lW:=ah hdn;clear hdn
      have hcd:=H4.out.cell hd4
      have hc4:(dn:Int)<4:=by omega
      clear z0 z1 z2 z3 f0 f1 f2 f3
      have hsp:(wr.alloc (.cells #[.int .i64 s.1, .int .i64 s.2.1, .int .i64 s.2.2] 92)).heap[wr.heap.size]?=some (.cells #[.int .i64 s.1, .int .i64 s.2.1, .int .i64 s.2.2] 92 (0,0)):=heap_alloc_new wr _
      rw[lW.out]at hsp
      have vW:=ah (((H4.out.box (.cells #[.int .i64 dn, .int .i64 s.2.1, .int .i64 s.2.2] 92)).keep (aj.drew _ _)))
      have BJ:=ah ((aj.alloc aF wr (.cells #[.int .i64 dn, .int .i64 s.2.1, .int .i64 s.2.2] 92)).zN.blk uU.out id)
      have hsb:wr.heap.size<(wr.alloc (.cells #[.int .i64 dn, .int .i64 s.2.1, .int .i64 s.2.2] 92)).heap.size:=by simp
      have hlen:(dA (c.take k) dn).length≤k:=Nat.le_trans (BD _ _) (List.length_take_le _ _)
      have HLEN:=ah (Nat.le_trans hlen (Nat.le_trans hk nO.out))
      clear hlen
      go_wp2_with fail
      generalize hW:wr.alloc (.cells #[.int .i64 dn, .int .i64 s.2.1, .int .i64 s.2.2] 92)=W at*
      clear hW hgr q0 q1 q2 hcd
      generalize wr.heap.size=sb at*
      obtain⟨pl,hpl⟩:∃pl,pl=(dA (c.take k) dn).length:=⟨_,rfl⟩
      have hob:iH (zU (fun k=>k=w.heap.size∨k=sb) (w.heap.size+1) vs dn) w W.drew 206 2 (vs dn) pl (fD (dA (c.take k) dn)):=by rw[hpl];exact vW.out.but hd4
      have Gi:=ah hob;clear hob
      rw[←hpl]at HLEN
      have dV:=ah hpl;clear hpl
      refine iq (S:=fun w'=>w'.cell? ⟨sb,0,none⟩=some (.int .i64 dn)∧w'.cell? ⟨sb,1,none⟩=some (.int .i64 s.2.1)∧w'.cell? ⟨sb,2,none⟩=some (.int .i64 s.2.2)∧w'.cell? ⟨w.heap.size+1,dn,none⟩=some (vs dn)) 14 (by kernel_rfl) ⟨aG hsp 0 rfl,aG hsp 1 rfl,aG hsp 2 rfl,vW.out.cell hd4⟩ ?_
      intro hS
      have hsb:sb<W.drew.heap.size:=hsb
      have hsp:W.drew.heap[sb]?=_:=hsp
      generalize W.drew=Y at*
      have nS:=ah hsp;clear hsp
      refine aX 0 28 rfl rfl ?_
      refine aX 1 29 rfl rfl ?_
      try simp only[Act.put,aO,aN,aJ]
      refine aX 2 30 rfl rfl ?_
      refine aX 3 31 rfl rfl ?_
      try simp only[Act.put,aO,aN,aJ]
      refine aX 4 32 rfl rfl ?_
      refine aX 5 33 rfl rfl ?_
      try simp only[Act.put,aO,aN,aJ]
      refine aX 6 34 rfl rfl ?_
      refine aX 7 35 rfl rfl ?_
      try simp only[Act.put,aO,aN,aJ]
      refine aX 8 36 rfl rfl ?_
      refine aX 9 37 rfl rfl ?_
      try simp only[Act.put,aO,aN,aJ]
      refine aX 10 38 rfl rfl ?_
      try simp only[Act.put,aO,aN,aJ]
      refine bg (i:=11) (by kernel_rfl) rfl (fun K hK=>?_)
      go_simp
      refine hK.out _ _ ⟨(aj.alloc aF Y _).cell' hS.1 id,(aj.alloc aF Y _).cell' hS.2.1 id,(aj.alloc aF Y _).cell' hS.2.2.1 id,(aj.alloc aF Y _).cell' hS.2.2.2 id⟩ ?_
      clear hK K
      have hS1:(Y.alloc (.cells #[.int .i64 s.2.1, .int .i64 s.2.2] 206)).cell? ⟨sb,0,none⟩=some (.int .i64 dn)∧(Y.alloc (.cells #[.int .i64 s.2.1, .int .i64 s.2.2] 206)).cell? ⟨sb,1,none⟩=some (.int .i64 s.2.1)∧(Y.alloc (.cells #[.int .i64 s.2.1, .int .i64 s.2.2] 206)).cell? ⟨sb,2,none⟩=some (.int .i64 s.2.2)∧(Y.alloc (.cells #[.int .i64 s.2.1, .int .i64 s.2.2] 206)).cell? ⟨w.heap.size+1,dn,none⟩=some (vs dn):=⟨(aj.alloc aF Y _).cell' hS.1 id,(aj.alloc aF Y _).cell' hS.2.1 id,(aj.alloc aF Y _).cell' hS.2.2.1 id,(aj.alloc aF Y _).cell' hS.2.2.2 id⟩
      try simp only[Act.put,aO,aN,aJ]
      refine bg (i:=12) (by kernel_rfl) rfl (fun K hK=>?_)
      refine Ol (zU (fun k=>k=w.heap.size∨k=sb) (w.heap.size+1) vs dn) w Y [.int .i64 s.2.1, .int .i64 s.2.2] rfl (.tmp 33) (.tmp 39) 175 rfl 206 i0 _ 2 16 Tryz.underlying175 hi hz0 hz1 hz2 (by decide) (by decide) (vs dn) pl _ Gi.out (vW.out.lt dn) 1 1 (by simp[Act.eval]) (by simp[Act.eval]) rfl (by simp[Value.oneCell']) (by have:=HLEN.out;simp only[maxLen];omega) (by have:=HLEN.out;omega) ?_
      intro ad lg w2 bP j_
      have hS2:w2.cell? ⟨sb,0,none⟩=some (.int .i64 dn)∧w2.cell? ⟨sb,1,none⟩=some (.int .i64 s.2.1)∧w2.cell? ⟨sb,2,none⟩=some (.int .i64 s.2.2)∧w2.cell? ⟨w.heap.size+1,dn,none⟩=some (vs dn):=⟨j_.cell (.inr (.inl (.inr rfl))) hS.1,j_.cell (.inr (.inl (.inr rfl))) hS.2.1,j_.cell (.inr (.inl (.inr rfl))) hS.2.2.1,j_.cell (.inl rfl) hS.2.2.2⟩
      refine hK.out _ _ hS2 ?_
      clear hK K hS1
      have rG:=ah (((vW.out.step hd4 j_ bP).mono (M':=fun k=>k=w.heap.size) fun k hk=> .inl hk).congr (n':=fun d=>(dA (c.take (k+1)) d).length) (xs':=fun d=>fD (dA (c.take (k+1)) d)) (fun d hd=>by
       rw[jZ.out]
       by_cases he:d=dn
       ·subst he;rw[upd_same,if_pos lW.out,List.length_append,←dV.out];rfl
       ·rw[qK _ _ he,if_neg (by rw[lW.out];omega),List.append_nil]) (fun d hd=>by
       rw[jZ.out]
       by_cases he:d=dn
       ·subst he;rw[upd_same,if_pos lW.out,oO];rfl
       ·rw[qK _ _ he,if_neg (by rw[lW.out];omega),List.append_nil]))
      have HR2:=ah (j_.blk (.inr (.inl (.inl rfl))) BJ.out)
      have hcf:=j_.frozen (p:=⟨w.heap.size+1,dn,none⟩) (.inl rfl) (aW vW.out.blk dn)
      clear bP j_
      try simp only[Act.put,aO,aN,aJ]
      refine aX 13 41 rfl rfl ?_
      try simp only[Act.put,aO,aN,aJ]
      refine gJ (by kernel_rfl) (by kernel_rfl) rfl (fun K hK=>?_)
      have hcz:=hS2.2.2.2
      clear hS2 hS
      go_simp
      refine hK.out _ _ ?_
      clear hK K hcz hcf
      go_wp2
      go_roundw
      case rel=>exact⟨k+1,dn,_,by omega,by go_num,rfl,hd4, .inr ⟨by omega,by rw[Nat.add_sub_cancel,yU.out,lW.out]⟩,HS.out.2 ⟨by rw[lW.out];exact c1,by rw[lW.out];omega⟩,rG.out,(aj.setCell (S:=fun k=>k=w.heap.size+1) w2 (p:=⟨w.heap.size+1,dn,none⟩) (.inl rfl) _).blk HR2.out (fun h=>by have h:w.heap.size=w.heap.size+1:=h;omega)⟩
      case measure=>simp[intOf];omega
  ·obtain rfl:n=k:=by omega
   rw[List.take_of_length_le (by rw[HN.out];exact Nat.le_refl _)]at H4 jY
   obtain⟨wo,rfl⟩:∃wo:World,wo=wr:=⟨_,rfl⟩
   have hsh:∀d,d<4→∃t:Option Addr×Nat×Nat,vs d= .slice t.1 t.2.1 t.2.2:=fun d hd=>by
    obtain⟨a,c,h⟩:=(H4.out.own d hd).at_.shape
    exact⟨(a,_,c),h⟩
   obtain⟨A,hA⟩:=Go.Deep.choose_lt hsh
   clear hsh
   have c0:=hA 0 (by omega)▸H4.out.cell (d:=0) (by omega)
   have c1:=hA 1 (by omega)▸H4.out.cell (d:=1) (by omega)
   have c2:=hA 2 (by omega)▸H4.out.cell (d:=2) (by omega)
   have c3:=hA 3 (by omega)▸H4.out.cell (d:=3) (by omega)
   have zW:=ah hA;clear hA
   go_wp2
   clear z0 z1 z2 z3 f0 f1 f2 f3 c0 c1 c2 c3
   go_loopw [44] (fun i ww=>∃j:Nat,j≤4∧i= .int .i64 j∧(∀d:Nat,d<j→dO (dA c d))∧aj aF wo ww) (fun i _=>4-(intOf i).toNat)
   case atStart=>exact⟨0,by omega,rfl,(fun d hd=>by omega),aj.refl _ _⟩
   case round=>
    obtain⟨j,hj,rfl,hr,hw⟩:=hrel
    have HW:=ah hw;clear hw
    have HR:=ah hr;clear hr
    have lq:=ah (HW.out.blk uU.out id)
    have z0:wr.cell? ⟨w.heap.size,0,none⟩=some (.slice none 0 0):=aG lq.out 0 rfl
    have z1:wr.cell? ⟨w.heap.size,1,none⟩=some (.slice none 0 0):=aG lq.out 1 rfl
    have z2:wr.cell? ⟨w.heap.size,2,none⟩=some (.slice none 0 0):=aG lq.out 2 rfl
    have z3:wr.cell? ⟨w.heap.size,3,none⟩=some (.slice none 0 0):=aG lq.out 3 rfl
    have f0:=aW lq.out 0
    have f1:=aW lq.out 1
    have f2:=aW lq.out 2
    have f3:=aW lq.out 3
    by_cases zX:j<4
    ·have hix:∀W,(Instr.index 177 (.agg #[.slice (A 0).1 (A 0).2.1 (A 0).2.2, .slice (A 1).1 (A 1).2.1 (A 1).2.2, .slice (A 2).1 (A 2).2.1 (A 2).2.2, .slice (A 3).1 (A 3).2.1 (A 3).2.2]) (.int .i64 (j:Int))).run Tryz.prog W= .ok (.slice (A j).1 (A j).2.1 (A j).2.2) W:=by
      rcases(by omega:j=0∨j=1∨j=2∨j=3)with rfl|rfl|rfl|rfl<;>exact fun _=>by kernel_rfl
     have hown:=((H4.out.own j zX).at_.keep HW.out).rd
     rw[zW.out j zX]at hown
     have hcall:=Jw wr _ (dA c j) hown (HF.out.part j)
     by_cases DY:dO (dA c j)
     ·rw[gu DY]at hcall
      have HC:=ah hcall;clear hcall hown
      have Om:=ah DY;clear DY
      clear z0 z1 z2 z3 f0 f1 f2 f3
      go_wp2_with(go_at_call 167;refine HC.out.mono ?_;rintro e w1 ⟨rfl,hw1⟩;have HW1:=ah hw1;clear hw1)
      go_roundw
      case rel=>exact⟨j+1,by omega,by go_num,(fun d hd=>by
       by_cases he:d=j
       ·subst he;exact Om.out
       ·exact HR.out d (by omega)),HW.out.aH HW1.out⟩
      case measure=>simp[intOf];omega
     ·rw[eH DY]at hcall
      have HC:=ah hcall;clear hcall hown
      have Om:=ah DY;clear DY
      clear z0 z1 z2 z3 f0 f1 f2 f3
      go_wp2_with(go_at_call 167;refine HC.out.mono ?_;rintro e w1 ⟨rfl,hw1⟩;have HW1:=ah hw1;clear hw1;have HB1:=ah (HW1.out.blk lq.out id);have z0:w1.cell? ⟨w.heap.size,0,none⟩=some (.slice none 0 0):=aG HB1.out 0 rfl;have z1:w1.cell? ⟨w.heap.size,1,none⟩=some (.slice none 0 0):=aG HB1.out 1 rfl;have z2:w1.cell? ⟨w.heap.size,2,none⟩=some (.slice none 0 0):=aG HB1.out 2 rfl;have z3:w1.cell? ⟨w.heap.size,3,none⟩=some (.slice none 0 0):=aG HB1.out 3 rfl;have f0:=aW HB1.out 0;have f1:=aW HB1.out 1;have f2:=aW HB1.out 2;have f3:=aW HB1.out 3)
      have hr4:=Oj HB1.out ((H4.out.aI.aH HW.out).aH HW1.out) (Nat.le_refl _) (.slice none 0 0) (.slice none 0 0) (.slice none 0 0) (.slice none 0 0)
      have y0:=aG hr4.1 0 rfl
      have y1:=aG hr4.1 1 rfl
      have y2:=aG hr4.1 2 rfl
      have y3:=aG hr4.1 3 rfl
      exact bodyPost_ret (v:= .tuple #[.agg #[.slice none 0 0, .slice none 0 0, .slice none 0 0, .slice none 0 0], .bool false]) (by simp[results,Tryz.results129,go_sem,y0,y1,y2,y3]) rfl ⟨hr4.2,fun hr=>absurd (hr.2 j (by omega) (by omega)) Om.out,fun _=>rfl⟩
    ·obtain rfl:j=4:=by omega
     have hk4:=H4.out.keep HW.out
     have c0:=zW.out 0 (by omega)▸hk4.cell (d:=0) (by omega)
     have c1:=zW.out 1 (by omega)▸hk4.cell (d:=1) (by omega)
     have c2:=zW.out 2 (by omega)▸hk4.cell (d:=2) (by omega)
     have c3:=zW.out 3 (by omega)▸hk4.cell (d:=3) (by omega)
     have HK:=ah hk4;clear hk4
     have hr4:=Oj lq.out (H4.out.aI.aH HW.out) (Nat.le_refl _) (.slice (A 0).1 (A 0).2.1 (A 0).2.2) (.slice (A 1).1 (A 1).2.1 (A 1).2.2) (.slice (A 2).1 (A 2).2.1 (A 2).2.2) (.slice (A 3).1 (A 3).2.1 (A 3).2.2)
     have HR4:=ah hr4;clear hr4
     have hrc:eP c:=⟨jY.out,fun d h0 h4=>by
      obtain⟨e,rfl⟩:∃e:Nat,d=e:=⟨d.toNat,by omega⟩
      exact HR.out e (by omega)⟩
     have qM:=ah hrc;clear hrc
     go_wp2
     have y0:=aG HR4.out.1 0 rfl
     have y1:=aG HR4.out.1 1 rfl
     have y2:=aG HR4.out.1 2 rfl
     have y3:=aG HR4.out.1 3 rfl
     refine bodyPost_ret (v:= .tuple #[.agg #[.slice (A 0).1 (A 0).2.1 (A 0).2.2, .slice (A 1).1 (A 1).2.1 (A 1).2.2, .slice (A 2).1 (A 2).2.1 (A 2).2.2, .slice (A 3).1 (A 3).2.1 (A 3).2.2], .bool true]) (by simp[results,Tryz.results129,go_sem,y0,y1,y2,y3]) rfl ⟨HR4.out.2,fun _=>⟨A,rfl,⟨fun d hd=>?_⟩⟩,fun h=>absurd qM.out h⟩
     have ho:=HK.out.own d hd
     rw[zW.out d hd]at ho
     have f4:aj (fun k=>k=w.heap.size) wr ((((wr.setCell ⟨w.heap.size,0,none⟩ (.slice (A 0).1 (A 0).2.1 (A 0).2.2)).setCell ⟨w.heap.size,1,none⟩ (.slice (A 1).1 (A 1).2.1 (A 1).2.2)).setCell ⟨w.heap.size,2,none⟩ (.slice (A 2).1 (A 2).2.1 (A 2).2.2)).setCell ⟨w.heap.size,3,none⟩ (.slice (A 3).1 (A 3).2.1 (A 3).2.2)):=
      (((aj.setCell (S:=fun k=>k=w.heap.size) wr (p:=⟨w.heap.size,0,none⟩) (.inl rfl) (.slice (A 0).1 (A 0).2.1 (A 0).2.2)).trans (aj.setCell (S:=fun k=>k=w.heap.size) _ (p:=⟨w.heap.size,1,none⟩) (.inl rfl) (.slice (A 1).1 (A 1).2.1 (A 1).2.2)) fun _ _ h=>h).trans (aj.setCell (S:=fun k=>k=w.heap.size) _ (p:=⟨w.heap.size,2,none⟩) (.inl rfl) (.slice (A 2).1 (A 2).2.1 (A 2).2.2)) fun _ _ h=>h).trans (aj.setCell (S:=fun k=>k=w.heap.size) _ (p:=⟨w.heap.size,3,none⟩) (.inl rfl) (.slice (A 3).1 (A 3).2.1 (A 3).2.2)) fun _ _ h=>h
     exact⟨f4.owns ho.at_.own fun k hk he=>ho.but k hk (.inr he),ho.at_.new,HR4.out.2⟩
open Go.RowKit
abbrev Sl:=Option Addr×Nat×Nat
def Oo (p:Nat→aZ) (d:Int) (o:aZ):Prop:=o=p d.toNat
theorem pO.abC {p:Nat→aZ} {c:bD} (h:pO (Oo p) 4 c):c=nN fun d=>p d.toNat:=by
 rw[←Bz (Int.le_refl 0) h.rise]
 unfold nN
 rw[h.parts 0 (by decide) (by decide),h.parts 1 (by decide) (by decide),h.parts 2 (by decide) (by decide),h.parts 3 (by decide) (by decide)]
theorem Vd (w:World) (A:Nat→Sl) (p:Nat→aZ) (hp:∀d,d<4→k_ w (.slice (A d).1 (A d).2.1 (A d).2.2) (p d)) (hl:∀d,d<4→(p d).length≤200000):
 Calls Tryz.prog 128 #[.agg #[.slice (A 0).1 (A 0).2.1 (A 0).2.2, .slice (A 1).1 (A 1).2.1 (A 1).2.2, .slice (A 2).1 (A 2).2.1 (A 2).2.2, .slice (A 3).1 (A 3).2.1 (A 3).2.2]] w fun e w'=>
  ∃v' c,e= .returned v'∧OwnAt w w' 92 3 v' c.length (dY c)∧c=(nN fun d=>p d.toNat)∧c.length≤800000:=by
 obtain⟨i0,hi,hz0,hz1,hz2⟩:=info_parts Gg
 have HP:=ah hp;clear hp
 have HL:=ah hl;clear hl
 have hb:aj aF w (w.alloc (.cells #[.slice (A 0).1 (A 0).2.1 (A 0).2.2, .slice (A 1).1 (A 1).2.1 (A 1).2.2, .slice (A 2).1 (A 2).2.1 (A 2).2.2, .slice (A 3).1 (A 3).2.1 (A 3).2.2] 177)):=aj.alloc _ _ _
 have b_:=ah hb;clear hb
 go_enter Tryz.func128,Tryz.ntmps128
 go_wp2
 go_loopw [3,9] (fun v i ww=>∃(k:Nat) (c:bD),k≤4∧i= .int .i64 k∧OwnAt w ww 92 3 v c.length (dY c)∧pO (Oo p) k c∧c.length≤200000*k) (fun _ i _=>4-(intOf i).toNat)
 case atStart=>exact⟨0,[],by omega,rfl,OwnAt.nil b_.out _ _,pO.zero _,Nat.zero_le _⟩
 case round=>
  obtain⟨wo,rfl⟩:∃wo:World,wo=wr:=⟨_,rfl⟩
  obtain⟨k,c,hk,rfl,ho,hu,hlen⟩:=hrel
  obtain⟨av,cv,rfl⟩:=ho.shape
  have HO:=ah ho;clear ho
  have HU:=ah hu;clear hu
  have HLEN:=ah hlen;clear hlen
  by_cases hlt:k<4
  ·have hki:(k:Int)<4:=by omega
   have hkd:decide ((k:Int)<4)=true:=by simpa using hki
   have hpk:=HP.out k hlt
   have hlk:=HL.out k hlt
   have hst:=HU.out.step (o:=p k) (by omega) (by omega) (by unfold Oo;rw[Int.toNat_natCast])
   have hix:∀W,(Instr.index 177 (.agg #[.slice (A 0).1 (A 0).2.1 (A 0).2.2, .slice (A 1).1 (A 1).2.1 (A 1).2.2, .slice (A 2).1 (A 2).2.1 (A 2).2.2, .slice (A 3).1 (A 3).2.1 (A 3).2.2]) (.int .i64 (k:Int))).run Tryz.prog W= .ok (.slice (A k).1 (A k).2.1 (A k).2.2) W:=by
    rcases(by omega:k=0∨k=1∨k=2∨k=3)with rfl|rfl|rfl|rfl<;>exact fun _=>by kernel_rfl
   obtain⟨a1,c1,he⟩:=hpk.sl
   rw[he]at hpk hix
   clear he
   generalize p k=l at*
   have JO:=ah hpk;clear hpk
   have HST:=ah hst;clear hst
   have nT:=ah hlk;clear hlk
   generalize hn:l.length=n at*
   have HN:=ah hn;clear hn
   go_wp2
   clear hix
   go_loopw [3,15] (fun v i ww=>∃(j m:Nat),j≤n∧m=c.length+j∧i= .int .i64 j∧OwnAt w ww 92 3 v m (dY (c++iK k (l.take j)))) (fun _ i _=>n-(intOf i).toNat)
   case atStart=>exact⟨0,_,Nat.zero_le _,rfl,rfl,by simpa[iK]using HO.out⟩
   case round=>
    obtain⟨j,m,hj,hm,rfl,hoj⟩:=hrel
    obtain⟨a3,c3,rfl⟩:=hoj.shape
    have Gn:=ah hoj;clear hoj
    have HM:=ah hm;clear hm
    by_cases hjl:j<n
    ·rcases Rd.shape JO.out with⟨ad,he,h0⟩|⟨b,off,cc,he,hmax⟩
     ·exfalso;have:=HN.out;omega
     ·injection he with e1 e2 e3
      subst e1 e3
      clear e2
      rw[HN.out]at hmax
      have hjk:j<l.length:=by rw[HN.out];exact hjl
      obtain⟨p0,p1⟩:=r_ JO.out HN.out.symm j hjk
      have q0:=Gn.out.aI.cell' p0 id
      have q1:=Gn.out.aI.cell' p1 id
      have hE:=Uo (l:=l) (k:=j) k hjk
      generalize l.getD j (0,0)=r at*
      clear p0 p1
      have HE:=ah hE;clear hE
      have hml:m≤1000000:=by have:=HM.out;have:=HLEN.out;have:=nT.out;omega
      have Ve:=ah hml;clear hml
      go_wp2_with(at_builtin;refine kT w _ [.int .i64 k, .int .i64 r.1, .int .i64 r.2] rfl (.tmp 19) (.tmp 26) 30 rfl 92 i0 _ 3 24 Tryz.underlying30 hi hz0 hz1 hz2 (by decide) (by decide) _ _ _ (Gn.out.keep (aj.alloc _ _ _)) 1 1 rfl (by simp[Act.eval]) rfl (by simp[Value.oneCell']) (by have:=Ve.out;simp only[maxLen];omega) (by have:=Ve.out;omega) ?_;intro BI lg w2 bP;have OW:=ah bP;clear bP)
      go_roundw
      case rel=>
       refine⟨j+1,m+1,by omega,by rw[HM.out];omega,by go_num,?_⟩
       rw[HE.out,←List.append_assoc,Js]
       exact OW.out
      case measure=>simp[intOf];omega
    ·obtain rfl:n=j:=by omega
     rw[List.take_of_length_le (by rw[HN.out];exact Nat.le_refl _)]at Gn
     go_wp2
     go_roundw
     case rel=>
      refine⟨k+1,c++iK k l,by omega,by go_num,?_,HST.out,?_⟩
      ·have:(c++iK k l).length=m:=by rw[List.length_append,zT,HN.out,HM.out]
       rw[this];exact Gn.out
      ·rw[List.length_append,zT,HN.out]
       have:=HLEN.out;have:=nT.out;omega
     case measure=>simp[intOf];omega
  ·obtain rfl:k=4:=by omega
   go_wp2
   go_ret
   exact⟨_,c,rfl,HO.out,HU.out.abC,HLEN.out⟩
end Go.Proofs.YtlhmbkjdfjoilaaGreat
